/- Plain facts for the law FnExactTraceRead: the rows of a trace, by the reference and by the program; no condition of their own. -/
import Derived.Test.YtplfplmomioffaaDoorPFnExactTraceReadx5
import Derived.Test.YtplfplmomioffaaDoorTrPlain3
import Derived.Lib.CutLaws
namespace Go.Proofs.YtplfplmomioffaaDoor.PFnExactTraceRead
open Go.RowKit Go.Proofs.YtplfplmomioffaaDoorW.PrintWords Go.Proofs.YtplfplmomioffaaDoorW.PrintLast Go.Proofs.YtplfplmomioffaaDoorW.PrintMore
set_option linter.unusedVariables false
set_option linter.unusedSimpArgs false

abbrev R6 := Int × Int × Int × Int × Int × Bool
def evOf (r : R6) : S23 := ⟨r.1, r.2.1, r.2.2.1, r.2.2.2.1, r.2.2.2.2.1⟩
/-- Both read a row alike. -/
def Reads (g : ByteArray → R6) : Prop := ∀ a : ByteArray, a.size ≤ 1048576 → Ev (fun k => spec_EventRead.f k a) (g a) ∧ Ev (fun k => impl_EventRead.f k a) (g a)
theorem reads : ∃ g, Reads g := by
  refine ⟨fun a => if h : a.size ≤ 1048576 then (read_ev a h).choose else (0, 0, 0, 0, 0, false), fun a h => ?_⟩
  simp only [dif_pos h]
  obtain ⟨h1, h2⟩ := (read_ev a h).choose_spec
  refine ⟨h1, Ev.congr (fun k => ?_) h2⟩
  unfold impl_EventRead.f
  rw [if_pos (by omega)]
def sp (g : ByteArray → R6) : List ByteArray → List S23 → List S23 × Bool
  | [], out => (out, true)
  | [_], out => (out, true)
  | r :: r2 :: rs, out => if (g r).2.2.2.2.2 = true then sp g (r2 :: rs) (out ++ [evOf (g r)]) else ([], false)
def im (g : ByteArray → R6) : List ByteArray → List S23 → List S23 × Bool
  | [], out => (out, true)
  | [l], out => if l.toList = ([] : List UInt8) then (out, true) else ([], false)
  | r :: r2 :: rs, out => if (g r).2.2.2.2.2 = true ∧ out.length ≠ 60 then im g (r2 :: rs) (out ++ [evOf (g r)]) else ([], false)
def lastRow (rows : List ByteArray) : ByteArray := rows.getD (rows.length - 1) ByteArray.empty
theorem lastRow_cons (a b : ByteArray) (l : List ByteArray) : lastRow (a :: b :: l) = lastRow (b :: l) := by simp [lastRow]
theorem im_sp (g : ByteArray → R6) : ∀ rows out, 1 ≤ rows.length → out.length ≤ 60 → im g rows out = if (lastRow rows).toList = ([] : List UInt8) ∧ out.length + rows.length ≤ 61 then sp g rows out else ([], false)
  | [], out, h, _ => by simp at h
  | [l], out, _, ho => by
    have e : lastRow [l] = l := rfl
    rw [e]
    simp only [im, sp, List.length_singleton]
    by_cases h : l.toList = ([] : List UInt8)
    · rw [if_pos h, if_pos ⟨h, by omega⟩]
    · rw [if_neg h, if_neg (fun h' => h h'.1)]
  | r :: r2 :: rs, out, _, ho => by
    have ih := im_sp g (r2 :: rs) (out ++ [evOf (g r)]) (by simp)
    rw [lastRow_cons]
    simp only [im, sp]
    have e1 : (out ++ [evOf (g r)]).length = out.length + 1 := by simp
    have e2 : (r :: r2 :: rs).length = (r2 :: rs).length + 1 := rfl
    rw [e1] at ih
    rw [e2]
    by_cases h1 : (g r).2.2.2.2.2 = true
    · by_cases h2 : out.length = 60
      · have h3 : 1 ≤ (r2 :: rs).length := by simp
        rw [if_neg (fun h => h.2 h2), if_neg (fun h => by omega)]
      · rw [if_pos ⟨h1, h2⟩, ih (by omega), if_pos h1]
        by_cases h3 : (lastRow (r2 :: rs)).toList = ([] : List UInt8) ∧ out.length + 1 + (r2 :: rs).length ≤ 61
        · rw [if_pos h3, if_pos ⟨h3.1, by omega⟩]
        · rw [if_neg h3, if_neg (fun h => h3 ⟨h.1, by omega⟩)]
    · rw [if_neg (fun h => h1 h.1), if_neg h1]
      split <;> rfl
theorem im_short (g : ByteArray → R6) : ∀ rows out, out.length ≤ 60 → (im g rows out).1.length ≤ 60
  | [], out, ho => by simpa [im] using ho
  | [l], out, ho => by
    simp only [im]
    split
    · exact ho
    · simp
  | r :: r2 :: rs, out, ho => by
    simp only [im]
    split
    · rename_i h
      exact im_short g (r2 :: rs) _ (by simp; omega)
    · simp
theorem succ_n (i : Nat) (h : i ≤ 9223372036854775806) : wrap64 ((i : Int) + 1) = ((i + 1 : Nat) : Int) := by unfold wrap64; omega
theorem rdOf_at (rows : List ByteArray) (i : Nat) (h : i < rows.length) : rdOf ByteArray.empty rows (i : Int) = rows[i] := by simp [rdOf, List.getD_eq_getElem?_getD, h]
theorem sp_ev (g : ByteArray → R6) (hg : Reads g) (rows : List ByteArray) (hr : ∀ r ∈ rows, r.size ≤ 1048576) (hn : rows.length ≤ 1048577) :
    ∀ (d i : Nat) (out : List S23), i + d + 1 = rows.length → out.length ≤ i → Ev (fun k => spec_TraceRead.l0 k rows out (i : Int)) (sp g (rows.drop i) out) := by
  intro d
  induction d with
  | zero =>
    intro i out hi ho
    rw [List.drop_eq_getElem_cons (by omega), List.drop_eq_nil_of_le (by omega)]
    refine Ev.step (f := fun _ => some _) (fun k => ?_) (Ev.now _)
    simp only [spec_TraceRead.l0]
    rw [succ_n i (by omega), if_neg (by omega)]
    rfl
  | succ d ih =>
    intro i out hi ho
    have ih' := ih (i + 1) (out ++ [evOf (g rows[i])]) (by omega) (by simp; omega)
    rw [List.drop_eq_getElem_cons (show i < rows.length by omega)]
    rw [List.drop_eq_getElem_cons (show i + 1 < rows.length by omega)] at ih' ⊢
    simp only [sp]
    refine Ev.step (fun k => ?_) ((hg rows[i] (hr _ (List.getElem_mem _))).1.bind (f := fun k bt139 => (if bt139.2.2.2.2.2 = true then (if out.length < 3518437208883 then (spec_TraceRead.l0 k rows (out ++ [(⟨bt139.1, bt139.2.1, bt139.2.2.1, bt139.2.2.2.1, bt139.2.2.2.2.1⟩ : S23)]) ((i + 1 : Nat) : Int)) else (none)) else (some ((([] : List (S23))), false)))) ?_)
    · simp only [spec_TraceRead.l0]
      rw [succ_n i (by omega), if_pos (by omega), if_pos (by omega), if_pos (by omega), rdOf_at rows i (by omega)]
    · by_cases h1 : (g rows[i]).2.2.2.2.2 = true
      · rw [if_pos h1]
        refine Ev.congr (fun k => ?_) ih'
        rw [if_pos h1, if_pos (by omega)]
        rfl
      · rw [if_neg h1]
        refine Ev.congr (f := fun _ => some _) (fun k => ?_) (Ev.now _)
        rw [if_neg h1]
theorem wordsC_ne (c : UInt8) (s : ByteArray) : ∃ r rs, wordsC c s = r :: rs := by
  rcases Lib.indexB_cases s ⟨#[c]⟩ with h | ⟨i, h, _⟩
  · exact ⟨_, _, words_miss c s h⟩
  · exact ⟨_, _, words_hit c s i h⟩
theorem wordsC_size (c : UInt8) : ∀ (d : Nat) (s : ByteArray), s.size ≤ d → (∀ r ∈ wordsC c s, r.size ≤ s.size) ∧ (wordsC c s).length ≤ s.size + 1 := by
  intro d
  induction d with
  | zero =>
    intro s hs
    rcases Lib.indexB_cases s ⟨#[c]⟩ with h | ⟨i, h, h2⟩
    · rw [words_miss c s h]
      exact ⟨fun r hr => by rw [List.mem_singleton.1 hr]; exact Nat.le_refl _, by simp⟩
    · have : (⟨#[c]⟩ : ByteArray).size = 1 := rfl
      omega
  | succ d ih =>
    intro s hs
    rcases Lib.indexB_cases s ⟨#[c]⟩ with h | ⟨i, h, h2⟩
    · rw [words_miss c s h]
      exact ⟨fun r hr => by rw [List.mem_singleton.1 hr]; exact Nat.le_refl _, by simp⟩
    · have h1 : (⟨#[c]⟩ : ByteArray).size = 1 := rfl
      rw [words_hit c s i h]
      have hz : (s.extract (i + 1) s.size).size = s.size - (i + 1) := by rw [ByteArray.size_extract]; omega
      obtain ⟨q1, q2⟩ := ih (s.extract (i + 1) s.size) (by omega)
      refine ⟨fun r hr => ?_, by rw [List.length_cons]; omega⟩
      rcases List.mem_cons.1 hr with e | e
      · rw [e, ByteArray.size_extract]; omega
      · have := q1 r e; omega
theorem toList_nil (s : ByteArray) (h : s.toList = ([] : List UInt8)) : s.size = 0 := by
  rw [Lib.toList_data] at h
  rw [← data_length, h]
  rfl
theorem nil_toList (s : ByteArray) (h : s.size = 0) : s.toList = ([] : List UInt8) := by
  rw [Lib.toList_data]
  rw [← data_length] at h
  exact List.eq_nil_of_length_eq_zero h
theorem im_ev (g : ByteArray → R6) (hg : Reads g) : ∀ (d : Nat) (s : ByteArray) (out : List S23), s.size ≤ d → s.size ≤ 1048576 → out.length ≤ 60 → Ev (fun k => impl_TraceRead.l0 k s out) (im g (wordsC 10 s) out) := by
  have done : ∀ (s : ByteArray) (out : List S23), s.size = 0 → Ev (fun k => impl_TraceRead.l0 k s out) (im g (wordsC 10 s) out) := by
    intro s out hs
    have hm : Lib.indexB s ⟨#[10]⟩ = -1 := by
      rcases Lib.indexB_cases s ⟨#[10]⟩ with h | ⟨i, h, h2⟩
      · exact h
      · have : (⟨#[10]⟩ : ByteArray).size = 1 := rfl
        omega
    rw [words_miss 10 s hm]
    have hn := nil_toList s hs
    refine Ev.step (f := fun _ => some _) (fun k => ?_) (Ev.now _)
    simp only [impl_TraceRead.l0, im]
    rw [if_pos hn, if_pos hn]
  intro d
  induction d with
  | zero =>
    intro s out hs _ _
    exact done s out (by omega)
  | succ d ih =>
    intro s out hs hz ho
    by_cases h0 : s.size = 0
    · exact done s out h0
    have hne : ¬ s.toList = ([] : List UInt8) := fun h => h0 (toList_nil s h)
    rcases Lib.indexB_cases s ⟨#[10]⟩ with h | ⟨i, h, h2⟩
    · obtain ⟨c1, c2, c3⟩ := Lib.cutB_miss s ⟨#[10]⟩ h
      have hc : strings_Cut.f s ⟨#[10]⟩ = some (s, ByteArray.empty, false) := by
        unfold strings_Cut.f
        rw [if_pos (by omega), c1, c2, c3]
      rw [words_miss 10 s h]
      simp only [im]
      rw [if_neg hne]
      refine Ev.step (fun k => ?_) ((hg s hz).2.bind (f := fun k bt159 => impl_TraceRead.j1 k out ByteArray.empty true bt159.1 bt159.2.1 bt159.2.2.1 bt159.2.2.2.1 bt159.2.2.2.2.1) ?_)
      · simp only [impl_TraceRead.l0]
        rw [if_neg hne, hc]
        simp
      · refine Ev.step (f := fun _ => some _) (fun k => ?_) (Ev.now _)
        simp only [impl_TraceRead.j1]
        rw [if_pos trivial]
    · obtain ⟨c1, c2, c3⟩ := Lib.cutB_hit s ⟨#[10]⟩ i h
      have h1 : (⟨#[10]⟩ : ByteArray).size = 1 := rfl
      have hc : strings_Cut.f s ⟨#[10]⟩ = some (s.extract 0 i, s.extract (i + 1) s.size, true) := by
        unfold strings_Cut.f
        rw [if_pos (by omega), c1, c2, c3, h1]
      have hz2 : (s.extract (i + 1) s.size).size = s.size - (i + 1) := by rw [ByteArray.size_extract]; omega
      have hz1 : (s.extract 0 i).size ≤ 1048576 := by rw [ByteArray.size_extract]; omega
      rw [words_hit 10 s i h]
      generalize s.extract 0 i = a at hc hz1
      generalize s.extract (i + 1) s.size = rest at hc hz2
      have ihr := fun out ho => ih rest out (by omega) (by omega) ho
      obtain ⟨r2, rs, e⟩ := wordsC_ne 10 rest
      rw [e] at ihr ⊢
      simp only [im]
      refine Ev.step (fun k => ?_) ((hg a hz1).2.bind (f := fun k bt159 => (if bt159.2.2.2.2.2 = true then (impl_TraceRead.j1 k out rest ((out.length : Int) == 60) bt159.1 bt159.2.1 bt159.2.2.1 bt159.2.2.2.1 bt159.2.2.2.2.1) else (impl_TraceRead.j1 k out rest true bt159.1 bt159.2.1 bt159.2.2.1 bt159.2.2.2.1 bt159.2.2.2.2.1))) ?_)
      · simp only [impl_TraceRead.l0]
        rw [if_neg hne, hc]
        simp
      · by_cases h3 : (g a).2.2.2.2.2 = true
        · by_cases h4 : out.length = 60
          · rw [if_neg (fun h => h.2 h4)]
            refine Ev.step (f := fun _ => some _) (fun k => ?_) (Ev.now _)
            rw [if_pos h3, h4]
            simp [impl_TraceRead.j1]
          · rw [if_pos ⟨h3, h4⟩]
            refine Ev.step (fun k => ?_) (ihr (out ++ [evOf (g a)]) (by simp; omega))
            have hb : ((out.length : Int) == 60) = false := by
              rw [beq_eq_false_iff_ne]; omega
            rw [if_pos h3, hb]
            simp only [impl_TraceRead.j1]
            rw [if_neg (by simp), if_pos (by omega)]
            rfl
        · rw [if_neg (fun h => h3 h.1)]
          refine Ev.step (f := fun _ => some _) (fun k => ?_) (Ev.now _)
          rw [if_neg h3]
          simp [impl_TraceRead.j1]
theorem trace_ev (s : ByteArray) (hs : s.size ≤ 1048576) : ∃ L b, Ev (fun k => spec_TraceRead.f k s) (L, b) ∧ Ev (fun k => impl_TraceRead.f k s) (L, b) ∧ L.length ≤ 60 := by
  obtain ⟨g, hg⟩ := reads
  have hi := im_ev g hg s.size s [] (Nat.le_refl _) hs (by simp)
  have hc := cut_ev 10 s hs
  obtain ⟨z1, z2⟩ := wordsC_size 10 s.size s (Nat.le_refl _)
  obtain ⟨r, rs, e⟩ := wordsC_ne 10 s
  have hshort := im_short g (wordsC 10 s) [] (by simp)
  have hsame := im_sp g (wordsC 10 s) [] (by rw [e]; simp) (by simp)
  have hlen : 1 ≤ (wordsC 10 s).length := by rw [e]; simp
  generalize wordsC 10 s = rows at hi hc z1 z2 hshort hsame hlen
  refine ⟨(im g rows []).1, (im g rows []).2, ?_, hi, hshort⟩
  refine Ev.congr (f := fun k => (spec_l28Cut.f k s ((10 : UInt8).toNat : Int)).bind fun t131 => ((some (([] : List (S23)) : List (S23))).bind fun y134 => (if 0 ≤ (wrap64 ((t131.length : Int) - 1)) then (if (wrap64 ((t131.length : Int) - 1)) < (t131.length : Int) then (if (rdOf ByteArray.empty t131 (wrap64 ((t131.length : Int) - 1))).toList = ([] : List UInt8) then (spec_TraceRead.j0 k t131 y134 (decide ((t131.length : Int) > 61))) else (spec_TraceRead.j0 k t131 y134 true)) else (none)) else (none)))) (fun k => rfl) (hc.bind ?_)
  have hw : wrap64 ((rows.length : Int) - 1) = ((rows.length - 1 : Nat) : Int) := by unfold wrap64; omega
  rw [hsame]
  have hl : rdOf ByteArray.empty rows ((rows.length - 1 : Nat) : Int) = lastRow rows := by simp [rdOf, lastRow]
  by_cases h1 : (lastRow rows).toList = ([] : List UInt8)
  · by_cases h2 : rows.length ≤ 61
    · rw [if_pos ⟨h1, by simpa using h2⟩]
      have := sp_ev g hg rows (fun r hr => by have := z1 r hr; omega) (by omega) (rows.length - 1) 0 [] (by omega) (by simp)
      rw [List.drop_zero] at this
      refine Ev.congr (f := fun k => spec_TraceRead.j0 k rows [] false) (fun k => ?_) (Ev.step (fun k => ?_) this)
      · rw [Option.bind_some, hw, if_pos (by omega), if_pos (by omega), hl, if_pos h1, decide_eq_false (by omega)]
      · simp [spec_TraceRead.j0]
    · rw [if_neg (fun h => h2 (by simpa using h.2))]
      refine Ev.congr (f := fun k => spec_TraceRead.j0 k rows [] true) (fun k => ?_) (Ev.step (f := fun _ => some _) (fun k => ?_) (Ev.now _))
      · rw [Option.bind_some, hw, if_pos (by omega), if_pos (by omega), hl, if_pos h1, decide_eq_true (by omega)]
      · simp [spec_TraceRead.j0]
  · rw [if_neg (fun h => h1 h.1)]
    refine Ev.congr (f := fun k => spec_TraceRead.j0 k rows [] true) (fun k => ?_) (Ev.step (f := fun _ => some _) (fun k => ?_) (Ev.now _))
    · rw [Option.bind_some, hw, if_pos (by omega), if_pos (by omega), hl, if_neg h1]
    · simp [spec_TraceRead.j0]
end Go.Proofs.YtplfplmomioffaaDoor.PFnExactTraceRead
