/- Plain facts for the law FnExactSeqOk: what the program's SeqOk and the reference's compute is one function of the memory and the lists; no condition. -/
import Derived.Test.YtfanefgkeaapgaaPFnExactSeqOkx6
namespace Go.Proofs.Ytfanefgkeaapgaa.PFnExactSeqOk
open Go.RowKit Go.Proofs.YtfanefgkeaapgaaW.PrintWords
set_option linter.unusedVariables false
set_option linter.unusedSimpArgs false

/-! ### lists that are filled place by place -/
theorem fill_set {α : Type} (ys zs : List α) (i : Nat) (h : i < ys.length) (hz : zs.length = ys.length) : (ys.take i ++ zs.drop i).set i ys[i] = ys.take (i + 1) ++ zs.drop (i + 1) := by
  have hd := List.drop_eq_getElem_cons (show i < zs.length by omega)
  rw [hd, List.set_append_right _ _ (by simp; omega), List.take_succ_eq_append_getElem h]
  have : i - (ys.take i).length = 0 := by simp; omega
  rw [this, List.set_cons_zero, List.append_assoc, List.singleton_append]
theorem fill_len {α : Type} (ys zs : List α) (i : Nat) (h : i ≤ ys.length) (hz : zs.length = ys.length) : (ys.take i ++ zs.drop i).length = ys.length := by simp; omega
theorem wrap_succ (i n : Nat) (h : i < n) (hn : n ≤ 9223372036854775807) : wrap64 ((i : Int) + 1) = ((i + 1 : Nat) : Int) := by unfold wrap64; omega
theorem wrap_in (x : Int) (h0 : -9223372036854775808 ≤ x) (h1 : x ≤ 9223372036854775807) : wrap64 x = x := by unfold wrap64; omega

theorem toIntS_ev (l : List Int) (hl : l.length ≤ 1048576) : Ev (fun k => laws_toIntS.f k l) l := by
  have key : ∀ (d i : Nat), i + d = l.length → Ev (fun k => laws_toIntS.l0 k l (l.take i ++ (List.replicate l.length 0).drop i) i) l := by
    intro d
    induction d with
    | zero =>
      intro i hi
      refine Ev.step (f := fun _ => some l) (fun k => ?_) (Ev.now _)
      simp only [laws_toIntS.l0]
      rw [if_neg (by omega), List.take_of_length_le (by omega), List.drop_of_length_le (by simp; omega), List.append_nil]
    | succ d ih =>
      intro i hi
      refine Ev.step (f := fun k => laws_toIntS.l0 k l (l.take (i + 1) ++ (List.replicate l.length 0).drop (i + 1)) ((i + 1 : Nat) : Int)) (fun k => ?_) (ih (i + 1) (by omega))
      simp only [laws_toIntS.l0]
      rw [if_pos (by omega), if_pos (by omega), if_pos (by rw [fill_len l _ i (by omega) (by simp)]; omega), wrap_succ i l.length (by omega) (by omega), Int.toNat_natCast]
      have : rd l (i : Int) = l[i]'(by omega) := by simp [rd, List.getD_eq_getElem?_getD, show i < l.length by omega]
      rw [this, fill_set l _ i (by omega) (by simp)]
  have h0 := key l.length 0 (by omega)
  refine Ev.congr (fun k => ?_) h0
  simp only [laws_toIntS.f]
  rw [if_pos (by omega), if_pos (by simp; omega)]
  simp

/-! ### what is read: copies -/
def cv (d : S78) : S45 := ⟨d.f0, d.f1, d.f2⟩
theorem toDidS_ev (l : List S78) (hl : l.length ≤ 1048576) : Ev (fun k => laws_toDidS.f k l) (l.map cv) := by
  have key : ∀ (d i : Nat), i + d = l.length → Ev (fun k => laws_toDidS.l0 k l ((l.map cv).take i ++ (List.replicate l.length z45).drop i) i) (l.map cv) := by
    intro d
    induction d with
    | zero =>
      intro i hi
      refine Ev.step (f := fun _ => some (l.map cv)) (fun k => ?_) (Ev.now _)
      simp only [laws_toDidS.l0]
      rw [if_neg (by omega), List.take_of_length_le (by simp; omega), List.drop_of_length_le (by simp; omega), List.append_nil]
    | succ d ih =>
      intro i hi
      refine Ev.step (f := fun k => laws_toDidS.l0 k l ((l.map cv).take (i + 1) ++ (List.replicate l.length z45).drop (i + 1)) ((i + 1 : Nat) : Int)) (fun k => ?_) (ih (i + 1) (by omega))
      simp only [laws_toDidS.l0, laws_toDid.f, Option.bind_some]
      rw [if_pos (by omega), if_pos (by omega), if_pos (by rw [fill_len (l.map cv) _ i (by simp; omega) (by simp)]; simp; omega), wrap_succ i l.length (by omega) (by omega), Int.toNat_natCast]
      have : (⟨(rd_T78 l (i : Int)).f0, (rd_T78 l (i : Int)).f1, (rd_T78 l (i : Int)).f2⟩ : S45) = (l.map cv)[i]'(by simp; omega) := by
        simp [rd_T78, List.getD_eq_getElem?_getD, show i < l.length by omega, cv]
      rw [this, fill_set (l.map cv) _ i (by simp; omega) (by simp)]
  have h0 := key l.length 0 (by omega)
  refine Ev.congr (fun k => ?_) h0
  simp only [laws_toDidS.f]
  rw [if_pos (by omega), if_pos (by simp; omega)]
  simp

theorem toDidSS_ev (l : List (List S78)) (hl : l.length ≤ 1048576) (hi : ∀ x ∈ l, x.length ≤ 1048576) : Ev (fun k => laws_toDidSS.f k l) (l.map (List.map cv)) := by
  have key : ∀ (d i : Nat), i + d = l.length → Ev (fun k => laws_toDidSS.l0 k l ((l.map (List.map cv)).take i ++ (List.replicate l.length []).drop i) i) (l.map (List.map cv)) := by
    intro d
    induction d with
    | zero =>
      intro i hi
      refine Ev.step (f := fun _ => some (l.map (List.map cv))) (fun k => ?_) (Ev.now _)
      simp only [laws_toDidSS.l0]
      rw [if_neg (by omega), List.take_of_length_le (by simp; omega), List.drop_of_length_le (by simp; omega), List.append_nil]
    | succ d ih =>
      intro i hid
      have hil : i < l.length := by omega
      have hg : rd_L2 l (i : Int) = l[i] := by simp [rd_L2, List.getD_eq_getElem?_getD, hil]
      refine Ev.step (f := fun k => (laws_toDidS.f k l[i]).bind fun t => laws_toDidSS.l0 k l (((l.map (List.map cv)).take i ++ (List.replicate l.length []).drop i).set i t) ((i + 1 : Nat) : Int)) (fun k => ?_) ?_
      · simp only [laws_toDidSS.l0]
        rw [if_pos (by omega), if_pos (by omega), hg]
        congr 1
        funext t
        rw [if_pos (by rw [fill_len (l.map (List.map cv)) _ i (by simp; omega) (by simp)]; simp; omega), wrap_succ i l.length (by omega) (by omega), Int.toNat_natCast]
      · refine Ev.bind (toDidS_ev _ (hi _ (List.getElem_mem hil))) ?_
        have : l[i].map cv = (l.map (List.map cv))[i]'(by simp; omega) := by simp
        rw [this, fill_set (l.map (List.map cv)) _ i (by simp; omega) (by simp)]
        exact ih (i + 1) (by omega)
  have h0 := key l.length 0 (by omega)
  refine Ev.congr (fun k => ?_) h0
  simp only [laws_toDidSS.f]
  rw [if_pos (by omega), if_pos (by simp; omega)]
  simp

/-! ### like is like -/
theorem eqIntS_ev (l : List Int) (hl : l.length ≤ 1048576) : Ev (fun k => laws_eqIntS.f k l l) true := by
  have key : ∀ (d i : Nat), i + d = l.length → Ev (fun k => laws_eqIntS.l0 k l l i) true := by
    intro d
    induction d with
    | zero =>
      intro i hi
      refine Ev.step (f := fun _ => some true) (fun k => ?_) (Ev.now _)
      simp only [laws_eqIntS.l0]
      rw [if_neg (by omega)]
    | succ d ih =>
      intro i hi
      refine Ev.step (fun k => ?_) (ih (i + 1) (by omega))
      simp only [laws_eqIntS.l0]
      rw [if_pos (by omega), if_pos (by omega), if_pos (by omega), wrap_succ i l.length (by omega) (by omega)]
      simp
  refine Ev.congr (fun k => ?_) (key l.length 0 (by omega))
  simp [laws_eqIntS.f]
theorem eqDidS_ev (l : List S45) (hl : l.length ≤ 1048576) : Ev (fun k => laws_eqDidS.f k l l) true := by
  have key : ∀ (d i : Nat), i + d = l.length → Ev (fun k => laws_eqDidS.l0 k l l i) true := by
    intro d
    induction d with
    | zero =>
      intro i hi
      refine Ev.step (f := fun _ => some true) (fun k => ?_) (Ev.now _)
      simp only [laws_eqDidS.l0]
      rw [if_neg (by omega)]
    | succ d ih =>
      intro i hi
      refine Ev.step (fun k => ?_) (ih (i + 1) (by omega))
      simp only [laws_eqDidS.l0]
      rw [if_pos (by omega), if_pos (by omega), if_pos (by omega), wrap_succ i l.length (by omega) (by omega)]
      simp [laws_eqDid.f]
  refine Ev.congr (fun k => ?_) (key l.length 0 (by omega))
  simp [laws_eqDidS.f]
theorem eqDidSS_ev (l : List (List S45)) (hl : l.length ≤ 1048576) (hi : ∀ x ∈ l, x.length ≤ 1048576) : Ev (fun k => laws_eqDidSS.f k l l) true := by
  have key : ∀ (d i : Nat), i + d = l.length → Ev (fun k => laws_eqDidSS.l0 k l l i) true := by
    intro d
    induction d with
    | zero =>
      intro i hi
      refine Ev.step (f := fun _ => some true) (fun k => ?_) (Ev.now _)
      simp only [laws_eqDidSS.l0]
      rw [if_neg (by omega)]
    | succ d ih =>
      intro i hid
      have hil : i < l.length := by omega
      have hg : rd_L5 l (i : Int) = l[i] := by simp [rd_L5, List.getD_eq_getElem?_getD, hil]
      refine Ev.step (f := fun k => (laws_eqDidS.f k l[i] l[i]).bind fun t => if t = true then laws_eqDidSS.l0 k l l ((i + 1 : Nat) : Int) else some false) (fun k => ?_) (Ev.bind (eqDidS_ev _ (hi _ (List.getElem_mem hil))) ?_)
      · simp only [laws_eqDidSS.l0]
        rw [if_pos (by omega), if_pos (by omega), if_pos (by omega), wrap_succ i l.length (by omega) (by omega), hg]
      · simpa using ih (i + 1) (by omega)
  refine Ev.congr (fun k => ?_) (key l.length 0 (by omega))
  simp [laws_eqDidSS.f]

/-! ### how much is read -/
theorem szDidSS_ev (l : List (List S78)) (hl : l.length ≤ 9223372036854775807) (hi : ∀ x ∈ l, x.length ≤ 9223372036854775807) :
    ∃ v, Ev (fun k => laws_szDidSS.f k l 1048576) v ∧ (0 ≤ v → l.length ≤ 1048576 ∧ ∀ x ∈ l, x.length ≤ 1048576) := by
  have key : ∀ (d i : Nat) (a : Int), i + d = l.length → 0 ≤ a → a ≤ 1048576 → ∃ v, Ev (fun k => laws_szDidSS.l0 k l a i) v ∧ (0 ≤ v → ∀ j (h : j < l.length), i ≤ j → l[j].length ≤ 1048576) := by
    intro d
    induction d with
    | zero =>
      intro i a hid h0 h1
      refine ⟨a, Ev.step (f := fun _ => some a) (fun k => ?_) (Ev.now _), fun _ j h hij => by omega⟩
      simp only [laws_szDidSS.l0]
      rw [if_neg (by omega)]
    | succ d ih =>
      intro i a hid h0 h1
      have hil : i < l.length := by omega
      have hg : rd_L2 l (i : Int) = l[i] := by simp [rd_L2, List.getD_eq_getElem?_getD, hil]
      have hx := hi _ (List.getElem_mem hil)
      by_cases hs : a - (l[i].length : Int) < 0
      · refine ⟨-1, Ev.step (f := fun _ => some (-1)) (fun k => ?_) (Ev.now _), fun h => by omega⟩
        simp only [laws_szDidSS.l0]
        rw [if_pos (by omega), if_pos (by omega), hg]
        simp only [laws_szDidS.f]
        rw [wrap_in _ (by omega) (by omega), if_pos hs]
        simp
      · obtain ⟨v, hv, hp⟩ := ih (i + 1) (a - l[i].length) (by omega) (by omega) (by omega)
        refine ⟨v, Ev.step (fun k => ?_) hv, fun h j hj hij => ?_⟩
        · simp only [laws_szDidSS.l0]
          rw [if_pos (by omega), if_pos (by omega), hg]
          simp only [laws_szDidS.f]
          rw [wrap_in _ (by omega) (by omega), if_neg hs, Option.bind_some, if_neg hs, wrap_succ i l.length (by omega) (by omega)]
        · by_cases e : j = i
          · subst e; omega
          · exact hp h j hj (by omega)
  by_cases hs : 1048576 - (l.length : Int) < 0
  · refine ⟨-1, Ev.congr (fun k => ?_) (Ev.now (-1)), fun h => by omega⟩
    simp only [laws_szDidSS.f]
    rw [wrap_in _ (by omega) (by omega), if_pos hs]
  · obtain ⟨v, hv, hp⟩ := key l.length 0 (1048576 - l.length) (by omega) (by omega) (by omega)
    refine ⟨v, Ev.congr (fun k => ?_) hv, fun h => ⟨by omega, fun x hx => ?_⟩⟩
    · simp only [laws_szDidSS.f]
      rw [wrap_in _ (by omega) (by omega), if_neg hs]
      rfl
    · obtain ⟨j, hj, rfl⟩ := List.getElem_of_mem hx
      exact hp h j hj (by omega)

/-! ### whether there is an order: what both sides compute -/
def canGo (m : List Int) (d : S45) : Prop := (0 ≤ d.f0 ∧ d.f0 ≤ 23) ∧ ¬ (d.f1 ≥ 0 ∧ ¬ d.f1 = rd m d.f0)
instance (m : List Int) (d : S45) : Decidable (canGo m d) := inferInstanceAs (Decidable (_ ∧ _))
def putD (m : List Int) (d : S45) : List Int := if d.f2 ≥ 0 then m.set d.f0.toNat d.f2 else m
def anyFrom (rec : List Int → List (List S45) → Bool) (m : List Int) (all : List (List S45)) : List (List S45) → Nat → Bool
  | [], _ => false
  | [] :: ls, i => anyFrom rec m all ls (i + 1)
  | (d :: tl) :: ls, i => (decide (canGo m d) && rec (putD m d) (all.set i tl)) || anyFrom rec m all ls (i + 1)
def nonEmpty (ls : List (List S45)) : Bool := ls.any fun l => !l.isEmpty
def sm : Nat → List Int → List (List S45) → Bool
  | 0, _, ls => !nonEmpty ls
  | n + 1, m, ls => !nonEmpty ls || anyFrom (sm n) m ls ls 0
def total (ls : List (List S45)) : Nat := (ls.map List.length).sum
theorem putD_len (m : List Int) (d : S45) : (putD m d).length = m.length := by unfold putD; split <;> simp
theorem total_set (ls : List (List S45)) (i : Nat) (d : S45) (tl : List S45) (h : ls[i]? = some (d :: tl)) : total (ls.set i tl) + 1 = total ls := by
  induction ls generalizing i with
  | nil => simp at h
  | cons l ls ih =>
    cases i with
    | zero =>
      simp only [List.getElem?_cons_zero, Option.some.injEq] at h
      subst h
      simp [total]; omega
    | succ i =>
      have := ih i (by simpa using h)
      simp [total] at this ⊢; omega
theorem total_zero (ls : List (List S45)) : total ls = 0 ↔ nonEmpty ls = false := by
  induction ls with
  | nil => simp [total, nonEmpty]
  | cons l ls ih =>
    simp only [total, nonEmpty, List.map_cons, List.sum_cons, List.any_cons, Bool.or_eq_false_iff] at ih ⊢
    constructor
    · intro h
      refine ⟨?_, ih.1 (by omega)⟩
      cases l with
      | nil => rfl
      | cons a l => simp at h
    · rintro ⟨h1, h2⟩
      have := ih.2 h2
      cases l with
      | nil => simpa using this
      | cons a l => simp at h1

/-- The program's way. -/
theorem some_sl (rec : List Int → List (List S45) → Option Bool) (R : List Int → List (List S45) → Bool) (m : List Int) (hm : m.length = 24) (all : List (List S45))
    (hrec : ∀ i d tl, all[i]? = some (d :: tl) → rec (putD m d) (all.set i tl) = some (R (putD m d) (all.set i tl))) :
    ∀ (ls : List (List S45)) (i : Nat) (b : Bool), all.drop i = ls → impl_some.sl rec m all ls i b = some (anyFrom R m all ls i || !(b || nonEmpty ls))
  | [], i, b, h => by simp [impl_some.sl, anyFrom, nonEmpty]
  | [] :: ls, i, b, h => by
    have ih := some_sl rec R m hm all hrec ls (i + 1) b (by rw [← List.drop_drop, h]; rfl)
    simp only [impl_some.sl, anyFrom, ih]
    simp [nonEmpty]
  | (d :: tl) :: ls, i, b, h => by
    have ih := some_sl rec R m hm all hrec ls (i + 1) true (by rw [← List.drop_drop, h]; rfl)
    have hi : all[i]? = some (d :: tl) := by
      have : (all.drop i)[0]? = some (d :: tl) := by rw [h]; rfl
      simpa using this
    have hne : nonEmpty ((d :: tl) :: ls) = true := by simp [nonEmpty]
    simp only [impl_some.sl, anyFrom, ih, hne, Bool.or_true, Bool.not_true, Bool.or_false]
    by_cases h1 : 0 ≤ d.f0 ∧ d.f0 ≤ 23
    · rw [if_pos h1, if_pos (by omega)]
      by_cases h2 : d.f1 ≥ 0 ∧ ¬ d.f1 = rd m d.f0
      · have hc : ¬ canGo m d := fun hc => hc.2 h2
        rw [if_pos h2]
        simp [hc]
      · have hc : canGo m d := ⟨h1, h2⟩
        rw [if_neg h2]
        show (rec (putD m d) (all.set i tl)).bind _ = _
        rw [hrec i d tl hi, Option.bind_some]
        cases hR : R (putD m d) (all.set i tl) <;> simp [hc]
    · have hc : ¬ canGo m d := fun hc => h1 hc.1
      rw [if_neg h1]
      simp [hc]
theorem some_sm (n : Nat) : ∀ (m : List Int) (ls : List (List S45)), m.length = 24 → total ls ≤ n → ls.length ≤ 8 → impl_some.f (n + 1) m ls = some (sm n m ls) := by
  induction n with
  | zero =>
    intro m ls hm ht hl
    have hne := (total_zero ls).1 (by omega)
    simp only [impl_some.f]
    rw [if_pos (by omega), if_pos (by omega), some_sl _ (fun _ _ => true) m hm ls (fun i d tl hi => ?_) ls 0 false rfl]
    · have : anyFrom (fun _ _ => true) m ls ls 0 = false := by
        have : ∀ (a : List (List S45)) i, nonEmpty a = false → anyFrom (fun _ _ => true) m ls a i = false := by
          intro a
          induction a with
          | nil => intro i _; rfl
          | cons l a ih =>
            intro i ha
            cases l with
            | nil => exact ih (i + 1) (by simpa [nonEmpty] using ha)
            | cons x l => simp [nonEmpty] at ha
        exact this ls 0 hne
      simp [this, hne, sm]
    · have := total_set ls i d tl hi
      omega
  | succ n ih =>
    intro m ls hm ht hl
    rw [impl_some.f]
    rw [if_pos (by omega), if_pos (by omega), some_sl _ (sm n) m hm ls (fun i d tl hi => ?_) ls 0 false rfl]
    · simp only [sm, Bool.false_or]
      rw [Bool.or_comm]
    · have := total_set ls i d tl hi
      exact ih _ _ (by rw [putD_len]; exact hm) (by omega) (by simpa using hl)

/-! ### the reference's way: places instead of what is left -/
def dr (ls : List (List S45)) (t : List Int) : List (List S45) := List.zipWith (fun l (a : Int) => l.drop a.toNat) ls t
theorem dr_len (ls : List (List S45)) (t : List Int) (h : t.length = ls.length) : (dr ls t).length = ls.length := by simp [dr, h]
theorem dr_get (ls : List (List S45)) (t : List Int) (h : t.length = ls.length) (k : Nat) (hk : k < ls.length) : (dr ls t)[k]'(by rw [dr_len ls t h]; exact hk) = ls[k].drop (rd t k).toNat := by
  simp [dr, rd, List.getD_eq_getElem?_getD, show k < t.length by omega]
theorem dr_set (ls : List (List S45)) (t : List Int) (h : t.length = ls.length) (k : Nat) (hk : k < ls.length) (a : Int) : dr ls (t.set k a) = (dr ls t).set k (ls[k].drop a.toNat) := by
  apply List.ext_getElem
  · simp [dr]
  · intro j h1 h2
    simp only [dr, List.length_zipWith, List.length_set] at h1
    by_cases e : k = j
    · subst e
      simp [dr]
    · simp [dr, List.getElem_set, e]
theorem set_back (m : List Int) (d : S45) (h0 : 0 ≤ d.f0) (h1 : d.f0 < m.length) : (putD m d).set d.f0.toNat (rd m d.f0) = m := by
  have hg : rd m d.f0 = m[d.f0.toNat]'(by omega) := by simp [rd, List.getD_eq_getElem?_getD, show d.f0.toNat < m.length by omega]
  rw [hg]
  unfold putD
  split
  · rw [List.set_set, List.set_getElem_self]
  · rw [List.set_getElem_self]
theorem at_back (t : List Int) (k : Nat) (h : k < t.length) (h0 : 0 ≤ rd t k) (h1 : rd t k ≤ 1048576) : (t.set k (rd t k + 1)).set k (wrap64 (rd (t.set k (rd t k + 1)) k - 1)) = t := by
  have hg : rd (t.set k (rd t k + 1)) k = rd t k + 1 := by simp [rd, List.getD_eq_getElem?_getD, h]
  have he : rd t k = t[k] := by simp [rd, List.getD_eq_getElem?_getD, h]
  rw [hg, wrap_in _ (by omega) (by omega), List.set_set, show rd t k + 1 - 1 = t[k] by omega, List.set_getElem_self]

theorem go_sg (rec : List Int → List Int → Option (Bool × List Int × List Int)) (R : List Int → List (List S45) → Bool) (m : List Int) (hm : m.length = 24) (ls : List (List S45)) (t : List Int) (ht : t.length = ls.length)
    (hb : ∀ k (h : k < ls.length), 0 ≤ rd t k ∧ rd t k ≤ ls[k].length) (hl : ∀ x ∈ ls, x.length ≤ 1048576)
    (hrec : ∀ k d tl, (dr ls t)[k]? = some (d :: tl) → ∃ m2 t2, rec (putD m d) (t.set k (rd t k + 1)) = some (R (putD m d) ((dr ls t).set k tl), m2, t2) ∧ (R (putD m d) ((dr ls t).set k tl) = false → m2 = putD m d ∧ t2 = t.set k (rd t k + 1))) :
    ∀ (s : List (List S45)) (k : Nat), ls.drop k = s → ∃ m2 t2, spec_l21Go.sg rec s k m t = some (anyFrom R m (dr ls t) ((dr ls t).drop k) k, m2, t2) ∧ (anyFrom R m (dr ls t) ((dr ls t).drop k) k = false → m2 = m ∧ t2 = t)
  | [], k, h => by
    have hk : ls.length ≤ k := by
      rcases Nat.lt_or_ge k ls.length with h1 | h1
      · rw [List.drop_eq_getElem_cons h1] at h; cases h
      · exact h1
    have : (dr ls t).drop k = [] := List.drop_eq_nil_of_le (by rw [dr_len ls t ht]; exact hk)
    rw [this]
    exact ⟨m, t, rfl, fun _ => ⟨rfl, rfl⟩⟩
  | l :: s, k, h => by
    have hk : k < ls.length := by
      rcases Nat.lt_or_ge k ls.length with h1 | h1
      · exact h1
      · rw [List.drop_eq_nil_of_le h1] at h; cases h
    have hlk : ls[k] = l := by
      rw [List.drop_eq_getElem_cons hk] at h
      exact (List.cons.inj h).1
    have ih := go_sg rec R m hm ls t ht hb hl hrec s (k + 1) (by rw [← List.drop_drop, h]; rfl)
    have hdk : k < (dr ls t).length := by rw [dr_len ls t ht]; exact hk
    have hdr : (dr ls t).drop k = l.drop (rd t k).toNat :: (dr ls t).drop (k + 1) := by
      rw [List.drop_eq_getElem_cons hdk, dr_get ls t ht k hk, hlk]
    have hbk := hb k hk
    rw [hlk] at hbk
    have hlen : l.length ≤ 1048576 := by rw [← hlk]; exact hl _ (List.getElem_mem hk)
    rw [hdr]
    simp only [spec_l21Go.sg]
    rw [if_pos ⟨by omega, hbk.1⟩]
    by_cases hge : rd t k ≥ (l.length : Int)
    · rw [if_pos hge, List.drop_eq_nil_of_le (by omega)]
      exact ih
    · rw [if_neg hge]
      have hlt : (rd t k).toNat < l.length := by omega
      have hd : l.drop (rd t k).toNat = l.getD (rd t k).toNat z45 :: l.drop ((rd t k).toNat + 1) := by
        rw [List.drop_eq_getElem_cons hlt]
        simp [List.getD_eq_getElem?_getD, hlt]
      rw [hd]
      have hi : (dr ls t)[k]? = some (l.getD (rd t k).toNat z45 :: l.drop ((rd t k).toNat + 1)) := by
        rw [List.getElem?_eq_getElem hdk, dr_get ls t ht k hk, hlk, hd]
      generalize l.getD (rd t k).toNat z45 = d at hi
      simp only [anyFrom]
      by_cases h1 : 0 ≤ d.f0 ∧ d.f0 ≤ 23
      · rw [if_pos h1, if_pos (by omega)]
        by_cases h2 : d.f1 ≥ 0 ∧ ¬ d.f1 = rd m d.f0
        · have hc : ¬ canGo m d := fun hc => hc.2 h2
          rw [if_pos h2]
          simpa [hc] using ih
        · have hc : canGo m d := ⟨h1, h2⟩
          rw [if_neg h2]
          obtain ⟨m2, t2, hr, hf⟩ := hrec k d _ hi
          show ∃ m' t', (rec (putD m d) (t.set k (rd t k + 1))).bind _ = _ ∧ _
          rw [hr, Option.bind_some]
          cases hR : R (putD m d) ((dr ls t).set k (l.drop ((rd t k).toNat + 1))) with
          | true => exact ⟨m2, t2, by simp [hc], fun h => by simp [hc] at h⟩
          | false =>
            obtain ⟨rfl, rfl⟩ := hf hR
            simp only [Bool.false_eq_true, if_false]
            rw [set_back m d h1.1 (by omega), at_back t k (by omega) hbk.1 (by omega)]
            simpa using ih
      · have hc : ¬ canGo m d := fun hc => h1 hc.1
        rw [if_neg h1]
        simpa [hc] using ih
theorem go_sm (n : Nat) : ∀ (m : List Int) (ls : List (List S45)) (t : List Int), m.length = 24 → t.length = ls.length → (∀ k (h : k < ls.length), 0 ≤ rd t k ∧ rd t k ≤ ls[k].length) → (∀ x ∈ ls, x.length ≤ 1048576) → total (dr ls t) ≤ n → n ≤ 12 →
    ∃ m2 t2, spec_l21Go.f (n + 1) m ls t (total (dr ls t)) = some (sm n m (dr ls t), m2, t2) ∧ (sm n m (dr ls t) = false → m2 = m ∧ t2 = t) := by
  induction n with
  | zero =>
    intro m ls t hm ht hb hl hn _
    have h0 : total (dr ls t) = 0 := by omega
    have hne := (total_zero _).1 h0
    refine ⟨m, t, ?_, fun _ => ⟨rfl, rfl⟩⟩
    simp only [spec_l21Go.f, h0]
    simp [sm, hne]
  | succ n ih =>
    intro m ls t hm ht hb hl hn hn12
    rcases Nat.eq_zero_or_pos (total (dr ls t)) with h0 | h0
    · have hne := (total_zero _).1 h0
      refine ⟨m, t, ?_, fun _ => ⟨rfl, rfl⟩⟩
      simp only [spec_l21Go.f, h0]
      simp [sm, hne]
    · have hne : nonEmpty (dr ls t) = true := by
        cases h : nonEmpty (dr ls t) with
        | true => rfl
        | false => have := (total_zero _).2 h; omega
      rw [spec_l21Go.f]
      rw [if_neg (by omega)]
      have hw : wrap64 ((total (dr ls t) : Int) - 1) = ((total (dr ls t) - 1 : Nat) : Int) := by unfold wrap64; omega
      simp only [hw, sm, hne, Bool.not_true, Bool.false_or]
      refine go_sg _ (sm n) m hm ls t ht hb hl (fun k d tl hk => ?_) ls 0 rfl
      have hkl : k < ls.length := by
        have := (List.getElem?_eq_some_iff.1 hk).1
        rwa [dr_len ls t ht] at this
      have hdk : ls[k].drop (rd t k).toNat = d :: tl := by
        rw [← dr_get ls t ht k hkl]
        exact (List.getElem?_eq_some_iff.1 hk).2
      have hbk := hb k hkl
      have hlt : (rd t k).toNat < ls[k].length := by
        rcases Nat.lt_or_ge (rd t k).toNat ls[k].length with h | h
        · exact h
        · rw [List.drop_eq_nil_of_le h] at hdk; cases hdk
      have hds : dr ls (t.set k (rd t k + 1)) = (dr ls t).set k tl := by
        rw [dr_set ls t ht k hkl, show (rd t k + 1).toNat = (rd t k).toNat + 1 by omega, ← List.drop_drop, hdk]
        rfl
      have htot := total_set _ k d tl hk
      have := ih (putD m d) ls (t.set k (rd t k + 1)) (by rw [putD_len]; exact hm) (by simpa using ht) (fun j hj => ?_) hl (by rw [hds]; omega) (by omega)
      · rw [hds] at this
        rw [show total (dr ls t) - 1 = total ((dr ls t).set k tl) by omega]
        exact this
      · by_cases e : k = j
        · subst e
          have : rd (t.set k (rd t k + 1)) k = rd t k + 1 := by simp [rd, List.getD_eq_getElem?_getD, show k < t.length by omega]
          rw [this]
          omega
        · have : rd (t.set k (rd t k + 1)) j = rd t j := by simp [rd, List.getD_eq_getElem?_getD, List.getElem?_set, e]
          rw [this]
          exact hb j hj

/-! ### both functions whole -/
def okMem (m : List Int) : Bool := (m.length : Int) == 24 && m.all fun x => decide (0 ≤ x) && decide (x ≤ 65535)
def seqOk (m : List Int) (ls : List (List S45)) : Bool := okMem m && (decide (ls.length ≤ 8) && (decide (total ls ≤ 12) && sm (total ls) m ls))
theorem total_take (ls : List (List S45)) (k : Nat) (h : k < ls.length) : total (ls.take (k + 1)) = total (ls.take k) + ls[k].length := by
  rw [List.take_succ_eq_append_getElem h]
  simp only [total, List.map_append, List.sum_append, List.map_cons, List.map_nil, List.sum_cons, List.sum_nil, Nat.add_zero]
theorem total_le (ls : List (List S45)) (hl : ∀ x ∈ ls, x.length ≤ 1048576) (k : Nat) : total (ls.take k) ≤ k * 1048576 := by
  induction k with
  | zero => simp [total]
  | succ k ih =>
    rcases Nat.lt_or_ge k ls.length with h | h
    · rw [total_take ls k h]
      have := hl _ (List.getElem_mem h)
      omega
    · rw [List.take_of_length_le h] at ih
      rw [List.take_of_length_le (show ls.length ≤ k + 1 by omega)]
      exact Nat.le_trans ih (Nat.mul_le_mul_right _ (Nat.le_succ k))
theorem wordsOk_ev (m : List Int) (hm : m.length ≤ 1048576) : Ev (fun k => spec_l1Words.f k m 24) (okMem m) := by
  have key : ∀ (d i : Nat), i + d = m.length → Ev (fun k => spec_l1Words.l0 k m 24 i) ((m.length : Int) == 24 && (m.drop i).all fun x => decide (0 ≤ x) && decide (x ≤ 65535)) := by
    intro d
    induction d with
    | zero =>
      intro i hi
      refine Ev.step (f := fun _ => some ((m.length : Int) == 24)) (fun k => ?_) ?_
      · simp only [spec_l1Words.l0]
        rw [if_neg (by omega)]
      · rw [List.drop_eq_nil_of_le (by omega)]
        simpa using Ev.now ((m.length : Int) == 24)
    | succ d ih =>
      intro i hid
      have hil : i < m.length := by omega
      have hg : rd m (i : Int) = m[i] := by simp [rd, List.getD_eq_getElem?_getD, hil]
      rw [List.drop_eq_getElem_cons hil, List.all_cons]
      cases hc : (decide (0 ≤ m[i]) && decide (m[i] ≤ 65535)) with
      | true =>
        simp only [Bool.true_and]
        refine Ev.step (fun k => ?_) (ih (i + 1) (by omega))
        simp only [spec_l1Words.l0]
        rw [if_pos (by omega), if_pos (by omega), l1In_f, hg, hc, Option.bind_some, if_pos rfl, wrap_succ i m.length (by omega) (by omega)]
      | false =>
        simp only [Bool.false_and, Bool.and_false]
        refine Ev.step (f := fun _ => some false) (fun k => ?_) (Ev.now _)
        simp only [spec_l1Words.l0]
        rw [if_pos (by omega), if_pos (by omega), l1In_f, hg, hc, Option.bind_some]
        simp
  have := key m.length 0 (by omega)
  simpa [spec_l1Words.f, okMem] using this
theorem implSeqOk_ev (m : List Int) (ls : List (List S45)) (hn : ls.length ≤ 1048576) (hl : ∀ x ∈ ls, x.length ≤ 1048576) : Ev (fun k => impl_SeqOk.f k m ls) (seqOk m ls) := by
  have key : ∀ (d i : Nat), i + d = ls.length → Ev (fun k => impl_SeqOk.l0 k m ls (total (ls.take i)) ls ls.length i) (seqOk m ls) := by
    intro d
    induction d with
    | zero =>
      intro i hi
      rw [List.take_of_length_le (by omega)]
      by_cases ho : okMem m = true
      · by_cases h8 : ls.length ≤ 8
        · by_cases h12 : total ls ≤ 12
          · have hm : m.length = 24 := by
              simp only [okMem, Bool.and_eq_true, beq_iff_eq] at ho
              omega
            refine Ev.step (f := fun k => impl_some.f k m ls) (fun k => ?_) ?_
            · simp only [impl_SeqOk.l0, impl_memOk.f, impl_wordsOk.f]
              rw [if_neg (by omega)]
              simp only [Option.bind_some]
              rw [show ((m.length : Int) == 24 && m.all fun x => decide (0 ≤ x) && decide (x ≤ 65535)) = okMem m from rfl, ho, if_pos rfl, if_pos (by omega), if_pos (by omega)]
              simp
            · have : seqOk m ls = sm (total ls) m ls := by simp [seqOk, ho, h8, h12]
              rw [this]
              exact Ev.of (impl_some.mono m ls) (some_sm (total ls) m ls hm (Nat.le_refl _) h8)
          · refine Ev.step (f := fun k => some false) (fun k => ?_) ?_
            · simp only [impl_SeqOk.l0, impl_memOk.f, impl_wordsOk.f]
              rw [if_neg (by omega)]
              simp only [Option.bind_some]
              rw [show ((m.length : Int) == 24 && m.all fun x => decide (0 ≤ x) && decide (x ≤ 65535)) = okMem m from rfl, ho, if_pos rfl, if_pos (by omega), if_neg (by omega)]
            · have : seqOk m ls = false := by simp [seqOk, h12]
              rw [this]; exact Ev.now _
        · refine Ev.step (f := fun k => some false) (fun k => ?_) ?_
          · simp only [impl_SeqOk.l0, impl_memOk.f, impl_wordsOk.f]
            rw [if_neg (by omega)]
            simp only [Option.bind_some]
            rw [show ((m.length : Int) == 24 && m.all fun x => decide (0 ≤ x) && decide (x ≤ 65535)) = okMem m from rfl, ho, if_pos rfl, if_neg (by omega)]
          · have : seqOk m ls = false := by simp [seqOk, h8]
            rw [this]; exact Ev.now _
      · refine Ev.step (f := fun k => some false) (fun k => ?_) ?_
        · simp only [impl_SeqOk.l0, impl_memOk.f, impl_wordsOk.f]
          rw [if_neg (by omega)]
          simp only [Option.bind_some]
          rw [show ((m.length : Int) == 24 && m.all fun x => decide (0 ≤ x) && decide (x ≤ 65535)) = okMem m from rfl, if_neg ho]
        · have : seqOk m ls = false := by simp [seqOk, ho]
          rw [this]; exact Ev.now _
    | succ d ih =>
      intro i hid
      have hil : i < ls.length := by omega
      have hg : rd_L5 ls (i : Int) = ls[i] := by simp [rd_L5, List.getD_eq_getElem?_getD, hil]
      have ht := total_take ls i hil
      have hle := total_le ls hl (i + 1)
      refine Ev.step (fun k => ?_) (ih (i + 1) (by omega))
      simp only [impl_SeqOk.l0]
      rw [if_pos (by omega), if_pos (by omega), if_pos (by omega), wrap_succ i ls.length (by omega) (by omega), hg, wrap_in _ (by omega) (by omega), ht]
      simp
  have := key ls.length 0 (by omega)
  simpa [impl_SeqOk.f, total] using this
theorem dr_zero (ls : List (List S45)) : dr ls (List.replicate ls.length 0) = ls := by
  apply List.ext_getElem
  · simp [dr]
  · intro j h1 h2
    simp [dr]
theorem specSeqOk_ev (m : List Int) (ls : List (List S45)) (hm : m.length ≤ 1048576) (hn : ls.length ≤ 1048576) (hl : ∀ x ∈ ls, x.length ≤ 1048576) : Ev (fun k => spec_SeqOk.f k m ls) (seqOk m ls) := by
  have key : ∀ (d i : Nat), i + d = ls.length → Ev (fun k => spec_SeqOk.l0 k m ls (total (ls.take i)) i) (seqOk m ls) := by
    intro d
    induction d with
    | zero =>
      intro i hi
      rw [List.take_of_length_le (by omega)]
      by_cases ho : okMem m = true
      · by_cases h8 : ls.length ≤ 8
        · by_cases h12 : total ls ≤ 12
          · have hm24 : m.length = 24 := by
              simp only [okMem, Bool.and_eq_true, beq_iff_eq] at ho
              omega
            have hs : seqOk m ls = sm (total ls) m ls := by simp [seqOk, ho, h8, h12]
            refine Ev.step (f := fun k => (spec_l1Words.f k m 24).bind fun t => if t = true then (spec_l21Go.f k m ls (List.replicate ls.length 0) (total ls)).bind fun b => some b.1 else some false) (fun k => ?_) (Ev.bind (wordsOk_ev m hm) ?_)
            · simp only [spec_SeqOk.l0]
              rw [if_neg (by omega)]
              congr 1
              funext t
              cases t with
              | false => rfl
              | true =>
                simp only [if_true, Option.bind_some, List.length_nil, List.nil_append]
                rw [if_neg (by omega), if_neg (by omega), if_pos (by omega), if_pos (by omega), if_pos (by omega)]
                simp
            · rw [ho, hs]
              simp only [if_true]
              obtain ⟨m2, t2, hg, _⟩ := go_sm (total ls) m ls (List.replicate ls.length 0) hm24 (by simp) (fun k hk => by simp [rd, List.getD_eq_getElem?_getD, hk]) hl (by rw [dr_zero]; exact Nat.le_refl _) h12
              rw [dr_zero] at hg
              exact Ev.bind (Ev.of (g := fun k => spec_l21Go.f k m ls (List.replicate ls.length 0) (total ls)) (spec_l21Go.mono m ls _ _) hg) (Ev.now _)
          · have hs : seqOk m ls = false := by simp [seqOk, h12]
            rw [hs]
            refine Ev.step (f := fun k => (spec_l1Words.f k m 24).bind fun t => some false) (fun k => ?_) (Ev.bind (wordsOk_ev m hm) (Ev.now _))
            simp only [spec_SeqOk.l0]
            rw [if_neg (by omega)]
            congr 1
            funext t
            cases t with
            | false => rfl
            | true =>
              simp only [if_true]
              rw [if_neg (by omega), if_pos (by omega)]
        · have hs : seqOk m ls = false := by simp [seqOk, h8]
          rw [hs]
          refine Ev.step (f := fun k => (spec_l1Words.f k m 24).bind fun t => some false) (fun k => ?_) (Ev.bind (wordsOk_ev m hm) (Ev.now _))
          simp only [spec_SeqOk.l0]
          rw [if_neg (by omega)]
          congr 1
          funext t
          cases t with
          | false => rfl
          | true =>
            simp only [if_true]
            rw [if_pos (by omega)]
      · have ho' : okMem m = false := by simpa using ho
        have hs : seqOk m ls = false := by simp [seqOk, ho']
        rw [hs]
        have hw := wordsOk_ev m hm
        rw [ho'] at hw
        refine Ev.step (fun k => ?_) (Ev.bind (f := fun k t => if t = true then spec_SeqOk.l0 (k + 1) m ls (total ls) i else some false) hw ?_)
        · simp only [spec_SeqOk.l0]
          rw [if_neg (by omega)]
          cases hk : spec_l1Words.f k m 24 with
          | none => rfl
          | some t => cases t <;> simp
        · simpa using Ev.now false
    | succ d ih =>
      intro i hid
      have hil : i < ls.length := by omega
      have hg : rd_L5 ls (i : Int) = ls[i] := by simp [rd_L5, List.getD_eq_getElem?_getD, hil]
      have ht := total_take ls i hil
      have hle := total_le ls hl (i + 1)
      refine Ev.step (fun k => ?_) (ih (i + 1) (by omega))
      simp only [spec_SeqOk.l0]
      rw [if_pos (by omega), if_pos (by omega), wrap_succ i ls.length (by omega) (by omega), hg, wrap_in _ (by omega) (by omega), ht]
      simp
  have := key ls.length 0 (by omega)
  simpa [spec_SeqOk.f, total] using this

/-- The statement over lists. -/
theorem law_ev (m : List Int) (ls : List (List S78)) (hl : ls.length ≤ 9223372036854775807) (hi : ∀ x ∈ ls, x.length ≤ 9223372036854775807) : Ev (fun k => laws_FnExactSeqOk.f k m ls) true := by
  unfold laws_FnExactSeqOk.f
  by_cases h1 : (m.length : Int) > 1048576
  · simp only [if_pos h1]; exact Ev.now _
  · simp only [if_neg h1]
    obtain ⟨v, hv, hp⟩ := szDidSS_ev ls hl hi
    refine Ev.bind hv ?_
    by_cases h2 : v < 0
    · simp only [if_pos h2]; exact Ev.now _
    · simp only [if_neg h2]
      obtain ⟨hn, hx⟩ := hp (by omega)
      have hm : m.length ≤ 1048576 := by omega
      have hc : Ev (fun k => laws_toDidSS.f k ls) (ls.map (List.map cv)) := toDidSS_ev ls hn hx
      have hn' : (ls.map (List.map cv)).length ≤ 1048576 := by simpa using hn
      have hx' : ∀ x ∈ ls.map (List.map cv), x.length ≤ 1048576 := by
        intro x hxm
        obtain ⟨y, hy, rfl⟩ := List.mem_map.1 hxm
        simpa using hx y hy
      refine Ev.bind (toIntS_ev m hm) (Ev.bind hc (Ev.bind (specSeqOk_ev _ _ hm hn' hx') (Ev.bind (toIntS_ev m hm) (Ev.bind hc (Ev.bind (implSeqOk_ev _ _ hn' hx') ?_)))))
      simp only [bne_self_eq_false, Bool.false_eq_true, if_false]
      refine Ev.bind (toIntS_ev m hm) (Ev.bind (eqIntS_ev m hm) ?_)
      simp only [if_true]
      refine Ev.bind hc (Ev.bind (eqDidSS_ev _ hn' hx') ?_)
      simp only [if_true]
      exact Ev.now _

end Go.Proofs.Ytfanefgkeaapgaa.PFnExactSeqOk
