/- Plain facts for the law FnExactTraceRead; no condition of their own. -/
import Derived.Test.YtplfplmomioffaaDoorPFnExactTraceReadx4
namespace Go.Proofs.YtplfplmomioffaaDoor.PFnExactTraceRead
open Go.RowKit Go.Proofs.YtplfplmomioffaaDoorW.PrintWords
set_option linter.unusedVariables false
set_option linter.unusedSimpArgs false

/-! ### words that blanks part -/
theorem index_hit (c : UInt8) : ∀ (l : List UInt8) (j : Nat), l[j]? = some c → (∀ k, k < j → l[k]? ≠ some c) → Lib.index l [c] = j
  | [], j, h, _ => by simp at h
  | b :: l, 0, h, _ => by
    simp at h
    subst h
    simp [Lib.index, List.isPrefixOf]
  | b :: l, j + 1, h, hn => by
    have hb : b ≠ c := by have := hn 0 (by omega); simpa using this
    have := index_hit c l j (by simpa using h) (fun k hk => by simpa using hn (k + 1) (by omega))
    have hp : ([c] : List UInt8).isPrefixOf (b :: l) = false := by simp [List.isPrefixOf, Ne.symm hb]
    rw [Lib.index, hp, this]
    simp
theorem index_miss (c : UInt8) : ∀ (l : List UInt8), (∀ k : Nat, l[k]? ≠ some c) → Lib.index l [c] = -1
  | [], _ => by simp [Lib.index]
  | b :: l, hn => by
    have hb : b ≠ c := by have := hn 0; simpa using this
    have := index_miss c l (fun k => by simpa using hn (k + 1))
    have hp : ([c] : List UInt8).isPrefixOf (b :: l) = false := by simp [List.isPrefixOf, Ne.symm hb]
    rw [Lib.index, hp, this]
    simp
theorem extract_at (s : ByteArray) (a b k : Nat) (hb : b ≤ s.size) : (s.extract a b).data.toList[k]? = if a + k < b then s.data.toList[a + k]? else none := by
  rw [Lib.extract_data]
  simp [List.getElem?_take, List.getElem?_drop]
  try grind
theorem bt_list (s : ByteArray) (i : Nat) (h : i < s.size) : ∃ b : UInt8, s.data.toList[i]? = some b ∧ bt s (i : Int) = (b.toNat : Int) := by
  have h' : i < s.data.toList.length := by simpa using h
  refine ⟨s.data.toList[i], List.getElem?_eq_getElem h', ?_⟩
  unfold bt
  rw [dif_pos (by simpa using h)]
  simp
  rfl
/-- The words that a sign parts. -/
def wordsC (c : UInt8) (a0 : ByteArray) : List ByteArray := Lib.splitB ⟨#[c]⟩ 0 (Lib.countB a0 ⟨#[c]⟩) a0
theorem words_er (a0 : ByteArray) : er_words a0 = wordsC 32 a0 := rfl
theorem words_miss (c : UInt8) (s : ByteArray) (h : Lib.indexB s ⟨#[c]⟩ = -1) : wordsC c s = [s] := Lib.splitB_miss _ _ _ _ h
theorem words_hit (c : UInt8) (s : ByteArray) (i : Nat) (h : Lib.indexB s ⟨#[c]⟩ = i) : wordsC c s = s.extract 0 i :: wordsC c (s.extract (i + 1) s.size) := by
  unfold wordsC
  rw [Lib.countB_hit s ⟨#[c]⟩ i (by simp [ByteArray.size]) h, Nat.add_comm 1, Lib.splitB_hit _ _ _ _ i h]
  rfl
theorem ex_ex (s : ByteArray) (a b c d : Nat) (hb : b ≤ s.size) (hd : a + d ≤ b) : (s.extract a b).extract c d = s.extract (a + c) (a + d) := by
  apply ByteArray.ext
  apply Array.ext'
  apply List.ext_getElem?
  intro k
  rw [extract_at (s.extract a b) c d k (by rw [ByteArray.size_extract]; omega), extract_at s a b (c + k) hb, extract_at s (a + c) (a + d) k (by omega)]
  split <;> split <;> first | rfl | omega | (split <;> first | omega | (congr 1; omega)) | skip
theorem cut_ev (c : UInt8) (a0 : ByteArray) (hs : a0.size ≤ 1048576) : Ev (fun k => spec_l28Cut.f k a0 (c.toNat : Int)) (wordsC c a0) := by
  have key : ∀ (d st pos : Nat) (acc : List ByteArray), pos + d = a0.size → st ≤ pos → acc.length ≤ st → (∀ k : Nat, st ≤ k → k < pos → a0.data.toList[k]? ≠ some c) →
      Ev (fun k => spec_l28Cut.l0 k a0 (c.toNat : Int) acc (st : Int) (pos : Int)) (acc ++ wordsC c (a0.extract st a0.size)) := by
    intro d
    induction d with
    | zero =>
      intro st pos acc hp hst ha hno
      have hix : Lib.indexB (a0.extract st a0.size) ⟨#[c]⟩ = -1 := by
        refine index_miss c _ fun k => ?_
        rw [extract_at _ _ _ _ (Nat.le_refl _)]
        split
        · exact hno _ (by omega) (by omega)
        · simp
      rw [words_miss c _ hix]
      refine Ev.step (f := fun k => spec_l28Cut.l0 k a0 (c.toNat : Int) (acc ++ [a0.extract st a0.size]) ((pos + 1 : Nat) : Int) ((pos + 1 : Nat) : Int)) (fun k => ?_) (Ev.step (f := fun _ => some _) (fun k => ?_) (Ev.now _))
      · simp only [spec_l28Cut.l0]
        rw [if_pos (by omega), if_pos (by omega), if_pos (by omega), if_pos (by omega), if_pos (by omega)]
        have : wrap64 ((pos : Int) + 1) = ((pos + 1 : Nat) : Int) := by unfold wrap64; omega
        rw [this, Int.toNat_natCast, Int.toNat_natCast, show pos = a0.size by omega]
      · simp only [spec_l28Cut.l0]
        rw [if_neg (by omega)]
    | succ d ih =>
      intro st pos acc hp hst ha hno
      obtain ⟨b, hb, hbt⟩ := bt_list a0 pos (by omega)
      have hw : wrap64 ((pos : Int) + 1) = ((pos + 1 : Nat) : Int) := by unfold wrap64; omega
      by_cases h32 : c = b
      · cases h32
        have hix : Lib.indexB (a0.extract st a0.size) ⟨#[c]⟩ = ((pos - st : Nat) : Int) := by
          refine index_hit c _ _ ?_ fun k hk => ?_
          · rw [extract_at _ _ _ _ (Nat.le_refl _), if_pos (by omega), show st + (pos - st) = pos by omega, hb]
          · rw [extract_at _ _ _ _ (Nat.le_refl _)]
            split
            · exact hno _ (by omega) (by omega)
            · simp
        rw [words_hit c _ _ hix]
        rw [ex_ex a0 st a0.size 0 (pos - st) (Nat.le_refl _) (by omega), show (a0.extract st a0.size).size = a0.size - st by rw [ByteArray.size_extract]; omega, ex_ex a0 st a0.size (pos - st + 1) (a0.size - st) (Nat.le_refl _) (by omega)]
        rw [show st + 0 = st by omega, show st + (pos - st) = pos by omega, show st + (pos - st + 1) = pos + 1 by omega, show st + (a0.size - st) = a0.size by omega]
        have := ih (pos + 1) (pos + 1) (acc ++ [a0.extract st pos]) (by omega) (by omega) (by simp; omega) (fun k h1 h2 => by omega)
        rw [List.append_assoc, List.singleton_append] at this
        refine Ev.step (fun k => ?_) this
        simp only [spec_l28Cut.l0]
        rw [if_pos (by omega), if_neg (by omega), if_pos (by omega), if_pos (by omega), if_pos hbt, if_pos (by omega), if_pos (by omega), if_pos (by omega), hw, Int.toNat_natCast, Int.toNat_natCast]
      · refine Ev.step (fun k => ?_) (ih st (pos + 1) acc (by omega) (by omega) ha (fun k h1 h2 => ?_))
        · simp only [spec_l28Cut.l0]
          rw [if_pos (by omega), if_neg (by omega), if_pos (by omega), if_pos (by omega), if_neg, hw]
          rw [hbt]
          intro e
          apply Ne.symm h32
          have e' : b.toNat = c.toNat := by omega
          exact UInt8.toNat_inj.1 e'
        · by_cases hk : k = pos
          · subst hk; rw [hb]; simpa using Ne.symm h32
          · exact hno k h1 (by omega)
  have h0 := key a0.size 0 0 [] (by omega) (by omega) (by simp) (fun k h1 h2 => by omega)
  have e : a0.extract 0 a0.size = a0 := by
    apply ByteArray.ext
    apply Array.ext'
    apply List.ext_getElem?
    intro k
    rw [extract_at _ _ _ _ (Nat.le_refl _)]
    simp
    try grind
  rw [e] at h0
  exact h0
end Go.Proofs.YtplfplmomioffaaDoor.PFnExactTraceRead
