/- Plain facts for the law FnExactTraceRead; no condition of their own. -/
import Derived.Test.YtplfplmomioffaaDoorTrPlain1
namespace Go.Proofs.YtplfplmomioffaaDoor.PFnExactTraceRead
open Go.RowKit Go.Proofs.YtplfplmomioffaaDoorW.PrintWords
set_option linter.unusedVariables false
set_option linter.unusedSimpArgs false

/-! ### numbers and their digits -/
theorem digits_ev (n : Nat) : ∀ (x : ByteArray), 0 < n → x.size + n ≤ 1000000000 → Ev (fun k => spec_l16Digits.l0 k (n : Int) x) (⟨(dec n).toArray⟩ ++ x) := by
  induction n using Nat.strongRecOn with
  | _ n ih =>
  intro x hn hx
  have e1 : Int.tmod (n : Int) 10 = ((n % 10 : Nat) : Int) := by
    rw [Int.tmod_eq_emod_of_nonneg (by omega)]; omega
  have e2 : wrap64 (Int.tdiv (n : Int) 10) = ((n / 10 : Nat) : Int) := by
    rw [Int.tdiv_eq_ediv_of_nonneg (by omega)]; unfold wrap64; omega
  have e3 : wrap64 (48 + ((n % 10 : Nat) : Int)) % 256 = ((48 + n % 10 : Nat) : Int) := by unfold wrap64; omega
  have es : (strOfNums [((48 + n % 10 : Nat) : Int)]) = ⟨#[(48 + n % 10).toUInt8]⟩ := by
    unfold strOfNums
    simp only [List.map_cons, List.map_nil, Int.toNat_natCast]
    try rfl
  have st : ∀ k, spec_l16Digits.l0 (k + 1) (n : Int) x = spec_l16Digits.l0 k ((n / 10 : Nat) : Int) (⟨#[(48 + n % 10).toUInt8]⟩ ++ x) := by
    intro k
    simp only [spec_l16Digits.l0, Option.bind_some]
    rw [if_pos (by omega), e1, e2, e3, es, if_pos]
    have : (⟨#[(48 + n % 10).toUInt8]⟩ : ByteArray).size = 1 := rfl
    omega
  refine Ev.step st ?_
  by_cases h : n < 10
  · refine Ev.step (f := fun _ => some _) (fun k => ?_) (Ev.now _)
    simp only [spec_l16Digits.l0]
    rw [if_neg (by omega), dec, dif_pos h, show n % 10 = n by omega]
  · have := ih (n / 10) (by omega) (⟨#[(48 + n % 10).toUInt8]⟩ ++ x) (by omega) (by
      have : (⟨#[(48 + n % 10).toUInt8]⟩ : ByteArray).size = 1 := rfl
      rw [ByteArray.size_append]; omega)
    rw [dec, dif_neg h]
    have e : (⟨(dec (n / 10) ++ [(48 + n % 10).toUInt8]).toArray⟩ : ByteArray) ++ x = ⟨(dec (n / 10)).toArray⟩ ++ (⟨#[(48 + n % 10).toUInt8]⟩ ++ x) := by
      rw [← ByteArray.append_assoc]
      congr 1
      try (apply ByteArray.ext; simp)
    rw [e]
    exact this
theorem digits_f_ev (n : Nat) (hn : n ≤ 99999) : Ev (fun k => spec_l16Digits.f k (n : Int)) ⟨(dec n).toArray⟩ := by
  by_cases h : n = 0
  · subst h
    refine Ev.congr (f := fun _ => some _) (fun k => ?_) (Ev.now _)
    simp only [spec_l16Digits.f]
    rw [if_pos (by omega), dec, dif_pos (by omega)]
    try rfl
  · have := digits_ev n ⟨#[]⟩ (by omega) (by simp [ByteArray.size]; omega)
    have e : (⟨(dec n).toArray⟩ : ByteArray) ++ ⟨#[]⟩ = ⟨(dec n).toArray⟩ := by
      apply ByteArray.ext
      simp
    rw [e] at this
    refine Ev.congr (fun k => ?_) this
    simp only [spec_l16Digits.f]
    rw [if_neg (by omega)]

theorem bad_ev (x : ByteArray) (h : x.toList = ([] : List UInt8) ∨ 5 < x.size) : ∀ (d i : Nat) (v : Int), i + d = 5 → i ≤ x.size → Ev (fun k => spec_l28Num.l0 k x v (i : Int)) (-2) := by
  intro d
  induction d with
  | zero =>
    intro i v hi hs
    refine Ev.step (f := fun _ => some (-2)) (fun k => ?_) (Ev.now _)
    simp only [spec_l28Num.l0]
    by_cases hlt : (i : Int) < (x.size : Int)
    · rw [if_pos hlt, if_pos (by omega)]
      split
      · rfl
      · split
        · rfl
        · rw [if_pos (by omega)]
    · rw [if_neg hlt, if_pos (h.resolve_right (by omega))]
  | succ d ih =>
    intro i v hi hs
    by_cases hlt : (i : Int) < (x.size : Int)
    · by_cases h1 : bt x i < 48
      · refine Ev.step (f := fun _ => some (-2)) (fun k => ?_) (Ev.now _)
        simp only [spec_l28Num.l0]
        rw [if_pos hlt, if_pos (by omega), if_pos h1]
      · by_cases h2 : bt x i > 57
        · refine Ev.step (f := fun _ => some (-2)) (fun k => ?_) (Ev.now _)
          simp only [spec_l28Num.l0]
          rw [if_pos hlt, if_pos (by omega), if_neg h1, if_pos h2]
        · refine Ev.step (fun k => ?_) (ih (i + 1) (wrap64 ((wrap64 ((wrap64 (10 * v)) + (wrap64 (bt x i)))) - 48)) (by omega) (by omega))
          simp only [spec_l28Num.l0]
          rw [if_pos hlt, if_pos (by omega), if_neg h1, if_neg h2, if_neg (by omega)]
          have : wrap64 ((i : Int) + 1) = ((i + 1 : Nat) : Int) := by unfold wrap64; omega
          rw [this]
    · refine Ev.step (f := fun _ => some (-2)) (fun k => ?_) (Ev.now _)
      simp only [spec_l28Num.l0]
      rw [if_neg hlt, if_pos (h.resolve_right (by omega))]

theorem wr_in (x : Int) (h0 : -9223372036854775808 ≤ x) (h1 : x ≤ 9223372036854775807) : wrap64 x = x := by unfold wrap64; omega
theorem stepS (v c : Nat) (hv : v < 100000) (hc : c ≤ 9) : wrap64 ((wrap64 ((wrap64 (10 * (v : Int))) + (wrap64 ((c : Int) + 48)))) - 48) = ((10 * v + c : Nat) : Int) := by
  rw [wr_in (10 * (v : Int)) (by omega) (by omega), wr_in ((c : Int) + 48) (by omega) (by omega), wr_in (10 * (v : Int) + ((c : Int) + 48)) (by omega) (by omega), wr_in _ (by omega) (by omega)]
  omega
theorem stepI (v c : Nat) (hv : v < 100000) (hc : c ≤ 9) : wrap64 ((wrap64 (10 * (v : Int))) + (((c : Int) + 48 - 48) % 256)) = ((10 * v + c : Nat) : Int) := by
  rw [wr_in (10 * (v : Int)) (by omega) (by omega), show ((c : Int) + 48 - 48) % 256 = c by omega, wr_in _ (by omega) (by omega)]
  omega
/-- What the two ways to read a number have in common. -/
def relN (S x : Int) (ok : Bool) : Prop := if ok = true then 0 ≤ x ∧ S = (if x > 65535 then -2 else x) else S = -2
theorem pair_ev (x : ByteArray) (hs : x.size ≤ 5) (h0 : ¬ x.toList = ([] : List UInt8)) : ∀ (d i v : Nat), i + d = x.size → v < 10 ^ i →
    ∃ S a ok, Ev (fun k => spec_l28Num.l0 k x (v : Int) (i : Int)) S ∧ Ev (fun k => impl_number.l0 k x (v : Int) (x.size : Int) (i : Int)) (a, ok) ∧ relN S a ok := by
  intro d
  induction d with
  | zero =>
    intro i v hi hv
    have hv' : v ≤ 99999 := by
      have : (10 : Nat) ^ i ≤ 10 ^ 5 := Nat.pow_le_pow_right (by omega) (by omega)
      omega
    by_cases hd : x.toList = (⟨(dec v).toArray⟩ : ByteArray).toList
    · refine ⟨if (v : Int) > 65535 then -2 else v, v, true, ?_, ?_, ?_⟩
      · by_cases hb : (v : Int) > 65535
        · rw [if_pos hb]
          refine Ev.step (f := fun _ => some (-2)) (fun k => ?_) (Ev.now _)
          simp only [spec_l28Num.l0]
          rw [if_neg (by omega), if_neg h0, if_pos hb]
        · rw [if_neg hb]
          refine Ev.step (f := fun k => (spec_l16Digits.f k (v : Int)).bind fun t => if x.toList = t.toList then some (v : Int) else some (-2)) (fun k => ?_) ((digits_f_ev v hv').bind ?_)
          · simp only [spec_l28Num.l0]
            rw [if_neg (by omega), if_neg h0, if_neg hb]
          · refine Ev.congr (f := fun _ => some _) (fun k => ?_) (Ev.now _)
            exact if_pos hd
      · refine Ev.step (f := fun _ => some _) (fun k => ?_) (Ev.now _)
        simp only [impl_number.l0, impl_digits.f]
        rw [if_neg (by omega), if_pos (by omega)]
        simp [hd]
      · simp [relN]
    · refine ⟨-2, v, false, ?_, ?_, rfl⟩
      · by_cases hb : (v : Int) > 65535
        · refine Ev.step (f := fun _ => some (-2)) (fun k => ?_) (Ev.now _)
          simp only [spec_l28Num.l0]
          rw [if_neg (by omega), if_neg h0, if_pos hb]
        · refine Ev.step (f := fun k => (spec_l16Digits.f k (v : Int)).bind fun t => if x.toList = t.toList then some (v : Int) else some (-2)) (fun k => ?_) ((digits_f_ev v hv').bind ?_)
          · simp only [spec_l28Num.l0]
            rw [if_neg (by omega), if_neg h0, if_neg hb]
          · refine Ev.congr (f := fun _ => some _) (fun k => ?_) (Ev.now _)
            exact if_neg hd
      · refine Ev.step (f := fun _ => some _) (fun k => ?_) (Ev.now _)
        simp only [impl_number.l0, impl_digits.f]
        rw [if_neg (by omega), if_pos (by omega)]
        simp only [Int.toNat_natCast, Option.bind_some]
        congr 2
        exact beq_eq_false_iff_ne.2 (fun e => hd e.symm)
  | succ d ih =>
    intro i v hi hv
    have hr := bt_range x i
    by_cases hbad : bt x i < 48 ∨ bt x i > 57
    · refine ⟨-2, 0, false, ?_, ?_, rfl⟩
      · refine Ev.step (f := fun _ => some (-2)) (fun k => ?_) (Ev.now _)
        simp only [spec_l28Num.l0]
        rw [if_pos (by omega), if_pos (by omega)]
        split
        · rfl
        · rw [if_pos (by omega)]
      · refine Ev.step (f := fun _ => some (0, false)) (fun k => ?_) (Ev.now _)
        simp only [impl_number.l0]
        rw [if_pos (by omega), if_pos (by omega), if_pos (by omega)]
        split
        · rfl
        · rw [if_pos (by omega)]
    · have hv' : v < 10 ^ 5 := Nat.lt_of_lt_of_le hv (Nat.pow_le_pow_right (by omega) (by omega))
      obtain ⟨c, hc⟩ : ∃ c : Nat, bt x i = (c : Int) + 48 ∧ c ≤ 9 := ⟨(bt x i - 48).toNat, by omega⟩
      have hpow : ∀ c : Nat, c ≤ 9 → 10 * v + c < 10 ^ (i + 1) := fun c hc => by rw [Nat.pow_succ]; omega
      clear hv
      have hv : v < 100000 := by simpa using hv'
      clear hv'
      have hw : wrap64 ((i : Int) + 1) = ((i + 1 : Nat) : Int) := by unfold wrap64; omega
      obtain ⟨S, a, ok, hS, hA, hrel⟩ := ih (i + 1) (10 * v + c) (by omega) (hpow c hc.2)
      refine ⟨S, a, ok, ?_, ?_, hrel⟩
      · refine Ev.step (fun k => ?_) hS
        simp only [spec_l28Num.l0]
        rw [if_pos (by omega), if_pos (by omega), if_neg (by omega), if_neg (by omega), if_neg (by omega), hw]
        rw [hc.1, stepS v c (by omega) hc.2]
      · refine Ev.step (fun k => ?_) hA
        simp only [impl_number.l0]
        rw [if_pos (by omega), if_pos (by omega), if_pos (by omega), if_neg (by omega), if_neg (by omega), hw]
        rw [hc.1, stepI v c (by omega) hc.2]
theorem number_ev (x : ByteArray) : ∃ S a ok, Ev (fun k => spec_l28Num.f k x) S ∧ Ev (fun k => impl_number.f k x 5) (a, ok) ∧ (x.toList = [45] → S = -1) ∧ (¬ x.toList = [45] → relN S a ok) := by
  obtain ⟨S, a, ok, hS, hA, hrel⟩ : ∃ S a ok, Ev (fun k => spec_l28Num.l0 k x 0 0) S ∧ Ev (fun k => impl_number.f k x 5) (a, ok) ∧ relN S a ok := by
    by_cases hb : x.toList = ([] : List UInt8) ∨ 5 < x.size
    · refine ⟨-2, 0, false, bad_ev x hb 5 0 0 rfl (by omega), ?_, rfl⟩
      by_cases h0 : x.toList = ([] : List UInt8)
      · refine Ev.congr (f := fun k => impl_number.j0 k x true) (fun k => ?_) (Ev.step (f := fun _ => some _) (fun k => ?_) (Ev.now _))
        · simp only [impl_number.f]; rw [if_pos h0]
        · simp [impl_number.j0]
      · refine Ev.congr (f := fun k => impl_number.j0 k x true) (fun k => ?_) (Ev.step (f := fun _ => some _) (fun k => ?_) (Ev.now _))
        · simp only [impl_number.f]; rw [if_neg h0, decide_eq_true (by have := hb.resolve_left h0; omega)]
        · simp [impl_number.j0]
    · have h0 : ¬ x.toList = ([] : List UInt8) := fun h => hb (.inl h)
      obtain ⟨S, a, ok, hS, hA, hrel⟩ := pair_ev x (by omega) h0 x.size 0 0 (by omega) (by decide)
      refine ⟨S, a, ok, hS, ?_, hrel⟩
      refine Ev.congr (f := fun k => impl_number.j0 k x false) (fun k => ?_) (Ev.step (fun k => ?_) hA)
      · simp only [impl_number.f]; rw [if_neg h0, decide_eq_false (by omega)]
      · simp [impl_number.j0]
  by_cases hd : x.toList = [45]
  · refine ⟨-1, a, ok, ?_, hA, fun _ => rfl, fun h => absurd hd h⟩
    refine Ev.congr (f := fun _ => some _) (fun k => ?_) (Ev.now _)
    simp only [spec_l28Num.f]; rw [if_pos hd]
  · refine ⟨S, a, ok, ?_, hA, fun h => absurd h hd, fun _ => hrel⟩
    refine Ev.congr (fun k => ?_) hS
    simp only [spec_l28Num.f]; rw [if_neg hd]
/-- Is a number in the bounds of its place, by the reference? -/
def okS (i : Nat) (S : Int) : Bool := if i < 2 then decide (0 ≤ S) && decide (S ≤ 99) else decide (-1 ≤ S)
theorem word_ev (x : ByteArray) (i : Nat) : ∃ S a ok, Ev (fun k => spec_l28Num.f k x) S ∧ Ev (fun k => impl_number.f k x 5) (a, ok) ∧ er_numOf i x a ok = if okS i S = true then some S else none := by
  obtain ⟨S, a, ok, hS, hA, h1, h2⟩ := number_ev x
  refine ⟨S, a, ok, hS, hA, ?_⟩
  unfold er_numOf
  by_cases hd : x.toList = [45]
  · rw [if_pos hd, h1 hd]
    unfold er_inPlace okS
    by_cases hi : i < 2 <;> simp [hi]
  · rw [if_neg hd]
    have hrel := h2 hd
    unfold relN at hrel
    cases ok with
    | false =>
      simp at hrel
      subst hrel
      unfold okS
      by_cases hi : i < 2 <;> simp [hi]
    | true =>
      simp only [if_true] at hrel
      obtain ⟨h0, rfl⟩ := hrel
      by_cases hb : a > 65535
      · rw [if_pos hb, if_neg, if_neg]
        · unfold okS; by_cases hi : i < 2 <;> simp [hi]
        · unfold er_inPlace; by_cases hi : i < 2 <;> simp [hi] <;> omega
      · rw [if_neg hb]
        unfold er_inPlace okS
        by_cases hi : i < 2
        · simp [hi]
        · simp [hi]
          have : a ≤ 65535 ∧ -1 ≤ a := by omega
          simp [this]
end Go.Proofs.YtplfplmomioffaaDoor.PFnExactTraceRead
