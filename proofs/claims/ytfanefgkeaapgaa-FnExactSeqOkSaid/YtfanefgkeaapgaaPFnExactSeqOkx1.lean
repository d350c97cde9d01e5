/- Contracts of the program's functions, by a program of the prover's own; Lean checks each. -/
import Derived.Test.YtfanefgkeaapgaaPFnExactSeqOkx0
namespace Go.Proofs.Ytfanefgkeaapgaa.PFnExactSeqOk
open Go.RowKit Go.Proofs.YtfanefgkeaapgaaW.PrintWords Go.Proofs.YtfanefgkeaapgaaW.PrintLast Go.Proofs.YtfanefgkeaapgaaW.PrintMore
attribute [local go_sem] max2_int min2_int max_two min_two max_three min_three max_four min_four   -- for this text's walks alone
set_option linter.unusedVariables false
set_option linter.unusedSimpArgs false

/-! ### words of this prover's own: function 0 -/
/-- One cell of a row of the call's own is written (elements of one cell). -/
theorem Kd.R_put1 {α : Type} {d : Kd α} {e : Nat} {W : World} {base : Nat} {ok okp : Nat → Prop} {g n cap : Nat} {xs : List α} (hs : d.sz = 1) (h : d.R e W base ok (.slice (some ⟨g, 0, none⟩) n cap) xs) (i : Nat) (h1 : i < n) (z x' : α) (u : Value)
    (hM : d.M W base okp x' [u]) (hokp : ∀ k, okp k → ok k ∧ k ≠ g) :
    (∃ v, W.cell? ⟨g, i, none⟩ = some v) ∧ W.frozen? ⟨g, i, none⟩ = false ∧ d.R e (W.setCell ⟨g, i, none⟩ u) base ok (.slice (some ⟨g, 0, none⟩) n cap) (xs.set i x') ∧ W.grownBy (W.setCell ⟨g, i, none⟩ u) (some g) := by
  have h0 : (0 : Int) ≤ (i : Int) := by omega
  have h1' : (i : Int) < n := by omega
  obtain ⟨c, hcl, hm, hcc, hfr⟩ := Kd.R_elem h z (i : Int) h0 h1'
  have hf0 := hfr 0
  have hc0 : ∃ v, c[0]? = some v := by
    rw [hs] at hcl
    match c, hcl with
    | [v], _ => exact ⟨v, rfl⟩
  obtain ⟨v, hv⟩ := hc0
  have hcv := hcc 0 v hv
  rw [Int.toNat_natCast, hs, Nat.mul_one, Nat.add_zero] at hcv hf0
  have hr := Kd.R_seg (j := 0) (seg := [u]) h (i : Int) h0 h1' hcl hcc (by rw [hs]; simp) (x' := x') (okp := okp) (by
    have : c.drop 1 = [] := by rw [List.drop_eq_nil_of_le]; omega
    simpa [this] using hM) hokp
  rw [Int.toNat_natCast, hs, Nat.mul_one, Nat.add_zero] at hr
  exact ⟨⟨v, hcv⟩, hf0, hr⟩
/-- An element of a row of rows that is read. -/
theorem at_row {α : Type} {d : Kd α} {e : Nat} {w : World} {A : Option Addr} {n : Nat} {xs : List (List α)} (h : Kd.C (Kd.slice e d) w A n xs) (i : Nat) (h1 : i < xs.length) :
    ∃ ad A0 c0, A = some ad ∧ w.cell? (ad.add i) = some (.slice A0 (xs[i]).length c0) ∧ (xs[i]).length ≤ c0 ∧ d.C w A0 (xs[i]).length xs[i] := by
  have hn := h.1
  obtain ⟨ad, c, he, _, hK, hc0⟩ := Kd.C_get h ([] : List α) (i : Int) (by omega) (by omega)
  rw [Int.toNat_natCast] at hc0 hK
  have hg : xs.getD i [] = xs[i] := by simp [List.getD_eq_getElem?_getD, h1]
  rw [hg] at hK
  obtain ⟨A0, c0, rfl, l0, g0⟩ := hK
  have hq := hc0 0 _ rfl
  rw [show (Kd.slice e d).sz = 1 from rfl, Nat.mul_one, Nat.add_zero] at hq
  exact ⟨ad, A0, c0, he, hq, l0, g0⟩

/-! ### laws_szDidS: function 22 -/
def laws_szDidS.f (l0 : List (S78)) (a1 : Int) : Option (Int) := if (wrap64 (a1 - (l0.length : Int))) < 0 then (some (-1)) else (some (wrap64 (a1 - (l0.length : Int))))
set_option maxHeartbeats 8000000 in
set_option maxRecDepth 100000 in
theorem laws_szDidS.calls (A0 : Option Addr) (c0 : Nat) (l0 : List (S78)) (a1 : Int) (r : Int) (w : World) (hr0 : Kd.C k78 w A0 l0.length l0) (hc0 : l0.length ≤ c0) (h : laws_szDidS.f l0 a1 = some r) :
    Calls Try.prog 22 #[.slice A0 l0.length c0, .int .i64 a1] w fun e w' => e = .returned (.int .i64 r) ∧ Drawn0 w w' := by
  have HR0 := Aside0.mk hr0
  have HC0 := Aside0.mk hc0
  clear hr0 hc0
  have H : (if (wrap64 (a1 - (l0.length : Int))) < 0 then (some (-1)) else (some (wrap64 (a1 - (l0.length : Int))))) = some r := h
  clear h
  by_cases c3 : (wrap64 (a1 - (l0.length : Int))) < 0
  · rw [if_pos c3] at H
    have c3b0 : decide ((wrap64 (a1 - (l0.length : Int))) < 0) = true := decide_eq_true c3
    clear c3
    obtain rfl := Option.some.inj H
    go_enter Try.func22, Try.ntmps22
    go_wp2
    go_ret
    exact ⟨by first | rfl | (simp; done) | (simp [*]; done), by repeat (first | exact Drawn0.refl _ | apply Drawn0.step)⟩
  · rw [if_neg c3] at H
    have c3b0 : decide ((wrap64 (a1 - (l0.length : Int))) < 0) = false := decide_eq_false c3
    clear c3
    obtain rfl := Option.some.inj H
    go_enter Try.func22, Try.ntmps22
    go_wp2
    go_ret
    exact ⟨by first | rfl | (simp; done) | (simp [*]; done), by repeat (first | exact Drawn0.refl _ | apply Drawn0.step)⟩

/-! ### laws_szDidSS: function 5 -/
def laws_szDidSS.l0 : Nat → List (List (S78)) → Int → Int → Option (Int)
  | 0, _, _, _ => none
  | k + 1, x0, x1, x5 => if x5 < (x0.length : Int) then (if 0 ≤ x5 then ((laws_szDidS.f (rd_L2 x0 x5) x1).bind fun t102 => (if t102 < 0 then (some (-1)) else (laws_szDidSS.l0 k x0 t102 (wrap64 (x5 + 1))))) else (none)) else (some x1)
def laws_szDidSS.f (k : Nat) (l0 : List (List (S78))) (a1 : Int) : Option (Int) := if (wrap64 (a1 - (l0.length : Int))) < 0 then (some (-1)) else (laws_szDidSS.l0 k l0 (wrap64 (a1 - (l0.length : Int))) 0)
theorem laws_szDidSS.mono_l : ∀ k, (∀ y0 y1 y2, LeO (laws_szDidSS.l0 k y0 y1 y2) (laws_szDidSS.l0 (k + 1) y0 y1 y2))
  | 0 => fun _ _ _ r h => by simp [laws_szDidSS.l0] at h
  | k + 1 => by
    have ih0 := laws_szDidSS.mono_l k
    · intro y0 y1 y2
      unfold laws_szDidSS.l0
      repeat' first
      | (with_reducible exact ih0 _ _ _)
      | (with_reducible exact LeO.refl _)
      | (with_reducible exact LeO.none _)
      | (with_reducible refine LeO.ite ?_ ?_)
      | (with_reducible refine LeO.bind ?_ (fun _ => ?_))
      | exact ih0 _ _ _
      | exact LeO.none _
      | refine LeO.ite ?_ ?_
      | refine LeO.bind ?_ (fun _ => ?_)
theorem laws_szDidSS.mono : ∀ a0 a1 k, LeO (laws_szDidSS.f k a0 a1) (laws_szDidSS.f (k + 1) a0 a1) := by
  intro a0 a1 k
  have ih0 := laws_szDidSS.mono_l k
  unfold laws_szDidSS.f
  repeat' first
      | (with_reducible exact ih0 _ _ _)
      | (with_reducible exact LeO.refl _)
      | (with_reducible exact LeO.none _)
      | (with_reducible refine LeO.ite ?_ ?_)
      | (with_reducible refine LeO.bind ?_ (fun _ => ?_))
      | exact ih0 _ _ _
      | exact LeO.none _
      | refine LeO.ite ?_ ?_
      | refine LeO.bind ?_ (fun _ => ?_)
set_option maxHeartbeats 8000000 in
set_option maxRecDepth 100000 in
theorem laws_szDidSS.calls (k : Nat) (A0 : Option Addr) (c0 : Nat) (l0 : List (List (S78))) (a1 : Int) (r : Int) (w : World) (hr0 : Kd.C (Kd.slice 78 k78) w A0 l0.length l0) (hc0 : l0.length ≤ c0) (h : laws_szDidSS.f k l0 a1 = some r) :
    Calls Try.prog 5 #[.slice A0 l0.length c0, .int .i64 a1] w fun e w' => e = .returned (.int .i64 r) ∧ Drawn0 w w' := by
  have HR0 := Aside0.mk hr0
  have HC0 := Aside0.mk hc0
  clear hr0 hc0
  have H : (if (wrap64 (a1 - (l0.length : Int))) < 0 then (some (-1)) else (laws_szDidSS.l0 k l0 (wrap64 (a1 - (l0.length : Int))) 0)) = some r := h
  clear h
  by_cases c3 : (wrap64 (a1 - (l0.length : Int))) < 0
  · rw [if_pos c3] at H
    have c3b0 : decide ((wrap64 (a1 - (l0.length : Int))) < 0) = true := decide_eq_true c3
    clear c3
    obtain rfl := Option.some.inj H
    go_enter Try.func5, Try.ntmps5
    go_wp2
    go_ret
    exact ⟨by first | rfl | (simp; done) | (simp [*]; done), by repeat (first | exact Drawn0.refl _ | apply Drawn0.step)⟩
  · rw [if_neg c3] at H
    have c3b0 : decide ((wrap64 (a1 - (l0.length : Int))) < 0) = false := decide_eq_false c3
    clear c3
    have H' := Aside0.mk H
    clear H
    go_enter Try.func5, Try.ntmps5
    go_wp2
    go_loopg [1, 5] k (fun kq v1 v5 w' => ∃ (x1_1 : Int) (x5_1 : Int), v1 = .int .i64 x1_1 ∧ v5 = .int .i64 x5_1 ∧ Aside0 (laws_szDidSS.l0 kq l0 x1_1 x5_1 = some r) ∧ Aside0 (kq ≤ k) ∧ Drawn0 w w')
    case atStart => exact ⟨(wrap64 (a1 - (l0.length : Int))), (0), (by first | rfl | (simp; done) | (simp [*]; done)), (by first | rfl | (simp; done) | (simp [*]; done)), H', ⟨Nat.le_refl _⟩, by repeat (first | exact Drawn0.refl _ | apply Drawn0.step)⟩
    case round =>
      clear H'
      try clear p2
      try clear c3
      try clear c3b0
      obtain ⟨x1_1, x5_1, rfl, rfl, HA, HK1, ⟨m1, rfl⟩⟩ := hrel
      cases gk with
      | zero => exact absurd HA.out (by simp [laws_szDidSS.l0])
      | succ k1 =>
        have H := HA.out
        clear HA
        simp only [laws_szDidSS.l0] at H
        by_cases c4 : x5_1 < (l0.length : Int)
        · rw [if_pos c4] at H
          have c4b0 : decide (x5_1 < (l0.length : Int)) = true := decide_eq_true c4
          clear c4
          by_cases c5 : 0 ≤ x5_1
          · rw [if_pos c5] at H
            have c5b0 : decide (0 ≤ x5_1) = true := decide_eq_true c5
            clear c5
            replace H := Option.bind_eq_some_iff.mp H
            obtain ⟨t102, A60, H⟩ := H
            replace H : (if t102 < 0 then (some (-1)) else (laws_szDidSS.l0 k1 l0 t102 (wrap64 (x5_1 + 1)))) = some r := H
            have A6 := Aside0.mk A60
            clear A60
            by_cases c7 : t102 < 0
            · rw [if_pos c7] at H
              have c7b0 : decide (t102 < 0) = true := decide_eq_true c7
              clear c7
              obtain rfl := Option.some.inj H
              have p101 : 0 ≤ (x5_1 : Int) := of_decide_eq_true (by first | (with_reducible assumption) | assumption)
              have q101 : x5_1 < (l0.length : Int) := of_decide_eq_true (by first | (with_reducible assumption) | assumption)
              obtain ⟨ad101, A101_0, c101_0, e101, hx101_0, hl101_0, hi101_0⟩ := at_L2 HR0.out x5_1 p101 q101
              cases e101
              have HR101_0 := Aside0.mk hi101_0
              have HC101_0 := Aside0.mk hl101_0
              clear hi101_0 hl101_0
              replace p101 := eq_true p101
              replace q101 := eq_true q101
              go_wp2_with (first | ((with_reducible refine gate_callee (f := 22) rfl ?_); refine goesL_ (some 23) rfl rfl Try.func22 (by kernel_rfl) rfl #[.slice A101_0 (rd_L2 l0 x5_1).length c101_0, .int .i64 x1_1] rfl (by (try simp only [List.map_toArray, List.map_cons, List.map_nil]); first | done | rfl | (simp only [List.length_drop, List.length_take]; rfl)) ?_; (with_reducible refine (laws_szDidS.calls _ _ (rd_L2 l0 x5_1) x1_1 t102 _ ?side1 ?side2 A6.out).mono ?_); (case side1 => repeat (first | exact HR101_0.out | (with_reducible refine Kd.C_alloc ?_ _) | (with_reducible refine Kd.C_drewN ?_ _) | (with_reducible refine Kd.C_drew ?_))); (case side2 => exact HC101_0.out); rintro e w' ⟨rfl, ⟨nd, rfl⟩⟩; refine ⟨_, rfl, ?_⟩))
              go_ret
              exact ⟨by first | rfl | (simp; done) | (simp [*]; done), by repeat (first | exact Drawn0.refl _ | apply Drawn0.step)⟩
            · rw [if_neg c7] at H
              have c7b0 : decide (t102 < 0) = false := decide_eq_false c7
              clear c7
              have H' := Aside0.mk H
              clear H
              have p101 : 0 ≤ (x5_1 : Int) := of_decide_eq_true (by first | (with_reducible assumption) | assumption)
              have q101 : x5_1 < (l0.length : Int) := of_decide_eq_true (by first | (with_reducible assumption) | assumption)
              obtain ⟨ad101, A101_0, c101_0, e101, hx101_0, hl101_0, hi101_0⟩ := at_L2 HR0.out x5_1 p101 q101
              cases e101
              have HR101_0 := Aside0.mk hi101_0
              have HC101_0 := Aside0.mk hl101_0
              clear hi101_0 hl101_0
              replace p101 := eq_true p101
              replace q101 := eq_true q101
              go_wp2_with (first | ((with_reducible refine gate_callee (f := 22) rfl ?_); refine goesL_ (some 23) rfl rfl Try.func22 (by kernel_rfl) rfl #[.slice A101_0 (rd_L2 l0 x5_1).length c101_0, .int .i64 x1_1] rfl (by (try simp only [List.map_toArray, List.map_cons, List.map_nil]); first | done | rfl | (simp only [List.length_drop, List.length_take]; rfl)) ?_; (with_reducible refine (laws_szDidS.calls _ _ (rd_L2 l0 x5_1) x1_1 t102 _ ?side1 ?side2 A6.out).mono ?_); (case side1 => repeat (first | exact HR101_0.out | (with_reducible refine Kd.C_alloc ?_ _) | (with_reducible refine Kd.C_drewN ?_ _) | (with_reducible refine Kd.C_drew ?_))); (case side2 => exact HC101_0.out); rintro e w' ⟨rfl, ⟨nd, rfl⟩⟩; refine ⟨_, rfl, ?_⟩))
              go_roundg k1
              case measure => have := HK1.out; omega
              case rel => exact ⟨(t102), (wrap64 (x5_1 + 1)), (by first | rfl | (simp; done) | (simp [*]; done)), (by first | rfl | (simp; done) | (simp [*]; done)), H', ⟨by have := HK1.out; omega⟩, by repeat (first | exact Drawn0.refl _ | apply Drawn0.step)⟩
          · rw [if_neg c5] at H
            exact absurd H (by simp)
        · rw [if_neg c4] at H
          have c4b0 : decide (x5_1 < (l0.length : Int)) = false := decide_eq_false c4
          clear c4
          obtain rfl := Option.some.inj H
          go_wp2
          go_ret
          exact ⟨by first | rfl | (simp; done) | (simp [*]; done), by repeat (first | exact Drawn0.refl _ | apply Drawn0.step)⟩

/-! ### spec_l1In: function 43 -/
def spec_l1In.f (a0 : Int) (a1 : Int) (a2 : Int) : Option (Bool) := if a0 ≥ a1 then (some (decide (a0 ≤ a2))) else (some false)
set_option maxHeartbeats 8000000 in
set_option maxRecDepth 100000 in
theorem spec_l1In.calls (a0 : Int) (a1 : Int) (a2 : Int) (r : Bool) (w : World) (h : spec_l1In.f a0 a1 a2 = some r) :
    Calls Try.prog 43 #[.int .i64 a0, .int .i64 a1, .int .i64 a2] w fun e w' => e = .returned (.bool r) ∧ Drawn0 w w' := by
  have H : (if a0 ≥ a1 then (some (decide (a0 ≤ a2))) else (some false)) = some r := h
  clear h
  by_cases c4 : a0 ≥ a1
  · rw [if_pos c4] at H
    have c4b0 : decide (a1 ≤ a0) = true := decide_eq_true c4
    clear c4
    obtain rfl := Option.some.inj H
    go_enter Try.func43, Try.ntmps43
    go_wp2
    go_ret
    exact ⟨by first | rfl | (simp; done) | (simp [*]; done), by repeat (first | exact Drawn0.refl _ | apply Drawn0.step)⟩
  · rw [if_neg c4] at H
    have c4b0 : decide (a1 ≤ a0) = false := decide_eq_false c4
    clear c4
    obtain rfl := Option.some.inj H
    go_enter Try.func43, Try.ntmps43
    go_wp2
    go_ret
    exact ⟨by first | rfl | (simp; done) | (simp [*]; done), by repeat (first | exact Drawn0.refl _ | apply Drawn0.step)⟩

/-! ### spec_l1Words: function 23 -/
def spec_l1Words.l0 : Nat → List Int → Int → Int → Option (Bool)
  | 0, _, _, _ => none
  | k + 1, x0, x1, x5 => if x5 < (x0.length : Int) then (if 0 ≤ x5 then ((spec_l1In.f (rd x0 x5) 0 65535).bind fun t104 => (if t104 = true then (spec_l1Words.l0 k x0 x1 (wrap64 (x5 + 1))) else (some false))) else (none)) else (some ((x0.length : Int) == x1))
def spec_l1Words.f (k : Nat) (l0 : List Int) (a1 : Int) : Option (Bool) := spec_l1Words.l0 k l0 a1 0
theorem spec_l1Words.mono_l : ∀ k, (∀ y0 y1 y2, LeO (spec_l1Words.l0 k y0 y1 y2) (spec_l1Words.l0 (k + 1) y0 y1 y2))
  | 0 => fun _ _ _ r h => by simp [spec_l1Words.l0] at h
  | k + 1 => by
    have ih0 := spec_l1Words.mono_l k
    · intro y0 y1 y2
      unfold spec_l1Words.l0
      repeat' first
      | (with_reducible exact ih0 _ _ _)
      | (with_reducible exact LeO.refl _)
      | (with_reducible exact LeO.none _)
      | (with_reducible refine LeO.ite ?_ ?_)
      | (with_reducible refine LeO.bind ?_ (fun _ => ?_))
      | exact ih0 _ _ _
      | exact LeO.none _
      | refine LeO.ite ?_ ?_
      | refine LeO.bind ?_ (fun _ => ?_)
theorem spec_l1Words.mono : ∀ a0 a1 k, LeO (spec_l1Words.f k a0 a1) (spec_l1Words.f (k + 1) a0 a1) := by
  intro a0 a1 k
  have ih0 := spec_l1Words.mono_l k
  unfold spec_l1Words.f
  repeat' first
      | (with_reducible exact ih0 _ _ _)
      | (with_reducible exact LeO.refl _)
      | (with_reducible exact LeO.none _)
      | (with_reducible refine LeO.ite ?_ ?_)
      | (with_reducible refine LeO.bind ?_ (fun _ => ?_))
      | exact ih0 _ _ _
      | exact LeO.none _
      | refine LeO.ite ?_ ?_
      | refine LeO.bind ?_ (fun _ => ?_)
set_option maxHeartbeats 8000000 in
set_option maxRecDepth 100000 in
theorem spec_l1Words.calls (k : Nat) (A0 : Option Addr) (c0 : Nat) (l0 : List Int) (a1 : Int) (r : Bool) (w : World) (hr0 : Kd.C (Kd.int .i64) w A0 l0.length l0) (hc0 : l0.length ≤ c0) (h : spec_l1Words.f k l0 a1 = some r) :
    Calls Try.prog 23 #[.slice A0 l0.length c0, .int .i64 a1] w fun e w' => e = .returned (.bool r) ∧ Drawn0 w w' := by
  have HR0 := Aside0.mk hr0
  have HC0 := Aside0.mk hc0
  clear hr0 hc0
  have H : (spec_l1Words.l0 k l0 a1 0) = some r := h
  clear h
  have H' := Aside0.mk H
  clear H
  go_enter Try.func23, Try.ntmps23
  go_wp2
  go_loopg [5] k (fun kq v5 w' => ∃ (x5_1 : Int), v5 = .int .i64 x5_1 ∧ Aside0 (spec_l1Words.l0 kq l0 a1 x5_1 = some r) ∧ Aside0 (kq ≤ k) ∧ Drawn0 w w')
  case atStart => exact ⟨(0), (by first | rfl | (simp; done) | (simp [*]; done)), H', ⟨Nat.le_refl _⟩, by repeat (first | exact Drawn0.refl _ | apply Drawn0.step)⟩
  case round =>
    clear H'
    try clear c2
    try clear p2
    obtain ⟨x5_1, rfl, HA, HK1, ⟨m1, rfl⟩⟩ := hrel
    cases gk with
    | zero => exact absurd HA.out (by simp [spec_l1Words.l0])
    | succ k1 =>
      have H := HA.out
      clear HA
      simp only [spec_l1Words.l0] at H
      by_cases c3 : x5_1 < (l0.length : Int)
      · rw [if_pos c3] at H
        have c3b0 : decide (x5_1 < (l0.length : Int)) = true := decide_eq_true c3
        clear c3
        by_cases c4 : 0 ≤ x5_1
        · rw [if_pos c4] at H
          have c4b0 : decide (0 ≤ x5_1) = true := decide_eq_true c4
          clear c4
          replace H := Option.bind_eq_some_iff.mp H
          obtain ⟨t104, A50, H⟩ := H
          replace H : (if t104 = true then (spec_l1Words.l0 k1 l0 a1 (wrap64 (x5_1 + 1))) else (some false)) = some r := H
          have A5 := Aside0.mk A50
          clear A50
          by_cases c6 : t104 = true
          · subst c6
            have H1 : (spec_l1Words.l0 k1 l0 a1 (wrap64 (x5_1 + 1))) = some r := by rw [if_pos rfl] at H; exact H
            clear H
            have H := H1
            clear H1
            have H' := Aside0.mk H
            clear H
            have p103 : 0 ≤ (x5_1 : Int) := of_decide_eq_true (by first | (with_reducible assumption) | assumption)
            have q103 : x5_1 < (l0.length : Int) := of_decide_eq_true (by first | (with_reducible assumption) | assumption)
            obtain ⟨ad103, e103, hx103_0⟩ := Kd.at_int HR0.out x5_1 p103 q103
            cases e103
            replace p103 := eq_true p103
            replace q103 := eq_true q103
            go_wp2_with (first | ((with_reducible refine gate_callee (f := 43) rfl ?_); refine goesL_ (some 16) rfl rfl Try.func43 (by kernel_rfl) rfl #[.int .i64 (rd l0 x5_1), .int .i64 0, .int .i64 65535] rfl (by (try simp only [List.map_toArray, List.map_cons, List.map_nil]); first | done | rfl | (simp only [List.length_drop, List.length_take]; rfl)) ?_; (with_reducible refine (spec_l1In.calls (rd l0 x5_1) 0 65535 true _ A5.out).mono ?_); rintro e w' ⟨rfl, ⟨nd, rfl⟩⟩; refine ⟨_, rfl, ?_⟩))
            go_roundg k1
            case measure => have := HK1.out; omega
            case rel => exact ⟨(wrap64 (x5_1 + 1)), (by first | rfl | (simp; done) | (simp [*]; done)), H', ⟨by have := HK1.out; omega⟩, by repeat (first | exact Drawn0.refl _ | apply Drawn0.step)⟩
          · replace c6 := Bool.eq_false_iff.mpr c6
            subst c6
            have H1 : (some false) = some r := by rw [if_neg (show ¬ (false = true) by decide)] at H; exact H
            clear H
            have H := H1
            clear H1
            obtain rfl := Option.some.inj H
            have p103 : 0 ≤ (x5_1 : Int) := of_decide_eq_true (by first | (with_reducible assumption) | assumption)
            have q103 : x5_1 < (l0.length : Int) := of_decide_eq_true (by first | (with_reducible assumption) | assumption)
            obtain ⟨ad103, e103, hx103_0⟩ := Kd.at_int HR0.out x5_1 p103 q103
            cases e103
            replace p103 := eq_true p103
            replace q103 := eq_true q103
            go_wp2_with (first | ((with_reducible refine gate_callee (f := 43) rfl ?_); refine goesL_ (some 16) rfl rfl Try.func43 (by kernel_rfl) rfl #[.int .i64 (rd l0 x5_1), .int .i64 0, .int .i64 65535] rfl (by (try simp only [List.map_toArray, List.map_cons, List.map_nil]); first | done | rfl | (simp only [List.length_drop, List.length_take]; rfl)) ?_; (with_reducible refine (spec_l1In.calls (rd l0 x5_1) 0 65535 false _ A5.out).mono ?_); rintro e w' ⟨rfl, ⟨nd, rfl⟩⟩; refine ⟨_, rfl, ?_⟩))
            go_ret
            exact ⟨by first | rfl | (simp; done) | (simp [*]; done), by repeat (first | exact Drawn0.refl _ | apply Drawn0.step)⟩
        · rw [if_neg c4] at H
          exact absurd H (by simp)
      · rw [if_neg c3] at H
        have c3b0 : decide (x5_1 < (l0.length : Int)) = false := decide_eq_false c3
        clear c3
        obtain rfl := Option.some.inj H
        go_wp2
        go_ret
        exact ⟨by first | rfl | (simp; done) | (simp [*]; done), by repeat (first | exact Drawn0.refl _ | apply Drawn0.step)⟩

/-! ### spec_l21Go: function 24 -/
/-- The lists from k on, the memory and the places as they stand. -/
def spec_l21Go.sg (rec : List Int → List Int → Option (Bool × List Int × List Int)) : List (List S45) → Nat → List Int → List Int → Option (Bool × List Int × List Int)
  | [], _, m, t => some (false, m, t)
  | l :: ls, k, m, t =>
    if k < t.length ∧ 0 ≤ rd t k then
      if rd t k ≥ l.length then spec_l21Go.sg rec ls (k + 1) m t
      else if 0 ≤ (l.getD (rd t k).toNat z45).f0 ∧ (l.getD (rd t k).toNat z45).f0 ≤ 23 then
        if (l.getD (rd t k).toNat z45).f0 < m.length then
          if (l.getD (rd t k).toNat z45).f1 ≥ 0 ∧ ¬ (l.getD (rd t k).toNat z45).f1 = rd m (l.getD (rd t k).toNat z45).f0 then spec_l21Go.sg rec ls (k + 1) m t
          else (rec (if (l.getD (rd t k).toNat z45).f2 ≥ 0 then m.set (l.getD (rd t k).toNat z45).f0.toNat (l.getD (rd t k).toNat z45).f2 else m) (t.set k (rd t k + 1))).bind fun b =>
            if b.1 = true then some (true, b.2.1, b.2.2) else spec_l21Go.sg rec ls (k + 1) (b.2.1.set (l.getD (rd t k).toNat z45).f0.toNat (rd m (l.getD (rd t k).toNat z45).f0)) (b.2.2.set k (wrap64 (rd b.2.2 k - 1)))
        else none
      else spec_l21Go.sg rec ls (k + 1) m t
    else none
def spec_l21Go.f : Nat → List Int → List (List S45) → List Int → Int → Option (Bool × List Int × List Int)
  | 0, _, _, _, _ => none
  | k + 1, m, lists, t, left => if left = 0 then some (true, m, t) else spec_l21Go.sg (fun m t => spec_l21Go.f k m lists t (wrap64 (left - 1))) lists 0 m t

theorem spec_l21Go.sg_mono {q1 q2 : List Int → List Int → Option (Bool × List Int × List Int)} (h : ∀ m l, LeO (q1 m l) (q2 m l)) : ∀ ls k m t, LeO (spec_l21Go.sg q1 ls k m t) (spec_l21Go.sg q2 ls k m t)
  | [], k, m, t => LeO.refl _
  | l :: ls, k, m, t => by
    simp only [spec_l21Go.sg]
    refine LeO.ite (LeO.ite (spec_l21Go.sg_mono h ls _ _ _) (LeO.ite (LeO.ite (LeO.ite (spec_l21Go.sg_mono h ls _ _ _) (LeO.bind (h _ _) fun x => LeO.ite (LeO.refl _) (spec_l21Go.sg_mono h ls _ _ _))) (LeO.refl _)) (spec_l21Go.sg_mono h ls _ _ _))) (LeO.refl _)
theorem spec_l21Go.mono : ∀ a0 a1 a2 a3 k, LeO (spec_l21Go.f k a0 a1 a2 a3) (spec_l21Go.f (k + 1) a0 a1 a2 a3) := by
  intro a0 a1 a2 a3 k
  induction k generalizing a0 a1 a2 a3 with
  | zero => intro r h; simp [spec_l21Go.f] at h
  | succ k ih =>
    unfold spec_l21Go.f
    exact LeO.ite (LeO.refl _) (spec_l21Go.sg_mono (fun m t => ih m a1 t _) _ _ _ _)
theorem l1In_f (x a b : Int) : spec_l1In.f x a b = some (decide (a ≤ x) && decide (x ≤ b)) := by
  unfold spec_l1In.f
  by_cases h : a ≤ x <;> simp [h]

set_option maxHeartbeats 8000000 in
set_option maxRecDepth 100000 in
theorem spec_l21Go.calls0 (k : Nat) : ∀ (w0 : World) (A0 : Option Addr) (n0 c0 : Nat) (l0 : List Int) (A1 : Option Addr) (c1 : Nat) (l1 : List (List S45)) (A2 : Option Addr) (n2 c2 : Nat) (l2 : List Int) (a3 : Int) (b : Bool) (r0 r2 : List Int) (w : World) (P0 P2 : Nat → Prop)
    (hB : Below w0.heap.size w0 w) (hd : ∀ j, P0 j → ¬ P2 j) (he0 : ∀ j, P0 j → some j = (Value.slice A0 n0 c0).ownBlock) (he2 : ∀ j, P2 j → some j = (Value.slice A2 n2 c2).ownBlock)
    (hR0 : Kd.R (Kd.int .i64) 3 w w0.heap.size P0 (.slice A0 n0 c0) l0) (hR2 : Kd.R (Kd.int .i64) 3 w w0.heap.size P2 (.slice A2 n2 c2) l2)
    (hr1 : ∀ W_, Kept w W_ (fun j => P0 j ∨ P2 j) → Kd.C (Kd.slice 45 k45) W_ A1 l1.length l1) (hc1 : l1.length ≤ c1) (h : spec_l21Go.f k l0 l1 l2 a3 = some (b, r0, r2)),
    Calls Try.prog 24 #[.slice A0 n0 c0, .slice A1 l1.length c1, .slice A2 n2 c2, .int .i64 a3] w fun e w' => e = .returned (.bool b) ∧ Below w0.heap.size w0 w' ∧
      Kd.R (Kd.int .i64) 3 w' w0.heap.size P0 (.slice A0 n0 c0) r0 ∧ Kd.R (Kd.int .i64) 3 w' w0.heap.size P2 (.slice A2 n2 c2) r2 ∧ Kept w w' (fun j => P0 j ∨ P2 j) := by
  induction k with
  | zero => intros; rename_i h; exact absurd h (by simp [spec_l21Go.f])
  | succ k ih =>
  intro w0 A0 n0 c0 l0 A1 c1 l1 A2 n2 c2 l2 a3 b r0 r2 w P0 P2 hB hd he0 he2 hR0 hR2 hr1 hc1 h
  simp only [spec_l21Go.f] at h
  by_cases h3 : a3 = 0
  · rw [if_pos h3] at h
    simp only [Option.some.injEq, Prod.mk.injEq] at h
    obtain ⟨rfl, rfl, rfl⟩ := h
    have h3' : (a3 == 0) = true := by simpa using h3
    clear h3
    go_enter Try.func24, Try.ntmps24
    go_wp2_with fail
    go_ret
    exact ⟨rfl, hB, hR0, hR2, Kept.refl _ _⟩
  rw [if_neg h3] at h
  have h3' : (a3 == 0) = false := by simpa using h3
  have H3 := Aside0.mk h3
  have HB := Aside0.mk hB
  have HD := Aside0.mk hd
  have HE0 := Aside0.mk he0
  have HE2 := Aside0.mk he2
  have HK : Aside0 (Kept w w (fun j => P0 j ∨ P2 j)) := ⟨Kept.refl _ _⟩
  have HR0 := Aside0.mk hR0
  have HR2 := Aside0.mk hR2
  have HR1 := Aside0.mk hr1
  have hm1 := Kd.C_max (hr1 w (Kept.refl _ _))
  have H := Aside0.mk h
  clear h3 hB hd he0 he2 hR0 hR2 hr1 h
  go_enter Try.func24, Try.ntmps24
  go_wp2_with fail
  go_loopw [9, 10, 11] (fun v9 _ _ wr => ∃ (i : Nat) (m t : List Int), i ≤ l1.length ∧ v9 = .int .i64 i ∧ Aside0 (spec_l21Go.sg (fun m t => spec_l21Go.f k m l1 t (wrap64 (a3 - 1))) (l1.drop i) i m t = some (b, r0, r2)) ∧ Aside0 (Below w0.heap.size w0 wr) ∧
      Aside0 (Kd.R (Kd.int .i64) 3 wr w0.heap.size P0 (.slice A0 n0 c0) m) ∧ Aside0 (Kd.R (Kd.int .i64) 3 wr w0.heap.size P2 (.slice A2 n2 c2) t) ∧ Aside0 (Kept w wr (fun j => P0 j ∨ P2 j))) (fun v9 _ _ _ => l1.length - (intOf v9).toNat)
  case atStart => exact ⟨0, l0, l2, Nat.zero_le _, rfl, H, HB, HR0, HR2, HK⟩
  case round =>
    clear H HB HR0 HR2 HK
    obtain ⟨i, m, t, hi, rfl, H, HB, HM, HT, HK⟩ := hrel
    by_cases hlt : i < l1.length
    · have hltz : (i : Int) < (l1.length : Int) := by omega
      obtain ⟨ad, Al, cl, e, hx, hlc, hCl⟩ := at_row (HR1.out wr HK.out) i hlt
      subst e
      have HCl := Aside0.mk hCl
      have HLC := Aside0.mk hlc
      clear hCl hlc
      have hd := List.drop_eq_getElem_cons hlt
      have H2 := H.out
      rw [hd] at H2
      clear hd H
      generalize l1[i] = l at hx HCl HLC H2
      simp only [spec_l21Go.sg] at H2
      have h0t : i < t.length ∧ 0 ≤ rd t i := Decidable.byContradiction fun hn => by rw [if_neg hn] at H2; cases H2
      rw [if_pos h0t] at H2
      obtain ⟨hti, h0⟩ := h0t
      have hnt := (Kd.R_reads' HT.out).1
      obtain ⟨g2, e, hge2⟩ : ∃ g2, A2 = some ⟨g2, 0, none⟩ ∧ P2 g2 := by
        obtain ⟨g, cap, he, _⟩ := Kd.R_form HT.out (by omega)
        injection he with he _ _
        subst he
        exact ⟨g, rfl, HT.out.1 g rfl⟩
      subst e
      obtain ⟨hct, hft⟩ := Kd.R_celln 0 HT.out (i : Int) (by omega) (by omega)
      rw [Int.toNat_natCast] at hct hft
      have ht0 : rdOf 0 t (i : Int) = rd t i := rfl
      rw [ht0] at hct
      clear ht0
      have HNT := Aside0.mk hnt
      have hiz2 : (i : Int) < (n2 : Int) := by omega
      clear hnt
      by_cases hgel : rd t i ≥ l.length
      · rw [if_pos hgel] at H2
        have H := Aside0.mk H2
        clear H2
        go_wp2_with fail
        go_quiet (fail)
        go_wp2_with fail
        go_roundw
        case rel => exact ⟨i + 1, m, t, by omega, by go_num, H, ⟨pw_below_drewN HB.out _⟩, ⟨HM.out⟩, ⟨HT.out⟩, ⟨HK.out.drewN _⟩⟩
        case measure => simp [intOf]; omega
      · rw [if_neg hgel] at H2
        have hltl : rd t i < (l.length : Int) := by omega
        obtain ⟨ad2, rfl, hd0, hd1, hd2⟩ := at_T45 HCl.out (rd t i) h0 hltl
        have hg : rd_T45 l (rd t i) = l.getD (rd t i).toNat z45 := rfl
        rw [hg] at hd0 hd1 hd2
        clear hg
        have hsz : Aside0 (rd t i + 1 ≤ l.length) := ⟨by omega⟩
        generalize l.getD (rd t i).toNat z45 = d at hd0 hd1 hd2 H2
        have hu45 := Try.underlying45
        have hxa : ∀ n o, ((wr.drewN n).alloc o).cell? (ad.add i) = some (.slice (some ad2) l.length cl) := fun n o => pw_cell_below (below_alloc (pw_below_drewN (Below.refl _ wr) n) o) hx
        have hcta : ∀ n o, ((wr.drewN n).alloc o).cell? ⟨g2, i, none⟩ = some (.int .i64 (rd t i)) := fun n o => pw_cell_below (below_alloc (pw_below_drewN (Below.refl _ wr) n) o) hct
        have hd0a : ∀ n o, ((wr.drewN n).alloc o).cell? (ad2.add ((rd t i).toNat * 3)) = some (.int .i64 d.f0) := fun n o => pw_cell_below (below_alloc (pw_below_drewN (Below.refl _ wr) n) o) hd0
        have hd1a : ∀ n o, ((wr.drewN n).alloc o).cell? ⟨(ad2.add ((rd t i).toNat * 3)).block, (ad2.add ((rd t i).toNat * 3)).off + 1, none⟩ = some (.int .i64 d.f1) := fun n o => pw_cell_below (below_alloc (pw_below_drewN (Below.refl _ wr) n) o) hd1
        have hd2a : ∀ n o, ((wr.drewN n).alloc o).cell? ⟨(ad2.add ((rd t i).toNat * 3)).block, (ad2.add ((rd t i).toNat * 3)).off + 2, none⟩ = some (.int .i64 d.f2) := fun n o => pw_cell_below (below_alloc (pw_below_drewN (Below.refl _ wr) n) o) hd2
        have hgeb : decide (rd t i ≥ (l.length : Int)) = false := decide_eq_false (by omega)
        go_wp2_with fail
        go_quiet (fail)
        go_wp2_with fail
        have hnf : ∀ n (c : Array Value) j, ((wr.drewN n).alloc (.cells c 45)).frozen? ⟨wr.heap.size, j, none⟩ = false := fun n c j => World.frozen?_alloc_at c 45 _ j rfl
        have hnc : ∀ n (c : Array Value) j, ((wr.drewN n).alloc (.cells c 45)).cell? ⟨wr.heap.size, j, none⟩ = c[j]? := fun n c j => World.cell?_alloc_at c 45 _ j rfl
        have hns : ∀ n (c : Array Value) j v, ((wr.drewN n).alloc (.cells c 45)).setCell ⟨wr.heap.size, j, none⟩ v = (wr.drewN n).alloc (.cells (c.setIfInBounds j v) 45) := fun n c j v => World.setCell_alloc_at c 45 _ j v rfl
        go_region
        clear hnf hnc hns hxa hcta hd0a hd1a hd2a hx hd0 hd1 hd2 hgeb
        go_wp2_with fail
        have HBW := Aside0.mk (below_alloc (pw_below_drewN HB.out (nq + 1)) (.cells #[.int .i64 d.f0, .int .i64 d.f1, .int .i64 d.f2] 45))
        have HMW := Aside0.mk (Kd.R_alloc (Kd.R_drewN HM.out (nq + 1)) (.cells #[.int .i64 d.f0, .int .i64 d.f1, .int .i64 d.f2] 45))
        have HTW := Aside0.mk (Kd.R_alloc (Kd.R_drewN HT.out (nq + 1)) (.cells #[.int .i64 d.f0, .int .i64 d.f1, .int .i64 d.f2] 45))
        have hbox : ((wr.drewN (nq + 1)).alloc (.cells #[.int .i64 d.f0, .int .i64 d.f1, .int .i64 d.f2] 45)).heap[wr.heap.size]? = some (.cells #[.int .i64 d.f0, .int .i64 d.f1, .int .i64 d.f2] 45 (0, 0)) := blk_new (wr.drewN (nq + 1)) _
        have HKW := Aside0.mk ((HK.out.drewN (nq + 1)).alloc (.cells #[.int .i64 d.f0, .int .i64 d.f1, .int .i64 d.f2] 45))
        clear HM HT HB HK hct hft
        generalize (wr.drewN (nq + 1)).alloc (.cells #[.int .i64 d.f0, .int .i64 d.f1, .int .i64 d.f2] 45) = W at HBW HMW HTW HKW hbox
        generalize wr.heap.size = gb at hbox
        have hk0 := blk_cell hbox 0
        have hk1 := blk_cell hbox 1
        have hk2 := blk_cell hbox 2
        simp only [List.getElem?_toArray, List.getElem?_cons_zero, List.getElem?_cons_succ] at hk0 hk1 hk2
        by_cases h23 : 0 ≤ d.f0 ∧ d.f0 ≤ 23
        · have hin : spec_l1In.f d.f0 0 23 = some true := by rw [l1In_f]; simp [h23.1, h23.2]
          rw [if_pos h23] at H2
          have hmlt : d.f0 < (m.length : Int) := Decidable.byContradiction fun hn => by rw [if_neg hn] at H2; cases H2
          rw [if_pos hmlt] at H2
          have hnm := (Kd.R_reads' HMW.out).1
          obtain ⟨g0, e, hP0, cs0, hg0⟩ : ∃ g0, A0 = some ⟨g0, 0, none⟩ ∧ P0 g0 ∧ ∃ cs, W.heap[g0]? = some (.cells cs 3 (0, 0)) := by
            obtain ⟨g, cap, he, _, _, hc⟩ := Kd.R_form HMW.out (by omega)
            injection he with he _ _
            subst he
            exact ⟨g, rfl, HMW.out.1 g rfl, hc⟩
          subst e
          have hmn : d.f0 < (n0 : Int) := by omega
          clear hnm
          obtain ⟨hcm, hfm⟩ := Kd.R_celln 0 HMW.out d.f0 h23.1 hmn
          have e0 : rdOf 0 m d.f0 = rd m d.f0 := rfl
          rw [e0] at hcm
          clear e0
          obtain ⟨hct, hft⟩ := Kd.R_celln 0 HTW.out (i : Int) (by omega) (by omega)
          rw [Int.toNat_natCast] at hct hft
          have e0 : rdOf 0 t (i : Int) = rd t i := rfl
          rw [e0] at hct
          clear e0
          have hg02 : ¬ g0 = g2 := fun e => HD.out g0 hP0 (e ▸ hge2)
          have hg20 : ¬ g2 = g0 := fun e => hg02 e.symm
          have hgb0 : ¬ gb = g0 := blk_ne hbox hg0 (by decide)
          have hgb2 : ¬ gb = g2 := by
            obtain ⟨g, cap, he, _, _, cs2, hg2⟩ := Kd.R_form HTW.out (by omega)
            injection he with he _ _
            injection he with he
            injection he with he
            subst he
            exact blk_ne hbox hg2 (by decide)
          have HG0 : Aside0 (w0.heap.size ≤ g0) := ⟨Kd.R_base HMW.out g0 rfl⟩
          have HG2 : Aside0 (w0.heap.size ≤ g2) := ⟨Kd.R_base HTW.out g2 rfl⟩
          have hw1 : rd t i ≤ 9223372036854775806 := by have := hsz.out; have := Kd.C_max HCl.out; omega
          by_cases h1 : 0 ≤ d.f1
          · have hb1 : decide (0 ≤ d.f1) = true := decide_eq_true h1
            by_cases h2 : d.f1 = rd m d.f0
            · rw [if_neg (fun h => h.2 h2)] at H2
              have hb2 : (d.f1 != rd m d.f0) = false := by simpa using h2
              clear h2
              go_wp2_with fail
              go_quiet ((go_at_call 43; exact Calls.quiet_of ((spec_l1In.calls d.f0 0 23 true _ hin).mono fun _ _ ⟨he, hd⟩ => ⟨he, hd.out⟩)))
              clear hb1 hb2 hin h1
              by_cases h4 : 0 ≤ d.f2
              · rw [if_pos h4] at H2
                have hb4 : decide (0 ≤ d.f2) = true := decide_eq_true h4
                go_wp2_with fail
                have HB1 := Aside0.mk (below_set (j := d.f0.toNat) (v := .int .i64 d.f2) (pw_below_drewN HBW.out nq) HG0.out)
                have HM1 := Aside0.mk (Kd.R_putn (Kd.R_drewN HMW.out nq) d.f0 d.f2)
                have HT1 := Aside0.mk (Kd.R_far (p := ⟨g0, d.f0.toNat, none⟩) (Kd.R_drewN HTW.out nq) (fun k hk e => HD.out g0 hP0 (by rw [← show k = g0 from e]; exact hk)) (.int .i64 d.f2))
                have HK1 := Aside0.mk ((HKW.out.drewN nq).setCell (p := ⟨g0, d.f0.toNat, none⟩) (.inl (.inl hP0)) (.int .i64 d.f2))
                have hbox1 : ((W.drewN nq).setCell ⟨g0, d.f0.toNat, none⟩ (.int .i64 d.f2)).heap[gb]? = _ := (Below.heap_setCell _ ⟨g0, d.f0.toNat, none⟩ _ gb hgb0).trans hbox
                generalize ((W.drewN nq).setCell ⟨g0, d.f0.toNat, none⟩ (.int .i64 d.f2)) = W1 at HB1 HM1 HT1 HK1 hbox1
                have HB2 := Aside0.mk (below_set (j := i) (v := .int .i64 (rd t i + 1)) HB1.out HG2.out)
                have HM2 := Aside0.mk (Kd.R_far (p := ⟨g2, i, none⟩) HM1.out (fun k hk e => HD.out k hk (by rw [show k = g2 from e]; exact hge2)) (.int .i64 (rd t i + 1)))
                have hT2 := Kd.R_putn HT1.out (i : Int) (rd t i + 1)
                rw [Int.toNat_natCast] at hT2
                have HT2 := Aside0.mk hT2
                have HK2 := Aside0.mk (HK1.out.setCell (p := ⟨g2, i, none⟩) (.inl (.inr hge2)) (.int .i64 (rd t i + 1)))
                have hbox2 : (W1.setCell ⟨g2, i, none⟩ (.int .i64 (rd t i + 1))).heap[gb]? = _ := (Below.heap_setCell _ ⟨g2, i, none⟩ _ gb hgb2).trans hbox1
                clear hT2 HB1 HM1 HT1 HK1 hbox1
                generalize W1.setCell ⟨g2, i, none⟩ (.int .i64 (rd t i + 1)) = W2 at HB2 HM2 HT2 HK2 hbox2
                obtain ⟨⟨b1, m2, t2⟩, hrec, H3⟩ := Option.bind_eq_some_iff.mp H2
                refine (ih w0 (some ⟨g0, 0, none⟩) n0 c0 (m.set d.f0.toNat d.f2) (some ad) c1 l1 (some ⟨g2, 0, none⟩) n2 c2 _ (wrap64 (a3 - 1)) b1 m2 t2 W2 P0 P2 HB2.out HD.out HE0.out HE2.out HM2.out HT2.out (fun W_ hk_ => HR1.out W_ (HK2.out.then_ hk_ (fun _ h => .inl h))) hc1 hrec).mono ?_
                rintro e w5 ⟨rfl, hB5, hM5, hT5, hK5⟩
                have HB5 := Aside0.mk hB5
                have HM5 := Aside0.mk hM5
                have HT5 := Aside0.mk hT5
                have HK5 := Aside0.mk (HK2.out.then_ hK5 (fun _ h => .inl h))
                have hbox5 := blk_kept hbox2 hK5 (fun h => h.elim (fun h => hgb0 (Option.some.inj (HE0.out gb h))) (fun h => hgb2 (Option.some.inj (HE2.out gb h))))
                clear hB5 hM5 hT5 hK5 hbox2 HB2 HM2 HT2 HK2 hrec H2
                cases b1 with
                | true =>
                  simp only [if_true, Option.some.injEq, Prod.mk.injEq] at H3
                  obtain ⟨rfl, rfl, rfl⟩ := H3
                  go_wp2_with fail
                  go_ret
                  exact ⟨rfl, HB5.out, HM5.out, HT5.out, HK5.out⟩
                | false =>
                  simp only [Bool.false_eq_true, if_false] at H3
                  have H := Aside0.mk H3
                  clear H3
                  have hk5 := blk_cell hbox5 0
                  simp only [List.getElem?_toArray, List.getElem?_cons_zero] at hk5
                  obtain ⟨hct5, hft5⟩ := Kd.R_celln 0 HT5.out (i : Int) (by omega) (by omega)
                  rw [Int.toNat_natCast] at hct5 hft5
                  have e0 : rdOf 0 t2 (i : Int) = rd t2 i := rfl
                  rw [e0] at hct5
                  clear e0
                  obtain ⟨hcm5, hfm5⟩ := Kd.R_celln 0 HM5.out d.f0 h23.1 hmn
                  go_wp2_with fail
                  go_roundw
                  case rel =>
                    have hT6 := Kd.R_putn HT5.out (i : Int) (wrap64 (rd t2 i - 1))
                    rw [Int.toNat_natCast] at hT6
                    have hM6 := Kd.R_far (p := ⟨g2, i, none⟩) HM5.out (fun k hk e => HD.out k hk (by rw [show k = g2 from e]; exact hge2)) (.int .i64 (wrap64 (rd t2 i - 1)))
                    exact ⟨i + 1, _, _, by omega, by go_num, H, ⟨below_set (below_set HB5.out HG2.out) HG0.out⟩, ⟨Kd.R_putn hM6 d.f0 (rd m d.f0)⟩, ⟨Kd.R_far (p := ⟨g0, d.f0.toNat, none⟩) hT6 (fun k hk e => HD.out g0 hP0 (by rw [← show k = g0 from e]; exact hk)) _⟩, ⟨(HK5.out.setCell (p := ⟨g2, i, none⟩) (.inl (.inr hge2)) _).setCell (p := ⟨g0, d.f0.toNat, none⟩) (.inl (.inl hP0)) _⟩⟩
                  case measure => simp [intOf]; omega
              · rw [if_neg h4] at H2
                have hb4 : decide (0 ≤ d.f2) = false := decide_eq_false h4
                go_wp2_with fail
                have HB1 := Aside0.mk (pw_below_drewN HBW.out nq)
                have HM1 := Aside0.mk (Kd.R_drewN HMW.out nq)
                have HT1 := Aside0.mk (Kd.R_drewN HTW.out nq)
                have HK1 := Aside0.mk (HKW.out.drewN nq)
                have hbox1 : (W.drewN nq).heap[gb]? = _ := hbox
                generalize (W.drewN nq) = W1 at HB1 HM1 HT1 HK1 hbox1
                have HB2 := Aside0.mk (below_set (j := i) (v := .int .i64 (rd t i + 1)) HB1.out HG2.out)
                have HM2 := Aside0.mk (Kd.R_far (p := ⟨g2, i, none⟩) HM1.out (fun k hk e => HD.out k hk (by rw [show k = g2 from e]; exact hge2)) (.int .i64 (rd t i + 1)))
                have hT2 := Kd.R_putn HT1.out (i : Int) (rd t i + 1)
                rw [Int.toNat_natCast] at hT2
                have HT2 := Aside0.mk hT2
                have HK2 := Aside0.mk (HK1.out.setCell (p := ⟨g2, i, none⟩) (.inl (.inr hge2)) (.int .i64 (rd t i + 1)))
                have hbox2 : (W1.setCell ⟨g2, i, none⟩ (.int .i64 (rd t i + 1))).heap[gb]? = _ := (Below.heap_setCell _ ⟨g2, i, none⟩ _ gb hgb2).trans hbox1
                clear hT2 HB1 HM1 HT1 HK1 hbox1
                generalize W1.setCell ⟨g2, i, none⟩ (.int .i64 (rd t i + 1)) = W2 at HB2 HM2 HT2 HK2 hbox2
                obtain ⟨⟨b1, m2, t2⟩, hrec, H3⟩ := Option.bind_eq_some_iff.mp H2
                refine (ih w0 (some ⟨g0, 0, none⟩) n0 c0 m (some ad) c1 l1 (some ⟨g2, 0, none⟩) n2 c2 _ (wrap64 (a3 - 1)) b1 m2 t2 W2 P0 P2 HB2.out HD.out HE0.out HE2.out HM2.out HT2.out (fun W_ hk_ => HR1.out W_ (HK2.out.then_ hk_ (fun _ h => .inl h))) hc1 hrec).mono ?_
                rintro e w5 ⟨rfl, hB5, hM5, hT5, hK5⟩
                have HB5 := Aside0.mk hB5
                have HM5 := Aside0.mk hM5
                have HT5 := Aside0.mk hT5
                have HK5 := Aside0.mk (HK2.out.then_ hK5 (fun _ h => .inl h))
                have hbox5 := blk_kept hbox2 hK5 (fun h => h.elim (fun h => hgb0 (Option.some.inj (HE0.out gb h))) (fun h => hgb2 (Option.some.inj (HE2.out gb h))))
                clear hB5 hM5 hT5 hK5 hbox2 HB2 HM2 HT2 HK2 hrec H2
                cases b1 with
                | true =>
                  simp only [if_true, Option.some.injEq, Prod.mk.injEq] at H3
                  obtain ⟨rfl, rfl, rfl⟩ := H3
                  go_wp2_with fail
                  go_ret
                  exact ⟨rfl, HB5.out, HM5.out, HT5.out, HK5.out⟩
                | false =>
                  simp only [Bool.false_eq_true, if_false] at H3
                  have H := Aside0.mk H3
                  clear H3
                  have hk5 := blk_cell hbox5 0
                  simp only [List.getElem?_toArray, List.getElem?_cons_zero] at hk5
                  obtain ⟨hct5, hft5⟩ := Kd.R_celln 0 HT5.out (i : Int) (by omega) (by omega)
                  rw [Int.toNat_natCast] at hct5 hft5
                  have e0 : rdOf 0 t2 (i : Int) = rd t2 i := rfl
                  rw [e0] at hct5
                  clear e0
                  obtain ⟨hcm5, hfm5⟩ := Kd.R_celln 0 HM5.out d.f0 h23.1 hmn
                  go_wp2_with fail
                  go_roundw
                  case rel =>
                    have hT6 := Kd.R_putn HT5.out (i : Int) (wrap64 (rd t2 i - 1))
                    rw [Int.toNat_natCast] at hT6
                    have hM6 := Kd.R_far (p := ⟨g2, i, none⟩) HM5.out (fun k hk e => HD.out k hk (by rw [show k = g2 from e]; exact hge2)) (.int .i64 (wrap64 (rd t2 i - 1)))
                    exact ⟨i + 1, _, _, by omega, by go_num, H, ⟨below_set (below_set HB5.out HG2.out) HG0.out⟩, ⟨Kd.R_putn hM6 d.f0 (rd m d.f0)⟩, ⟨Kd.R_far (p := ⟨g0, d.f0.toNat, none⟩) hT6 (fun k hk e => HD.out g0 hP0 (by rw [← show k = g0 from e]; exact hk)) _⟩, ⟨(HK5.out.setCell (p := ⟨g2, i, none⟩) (.inl (.inr hge2)) _).setCell (p := ⟨g0, d.f0.toNat, none⟩) (.inl (.inl hP0)) _⟩⟩
                  case measure => simp [intOf]; omega
            · rw [if_pos ⟨h1, h2⟩] at H2
              have hb2 : (d.f1 != rd m d.f0) = true := by simpa using h2
              have H := Aside0.mk H2
              clear H2 h2
              go_wp2_with fail
              go_quiet ((go_at_call 43; exact Calls.quiet_of ((spec_l1In.calls d.f0 0 23 true _ hin).mono fun _ _ ⟨he, hd⟩ => ⟨he, hd.out⟩)))
              go_wp2_with fail
              go_roundw
              case rel => exact ⟨i + 1, m, t, by omega, by go_num, H, ⟨pw_below_drewN HBW.out _⟩, ⟨HMW.out⟩, ⟨HTW.out⟩, ⟨HKW.out.drewN _⟩⟩
              case measure => simp [intOf]; omega
          · rw [if_neg (fun h => h1 h.1)] at H2
            have hb1 : decide (0 ≤ d.f1) = false := decide_eq_false h1
            go_wp2_with fail
            go_quiet ((go_at_call 43; exact Calls.quiet_of ((spec_l1In.calls d.f0 0 23 true _ hin).mono fun _ _ ⟨he, hd⟩ => ⟨he, hd.out⟩)))
            clear hb1 hin h1
            by_cases h4 : 0 ≤ d.f2
            · rw [if_pos h4] at H2
              have hb4 : decide (0 ≤ d.f2) = true := decide_eq_true h4
              go_wp2_with fail
              have HB1 := Aside0.mk (below_set (j := d.f0.toNat) (v := .int .i64 d.f2) (pw_below_drewN HBW.out nq) HG0.out)
              have HM1 := Aside0.mk (Kd.R_putn (Kd.R_drewN HMW.out nq) d.f0 d.f2)
              have HT1 := Aside0.mk (Kd.R_far (p := ⟨g0, d.f0.toNat, none⟩) (Kd.R_drewN HTW.out nq) (fun k hk e => HD.out g0 hP0 (by rw [← show k = g0 from e]; exact hk)) (.int .i64 d.f2))
              have HK1 := Aside0.mk ((HKW.out.drewN nq).setCell (p := ⟨g0, d.f0.toNat, none⟩) (.inl (.inl hP0)) (.int .i64 d.f2))
              have hbox1 : ((W.drewN nq).setCell ⟨g0, d.f0.toNat, none⟩ (.int .i64 d.f2)).heap[gb]? = _ := (Below.heap_setCell _ ⟨g0, d.f0.toNat, none⟩ _ gb hgb0).trans hbox
              generalize ((W.drewN nq).setCell ⟨g0, d.f0.toNat, none⟩ (.int .i64 d.f2)) = W1 at HB1 HM1 HT1 HK1 hbox1
              have HB2 := Aside0.mk (below_set (j := i) (v := .int .i64 (rd t i + 1)) HB1.out HG2.out)
              have HM2 := Aside0.mk (Kd.R_far (p := ⟨g2, i, none⟩) HM1.out (fun k hk e => HD.out k hk (by rw [show k = g2 from e]; exact hge2)) (.int .i64 (rd t i + 1)))
              have hT2 := Kd.R_putn HT1.out (i : Int) (rd t i + 1)
              rw [Int.toNat_natCast] at hT2
              have HT2 := Aside0.mk hT2
              have HK2 := Aside0.mk (HK1.out.setCell (p := ⟨g2, i, none⟩) (.inl (.inr hge2)) (.int .i64 (rd t i + 1)))
              have hbox2 : (W1.setCell ⟨g2, i, none⟩ (.int .i64 (rd t i + 1))).heap[gb]? = _ := (Below.heap_setCell _ ⟨g2, i, none⟩ _ gb hgb2).trans hbox1
              clear hT2 HB1 HM1 HT1 HK1 hbox1
              generalize W1.setCell ⟨g2, i, none⟩ (.int .i64 (rd t i + 1)) = W2 at HB2 HM2 HT2 HK2 hbox2
              obtain ⟨⟨b1, m2, t2⟩, hrec, H3⟩ := Option.bind_eq_some_iff.mp H2
              refine (ih w0 (some ⟨g0, 0, none⟩) n0 c0 (m.set d.f0.toNat d.f2) (some ad) c1 l1 (some ⟨g2, 0, none⟩) n2 c2 _ (wrap64 (a3 - 1)) b1 m2 t2 W2 P0 P2 HB2.out HD.out HE0.out HE2.out HM2.out HT2.out (fun W_ hk_ => HR1.out W_ (HK2.out.then_ hk_ (fun _ h => .inl h))) hc1 hrec).mono ?_
              rintro e w5 ⟨rfl, hB5, hM5, hT5, hK5⟩
              have HB5 := Aside0.mk hB5
              have HM5 := Aside0.mk hM5
              have HT5 := Aside0.mk hT5
              have HK5 := Aside0.mk (HK2.out.then_ hK5 (fun _ h => .inl h))
              have hbox5 := blk_kept hbox2 hK5 (fun h => h.elim (fun h => hgb0 (Option.some.inj (HE0.out gb h))) (fun h => hgb2 (Option.some.inj (HE2.out gb h))))
              clear hB5 hM5 hT5 hK5 hbox2 HB2 HM2 HT2 HK2 hrec H2
              cases b1 with
              | true =>
                simp only [if_true, Option.some.injEq, Prod.mk.injEq] at H3
                obtain ⟨rfl, rfl, rfl⟩ := H3
                go_wp2_with fail
                go_ret
                exact ⟨rfl, HB5.out, HM5.out, HT5.out, HK5.out⟩
              | false =>
                simp only [Bool.false_eq_true, if_false] at H3
                have H := Aside0.mk H3
                clear H3
                have hk5 := blk_cell hbox5 0
                simp only [List.getElem?_toArray, List.getElem?_cons_zero] at hk5
                obtain ⟨hct5, hft5⟩ := Kd.R_celln 0 HT5.out (i : Int) (by omega) (by omega)
                rw [Int.toNat_natCast] at hct5 hft5
                have e0 : rdOf 0 t2 (i : Int) = rd t2 i := rfl
                rw [e0] at hct5
                clear e0
                obtain ⟨hcm5, hfm5⟩ := Kd.R_celln 0 HM5.out d.f0 h23.1 hmn
                go_wp2_with fail
                go_roundw
                case rel =>
                  have hT6 := Kd.R_putn HT5.out (i : Int) (wrap64 (rd t2 i - 1))
                  rw [Int.toNat_natCast] at hT6
                  have hM6 := Kd.R_far (p := ⟨g2, i, none⟩) HM5.out (fun k hk e => HD.out k hk (by rw [show k = g2 from e]; exact hge2)) (.int .i64 (wrap64 (rd t2 i - 1)))
                  exact ⟨i + 1, _, _, by omega, by go_num, H, ⟨below_set (below_set HB5.out HG2.out) HG0.out⟩, ⟨Kd.R_putn hM6 d.f0 (rd m d.f0)⟩, ⟨Kd.R_far (p := ⟨g0, d.f0.toNat, none⟩) hT6 (fun k hk e => HD.out g0 hP0 (by rw [← show k = g0 from e]; exact hk)) _⟩, ⟨(HK5.out.setCell (p := ⟨g2, i, none⟩) (.inl (.inr hge2)) _).setCell (p := ⟨g0, d.f0.toNat, none⟩) (.inl (.inl hP0)) _⟩⟩
                case measure => simp [intOf]; omega
            · rw [if_neg h4] at H2
              have hb4 : decide (0 ≤ d.f2) = false := decide_eq_false h4
              go_wp2_with fail
              have HB1 := Aside0.mk (pw_below_drewN HBW.out nq)
              have HM1 := Aside0.mk (Kd.R_drewN HMW.out nq)
              have HT1 := Aside0.mk (Kd.R_drewN HTW.out nq)
              have HK1 := Aside0.mk (HKW.out.drewN nq)
              have hbox1 : (W.drewN nq).heap[gb]? = _ := hbox
              generalize (W.drewN nq) = W1 at HB1 HM1 HT1 HK1 hbox1
              have HB2 := Aside0.mk (below_set (j := i) (v := .int .i64 (rd t i + 1)) HB1.out HG2.out)
              have HM2 := Aside0.mk (Kd.R_far (p := ⟨g2, i, none⟩) HM1.out (fun k hk e => HD.out k hk (by rw [show k = g2 from e]; exact hge2)) (.int .i64 (rd t i + 1)))
              have hT2 := Kd.R_putn HT1.out (i : Int) (rd t i + 1)
              rw [Int.toNat_natCast] at hT2
              have HT2 := Aside0.mk hT2
              have HK2 := Aside0.mk (HK1.out.setCell (p := ⟨g2, i, none⟩) (.inl (.inr hge2)) (.int .i64 (rd t i + 1)))
              have hbox2 : (W1.setCell ⟨g2, i, none⟩ (.int .i64 (rd t i + 1))).heap[gb]? = _ := (Below.heap_setCell _ ⟨g2, i, none⟩ _ gb hgb2).trans hbox1
              clear hT2 HB1 HM1 HT1 HK1 hbox1
              generalize W1.setCell ⟨g2, i, none⟩ (.int .i64 (rd t i + 1)) = W2 at HB2 HM2 HT2 HK2 hbox2
              obtain ⟨⟨b1, m2, t2⟩, hrec, H3⟩ := Option.bind_eq_some_iff.mp H2
              refine (ih w0 (some ⟨g0, 0, none⟩) n0 c0 m (some ad) c1 l1 (some ⟨g2, 0, none⟩) n2 c2 _ (wrap64 (a3 - 1)) b1 m2 t2 W2 P0 P2 HB2.out HD.out HE0.out HE2.out HM2.out HT2.out (fun W_ hk_ => HR1.out W_ (HK2.out.then_ hk_ (fun _ h => .inl h))) hc1 hrec).mono ?_
              rintro e w5 ⟨rfl, hB5, hM5, hT5, hK5⟩
              have HB5 := Aside0.mk hB5
              have HM5 := Aside0.mk hM5
              have HT5 := Aside0.mk hT5
              have HK5 := Aside0.mk (HK2.out.then_ hK5 (fun _ h => .inl h))
              have hbox5 := blk_kept hbox2 hK5 (fun h => h.elim (fun h => hgb0 (Option.some.inj (HE0.out gb h))) (fun h => hgb2 (Option.some.inj (HE2.out gb h))))
              clear hB5 hM5 hT5 hK5 hbox2 HB2 HM2 HT2 HK2 hrec H2
              cases b1 with
              | true =>
                simp only [if_true, Option.some.injEq, Prod.mk.injEq] at H3
                obtain ⟨rfl, rfl, rfl⟩ := H3
                go_wp2_with fail
                go_ret
                exact ⟨rfl, HB5.out, HM5.out, HT5.out, HK5.out⟩
              | false =>
                simp only [Bool.false_eq_true, if_false] at H3
                have H := Aside0.mk H3
                clear H3
                have hk5 := blk_cell hbox5 0
                simp only [List.getElem?_toArray, List.getElem?_cons_zero] at hk5
                obtain ⟨hct5, hft5⟩ := Kd.R_celln 0 HT5.out (i : Int) (by omega) (by omega)
                rw [Int.toNat_natCast] at hct5 hft5
                have e0 : rdOf 0 t2 (i : Int) = rd t2 i := rfl
                rw [e0] at hct5
                clear e0
                obtain ⟨hcm5, hfm5⟩ := Kd.R_celln 0 HM5.out d.f0 h23.1 hmn
                go_wp2_with fail
                go_roundw
                case rel =>
                  have hT6 := Kd.R_putn HT5.out (i : Int) (wrap64 (rd t2 i - 1))
                  rw [Int.toNat_natCast] at hT6
                  have hM6 := Kd.R_far (p := ⟨g2, i, none⟩) HM5.out (fun k hk e => HD.out k hk (by rw [show k = g2 from e]; exact hge2)) (.int .i64 (wrap64 (rd t2 i - 1)))
                  exact ⟨i + 1, _, _, by omega, by go_num, H, ⟨below_set (below_set HB5.out HG2.out) HG0.out⟩, ⟨Kd.R_putn hM6 d.f0 (rd m d.f0)⟩, ⟨Kd.R_far (p := ⟨g0, d.f0.toNat, none⟩) hT6 (fun k hk e => HD.out g0 hP0 (by rw [← show k = g0 from e]; exact hk)) _⟩, ⟨(HK5.out.setCell (p := ⟨g2, i, none⟩) (.inl (.inr hge2)) _).setCell (p := ⟨g0, d.f0.toNat, none⟩) (.inl (.inl hP0)) _⟩⟩
                case measure => simp [intOf]; omega
        · have hout : spec_l1In.f d.f0 0 23 = some false := by
            rw [l1In_f]
            rcases Decidable.not_and_iff_or_not.1 h23 with h | h <;> simp [h]
          rw [if_neg h23] at H2
          have H := Aside0.mk H2
          clear H2
          go_wp2_with fail
          go_quiet ((go_at_call 43; exact Calls.quiet_of ((spec_l1In.calls d.f0 0 23 false _ hout).mono fun _ _ ⟨he, hd⟩ => ⟨he, hd.out⟩)))
          go_wp2_with fail
          go_roundw
          case rel => exact ⟨i + 1, m, t, by omega, by go_num, H, ⟨pw_below_drewN HBW.out _⟩, ⟨HMW.out⟩, ⟨HTW.out⟩, ⟨HKW.out.drewN _⟩⟩
          case measure => simp [intOf]; omega
    · have hge : ¬ (i : Int) < (l1.length : Int) := by omega
      have H2 := H.out
      rw [List.drop_eq_nil_of_le (by omega)] at H2
      simp only [spec_l21Go.sg, Option.some.injEq, Prod.mk.injEq] at H2
      obtain ⟨rfl, rfl, rfl⟩ := H2
      clear H
      go_wp2_with fail
      go_ret
      exact ⟨rfl, HB.out, HM.out, HT.out, HK.out⟩
set_option maxHeartbeats 400000 in
theorem spec_l21Go.calls (k : Nat) (P0_ : Nat → Prop) (u9000_ : Value) (l0 : List Int) (A1 : Option Addr) (c1 : Nat) (l1 : List (List (S45))) (P2_ : Nat → Prop) (u9001_ : Value) (l2 : List Int) (a3 : Int) (r1 : Bool) (r2 : List Int) (r3 : List Int) (w0 w : World) (hB : Below w0.heap.size w0 w) (ho0 : Kd.R (Kd.int .i64) 3 w w0.heap.size P0_ u9000_ l0) (hp0_2 : ∀ k_, P0_ k_ → ¬ P2_ k_) (hr1 : ∀ W_, Kept w W_ (fun k_ => P0_ k_ ∨ P2_ k_) → Kd.C (Kd.slice 45 k45) W_ A1 l1.length l1) (hc1 : l1.length ≤ c1) (ho2 : Kd.R (Kd.int .i64) 3 w w0.heap.size P2_ u9001_ l2) (hp2_0 : ∀ k_, P2_ k_ → ¬ P0_ k_) (h : spec_l21Go.f k l0 l1 l2 a3 = some (r1, r2, r3)) :
    Calls Try.prog 24 #[u9000_, .slice A1 l1.length c1, u9001_, .int .i64 a3] w fun e w' => e = .returned (.bool r1) ∧ Kd.R (Kd.int .i64) 3 w' w0.heap.size (fun k_ => ((P0_ k_ ∨ P2_ k_) ∨ w.heap.size ≤ k_)) u9000_ r2 ∧ Kd.R (Kd.int .i64) 3 w' w0.heap.size (fun k_ => ((P0_ k_ ∨ P2_ k_) ∨ w.heap.size ≤ k_)) u9001_ r3 ∧ Below w0.heap.size w0 w' ∧ Kept w w' (fun k_ => P0_ k_ ∨ P2_ k_) := by
  obtain ⟨A0, c0, rfl⟩ := Kd.R_slice ho0
  obtain ⟨A2, c2, rfl⟩ := Kd.R_slice ho2
  have hs0 : ∀ j, some j = (Value.slice A0 l0.length c0).ownBlock → P0_ j := fun j hj => ho0.1 j hj.symm
  have hs2 : ∀ j, some j = (Value.slice A2 l2.length c2).ownBlock → P2_ j := fun j hj => ho2.1 j hj.symm
  refine (spec_l21Go.calls0 k w0 A0 l0.length c0 l0 A1 c1 l1 A2 l2.length c2 l2 a3 r1 r2 r3 w (fun j => some j = (Value.slice A0 l0.length c0).ownBlock) (fun j => some j = (Value.slice A2 l2.length c2).ownBlock) hB (fun j h0 h2 => hp0_2 j (hs0 j h0) (hs2 j h2)) (fun j h => h) (fun j h => h)
    ⟨fun j hj => hj.symm, ho0.2.imp_ (fun _ _ hp => hp)⟩ ⟨fun j hj => hj.symm, ho2.2.imp_ (fun _ _ hp => hp)⟩ (fun W_ hk_ => hr1 W_ (hk_.mono (fun j hj => hj.imp (hs0 j) (hs2 j)))) hc1 h).mono ?_
  rintro e w' ⟨rfl, hB', hR0, hR2, hK⟩
  exact ⟨rfl, Kd.R_mono hR0 (fun j hj => .inl (.inl (hs0 j hj))), Kd.R_mono hR2 (fun j hj => .inl (.inr (hs2 j hj))), hB', hK.mono (fun j hj => hj.imp (hs0 j) (hs2 j))⟩


end Go.Proofs.Ytfanefgkeaapgaa.PFnExactSeqOk
