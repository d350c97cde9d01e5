/- Plain facts for the law FnExactTraceRead; no condition of their own. -/
import Derived.Test.YtplfplmomioffaaDoorTrPlain2
namespace Go.Proofs.YtplfplmomioffaaDoor.PFnExactTraceRead
open Go.RowKit Go.Proofs.YtplfplmomioffaaDoorW.PrintWords Go.Proofs.YtplfplmomioffaaDoorW.PrintLast Go.Proofs.YtplfplmomioffaaDoorW.PrintMore
set_option linter.unusedVariables false
set_option linter.unusedSimpArgs false

/-! ### what the reference and the program read -/
theorem ev_unique {α : Type} {g : Nat → Option α} {a b : α} (h : Ev g a) (h' : Ev g b) : a = b := by
  obtain ⟨K, hK⟩ := h
  obtain ⟨K', hK'⟩ := h'
  have h1 := hK (max K K') (Nat.le_max_left _ _)
  have h2 := hK' (max K K') (Nat.le_max_right _ _)
  rw [h1] at h2
  exact Option.some.inj h2
theorem l1_f (x a b : Int) : spec_l1In.f x a b = some (decide (a ≤ x) && decide (x ≤ b)) := by
  unfold spec_l1In.f
  by_cases h : a ≤ x <;> simp [h]
theorem read_ev (a0 : ByteArray) (hs : a0.size ≤ 1048576) : ∃ r, Ev (fun k => spec_EventRead.f k a0) r ∧ Ev (fun k => impl_EventRead.g k a0) r := by
  have hc := cut_ev 32 a0 hs
  rw [← words_er] at hc
  by_cases h5 : (er_words a0).length = 5
  · obtain ⟨w0, w1, w2, w3, w4, hw⟩ : ∃ a b c d e, er_words a0 = [a, b, c, d, e] := by
      generalize er_words a0 = l at h5
      match l, h5 with
      | [a, b, c, d, e], _ => exact ⟨a, b, c, d, e, rfl⟩
    obtain ⟨S0, x0, o0, hS0, hA0, hn0⟩ := word_ev w0 0
    obtain ⟨S1, x1, o1, hS1, hA1, hn1⟩ := word_ev w1 1
    obtain ⟨S2, x2, o2, hS2, hA2, hn2⟩ := word_ev w2 2
    obtain ⟨S3, x3, o3, hS3, hA3, hn3⟩ := word_ev w3 3
    obtain ⟨S4, x4, o4, hS4, hA4, hn4⟩ := word_ev w4 4
    rw [hw] at hc
    refine ⟨if okS 0 S0 = true ∧ okS 1 S1 = true ∧ okS 2 S2 = true ∧ okS 3 S3 = true ∧ okS 4 S4 = true then (S0, S1, S2, S3, S4, true) else (0, 0, 0, 0, 0, false), ?_, ?_⟩
    · refine hc.bind ?_
      refine Ev.congr (fun k => if_pos (by simp)) ?_
      refine Ev.congr (fun k => if_pos (by simp)) (hS0.bind ?_)
      refine Ev.congr (fun k => if_pos (by simp)) (hS1.bind ?_)
      refine Ev.congr (fun k => if_pos (by simp)) (hS2.bind ?_)
      refine Ev.congr (fun k => if_pos (by simp)) (hS3.bind ?_)
      refine Ev.congr (fun k => if_pos (by simp)) (hS4.bind ?_)
      refine Ev.step (f := fun _ => some _) (fun k => ?_) (Ev.now _)
      simp only [l1_f, Option.bind_some, spec_EventRead.j0, okS]
      by_cases q0 : 0 ≤ S0 ∧ S0 ≤ 99
      · by_cases q1 : 0 ≤ S1 ∧ S1 ≤ 99
        · by_cases q2 : -1 ≤ S2
          · by_cases q3 : -1 ≤ S3
            · by_cases q4 : -1 ≤ S4
              · have n2 : ¬ S2 < -1 := by omega
                have n3 : ¬ S3 < -1 := by omega
                have n4 : ¬ S4 < -1 := by omega
                simp [q0, q1, q2, q3, q4, n2, n3, n4]
              · have n2 : ¬ S2 < -1 := by omega
                have n3 : ¬ S3 < -1 := by omega
                have n4 : S4 < -1 := by omega
                simp [q0, q1, q2, q3, q4, n2, n3, n4]
            · have n2 : ¬ S2 < -1 := by omega
              have n3 : S3 < -1 := by omega
              simp [q0, q1, q2, q3, n2, n3]
          · have n2 : S2 < -1 := by omega
            simp [q0, q1, q2, n2]
        · simp [q0, q1]
      · simp [q0]
    · refine Ev.congr (f := fun k => er_evl k [w0, w1, w2, w3, w4] 0 []) (fun k => by simp only [impl_EventRead.g]; rw [if_pos h5, hw]) ?_
      have hno : ∀ {α : Type} {g : Nat → Option α} {r : α}, g = (fun _ => some r) → Ev g r := fun h => h ▸ Ev.now _
      simp only [er_evl]
      refine hA0.bind ?_
      simp only [hn0]
      by_cases q0 : okS 0 S0 = true
      · simp only [q0, if_true, true_and]
        refine hA1.bind ?_
        simp only [hn1]
        by_cases q1 : okS 1 S1 = true
        · simp only [q1, if_true, true_and]
          refine hA2.bind ?_
          simp only [hn2]
          by_cases q2 : okS 2 S2 = true
          · simp only [q2, if_true, true_and]
            refine hA3.bind ?_
            simp only [hn3]
            by_cases q3 : okS 3 S3 = true
            · simp only [q3, if_true, true_and]
              refine hA4.bind ?_
              simp only [hn4]
              by_cases q4 : okS 4 S4 = true
              · simp only [q4, if_true]
                exact hno rfl
              · simp only [q4, if_false, Bool.false_eq_true]
                exact hno rfl
            · simp only [q3, if_false, Bool.false_eq_true, false_and]
              exact hno rfl
          · simp only [q2, if_false, Bool.false_eq_true, false_and]
            exact hno rfl
        · simp only [q1, if_false, Bool.false_eq_true, false_and]
          exact hno rfl
      · simp only [q0, if_false, Bool.false_eq_true, false_and]
        exact hno rfl
  · refine ⟨(0, 0, 0, 0, 0, false), hc.bind ?_, Ev.congr (f := fun _ => some _) (fun k => ?_) (Ev.now _)⟩
    · refine Ev.congr (f := fun _ => some _) (fun k => ?_) (Ev.now _)
      exact if_neg (by omega)
    · simp only [impl_EventRead.g]; rw [if_neg h5]

end Go.Proofs.YtplfplmomioffaaDoor.PFnExactTraceRead
