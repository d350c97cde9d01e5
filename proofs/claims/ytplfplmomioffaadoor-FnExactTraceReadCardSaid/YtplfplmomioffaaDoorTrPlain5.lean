/- The plain law FnExactTraceRead: what both read is alike, and marks that are set are found again; no condition of its own. -/
import Derived.Test.YtplfplmomioffaaDoorPFnExactTraceReadx6
import Derived.Test.YtplfplmomioffaaDoorTrPlain4
namespace Go.Proofs.YtplfplmomioffaaDoor.PFnExactTraceRead
open Go.RowKit Go.Proofs.YtplfplmomioffaaDoorW.PrintWords Go.Proofs.YtplfplmomioffaaDoorW.PrintLast Go.Proofs.YtplfplmomioffaaDoorW.PrintMore
set_option linter.unusedVariables false
set_option linter.unusedSimpArgs false

theorem eq_ev (L : List S23) (hl : L.length ≤ 60) : Ev (fun k => laws_eqEventS.f k L L) true := by
  have key : ∀ (d i : Nat), i + d = L.length → Ev (fun k => laws_eqEventS.l0 k L L (i : Int)) true := by
    intro d
    induction d with
    | zero =>
      intro i hi
      refine Ev.step (f := fun _ => some true) (fun k => ?_) (Ev.now _)
      simp only [laws_eqEventS.l0]
      rw [if_neg (by omega)]
    | succ d ih =>
      intro i hi
      refine Ev.step (fun k => ?_) (ih (i + 1) (by omega))
      simp only [laws_eqEventS.l0, laws_eqEvent.f, if_true, Option.bind_some]
      rw [if_pos (by omega), if_pos (by omega), succ_n i (by omega)]
      try rw [if_pos (by omega)]
  refine Ev.congr (fun k => ?_) (key L.length 0 (by omega))
  simp only [laws_eqEventS.f]
  rw [if_pos trivial]
  rfl
/-- The mark of an element. -/
def mk (i : Nat) : S23 := ⟨((1 + 5 * i : Nat) : Int), ((2 + 5 * i : Nat) : Int), ((3 + 5 * i : Nat) : Int), ((4 + 5 * i : Nat) : Int), ((5 + 5 * i : Nat) : Int)⟩
theorem rd_set (xs : List S23) (i : Nat) (v : S23) (h : i < xs.length) : rd_T23 (xs.set i v) (i : Int) = v := by simp [rd_T23, List.getD_eq_getElem?_getD, h]
theorem set_step (xs : List S23) (i : Nat) (h : i < xs.length) (l : List S23) (ys : List S23) (hx : xs = l ++ ys) (hl : l.length = i) (v : S23) : xs.set i v = (l ++ [v]) ++ ys.drop 1 := by
  subst hx hl
  cases ys with
  | nil => simp at h
  | cons y ys => simp [List.set_append]
theorem wr_small (n : Nat) (h : n ≤ 1000) : wrap64 (((n : Nat) : Int) + 1) = ((n + 1 : Nat) : Int) := succ_n n (by omega)
theorem mark_ev (L : List S23) (hl : L.length ≤ 60) : Ev (fun k => laws_markEventS.f k L 1) (((1 + 5 * L.length : Nat) : Int), (List.range L.length).map mk) := by
  have key : ∀ (d i : Nat), i + d = L.length → Ev (fun k => laws_markEventS.l0 k ((List.range i).map mk ++ L.drop i) ((1 + 5 * i : Nat) : Int) (i : Int)) (((1 + 5 * L.length : Nat) : Int), (List.range L.length).map mk) := by
    intro d
    induction d with
    | zero =>
      intro i hi
      obtain rfl : i = L.length := by omega
      refine Ev.step (f := fun _ => some _) (fun k => ?_) (Ev.now _)
      simp only [laws_markEventS.l0]
      rw [List.drop_length, List.append_nil, if_neg (by simp)]
    | succ d ih =>
      intro i hi
      refine Ev.step (fun k => ?_) (ih (i + 1) (by omega))
      have hn : ((List.range i).map mk ++ L.drop i).length = L.length := by simp; omega
      have hset := set_step ((List.range i).map mk ++ L.drop i) i (by omega) _ _ rfl (by simp) (mk i)
      have hnew : (List.range (i + 1)).map mk ++ L.drop (i + 1) = ((List.range i).map mk ++ L.drop i).set i (mk i) := by
        rw [hset, List.range_succ, List.map_append, List.drop_drop]
        rfl
      rw [hnew]
      generalize (List.range i).map mk ++ L.drop i = xs at hn
      have hi' : i < xs.length := by omega
      simp only [laws_markEventS.l0]
      rw [if_pos (by omega), if_pos (by omega), succ_n i (by omega), wr_small (1 + 5 * i) (by omega), wr_small (1 + 5 * i + 1) (by omega), wr_small (1 + 5 * i + 1 + 1) (by omega), wr_small (1 + 5 * i + 1 + 1 + 1) (by omega), wr_small (1 + 5 * i + 1 + 1 + 1 + 1) (by omega)]
      simp only [Option.bind_some, Int.toNat_natCast, List.set_set, rd_set xs i _ hi']
      have e1 : (⟨((1 + 5 * i : Nat) : Int), ((1 + 5 * i + 1 : Nat) : Int), ((1 + 5 * i + 1 + 1 : Nat) : Int), ((1 + 5 * i + 1 + 1 + 1 : Nat) : Int), ((1 + 5 * i + 1 + 1 + 1 + 1 : Nat) : Int)⟩ : S23) = mk i := by
        unfold mk
        congr 1 <;> omega
      rw [e1, show 1 + 5 * i + 1 + 1 + 1 + 1 + 1 = 1 + 5 * (i + 1) by omega]
  have := key L.length 0 (by omega)
  refine Ev.congr (fun k => ?_) this
  simp [laws_markEventS.f]
theorem held_ev (n : Nat) (hl : n ≤ 60) : Ev (fun k => laws_heldEventS.f k ((List.range n).map mk) 1) ((1 + 5 * n : Nat) : Int) := by
  have key : ∀ (d i : Nat), i + d = n → Ev (fun k => laws_heldEventS.l0 k ((List.range n).map mk) ((1 + 5 * i : Nat) : Int) (i : Int)) ((1 + 5 * n : Nat) : Int) := by
    intro d
    induction d with
    | zero =>
      intro i hi
      obtain rfl : i = n := by omega
      refine Ev.step (f := fun _ => some _) (fun k => ?_) (Ev.now _)
      simp only [laws_heldEventS.l0]
      rw [if_neg (by simp)]
    | succ d ih =>
      intro i hi
      refine Ev.step (fun k => ?_) (ih (i + 1) (by omega))
      have hlen : ((List.range n).map mk).length = n := by simp
      have hr : rd_T23 ((List.range n).map mk) (i : Int) = mk i := by
        have : i < n := by omega
        simp [rd_T23, List.getD_eq_getElem?_getD, this]
      simp only [laws_heldEventS.l0]
      rw [if_pos (by omega), if_pos (by omega), succ_n i (by omega), wr_small (1 + 5 * i) (by omega), wr_small (1 + 5 * i + 1) (by omega), wr_small (1 + 5 * i + 1 + 1) (by omega), wr_small (1 + 5 * i + 1 + 1 + 1) (by omega), wr_small (1 + 5 * i + 1 + 1 + 1 + 1) (by omega), hr]
      have q (k : Nat) (a b : Nat) (h : a = b) : ((a : Nat) : Int) = ((b : Nat) : Int) := by omega
      rw [if_pos (show (mk i).f0 = ((1 + 5 * i : Nat) : Int) from rfl), if_pos (show (mk i).f1 = ((1 + 5 * i + 1 : Nat) : Int) from q 0 _ _ (by omega)), if_pos (show (mk i).f2 = ((1 + 5 * i + 1 + 1 : Nat) : Int) from q 0 _ _ (by omega)), if_pos (show (mk i).f3 = ((1 + 5 * i + 1 + 1 + 1 : Nat) : Int) from q 0 _ _ (by omega)), if_pos (show (mk i).f4 = ((1 + 5 * i + 1 + 1 + 1 + 1 : Nat) : Int) from q 0 _ _ (by omega)), show 1 + 5 * i + 1 + 1 + 1 + 1 + 1 = 1 + 5 * (i + 1) by omega]
  have := key n 0 (by omega)
  refine Ev.congr (fun k => ?_) this
  simp [laws_heldEventS.f]
theorem pure_law (a0 : ByteArray) : ∃ k, laws_FnExactTraceRead.f k a0 = some true := by
  by_cases hb : (a0.size : Int) > 1048576
  · refine ⟨0, ?_⟩
    unfold laws_FnExactTraceRead.f
    rw [if_pos hb]
  · obtain ⟨L, b, hS, hI, hl⟩ := trace_ev a0 (by omega)
    have hE := eq_ev L hl
    have hM := mark_ev L hl
    have hH := held_ev L.length hl
    have hg : Ev (fun k => laws_FnExactTraceRead.f k a0) true := by
      refine Ev.congr (fun k => by simp only [laws_FnExactTraceRead.f]; rw [if_neg hb]) (hS.bind (hI.bind (hE.bind ?_)))
      refine Ev.congr (f := fun k => laws_FnExactTraceRead.j0 k a0 L b L false) (fun k => by simp) ?_
      refine Ev.step (fun k => by simp only [laws_FnExactTraceRead.j0]; rw [if_neg (by simp)]) (hM.bind (hH.bind ?_))
      refine Ev.congr (f := fun k => (impl_TraceRead.f k a0).bind fun bt196 => ((laws_eqEventS.f k bt196.1 L).bind fun t200 => (if t200 = true then (laws_FnExactTraceRead.j1 k ((List.range L.length).map mk) ((1 + 5 * L.length : Nat) : Int) (bt196.2 != b)) else (laws_FnExactTraceRead.j1 k ((List.range L.length).map mk) ((1 + 5 * L.length : Nat) : Int) true)))) (fun k => ?_) (hI.bind (hE.bind ?_))
      · rw [if_neg (by omega), if_pos rfl]
      · refine Ev.congr (f := fun k => laws_FnExactTraceRead.j1 k ((List.range L.length).map mk) ((1 + 5 * L.length : Nat) : Int) false) (fun k => by simp) ?_
        refine Ev.step (fun k => by simp only [laws_FnExactTraceRead.j1]; rw [if_neg (by simp)]) (hH.bind ?_)
        refine Ev.congr (f := fun _ => some true) (fun k => ?_) (Ev.now _)
        rw [if_neg (by omega), if_pos rfl]
    exact hg.rounds
end Go.Proofs.YtplfplmomioffaaDoor.PFnExactTraceRead
