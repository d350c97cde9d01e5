/- The walk of the program's EventRead; no condition but the premises that its theorem names. -/
import Derived.Test.YtplfplmomioffaaDoorPFnExactEventReadx0
import Derived.Test.YtplfplmomioffaaDoorPFnExactEventReadx1
import Derived.Test.YtplfplmomioffaaDoorPFnExactEventReadx2
import Derived.Test.YtplfplmomioffaaDoorPFnExactEventReadx3
import Derived.Test.YtplfplmomioffaaDoorShelf
namespace Go.Proofs.YtplfplmomioffaaDoor.PFnExactEventRead
open Go.RowKit Go.Proofs.YtplfplmomioffaaDoorW.PrintWords Go.Proofs.YtplfplmomioffaaDoorW.PrintLast Go.Proofs.YtplfplmomioffaaDoorW.PrintMore
set_option linter.unusedVariables false
set_option linter.unusedSimpArgs false
theorem from_f (x a b : Int) : impl_from.f x a b = some (decide (a ≤ x) && decide (x ≤ b)) := by
  unfold impl_from.f
  by_cases h : a ≤ x <;> simp [h]
/-- Is a number in the bounds of its place? -/
def inPlace (i : Nat) (x : Int) : Bool := if i < 2 then decide (0 ≤ x) && decide (x ≤ 99) else decide (-1 ≤ x) && decide (x ≤ 65535)
/-- One word's number, or none. -/
def numOf (i : Nat) (w : ByteArray) (x : Int) (ok : Bool) : Option Int := if w.toList = [45] then (if inPlace i (-1) = true then some (-1) else none) else if ok = true ∧ inPlace i x = true then some x else none
def evl (k : Nat) : List ByteArray → Nat → List Int → Option (Int × Int × Int × Int × Int × Bool)
  | [], _, acc => some (acc.getD 0 0, acc.getD 1 0, acc.getD 2 0, acc.getD 3 0, acc.getD 4 0, true)
  | w :: ws, i, acc => (impl_number.f k w 5).bind fun xo => match numOf i w xo.1 xo.2 with
    | some x => evl k ws (i + 1) (acc ++ [x])
    | none => some (0, 0, 0, 0, 0, false)
theorem evl_mono (k : Nat) : ∀ ws i acc, LeO (evl k ws i acc) (evl (k + 1) ws i acc)
  | [], i, acc => LeO.refl _
  | w :: ws, i, acc => by
    simp only [evl]
    refine LeO.bind (impl_number.mono _ _ _) fun xo => ?_
    cases numOf i w xo.1 xo.2 with
    | none => exact LeO.refl _
    | some x => exact evl_mono k ws (i + 1) (acc ++ [x])
def words (a0 : ByteArray) : List ByteArray := Lib.splitB ⟨#[32]⟩ 0 (Lib.countB a0 ⟨#[32]⟩) a0
def impl_EventRead.f (k : Nat) (a0 : ByteArray) : Option (Int × Int × Int × Int × Int × Bool) := if (words a0).length = 5 then evl k (words a0) 0 [] else some (0, 0, 0, 0, 0, false)
theorem impl_EventRead.mono : ∀ a0 k, LeO (impl_EventRead.f k a0) (impl_EventRead.f (k + 1) a0) := by
  intro a0 k
  unfold impl_EventRead.f
  exact LeO.ite (evl_mono k _ _ _) (LeO.refl _)

theorem words_len (a0 : ByteArray) : (words a0).length = Lib.countB a0 ⟨#[32]⟩ + 1 := Lib.splitB_all _ (by decide) 0 _ a0 rfl

theorem arr_at (acc : List Int) (i : Nat) (ha : acc.length = i) (hi : i < 5) : ((acc ++ List.replicate (5 - i) 0).map (Value.int .i64)).toArray[i]? = some (.int .i64 0) := by
  subst ha
  have : 5 - acc.length = (5 - (acc.length + 1)) + 1 := by omega
  rw [this, List.replicate_succ]
  simp
theorem arr_put (acc : List Int) (i : Nat) (x : Int) (ha : acc.length = i) (hi : i < 5) :
    ((acc ++ List.replicate (5 - i) 0).map (Value.int .i64)).toArray.setIfInBounds i (.int .i64 x) = (((acc ++ [x]) ++ List.replicate (5 - (i + 1)) 0).map (Value.int .i64)).toArray := by
  subst ha
  have : 5 - acc.length = (5 - (acc.length + 1)) + 1 := by omega
  rw [this, List.replicate_succ]
  simp [List.set_append]
theorem five (l : List Int) (h : l.length = 5) : ∃ a b c d e, l = [a, b, c, d, e] := by
  match l, h with
  | [a, b, c, d, e], _ => exact ⟨a, b, c, d, e, rfl⟩
set_option maxHeartbeats 4000000 in
set_option maxRecDepth 100000 in
theorem impl_EventRead.calls (k : Nat) (a0 : ByteArray) (r1 r2 r3 r4 r5 : Int) (r6 : Bool) (m : Int) (w : World) (hm : w.cell? ⟨0, 0, none⟩ = some (.int .i64 m)) (hsz : a0.size < 4294967281) (h : impl_EventRead.f k a0 = some (r1, r2, r3, r4, r5, r6)) :
    Calls Tryd.prog 7 #[.string a0] w fun e w' => e = .returned (.tuple #[.agg #[.int .i64 r1, .int .i64 r2, .int .i64 r3, .int .i64 r4, .int .i64 r5], .bool r6]) ∧ Below w.heap.size w w' := by
  have HM := Aside0.mk hm
  have HZ := Aside0.mk hsz
  have H := Aside0.mk h
  have hu23 := Tryd.underlying23
  have hu44 := Tryd.underlying44
  clear hm hsz h
  go_enter Tryd.func7, Tryd.ntmps7
  go_wp2_with fail
  refine (Tryd.strings_Split a0 ⟨#[32]⟩ m _ HZ.out (pw_cell_below (below_alloc (Below.refl _ w) _) HM.out) (by decide)).mono ?_
  rintro e w1 ⟨rfl, hw1⟩
  have hwl := words_len a0
  rw [← hwl]
  have HB1 : Aside0 (Below w.heap.size w w1) := ⟨by rw [hw1]; exact below_alloc (below_alloc (Below.refl _ w) _) _⟩
  have hbox : w1.heap[w.heap.size]? = some (.cells #[.int .i64 0, .int .i64 0, .int .i64 0, .int .i64 0, .int .i64 0] 23 (0, 0)) := by
    rw [hw1]; exact ((below_alloc (Below.refl _ _) _).block w.heap.size (by simp)).trans (blk_new w _)
  have hsz1 : (w.alloc (.cells #[.int .i64 0, .int .i64 0, .int .i64 0, .int .i64 0, .int .i64 0] 23)).heap.size = w.heap.size + 1 := by simp
  have hws : w1.heap[w.heap.size + 1]? = some (.cells ((words a0).map Value.string).toArray 9 (0, 0)) := by
    rw [hw1]; have := blk_new (w.alloc (.cells #[.int .i64 0, .int .i64 0, .int .i64 0, .int .i64 0, .int .i64 0] 23)) (.cells ((words a0).map Value.string).toArray 9); rw [hsz1] at this; exact this
  rw [hsz1]
  clear hw1 hwl
  have hz : ∀ (W : World) (j : Nat), W.heap[w.heap.size]? = some (.cells #[.int .i64 0, .int .i64 0, .int .i64 0, .int .i64 0, .int .i64 0] 23 (0, 0)) → j < 5 → (W.setCell ⟨w.heap.size, j, none⟩ (.int .i64 0)).heap[w.heap.size]? = some (.cells #[.int .i64 0, .int .i64 0, .int .i64 0, .int .i64 0, .int .i64 0] 23 (0, 0)) := by
    intro W j hW hj
    refine blk_put hW j _ ?_
    rcases j with _ | _ | _ | _ | _ | j <;> first | rfl | omega
  by_cases h5 : (words a0).length = 5
  · have hb5 : (((words a0).length : Int) != 5) = false := by simp [h5]
    have H2 := H.out
    unfold impl_EventRead.f at H2
    rw [if_pos h5] at H2
    have H := Aside0.mk H2
    clear H2
    have hga : w.heap.size + 1 < w1.heap.size := by
      obtain ⟨h, _⟩ := Array.getElem?_eq_some_iff.mp hws; exact h
    have HGA := Aside0.mk hga
    clear hga
    have hwl : ((words a0).length : Int) = 5 := by omega
    go_wp2_with fail
    have HB2 : Aside0 (Below w.heap.size w (w1.alloc (.cells #[.int .i64 0, .int .i64 0, .int .i64 0, .int .i64 0, .int .i64 0] 44))) := ⟨below_alloc HB1.out _⟩
    have hbox2 : (w1.alloc (.cells #[.int .i64 0, .int .i64 0, .int .i64 0, .int .i64 0, .int .i64 0] 44)).heap[w.heap.size]? = some (.cells #[.int .i64 0, .int .i64 0, .int .i64 0, .int .i64 0, .int .i64 0] 23 (0, 0)) := ((below_alloc (Below.refl _ _) _).block w.heap.size (by have := HGA.out; omega)).trans hbox
    have hws2 : (w1.alloc (.cells #[.int .i64 0, .int .i64 0, .int .i64 0, .int .i64 0, .int .i64 0] 44)).heap[w.heap.size + 1]? = some (.cells ((words a0).map Value.string).toArray 9 (0, 0)) := ((below_alloc (Below.refl _ _) _).block (w.heap.size + 1) HGA.out).trans hws
    have harr2 : (w1.alloc (.cells #[.int .i64 0, .int .i64 0, .int .i64 0, .int .i64 0, .int .i64 0] 44)).heap[w1.heap.size]? = some (.cells #[.int .i64 0, .int .i64 0, .int .i64 0, .int .i64 0, .int .i64 0] 44 (0, 0)) := blk_new w1 _
    generalize (w1.alloc (.cells #[.int .i64 0, .int .i64 0, .int .i64 0, .int .i64 0, .int .i64 0] 44)) = w2 at HB2 hbox2 hws2 harr2
    generalize w1.heap.size = ga at harr2 HGA
    clear hbox hws HB1 hb5
    have HBX := Aside0.mk hbox2
    have HWS := Aside0.mk hws2
    have HAR := Aside0.mk harr2
    clear hbox2 hws2 harr2
    go_loopw [6, 7, 8, 9, 10, 11, 21] (fun _ _ _ _ _ _ v wr => ∃ (i : Nat) (acc : List Int), i ≤ 5 ∧ v = .int .i64 i ∧ acc.length = i ∧ Aside0 (evl k ((words a0).drop i) i acc = some (r1, r2, r3, r4, r5, r6)) ∧ Aside0 (Below w.heap.size w wr) ∧
      Aside0 (wr.heap[w.heap.size]? = some (.cells #[.int .i64 0, .int .i64 0, .int .i64 0, .int .i64 0, .int .i64 0] 23 (0, 0))) ∧ Aside0 (wr.heap[w.heap.size + 1]? = some (.cells ((words a0).map Value.string).toArray 9 (0, 0))) ∧
      Aside0 (wr.heap[ga]? = some (.cells ((acc ++ List.replicate (5 - i) 0).map (Value.int .i64)).toArray 44 (0, 0)))) (fun _ _ _ _ _ _ v _ => 5 - (intOf v).toNat)
    case atStart => exact ⟨0, [], by omega, rfl, rfl, H, HB2, HBX, HWS, HAR⟩
    case round =>
      clear H HB2 HBX HWS HAR
      obtain ⟨i, acc, hi, rfl, hacc, H, HB, HBX, HWS, HAR⟩ := hrel
      by_cases hlt : i < 5
      · have hltz : (i : Int) < 5 := by omega
        have hxl : i < (words a0).length := by omega
        have hd := List.drop_eq_getElem_cons hxl
        have H2 := H.out
        rw [hd] at H2
        have hx : wr.cell? ⟨w.heap.size + 1, i, none⟩ = some (.string (words a0)[i]) := by
          have := blk_cell HWS.out i; rw [this]; simp [hxl]
        generalize (words a0)[i] = wd at hx H2
        simp only [evl] at H2
        obtain ⟨⟨x, ok⟩, hnum, H3⟩ := Option.bind_eq_some_iff.mp H2
        simp only at H3
        have H := Aside0.mk H3
        clear H2 H3 hd
        go_wp2_with fail
        refine (impl_number.calls k wd 5 x ok _ hnum).mono ?_
        rintro e wn' ⟨rfl, ⟨⟨nn, rfl⟩⟩⟩
        have HB_ : Aside0 (Below w.heap.size w (wr.drewN nn)) := ⟨pw_below_drewN HB.out _⟩
        have HBX_ : Aside0 ((wr.drewN nn).heap[w.heap.size]? = some (.cells #[.int .i64 0, .int .i64 0, .int .i64 0, .int .i64 0, .int .i64 0] 23 (0, 0))) := ⟨HBX.out⟩
        have HWS_ : Aside0 ((wr.drewN nn).heap[w.heap.size + 1]? = some (.cells ((words a0).map Value.string).toArray 9 (0, 0))) := ⟨HWS.out⟩
        have HAR_ : Aside0 ((wr.drewN nn).heap[ga]? = some (.cells ((acc ++ List.replicate (5 - i) 0).map (Value.int .i64)).toArray 44 (0, 0))) := ⟨HAR.out⟩
        clear HB HBX HWS HAR
        have HB := HB_
        have HBX := HBX_
        have HWS := HWS_
        have HAR := HAR_
        clear HB_ HBX_ HWS_ HAR_
        generalize wr.drewN nn = wn at HB HBX HWS HAR
        clear hnum hx
        have H2 := H.out
        clear H
        simp only [numOf, inPlace] at H2
        by_cases hdash : wd.toList = [45]
        · by_cases h2 : i < 2
          · skip
            have hb45 : (wd.toList == [45]) = true := by simpa using hdash
            rw [if_pos hdash] at H2
            simp only [if_pos h2] at H2
            have h2z : (i : Int) < 2 := by omega
            have HN := Aside0.mk H2
            clear H2
            go_wp2_with fail
            refine (impl_from.calls (-1) 0 99 (decide (0 ≤ (-1)) && decide ((-1) ≤ 99)) _ (from_f _ _ _)).mono ?_
            rintro e wm' ⟨rfl, ⟨⟨nm, rfl⟩⟩⟩
            have HB_ : Aside0 (Below w.heap.size w (wn.drewN nm)) := ⟨pw_below_drewN HB.out _⟩
            have HBX_ : Aside0 ((wn.drewN nm).heap[w.heap.size]? = some (.cells #[.int .i64 0, .int .i64 0, .int .i64 0, .int .i64 0, .int .i64 0] 23 (0, 0))) := ⟨HBX.out⟩
            have HWS_ : Aside0 ((wn.drewN nm).heap[w.heap.size + 1]? = some (.cells ((words a0).map Value.string).toArray 9 (0, 0))) := ⟨HWS.out⟩
            have HAR_ : Aside0 ((wn.drewN nm).heap[ga]? = some (.cells ((acc ++ List.replicate (5 - i) 0).map (Value.int .i64)).toArray 44 (0, 0))) := ⟨HAR.out⟩
            clear HB HBX HWS HAR
            have HB := HB_
            have HBX := HBX_
            have HWS := HWS_
            have HAR := HAR_
            clear HB_ HBX_ HWS_ HAR_
            generalize wn.drewN nm = wm at HB HBX HWS HAR
            have H2 := HN.out
            clear HN
            generalize hbb : (decide (0 ≤ (-1)) && decide ((-1) ≤ 99)) = bb at H2 ⊢
            cases bb with
            | false =>
              simp only [Bool.false_eq_true, and_false, if_false, reduceCtorEq] at H2
              simp only [Option.some.injEq, Prod.mk.injEq] at H2
              obtain ⟨rfl, rfl, rfl, rfl, rfl, rfl⟩ := H2
              have hk0 := blk_cell HBX.out
              have hkf := blk_frozen HBX.out
              go_wp2_with fail
              refine bodyPost_ret (results_ct rfl _ _ w.heap.size 23 #[.int .i64 0, .int .i64 0, .int .i64 0, .int .i64 0, .int .i64 0] (0, 0) _ rfl (hz _ 4 (hz _ 3 (hz _ 2 (hz _ 1 (hz _ 0 HBX.out (by omega)) (by omega)) (by omega)) (by omega)) (by omega)) Tryd.underlying23 rfl (by kernel_rfl)) rfl ?_
              refine ⟨rfl, ?_⟩
              exact below_set (below_set (below_set (below_set (below_set HB.out (Nat.le_refl _)) (Nat.le_refl _)) (Nat.le_refl _)) (Nat.le_refl _)) (Nat.le_refl _)
            | true =>
              simp only [and_self, if_true] at H2
              have H := Aside0.mk H2
              clear H2 hbb
              have hkf := blk_frozen HAR.out i
              have hck := (blk_cell HAR.out i).trans (arr_at acc i hacc hlt)
              have hil : i < 5 := hlt
              have hin : (i : Int).toNat = i := Int.toNat_natCast i
              go_wp2_with fail
              go_roundw
              case rel => exact ⟨i + 1, acc ++ [(-1)], by omega, by go_num, by simp [hacc], H, ⟨below_set HB.out (by have := HGA.out; omega)⟩, ⟨(Below.heap_setCell _ ⟨ga, i, none⟩ _ w.heap.size (by have := HGA.out; simp; omega)).trans HBX.out⟩, ⟨(Below.heap_setCell _ ⟨ga, i, none⟩ _ (w.heap.size + 1) (by have := HGA.out; simp; omega)).trans HWS.out⟩, ⟨blk_put HAR.out i _ (arr_put acc i (-1) hacc hlt)⟩⟩
              case measure => simp [intOf]; omega
          · skip
            have hb45 : (wd.toList == [45]) = true := by simpa using hdash
            rw [if_pos hdash] at H2
            simp only [if_neg h2] at H2
            have h2z : ¬ (i : Int) < 2 := by omega
            have HN := Aside0.mk H2
            clear H2
            go_wp2_with fail
            refine (impl_from.calls (-1) (-1) 65535 (decide ((-1) ≤ (-1)) && decide ((-1) ≤ 65535)) _ (from_f _ _ _)).mono ?_
            rintro e wm' ⟨rfl, ⟨⟨nm, rfl⟩⟩⟩
            have HB_ : Aside0 (Below w.heap.size w (wn.drewN nm)) := ⟨pw_below_drewN HB.out _⟩
            have HBX_ : Aside0 ((wn.drewN nm).heap[w.heap.size]? = some (.cells #[.int .i64 0, .int .i64 0, .int .i64 0, .int .i64 0, .int .i64 0] 23 (0, 0))) := ⟨HBX.out⟩
            have HWS_ : Aside0 ((wn.drewN nm).heap[w.heap.size + 1]? = some (.cells ((words a0).map Value.string).toArray 9 (0, 0))) := ⟨HWS.out⟩
            have HAR_ : Aside0 ((wn.drewN nm).heap[ga]? = some (.cells ((acc ++ List.replicate (5 - i) 0).map (Value.int .i64)).toArray 44 (0, 0))) := ⟨HAR.out⟩
            clear HB HBX HWS HAR
            have HB := HB_
            have HBX := HBX_
            have HWS := HWS_
            have HAR := HAR_
            clear HB_ HBX_ HWS_ HAR_
            generalize wn.drewN nm = wm at HB HBX HWS HAR
            have H2 := HN.out
            clear HN
            generalize hbb : (decide ((-1) ≤ (-1)) && decide ((-1) ≤ 65535)) = bb at H2 ⊢
            cases bb with
            | false =>
              simp only [Bool.false_eq_true, and_false, if_false, reduceCtorEq] at H2
              simp only [Option.some.injEq, Prod.mk.injEq] at H2
              obtain ⟨rfl, rfl, rfl, rfl, rfl, rfl⟩ := H2
              have hk0 := blk_cell HBX.out
              have hkf := blk_frozen HBX.out
              go_wp2_with fail
              refine bodyPost_ret (results_ct rfl _ _ w.heap.size 23 #[.int .i64 0, .int .i64 0, .int .i64 0, .int .i64 0, .int .i64 0] (0, 0) _ rfl (hz _ 4 (hz _ 3 (hz _ 2 (hz _ 1 (hz _ 0 HBX.out (by omega)) (by omega)) (by omega)) (by omega)) (by omega)) Tryd.underlying23 rfl (by kernel_rfl)) rfl ?_
              refine ⟨rfl, ?_⟩
              exact below_set (below_set (below_set (below_set (below_set HB.out (Nat.le_refl _)) (Nat.le_refl _)) (Nat.le_refl _)) (Nat.le_refl _)) (Nat.le_refl _)
            | true =>
              simp only [and_self, if_true] at H2
              have H := Aside0.mk H2
              clear H2 hbb
              have hkf := blk_frozen HAR.out i
              have hck := (blk_cell HAR.out i).trans (arr_at acc i hacc hlt)
              have hil : i < 5 := hlt
              have hin : (i : Int).toNat = i := Int.toNat_natCast i
              go_wp2_with fail
              go_roundw
              case rel => exact ⟨i + 1, acc ++ [(-1)], by omega, by go_num, by simp [hacc], H, ⟨below_set HB.out (by have := HGA.out; omega)⟩, ⟨(Below.heap_setCell _ ⟨ga, i, none⟩ _ w.heap.size (by have := HGA.out; simp; omega)).trans HBX.out⟩, ⟨(Below.heap_setCell _ ⟨ga, i, none⟩ _ (w.heap.size + 1) (by have := HGA.out; simp; omega)).trans HWS.out⟩, ⟨blk_put HAR.out i _ (arr_put acc i (-1) hacc hlt)⟩⟩
              case measure => simp [intOf]; omega
        · by_cases h2 : i < 2
          · skip
            have hb45 : (wd.toList == [45]) = false := by simpa using hdash
            rw [if_neg hdash] at H2
            simp only [if_pos h2] at H2
            have h2z : (i : Int) < 2 := by omega
            cases ok with
            | false =>
              simp only [Bool.false_eq_true, false_and, if_false] at H2
              simp only [Option.some.injEq, Prod.mk.injEq] at H2
              obtain ⟨rfl, rfl, rfl, rfl, rfl, rfl⟩ := H2
              have hk0 := blk_cell HBX.out
              have hkf := blk_frozen HBX.out
              go_wp2_with fail
              refine bodyPost_ret (results_ct rfl _ _ w.heap.size 23 #[.int .i64 0, .int .i64 0, .int .i64 0, .int .i64 0, .int .i64 0] (0, 0) _ rfl (hz _ 4 (hz _ 3 (hz _ 2 (hz _ 1 (hz _ 0 HBX.out (by omega)) (by omega)) (by omega)) (by omega)) (by omega)) Tryd.underlying23 rfl (by kernel_rfl)) rfl ?_
              refine ⟨rfl, ?_⟩
              exact below_set (below_set (below_set (below_set (below_set HB.out (Nat.le_refl _)) (Nat.le_refl _)) (Nat.le_refl _)) (Nat.le_refl _)) (Nat.le_refl _)
            | true =>
              have HN := Aside0.mk H2
              clear H2
              go_wp2_with fail
              refine (impl_from.calls x 0 99 (decide (0 ≤ x) && decide (x ≤ 99)) _ (from_f _ _ _)).mono ?_
              rintro e wm' ⟨rfl, ⟨⟨nm, rfl⟩⟩⟩
              have HB_ : Aside0 (Below w.heap.size w (wn.drewN nm)) := ⟨pw_below_drewN HB.out _⟩
              have HBX_ : Aside0 ((wn.drewN nm).heap[w.heap.size]? = some (.cells #[.int .i64 0, .int .i64 0, .int .i64 0, .int .i64 0, .int .i64 0] 23 (0, 0))) := ⟨HBX.out⟩
              have HWS_ : Aside0 ((wn.drewN nm).heap[w.heap.size + 1]? = some (.cells ((words a0).map Value.string).toArray 9 (0, 0))) := ⟨HWS.out⟩
              have HAR_ : Aside0 ((wn.drewN nm).heap[ga]? = some (.cells ((acc ++ List.replicate (5 - i) 0).map (Value.int .i64)).toArray 44 (0, 0))) := ⟨HAR.out⟩
              clear HB HBX HWS HAR
              have HB := HB_
              have HBX := HBX_
              have HWS := HWS_
              have HAR := HAR_
              clear HB_ HBX_ HWS_ HAR_
              generalize wn.drewN nm = wm at HB HBX HWS HAR
              have H2 := HN.out
              clear HN
              generalize hbb : (decide (0 ≤ x) && decide (x ≤ 99)) = bb at H2 ⊢
              cases bb with
              | false =>
                simp only [Bool.false_eq_true, and_false, if_false, reduceCtorEq] at H2
                simp only [Option.some.injEq, Prod.mk.injEq] at H2
                obtain ⟨rfl, rfl, rfl, rfl, rfl, rfl⟩ := H2
                have hk0 := blk_cell HBX.out
                have hkf := blk_frozen HBX.out
                go_wp2_with fail
                refine bodyPost_ret (results_ct rfl _ _ w.heap.size 23 #[.int .i64 0, .int .i64 0, .int .i64 0, .int .i64 0, .int .i64 0] (0, 0) _ rfl (hz _ 4 (hz _ 3 (hz _ 2 (hz _ 1 (hz _ 0 HBX.out (by omega)) (by omega)) (by omega)) (by omega)) (by omega)) Tryd.underlying23 rfl (by kernel_rfl)) rfl ?_
                refine ⟨rfl, ?_⟩
                exact below_set (below_set (below_set (below_set (below_set HB.out (Nat.le_refl _)) (Nat.le_refl _)) (Nat.le_refl _)) (Nat.le_refl _)) (Nat.le_refl _)
              | true =>
                simp only [and_self, if_true] at H2
                have H := Aside0.mk H2
                clear H2 hbb
                have hkf := blk_frozen HAR.out i
                have hck := (blk_cell HAR.out i).trans (arr_at acc i hacc hlt)
                have hil : i < 5 := hlt
                have hin : (i : Int).toNat = i := Int.toNat_natCast i
                go_wp2_with fail
                go_roundw
                case rel => exact ⟨i + 1, acc ++ [x], by omega, by go_num, by simp [hacc], H, ⟨below_set HB.out (by have := HGA.out; omega)⟩, ⟨(Below.heap_setCell _ ⟨ga, i, none⟩ _ w.heap.size (by have := HGA.out; simp; omega)).trans HBX.out⟩, ⟨(Below.heap_setCell _ ⟨ga, i, none⟩ _ (w.heap.size + 1) (by have := HGA.out; simp; omega)).trans HWS.out⟩, ⟨blk_put HAR.out i _ (arr_put acc i x hacc hlt)⟩⟩
                case measure => simp [intOf]; omega
          · skip
            have hb45 : (wd.toList == [45]) = false := by simpa using hdash
            rw [if_neg hdash] at H2
            simp only [if_neg h2] at H2
            have h2z : ¬ (i : Int) < 2 := by omega
            cases ok with
            | false =>
              simp only [Bool.false_eq_true, false_and, if_false] at H2
              simp only [Option.some.injEq, Prod.mk.injEq] at H2
              obtain ⟨rfl, rfl, rfl, rfl, rfl, rfl⟩ := H2
              have hk0 := blk_cell HBX.out
              have hkf := blk_frozen HBX.out
              go_wp2_with fail
              refine bodyPost_ret (results_ct rfl _ _ w.heap.size 23 #[.int .i64 0, .int .i64 0, .int .i64 0, .int .i64 0, .int .i64 0] (0, 0) _ rfl (hz _ 4 (hz _ 3 (hz _ 2 (hz _ 1 (hz _ 0 HBX.out (by omega)) (by omega)) (by omega)) (by omega)) (by omega)) Tryd.underlying23 rfl (by kernel_rfl)) rfl ?_
              refine ⟨rfl, ?_⟩
              exact below_set (below_set (below_set (below_set (below_set HB.out (Nat.le_refl _)) (Nat.le_refl _)) (Nat.le_refl _)) (Nat.le_refl _)) (Nat.le_refl _)
            | true =>
              have HN := Aside0.mk H2
              clear H2
              go_wp2_with fail
              refine (impl_from.calls x (-1) 65535 (decide ((-1) ≤ x) && decide (x ≤ 65535)) _ (from_f _ _ _)).mono ?_
              rintro e wm' ⟨rfl, ⟨⟨nm, rfl⟩⟩⟩
              have HB_ : Aside0 (Below w.heap.size w (wn.drewN nm)) := ⟨pw_below_drewN HB.out _⟩
              have HBX_ : Aside0 ((wn.drewN nm).heap[w.heap.size]? = some (.cells #[.int .i64 0, .int .i64 0, .int .i64 0, .int .i64 0, .int .i64 0] 23 (0, 0))) := ⟨HBX.out⟩
              have HWS_ : Aside0 ((wn.drewN nm).heap[w.heap.size + 1]? = some (.cells ((words a0).map Value.string).toArray 9 (0, 0))) := ⟨HWS.out⟩
              have HAR_ : Aside0 ((wn.drewN nm).heap[ga]? = some (.cells ((acc ++ List.replicate (5 - i) 0).map (Value.int .i64)).toArray 44 (0, 0))) := ⟨HAR.out⟩
              clear HB HBX HWS HAR
              have HB := HB_
              have HBX := HBX_
              have HWS := HWS_
              have HAR := HAR_
              clear HB_ HBX_ HWS_ HAR_
              generalize wn.drewN nm = wm at HB HBX HWS HAR
              have H2 := HN.out
              clear HN
              generalize hbb : (decide ((-1) ≤ x) && decide (x ≤ 65535)) = bb at H2 ⊢
              cases bb with
              | false =>
                simp only [Bool.false_eq_true, and_false, if_false, reduceCtorEq] at H2
                simp only [Option.some.injEq, Prod.mk.injEq] at H2
                obtain ⟨rfl, rfl, rfl, rfl, rfl, rfl⟩ := H2
                have hk0 := blk_cell HBX.out
                have hkf := blk_frozen HBX.out
                go_wp2_with fail
                refine bodyPost_ret (results_ct rfl _ _ w.heap.size 23 #[.int .i64 0, .int .i64 0, .int .i64 0, .int .i64 0, .int .i64 0] (0, 0) _ rfl (hz _ 4 (hz _ 3 (hz _ 2 (hz _ 1 (hz _ 0 HBX.out (by omega)) (by omega)) (by omega)) (by omega)) (by omega)) Tryd.underlying23 rfl (by kernel_rfl)) rfl ?_
                refine ⟨rfl, ?_⟩
                exact below_set (below_set (below_set (below_set (below_set HB.out (Nat.le_refl _)) (Nat.le_refl _)) (Nat.le_refl _)) (Nat.le_refl _)) (Nat.le_refl _)
              | true =>
                simp only [and_self, if_true] at H2
                have H := Aside0.mk H2
                clear H2 hbb
                have hkf := blk_frozen HAR.out i
                have hck := (blk_cell HAR.out i).trans (arr_at acc i hacc hlt)
                have hil : i < 5 := hlt
                have hin : (i : Int).toNat = i := Int.toNat_natCast i
                go_wp2_with fail
                go_roundw
                case rel => exact ⟨i + 1, acc ++ [x], by omega, by go_num, by simp [hacc], H, ⟨below_set HB.out (by have := HGA.out; omega)⟩, ⟨(Below.heap_setCell _ ⟨ga, i, none⟩ _ w.heap.size (by have := HGA.out; simp; omega)).trans HBX.out⟩, ⟨(Below.heap_setCell _ ⟨ga, i, none⟩ _ (w.heap.size + 1) (by have := HGA.out; simp; omega)).trans HWS.out⟩, ⟨blk_put HAR.out i _ (arr_put acc i x hacc hlt)⟩⟩
                case measure => simp [intOf]; omega
      · have hnlt : ¬ (i : Int) < 5 := by omega
        have h5i : i = 5 := by omega
        subst h5i
        have H2 := H.out
        clear H
        rw [List.drop_eq_nil_of_le (by omega)] at H2
        simp only [evl, Option.some.injEq, Prod.mk.injEq] at H2
        obtain ⟨rfl, rfl, rfl, rfl, rfl, rfl⟩ := H2
        obtain ⟨x0, x1, x2, x3, x4, rfl⟩ := five acc hacc
        simp only [Nat.sub_self, List.replicate_zero, List.append_nil, List.map_cons, List.map_nil] at HAR
        have hc0 := blk_cell HAR.out 0
        have hc1 := blk_cell HAR.out 1
        have hc2 := blk_cell HAR.out 2
        have hc3 := blk_cell HAR.out 3
        have hc4 := blk_cell HAR.out 4
        simp only [List.getElem?_toArray, List.getElem?_cons_zero, List.getElem?_cons_succ] at hc0 hc1 hc2 hc3 hc4
        have hk0 := blk_cell HBX.out
        have hkf := blk_frozen HBX.out
        go_wp2_with fail
        have q0 := blk_put HBX.out 0 (.int .i64 x0) rfl
        have q1 := blk_put q0 1 (.int .i64 x1) rfl
        have q2 := blk_put q1 2 (.int .i64 x2) rfl
        have q3 := blk_put q2 3 (.int .i64 x3) rfl
        have q4 := blk_put q3 4 (.int .i64 x4) rfl
        refine bodyPost_ret (results_ct rfl _ _ w.heap.size 23 _ (0, 0) _ rfl q4 Tryd.underlying23 rfl (by kernel_rfl)) rfl ?_
        refine ⟨rfl, ?_⟩
        exact below_set (below_set (below_set (below_set (below_set HB.out (Nat.le_refl _)) (Nat.le_refl _)) (Nat.le_refl _)) (Nat.le_refl _)) (Nat.le_refl _)
  · have hb5 : (((words a0).length : Int) != 5) = true := by simpa using (by omega : ¬ ((words a0).length : Int) = 5)
    have h2 := H.out
    unfold impl_EventRead.f at h2
    rw [if_neg h5] at h2
    simp only [Option.some.injEq, Prod.mk.injEq] at h2
    obtain ⟨rfl, rfl, rfl, rfl, rfl, rfl⟩ := h2
    have hk0 := blk_cell hbox
    have hkf := blk_frozen hbox
    go_wp2_with fail
    refine bodyPost_ret (results_ct rfl _ _ w.heap.size 23 #[.int .i64 0, .int .i64 0, .int .i64 0, .int .i64 0, .int .i64 0] (0, 0) _ rfl (hz _ 4 (hz _ 3 (hz _ 2 (hz _ 1 (hz _ 0 hbox (by omega)) (by omega)) (by omega)) (by omega)) (by omega)) Tryd.underlying23 rfl (by kernel_rfl)) rfl ?_
    refine ⟨rfl, ?_⟩
    exact below_set (below_set (below_set (below_set (below_set HB1.out (Nat.le_refl _)) (Nat.le_refl _)) (Nat.le_refl _)) (Nat.le_refl _)) (Nat.le_refl _)
end Go.Proofs.YtplfplmomioffaaDoor.PFnExactEventRead
