/- The law FnExactSeqOk: the program's SeqOk returns what the reference's returns, for all memories and lists; the arguments read afterwards as before. No condition of its own. -/
import Derived.Test.YtfanefgkeaapgaaRows
import Derived.Test.YtfanefgkeaapgaaPureSeqOk
import Derived.Test.YtfanefgkeaapgaaOpen
import Derived.WalkKit
import Derived.ProofKit
import Derived.OpenShut
import Derived.ShutString
import Derived.ChangeOld
import Derived.Below
import Derived.SizedLaws
namespace Go.Proofs.Ytfanefgkeaapgaa.fnExactSeqOk
open Go.ChangeShapes Go.WideShapes Go.ChangeAt Go.RowKit Go.Deep
open Go.Proofs.YtfanefgkeaapgaaW.PrintWords
set_option linter.unusedVariables false
theorem own : ownKnob Try.prog.godebug = none := by kernel_rfl
theorem laidOut : laidOutB Try.prog = true := by kernel_rfl
theorem opensDid : Opens Try.prog 78 PFnExactSeqOk.k78 (fun _ => True) := by
  intro H enc w base spare held fuel cs x h
  have hl := struct_cells Try.underlying78 h
  rw [show Try.prog.cellsOf 78 = 3 by kernel_rfl] at hl
  obtain ⟨a0, h0, _⟩ := field_reads Try.underlying78 h 0 0 3 1 rfl (by kernel_rfl) (Opens.int Try.underlying3)
  obtain ⟨a1, h1, _⟩ := field_reads Try.underlying78 h 1 1 3 1 rfl (by kernel_rfl) (Opens.int Try.underlying3)
  obtain ⟨a2, h2, _⟩ := field_reads Try.underlying78 h 2 2 3 1 rfl (by kernel_rfl) (Opens.int Try.underlying3)
  match cs, hl with
  | [c0, c1, c2], _ =>
    obtain rfl : c0 = .int .i64 a0 := by simpa [Kd.int, Kd.scalar] using h0
    obtain rfl : c1 = .int .i64 a1 := by simpa [Kd.int, Kd.scalar] using h1
    obtain rfl : c2 = .int .i64 a2 := by simpa [Kd.int, Kd.scalar] using h2
    exact ⟨⟨a0, a1, a2⟩, PFnExactSeqOk.k78_mk w ⟨a0, a1, a2⟩, trivial⟩
set_option maxRecDepth 100000 in
theorem lifted (os : Os) (started : os.Started) (H : Type) (enc : TypeId × Value → H) :
    ReturnsInHanded {} Try.checked os 3 .any (Rows.fnExactSeqOkSpec.pre6 enc Try.prog Try.f3 Rows.fnExactSeqOkRow.domain false) (Rows.fnExactSeqOkSpec.post enc Try.prog Try.f3 false true false false) := by
  refine returnsInHanded_of_change_sized (C := Try.checked) own started (by kernel_rfl) Try.func3
    (ChangeSpec.witness6 (enc := enc) (C := Try.checked) false ⟨#[], #[.slice none 0 0, .slice none 0 0], []⟩ 8 (by kernel_rfl) (by kernel_rfl) (by kernel_rfl) (by kernel_rfl)) ?_
  intro W base args ds gs before hval0 hW hcnd hsz0 _
  have hval : ∀ (j : Nat) t v, Try.f3.params[j]? = some t → args[j]? = some v → Value.okWide Try.prog W .any base t v := hval0
  have hW' := hW
  obtain ⟨p, q, hA0, hV, rfl, hfz, hnd⟩ := hW
  have hA : DataW.TrodAll enc Try.prog W 0 (fun _ => true) true Try.f3.params.toList args.toList ds p := hA0
  rw [Try.params3] at hA hval
  obtain ⟨v0, vs0, d0, ds0, p0, q0, hargs, rfl, rfl, h0, r0⟩ := trodAll_cons hA
  obtain ⟨v1, vs1, d1, ds1, p1, q1, rfl, rfl, rfl, h1, r1⟩ := trodAll_cons r0
  obtain ⟨rfl, rfl, rfl⟩ := trodAll_nil r1
  obtain rfl : args = #[v0, v1] := by cases args; simp_all
  obtain ⟨rfl, rfl⟩ := trodVars_none hV
  obtain ⟨a0, len0, cap0, rfl⟩ := okWide_slice Try.underlying22 (hval 0 22 v0 rfl rfl)
  obtain ⟨a1, len1, cap1, rfl⟩ := okWide_slice Try.underlying23 (hval 1 23 v1 rfl rfl)
  have k0 := h0
  have k1 := h1
  have lt0 : ∀ x ∈ p0, x.block < W.heap.size := by obtain ⟨m, hm⟩ := k0; exact DataW.trod_lt m _ _ _ hm
  have lt1 : ∀ x ∈ p1, x.block < W.heap.size := by obtain ⟨m, hm⟩ := k1; exact DataW.trod_lt m _ _ _ hm
  obtain ⟨fuel0, hf0⟩ := h0
  obtain ⟨fuel1, hf1⟩ := h1
  obtain ⟨l0, ⟨A0, c0, e0, hc0, hr0⟩, _, _⟩ := Opens.slice Try.underlying22 (d := Kd.int .i64) (by kernel_rfl) (Opens.int Try.underlying3) enc W _ _ _ _ _ _ hf0
  obtain ⟨l1, ⟨A1, c1, e1, hc1, hr1⟩, hl1, hx1⟩ := Opens.slice Try.underlying23 (d := Kd.slice 78 PFnExactSeqOk.k78) (by kernel_rfl) (Opens.slice Try.underlying50 (by kernel_rfl) opensDid) enc W _ _ _ _ _ _ hf1
  simp [Value.cells] at e0 e1
  obtain ⟨rfl, rfl, rfl⟩ := e0
  obtain ⟨rfl, rfl, rfl⟩ := e1
  clear hA0 hval0 hsz0
  obtain ⟨k, hk⟩ := (PFnExactSeqOk.law_ev l0 l1 hl1 (fun x hx => (hx1 x hx).1)).rounds
  refine (PFnExactSeqOk.laws_FnExactSeqOk.calls k _ _ l0 _ _ l1 true W hr0 hc0 hr1 hc1 hk).mono fun e W' ⟨he, bel⟩ => ?_
  subst he
  exact ⟨_, rfl, _, _, _, [], _, [], hW', trodAll_mk1 (shut_bool Try.underlying4 _), (trodAll_cons_mk (Below.trod laidOut (by kernel_rfl) (of_decide_eq_true (by kernel_rfl)) k0 bel lt0) (trodAll_cons_mk (Below.trod laidOut (by kernel_rfl) (of_decide_eq_true (by kernel_rfl)) k1 bel lt1) trodAll_mk0)), rfl, bel.frame _, fun h => by cases h⟩
theorem over : Rows.fnExactSeqOkRow.holds Try.pinned (OpenSpec.ofChange Rows.fnExactSeqOkSpec) :=
  OpenClaim.holds_of_wide 3 Try.f3 rfl rfl rfl rfl rfl rfl rfl ⟨rfl, rfl, rfl, rfl, rfl⟩ rfl rfl rfl rfl rfl (by kernel_rfl) Try.func3 (by kernel_rfl)
    (of_decide_eq_true (by kernel_rfl)) (by unfold Func.isWrapper; first | (rw [if_pos (by decide +kernel)]; kernel_rfl) | (rw [if_neg (by decide +kernel)]; exact ⟨rfl, rfl⟩))
    (fun os started H enc _ => lifted os started H enc)
theorem proved : Rows.FnExactSeqOkSaid := over
#print axioms proved
end Go.Proofs.Ytfanefgkeaapgaa.fnExactSeqOk
namespace Go.Proofs.Ytfanefgkeaapgaa
/-- The row, under a short name, for the claim. -/
theorem fnExactSeqOk_holds : Rows.FnExactSeqOkSaid := fnExactSeqOk.proved
end Go.Proofs.Ytfanefgkeaapgaa

