/- Contracts of the program's functions, by a program of the prover's own; Lean checks each. -/
import Derived.Test.YtfanefgkeaapgaaPFnExactSeqOkx0
import Derived.Test.YtfanefgkeaapgaaPFnExactSeqOkx1
import Derived.Test.YtfanefgkeaapgaaPFnExactSeqOkx3
namespace Go.Proofs.Ytfanefgkeaapgaa.PFnExactSeqOk
open Go.RowKit Go.Proofs.YtfanefgkeaapgaaW.PrintWords Go.Proofs.YtfanefgkeaapgaaW.PrintLast Go.Proofs.YtfanefgkeaapgaaW.PrintMore
attribute [local go_sem] max2_int min2_int max_two min_two max_three min_three max_four min_four   -- for this text's walks alone
set_option linter.unusedVariables false
set_option linter.unusedSimpArgs false

/-! ### impl_some: function 27 -/
/-- One round of 'some' at the lists from i on. -/
def impl_some.sl (rec : List Int → List (List S45) → Option Bool) (mem : List Int) (all : List (List S45)) : List (List S45) → Nat → Bool → Option Bool
  | [], _, left => some (!left)
  | [] :: ls, i, left => impl_some.sl rec mem all ls (i + 1) left
  | (d :: tl) :: ls, i, left =>
    if 0 ≤ d.f0 ∧ d.f0 ≤ 23 then
      if d.f0 < mem.length then
        if d.f1 ≥ 0 ∧ ¬ d.f1 = rd mem d.f0 then impl_some.sl rec mem all ls (i + 1) true
        else (rec (if d.f2 ≥ 0 then mem.set d.f0.toNat d.f2 else mem) (all.set i tl)).bind fun b => if b = true then some true else impl_some.sl rec mem all ls (i + 1) true
      else none
    else impl_some.sl rec mem all ls (i + 1) true
def impl_some.f : Nat → List Int → List (List S45) → Option Bool
  | 0, _, _ => none
  | k + 1, mem, lists => if mem.length < 17592186044416 then if lists.length < 5864062014805 then impl_some.sl (impl_some.f k) mem lists lists 0 false else none else none

theorem impl_some.sl_mono {r1 r2 : List Int → List (List S45) → Option Bool} (h : ∀ m l, LeO (r1 m l) (r2 m l)) (mem : List Int) (all : List (List S45)) : ∀ ls i b, LeO (impl_some.sl r1 mem all ls i b) (impl_some.sl r2 mem all ls i b)
  | [], i, b => LeO.refl _
  | [] :: ls, i, b => by
    simp only [impl_some.sl]
    exact impl_some.sl_mono h mem all ls (i + 1) b
  | (d :: tl) :: ls, i, b => by
    have h1 := impl_some.sl_mono h mem all ls (i + 1) true
    simp only [impl_some.sl]
    refine LeO.ite (LeO.ite (LeO.ite h1 (LeO.bind (h _ _) fun x => LeO.ite (LeO.refl _) h1)) (LeO.refl _)) h1
theorem impl_some.mono : ∀ a0 a1 k, LeO (impl_some.f k a0 a1) (impl_some.f (k + 1) a0 a1) := by
  intro a0 a1 k
  induction k generalizing a0 a1 with
  | zero => intro r h; simp [impl_some.f] at h
  | succ k ih =>
    simp only [impl_some.f] at ih ⊢
    exact LeO.ite (LeO.ite (impl_some.sl_mono (fun m l => ih m l) _ _ _ _ _) (LeO.refl _)) (LeO.refl _)

theorem isCell_f (x : Int) : impl_isCell.f x = some (decide (0 ≤ x) && decide (x ≤ 23)) := by
  unfold impl_isCell.f impl_from.f
  by_cases h : 0 ≤ x <;> simp [h]

set_option maxHeartbeats 4000000 in
set_option maxRecDepth 100000 in
theorem impl_some.calls (k : Nat) : ∀ (A0 : Option Addr) (c0 : Nat) (l0 : List Int) (A1 : Option Addr) (c1 : Nat) (l1 : List (List S45)) (r : Bool) (w : World)
    (hr0 : Kd.C (Kd.int .i64) w A0 l0.length l0) (hc0 : l0.length ≤ c0) (hr1 : Kd.C (Kd.slice 45 k45) w A1 l1.length l1) (hc1 : l1.length ≤ c1) (h : impl_some.f k l0 l1 = some r),
    Calls Try.prog 27 #[.slice A0 l0.length c0, .slice A1 l1.length c1] w fun e w' => e = .returned (.bool r) ∧ Below w.heap.size w w' := by
  induction k with
  | zero => intros; rename_i h; exact absurd h (by simp [impl_some.f])
  | succ k ih =>
  intro A0 c0 l0 A1 c1 l1 r w hr0 hc0 hr1 hc1 h
  simp only [impl_some.f] at h
  have hm : l0.length < 17592186044416 := Decidable.byContradiction fun hn => by rw [if_neg hn] at h; cases h
  rw [if_pos hm] at h
  have hl : l1.length < 5864062014805 := Decidable.byContradiction fun hn => by rw [if_neg hn] at h; cases h
  rw [if_pos hl] at h
  have HR0 := Aside0.mk hr0
  have HR1 := Aside0.mk hr1
  have H := Aside0.mk h
  have hm1 := Kd.C_max hr1
  clear hr0 hr1 h
  go_enter Try.func27, Try.ntmps27
  go_wp2_with fail

  go_loopw [5, 6, 7, 8, 9, 10, 13] (fun v5 _ _ _ _ _ v13 wr => ∃ (i : Nat) (b : Bool), i ≤ l1.length ∧ v5 = .bool b ∧ v13 = .int .i64 i ∧ Aside0 (impl_some.sl (impl_some.f k) l0 l1 (l1.drop i) i b = some r) ∧ Aside0 (Below w.heap.size w wr)) (fun _ _ _ _ _ _ v13 _ => l1.length - (intOf v13).toNat)
  case atStart => exact ⟨0, false, Nat.zero_le _, rfl, rfl, H, ⟨Below.refl _ _⟩⟩
  case round =>
    clear H
    obtain ⟨i, b, hi, rfl, rfl, H, HB⟩ := hrel
    by_cases hlt : i < l1.length
    · have hz : 0 ≤ (i : Int) := by omega
      have hltz : (i : Int) < (l1.length : Int) := by omega
      obtain ⟨ad, Al, cl, e, hx, hlc, hCl⟩ := at_row HR1.out i hlt
      subst e
      replace hx := (HB.out.cell (World.block_lt_of_cell? w _ hx)).trans hx
      have HCw := Aside0.mk hCl
      have HCl := Aside0.mk (Kd.C_below hCl HB.out)
      have HLC := Aside0.mk hlc
      clear hCl hlc
      have hd := List.drop_eq_getElem_cons hlt
      have H2 := H.out
      rw [hd] at H2
      clear hd H
      generalize l1[i] = l at hx HCl HLC HCw H2
      cases l with
      | nil =>
        simp only [impl_some.sl] at H2
        have H := Aside0.mk H2
        clear H2
        simp only [List.length_nil] at hx
        go_wp2_with fail
        go_roundw
        case rel => exact ⟨i + 1, b, by omega, rfl, by go_num, H, HB⟩
        case measure => simp [intOf]; omega
      | cons d tl =>
        simp only [impl_some.sl] at H2
        have H := Aside0.mk H2
        clear H2
        obtain ⟨ad2, rfl, hd0, hd1, hd2⟩ := at_T45 HCl.out 0 (by simp) (by simp)
        simp only [rd_T45, Int.toNat_zero, List.getD_cons_zero, Nat.zero_mul, Addr.add_zero'] at hd0 hd1 hd2
        have hu_ := Try.underlying45
        have hne : ((tl.length : Int) + 1 == 0) = false := by simp; omega
        simp only [List.length_cons] at hx
        by_cases h23 : 0 ≤ d.f0 ∧ d.f0 ≤ 23
        · have hin : impl_isCell.f d.f0 = some true := by rw [isCell_f]; simp [h23.1, h23.2]
          have H2 := H.out
          rw [if_pos h23] at H2
          have hlt0 : d.f0 < (l0.length : Int) := Decidable.byContradiction fun hn => by rw [if_neg hn] at H2; cases H2
          rw [if_pos hlt0] at H2
          clear H
          obtain ⟨ad0, e, hm0⟩ := Kd.at_int HR0.out d.f0 h23.1 hlt0
          subst e
          replace hm0 := (HB.out.cell (World.block_lt_of_cell? w _ hm0)).trans hm0
          have hm1' : ∀ o, (wr.alloc o).cell? (ad0.add d.f0.toNat) = some (.int .i64 (rd l0 d.f0)) := fun o => pw_cell_below (below_alloc (Below.refl _ wr) o) hm0
          clear hm0
          by_cases h1 : 0 ≤ d.f1
          · have hb1 : decide (0 ≤ d.f1) = true := decide_eq_true h1
            by_cases h2 : d.f1 = rd l0 d.f0
            · rw [if_neg (fun h => h.2 h2)] at H2
              have hb2 : (d.f1 != rd l0 d.f0) = false := by simpa using h2
              clear h2
              go_wp2_with fail
              go_quiet ((go_at_call 49; exact Calls.quiet_of ((impl_isCell.calls d.f0 true _ hin).mono fun _ _ ⟨he, hd⟩ => ⟨he, hd.out⟩)))
              clear hb1 hb2 hm1' hin h1
              clear hx hd0 hd1 hd2
              go_wp2_with fail
              refine (slices_Clone_int_int.calls _ c0 l0 l0 _ (Kd.C_below HR0.out (pw_below_drewN (below_alloc HB.out _) _)) hc0 (by simp [slices_Clone_int_int.f, hm])).mono ?_
              rintro e w1 ⟨v0, rfl, hR, hb1⟩
              have HB1 := Aside0.mk (below_step (pw_below_drewN (below_alloc HB.out _) _) hb1)
              have hbase := hb1.size
              have hk2 : w1.cell? ⟨wr.heap.size, 2, none⟩ = some (.int .i64 d.f2) := (hb1.cell (p := ⟨wr.heap.size, 2, none⟩) (by simp)).trans (by simp)
              have hk0 : w1.cell? ⟨wr.heap.size, 0, none⟩ = some (.int .i64 d.f0) := (hb1.cell (p := ⟨wr.heap.size, 0, none⟩) (by simp)).trans (by simp)
              obtain ⟨g, cp, rfl, hge, hglt, _⟩ := Kd.R_form hR (by omega)
              have HGE : Aside0 (w.heap.size ≤ g) := ⟨Nat.le_trans (pw_below_drewN (below_alloc HB.out _) _).size hge⟩
              clear hb1 hbase hge
              by_cases h3 : 0 ≤ d.f2
              · rw [if_pos h3] at H2
                have hb3 : decide (0 ≤ d.f2) = true := decide_eq_true h3
                obtain ⟨hcx, hcf⟩ := Kd.R_celln 0 hR d.f0 h23.1 hlt0
                have HP := Aside0.mk (Kd.R_putn hR d.f0 d.f2)
                clear hR
                go_wp2_with fail
                have HB2 := Aside0.mk (below_set (j := d.f0.toNat) (v := .int .i64 d.f2) HB1.out HGE.out)
                clear HB1 hk0 hk2
                refine (slices_Clone_impl_Did_impl_Did.callsD (Kd.fixed (Kd.slice 45 k45) w) rfl (fun _ _ _ _ _ h => h) _ c1 l1 _ (Kd.C_below (d := Kd.fixed (Kd.slice 45 k45) w) HR1.out HB2.out) hl).mono ?_
                rintro e w3 ⟨v1, rfl, hR3, hb3'⟩
                have HMC := Aside0.mk (Kd.R_reads' HP.out).2.2
                have HBW := Aside0.mk hb3'
                have HCP := Aside0.mk (Kd.R_reads' HP.out).2.1
                have HB3 := Aside0.mk (below_step HB2.out hb3')
                obtain ⟨g3, c3, rfl, hge3, hglt3, _⟩ := Kd.R_form hR3 (by omega)
                have HGW := Aside0.mk hge3
                have HGE3 : Aside0 (w.heap.size ≤ g3) := ⟨Nat.le_trans HB2.out.size hge3⟩
                have HLC1 := Aside0.mk (Kd.R_reads' hR3).2.1
                have HD := Kd.C_drop (m := 1) (c := cl) HCw.out (by simp) HLC.out
                rw [show k45.sz = 3 from rfl] at HD
                simp only [List.drop_one, List.tail_cons, Nat.one_mul, Option.map_some] at HD
                clear HP hge3 hb3'
                by_cases hc1 : cl = 1
                · rw [if_pos hc1] at HD
                  have hKt : ∀ B, (Kd.fixed (Kd.slice 45 k45) w).M w3 B (fun _ => False) tl [.slice (some ad2) tl.length 0] := fun _ => ⟨_, _, rfl, by have := HLC.out; simp only [List.length_cons] at this; omega, by first | exact HD | (simp only [Addr.add_succ'] at HD; exact HD)⟩
                  clear HD
                  obtain ⟨⟨vo, hco⟩, hfo, hP3, _⟩ := Kd.R_put1 (d := Kd.fixed (Kd.slice 45 k45) w) rfl hR3 i hlt [] tl _ (hKt _) (fun _ h => h.elim)
                  have HP3 := Aside0.mk (Kd.R_reads' hP3).2.2
                  clear hKt hP3 hR3
                  have hlc := HLC.out
                  simp only [List.length_cons] at hlc
                  go_wp2_with fail
                  have HB4 := Aside0.mk (below_set (j := i) (v := .slice (some ad2) tl.length 0) HB3.out HGE3.out)
                  obtain ⟨rb, hrec, H3⟩ := Option.bind_eq_some_iff.mp H2
                  have ih' := ih (some ⟨g, 0, none⟩) cp (l0.set d.f0.toNat d.f2) (some ⟨g3, 0, none⟩) c3 (l1.set i tl) rb _ (Kd.C_below HMC.out (below_set (j := i) (v := .slice (some ad2) tl.length 0) HBW.out HGW.out)) (by have := HCP.out; simpa using this) (Kd.C_read (d := Kd.slice 45 k45) (dm := Kd.fixed (Kd.slice 45 k45) w) rfl (fun x cs h => (Kd.slice 45 k45).K_below HB4.out h) HP3.out) (by have := HLC1.out; simpa using this) hrec
                  simp only [List.length_set] at ih'
                  refine ih'.mono ?_
                  rintro e w5 ⟨rfl, hb5⟩
                  have HB5 := Aside0.mk (below_step HB4.out hb5)
                  clear ih' hb5 hco hfo hrec HB4 HP3 H2
                  cases rb with
                  | true =>
                    obtain rfl : true = r := by simpa using H3
                    go_wp2_with fail
                    go_ret
                    exact ⟨rfl, HB5.out⟩
                  | false =>
                    have H := Aside0.mk (show impl_some.sl (impl_some.f k) l0 l1 (l1.drop (i + 1)) (i + 1) true = some r by simpa using H3)
                    clear H3
                    go_wp2_with fail
                    go_roundw
                    case rel => exact ⟨i + 1, true, by omega, rfl, by go_num, H, HB5⟩
                    case measure => simp [intOf]; omega
                · rw [if_neg hc1] at HD
                  have hKt : ∀ B, (Kd.fixed (Kd.slice 45 k45) w).M w3 B (fun _ => False) tl [.slice (some ⟨ad2.block, ad2.off + 3, none⟩) tl.length (cl - 1)] := fun _ => ⟨_, _, rfl, by have := HLC.out; simp only [List.length_cons] at this; omega, by first | exact HD | (simp only [Addr.add_succ'] at HD; exact HD)⟩
                  clear HD
                  obtain ⟨⟨vo, hco⟩, hfo, hP3, _⟩ := Kd.R_put1 (d := Kd.fixed (Kd.slice 45 k45) w) rfl hR3 i hlt [] tl _ (hKt _) (fun _ h => h.elim)
                  have HP3 := Aside0.mk (Kd.R_reads' hP3).2.2
                  clear hKt hP3 hR3
                  have hlc := HLC.out
                  simp only [List.length_cons] at hlc
                  go_wp2_with fail
                  have HB4 := Aside0.mk (below_set (j := i) (v := .slice (some ⟨ad2.block, ad2.off + 3, none⟩) tl.length (cl - 1)) HB3.out HGE3.out)
                  obtain ⟨rb, hrec, H3⟩ := Option.bind_eq_some_iff.mp H2
                  have ih' := ih (some ⟨g, 0, none⟩) cp (l0.set d.f0.toNat d.f2) (some ⟨g3, 0, none⟩) c3 (l1.set i tl) rb _ (Kd.C_below HMC.out (below_set (j := i) (v := .slice (some ⟨ad2.block, ad2.off + 3, none⟩) tl.length (cl - 1)) HBW.out HGW.out)) (by have := HCP.out; simpa using this) (Kd.C_read (d := Kd.slice 45 k45) (dm := Kd.fixed (Kd.slice 45 k45) w) rfl (fun x cs h => (Kd.slice 45 k45).K_below HB4.out h) HP3.out) (by have := HLC1.out; simpa using this) hrec
                  simp only [List.length_set] at ih'
                  refine ih'.mono ?_
                  rintro e w5 ⟨rfl, hb5⟩
                  have HB5 := Aside0.mk (below_step HB4.out hb5)
                  clear ih' hb5 hco hfo hrec HB4 HP3 H2
                  cases rb with
                  | true =>
                    obtain rfl : true = r := by simpa using H3
                    go_wp2_with fail
                    go_ret
                    exact ⟨rfl, HB5.out⟩
                  | false =>
                    have H := Aside0.mk (show impl_some.sl (impl_some.f k) l0 l1 (l1.drop (i + 1)) (i + 1) true = some r by simpa using H3)
                    clear H3
                    go_wp2_with fail
                    go_roundw
                    case rel => exact ⟨i + 1, true, by omega, rfl, by go_num, H, HB5⟩
                    case measure => simp [intOf]; omega
              · rw [if_neg h3] at H2
                have hb3 : decide (0 ≤ d.f2) = false := decide_eq_false h3
                have HP := Aside0.mk hR
                have HB2 := HB1
                clear hR
                go_wp2_with fail
                clear HB1 hk0 hk2
                refine (slices_Clone_impl_Did_impl_Did.callsD (Kd.fixed (Kd.slice 45 k45) w) rfl (fun _ _ _ _ _ h => h) _ c1 l1 _ (Kd.C_below (d := Kd.fixed (Kd.slice 45 k45) w) HR1.out HB2.out) hl).mono ?_
                rintro e w3 ⟨v1, rfl, hR3, hb3'⟩
                have HMC := Aside0.mk (Kd.R_reads' HP.out).2.2
                have HBW := Aside0.mk hb3'
                have HCP := Aside0.mk (Kd.R_reads' HP.out).2.1
                have HB3 := Aside0.mk (below_step HB2.out hb3')
                obtain ⟨g3, c3, rfl, hge3, hglt3, _⟩ := Kd.R_form hR3 (by omega)
                have HGW := Aside0.mk hge3
                have HGE3 : Aside0 (w.heap.size ≤ g3) := ⟨Nat.le_trans HB2.out.size hge3⟩
                have HLC1 := Aside0.mk (Kd.R_reads' hR3).2.1
                have HD := Kd.C_drop (m := 1) (c := cl) HCw.out (by simp) HLC.out
                rw [show k45.sz = 3 from rfl] at HD
                simp only [List.drop_one, List.tail_cons, Nat.one_mul, Option.map_some] at HD
                clear HP hge3 hb3'
                by_cases hc1 : cl = 1
                · rw [if_pos hc1] at HD
                  have hKt : ∀ B, (Kd.fixed (Kd.slice 45 k45) w).M w3 B (fun _ => False) tl [.slice (some ad2) tl.length 0] := fun _ => ⟨_, _, rfl, by have := HLC.out; simp only [List.length_cons] at this; omega, by first | exact HD | (simp only [Addr.add_succ'] at HD; exact HD)⟩
                  clear HD
                  obtain ⟨⟨vo, hco⟩, hfo, hP3, _⟩ := Kd.R_put1 (d := Kd.fixed (Kd.slice 45 k45) w) rfl hR3 i hlt [] tl _ (hKt _) (fun _ h => h.elim)
                  have HP3 := Aside0.mk (Kd.R_reads' hP3).2.2
                  clear hKt hP3 hR3
                  have hlc := HLC.out
                  simp only [List.length_cons] at hlc
                  go_wp2_with fail
                  have HB4 := Aside0.mk (below_set (j := i) (v := .slice (some ad2) tl.length 0) HB3.out HGE3.out)
                  obtain ⟨rb, hrec, H3⟩ := Option.bind_eq_some_iff.mp H2
                  have ih' := ih (some ⟨g, 0, none⟩) cp (l0) (some ⟨g3, 0, none⟩) c3 (l1.set i tl) rb _ (Kd.C_below HMC.out (below_set (j := i) (v := .slice (some ad2) tl.length 0) HBW.out HGW.out)) (by have := HCP.out; simpa using this) (Kd.C_read (d := Kd.slice 45 k45) (dm := Kd.fixed (Kd.slice 45 k45) w) rfl (fun x cs h => (Kd.slice 45 k45).K_below HB4.out h) HP3.out) (by have := HLC1.out; simpa using this) hrec
                  simp only [List.length_set] at ih'
                  refine ih'.mono ?_
                  rintro e w5 ⟨rfl, hb5⟩
                  have HB5 := Aside0.mk (below_step HB4.out hb5)
                  clear ih' hb5 hco hfo hrec HB4 HP3 H2
                  cases rb with
                  | true =>
                    obtain rfl : true = r := by simpa using H3
                    go_wp2_with fail
                    go_ret
                    exact ⟨rfl, HB5.out⟩
                  | false =>
                    have H := Aside0.mk (show impl_some.sl (impl_some.f k) l0 l1 (l1.drop (i + 1)) (i + 1) true = some r by simpa using H3)
                    clear H3
                    go_wp2_with fail
                    go_roundw
                    case rel => exact ⟨i + 1, true, by omega, rfl, by go_num, H, HB5⟩
                    case measure => simp [intOf]; omega
                · rw [if_neg hc1] at HD
                  have hKt : ∀ B, (Kd.fixed (Kd.slice 45 k45) w).M w3 B (fun _ => False) tl [.slice (some ⟨ad2.block, ad2.off + 3, none⟩) tl.length (cl - 1)] := fun _ => ⟨_, _, rfl, by have := HLC.out; simp only [List.length_cons] at this; omega, by first | exact HD | (simp only [Addr.add_succ'] at HD; exact HD)⟩
                  clear HD
                  obtain ⟨⟨vo, hco⟩, hfo, hP3, _⟩ := Kd.R_put1 (d := Kd.fixed (Kd.slice 45 k45) w) rfl hR3 i hlt [] tl _ (hKt _) (fun _ h => h.elim)
                  have HP3 := Aside0.mk (Kd.R_reads' hP3).2.2
                  clear hKt hP3 hR3
                  have hlc := HLC.out
                  simp only [List.length_cons] at hlc
                  go_wp2_with fail
                  have HB4 := Aside0.mk (below_set (j := i) (v := .slice (some ⟨ad2.block, ad2.off + 3, none⟩) tl.length (cl - 1)) HB3.out HGE3.out)
                  obtain ⟨rb, hrec, H3⟩ := Option.bind_eq_some_iff.mp H2
                  have ih' := ih (some ⟨g, 0, none⟩) cp (l0) (some ⟨g3, 0, none⟩) c3 (l1.set i tl) rb _ (Kd.C_below HMC.out (below_set (j := i) (v := .slice (some ⟨ad2.block, ad2.off + 3, none⟩) tl.length (cl - 1)) HBW.out HGW.out)) (by have := HCP.out; simpa using this) (Kd.C_read (d := Kd.slice 45 k45) (dm := Kd.fixed (Kd.slice 45 k45) w) rfl (fun x cs h => (Kd.slice 45 k45).K_below HB4.out h) HP3.out) (by have := HLC1.out; simpa using this) hrec
                  simp only [List.length_set] at ih'
                  refine ih'.mono ?_
                  rintro e w5 ⟨rfl, hb5⟩
                  have HB5 := Aside0.mk (below_step HB4.out hb5)
                  clear ih' hb5 hco hfo hrec HB4 HP3 H2
                  cases rb with
                  | true =>
                    obtain rfl : true = r := by simpa using H3
                    go_wp2_with fail
                    go_ret
                    exact ⟨rfl, HB5.out⟩
                  | false =>
                    have H := Aside0.mk (show impl_some.sl (impl_some.f k) l0 l1 (l1.drop (i + 1)) (i + 1) true = some r by simpa using H3)
                    clear H3
                    go_wp2_with fail
                    go_roundw
                    case rel => exact ⟨i + 1, true, by omega, rfl, by go_num, H, HB5⟩
                    case measure => simp [intOf]; omega
            · rw [if_pos ⟨h1, h2⟩] at H2
              have hb2 : (d.f1 != rd l0 d.f0) = true := by simpa using h2
              have H := Aside0.mk H2
              clear H2 h2
              go_wp2_with fail
              go_quiet ((go_at_call 49; exact Calls.quiet_of ((impl_isCell.calls d.f0 true _ hin).mono fun _ _ ⟨he, hd⟩ => ⟨he, hd.out⟩)))
              go_wp2_with fail
              go_roundw
              case rel => exact ⟨i + 1, true, by omega, rfl, by go_num, H, ⟨pw_below_drewN (below_alloc HB.out _) _⟩⟩
              case measure => simp [intOf]; omega
          · rw [if_neg (fun h => h1 h.1)] at H2
            have hb1 : decide (0 ≤ d.f1) = false := decide_eq_false h1
            go_wp2_with fail
            go_quiet ((go_at_call 49; exact Calls.quiet_of ((impl_isCell.calls d.f0 true _ hin).mono fun _ _ ⟨he, hd⟩ => ⟨he, hd.out⟩)))
            clear hb1 hm1' hin h1
            clear hx hd0 hd1 hd2
            go_wp2_with fail
            refine (slices_Clone_int_int.calls _ c0 l0 l0 _ (Kd.C_below HR0.out (pw_below_drewN (below_alloc HB.out _) _)) hc0 (by simp [slices_Clone_int_int.f, hm])).mono ?_
            rintro e w1 ⟨v0, rfl, hR, hb1⟩
            have HB1 := Aside0.mk (below_step (pw_below_drewN (below_alloc HB.out _) _) hb1)
            have hbase := hb1.size
            have hk2 : w1.cell? ⟨wr.heap.size, 2, none⟩ = some (.int .i64 d.f2) := (hb1.cell (p := ⟨wr.heap.size, 2, none⟩) (by simp)).trans (by simp)
            have hk0 : w1.cell? ⟨wr.heap.size, 0, none⟩ = some (.int .i64 d.f0) := (hb1.cell (p := ⟨wr.heap.size, 0, none⟩) (by simp)).trans (by simp)
            obtain ⟨g, cp, rfl, hge, hglt, _⟩ := Kd.R_form hR (by omega)
            have HGE : Aside0 (w.heap.size ≤ g) := ⟨Nat.le_trans (pw_below_drewN (below_alloc HB.out _) _).size hge⟩
            clear hb1 hbase hge
            by_cases h3 : 0 ≤ d.f2
            · rw [if_pos h3] at H2
              have hb3 : decide (0 ≤ d.f2) = true := decide_eq_true h3
              obtain ⟨hcx, hcf⟩ := Kd.R_celln 0 hR d.f0 h23.1 hlt0
              have HP := Aside0.mk (Kd.R_putn hR d.f0 d.f2)
              clear hR
              go_wp2_with fail
              have HB2 := Aside0.mk (below_set (j := d.f0.toNat) (v := .int .i64 d.f2) HB1.out HGE.out)
              clear HB1 hk0 hk2
              refine (slices_Clone_impl_Did_impl_Did.callsD (Kd.fixed (Kd.slice 45 k45) w) rfl (fun _ _ _ _ _ h => h) _ c1 l1 _ (Kd.C_below (d := Kd.fixed (Kd.slice 45 k45) w) HR1.out HB2.out) hl).mono ?_
              rintro e w3 ⟨v1, rfl, hR3, hb3'⟩
              have HMC := Aside0.mk (Kd.R_reads' HP.out).2.2
              have HBW := Aside0.mk hb3'
              have HCP := Aside0.mk (Kd.R_reads' HP.out).2.1
              have HB3 := Aside0.mk (below_step HB2.out hb3')
              obtain ⟨g3, c3, rfl, hge3, hglt3, _⟩ := Kd.R_form hR3 (by omega)
              have HGW := Aside0.mk hge3
              have HGE3 : Aside0 (w.heap.size ≤ g3) := ⟨Nat.le_trans HB2.out.size hge3⟩
              have HLC1 := Aside0.mk (Kd.R_reads' hR3).2.1
              have HD := Kd.C_drop (m := 1) (c := cl) HCw.out (by simp) HLC.out
              rw [show k45.sz = 3 from rfl] at HD
              simp only [List.drop_one, List.tail_cons, Nat.one_mul, Option.map_some] at HD
              clear HP hge3 hb3'
              by_cases hc1 : cl = 1
              · rw [if_pos hc1] at HD
                have hKt : ∀ B, (Kd.fixed (Kd.slice 45 k45) w).M w3 B (fun _ => False) tl [.slice (some ad2) tl.length 0] := fun _ => ⟨_, _, rfl, by have := HLC.out; simp only [List.length_cons] at this; omega, by first | exact HD | (simp only [Addr.add_succ'] at HD; exact HD)⟩
                clear HD
                obtain ⟨⟨vo, hco⟩, hfo, hP3, _⟩ := Kd.R_put1 (d := Kd.fixed (Kd.slice 45 k45) w) rfl hR3 i hlt [] tl _ (hKt _) (fun _ h => h.elim)
                have HP3 := Aside0.mk (Kd.R_reads' hP3).2.2
                clear hKt hP3 hR3
                have hlc := HLC.out
                simp only [List.length_cons] at hlc
                go_wp2_with fail
                have HB4 := Aside0.mk (below_set (j := i) (v := .slice (some ad2) tl.length 0) HB3.out HGE3.out)
                obtain ⟨rb, hrec, H3⟩ := Option.bind_eq_some_iff.mp H2
                have ih' := ih (some ⟨g, 0, none⟩) cp (l0.set d.f0.toNat d.f2) (some ⟨g3, 0, none⟩) c3 (l1.set i tl) rb _ (Kd.C_below HMC.out (below_set (j := i) (v := .slice (some ad2) tl.length 0) HBW.out HGW.out)) (by have := HCP.out; simpa using this) (Kd.C_read (d := Kd.slice 45 k45) (dm := Kd.fixed (Kd.slice 45 k45) w) rfl (fun x cs h => (Kd.slice 45 k45).K_below HB4.out h) HP3.out) (by have := HLC1.out; simpa using this) hrec
                simp only [List.length_set] at ih'
                refine ih'.mono ?_
                rintro e w5 ⟨rfl, hb5⟩
                have HB5 := Aside0.mk (below_step HB4.out hb5)
                clear ih' hb5 hco hfo hrec HB4 HP3 H2
                cases rb with
                | true =>
                  obtain rfl : true = r := by simpa using H3
                  go_wp2_with fail
                  go_ret
                  exact ⟨rfl, HB5.out⟩
                | false =>
                  have H := Aside0.mk (show impl_some.sl (impl_some.f k) l0 l1 (l1.drop (i + 1)) (i + 1) true = some r by simpa using H3)
                  clear H3
                  go_wp2_with fail
                  go_roundw
                  case rel => exact ⟨i + 1, true, by omega, rfl, by go_num, H, HB5⟩
                  case measure => simp [intOf]; omega
              · rw [if_neg hc1] at HD
                have hKt : ∀ B, (Kd.fixed (Kd.slice 45 k45) w).M w3 B (fun _ => False) tl [.slice (some ⟨ad2.block, ad2.off + 3, none⟩) tl.length (cl - 1)] := fun _ => ⟨_, _, rfl, by have := HLC.out; simp only [List.length_cons] at this; omega, by first | exact HD | (simp only [Addr.add_succ'] at HD; exact HD)⟩
                clear HD
                obtain ⟨⟨vo, hco⟩, hfo, hP3, _⟩ := Kd.R_put1 (d := Kd.fixed (Kd.slice 45 k45) w) rfl hR3 i hlt [] tl _ (hKt _) (fun _ h => h.elim)
                have HP3 := Aside0.mk (Kd.R_reads' hP3).2.2
                clear hKt hP3 hR3
                have hlc := HLC.out
                simp only [List.length_cons] at hlc
                go_wp2_with fail
                have HB4 := Aside0.mk (below_set (j := i) (v := .slice (some ⟨ad2.block, ad2.off + 3, none⟩) tl.length (cl - 1)) HB3.out HGE3.out)
                obtain ⟨rb, hrec, H3⟩ := Option.bind_eq_some_iff.mp H2
                have ih' := ih (some ⟨g, 0, none⟩) cp (l0.set d.f0.toNat d.f2) (some ⟨g3, 0, none⟩) c3 (l1.set i tl) rb _ (Kd.C_below HMC.out (below_set (j := i) (v := .slice (some ⟨ad2.block, ad2.off + 3, none⟩) tl.length (cl - 1)) HBW.out HGW.out)) (by have := HCP.out; simpa using this) (Kd.C_read (d := Kd.slice 45 k45) (dm := Kd.fixed (Kd.slice 45 k45) w) rfl (fun x cs h => (Kd.slice 45 k45).K_below HB4.out h) HP3.out) (by have := HLC1.out; simpa using this) hrec
                simp only [List.length_set] at ih'
                refine ih'.mono ?_
                rintro e w5 ⟨rfl, hb5⟩
                have HB5 := Aside0.mk (below_step HB4.out hb5)
                clear ih' hb5 hco hfo hrec HB4 HP3 H2
                cases rb with
                | true =>
                  obtain rfl : true = r := by simpa using H3
                  go_wp2_with fail
                  go_ret
                  exact ⟨rfl, HB5.out⟩
                | false =>
                  have H := Aside0.mk (show impl_some.sl (impl_some.f k) l0 l1 (l1.drop (i + 1)) (i + 1) true = some r by simpa using H3)
                  clear H3
                  go_wp2_with fail
                  go_roundw
                  case rel => exact ⟨i + 1, true, by omega, rfl, by go_num, H, HB5⟩
                  case measure => simp [intOf]; omega
            · rw [if_neg h3] at H2
              have hb3 : decide (0 ≤ d.f2) = false := decide_eq_false h3
              have HP := Aside0.mk hR
              have HB2 := HB1
              clear hR
              go_wp2_with fail
              clear HB1 hk0 hk2
              refine (slices_Clone_impl_Did_impl_Did.callsD (Kd.fixed (Kd.slice 45 k45) w) rfl (fun _ _ _ _ _ h => h) _ c1 l1 _ (Kd.C_below (d := Kd.fixed (Kd.slice 45 k45) w) HR1.out HB2.out) hl).mono ?_
              rintro e w3 ⟨v1, rfl, hR3, hb3'⟩
              have HMC := Aside0.mk (Kd.R_reads' HP.out).2.2
              have HBW := Aside0.mk hb3'
              have HCP := Aside0.mk (Kd.R_reads' HP.out).2.1
              have HB3 := Aside0.mk (below_step HB2.out hb3')
              obtain ⟨g3, c3, rfl, hge3, hglt3, _⟩ := Kd.R_form hR3 (by omega)
              have HGW := Aside0.mk hge3
              have HGE3 : Aside0 (w.heap.size ≤ g3) := ⟨Nat.le_trans HB2.out.size hge3⟩
              have HLC1 := Aside0.mk (Kd.R_reads' hR3).2.1
              have HD := Kd.C_drop (m := 1) (c := cl) HCw.out (by simp) HLC.out
              rw [show k45.sz = 3 from rfl] at HD
              simp only [List.drop_one, List.tail_cons, Nat.one_mul, Option.map_some] at HD
              clear HP hge3 hb3'
              by_cases hc1 : cl = 1
              · rw [if_pos hc1] at HD
                have hKt : ∀ B, (Kd.fixed (Kd.slice 45 k45) w).M w3 B (fun _ => False) tl [.slice (some ad2) tl.length 0] := fun _ => ⟨_, _, rfl, by have := HLC.out; simp only [List.length_cons] at this; omega, by first | exact HD | (simp only [Addr.add_succ'] at HD; exact HD)⟩
                clear HD
                obtain ⟨⟨vo, hco⟩, hfo, hP3, _⟩ := Kd.R_put1 (d := Kd.fixed (Kd.slice 45 k45) w) rfl hR3 i hlt [] tl _ (hKt _) (fun _ h => h.elim)
                have HP3 := Aside0.mk (Kd.R_reads' hP3).2.2
                clear hKt hP3 hR3
                have hlc := HLC.out
                simp only [List.length_cons] at hlc
                go_wp2_with fail
                have HB4 := Aside0.mk (below_set (j := i) (v := .slice (some ad2) tl.length 0) HB3.out HGE3.out)
                obtain ⟨rb, hrec, H3⟩ := Option.bind_eq_some_iff.mp H2
                have ih' := ih (some ⟨g, 0, none⟩) cp (l0) (some ⟨g3, 0, none⟩) c3 (l1.set i tl) rb _ (Kd.C_below HMC.out (below_set (j := i) (v := .slice (some ad2) tl.length 0) HBW.out HGW.out)) (by have := HCP.out; simpa using this) (Kd.C_read (d := Kd.slice 45 k45) (dm := Kd.fixed (Kd.slice 45 k45) w) rfl (fun x cs h => (Kd.slice 45 k45).K_below HB4.out h) HP3.out) (by have := HLC1.out; simpa using this) hrec
                simp only [List.length_set] at ih'
                refine ih'.mono ?_
                rintro e w5 ⟨rfl, hb5⟩
                have HB5 := Aside0.mk (below_step HB4.out hb5)
                clear ih' hb5 hco hfo hrec HB4 HP3 H2
                cases rb with
                | true =>
                  obtain rfl : true = r := by simpa using H3
                  go_wp2_with fail
                  go_ret
                  exact ⟨rfl, HB5.out⟩
                | false =>
                  have H := Aside0.mk (show impl_some.sl (impl_some.f k) l0 l1 (l1.drop (i + 1)) (i + 1) true = some r by simpa using H3)
                  clear H3
                  go_wp2_with fail
                  go_roundw
                  case rel => exact ⟨i + 1, true, by omega, rfl, by go_num, H, HB5⟩
                  case measure => simp [intOf]; omega
              · rw [if_neg hc1] at HD
                have hKt : ∀ B, (Kd.fixed (Kd.slice 45 k45) w).M w3 B (fun _ => False) tl [.slice (some ⟨ad2.block, ad2.off + 3, none⟩) tl.length (cl - 1)] := fun _ => ⟨_, _, rfl, by have := HLC.out; simp only [List.length_cons] at this; omega, by first | exact HD | (simp only [Addr.add_succ'] at HD; exact HD)⟩
                clear HD
                obtain ⟨⟨vo, hco⟩, hfo, hP3, _⟩ := Kd.R_put1 (d := Kd.fixed (Kd.slice 45 k45) w) rfl hR3 i hlt [] tl _ (hKt _) (fun _ h => h.elim)
                have HP3 := Aside0.mk (Kd.R_reads' hP3).2.2
                clear hKt hP3 hR3
                have hlc := HLC.out
                simp only [List.length_cons] at hlc
                go_wp2_with fail
                have HB4 := Aside0.mk (below_set (j := i) (v := .slice (some ⟨ad2.block, ad2.off + 3, none⟩) tl.length (cl - 1)) HB3.out HGE3.out)
                obtain ⟨rb, hrec, H3⟩ := Option.bind_eq_some_iff.mp H2
                have ih' := ih (some ⟨g, 0, none⟩) cp (l0) (some ⟨g3, 0, none⟩) c3 (l1.set i tl) rb _ (Kd.C_below HMC.out (below_set (j := i) (v := .slice (some ⟨ad2.block, ad2.off + 3, none⟩) tl.length (cl - 1)) HBW.out HGW.out)) (by have := HCP.out; simpa using this) (Kd.C_read (d := Kd.slice 45 k45) (dm := Kd.fixed (Kd.slice 45 k45) w) rfl (fun x cs h => (Kd.slice 45 k45).K_below HB4.out h) HP3.out) (by have := HLC1.out; simpa using this) hrec
                simp only [List.length_set] at ih'
                refine ih'.mono ?_
                rintro e w5 ⟨rfl, hb5⟩
                have HB5 := Aside0.mk (below_step HB4.out hb5)
                clear ih' hb5 hco hfo hrec HB4 HP3 H2
                cases rb with
                | true =>
                  obtain rfl : true = r := by simpa using H3
                  go_wp2_with fail
                  go_ret
                  exact ⟨rfl, HB5.out⟩
                | false =>
                  have H := Aside0.mk (show impl_some.sl (impl_some.f k) l0 l1 (l1.drop (i + 1)) (i + 1) true = some r by simpa using H3)
                  clear H3
                  go_wp2_with fail
                  go_roundw
                  case rel => exact ⟨i + 1, true, by omega, rfl, by go_num, H, HB5⟩
                  case measure => simp [intOf]; omega
        · have hout : impl_isCell.f d.f0 = some false := by
            rw [isCell_f]
            rcases Decidable.not_and_iff_or_not.1 h23 with h | h <;> simp [h]
          have H2 := H.out
          rw [if_neg h23] at H2
          have H := Aside0.mk H2
          clear H2
          go_wp2_with fail
          go_quiet ((go_at_call 49; exact Calls.quiet_of ((impl_isCell.calls d.f0 false _ hout).mono fun _ _ ⟨he, hd⟩ => ⟨he, hd.out⟩)))
          go_wp2_with fail
          go_roundw
          case rel => exact ⟨i + 1, true, by omega, rfl, by go_num, H, ⟨pw_below_drewN (below_alloc HB.out _) _⟩⟩
          case measure => simp [intOf]; omega
    · have hge : ¬ (i : Int) < (l1.length : Int) := by omega
      have H2 := H.out
      rw [List.drop_eq_nil_of_le (by omega)] at H2
      simp only [impl_some.sl, Option.some.injEq] at H2
      subst H2
      clear H
      go_wp2_with fail
      go_ret
      exact ⟨by simp, HB.out⟩


/-! ### impl_SeqOk: function 9 -/
def impl_SeqOk.l0 : Nat → List Int → List (List (S45)) → Int → List (List (S45)) → Int → Int → Option (Bool)
  | 0, _, _, _, _, _, _ => none
  | k + 1, x0, x1, x5, x8, x9, x10 => if x10 < x9 then (if 0 ≤ x10 then (if x10 < (x8.length : Int) then (impl_SeqOk.l0 k x0 x1 (wrap64 (x5 + ((rd_L5 x8 x10).length : Int))) x8 x9 (wrap64 (x10 + 1))) else (none)) else (none)) else ((impl_memOk.f x0).bind fun t152 => (if t152 = true then (if (x1.length : Int) ≤ 8 then (if x5 ≤ 12 then ((impl_some.f k x0 x1).bind fun t153 => (some t153)) else (some false)) else (some false)) else (some false)))
def impl_SeqOk.f (k : Nat) (l0 : List Int) (l1 : List (List (S45))) : Option (Bool) := impl_SeqOk.l0 k l0 l1 0 l1 (l1.length : Int) 0
theorem impl_SeqOk.mono_l : ∀ k, (∀ y0 y1 y2 y3 y4 y5, LeO (impl_SeqOk.l0 k y0 y1 y2 y3 y4 y5) (impl_SeqOk.l0 (k + 1) y0 y1 y2 y3 y4 y5))
  | 0 => fun _ _ _ _ _ _ r h => by simp [impl_SeqOk.l0] at h
  | k + 1 => by
    have ih0 := impl_SeqOk.mono_l k
    · intro y0 y1 y2 y3 y4 y5
      unfold impl_SeqOk.l0
      repeat' first
      | (with_reducible exact ih0 _ _ _ _ _ _)
      | (with_reducible exact impl_some.mono _ _ _)
      | (with_reducible exact LeO.refl _)
      | (with_reducible exact LeO.none _)
      | (with_reducible refine LeO.ite ?_ ?_)
      | (with_reducible refine LeO.bind ?_ (fun _ => ?_))
      | exact ih0 _ _ _ _ _ _
      | exact impl_some.mono _ _ _
      | exact LeO.none _
      | refine LeO.ite ?_ ?_
      | refine LeO.bind ?_ (fun _ => ?_)
theorem impl_SeqOk.mono : ∀ a0 a1 k, LeO (impl_SeqOk.f k a0 a1) (impl_SeqOk.f (k + 1) a0 a1) := by
  intro a0 a1 k
  have ih0 := impl_SeqOk.mono_l k
  unfold impl_SeqOk.f
  repeat' first
      | (with_reducible exact ih0 _ _ _ _ _ _)
      | (with_reducible exact impl_some.mono _ _ _)
      | (with_reducible exact LeO.refl _)
      | (with_reducible exact LeO.none _)
      | (with_reducible refine LeO.ite ?_ ?_)
      | (with_reducible refine LeO.bind ?_ (fun _ => ?_))
      | exact ih0 _ _ _ _ _ _
      | exact impl_some.mono _ _ _
      | exact LeO.none _
      | refine LeO.ite ?_ ?_
      | refine LeO.bind ?_ (fun _ => ?_)
set_option maxHeartbeats 8000000 in
set_option maxRecDepth 100000 in
theorem impl_SeqOk.calls (k : Nat) (A0 : Option Addr) (c0 : Nat) (l0 : List Int) (A1 : Option Addr) (c1 : Nat) (l1 : List (List (S45))) (r : Bool) (w : World) (hr0 : Kd.C (Kd.int .i64) w A0 l0.length l0) (hc0 : l0.length ≤ c0) (hr1 : Kd.C (Kd.slice 45 k45) w A1 l1.length l1) (hc1 : l1.length ≤ c1) (h : impl_SeqOk.f k l0 l1 = some r) :
    Calls Try.prog 9 #[.slice A0 l0.length c0, .slice A1 l1.length c1] w fun e w' => e = .returned (.bool r) ∧ Below w.heap.size w w' := by
  have HR0 := Aside0.mk hr0
  have HC0 := Aside0.mk hc0
  clear hr0 hc0
  have HR1 := Aside0.mk hr1
  have HC1 := Aside0.mk hc1
  clear hr1 hc1
  have HB := Aside0.mk (Below.refl w.heap.size w)
  have H : (impl_SeqOk.l0 k l0 l1 0 l1 (l1.length : Int) 0) = some r := h
  clear h
  have H' := Aside0.mk H
  clear H
  go_enter Try.func9, Try.ntmps9
  go_wp2
  go_loopg [5, 10] k (fun kq v5 v10 w' => ∃ (x5_1 : Int) (x10_1 : Int), v5 = .int .i64 x5_1 ∧ v10 = .int .i64 x10_1 ∧ Aside0 (impl_SeqOk.l0 kq l0 l1 x5_1 l1 (l1.length : Int) x10_1 = some r) ∧ Aside0 (kq ≤ k) ∧ Aside0 (Below w.heap.size w w'))
  case atStart => exact ⟨(0), (0), (by first | rfl | (simp; done) | (simp [*]; done)), (by first | rfl | (simp; done) | (simp [*]; done)), H', ⟨Nat.le_refl _⟩, ⟨by repeat (first | (with_reducible first | exact HB.out | apply below_alloc | apply pw_below_drewN | apply below_drew1) | exact HB.out)⟩⟩
  case round =>
    clear H'
    try clear c1
    try clear p2
    obtain ⟨x5_1, x10_1, rfl, rfl, HA, HK1, HB⟩ := hrel
    cases gk with
    | zero => exact absurd HA.out (by simp [impl_SeqOk.l0])
    | succ k1 =>
      have H := HA.out
      clear HA
      simp only [impl_SeqOk.l0] at H
      by_cases c3 : x10_1 < (l1.length : Int)
      · rw [if_pos c3] at H
        have c3b0 : decide (x10_1 < (l1.length : Int)) = true := decide_eq_true c3
        clear c3
        by_cases c4 : 0 ≤ x10_1
        · rw [if_pos c4] at H
          have c4b0 : decide (0 ≤ x10_1) = true := decide_eq_true c4
          clear c4
          by_cases c5 : x10_1 < (l1.length : Int)
          · rw [if_pos c5] at H
            have c5b0 : decide (x10_1 < (l1.length : Int)) = true := decide_eq_true c5
            clear c5
            have H' := Aside0.mk H
            clear H
            have p151 : 0 ≤ (x10_1 : Int) := of_decide_eq_true (by first | (with_reducible assumption) | assumption)
            have q151 : x10_1 < (l1.length : Int) := of_decide_eq_true (by first | (with_reducible assumption) | assumption)
            obtain ⟨ad151, A151_0, c151_0, e151, hx151_0, hl151_0, hi151_0⟩ := at_L5 HR1.out x10_1 p151 q151
            cases e151
            replace hx151_0 := (HB.out.cell (World.block_lt_of_cell? w _ hx151_0)).trans hx151_0
            have HR151_0 := Aside0.mk hi151_0
            have HC151_0 := Aside0.mk hl151_0
            clear hi151_0 hl151_0
            replace p151 := eq_true p151
            replace q151 := eq_true q151
            go_wp2
            go_roundg k1
            case measure => have := HK1.out; omega
            case rel => exact ⟨(wrap64 (x5_1 + ((rd_L5 l1 x10_1).length : Int))), (wrap64 (x10_1 + 1)), (by first | rfl | (simp; done) | (simp [*]; done)), (by first | rfl | (simp; done) | (simp [*]; done)), H', ⟨by have := HK1.out; omega⟩, ⟨by repeat (first | (with_reducible first | exact HB.out | apply below_alloc | apply pw_below_drewN | apply below_drew1) | exact HB.out)⟩⟩
          · rw [if_neg c5] at H
            exact absurd H (by simp)
        · rw [if_neg c4] at H
          exact absurd H (by simp)
      · rw [if_neg c3] at H
        have c3b0 : decide (x10_1 < (l1.length : Int)) = false := decide_eq_false c3
        clear c3
        replace H := Option.bind_eq_some_iff.mp H
        obtain ⟨t152, A60, H⟩ := H
        replace H : (if t152 = true then (if (l1.length : Int) ≤ 8 then (if x5_1 ≤ 12 then ((impl_some.f k1 l0 l1).bind fun t153 => (some t153)) else (some false)) else (some false)) else (some false)) = some r := H
        have A6 := Aside0.mk A60
        clear A60
        by_cases c7 : t152 = true
        · subst c7
          have H1 : (if (l1.length : Int) ≤ 8 then (if x5_1 ≤ 12 then ((impl_some.f k1 l0 l1).bind fun t153 => (some t153)) else (some false)) else (some false)) = some r := by rw [if_pos rfl] at H; exact H
          clear H
          have H := H1
          clear H1
          by_cases c8 : (l1.length : Int) ≤ 8
          · rw [if_pos c8] at H
            have c8b0 : decide ((l1.length : Int) ≤ 8) = true := decide_eq_true c8
            have c8b1 : decide (l1.length ≤ 8) = true := decide_eq_true (by omega)
            clear c8
            by_cases c9 : x5_1 ≤ 12
            · rw [if_pos c9] at H
              have c9b0 : decide (x5_1 ≤ 12) = true := decide_eq_true c9
              clear c9
              replace H := Option.bind_eq_some_iff.mp H
              obtain ⟨t153, A100, H⟩ := H
              replace H : (some t153) = some r := H
              have A10 := Aside0.mk A100
              clear A100
              obtain rfl := Option.some.inj H
              go_wp2_with (first | ((with_reducible refine gate_callee (f := 26) rfl ?_); refine goesL_ (some 20) rfl rfl Try.func26 (by kernel_rfl) rfl #[.slice A0 l0.length c0] rfl (by (try simp only [List.map_toArray, List.map_cons, List.map_nil]); first | done | rfl | (simp only [List.length_drop, List.length_take]; rfl)) ?_; (with_reducible refine (impl_memOk.calls _ _ l0 true _ ?side1 ?side2 A6.out).mono ?_); (case side1 => repeat (first | exact (Kd.C_below HR0.out HB.out) | (with_reducible refine Kd.C_alloc ?_ _) | (with_reducible refine Kd.C_drewN ?_ _) | (with_reducible refine Kd.C_drew ?_))); (case side2 => exact HC0.out); rintro e w' ⟨rfl, ⟨nd, rfl⟩⟩; refine ⟨_, rfl, ?_⟩) | (go_at_call 27; (with_reducible refine (impl_some.calls k1 _ _ l0 _ _ l1 t153 _ ?side1 ?side2 ?side3 ?side4 A10.out).mono ?_); (case side1 => repeat (first | exact (Kd.C_below HR0.out (by repeat (first | (with_reducible first | exact HB.out | apply below_alloc | apply pw_below_drewN | apply below_drew1) | exact HB.out))) | (with_reducible refine Kd.C_alloc ?_ _) | (with_reducible refine Kd.C_drewN ?_ _) | (with_reducible refine Kd.C_drew ?_))); (case side2 => exact HC0.out); (case side3 => repeat (first | exact (Kd.C_below HR1.out (by repeat (first | (with_reducible first | exact HB.out | apply below_alloc | apply pw_below_drewN | apply below_drew1) | exact HB.out))) | (with_reducible refine Kd.C_alloc ?_ _) | (with_reducible refine Kd.C_drewN ?_ _) | (with_reducible refine Kd.C_drew ?_))); (case side4 => exact HC1.out); rintro e w11 ⟨rfl, hb⟩; have n0_ := Aside0.mk (below_step (by repeat (first | (with_reducible first | exact HB.out | apply below_alloc | apply pw_below_drewN | apply below_drew1) | exact HB.out)) hb); clear HB; have HB := n0_; clear n0_; (try clear hb); (try clear hb2); (try clear hk); (try clear hi)))
              go_ret
              exact ⟨by first | rfl | (simp [errW_none, errW_some] <;> rfl) | (simp [*, errW_none, errW_some] <;> rfl), by repeat (first | (with_reducible first | exact HB.out | apply below_alloc | apply pw_below_drewN | apply below_drew1) | exact HB.out)⟩
            · rw [if_neg c9] at H
              have c9b0 : decide (x5_1 ≤ 12) = false := decide_eq_false c9
              clear c9
              obtain rfl := Option.some.inj H
              go_wp2_with (first | ((with_reducible refine gate_callee (f := 26) rfl ?_); refine goesL_ (some 20) rfl rfl Try.func26 (by kernel_rfl) rfl #[.slice A0 l0.length c0] rfl (by (try simp only [List.map_toArray, List.map_cons, List.map_nil]); first | done | rfl | (simp only [List.length_drop, List.length_take]; rfl)) ?_; (with_reducible refine (impl_memOk.calls _ _ l0 true _ ?side1 ?side2 A6.out).mono ?_); (case side1 => repeat (first | exact (Kd.C_below HR0.out HB.out) | (with_reducible refine Kd.C_alloc ?_ _) | (with_reducible refine Kd.C_drewN ?_ _) | (with_reducible refine Kd.C_drew ?_))); (case side2 => exact HC0.out); rintro e w' ⟨rfl, ⟨nd, rfl⟩⟩; refine ⟨_, rfl, ?_⟩))
              go_ret
              exact ⟨by first | rfl | (simp [errW_none, errW_some] <;> rfl) | (simp [*, errW_none, errW_some] <;> rfl), by repeat (first | (with_reducible first | exact HB.out | apply below_alloc | apply pw_below_drewN | apply below_drew1) | exact HB.out)⟩
          · rw [if_neg c8] at H
            have c8b0 : decide ((l1.length : Int) ≤ 8) = false := decide_eq_false c8
            have c8b1 : decide (l1.length ≤ 8) = false := decide_eq_false (by omega)
            clear c8
            obtain rfl := Option.some.inj H
            go_wp2_with (first | ((with_reducible refine gate_callee (f := 26) rfl ?_); refine goesL_ (some 20) rfl rfl Try.func26 (by kernel_rfl) rfl #[.slice A0 l0.length c0] rfl (by (try simp only [List.map_toArray, List.map_cons, List.map_nil]); first | done | rfl | (simp only [List.length_drop, List.length_take]; rfl)) ?_; (with_reducible refine (impl_memOk.calls _ _ l0 true _ ?side1 ?side2 A6.out).mono ?_); (case side1 => repeat (first | exact (Kd.C_below HR0.out HB.out) | (with_reducible refine Kd.C_alloc ?_ _) | (with_reducible refine Kd.C_drewN ?_ _) | (with_reducible refine Kd.C_drew ?_))); (case side2 => exact HC0.out); rintro e w' ⟨rfl, ⟨nd, rfl⟩⟩; refine ⟨_, rfl, ?_⟩))
            go_ret
            exact ⟨by first | rfl | (simp [errW_none, errW_some] <;> rfl) | (simp [*, errW_none, errW_some] <;> rfl), by repeat (first | (with_reducible first | exact HB.out | apply below_alloc | apply pw_below_drewN | apply below_drew1) | exact HB.out)⟩
        · replace c7 := Bool.eq_false_iff.mpr c7
          subst c7
          have H1 : (some false) = some r := by rw [if_neg (show ¬ (false = true) by decide)] at H; exact H
          clear H
          have H := H1
          clear H1
          obtain rfl := Option.some.inj H
          go_wp2_with (first | ((with_reducible refine gate_callee (f := 26) rfl ?_); refine goesL_ (some 20) rfl rfl Try.func26 (by kernel_rfl) rfl #[.slice A0 l0.length c0] rfl (by (try simp only [List.map_toArray, List.map_cons, List.map_nil]); first | done | rfl | (simp only [List.length_drop, List.length_take]; rfl)) ?_; (with_reducible refine (impl_memOk.calls _ _ l0 false _ ?side1 ?side2 A6.out).mono ?_); (case side1 => repeat (first | exact (Kd.C_below HR0.out HB.out) | (with_reducible refine Kd.C_alloc ?_ _) | (with_reducible refine Kd.C_drewN ?_ _) | (with_reducible refine Kd.C_drew ?_))); (case side2 => exact HC0.out); rintro e w' ⟨rfl, ⟨nd, rfl⟩⟩; refine ⟨_, rfl, ?_⟩))
          go_ret
          exact ⟨by first | rfl | (simp [errW_none, errW_some] <;> rfl) | (simp [*, errW_none, errW_some] <;> rfl), by repeat (first | (with_reducible first | exact HB.out | apply below_alloc | apply pw_below_drewN | apply below_drew1) | exact HB.out)⟩

/-! ### laws_eqIntS: function 10 -/
def laws_eqIntS.l0 : Nat → List Int → List Int → Int → Option (Bool)
  | 0, _, _, _ => none
  | k + 1, x0, x1, x5 => if x5 < (x0.length : Int) then (if 0 ≤ x5 then (if x5 < (x1.length : Int) then (if (rd x0 x5) = (rd x1 x5) then (laws_eqIntS.l0 k x0 x1 (wrap64 (x5 + 1))) else (some false)) else (none)) else (none)) else (some true)
def laws_eqIntS.f (k : Nat) (l0 : List Int) (l1 : List Int) : Option (Bool) := if (l0.length : Int) = (l1.length : Int) then (laws_eqIntS.l0 k l0 l1 0) else (some false)
theorem laws_eqIntS.mono_l : ∀ k, (∀ y0 y1 y2, LeO (laws_eqIntS.l0 k y0 y1 y2) (laws_eqIntS.l0 (k + 1) y0 y1 y2))
  | 0 => fun _ _ _ r h => by simp [laws_eqIntS.l0] at h
  | k + 1 => by
    have ih0 := laws_eqIntS.mono_l k
    · intro y0 y1 y2
      unfold laws_eqIntS.l0
      repeat' first
      | (with_reducible exact ih0 _ _ _)
      | (with_reducible exact LeO.refl _)
      | (with_reducible exact LeO.none _)
      | (with_reducible refine LeO.ite ?_ ?_)
      | (with_reducible refine LeO.bind ?_ (fun _ => ?_))
      | exact ih0 _ _ _
      | exact LeO.none _
      | refine LeO.ite ?_ ?_
      | refine LeO.bind ?_ (fun _ => ?_)
theorem laws_eqIntS.mono : ∀ a0 a1 k, LeO (laws_eqIntS.f k a0 a1) (laws_eqIntS.f (k + 1) a0 a1) := by
  intro a0 a1 k
  have ih0 := laws_eqIntS.mono_l k
  unfold laws_eqIntS.f
  repeat' first
      | (with_reducible exact ih0 _ _ _)
      | (with_reducible exact LeO.refl _)
      | (with_reducible exact LeO.none _)
      | (with_reducible refine LeO.ite ?_ ?_)
      | (with_reducible refine LeO.bind ?_ (fun _ => ?_))
      | exact ih0 _ _ _
      | exact LeO.none _
      | refine LeO.ite ?_ ?_
      | refine LeO.bind ?_ (fun _ => ?_)
set_option maxHeartbeats 8000000 in
set_option maxRecDepth 100000 in
theorem laws_eqIntS.calls (k : Nat) (A0 : Option Addr) (c0 : Nat) (l0 : List Int) (A1 : Option Addr) (c1 : Nat) (l1 : List Int) (r : Bool) (w : World) (hr0 : Kd.C (Kd.int .i64) w A0 l0.length l0) (hc0 : l0.length ≤ c0) (hr1 : Kd.C (Kd.int .i64) w A1 l1.length l1) (hc1 : l1.length ≤ c1) (h : laws_eqIntS.f k l0 l1 = some r) :
    Calls Try.prog 10 #[.slice A0 l0.length c0, .slice A1 l1.length c1] w fun e w' => e = .returned (.bool r) ∧ Drawn0 w w' := by
  have HR0 := Aside0.mk hr0
  have HC0 := Aside0.mk hc0
  clear hr0 hc0
  have HR1 := Aside0.mk hr1
  have HC1 := Aside0.mk hc1
  clear hr1 hc1
  have H : (if (l0.length : Int) = (l1.length : Int) then (laws_eqIntS.l0 k l0 l1 0) else (some false)) = some r := h
  clear h
  by_cases c3 : (l0.length : Int) = (l1.length : Int)
  · rw [if_pos c3] at H
    have c3b0 : ((l0.length : Int) == (l1.length : Int)) = true := beq_iff_eq.mpr c3
    have c3b1 : ((l0.length : Int) != (l1.length : Int)) = false := bne_eq_false_iff_eq.mpr c3
    have c3b2 : (l0.length == l1.length) = true := by first | simpa using c3 | (simp at c3 ⊢; omega)
    clear c3
    have H' := Aside0.mk H
    clear H
    go_enter Try.func10, Try.ntmps10
    go_wp2
    repeat (go_quiet (fail); try go_wp2)
    go_loopg [5] k (fun kq v5 w' => ∃ (x5_1 : Int), v5 = .int .i64 x5_1 ∧ Aside0 (laws_eqIntS.l0 kq l0 l1 x5_1 = some r) ∧ Aside0 (kq ≤ k) ∧ Drawn0 w w')
    case atStart => exact ⟨(0), (by first | rfl | (simp; done) | (simp [*]; done)), H', ⟨Nat.le_refl _⟩, by repeat (first | exact Drawn0.refl _ | apply Drawn0.step)⟩
    case round =>
      clear H'
      try clear c1
      try clear p2
      try clear c3
      try clear c3b0
      try clear c3b1
      try clear c3b2
      obtain ⟨x5_1, rfl, HA, HK1, ⟨m1, rfl⟩⟩ := hrel
      cases gk with
      | zero => exact absurd HA.out (by simp [laws_eqIntS.l0])
      | succ k1 =>
        have H := HA.out
        clear HA
        simp only [laws_eqIntS.l0] at H
        by_cases c4 : x5_1 < (l0.length : Int)
        · rw [if_pos c4] at H
          have c4b0 : decide (x5_1 < (l0.length : Int)) = true := decide_eq_true c4
          clear c4
          by_cases c5 : 0 ≤ x5_1
          · rw [if_pos c5] at H
            have c5b0 : decide (0 ≤ x5_1) = true := decide_eq_true c5
            clear c5
            by_cases c6 : x5_1 < (l1.length : Int)
            · rw [if_pos c6] at H
              have c6b0 : decide (x5_1 < (l1.length : Int)) = true := decide_eq_true c6
              clear c6
              by_cases c7 : (rd l0 x5_1) = (rd l1 x5_1)
              · rw [if_pos c7] at H
                have c7b0 : ((rd l0 x5_1) == (rd l1 x5_1)) = true := beq_iff_eq.mpr c7
                have c7b1 : ((rd l0 x5_1) != (rd l1 x5_1)) = false := bne_eq_false_iff_eq.mpr c7
                clear c7
                have H' := Aside0.mk H
                clear H
                have p154 : 0 ≤ (x5_1 : Int) := of_decide_eq_true (by first | (with_reducible assumption) | assumption)
                have q154 : x5_1 < (l0.length : Int) := of_decide_eq_true (by first | (with_reducible assumption) | assumption)
                obtain ⟨ad154, e154, hx154_0⟩ := Kd.at_int HR0.out x5_1 p154 q154
                cases e154
                replace p154 := eq_true p154
                replace q154 := eq_true q154
                have p155 : 0 ≤ (x5_1 : Int) := of_decide_eq_true (by first | (with_reducible assumption) | assumption)
                have q155 : x5_1 < (l1.length : Int) := of_decide_eq_true (by first | (with_reducible assumption) | assumption)
                obtain ⟨ad155, e155, hx155_0⟩ := Kd.at_int HR1.out x5_1 p155 q155
                cases e155
                replace p155 := eq_true p155
                replace q155 := eq_true q155
                go_wp2
                repeat (go_quiet (fail); try go_wp2)
                go_roundg k1
                case measure => have := HK1.out; omega
                case rel => exact ⟨(wrap64 (x5_1 + 1)), (by first | rfl | (simp; done) | (simp [*]; done)), H', ⟨by have := HK1.out; omega⟩, by repeat (first | exact Drawn0.refl _ | apply Drawn0.step)⟩
              · rw [if_neg c7] at H
                have c7b0 : ((rd l0 x5_1) == (rd l1 x5_1)) = false := beq_eq_false_iff_ne.mpr c7
                have c7b1 : ((rd l0 x5_1) != (rd l1 x5_1)) = true := bne_iff_ne.mpr c7
                obtain rfl := Option.some.inj H
                have p154 : 0 ≤ (x5_1 : Int) := of_decide_eq_true (by first | (with_reducible assumption) | assumption)
                have q154 : x5_1 < (l0.length : Int) := of_decide_eq_true (by first | (with_reducible assumption) | assumption)
                obtain ⟨ad154, e154, hx154_0⟩ := Kd.at_int HR0.out x5_1 p154 q154
                cases e154
                replace p154 := eq_true p154
                replace q154 := eq_true q154
                have p155 : 0 ≤ (x5_1 : Int) := of_decide_eq_true (by first | (with_reducible assumption) | assumption)
                have q155 : x5_1 < (l1.length : Int) := of_decide_eq_true (by first | (with_reducible assumption) | assumption)
                obtain ⟨ad155, e155, hx155_0⟩ := Kd.at_int HR1.out x5_1 p155 q155
                cases e155
                replace p155 := eq_true p155
                replace q155 := eq_true q155
                go_wp2
                repeat (go_quiet (fail); try go_wp2)
                go_ret
                exact ⟨by first | rfl | (simp; done) | (simp [*]; done), by repeat (first | exact Drawn0.refl _ | apply Drawn0.step)⟩
            · rw [if_neg c6] at H
              exact absurd H (by simp)
          · rw [if_neg c5] at H
            exact absurd H (by simp)
        · rw [if_neg c4] at H
          have c4b0 : decide (x5_1 < (l0.length : Int)) = false := decide_eq_false c4
          clear c4
          obtain rfl := Option.some.inj H
          go_wp2
          repeat (go_quiet (fail); try go_wp2)
          go_ret
          exact ⟨by first | rfl | (simp; done) | (simp [*]; done), by repeat (first | exact Drawn0.refl _ | apply Drawn0.step)⟩
  · rw [if_neg c3] at H
    have c3b0 : ((l0.length : Int) == (l1.length : Int)) = false := beq_eq_false_iff_ne.mpr c3
    have c3b1 : ((l0.length : Int) != (l1.length : Int)) = true := bne_iff_ne.mpr c3
    have c3b2 : (l0.length == l1.length) = false := by first | simpa using c3 | (simp at c3 ⊢; omega)
    obtain rfl := Option.some.inj H
    go_enter Try.func10, Try.ntmps10
    go_wp2
    repeat (go_quiet (fail); try go_wp2)
    go_ret
    exact ⟨by first | rfl | (simp; done) | (simp [*]; done), by repeat (first | exact Drawn0.refl _ | apply Drawn0.step)⟩

/-! ### laws_eqDid: function 51 -/
def laws_eqDid.f (a0_0 : Int) (a0_1 : Int) (a0_2 : Int) (a1_0 : Int) (a1_1 : Int) (a1_2 : Int) : Option (Bool) := if a0_0 = a1_0 then (if a0_1 = a1_1 then (if a0_2 = a1_2 then (some true) else (some false)) else (some false)) else (some false)
set_option maxHeartbeats 8000000 in
set_option maxRecDepth 100000 in
theorem laws_eqDid.calls (a0_0 : Int) (a0_1 : Int) (a0_2 : Int) (a1_0 : Int) (a1_1 : Int) (a1_2 : Int) (r : Bool) (w : World) (h : laws_eqDid.f a0_0 a0_1 a0_2 a1_0 a1_1 a1_2 = some r) :
    Calls Try.prog 51 #[.agg #[.int .i64 a0_0, .int .i64 a0_1, .int .i64 a0_2], .agg #[.int .i64 a1_0, .int .i64 a1_1, .int .i64 a1_2]] w fun e w' => e = .returned (.bool r) ∧ Below w.heap.size w w' := by
  have hu45 := Try.underlying45
  have HB := Aside0.mk (Below.refl w.heap.size w)
  have H : (if a0_0 = a1_0 then (if a0_1 = a1_1 then (if a0_2 = a1_2 then (some true) else (some false)) else (some false)) else (some false)) = some r := h
  clear h
  by_cases c3 : a0_0 = a1_0
  · rw [if_pos c3] at H
    have c3b0 : (a0_0 == a1_0) = true := beq_iff_eq.mpr c3
    have c3b1 : (a0_0 != a1_0) = false := bne_eq_false_iff_eq.mpr c3
    clear c3
    by_cases c4 : a0_1 = a1_1
    · rw [if_pos c4] at H
      have c4b0 : (a0_1 == a1_1) = true := beq_iff_eq.mpr c4
      have c4b1 : (a0_1 != a1_1) = false := bne_eq_false_iff_eq.mpr c4
      clear c4
      by_cases c5 : a0_2 = a1_2
      · rw [if_pos c5] at H
        have c5b0 : (a0_2 == a1_2) = true := beq_iff_eq.mpr c5
        have c5b1 : (a0_2 != a1_2) = false := bne_eq_false_iff_eq.mpr c5
        clear c5
        obtain rfl := Option.some.inj H
        go_enter Try.func51, Try.ntmps51
        go_wp2_with (first | ((with_reducible refine gate_dst (N := 2) rfl ?_); refine box_event ?hg (N := 2) ?hd (cs := #[.int .i64 a0_0, .int .i64 a0_1, .int .i64 a0_2]) (t := 45) ?hr ?_; (case hd => rfl); (case hg => rfl); (case hr => first | (go_simp; done) | (go_simp; rfl)); intro gb156 hg w6 hbox hb; have n0_ := Aside0.mk (below_step (by repeat (first | (with_reducible first | exact HB.out | apply below_alloc | apply pw_below_drewN | apply below_drew1) | exact HB.out)) hb); have n1_ := Aside0.mk (hbox); have n2_ := Aside0.mk ((by rw [hg]; exact (below_size (by repeat (first | (with_reducible first | exact HB.out | apply below_alloc | apply pw_below_drewN | apply below_drew1) | exact HB.out))) : w.heap.size ≤ gb156)); have n3_ := Aside0.mk ((by rw [hg]; exact (below_size (by repeat (first | (with_reducible first | exact HB.out | apply below_alloc | apply pw_below_drewN | apply below_drew1) | exact HB.out))) : w.heap.size ≤ gb156)); clear HB; have HB := n0_; have BK156 := n1_; have GW156 := n2_; have GE156 := n3_; clear n0_ n1_ n2_ n3_; clear hb hbox hg) | ((with_reducible refine gate_dst (N := 3) rfl ?_); refine box_event ?hg (N := 3) ?hd (cs := #[.int .i64 a1_0, .int .i64 a1_1, .int .i64 a1_2]) (t := 45) ?hr ?_; (case hd => rfl); (case hg => rfl); (case hr => first | (go_simp; done) | (go_simp; rfl)); intro gb157 hg w7 hbox hb; have n0_ := Aside0.mk (blk_below (g := gb156) (o := .cells #[.int .i64 a0_0, .int .i64 a0_1, .int .i64 a0_2] 45 (0, 0)) (by (with_reducible repeat (first | refine blk_drewN ?_ _ | refine blk_drew ?_ | refine blk_alloc ?_ _)); exact BK156.out) hb); have n1_ := Aside0.mk (below_step (by repeat (first | (with_reducible first | exact HB.out | apply below_alloc | apply pw_below_drewN | apply below_drew1 | refine below_set ?_ GE156.out) | exact HB.out)) hb); have n2_ := Aside0.mk (hbox); have n3_ := Aside0.mk ((by rw [hg]; exact (below_size (by repeat (first | (with_reducible first | exact HB.out | apply below_alloc | apply pw_below_drewN | apply below_drew1 | refine below_set ?_ GE156.out) | exact HB.out))) : w.heap.size ≤ gb157)); have n4_ := Aside0.mk ((by rw [hg]; exact (below_size (by repeat (first | (with_reducible first | exact HB.out | apply below_alloc | apply pw_below_drewN | apply below_drew1 | refine below_set ?_ GE156.out) | exact HB.out))) : w.heap.size ≤ gb157)); have n5_ := Aside0.mk ((by rw [hg]; exact Nat.ne_of_lt (blk_lt (g := gb156) (o := .cells #[.int .i64 a0_0, .int .i64 a0_1, .int .i64 a0_2] 45 (0, 0)) (by (with_reducible repeat (first | refine blk_drewN ?_ _ | refine blk_drew ?_ | refine blk_alloc ?_ _)); exact BK156.out)) : gb156 ≠ gb157)); have n6_ := Aside0.mk ((by rw [hg]; exact Nat.ne_of_gt (blk_lt (g := gb156) (o := .cells #[.int .i64 a0_0, .int .i64 a0_1, .int .i64 a0_2] 45 (0, 0)) (by (with_reducible repeat (first | refine blk_drewN ?_ _ | refine blk_drew ?_ | refine blk_alloc ?_ _)); exact BK156.out)) : gb157 ≠ gb156)); clear BK156; clear HB; have BK156 := n0_; have HB := n1_; have BK157 := n2_; have GW157 := n3_; have GE157 := n4_; have NB156_157 := n5_; have NB157_156 := n6_; clear n0_ n1_ n2_ n3_ n4_ n5_ n6_; clear hb hbox hg; have hnb8 := NB156_157.out; have hnc8 := NB157_156.out; have hcz9_0 : w7.cell? ⟨gb156, 0, none⟩ = some (.int .i64 a0_0) := (blk_cell BK156.out 0).trans rfl; have hcz9_1 : w7.cell? ⟨gb156, 1, none⟩ = some (.int .i64 a0_1) := (blk_cell BK156.out 1).trans rfl; have hcz9_2 : w7.cell? ⟨gb156, 2, none⟩ = some (.int .i64 a0_2) := (blk_cell BK156.out 2).trans rfl; have hfz9_0 := blk_frozen BK156.out 0; have hfz9_1 := blk_frozen BK156.out 1; have hfz9_2 := blk_frozen BK156.out 2; have hcz10_0 : w7.cell? ⟨gb157, 0, none⟩ = some (.int .i64 a1_0) := (blk_cell BK157.out 0).trans rfl; have hcz10_1 : w7.cell? ⟨gb157, 1, none⟩ = some (.int .i64 a1_1) := (blk_cell BK157.out 1).trans rfl; have hcz10_2 : w7.cell? ⟨gb157, 2, none⟩ = some (.int .i64 a1_2) := (blk_cell BK157.out 2).trans rfl; have hfz10_0 := blk_frozen BK157.out 0; have hfz10_1 := blk_frozen BK157.out 1; have hfz10_2 := blk_frozen BK157.out 2))
        go_ret
        exact ⟨by first | rfl | (simp [errW_none, errW_some] <;> rfl) | (simp [*, errW_none, errW_some] <;> rfl), by repeat (first | (with_reducible first | exact HB.out | apply below_alloc | apply pw_below_drewN | apply below_drew1 | refine below_set ?_ GE156.out | refine below_set ?_ GE157.out) | exact HB.out)⟩
      · rw [if_neg c5] at H
        have c5b0 : (a0_2 == a1_2) = false := beq_eq_false_iff_ne.mpr c5
        have c5b1 : (a0_2 != a1_2) = true := bne_iff_ne.mpr c5
        obtain rfl := Option.some.inj H
        go_enter Try.func51, Try.ntmps51
        go_wp2_with (first | ((with_reducible refine gate_dst (N := 2) rfl ?_); refine box_event ?hg (N := 2) ?hd (cs := #[.int .i64 a0_0, .int .i64 a0_1, .int .i64 a0_2]) (t := 45) ?hr ?_; (case hd => rfl); (case hg => rfl); (case hr => first | (go_simp; done) | (go_simp; rfl)); intro gb156 hg w11 hbox hb; have n0_ := Aside0.mk (below_step (by repeat (first | (with_reducible first | exact HB.out | apply below_alloc | apply pw_below_drewN | apply below_drew1) | exact HB.out)) hb); have n1_ := Aside0.mk (hbox); have n2_ := Aside0.mk ((by rw [hg]; exact (below_size (by repeat (first | (with_reducible first | exact HB.out | apply below_alloc | apply pw_below_drewN | apply below_drew1) | exact HB.out))) : w.heap.size ≤ gb156)); have n3_ := Aside0.mk ((by rw [hg]; exact (below_size (by repeat (first | (with_reducible first | exact HB.out | apply below_alloc | apply pw_below_drewN | apply below_drew1) | exact HB.out))) : w.heap.size ≤ gb156)); clear HB; have HB := n0_; have BK156 := n1_; have GW156 := n2_; have GE156 := n3_; clear n0_ n1_ n2_ n3_; clear hb hbox hg) | ((with_reducible refine gate_dst (N := 3) rfl ?_); refine box_event ?hg (N := 3) ?hd (cs := #[.int .i64 a1_0, .int .i64 a1_1, .int .i64 a1_2]) (t := 45) ?hr ?_; (case hd => rfl); (case hg => rfl); (case hr => first | (go_simp; done) | (go_simp; rfl)); intro gb157 hg w12 hbox hb; have n0_ := Aside0.mk (blk_below (g := gb156) (o := .cells #[.int .i64 a0_0, .int .i64 a0_1, .int .i64 a0_2] 45 (0, 0)) (by (with_reducible repeat (first | refine blk_drewN ?_ _ | refine blk_drew ?_ | refine blk_alloc ?_ _)); exact BK156.out) hb); have n1_ := Aside0.mk (below_step (by repeat (first | (with_reducible first | exact HB.out | apply below_alloc | apply pw_below_drewN | apply below_drew1 | refine below_set ?_ GE156.out) | exact HB.out)) hb); have n2_ := Aside0.mk (hbox); have n3_ := Aside0.mk ((by rw [hg]; exact (below_size (by repeat (first | (with_reducible first | exact HB.out | apply below_alloc | apply pw_below_drewN | apply below_drew1 | refine below_set ?_ GE156.out) | exact HB.out))) : w.heap.size ≤ gb157)); have n4_ := Aside0.mk ((by rw [hg]; exact (below_size (by repeat (first | (with_reducible first | exact HB.out | apply below_alloc | apply pw_below_drewN | apply below_drew1 | refine below_set ?_ GE156.out) | exact HB.out))) : w.heap.size ≤ gb157)); have n5_ := Aside0.mk ((by rw [hg]; exact Nat.ne_of_lt (blk_lt (g := gb156) (o := .cells #[.int .i64 a0_0, .int .i64 a0_1, .int .i64 a0_2] 45 (0, 0)) (by (with_reducible repeat (first | refine blk_drewN ?_ _ | refine blk_drew ?_ | refine blk_alloc ?_ _)); exact BK156.out)) : gb156 ≠ gb157)); have n6_ := Aside0.mk ((by rw [hg]; exact Nat.ne_of_gt (blk_lt (g := gb156) (o := .cells #[.int .i64 a0_0, .int .i64 a0_1, .int .i64 a0_2] 45 (0, 0)) (by (with_reducible repeat (first | refine blk_drewN ?_ _ | refine blk_drew ?_ | refine blk_alloc ?_ _)); exact BK156.out)) : gb157 ≠ gb156)); clear BK156; clear HB; have BK156 := n0_; have HB := n1_; have BK157 := n2_; have GW157 := n3_; have GE157 := n4_; have NB156_157 := n5_; have NB157_156 := n6_; clear n0_ n1_ n2_ n3_ n4_ n5_ n6_; clear hb hbox hg; have hnb13 := NB156_157.out; have hnc13 := NB157_156.out; have hcz14_0 : w12.cell? ⟨gb156, 0, none⟩ = some (.int .i64 a0_0) := (blk_cell BK156.out 0).trans rfl; have hcz14_1 : w12.cell? ⟨gb156, 1, none⟩ = some (.int .i64 a0_1) := (blk_cell BK156.out 1).trans rfl; have hcz14_2 : w12.cell? ⟨gb156, 2, none⟩ = some (.int .i64 a0_2) := (blk_cell BK156.out 2).trans rfl; have hfz14_0 := blk_frozen BK156.out 0; have hfz14_1 := blk_frozen BK156.out 1; have hfz14_2 := blk_frozen BK156.out 2; have hcz15_0 : w12.cell? ⟨gb157, 0, none⟩ = some (.int .i64 a1_0) := (blk_cell BK157.out 0).trans rfl; have hcz15_1 : w12.cell? ⟨gb157, 1, none⟩ = some (.int .i64 a1_1) := (blk_cell BK157.out 1).trans rfl; have hcz15_2 : w12.cell? ⟨gb157, 2, none⟩ = some (.int .i64 a1_2) := (blk_cell BK157.out 2).trans rfl; have hfz15_0 := blk_frozen BK157.out 0; have hfz15_1 := blk_frozen BK157.out 1; have hfz15_2 := blk_frozen BK157.out 2))
        go_ret
        exact ⟨by first | rfl | (simp [errW_none, errW_some] <;> rfl) | (simp [*, errW_none, errW_some] <;> rfl), by repeat (first | (with_reducible first | exact HB.out | apply below_alloc | apply pw_below_drewN | apply below_drew1 | refine below_set ?_ GE156.out | refine below_set ?_ GE157.out) | exact HB.out)⟩
    · rw [if_neg c4] at H
      have c4b0 : (a0_1 == a1_1) = false := beq_eq_false_iff_ne.mpr c4
      have c4b1 : (a0_1 != a1_1) = true := bne_iff_ne.mpr c4
      obtain rfl := Option.some.inj H
      go_enter Try.func51, Try.ntmps51
      go_wp2_with (first | ((with_reducible refine gate_dst (N := 2) rfl ?_); refine box_event ?hg (N := 2) ?hd (cs := #[.int .i64 a0_0, .int .i64 a0_1, .int .i64 a0_2]) (t := 45) ?hr ?_; (case hd => rfl); (case hg => rfl); (case hr => first | (go_simp; done) | (go_simp; rfl)); intro gb156 hg w16 hbox hb; have n0_ := Aside0.mk (below_step (by repeat (first | (with_reducible first | exact HB.out | apply below_alloc | apply pw_below_drewN | apply below_drew1) | exact HB.out)) hb); have n1_ := Aside0.mk (hbox); have n2_ := Aside0.mk ((by rw [hg]; exact (below_size (by repeat (first | (with_reducible first | exact HB.out | apply below_alloc | apply pw_below_drewN | apply below_drew1) | exact HB.out))) : w.heap.size ≤ gb156)); have n3_ := Aside0.mk ((by rw [hg]; exact (below_size (by repeat (first | (with_reducible first | exact HB.out | apply below_alloc | apply pw_below_drewN | apply below_drew1) | exact HB.out))) : w.heap.size ≤ gb156)); clear HB; have HB := n0_; have BK156 := n1_; have GW156 := n2_; have GE156 := n3_; clear n0_ n1_ n2_ n3_; clear hb hbox hg) | ((with_reducible refine gate_dst (N := 3) rfl ?_); refine box_event ?hg (N := 3) ?hd (cs := #[.int .i64 a1_0, .int .i64 a1_1, .int .i64 a1_2]) (t := 45) ?hr ?_; (case hd => rfl); (case hg => rfl); (case hr => first | (go_simp; done) | (go_simp; rfl)); intro gb157 hg w17 hbox hb; have n0_ := Aside0.mk (blk_below (g := gb156) (o := .cells #[.int .i64 a0_0, .int .i64 a0_1, .int .i64 a0_2] 45 (0, 0)) (by (with_reducible repeat (first | refine blk_drewN ?_ _ | refine blk_drew ?_ | refine blk_alloc ?_ _)); exact BK156.out) hb); have n1_ := Aside0.mk (below_step (by repeat (first | (with_reducible first | exact HB.out | apply below_alloc | apply pw_below_drewN | apply below_drew1 | refine below_set ?_ GE156.out) | exact HB.out)) hb); have n2_ := Aside0.mk (hbox); have n3_ := Aside0.mk ((by rw [hg]; exact (below_size (by repeat (first | (with_reducible first | exact HB.out | apply below_alloc | apply pw_below_drewN | apply below_drew1 | refine below_set ?_ GE156.out) | exact HB.out))) : w.heap.size ≤ gb157)); have n4_ := Aside0.mk ((by rw [hg]; exact (below_size (by repeat (first | (with_reducible first | exact HB.out | apply below_alloc | apply pw_below_drewN | apply below_drew1 | refine below_set ?_ GE156.out) | exact HB.out))) : w.heap.size ≤ gb157)); have n5_ := Aside0.mk ((by rw [hg]; exact Nat.ne_of_lt (blk_lt (g := gb156) (o := .cells #[.int .i64 a0_0, .int .i64 a0_1, .int .i64 a0_2] 45 (0, 0)) (by (with_reducible repeat (first | refine blk_drewN ?_ _ | refine blk_drew ?_ | refine blk_alloc ?_ _)); exact BK156.out)) : gb156 ≠ gb157)); have n6_ := Aside0.mk ((by rw [hg]; exact Nat.ne_of_gt (blk_lt (g := gb156) (o := .cells #[.int .i64 a0_0, .int .i64 a0_1, .int .i64 a0_2] 45 (0, 0)) (by (with_reducible repeat (first | refine blk_drewN ?_ _ | refine blk_drew ?_ | refine blk_alloc ?_ _)); exact BK156.out)) : gb157 ≠ gb156)); clear BK156; clear HB; have BK156 := n0_; have HB := n1_; have BK157 := n2_; have GW157 := n3_; have GE157 := n4_; have NB156_157 := n5_; have NB157_156 := n6_; clear n0_ n1_ n2_ n3_ n4_ n5_ n6_; clear hb hbox hg; have hnb18 := NB156_157.out; have hnc18 := NB157_156.out; have hcz19_0 : w17.cell? ⟨gb156, 0, none⟩ = some (.int .i64 a0_0) := (blk_cell BK156.out 0).trans rfl; have hcz19_1 : w17.cell? ⟨gb156, 1, none⟩ = some (.int .i64 a0_1) := (blk_cell BK156.out 1).trans rfl; have hcz19_2 : w17.cell? ⟨gb156, 2, none⟩ = some (.int .i64 a0_2) := (blk_cell BK156.out 2).trans rfl; have hfz19_0 := blk_frozen BK156.out 0; have hfz19_1 := blk_frozen BK156.out 1; have hfz19_2 := blk_frozen BK156.out 2; have hcz20_0 : w17.cell? ⟨gb157, 0, none⟩ = some (.int .i64 a1_0) := (blk_cell BK157.out 0).trans rfl; have hcz20_1 : w17.cell? ⟨gb157, 1, none⟩ = some (.int .i64 a1_1) := (blk_cell BK157.out 1).trans rfl; have hcz20_2 : w17.cell? ⟨gb157, 2, none⟩ = some (.int .i64 a1_2) := (blk_cell BK157.out 2).trans rfl; have hfz20_0 := blk_frozen BK157.out 0; have hfz20_1 := blk_frozen BK157.out 1; have hfz20_2 := blk_frozen BK157.out 2))
      go_ret
      exact ⟨by first | rfl | (simp [errW_none, errW_some] <;> rfl) | (simp [*, errW_none, errW_some] <;> rfl), by repeat (first | (with_reducible first | exact HB.out | apply below_alloc | apply pw_below_drewN | apply below_drew1 | refine below_set ?_ GE156.out | refine below_set ?_ GE157.out) | exact HB.out)⟩
  · rw [if_neg c3] at H
    have c3b0 : (a0_0 == a1_0) = false := beq_eq_false_iff_ne.mpr c3
    have c3b1 : (a0_0 != a1_0) = true := bne_iff_ne.mpr c3
    obtain rfl := Option.some.inj H
    go_enter Try.func51, Try.ntmps51
    go_wp2_with (first | ((with_reducible refine gate_dst (N := 2) rfl ?_); refine box_event ?hg (N := 2) ?hd (cs := #[.int .i64 a0_0, .int .i64 a0_1, .int .i64 a0_2]) (t := 45) ?hr ?_; (case hd => rfl); (case hg => rfl); (case hr => first | (go_simp; done) | (go_simp; rfl)); intro gb156 hg w21 hbox hb; have n0_ := Aside0.mk (below_step (by repeat (first | (with_reducible first | exact HB.out | apply below_alloc | apply pw_below_drewN | apply below_drew1) | exact HB.out)) hb); have n1_ := Aside0.mk (hbox); have n2_ := Aside0.mk ((by rw [hg]; exact (below_size (by repeat (first | (with_reducible first | exact HB.out | apply below_alloc | apply pw_below_drewN | apply below_drew1) | exact HB.out))) : w.heap.size ≤ gb156)); have n3_ := Aside0.mk ((by rw [hg]; exact (below_size (by repeat (first | (with_reducible first | exact HB.out | apply below_alloc | apply pw_below_drewN | apply below_drew1) | exact HB.out))) : w.heap.size ≤ gb156)); clear HB; have HB := n0_; have BK156 := n1_; have GW156 := n2_; have GE156 := n3_; clear n0_ n1_ n2_ n3_; clear hb hbox hg) | ((with_reducible refine gate_dst (N := 3) rfl ?_); refine box_event ?hg (N := 3) ?hd (cs := #[.int .i64 a1_0, .int .i64 a1_1, .int .i64 a1_2]) (t := 45) ?hr ?_; (case hd => rfl); (case hg => rfl); (case hr => first | (go_simp; done) | (go_simp; rfl)); intro gb157 hg w22 hbox hb; have n0_ := Aside0.mk (blk_below (g := gb156) (o := .cells #[.int .i64 a0_0, .int .i64 a0_1, .int .i64 a0_2] 45 (0, 0)) (by (with_reducible repeat (first | refine blk_drewN ?_ _ | refine blk_drew ?_ | refine blk_alloc ?_ _)); exact BK156.out) hb); have n1_ := Aside0.mk (below_step (by repeat (first | (with_reducible first | exact HB.out | apply below_alloc | apply pw_below_drewN | apply below_drew1 | refine below_set ?_ GE156.out) | exact HB.out)) hb); have n2_ := Aside0.mk (hbox); have n3_ := Aside0.mk ((by rw [hg]; exact (below_size (by repeat (first | (with_reducible first | exact HB.out | apply below_alloc | apply pw_below_drewN | apply below_drew1 | refine below_set ?_ GE156.out) | exact HB.out))) : w.heap.size ≤ gb157)); have n4_ := Aside0.mk ((by rw [hg]; exact (below_size (by repeat (first | (with_reducible first | exact HB.out | apply below_alloc | apply pw_below_drewN | apply below_drew1 | refine below_set ?_ GE156.out) | exact HB.out))) : w.heap.size ≤ gb157)); have n5_ := Aside0.mk ((by rw [hg]; exact Nat.ne_of_lt (blk_lt (g := gb156) (o := .cells #[.int .i64 a0_0, .int .i64 a0_1, .int .i64 a0_2] 45 (0, 0)) (by (with_reducible repeat (first | refine blk_drewN ?_ _ | refine blk_drew ?_ | refine blk_alloc ?_ _)); exact BK156.out)) : gb156 ≠ gb157)); have n6_ := Aside0.mk ((by rw [hg]; exact Nat.ne_of_gt (blk_lt (g := gb156) (o := .cells #[.int .i64 a0_0, .int .i64 a0_1, .int .i64 a0_2] 45 (0, 0)) (by (with_reducible repeat (first | refine blk_drewN ?_ _ | refine blk_drew ?_ | refine blk_alloc ?_ _)); exact BK156.out)) : gb157 ≠ gb156)); clear BK156; clear HB; have BK156 := n0_; have HB := n1_; have BK157 := n2_; have GW157 := n3_; have GE157 := n4_; have NB156_157 := n5_; have NB157_156 := n6_; clear n0_ n1_ n2_ n3_ n4_ n5_ n6_; clear hb hbox hg; have hnb23 := NB156_157.out; have hnc23 := NB157_156.out; have hcz24_0 : w22.cell? ⟨gb156, 0, none⟩ = some (.int .i64 a0_0) := (blk_cell BK156.out 0).trans rfl; have hcz24_1 : w22.cell? ⟨gb156, 1, none⟩ = some (.int .i64 a0_1) := (blk_cell BK156.out 1).trans rfl; have hcz24_2 : w22.cell? ⟨gb156, 2, none⟩ = some (.int .i64 a0_2) := (blk_cell BK156.out 2).trans rfl; have hfz24_0 := blk_frozen BK156.out 0; have hfz24_1 := blk_frozen BK156.out 1; have hfz24_2 := blk_frozen BK156.out 2; have hcz25_0 : w22.cell? ⟨gb157, 0, none⟩ = some (.int .i64 a1_0) := (blk_cell BK157.out 0).trans rfl; have hcz25_1 : w22.cell? ⟨gb157, 1, none⟩ = some (.int .i64 a1_1) := (blk_cell BK157.out 1).trans rfl; have hcz25_2 : w22.cell? ⟨gb157, 2, none⟩ = some (.int .i64 a1_2) := (blk_cell BK157.out 2).trans rfl; have hfz25_0 := blk_frozen BK157.out 0; have hfz25_1 := blk_frozen BK157.out 1; have hfz25_2 := blk_frozen BK157.out 2))
    go_ret
    exact ⟨by first | rfl | (simp [errW_none, errW_some] <;> rfl) | (simp [*, errW_none, errW_some] <;> rfl), by repeat (first | (with_reducible first | exact HB.out | apply below_alloc | apply pw_below_drewN | apply below_drew1 | refine below_set ?_ GE156.out | refine below_set ?_ GE157.out) | exact HB.out)⟩

end Go.Proofs.Ytfanefgkeaapgaa.PFnExactSeqOk
