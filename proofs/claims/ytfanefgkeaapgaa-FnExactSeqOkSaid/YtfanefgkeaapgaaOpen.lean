/- What is read as data of a slice, a struct or an integer is told by the words' kinds; no condition. -/
import Derived.Deep.Slices
import Derived.ProofKit
import Derived.Test.YtfanefgkeaapgaaWWords
namespace Go.Proofs.Ytfanefgkeaapgaa
open Go.ChangeShapes Go.WideShapes Go.ChangeAt Go.RowKit Go.Deep Go.Proofs.YtfanefgkeaapgaaW.PrintWords

/-- What is read of type t is of kind d, and good. -/
def Opens (P : Program) (t : TypeId) {α : Type} (d : Kd α) (good : α → Prop) : Prop :=
  ∀ {H : Type} (enc : TypeId × Value → H) (w : World) (base : Nat) (spare : Nat → Bool) (held : Bool) (fuel : Nat) (cs : List Value) (x : DataW H × List MemPlace), DataW.trod enc P w base spare held fuel t cs = some x → ∃ a, d.K w a cs ∧ good a
theorem Opens.int {P : Program} {t : TypeId} {k : IntKind} (ht : P.underlying t = some (.int k)) : Opens P t (Kd.int k) (fun n => (Lit.int k n).wf = true) := by
  intro H enc w base spare held fuel cs x h
  obtain ⟨n, rfl, _, hn⟩ := DataW.trod_int ht h
  exact ⟨n, rfl, hn⟩
theorem Opens.slice {P : Program} {t e : TypeId} {α : Type} {d : Kd α} {good : α → Prop} (ht : P.underlying t = some (.slice e)) (hc : P.cellsOf e = d.sz) (he : Opens P e d good) :
    Opens P t (Kd.slice e d) (fun xs => xs.length ≤ 9223372036854775807 ∧ ∀ x ∈ xs, good x) := by
  intro H enc w base spare held fuel cs x h
  rcases open_slice ht h with ⟨rfl, _⟩ | ⟨a, len, cap, m, n, D, Pl, rfl, _, hl, hm, hmm, _, hi⟩
  · exact ⟨[], ⟨none, 0, rfl, Nat.le_refl _, Kd.C_nil _ _⟩, by simp, by simp⟩
  · have key : ∀ j, j ≤ len → ∃ xs : List α, xs.length = j ∧ (∀ i p, xs[i]? = some p → ∃ c, c.length = d.sz ∧ d.K w p c ∧ ∀ q u, c[q]? = some u → w.cell? (a.add (i * d.sz + q)) = some u) ∧ ∀ p ∈ xs, good p := by
      intro j
      induction j with
      | zero => intro _; exact ⟨[], rfl, by simp, by simp⟩
      | succ j ih =>
        intro hj
        obtain ⟨xs, hx, hr, hg⟩ := ih (by omega)
        obtain ⟨c, hcc, ht'⟩ := hi j (by split at hmm <;> omega)
        obtain ⟨p, hp, hgp⟩ := he enc w base spare held n c _ ht'
        obtain ⟨_, hlen, hat⟩ := World.cells?_some hcc
        refine ⟨xs ++ [p], by simp [hx], fun i q hq => ?_, fun q hq => ?_⟩
        · rcases Nat.lt_or_ge i xs.length with h1 | h1
          · rw [List.getElem?_append_left h1] at hq
            exact hr i q hq
          · have hij : i = j := by
              have := (List.getElem?_eq_some_iff.1 hq).1
              simp at this; omega
            subst hij
            have : p = q := by simpa [hx] using hq
            subst this
            refine ⟨c, by rw [hlen, hc], hp, fun q u hu => ?_⟩
            have hql : q < P.cellsOf e := by rw [← hlen]; exact (List.getElem?_eq_some_iff.1 hu).1
            rw [← hc, ← Deep.add_add, hat q hql, hu]
        · rcases List.mem_append.1 hq with h1 | h1
          · exact hg q h1
          · rw [List.mem_singleton.1 h1]; exact hgp
    obtain ⟨xs, hx, hr, hg⟩ := key len (Nat.le_refl _)
    have hm' : len ≤ 9223372036854775807 := by simp only [maxLen] at hm; omega
    refine ⟨xs, ⟨some a, cap, by rw [hx], by rw [hx]; exact hl, ⟨rfl, by rw [hx]; exact hm', fun _ => ⟨a, rfl, hr⟩⟩⟩, by rw [hx]; exact hm', hg⟩
/-- A struct's field, out of its cells. -/
theorem field_reads {P : Program} {H : Type} {enc : TypeId × Value → H} {w : World} {base : Nat} {spare : Nat → Bool} {held : Bool} {t : TypeId} {fs : Array Field} {fuel : Nat} {cs : List Value} {x : DataW H × List MemPlace} (ht : P.underlying t = some (.struct fs)) (h : DataW.trod enc P w base spare held fuel t cs = some x)
    (i o tt n : Nat) (hf : (fs[i]?).map (fun f => (f.offset, f.type)) = some (o, tt)) (hn : P.cellsOf tt = n) {α : Type} {d : Kd α} {good : α → Prop} (ho : Opens P tt d good) : ∃ a, d.K w a ((cs.drop o).take n) ∧ good a := by
  obtain ⟨f, hf2, he⟩ := Option.map_eq_some_iff.1 hf
  simp only [Prod.mk.injEq] at he
  obtain ⟨rfl, rfl⟩ := he
  subst hn
  obtain ⟨xs, n, _, _, _, hlen, hg⟩ := DataW.trod_struct ht h
  have h1 := hg i f hf2
  have hi : i < xs.length := by rw [hlen]; exact (Array.getElem?_eq_some_iff.1 hf2).1
  rw [List.getElem?_eq_getElem hi] at h1
  exact ho enc w base spare held n _ _ h1
theorem struct_cells {P : Program} {H : Type} {enc : TypeId × Value → H} {w : World} {base : Nat} {spare : Nat → Bool} {held : Bool} {t : TypeId} {fs : Array Field} {fuel : Nat} {cs : List Value} {x : DataW H × List MemPlace} (ht : P.underlying t = some (.struct fs)) (h : DataW.trod enc P w base spare held fuel t cs = some x) : cs.length = P.cellsOf t := by
  obtain ⟨_, _, _, _, hc, _, _⟩ := DataW.trod_struct ht h
  exact hc
end Go.Proofs.Ytfanefgkeaapgaa
