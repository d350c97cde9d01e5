/-
  DERIVED. GIVEN WITH THE SEED: THE CARDS: each row of YtplfplmomioffaaDoorRows.lean that lists a variable, with what it lists TIED to the program's text (the seventh form; the later family's looks); each row that meets fmt, with fmt's text TOLD by the authors' own Lean function (tested against real Go, not proved from fmt's source: count such statements apart). THE CARD IS WHAT COUNTS. Prove the row's statement (the work); the ties are given (YtplfplmomioffaaDoorTie.lean); close each card by the builder's one call (the guide's Derived/Test/ToyasCard.lean, 'card_holds'). Laid BY PROGRAM, IN A SANDBOX (cutbox-door.mjs). By AI agents, Wed Nov 11 2026. No macro, syntax, notation, axiom, sorry.
-/
import Derived.Test.YtplfplmomioffaaDoorRows
import GoSem.ClaimSeven
namespace Go.Proofs.YtplfplmomioffaaDoor
namespace Rows

/-- THE TIED CARD OF 'laws.FnExactEventRead'. -/
def fnExactEventReadCard : Claim7 := { stood := { row := fnExactEventReadRow, standIns := [], harness := (true, "34861ad2ad6c9e13595a2786876e936f40eb5b51546fe728c8e615bb0740aff0"), looks := false }, kinds := [], alts := [], laidByText := true, laidKinds := [.data, .pinned], laidTests := true, laidLooks := .later }
def FnExactEventReadCardSaid : Prop := Claim7.holds Tryd.pinned (.plain (OpenSpec.ofChange fnExactEventReadSpec)) fnExactEventReadCard

/-- THE TIED CARD OF 'laws.FnExactTraceRead'. -/
def fnExactTraceReadCard : Claim7 := { stood := { row := fnExactTraceReadRow, standIns := [], harness := (true, "34861ad2ad6c9e13595a2786876e936f40eb5b51546fe728c8e615bb0740aff0"), looks := false }, kinds := [], alts := [], laidByText := true, laidKinds := [.data, .pinned], laidTests := true, laidLooks := .later }
def FnExactTraceReadCardSaid : Prop := Claim7.holds Tryd.pinned (.plain (OpenSpec.ofChange fnExactTraceReadSpec)) fnExactTraceReadCard

/-- THE TIED CARD OF 'laws.FnStories'. -/
def fnStoriesCard : Claim7 := { stood := { row := fnStoriesRow, standIns := [], harness := (true, "34861ad2ad6c9e13595a2786876e936f40eb5b51546fe728c8e615bb0740aff0"), looks := false }, kinds := [], alts := [], laidByText := true, laidKinds := [.data, .pinned], laidTests := true, laidLooks := .later }
def FnStoriesCardSaid : Prop := Claim7.holds Tryd.pinned (.plain (OpenSpec.ofChange fnStoriesSpec)) fnStoriesCard

/-- THE SECOND FORM's CARD OF 'laws.FnExactEventRead'. -/
def fnExactEventReadUptoCard : Claim7 := { stood := { row := fnExactEventReadUptoRow, standIns := [], harness := (true, "34861ad2ad6c9e13595a2786876e936f40eb5b51546fe728c8e615bb0740aff0"), looks := false }, kinds := [], alts := [], laidByText := true, laidKinds := [.data, .pinned], laidTests := true, laidLooks := .later }
def FnExactEventReadUptoCardSaid : Prop := Claim7.holds Tryd.pinned (.plain (OpenSpec.upto fnExactEventReadSpec)) fnExactEventReadUptoCard

/-- THE SECOND FORM's CARD OF 'laws.FnExactTraceRead'. -/
def fnExactTraceReadUptoCard : Claim7 := { stood := { row := fnExactTraceReadUptoRow, standIns := [], harness := (true, "34861ad2ad6c9e13595a2786876e936f40eb5b51546fe728c8e615bb0740aff0"), looks := false }, kinds := [], alts := [], laidByText := true, laidKinds := [.data, .pinned], laidTests := true, laidLooks := .later }
def FnExactTraceReadUptoCardSaid : Prop := Claim7.holds Tryd.pinned (.plain (OpenSpec.upto fnExactTraceReadSpec)) fnExactTraceReadUptoCard

/-- THE SECOND FORM's CARD OF 'laws.FnStories'. -/
def fnStoriesUptoCard : Claim7 := { stood := { row := fnStoriesUptoRow, standIns := [], harness := (true, "34861ad2ad6c9e13595a2786876e936f40eb5b51546fe728c8e615bb0740aff0"), looks := false }, kinds := [], alts := [], laidByText := true, laidKinds := [.data, .pinned], laidTests := true, laidLooks := .later }
def FnStoriesUptoCardSaid : Prop := Claim7.holds Tryd.pinned (.plain (OpenSpec.upto fnStoriesSpec)) fnStoriesUptoCard
end Rows
end Go.Proofs.YtplfplmomioffaaDoor
