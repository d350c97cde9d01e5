/- Contracts of the program's functions, by a program of the prover's own; Lean checks each. -/
import Derived.Test.YtplfplmomioffaaDoorProg
import Derived.Below
import Derived.Deep.Draws
import Derived.Deep.AppendLies
import Derived.Maps.AppendAt
import Derived.OwnWalk
import Derived.Laws.BytesArg
import Derived.Laws.MakeOwn
import Derived.Laws.OwnMore
import Derived.Deep.OwnRows
import Derived.Tactics
import Derived.Lib.ConvBytes
import Derived.Laws.Slices
import Derived.WalkKit
import Derived.KernelRfl
import Derived.RowKit3
import Derived.Deep.LoopGhost
import Derived.Deep.QuietTactic
import Derived.BigQuiet
import Derived.WideLaws
import Derived.Deep.DeepCutAuto
import Derived.Deep.CutBlock
import Derived.Deep.RegionHeld3
import Derived.Laws.Rows
import Derived.Lib.AppendStr
import Derived.ArgAppend
import Derived.Laws.IdiomCopy
import Derived.OrdersHeld
import Derived.Laws.BitsLemmas
import Derived.RowKit
import Derived.Lib.SliceRun
import Derived.Shelf.Abstract
import Derived.Test.YtplfplmomioffaaDoorWWords
import Derived.Test.YtplfplmomioffaaDoorWLast
import Derived.Test.YtplfplmomioffaaDoorWTab
import Derived.Test.YtplfplmomioffaaDoorWFour
import Derived.Test.YtplfplmomioffaaDoorWQPut
import Derived.Test.YtplfplmomioffaaDoorWApart
import Derived.Test.YtplfplmomioffaaDoorWArr
import Derived.Test.YtplfplmomioffaaDoorWZeros
import Derived.Test.YtplfplmomioffaaDoorWFoot
import Derived.Test.YtplfplmomioffaaDoorWKept
import Derived.Test.YtplfplmomioffaaDoorWShare
import Derived.Test.YtplfplmomioffaaDoorWN
import Derived.Test.YtplfplmomioffaaDoorWFootNe
import Derived.Test.YtplfplmomioffaaDoorWAt
import Derived.Test.YtplfplmomioffaaDoorWEqStruct
import Derived.Test.YtplfplmomioffaaDoorWRepsOne
import Derived.Test.YtplfplmomioffaaDoorWInv
import Derived.Test.YtplfplmomioffaaDoorWInvWords
import Derived.Test.YtplfplmomioffaaDoorWGuard
import Derived.Test.YtplfplmomioffaaDoorWNEv
import Derived.Test.YtplfplmomioffaaDoorWMore
import Derived.Test.YtplfplmomioffaaDoorWSized
namespace Go.Proofs.YtplfplmomioffaaDoor.PFnExactEventRead
open Go.RowKit Go.Proofs.YtplfplmomioffaaDoorW.PrintWords Go.Proofs.YtplfplmomioffaaDoorW.PrintLast Go.Proofs.YtplfplmomioffaaDoorW.PrintMore
attribute [local go_sem] max2_int min2_int max_two min_two max_three min_three max_four min_four   -- for this text's walks alone
set_option linter.unusedVariables false
set_option linter.unusedSimpArgs false



def errW : Option Int → Value
  | none => .nilIface
  | some c => .iface 0 (.int .i64 c)
theorem errW_none : errW none = .nilIface := rfl
theorem errW_some (c : Int) : errW (some c) = .iface 0 (.int .i64 c) := rfl

theorem info5 : (Tryd.prog.info? 5).map (fun i => (i.zero, i.size, i.bytes)) = some (some (.int .u8 0), 1, 1) := by kernel_rfl
theorem info9 : (Tryd.prog.info? 9).map (fun i => (i.zero, i.size, i.bytes)) = some (some (.string ⟨#[]⟩), 1, 16) := by kernel_rfl
-- the values' own types

end Go.Proofs.YtplfplmomioffaaDoor.PFnExactEventRead
