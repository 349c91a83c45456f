-- Laid by a session's own program (wip/myprint.py) with the kit's print.py and contracts by hand.
import Derived.Test.YtijkbnfiphhohaaProg
import Derived.Below
import Derived.Deep.Draws
import Derived.Deep.AppendLies
import Derived.Maps.AppendAt
import Derived.OwnWalk
import Derived.Laws.BytesArg
import Derived.Laws.MakeOwn
import Derived.Laws.OwnMore
import Derived.Deep.OwnRows
import Derived.Tactics
import Derived.Lib.ConvBytes
import Derived.Laws.Slices
import Derived.WalkKit
import Derived.KernelRfl
import Derived.RowKit3
import Derived.Deep.LoopGhost
import Derived.Deep.QuietTactic
import Derived.BigQuiet
import Derived.WideLaws
import Derived.Deep.DeepCutAuto
import Derived.Deep.CutBlock
import Derived.Deep.RegionHeld3
import Derived.Laws.Rows
import Derived.Lib.AppendStr
import Derived.ArgAppend
import Derived.Laws.IdiomCopy
import Derived.OrdersHeld
import Derived.Laws.BitsLemmas
import Derived.RowKit
import Derived.Lib.SlBytesConst
import Derived.Lib.SmallJoins
import Derived.Lib.LazyBuf
import Derived.Laws.Tables
import Derived.Laws.CopyOwn
import Derived.Test.YtijkbnfiphhohaaCrcMath
import Derived.Test.YtijkbnfiphhohaaWWords
import Derived.Test.YtijkbnfiphhohaaWLast
import Derived.Test.YtijkbnfiphhohaaWTab
import Derived.Test.YtijkbnfiphhohaaWFour
import Derived.Test.YtijkbnfiphhohaaWQPut
import Derived.Test.YtijkbnfiphhohaaWApart
import Derived.Test.YtijkbnfiphhohaaWArr
import Derived.Test.YtijkbnfiphhohaaWZeros
import Derived.Test.YtijkbnfiphhohaaWFoot
import Derived.Test.YtijkbnfiphhohaaWKept
import Derived.Test.YtijkbnfiphhohaaWShare
import Derived.Test.YtijkbnfiphhohaaWN
import Derived.Test.YtijkbnfiphhohaaWFootNe
import Derived.Test.YtijkbnfiphhohaaWAt
import Derived.Test.YtijkbnfiphhohaaWEqStruct
import Derived.Test.YtijkbnfiphhohaaWRepsOne
import Derived.Test.YtijkbnfiphhohaaWInv
import Derived.Test.YtijkbnfiphhohaaWInvWords
import Derived.Test.YtijkbnfiphhohaaWGuard
import Derived.Test.YtijkbnfiphhohaaWNEv
import Derived.Test.YtijkbnfiphhohaaWMore
namespace Go.Proofs.Ytijkbnfiphhohaa.PSumKnown
open Go.RowKit Go.Proofs.YtijkbnfiphhohaaW.PrintWords Go.Proofs.YtijkbnfiphhohaaW.PrintLast Go.Proofs.YtijkbnfiphhohaaW.PrintMore
attribute [local go_sem] max2_int min2_int max_two min_two max_three min_three max_four min_four   -- for this text's walks alone
set_option linter.unusedVariables false
set_option linter.unusedSimpArgs false



def errW : Option Int → Value
  | none => .nilIface
  | some c => .iface 0 (.int .i64 c)
theorem errW_none : errW none = .nilIface := rfl
theorem errW_some (c : Int) : errW (some c) = .iface 0 (.int .i64 c) := rfl

theorem info5 : (Try.prog.info? 5).map (fun i => (i.zero, i.size, i.bytes)) = some (some (.int .u8 0), 1, 1) := by kernel_rfl
-- the values' own types

end Go.Proofs.Ytijkbnfiphhohaa.PSumKnown
