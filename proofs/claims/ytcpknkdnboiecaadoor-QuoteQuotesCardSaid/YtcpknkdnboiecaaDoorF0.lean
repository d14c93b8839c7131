import Derived.Test.YtcpknkdnboiecaaDoorG
import Derived.Below
import Derived.Deep.Draws
import Derived.Deep.AppendLies
import Derived.Maps.AppendAt
import Derived.OwnWalk
import Derived.Laws.BytesArg
import Derived.Laws.MakeOwn
import Derived.Laws.OwnMore
import Derived.Deep.OwnRows
import Derived.Tactics
import Derived.Lib.ConvBytes
import Derived.Laws.Slices
import Derived.WalkKit
import Derived.KernelRfl
import Derived.RowKit3
import Derived.Deep.LoopGhost
import Derived.Deep.QuietTactic
import Derived.BigQuiet
import Derived.WideLaws
import Derived.Deep.DeepCutAuto
import Derived.Deep.CutBlock
import Derived.Deep.RegionHeld3
import Derived.Laws.Rows
import Derived.Lib.AppendStr
import Derived.ArgAppend
import Derived.Laws.IdiomCopy
import Derived.OrdersHeld
import Derived.Laws.BitsLemmas
import Derived.RowKit
import Derived.Test.YtcpknkdnboiecaaDoorWWords
import Derived.Test.YtcpknkdnboiecaaDoorWLast
import Derived.Test.YtcpknkdnboiecaaDoorWTab
import Derived.Test.YtcpknkdnboiecaaDoorWFour
import Derived.Test.YtcpknkdnboiecaaDoorWQPut
import Derived.Test.YtcpknkdnboiecaaDoorWApart
import Derived.Test.YtcpknkdnboiecaaDoorWArr
import Derived.Test.YtcpknkdnboiecaaDoorWZeros
import Derived.Test.YtcpknkdnboiecaaDoorWFoot
import Derived.Test.YtcpknkdnboiecaaDoorWKept
import Derived.Test.YtcpknkdnboiecaaDoorWShare
import Derived.Test.YtcpknkdnboiecaaDoorWN
import Derived.Test.YtcpknkdnboiecaaDoorWFootNe
import Derived.Test.YtcpknkdnboiecaaDoorWAt
import Derived.Test.YtcpknkdnboiecaaDoorWEqStruct
import Derived.Test.YtcpknkdnboiecaaDoorWRepsOne
import Derived.Test.YtcpknkdnboiecaaDoorWInv
import Derived.Test.YtcpknkdnboiecaaDoorWInvWords
import Derived.Test.YtcpknkdnboiecaaDoorWGuard
import Derived.Test.YtcpknkdnboiecaaDoorWNEv
import Derived.Test.YtcpknkdnboiecaaDoorWMore
namespace Go.Proofs.YtcpknkdnboiecaaDoor.P
open Go.RowKit Go.Proofs.YtcpknkdnboiecaaDoorW.PrintWords Go.Proofs.YtcpknkdnboiecaaDoorW.PrintLast Go.Proofs.YtcpknkdnboiecaaDoorW.PrintMore
attribute [local go_sem] max2_int min2_int max_two min_two max_three min_three max_four min_four
set_option linter.unusedVariables false
set_option linter.unusedSimpArgs false

def errW : Option Int → Value
  | none => .nilIface
  | some c => .iface 0 (.int .i64 c)
theorem errW_none : errW none = .nilIface := rfl
theorem errW_some (c : Int) : errW (some c) = .iface 0 (.int .i64 c) := rfl

theorem info5 : (Tryd.prog.info? 5).map (fun i => (i.zero, i.size, i.bytes)) = some (some (.int .u8 0), 1, 1) := by kernel_rfl
theorem info9 : (Tryd.prog.info? 9).map (fun i => (i.zero, i.size, i.bytes)) = some (some (.string ⟨#[]⟩), 1, 16) := by kernel_rfl
-- the values' own types

end Go.Proofs.YtcpknkdnboiecaaDoor.P
