/- THE PROGRAM's FUNCTIONS AS PLAIN LEAN FUNCTIONS, and proofs that its calls come to them: written by a program of this claim's own. Conditions: as each theorem states. -/
import Derived.Test.YtmpaipbpnkfmfaaProg
import Derived.Below
import Derived.Deep.Draws
import Derived.Deep.AppendLies
import Derived.Maps.AppendAt
import Derived.OwnWalk
import Derived.Laws.BytesArg
import Derived.Laws.MakeOwn
import Derived.Laws.OwnMore
import Derived.Deep.OwnRows
import Derived.Tactics
import Derived.Lib.ConvBytes
import Derived.Laws.Slices
import Derived.WalkKit
import Derived.KernelRfl
import Derived.RowKit3
import Derived.Deep.LoopGhost
import Derived.Deep.QuietTactic
import Derived.BigQuiet
import Derived.WideLaws
import Derived.Deep.DeepCutAuto
import Derived.Deep.CutBlock
import Derived.Deep.RegionHeld3
import Derived.Laws.Rows
import Derived.Lib.AppendStr
import Derived.ArgAppend
import Derived.Laws.IdiomCopy
import Derived.OrdersHeld
import Derived.Laws.BitsLemmas
import Derived.RowKit
import Derived.Test.YtmpaipbpnkfmfaaWWords
import Derived.Test.YtmpaipbpnkfmfaaWLast
import Derived.Test.YtmpaipbpnkfmfaaWTab
import Derived.Test.YtmpaipbpnkfmfaaWFour
import Derived.Test.YtmpaipbpnkfmfaaWQPut
import Derived.Test.YtmpaipbpnkfmfaaWApart
import Derived.Test.YtmpaipbpnkfmfaaWArr
import Derived.Test.YtmpaipbpnkfmfaaWZeros
import Derived.Test.YtmpaipbpnkfmfaaWFoot
import Derived.Test.YtmpaipbpnkfmfaaWKept
import Derived.Test.YtmpaipbpnkfmfaaWShare
import Derived.Test.YtmpaipbpnkfmfaaWN
import Derived.Test.YtmpaipbpnkfmfaaWFootNe
import Derived.Test.YtmpaipbpnkfmfaaWAt
import Derived.Test.YtmpaipbpnkfmfaaWEqStruct
import Derived.Test.YtmpaipbpnkfmfaaWRepsOne
import Derived.Test.YtmpaipbpnkfmfaaWInv
import Derived.Test.YtmpaipbpnkfmfaaWInvWords
import Derived.Test.YtmpaipbpnkfmfaaWGuard
import Derived.Test.YtmpaipbpnkfmfaaWNEv
import Derived.Test.YtmpaipbpnkfmfaaWMore
namespace Go.Proofs.Ytmpaipbpnkfmfaa.P
open Go.RowKit Go.Proofs.YtmpaipbpnkfmfaaW.PrintWords Go.Proofs.YtmpaipbpnkfmfaaW.PrintLast Go.Proofs.YtmpaipbpnkfmfaaW.PrintMore
attribute [local go_sem] max2_int min2_int max_two min_two max_three min_three max_four min_four   -- for this text's walks alone
set_option linter.unusedVariables false
set_option linter.unusedSimpArgs false



def errW : Option Int → Value
  | none => .nilIface
  | some c => .iface 0 (.int .i64 c)
theorem errW_none : errW none = .nilIface := rfl
theorem errW_some (c : Int) : errW (some c) = .iface 0 (.int .i64 c) := rfl

theorem info5 : (Try.prog.info? 5).map (fun i => (i.zero, i.size, i.bytes)) = some (some (.int .u8 0), 1, 1) := by kernel_rfl
-- the values' own types

end Go.Proofs.Ytmpaipbpnkfmfaa.P
