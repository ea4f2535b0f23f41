/-
  EQUATIONS of functions, printed by the tool (wip/tools/VTool.lean.txt). Conditions: none.
-/
import Derived.Test.YtgeheffhdpeddaaDoorXExD
import Derived.Test.YtgeheffhdpeddaaDoorTie
namespace Go.Proofs.YtgeheffhdpeddaaDoor.VX
open Go Go.Proofs Go.Proofs.YtgeheffhdpeddaaDoor

end Go.Proofs.YtgeheffhdpeddaaDoor.VX
