import Derived.Test.YtnejacmmbfeneaaDoorConfA
import Derived.Deep.RegionHeld3
namespace Go.Proofs.YtnejacmmbfeneaaDoor
open Go.RowKit Go.PlainAid

section
variable (w : World)

/-! ## The parameters: closures -/
def parLH : List (Int × Int) := [(1, 1048576), (1, 1048576), (1, 1048576), (1, 1048576), (1, 1048576), (1, 1048576), (0, 1099511627776), (0, 1099511627776), (0, 256), (1, 4096)]
end
end Go.Proofs.YtnejacmmbfeneaaDoor
