/- A world that holds the listed tables, for the rows' witnesses. -/
import Derived.Test.YtmbalkebdmdmaaaDoorRows
import Derived.Test.YtmbalkebdmdmaaaDoorLaw
namespace Go.Proofs.YtmbalkebdmdmaaaDoor
open Go
/-- The tables' cells. -/
def tabCells (k : IntKind) : List (DataW Unit) → List Value
  | [] => []
  | .lit (.int _ z) :: r => .int k z :: tabCells k r
  | _ :: r => tabCells k r
def tabOf (k : IntKind) : DataW Unit → Array Value
  | .agg l => (tabCells k l).toArray
  | _ => #[]
def setRow (h : Array Obj) (i : Nat) (cs : Array Value) : Array Obj := h.modify i fun
  | .cells _ t frozen => .cells cs t frozen
  | o => o
/-- The settled world with the three tables laid. -/
def laidHeap (h : Array Obj) : Array Obj :=
  setRow (setRow (setRow h 3 (tabOf .u64 Rows.laid_internal_strconv_uint64pow10)) 6 (tabOf .u8 Rows.laid_math_bits_deBruijn32tab)) 7 (tabOf .u8 Rows.laid_math_bits_deBruijn64tab)
end Go.Proofs.YtmbalkebdmdmaaaDoor
