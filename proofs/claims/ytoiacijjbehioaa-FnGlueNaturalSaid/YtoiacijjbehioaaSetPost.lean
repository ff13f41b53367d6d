/- What both set the glues to. -/
import Derived.Test.YtoiacijjbehioaaSetMath
import Derived.Test.YtoiacijjbehioaaBase
import Derived.Test.YtoiacijjbehioaaOpen
namespace Go.Proofs.Ytoiacijjbehioaa
open Go.RowKit
def SetPost (l : List G) (width : Int) (n : Nat) (w : World) (e : Ending) (w' : World) : Prop :=
  ∃ v, e = .returned (.tuple #[v, .bool (share l width).ok]) ∧ w'.ownsRow w.heap.size 3 1 v n (cellsN (setList l width)) ∧ Below w.heap.size w w'
end Go.Proofs.Ytoiacijjbehioaa
