/- The walks of the functions that ask whether numbers ascend. -/
import Derived.Test.YtpnaobglbaljnaaProg
import Derived.Test.YtpnaobglbaljnaaLists
namespace Go.Proofs.Ytpnaobglbaljnaa
open Go.RowKit

def validSpentI (e : Int) (l : List Int) : Bool := inR e 0 1000000000000 && decide (l.length ≤ 40) && ascI l 0 100000
/-- the struct's two cells and the list, known in a world -/
theorem box_list {w : World} (x v : Value) {k : IntKind} (l : List Int) (e : TypeId) (hs : Sl k w v l) :
    ((w.alloc (.cells #[x, v] e)).cell? ⟨w.heap.size, 0, none⟩ = some x ∧ (w.alloc (.cells #[x, v] e)).cell? ⟨w.heap.size, 1, none⟩ = some v ∧ Below w.heap.size w (w.alloc (.cells #[x, v] e))) ∧ Sl k (w.alloc (.cells #[x, v] e)) v l :=
  ⟨⟨(box2 w x v e).1, (box2 w x v e).2.1, (box2 w x v e).2.2.2⟩, hs.alloc _⟩
end Go.Proofs.Ytpnaobglbaljnaa
