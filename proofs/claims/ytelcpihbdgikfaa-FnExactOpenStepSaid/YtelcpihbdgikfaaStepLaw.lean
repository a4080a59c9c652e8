/- What the laws on sealing and opening by a ratchet lean on. -/
import Derived.Test.YtelcpihbdgikfaaRatLaw2
import Derived.Test.YtelcpihbdgikfaaMailLaw
import Derived.Test.YtelcpihbdgikfaaRowIn
namespace Go.Proofs.Ytelcpihbdgikfaa
open Go.RowKit
theorem OwnK.rowIn {base : Nat} {w : World} {ao : Option Addr} {N cap : Nat} {l : List Int} (h : OwnK base w ao N cap l) : RowIn base w.heap.size ao := by
  intro b hb
  rcases h.shape with ⟨rfl, _⟩ | ⟨g, rfl, hg, hg'⟩
  · simp [ownB] at hb
  · simp [ownB] at hb; omega
end Go.Proofs.Ytelcpihbdgikfaa
