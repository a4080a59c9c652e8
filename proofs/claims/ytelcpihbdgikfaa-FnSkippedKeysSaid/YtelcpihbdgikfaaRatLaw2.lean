/- How rows of skipped keys are carried over a mark. -/
import Derived.Test.YtelcpihbdgikfaaRatchLaw
import Derived.Test.YtelcpihbdgikfaaAdv2
namespace Go.Proofs.Ytelcpihbdgikfaa
open Go.RowKit

theorem OwnK.apart {base : Nat} {w : World} {ao : Option Addr} {N cap : Nat} {l : List Int} (h : OwnK base w ao N cap l) {base' : Nat} {w' : World} {bo : Option Addr} {M cap' : Nat} {m : List Int} (h' : OwnK base' w' bo M cap' m) (hlt : w.heap.size ≤ base') : ownB ao = none ∨ ownB ao ≠ ownB bo := by
  rcases h.shape with ⟨rfl, _⟩ | ⟨g, rfl, hg, hg'⟩
  · exact .inl rfl
  · refine .inr ?_
    rcases h'.shape with ⟨rfl, _⟩ | ⟨g2, rfl, hg2, _⟩
    · simp [ownB]
    · simp [ownB]; omega
theorem OwnK.apart' {base : Nat} {w : World} {ao : Option Addr} {N cap : Nat} {l : List Int} (h : OwnK base w ao N cap l) {base' : Nat} {w' : World} {bo : Option Addr} {M cap' : Nat} {m : List Int} (h' : OwnK base' w' bo M cap' m) (hlt : w'.heap.size ≤ base) : ownB ao = none ∨ ownB ao ≠ ownB bo := by
  rcases h.shape with ⟨rfl, _⟩ | ⟨g, rfl, hg, hg'⟩
  · exact .inl rfl
  · refine .inr ?_
    rcases h'.shape with ⟨rfl, _⟩ | ⟨g2, rfl, _, hg2⟩
    · simp [ownB]
    · simp [ownB]; omega
theorem OwnK.notOld {base : Nat} {w : World} {ao : Option Addr} {N cap : Nat} {l : List Int} (h : OwnK base w ao N cap l) {b : Nat} (hb : b < base) : some b ≠ ownB ao := by
  rcases h.shape with ⟨rfl, _⟩ | ⟨g, rfl, hg, hg'⟩
  · simp [ownB]
  · simp [ownB]; omega
theorem OwnK.notNew {base : Nat} {w : World} {ao : Option Addr} {N cap : Nat} {l : List Int} (h : OwnK base w ao N cap l) {b : Nat} (hb : w.heap.size ≤ b) : some b ≠ ownB ao := by
  rcases h.shape with ⟨rfl, _⟩ | ⟨g, rfl, hg, hg'⟩
  · simp [ownB]
  · simp [ownB]; omega
theorem OwnK.belowG {base : Nat} {w : World} {ao : Option Addr} {N cap : Nat} {l : List Int} (h : OwnK base w ao N cap l) {W : World} (hg : w.grownBy W (ownB ao)) {B : Nat} (hB : B ≤ base) (hW : B ≤ w.heap.size) : Below B w W :=
  grown_below hg hW (fun j hj => by
    rcases h.shape with ⟨rfl, _⟩ | ⟨g, rfl, hg, hg'⟩
    · simp [ownB] at hj
    · simp [ownB] at hj; omega)
end Go.Proofs.Ytelcpihbdgikfaa
