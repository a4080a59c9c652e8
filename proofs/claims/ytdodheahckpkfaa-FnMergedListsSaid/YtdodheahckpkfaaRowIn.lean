/- Where a row of the call's own lies: between two sizes of the heap. No program in sight. -/
import Derived.Test.YtdodheahckpkfaaOwn
namespace Go.Proofs.Ytdodheahckpkfaa
open Go.RowKit
def RowIn (lo hi : Nat) (ao : Option Addr) : Prop := ∀ b, ownB ao = some b → lo ≤ b ∧ b < hi
theorem Own.rowIn {k : IntKind} {e : TypeId} {base : Nat} {w : World} {ao : Option Addr} {N cap : Nat} {l : List Int} (h : Own k e base w ao N cap l) : RowIn base w.heap.size ao := by
  intro b hb
  rcases h.shape with ⟨rfl, _⟩ | ⟨g, rfl, hg, hg'⟩
  · simp [ownB] at hb
  · simp [ownB] at hb; omega
theorem RowIn.apart {lo hi lo' hi' : Nat} {x y : Option Addr} (h : RowIn lo hi x) (h' : RowIn lo' hi' y) (hd : hi ≤ lo' ∨ hi' ≤ lo) : ownB x = none ∨ ownB x ≠ ownB y := by
  cases hx : ownB x with
  | none => exact .inl rfl
  | some b =>
    refine .inr (fun e => ?_)
    have h1 := h b hx
    have h2 := h' b e.symm
    omega
theorem RowIn.cell {lo hi : Nat} {y : Option Addr} (h : RowIn lo hi y) {b : Nat} (hb : b < lo ∨ hi ≤ b) : some b ≠ ownB y := by
  intro e
  have := h b e.symm
  omega
theorem RowIn.belowG {lo hi : Nat} {y : Option Addr} (h : RowIn lo hi y) {w W : World} (hg : w.grownBy W (ownB y)) {B : Nat} (hB : B ≤ lo) (hW : B ≤ w.heap.size) : Below B w W :=
  grown_below hg hW (fun j hj => by have := h j hj; omega)
theorem apart_symm {x y : Option Addr} (h : ownB x = none ∨ ownB x ≠ ownB y) : ownB y = none ∨ ownB y ≠ ownB x := by
  cases hy : ownB y with
  | none => exact .inl rfl
  | some b =>
    refine .inr (fun e => ?_)
    rcases h with h | h
    · rw [h] at e; cases e
    · exact h (by rw [hy]; exact e.symm)
end Go.Proofs.Ytdodheahckpkfaa
