/- What the law on opening by a ratchet leans on. -/
import Derived.Test.YtelcpihbdgikfaaOpenR
import Derived.Test.YtelcpihbdgikfaaKeyLaw
import Derived.Test.YtelcpihbdgikfaaStepLaw
namespace Go.Proofs.Ytelcpihbdgikfaa
open Go.RowKit
theorem openI_len20 (k c : Int) (cell : List Int) : (openI k c cell).1.2.length ≤ 20 := by
  unfold openI
  split
  · dsimp only
    rw [List.length_take, List.length_drop, decI_length, List.length_take]
    omega
  · simp
theorem openStepI_len (x s : Int) (n : Nat) (l : List Int) (step : Int) (cell : List Int) (hl : l.length = 2 * n) : ((openStepI x s n l step cell).2.1.length ≤ 2 * n ∨ (openStepI x s n l step cell).2.1.length ≤ 16) ∧ (openStepI x s n l step cell).2.2.1.length ≤ 1048576 := by
  have h1 := keyStepI_len x s n l step hl
  have h2 := openI_len20 (keyStepI x s n l step).2.2.1 step cell
  unfold openStepI openWith
  split
  · exact ⟨h1, by dsimp only; omega⟩
  · refine ⟨.inl (by dsimp only; omega), by simp⟩
def OpenS2 (x s : Int) (l1 L : List Int) (b : Bool) (n1 : Nat) (w : World) (e : Ending) (w' : World) : Prop :=
  ∃ ao cap bo M cap2, e = .returned (.tuple #[.agg #[.int .i64 x, .int .i64 s, .slice ao n1 cap], .slice bo M cap2, .bool b]) ∧ OwnK w.heap.size w' ao n1 cap l1 ∧ Own .u8 5 w.heap.size w' bo M cap2 L ∧ (ownB ao = none ∨ ownB ao ≠ ownB bo) ∧ Below w.heap.size w w'
theorem openS2 {x s : Int} {l1 L : List Int} {b : Bool} {n1 : Nat} (hn : n1 = l1.length / 2) {w w' : World} {e : Ending} (h : OpenSPost ((x, s), l1, L, b) w e w') : OpenS2 x s l1 L b n1 w e w' := by
  obtain ⟨ao, N, cap, bo, M, cap2, rfl, ho, hp, ha, hb⟩ := h
  obtain rfl : n1 = N := by have := ho.1; dsimp only at this; omega
  exact ⟨ao, cap, bo, M, cap2, rfl, ho, hp, ha, hb⟩
end Go.Proofs.Ytelcpihbdgikfaa
