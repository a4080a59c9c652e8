/- What the laws on the key for a step lean on. -/
import Derived.Test.YtelcpihbdgikfaaKeyI
import Derived.Test.YtelcpihbdgikfaaKeyS
import Derived.Test.YtelcpihbdgikfaaRatLaw2
namespace Go.Proofs.Ytelcpihbdgikfaa
open Go.RowKit
theorem keyStepI_len (x s : Int) (n : Nat) (l : List Int) (step : Int) (hl : l.length = 2 * n) : (keyStepI x s n l step).2.1.length ≤ 2 * n ∨ (keyStepI x s n l step).2.1.length ≤ 16 := by
  unfold keyStepI
  split
  · split
    · split
      · rename_i i hi
        have h1 := (List.findIdx?_eq_some_iff_findIdx_eq.1 hi).1
        rw [stepsK_length] at h1
        simp only [List.length_append, List.length_take, List.length_drop]; omega
      · dsimp only; omega
    · split
      · dsimp only; omega
      · dsimp only; unfold trimK; rw [List.length_drop]; omega
  · dsimp only; omega
theorem ratOfKey {x s k : Int} {b : Bool} {l1 : List Int} {n1 : Nat} (hn : n1 = l1.length / 2) {w w' : World} {e : Ending} (h : KeyPost ((x, s), l1, k, b) w e w') : RatPost ((x, s), k, b) n1 l1 w e w' := by
  obtain ⟨ao, N, cap, rfl, ho, hb⟩ := h
  obtain rfl : n1 = N := by have := ho.1; dsimp only at this; omega
  exact ⟨ao, cap, rfl, ho, hb⟩
end Go.Proofs.Ytelcpihbdgikfaa
