/- The plain function of the key for a step. No program in sight but the words for memory. -/
import Derived.Test.YtelcpihbdgikfaaProg
import Derived.Test.YtelcpihbdgikfaaRatLaw2
import Derived.Test.YtelcpihbdgikfaaDial2
namespace Go.Proofs.Ytelcpihbdgikfaa
open Go.RowKit

def stepsK (l : List Int) (n : Nat) : List Int := (List.range n).map fun i => l.getD (2 * i) 0
theorem stepsK_length (l : List Int) (n : Nat) : (stepsK l n).length = n := by simp [stepsK]
theorem stepsK_getD (l : List Int) {n i : Nat} (h : i < n) : (stepsK l n).getD i 0 = l.getD (2 * i) 0 := by simp [stepsK, h]
def skipI : Nat → Int → Int → List Int → Int × List Int
  | 0, x, _, l => (x, l)
  | k + 1, x, s, l => (nextChainI (skipI k x s l).1, (skipI k x s l).2 ++ [s + k, messageKeyI (skipI k x s l).1])
theorem skipI_length (k : Nat) (x s : Int) (l : List Int) : (skipI k x s l).2.length = l.length + 2 * k := by
  induction k with
  | zero => rfl
  | succ k ih => simp only [skipI, List.length_append, ih, List.length_cons, List.length_nil]; omega
def trimK (l : List Int) : List Int := l.drop (l.length - 16)
/-- the new ratchet's chain and step, its kept keys, the key, whether there is one -/
def keyStepI (x s : Int) (n : Nat) (l : List Int) (step : Int) : (Int × Int) × List Int × Int × Bool :=
  if validRatchetI x s n l && decide (step < 100000) then
    if step < s then
      match (stepsK l n).findIdx? (fun y => y == step) with
      | some i => ((x, s), l.take (2 * i) ++ l.drop (2 * i + 2), l.getD (2 * i + 1) 0, true)
      | none => ((x, s), l, 0, false)
    else if 8 < step - s then ((x, s), l, 0, false)
    else ((nextChainI (skipI (step - s).toNat x s l).1, step + 1), trimK (skipI (step - s).toNat x s l).2, messageKeyI (skipI (step - s).toNat x s l).1, true)
  else ((x, s), l, 0, false)
theorem keyStep_no {x s : Int} {n : Nat} {l : List Int} {step : Int} (h : (validRatchetI x s n l && decide (step < 100000)) = false) : keyStepI x s n l step = ((x, s), l, 0, false) := by
  unfold keyStepI; rw [h]; rfl
theorem keyStep_at {x s : Int} {n : Nat} {l : List Int} {step : Int} (h : (validRatchetI x s n l && decide (step < 100000)) = true) (hs : step < s) {i : Nat} (hi : i < n) (he : l.getD (2 * i) 0 = step) (hn : ∀ j, j < i → ¬ l.getD (2 * j) 0 = step) :
    keyStepI x s n l step = ((x, s), l.take (2 * i) ++ l.drop (2 * i + 2), l.getD (2 * i + 1) 0, true) := by
  unfold keyStepI
  rw [if_pos h, if_pos hs, findIdx_p (fun y => y == step) (stepsK l n) i (by rw [stepsK_length]; exact hi) (by rw [stepsK_getD l hi, he]; simp) (fun j hj => by rw [stepsK_getD l (by omega)]; exact beq_eq_false_iff_ne.2 (hn j hj))]
theorem keyStep_none {x s : Int} {n : Nat} {l : List Int} {step : Int} (h : (validRatchetI x s n l && decide (step < 100000)) = true) (hs : step < s) (hn : ∀ j, j < n → ¬ l.getD (2 * j) 0 = step) :
    keyStepI x s n l step = ((x, s), l, 0, false) := by
  unfold keyStepI
  rw [if_pos h, if_pos hs, findIdx_pn (p := fun y => y == step) (l := stepsK l n) (fun j hj => by rw [stepsK_length] at hj; rw [stepsK_getD l hj]; exact beq_eq_false_iff_ne.2 (hn j hj))]
theorem keyStep_far {x s : Int} {n : Nat} {l : List Int} {step : Int} (h : (validRatchetI x s n l && decide (step < 100000)) = true) (hs : ¬ step < s) (hf : 8 < step - s) :
    keyStepI x s n l step = ((x, s), l, 0, false) := by
  unfold keyStepI
  rw [if_pos h, if_neg hs, if_pos hf]
theorem keyStep_yes {x s : Int} {n : Nat} {l : List Int} {step : Int} (h : (validRatchetI x s n l && decide (step < 100000)) = true) (hs : ¬ step < s) (hf : ¬ 8 < step - s) {k : Nat} (hk : step = s + k) {x' : Int} {L : List Int} (hq : skipI k x s l = (x', L)) :
    keyStepI x s n l step = ((nextChainI x', step + 1), trimK L, messageKeyI x', true) := by
  unfold keyStepI
  rw [if_pos h, if_neg hs, if_neg hf, show (step - s).toNat = k by omega, hq]
def KeyPost (y : (Int × Int) × List Int × Int × Bool) (w : World) (e : Ending) (w' : World) : Prop :=
  ∃ ao N cap, e = .returned (.tuple #[.agg #[.int .i64 y.1.1, .int .i64 y.1.2, .slice ao N cap], .int .i64 y.2.2.1, .bool y.2.2.2]) ∧ OwnK w.heap.size w' ao N cap y.2.1 ∧ Below w.heap.size w w'
theorem keyPost {y : (Int × Int) × List Int × Int × Bool} {x s k : Int} {L : List Int} {b : Bool} (h : y = ((x, s), L, k, b)) {w w' : World} {ao : Option Addr} {N cap : Nat} (ho : OwnK w.heap.size w' ao N cap L) (hb : Below w.heap.size w w') :
    KeyPost y w (.returned (.tuple #[.agg #[.int .i64 x, .int .i64 s, .slice ao N cap], .int .i64 k, .bool b])) w' := by
  subst h
  exact ⟨_, _, _, rfl, ho, hb⟩
theorem valid_bd {x s : Int} {n : Nat} {l : List Int} (h : validRatchetI x s n l = true) : 0 ≤ s ∧ s ≤ 100000 ∧ n ≤ 8 := by
  simp only [validRatchetI, inR, Bool.and_eq_true, decide_eq_true_eq] at h
  omega
theorem Sk.capB {w : World} {b off n c : Nat} {l : List Int} (h : Sk w (.slice (some ⟨b, off, none⟩) n c) n l) : n ≤ c ∧ c ≤ 9223372036854775807 := by
  rcases h.2 with ⟨h0, a, cap, hv, hc, hz⟩ | ⟨b', off', cap, hv, h1, h2, h3, h4⟩
  · simp only [Value.slice.injEq] at hv
    obtain ⟨_, _, rfl⟩ := hv
    unfold maxLen at hc
    omega
  · simp only [Value.slice.injEq] at hv
    obtain ⟨_, _, rfl⟩ := hv
    unfold maxLen at h2
    omega
theorem Sk.take {w : World} {b off n c : Nat} {l : List Int} (h : Sk w (.slice (some ⟨b, off, none⟩) n c) n l) {j : Nat} (hj : j ≤ n) : Sk w (.slice (some ⟨b, off, none⟩) j c) j (l.take (2 * j)) := by
  refine ⟨by rw [List.length_take, h.1]; omega, ?_⟩
  rcases h.2 with ⟨h0, a, cap, hv, hc, hz⟩ | ⟨b', off', cap, hv, h1, h2, h3, h4⟩
  · simp only [Value.slice.injEq] at hv
    obtain ⟨_, _, rfl⟩ := hv
    obtain rfl : j = 0 := by omega
    exact .inl ⟨rfl, _, c, rfl, hc, by simp⟩
  · simp only [Value.slice.injEq, Option.some.injEq, Addr.mk.injEq] at hv
    obtain ⟨⟨rfl, rfl, _⟩, _, rfl⟩ := hv
    refine .inr ⟨b, off, c, rfl, by omega, h2, h3, fun i hi => ?_⟩
    rw [h4 i (by omega)]
    simp [List.getD, hi]
theorem Sk.drop {w : World} {b off n c : Nat} {l : List Int} (h : Sk w (.slice (some ⟨b, off, none⟩) n c) n l) {j : Nat} (hj : j ≤ n) (hb : b < w.heap.size) : Sk w (.slice (some ⟨b, off + j * 2, none⟩) (n - j) (c - j)) (n - j) (l.drop (2 * j)) := by
  refine ⟨by rw [List.length_drop, h.1]; omega, ?_⟩
  rcases h.2 with ⟨h0, a, cap, hv, hc, hz⟩ | ⟨b', off', cap, hv, h1, h2, h3, h4⟩
  · simp only [Value.slice.injEq] at hv
    obtain ⟨_, _, rfl⟩ := hv
    obtain rfl : j = 0 := by omega
    subst h0
    exact .inl ⟨rfl, _, c, rfl, hc, by simp⟩
  · simp only [Value.slice.injEq, Option.some.injEq, Addr.mk.injEq] at hv
    obtain ⟨⟨rfl, rfl, _⟩, _, rfl⟩ := hv
    refine .inr ⟨b, off + j * 2, c - j, rfl, by omega, by omega, hb, fun i hi => ?_⟩
    have := h4 (2 * j + i) (by omega)
    rw [show off + (2 * j + i) = off + j * 2 + i by omega] at this
    rw [this]
    simp [List.getD, List.getElem?_drop]
end Go.Proofs.Ytelcpihbdgikfaa
