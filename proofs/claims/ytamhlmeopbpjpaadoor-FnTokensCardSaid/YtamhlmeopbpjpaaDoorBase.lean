/- The plain functions that the given program computes, and plain lemmas about them. No Go in sight. -/
import Derived.WalkKit
import Derived.Lib.RabinKarpLaws
namespace Go.Proofs.YtamhlmeopbpjpaaDoor

/-- a power modulo a number -/
def powI (g n m : Int) : Int := ((g.toNat ^ n.toNat % m.toNat : Nat) : Int)
/-- Go's Mod of the given program -/
def modI (n q : Int) : Int := if 1 ≤ q ∧ q ≤ 1000000000000 then n % q else 0

theorem powI_nonneg (g n m : Int) : 0 ≤ powI g n m := by unfold powI; omega
theorem powI_lt (g n m : Int) (hm : 1 ≤ m) : powI g n m < m := by
  unfold powI
  have := Nat.mod_lt (g.toNat ^ n.toNat) (show 0 < m.toNat by omega)
  omega
theorem powI_zero (g m : Int) (hm : 2 ≤ m) : powI g 0 m = 1 := by
  unfold powI
  rw [show (0 : Int).toNat = 0 from rfl, Nat.pow_zero, Nat.mod_eq_of_lt (by omega)]; rfl
/-- one round of the squaring loop -/
theorem pow_round (G N O m : Nat) : (O * G ^ N) % m = ((if N % 2 = 1 then O * G % m else O) * (G * G % m) ^ (N / 2)) % m := by
  have hN : N = 2 * (N / 2) + N % 2 := by omega
  have e1 : (G * G % m) ^ (N / 2) % m = (G * G) ^ (N / 2) % m := by rw [← Nat.pow_mod]
  have e2 : (G * G) ^ (N / 2) = G ^ (2 * (N / 2)) := by rw [← Nat.pow_two, ← Nat.pow_mul]
  by_cases h : N % 2 = 1
  · rw [if_pos h]; symm; rw [Nat.mul_mod, e1, e2, Nat.mod_mod, ← Nat.mul_mod]
    conv => rhs; rw [hN, h, Nat.pow_succ]
    congr 1
    rw [Nat.mul_assoc, Nat.mul_comm G]
  · have h0 : N % 2 = 0 := by omega
    rw [if_neg h]; symm; rw [Nat.mul_mod, e1, e2, ← Nat.mul_mod]
    conv => rhs; rw [hN, h0, Nat.add_zero]
theorem bits_and_one (N : Int) (h0 : 0 ≤ N) (h : N < 9223372036854775808) : bits BinOp.and IntKind.i64 N 1 = N % 2 := by
  obtain ⟨n, rfl⟩ := Int.eq_ofNat_of_zero_le h0
  have := Go.Proofs.and_one n (by omega)
  simpa using this
theorem ret_int {k : IntKind} {a b : Int} (h : a = b) : Ending.returned (.int k a) = .returned (.int k b) := by rw [h]
theorem ret_bool {a b : Bool} (h : a = b) : Ending.returned (.bool a) = .returned (.bool b) := by rw [h]
theorem ret_two {a b c d : Value} (h1 : a = c) (h2 : b = d) : Ending.returned (.tuple #[a, b]) = .returned (.tuple #[c, d]) := by rw [h1, h2]
theorem ret_three {a b c a' b' c' : Value} (h1 : a = a') (h2 : b = b') (h3 : c = c') : Ending.returned (.tuple #[a, b, c]) = .returned (.tuple #[a', b', c']) := by rw [h1, h2, h3]
theorem val_int {k : IntKind} {a b : Int} (h : a = b) : Value.int k a = .int k b := by rw [h]
theorem val_bool {a b : Bool} (h : a = b) : Value.bool a = .bool b := by rw [h]
theorem pow_start (g n m : Int) : (Int.toNat 1) * g.toNat ^ n.toNat % m.toNat = (powI g n m).toNat := by
  unfold powI
  rw [show Int.toNat 1 = 1 from rfl, Nat.one_mul, Int.toNat_natCast]
/-- is it an element of the group -/
def isGE (x : Int) : Bool := decide (1 ≤ x ∧ x ≤ 2038) && powI x 1019 2039 == 1
theorem isGE_out {x : Int} (h : x < 1 ∨ 2038 < x) : isGE x = false := by
  unfold isGE
  rw [decide_eq_false (by omega)]; rfl
theorem isGE_in {x : Int} (h1 : 1 ≤ x) (h2 : x ≤ 2038) : isGE x = (powI x 1019 2039 == 1) := by
  unfold isGE
  rw [decide_eq_true ⟨h1, h2⟩]; rfl
def powGroupI (g n : Int) : Int := if isGE g then powI g (modI n 1019) 2039 else 0
def mulGroupI (a b : Int) : Int := if isGE a && isGE b then a * b % 2039 else 0
def invI (n : Int) : Int := powI (modI n 1019) 1017 1019
/-- the logarithm, by trying -/
def dsearch (g x : Int) : Nat → Int → Int → Int
  | 0, _, _ => -1
  | f + 1, y, n => if x = y then n else dsearch g x f (y * g % 2039) (n + 1)
def dlogI (g x : Int) : Int := if isGE g && isGE x && !(g == 1) then dsearch g x 1019 1 0 else -1
theorem isGE_bd {x : Int} (h : isGE x = true) : 1 ≤ x ∧ x ≤ 2038 := by
  unfold isGE at h
  rw [Bool.and_eq_true, decide_eq_true_eq] at h
  exact h.1
theorem modI_1019 (n : Int) : modI n 1019 = n % 1019 := by unfold modI; rw [if_pos (by omega)]
theorem modI_1019_bd (n : Int) : 0 ≤ modI n 1019 ∧ modI n 1019 < 1019 := by rw [modI_1019]; omega
theorem powGroupI_yes {g : Int} (n : Int) (h : isGE g = true) : powGroupI g n = powI g (modI n 1019) 2039 := by unfold powGroupI; rw [if_pos h]
theorem powGroupI_no {g : Int} (n : Int) (h : isGE g = false) : powGroupI g n = 0 := by unfold powGroupI; rw [if_neg (by simp [h])]
theorem powGroupI_bd (g n : Int) : 0 ≤ powGroupI g n ∧ powGroupI g n < 2039 := by
  unfold powGroupI
  split
  · exact ⟨powI_nonneg _ _ _, powI_lt _ _ _ (by omega)⟩
  · omega
theorem inv_all : ∀ x : Fin 1019, x.val = 0 ∨ x.val * (x.val ^ 1017 % 1019) % 1019 = 1 := by decide +kernel
theorem inv_ok {x : Int} (h0 : 0 < x) (h1 : x < 1019) : x * powI x 1017 1019 % 1019 = 1 := by
  obtain ⟨n, rfl⟩ := Int.eq_ofNat_of_zero_le (show 0 ≤ x by omega)
  have := inv_all ⟨n, by omega⟩
  simp only at this
  rcases this with h | h
  · omega
  · unfold powI
    simp only [Int.toNat_natCast]
    rw [show (1017 : Int).toNat = 1017 from rfl, show (1019 : Int).toNat = 1019 from rfl, ← Int.natCast_mul]
    omega
theorem inv_unique {x m : Int} (h0 : 0 ≤ x) (h1 : x < 1019) (m0 : 1 ≤ m) (m1 : m < 1019) (h : x * m % 1019 = 1) : powI x 1017 1019 = m := by
  have hx : 0 < x := by
    rcases Int.lt_or_eq_of_le h0 with h | h
    · exact h
    · subst h; simp at h
  have hi := inv_ok hx h1
  have b0 := powI_nonneg x 1017 1019
  have b1 := powI_lt x 1017 1019 (by omega)
  generalize powI x 1017 1019 = i at *
  have e1 : (x * m * i) % 1019 = i % 1019 := by rw [Int.mul_emod, h, Int.one_mul, Int.emod_emod_of_dvd _ (Int.dvd_refl _)]
  have e2 : (x * m * i) % 1019 = m % 1019 := by
    rw [show x * m * i = x * i * m by rw [Int.mul_assoc, Int.mul_comm m, ← Int.mul_assoc], Int.mul_emod, hi, Int.one_mul, Int.emod_emod_of_dvd _ (Int.dvd_refl _)]
  omega
theorem powI_zero_base : powI 0 1017 1019 = 0 := by
  unfold powI
  rw [show (0 : Int).toNat = 0 from rfl, Nat.zero_pow (by decide)]; rfl
end Go.Proofs.YtamhlmeopbpjpaaDoor
