/- Plain laws of the small group: 1019 elements modulo 2039, exponents modulo 1019. No program in sight. -/
import Derived.Test.YtamhlmeopbpjpaaDoorBase
namespace Go.Proofs.YtamhlmeopbpjpaaDoor

/-- the order of the group, behind a name (so that no tactic tries to reckon a power) -/
def ord : Nat := 1019
theorem ord_eq : ord = 1019 := rfl

theorem ge_iff (x : Nat) : isGE (x : Int) = true ↔ 1 ≤ x ∧ x ≤ 2038 ∧ x ^ ord % 2039 = 1 := by
  unfold isGE powI
  rw [Bool.and_eq_true, decide_eq_true_eq, beq_iff_eq, Int.toNat_natCast, show (1019 : Int).toNat = ord from rfl, show (2039 : Int).toNat = 2039 from rfl]
  omega
theorem pow_mod_exp {g : Nat} (hg : g ^ ord % 2039 = 1) (n : Nat) : g ^ n % 2039 = g ^ (n % 1019) % 2039 := by
  have h2 : ∀ q r : Nat, g ^ (ord * q + r) % 2039 = g ^ r % 2039 := by
    intro q r
    have h3 : (g ^ ord) ^ q % 2039 = 1 := by rw [Nat.pow_mod, hg, Nat.one_pow]
    rw [Nat.pow_add, Nat.pow_mul, Nat.mul_mod, h3]
    generalize g ^ r = t
    omega
  have e : ord * (n / 1019) + n % 1019 = n := by rw [ord_eq]; omega
  have h3 := h2 (n / 1019) (n % 1019)
  rw [e] at h3
  exact h3
theorem pow_pos_mod {g : Nat} (hg : g ^ ord % 2039 = 1) (n : Nat) : 1 ≤ g ^ n % 2039 := by
  rcases Nat.eq_zero_or_pos (g ^ n % 2039) with h | h
  · exfalso
    have e1 : (g ^ n) ^ ord % 2039 = 0 := by rw [Nat.pow_mod, h, Nat.zero_pow (by rw [ord_eq]; omega)]
    have e2 : (g ^ n) ^ ord % 2039 = 1 := by rw [← Nat.pow_mul, Nat.mul_comm, Nat.pow_mul, Nat.pow_mod, hg, Nat.one_pow]
    omega
  · exact h
theorem ge_pow {g : Nat} (hg : g ^ ord % 2039 = 1) (n : Nat) : (g ^ n % 2039) ^ ord % 2039 = 1 := by
  rw [← Nat.pow_mod, ← Nat.pow_mul, Nat.mul_comm, Nat.pow_mul, Nat.pow_mod, hg, Nat.one_pow]
/-- an exponent's inverse, as natural numbers -/
theorem inv_nat {b : Nat} (h0 : 0 < b % 1019) : ∃ i, b * i % 1019 = 1 := by
  have := inv_all ⟨b % 1019, Nat.mod_lt _ (by omega)⟩
  simp only at this
  rcases this with h | h
  · omega
  · exact ⟨_, by rw [Nat.mul_mod]; rw [Nat.mul_mod, Nat.mod_mod] at h; exact h⟩
theorem pow_one_of {g b : Nat} (hg : g ^ ord % 2039 = 1) (h0 : 0 < b % 1019) (h : g ^ b % 2039 = 1) : g % 2039 = 1 := by
  obtain ⟨i, hi⟩ := inv_nat h0
  have e : g ^ (b * i) % 2039 = 1 := by rw [Nat.pow_mul, Nat.pow_mod, h, Nat.one_pow]
  rw [pow_mod_exp hg, hi, Nat.pow_one] at e
  exact e
theorem pow_inj {g a b : Nat} (hg : g ^ ord % 2039 = 1) (h1 : g % 2039 ≠ 1) (h : g ^ a % 2039 = g ^ b % 2039) : a % 1019 = b % 1019 := by
  -- multiply both by g ^ (1018 * b)
  have e : g ^ (a + 1018 * b) % 2039 = 1 := by
    rw [Nat.pow_add, Nat.mul_mod, h, ← Nat.mul_mod, ← Nat.pow_add, show b + 1018 * b = ord * b by rw [ord_eq]; omega, Nat.pow_mul, Nat.pow_mod, hg, Nat.one_pow]
  by_cases h0 : 0 < (a + 1018 * b) % 1019
  · exact absurd (pow_one_of hg h0 e) h1
  · omega
/-- the powers of 4, as the bits of one number -/
def mask4 : Nat → Nat → Nat
  | 0, _ => 0
  | f + 1, y => mask4 f (y * 4 % 2039) ||| (1 <<< y)
theorem mask4_spec : ∀ (f y x : Nat), (mask4 f y).testBit x = true → y < 2039 → ∃ k, k < f ∧ y * 4 ^ k % 2039 = x := by
  intro f
  induction f with
  | zero => intro y x h _; simp [mask4] at h
  | succ f ih =>
    intro y x h hy
    rw [mask4, Nat.testBit_or, Bool.or_eq_true] at h
    rcases h with h | h
    · obtain ⟨k, hk, e⟩ := ih _ _ h (Nat.mod_lt _ (by omega))
      refine ⟨k + 1, by omega, ?_⟩
      have e2 : y * 4 % 2039 * 4 ^ k % 2039 = y * 4 * 4 ^ k % 2039 := by rw [Nat.mul_mod, Nat.mod_mod, ← Nat.mul_mod]
      rw [← e, e2, Nat.pow_succ, Nat.mul_comm (4 ^ k) 4, ← Nat.mul_assoc]
    · rw [Nat.one_shiftLeft, Nat.testBit_two_pow] at h
      refine ⟨0, by omega, ?_⟩
      have : y = x := by simpa using h
      rw [Nat.pow_zero, Nat.mul_one, Nat.mod_eq_of_lt hy, this]
theorem all_powers : ∀ x : Fin 2039, x.val ^ ord % 2039 = 1 → (mask4 1019 1).testBit x.val = true := by decide +kernel
theorem power_of_4 {x : Nat} (hx : x < 2039) (h : x ^ ord % 2039 = 1) : ∃ k, k < 1019 ∧ 4 ^ k % 2039 = x := by
  obtain ⟨k, hk, e⟩ := mask4_spec _ _ _ (all_powers ⟨x, hx⟩ h) (by omega)
  exact ⟨k, hk, by simpa using e⟩
theorem ge_four : (4 : Nat) ^ ord % 2039 = 1 := by decide +kernel

/-! ### in the words of the walks -/
theorem isGE_four : isGE 4 = true := (ge_iff 4).2 ⟨by omega, by omega, ge_four⟩
theorem isGE_one : isGE 1 = true := (ge_iff 1).2 ⟨by omega, by omega, by rw [Nat.one_pow]⟩
theorem isGE_nat {x : Int} (h : isGE x = true) : ∃ g : Nat, x = g ∧ 1 ≤ g ∧ g ≤ 2038 ∧ g ^ ord % 2039 = 1 := by
  obtain ⟨h1, h2⟩ := isGE_bd h
  obtain ⟨g, rfl⟩ := Int.eq_ofNat_of_zero_le (show 0 ≤ x by omega)
  exact ⟨g, rfl, (ge_iff g).1 h⟩
/-- an exponent as a natural number -/
def ex (n : Int) : Nat := (n % 1019).toNat
theorem ex_lt (n : Int) : ex n < 1019 := by unfold ex; omega
theorem powGroupI_nat {g : Nat} (h : isGE (g : Int) = true) (n : Int) : powGroupI g n = ((g ^ ex n % 2039 : Nat) : Int) := by
  rw [powGroupI_yes n h, modI_1019]
  unfold powI ex
  rw [Int.toNat_natCast, show (2039 : Int).toNat = 2039 from rfl]
theorem pg_ge {g : Int} (h : isGE g = true) (n : Int) : isGE (powGroupI g n) = true := by
  obtain ⟨x, rfl, h1, h2, h3⟩ := isGE_nat h
  rw [powGroupI_nat h, ge_iff]
  exact ⟨pow_pos_mod h3 _, by have := Nat.mod_lt (x ^ ex n) (show 0 < 2039 by omega); omega, ge_pow h3 _⟩
theorem pg_ne_zero {g : Int} (h : isGE g = true) (n : Int) : ¬ powGroupI g n = 0 := by
  have := isGE_bd (pg_ge h n); omega
theorem pg_mul {g : Int} (h : isGE g = true) (a b : Int) : mulGroupI (powGroupI g a) (powGroupI g b) = powGroupI g (a + b) := by
  unfold mulGroupI
  rw [pg_ge h, pg_ge h]
  obtain ⟨x, rfl, h1, h2, h3⟩ := isGE_nat h
  rw [powGroupI_nat h, powGroupI_nat h, powGroupI_nat h]
  simp only [Bool.and_self, if_true]
  rw [← Int.natCast_mul, show (2039 : Int) = ((2039 : Nat) : Int) from rfl, ← Int.natCast_emod, ← Nat.mul_mod, ← Nat.pow_add, pow_mod_exp h3]
  congr 3
  unfold ex
  omega
theorem pg_pg {g : Int} (h : isGE g = true) (a b : Int) : powGroupI (powGroupI g a) b = powGroupI g (a * b) := by
  have hp := pg_ge h a
  obtain ⟨x, rfl, h1, h2, h3⟩ := isGE_nat h
  rw [powGroupI_nat h] at hp ⊢
  rw [powGroupI_nat hp, powGroupI_nat h, ← Nat.pow_mod, ← Nat.pow_mul, pow_mod_exp h3]
  congr 3
  unfold ex
  have e1 : ((a % 1019).toNat * (b % 1019).toNat % 1019 : Nat) = ((a * b) % 1019).toNat := by
    have : (((a % 1019).toNat * (b % 1019).toNat % 1019 : Nat) : Int) = (a * b) % 1019 := by
      rw [Int.natCast_emod, Int.natCast_mul, Int.toNat_of_nonneg (by omega), Int.toNat_of_nonneg (by omega), Int.mul_emod a b]; rfl
    omega
  exact e1
theorem pg_congr (g : Int) {a b : Int} (h : a % 1019 = b % 1019) : powGroupI g a = powGroupI g b := by
  unfold powGroupI; rw [modI_1019, modI_1019, h]
theorem pg_inj {g : Int} (h : isGE g = true) (h1 : ¬ g = 1) {a b : Int} (e : powGroupI g a = powGroupI g b) : a % 1019 = b % 1019 := by
  obtain ⟨x, rfl, x1, x2, x3⟩ := isGE_nat h
  rw [powGroupI_nat h, powGroupI_nat h] at e
  have := pow_inj x3 (by rw [Nat.mod_eq_of_lt (by omega)]; omega) (Int.ofNat.inj e)
  unfold ex at this
  omega
theorem pg_zero {g : Int} (h : isGE g = true) {n : Int} (hn : n % 1019 = 0) : powGroupI g n = 1 := by
  obtain ⟨x, rfl, x1, x2, x3⟩ := isGE_nat h
  rw [powGroupI_nat h]
  unfold ex
  rw [hn]; rfl
theorem pg_one {g : Int} (h : isGE g = true) : powGroupI g 1 = g := by
  obtain ⟨x, rfl, x1, x2, x3⟩ := isGE_nat h
  rw [powGroupI_nat h, show ex 1 = 1 from rfl, Nat.pow_one, Nat.mod_eq_of_lt (by omega)]
theorem pg_ne_one {g : Int} (h : isGE g = true) (h1 : ¬ g = 1) {n : Int} (hn : ¬ n % 1019 = 0) : ¬ powGroupI g n = 1 := by
  intro e
  rw [← pg_zero h (n := 0) rfl] at e
  exact hn (pg_inj h h1 e)
theorem one_pg (n : Int) : powGroupI 1 n = 1 := by
  have := powGroupI_nat (g := 1) isGE_one n
  rw [Nat.one_pow] at this
  exact this
/-- every element is a power of 4 -/
theorem pg_four {x : Int} (h : isGE x = true) : ∃ k : Int, 0 ≤ k ∧ k < 1019 ∧ powGroupI 4 k = x := by
  obtain ⟨g, rfl, x1, x2, x3⟩ := isGE_nat h
  obtain ⟨k, hk, e⟩ := power_of_4 (by omega) x3
  refine ⟨k, by omega, by omega, ?_⟩
  have := powGroupI_nat (g := 4) isGE_four k
  rw [show ex (k : Int) = k by unfold ex; omega, e] at this
  exact this
/-- every element other than 1 generates -/
theorem pg_gen {g x : Int} (hg : isGE g = true) (h1 : ¬ g = 1) (hx : isGE x = true) : ∃ n : Int, 0 ≤ n ∧ n < 1019 ∧ powGroupI g n = x := by
  obtain ⟨a, a0, a1, rfl⟩ := pg_four hg
  obtain ⟨c, c0, c1, rfl⟩ := pg_four hx
  have ha : ¬ a = 0 := fun h => h1 (by rw [h]; exact pg_zero isGE_four rfl)
  have hi := inv_ok (x := a) (by omega) a1
  refine ⟨(powI a 1017 1019 * c) % 1019, by omega, by omega, ?_⟩
  rw [pg_pg isGE_four]
  apply pg_congr
  rw [Int.mul_emod, Int.emod_emod_of_dvd _ (Int.dvd_refl _), ← Int.mul_emod, ← Int.mul_assoc, Int.mul_emod, hi, Int.one_mul, Int.emod_emod_of_dvd _ (Int.dvd_refl _)]
/-- the inverse of an exponent -/
theorem invI_spec {n : Int} (h : ¬ n % 1019 = 0) : n * invI n % 1019 = 1 := by
  have hi := inv_ok (x := n % 1019) (by omega) (by omega)
  unfold invI
  rw [modI_1019, Int.mul_emod]
  rw [Int.mul_emod, Int.emod_emod_of_dvd _ (Int.dvd_refl _)] at hi
  exact hi
theorem invI_zero {n : Int} (h : n % 1019 = 0) : invI n = 0 := by unfold invI; rw [modI_1019, h]; exact powI_zero_base
theorem invI_bd (n : Int) : 0 ≤ invI n ∧ invI n < 1019 := ⟨powI_nonneg _ _ _, powI_lt _ _ _ (by omega)⟩

/-! ### the logarithm -/
theorem dsearch_pg {g x : Int} (hg : isGE g = true) : ∀ (f : Nat) (n : Int), 0 ≤ n → n + f ≤ 1019 → ∀ m : Int, n ≤ m → m < n + f → powGroupI g m = x → (∀ j : Int, n ≤ j → j < m → ¬ powGroupI g j = x) → dsearch g x f (powGroupI g n) n = m := by
  intro f
  induction f with
  | zero => intro n _ _ m h1 h2; simp at h2; omega
  | succ f ih =>
    intro n h0 hn m h1 h2 he hlt
    unfold dsearch
    by_cases hc : x = powGroupI g n
    · rw [if_pos hc]
      rcases Int.lt_or_eq_of_le h1 with h | h
      · exact absurd hc.symm (hlt n (Int.le_refl _) h)
      · exact h
    · rw [if_neg hc]
      have hne : n ≠ m := fun h => hc (by rw [h]; exact he.symm)
      have hs : powGroupI g n * g % 2039 = powGroupI g (n + 1) := by
        rw [← pg_mul hg, pg_one hg]; unfold mulGroupI; rw [pg_ge hg, hg]; rfl
      rw [hs]
      exact ih (n + 1) (by omega) (by omega) m (by omega) (by omega) he (fun j a b => hlt j (by omega) b)
theorem dsearch_none {g x : Int} (hg : isGE g = true) : ∀ (f : Nat) (n : Int), 0 ≤ n → n + f ≤ 1019 → (∀ j : Int, n ≤ j → j < n + f → ¬ powGroupI g j = x) → dsearch g x f (powGroupI g n) n = -1 := by
  intro f
  induction f with
  | zero => intro n _ _ _; rfl
  | succ f ih =>
    intro n h0 hn hno
    unfold dsearch
    rw [if_neg (fun h => hno n (Int.le_refl _) (by omega) h.symm)]
    have hs : powGroupI g n * g % 2039 = powGroupI g (n + 1) := by
      rw [← pg_mul hg, pg_one hg]; unfold mulGroupI; rw [pg_ge hg, hg]; rfl
    rw [hs]
    exact ih (n + 1) (by omega) (by omega) (fun j a b => hno j (by omega) (by omega))
/-- the logarithm of a power is the exponent -/
theorem dlogI_pg {g : Int} (hg : isGE g = true) (h1 : ¬ g = 1) {m : Int} (m0 : 0 ≤ m) (m1 : m < 1019) : dlogI g (powGroupI g m) = m := by
  unfold dlogI
  rw [if_pos (by rw [hg, pg_ge hg]; simp [h1])]
  have e0 : (1 : Int) = powGroupI g 0 := (pg_zero hg rfl).symm
  rw [e0]
  refine dsearch_pg hg 1019 0 (by omega) (by omega) m m0 (by omega) rfl (fun j a b h => ?_)
  have := pg_inj hg h1 h
  omega
theorem dlogI_not {g x : Int} (h : isGE g = false ∨ isGE x = false ∨ (g == 1) = true) : dlogI g x = -1 := by
  unfold dlogI
  rcases h with h | h | h <;> simp [h]
end Go.Proofs.YtamhlmeopbpjpaaDoor
