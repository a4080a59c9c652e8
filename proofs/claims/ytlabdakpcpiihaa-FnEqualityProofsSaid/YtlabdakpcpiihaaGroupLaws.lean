/- The plain laws of the group: closed, exponents add up, inverses, logarithms; a proof of equal exponents is accepted. No program in sight. -/
import Derived.Test.YtlabdakpcpiihaaExplain
import Derived.Test.YtlabdakpcpiihaaGroupPlain
namespace Go.Proofs.Ytlabdakpcpiihaa
theorem group_ge {g : Int} (n : Int) (hg : isGE g = true) : isGE (powGroupI g n) = true := pg_ge hg n
theorem group_mul {g : Int} (n m : Int) (hg : isGE g = true) : mulGroupI (powGroupI g n) (powGroupI g m) = powGroupI g (modI n 1019 + m) := by
  rw [pg_mul hg]
  apply pg_congr
  rw [modI_1019]; omega
theorem group_inv0 (n : Int) : (invI n == 0) = (modI n 1019 == 0) := by
  by_cases h : n % 1019 = 0
  · rw [invI_zero h, modI_1019, h]
  · have h1 : ¬ invI n = 0 := by
      intro e
      have := invI_spec h
      rw [e] at this
      simp at this
    rw [modI_1019, beq_eq_false_iff_ne.2 h1, beq_eq_false_iff_ne.2 h]
theorem group_inv {g n : Int} (hg : isGE g = true) (h : ¬ invI n = 0) : powGroupI (powGroupI g n) (invI n) = g := by
  have hn : ¬ n % 1019 = 0 := fun e => h (invI_zero e)
  rw [pg_pg hg, pg_congr g (b := 1) (by rw [invI_spec hn]; rfl), pg_one hg]
theorem group_log {g : Int} (n : Int) (hg : isGE g = true) (h1 : ¬ g = 1) : dlogI g (powGroupI g n) = modI n 1019 := by
  rw [modI_1019, pg_congr g (a := n) (b := n % 1019) (by omega)]
  exact dlogI_pg hg h1 (by omega) (by omega)
theorem prove_val {g h s n : Int} (hg : isGE g = true) (hh : isGE h = true) (s0 : 0 ≤ s) (s1 : s ≤ 100000) (n0 : 0 ≤ n) (n1 : n ≤ 100000) :
    proveI g h s n = (challengeI [g, h, powGroupI g s, powGroupI h s, powGroupI g n, powGroupI h n], (n - challengeI [g, h, powGroupI g s, powGroupI h s, powGroupI g n, powGroupI h n] * s) % 1019) := by
  unfold proveI
  rw [hg, hh]
  have c0 : 0 ≤ challengeI [g, h, powGroupI g s, powGroupI h s, powGroupI g n, powGroupI h n] := by unfold challengeI; omega
  have c1 : challengeI [g, h, powGroupI g s, powGroupI h s, powGroupI g n, powGroupI h n] < 1019 := by unfold challengeI; omega
  generalize challengeI [g, h, powGroupI g s, powGroupI h s, powGroupI g n, powGroupI h n] = c at *
  have p0 : 0 ≤ c * s := Int.mul_nonneg c0 s0
  have p1 : c * s ≤ 1018 * 100000 := Int.mul_le_mul (by omega) s1 s0 (by omega)
  have w1 : Go.RowKit.wrap64 (c * s) = c * s := by unfold Go.RowKit.wrap64; omega
  have w2 : Go.RowKit.wrap64 (n - c * s) = n - c * s := by unfold Go.RowKit.wrap64; omega
  rw [w1, w2, modI_1019]
  simp
theorem prove_ok {g h s n : Int} (hg : isGE g = true) (hh : isGE h = true) (s0 : 0 ≤ s) (s1 : s ≤ 100000) (n0 : 0 ≤ n) (n1 : n ≤ 100000) :
    verifyI g h (powGroupI g s) (powGroupI h s) (proveI g h s n).1 (proveI g h s n).2 = true := by
  rw [prove_val hg hh s0 s1 n0 n1]
  have c0 : 0 ≤ challengeI [g, h, powGroupI g s, powGroupI h s, powGroupI g n, powGroupI h n] := by unfold challengeI; omega
  have c1 : challengeI [g, h, powGroupI g s, powGroupI h s, powGroupI g n, powGroupI h n] < 1019 := by unfold challengeI; omega
  obtain ⟨c, hc⟩ : ∃ c, c = challengeI [g, h, powGroupI g s, powGroupI h s, powGroupI g n, powGroupI h n] := ⟨_, rfl⟩
  rw [← hc] at c0 c1 ⊢
  have key : ∀ {x : Int}, isGE x = true → mulGroupI (powGroupI x ((n - c * s) % 1019)) (powGroupI (powGroupI x s) c) = powGroupI x n := by
    intro x hx
    rw [pg_pg hx, pg_mul hx]
    apply pg_congr
    rw [Int.mul_comm s c]
    generalize c * s = t
    omega
  rw [verifyI_yes]
  · rw [key hg, key hh, ← hc]
    simp
  · rw [hg, hh, pg_ge hg, pg_ge hh]
    simp [inR]
    omega
theorem verify_neg (g h u v c : Int) : verifyI g h u v c (-1) = false := verifyI_no (by simp [inR])
end Go.Proofs.Ytlabdakpcpiihaa
