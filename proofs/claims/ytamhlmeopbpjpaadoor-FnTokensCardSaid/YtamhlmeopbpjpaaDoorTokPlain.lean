/- The plain law of tokens: signed blindly, valid for its issuer, for no other. No program in sight. -/
import Derived.Test.YtamhlmeopbpjpaaDoorBlind
import Derived.Test.YtamhlmeopbpjpaaDoorGroupPlain
namespace Go.Proofs.YtamhlmeopbpjpaaDoor
theorem hg_ge (l v : Int) : isGE (hashToGroupI l v) = true := pg_ge isGE_four _
theorem hg_ne_one (l v : Int) : ¬ hashToGroupI l v = 1 := by
  unfold hashToGroupI
  have := childI_bd (keyedI l [89, v]) 0
  exact pg_ne_one isGE_four (by omega) (by omega)
theorem mod1019 {b : Int} (h0 : 1 ≤ b) (h1 : b ≤ 1018) : (modI b 1019 == 0) = false := by
  rw [modI_1019]; simp; omega
theorem blind_val {s b : Int} (hs0 : 0 ≤ s) (hs1 : s ≤ 100000) (hb0 : 1 ≤ b) (hb1 : b ≤ 1018) : blindI s b = (powGroupI (hashToGroupI 101 s) b, true) := blindI_yes (inR_yes hs0 hs1) (mod1019 hb0 hb1)
theorem blind_ne {s b : Int} (hb0 : 1 ≤ b) (hb1 : b ≤ 1018) : ¬ powGroupI (hashToGroupI 101 s) b = 1 := pg_ne_one (hg_ge _ _) (hg_ne_one _ _) (by omega)
theorem prove_val {g h s n : Int} (hg : isGE g = true) (hh : isGE h = true) (s0 : 0 ≤ s) (s1 : s ≤ 100000) (n0 : 0 ≤ n) (n1 : n ≤ 100000) :
    proveI g h s n = (challengeI [g, h, powGroupI g s, powGroupI h s, powGroupI g n, powGroupI h n], (n - challengeI [g, h, powGroupI g s, powGroupI h s, powGroupI g n, powGroupI h n] * s) % 1019) := by
  unfold proveI
  rw [hg, hh]
  have c0 : 0 ≤ challengeI [g, h, powGroupI g s, powGroupI h s, powGroupI g n, powGroupI h n] := by unfold challengeI; omega
  have c1 : challengeI [g, h, powGroupI g s, powGroupI h s, powGroupI g n, powGroupI h n] < 1019 := by unfold challengeI; omega
  generalize challengeI [g, h, powGroupI g s, powGroupI h s, powGroupI g n, powGroupI h n] = c at *
  have p0 : 0 ≤ c * s := Int.mul_nonneg c0 s0
  have p1 : c * s ≤ 1018 * 100000 := Int.mul_le_mul (by omega) s1 s0 (by omega)
  have w1 : Go.RowKit.wrap64 (c * s) = c * s := by unfold Go.RowKit.wrap64; omega
  have w2 : Go.RowKit.wrap64 (n - c * s) = n - c * s := by unfold Go.RowKit.wrap64; omega
  rw [w1, w2, modI_1019]
  simp
theorem prove_ok {g h s n : Int} (hg : isGE g = true) (hh : isGE h = true) (s0 : 0 ≤ s) (s1 : s ≤ 100000) (n0 : 0 ≤ n) (n1 : n ≤ 100000) :
    verifyI g h (powGroupI g s) (powGroupI h s) (proveI g h s n).1 (proveI g h s n).2 = true := by
  rw [prove_val hg hh s0 s1 n0 n1]
  have c0 : 0 ≤ challengeI [g, h, powGroupI g s, powGroupI h s, powGroupI g n, powGroupI h n] := by unfold challengeI; omega
  have c1 : challengeI [g, h, powGroupI g s, powGroupI h s, powGroupI g n, powGroupI h n] < 1019 := by unfold challengeI; omega
  obtain ⟨c, hc⟩ : ∃ c, c = challengeI [g, h, powGroupI g s, powGroupI h s, powGroupI g n, powGroupI h n] := ⟨_, rfl⟩
  rw [← hc] at c0 c1 ⊢
  have key : ∀ {x : Int}, isGE x = true → mulGroupI (powGroupI x ((n - c * s) % 1019)) (powGroupI (powGroupI x s) c) = powGroupI x n := by
    intro x hx
    rw [pg_pg hx, pg_mul hx]
    apply pg_congr
    rw [Int.mul_comm s c]
    generalize c * s = t
    omega
  rw [verifyI_yes]
  · rw [key hg, key hh, ← hc]
    simp
  · rw [hg, hh, pg_ge hg, pg_ge hh]
    simp [inR]
    omega
theorem tok_back {s n b : Int} (b0 : 1 ≤ b) (b1 : b ≤ 1018) : powGroupI (powGroupI (powGroupI (hashToGroupI 101 n) b) s) (invI b) = powGroupI (hashToGroupI 101 n) s := by
  have hh := hg_ge 101 n
  rw [pg_pg hh, pg_pg hh]
  apply pg_congr
  have hi := invI_spec (n := b) (by omega)
  rw [Int.mul_right_comm, Int.mul_emod, hi]
  omega
/-- what signing and finishing give -/
theorem tok_sign {s n b : Int} (s0 : 1 ≤ s) (s1 : s ≤ 1018) (n0 : 0 ≤ n) (n1 : n < 5000) (b0 : 1 ≤ b) (b1 : b ≤ 1018) {m : Int} (m0 : 0 ≤ m) (m1 : m ≤ 100000) :
    ∃ c r : Int, signI s (powGroupI (hashToGroupI 101 n) b) m = ((powGroupI (powGroupI (hashToGroupI 101 n) b) s, c, r), true) ∧ finishI n b (powGroupI 4 s) (powGroupI (powGroupI (hashToGroupI 101 n) b) s) c r = ((n, powGroupI (hashToGroupI 101 n) s), true) := by
  have hx := pg_ge (hg_ge 101 n) b
  have hx1 := blind_ne (s := n) b0 b1
  have hv := blind_val n0 (show n ≤ 100000 by omega) b0 b1
  have hs0 : 0 ≤ s := by omega
  have hs2 : s ≤ 100000 := by omega
  generalize hX : powGroupI (hashToGroupI 101 n) b = x at *
  have hp := prove_ok isGE_four hx hs0 hs2 m0 m1
  refine ⟨_, _, signI_yes hx (by simpa using hx1) (mod1019 s0 s1), ?_⟩
  rw [finishI_yes (by rw [hv]) (by rw [hv]; exact hp), ← hX, tok_back b0 b1]
theorem tok_valid {s n : Int} (s0 : 1 ≤ s) (s1 : s ≤ 1018) (n0 : 0 ≤ n) (n1 : n < 5000) : validTokenI s n (powGroupI (hashToGroupI 101 n) s) = true := by
  unfold validTokenI
  rw [inR_yes n0 (by omega), mod1019 s0 s1]
  simp
theorem tok_bad {s n : Int} : validTokenI s n (mulGroupI (powGroupI (hashToGroupI 101 n) s) 4) = false := by
  have hv := pg_ge (hg_ge 101 n) s
  have hne : ¬ mulGroupI (powGroupI (hashToGroupI 101 n) s) 4 = powGroupI (hashToGroupI 101 n) s := by
    obtain ⟨k, k0, k1, hk⟩ := pg_four hv
    rw [← hk]
    intro e
    have h5 := pg_mul isGE_four k 1
    rw [pg_one isGE_four, e] at h5
    have := pg_inj isGE_four (by omega) h5
    omega
  unfold validTokenI
  rw [beq_eq_false_iff_ne.2 hne]
  simp
theorem tok_other {s o n : Int} (s0 : 1 ≤ s) (s1 : s ≤ 1018) (o0 : 1 ≤ o) (o1 : o ≤ 1018) (ho : ¬ o = s) : validTokenI o n (powGroupI (hashToGroupI 101 n) s) = false := by
  have hne : ¬ powGroupI (hashToGroupI 101 n) s = powGroupI (hashToGroupI 101 n) o := fun e => by
    have := pg_inj (hg_ge 101 n) (hg_ne_one 101 n) e
    omega
  unfold validTokenI
  rw [beq_eq_false_iff_ne.2 hne]
  simp
theorem pg_bd {g n : Int} (h : isGE g = true) : 0 ≤ powGroupI g n ∧ powGroupI g n ≤ 2038 := by
  obtain ⟨y, hy, h1, h2, _⟩ := isGE_nat (pg_ge h n)
  omega
end Go.Proofs.YtamhlmeopbpjpaaDoor
