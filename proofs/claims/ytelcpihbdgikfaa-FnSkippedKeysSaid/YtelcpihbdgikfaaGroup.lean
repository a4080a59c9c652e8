/- The walks of the small group's functions: each returns what the plain function says, and leaves the world as it was. -/
import Derived.Test.YtelcpihbdgikfaaProg
import Derived.Test.YtelcpihbdgikfaaHash
import Derived.WalkKit
import Derived.WalkSpells
import Derived.WalkLawsBesides
import Derived.Outline
import Derived.Lib.Hide
namespace Go.Proofs.Ytelcpihbdgikfaa
open Go.RowKit

/-- what the squaring loop keeps, and one round -/
theorem pow_step {c G N O m : Int} (h1 : 0 ≤ G) (h3 : 0 ≤ N) (h5 : 0 ≤ O) (hm : 1 ≤ m) (h : (O.toNat * G.toNat ^ N.toNat) % m.toNat = c.toNat) :
    ((if N % 2 = 1 then O * G % m else O).toNat * (G * G % m).toNat ^ (N / 2).toNat) % m.toNat = c.toNat := by
  obtain ⟨G, rfl⟩ := Int.eq_ofNat_of_zero_le h1
  obtain ⟨N, rfl⟩ := Int.eq_ofNat_of_zero_le h3
  obtain ⟨O, rfl⟩ := Int.eq_ofNat_of_zero_le h5
  obtain ⟨m, rfl⟩ := Int.eq_ofNat_of_zero_le (show 0 ≤ m by omega)
  rw [← h]
  have := pow_round G N O m
  simp only [Int.toNat_natCast] at this ⊢
  rw [this]
  congr 2
  by_cases hN : N % 2 = 1
  · rw [if_pos hN, if_pos (by omega)]; rfl
  · rw [if_neg hN, if_neg (by omega)]; rfl

theorem powMod_any (g n m : Int) (w : World) (hg0 : 0 ≤ g) (hg : g < 2147483648) (hn0 : 0 ≤ n) (hn : n < 2147483648) (hm0 : 2 ≤ m) (hm : m < 2147483648) :
    Calls Try.prog 133 #[.int .i64 g, .int .i64 n, .int .i64 m] w fun e w' => e = .returned (.int .i64 (powI g n m)) ∧ w = w' := by
  go_enter Try.func133, Try.ntmps133
  go_wp2
  go_loop [0, 1, 7] (fun g' n' o' => ∃ G N O : Int, g' = .int .i64 G ∧ n' = .int .i64 N ∧ o' = .int .i64 O ∧ 0 ≤ G ∧ G < 2147483648 ∧ 0 ≤ N ∧ N < 2147483648 ∧ 0 ≤ O ∧ O < m ∧ Hid ((O.toNat * G.toNat ^ N.toNat) % m.toNat = (powI g n m).toNat)) (fun _ n' _ => (intOf n').toNat)
  case atStart => exact ⟨_, _, _, rfl, rfl, rfl, hg0, hg, hn0, hn, by omega, by omega, Lib.hid (pow_start g n m)⟩
  case round =>
    obtain ⟨G, N, O, rfl, rfl, rfl, h1, h2, h3, h4, h5, h6, H⟩ := hrel
    have hb := bits_and_one N h3 (by omega)
    have H2 := pow_step h1 h3 h5 (by omega) H.out
    have p1 : 0 ≤ G * G := Int.mul_nonneg h1 h1
    have p2 : G * G ≤ 2147483647 * 2147483647 := Int.mul_le_mul (by omega) (by omega) h1 (by omega)
    have p3 : 0 ≤ O * G := Int.mul_nonneg h5 h1
    have p4 : O * G ≤ 2147483647 * 2147483647 := Int.mul_le_mul (by omega) (by omega) h1 (by omega)
    have q1 := Int.emod_nonneg (G * G) (show m ≠ 0 by omega)
    have q2 := Int.emod_lt_of_pos (G * G) (show 0 < m by omega)
    have q3 := Int.emod_nonneg (O * G) (show m ≠ 0 by omega)
    have q4 := Int.emod_lt_of_pos (O * G) (show 0 < m by omega)
    by_cases hp : 0 < N
    · by_cases hodd : N % 2 = 1
      · have hodd' : (N % 2 == 1) = true := by simp [hodd]
        rw [if_pos hodd] at H2
        have HB := Lib.hid hodd; clear hodd
        go_wp2
        go_round
        case rel => exact ⟨_, _, _, rfl, rfl, rfl, q1, by omega, by omega, by omega, q3, q4, H2⟩
        case measure => simp [intOf]; omega
      · have hodd' : (N % 2 == 1) = false := by simp [hodd]
        rw [if_neg hodd] at H2
        clear hodd
        go_wp2
        go_round
        case rel => exact ⟨_, _, _, rfl, rfl, rfl, q1, by omega, by omega, by omega, h5, h6, H2⟩
        case measure => simp [intOf]; omega
    · have : N = 0 := by omega
      subst this
      have hO := H.out
      simp only [Int.toNat_zero, Nat.pow_zero, Nat.mul_one] at hO
      rw [Nat.mod_eq_of_lt (by omega)] at hO
      have hp := powI_nonneg g n m
      have HE := Lib.hid (show O = powI g n m by omega)
      clear hO
      go_wp2
      go_ret
      exact ⟨ret_int HE.out, rfl⟩
theorem l15Pow_any (g n : Int) (w : World) (hg0 : 0 ≤ g) (hg : g < 2147483648) (hn0 : 0 ≤ n) (hn : n < 2147483648) :
    Calls Try.prog 141 #[.int .i64 g, .int .i64 n] w fun e w' => e = .returned (.int .i64 (powI g n 2039)) ∧ w = w' := by
  go_enter Try.func141, Try.ntmps141
  go_wp2
  go_loop [0, 1, 5] (fun g' n' o' => ∃ G N O : Int, g' = .int .i64 G ∧ n' = .int .i64 N ∧ o' = .int .i64 O ∧ 0 ≤ G ∧ G < 2147483648 ∧ 0 ≤ N ∧ N < 2147483648 ∧ 0 ≤ O ∧ O < 2039 ∧ Hid ((O.toNat * G.toNat ^ N.toNat) % (2039 : Int).toNat = (powI g n 2039).toNat)) (fun _ n' _ => (intOf n').toNat)
  case atStart => exact ⟨_, _, _, rfl, rfl, rfl, hg0, hg, hn0, hn, by omega, by omega, Lib.hid (pow_start g n 2039)⟩
  case round =>
    obtain ⟨G, N, O, rfl, rfl, rfl, h1, h2, h3, h4, h5, h6, H⟩ := hrel
    have hb := bits_and_one N h3 (by omega)
    have H2 := pow_step (m := 2039) h1 h3 h5 (by omega) H.out
    have p1 : 0 ≤ G * G := Int.mul_nonneg h1 h1
    have p2 : G * G ≤ 2147483647 * 2147483647 := Int.mul_le_mul (by omega) (by omega) h1 (by omega)
    have p3 : 0 ≤ O * G := Int.mul_nonneg h5 h1
    have p4 : O * G ≤ 2147483647 * 2147483647 := Int.mul_le_mul (by omega) (by omega) h1 (by omega)
    by_cases hp : 0 < N
    · by_cases hodd : N % 2 = 1
      · have hodd' : (N % 2 == 1) = true := by simp [hodd]
        rw [if_pos hodd] at H2
        have HB := Lib.hid hodd; clear hodd
        go_wp2
        go_round
        case rel => exact ⟨_, _, _, rfl, rfl, rfl, by omega, by omega, by omega, by omega, by omega, by omega, H2⟩
        case measure => simp [intOf]; omega
      · have hodd' : (N % 2 == 1) = false := by simp [hodd]
        rw [if_neg hodd] at H2
        clear hodd
        go_wp2
        go_round
        case rel => exact ⟨_, _, _, rfl, rfl, rfl, by omega, by omega, by omega, by omega, h5, h6, H2⟩
        case measure => simp [intOf]; omega
    · have : N = 0 := by omega
      subst this
      have hO := H.out
      simp only [Int.toNat_zero, Nat.pow_zero, Nat.mul_one] at hO
      rw [Nat.mod_eq_of_lt (by omega)] at hO
      have hp := powI_nonneg g n 2039
      have HE := Lib.hid (show O = powI g n 2039 by omega)
      clear hO
      go_wp2
      go_ret
      exact ⟨ret_int HE.out, rfl⟩
theorem implPow2039 (g n : Int) (w : World) (hg0 : 0 ≤ g) (hg : g < 2147483648) (hn0 : 0 ≤ n) (hn : n < 2147483648) :
    Calls Try.prog 133 #[.int .i64 g, .int .i64 n, .int .i64 2039] w fun e w' => e = .returned (.int .i64 (powI g n 2039)) ∧ w = w' := powMod_any g n 2039 w hg0 hg hn0 hn (by omega) (by omega)
theorem specPow2039 (g n : Int) (w : World) (hg0 : 0 ≤ g) (hg : g < 2147483648) (hn0 : 0 ≤ n) (hn : n < 2147483648) :
    Calls Try.prog 141 #[.int .i64 g, .int .i64 n] w fun e w' => e = .returned (.int .i64 (powI g n 2039)) ∧ w = w' := l15Pow_any g n w hg0 hg hn0 hn
theorem implIsGroupElement (x : Int) (w : World) :
    Calls Try.prog 102 #[.int .i64 x] w fun e w' => e = .returned (.bool (isGE x)) ∧ w = w' := by
  by_cases h1 : 1 ≤ x
  · by_cases h2 : x ≤ 2038
    · have H := Lib.hid (isGE_in h1 h2)
      go_enter Try.func102, Try.ntmps102
      go_wp2_with (first | (go_at_call 133; (refine (implPow2039 _ _ _ (by omega) (by omega) (by omega) (by omega)).mono ?_); rintro e w' ⟨rfl, rfl⟩) | go_in)
      go_ret
      exact ⟨ret_bool H.out.symm, rfl⟩
    · have H := Lib.hid (isGE_out (x := x) (by omega))
      go_enter Try.func102, Try.ntmps102
      go_wp2
      go_ret
      exact ⟨ret_bool H.out.symm, rfl⟩
  · have H := Lib.hid (isGE_out (x := x) (by omega))
    go_enter Try.func102, Try.ntmps102
    go_wp2
    go_ret
    exact ⟨ret_bool H.out.symm, rfl⟩
theorem implPowGroup (g n : Int) (w : World) :
    Calls Try.prog 104 #[.int .i64 g, .int .i64 n] w fun e w' => e = .returned (.int .i64 (powGroupI g n)) ∧ w = w' := by
  obtain ⟨m1, m2⟩ := modI_1019_bd n
  cases hg : isGE g with
  | true =>
    obtain ⟨g1, g2⟩ := isGE_bd hg
    have H := Lib.hid (powGroupI_yes n hg)
    go_enter Try.func104, Try.ntmps104
    go_wp2_with (first | (go_at_call 102; (refine (implIsGroupElement _ _).mono ?_); rintro e w' ⟨rfl, rfl⟩) | (go_at_call 103; (refine (implMod _ _ _).mono ?_); rintro e w' ⟨rfl, rfl⟩) | (go_at_call 133; (refine (implPow2039 _ _ _ (by omega) (by omega) (by omega) (by omega)).mono ?_); rintro e w' ⟨rfl, rfl⟩) | go_in)
    go_ret
    exact ⟨ret_int H.out.symm, rfl⟩
  | false =>
    have H := Lib.hid (powGroupI_no n hg)
    go_enter Try.func104, Try.ntmps104
    go_wp2_with (first | (go_at_call 102; (refine (implIsGroupElement _ _).mono ?_); rintro e w' ⟨rfl, rfl⟩) | go_in)
    go_ret
    exact ⟨ret_int H.out.symm, rfl⟩
theorem specIsGroupElement (x : Int) (w : World) :
    Calls Try.prog 126 #[.int .i64 x] w fun e w' => e = .returned (.bool (isGE x)) ∧ w = w' := by
  by_cases h1 : 1 ≤ x
  · by_cases h2 : x ≤ 2038
    · have H := Lib.hid (isGE_in h1 h2)
      go_enter Try.func126, Try.ntmps126
      go_wp2_with (first | (go_at_call 141; (refine (specPow2039 _ _ _ (by omega) (by omega) (by omega) (by omega)).mono ?_); rintro e w' ⟨rfl, rfl⟩) | go_in)
      go_ret
      exact ⟨ret_bool H.out.symm, rfl⟩
    · have H := Lib.hid (isGE_out (x := x) (by omega))
      go_enter Try.func126, Try.ntmps126
      go_wp2
      go_ret
      exact ⟨ret_bool H.out.symm, rfl⟩
  · have H := Lib.hid (isGE_out (x := x) (by omega))
    go_enter Try.func126, Try.ntmps126
    go_wp2
    go_ret
    exact ⟨ret_bool H.out.symm, rfl⟩
theorem specPowGroup (g n : Int) (w : World) :
    Calls Try.prog 128 #[.int .i64 g, .int .i64 n] w fun e w' => e = .returned (.int .i64 (powGroupI g n)) ∧ w = w' := by
  obtain ⟨m1, m2⟩ := modI_1019_bd n
  cases hg : isGE g with
  | true =>
    obtain ⟨g1, g2⟩ := isGE_bd hg
    have H := Lib.hid (powGroupI_yes n hg)
    go_enter Try.func128, Try.ntmps128
    go_wp2_with (first | (go_at_call 126; (refine (specIsGroupElement _ _).mono ?_); rintro e w' ⟨rfl, rfl⟩) | (go_at_call 127; (refine (specMod _ _ _).mono ?_); rintro e w' ⟨rfl, rfl⟩) | (go_at_call 141; (refine (specPow2039 _ _ _ (by omega) (by omega) (by omega) (by omega)).mono ?_); rintro e w' ⟨rfl, rfl⟩) | go_in)
    go_ret
    exact ⟨ret_int H.out.symm, rfl⟩
  | false =>
    have H := Lib.hid (powGroupI_no n hg)
    go_enter Try.func128, Try.ntmps128
    go_wp2_with (first | (go_at_call 126; (refine (specIsGroupElement _ _).mono ?_); rintro e w' ⟨rfl, rfl⟩) | go_in)
    go_ret
    exact ⟨ret_int H.out.symm, rfl⟩
theorem dlogI_yes {g x : Int} (hg : isGE g = true) (hx : isGE x = true) (h1 : (g == 1) = false) : dlogI g x = dsearch g x 1019 1 0 := by unfold dlogI; simp [hg, hx, h1]
theorem dlogI_no {g x : Int} (h : isGE g = false ∨ isGE x = false ∨ (g == 1) = true) : dlogI g x = -1 := by
  unfold dlogI
  rcases h with h | h | h <;> simp [h]
theorem dsearch_yes {g x y n : Int} {f : Nat} (hf : 0 < f) (h : x = y) : dsearch g x f y n = n := by
  cases f with
  | zero => omega
  | succ f => unfold dsearch; rw [if_pos h]
theorem dsearch_no {g x y n : Int} {f : Nat} (hf : 0 < f) (h : ¬ x = y) : dsearch g x f y n = dsearch g x (f - 1) (y * g % 2039) (n + 1) := by
  cases f with
  | zero => omega
  | succ f => rw [dsearch, if_neg h]; rfl
def hashToGroupI (label value : Int) : Int := powGroupI 4 (1 + childI (keyedI label [89, value]) 0 % 1018)
end Go.Proofs.Ytelcpihbdgikfaa
