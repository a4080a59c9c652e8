/- The walks of the small group's functions: each returns what the plain function says, and leaves the world as it was. -/
import Derived.Test.YtamhlmeopbpjpaaDoorProg
import Derived.Test.YtamhlmeopbpjpaaDoorHash
import Derived.WalkKit
import Derived.WalkSpells
import Derived.WalkLawsBesides
import Derived.Outline
import Derived.Lib.Hide
namespace Go.Proofs.YtamhlmeopbpjpaaDoor
open Go.RowKit

/-- what the squaring loop keeps, and one round -/
theorem pow_step {c G N O m : Int} (h1 : 0 ≤ G) (h3 : 0 ≤ N) (h5 : 0 ≤ O) (hm : 1 ≤ m) (h : (O.toNat * G.toNat ^ N.toNat) % m.toNat = c.toNat) :
    ((if N % 2 = 1 then O * G % m else O).toNat * (G * G % m).toNat ^ (N / 2).toNat) % m.toNat = c.toNat := by
  obtain ⟨G, rfl⟩ := Int.eq_ofNat_of_zero_le h1
  obtain ⟨N, rfl⟩ := Int.eq_ofNat_of_zero_le h3
  obtain ⟨O, rfl⟩ := Int.eq_ofNat_of_zero_le h5
  obtain ⟨m, rfl⟩ := Int.eq_ofNat_of_zero_le (show 0 ≤ m by omega)
  rw [← h]
  have := pow_round G N O m
  simp only [Int.toNat_natCast] at this ⊢
  rw [this]
  congr 2
  by_cases hN : N % 2 = 1
  · rw [if_pos hN, if_pos (by omega)]; rfl
  · rw [if_neg hN, if_neg (by omega)]; rfl

theorem powMod_any (g n m : Int) (w : World) (hg0 : 0 ≤ g) (hg : g < 2147483648) (hn0 : 0 ≤ n) (hn : n < 2147483648) (hm0 : 2 ≤ m) (hm : m < 2147483648) :
    Calls Tryd.prog 38 #[.int .i64 g, .int .i64 n, .int .i64 m] w fun e w' => e = .returned (.int .i64 (powI g n m)) ∧ w = w' := by
  go_enter Tryd.func38, Tryd.ntmps38
  go_wp2
  go_loop [0, 1, 7] (fun g' n' o' => ∃ G N O : Int, g' = .int .i64 G ∧ n' = .int .i64 N ∧ o' = .int .i64 O ∧ 0 ≤ G ∧ G < 2147483648 ∧ 0 ≤ N ∧ N < 2147483648 ∧ 0 ≤ O ∧ O < m ∧ Hid ((O.toNat * G.toNat ^ N.toNat) % m.toNat = (powI g n m).toNat)) (fun _ n' _ => (intOf n').toNat)
  case atStart => exact ⟨_, _, _, rfl, rfl, rfl, hg0, hg, hn0, hn, by omega, by omega, Lib.hid (pow_start g n m)⟩
  case round =>
    obtain ⟨G, N, O, rfl, rfl, rfl, h1, h2, h3, h4, h5, h6, H⟩ := hrel
    have hb := bits_and_one N h3 (by omega)
    have H2 := pow_step h1 h3 h5 (by omega) H.out
    have p1 : 0 ≤ G * G := Int.mul_nonneg h1 h1
    have p2 : G * G ≤ 2147483647 * 2147483647 := Int.mul_le_mul (by omega) (by omega) h1 (by omega)
    have p3 : 0 ≤ O * G := Int.mul_nonneg h5 h1
    have p4 : O * G ≤ 2147483647 * 2147483647 := Int.mul_le_mul (by omega) (by omega) h1 (by omega)
    have q1 := Int.emod_nonneg (G * G) (show m ≠ 0 by omega)
    have q2 := Int.emod_lt_of_pos (G * G) (show 0 < m by omega)
    have q3 := Int.emod_nonneg (O * G) (show m ≠ 0 by omega)
    have q4 := Int.emod_lt_of_pos (O * G) (show 0 < m by omega)
    by_cases hp : 0 < N
    · by_cases hodd : N % 2 = 1
      · have hodd' : (N % 2 == 1) = true := by simp [hodd]
        rw [if_pos hodd] at H2
        have HB := Lib.hid hodd; clear hodd
        go_wp2
        go_round
        case rel => exact ⟨_, _, _, rfl, rfl, rfl, q1, by omega, by omega, by omega, q3, q4, H2⟩
        case measure => simp [intOf]; omega
      · have hodd' : (N % 2 == 1) = false := by simp [hodd]
        rw [if_neg hodd] at H2
        clear hodd
        go_wp2
        go_round
        case rel => exact ⟨_, _, _, rfl, rfl, rfl, q1, by omega, by omega, by omega, h5, h6, H2⟩
        case measure => simp [intOf]; omega
    · have : N = 0 := by omega
      subst this
      have hO := H.out
      simp only [Int.toNat_zero, Nat.pow_zero, Nat.mul_one] at hO
      rw [Nat.mod_eq_of_lt (by omega)] at hO
      have hp := powI_nonneg g n m
      have HE := Lib.hid (show O = powI g n m by omega)
      clear hO
      go_wp2
      go_ret
      exact ⟨ret_int HE.out, rfl⟩
theorem l15Pow_any (g n : Int) (w : World) (hg0 : 0 ≤ g) (hg : g < 2147483648) (hn0 : 0 ≤ n) (hn : n < 2147483648) :
    Calls Tryd.prog 43 #[.int .i64 g, .int .i64 n] w fun e w' => e = .returned (.int .i64 (powI g n 2039)) ∧ w = w' := by
  go_enter Tryd.func43, Tryd.ntmps43
  go_wp2
  go_loop [0, 1, 5] (fun g' n' o' => ∃ G N O : Int, g' = .int .i64 G ∧ n' = .int .i64 N ∧ o' = .int .i64 O ∧ 0 ≤ G ∧ G < 2147483648 ∧ 0 ≤ N ∧ N < 2147483648 ∧ 0 ≤ O ∧ O < 2039 ∧ Hid ((O.toNat * G.toNat ^ N.toNat) % (2039 : Int).toNat = (powI g n 2039).toNat)) (fun _ n' _ => (intOf n').toNat)
  case atStart => exact ⟨_, _, _, rfl, rfl, rfl, hg0, hg, hn0, hn, by omega, by omega, Lib.hid (pow_start g n 2039)⟩
  case round =>
    obtain ⟨G, N, O, rfl, rfl, rfl, h1, h2, h3, h4, h5, h6, H⟩ := hrel
    have hb := bits_and_one N h3 (by omega)
    have H2 := pow_step (m := 2039) h1 h3 h5 (by omega) H.out
    have p1 : 0 ≤ G * G := Int.mul_nonneg h1 h1
    have p2 : G * G ≤ 2147483647 * 2147483647 := Int.mul_le_mul (by omega) (by omega) h1 (by omega)
    have p3 : 0 ≤ O * G := Int.mul_nonneg h5 h1
    have p4 : O * G ≤ 2147483647 * 2147483647 := Int.mul_le_mul (by omega) (by omega) h1 (by omega)
    by_cases hp : 0 < N
    · by_cases hodd : N % 2 = 1
      · have hodd' : (N % 2 == 1) = true := by simp [hodd]
        rw [if_pos hodd] at H2
        have HB := Lib.hid hodd; clear hodd
        go_wp2
        go_round
        case rel => exact ⟨_, _, _, rfl, rfl, rfl, by omega, by omega, by omega, by omega, by omega, by omega, H2⟩
        case measure => simp [intOf]; omega
      · have hodd' : (N % 2 == 1) = false := by simp [hodd]
        rw [if_neg hodd] at H2
        clear hodd
        go_wp2
        go_round
        case rel => exact ⟨_, _, _, rfl, rfl, rfl, by omega, by omega, by omega, by omega, h5, h6, H2⟩
        case measure => simp [intOf]; omega
    · have : N = 0 := by omega
      subst this
      have hO := H.out
      simp only [Int.toNat_zero, Nat.pow_zero, Nat.mul_one] at hO
      rw [Nat.mod_eq_of_lt (by omega)] at hO
      have hp := powI_nonneg g n 2039
      have HE := Lib.hid (show O = powI g n 2039 by omega)
      clear hO
      go_wp2
      go_ret
      exact ⟨ret_int HE.out, rfl⟩
theorem implPow2039 (g n : Int) (w : World) (hg0 : 0 ≤ g) (hg : g < 2147483648) (hn0 : 0 ≤ n) (hn : n < 2147483648) :
    Calls Tryd.prog 38 #[.int .i64 g, .int .i64 n, .int .i64 2039] w fun e w' => e = .returned (.int .i64 (powI g n 2039)) ∧ w = w' := powMod_any g n 2039 w hg0 hg hn0 hn (by omega) (by omega)
theorem specPow2039 (g n : Int) (w : World) (hg0 : 0 ≤ g) (hg : g < 2147483648) (hn0 : 0 ≤ n) (hn : n < 2147483648) :
    Calls Tryd.prog 43 #[.int .i64 g, .int .i64 n] w fun e w' => e = .returned (.int .i64 (powI g n 2039)) ∧ w = w' := l15Pow_any g n w hg0 hg hn0 hn
theorem implIsGroupElement (x : Int) (w : World) :
    Calls Tryd.prog 27 #[.int .i64 x] w fun e w' => e = .returned (.bool (isGE x)) ∧ w = w' := by
  by_cases h1 : 1 ≤ x
  · by_cases h2 : x ≤ 2038
    · have H := Lib.hid (isGE_in h1 h2)
      go_enter Tryd.func27, Tryd.ntmps27
      go_wp2_with (first | (go_at_call 38; (refine (implPow2039 _ _ _ (by omega) (by omega) (by omega) (by omega)).mono ?_); rintro e w' ⟨rfl, rfl⟩) | go_in)
      go_ret
      exact ⟨ret_bool H.out.symm, rfl⟩
    · have H := Lib.hid (isGE_out (x := x) (by omega))
      go_enter Tryd.func27, Tryd.ntmps27
      go_wp2
      go_ret
      exact ⟨ret_bool H.out.symm, rfl⟩
  · have H := Lib.hid (isGE_out (x := x) (by omega))
    go_enter Tryd.func27, Tryd.ntmps27
    go_wp2
    go_ret
    exact ⟨ret_bool H.out.symm, rfl⟩
theorem implPowGroup (g n : Int) (w : World) :
    Calls Tryd.prog 25 #[.int .i64 g, .int .i64 n] w fun e w' => e = .returned (.int .i64 (powGroupI g n)) ∧ w = w' := by
  obtain ⟨m1, m2⟩ := modI_1019_bd n
  cases hg : isGE g with
  | true =>
    obtain ⟨g1, g2⟩ := isGE_bd hg
    have H := Lib.hid (powGroupI_yes n hg)
    go_enter Tryd.func25, Tryd.ntmps25
    go_wp2_with (first | (go_at_call 27; (refine (implIsGroupElement _ _).mono ?_); rintro e w' ⟨rfl, rfl⟩) | (go_at_call 24; (refine (implMod _ _ _).mono ?_); rintro e w' ⟨rfl, rfl⟩) | (go_at_call 38; (refine (implPow2039 _ _ _ (by omega) (by omega) (by omega) (by omega)).mono ?_); rintro e w' ⟨rfl, rfl⟩) | go_in)
    go_ret
    exact ⟨ret_int H.out.symm, rfl⟩
  | false =>
    have H := Lib.hid (powGroupI_no n hg)
    go_enter Tryd.func25, Tryd.ntmps25
    go_wp2_with (first | (go_at_call 27; (refine (implIsGroupElement _ _).mono ?_); rintro e w' ⟨rfl, rfl⟩) | go_in)
    go_ret
    exact ⟨ret_int H.out.symm, rfl⟩
theorem implMulGroup (a b : Int) (w : World) :
    Calls Tryd.prog 41 #[.int .i64 a, .int .i64 b] w fun e w' => e = .returned (.int .i64 (mulGroupI a b)) ∧ w = w' := by
  cases ha : isGE a with
  | true =>
    cases hb : isGE b with
    | true =>
      obtain ⟨a1, a2⟩ := isGE_bd ha
      obtain ⟨b1, b2⟩ := isGE_bd hb
      have p1 : 0 ≤ a * b := Int.mul_nonneg (by omega) (by omega)
      have p2 : a * b ≤ 2038 * 2038 := Int.mul_le_mul (by omega) (by omega) (by omega) (by omega)
      have H := Lib.hid (show mulGroupI a b = a * b % 2039 by unfold mulGroupI; simp [ha, hb])
      go_enter Tryd.func41, Tryd.ntmps41
      go_wp2_with (first | (go_at_call 27; (refine (implIsGroupElement _ _).mono ?_); rintro e w' ⟨rfl, rfl⟩) | go_in)
      go_ret
      exact ⟨ret_int H.out.symm, rfl⟩
    | false =>
      have H := Lib.hid (show mulGroupI a b = 0 by unfold mulGroupI; simp [hb])
      go_enter Tryd.func41, Tryd.ntmps41
      go_wp2_with (first | (go_at_call 27; (refine (implIsGroupElement _ _).mono ?_); rintro e w' ⟨rfl, rfl⟩) | go_in)
      go_ret
      exact ⟨ret_int H.out.symm, rfl⟩
  | false =>
    have H := Lib.hid (show mulGroupI a b = 0 by unfold mulGroupI; simp [ha])
    go_enter Tryd.func41, Tryd.ntmps41
    go_wp2_with (first | (go_at_call 27; (refine (implIsGroupElement _ _).mono ?_); rintro e w' ⟨rfl, rfl⟩) | go_in)
    go_ret
    exact ⟨ret_int H.out.symm, rfl⟩
theorem implIssuerKey (s : Int) (w : World) :
    Calls Tryd.prog 14 #[.int .i64 s] w fun e w' => e = .returned (.int .i64 (powGroupI 4 s)) ∧ w = w' := by
  go_enter Tryd.func14, Tryd.ntmps14
  go_wp2_with (go_at_call 25; (refine (implPowGroup _ _ _).mono ?_); rintro e w' ⟨rfl, rfl⟩)
  go_ret
  exact ⟨rfl, rfl⟩
theorem specIsGroupElement (x : Int) (w : World) :
    Calls Tryd.prog 31 #[.int .i64 x] w fun e w' => e = .returned (.bool (isGE x)) ∧ w = w' := by
  by_cases h1 : 1 ≤ x
  · by_cases h2 : x ≤ 2038
    · have H := Lib.hid (isGE_in h1 h2)
      go_enter Tryd.func31, Tryd.ntmps31
      go_wp2_with (first | (go_at_call 43; (refine (specPow2039 _ _ _ (by omega) (by omega) (by omega) (by omega)).mono ?_); rintro e w' ⟨rfl, rfl⟩) | go_in)
      go_ret
      exact ⟨ret_bool H.out.symm, rfl⟩
    · have H := Lib.hid (isGE_out (x := x) (by omega))
      go_enter Tryd.func31, Tryd.ntmps31
      go_wp2
      go_ret
      exact ⟨ret_bool H.out.symm, rfl⟩
  · have H := Lib.hid (isGE_out (x := x) (by omega))
    go_enter Tryd.func31, Tryd.ntmps31
    go_wp2
    go_ret
    exact ⟨ret_bool H.out.symm, rfl⟩
theorem specPowGroup (g n : Int) (w : World) :
    Calls Tryd.prog 34 #[.int .i64 g, .int .i64 n] w fun e w' => e = .returned (.int .i64 (powGroupI g n)) ∧ w = w' := by
  obtain ⟨m1, m2⟩ := modI_1019_bd n
  cases hg : isGE g with
  | true =>
    obtain ⟨g1, g2⟩ := isGE_bd hg
    have H := Lib.hid (powGroupI_yes n hg)
    go_enter Tryd.func34, Tryd.ntmps34
    go_wp2_with (first | (go_at_call 31; (refine (specIsGroupElement _ _).mono ?_); rintro e w' ⟨rfl, rfl⟩) | (go_at_call 44; (refine (specMod _ _ _).mono ?_); rintro e w' ⟨rfl, rfl⟩) | (go_at_call 43; (refine (specPow2039 _ _ _ (by omega) (by omega) (by omega) (by omega)).mono ?_); rintro e w' ⟨rfl, rfl⟩) | go_in)
    go_ret
    exact ⟨ret_int H.out.symm, rfl⟩
  | false =>
    have H := Lib.hid (powGroupI_no n hg)
    go_enter Tryd.func34, Tryd.ntmps34
    go_wp2_with (first | (go_at_call 31; (refine (specIsGroupElement _ _).mono ?_); rintro e w' ⟨rfl, rfl⟩) | go_in)
    go_ret
    exact ⟨ret_int H.out.symm, rfl⟩
theorem specMulGroup (a b : Int) (w : World) :
    Calls Tryd.prog 16 #[.int .i64 a, .int .i64 b] w fun e w' => e = .returned (.int .i64 (mulGroupI a b)) ∧ w = w' := by
  cases ha : isGE a with
  | true =>
    cases hb : isGE b with
    | true =>
      obtain ⟨a1, a2⟩ := isGE_bd ha
      obtain ⟨b1, b2⟩ := isGE_bd hb
      have p1 : 0 ≤ a * b := Int.mul_nonneg (by omega) (by omega)
      have p2 : a * b ≤ 2038 * 2038 := Int.mul_le_mul (by omega) (by omega) (by omega) (by omega)
      have H := Lib.hid (show mulGroupI a b = a * b % 2039 by unfold mulGroupI; simp [ha, hb])
      go_enter Tryd.func16, Tryd.ntmps16
      go_wp2_with (first | (go_at_call 31; (refine (specIsGroupElement _ _).mono ?_); rintro e w' ⟨rfl, rfl⟩) | go_in)
      go_ret
      exact ⟨ret_int H.out.symm, rfl⟩
    | false =>
      have H := Lib.hid (show mulGroupI a b = 0 by unfold mulGroupI; simp [hb])
      go_enter Tryd.func16, Tryd.ntmps16
      go_wp2_with (first | (go_at_call 31; (refine (specIsGroupElement _ _).mono ?_); rintro e w' ⟨rfl, rfl⟩) | go_in)
      go_ret
      exact ⟨ret_int H.out.symm, rfl⟩
  | false =>
    have H := Lib.hid (show mulGroupI a b = 0 by unfold mulGroupI; simp [ha])
    go_enter Tryd.func16, Tryd.ntmps16
    go_wp2_with (first | (go_at_call 31; (refine (specIsGroupElement _ _).mono ?_); rintro e w' ⟨rfl, rfl⟩) | go_in)
    go_ret
    exact ⟨ret_int H.out.symm, rfl⟩
theorem specIssuerKey (s : Int) (w : World) :
    Calls Tryd.prog 18 #[.int .i64 s] w fun e w' => e = .returned (.int .i64 (powGroupI 4 s)) ∧ w = w' := by
  go_enter Tryd.func18, Tryd.ntmps18
  go_wp2_with (go_at_call 34; (refine (specPowGroup _ _ _).mono ?_); rintro e w' ⟨rfl, rfl⟩)
  go_ret
  exact ⟨rfl, rfl⟩
theorem implInverseExponent (n : Int) (w : World) :
    Calls Tryd.prog 30 #[.int .i64 n] w fun e w' => e = .returned (.int .i64 (invI n)) ∧ w = w' := by
  obtain ⟨m1, m2⟩ := modI_1019_bd n
  go_enter Tryd.func30, Tryd.ntmps30
  go_wp2_with (first | (go_at_call 24; (refine (implMod _ _ _).mono ?_); rintro e w' ⟨rfl, rfl⟩) | (go_at_call 38; (refine (powMod_any _ _ _ _ (by omega) (by omega) (by omega) (by omega) (by omega) (by omega)).mono ?_); rintro e w' ⟨rfl, rfl⟩) | go_in)
  go_ret
  exact ⟨rfl, rfl⟩
theorem specInverseExponent (n : Int) (w : World) :
    Calls Tryd.prog 35 #[.int .i64 n] w fun e w' => e = .returned (.int .i64 (invI n)) ∧ w = w' := by
  obtain ⟨m1, m2⟩ := modI_1019_bd n
  have HI := Lib.hid (show invI n = powI (modI n 1019) 1017 1019 from rfl)
  go_enter Tryd.func35, Tryd.ntmps35
  go_wp2_with (first | (go_at_call 44; (refine (specMod _ _ _).mono ?_); rintro e w' ⟨rfl, rfl⟩) | go_in)
  generalize modI n 1019 = x at m1 m2 HI ⊢
  go_loop [4] (fun i => ∃ k : Int, i = .int .i64 k ∧ 1 ≤ k ∧ k ≤ 1019 ∧ Hid (∀ j : Int, 1 ≤ j → j < k → ¬ x * j % 1019 = 1)) (fun i => (1019 - intOf i).toNat)
  case atStart => exact ⟨1, rfl, by omega, by omega, Lib.hid (fun j _ _ => by omega)⟩
  case round =>
    obtain ⟨k, rfl, k1, k2, HK⟩ := hrel
    by_cases hlt : k < 1019
    · have p1 : 0 ≤ x * k := Int.mul_nonneg m1 (by omega)
      have p2 : x * k ≤ 1018 * 1018 := Int.mul_le_mul (by omega) (by omega) (by omega) (by omega)
      by_cases h1 : x * k % 1019 = 1
      · have HF := Lib.hid (inv_unique m1 m2 k1 hlt h1)
        have hb : (x * k % 1019 == 1) = true := by simp [h1]
        clear h1
        go_wp2
        go_ret
        exact ⟨ret_int (by rw [HI.out, HF.out]), rfl⟩
      · have hb : (x * k % 1019 == 1) = false := by simp [h1]
        have HK' : Hid (∀ j : Int, 1 ≤ j → j < k + 1 → ¬ x * j % 1019 = 1) := Lib.hid (fun j a b => by
          rcases Int.lt_or_eq_of_le (show j ≤ k by omega) with h | h
          · exact HK.out j a h
          · subst h; exact h1)
        clear h1
        go_wp2
        go_round
        case rel => exact ⟨k + 1, rfl, by omega, by omega, HK'⟩
        case measure => simp [intOf]; omega
    · have HF : Hid (powI x 1017 1019 = 0) := by
        refine Lib.hid ?_
        by_cases h0 : x = 0
        · subst h0; exact powI_zero_base
        · have hi := inv_ok (x := x) (by omega) m2
          have b0 := powI_nonneg x 1017 1019
          have b1 := powI_lt x 1017 1019 (by omega)
          by_cases hz : powI x 1017 1019 = 0
          · exact hz
          · exact absurd hi (HK.out _ (by omega) (by omega))
      go_wp2
      go_ret
      exact ⟨ret_int (by rw [HI.out, HF.out]), rfl⟩
theorem dlogI_yes {g x : Int} (hg : isGE g = true) (hx : isGE x = true) (h1 : (g == 1) = false) : dlogI g x = dsearch g x 1019 1 0 := by unfold dlogI; simp [hg, hx, h1]
theorem dlogI_no {g x : Int} (h : isGE g = false ∨ isGE x = false ∨ (g == 1) = true) : dlogI g x = -1 := by
  unfold dlogI
  rcases h with h | h | h <;> simp [h]
theorem dsearch_yes {g x y n : Int} {f : Nat} (hf : 0 < f) (h : x = y) : dsearch g x f y n = n := by
  cases f with
  | zero => omega
  | succ f => unfold dsearch; rw [if_pos h]
theorem dsearch_no {g x y n : Int} {f : Nat} (hf : 0 < f) (h : ¬ x = y) : dsearch g x f y n = dsearch g x (f - 1) (y * g % 2039) (n + 1) := by
  cases f with
  | zero => omega
  | succ f => rw [dsearch, if_neg h]; rfl
def hashToGroupI (label value : Int) : Int := powGroupI 4 (1 + childI (keyedI label [89, value]) 0 % 1018)
theorem implHashToGroup (label value : Int) (w : World) :
    Calls Tryd.prog 26 #[.int .i64 label, .int .i64 value] w fun e w' => e = .returned (.int .i64 (hashToGroupI label value)) ∧ Below w.heap.size w w' := by
  obtain ⟨c1, c2⟩ := childI_bd (keyedI label [89, value]) 0
  go_enter Tryd.func26, Tryd.ntmps26
  go_wp2_with (first | (go_at_call 40; (refine (implKeyedLit label [89, value] w _ _ _ (by simp) rfl rfl rfl).mono ?_); rintro e w1 ⟨rfl, hb1⟩) | (go_at_call 39; (refine (implChildSeed _ _ _).mono ?_); rintro e w2 ⟨rfl, hb2⟩) | (go_at_call 25; (refine (implPowGroup _ _ _).mono ?_); rintro e w3 ⟨rfl, rfl⟩))
  go_ret
  exact ⟨rfl, bel_seq hb1 hb2⟩
theorem specHashToGroup (label value : Int) (w : World) :
    Calls Tryd.prog 45 #[.int .i64 label, .int .i64 value] w fun e w' => e = .returned (.int .i64 (hashToGroupI label value)) ∧ Below w.heap.size w w' := by
  obtain ⟨c1, c2⟩ := childI_bd (keyedI label [89, value]) 0
  go_enter Tryd.func45, Tryd.ntmps45
  go_wp2_with (first | (go_at_call 51; (refine (specKeyedLit label [89, value] w _ _ _ (by simp) rfl rfl rfl).mono ?_); rintro e w1 ⟨rfl, hb1⟩) | (go_at_call 50; (refine (specChildSeed _ _ _).mono ?_); rintro e w2 ⟨rfl, hb2⟩) | (go_at_call 34; (refine (specPowGroup _ _ _).mono ?_); rintro e w3 ⟨rfl, rfl⟩))
  go_ret
  exact ⟨rfl, bel_seq hb1 hb2⟩
end Go.Proofs.YtamhlmeopbpjpaaDoor
