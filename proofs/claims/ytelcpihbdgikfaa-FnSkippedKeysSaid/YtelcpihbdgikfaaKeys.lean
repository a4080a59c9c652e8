/- The walks of the functions over keys: each returns what the plain function says; memory that existed is as it was. -/
import Derived.Test.YtelcpihbdgikfaaProg
import Derived.Test.YtelcpihbdgikfaaGroup
import Derived.WalkKit
import Derived.WalkSpells
import Derived.WalkLawsBesides
import Derived.Outline
import Derived.Lib.Hide
namespace Go.Proofs.Ytelcpihbdgikfaa
open Go.RowKit

theorem orOneI_pos (n : Int) (h : ¬ n = 0) : orOneI n = n := by unfold orOneI; rw [if_neg h]
theorem orOneI_zero : orOneI 0 = 1 := rfl
theorem orOneI_bd {n : Int} (h0 : 0 ≤ n) (h1 : n < 2147483647) : 1 ≤ orOneI n ∧ orOneI n < 2147483647 := by unfold orOneI; split <;> omega
theorem implOrOne (n : Int) (w : World) : Calls Try.prog 98 #[.int .i64 n] w fun e w' => e = .returned (.int .i64 (orOneI n)) ∧ w = w' := by
  by_cases h : n = 0
  · subst h
    go_enter Try.func98, Try.ntmps98
    go_wp2
    go_ret
    exact ⟨rfl, rfl⟩
  · have hb : (n == 0) = false := by simp [h]
    have H := Lib.hid (orOneI_pos n h)
    clear h
    go_enter Try.func98, Try.ntmps98
    go_wp2
    go_ret
    exact ⟨ret_int H.out.symm, rfl⟩
theorem implOrOneX (n : Int) (w : World) (_hn : 0 ≤ n) : Calls Try.prog 98 #[.int .i64 n] w fun e w' => e = .returned (.int .i64 (orOneI n)) ∧ w = w' := implOrOne n w
theorem specMax (a b : Int) (w : World) : Calls Try.prog 109 #[.int .i64 a, .int .i64 b] w fun e w' => e = .returned (.int .i64 (max a b)) ∧ w = w' := by
  by_cases h : a < b
  · have H := Lib.hid (show max a b = b by omega)
    go_enter Try.func109, Try.ntmps109
    go_wp2
    go_ret
    exact ⟨ret_int H.out.symm, rfl⟩
  · have H := Lib.hid (show max a b = a by omega)
    go_enter Try.func109, Try.ntmps109
    go_wp2
    go_ret
    exact ⟨ret_int H.out.symm, rfl⟩
theorem specOrOne (n : Int) (w : World) (hn : 0 ≤ n) : Calls Try.prog 109 #[.int .i64 1, .int .i64 n] w fun e w' => e = .returned (.int .i64 (orOneI n)) ∧ w = w' := by
  have : max 1 n = orOneI n := by unfold orOneI; split <;> omega
  rw [← this]
  exact specMax 1 n w
theorem specOrOneX (n : Int) (w : World) (hn : 0 ≤ n) : Calls Try.prog 109 #[.int .i64 1, .int .i64 n] w fun e w' => e = .returned (.int .i64 (orOneI n)) ∧ w = w' := specOrOne n w hn
def directionKeyI (key d : Int) : Int := orOneI (keyedI key [83, d])
def freshSecretI (x : Int) : Int := orOneI (keyedI x [139])
def messageKeyI (x : Int) : Int := orOneI (keyedI x [127])
def nextChainI (x : Int) : Int := orOneI (keyedI x [131])
def nextSecretI (x y : Int) : Int := orOneI (keyedI x [137, y])
theorem implDirectionKey (x y : Int) (w : World) : Calls Try.prog 52 #[.int .i64 x, .int .i64 y] w fun e w' => e = .returned (.int .i64 (directionKeyI x y)) ∧ Below w.heap.size w w' := by
  go_enter Try.func52, Try.ntmps52
  go_wp2_with (first | (go_at_call 96; (refine (implKeyedLit x [83, y] w _ _ _ (by simp) rfl rfl rfl).mono ?_); rintro e w1 ⟨rfl, hb1⟩) | (go_at_call 98; (refine (implOrOne _ _).mono ?_); rintro e w2 ⟨rfl, rfl⟩))
  go_ret
  exact ⟨rfl, hb1⟩
theorem specDirectionKey (x y : Int) (w : World) : Calls Try.prog 86 #[.int .i64 x, .int .i64 y] w fun e w' => e = .returned (.int .i64 (directionKeyI x y)) ∧ Below w.heap.size w w' := by
  have hk := (keyedI_bd x [83, y]).1
  go_enter Try.func86, Try.ntmps86
  go_wp2_with (first | (go_at_call 110; (refine (specKeyedLit x [83, y] w _ _ _ (by simp) rfl rfl rfl).mono ?_); rintro e w1 ⟨rfl, hb1⟩) | (go_at_call 109; (refine (specOrOne _ _ hk).mono ?_); rintro e w2 ⟨rfl, rfl⟩))
  go_ret
  exact ⟨rfl, hb1⟩
theorem implMessageKey (x : Int) (w : World) : Calls Try.prog 57 #[.int .i64 x] w fun e w' => e = .returned (.int .i64 (messageKeyI x)) ∧ Below w.heap.size w w' := by
  go_enter Try.func57, Try.ntmps57
  go_wp2_with (first | (go_at_call 96; (refine (implKeyedLit x [127] w _ _ _ (by simp) rfl rfl rfl).mono ?_); rintro e w1 ⟨rfl, hb1⟩) | (go_at_call 98; (refine (implOrOne _ _).mono ?_); rintro e w2 ⟨rfl, rfl⟩))
  go_ret
  exact ⟨rfl, hb1⟩
theorem specMessageKey (x : Int) (w : World) : Calls Try.prog 72 #[.int .i64 x] w fun e w' => e = .returned (.int .i64 (messageKeyI x)) ∧ Below w.heap.size w w' := by
  have hk := (keyedI_bd x [127]).1
  go_enter Try.func72, Try.ntmps72
  go_wp2_with (first | (go_at_call 110; (refine (specKeyedLit x [127] w _ _ _ (by simp) rfl rfl rfl).mono ?_); rintro e w1 ⟨rfl, hb1⟩) | (go_at_call 109; (refine (specOrOne _ _ hk).mono ?_); rintro e w2 ⟨rfl, rfl⟩))
  go_ret
  exact ⟨rfl, hb1⟩
theorem implNextChain (x : Int) (w : World) : Calls Try.prog 58 #[.int .i64 x] w fun e w' => e = .returned (.int .i64 (nextChainI x)) ∧ Below w.heap.size w w' := by
  go_enter Try.func58, Try.ntmps58
  go_wp2_with (first | (go_at_call 96; (refine (implKeyedLit x [131] w _ _ _ (by simp) rfl rfl rfl).mono ?_); rintro e w1 ⟨rfl, hb1⟩) | (go_at_call 98; (refine (implOrOne _ _).mono ?_); rintro e w2 ⟨rfl, rfl⟩))
  go_ret
  exact ⟨rfl, hb1⟩
theorem specNextChain (x : Int) (w : World) : Calls Try.prog 71 #[.int .i64 x] w fun e w' => e = .returned (.int .i64 (nextChainI x)) ∧ Below w.heap.size w w' := by
  have hk := (keyedI_bd x [131]).1
  go_enter Try.func71, Try.ntmps71
  go_wp2_with (first | (go_at_call 110; (refine (specKeyedLit x [131] w _ _ _ (by simp) rfl rfl rfl).mono ?_); rintro e w1 ⟨rfl, hb1⟩) | (go_at_call 109; (refine (specOrOne _ _ hk).mono ?_); rintro e w2 ⟨rfl, rfl⟩))
  go_ret
  exact ⟨rfl, hb1⟩
def epochSecretI (x y : Int) : Int := 1 + childI (keyedI x [103, y]) 0 % 1018
def safetyNumberI (a b : Int) : Int := keyedI 113 [min a b, max a b] % 1000000
theorem implSafetyNumber (a b : Int) (w : World) : Calls Try.prog 64 #[.int .i64 a, .int .i64 b] w fun e w' => e = .returned (.int .i64 (safetyNumberI a b)) ∧ Below w.heap.size w w' := by
  obtain ⟨c1, c2⟩ := keyedI_bd 113 [min a b, max a b]
  go_enter Try.func64, Try.ntmps64
  go_wp2_with (first | (go_at_call 96; (refine (implKeyedLit 113 [min a b, max a b] w _ _ _ (by simp) rfl rfl rfl).mono ?_); rintro e w1 ⟨rfl, hb1⟩))
  go_ret
  exact ⟨rfl, hb1⟩
/-- the row of a database that a key, a round and what else say -/
def rowI (key : Int) (l : List Int) (round rows : Int) : Int := if (1 ≤ rows ∧ rows ≤ 64) ∧ (0 ≤ round ∧ round ≤ 1000000000000) then childI (keyedI key l) 0 % rows else -1
def dialRowI (p round rows : Int) : Int := rowI p [109, round] round rows
def mailboxRowI (key round d rows : Int) : Int := rowI key [79, round, d] round rows
theorem rowI_yes {key : Int} {l : List Int} {round rows : Int} (h1 : 1 ≤ rows) (h2 : rows ≤ 64) (h3 : 0 ≤ round) (h4 : round ≤ 1000000000000) : rowI key l round rows = childI (keyedI key l) 0 % rows := by
  unfold rowI; rw [if_pos ⟨⟨h1, h2⟩, h3, h4⟩]
theorem rowI_no {key : Int} {l : List Int} {round rows : Int} (h : rows < 1 ∨ 64 < rows ∨ round < 0 ∨ 1000000000000 < round) : rowI key l round rows = -1 := by
  unfold rowI; rw [if_neg (by omega)]
theorem implDialRow (p round rows : Int) (w : World) : Calls Try.prog 62 #[.int .i64 p, .int .i64 round, .int .i64 rows] w fun e w' => e = .returned (.int .i64 (dialRowI p round rows)) ∧ Below w.heap.size w w' := by
  obtain ⟨c1, c2⟩ := childI_bd (keyedI p [109, round]) 0
  by_cases h1 : 1 ≤ rows
  · by_cases h2 : rows ≤ 64
    · by_cases h3 : 0 ≤ round
      · by_cases h4 : round ≤ 1000000000000
        · have HV := Lib.hid (show dialRowI p round rows = childI (keyedI p [109, round]) 0 % rows from rowI_yes h1 h2 h3 h4)
          go_enter Try.func62, Try.ntmps62
          go_wp2_with (first | (go_at_call 96; (refine (implKeyedLit p [109, round] w _ _ _ (by simp) rfl rfl rfl).mono ?_); rintro e w1 ⟨rfl, hb1⟩) | (go_at_call 95; (refine (implChildSeed _ _ _).mono ?_); rintro e w2 ⟨rfl, hb2⟩) | go_in)
          go_ret
          exact ⟨ret_int HV.out.symm, bel_seq hb1 hb2⟩
        · have HV := Lib.hid (show dialRowI p round rows = -1 from rowI_no (by omega))
          go_enter Try.func62, Try.ntmps62
          go_wp2
          go_ret
          exact ⟨ret_int HV.out.symm, Below.refl _ _⟩
      · have HV := Lib.hid (show dialRowI p round rows = -1 from rowI_no (by omega))
        go_enter Try.func62, Try.ntmps62
        go_wp2
        go_ret
        exact ⟨ret_int HV.out.symm, Below.refl _ _⟩
    · have HV := Lib.hid (show dialRowI p round rows = -1 from rowI_no (by omega))
      go_enter Try.func62, Try.ntmps62
      go_wp2
      go_ret
      exact ⟨ret_int HV.out.symm, Below.refl _ _⟩
  · have HV := Lib.hid (show dialRowI p round rows = -1 from rowI_no (by omega))
    go_enter Try.func62, Try.ntmps62
    go_wp2
    go_ret
    exact ⟨ret_int HV.out.symm, Below.refl _ _⟩
theorem implMailboxRow (p round d rows : Int) (w : World) : Calls Try.prog 48 #[.int .i64 p, .int .i64 round, .int .i64 d, .int .i64 rows] w fun e w' => e = .returned (.int .i64 (mailboxRowI p round d rows)) ∧ Below w.heap.size w w' := by
  obtain ⟨c1, c2⟩ := childI_bd (keyedI p [79, round, d]) 0
  by_cases h1 : 1 ≤ rows
  · by_cases h2 : rows ≤ 64
    · by_cases h3 : 0 ≤ round
      · by_cases h4 : round ≤ 1000000000000
        · have HV := Lib.hid (show mailboxRowI p round d rows = childI (keyedI p [79, round, d]) 0 % rows from rowI_yes h1 h2 h3 h4)
          go_enter Try.func48, Try.ntmps48
          go_wp2_with (first | (go_at_call 96; (refine (implKeyedLit p [79, round, d] w _ _ _ (by simp) rfl rfl rfl).mono ?_); rintro e w1 ⟨rfl, hb1⟩) | (go_at_call 95; (refine (implChildSeed _ _ _).mono ?_); rintro e w2 ⟨rfl, hb2⟩) | go_in)
          go_ret
          exact ⟨ret_int HV.out.symm, bel_seq hb1 hb2⟩
        · have HV := Lib.hid (show mailboxRowI p round d rows = -1 from rowI_no (by omega))
          go_enter Try.func48, Try.ntmps48
          go_wp2
          go_ret
          exact ⟨ret_int HV.out.symm, Below.refl _ _⟩
      · have HV := Lib.hid (show mailboxRowI p round d rows = -1 from rowI_no (by omega))
        go_enter Try.func48, Try.ntmps48
        go_wp2
        go_ret
        exact ⟨ret_int HV.out.symm, Below.refl _ _⟩
    · have HV := Lib.hid (show mailboxRowI p round d rows = -1 from rowI_no (by omega))
      go_enter Try.func48, Try.ntmps48
      go_wp2
      go_ret
      exact ⟨ret_int HV.out.symm, Below.refl _ _⟩
  · have HV := Lib.hid (show mailboxRowI p round d rows = -1 from rowI_no (by omega))
    go_enter Try.func48, Try.ntmps48
    go_wp2
    go_ret
    exact ⟨ret_int HV.out.symm, Below.refl _ _⟩
def sharedKeyI (s p : Int) : Int := if isGE p && !(p == 1) && !(modI s 1019 == 0) then orOneI (keyedI (powGroupI p s) [107]) else 0
theorem sharedKeyI_no {s p : Int} (h : isGE p = false ∨ (p == 1) = true ∨ (modI s 1019 == 0) = true) : sharedKeyI s p = 0 := by
  unfold sharedKeyI
  rw [if_neg (by rcases h with h | h | h <;> simp [h])]
theorem sharedKeyI_yes {s p : Int} (h1 : isGE p = true) (h2 : (p == 1) = false) (h3 : (modI s 1019 == 0) = false) : sharedKeyI s p = orOneI (keyedI (powGroupI p s) [107]) := by
  unfold sharedKeyI
  rw [if_pos (by simp [h1, h2, h3])]
theorem implSharedKey (s p : Int) (w : World) : Calls Try.prog 60 #[.int .i64 s, .int .i64 p] w fun e w' => e = .returned (.int .i64 (sharedKeyI s p)) ∧ Below w.heap.size w w' := by
  cases h1 : isGE p with
  | false =>
    have HV := Lib.hid (sharedKeyI_no (s := s) (.inl h1))
    go_enter Try.func60, Try.ntmps60
    go_wp2_with (first | (go_at_call 102; (refine (implIsGroupElement _ _).mono ?_); rintro e w0 ⟨rfl, rfl⟩) | (go_at_call 103; (refine (implMod _ _ _).mono ?_); rintro e w0 ⟨rfl, rfl⟩))
    go_ret
    exact ⟨ret_int HV.out.symm, Below.refl _ _⟩
  | true =>
    cases h2 : (p == 1) with
    | true =>
      have HV := Lib.hid (sharedKeyI_no (s := s) (p := p) (.inr (.inl h2)))
      go_enter Try.func60, Try.ntmps60
      go_wp2_with (first | (go_at_call 102; (refine (implIsGroupElement _ _).mono ?_); rintro e w0 ⟨rfl, rfl⟩) | (go_at_call 103; (refine (implMod _ _ _).mono ?_); rintro e w0 ⟨rfl, rfl⟩))
      go_ret
      exact ⟨ret_int HV.out.symm, Below.refl _ _⟩
    | false =>
      cases h3 : (modI s 1019 == 0) with
      | true =>
        have HV := Lib.hid (sharedKeyI_no (s := s) (p := p) (.inr (.inr h3)))
        go_enter Try.func60, Try.ntmps60
        go_wp2_with (first | (go_at_call 102; (refine (implIsGroupElement _ _).mono ?_); rintro e w0 ⟨rfl, rfl⟩) | (go_at_call 103; (refine (implMod _ _ _).mono ?_); rintro e w0 ⟨rfl, rfl⟩))
        go_ret
        exact ⟨ret_int HV.out.symm, Below.refl _ _⟩
      | false =>
        have HV := Lib.hid (sharedKeyI_yes h1 h2 h3)
        have hk := (keyedI_bd (powGroupI p s) [107]).1
        go_enter Try.func60, Try.ntmps60
        go_wp2_with (first | (go_at_call 102; (refine (implIsGroupElement _ _).mono ?_); rintro e w0 ⟨rfl, rfl⟩) | (go_at_call 103; (refine (implMod _ _ _).mono ?_); rintro e w0 ⟨rfl, rfl⟩) | (go_at_call 104; (refine (implPowGroup _ _ _).mono ?_); rintro e w0 ⟨rfl, rfl⟩) | (go_at_call 96; (refine (implKeyedLit (powGroupI p s) [107] w _ _ _ (by simp) rfl rfl rfl).mono ?_); rintro e w1 ⟨rfl, hb1⟩) | (go_at_call 98; (refine (implOrOneX _ _ hk).mono ?_); rintro e w2 ⟨rfl, rfl⟩))
        go_ret
        exact ⟨ret_int HV.out.symm, hb1⟩
theorem specSharedKey (s p : Int) (w : World) : Calls Try.prog 88 #[.int .i64 s, .int .i64 p] w fun e w' => e = .returned (.int .i64 (sharedKeyI s p)) ∧ Below w.heap.size w w' := by
  cases h1 : isGE p with
  | false =>
    have HV := Lib.hid (sharedKeyI_no (s := s) (.inl h1))
    go_enter Try.func88, Try.ntmps88
    go_wp2_with (first | (go_at_call 126; (refine (specIsGroupElement _ _).mono ?_); rintro e w0 ⟨rfl, rfl⟩) | (go_at_call 127; (refine (specMod _ _ _).mono ?_); rintro e w0 ⟨rfl, rfl⟩))
    go_ret
    exact ⟨ret_int HV.out.symm, Below.refl _ _⟩
  | true =>
    cases h2 : (p == 1) with
    | true =>
      have HV := Lib.hid (sharedKeyI_no (s := s) (p := p) (.inr (.inl h2)))
      go_enter Try.func88, Try.ntmps88
      go_wp2_with (first | (go_at_call 126; (refine (specIsGroupElement _ _).mono ?_); rintro e w0 ⟨rfl, rfl⟩) | (go_at_call 127; (refine (specMod _ _ _).mono ?_); rintro e w0 ⟨rfl, rfl⟩))
      go_ret
      exact ⟨ret_int HV.out.symm, Below.refl _ _⟩
    | false =>
      cases h3 : (modI s 1019 == 0) with
      | true =>
        have HV := Lib.hid (sharedKeyI_no (s := s) (p := p) (.inr (.inr h3)))
        go_enter Try.func88, Try.ntmps88
        go_wp2_with (first | (go_at_call 126; (refine (specIsGroupElement _ _).mono ?_); rintro e w0 ⟨rfl, rfl⟩) | (go_at_call 127; (refine (specMod _ _ _).mono ?_); rintro e w0 ⟨rfl, rfl⟩))
        go_ret
        exact ⟨ret_int HV.out.symm, Below.refl _ _⟩
      | false =>
        have HV := Lib.hid (sharedKeyI_yes h1 h2 h3)
        have hk := (keyedI_bd (powGroupI p s) [107]).1
        go_enter Try.func88, Try.ntmps88
        go_wp2_with (first | (go_at_call 126; (refine (specIsGroupElement _ _).mono ?_); rintro e w0 ⟨rfl, rfl⟩) | (go_at_call 127; (refine (specMod _ _ _).mono ?_); rintro e w0 ⟨rfl, rfl⟩) | (go_at_call 128; (refine (specPowGroup _ _ _).mono ?_); rintro e w0 ⟨rfl, rfl⟩) | (go_at_call 110; (refine (specKeyedLit (powGroupI p s) [107] w _ _ _ (by simp) rfl rfl rfl).mono ?_); rintro e w1 ⟨rfl, hb1⟩) | (go_at_call 109; (refine (specOrOneX _ _ hk).mono ?_); rintro e w2 ⟨rfl, rfl⟩))
        go_ret
        exact ⟨ret_int HV.out.symm, hb1⟩
end Go.Proofs.Ytelcpihbdgikfaa
