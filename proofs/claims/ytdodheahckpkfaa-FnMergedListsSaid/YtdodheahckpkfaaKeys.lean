/- The walks of the functions over keys: each returns what the plain function says; memory that existed is as it was. -/
import Derived.Test.YtdodheahckpkfaaProg
import Derived.Test.YtdodheahckpkfaaGroup
import Derived.WalkKit
import Derived.WalkSpells
import Derived.WalkLawsBesides
import Derived.Outline
import Derived.Lib.Hide
namespace Go.Proofs.Ytdodheahckpkfaa
open Go.RowKit

theorem orOneI_pos (n : Int) (h : ¬ n = 0) : orOneI n = n := by unfold orOneI; rw [if_neg h]
theorem orOneI_zero : orOneI 0 = 1 := rfl
theorem orOneI_bd {n : Int} (h0 : 0 ≤ n) (h1 : n < 2147483647) : 1 ≤ orOneI n ∧ orOneI n < 2147483647 := by unfold orOneI; split <;> omega
theorem specMin (a b : Int) (w : World) : Calls Try.prog 40 #[.int .i64 a, .int .i64 b] w fun e w' => e = .returned (.int .i64 (min a b)) ∧ w = w' := by
  by_cases h : b < a
  · have H := Lib.hid (show min a b = b by omega)
    go_enter Try.func40, Try.ntmps40
    go_wp2
    go_ret
    exact ⟨ret_int H.out.symm, rfl⟩
  · have H := Lib.hid (show min a b = a by omega)
    go_enter Try.func40, Try.ntmps40
    go_wp2
    go_ret
    exact ⟨ret_int H.out.symm, rfl⟩
def directionKeyI (key d : Int) : Int := orOneI (keyedI key [83, d])
def freshSecretI (x : Int) : Int := orOneI (keyedI x [139])
def messageKeyI (x : Int) : Int := orOneI (keyedI x [127])
def nextChainI (x : Int) : Int := orOneI (keyedI x [131])
def nextSecretI (x y : Int) : Int := orOneI (keyedI x [137, y])
def epochSecretI (x y : Int) : Int := 1 + childI (keyedI x [103, y]) 0 % 1018
def safetyNumberI (a b : Int) : Int := keyedI 113 [min a b, max a b] % 1000000
theorem implEpochSecret (x y : Int) (w : World) : Calls Try.prog 37 #[.int .i64 x, .int .i64 y] w fun e w' => e = .returned (.int .i64 (epochSecretI x y)) ∧ Below w.heap.size w w' := by
  obtain ⟨c1, c2⟩ := childI_bd (keyedI x [103, y]) 0
  go_enter Try.func37, Try.ntmps37
  go_wp2_with (first | (go_at_call 80; (refine (implKeyedLit x [103, y] w _ _ _ (by simp) rfl rfl rfl).mono ?_); rintro e w1 ⟨rfl, hb1⟩) | (go_at_call 79; (refine (implChildSeed _ _ _).mono ?_); rintro e w2 ⟨rfl, hb2⟩))
  go_ret
  exact ⟨rfl, bel_seq hb1 hb2⟩
/-- the row of a database that a key, a round and what else say -/
def rowI (key : Int) (l : List Int) (round rows : Int) : Int := if (1 ≤ rows ∧ rows ≤ 64) ∧ (0 ≤ round ∧ round ≤ 1000000000000) then childI (keyedI key l) 0 % rows else -1
def dialRowI (p round rows : Int) : Int := rowI p [109, round] round rows
def mailboxRowI (key round d rows : Int) : Int := rowI key [79, round, d] round rows
theorem rowI_yes {key : Int} {l : List Int} {round rows : Int} (h1 : 1 ≤ rows) (h2 : rows ≤ 64) (h3 : 0 ≤ round) (h4 : round ≤ 1000000000000) : rowI key l round rows = childI (keyedI key l) 0 % rows := by
  unfold rowI; rw [if_pos ⟨⟨h1, h2⟩, h3, h4⟩]
theorem rowI_no {key : Int} {l : List Int} {round rows : Int} (h : rows < 1 ∨ 64 < rows ∨ round < 0 ∨ 1000000000000 < round) : rowI key l round rows = -1 := by
  unfold rowI; rw [if_neg (by omega)]
def sharedKeyI (s p : Int) : Int := if isGE p && !(p == 1) && !(modI s 1019 == 0) then orOneI (keyedI (powGroupI p s) [107]) else 0
theorem sharedKeyI_no {s p : Int} (h : isGE p = false ∨ (p == 1) = true ∨ (modI s 1019 == 0) = true) : sharedKeyI s p = 0 := by
  unfold sharedKeyI
  rw [if_neg (by rcases h with h | h | h <;> simp [h])]
theorem sharedKeyI_yes {s p : Int} (h1 : isGE p = true) (h2 : (p == 1) = false) (h3 : (modI s 1019 == 0) = false) : sharedKeyI s p = orOneI (keyedI (powGroupI p s) [107]) := by
  unfold sharedKeyI
  rw [if_pos (by simp [h1, h2, h3])]
end Go.Proofs.Ytdodheahckpkfaa
