/- The walks of the functions over keys: each returns what the plain function says; memory that existed is as it was. -/
import Derived.Test.YtamhlmeopbpjpaaDoorProg
import Derived.Test.YtamhlmeopbpjpaaDoorGroup
import Derived.WalkKit
import Derived.WalkSpells
import Derived.WalkLawsBesides
import Derived.Outline
import Derived.Lib.Hide
namespace Go.Proofs.YtamhlmeopbpjpaaDoor
open Go.RowKit

theorem orOneI_pos (n : Int) (h : ¬ n = 0) : orOneI n = n := by unfold orOneI; rw [if_neg h]
theorem orOneI_zero : orOneI 0 = 1 := rfl
theorem orOneI_bd {n : Int} (h0 : 0 ≤ n) (h1 : n < 2147483647) : 1 ≤ orOneI n ∧ orOneI n < 2147483647 := by unfold orOneI; split <;> omega
def directionKeyI (key d : Int) : Int := orOneI (keyedI key [83, d])
def freshSecretI (x : Int) : Int := orOneI (keyedI x [139])
def messageKeyI (x : Int) : Int := orOneI (keyedI x [127])
def nextChainI (x : Int) : Int := orOneI (keyedI x [131])
def nextSecretI (x y : Int) : Int := orOneI (keyedI x [137, y])
def epochSecretI (x y : Int) : Int := 1 + childI (keyedI x [103, y]) 0 % 1018
def safetyNumberI (a b : Int) : Int := keyedI 113 [min a b, max a b] % 1000000
/-- the row of a database that a key, a round and what else say -/
def rowI (key : Int) (l : List Int) (round rows : Int) : Int := if (1 ≤ rows ∧ rows ≤ 64) ∧ (0 ≤ round ∧ round ≤ 1000000000000) then childI (keyedI key l) 0 % rows else -1
def dialRowI (p round rows : Int) : Int := rowI p [109, round] round rows
def mailboxRowI (key round d rows : Int) : Int := rowI key [79, round, d] round rows
theorem rowI_yes {key : Int} {l : List Int} {round rows : Int} (h1 : 1 ≤ rows) (h2 : rows ≤ 64) (h3 : 0 ≤ round) (h4 : round ≤ 1000000000000) : rowI key l round rows = childI (keyedI key l) 0 % rows := by
  unfold rowI; rw [if_pos ⟨⟨h1, h2⟩, h3, h4⟩]
theorem rowI_no {key : Int} {l : List Int} {round rows : Int} (h : rows < 1 ∨ 64 < rows ∨ round < 0 ∨ 1000000000000 < round) : rowI key l round rows = -1 := by
  unfold rowI; rw [if_neg (by omega)]
def sharedKeyI (s p : Int) : Int := if isGE p && !(p == 1) && !(modI s 1019 == 0) then orOneI (keyedI (powGroupI p s) [107]) else 0
theorem sharedKeyI_no {s p : Int} (h : isGE p = false ∨ (p == 1) = true ∨ (modI s 1019 == 0) = true) : sharedKeyI s p = 0 := by
  unfold sharedKeyI
  rw [if_neg (by rcases h with h | h | h <;> simp [h])]
theorem sharedKeyI_yes {s p : Int} (h1 : isGE p = true) (h2 : (p == 1) = false) (h3 : (modI s 1019 == 0) = false) : sharedKeyI s p = orOneI (keyedI (powGroupI p s) [107]) := by
  unfold sharedKeyI
  rw [if_pos (by simp [h1, h2, h3])]
end Go.Proofs.YtamhlmeopbpjpaaDoor
