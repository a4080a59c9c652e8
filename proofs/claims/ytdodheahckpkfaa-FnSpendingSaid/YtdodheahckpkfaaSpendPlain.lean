/- Plain facts on spending: what a list is after a token was accepted. No program in sight. -/
import Derived.Test.YtdodheahckpkfaaSpentPlain
import Derived.Test.YtdodheahckpkfaaBudget
import Derived.Test.YtdodheahckpkfaaKeys
import Derived.Test.YtdodheahckpkfaaTok
namespace Go.Proofs.Ytdodheahckpkfaa
theorem mergeTo_self {a : List Int} : ∀ k, k ≤ a.length → mergeTo a a k = (a, k) := by
  intro k
  induction k with
  | zero => intro _; exact mergeTo_zero a a
  | succ k ih =>
    intro hk
    exact merge_mem (by omega) (ih (by omega)) rfl (memB_yes (by omega) rfl)
theorem merge_self {e : Int} {a : List Int} (h : validSpentI e a = true) : mergeI e a e a = (a, (a.length : Int)) := merge_yes (by rw [h]; simp) (mergeTo_self a.length (Nat.le_refl _))
theorem spent_valid {e : Int} {a : List Int} {x : Int} (h : validSpentI e a = true) (hx0 : 0 ≤ x) (hx1 : x ≤ 100000) (hm : memB a x = false) (hl : a.length < 40) : validSpentI e (insI a x) = true := by
  obtain ⟨h1, h2, h3, h4⟩ := validSpent_iff.1 h
  have hn : x ∉ a := fun hh => by rw [(memB_iff _ _).2 hh] at hm; cases hm
  exact validSpent_iff.2 ⟨h1, by rw [insI_length]; omega, fun y hy => by rcases mem_insI.1 hy with rfl | hy; exact ⟨hx0, hx1⟩; exact h3 y hy, insI_strict h4 hn⟩
theorem spent_mem (a : List Int) (x : Int) : memB (insI a x) x = true := (memB_iff _ _).2 (mem_insI.2 (.inl rfl))
theorem budget_two {a : List Int} {x : Int} (hm : memB a x = false) : budgetI a [x, x] = 1 := by
  have h0 : budB a [x, x] 0 = true := by show (!(memB a x) && !(memB [] x)) = true; rw [hm]; rfl
  have h1 : budB a [x, x] 1 = false := by show (!(memB a x) && !(memB [x] x)) = false; rw [hm]; simp [memB]
  show ((budN a [x, x] 2 : Nat) : Int) = 1
  rw [budN_no h1, budN_yes h0]
  rfl
theorem budget_none {a : List Int} {x : Int} (hm : memB a x = true) : budgetI a [x] = 0 := by
  have h0 : budB a [x] 0 = false := by show (!(memB a x) && !(memB [] x)) = false; rw [hm]; rfl
  show ((budN a [x] 1 : Nat) : Int) = 0
  rw [budN_no h0]
  rfl
theorem epoch_bd (x y : Int) : 1 ≤ epochSecretI x y ∧ epochSecretI x y ≤ 1018 := by unfold epochSecretI; omega
theorem token_bd {s n v : Int} (h : validTokenI s n v = true) : 0 ≤ n ∧ n ≤ 100000 := by
  simp only [validTokenI, inR, Bool.and_eq_true, decide_eq_true_eq] at h
  exact h.1.1
end Go.Proofs.Ytdodheahckpkfaa
