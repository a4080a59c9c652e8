/- Plain functions on lists of integers that the given program computes, and the walks of the small functions over slices: membership, ascending order, equality, copies. -/
import Derived.Test.YtamhlmeopbpjpaaDoorProg
import Derived.Test.YtamhlmeopbpjpaaDoorTok
import Derived.Test.YtamhlmeopbpjpaaDoorOwn
import Derived.WalkKit
import Derived.WalkSpells
import Derived.WalkLawsBesides
import Derived.Outline
import Derived.Lib.Hide
import Derived.Deep.QuietTactic
import Derived.BigQuiet
namespace Go.Proofs.YtamhlmeopbpjpaaDoor
open Go.RowKit

/-- is it in the list -/
def memB (l : List Int) (x : Int) : Bool := l.any fun y => y == x
theorem memB_iff (l : List Int) (x : Int) : memB l x = true ↔ x ∈ l := by
  unfold memB
  rw [List.any_eq_true]
  constructor
  · rintro ⟨y, hy, h⟩; rw [beq_iff_eq] at h; exact h ▸ hy
  · intro h; exact ⟨x, h, by simp⟩
theorem memB_yes {l : List Int} {x : Int} {i : Nat} (h : i < l.length) (he : l.getD i 0 = x) : memB l x = true := by
  rw [memB_iff, ← he]
  simp [List.getD, h]
theorem memB_no {l : List Int} {x : Int} (h : ∀ i, i < l.length → ¬ l.getD i 0 = x) : memB l x = false := by
  rw [← Bool.not_eq_true, memB_iff]
  intro hm
  obtain ⟨i, hi, e⟩ := List.getElem_of_mem hm
  exact h i hi (by simp [List.getD, hi, e])
/-- one place of an ascending list within a range -/
def ascAt (l : List Int) (lo hi : Int) (i : Nat) : Bool := inR (l.getD i 0) lo hi && (i == 0 || decide (l.getD (i - 1) 0 < l.getD i 0))
def ascI (l : List Int) (lo hi : Int) : Bool := (List.range l.length).all (ascAt l lo hi)
theorem ascI_no {l : List Int} {lo hi : Int} {i : Nat} (h : i < l.length) (e : ascAt l lo hi i = false) : ascI l lo hi = false := by
  rw [← Bool.not_eq_true]
  unfold ascI
  rw [List.all_eq_true]
  intro hh
  have := hh i (List.mem_range.2 h)
  rw [e] at this
  cases this
theorem ascI_yes {l : List Int} {lo hi : Int} (h : ∀ i, i < l.length → ascAt l lo hi i = true) : ascI l lo hi = true := by
  unfold ascI
  rw [List.all_eq_true]
  intro i hi
  exact h i (List.mem_range.1 hi)
/-- two slices that can be read, opened at a place -/
theorem Sl.at {k : IntKind} {w : World} {a : Option Addr} {n c : Nat} {l : List Int} (h : Sl k w (.slice a n c) l) {i : Nat} (hi : i < n) : ∃ b off, a = some ⟨b, off, none⟩ ∧ b < w.heap.size ∧ ∀ j, j < n → w.cell? ⟨b, off + j, none⟩ = some (.int k (l.getD j 0)) := by
  have hn := h.len
  rcases h with ⟨h0, _⟩ | ⟨b, off, cap, hv, h1, h2, h3, h4⟩
  · rw [h0] at hn; simp at hn; omega
  · simp only [Value.slice.injEq] at hv
    exact ⟨b, off, hv.1, h3, fun j hj => h4 j (by omega)⟩
theorem Sl.shape {k : IntKind} {w : World} {v : Value} {l : List Int} (h : Sl k w v l) : ∃ a c, v = .slice a l.length c ∧ l.length ≤ 9223372036854775807 := by
  have hm := h.max
  unfold maxLen at hm
  rcases h with ⟨rfl, a, cap, rfl, _⟩ | ⟨b, off, cap, rfl, _⟩
  · exact ⟨a, cap, rfl, by omega⟩
  · exact ⟨_, cap, rfl, by omega⟩

theorem beq_list_at {l m : List Int} (i : Nat) (hne : ¬ l.getD i 0 = m.getD i 0) : (l == m) = false := by
  rw [← Bool.not_eq_true, beq_iff_eq]
  intro e; exact hne (by rw [e])
theorem beq_list_len {l m : List Int} (h : ¬ l.length = m.length) : (l == m) = false := by
  rw [← Bool.not_eq_true, beq_iff_eq]
  intro e; exact h (by rw [e])
theorem beq_list_yes {l m : List Int} (h : l.length = m.length) (he : ∀ i, i < l.length → l.getD i 0 = m.getD i 0) : (l == m) = true := by
  rw [beq_iff_eq]; exact eq_of_getD h he
end Go.Proofs.YtamhlmeopbpjpaaDoor
