/- Plain laws: an ascending list with one more number, and what spending and merging compute. No program in sight. -/
import Derived.Test.YtdodheahckpkfaaAsc
import Derived.Lib.SlicesSearch
namespace Go.Proofs.Ytdodheahckpkfaa

def insK (l : List Int) (x : Int) : Nat := l.countP (· < x)
def insI (l : List Int) (x : Int) : List Int := l.take (insK l x) ++ [x] ++ l.drop (insK l x)
theorem insK_le (l : List Int) (x : Int) : insK l x ≤ l.length := List.countP_le_length
theorem insI_length (l : List Int) (x : Int) : (insI l x).length = l.length + 1 := by
  have := insK_le l x
  unfold insI
  simp only [List.length_append, List.length_take, List.length_drop, List.length_cons, List.length_nil]
  omega
theorem mem_insI {l : List Int} {x y : Int} : y ∈ insI l x ↔ y = x ∨ y ∈ l := by
  unfold insI
  have h : y ∈ l ↔ y ∈ l.take (insK l x) ∨ y ∈ l.drop (insK l x) := by rw [← List.mem_append, List.take_append_drop]
  rw [h]
  simp only [List.mem_append, List.mem_cons, List.not_mem_nil, or_false]
  constructor
  · rintro ((h | h) | h)
    · exact .inr (.inl h)
    · exact .inl h
    · exact .inr (.inr h)
  · rintro (h | h | h)
    · exact .inl (.inr h)
    · exact .inl (.inl h)
    · exact .inr h
theorem insI_lt {a x : Int} {r : List Int} (h : a < x) : insI (a :: r) x = a :: insI r x := by
  unfold insI insK
  simp [h]
theorem insI_ge {a x : Int} {r : List Int} (h : ¬ a < x) (hs : ∀ y ∈ r, a ≤ y) : insI (a :: r) x = x :: a :: r := by
  have h0 : insK (a :: r) x = 0 := by
    unfold insK
    rw [List.countP_eq_zero]
    intro y hy
    rcases List.mem_cons.1 hy with rfl | hy
    · simpa using h
    · have := hs y hy
      simp; omega
  unfold insI
  rw [h0]
  simp
theorem insI_sorted : ∀ {l : List Int} {x : Int}, l.Pairwise (· ≤ ·) → (insI l x).Pairwise (· ≤ ·)
  | [], x, _ => by simp [insI, insK]
  | a :: r, x, h => by
    rw [List.pairwise_cons] at h
    by_cases hx : a < x
    · rw [insI_lt hx, List.pairwise_cons]
      refine ⟨fun y hy => ?_, insI_sorted h.2⟩
      rcases mem_insI.1 hy with rfl | hy
      · omega
      · exact h.1 y hy
    · rw [insI_ge hx h.1, List.pairwise_cons, List.pairwise_cons]
      refine ⟨fun y hy => ?_, h⟩
      rcases List.mem_cons.1 hy with rfl | hy
      · omega
      · have := h.1 y hy; omega
theorem insI_strict : ∀ {l : List Int} {x : Int}, l.Pairwise (· < ·) → x ∉ l → (insI l x).Pairwise (· < ·)
  | [], x, _, _ => by simp [insI, insK]
  | a :: r, x, h, hn => by
    rw [List.pairwise_cons] at h
    have hn2 : x ≠ a ∧ x ∉ r := by simpa using hn
    by_cases hx : a < x
    · rw [insI_lt hx, List.pairwise_cons]
      refine ⟨fun y hy => ?_, insI_strict h.2 hn2.2⟩
      rcases mem_insI.1 hy with rfl | hy
      · exact hx
      · exact h.1 y hy
    · rw [insI_ge hx (fun y hy => Int.le_of_lt (h.1 y hy)), List.pairwise_cons, List.pairwise_cons]
      have h1 := hn2.1
      refine ⟨fun y hy => ?_, h⟩
      rcases List.mem_cons.1 hy with rfl | hy
      · omega
      · have := h.1 y hy; omega
theorem sorted_of_strict {l : List Int} (h : l.Pairwise (· < ·)) : l.Pairwise (· ≤ ·) := h.imp (fun h => Int.le_of_lt h)
theorem insK_at {l : List Int} {x : Int} {k : Nat} (hs : l.Pairwise (· ≤ ·)) (hk : k ≤ l.length) (h1 : ∀ j, j < k → l.getD j 0 < x) (h2 : k < l.length → ¬ l.getD k 0 < x) : insK l x = k := by
  have hsa := Go.Lib.sorted_at l l.length (Nat.le_refl _) (by rw [List.take_length]; exact hs)
  unfold insK
  refine Go.Lib.countP_split _ l k hk (fun j hj => by simpa using h1 j hj) (fun j hkj hj => ?_)
  have a1 := h2 (by omega)
  have a2 := hsa k j hkj hj
  exact decide_eq_false (by omega)
/-- ascending within a range, in plain words -/
theorem ascI_iff {l : List Int} {lo hi : Int} : ascI l lo hi = true ↔ (∀ x ∈ l, lo ≤ x ∧ x ≤ hi) ∧ l.Pairwise (· < ·) := by
  unfold ascI
  rw [List.all_eq_true]
  constructor
  · intro h
    have hr : ∀ i, i < l.length → lo ≤ l.getD i 0 ∧ l.getD i 0 ≤ hi := fun i hi' => by
      have := h i (List.mem_range.2 hi')
      simp only [ascAt, inR, Bool.and_eq_true, decide_eq_true_eq] at this
      exact this.1
    have hs : ∀ i, i + 1 < l.length → l.getD i 0 < l.getD (i + 1) 0 := fun i hi' => by
      have := h (i + 1) (List.mem_range.2 hi')
      simp only [ascAt, Bool.and_eq_true, Bool.or_eq_true, decide_eq_true_eq, beq_iff_eq, Nat.add_sub_cancel] at this
      rcases this.2 with h | h
      · omega
      · exact h
    have hm : ∀ d i, i + d + 1 < l.length → l.getD i 0 < l.getD (i + d + 1) 0 := by
      intro d
      induction d with
      | zero => intro i hi'; exact hs i hi'
      | succ d ih =>
        intro i hi'
        have a1 := ih i (by omega)
        have a2 := hs (i + d + 1) (by omega)
        rw [show i + (d + 1) + 1 = i + d + 1 + 1 by omega]
        omega
    refine ⟨fun x hx => ?_, ?_⟩
    · obtain ⟨i, hi', rfl⟩ := List.getElem_of_mem hx
      have := hr i hi'
      rwa [Go.Lib.getD_lt l i hi'] at this
    · rw [List.pairwise_iff_getElem]
      intro i j hi' hj' hij
      have := hm (j - i - 1) i (by omega)
      rw [show i + (j - i - 1) + 1 = j by omega, Go.Lib.getD_lt l i hi', Go.Lib.getD_lt l j hj'] at this
      exact this
  · rintro ⟨h1, h2⟩ i hi'
    rw [List.mem_range] at hi'
    have hm := h1 (l.getD i 0) (by rw [Go.Lib.getD_lt l i hi']; exact List.getElem_mem hi')
    simp only [ascAt, inR, Bool.and_eq_true, Bool.or_eq_true, decide_eq_true_eq, beq_iff_eq]
    refine ⟨hm, ?_⟩
    rcases Nat.eq_zero_or_pos i with h0 | h0
    · exact .inl h0
    · refine .inr ?_
      rw [Go.Lib.getD_lt l i hi', Go.Lib.getD_lt l (i - 1) (by omega)]
      exact List.pairwise_iff_getElem.1 h2 (i - 1) i (by omega) hi' (by omega)
theorem ascI_ins {l : List Int} {lo hi x : Int} (h : ascI l lo hi = true) (h1 : lo ≤ x) (h2 : x ≤ hi) (hn : x ∉ l) : ascI (insI l x) lo hi = true := by
  rw [ascI_iff] at h ⊢
  refine ⟨fun y hy => ?_, insI_strict h.2 hn⟩
  rcases mem_insI.1 hy with rfl | hy
  · exact ⟨h1, h2⟩
  · exact h.1 y hy
theorem validSpent_iff {e : Int} {l : List Int} : validSpentI e l = true ↔ (0 ≤ e ∧ e ≤ 1000000000000) ∧ l.length ≤ 40 ∧ (∀ x ∈ l, 0 ≤ x ∧ x ≤ 100000) ∧ l.Pairwise (· < ·) := by
  unfold validSpentI
  simp only [Bool.and_eq_true, ascI_iff, inR, decide_eq_true_eq, and_assoc]
/-! ### spending -/
def spendI (e : Int) (l : List Int) (vt : Bool) (x : Int) : List Int × Int :=
  if validSpentI e l && vt then if memB l x then (l, 2) else if l.length < 40 then (insI l x, 0) else (l, 3) else (l, 1)
theorem spend_no {e : Int} {l : List Int} {vt : Bool} {x : Int} (h : (validSpentI e l && vt) = false) : spendI e l vt x = (l, 1) := by unfold spendI; rw [h]; rfl
theorem spend_twice {e : Int} {l : List Int} {vt : Bool} {x : Int} (h : (validSpentI e l && vt) = true) (hm : memB l x = true) : spendI e l vt x = (l, 2) := by unfold spendI; rw [h, hm]; rfl
theorem spend_full {e : Int} {l : List Int} {vt : Bool} {x : Int} (h : (validSpentI e l && vt) = true) (hm : memB l x = false) (hl : ¬ l.length < 40) : spendI e l vt x = (l, 3) := by unfold spendI; rw [h, hm, if_pos rfl, if_neg (by simp), if_neg hl]
theorem spend_ok {e : Int} {l : List Int} {vt : Bool} {x : Int} (h : (validSpentI e l && vt) = true) (hm : memB l x = false) (hl : l.length < 40) : spendI e l vt x = (insI l x, 0) := by unfold spendI; rw [h, hm, if_pos rfl, if_neg (by simp), if_pos hl]
/-! ### merging -/
def mergeStep (a : List Int) (q : List Int × Nat) (s : Int) : List Int × Nat := if memB a s then (q.1, q.2 + 1) else if q.1.length < 40 then (insI q.1 s, q.2) else q
def mergeTo (a b : List Int) (k : Nat) : List Int × Nat := (b.take k).foldl (mergeStep a) (a, 0)
def mergeI (ea : Int) (a : List Int) (eb : Int) (b : List Int) : List Int × Int := if validSpentI ea a && validSpentI eb b && ea == eb then ((mergeTo a b b.length).1, ((mergeTo a b b.length).2 : Int)) else (a, 0)
theorem mergeTo_zero (a b : List Int) : mergeTo a b 0 = (a, 0) := by simp [mergeTo]
theorem mergeTo_succ {a b : List Int} {k : Nat} (h : k < b.length) : mergeTo a b (k + 1) = mergeStep a (mergeTo a b k) (b.getD k 0) := by
  unfold mergeTo
  rw [List.take_succ_eq_append_getElem h, List.foldl_append, Go.Lib.getD_lt b k h]
  rfl
theorem merge_mem {a b : List Int} {k : Nat} (h : k < b.length) {L : List Int} {n : Nat} (hq : mergeTo a b k = (L, n)) {s : Int} (hs : b.getD k 0 = s) (hm : memB a s = true) : mergeTo a b (k + 1) = (L, n + 1) := by rw [mergeTo_succ h, hq, hs]; unfold mergeStep; rw [hm]; rfl
theorem merge_ins {a b : List Int} {k : Nat} (h : k < b.length) {L : List Int} {n : Nat} (hq : mergeTo a b k = (L, n)) {s : Int} (hs : b.getD k 0 = s) (hm : memB a s = false) (hl : L.length < 40) : mergeTo a b (k + 1) = (insI L s, n) := by rw [mergeTo_succ h, hq, hs]; unfold mergeStep; rw [hm, if_neg (by simp), if_pos hl]
theorem merge_full {a b : List Int} {k : Nat} (h : k < b.length) {L : List Int} {n : Nat} (hq : mergeTo a b k = (L, n)) {s : Int} (hs : b.getD k 0 = s) (hm : memB a s = false) (hl : ¬ L.length < 40) : mergeTo a b (k + 1) = (L, n) := by rw [mergeTo_succ h, hq, hs]; unfold mergeStep; rw [hm, if_neg (by simp), if_neg hl]
theorem merge_no {ea : Int} {a : List Int} {eb : Int} {b : List Int} (h : (validSpentI ea a && validSpentI eb b && ea == eb) = false) : mergeI ea a eb b = (a, 0) := by unfold mergeI; rw [h]; rfl
theorem merge_yes {ea : Int} {a : List Int} {eb : Int} {b : List Int} (h : (validSpentI ea a && validSpentI eb b && ea == eb) = true) {L : List Int} {n : Nat} (hq : mergeTo a b b.length = (L, n)) : mergeI ea a eb b = (L, (n : Int)) := by unfold mergeI; rw [h, hq]; rfl
theorem mergeTo_inv {a b : List Int} (ha : a.Pairwise (· ≤ ·)) (hl : a.length ≤ 40) : ∀ k, k ≤ b.length → (mergeTo a b k).1.Pairwise (· ≤ ·) ∧ (mergeTo a b k).1.length ≤ 40 ∧ (mergeTo a b k).2 ≤ k := by
  intro k
  induction k with
  | zero => intro _; rw [mergeTo_zero]; exact ⟨ha, hl, Nat.le_refl _⟩
  | succ k ih =>
    intro hk
    obtain ⟨h1, h2, h3⟩ := ih (by omega)
    rw [mergeTo_succ (by omega)]
    unfold mergeStep
    split
    · exact ⟨h1, h2, by omega⟩
    · split
      · exact ⟨insI_sorted h1, by rw [insI_length]; omega, by omega⟩
      · exact ⟨h1, h2, by omega⟩
end Go.Proofs.Ytdodheahckpkfaa
