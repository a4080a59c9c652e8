/- The plain law of merging: what is in the merged list, and how many there are. No program in sight. -/
import Derived.Test.YtdodheahckpkfaaSpentPlain
namespace Go.Proofs.Ytdodheahckpkfaa
theorem mergeTo_law {a b : List Int} (ha : ascI a 0 100000 = true) (hb : ascI b 0 100000 = true) (hl : a.length ≤ 40) : ∀ k, k ≤ b.length →
    (∀ x ∈ (mergeTo a b k).1, x ∈ a ∨ ∃ j, j < k ∧ x = b.getD j 0) ∧ (∀ x ∈ a, x ∈ (mergeTo a b k).1) ∧ ascI (mergeTo a b k).1 0 100000 = true ∧ (mergeTo a b k).1.length = min 40 (a.length + k - (mergeTo a b k).2) ∧ (mergeTo a b k).2 ≤ k := by
  have hb' := ascI_iff.1 hb
  intro k
  induction k with
  | zero => intro _; rw [mergeTo_zero]; exact ⟨fun x hx => .inl hx, fun x hx => hx, ha, by dsimp only; omega, Nat.le_refl _⟩
  | succ k ih =>
    intro hk
    obtain ⟨h1, h2, h3, h4, h5⟩ := ih (by omega)
    have hkb : k < b.length := by omega
    have hm : b.getD k 0 ∈ b := by rw [Go.Lib.getD_lt b k hkb]; exact List.getElem_mem hkb
    obtain ⟨r0, r1⟩ := hb'.1 _ hm
    rw [mergeTo_succ hkb]
    unfold mergeStep
    cases hme : memB a (b.getD k 0) with
    | true =>
      rw [if_pos rfl]
      refine ⟨fun x hx => ?_, h2, h3, by dsimp only; omega, by dsimp only; omega⟩
      rcases h1 x hx with h | ⟨j, hj, e⟩
      · exact .inl h
      · exact .inr ⟨j, by omega, e⟩
    | false =>
      rw [if_neg (by simp)]
      have hna : b.getD k 0 ∉ a := fun h => by rw [(memB_iff _ _).2 h] at hme; cases hme
      by_cases h40 : (mergeTo a b k).1.length < 40
      · rw [if_pos h40]
        have hnm : b.getD k 0 ∉ (mergeTo a b k).1 := fun h => by
          rcases h1 _ h with h | ⟨j, hj, e⟩
          · exact hna h
          · have := List.pairwise_iff_getElem.1 hb'.2 j k (by omega) hkb hj
            rw [Go.Lib.getD_lt b k hkb, Go.Lib.getD_lt b j (by omega)] at e
            omega
        refine ⟨fun x hx => ?_, fun x hx => mem_insI.2 (.inr (h2 x hx)), ascI_ins h3 r0 r1 hnm, by dsimp only; rw [insI_length]; omega, by dsimp only; omega⟩
        rcases mem_insI.1 hx with e | hx
        · exact .inr ⟨k, by omega, e⟩
        · rcases h1 x hx with h | ⟨j, hj, e⟩
          · exact .inl h
          · exact .inr ⟨j, by omega, e⟩
      · rw [if_neg h40]
        refine ⟨fun x hx => ?_, h2, h3, by omega, by omega⟩
        rcases h1 x hx with h | ⟨j, hj, e⟩
        · exact .inl h
        · exact .inr ⟨j, by omega, e⟩
/-- all that is said of a merged list -/
theorem merge_law {e : Int} {a b : List Int} (ha : validSpentI e a = true) (hb : validSpentI e b = true) :
    (∀ x ∈ (mergeTo a b b.length).1, memB a x = true ∨ memB b x = true) ∧ (∀ x ∈ a, memB (mergeTo a b b.length).1 x = true) ∧ validSpentI e (mergeTo a b b.length).1 = true ∧ (mergeTo a b b.length).1.length = min 40 (a.length + b.length - (mergeTo a b b.length).2) ∧ (mergeTo a b b.length).2 ≤ b.length := by
  have va := validSpent_iff.1 ha
  have vb := validSpent_iff.1 hb
  obtain ⟨h1, h2, h3, h4, h5⟩ := mergeTo_law (ascI_iff.2 va.2.2) (ascI_iff.2 vb.2.2) va.2.1 b.length (Nat.le_refl _)
  refine ⟨fun x hx => ?_, fun x hx => (memB_iff _ _).2 (h2 x hx), validSpent_iff.2 ⟨va.1, by omega, ascI_iff.1 h3⟩, h4, h5⟩
  rcases h1 x hx with h | ⟨j, hj, e⟩
  · exact .inl ((memB_iff _ _).2 h)
  · exact .inr ((memB_iff _ _).2 (by rw [e, Go.Lib.getD_lt b j hj]; exact List.getElem_mem hj))
end Go.Proofs.Ytdodheahckpkfaa
