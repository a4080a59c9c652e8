/- What the laws on merging lean on. -/
import Derived.Test.YtdodheahckpkfaaMerge
import Derived.Test.YtdodheahckpkfaaSpendLaw
namespace Go.Proofs.Ytdodheahckpkfaa
theorem merge_len (ea : Int) (a : List Int) (eb : Int) (b : List Int) (hl : a.length ≤ 1048576) : (mergeI ea a eb b).1.length ≤ 1048576 := by
  unfold mergeI
  split
  · rename_i h
    simp only [Bool.and_eq_true] at h
    obtain ⟨_, h1, _, h2⟩ := validSpent_iff.1 h.1.1
    have := (mergeTo_inv (a := a) (b := b) (sorted_of_strict h2) h1 b.length (Nat.le_refl _)).2.1
    dsimp only
    omega
  · exact hl
end Go.Proofs.Ytdodheahckpkfaa
