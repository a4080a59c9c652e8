/- Parts of slices. No program in sight. -/
import Derived.Test.YtelcpihbdgikfaaMem
namespace Go.Proofs.Ytelcpihbdgikfaa
open Go.RowKit

theorem Sl.take {k : IntKind} {w : World} {b off n c : Nat} {l : List Int} (h : Sl k w (.slice (some ⟨b, off, none⟩) n c) l) {j : Nat} (hj : j ≤ n) : Sl k w (.slice (some ⟨b, off, none⟩) j c) (l.take j) := by
  have hn := h.len
  rcases h with ⟨h0, a, cap, hv, hc, hz⟩ | ⟨b', off', cap, hv, h1, h2, h3, h4⟩
  · simp only [Value.slice.injEq] at hv
    obtain ⟨hv1, hv2, rfl⟩ := hv
    obtain rfl : j = 0 := by omega
    exact .inl ⟨by simp, some ⟨b, off, none⟩, c, rfl, hc, by simp⟩
  · simp only [Value.slice.injEq, Option.some.injEq, Addr.mk.injEq] at hv
    obtain ⟨⟨rfl, rfl, _⟩, hv2, rfl⟩ := hv
    have hl : (l.take j).length = j := by rw [List.length_take]; omega
    refine .inr ⟨b, off, c, by rw [hl], by omega, h2, h3, fun i hi => ?_⟩
    rw [hl] at hi
    rw [h4 i (by omega)]
    congr 2
    simp [List.getD, hi]
theorem Sl.cap {k : IntKind} {w : World} {a : Option Addr} {n c : Nat} {l : List Int} (h : Sl k w (.slice a n c) l) : n ≤ c ∧ c ≤ 9223372036854775807 := by
  rcases h with ⟨h0, a, cap, hv, hc, hz⟩ | ⟨b', off', cap, hv, h1, h2, h3, h4⟩
  · simp only [Value.slice.injEq] at hv
    unfold maxLen at hc
    omega
  · simp only [Value.slice.injEq] at hv
    unfold maxLen at h2
    omega
end Go.Proofs.Ytelcpihbdgikfaa
