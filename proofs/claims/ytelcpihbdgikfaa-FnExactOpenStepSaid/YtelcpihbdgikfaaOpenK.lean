/- How a slice of skipped keys that came in as an argument is opened. No program in sight. -/
import Derived.Test.YtelcpihbdgikfaaOpen
import Derived.Test.YtelcpihbdgikfaaSkip
import Derived.Deep.SlicePairs
namespace Go.Proofs.Ytelcpihbdgikfaa
open Go.ChangeShapes Go.WideShapes Go.ChangeAt Go.RowKit Go.Joins Go.Deep

section
variable {H : Type} {enc : TypeId × Value → H} {P : Program} {w : World} {base : Nat} {spare : Nat → Bool} {held : Bool}
/-- the flat list of n pairs of values -/
def flatK (V0 V1 : Nat → Value) (n : Nat) : List Int := (List.range (2 * n)).map fun j => if j % 2 = 0 then intOf (V0 (j / 2)) else intOf (V1 (j / 2))
theorem flatK_getD (V0 V1 : Nat → Value) {n j : Nat} (h : j < 2 * n) : (flatK V0 V1 n).getD j 0 = if j % 2 = 0 then intOf (V0 (j / 2)) else intOf (V1 (j / 2)) := by
  simp [flatK, h]
theorem skOfRead {t e : TypeId} {f0 f1 : Field} {fuel : Nat} {v : Value} {x : DataW H × List MemPlace} (ht : P.underlying t = some (.slice e)) (he : P.underlying e = some (.struct #[f0, f1]))
    (i0 : P.underlying f0.type = some (.int .i64)) (i1 : P.underlying f1.type = some (.int .i64)) (ce : P.cellsOf e = 2) (o0 : f0.offset = 0) (o1 : f1.offset = 1) (c0 : P.cellsOf f0.type = 1) (c1 : P.cellsOf f1.type = 1)
    (h : DataW.trod enc P w base (fun _ => true) held fuel t [v] = some x) (hx : ∀ y ∈ x.2, y.block < w.heap.size) : ∃ n l, Sk w v n l := by
  rcases open_slice_pairs ht he ce o0 o1 c0 c1 h with ⟨hcs, _⟩ | ⟨a, len, cap, m, n, V0, V1, D0, D1, P0, P1, hcs, hb, hl, hm, hmm, rfl, hf⟩
  · simp only [List.cons.injEq, and_true] at hcs
    subst hcs
    exact ⟨0, [], Sk.nil _⟩
  · simp only [List.cons.injEq, and_true] at hcs
    subst hcs
    simp only [if_true] at hmm
    subst hmm
    by_cases h0 : len = 0
    · subst h0
      exact ⟨0, [], rfl, .inl ⟨rfl, some a, m, rfl, hm, by simp⟩⟩
    · obtain ⟨b, off, spot⟩ := a
      have hc0 := (hf 0 (by omega)).1
      have hspot : spot = none := by simpa [Addr.add] using World.cell?_spot hc0
      subst hspot
      have hblk : b < w.heap.size := by simpa [Addr.add] using World.block_lt_of_cell? w _ hc0
      refine ⟨len, flatK V0 V1 len, by simp [flatK], .inr ⟨b, off, m, rfl, hl, hm, hblk, fun i hi => ?_⟩⟩
      rw [flatK_getD V0 V1 hi]
      obtain ⟨g0, g1, t0, t1⟩ := hf (i / 2) (by omega)
      obtain ⟨z0, hz0, _⟩ := intOfRead i0 t0
      obtain ⟨z1, hz1, _⟩ := intOfRead i1 t1
      rw [Addr.add_lit] at g0 g1
      by_cases hp : i % 2 = 0
      · rw [if_pos hp, show off + i = off + i / 2 * 2 by omega, g0, hz0]; rfl
      · rw [if_neg hp, show off + i = off + (i / 2 * 2 + 1) by omega, g1, hz1]; rfl
end
end Go.Proofs.Ytelcpihbdgikfaa
