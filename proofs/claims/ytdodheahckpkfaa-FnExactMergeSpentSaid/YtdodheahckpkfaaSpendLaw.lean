/- What the laws on spending lean on: where a result and its box lie behind a statement whose order Go leaves open. -/
import Derived.Test.YtdodheahckpkfaaSpend
import Derived.Test.YtdodheahckpkfaaRowIn
namespace Go.Proofs.Ytdodheahckpkfaa
open Go.RowKit
theorem spend_len (e : Int) (l : List Int) (vt : Bool) (x : Int) (hl : l.length ≤ 1048576) : (spendI e l vt x).1.length ≤ 1048576 := by
  unfold spendI
  split
  · split
    · exact hl
    · split
      · dsimp only; rw [insI_length]; omega
      · exact hl
  · exact hl
theorem Two.newD (w : World) (v0 v1 : Value) (e : TypeId) : Two (w.alloc (.cells #[v0, v1] e)).drew w.heap.size v0 v1 := Two.new w v0 v1 e
/-- a list and its epoch lie in the box B, the list in memory made since w1, apart from the box -/
def Res (w1 wx : World) (x : Int) (L : List Int) (s8 : Value) : Prop := ∃ (B : Nat) (ao : Option Addr) (N cap lo hi : Nat), s8 = .pointer (some ⟨B, 0, none⟩) ∧ wx.cell? ⟨B, 0, none⟩ = some (.int .i64 x) ∧ wx.cell? ⟨B, 1, none⟩ = some (.slice ao N cap) ∧ Own .i64 3 w1.heap.size wx ao N cap L ∧ RowIn lo hi ao ∧ w1.heap.size ≤ lo ∧ hi ≤ wx.heap.size ∧ w1.heap.size ≤ B ∧ B < wx.heap.size ∧ (B < lo ∨ hi ≤ B) ∧ Below w1.heap.size w1 wx
theorem res_alloc {w1 w3 w4 : World} {x : Int} {L : List Int} {ao : Option Addr} {N cap base : Nat} (h14 : Below w1.heap.size w1 w4) (hb : w1.heap.size ≤ base) (ho : Own .i64 3 base w4 ao N cap L) (h3 : w3 = w4.alloc (.cells #[.int .i64 x, .slice ao N cap] 27)) : Res w1 w3 x L (.pointer (some ⟨w4.heap.size, 0, none⟩)) := by
  subst h3
  have hz := h14.size
  exact ⟨w4.heap.size, ao, N, cap, base, w4.heap.size, rfl, by simp, by simp, (ho.mono hb).alloc _, ho.rowIn, hb, by simp, hz, by simp, .inr (Nat.le_refl _), bel_al h14 _⟩
theorem res_set {w1 w3 w4 : World} {x : Int} {L : List Int} {ao : Option Addr} {N cap base B : Nat} {u v : Value} (h14 : Below w1.heap.size w1 w4) (hb : w1.heap.size ≤ base) (ho : Own .i64 3 base w4 ao N cap L) (hB : w1.heap.size ≤ B) (hB2 : B < base) (hz4 : B < w4.heap.size) (h0 : w4.cell? ⟨B, 0, none⟩ = some u) (h1 : w4.cell? ⟨B, 1, none⟩ = some v) (h3 : w3 = (w4.setCell ⟨B, 0, none⟩ (.int .i64 x)).setCell ⟨B, 1, none⟩ (.slice ao N cap)) : Res w1 w3 x L (.pointer (some ⟨B, 0, none⟩)) := by
  subst h3
  have hz := h14.size
  refine ⟨B, ao, N, cap, base, w4.heap.size, rfl, by simp [go_sem, *], by simp [go_sem, *], ((ho.cells hB2 _).cells hB2 _).mono hb, ho.rowIn, hb, by simp [World.setCell], hB, by simp [World.setCell]; exact hz4, .inl hB2, (h14.setCell hB _).setCell hB _⟩
end Go.Proofs.Ytdodheahckpkfaa
