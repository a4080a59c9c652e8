/- What the law of ratchets leans on: where a ratchet that was handed back and its box lie behind a statement whose order Go leaves open. -/
import Derived.Test.YtelcpihbdgikfaaProg
import Derived.Test.YtelcpihbdgikfaaRatchetPlain
import Derived.Test.YtelcpihbdgikfaaRatchHelp
import Derived.Test.YtelcpihbdgikfaaCells
namespace Go.Proofs.Ytelcpihbdgikfaa
open Go.RowKit
set_option linter.unusedVariables false

theorem fourB (x : Int) : bytesOk (fourI x) := by
  intro y hy
  simp only [fourI, List.mem_cons, List.not_mem_nil, or_false] at hy
  omega
theorem cellN_bytes (x : Int) (i : Nat) : bytesOk (cellN x i) := by
  unfold cellN sealI
  split
  · exact (encI_ok _ _).append (fourB _)
  · intro y hy; simp at hy
theorem Box3.newD (w : World) (v0 v1 v2 : Value) (e : TypeId) : Box3 (w.alloc (.cells #[v0, v1, v2] e)).drew w.heap.size v0 v1 v2 := Box3.new w v0 v1 v2 e
/-- a ratchet lies in the box B, its kept keys and the bytes in memory made since w1 -/
def ResO (w1 wx : World) (x s : Int) (l body : List Int) (sp bv : Value) : Prop := ∃ (B : Nat) (ao : Option Addr) (N cap : Nat) (bo : Option Addr) (M c2 : Nat), sp = .pointer (some ⟨B, 0, none⟩) ∧ bv = .slice bo M c2 ∧ Box3 wx B (.int .i64 x) (.int .i64 s) (.slice ao N cap) ∧ OwnK w1.heap.size wx ao N cap l ∧ Own .u8 5 w1.heap.size wx bo M c2 body ∧ w1.heap.size ≤ B ∧ Below w1.heap.size w1 wx
theorem resO_alloc {w1 w3 w4 : World} {x s : Int} {l body : List Int} {ao bo : Option Addr} {N cap M c2 base : Nat} (h14 : Below w1.heap.size w1 w4) (hb : w1.heap.size ≤ base) (hk : OwnK base w4 ao N cap l) (hp : Own .u8 5 base w4 bo M c2 body) (h3 : w3 = w4.alloc (.cells #[.int .i64 x, .int .i64 s, .slice ao N cap] 28)) : ResO w1 w3 x s l body (.pointer (some ⟨w4.heap.size, 0, none⟩)) (.slice bo M c2) := by
  subst h3
  exact ⟨w4.heap.size, ao, N, cap, bo, M, c2, rfl, rfl, Box3.new _ _ _ _ _, (hk.mono hb).alloc _, (hp.mono hb).alloc _, h14.size, bel_al h14 _⟩
theorem OwnK.set3 {base : Nat} {w : World} {ao : Option Addr} {N cap : Nat} {l : List Int} (h : OwnK base w ao N cap l) {b : Nat} (hb : b < base) (u0 u1 u2 : Value) : OwnK base (((w.setCell ⟨b, 0, none⟩ u0).setCell ⟨b, 1, none⟩ u1).setCell ⟨b, 2, none⟩ u2) ao N cap l := ((h.cells hb _).cells hb _).cells hb _
theorem Own.set3 {k : IntKind} {e : TypeId} {base : Nat} {w : World} {ao : Option Addr} {N cap : Nat} {l : List Int} (h : Own k e base w ao N cap l) {b : Nat} (hb : b < base) (u0 u1 u2 : Value) : Own k e base (((w.setCell ⟨b, 0, none⟩ u0).setCell ⟨b, 1, none⟩ u1).setCell ⟨b, 2, none⟩ u2) ao N cap l := ((h.cells hb _).cells hb _).cells hb _
theorem resO_set {w1 w3 w4 : World} {x s : Int} {l body : List Int} {ao bo : Option Addr} {N cap M c2 base B : Nat} {u0 u1 u2 : Value} (h14 : Below w1.heap.size w1 w4) (hb : w1.heap.size ≤ base) (hk : OwnK base w4 ao N cap l) (hp : Own .u8 5 base w4 bo M c2 body) (hB : w1.heap.size ≤ B) (hB2 : B < base) (T : Box3 w4 B u0 u1 u2) (h3 : w3 = ((w4.setCell ⟨B, 0, none⟩ (.int .i64 x)).setCell ⟨B, 1, none⟩ (.int .i64 s)).setCell ⟨B, 2, none⟩ (.slice ao N cap)) : ResO w1 w3 x s l body (.pointer (some ⟨B, 0, none⟩)) (.slice bo M c2) := by
  subst h3
  refine ⟨B, ao, N, cap, bo, M, c2, rfl, rfl, ?_, (hk.set3 hB2 _ _ _).mono hb, (hp.set3 hB2 _ _ _).mono hb, hB, ((h14.setCell hB _).setCell hB _).setCell hB _⟩
  obtain ⟨h0, h1, h2, f0, f1, f2⟩ := T
  refine ⟨?_, ?_, ?_, ?_, ?_, ?_⟩ <;> simp [go_sem, *]
/-- what opening step k gives, opened or not -/
theorem RInv.open_any {x : Int} (hx : keyB x = true) {m : Nat} {q seen : List Nat} (h : RInv m q seen) {k : Nat} (hk8 : k < 8) :
    ∃ m' q' seen' body b, RInv m' q' seen' ∧ openStepI (chainN x m) m q.length (keptL x q) k (cellN x k) = ((chainN x m', (m' : Int)), keptL x q', body, b) ∧
      ((b = true ∧ k ∉ seen ∧ seen' = seen ++ [k] ∧ body = [(k : Int)]) ∨ (b = false ∧ k ∈ seen ∧ seen = seen' ∧ m = m' ∧ q = q')) := by
  by_cases hk : k ∈ seen
  · exact ⟨m, q, seen, [], false, h, h.open_no hx hk _, .inr ⟨rfl, hk, rfl, rfl, rfl⟩⟩
  · obtain ⟨m', q', hi, hs⟩ := h.open_yes hx hk8 hk
    exact ⟨m', q', seen ++ [k], [(k : Int)], true, hi, hs, .inl ⟨rfl, hk, rfl, rfl⟩⟩
theorem mem_cast {seen : List Nat} {k : Nat} : decide ((k : Int) ∈ seen.map (fun j : Nat => (j : Int))) = decide (k ∈ seen) := by
  congr 1
  simp only [List.mem_map, eq_iff_iff]
  constructor
  · rintro ⟨j, hj, e⟩
    have : j = k := by omega
    exact this ▸ hj
  · intro h; exact ⟨k, h, rfl⟩
end Go.Proofs.Ytelcpihbdgikfaa
