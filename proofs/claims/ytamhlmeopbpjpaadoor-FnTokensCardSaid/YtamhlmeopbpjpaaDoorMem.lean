/- Slices of integers in memory: one word for reading them (Sl), one for owning them (Own), how both are kept while the world goes on, and the laws of append and make in these words. No program in sight. -/
import Derived.Test.YtamhlmeopbpjpaaDoorBase
import Derived.WalkKit
import Derived.Below
import Derived.Lib.Hide
import Derived.Laws.AppendOwnNone
import Derived.Deep.QuietTactic
namespace Go.Proofs.YtamhlmeopbpjpaaDoor
open Go.RowKit

theorem bel_seq {w w1 w2 : World} (h : Below w.heap.size w w1) (h2 : Below w1.heap.size w1 w2) : Below w.heap.size w w2 := h.trans (h2.mono h.size)
theorem bel_al {w w1 : World} (h : Below w.heap.size w w1) (o : Obj) : Below w.heap.size w (w1.alloc o) := h.alloc h.size o
theorem bel_drewN {w W : World} (h : Below w.heap.size w W) (n : Nat) : Below w.heap.size w (W.drewN n) := ⟨h.os, h.tape, h.output, h.size, h.block⟩
theorem bcell {W w1 : World} (hb : Below W.heap.size W w1) : (∀ b o, b < W.heap.size → w1.cell? ⟨b, o, none⟩ = W.cell? ⟨b, o, none⟩) ∧ (∀ b o, b < W.heap.size → w1.frozen? ⟨b, o, none⟩ = W.frozen? ⟨b, o, none⟩) :=
  ⟨fun b o h => hb.cell (p := ⟨b, o, none⟩) h, fun b o h => hb.frozen (p := ⟨b, o, none⟩) h⟩
theorem bel_gr {w w1 w2 : World} (h : Below w.heap.size w w1) (h2 : Below w.heap.size w1 w2) : Below w.heap.size w w2 := h.trans h2

/-- the value reads as the list of integers (nil reads as the empty list) -/
def Sl (k : IntKind) (w : World) (v : Value) (l : List Int) : Prop :=
  (l = [] ∧ ∃ a cap, v = .slice a 0 cap ∧ cap ≤ maxLen ∧ (a = none → cap = 0)) ∨
  ∃ b off cap, v = .slice (some ⟨b, off, none⟩) l.length cap ∧ l.length ≤ cap ∧ cap ≤ maxLen ∧ b < w.heap.size ∧ ∀ i, i < l.length → w.cell? ⟨b, off + i, none⟩ = some (.int k (l.getD i 0))

theorem Sl.nil (k : IntKind) (w : World) : Sl k w (.slice none 0 0) [] := .inl ⟨rfl, none, 0, rfl, by simp [maxLen], fun _ => rfl⟩

theorem Sl.below {k : IntKind} {w w' : World} {v : Value} {l : List Int} (h : Sl k w v l) (hb : Below w.heap.size w w') : Sl k w' v l := by
  rcases h with h | ⟨b, off, cap, rfl, h1, h2, h3, h4⟩
  · exact .inl h
  · exact .inr ⟨b, off, cap, rfl, h1, h2, Nat.lt_of_lt_of_le h3 hb.size, fun i hi => (hb.cell (p := ⟨b, off + i, none⟩) h3).trans (h4 i hi)⟩
theorem Sl.drew {k : IntKind} {w : World} {v : Value} {l : List Int} (h : Sl k w v l) : Sl k w.drew v l := h.below (Below.refl _ _).drew
theorem Sl.alloc {k : IntKind} {w : World} {v : Value} {l : List Int} (h : Sl k w v l) (o : Obj) : Sl k (w.alloc o) v l := h.below ((Below.refl _ _).alloc (Nat.le_refl _) o)
/-- a slice's length is within the machine's -/
theorem Sl.max {k : IntKind} {w : World} {v : Value} {l : List Int} (h : Sl k w v l) : l.length ≤ maxLen := by
  rcases h with ⟨rfl, _⟩ | ⟨b, off, cap, rfl, h1, h2, _⟩
  · simp [maxLen]
  · omega
theorem Sl.len {k : IntKind} {w : World} {a : Option Addr} {n c : Nat} {l : List Int} (h : Sl k w (.slice a n c) l) : n = l.length := by
  rcases h with ⟨rfl, a, cap, h, _⟩ | ⟨b, off, cap, h, _⟩
  · simp only [Value.slice.injEq] at h; simpa using h.2.1
  · simp only [Value.slice.injEq] at h; exact h.2.1
/-- the literal slice that the walk lays -/
theorem Sl.lit (k : IntKind) (w : World) (e : TypeId) (l : List Int) (hm : l.length ≤ maxLen) :
    Sl k (w.alloc (.cells (l.map (Value.int k)).toArray e)) (.slice (some ⟨w.heap.size, 0, none⟩) l.length l.length) l := by
  refine .inr ⟨w.heap.size, 0, l.length, rfl, Nat.le_refl _, hm, by simp, fun i hi => ?_⟩
  rw [cell_of_row _ _ _ _ _ _ (heap_alloc_new w _)]
  simp [List.getElem?_eq_getElem hi]

/-- the slice value lies at the head of a row of the call's own, from block 'base' on, and holds the list -/
def Own (k : IntKind) (e : TypeId) (base : Nat) (w : World) (ao : Option Addr) (N cap : Nat) (l : List Int) : Prop :=
  l.length = N ∧ w.ownsRow base e 1 (.slice ao N cap) N (l.map (Value.int k))
theorem Own.len {k : IntKind} {e : TypeId} {base : Nat} {w : World} {ao : Option Addr} {N cap : Nat} {l : List Int} (h : Own k e base w ao N cap l) : N = l.length := h.1.symm
theorem Own.sl {k : IntKind} {e : TypeId} {base : Nat} {w : World} {ao : Option Addr} {N cap : Nat} {l : List Int} (h : Own k e base w ao N cap l) : Sl k w (.slice ao N cap) l := by
  obtain ⟨rfl, h⟩ := h
  have h0 := h
  obtain ⟨hl, h⟩ := h
  rcases h with ⟨h, h0⟩ | ⟨g, cap', cur, h, hb, hg, hn, hm, hs, ht⟩
  · simp only [Value.slice.injEq] at h
    obtain ⟨rfl, h, rfl⟩ := h
    exact .inl ⟨List.length_eq_zero_iff.1 h, none, 0, by rw [h], by simp [maxLen], fun _ => rfl⟩
  · simp only [Value.slice.injEq] at h
    obtain ⟨rfl, _, rfl⟩ := h
    refine .inr ⟨g, 0, cap, rfl, hn, hm, (Array.getElem?_eq_some_iff.1 hg).1, fun i hi => ?_⟩
    have hc := h0.cellAt i (by omega)
    rw [Nat.zero_add, hc]
    simp [List.getElem?_eq_getElem hi]
theorem Own.below {k : IntKind} {e : TypeId} {base : Nat} {w w' : World} {ao : Option Addr} {N cap : Nat} {l : List Int} (h : Own k e base w ao N cap l) (hb : Below w.heap.size w w') : Own k e base w' ao N cap l :=
  ⟨h.1, h.2.kept (row := none) ⟨hb.os, hb.tape, hb.output, hb.size, fun i hi _ => hb.block i hi⟩ (by cases hv : (Value.slice ao N cap).ownBlock <;> simp)⟩
theorem Own.alloc {k : IntKind} {e : TypeId} {base : Nat} {w : World} {ao : Option Addr} {N cap : Nat} {l : List Int} (h : Own k e base w ao N cap l) (o : Obj) : Own k e base (w.alloc o) ao N cap l := ⟨h.1, h.2.alloc o⟩
theorem Own.nil (k : IntKind) (e : TypeId) (base : Nat) (w : World) : Own k e base w none 0 0 [] := ⟨rfl, World.ownsRow_nil _ _ _ _⟩
theorem Own.lit (k : IntKind) (e : TypeId) (base : Nat) (w : World) (l : List Int) (hm : l.length ≤ maxLen) (hb : base ≤ w.heap.size) :
    Own k e base (w.alloc (.cells (l.map (Value.int k)).toArray e)) (some ⟨w.heap.size, 0, none⟩) l.length l.length l := by
  have := World.ownsRow_lit (base := base) (e := e) (size := 1) w (l.map (Value.int k)).toArray l.length hb hm (by simp)
  exact ⟨rfl, by simpa using this⟩
/-- owned from a lower block on -/
theorem Own.mono {k : IntKind} {e : TypeId} {base base' : Nat} {w : World} {ao : Option Addr} {N cap : Nat} {l : List Int} (h : Own k e base w ao N cap l) (hb : base' ≤ base) : Own k e base' w ao N cap l := by
  refine ⟨h.1, h.2.1, ?_⟩
  rcases h.2.2 with h | ⟨g, cap', cur, hv, hg, r⟩
  · exact .inl h
  · exact .inr ⟨g, cap', cur, hv, by omega, r⟩

/-- the row's block, if there is one -/
def ownB (ao : Option Addr) : Option Nat := ao.map (·.block)
theorem ownB_slice (ao : Option Addr) (N cap : Nat) : (Value.slice ao N cap).ownBlock = ownB ao := by cases ao <;> rfl

section
variable {P : Program} {w : World} {ops : Array Oper} {rest : List Oper} {o : Oper} {a : Act} {Q : Exit → Act → World → Prop}
/-- 'append(s, x...)', s of the call's own, x any slice that can be read, nil too -/
theorem wpList_app (hgd : o.guard = none) (s x : Operand) (t : TypeId) (ho : o.op = .call { callee := .builtin .append, args := #[s, x], argTypes := #[t, t] })
    (base : Nat) (e : TypeId) (k : IntKind) (z : Value) (bytes : Nat) (ht : P.underlying t = some (.slice e)) (hi : (P.info? e).map (fun i => (i.zero, i.size, i.bytes)) = some (some z, 1, bytes)) (hzs : z.cells.size = 1) (hby : bytes ≤ 8)
    (ao : Option Addr) (N cap : Nat) (l : List Int) (hs : a.eval s = .slice ao N cap) (hown : Own k e base w ao N cap l)
    (vx : Value) (m : List Int) (hx : a.eval x = vx) (hsl : Sl k w vx m) (hlen : N + m.length ≤ 1099511627776) (hbase : base ≤ w.heap.size)
    (h : ∀ ao' N' cap' w', N' ≤ N + m.length → N + m.length ≤ N' → Own k e base w' ao' N' cap' (l ++ m) → w.grownBy w' (ownB ao) → Below base w w' → wpList P ops Q rest (a.put o.dst (.slice ao' N' cap')) w') : wpList P ops Q (o :: rest) a w := by
  obtain ⟨i, hi1, hi2, hi3, hi4⟩ := info_parts hi
  suffices grow : ∀ (ad : Addr) (c : Nat), a.eval x = .slice (some ad) m.length c → (∀ i, i < m.length → w.cell? (ad.add i) = some (.int k (m.getD i 0))) → wpList P ops Q (o :: rest) a w by
    rcases hsl with ⟨rfl, ad, c, rfl, hc, hnone⟩ | ⟨b, off, c, rfl, h1, h2, h3, h4⟩
    · cases ad with
      | none =>
        obtain rfl := hnone rfl
        refine wpList_append_own_none hgd s x t ho base e i 1 ht hi1 _ N _ hs hown.2 hx ?_
        exact h ao N cap w (by simp) (by simp) (by simpa using hown) (World.grownBy.refl _ _) (Below.refl _ _)
      | some ad => exact grow ad c hx (fun i hi => by simp at hi)
    · exact grow ⟨b, off, none⟩ c hx (fun i hi => by rw [Addr.add_lit]; exact h4 i hi)
  intro ad c hx h4
  refine wpList_append_own w hgd s x t ho base e i z 1 bytes ht hi1 hi2 hi3 hi4 hzs (by omega) _ N _ hs hown.2 ad m.length c (m.map (Value.int k)) hx (by simp) ?_ ?_ ?_ ?_ hbase ?_
  · intro j u hj
    simp only [List.getElem?_map, Option.map_eq_some_iff] at hj
    obtain ⟨n, hn, rfl⟩ := hj
    have hj' : j < m.length := (List.getElem?_eq_some_iff.1 hn).1
    have := h4 j hj'
    rw [show m.getD j 0 = n by simp [hn]] at this
    exact this
  · intro u hu
    obtain ⟨n, _, rfl⟩ := List.mem_map.1 hu
    rfl
  · unfold maxLen; omega
  · calc (N + m.length) * bytes ≤ 1099511627776 * 8 := Nat.mul_le_mul hlen hby
      _ ≤ 140737488355328 := by omega
  · intro v' w' hown' hg _
    have hb : Below base w w' := (Below.refl _ _).grown hg hbase (fun k hk => (hown.2.lt k hk).1)
    rw [ownB_slice] at hg
    have hl : (l ++ m).length = N + m.length := by rw [List.length_append, hown.1]
    rcases hown'.2 with ⟨hv, h0⟩ | ⟨g, cap', cur, hv, _⟩
    · subst hv
      rw [← List.map_append] at hown'
      exact h none 0 0 w' (by omega) (by omega) ⟨by rw [hl]; exact h0, by rw [h0] at hown'; exact hown'⟩ hg hb
    · subst hv
      rw [← List.map_append] at hown'
      exact h _ (N + m.length) cap' w' (Nat.le_refl _) (Nat.le_refl _) ⟨hl, hown'⟩ hg hb
end
end Go.Proofs.YtamhlmeopbpjpaaDoor
