/- How facts on cells are carried through the calls of a law. No program in sight. -/
import Derived.Test.YtamhlmeopbpjpaaDoorOwn
namespace Go.Proofs.YtamhlmeopbpjpaaDoor
open Go.RowKit

theorem later0 {W W' : World} (hb : Below W.heap.size W W') {a : Addr} {u : Value} (h : W.cell? a = some u) : W'.cell? a = some u := (hb.cell (World.block_lt_of_cell? W a h)).trans h
theorem later1 {W W' : World} {o : Obj} (hb : Below (W.alloc o).heap.size (W.alloc o) W') {a : Addr} {u : Value} (h : W.cell? a = some u) : W'.cell? a = some u := later0 hb (later0 (bel_al (Below.refl _ _) o) h)
theorem later2 {W W' : World} {o o2 : Obj} (hb : Below ((W.alloc o).alloc o2).heap.size ((W.alloc o).alloc o2) W') {a : Addr} {u : Value} (h : W.cell? a = some u) : W'.cell? a = some u := later1 hb (later0 (bel_al (Below.refl _ _) o) h)
theorem later3 {W W' : World} {o o2 o3 : Obj} (hb : Below (((W.alloc o).alloc o2).alloc o3).heap.size (((W.alloc o).alloc o2).alloc o3) W') {a : Addr} {u : Value} (h : W.cell? a = some u) : W'.cell? a = some u := later2 hb (later0 (bel_al (Below.refl _ _) o) h)
/-- a cell's fact behind writes to one other row -/
theorem laterG {W W' : World} {row : Option Nat} (hg : W.grownBy W' row) {a : Addr} {u : Value} (h : W.cell? a = some u) (hne : some a.block ≠ row) : W'.cell? a = some u := hg.cell h hne
theorem bel2 {p0 p1 e : Prop} (h : p0 ∧ p1 ∧ e) : e := h.2.2
/-- 2 cells, kept while calls make memory -/
theorem keep2 {W W' : World} {a0 a1 : Addr} {u0 u1 : Value} (hb : Below W.heap.size W W') (h0 : W.cell? a0 = some u0) (h1 : W.cell? a1 = some u1) :
    W'.cell? a0 = some u0 ∧ W'.cell? a1 = some u1 ∧ Below W.heap.size W W' := ⟨later0 hb h0, later0 hb h1, hb⟩
theorem bel3 {p0 p1 p2 e : Prop} (h : p0 ∧ p1 ∧ p2 ∧ e) : e := h.2.2.2
/-- 3 cells, kept while calls make memory -/
theorem keep3 {W W' : World} {a0 a1 a2 : Addr} {u0 u1 u2 : Value} (hb : Below W.heap.size W W') (h0 : W.cell? a0 = some u0) (h1 : W.cell? a1 = some u1) (h2 : W.cell? a2 = some u2) :
    W'.cell? a0 = some u0 ∧ W'.cell? a1 = some u1 ∧ W'.cell? a2 = some u2 ∧ Below W.heap.size W W' := ⟨later0 hb h0, later0 hb h1, later0 hb h2, hb⟩
theorem bel4 {p0 p1 p2 p3 e : Prop} (h : p0 ∧ p1 ∧ p2 ∧ p3 ∧ e) : e := h.2.2.2.2
/-- 4 cells, kept while calls make memory -/
theorem keep4 {W W' : World} {a0 a1 a2 a3 : Addr} {u0 u1 u2 u3 : Value} (hb : Below W.heap.size W W') (h0 : W.cell? a0 = some u0) (h1 : W.cell? a1 = some u1) (h2 : W.cell? a2 = some u2) (h3 : W.cell? a3 = some u3) :
    W'.cell? a0 = some u0 ∧ W'.cell? a1 = some u1 ∧ W'.cell? a2 = some u2 ∧ W'.cell? a3 = some u3 ∧ Below W.heap.size W W' := ⟨later0 hb h0, later0 hb h1, later0 hb h2, later0 hb h3, hb⟩
theorem bel6 {p0 p1 p2 p3 p4 p5 e : Prop} (h : p0 ∧ p1 ∧ p2 ∧ p3 ∧ p4 ∧ p5 ∧ e) : e := h.2.2.2.2.2.2
/-- 6 cells, kept while calls make memory -/
theorem keep6 {W W' : World} {a0 a1 a2 a3 a4 a5 : Addr} {u0 u1 u2 u3 u4 u5 : Value} (hb : Below W.heap.size W W') (h0 : W.cell? a0 = some u0) (h1 : W.cell? a1 = some u1) (h2 : W.cell? a2 = some u2) (h3 : W.cell? a3 = some u3) (h4 : W.cell? a4 = some u4) (h5 : W.cell? a5 = some u5) :
    W'.cell? a0 = some u0 ∧ W'.cell? a1 = some u1 ∧ W'.cell? a2 = some u2 ∧ W'.cell? a3 = some u3 ∧ W'.cell? a4 = some u4 ∧ W'.cell? a5 = some u5 ∧ Below W.heap.size W W' := ⟨later0 hb h0, later0 hb h1, later0 hb h2, later0 hb h3, later0 hb h4, later0 hb h5, hb⟩
theorem bel8 {p0 p1 p2 p3 p4 p5 p6 p7 e : Prop} (h : p0 ∧ p1 ∧ p2 ∧ p3 ∧ p4 ∧ p5 ∧ p6 ∧ p7 ∧ e) : e := h.2.2.2.2.2.2.2.2
/-- 8 cells, kept while calls make memory -/
theorem keep8 {W W' : World} {a0 a1 a2 a3 a4 a5 a6 a7 : Addr} {u0 u1 u2 u3 u4 u5 u6 u7 : Value} (hb : Below W.heap.size W W') (h0 : W.cell? a0 = some u0) (h1 : W.cell? a1 = some u1) (h2 : W.cell? a2 = some u2) (h3 : W.cell? a3 = some u3) (h4 : W.cell? a4 = some u4) (h5 : W.cell? a5 = some u5) (h6 : W.cell? a6 = some u6) (h7 : W.cell? a7 = some u7) :
    W'.cell? a0 = some u0 ∧ W'.cell? a1 = some u1 ∧ W'.cell? a2 = some u2 ∧ W'.cell? a3 = some u3 ∧ W'.cell? a4 = some u4 ∧ W'.cell? a5 = some u5 ∧ W'.cell? a6 = some u6 ∧ W'.cell? a7 = some u7 ∧ Below W.heap.size W W' := ⟨later0 hb h0, later0 hb h1, later0 hb h2, later0 hb h3, later0 hb h4, later0 hb h5, later0 hb h6, later0 hb h7, hb⟩
theorem own_cells {k : IntKind} {e : TypeId} {base : Nat} {w : World} {g N cap : Nat} {l : List Int} (h : Own k e base w (some ⟨g, 0, none⟩) N cap l) {b o : Nat} (hb : b < base) (u : Value) : Own k e base (w.setCell ⟨b, o, none⟩ u) (some ⟨g, 0, none⟩) N cap l :=
  h.grown (row := some b) ⟨rfl, rfl, rfl, by simp [World.setCell], fun i _ hne => Below.heap_setCell _ _ _ _ (fun e => hne (by rw [e]))⟩ (.inr (by simp [ownB]; have := h.blk.1; omega))
end Go.Proofs.YtamhlmeopbpjpaaDoor
