/- More on owned rows: reading and writing a cell, making one; plain lemmas on lists. No program in sight. -/
import Derived.Test.YtamhlmeopbpjpaaDoorMem
import Derived.Test.YtamhlmeopbpjpaaDoorHashPlain
import Derived.OwnWalk
namespace Go.Proofs.YtamhlmeopbpjpaaDoor
open Go.RowKit

theorem Own.cellAt {k : IntKind} {e : TypeId} {base : Nat} {w : World} {g N cap : Nat} {l : List Int} (h : Own k e base w (some ⟨g, 0, none⟩) N cap l) {j : Nat} (hj : j < N) : w.cell? ⟨g, j, none⟩ = some (.int k (l.getD j 0)) := by
  have := h.2.cellAt j (by omega)
  rw [this]
  have hl : j < l.length := by rw [h.1]; exact hj
  simp [List.getElem?_eq_getElem hl]
theorem Own.frozenAt {k : IntKind} {e : TypeId} {base : Nat} {w : World} {g N cap : Nat} {l : List Int} (h : Own k e base w (some ⟨g, 0, none⟩) N cap l) (j : Nat) : w.frozen? ⟨g, j, none⟩ = false := h.2.frozenAt j
theorem Own.stored {k : IntKind} {e : TypeId} {base : Nat} {w : World} {g N cap : Nat} {l : List Int} (h : Own k e base w (some ⟨g, 0, none⟩) N cap l) (j : Nat) (x : Int) :
    Own k e base (w.setCell ⟨g, j, none⟩ (.int k x)) (some ⟨g, 0, none⟩) N cap (l.set j x) ∧ w.grownBy (w.setCell ⟨g, j, none⟩ (.int k x)) (some g) := by
  have := h.2.stored j (.int k x)
  refine ⟨⟨by rw [List.length_set]; exact h.1, ?_⟩, this.2⟩
  rw [List.map_set]
  exact this.1
theorem Own.blk {k : IntKind} {e : TypeId} {base : Nat} {w : World} {g N cap : Nat} {l : List Int} (h : Own k e base w (some ⟨g, 0, none⟩) N cap l) : base ≤ g ∧ g < w.heap.size := h.2.lt g rfl
theorem Own.shape {k : IntKind} {e : TypeId} {base : Nat} {w : World} {ao : Option Addr} {N cap : Nat} {l : List Int} (h : Own k e base w ao N cap l) : (ao = none ∧ N = 0 ∧ cap = 0) ∨ ∃ g, ao = some ⟨g, 0, none⟩ ∧ base ≤ g ∧ g < w.heap.size := by
  rcases h.2.2 with ⟨hv, h0⟩ | ⟨g, cap', cur, hv, hb, hg, _⟩
  · simp only [Value.slice.injEq] at hv; exact .inl ⟨hv.1, h0, hv.2.2⟩
  · simp only [Value.slice.injEq] at hv; exact .inr ⟨g, hv.1, hb, (Array.getElem?_eq_some_iff.1 hg).1⟩
theorem Own.capMax {k : IntKind} {e : TypeId} {base : Nat} {w : World} {ao : Option Addr} {N cap : Nat} {l : List Int} (h : Own k e base w ao N cap l) : N ≤ cap ∧ cap ≤ maxLen := by
  rcases h.2.2 with ⟨hv, h0⟩ | ⟨g, cap', cur, hv, hb, hg, hn, hm, _⟩
  · simp only [Value.slice.injEq] at hv; simp [hv.2.2, h0, maxLen]
  · simp only [Value.slice.injEq] at hv; rw [hv.2.2]; exact ⟨hn, hm⟩
/-- kept while other rows are written -/
theorem Own.grown {k : IntKind} {e : TypeId} {base : Nat} {w w' : World} {ao : Option Addr} {N cap : Nat} {l : List Int} {row : Option Nat} (h : Own k e base w ao N cap l) (hg : w.grownBy w' row) (hne : ownB ao = none ∨ ownB ao ≠ row) : Own k e base w' ao N cap l :=
  ⟨h.1, h.2.kept hg (by rw [ownB_slice]; exact hne)⟩
theorem Sl.grown {k : IntKind} {w w' : World} {v : Value} {l : List Int} {row : Option Nat} (h : Sl k w v l) (hg : w.grownBy w' row) (hne : ∀ b off n c, v = .slice (some ⟨b, off, none⟩) n c → some b ≠ row) : Sl k w' v l := by
  rcases h with h | ⟨b, off, cap, rfl, h1, h2, h3, h4⟩
  · exact .inl h
  · exact .inr ⟨b, off, cap, rfl, h1, h2, Nat.lt_of_lt_of_le h3 hg.size, fun i hi => hg.cell (h4 i hi) (hne _ _ _ _ rfl)⟩
theorem grown_below {w w' : World} {row : Option Nat} {B : Nat} (hg : w.grownBy w' row) (hB : B ≤ w.heap.size) (hr : ∀ k, row = some k → B ≤ k) : Below B w w' := (Below.refl _ _).grown hg hB hr
theorem below_grown {w w' : World} (hb : Below w.heap.size w w') (row : Option Nat) : w.grownBy w' row := ⟨hb.os, hb.tape, hb.output, hb.size, fun i hi _ => hb.block i hi⟩
theorem grown_trans {a b c : World} {row : Option Nat} (h : a.grownBy b row) (k : b.grownBy c row) : a.grownBy c row :=
  ⟨k.os.trans h.os, k.tape.trans h.tape, k.output.trans h.output, Nat.le_trans h.size k.size, fun i hi hne => (k.block i (Nat.lt_of_lt_of_le hi h.size) hne).trans (h.block i hi hne)⟩

/-- 'make([]T, n)' -/
theorem wpList_mk {P : Program} {w : World} {ops : Array Oper} {rest : List Oper} {o : Oper} {a : Act} {Q : Exit → Act → World → Prop} (hg : o.guard = none) (l c : Operand) (t : TypeId) (hop : o.op = Op.makeSlice t l c)
    (base : Nat) (e : TypeId) (k : IntKind) (bytes : Nat) (ht : P.underlying t = some (.slice e)) (hi : (P.info? e).map (fun i => (i.zero, i.size, i.bytes)) = some (some (.int k 0), 1, bytes)) (hby : bytes ≤ 8)
    (kl kc : IntKind) (n : Nat) (hl : a.eval l = .int kl n) (hc : a.eval c = .int kc n) (hn : n ≤ 1099511627776) (hb : base ≤ w.heap.size)
    (h : ∀ w', Own k e base w' (some ⟨w.heap.size, 0, none⟩) n n (List.replicate n 0) → Below w.heap.size w w' → wpList P ops Q rest (a.put o.dst (.slice (some ⟨w.heap.size, 0, none⟩) n n)) w') : wpList P ops Q (o :: rest) a w := by
  obtain ⟨i, hi1, hi2, hi3, hi4⟩ := info_parts hi
  refine wpList_make_full w hg l c t hop base e i (.int k 0) 1 ht hi1 hi2 hi3 kl kc n n n hl hc rfl rfl ?_ (by unfold maxLen; omega) hb ?_
  · rw [hi4]
    calc bytes * n ≤ 8 * 1099511627776 := Nat.mul_le_mul hby hn
      _ ≤ 281474976710656 := by omega
  · intro w' hown hgr
    refine h w' ⟨by simp, ?_⟩ (grown_below hgr (Nat.le_refl _) (fun k hk => by cases hk))
    have e1 : (madeCells (Value.int k 0).cells (n * 1)).toList = (List.replicate n (0 : Int)).map (Value.int k) := by
      rw [Nat.mul_one, show (Value.int k 0).cells = #[.int k 0] from rfl, toList_madeCells_one, List.map_replicate]
    rw [← e1]
    exact hown

/-! ### lists -/
theorem copy_step (l : List Int) (k N : Nat) (h : k < l.length) (hN : l.length = N) : (l.take k ++ List.replicate (N - k) 0).set k (l.getD k 0) = l.take (k + 1) ++ List.replicate (N - (k + 1)) 0 := by
  have hk : (l.take k).length = k := by rw [List.length_take]; omega
  rw [List.set_append_right _ _ (by omega), hk, Nat.sub_self, take_succ_getD l k h, show N - k = (N - (k + 1)) + 1 by omega, List.replicate_succ, List.set_cons_zero, List.append_assoc]
  rfl
theorem eq_of_getD {l m : List Int} (h : l.length = m.length) (he : ∀ i, i < l.length → l.getD i 0 = m.getD i 0) : l = m := by
  apply List.ext_getElem h
  intro i h1 h2
  have := he i h1
  simpa [List.getD, h1, h2] using this
/-- the marks that a mutation writes; f: what becomes of a number in an element -/
def marks (f : Int → Int) (k : Int) (n : Nat) : List Int := (List.range n).map fun (i : Nat) => f (k + (i : Int))
theorem marks_length (f : Int → Int) (k : Int) (n : Nat) : (marks f k n).length = n := by simp [marks]
theorem marks_getD (f : Int → Int) (k : Int) {n i : Nat} (h : i < n) : (marks f k n).getD i 0 = f (k + i) := by simp [marks, h]
theorem mark_step (f : Int → Int) (l : List Int) (j : Int) (k : Nat) (h : k < l.length) : ((marks f j k) ++ l.drop k).set k (f (j + k)) = marks f j (k + 1) ++ l.drop (k + 1) := by
  rw [List.set_append_right _ _ (by rw [marks_length]; exact Nat.le_refl _), marks_length, Nat.sub_self, List.drop_eq_getElem_cons h, List.set_cons_zero]
  unfold marks
  rw [List.range_succ, List.map_append, List.append_assoc]
  rfl
def cvIntS (x : Int) : Int := x
def cvByteS (x : Int) : Int := x % 256
end Go.Proofs.YtamhlmeopbpjpaaDoor
