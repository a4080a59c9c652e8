/- A slice of slices of bytes of the call's own: read, and appended to. -/
import Derived.Test.YtelcpihbdgikfaaProg
import Derived.Test.YtelcpihbdgikfaaStepK
import Derived.Test.YtelcpihbdgikfaaSealR
namespace Go.Proofs.Ytelcpihbdgikfaa
open Go.RowKit
set_option linter.unusedVariables false

theorem infoC : (Try.prog.info? 37).map (fun i => (i.zero, i.size, i.bytes)) = some (some (.slice none 0 0), 1, 24) := by kernel_rfl
/-- N slices; number j holds f j; every row is from block 'base' on -/
def Cells (f : Nat → List Int) (base : Nat) (w : World) (ao : Option Addr) (N cap : Nat) : Prop :=
  ∃ vs : List Value, w.ownsRow base 37 1 (.slice ao N cap) N vs ∧ ∀ j, j < N → ∃ bo M c, vs[j]? = some (.slice bo M c) ∧ Own .u8 5 base w bo M c (f j)
theorem own_ne {base base' : Nat} {w : World} {g : Nat} {bo : Option Addr} {n cap M c : Nat} {vs : List Value} {l : List Int} (h : w.ownsRow base 37 1 (.slice (some ⟨g, 0, none⟩) n cap) n vs) (ho : Own .u8 5 base' w bo M c l) : ownB bo = none ∨ ownB bo ≠ some g := by
  rcases ho.shape with ⟨rfl, _⟩ | ⟨b, rfl, _, _⟩
  · exact .inl rfl
  · refine .inr (fun e => ?_)
    simp only [ownB, Option.map_some, Option.some.injEq] at e
    subst e
    have hc : ∃ cur : Array Value, w.heap[b]? = some (.cells cur 5 (0, 0)) := by
      rcases ho.2.2 with ⟨hv, _⟩ | ⟨g', cap', cur, hv, _, hg, _⟩
      · cases hv
      · simp only [Value.slice.injEq, Option.some.injEq, Addr.mk.injEq, and_true, true_and] at hv
        obtain ⟨rfl, _⟩ := hv
        exact ⟨cur, hg⟩
    obtain ⟨cur, hc⟩ := hc
    rcases h.2 with ⟨hv, _⟩ | ⟨g', cap', cur', hv, _, hg, _⟩
    · cases hv
    · simp only [Value.slice.injEq, Option.some.injEq, Addr.mk.injEq, and_true, true_and] at hv
      obtain ⟨rfl, _⟩ := hv
      rw [hc] at hg
      simp at hg
theorem Cells.grown {f : Nat → List Int} {base : Nat} {w w' : World} {ao : Option Addr} {N cap : Nat} {row : Option Nat} (h : Cells f base w ao N cap) (hg : w.grownBy w' row) (hne : ∀ g, base ≤ g → some g ≠ row) : Cells f base w' ao N cap := by
  obtain ⟨vs, h1, h2⟩ := h
  refine ⟨vs, h1.kept hg ?_, fun j hj => ?_⟩
  · rcases h1.2 with ⟨hv, _⟩ | ⟨g, cap', cur, hv, hb, _⟩
    · rw [hv]; exact .inl rfl
    · rw [hv]; exact .inr (hne g hb)
  · obtain ⟨bo, M, c, h3, h4⟩ := h2 j hj
    refine ⟨bo, M, c, h3, h4.grown hg ?_⟩
    rcases h4.shape with ⟨rfl, _⟩ | ⟨b, rfl, hb, _⟩
    · exact .inl rfl
    · exact .inr (hne b hb)
theorem Cells.below {f : Nat → List Int} {base : Nat} {w w' : World} {ao : Option Addr} {N cap : Nat} (h : Cells f base w ao N cap) (hb : Below w.heap.size w w') : Cells f base w' ao N cap :=
  h.grown (row := none) (below_grown hb none) (fun g _ e => by cases e)
theorem Cells.alloc {f : Nat → List Int} {base : Nat} {w : World} {ao : Option Addr} {N cap : Nat} (h : Cells f base w ao N cap) (o : Obj) : Cells f base (w.alloc o) ao N cap := h.below (bel_al (Below.refl _ _) o)
theorem Cells.drew {f : Nat → List Int} {base : Nat} {w : World} {ao : Option Addr} {N cap : Nat} (h : Cells f base w ao N cap) : Cells f base w.drew ao N cap := h.below (Below.refl _ _).drew
theorem Cells.set {f : Nat → List Int} {base : Nat} {w : World} {ao : Option Addr} {N cap : Nat} (h : Cells f base w ao N cap) {b o : Nat} (hb : b < base) (u : Value) : Cells f base (w.setCell ⟨b, o, none⟩ u) ao N cap :=
  h.grown (row := some b) ⟨rfl, rfl, rfl, by simp [World.setCell], fun i _ hne => Below.heap_setCell _ _ _ _ (fun e => hne (by rw [e]))⟩ (fun g hg e => by simp at e; omega)
theorem Cells.lit0 (f : Nat → List Int) (base : Nat) (w : World) (b : Nat) (hb : base ≤ w.heap.size) (h : b = w.heap.size) : Cells f base (w.alloc (.cells #[] 37)) (some ⟨b, 0, none⟩) 0 0 := by
  subst h
  exact ⟨[], World.ownsRow_made w #[] 0 hb (by simp [maxLen]) (by simp), fun j hj => by omega⟩
theorem Cells.at {f : Nat → List Int} {base : Nat} {w : World} {ao : Option Addr} {N cap : Nat} (h : Cells f base w ao N cap) {k : Nat} (hk : k < N) :
    ∃ g bo M c, ao = some ⟨g, 0, none⟩ ∧ base ≤ g ∧ g < w.heap.size ∧ w.cell? ⟨g, k, none⟩ = some (.slice bo M c) ∧ Own .u8 5 base w bo M c (f k) := by
  obtain ⟨vs, h1, h2⟩ := h
  obtain ⟨bo, M, c, h3, h4⟩ := h2 k hk
  have h0 := h1
  rcases h1.2 with ⟨_, h⟩ | ⟨g, cap', cur, hv, hb, hg, _⟩
  · omega
  · simp only [Value.slice.injEq, true_and] at hv
    obtain ⟨rfl, rfl⟩ := hv
    exact ⟨g, bo, M, c, rfl, hb, (Array.getElem?_eq_some_iff.1 hg).1, by rw [h0.cellAt k (by omega)]; exact h3, h4⟩
theorem Cells.shape {f : Nat → List Int} {base : Nat} {w : World} {ao : Option Addr} {N cap : Nat} (h : Cells f base w ao N cap) : (ao = none ∧ N = 0 ∧ cap = 0) ∨ ∃ g, ao = some ⟨g, 0, none⟩ ∧ base ≤ g ∧ g < w.heap.size ∧ N ≤ cap ∧ cap ≤ maxLen := by
  obtain ⟨vs, h1, _⟩ := h
  rcases h1.2 with ⟨hv, h0⟩ | ⟨g, cap', cur, hv, hb, hg, h3, h4, _⟩
  · simp only [Value.slice.injEq] at hv; exact .inl ⟨hv.1, h0, hv.2.2⟩
  · simp only [Value.slice.injEq] at hv
    obtain ⟨rfl, _, rfl⟩ := hv
    exact .inr ⟨g, rfl, hb, (Array.getElem?_eq_some_iff.1 hg).1, h3, h4⟩
section
variable {w : World}
theorem run_appC (ty : TypeId) (f : Nat → List Int) (base : Nat) (ao : Option Addr) (N cap : Nat) (hown : Cells f base w ao N cap) (ad : Addr) (c1 : Nat) (bo : Option Addr) (M c : Nat) (hx : w.cell? ad = some (.slice bo M c)) (ho : Own .u8 5 base w bo M c (f N)) (hlen : N ≤ 1048576) (hbase : base ≤ w.heap.size) :
    ∃ ao' cap' w', (Builtin.append_ #[75, 75] ty #[.slice ao N cap, .slice (some ad) 1 c1]).run Try.prog w = .ok (.slice ao' (N + 1) cap') w' ∧ Cells f base w' ao' (N + 1) cap' ∧ w.grownBy w' (ownB ao) ∧ Below base w w' := by
  obtain ⟨i, hi1, hi2, hi3, hi4⟩ := info_parts infoC
  obtain ⟨vs, h1, h2⟩ := hown
  have hvl : vs.length = N := by rw [h1.1, Nat.mul_one]
  obtain ⟨v', w', hr, hown', hg, _, _⟩ := run_append_own_at (P := Try.prog) w base 75 ty 37 i (.slice none 0 0) 1 24 Try.underlying75 hi1 hi2 hi3 hi4 rfl (by omega) _ N _ h1 ad 1 c1 [.slice bo M c] rfl (fun j u hj => by
      cases j with
      | zero => simp at hj; subst hj; rw [show ad.add 0 = ad by unfold Addr.add; split <;> simp_all]; exact hx
      | succ j => simp at hj) (fun u hu => by simp at hu; subst hu; rfl) (by unfold maxLen; omega) (by omega) hbase
  have hb : Below base w w' := (Below.refl _ _).grown hg hbase (fun k hk => (h1.lt k hk).1)
  rw [ownB_slice] at hg
  rcases hown'.2 with ⟨_, h0⟩ | ⟨g, cap', cur, hv, _⟩
  · omega
  · subst hv
    refine ⟨_, cap', w', hr, ⟨_, hown', fun j hj => ?_⟩, hg, hb⟩
    have key : ∀ {bo : Option Addr} {M c : Nat} {l : List Int}, Own .u8 5 base w bo M c l → Own .u8 5 base w' bo M c l := fun {bo M c l} ho => by
      refine ho.grown hg ?_
      cases ao with
      | none => cases bo <;> simp [ownB]
      | some a =>
        rcases h1.2 with ⟨hv, _⟩ | ⟨g', cap', cur, hv, _⟩
        · cases hv
        · simp only [Value.slice.injEq, Option.some.injEq, true_and] at hv
          obtain ⟨rfl, _⟩ := hv
          exact own_ne h1 ho
    by_cases hj2 : j < N
    · obtain ⟨b1, M1, c1, h3, h4⟩ := h2 j hj2
      exact ⟨b1, M1, c1, by rw [List.getElem?_append_left (by omega)]; exact h3, key h4⟩
    · obtain rfl : j = N := by omega
      exact ⟨bo, M, c, by rw [List.getElem?_append_right (by omega), hvl, Nat.sub_self]; rfl, key ho⟩
theorem wpList_appC {ops : Array Oper} {rest : List Oper} {o : Oper} {a : Act} {Q : Exit → Act → World → Prop} (hgd : o.guard = none) (s x : Operand)
    (ho : o.op = .call { callee := .builtin .append, args := #[s, x], argTypes := #[75, 75] })
    (f : Nat → List Int) (base : Nat) (ao : Option Addr) (N cap : Nat) (hs : a.eval s = .slice ao N cap) (hown : Cells f base w ao N cap) (ad : Addr) (c1 : Nat) (hx : a.eval x = .slice (some ad) 1 c1) (bo : Option Addr) (M c : Nat) (hc : w.cell? ad = some (.slice bo M c)) (hoo : Own .u8 5 base w bo M c (f N)) (hlen : N ≤ 1048576) (hbase : base ≤ w.heap.size)
    (h : ∀ ao' cap' w', Cells f base w' ao' (N + 1) cap' → w.grownBy w' (ownB ao) → Below base w w' → wpList Try.prog ops Q rest (a.put o.dst (.slice ao' (N + 1) cap')) w') : wpList Try.prog ops Q (o :: rest) a w := by
  refine wpList_plain hgd fun K hK => ?_
  obtain ⟨ao', cap', w', hr, h3, h4, h5⟩ := run_appC (w := w) o.type f base ao N cap hown ad c1 bo M c hc hoo hlen hbase
  unfold Oper.wp
  simp [execOp, ho, resolve, invoke, builtin, hs, hx, hr, Result.andThen]
  exact hK _ _ (h _ _ _ h3 h4 h5)
end
end Go.Proofs.Ytelcpihbdgikfaa
