/- 'append' in this seat's words, as an equation of its run and as one step of a statement whose order Go leaves open. No program in sight. -/
import Derived.Test.YtelcpihbdgikfaaOwn
import Derived.Maps.AppendAt
import Derived.Laws.OwnMore
namespace Go.Proofs.Ytelcpihbdgikfaa
open Go.RowKit

section
variable {P : Program} {w : World}
theorem run_app (t ty : TypeId) (base : Nat) (e : TypeId) (k : IntKind) (z : Value) (bytes : Nat) (ht : P.underlying t = some (.slice e)) (hi : (P.info? e).map (fun i => (i.zero, i.size, i.bytes)) = some (some z, 1, bytes)) (hzs : z.cells.size = 1) (hby : bytes ≤ 8)
    (ao : Option Addr) (N cap : Nat) (l : List Int) (hown : Own k e base w ao N cap l) (vx : Value) (m : List Int) (hsl : Sl k w vx m) (hlen : N + m.length ≤ 1099511627776) (hbase : base ≤ w.heap.size) :
    ∃ ao' N' cap' w', (Builtin.append_ #[t, t] ty #[.slice ao N cap, vx]).run P w = .ok (.slice ao' N' cap') w' ∧ N' ≤ N + m.length ∧ N + m.length ≤ N' ∧ Own k e base w' ao' N' cap' (l ++ m) ∧ w.grownBy w' (ownB ao) ∧ Below base w w' := by
  obtain ⟨i, hi1, hi2, hi3, hi4⟩ := info_parts hi
  suffices grow : ∀ (ad : Addr) (c : Nat), vx = .slice (some ad) m.length c → (∀ i, i < m.length → w.cell? (ad.add i) = some (.int k (m.getD i 0))) → ∃ ao' N' cap' w', (Builtin.append_ #[t, t] ty #[.slice ao N cap, vx]).run P w = .ok (.slice ao' N' cap') w' ∧ N' ≤ N + m.length ∧ N + m.length ≤ N' ∧ Own k e base w' ao' N' cap' (l ++ m) ∧ w.grownBy w' (ownB ao) ∧ Below base w w' by
    rcases hsl with ⟨rfl, ad, c, rfl, hc, hnone⟩ | ⟨b, off, c, rfl, h1, h2, h3, h4⟩
    · cases ad with
      | none =>
        obtain rfl := hnone rfl
        exact ⟨ao, N, cap, w, run_append_owned_none (P := P) (w := w) base t ty e i 1 ht hi1 _ N _ hown.2, by simp, by simp, by simpa using hown, World.grownBy.refl _ _, Below.refl _ _⟩
      | some ad => exact grow ad c rfl (fun i hi => by simp at hi)
    · exact grow ⟨b, off, none⟩ c rfl (fun i hi => by rw [Addr.add_lit]; exact h4 i hi)
  intro ad c hx h4
  subst hx
  obtain ⟨v', w', hr, hown', hg, _, _⟩ := run_append_own_at (P := P) w base t ty e i z 1 bytes ht hi1 hi2 hi3 hi4 hzs (by omega) _ N _ hown.2 ad m.length c (m.map (Value.int k)) (by simp) (fun j u hj => by
      simp only [List.getElem?_map, Option.map_eq_some_iff] at hj
      obtain ⟨n, hn, rfl⟩ := hj
      have hj' : j < m.length := (List.getElem?_eq_some_iff.1 hn).1
      have := h4 j hj'
      rw [show m.getD j 0 = n by simp [hn]] at this
      exact this) (fun u hu => by
      obtain ⟨n, _, rfl⟩ := List.mem_map.1 hu
      rfl) (by unfold maxLen; omega) (by
      calc (N + m.length) * bytes ≤ 1099511627776 * 8 := Nat.mul_le_mul hlen hby
        _ ≤ 140737488355328 := by omega) hbase
  have hb : Below base w w' := (Below.refl _ _).grown hg hbase (fun k hk => (hown.2.lt k hk).1)
  rw [ownB_slice] at hg
  have hl : (l ++ m).length = N + m.length := by rw [List.length_append, hown.1]
  rw [← List.map_append] at hown'
  rcases hown'.2 with ⟨hv, h0⟩ | ⟨g, cap', cur, hv, _⟩
  · subst hv
    exact ⟨none, 0, 0, w', hr, by omega, by omega, ⟨by rw [hl]; exact h0, by rw [h0] at hown'; exact hown'⟩, hg, hb⟩
  · subst hv
    exact ⟨_, _, cap', w', hr, Nat.le_refl _, Nat.le_refl _, ⟨hl, hown'⟩, hg, hb⟩
/-- 'append' as one step of a region that draws its order -/
theorem step_app {ops : Array Oper} {o : Oper} {a : Act} {K : Act → World → Prop} {Q : Exit → Act → World → Prop} {E : Prop} (hgd : o.guard = none) (s x : Operand) (t : TypeId)
    (ho : o.op = .call { callee := .builtin .append, args := #[s, x], argTypes := #[t, t] })
    (base : Nat) (e : TypeId) (k : IntKind) (z : Value) (bytes : Nat) (ht : P.underlying t = some (.slice e)) (hi : (P.info? e).map (fun i => (i.zero, i.size, i.bytes)) = some (some z, 1, bytes)) (hzs : z.cells.size = 1) (hby : bytes ≤ 8)
    (ao : Option Addr) (N cap : Nat) (l : List Int) (hs : a.eval s = .slice ao N cap) (hown : Own k e base w ao N cap l) (vx : Value) (m : List Int) (hx : a.eval x = vx) (hsl : Sl k w vx m) (hlen : N + m.length ≤ 1099511627776) (hbase : base ≤ w.heap.size)
    (h : ∀ ao' N' cap' w', N' ≤ N + m.length → N + m.length ≤ N' → Own k e base w' ao' N' cap' (l ++ m) → w.grownBy w' (ownB ao) → Below base w w' → K (a.put o.dst (.slice ao' N' cap')) w') :
    if Region.wanted o (yielded ops a.tmps) = true then Oper.wp P o a w K Q else E := by
  have hw : Region.wanted o (yielded ops a.tmps) = true := by simp [Region.wanted, hgd]
  rw [if_pos hw]
  obtain ⟨ao', N', cap', w', hr, h1, h2, h3, h4, h5⟩ := run_app (P := P) (w := w) t o.type base e k z bytes ht hi hzs hby ao N cap l hown vx m hsl hlen hbase
  unfold Oper.wp
  simp [execOp, ho, resolve, invoke, builtin, hs, hx, hr, Result.andThen]
  exact h _ _ _ _ h1 h2 h3 h4 h5
end
theorem Own.drew {k : IntKind} {e : TypeId} {base : Nat} {w : World} {ao : Option Addr} {N cap : Nat} {l : List Int} (h : Own k e base w ao N cap l) : Own k e base w.drew ao N cap l := h.below (Below.refl _ _).drew
end Go.Proofs.Ytelcpihbdgikfaa
