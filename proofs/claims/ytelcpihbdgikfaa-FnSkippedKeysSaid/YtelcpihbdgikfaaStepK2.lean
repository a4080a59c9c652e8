/- 'append' for slices of skipped keys, told with the block that it leaves. -/
import Derived.Test.YtelcpihbdgikfaaStepK
namespace Go.Proofs.Ytelcpihbdgikfaa
open Go.RowKit

section
variable {w : World}
theorem run_appK2 (ty : TypeId) (base : Nat) (ao : Option Addr) (N cap : Nat) (l : List Int) (hown : OwnK base w ao N cap l) (vx : Value) (m : Nat) (k0 : List Int) (hsl : Sk w vx m k0) (hlen : N + m ≤ 1099511627776) (hbase : base ≤ w.heap.size) :
    ∃ ao' N' cap' w', (Builtin.append_ #[26, 26] ty #[.slice ao N cap, vx]).run Try.prog w = .ok (.slice ao' N' cap') w' ∧ N' ≤ N + m ∧ N + m ≤ N' ∧ OwnK base w' ao' N' cap' (l ++ k0) ∧ w.grownBy w' (ownB ao) ∧ Below base w w' ∧ (ownB ao' = ownB ao ∨ ownB ao' = some w.heap.size) := by
  obtain ⟨i, hi1, hi2, hi3, hi4⟩ := info_parts infoSk
  have hk0 := hsl.1
  suffices grow : ∀ (ad : Addr) (c : Nat), vx = .slice (some ad) m c → (∀ i, i < 2 * m → w.cell? (ad.add i) = some (.int .i64 (k0.getD i 0))) → ∃ ao' N' cap' w', (Builtin.append_ #[26, 26] ty #[.slice ao N cap, vx]).run Try.prog w = .ok (.slice ao' N' cap') w' ∧ N' ≤ N + m ∧ N + m ≤ N' ∧ OwnK base w' ao' N' cap' (l ++ k0) ∧ w.grownBy w' (ownB ao) ∧ Below base w w' ∧ (ownB ao' = ownB ao ∨ ownB ao' = some w.heap.size) by
    rcases hsl.2 with ⟨rfl, ad, c, rfl, hc, hnone⟩ | ⟨b, off, c, rfl, h1, h2, h3, h4⟩
    · have hk : k0 = [] := List.length_eq_zero_iff.1 hk0
      cases ad with
      | none =>
        obtain rfl := hnone rfl
        subst hk
        exact ⟨ao, N, cap, w, run_append_owned_none (P := Try.prog) (w := w) base _ ty _ i 2 Try.underlying26 hi1 _ N _ hown.2, by simp, by simp, by simpa using hown, World.grownBy.refl _ _, Below.refl _ _, .inl rfl⟩
      | some ad => exact grow ad c rfl (fun i hi => by simp at hi)
    · exact grow ⟨b, off, none⟩ c rfl (fun i hi => by rw [Addr.add_lit]; exact h4 i hi)
  intro ad c hx h4
  subst hx
  obtain ⟨v', w', hr, hown', hg, _, hob⟩ := run_append_own_at (P := Try.prog) w base 26 ty 93 i (.agg #[.int .i64 0, .int .i64 0]) 2 16 Try.underlying26 hi1 hi2 hi3 hi4 rfl (by omega) _ N _ hown.2 ad m c (k0.map (Value.int .i64)) (by rw [List.length_map, hk0, Nat.mul_comm]) (fun j u hj => by
      simp only [List.getElem?_map, Option.map_eq_some_iff] at hj
      obtain ⟨n, hn, rfl⟩ := hj
      have hj' : j < k0.length := (List.getElem?_eq_some_iff.1 hn).1
      have := h4 j (by omega)
      rw [show k0.getD j 0 = n by simp [hn]] at this
      exact this) (fun u hu => by
      obtain ⟨n, _, rfl⟩ := List.mem_map.1 hu
      rfl) (by unfold maxLen; omega) (by omega) hbase
  have hb : Below base w w' := (Below.refl _ _).grown hg hbase (fun k hk => (hown.2.lt k hk).1)
  rw [ownB_slice] at hg hob
  have hl : (l ++ k0).length = 2 * (N + m) := by rw [List.length_append, hown.1, hk0]; omega
  rw [← List.map_append] at hown'
  rcases hown'.2 with ⟨hv, h0⟩ | ⟨g, cap', cur, hv, _⟩
  · subst hv
    exact ⟨none, 0, 0, w', hr, by omega, by omega, ⟨by rw [hl]; omega, by rw [h0] at hown'; exact hown'⟩, hg, hb, by rw [ownB_slice] at hob; exact hob⟩
  · subst hv
    exact ⟨_, _, cap', w', hr, Nat.le_refl _, Nat.le_refl _, ⟨hl, hown'⟩, hg, hb, by rw [ownB_slice] at hob; exact hob⟩
theorem step_appK2 {ops : Array Oper} {o : Oper} {a : Act} {K : Act → World → Prop} {Q : Exit → Act → World → Prop} {E : Prop} (hgd : o.guard = none) (s x : Operand)
    (ho : o.op = .call { callee := .builtin .append, args := #[s, x], argTypes := #[26, 26] })
    (base : Nat) (ao : Option Addr) (N cap : Nat) (l : List Int) (hs : a.eval s = .slice ao N cap) (hown : OwnK base w ao N cap l) (vx : Value) (m : Nat) (k0 : List Int) (hx : a.eval x = vx) (hsl : Sk w vx m k0) (hlen : N + m ≤ 1099511627776) (hbase : base ≤ w.heap.size)
    (h : ∀ ao' N' cap' w', N' ≤ N + m → N + m ≤ N' → OwnK base w' ao' N' cap' (l ++ k0) → w.grownBy w' (ownB ao) → Below base w w' → (ownB ao' = ownB ao ∨ ownB ao' = some w.heap.size) → K (a.put o.dst (.slice ao' N' cap')) w') :
    if Region.wanted o (yielded ops a.tmps) = true then Oper.wp Try.prog o a w K Q else E := by
  have hw : Region.wanted o (yielded ops a.tmps) = true := by simp [Region.wanted, hgd]
  rw [if_pos hw]
  obtain ⟨ao', N', cap', w', hr, h1, h2, h3, h4, h5, h6⟩ := run_appK2 (w := w) o.type base ao N cap l hown vx m k0 hsl hlen hbase
  unfold Oper.wp
  simp [execOp, ho, resolve, invoke, builtin, hs, hx, hr, Result.andThen]
  exact h _ _ _ _ h1 h2 h3 h4 h5 h6
end
end Go.Proofs.Ytelcpihbdgikfaa
