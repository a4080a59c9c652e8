/- 'append' for slices of skipped keys, as an equation of its run, as a step of a plain statement and of one whose order Go leaves open. -/
import Derived.Test.YtelcpihbdgikfaaSkip
import Derived.Test.YtelcpihbdgikfaaStep
import Derived.Maps.AppendAt
import Derived.Laws.OwnMore
import Derived.Lib.SliceRun
import Derived.Lib.Walk
namespace Go.Proofs.Ytelcpihbdgikfaa
open Go.RowKit

theorem infoSk : (Try.prog.info? 93).map (fun i => (i.zero, i.size, i.bytes)) = some (some (.agg #[.int .i64 0, .int .i64 0]), 2, 16) := by kernel_rfl
section
variable {w : World}
theorem run_appK (ty : TypeId) (base : Nat) (ao : Option Addr) (N cap : Nat) (l : List Int) (hown : OwnK base w ao N cap l) (vx : Value) (m : Nat) (k0 : List Int) (hsl : Sk w vx m k0) (hlen : N + m ≤ 1099511627776) (hbase : base ≤ w.heap.size) :
    ∃ ao' N' cap' w', (Builtin.append_ #[26, 26] ty #[.slice ao N cap, vx]).run Try.prog w = .ok (.slice ao' N' cap') w' ∧ N' ≤ N + m ∧ N + m ≤ N' ∧ OwnK base w' ao' N' cap' (l ++ k0) ∧ w.grownBy w' (ownB ao) ∧ Below base w w' := by
  obtain ⟨i, hi1, hi2, hi3, hi4⟩ := info_parts infoSk
  have hk0 := hsl.1
  suffices grow : ∀ (ad : Addr) (c : Nat), vx = .slice (some ad) m c → (∀ i, i < 2 * m → w.cell? (ad.add i) = some (.int .i64 (k0.getD i 0))) → ∃ ao' N' cap' w', (Builtin.append_ #[26, 26] ty #[.slice ao N cap, vx]).run Try.prog w = .ok (.slice ao' N' cap') w' ∧ N' ≤ N + m ∧ N + m ≤ N' ∧ OwnK base w' ao' N' cap' (l ++ k0) ∧ w.grownBy w' (ownB ao) ∧ Below base w w' by
    rcases hsl.2 with ⟨rfl, ad, c, rfl, hc, hnone⟩ | ⟨b, off, c, rfl, h1, h2, h3, h4⟩
    · have hk : k0 = [] := List.length_eq_zero_iff.1 hk0
      cases ad with
      | none =>
        obtain rfl := hnone rfl
        subst hk
        exact ⟨ao, N, cap, w, run_append_owned_none (P := Try.prog) (w := w) base _ ty _ i 2 Try.underlying26 hi1 _ N _ hown.2, by simp, by simp, by simpa using hown, World.grownBy.refl _ _, Below.refl _ _⟩
      | some ad => exact grow ad c rfl (fun i hi => by simp at hi)
    · exact grow ⟨b, off, none⟩ c rfl (fun i hi => by rw [Addr.add_lit]; exact h4 i hi)
  intro ad c hx h4
  subst hx
  obtain ⟨v', w', hr, hown', hg, _, _⟩ := run_append_own_at (P := Try.prog) w base 26 ty 93 i (.agg #[.int .i64 0, .int .i64 0]) 2 16 Try.underlying26 hi1 hi2 hi3 hi4 rfl (by omega) _ N _ hown.2 ad m c (k0.map (Value.int .i64)) (by rw [List.length_map, hk0, Nat.mul_comm]) (fun j u hj => by
      simp only [List.getElem?_map, Option.map_eq_some_iff] at hj
      obtain ⟨n, hn, rfl⟩ := hj
      have hj' : j < k0.length := (List.getElem?_eq_some_iff.1 hn).1
      have := h4 j (by omega)
      rw [show k0.getD j 0 = n by simp [hn]] at this
      exact this) (fun u hu => by
      obtain ⟨n, _, rfl⟩ := List.mem_map.1 hu
      rfl) (by unfold maxLen; omega) (by omega) hbase
  have hb : Below base w w' := (Below.refl _ _).grown hg hbase (fun k hk => (hown.2.lt k hk).1)
  rw [ownB_slice] at hg
  have hl : (l ++ k0).length = 2 * (N + m) := by rw [List.length_append, hown.1, hk0]; omega
  rw [← List.map_append] at hown'
  rcases hown'.2 with ⟨hv, h0⟩ | ⟨g, cap', cur, hv, _⟩
  · subst hv
    exact ⟨none, 0, 0, w', hr, by omega, by omega, ⟨by rw [hl]; omega, by rw [h0] at hown'; exact hown'⟩, hg, hb⟩
  · subst hv
    exact ⟨_, _, cap', w', hr, Nat.le_refl _, Nat.le_refl _, ⟨hl, hown'⟩, hg, hb⟩
theorem step_appK {ops : Array Oper} {o : Oper} {a : Act} {K : Act → World → Prop} {Q : Exit → Act → World → Prop} {E : Prop} (hgd : o.guard = none) (s x : Operand)
    (ho : o.op = .call { callee := .builtin .append, args := #[s, x], argTypes := #[26, 26] })
    (base : Nat) (ao : Option Addr) (N cap : Nat) (l : List Int) (hs : a.eval s = .slice ao N cap) (hown : OwnK base w ao N cap l) (vx : Value) (m : Nat) (k0 : List Int) (hx : a.eval x = vx) (hsl : Sk w vx m k0) (hlen : N + m ≤ 1099511627776) (hbase : base ≤ w.heap.size)
    (h : ∀ ao' N' cap' w', N' ≤ N + m → N + m ≤ N' → OwnK base w' ao' N' cap' (l ++ k0) → w.grownBy w' (ownB ao) → Below base w w' → K (a.put o.dst (.slice ao' N' cap')) w') :
    if Region.wanted o (yielded ops a.tmps) = true then Oper.wp Try.prog o a w K Q else E := by
  have hw : Region.wanted o (yielded ops a.tmps) = true := by simp [Region.wanted, hgd]
  rw [if_pos hw]
  obtain ⟨ao', N', cap', w', hr, h1, h2, h3, h4, h5⟩ := run_appK (w := w) o.type base ao N cap l hown vx m k0 hsl hlen hbase
  unfold Oper.wp
  simp [execOp, ho, resolve, invoke, builtin, hs, hx, hr, Result.andThen]
  exact h _ _ _ _ h1 h2 h3 h4 h5
theorem wpList_appK {ops : Array Oper} {rest : List Oper} {o : Oper} {a : Act} {Q : Exit → Act → World → Prop} (hgd : o.guard = none) (s x : Operand)
    (ho : o.op = .call { callee := .builtin .append, args := #[s, x], argTypes := #[26, 26] })
    (base : Nat) (ao : Option Addr) (N cap : Nat) (l : List Int) (hs : a.eval s = .slice ao N cap) (hown : OwnK base w ao N cap l) (vx : Value) (m : Nat) (k0 : List Int) (hx : a.eval x = vx) (hsl : Sk w vx m k0) (hlen : N + m ≤ 1099511627776) (hbase : base ≤ w.heap.size)
    (h : ∀ ao' N' cap' w', N' ≤ N + m → N + m ≤ N' → OwnK base w' ao' N' cap' (l ++ k0) → w.grownBy w' (ownB ao) → Below base w w' → wpList Try.prog ops Q rest (a.put o.dst (.slice ao' N' cap')) w') : wpList Try.prog ops Q (o :: rest) a w := by
  refine wpList_plain hgd fun K hK => ?_
  obtain ⟨ao', N', cap', w', hr, h1, h2, h3, h4, h5⟩ := run_appK (w := w) o.type base ao N cap l hown vx m k0 hsl hlen hbase
  unfold Oper.wp
  simp [execOp, ho, resolve, invoke, builtin, hs, hx, hr, Result.andThen]
  exact hK _ _ (h _ _ _ _ h1 h2 h3 h4 h5)
end
/-- the literal slice of one pair, and of none -/
theorem OwnK.lit0 (base : Nat) (w : World) (b : Nat) (hb : base ≤ w.heap.size) (h : b = w.heap.size) : OwnK base (w.alloc (.cells #[] 93)) (some ⟨b, 0, none⟩) 0 0 [] := by
  subst h
  have := World.ownsRow_lit (base := base) (e := 93) (size := 2) w #[] 0 hb (by simp [maxLen]) (by simp)
  exact ⟨rfl, by simpa using this⟩
theorem Sk.lit1 (w : World) (b : Nat) (x y : Int) (h : b = w.heap.size) : Sk (w.alloc (.cells #[.int .i64 x, .int .i64 y] 93)) (.slice (some ⟨b, 0, none⟩) 1 1) 1 [x, y] := by
  subst h
  refine ⟨rfl, .inr ⟨w.heap.size, 0, 1, rfl, Nat.le_refl _, by simp [maxLen], by simp, fun i hi => ?_⟩⟩
  rcases (show i = 0 ∨ i = 1 by omega) with rfl | rfl <;> simp
theorem OwnK.drew {base : Nat} {w : World} {ao : Option Addr} {N cap : Nat} {l : List Int} (h : OwnK base w ao N cap l) : OwnK base w.drew ao N cap l := h.below (Below.refl _ _).drew
theorem OwnK.cells {base : Nat} {w : World} {ao : Option Addr} {N cap : Nat} {l : List Int} (h : OwnK base w ao N cap l) {b o : Nat} (hb : b < base) (u : Value) : OwnK base (w.setCell ⟨b, o, none⟩ u) ao N cap l := by
  refine h.grown (row := some b) ⟨rfl, rfl, rfl, by simp [World.setCell], fun i _ hne => Below.heap_setCell _ _ _ _ (fun e => hne (by rw [e]))⟩ ?_
  rcases h.shape with ⟨rfl, _⟩ | ⟨g, rfl, hg, _⟩
  · exact .inl rfl
  · exact .inr (by simp [ownB]; omega)
set_option maxRecDepth 100000 in
theorem cloneK (v : Value) (n : Nat) (l : List Int) (w : World) (hs : Sk w v n l) (hl : n ≤ 1099511627776) : Calls Try.prog 81 #[v] w fun e w' => ∃ ao N cap, e = .returned (.slice ao N cap) ∧ N ≤ n ∧ n ≤ N ∧ OwnK w.heap.size w' ao N cap l ∧ Below w.heap.size w w' := by
  obtain ⟨a, c, rfl, hm⟩ := hs.shape
  have q22 : ∀ (w : World) (a : Option Addr) (n c n' c' : Nat), (binOp .eql 26 (.slice a n c) (.slice none n' c')).run Try.prog w = .ok (.bool a.isNone) w := fun w a n c n' c' => Lib.run_eql_slice_nil w _ _ a n c n' c' Try.underlying26
  cases a with
  | none =>
    have h0 : n = 0 ∧ c = 0 := by
      rcases hs.2 with ⟨h0, a, cap, hv, hc, hz⟩ | ⟨b, off, cap, hv, _⟩
      · simp only [Value.slice.injEq] at hv
        exact ⟨h0, by rw [hv.2.2]; exact hz hv.1.symm⟩
      · simp only [Value.slice.injEq] at hv
        cases hv.1
    have hl0 := hs.1
    obtain ⟨rfl, rfl⟩ := h0
    obtain rfl : l = [] := List.length_eq_zero_iff.1 hl0
    clear hm hl hs hl0
    go_enter Try.func81, Try.ntmps81
    go_wp2
    go_ret
    exact ⟨_, _, _, rfl, Nat.le_refl _, Nat.le_refl _, OwnK.nil _ _, Below.refl _ _⟩
  | some ad =>
    have O1 := Lib.hid (OwnK.lit0 w.heap.size w w.heap.size (Nat.le_refl _) rfl)
    have S1 := Lib.hid (hs.alloc (.cells #[] 93))
    have hl1 : 0 + n ≤ 1099511627776 := by omega
    have hz1 : w.heap.size ≤ (w.alloc (.cells #[] 93)).heap.size := by simp
    clear hs hm hl
    go_enter Try.func81, Try.ntmps81
    go_wp2_with (at_builtin; refine wpList_appK rfl _ _ rfl w.heap.size _ _ _ _ rfl O1.out _ _ _ rfl S1.out hl1 hz1 ?_; intro ao N cap w1 hN1 hN2 hown1 hg1 hb1)
    go_ret
    exact ⟨_, _, _, rfl, by omega, by omega, by simpa using hown1, bel_al (Below.refl _ _) _ |>.trans hb1⟩
end Go.Proofs.Ytelcpihbdgikfaa
