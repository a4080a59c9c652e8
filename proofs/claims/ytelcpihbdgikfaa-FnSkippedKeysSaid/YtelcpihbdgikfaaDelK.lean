/- The walks of two functions of the library on skipped keys: the place of a step, and the deletion of one element; and the laws of append in place that these want. -/
import Derived.Test.YtelcpihbdgikfaaProg
import Derived.Test.YtelcpihbdgikfaaStepK2
import Derived.Test.YtelcpihbdgikfaaKeyPlain
import Derived.Deep.RegionLaw
import Derived.Lib.SliceRun
namespace Go.Proofs.Ytelcpihbdgikfaa
open Go.RowKit

section
variable {w : World}
/-- 'append(s[:n], x...)' where there is room: the cells to be appended are read first -/
theorem step_appFit {ops : Array Oper} {o : Oper} {a : Act} {K : Act → World → Prop} {Q : Exit → Act → World → Prop} {E : Prop} (hgd : o.guard = none) (s x : Operand)
    (ho : o.op = .call { callee := .builtin .append, args := #[s, x], argTypes := #[26, 26] })
    (base g n cap : Nat) (l : List Int) (hs : a.eval s = .slice (some ⟨g, 0, none⟩) n cap) (hown : OwnK base w (some ⟨g, 0, none⟩) n cap l)
    (ad : Addr) (m c : Nat) (k0 : List Int) (hx : a.eval x = .slice (some ad) m c) (hl : k0.length = 2 * m) (hc : ∀ j, j < 2 * m → w.cell? (ad.add j) = some (.int .i64 (k0.getD j 0))) (M : Nat) (hM : n + m = M) (hroom : M ≤ cap)
    (h : ∀ w', OwnK base w' (some ⟨g, 0, none⟩) M cap (l ++ k0) → w.grownBy w' (some g) → K (a.put o.dst (.slice (some ⟨g, 0, none⟩) M cap)) w') :
    if Region.wanted o (yielded ops a.tmps) = true then Oper.wp Try.prog o a w K Q else E := by
  have hw : Region.wanted o (yielded ops a.tmps) = true := by simp [Region.wanted, hgd]
  rw [if_pos hw]
  subst hM
  obtain ⟨i, hi1, hi2, hi3, hi4⟩ := info_parts infoSk
  obtain ⟨w', hr, hown', hg⟩ := run_append_fits (P := Try.prog) w base 26 o.type 93 i 2 Try.underlying26 hi1 hi3 g n cap _ hown.2 ad m c (k0.map (Value.int .i64)) (by rw [List.length_map, hl, Nat.mul_comm]) (fun j u hj => by
      simp only [List.getElem?_map, Option.map_eq_some_iff] at hj
      obtain ⟨z, hz, rfl⟩ := hj
      have hj' : j < k0.length := (List.getElem?_eq_some_iff.1 hz).1
      have := hc j (by omega)
      rw [show k0.getD j 0 = z by simp [hz]] at this
      exact this) (fun u hu => by
      obtain ⟨z, _, rfl⟩ := List.mem_map.1 hu
      rfl) hroom
  rw [← List.map_append] at hown'
  unfold Oper.wp
  simp [execOp, ho, resolve, invoke, builtin, hs, hx, hr, Result.andThen]
  exact h _ ⟨by rw [List.length_append, hown.1, hl]; omega, hown'⟩ hg
end
theorem OwnK.cut {base : Nat} {w : World} {g N cap : Nat} {l : List Int} (h : OwnK base w (some ⟨g, 0, none⟩) N cap l) {i : Nat} (hi : i ≤ N) : OwnK base w (some ⟨g, 0, none⟩) i cap (l.take (2 * i)) := by
  have hl : (l.take (2 * i)).length = 2 * i := by rw [List.length_take, h.1]; omega
  refine ⟨hl, by rw [List.length_map, hl, Nat.mul_comm], ?_⟩
  rcases h.2.2 with ⟨hv, _⟩ | ⟨g', cap', cur, hv, hb, hg, hnc, hcm, hcs, htake⟩
  · cases hv
  · simp only [Value.slice.injEq, Option.some.injEq, Addr.mk.injEq, and_true, true_and] at hv
    obtain ⟨rfl, rfl⟩ := hv
    refine .inr ⟨g, cap, cur, rfl, hb, hg, by omega, hcm, hcs, ?_⟩
    rw [List.map_take, ← htake, List.take_take]
    congr 1
    omega
/-- a cell behind the row is written -/
theorem OwnK.spare {base : Nat} {w : World} {g N cap : Nat} {l : List Int} (h : OwnK base w (some ⟨g, 0, none⟩) N cap l) {j : Nat} (hj : 2 * N ≤ j) (u : Int) : OwnK base (w.setCell ⟨g, j, none⟩ (.int .i64 u)) (some ⟨g, 0, none⟩) N cap l ∧ w.grownBy (w.setCell ⟨g, j, none⟩ (.int .i64 u)) (some g) := by
  have := h.stored j u
  rw [List.set_eq_of_length_le (by rw [h.1]; exact hj)] at this
  exact this
theorem run_clear1 (W : World) (ty : TypeId) (g o c : Nat) (h0 : (W.cell? ⟨g, o, none⟩).isSome = true) (h1 : (W.cell? ⟨g, o + 1, none⟩).isSome = true) (f0 : W.frozen? ⟨g, o, none⟩ = false) (f1 : W.frozen? ⟨g, o + 1, none⟩ = false) :
    (Builtin.clear_ #[26] ty #[.slice (some ⟨g, o, none⟩) 1 c]).run Try.prog W = .ok (.tuple #[]) ((W.setCell ⟨g, o, none⟩ (.int .i64 0)).setCell ⟨g, o + 1, none⟩ (.int .i64 0)) := by
  have hst := run_storeCells_cells (P := Try.prog) g o [.int .i64 0, .int .i64 0] 0 W (by
    intro j hj
    simp only [List.length_cons, List.length_nil] at hj
    rcases (show j = 0 ∨ j = 1 by omega) with rfl | rfl <;> simp [h0, h1]) (by
    intro j hj
    simp only [List.length_cons, List.length_nil] at hj
    rcases (show j = 0 ∨ j = 1 by omega) with rfl | rfl <;> simp [f0, f1]) (by
    intro v hv
    simp only [List.mem_cons, List.not_mem_nil, or_false, or_self] at hv
    rw [hv]; rfl)
  simp only [Nat.add_zero] at hst
  have hzc : (Builtin.zeroCells (Value.agg #[.int .i64 0, .int .i64 0]).cells 1).toList = [.int .i64 0, .int .i64 0] := by kernel_rfl
  simp [Builtin.clear_, run_underlying Try.underlying26, Try.zeroValue93, hzc, hst]
  rfl
set_option maxRecDepth 100000 in
set_option maxHeartbeats 1000000 in
theorem delK (base g M cap : Nat) (l : List Int) (i : Nat) (w : World) (hown : OwnK base w (some ⟨g, 0, none⟩) (M + 1) cap l) (hi : i ≤ M) (hM : M ≤ 1048576) :
    Calls Try.prog 80 #[.slice (some ⟨g, 0, none⟩) (M + 1) cap, .int .i64 i, .int .i64 (i + 1)] w fun e w' => e = .returned (.slice (some ⟨g, 0, none⟩) M cap) ∧ OwnK base w' (some ⟨g, 0, none⟩) M cap (l.take (2 * i) ++ l.drop (2 * i + 2)) ∧ w.grownBy w' (some g) := by
  obtain ⟨hc, hc2⟩ := hown.sl.capB
  have hl := hown.1
  have HO := Lib.hid hown
  have HC := Lib.hid (hown.cut (i := i) (by omega))
  have hi1 : (i : Int) ≤ (i : Int) + 1 := by omega
  have hi2 : (i : Int) + 1 ≤ (M : Int) + 1 := by omega
  have hi3 : (M : Int) + 1 ≤ cap := by omega
  have hi4 : (0 : Int) ≤ i := by omega
  have hi5 : (0 : Int) ≤ (i : Int) + 1 := by omega
  have hi6 : ((i : Int) + 1).toNat = i + 1 := by omega
  have hi7 : (i : Int) ≤ cap := by omega
  have hi8 : (i : Int) + 1 ≤ cap := by omega
  have hi9 : i ≤ cap := by omega
  have hi10 : i + 1 ≤ cap := by omega
  have hi11 : ¬ (i : Int) = (i : Int) + 1 := by omega
  have hi12 : i + 1 ≤ M + 1 := by omega
  have hi13 : i ≤ i + 1 := by omega
  have hi14 : i ≤ M + 1 := by omega
  have hm1 : (M : Int) ≤ (M : Int) + 1 := by omega
  have hm2 : ¬ cap = M := by omega
  have hm3 : (0 : Int) ≤ M := by omega
  have hm4 : ((M : Int) + 1).toNat = M + 1 := by omega
  have hm5 : (0 : Int) ≤ (M : Int) + 1 := by omega
  have hm6 : M ≤ cap := by omega
  have hm7 : (M : Int) ≤ cap := by omega
  have fin : ∀ w1 : World, OwnK base w1 (some ⟨g, 0, none⟩) M cap (l.take (2 * i) ++ l.drop (2 * i + 2)) → w.grownBy w1 (some g) → OwnK base ((w1.setCell ⟨g, M * 2, none⟩ (.int .i64 0)).setCell ⟨g, M * 2 + 1, none⟩ (.int .i64 0)) (some ⟨g, 0, none⟩) M cap (l.take (2 * i) ++ l.drop (2 * i + 2)) ∧ w.grownBy ((w1.setCell ⟨g, M * 2, none⟩ (.int .i64 0)).setCell ⟨g, M * 2 + 1, none⟩ (.int .i64 0)) (some g) := fun w1 h1 hg1 => by
    obtain ⟨a1, b1⟩ := h1.spare (j := M * 2) (by omega) 0
    obtain ⟨a2, b2⟩ := a1.spare (j := M * 2 + 1) (by omega) 0
    exact ⟨a2, grown_trans (grown_trans hg1 b1) b2⟩
  have FIN := Lib.hid fin
  have CL : ∀ (w1 : World) (ty : TypeId) (c : Nat), OwnK base w1 (some ⟨g, 0, none⟩) M cap (l.take (2 * i) ++ l.drop (2 * i + 2)) → (Builtin.clear_ #[26] ty #[.slice (some ⟨g, M * 2, none⟩) 1 c]).run Try.prog w1 = .ok (.tuple #[]) ((w1.setCell ⟨g, M * 2, none⟩ (.int .i64 0)).setCell ⟨g, M * 2 + 1, none⟩ (.int .i64 0)) := fun w1 ty c h1 => by
    have hin : ∀ j, j < cap * 2 → (w1.cell? ⟨g, j, none⟩).isSome = true := fun j hj => by
      rcases h1.2.2 with ⟨hv, _⟩ | ⟨g', cap', cur, hv, hb, hg, hnc, hcm, hcs, htake⟩
      · cases hv
      · simp only [Value.slice.injEq, Option.some.injEq, Addr.mk.injEq, and_true, true_and] at hv
        obtain ⟨rfl, rfl⟩ := hv
        rw [cell_of_row w1 g j cur _ (0, 0) hg]
        simp; omega
    exact run_clear1 w1 ty g (M * 2) c (hin _ (by omega)) (hin _ (by omega)) (h1.frozenAt _) (h1.frozenAt _)
  have HCL := Lib.hid CL
  have hC1 : ∀ j, j < 2 * (M - i) → w.cell? ((⟨g, (i + 1) * 2, none⟩ : Addr).add j) = some (.int .i64 ((l.drop (2 * i + 2)).getD j 0)) := fun j hj => by
    rw [Addr.add_lit, hown.cellAt (by omega)]
    simp only [List.getD, List.getElem?_drop]
    rw [show (i + 1) * 2 + j = 2 * i + 2 + j by omega]
  have HC1 := Lib.hid hC1
  have hL : Hid ((l.drop (2 * i + 2)).length = 2 * (M - i)) := Lib.hid (by rw [List.length_drop, hl]; omega)
  have hiM : i + (M - i) = M := by omega
  have hmi : M + 1 - (i + 1) = M - i := by omega
  clear hown fin CL hC1 hl
  go_enter Try.func80, Try.ntmps80
  by_cases hce : cap = i + 1
  · obtain rfl : M = i := by omega
    subst hce
    have hL0 : Hid ((l.drop (2 * M + 2)).length = 2 * 0) := Lib.hid (by rw [hL.out]; omega)
    go_wp2_with fail
    go_region_law (go_loud (refine step_appFit rfl _ _ (by rfl) base g M (M + 1) (l.take (2 * M)) (by rfl) (by first | exact HC.out | exact HC.out.drew) ⟨g, 0, none⟩ 0 _ (l.drop (2 * M + 2)) (by rfl) hL0.out (fun j hj => absurd hj (by omega)) M (by omega) hm6 ?_; intro w1 ho1 hg1))
    all_goals
      have hcl := fun ty c => HCL.out w1 ty c ho1
      have F := Lib.hid (FIN.out w1 ho1 (by first | exact hg1 | exact grown_trans (below_grown (Below.refl _ _).drew _) hg1))
      clear ho1 hg1
      go_wp2
      go_ret
      exact ⟨rfl, F.out⟩
  · go_wp2_with fail
    go_region_law (go_loud (refine step_appFit rfl _ _ (by rfl) base g i cap (l.take (2 * i)) (by rfl) (by first | exact HC.out | exact HC.out.drew) ⟨g, (i + 1) * 2, none⟩ (M - i) _ (l.drop (2 * i + 2)) (by rfl) hL.out (by first | exact HC1.out | (intro j hj; exact HC1.out j hj)) M hiM hm6 ?_; intro w1 ho1 hg1))
    all_goals
      have hcl := fun ty c => HCL.out w1 ty c ho1
      have F := Lib.hid (FIN.out w1 ho1 (by first | exact hg1 | exact grown_trans (below_grown (Below.refl _ _).drew _) hg1))
      clear ho1 hg1
      go_wp2
      go_ret
      exact ⟨rfl, F.out⟩
theorem predK (x y step : Int) (B : Nat) (w : World) (hB : w.cell? ⟨B, 0, none⟩ = some (.int .i64 step)) : Calls Try.prog 79 #[.agg #[.int .i64 x, .int .i64 y], .pointer (some ⟨B, 0, none⟩)] w fun e w' => e = .returned (.bool (x == step)) ∧ Below w.heap.size w w' := by
  have hz := World.block_lt_of_cell? w _ hB
  dsimp only at hz
  have hne : ¬ B = w.heap.size := by omega
  have hne2 : ¬ w.heap.size = B := by omega
  go_enter Try.func79, Try.ntmps79
  by_cases hxs : x = step
  · subst hxs
    go_wp2
    all_goals
      go_ret
      exact ⟨by simp, (by repeat (first | exact Below.refl _ _ | refine bel_al ?_ _ | refine Below.setCell ?_ (by first | (simp; done) | (simp; omega)) _ | refine Below.drew ?_ | refine bel_drewN ?_ _))⟩
  · have hb : (x == step) = false := beq_eq_false_iff_ne.2 hxs
    go_wp2
    all_goals
      go_ret
      exact ⟨by rw [hb]; rfl, (by repeat (first | exact Below.refl _ _ | refine bel_al ?_ _ | refine Below.setCell ?_ (by first | (simp; done) | (simp; omega)) _ | refine Below.drew ?_ | refine bel_drewN ?_ _))⟩
set_option maxRecDepth 100000 in
theorem idxFuncK (v : Value) (n : Nat) (l : List Int) (step : Int) (B : Nat) (w : World) (hs : Sk w v n l) (hB : w.cell? ⟨B, 0, none⟩ = some (.int .i64 step)) :
    Calls Try.prog 78 #[v, .func (.func 79) #[] #[.pointer (some ⟨B, 0, none⟩)]] w fun e w' => (∃ r, e = .returned (.int .i64 r) ∧ ((r = -1 ∧ ∀ j, j < n → ¬ l.getD (2 * j) 0 = step) ∨ ∃ k : Nat, k < n ∧ r = k ∧ l.getD (2 * k) 0 = step ∧ ∀ j, j < k → ¬ l.getD (2 * j) 0 = step)) ∧ Below w.heap.size w w' := by
  obtain ⟨a, c, rfl, hm⟩ := hs.shape
  have HS := Lib.hid hs
  have HB := Lib.hid hB
  clear hs hB
  go_enter Try.func78, Try.ntmps78
  go_wp2
  go_loopw [5, 8] (fun _ ix wr => ∃ k : Nat, k ≤ n ∧ ix = .int .i64 k ∧ Hid (Below w.heap.size w wr) ∧ Hid (∀ j, j < k → ¬ l.getD (2 * j) 0 = step)) (fun _ ix _ => n - (intOf ix).toNat)
  case atStart => exact ⟨0, Nat.zero_le _, rfl, Lib.hid (Below.refl _ _), Lib.hid (fun j hj => by omega)⟩
  case round =>
    obtain ⟨k, hk, rfl, BW, HK⟩ := hrel
    by_cases hlt : k < n
    · obtain ⟨b, off, rfl, hb, h4⟩ := (HS.out.below BW.out).at hlt
      obtain ⟨hc1, hc2⟩ := h4 k hlt
      have hlt2 : (k : Int) < n := by omega
      obtain ⟨y, hy⟩ : ∃ y, l.getD (2 * k) 0 = y := ⟨_, rfl⟩
      rw [hy] at hc1
      generalize l.getD (2 * k + 1) 0 = z at hc2
      have HY := Lib.hid hy
      have hB2 := later0 BW.out HB.out
      have CP := Lib.hid (predK y z step B wr hB2)
      clear h4 hb hy hB2
      by_cases hys : y = step
      · subst hys
        have hb : (y == y) = true := by simp
        rw [hb] at CP
        go_wp2_with (first | (go_at_call 79; refine CP.out.mono ?_; rintro e w1 ⟨rfl, hb1⟩))
        go_ret
        exact ⟨⟨_, rfl, .inr ⟨k, hlt, rfl, HY.out, HK.out⟩⟩, bel_seq BW.out hb1⟩
      · have hb : (y == step) = false := beq_eq_false_iff_ne.2 hys
        rw [hb] at CP
        have HN := Lib.hid (show ∀ j, j < k + 1 → ¬ l.getD (2 * j) 0 = step from fun j hj => by
          by_cases e : j = k
          · rw [e, HY.out]; exact hys
          · exact HK.out j (by omega))
        go_wp2_with (first | (go_at_call 79; refine CP.out.mono ?_; rintro e w1 ⟨rfl, hb1⟩))
        go_roundw
        case rel => exact ⟨k + 1, by omega, by go_num, Lib.hid (bel_seq BW.out hb1), HN⟩
        case measure => simp [intOf]; omega
    · have hkn : k = n := by omega
      subst hkn
      go_wp2
      go_ret
      exact ⟨⟨_, rfl, .inl ⟨rfl, HK.out⟩⟩, BW.out⟩
end Go.Proofs.Ytelcpihbdgikfaa
