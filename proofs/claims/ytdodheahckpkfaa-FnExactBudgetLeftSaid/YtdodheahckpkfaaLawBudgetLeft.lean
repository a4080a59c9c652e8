/- For all lists the program's BudgetLeft returns what the reference's returns, and leaves its arguments alone; no condition. -/
import Derived.Test.YtdodheahckpkfaaRows
import Derived.Test.YtdodheahckpkfaaBudget
import Derived.Test.YtdodheahckpkfaaOpen
namespace Go.Proofs.Ytdodheahckpkfaa.fnExactBudgetLeft
open Go.ChangeShapes Go.WideShapes Go.ChangeAt Go.RowKit Go.Joins
set_option linter.unusedVariables false
set_option maxRecDepth 100000 in
theorem walk (a0 : Int) (v : Value) (l : List Int) (u : Value) (ss : List Int) (w : World) (hs : Sl .i64 w v l) (hu : Sl .i64 w u ss) : Calls Try.prog 6 #[.agg #[.int .i64 a0, v], u] w fun e w' => e = .returned (.bool true) ∧ Below w.heap.size w w' := by
  obtain ⟨a, c, rfl, hm⟩ := hs.shape
  obtain ⟨a', c', rfl, hm'⟩ := hu.shape
  have HS := Lib.hid hs
  have HU := Lib.hid hu
  have B0 := Lib.hid (Below.refl w.heap.size w)
  have CS := szSpentList a0 _ l 1048576 _ (hs.alloc (.cells #[.int .i64 a0, .slice a l.length c] 24)) (by omega) (by omega)
  by_cases hu2 : (1048576 : Int) < (ss.length : Int)
  · clear CS hs hu
    go_enter Try.func6, Try.ntmps6
    go_wp2
    go_ret
    exact ⟨rfl, (by repeat (first | exact Below.refl _ _ | refine bel_al ?_ _ | refine Below.setCell ?_ (by first | (simp; done) | (simp; omega)) _ | refine Below.drew ?_ | refine bel_drewN ?_ _))⟩
  · have hu3 : ss.length ≤ 1048576 := by omega
    have hu4 : (ss.length : Int) ≤ 1048576 := by omega
    clear hu2
    by_cases hlt : (1048576 : Int) < (l.length : Int)
    · rw [if_pos hlt] at CS
      have CS' := Lib.hid CS
      clear CS hlt hs hm hu
      go_enter Try.func6, Try.ntmps6
      go_wp2_with fail
      refine CS'.out.mono ?_
      rintro e w1 ⟨rfl, hb1⟩
      go_wp2
      go_ret
      exact ⟨rfl, (by repeat (first | exact Below.refl _ _ | refine bel_al ?_ _ | refine Below.setCell ?_ (by first | (simp; done) | (simp; omega)) _ | refine Below.drew ?_ | refine bel_drewN ?_ _ | refine bel_seq ?_ (hb1)))⟩
    · rw [if_neg hlt] at CS
      have CS' := Lib.hid CS
      have hl : l.length ≤ 1048576 := by omega
      have hlt' : (l.length : Int) ≤ 1048576 := by omega
      clear CS hlt hs hu
      obtain ⟨r, hr⟩ : ∃ r, r = budgetI l ss := ⟨_, rfl⟩
      have C1 := fun v u W (h1 : Sl .i64 W v l) (h2 : Sl .i64 W u ss) => specBudgetLeft a0 v u l ss W h1 h2
      have C2 := fun v u W (h1 : Sl .i64 W v l) (h2 : Sl .i64 W u ss) => implBudgetLeft a0 v u l ss W h1 h2
      simp only [← hr] at C1 C2
      have C1' := Lib.hid C1
      have C2' := Lib.hid C2
      clear C1 C2 hr
      have hh : (r != r) = false := by simp
      go_enter Try.func6, Try.ntmps6
      go_wp2_with fail
      refine (CS'.out).mono ?_
      rintro e w1 ⟨rfl, hb1⟩
      have B1 := Lib.hid (bel_seq (bel_al B0.out _) hb1)
      have p0 : w1.cell? ⟨w.heap.size, 0, none⟩ = some (.int .i64 a0) := later0 hb1 (by simp)
      have p1 : w1.cell? ⟨w.heap.size, 1, none⟩ = some (.slice a l.length c) := later0 hb1 (by simp)
      go_wp2_with fail
      refine (toSpentList a0 (.slice a l.length c) l _ (HS.out.below B1.out) hl).mono ?_
      rintro e w2 ⟨N2, g2, rfl, hN2, _, _, ho2, hb2⟩
      replace p0 := later0 hb2 p0
      replace p1 := later0 hb2 p1
      have B2 := Lib.hid (bel_seq B1.out hb2)
      have S2 := Lib.hid ho2.sl
      clear ho2
      go_wp2_with fail
      refine (toIntS (.slice a' ss.length c') ss _ (HU.out.below B2.out) hu3).mono ?_
      rintro e w3 ⟨N3, g3, rfl, hN3, _, _, ho3, hb3⟩
      replace p0 := later0 hb3 p0
      replace p1 := later0 hb3 p1
      have B3 := Lib.hid (bel_seq B2.out hb3)
      have S3 := Lib.hid ho3.sl
      clear ho3
      go_wp2_with fail
      refine (C1'.out _ _ _ (S2.out.below hb3) S3.out).mono ?_
      rintro e w4 ⟨rfl, hb4⟩
      replace p0 := later0 hb4 p0
      replace p1 := later0 hb4 p1
      have B4 := Lib.hid (bel_seq B3.out hb4)
      go_wp2_with fail
      refine (toSpentList a0 (.slice a l.length c) l _ (HS.out.below B4.out) hl).mono ?_
      rintro e w5 ⟨N5, g5, rfl, hN5, _, _, ho5, hb5⟩
      replace p0 := later0 hb5 p0
      replace p1 := later0 hb5 p1
      have B5 := Lib.hid (bel_seq B4.out hb5)
      have S5 := Lib.hid ho5.sl
      clear ho5
      go_wp2_with fail
      refine (toIntS (.slice a' ss.length c') ss _ (HU.out.below (bel_al B5.out _)) hu3).mono ?_
      rintro e w6 ⟨N6, g6, rfl, hN6, _, _, ho6, hb6⟩
      replace p0 := later1 hb6 p0
      replace p1 := later1 hb6 p1
      have B6 := Lib.hid (bel_seq (bel_al B5.out _) hb6)
      have q0 : w6.cell? ⟨w5.heap.size, 0, none⟩ = some (.int .i64 a0) := later0 hb6 (by simp)
      have q1 : w6.cell? ⟨w5.heap.size, 1, none⟩ = some (.slice (some ⟨g5, 0, none⟩) N5 N5) := later0 hb6 (by simp)
      have S5' := Lib.hid ((S5.out.alloc (.cells #[.int .i64 a0, .slice (some ⟨g5, 0, none⟩) N5 N5] 27)).below hb6)
      have S6 := Lib.hid ho6.sl
      clear ho6
      go_wp2_with fail
      refine (C2'.out _ _ _ S5'.out S6.out).mono ?_
      rintro e w7 ⟨rfl, hb7⟩
      replace p0 := later0 hb7 p0
      replace p1 := later0 hb7 p1
      replace q0 := later0 hb7 q0
      replace q1 := later0 hb7 q1
      have B7 := Lib.hid (bel_seq B6.out hb7)
      have S5f := Lib.hid (S5'.out.below hb7)
      have S6f := Lib.hid (S6.out.below hb7)
      clear hb1 hb2 hb3 hb4 hb5 hb6 hb7
      go_wp2_with fail
      go_region_held3 (fun W' => W'.cell? ⟨w5.heap.size, 0, none⟩ = some (.int .i64 a0) ∧ W'.cell? ⟨w5.heap.size, 1, none⟩ = some (.slice (some ⟨g5, 0, none⟩) N5 N5) ∧ W'.cell? ⟨w.heap.size, 0, none⟩ = some (.int .i64 a0) ∧ W'.cell? ⟨w.heap.size, 1, none⟩ = some (.slice a l.length c) ∧ Below w7.heap.size w7 W') (first | assumption | exact keep4 (bel_seq (bel4 ‹_›) hbh) q0 q1 p0 p1 | exact keep4 ((Below.refl _ _).drew) q0 q1 p0 p1) (first | (go_at_call 17; (refine (toSpentList a0 (.slice a l.length c) l _ (HS.out.below (bel_seq B7.out (bel4 ‹_›))) hl).mono ?_); rintro e w8 ⟨N8, g8, rfl, hN8, _, _, ho8, hbh⟩) | (go_at_call 19; (refine (eqSpentList_yes a0 (.slice (some ⟨g5, 0, none⟩) N5 N5) (.slice (some ⟨g8, 0, none⟩) N8 N8) l _ (S5f.out.below (bel4 ‹_›)) ho8.sl).mono ?_); rintro e w9 ⟨rfl, hbh⟩))
      have hb9 : Below w7.heap.size w7 w9 := bel4 ‹_›
      have B9 := Lib.hid (bel_seq B7.out hb9)
      have S6g := Lib.hid (S6f.out.below hb9)
      clear hb9
      go_wp2_with fail
      refine (toIntS (.slice a' ss.length c') ss _ (HU.out.below B9.out) hu3).mono ?_
      rintro e wA ⟨NA, gA, rfl, hNA, _, _, hoA, hbA⟩
      have BA := Lib.hid (bel_seq B9.out hbA)
      go_wp2_with fail
      refine (eqIntS_yes _ _ ss _ (S6g.out.below hbA) hoA.sl).mono ?_
      rintro e wB ⟨rfl, hbB⟩
      have BB := Lib.hid (bel_seq BA.out hbB)
      go_wp2
      go_ret
      exact ⟨rfl, BB.out⟩
/-! ### THE ROW's STEP: the guide's own way -/
theorem own : ownKnob Try.prog.godebug = none := by kernel_rfl
theorem laidOut : laidOutB Try.prog = true := by kernel_rfl
set_option maxRecDepth 100000 in
theorem lifted (os : Os) (started : os.Started) (H : Type) (enc : TypeId × Value → H) :
    ReturnsInHanded {} Try.checked os 6 .any (Rows.fnExactBudgetLeftSpec.pre6 enc Try.prog Try.f6 Rows.fnExactBudgetLeftRow.domain false) (Rows.fnExactBudgetLeftSpec.post enc Try.prog Try.f6 false true false false) := by
  refine returnsInHanded_of_change (C := Try.checked) own started (by kernel_rfl) Try.func6
    (ChangeSpec.witness6 (enc := enc) (C := Try.checked) false ⟨#[], #[.agg #[.int .i64 0, .slice none 0 0], .slice none 0 0], []⟩ 8 (by kernel_rfl) (by kernel_rfl) (by kernel_rfl) (by kernel_rfl)) ?_
  intro W base args ds gs before hval0 hW hcnd _
  have hval : ∀ (j : Nat) t v, Try.f6.params[j]? = some t → args[j]? = some v → Value.okWide Try.prog W .any base t v := hval0
  have hW' := hW
  obtain ⟨p, q, hA0, hV, rfl, hfz, hnd⟩ := hW
  have hA : DataW.TrodAll enc Try.prog W 0 (fun _ => true) true Try.f6.params.toList args.toList ds p := hA0
  rw [Try.params6] at hA hval
  obtain ⟨v0, vs0, d0, ds0, p0, q0, hargs, rfl, rfl, h0, r0⟩ := trodAll_cons hA
  obtain ⟨v1, vs1, d1, ds1, p1, q1, rfl, rfl, rfl, h1, r1⟩ := trodAll_cons r0
  obtain ⟨rfl, rfl, rfl⟩ := trodAll_nil r1
  obtain rfl : args = #[v0, v1] := by cases args; simp_all
  obtain ⟨rfl, rfl⟩ := trodVars_none hV
  have k0 := h0
  have lt0 : ∀ x ∈ p0, x.block < W.heap.size := by obtain ⟨m, hm⟩ := k0; exact DataW.trod_lt m _ _ _ hm
  obtain ⟨c0_0, c0_1, y0_0, y0_1, fuel0, rfl, e0, pe0, g0_0, g0_1⟩ := open_agg2 Try.underlying24 (by kernel_rfl) (by kernel_rfl) (hval 0 24 v0 rfl rfl) h0
  obtain ⟨a0_0, rfl, w0_0⟩ := intOfRead Try.underlying3 g0_0
  obtain ⟨z0_1, s0_1, wf0_1⟩ := slOfRead Try.underlying22 Try.underlying3 (by kernel_rfl) g0_1 (fun x hx => lt0 x (by rw [pe0]; simp [hx]))
  have k1 := h1
  have lt1 : ∀ x ∈ p1, x.block < W.heap.size := by obtain ⟨m, hm⟩ := k1; exact DataW.trod_lt m _ _ _ hm
  obtain ⟨fuel1, g1⟩ := h1
  obtain ⟨b1, len1, cap1, rfl⟩ := okWide_slice Try.underlying22 (hval 1 22 v1 rfl rfl)
  obtain ⟨z1, s1, wf1⟩ := slOfRead Try.underlying22 Try.underlying3 (by kernel_rfl) (by simpa [Value.cells] using g1) lt1
  clear hA0 hval0
  refine (walk a0_0 _ z0_1 _ z1 W s0_1 s1).mono fun e W' ⟨he, bel⟩ => ?_
  subst he
  exact ⟨_, rfl, _, _, _, [], _, [], hW', trodAll_mk1 (shut_bool Try.underlying4 _), (trodAll_cons_mk (Below.trod laidOut (by kernel_rfl) (of_decide_eq_true (by kernel_rfl)) k0 bel lt0) (trodAll_cons_mk (Below.trod laidOut (by kernel_rfl) (of_decide_eq_true (by kernel_rfl)) k1 bel lt1) trodAll_mk0)), rfl, bel.frame _, fun h => by cases h⟩

theorem over : Rows.fnExactBudgetLeftRow.holds Try.pinned (OpenSpec.ofChange Rows.fnExactBudgetLeftSpec) :=
  OpenClaim.holds_of_wide 6 Try.f6 rfl rfl rfl rfl rfl rfl rfl ⟨rfl, rfl, rfl, rfl, rfl⟩ rfl rfl rfl rfl rfl (by kernel_rfl) Try.func6 (by kernel_rfl)
    (of_decide_eq_true (by kernel_rfl)) (by unfold Func.isWrapper; first | (rw [if_pos (by decide +kernel)]; kernel_rfl) | (rw [if_neg (by decide +kernel)]; exact ⟨rfl, rfl⟩))
    (fun os started H enc _ => lifted os started H enc)

/-- the statement -/
theorem proved : Rows.FnExactBudgetLeftSaid := over
end Go.Proofs.Ytdodheahckpkfaa.fnExactBudgetLeft
