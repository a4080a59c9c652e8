/- For all groups the program's IsValidGroup returns what the reference's returns, and leaves its argument alone; no condition. -/
import Derived.Test.YtdodheahckpkfaaRows
import Derived.Test.YtdodheahckpkfaaGroupLaw
import Derived.Test.YtdodheahckpkfaaOpen
import Derived.Deep.RegionHeld3
namespace Go.Proofs.Ytdodheahckpkfaa.fnExactIsValidGroup
open Go.ChangeShapes Go.WideShapes Go.ChangeAt Go.RowKit Go.Joins
set_option linter.unusedVariables false
set_option maxRecDepth 100000 in
theorem walk (i e s : Int) (v : Value) (l : List Int) (w : World) (hs : Sl .i64 w v l) : Calls Try.prog 11 #[.agg #[.int .i64 i, .int .i64 e, .int .i64 s, v]] w fun ex w' => ex = .returned (.bool true) ∧ Below w.heap.size w w' := by
  obtain ⟨a, c, rfl, hm⟩ := hs.shape
  have CS := szSenderGroup i e s _ l 1048576 _ (hs.alloc (.cells #[.int .i64 i, .int .i64 e, .int .i64 s, .slice a l.length c] 56)) (by omega) (by omega)
  by_cases hlt : (1048576 : Int) < (l.length : Int)
  · rw [if_pos hlt] at CS
    have CS' := Lib.hid CS
    clear CS hlt hs hm
    go_enter Try.func11, Try.ntmps11
    go_wp2_with fail
    refine CS'.out.mono ?_
    rintro e w1 ⟨rfl, hb1⟩
    go_wp2
    go_ret
    exact ⟨rfl, (by repeat (first | exact Below.refl _ _ | refine bel_al ?_ _ | refine Below.setCell ?_ (by first | (simp; done) | (simp; omega)) _ | refine Below.drew ?_ | refine bel_drewN ?_ _ | refine bel_seq ?_ (hb1)))⟩
  · rw [if_neg hlt] at CS
    have CS' := Lib.hid CS
    have hl : l.length ≤ 1048576 := by omega
    have hlt' : (l.length : Int) ≤ 1048576 := by omega
    have HS := Lib.hid hs
    clear CS hlt hs
    have hh : (validGroupI i e s l != validGroupI i e s l) = false := by simp
    have B0 := Lib.hid (Below.refl w.heap.size w)
    go_enter Try.func11, Try.ntmps11
    go_wp2_with fail
    refine (CS'.out).mono ?_
    rintro e w1 ⟨rfl, hb1⟩
    have B1 := Lib.hid (bel_seq (bel_al B0.out _) hb1)
    have p0 : w1.cell? ⟨w.heap.size, 0, none⟩ = some (.int .i64 i) := later0 hb1 (by simp)
    have p1 : w1.cell? ⟨w.heap.size, 1, none⟩ = some (.int .i64 e) := later0 hb1 (by simp)
    have p2 : w1.cell? ⟨w.heap.size, 2, none⟩ = some (.int .i64 s) := later0 hb1 (by simp)
    have p3 : w1.cell? ⟨w.heap.size, 3, none⟩ = some (.slice a l.length c) := later0 hb1 (by simp)
    go_wp2_with fail
    refine (toSenderGroup i e s _ l _ (HS.out.below B1.out) hl).mono ?_
    rintro e w2 ⟨N2, g2, rfl, hN2, _, _, ho2, hb2⟩
    replace p0 := later0 hb2 p0
    replace p1 := later0 hb2 p1
    replace p2 := later0 hb2 p2
    replace p3 := later0 hb2 p3
    have B2 := Lib.hid (bel_seq B1.out hb2)
    have O2 := Lib.hid ho2
    clear ho2
    go_wp2_with fail
    refine (specIsValidGroup i e s _ l _ O2.out.sl).mono ?_
    rintro e w3 ⟨rfl, hb3⟩
    replace p0 := later0 hb3 p0
    replace p1 := later0 hb3 p1
    replace p2 := later0 hb3 p2
    replace p3 := later0 hb3 p3
    have B3 := Lib.hid (bel_seq B2.out hb3)
    go_wp2_with fail
    refine (toSenderGroup i e s _ l _ (HS.out.below B3.out) hl).mono ?_
    rintro e w4 ⟨N4, g4, rfl, hN4, _, _, ho4, hb4⟩
    replace p0 := later0 hb4 p0
    replace p1 := later0 hb4 p1
    replace p2 := later0 hb4 p2
    replace p3 := later0 hb4 p3
    have B4 := Lib.hid (bel_seq B3.out hb4)
    have O4 := Lib.hid ho4
    clear ho4
    go_wp2_with fail
    refine (implIsValidGroup i e s _ l _ (O4.out.alloc _).sl).mono ?_
    rintro e w5 ⟨rfl, hb5⟩
    replace p0 := later1 hb5 p0
    replace p1 := later1 hb5 p1
    replace p2 := later1 hb5 p2
    replace p3 := later1 hb5 p3
    have B5 := Lib.hid (bel_seq (bel_al B4.out _) hb5)
    have q0 : w5.cell? ⟨w4.heap.size, 0, none⟩ = some (.int .i64 i) := later0 hb5 (by simp)
    have q1 : w5.cell? ⟨w4.heap.size, 1, none⟩ = some (.int .i64 e) := later0 hb5 (by simp)
    have q2 : w5.cell? ⟨w4.heap.size, 2, none⟩ = some (.int .i64 s) := later0 hb5 (by simp)
    have q3 : w5.cell? ⟨w4.heap.size, 3, none⟩ = some (.slice (some ⟨g4, 0, none⟩) N4 N4) := later0 hb5 (by simp)
    have S5 := Lib.hid ((O4.out.alloc _).sl.below hb5)
    clear hb1 hb2 hb3 hb4 hb5
    go_wp2_with fail
    go_region_held3 (fun W' => W'.cell? ⟨w4.heap.size, 0, none⟩ = some (.int .i64 i) ∧ W'.cell? ⟨w4.heap.size, 1, none⟩ = some (.int .i64 e) ∧ W'.cell? ⟨w4.heap.size, 2, none⟩ = some (.int .i64 s) ∧ W'.cell? ⟨w4.heap.size, 3, none⟩ = some (.slice (some ⟨g4, 0, none⟩) N4 N4) ∧ W'.cell? ⟨w.heap.size, 0, none⟩ = some (.int .i64 i) ∧ W'.cell? ⟨w.heap.size, 1, none⟩ = some (.int .i64 e) ∧ W'.cell? ⟨w.heap.size, 2, none⟩ = some (.int .i64 s) ∧ W'.cell? ⟨w.heap.size, 3, none⟩ = some (.slice a l.length c) ∧ Below w5.heap.size w5 W') (first | assumption | exact keep8 (bel_seq (bel8 ‹_›) hbh) q0 q1 q2 q3 p0 p1 p2 p3 | exact keep8 ((Below.refl _ _).drew) q0 q1 q2 q3 p0 p1 p2 p3) (first | (go_at_call 43; (refine (toSenderGroup i e s (.slice a l.length c) l _ (HS.out.below (bel_seq B5.out (bel8 ‹_›))) hl).mono ?_); rintro e w6 ⟨N6, g6, rfl, hN6, hgg, hgg', ho6, hbh⟩) | (go_at_call 45; (refine (eqSenderGroup_yes i e s (.slice (some ⟨g4, 0, none⟩) N4 N4) (.slice (some ⟨g6, 0, none⟩) N6 N6) l _ (S5.out.below (bel8 ‹_›)) ho6.sl).mono ?_); rintro e w7 ⟨rfl, hbh⟩))
    go_wp2
    go_ret
    exact ⟨rfl, bel_seq B5.out (bel8 ‹_›)⟩
/-! ### THE ROW's STEP: the guide's own way -/
theorem own : ownKnob Try.prog.godebug = none := by kernel_rfl
theorem laidOut : laidOutB Try.prog = true := by kernel_rfl
set_option maxRecDepth 100000 in
theorem lifted (os : Os) (started : os.Started) (H : Type) (enc : TypeId × Value → H) :
    ReturnsInHanded {} Try.checked os 11 .any (Rows.fnExactIsValidGroupSpec.pre6 enc Try.prog Try.f11 Rows.fnExactIsValidGroupRow.domain false) (Rows.fnExactIsValidGroupSpec.post enc Try.prog Try.f11 false true false false) := by
  refine returnsInHanded_of_change (C := Try.checked) own started (by kernel_rfl) Try.func11
    (ChangeSpec.witness6 (enc := enc) (C := Try.checked) false ⟨#[], #[.agg #[.int .i64 0, .int .i64 0, .int .i64 0, .slice none 0 0]], []⟩ 8 (by kernel_rfl) (by kernel_rfl) (by kernel_rfl) (by kernel_rfl)) ?_
  intro W base args ds gs before hval0 hW hcnd _
  have hval : ∀ (j : Nat) t v, Try.f11.params[j]? = some t → args[j]? = some v → Value.okWide Try.prog W .any base t v := hval0
  have hW' := hW
  obtain ⟨p, q, hA0, hV, rfl, hfz, hnd⟩ := hW
  have hA : DataW.TrodAll enc Try.prog W 0 (fun _ => true) true Try.f11.params.toList args.toList ds p := hA0
  rw [Try.params11] at hA hval
  obtain ⟨v0, vs0, d0, ds0, p0, q0, hargs, rfl, rfl, h0, r0⟩ := trodAll_cons hA
  obtain ⟨rfl, rfl, rfl⟩ := trodAll_nil r0
  obtain rfl : args = #[v0] := by cases args; simp_all
  obtain ⟨rfl, rfl⟩ := trodVars_none hV
  have k0 := h0
  have lt0 : ∀ x ∈ p0, x.block < W.heap.size := by obtain ⟨m, hm⟩ := k0; exact DataW.trod_lt m _ _ _ hm
  obtain ⟨c0_0, c0_1, c0_2, c0_3, y0_0, y0_1, y0_2, y0_3, fuel0, rfl, e0, pe0, g0_0, g0_1, g0_2, g0_3⟩ := open_agg4 Try.underlying56 (by kernel_rfl) (by kernel_rfl) (hval 0 56 v0 rfl rfl) h0
  obtain ⟨a0_0, rfl, w0_0⟩ := intOfRead Try.underlying3 g0_0
  obtain ⟨a0_1, rfl, w0_1⟩ := intOfRead Try.underlying3 g0_1
  obtain ⟨a0_2, rfl, w0_2⟩ := intOfRead Try.underlying3 g0_2
  obtain ⟨z0_3, s0_3, wf0_3⟩ := slOfRead Try.underlying22 Try.underlying3 (by kernel_rfl) g0_3 (fun x hx => lt0 x (by rw [pe0]; simp [hx]))
  clear hA0 hval0
  refine (walk a0_0 a0_1 a0_2 _ z0_3 W s0_3).mono fun e W' ⟨he, bel⟩ => ?_
  subst he
  exact ⟨_, rfl, _, _, _, [], _, [], hW', trodAll_mk1 (shut_bool Try.underlying4 _), (trodAll_cons_mk (Below.trod laidOut (by kernel_rfl) (of_decide_eq_true (by kernel_rfl)) k0 bel lt0) trodAll_mk0), rfl, bel.frame _, fun h => by cases h⟩

theorem over : Rows.fnExactIsValidGroupRow.holds Try.pinned (OpenSpec.ofChange Rows.fnExactIsValidGroupSpec) :=
  OpenClaim.holds_of_wide 11 Try.f11 rfl rfl rfl rfl rfl rfl rfl ⟨rfl, rfl, rfl, rfl, rfl⟩ rfl rfl rfl rfl rfl (by kernel_rfl) Try.func11 (by kernel_rfl)
    (of_decide_eq_true (by kernel_rfl)) (by unfold Func.isWrapper; first | (rw [if_pos (by decide +kernel)]; kernel_rfl) | (rw [if_neg (by decide +kernel)]; exact ⟨rfl, rfl⟩))
    (fun os started H enc _ => lifted os started H enc)

/-- the statement -/
theorem proved : Rows.FnExactIsValidGroupSaid := over
end Go.Proofs.Ytdodheahckpkfaa.fnExactIsValidGroup
