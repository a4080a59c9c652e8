/- For all ratchets the program's IsValidRatchet returns what the reference's returns, and leaves its argument alone; no condition. -/
import Derived.Test.YtdodheahckpkfaaRows
import Derived.Test.YtdodheahckpkfaaRatchLaw
import Derived.Test.YtdodheahckpkfaaOpenK
import Derived.Deep.RegionHeld3
namespace Go.Proofs.Ytdodheahckpkfaa.fnExactIsValidRatchet
open Go.ChangeShapes Go.WideShapes Go.ChangeAt Go.RowKit Go.Joins
set_option linter.unusedVariables false
set_option maxRecDepth 100000 in
theorem walk (x s : Int) (v : Value) (n : Nat) (l : List Int) (w : World) (hs : Sk w v n l) : Calls Try.prog 13 #[.agg #[.int .i64 x, .int .i64 s, v]] w fun ex w' => ex = .returned (.bool true) ∧ Below w.heap.size w w' := by
  obtain ⟨a, c, rfl, hm⟩ := hs.shape
  have CS := szRatchet x s _ n l 1048576 _ (hs.alloc (.cells #[.int .i64 x, .int .i64 s, .slice a n c] 72)) (by omega) (by omega)
  by_cases hlt : (1048576 : Int) < (n : Int)
  · rw [if_pos hlt] at CS
    have CS' := Lib.hid CS
    clear CS hlt hs hm
    go_enter Try.func13, Try.ntmps13
    go_wp2_with fail
    refine CS'.out.mono ?_
    rintro e w1 ⟨rfl, hb1⟩
    go_wp2
    go_ret
    exact ⟨rfl, (by repeat (first | exact Below.refl _ _ | refine bel_al ?_ _ | refine Below.setCell ?_ (by first | (simp; done) | (simp; omega)) _ | refine Below.drew ?_ | refine bel_drewN ?_ _ | refine bel_seq ?_ (hb1)))⟩
  · rw [if_neg hlt] at CS
    have CS' := Lib.hid CS
    have hl : n ≤ 1048576 := by omega
    have hlt' : (n : Int) ≤ 1048576 := by omega
    have HS := Lib.hid hs
    clear CS hlt hs
    obtain ⟨r, hr⟩ : ∃ r, r = validRatchetI x s n l := ⟨_, rfl⟩
    have C1 := fun v W (h1 : Sk W v n l) => specIsValidRatchet x s v n l W h1
    have C2 := fun v W (h1 : Sk W v n l) => implIsValidRatchet x s v n l W h1
    simp only [← hr] at C1 C2
    have C1' := Lib.hid C1
    have C2' := Lib.hid C2
    clear C1 C2 hr
    have hh : (r != r) = false := by simp
    have B0 := Lib.hid (Below.refl w.heap.size w)
    go_enter Try.func13, Try.ntmps13
    go_wp2_with fail
    refine (CS'.out).mono ?_
    rintro e w1 ⟨rfl, hb1⟩
    have B1 := Lib.hid (bel_seq (bel_al B0.out _) hb1)
    have p0 : w1.cell? ⟨w.heap.size, 0, none⟩ = some (.int .i64 x) := later0 hb1 (by simp)
    have p1 : w1.cell? ⟨w.heap.size, 1, none⟩ = some (.int .i64 s) := later0 hb1 (by simp)
    have p2 : w1.cell? ⟨w.heap.size, 2, none⟩ = some (.slice a n c) := later0 hb1 (by simp)
    go_wp2_with fail
    refine (toRatchet x s _ n l _ (HS.out.below B1.out) hl).mono ?_
    rintro e w2 ⟨g2, rfl, _, _, ho2, hb2⟩
    replace p0 := later0 hb2 p0
    replace p1 := later0 hb2 p1
    replace p2 := later0 hb2 p2
    have B2 := Lib.hid (bel_seq B1.out hb2)
    have O2 := Lib.hid ho2
    clear ho2
    go_wp2_with fail
    refine (C1'.out _ _ O2.out.sl).mono ?_
    rintro e w3 ⟨rfl, hb3⟩
    replace p0 := later0 hb3 p0
    replace p1 := later0 hb3 p1
    replace p2 := later0 hb3 p2
    have B3 := Lib.hid (bel_seq B2.out hb3)
    go_wp2_with fail
    refine (toRatchet x s _ n l _ (HS.out.below B3.out) hl).mono ?_
    rintro e w4 ⟨g4, rfl, _, _, ho4, hb4⟩
    replace p0 := later0 hb4 p0
    replace p1 := later0 hb4 p1
    replace p2 := later0 hb4 p2
    have B4 := Lib.hid (bel_seq B3.out hb4)
    have O4 := Lib.hid ho4
    clear ho4
    go_wp2_with fail
    refine (C2'.out _ _ (O4.out.alloc _).sl).mono ?_
    rintro e w5 ⟨rfl, hb5⟩
    replace p0 := later1 hb5 p0
    replace p1 := later1 hb5 p1
    replace p2 := later1 hb5 p2
    have B5 := Lib.hid (bel_seq (bel_al B4.out _) hb5)
    have q0 : w5.cell? ⟨w4.heap.size, 0, none⟩ = some (.int .i64 x) := later0 hb5 (by simp)
    have q1 : w5.cell? ⟨w4.heap.size, 1, none⟩ = some (.int .i64 s) := later0 hb5 (by simp)
    have q2 : w5.cell? ⟨w4.heap.size, 2, none⟩ = some (.slice (some ⟨g4, 0, none⟩) n n) := later0 hb5 (by simp)
    have S5 := Lib.hid ((O4.out.alloc _).sl.below hb5)
    clear hb1 hb2 hb3 hb4 hb5
    go_wp2_with fail
    go_region_held3 (fun W' => W'.cell? ⟨w4.heap.size, 0, none⟩ = some (.int .i64 x) ∧ W'.cell? ⟨w4.heap.size, 1, none⟩ = some (.int .i64 s) ∧ W'.cell? ⟨w4.heap.size, 2, none⟩ = some (.slice (some ⟨g4, 0, none⟩) n n) ∧ W'.cell? ⟨w.heap.size, 0, none⟩ = some (.int .i64 x) ∧ W'.cell? ⟨w.heap.size, 1, none⟩ = some (.int .i64 s) ∧ W'.cell? ⟨w.heap.size, 2, none⟩ = some (.slice a n c) ∧ Below w5.heap.size w5 W') (first | assumption | exact keep6 (bel_seq (bel6 ‹_›) hbh) q0 q1 q2 p0 p1 p2 | exact keep6 ((Below.refl _ _).drew) q0 q1 q2 p0 p1 p2) (first | (go_at_call 53; (refine (toRatchet x s (.slice a n c) n l _ (HS.out.below (bel_seq B5.out (bel6 ‹_›))) hl).mono ?_); rintro e w6 ⟨g6, rfl, hgg, hgg', ho6, hbh⟩) | (go_at_call 48; (refine (eqRatchet_yes x s (.slice (some ⟨g4, 0, none⟩) n n) (.slice (some ⟨g6, 0, none⟩) n n) n l _ (S5.out.below (bel6 ‹_›)) ho6.sl).mono ?_); rintro e w7 ⟨rfl, hbh⟩))
    go_wp2
    go_ret
    exact ⟨rfl, bel_seq B5.out (bel6 ‹_›)⟩
/-! ### THE ROW's STEP: the guide's own way -/
theorem own : ownKnob Try.prog.godebug = none := by kernel_rfl
theorem laidOut : laidOutB Try.prog = true := by kernel_rfl
set_option maxRecDepth 100000 in
theorem lifted (os : Os) (started : os.Started) (H : Type) (enc : TypeId × Value → H) :
    ReturnsInHanded {} Try.checked os 13 .any (Rows.fnExactIsValidRatchetSpec.pre6 enc Try.prog Try.f13 Rows.fnExactIsValidRatchetRow.domain false) (Rows.fnExactIsValidRatchetSpec.post enc Try.prog Try.f13 false true false false) := by
  refine returnsInHanded_of_change (C := Try.checked) own started (by kernel_rfl) Try.func13
    (ChangeSpec.witness6 (enc := enc) (C := Try.checked) false ⟨#[], #[.agg #[.int .i64 0, .int .i64 0, .slice none 0 0]], []⟩ 8 (by kernel_rfl) (by kernel_rfl) (by kernel_rfl) (by kernel_rfl)) ?_
  intro W base args ds gs before hval0 hW hcnd _
  have hval : ∀ (j : Nat) t v, Try.f13.params[j]? = some t → args[j]? = some v → Value.okWide Try.prog W .any base t v := hval0
  have hW' := hW
  obtain ⟨p, q, hA0, hV, rfl, hfz, hnd⟩ := hW
  have hA : DataW.TrodAll enc Try.prog W 0 (fun _ => true) true Try.f13.params.toList args.toList ds p := hA0
  rw [Try.params13] at hA hval
  obtain ⟨v0, vs0, d0, ds0, p0, q0, hargs, rfl, rfl, h0, r0⟩ := trodAll_cons hA
  obtain ⟨rfl, rfl, rfl⟩ := trodAll_nil r0
  obtain rfl : args = #[v0] := by cases args; simp_all
  obtain ⟨rfl, rfl⟩ := trodVars_none hV
  have k0 := h0
  have lt0 : ∀ x ∈ p0, x.block < W.heap.size := by obtain ⟨m, hm⟩ := k0; exact DataW.trod_lt m _ _ _ hm
  obtain ⟨c0_0, c0_1, c0_2, y0_0, y0_1, y0_2, fuel0, rfl, e0, pe0, g0_0, g0_1, g0_2⟩ := open_agg3 Try.underlying72 (by kernel_rfl) (by kernel_rfl) (hval 0 72 v0 rfl rfl) h0
  obtain ⟨a0_0, rfl, w0_0⟩ := intOfRead Try.underlying3 g0_0
  obtain ⟨a0_1, rfl, w0_1⟩ := intOfRead Try.underlying3 g0_1
  obtain ⟨n0_2, z0_2, s0_2⟩ := skOfRead Try.underlying70 Try.underlying110 Try.underlying3 Try.underlying3 (by kernel_rfl) rfl rfl (by kernel_rfl) (by kernel_rfl) g0_2 (fun x hx => lt0 x (by rw [pe0]; simp [hx]))
  clear hA0 hval0
  refine (walk a0_0 a0_1 _ n0_2 z0_2 W s0_2).mono fun e W' ⟨he, bel⟩ => ?_
  subst he
  exact ⟨_, rfl, _, _, _, [], _, [], hW', trodAll_mk1 (shut_bool Try.underlying4 _), (trodAll_cons_mk (Below.trod laidOut (by kernel_rfl) (of_decide_eq_true (by kernel_rfl)) k0 bel lt0) trodAll_mk0), rfl, bel.frame _, fun h => by cases h⟩

theorem over : Rows.fnExactIsValidRatchetRow.holds Try.pinned (OpenSpec.ofChange Rows.fnExactIsValidRatchetSpec) :=
  OpenClaim.holds_of_wide 13 Try.f13 rfl rfl rfl rfl rfl rfl rfl ⟨rfl, rfl, rfl, rfl, rfl⟩ rfl rfl rfl rfl rfl (by kernel_rfl) Try.func13 (by kernel_rfl)
    (of_decide_eq_true (by kernel_rfl)) (by unfold Func.isWrapper; first | (rw [if_pos (by decide +kernel)]; kernel_rfl) | (rw [if_neg (by decide +kernel)]; exact ⟨rfl, rfl⟩))
    (fun os started H enc _ => lifted os started H enc)

/-- the statement -/
theorem proved : Rows.FnExactIsValidRatchetSaid := over
end Go.Proofs.Ytdodheahckpkfaa.fnExactIsValidRatchet
