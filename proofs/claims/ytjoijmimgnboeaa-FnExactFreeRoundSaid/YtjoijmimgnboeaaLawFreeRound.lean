/- For all arguments the program's FreeRound returns what the reference's returns, and leaves its argument alone; no condition. -/
import Derived.Test.YtjoijmimgnboeaaRows
import Derived.Test.YtjoijmimgnboeaaFree
import Derived.Test.YtjoijmimgnboeaaOpen
namespace Go.Proofs.Ytjoijmimgnboeaa.fnExactFreeRound
open Go.ChangeShapes Go.WideShapes Go.ChangeAt Go.RowKit Go.Joins
set_option linter.unusedVariables false
theorem walk (u : Value) (ss : List Int) (a1 a2 : Int) (w : World) (hu : Sl .i64 w u ss) : Calls Try.prog 14 #[u, .int .i64 a1, .int .i64 a2] w fun e w' => e = .returned (.bool true) ∧ Below w.heap.size w w' := by
  obtain ⟨a', c', rfl, hm'⟩ := hu.shape
  have HU := Lib.hid hu
  have B0 := Lib.hid (Below.refl w.heap.size w)
  by_cases hu2 : (1048576 : Int) < (ss.length : Int)
  · clear hu
    go_enter Try.func14, Try.ntmps14
    go_wp2
    go_ret
    exact ⟨rfl, (by repeat (first | exact Below.refl _ _ | refine bel_al ?_ _ | refine Below.setCell ?_ (by first | (simp; done) | (simp; omega)) _ | refine Below.drew ?_ | refine bel_drewN ?_ _))⟩
  · have hu3 : ss.length ≤ 1048576 := by omega
    have hu4 : (ss.length : Int) ≤ 1048576 := by omega
    obtain ⟨r, hr⟩ : ∃ r, r = freeI ss a1 a2 := ⟨_, rfl⟩
    have C1 := fun u W (h2 : Sl .i64 W u ss) => specFreeRound u ss a1 a2 W h2 hu3
    have C2 := fun u W (h2 : Sl .i64 W u ss) => implFreeRound u ss a1 a2 W h2 hu3
    simp only [← hr] at C1 C2
    have C1' := Lib.hid C1
    have C2' := Lib.hid C2
    clear C1 C2 hr hu2 hu
    have hh : (r != r) = false := by simp
    go_enter Try.func14, Try.ntmps14
    go_wp2_with fail
    refine (toIntS (.slice a' ss.length c') ss _ (HU.out.below B0.out) hu3).mono ?_
    rintro e w1 ⟨N1, g1, rfl, hN1, _, _, ho1, hb1⟩
    have B1 := Lib.hid (bel_seq B0.out hb1)
    have S1 := Lib.hid ho1.sl
    clear ho1
    go_wp2_with fail
    refine (C1'.out _ _ S1.out).mono ?_
    rintro e w2 ⟨rfl, hb2⟩
    have B2 := Lib.hid (bel_seq B1.out hb2)
    go_wp2_with fail
    refine (toIntS (.slice a' ss.length c') ss _ (HU.out.below B2.out) hu3).mono ?_
    rintro e w3 ⟨N3, g3, rfl, hN3, _, _, ho3, hb3⟩
    have B3 := Lib.hid (bel_seq B2.out hb3)
    have S3 := Lib.hid ho3.sl
    clear ho3
    go_wp2_with fail
    refine (C2'.out _ _ S3.out).mono ?_
    rintro e w4 ⟨rfl, hb4⟩
    have B4 := Lib.hid (bel_seq B3.out hb4)
    go_wp2_with fail
    refine (toIntS (.slice a' ss.length c') ss _ (HU.out.below B4.out) hu3).mono ?_
    rintro e w5 ⟨N5, g5, rfl, hN5, _, _, ho5, hb5⟩
    have B5 := Lib.hid (bel_seq B4.out hb5)
    go_wp2_with fail
    refine (eqIntS_yes _ _ ss _ ((S3.out.below hb4).below hb5) ho5.sl).mono ?_
    rintro e w6 ⟨rfl, hb6⟩
    have B6 := Lib.hid (bel_seq B5.out hb6)
    go_wp2
    go_ret
    exact ⟨rfl, B6.out⟩
/-! ### THE ROW's STEP: the guide's own way -/
theorem own : ownKnob Try.prog.godebug = none := by kernel_rfl
theorem laidOut : laidOutB Try.prog = true := by kernel_rfl
set_option maxRecDepth 100000 in
theorem lifted (os : Os) (started : os.Started) (H : Type) (enc : TypeId × Value → H) :
    ReturnsInHanded {} Try.checked os 14 .any (Rows.fnExactFreeRoundSpec.pre6 enc Try.prog Try.f14 Rows.fnExactFreeRoundRow.domain false) (Rows.fnExactFreeRoundSpec.post enc Try.prog Try.f14 false true false false) := by
  refine returnsInHanded_of_change (C := Try.checked) own started (by kernel_rfl) Try.func14
    (ChangeSpec.witness6 (enc := enc) (C := Try.checked) false ⟨#[], #[.slice none 0 0, .int .i64 0, .int .i64 0], []⟩ 8 (by kernel_rfl) (by kernel_rfl) (by kernel_rfl) (by kernel_rfl)) ?_
  intro W base args ds gs before hval0 hW hcnd _
  have hval : ∀ (j : Nat) t v, Try.f14.params[j]? = some t → args[j]? = some v → Value.okWide Try.prog W .any base t v := hval0
  have hW' := hW
  obtain ⟨p, q, hA0, hV, rfl, hfz, hnd⟩ := hW
  have hA : DataW.TrodAll enc Try.prog W 0 (fun _ => true) true Try.f14.params.toList args.toList ds p := hA0
  rw [Try.params14] at hA hval
  obtain ⟨v0, vs0, d0, ds0, p0, q0, hargs, rfl, rfl, h0, r0⟩ := trodAll_cons hA
  obtain ⟨v1, vs1, d1, ds1, p1, q1, rfl, rfl, rfl, h1, r1⟩ := trodAll_cons r0
  obtain ⟨v2, vs2, d2, ds2, p2, q2, rfl, rfl, rfl, h2, r2⟩ := trodAll_cons r1
  obtain ⟨rfl, rfl, rfl⟩ := trodAll_nil r2
  obtain rfl : args = #[v0, v1, v2] := by cases args; simp_all
  obtain ⟨rfl, rfl⟩ := trodVars_none hV
  have k0 := h0
  have lt0 : ∀ x ∈ p0, x.block < W.heap.size := by obtain ⟨m, hm⟩ := k0; exact DataW.trod_lt m _ _ _ hm
  obtain ⟨fuel0, g0⟩ := h0
  obtain ⟨b0, len0, cap0, rfl⟩ := okWide_slice Try.underlying39 (hval 0 39 v0 rfl rfl)
  obtain ⟨z0, s0, wf0⟩ := slOfRead Try.underlying39 Try.underlying3 (by kernel_rfl) (by simpa [Value.cells] using g0) lt0
  have k1 := h1
  have lt1 : ∀ x ∈ p1, x.block < W.heap.size := by obtain ⟨m, hm⟩ := k1; exact DataW.trod_lt m _ _ _ hm
  obtain ⟨fuel1, g1⟩ := h1
  obtain ⟨a1, rfl, w1⟩ : ∃ n, v1 = .int .i64 n ∧ (Lit.int .i64 n).wf = true := by
    obtain ⟨n, rfl⟩ := okWide_int Try.underlying3 (hval 1 3 v1 rfl rfl)
    exact ⟨n, rfl, by obtain ⟨m, e, w⟩ := intOfRead Try.underlying3 (by simpa [Value.cells] using g1); cases e; exact w⟩
  have k2 := h2
  have lt2 : ∀ x ∈ p2, x.block < W.heap.size := by obtain ⟨m, hm⟩ := k2; exact DataW.trod_lt m _ _ _ hm
  obtain ⟨fuel2, g2⟩ := h2
  obtain ⟨a2, rfl, w2⟩ : ∃ n, v2 = .int .i64 n ∧ (Lit.int .i64 n).wf = true := by
    obtain ⟨n, rfl⟩ := okWide_int Try.underlying3 (hval 2 3 v2 rfl rfl)
    exact ⟨n, rfl, by obtain ⟨m, e, w⟩ := intOfRead Try.underlying3 (by simpa [Value.cells] using g2); cases e; exact w⟩
  clear hA0 hval0
  refine (walk _ z0 a1 a2 W s0).mono fun e W' ⟨he, bel⟩ => ?_
  subst he
  exact ⟨_, rfl, _, _, _, [], _, [], hW', trodAll_mk1 (shut_bool Try.underlying4 _), (trodAll_cons_mk (Below.trod laidOut (by kernel_rfl) (of_decide_eq_true (by kernel_rfl)) k0 bel lt0) (trodAll_cons_mk (Below.trod laidOut (by kernel_rfl) (of_decide_eq_true (by kernel_rfl)) k1 bel lt1) (trodAll_cons_mk (Below.trod laidOut (by kernel_rfl) (of_decide_eq_true (by kernel_rfl)) k2 bel lt2) trodAll_mk0))), rfl, bel.frame _, fun h => by cases h⟩

theorem over : Rows.fnExactFreeRoundRow.holds Try.pinned (OpenSpec.ofChange Rows.fnExactFreeRoundSpec) :=
  OpenClaim.holds_of_wide 14 Try.f14 rfl rfl rfl rfl rfl rfl rfl ⟨rfl, rfl, rfl, rfl, rfl⟩ rfl rfl rfl rfl rfl (by kernel_rfl) Try.func14 (by kernel_rfl)
    (of_decide_eq_true (by kernel_rfl)) (by unfold Func.isWrapper; first | (rw [if_pos (by decide +kernel)]; kernel_rfl) | (rw [if_neg (by decide +kernel)]; exact ⟨rfl, rfl⟩))
    (fun os started H enc _ => lifted os started H enc)

/-- the statement -/
theorem proved : Rows.FnExactFreeRoundSaid := over
end Go.Proofs.Ytjoijmimgnboeaa.fnExactFreeRound
