/- For all arguments the program's MakeInvitation returns what the reference's returns, in memory of its own; no condition. -/
import Derived.Test.YtelcpihbdgikfaaRows
import Derived.Test.YtelcpihbdgikfaaMailLaw
import Derived.Test.YtelcpihbdgikfaaDial
import Derived.Test.YtelcpihbdgikfaaOpen
namespace Go.Proofs.Ytelcpihbdgikfaa.fnExactMakeInvitation
open Go.ChangeShapes Go.WideShapes Go.ChangeAt Go.RowKit Go.Joins
set_option linter.unusedVariables false
theorem makeI_len (s p a r : Int) : (makeI s p a r).1.length ≤ 24 := by
  unfold makeI
  split
  · exact sealI_len _ _ _ _
  · simp
set_option maxRecDepth 100000 in
theorem walk (s p a r : Int) (w : World) : Calls Try.prog 9 #[.agg #[.int .i64 s, .int .i64 p], .int .i64 a, .int .i64 r] w fun e w' => e = .returned (.bool true) ∧ Below w.heap.size w w' := by
  have B0 := Lib.hid (Below.refl w.heap.size w)
  have C1 := fun W => specMake s p a r W
  have C2 := fun W => implMake s p a r W
  have hlen := makeI_len s p a r
  obtain ⟨⟨L, b⟩, hx⟩ : ∃ x, x = makeI s p a r := ⟨_, rfl⟩
  rw [← hx] at hlen
  simp only [← hx] at C1 C2
  have C1' := Lib.hid C1
  have C2' := Lib.hid C2
  have HL : Hid (L.length ≤ 24) := Lib.hid hlen
  have hbb : (b != b) = false := by simp
  clear C1 C2 hx hlen
  go_enter Try.func9, Try.ntmps9
  go_wp2_with fail
  refine (toIdentity s p _).mono ?_
  rintro e w1 ⟨rfl, hb1⟩
  have B1 := Lib.hid (bel_seq (bel_al B0.out _) hb1)
  have p0 : w1.cell? ⟨w.heap.size, 0, none⟩ = some (.int .i64 s) := later0 hb1 (by simp)
  have p1 : w1.cell? ⟨w.heap.size, 1, none⟩ = some (.int .i64 p) := later0 hb1 (by simp)
  go_wp2_with fail
  refine (C1'.out _).mono ?_
  rintro e w3 ⟨ao3, N3, c3, rfl, ho3, hb3⟩
  replace p0 := later0 hb3 p0
  replace p1 := later0 hb3 p1
  have B3 := Lib.hid (bel_seq B1.out hb3)
  have O3 := Lib.hid ho3
  clear ho3
  go_wp2_with fail
  refine (toIdentity s p _).mono ?_
  rintro e w5 ⟨rfl, hb5⟩
  replace p0 := later0 hb5 p0
  replace p1 := later0 hb5 p1
  have B5 := Lib.hid (bel_seq B3.out hb5)
  go_wp2_with fail
  refine (C2'.out _).mono ?_
  rintro e w6 ⟨ao6, N6, c6, rfl, ho6, hb6⟩
  replace p0 := later0 hb6 p0
  replace p1 := later0 hb6 p1
  have B6 := Lib.hid (bel_seq B5.out hb6)
  have O6 := Lib.hid ho6
  have HZ35 := Lib.hid hb5.size
  have A36 := Lib.hid (O3.out.apart ho6 HZ35.out)
  have O3f := Lib.hid ((O3.out.below hb5).below hb6)
  have HZ5 := Lib.hid (show w.heap.size < w5.heap.size by have := hb6.size; have h1 := hb1.size; have h3 := B5.out.size; have h4 := hb5.size; have h5 := hb3.size; simp at h1; omega)
  have HB6 := Lib.hid (show ∀ b, b < w5.heap.size → some b ≠ ownB ao6 from fun b hb => ho6.notOld hb)
  clear ho6 hb1 hb3 hb5 hb6
  go_wp2_with fail
  refine (eqByteS_yes _ _ L _ O6.out.sl O3f.out.sl).mono ?_
  rintro e w8 ⟨rfl, hb8⟩
  replace p0 := later0 hb8 p0
  replace p1 := later0 hb8 p1
  have B8 := Lib.hid (bel_seq B6.out hb8)
  have O38 := Lib.hid (O3f.out.below hb8)
  have O68 := Lib.hid (O6.out.below hb8)
  have hN6 : N6 ≤ 1048576 := by have := O6.out.len; have := HL.out; omega
  have hk6 : ¬ (1 + (N6 : Int) < 0) := by omega
  have hm6 : ((1 + (N6 : Int)) != (1 + (N6 : Int))) = false := by simp
  clear hb8
  go_wp2_with fail
  refine (markByteS _ N6 c6 _ L 1 _ O68.out hN6 (by omega) (by omega)).mono ?_
  rintro e we ⟨rfl, hoe, hge⟩
  have hb14 := O68.out.belowG hge (B := w.heap.size) (by have := HZ5.out; omega) B8.out.size
  have Be := Lib.hid (B8.out.trans hb14)
  have OE := Lib.hid hoe
  replace p0 := laterG hge p0 (HB6.out _ (by dsimp only; have := HZ5.out; omega))
  replace p1 := laterG hge p1 (HB6.out _ (by dsimp only; have := HZ5.out; omega))
  have O3e := Lib.hid (O38.out.grown hge A36.out)
  clear hoe hge hb14
  go_wp2_with fail
  refine (heldByteS _ N6 1 _ OE.out.sl hN6 (by omega) (by omega)).mono ?_
  rintro e wz ⟨rfl, rfl⟩
  go_wp2_with fail
  refine (toIdentity s p _).mono ?_
  rintro e w15 ⟨rfl, hb15⟩
  replace p0 := later0 hb15 p0
  replace p1 := later0 hb15 p1
  have B15 := Lib.hid (bel_seq Be.out hb15)
  go_wp2_with fail
  refine (C2'.out _).mono ?_
  rintro e w17 ⟨ao17, N17, c17, rfl, ho17, hb17⟩
  replace p0 := later0 hb17 p0
  replace p1 := later0 hb17 p1
  have B17 := Lib.hid (bel_seq B15.out hb17)
  have O17 := Lib.hid ho17
  have OE17 := Lib.hid ((OE.out.below hb15).below hb17)
  have O3g := Lib.hid ((O3e.out.below hb15).below hb17)
  clear ho17 hb15 hb17
  go_wp2_with fail
  refine (eqByteS_yes _ _ L _ O17.out.sl O3g.out.sl).mono ?_
  rintro e w19 ⟨rfl, hb19⟩
  replace p0 := later0 hb19 p0
  replace p1 := later0 hb19 p1
  have B19 := Lib.hid (bel_seq B17.out hb19)
  have OE19 := Lib.hid (OE17.out.below hb19)
  clear hb19
  go_wp2_with fail
  refine (heldByteS _ N6 1 _ OE19.out.sl hN6 (by omega) (by omega)).mono ?_
  rintro e wz ⟨rfl, rfl⟩
  go_wp2
  go_ret
  exact ⟨rfl, B19.out⟩
/-! ### THE ROW's STEP: the guide's own way -/
theorem own : ownKnob Try.prog.godebug = none := by kernel_rfl
theorem laidOut : laidOutB Try.prog = true := by kernel_rfl
set_option maxRecDepth 100000 in
theorem lifted (os : Os) (started : os.Started) (H : Type) (enc : TypeId × Value → H) :
    ReturnsInHanded {} Try.checked os 9 .any (Rows.fnExactMakeInvitationSpec.pre6 enc Try.prog Try.f9 Rows.fnExactMakeInvitationRow.domain false) (Rows.fnExactMakeInvitationSpec.post enc Try.prog Try.f9 false true false false) := by
  refine returnsInHanded_of_change (C := Try.checked) own started (by kernel_rfl) Try.func9
    (ChangeSpec.witness6 (enc := enc) (C := Try.checked) false ⟨#[], #[.agg #[.int .i64 0, .int .i64 0], .int .i64 0, .int .i64 0], []⟩ 8 (by kernel_rfl) (by kernel_rfl) (by kernel_rfl) (by kernel_rfl)) ?_
  intro W base args ds gs before hval0 hW hcnd _
  have hval : ∀ (j : Nat) t v, Try.f9.params[j]? = some t → args[j]? = some v → Value.okWide Try.prog W .any base t v := hval0
  have hW' := hW
  obtain ⟨p, q, hA0, hV, rfl, hfz, hnd⟩ := hW
  have hA : DataW.TrodAll enc Try.prog W 0 (fun _ => true) true Try.f9.params.toList args.toList ds p := hA0
  rw [Try.params9] at hA hval
  obtain ⟨v0, vs0, d0, ds0, p0, q0, hargs, rfl, rfl, h0, r0⟩ := trodAll_cons hA
  obtain ⟨v1, vs1, d1, ds1, p1, q1, rfl, rfl, rfl, h1, r1⟩ := trodAll_cons r0
  obtain ⟨v2, vs2, d2, ds2, p2, q2, rfl, rfl, rfl, h2, r2⟩ := trodAll_cons r1
  obtain ⟨rfl, rfl, rfl⟩ := trodAll_nil r2
  obtain rfl : args = #[v0, v1, v2] := by cases args; simp_all
  obtain ⟨rfl, rfl⟩ := trodVars_none hV
  have k0 := h0
  have lt0 : ∀ x ∈ p0, x.block < W.heap.size := by obtain ⟨m, hm⟩ := k0; exact DataW.trod_lt m _ _ _ hm
  obtain ⟨c0_0, c0_1, y0_0, y0_1, fuel0, rfl, e0, pe0, g0_0, g0_1⟩ := open_agg2 Try.underlying56 (by kernel_rfl) (by kernel_rfl) (hval 0 56 v0 rfl rfl) h0
  obtain ⟨a0_0, rfl, w0_0⟩ := intOfRead Try.underlying3 g0_0
  obtain ⟨a0_1, rfl, w0_1⟩ := intOfRead Try.underlying3 g0_1
  have k1 := h1
  have lt1 : ∀ x ∈ p1, x.block < W.heap.size := by obtain ⟨m, hm⟩ := k1; exact DataW.trod_lt m _ _ _ hm
  obtain ⟨fuel1, g1⟩ := h1
  obtain ⟨a1, rfl, w1⟩ : ∃ n, v1 = .int .i64 n ∧ (Lit.int .i64 n).wf = true := by
    obtain ⟨n, rfl⟩ := okWide_int Try.underlying3 (hval 1 3 v1 rfl rfl)
    exact ⟨n, rfl, by obtain ⟨m, e, w⟩ := intOfRead Try.underlying3 (by simpa [Value.cells] using g1); cases e; exact w⟩
  have k2 := h2
  have lt2 : ∀ x ∈ p2, x.block < W.heap.size := by obtain ⟨m, hm⟩ := k2; exact DataW.trod_lt m _ _ _ hm
  obtain ⟨fuel2, g2⟩ := h2
  obtain ⟨a2, rfl, w2⟩ : ∃ n, v2 = .int .i64 n ∧ (Lit.int .i64 n).wf = true := by
    obtain ⟨n, rfl⟩ := okWide_int Try.underlying3 (hval 2 3 v2 rfl rfl)
    exact ⟨n, rfl, by obtain ⟨m, e, w⟩ := intOfRead Try.underlying3 (by simpa [Value.cells] using g2); cases e; exact w⟩
  clear hA0 hval0
  refine (walk a0_0 a0_1 a1 a2 W).mono fun e W' ⟨he, bel⟩ => ?_
  subst he
  exact ⟨_, rfl, _, _, _, [], _, [], hW', trodAll_mk1 (shut_bool Try.underlying4 _), (trodAll_cons_mk (Below.trod laidOut (by kernel_rfl) (of_decide_eq_true (by kernel_rfl)) k0 bel lt0) (trodAll_cons_mk (Below.trod laidOut (by kernel_rfl) (of_decide_eq_true (by kernel_rfl)) k1 bel lt1) (trodAll_cons_mk (Below.trod laidOut (by kernel_rfl) (of_decide_eq_true (by kernel_rfl)) k2 bel lt2) trodAll_mk0))), rfl, bel.frame _, fun h => by cases h⟩

theorem over : Rows.fnExactMakeInvitationRow.holds Try.pinned (OpenSpec.ofChange Rows.fnExactMakeInvitationSpec) :=
  OpenClaim.holds_of_wide 9 Try.f9 rfl rfl rfl rfl rfl rfl rfl ⟨rfl, rfl, rfl, rfl, rfl⟩ rfl rfl rfl rfl rfl (by kernel_rfl) Try.func9 (by kernel_rfl)
    (of_decide_eq_true (by kernel_rfl)) (by unfold Func.isWrapper; first | (rw [if_pos (by decide +kernel)]; kernel_rfl) | (rw [if_neg (by decide +kernel)]; exact ⟨rfl, rfl⟩))
    (fun os started H enc _ => lifted os started H enc)

/-- the statement -/
theorem proved : Rows.FnExactMakeInvitationSaid := over
end Go.Proofs.Ytelcpihbdgikfaa.fnExactMakeInvitation
