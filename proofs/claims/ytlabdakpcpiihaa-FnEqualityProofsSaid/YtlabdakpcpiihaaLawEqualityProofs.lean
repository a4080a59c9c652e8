/- For every code: a proof of equal exponents is accepted, and one for different exponents is rejected; no condition. -/
import Derived.Test.YtlabdakpcpiihaaRows
import Derived.Test.YtlabdakpcpiihaaDraw
import Derived.Test.YtlabdakpcpiihaaGroupLaws
import Derived.Test.YtlabdakpcpiihaaOpen
namespace Go.Proofs.Ytlabdakpcpiihaa.fnEqualityProofs
open Go.ChangeShapes Go.WideShapes Go.ChangeAt Go.RowKit Go.Joins
set_option linter.unusedVariables false
theorem walk (v : Value) (l : List Int) (w : World) (hs : Sl .u8 w v l) (hby : ∀ x ∈ l, (Lit.int .u8 x).wf = true) : Calls Try.prog 9 #[v] w fun e w' => e = .returned (.bool true) ∧ Below w.heap.size w w' := by
  obtain ⟨a, c, rfl, hm⟩ := hs.shape
  have HS := Lib.hid hs
  have HB : Hid (∀ x ∈ l, 0 ≤ x ∧ x ≤ 255) := Lib.hid (bytes_of_wf hby)
  have B0 := Lib.hid (Below.refl w.heap.size w)
  clear hs hby
  by_cases hbig : (1048576 : Int) < (l.length : Int)
  · go_enter Try.func9, Try.ntmps9
    go_wp2_with (first | (go_at_call 23; (refine (lawsBig _ l _ HS.out).mono ?_); rintro e w0 ⟨rfl, rfl⟩))
    go_ret
    exact ⟨rfl, Below.refl _ _⟩
  · have hl : l.length ≤ 1048576 := by omega
    go_enter Try.func9, Try.ntmps9
    go_wp2_with (first | (go_at_call 23; (refine (lawsBig _ l _ HS.out).mono ?_); rintro e w0 ⟨rfl, rfl⟩))
    refine (lawsAt _ l 0 _ HS.out hl (by omega) HB.out).mono ?_
    rintro e w4 ⟨y0, rfl, hy00, hy01, rfl⟩
    have G1 := fun W => specPowGroup 4 (1 + y0) W
    have hg := pg_ge isGE_four (1 + y0)
    generalize powGroupI 4 (1 + y0) = g at G1 hg
    have G1' := Lib.hid G1
    have HGE := Lib.hid hg
    clear G1 hg
    go_wp2_with fail
    refine (G1'.out _).mono ?_
    rintro e w4 ⟨rfl, rfl⟩
    go_wp2_with fail
    refine (lawsAt _ l 1 _ HS.out hl (by omega) HB.out).mono ?_
    rintro e w4 ⟨y1, rfl, hy10, hy11, rfl⟩
    have G2 := fun W => specPowGroup 4 (300 + y1) W
    have hh := pg_ge isGE_four (300 + y1)
    generalize powGroupI 4 (300 + y1) = h at G2 hh
    have G2' := Lib.hid G2
    have HHE := Lib.hid hh
    clear G2 hh
    go_wp2_with fail
    refine (G2'.out _).mono ?_
    rintro e w4 ⟨rfl, rfl⟩
    go_wp2_with fail
    refine (lawsAt _ l 2 _ HS.out hl (by omega) HB.out).mono ?_
    rintro e w4 ⟨y2, rfl, hy20, hy21, rfl⟩
    go_wp2_with fail
    refine (lawsAt _ l 3 _ HS.out hl (by omega) HB.out).mono ?_
    rintro e w4 ⟨y3, rfl, hy30, hy31, rfl⟩
    obtain ⟨s, hs'⟩ : ∃ s, s = y2 * 3 := ⟨_, rfl⟩
    obtain ⟨n, hn'⟩ : ∃ n, n = y3 * 2 := ⟨_, rfl⟩
    have hs0 : 0 ≤ s := by omega
    have hs1 : s ≤ 100000 := by omega
    have hn0 : 0 ≤ n := by omega
    have hn1 : n ≤ 100000 := by omega
    have es : y2 * 3 = s := hs'.symm
    have en : y3 * 2 = n := hn'.symm
    clear hs' hn'
    have P1 := fun W => implProveEqual g h s n W
    have P2 := fun W => specPowGroup g s W
    have P3 := fun W => specPowGroup h s W
    have V := prove_ok HGE.out HHE.out hs0 hs1 hn0 hn1
    generalize (proveI g h s n).1 = cc at P1 V
    generalize (proveI g h s n).2 = rr at P1 V
    generalize powGroupI g s = u at P2 V
    generalize powGroupI h s = vv at P3 V
    have V1 := fun W => implVerifyEqual g h u vv cc rr W
    rw [V] at V1
    have V2 := fun W => implVerifyEqual g h u vv cc (-1) W
    rw [verify_neg] at V2
    have P1' := Lib.hid P1
    have P2' := Lib.hid P2
    have P3' := Lib.hid P3
    have V1' := Lib.hid V1
    have V2' := Lib.hid V2
    clear P1 P2 P3 V V1 V2
    go_wp2_with fail
    refine (P1'.out _).mono ?_
    rintro e w5 ⟨rfl, hb5⟩
    have B5 := Lib.hid hb5
    clear hb5
    go_wp2_with fail
    refine (P2'.out _).mono ?_
    rintro e w4 ⟨rfl, rfl⟩
    go_wp2_with fail
    refine (P3'.out _).mono ?_
    rintro e w4 ⟨rfl, rfl⟩
    go_wp2_with fail
    refine (drawVerifyEqual _ l _ (HS.out.below B5.out) hl HB.out).mono ?_
    rintro e w6 ⟨aa, bb, xx, yy, pp, qq, rfl, hb6⟩
    have B6 := Lib.hid (bel_seq B5.out hb6)
    clear hb6
    obtain ⟨z, hz⟩ : ∃ z, z = verifyI aa bb xx yy pp qq := ⟨_, rfl⟩
    have D1 := fun W => implVerifyEqual aa bb xx yy pp qq W
    have D2 := fun W => specVerifyEqual aa bb xx yy pp qq W
    rw [← hz] at D1 D2
    have D1' := Lib.hid D1
    have D2' := Lib.hid D2
    have hzz : (z == z) = true := by simp
    clear hz D1 D2
    go_wp2_with fail
    refine (V1'.out _).mono ?_
    rintro e w7 ⟨rfl, hb7⟩
    have B7 := Lib.hid (bel_seq B6.out hb7)
    clear hb7
    go_wp2_with fail
    refine (D1'.out _).mono ?_
    rintro e w8 ⟨rfl, hb8⟩
    have B8 := Lib.hid (bel_seq B7.out hb8)
    clear hb8
    go_wp2_with fail
    refine (D2'.out _).mono ?_
    rintro e w9 ⟨rfl, hb9⟩
    have B9 := Lib.hid (bel_seq B8.out hb9)
    clear hb9
    go_wp2_with fail
    refine (V2'.out _).mono ?_
    rintro e w10 ⟨rfl, hb10⟩
    have B10 := Lib.hid (bel_seq B9.out hb10)
    clear hb10
    go_wp2
    go_ret
    exact ⟨rfl, B10.out⟩
/-! ### THE ROW's STEP: the guide's own way -/
theorem own : ownKnob Try.prog.godebug = none := by kernel_rfl
theorem laidOut : laidOutB Try.prog = true := by kernel_rfl
set_option maxRecDepth 100000 in
theorem lifted (os : Os) (started : os.Started) (H : Type) (enc : TypeId × Value → H) :
    ReturnsInHanded {} Try.checked os 9 .any (Rows.fnEqualityProofsSpec.pre6 enc Try.prog Try.f9 Rows.fnEqualityProofsRow.domain false) (Rows.fnEqualityProofsSpec.post enc Try.prog Try.f9 false true false false) := by
  refine returnsInHanded_of_change (C := Try.checked) own started (by kernel_rfl) Try.func9
    (ChangeSpec.witness6 (enc := enc) (C := Try.checked) false ⟨#[], #[.slice none 0 0], []⟩ 8 (by kernel_rfl) (by kernel_rfl) (by kernel_rfl) (by kernel_rfl)) ?_
  intro W base args ds gs before hval0 hW hcnd _
  have hval : ∀ (j : Nat) t v, Try.f9.params[j]? = some t → args[j]? = some v → Value.okWide Try.prog W .any base t v := hval0
  have hW' := hW
  obtain ⟨p, q, hA0, hV, rfl, hfz, hnd⟩ := hW
  have hA : DataW.TrodAll enc Try.prog W 0 (fun _ => true) true Try.f9.params.toList args.toList ds p := hA0
  rw [Try.params9] at hA hval
  obtain ⟨v0, vs0, d0, ds0, p0, q0, hargs, rfl, rfl, h0, r0⟩ := trodAll_cons hA
  obtain ⟨rfl, rfl, rfl⟩ := trodAll_nil r0
  obtain rfl : args = #[v0] := by cases args; simp_all
  obtain ⟨rfl, rfl⟩ := trodVars_none hV
  have k0 := h0
  have lt0 : ∀ x ∈ p0, x.block < W.heap.size := by obtain ⟨m, hm⟩ := k0; exact DataW.trod_lt m _ _ _ hm
  obtain ⟨fuel0, g0⟩ := h0
  obtain ⟨b0, len0, cap0, rfl⟩ := okWide_slice Try.underlying47 (hval 0 47 v0 rfl rfl)
  obtain ⟨z0, s0, wf0⟩ := slOfRead Try.underlying47 Try.underlying5 (by kernel_rfl) (by simpa [Value.cells] using g0) lt0
  clear hA0 hval0
  refine (walk _ z0 W s0 wf0).mono fun e W' ⟨he, bel⟩ => ?_
  subst he
  exact ⟨_, rfl, _, _, _, [], _, [], hW', trodAll_mk1 (shut_bool Try.underlying4 _), (trodAll_cons_mk (Below.trod laidOut (by kernel_rfl) (of_decide_eq_true (by kernel_rfl)) k0 bel lt0) trodAll_mk0), rfl, bel.frame _, fun h => by cases h⟩

theorem over : Rows.fnEqualityProofsRow.holds Try.pinned (OpenSpec.ofChange Rows.fnEqualityProofsSpec) :=
  OpenClaim.holds_of_wide 9 Try.f9 rfl rfl rfl rfl rfl rfl rfl ⟨rfl, rfl, rfl, rfl, rfl⟩ rfl rfl rfl rfl rfl (by kernel_rfl) Try.func9 (by kernel_rfl)
    (of_decide_eq_true (by kernel_rfl)) (by unfold Func.isWrapper; first | (rw [if_pos (by decide +kernel)]; kernel_rfl) | (rw [if_neg (by decide +kernel)]; exact ⟨rfl, rfl⟩))
    (fun os started H enc _ => lifted os started H enc)

/-- the statement -/
theorem proved : Rows.FnEqualityProofsSaid := over
end Go.Proofs.Ytlabdakpcpiihaa.fnEqualityProofs
