/- For all arguments the program's OpenInvitation returns what the reference's returns, and leaves its arguments alone; no condition. -/
import Derived.Test.YtelcpihbdgikfaaRows
import Derived.Test.YtelcpihbdgikfaaMailLaw
import Derived.Test.YtelcpihbdgikfaaDial2
import Derived.Test.YtelcpihbdgikfaaOpen
namespace Go.Proofs.Ytelcpihbdgikfaa.fnExactOpenInvitation
open Go.ChangeShapes Go.WideShapes Go.ChangeAt Go.RowKit Go.Joins
set_option linter.unusedVariables false
set_option maxRecDepth 100000 in
theorem walk (s p : Int) (v : Value) (l : List Int) (rd : Int) (u : Value) (m : List Int) (w : World) (hs : Sl .i64 w v l) (hu : Sl .u8 w u m) (hby : ∀ x ∈ m, (Lit.int .u8 x).wf = true) : Calls Try.prog 10 #[.agg #[.int .i64 s, .int .i64 p], v, .int .i64 rd, u] w fun e w' => e = .returned (.bool true) ∧ Below w.heap.size w w' := by
  obtain ⟨a, c, rfl, hm⟩ := hs.shape
  obtain ⟨a', c', rfl, hm'⟩ := hu.shape
  have HS := Lib.hid hs
  have HU := Lib.hid hu
  have HB : Hid (bytesOk m) := Lib.hid (bytes_of_wf' hby)
  have B0 := Lib.hid (Below.refl w.heap.size w)
  clear hs hu hby
  by_cases hb1 : (1048576 : Int) < (l.length : Int)
  · go_enter Try.func10, Try.ntmps10
    go_wp2
    go_ret
    exact ⟨rfl, (by repeat (first | exact Below.refl _ _ | refine bel_al ?_ _ | refine Below.setCell ?_ (by first | (simp; done) | (simp; omega)) _ | refine Below.drew ?_ | refine bel_drewN ?_ _))⟩
  · have hl : l.length ≤ 1048576 := by omega
    have hl' : (l.length : Int) ≤ 1048576 := by omega
    clear hb1
    by_cases hb2 : (1048576 : Int) < (m.length : Int)
    · go_enter Try.func10, Try.ntmps10
      go_wp2
      go_ret
      exact ⟨rfl, (by repeat (first | exact Below.refl _ _ | refine bel_al ?_ _ | refine Below.setCell ?_ (by first | (simp; done) | (simp; omega)) _ | refine Below.drew ?_ | refine bel_drewN ?_ _))⟩
    · have hl2 : m.length ≤ 1048576 := by omega
      have hl2' : (m.length : Int) ≤ 1048576 := by omega
      have C1 := fun v u W (h : Sl .i64 W v l) (h2 : Sl .u8 W u m) => specOpenInv s p rd v u l m W h h2 HB.out
      have C2 := fun v u W (h : Sl .i64 W v l) (h2 : Sl .u8 W u m) => implOpenInv s p rd v u l m W h h2 HB.out
      obtain ⟨⟨i, k, b⟩, hx⟩ : ∃ x, x = openInvI s p l rd m := ⟨_, rfl⟩
      simp only [← hx] at C1 C2
      have C1' := Lib.hid C1
      have C2' := Lib.hid C2
      have hbb : (b != b) = false := by simp
      have hii : (i != i) = false := by simp
      have hkk : (k != k) = false := by simp
      clear C1 C2 hx hb2
      go_enter Try.func10, Try.ntmps10
      go_wp2_with fail
      refine (toIdentity s p _).mono ?_
      rintro e w1 ⟨rfl, hb1⟩
      have B1 := Lib.hid (bel_seq (bel_al B0.out _) hb1)
      have p0 : w1.cell? ⟨w.heap.size, 0, none⟩ = some (.int .i64 s) := later0 hb1 (by simp)
      have p1 : w1.cell? ⟨w.heap.size, 1, none⟩ = some (.int .i64 p) := later0 hb1 (by simp)
      go_wp2_with fail
      refine (toIntS (.slice a l.length c) l _ (HS.out.below B1.out) hl).mono ?_
      rintro e w2 ⟨N2, g2, rfl, hN2, _, _, ho2, hb2⟩
      replace p0 := later0 hb2 p0
      replace p1 := later0 hb2 p1
      have B2 := Lib.hid (bel_seq B1.out hb2)
      have S2 := Lib.hid ho2.sl
      clear ho2
      go_wp2_with fail
      refine (toByteS (.slice a' m.length c') m _ (HU.out.below B2.out) hl2).mono ?_
      rintro e w3 ⟨N3, g3, rfl, hN3, _, _, ho3, hb3⟩
      replace p0 := later0 hb3 p0
      replace p1 := later0 hb3 p1
      have B3 := Lib.hid (bel_seq B2.out hb3)
      have S2b := Lib.hid (S2.out.below hb3)
      have S3 := Lib.hid ho3.sl
      clear ho3
      go_wp2_with fail
      refine (C1'.out _ _ _ S2b.out S3.out).mono ?_
      rintro e w4 ⟨rfl, hb4⟩
      replace p0 := later0 hb4 p0
      replace p1 := later0 hb4 p1
      have B4 := Lib.hid (bel_seq B3.out hb4)
      go_wp2_with fail
      refine (toIntS (.slice a l.length c) l _ (HS.out.below B4.out) hl).mono ?_
      rintro e w5 ⟨N5, g5, rfl, hN5, _, _, ho5, hb5⟩
      replace p0 := later0 hb5 p0
      replace p1 := later0 hb5 p1
      have B5 := Lib.hid (bel_seq B4.out hb5)
      have S5 := Lib.hid ho5.sl
      clear ho5
      go_wp2_with fail
      refine (toByteS (.slice a' m.length c') m _ (HU.out.below B5.out) hl2).mono ?_
      rintro e w6 ⟨N6, g6, rfl, hN6, _, _, ho6, hb6⟩
      replace p0 := later0 hb6 p0
      replace p1 := later0 hb6 p1
      have B6 := Lib.hid (bel_seq B5.out hb6)
      have S5b := Lib.hid (S5.out.below hb6)
      have S6 := Lib.hid ho6.sl
      clear ho6
      go_wp2_with fail
      refine (toIdentity s p _).mono ?_
      rintro e w7 ⟨rfl, hb7⟩
      replace p0 := later0 hb7 p0
      replace p1 := later0 hb7 p1
      have B7 := Lib.hid (bel_seq B6.out hb7)
      have S5c := Lib.hid (S5b.out.below hb7)
      have S6c := Lib.hid (S6.out.below hb7)
      go_wp2_with fail
      refine (C2'.out _ _ _ S5c.out S6c.out).mono ?_
      rintro e w8 ⟨rfl, hb8⟩
      replace p0 := later0 hb8 p0
      replace p1 := later0 hb8 p1
      have B8 := Lib.hid (bel_seq B7.out hb8)
      have S5d := Lib.hid (S5c.out.below hb8)
      have S6d := Lib.hid (S6c.out.below hb8)
      clear hb1 hb2 hb3 hb4 hb5 hb6 hb7 hb8
      go_wp2_with fail
      refine (toIntS (.slice a l.length c) l _ (HS.out.below B8.out) hl).mono ?_
      rintro e w9 ⟨N9, g9, rfl, hN9, _, _, ho9, hb9⟩
      replace p0 := later0 hb9 p0
      replace p1 := later0 hb9 p1
      have B9 := Lib.hid (bel_seq B8.out hb9)
      have S9 := Lib.hid ho9.sl
      have S5e := Lib.hid (S5d.out.below hb9)
      have S6e := Lib.hid (S6d.out.below hb9)
      clear ho9
      go_wp2_with fail
      refine (eqIntS_yes _ _ l _ S5e.out S9.out).mono ?_
      rintro e w10 ⟨rfl, hb10⟩
      replace p0 := later0 hb10 p0
      replace p1 := later0 hb10 p1
      have B10 := Lib.hid (bel_seq B9.out hb10)
      have S6f := Lib.hid (S6e.out.below hb10)
      go_wp2_with fail
      refine (toByteS (.slice a' m.length c') m _ (HU.out.below B10.out) hl2).mono ?_
      rintro e w11 ⟨N11, g11, rfl, hN11, _, _, ho11, hb11⟩
      replace p0 := later0 hb11 p0
      replace p1 := later0 hb11 p1
      have B11 := Lib.hid (bel_seq B10.out hb11)
      have S11 := Lib.hid ho11.sl
      have S6g := Lib.hid (S6f.out.below hb11)
      clear ho11
      go_wp2_with fail
      refine (eqByteS_yes _ _ m _ S6g.out S11.out).mono ?_
      rintro e w12 ⟨rfl, hb12⟩
      replace p0 := later0 hb12 p0
      replace p1 := later0 hb12 p1
      have B12 := Lib.hid (bel_seq B11.out hb12)
      go_wp2
      go_ret
      exact ⟨rfl, B12.out⟩
/-! ### THE ROW's STEP: the guide's own way -/
theorem own : ownKnob Try.prog.godebug = none := by kernel_rfl
theorem laidOut : laidOutB Try.prog = true := by kernel_rfl
set_option maxRecDepth 100000 in
theorem lifted (os : Os) (started : os.Started) (H : Type) (enc : TypeId × Value → H) :
    ReturnsInHanded {} Try.checked os 10 .any (Rows.fnExactOpenInvitationSpec.pre6 enc Try.prog Try.f10 Rows.fnExactOpenInvitationRow.domain false) (Rows.fnExactOpenInvitationSpec.post enc Try.prog Try.f10 false true false false) := by
  refine returnsInHanded_of_change (C := Try.checked) own started (by kernel_rfl) Try.func10
    (ChangeSpec.witness6 (enc := enc) (C := Try.checked) false ⟨#[], #[.agg #[.int .i64 0, .int .i64 0], .slice none 0 0, .int .i64 0, .slice none 0 0], []⟩ 8 (by kernel_rfl) (by kernel_rfl) (by kernel_rfl) (by kernel_rfl)) ?_
  intro W base args ds gs before hval0 hW hcnd _
  have hval : ∀ (j : Nat) t v, Try.f10.params[j]? = some t → args[j]? = some v → Value.okWide Try.prog W .any base t v := hval0
  have hW' := hW
  obtain ⟨p, q, hA0, hV, rfl, hfz, hnd⟩ := hW
  have hA : DataW.TrodAll enc Try.prog W 0 (fun _ => true) true Try.f10.params.toList args.toList ds p := hA0
  rw [Try.params10] at hA hval
  obtain ⟨v0, vs0, d0, ds0, p0, q0, hargs, rfl, rfl, h0, r0⟩ := trodAll_cons hA
  obtain ⟨v1, vs1, d1, ds1, p1, q1, rfl, rfl, rfl, h1, r1⟩ := trodAll_cons r0
  obtain ⟨v2, vs2, d2, ds2, p2, q2, rfl, rfl, rfl, h2, r2⟩ := trodAll_cons r1
  obtain ⟨v3, vs3, d3, ds3, p3, q3, rfl, rfl, rfl, h3, r3⟩ := trodAll_cons r2
  obtain ⟨rfl, rfl, rfl⟩ := trodAll_nil r3
  obtain rfl : args = #[v0, v1, v2, v3] := by cases args; simp_all
  obtain ⟨rfl, rfl⟩ := trodVars_none hV
  have k0 := h0
  have lt0 : ∀ x ∈ p0, x.block < W.heap.size := by obtain ⟨m, hm⟩ := k0; exact DataW.trod_lt m _ _ _ hm
  obtain ⟨c0_0, c0_1, y0_0, y0_1, fuel0, rfl, e0, pe0, g0_0, g0_1⟩ := open_agg2 Try.underlying56 (by kernel_rfl) (by kernel_rfl) (hval 0 56 v0 rfl rfl) h0
  obtain ⟨a0_0, rfl, w0_0⟩ := intOfRead Try.underlying3 g0_0
  obtain ⟨a0_1, rfl, w0_1⟩ := intOfRead Try.underlying3 g0_1
  have k1 := h1
  have lt1 : ∀ x ∈ p1, x.block < W.heap.size := by obtain ⟨m, hm⟩ := k1; exact DataW.trod_lt m _ _ _ hm
  obtain ⟨fuel1, g1⟩ := h1
  obtain ⟨b1, len1, cap1, rfl⟩ := okWide_slice Try.underlying62 (hval 1 62 v1 rfl rfl)
  obtain ⟨z1, s1, wf1⟩ := slOfRead Try.underlying62 Try.underlying3 (by kernel_rfl) (by simpa [Value.cells] using g1) lt1
  have k2 := h2
  have lt2 : ∀ x ∈ p2, x.block < W.heap.size := by obtain ⟨m, hm⟩ := k2; exact DataW.trod_lt m _ _ _ hm
  obtain ⟨fuel2, g2⟩ := h2
  obtain ⟨a2, rfl, w2⟩ : ∃ n, v2 = .int .i64 n ∧ (Lit.int .i64 n).wf = true := by
    obtain ⟨n, rfl⟩ := okWide_int Try.underlying3 (hval 2 3 v2 rfl rfl)
    exact ⟨n, rfl, by obtain ⟨m, e, w⟩ := intOfRead Try.underlying3 (by simpa [Value.cells] using g2); cases e; exact w⟩
  have k3 := h3
  have lt3 : ∀ x ∈ p3, x.block < W.heap.size := by obtain ⟨m, hm⟩ := k3; exact DataW.trod_lt m _ _ _ hm
  obtain ⟨fuel3, g3⟩ := h3
  obtain ⟨b3, len3, cap3, rfl⟩ := okWide_slice Try.underlying37 (hval 3 37 v3 rfl rfl)
  obtain ⟨z3, s3, wf3⟩ := slOfRead Try.underlying37 Try.underlying5 (by kernel_rfl) (by simpa [Value.cells] using g3) lt3
  clear hA0 hval0
  refine (walk a0_0 a0_1 _ z1 a2 _ z3 W s1 s3 wf3).mono fun e W' ⟨he, bel⟩ => ?_
  subst he
  exact ⟨_, rfl, _, _, _, [], _, [], hW', trodAll_mk1 (shut_bool Try.underlying4 _), (trodAll_cons_mk (Below.trod laidOut (by kernel_rfl) (of_decide_eq_true (by kernel_rfl)) k0 bel lt0) (trodAll_cons_mk (Below.trod laidOut (by kernel_rfl) (of_decide_eq_true (by kernel_rfl)) k1 bel lt1) (trodAll_cons_mk (Below.trod laidOut (by kernel_rfl) (of_decide_eq_true (by kernel_rfl)) k2 bel lt2) (trodAll_cons_mk (Below.trod laidOut (by kernel_rfl) (of_decide_eq_true (by kernel_rfl)) k3 bel lt3) trodAll_mk0)))), rfl, bel.frame _, fun h => by cases h⟩

theorem over : Rows.fnExactOpenInvitationRow.holds Try.pinned (OpenSpec.ofChange Rows.fnExactOpenInvitationSpec) :=
  OpenClaim.holds_of_wide 10 Try.f10 rfl rfl rfl rfl rfl rfl rfl ⟨rfl, rfl, rfl, rfl, rfl⟩ rfl rfl rfl rfl rfl (by kernel_rfl) Try.func10 (by kernel_rfl)
    (of_decide_eq_true (by kernel_rfl)) (by unfold Func.isWrapper; first | (rw [if_pos (by decide +kernel)]; kernel_rfl) | (rw [if_neg (by decide +kernel)]; exact ⟨rfl, rfl⟩))
    (fun os started H enc _ => lifted os started H enc)

/-- the statement -/
theorem proved : Rows.FnExactOpenInvitationSaid := over
end Go.Proofs.Ytelcpihbdgikfaa.fnExactOpenInvitation
