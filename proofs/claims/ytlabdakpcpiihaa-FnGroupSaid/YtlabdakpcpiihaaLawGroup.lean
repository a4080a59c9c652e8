/- For every code: the group is closed, exponents add up and have inverses, and logarithms are found; no condition. -/
import Derived.Test.YtlabdakpcpiihaaRows
import Derived.Test.YtlabdakpcpiihaaDraw
import Derived.Test.YtlabdakpcpiihaaGroupLaws
import Derived.Test.YtlabdakpcpiihaaOpen
namespace Go.Proofs.Ytlabdakpcpiihaa.fnGroup
open Go.ChangeShapes Go.WideShapes Go.ChangeAt Go.RowKit Go.Joins
set_option linter.unusedVariables false
theorem walk (v : Value) (l : List Int) (w : World) (hs : Sl .u8 w v l) (hby : ∀ x ∈ l, (Lit.int .u8 x).wf = true) : Calls Try.prog 8 #[v] w fun e w' => e = .returned (.bool true) ∧ Below w.heap.size w w' := by
  obtain ⟨a, c, rfl, hm⟩ := hs.shape
  have HS := Lib.hid hs
  have HB : Hid (∀ x ∈ l, 0 ≤ x ∧ x ≤ 255) := Lib.hid (bytes_of_wf hby)
  have B0 := Lib.hid (Below.refl w.heap.size w)
  clear hs hby
  by_cases hbig : (1048576 : Int) < (l.length : Int)
  · go_enter Try.func8, Try.ntmps8
    go_wp2_with (first | (go_at_call 23; (refine (lawsBig _ l _ HS.out).mono ?_); rintro e w0 ⟨rfl, rfl⟩))
    go_ret
    exact ⟨rfl, Below.refl _ _⟩
  · have hl : l.length ≤ 1048576 := by omega
    go_enter Try.func8, Try.ntmps8
    go_wp2_with (first | (go_at_call 23; (refine (lawsBig _ l _ HS.out).mono ?_); rintro e w0 ⟨rfl, rfl⟩))
    refine (drawPowGroup _ l _ HS.out hl HB.out).mono ?_
    rintro e w1 ⟨g, n, rfl, hn0, hn1, hbel1⟩
    have B1 := Lib.hid hbel1
    clear hbel1
    cases hg : isGE g with
    | false =>
      have C1 := implPowGroup g n w1
      rw [powGroupI_no n hg] at C1
      have C2 := implDiscreteLog g 4 w1
      rw [dlogI_no (.inl hg)] at C2
      have C1' := Lib.hid C1
      have C2' := Lib.hid C2
      clear C1 C2
      go_wp2_with (first | (go_at_call 27; (refine (specIsGroupElement _ _).mono ?_); rintro e w0 ⟨rfl, rfl⟩) | (go_at_call 28; (refine (C1'.out).mono ?_); rintro e w0 ⟨rfl, rfl⟩) | (go_at_call 29; (refine (C2'.out).mono ?_); rintro e w0 ⟨rfl, rfl⟩))
      go_ret
      exact ⟨rfl, B1.out⟩
    | true =>
      go_wp2_with (first | (go_at_call 27; (refine (specIsGroupElement _ _).mono ?_); rintro e w0 ⟨rfl, rfl⟩))
      refine (lawsAt _ l 0 _ (HS.out.below B1.out) hl (by omega) HB.out).mono ?_
      rintro e w4 ⟨y, rfl, hy0, hy1, rfl⟩
      obtain ⟨m, hm'⟩ : ∃ m, m = y * 5 := ⟨_, rfl⟩
      have hm0 : 0 ≤ m := by omega
      have hm1 : m ≤ 1275 := by omega
      have hym : y * 5 = m := hm'.symm
      clear hm' hy0 hy1
      have hge := pg_ge hg n
      obtain ⟨q, hq⟩ : ∃ q, q = modI n 1019 := ⟨_, rfl⟩
      have hqb := modI_1019_bd n
      have C1 := fun W => implPowGroup g n W
      have C2 := fun W => implInverseExponent n W
      have C3 := fun W => implIsGroupElement (powGroupI g n) W
      have C4 := fun W => implPowGroup g m W
      have C5 := fun W => implMulGroup (powGroupI g n) (powGroupI g m) W
      have C6 := fun W => specMod n 1019 W
      have C7 := fun W => implPowGroup g (q + m) W
      have C8 := fun (h : ¬ invI n = 0) W => implPowGroup (powGroupI g n) (invI n) W
      have C9 := fun W => implDiscreteLog g (powGroupI g n) W
      have h0 := group_inv0 n
      have hlog := fun h => group_log n hg h
      simp only [group_mul n m hg] at C5
      rw [hge] at C3
      rw [← hq] at C5 C6 hqb h0 hlog
      have C8' : ¬ invI n = 0 → ∀ W, Calls Try.prog 28 #[.int .i64 (powGroupI g n), .int .i64 (invI n)] W fun e w' => e = .returned (.int .i64 g) ∧ W = w' := fun h W => by
        have := C8 h W
        rw [group_inv hg h] at this
        exact this
      clear C8 hq
      have C9' : ¬ g = 1 → ∀ W, Calls Try.prog 29 #[.int .i64 g, .int .i64 (powGroupI g n)] W fun e w' => e = .returned (.int .i64 q) ∧ W = w' := fun h W => by
        have := C9 W
        rw [hlog h] at this
        exact this
      clear C9 hlog
      generalize powGroupI g n = X at C1 C3 C5 C8' C9' hge
      generalize powGroupI g m = M at C4 C5
      generalize powGroupI g (q + m) = P at C5 C7
      generalize invI n = I at C2 h0 C8'
      obtain ⟨hq0, hq1⟩ := hqb
      have C1 := Lib.hid C1
      have C2 := Lib.hid C2
      have C3 := Lib.hid C3
      have C4 := Lib.hid C4
      have C5 := Lib.hid C5
      have C6 := Lib.hid C6
      have C7 := Lib.hid C7
      have C8 := Lib.hid C8'
      have C9 := Lib.hid C9'
      clear C8' C9' hge
      have hpp : (P != P) = false := by simp
      have hgg : (g != g) = false := by simp
      have hqq : (q == q) = true := by simp
      cases hi : (I == 0) with
      | true =>
        have hq : (q == 0) = true := by rw [← h0]; exact hi
        have hi' : (I != 0) = false := by simpa using hi
        clear h0
        go_wp2_with (first | ((go_at_call 28; (with_reducible refine (C1.out _).mono ?_)); rintro e w0 ⟨rfl, rfl⟩) | ((go_at_call 28; (with_reducible refine (C4.out _).mono ?_)); rintro e w0 ⟨rfl, rfl⟩) | ((go_at_call 28; (with_reducible refine (C7.out _).mono ?_)); rintro e w0 ⟨rfl, rfl⟩) | (go_at_call 30; (refine (C2.out _).mono ?_); rintro e w0 ⟨rfl, rfl⟩) | (go_at_call 31; (refine (C3.out _).mono ?_); rintro e w0 ⟨rfl, rfl⟩) | (go_at_call 32; (refine (C5.out _).mono ?_); rintro e w0 ⟨rfl, rfl⟩) | (go_at_call 33; (refine (C6.out _).mono ?_); rintro e w0 ⟨rfl, rfl⟩))
        refine (lawsAt _ l 1 _ (HS.out.below B1.out) hl (by omega) HB.out).mono ?_
        rintro e w4 ⟨k, rfl, hk0, hk1, rfl⟩
        have CH := fun W => implHashToGroup k m W
        have hH1 := hg_ge k m
        have hH2 := hg_ne_one k m
        generalize hashToGroupI k m = H at CH hH1 hH2
        have CHE := fun W => implIsGroupElement H W
        rw [hH1] at CHE
        have CH' := Lib.hid CH
        have CHE' := Lib.hid CHE
        have hH3 : (H != 1) = true := by simpa using hH2
        clear CH CHE hH1 hH2
        by_cases hg1 : g = 1
        · have hgb : (g == 1) = true := by simp [hg1]
          clear hg1
          go_wp2_with fail
          refine (CH'.out _).mono ?_
          rintro e w5 ⟨rfl, hb5⟩
          have B5 := Lib.hid (bel_seq B1.out hb5)
          clear hb5
          go_wp2_with (first | (go_at_call 31; (refine (CHE'.out _).mono ?_); rintro e w0 ⟨rfl, rfl⟩))
          go_ret
          exact ⟨rfl, B5.out⟩
        · have hgb : (g == 1) = false := by simp [hg1]
          have C9 := Lib.hid (C9.out hg1)
          clear hg1
          go_wp2_with fail
          refine (CH'.out _).mono ?_
          rintro e w5 ⟨rfl, hb5⟩
          have B5 := Lib.hid (bel_seq B1.out hb5)
          clear hb5
          go_wp2_with (first | (go_at_call 31; (refine (CHE'.out _).mono ?_); rintro e w0 ⟨rfl, rfl⟩) | (go_at_call 29; (refine (C9.out _).mono ?_); rintro e w0 ⟨rfl, rfl⟩) | (go_at_call 33; (refine (C6.out _).mono ?_); rintro e w0 ⟨rfl, rfl⟩))
          go_ret
          exact ⟨rfl, B5.out⟩
      | false =>
        have hq : (q == 0) = false := by rw [← h0]; exact hi
        have hi' : (I != 0) = true := by simpa using hi
        have C8 := Lib.hid (C8.out (by simpa using hi))
        clear h0
        go_wp2_with (first | ((go_at_call 28; (with_reducible refine (C1.out _).mono ?_)); rintro e w0 ⟨rfl, rfl⟩) | ((go_at_call 28; (with_reducible refine (C4.out _).mono ?_)); rintro e w0 ⟨rfl, rfl⟩) | ((go_at_call 28; (with_reducible refine (C7.out _).mono ?_)); rintro e w0 ⟨rfl, rfl⟩) | (go_at_call 30; (refine (C2.out _).mono ?_); rintro e w0 ⟨rfl, rfl⟩) | (go_at_call 31; (refine (C3.out _).mono ?_); rintro e w0 ⟨rfl, rfl⟩) | (go_at_call 32; (refine (C5.out _).mono ?_); rintro e w0 ⟨rfl, rfl⟩) | (go_at_call 33; (refine (C6.out _).mono ?_); rintro e w0 ⟨rfl, rfl⟩) | ((go_at_call 28; (with_reducible refine (C8.out _).mono ?_)); rintro e w0 ⟨rfl, rfl⟩))
        refine (lawsAt _ l 1 _ (HS.out.below B1.out) hl (by omega) HB.out).mono ?_
        rintro e w4 ⟨k, rfl, hk0, hk1, rfl⟩
        have CH := fun W => implHashToGroup k m W
        have hH1 := hg_ge k m
        have hH2 := hg_ne_one k m
        generalize hashToGroupI k m = H at CH hH1 hH2
        have CHE := fun W => implIsGroupElement H W
        rw [hH1] at CHE
        have CH' := Lib.hid CH
        have CHE' := Lib.hid CHE
        have hH3 : (H != 1) = true := by simpa using hH2
        clear CH CHE hH1 hH2
        by_cases hg1 : g = 1
        · have hgb : (g == 1) = true := by simp [hg1]
          clear hg1
          go_wp2_with fail
          refine (CH'.out _).mono ?_
          rintro e w5 ⟨rfl, hb5⟩
          have B5 := Lib.hid (bel_seq B1.out hb5)
          clear hb5
          go_wp2_with (first | (go_at_call 31; (refine (CHE'.out _).mono ?_); rintro e w0 ⟨rfl, rfl⟩))
          go_ret
          exact ⟨rfl, B5.out⟩
        · have hgb : (g == 1) = false := by simp [hg1]
          have C9 := Lib.hid (C9.out hg1)
          clear hg1
          go_wp2_with fail
          refine (CH'.out _).mono ?_
          rintro e w5 ⟨rfl, hb5⟩
          have B5 := Lib.hid (bel_seq B1.out hb5)
          clear hb5
          go_wp2_with (first | (go_at_call 31; (refine (CHE'.out _).mono ?_); rintro e w0 ⟨rfl, rfl⟩) | (go_at_call 29; (refine (C9.out _).mono ?_); rintro e w0 ⟨rfl, rfl⟩) | (go_at_call 33; (refine (C6.out _).mono ?_); rintro e w0 ⟨rfl, rfl⟩))
          go_ret
          exact ⟨rfl, B5.out⟩
/-! ### THE ROW's STEP: the guide's own way -/
theorem own : ownKnob Try.prog.godebug = none := by kernel_rfl
theorem laidOut : laidOutB Try.prog = true := by kernel_rfl
set_option maxRecDepth 100000 in
theorem lifted (os : Os) (started : os.Started) (H : Type) (enc : TypeId × Value → H) :
    ReturnsInHanded {} Try.checked os 8 .any (Rows.fnGroupSpec.pre6 enc Try.prog Try.f8 Rows.fnGroupRow.domain false) (Rows.fnGroupSpec.post enc Try.prog Try.f8 false true false false) := by
  refine returnsInHanded_of_change (C := Try.checked) own started (by kernel_rfl) Try.func8
    (ChangeSpec.witness6 (enc := enc) (C := Try.checked) false ⟨#[], #[.slice none 0 0], []⟩ 8 (by kernel_rfl) (by kernel_rfl) (by kernel_rfl) (by kernel_rfl)) ?_
  intro W base args ds gs before hval0 hW hcnd _
  have hval : ∀ (j : Nat) t v, Try.f8.params[j]? = some t → args[j]? = some v → Value.okWide Try.prog W .any base t v := hval0
  have hW' := hW
  obtain ⟨p, q, hA0, hV, rfl, hfz, hnd⟩ := hW
  have hA : DataW.TrodAll enc Try.prog W 0 (fun _ => true) true Try.f8.params.toList args.toList ds p := hA0
  rw [Try.params8] at hA hval
  obtain ⟨v0, vs0, d0, ds0, p0, q0, hargs, rfl, rfl, h0, r0⟩ := trodAll_cons hA
  obtain ⟨rfl, rfl, rfl⟩ := trodAll_nil r0
  obtain rfl : args = #[v0] := by cases args; simp_all
  obtain ⟨rfl, rfl⟩ := trodVars_none hV
  have k0 := h0
  have lt0 : ∀ x ∈ p0, x.block < W.heap.size := by obtain ⟨m, hm⟩ := k0; exact DataW.trod_lt m _ _ _ hm
  obtain ⟨fuel0, g0⟩ := h0
  obtain ⟨b0, len0, cap0, rfl⟩ := okWide_slice Try.underlying47 (hval 0 47 v0 rfl rfl)
  obtain ⟨z0, s0, wf0⟩ := slOfRead Try.underlying47 Try.underlying5 (by kernel_rfl) (by simpa [Value.cells] using g0) lt0
  clear hA0 hval0
  refine (walk _ z0 W s0 wf0).mono fun e W' ⟨he, bel⟩ => ?_
  subst he
  exact ⟨_, rfl, _, _, _, [], _, [], hW', trodAll_mk1 (shut_bool Try.underlying4 _), (trodAll_cons_mk (Below.trod laidOut (by kernel_rfl) (of_decide_eq_true (by kernel_rfl)) k0 bel lt0) trodAll_mk0), rfl, bel.frame _, fun h => by cases h⟩

theorem over : Rows.fnGroupRow.holds Try.pinned (OpenSpec.ofChange Rows.fnGroupSpec) :=
  OpenClaim.holds_of_wide 8 Try.f8 rfl rfl rfl rfl rfl rfl rfl ⟨rfl, rfl, rfl, rfl, rfl⟩ rfl rfl rfl rfl rfl (by kernel_rfl) Try.func8 (by kernel_rfl)
    (of_decide_eq_true (by kernel_rfl)) (by unfold Func.isWrapper; first | (rw [if_pos (by decide +kernel)]; kernel_rfl) | (rw [if_neg (by decide +kernel)]; exact ⟨rfl, rfl⟩))
    (fun os started H enc _ => lifted os started H enc)

/-- the statement -/
theorem proved : Rows.FnGroupSaid := over
end Go.Proofs.Ytlabdakpcpiihaa.fnGroup
