/- For all arguments the program's FormatToken returns what the reference's returns; no condition. (The card ties the library's table of powers of ten to the program's text.) -/
import Derived.Test.YtamhlmeopbpjpaaDoorRows
import Derived.Test.YtamhlmeopbpjpaaDoorCards
import Derived.Test.YtamhlmeopbpjpaaDoorTie
import Derived.Test.YtamhlmeopbpjpaaDoorFmtTok
import Derived.Test.YtamhlmeopbpjpaaDoorLaidTab
import Derived.Test.YtamhlmeopbpjpaaDoorTok
import Derived.Test.YtamhlmeopbpjpaaDoorOpen
import Derived.SevenTiedAt
namespace Go.Proofs.YtamhlmeopbpjpaaDoor.fnExactFormatToken
open Go.ChangeShapes Go.WideShapes Go.ChangeAt Go.RowKit Go.Joins
set_option linter.unusedVariables false
set_option maxRecDepth 100000 in
theorem walk (s v : Int) (w : World) (hs : (Lit.int .i64 s).wf = true) (hv : (Lit.int .i64 v).wf = true) (ht : Tab w) : Calls Tryd.prog 3 #[.agg #[.int .i64 s, .int .i64 v]] w fun e w' => e = .returned (.bool true) ∧ Below w.heap.size w w' := by
  obtain ⟨hs0, hs1⟩ := wf_i64 hs
  obtain ⟨hv0, hv1⟩ := wf_i64 hv
  have CS := Lib.hid (fun W (h : Tab W) => specFormatToken s v W hs0 hs1 hv0 hv1 h)
  have CI := Lib.hid (fun W (h : Tab W) => implFormatToken s v W hs0 hs1 hv0 hv1 h)
  generalize fmtI s v = r at CS CI
  have B0 := Lib.hid (bel_al (Below.refl w.heap.size w) (.cells #[.int .i64 s, .int .i64 v] 23))
  have T0 := Lib.hid (ht.alloc (.cells #[.int .i64 s, .int .i64 v] 23))
  have k0 : (w.alloc (.cells #[.int .i64 s, .int .i64 v] 23)).cell? ⟨w.heap.size, 0, none⟩ = some (.int .i64 s) := by simp
  have k1 : (w.alloc (.cells #[.int .i64 s, .int .i64 v] 23)).cell? ⟨w.heap.size, 1, none⟩ = some (.int .i64 v) := by simp
  clear hs hv ht hs0 hs1 hv0 hv1
  go_enter Tryd.func3, Tryd.ntmps3
  go_wp2_with fail
  generalize w.alloc (.cells #[.int .i64 s, .int .i64 v] 23) = W at B0 T0 k0 k1 ⊢
  refine (toToken s v _).mono ?_
  rintro e w1 ⟨rfl, hb1⟩
  replace k0 := later0 hb1 k0
  replace k1 := later0 hb1 k1
  have T1 := Lib.hid (T0.out.below hb1)
  have B1 := Lib.hid (bel_seq B0.out hb1)
  clear hb1 T0 B0
  go_wp2_with fail
  refine (CS.out _ T1.out).mono ?_
  rintro e w2 ⟨rfl, hb2⟩
  replace k0 := later0 hb2 k0
  replace k1 := later0 hb2 k1
  have T2 := Lib.hid (T1.out.below hb2)
  have B2 := Lib.hid (bel_seq B1.out hb2)
  clear hb2 T1 B1
  go_wp2_with fail
  refine (toToken s v _).mono ?_
  rintro e w3 ⟨rfl, hb3⟩
  have T3 := Lib.hid (T2.out.below hb3)
  have B3 := Lib.hid (bel_seq B2.out hb3)
  clear hb3 T2 B2 k0 k1
  go_wp2_with fail
  refine (CI.out _ T3.out).mono ?_
  rintro e w4 ⟨rfl, hb4⟩
  have B4 := Lib.hid (bel_seq B3.out hb4)
  clear hb4 T3 B3
  go_wp2
  go_ret
  exact ⟨rfl, B4.out⟩
/-! ### THE ROW's STEP: the guide's own way -/
theorem own : ownKnob Tryd.prog.godebug = none := by kernel_rfl
theorem laidOut : laidOutB Tryd.prog = true := by kernel_rfl
set_option maxRecDepth 100000 in
theorem lifted (os : Os) (started : os.Started) (H : Type) (enc : TypeId × Value → H) :
    ReturnsInHanded {} Tryd.checked os 3 .any (fun w args => (Rows.fnExactFormatTokenSpec.pre enc Tryd.prog Tryd.f3 [] false w args ∧ laidMetH Tryd.prog laid3 w) ∧ sizedMet enc Tryd.prog Tryd.f3 (OpenSpec.ofChange Rows.fnExactFormatTokenSpec) false w args) (Rows.fnExactFormatTokenSpec.post enc Tryd.prog Tryd.f3 false true false false) := by
  refine returnsInHanded_of_change_and (C := Tryd.checked) (X := fun w _ => laidMetH Tryd.prog laid3 w) (fun _ _ _ hh h => h.of_heap hh) own started (by kernel_rfl) Tryd.func3
    (ChangeSpec.witness_shaped (enc := enc) (C := Tryd.checked) (os := os) (X := fun w _ => laidMetH Tryd.prog laid3 w) false (World.doorLaid Tryd.prog 400 os) #[.agg #[.int .i64 0, .int .i64 0]] 8 rfl (World.shaped_of_RefB (by kernel_rfl) (by kernel_rfl)) (by kernel_rfl) (by kernel_rfl) (by kernel_rfl) (door_met os _)) ?_
  intro W base args ds gs before hval0 hW _ _ hL _
  have HTab := tab_of_laid hL
  have hval : ∀ (j : Nat) t v, Tryd.f3.params[j]? = some t → args[j]? = some v → Value.okWide Tryd.prog W .any base t v := hval0
  have hW' := hW
  obtain ⟨p, q, hA0, hV, rfl, hfz, hnd⟩ := hW
  have hA : DataW.TrodAll enc Tryd.prog W 0 (fun _ => true) true Tryd.f3.params.toList args.toList ds p := hA0
  rw [Tryd.params3] at hA hval
  obtain ⟨v0, vs0, d0, ds0, p0, q0, hargs, rfl, rfl, h0, r0⟩ := trodAll_cons hA
  obtain ⟨rfl, rfl, rfl⟩ := trodAll_nil r0
  obtain rfl : args = #[v0] := by cases args; simp_all
  obtain ⟨rfl, rfl⟩ := trodVars_none hV
  have k0 := h0
  have lt0 : ∀ x ∈ p0, x.block < W.heap.size := by obtain ⟨m, hm⟩ := k0; exact DataW.trod_lt m _ _ _ hm
  obtain ⟨c0_0, c0_1, y0_0, y0_1, fuel0, rfl, e0, pe0, g0_0, g0_1⟩ := open_agg2 Tryd.underlying23 (by kernel_rfl) (by kernel_rfl) (hval 0 23 v0 rfl rfl) h0
  obtain ⟨a0_0, rfl, w0_0⟩ := intOfRead Tryd.underlying3 g0_0
  obtain ⟨a0_1, rfl, w0_1⟩ := intOfRead Tryd.underlying3 g0_1
  clear hA0 hval0
  refine (walk a0_0 a0_1 W w0_0 w0_1 HTab).mono fun e W' ⟨he, bel⟩ => ?_
  subst he
  exact ⟨_, rfl, _, _, _, [], _, [], hW', trodAll_mk1 (shut_bool Tryd.underlying4 _), (trodAll_cons_mk (Below.trod laidOut (by kernel_rfl) (of_decide_eq_true (by kernel_rfl)) k0 bel lt0) trodAll_mk0), rfl, bel.frame _, fun h => by cases h⟩

theorem over : Rows.fnExactFormatTokenRow.holds Tryd.pinned (OpenSpec.ofChange Rows.fnExactFormatTokenSpec) :=
  OpenClaim.holds_of_wide 3 Tryd.f3 rfl rfl rfl rfl rfl rfl rfl ⟨rfl, rfl, rfl, rfl, rfl⟩ rfl rfl rfl rfl rfl (by kernel_rfl) Tryd.func3 (by kernel_rfl)
    (of_decide_eq_true (by kernel_rfl)) (by unfold Func.isWrapper; first | (rw [if_pos (by decide +kernel)]; kernel_rfl) | (rw [if_neg (by decide +kernel)]; exact ⟨rfl, rfl⟩))
    (fun os started H enc _ => lifted os started H enc)

/-- the statement: the tied card -/
theorem proved : Rows.FnExactFormatTokenCardSaid :=
  Claim7.holds_tied_plain_at .later [] [.data, .data, .data] true Rows.fnExactFormatTokenCard.stood.harness false
    over (fun _ h => by cases h) (by kernel_rfl) (fun _ h => by cases h) fnExactFormatToken_row_tie rfl ⟨rfl, rfl⟩ (by kernel_rfl) rfl
    (fun f fn hf hfn => by
      obtain rfl : f = 3 := Option.some.inj ((show Tryd.prog.funcNamed Rows.fnExactFormatTokenRow.func = some 3 by kernel_rfl).symm.trans hf) |>.symm
      obtain rfl : fn = Tryd.f3 := (Option.some.inj (Tryd.func3.symm.trans hfn)).symm
      exact ⟨by kernel_rfl, fun j t ht => by
        rw [Tryd.params3] at ht
        have hm : t ∈ [23] := by simpa using Array.mem_of_getElem? ht
        have hall : ([23].all fun u => !Tryd.prog.wantsStandIn u) = true := by kernel_rfl
        exact (show Tryd.prog.wantsStandIn t = false by simpa using List.all_eq_true.1 hall t hm)⟩)
    (by kernel_rfl)
end Go.Proofs.YtamhlmeopbpjpaaDoor.fnExactFormatToken
