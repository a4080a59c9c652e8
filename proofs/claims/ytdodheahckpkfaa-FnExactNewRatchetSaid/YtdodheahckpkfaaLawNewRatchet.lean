/- For every key the program's NewRatchet returns what the reference's returns, each time memory of its own; no condition. -/
import Derived.Test.YtdodheahckpkfaaRows
import Derived.Test.YtdodheahckpkfaaRatchLaw
import Derived.Test.YtdodheahckpkfaaOpen
namespace Go.Proofs.Ytdodheahckpkfaa.fnExactNewRatchet
open Go.ChangeShapes Go.WideShapes Go.ChangeAt Go.RowKit Go.Joins
set_option linter.unusedVariables false
def newCh (e : Int) : Int := if keyB e then e else 1
theorem specNew (a0 : Int) (w : World) : Calls Try.prog 46 #[.int .i64 a0] w fun e w' => e = .returned (.agg #[.int .i64 (newCh a0), .int .i64 0, .slice none 0 0]) ∧ Below w.heap.size w w' := by
  cases h : keyB a0 with
  | false =>
    have HV := Lib.hid (show newCh a0 = 1 by unfold newCh; rw [h]; rfl)
    go_enter Try.func46, Try.ntmps46
    go_wp2_with (first | (go_at_call 81; (refine (specIsKeyis h _).mono ?_); rintro e w0 ⟨rfl, rfl⟩))
    refine bodyPost_ret (v := .agg #[.int .i64 1, .int .i64 0, .slice none 0 0]) (by simp [results, Try.results46, go_sem, *]) rfl ⟨by rw [HV.out], (by repeat (first | exact Below.refl _ _ | refine bel_al ?_ _ | refine Below.setCell ?_ (by first | (simp; done) | (simp; omega)) _ | refine Below.drew ?_ | refine bel_drewN ?_ _))⟩
  | true =>
    have HV := Lib.hid (show newCh a0 = a0 by unfold newCh; rw [h]; rfl)
    go_enter Try.func46, Try.ntmps46
    go_wp2_with (first | (go_at_call 81; (refine (specIsKeyis h _).mono ?_); rintro e w0 ⟨rfl, rfl⟩))
    refine bodyPost_ret (v := .agg #[.int .i64 a0, .int .i64 0, .slice none 0 0]) (by simp [results, Try.results46, go_sem, *]) rfl ⟨by rw [HV.out], (by repeat (first | exact Below.refl _ _ | refine bel_al ?_ _ | refine Below.setCell ?_ (by first | (simp; done) | (simp; omega)) _ | refine Below.drew ?_ | refine bel_drewN ?_ _))⟩
theorem implNew (a0 : Int) (w : World) : Calls Try.prog 47 #[.int .i64 a0] w fun e w' => e = .returned (.agg #[.int .i64 (newCh a0), .int .i64 0, .slice none 0 0]) ∧ Below w.heap.size w w' := by
  cases h : keyB a0 with
  | false =>
    have HV := Lib.hid (show newCh a0 = 1 by unfold newCh; rw [h]; rfl)
    go_enter Try.func47, Try.ntmps47
    go_wp2_with (first | (go_at_call 82; (refine (implIsKeyis h _).mono ?_); rintro e w0 ⟨rfl, rfl⟩))
    refine bodyPost_ret (v := .agg #[.int .i64 1, .int .i64 0, .slice none 0 0]) (by simp [results, Try.results47, go_sem, *]) rfl ⟨by rw [HV.out], (by repeat (first | exact Below.refl _ _ | refine bel_al ?_ _ | refine Below.setCell ?_ (by first | (simp; done) | (simp; omega)) _ | refine Below.drew ?_ | refine bel_drewN ?_ _))⟩
  | true =>
    have HV := Lib.hid (show newCh a0 = a0 by unfold newCh; rw [h]; rfl)
    go_enter Try.func47, Try.ntmps47
    go_wp2_with (first | (go_at_call 82; (refine (implIsKeyis h _).mono ?_); rintro e w0 ⟨rfl, rfl⟩))
    refine bodyPost_ret (v := .agg #[.int .i64 a0, .int .i64 0, .slice none 0 0]) (by simp [results, Try.results47, go_sem, *]) rfl ⟨by rw [HV.out], (by repeat (first | exact Below.refl _ _ | refine bel_al ?_ _ | refine Below.setCell ?_ (by first | (simp; done) | (simp; omega)) _ | refine Below.drew ?_ | refine bel_drewN ?_ _))⟩
theorem marks0 (f : Int → Int) (k : Int) : marks f k 0 = [] := rfl
theorem walk (a0 : Int) (w : World) : Calls Try.prog 12 #[.int .i64 a0] w fun e w' => e = .returned (.bool true) ∧ Below w.heap.size w w' := by
  have C1 := specNew a0
  have C2 := implNew a0
  generalize newCh a0 = x at C1 C2
  have B0 := Lib.hid (Below.refl w.heap.size w)
  have CM := fun W => (markRatchet x 0 none 0 0 0 [] 1 W (OwnK.nil _ _) (by omega) (by omega) (by omega)).mono fun e W' h => (show e = .returned (.int .i64 1) ∧ Below W.heap.size W W' from ⟨by rw [h.1]; rfl, grown_below h.2.2 (Nat.le_refl _) (fun k hk => by cases hk)⟩)
  have CH := fun W => (heldRatchet x 0 (.slice none 0 0) 0 1 W (Sk.nil _) (by omega) (by omega) (by omega)).mono fun e W' h => (show e = .returned (.int .i64 1) ∧ Below W.heap.size W W' from ⟨by rw [h.1]; rfl, h.2⟩)
  go_enter Try.func12, Try.ntmps12
  go_wp2_with fail
  refine (C1 _).mono ?_
  rintro e w1 ⟨rfl, hb1⟩
  have B1 := Lib.hid (bel_seq B0.out hb1)
  go_wp2_with fail
  refine (C2 _).mono ?_
  rintro e w2 ⟨rfl, hb2⟩
  have B2 := Lib.hid (bel_seq (bel_al B1.out _) hb2)
  have p0 : w2.cell? ⟨w1.heap.size, 0, none⟩ = some (.int .i64 x) := later0 hb2 (by simp)
  have p1 : w2.cell? ⟨w1.heap.size, 1, none⟩ = some (.int .i64 0) := later0 hb2 (by simp)
  have p2 : w2.cell? ⟨w1.heap.size, 2, none⟩ = some (.slice none 0 0) := later0 hb2 (by simp)
  have hz1 : w1.heap.size < w2.heap.size := World.block_lt_of_cell? w2 _ p0
  go_wp2_with fail
  refine (eqRatchet_yes x 0 _ _ 0 [] _ (Sk.nil _) (Sk.nil _)).mono ?_
  rintro e w3 ⟨rfl, hb3⟩
  replace p0 := later1 hb3 p0
  replace p1 := later1 hb3 p1
  replace p2 := later1 hb3 p2
  have B3 := Lib.hid (bel_seq (bel_al B2.out _) hb3)
  have q0 : w3.cell? ⟨w2.heap.size, 0, none⟩ = some (.int .i64 x) := later0 hb3 (by simp)
  have q1 : w3.cell? ⟨w2.heap.size, 1, none⟩ = some (.int .i64 0) := later0 hb3 (by simp)
  have q2 : w3.cell? ⟨w2.heap.size, 2, none⟩ = some (.slice none 0 0) := later0 hb3 (by simp)
  go_wp2_with fail
  refine (CM _).mono ?_
  rintro e w4 ⟨rfl, hb4⟩
  replace p0 := later0 hb4 p0
  replace p1 := later0 hb4 p1
  replace p2 := later0 hb4 p2
  replace q0 := later0 hb4 q0
  replace q1 := later0 hb4 q1
  replace q2 := later0 hb4 q2
  have B4 := Lib.hid (bel_seq B3.out hb4)
  go_wp2_with fail
  refine (CH _).mono ?_
  rintro e w5 ⟨rfl, hb5⟩
  replace p0 := later0 hb5 p0
  replace p1 := later0 hb5 p1
  replace p2 := later0 hb5 p2
  replace q0 := later0 hb5 q0
  replace q1 := later0 hb5 q1
  replace q2 := later0 hb5 q2
  have B5 := Lib.hid (bel_seq B4.out hb5)
  go_wp2_with fail
  refine (C2 _).mono ?_
  rintro e w6 ⟨rfl, hb6⟩
  replace p0 := later0 hb6 p0
  replace p1 := later0 hb6 p1
  replace p2 := later0 hb6 p2
  replace q0 := later0 hb6 q0
  replace q1 := later0 hb6 q1
  replace q2 := later0 hb6 q2
  have B6 := Lib.hid (bel_seq B5.out hb6)
  have hz6 : w1.heap.size < w6.heap.size := World.block_lt_of_cell? w6 _ p0
  have hz6' : w2.heap.size < w6.heap.size := World.block_lt_of_cell? w6 _ q0
  go_wp2_with fail
  refine (eqRatchet_yes x 0 _ _ 0 [] _ (Sk.nil _) (Sk.nil _)).mono ?_
  rintro e w7 ⟨rfl, hb7⟩
  replace p0 := later1 hb7 p0
  replace p1 := later1 hb7 p1
  replace p2 := later1 hb7 p2
  replace q0 := later1 hb7 q0
  replace q1 := later1 hb7 q1
  replace q2 := later1 hb7 q2
  have B7 := Lib.hid (bel_seq (bel_al B6.out _) hb7)
  go_wp2_with fail
  refine (CH _).mono ?_
  rintro e w8 ⟨rfl, hb8⟩
  replace p0 := later0 hb8 p0
  replace p1 := later0 hb8 p1
  replace p2 := later0 hb8 p2
  replace q0 := later0 hb8 q0
  replace q1 := later0 hb8 q1
  replace q2 := later0 hb8 q2
  have B8 := Lib.hid (bel_seq B7.out hb8)
  go_wp2
  go_ret
  exact ⟨rfl, B8.out⟩
/-! ### THE ROW's STEP: the guide's own way -/
theorem own : ownKnob Try.prog.godebug = none := by kernel_rfl
theorem laidOut : laidOutB Try.prog = true := by kernel_rfl
set_option maxRecDepth 100000 in
theorem lifted (os : Os) (started : os.Started) (H : Type) (enc : TypeId × Value → H) :
    ReturnsInHanded {} Try.checked os 12 .any (Rows.fnExactNewRatchetSpec.pre6 enc Try.prog Try.f12 Rows.fnExactNewRatchetRow.domain false) (Rows.fnExactNewRatchetSpec.post enc Try.prog Try.f12 false true false false) := by
  refine returnsInHanded_of_change (C := Try.checked) own started (by kernel_rfl) Try.func12
    (ChangeSpec.witness6 (enc := enc) (C := Try.checked) false ⟨#[], #[.int .i64 0], []⟩ 8 (by kernel_rfl) (by kernel_rfl) (by kernel_rfl) (by kernel_rfl)) ?_
  intro W base args ds gs before hval0 hW hcnd _
  have hval : ∀ (j : Nat) t v, Try.f12.params[j]? = some t → args[j]? = some v → Value.okWide Try.prog W .any base t v := hval0
  have hW' := hW
  obtain ⟨p, q, hA0, hV, rfl, hfz, hnd⟩ := hW
  have hA : DataW.TrodAll enc Try.prog W 0 (fun _ => true) true Try.f12.params.toList args.toList ds p := hA0
  rw [Try.params12] at hA hval
  obtain ⟨v0, vs0, d0, ds0, p0, q0, hargs, rfl, rfl, h0, r0⟩ := trodAll_cons hA
  obtain ⟨rfl, rfl, rfl⟩ := trodAll_nil r0
  obtain rfl : args = #[v0] := by cases args; simp_all
  obtain ⟨rfl, rfl⟩ := trodVars_none hV
  have k0 := h0
  have lt0 : ∀ x ∈ p0, x.block < W.heap.size := by obtain ⟨m, hm⟩ := k0; exact DataW.trod_lt m _ _ _ hm
  obtain ⟨fuel0, g0⟩ := h0
  obtain ⟨a0, rfl, w0⟩ : ∃ n, v0 = .int .i64 n ∧ (Lit.int .i64 n).wf = true := by
    obtain ⟨n, rfl⟩ := okWide_int Try.underlying3 (hval 0 3 v0 rfl rfl)
    exact ⟨n, rfl, by obtain ⟨m, e, w⟩ := intOfRead Try.underlying3 (by simpa [Value.cells] using g0); cases e; exact w⟩
  clear hA0 hval0
  refine (walk a0 W).mono fun e W' ⟨he, bel⟩ => ?_
  subst he
  exact ⟨_, rfl, _, _, _, [], _, [], hW', trodAll_mk1 (shut_bool Try.underlying4 _), (trodAll_cons_mk (Below.trod laidOut (by kernel_rfl) (of_decide_eq_true (by kernel_rfl)) k0 bel lt0) trodAll_mk0), rfl, bel.frame _, fun h => by cases h⟩

theorem over : Rows.fnExactNewRatchetRow.holds Try.pinned (OpenSpec.ofChange Rows.fnExactNewRatchetSpec) :=
  OpenClaim.holds_of_wide 12 Try.f12 rfl rfl rfl rfl rfl rfl rfl ⟨rfl, rfl, rfl, rfl, rfl⟩ rfl rfl rfl rfl rfl (by kernel_rfl) Try.func12 (by kernel_rfl)
    (of_decide_eq_true (by kernel_rfl)) (by unfold Func.isWrapper; first | (rw [if_pos (by decide +kernel)]; kernel_rfl) | (rw [if_neg (by decide +kernel)]; exact ⟨rfl, rfl⟩))
    (fun os started H enc _ => lifted os started H enc)

/-- the statement -/
theorem proved : Rows.FnExactNewRatchetSaid := over
end Go.Proofs.Ytdodheahckpkfaa.fnExactNewRatchet
