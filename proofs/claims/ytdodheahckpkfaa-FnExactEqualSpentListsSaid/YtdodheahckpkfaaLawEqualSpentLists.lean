/- For all pairs of lists the program's EqualSpentLists returns what the reference's returns, and leaves its arguments alone; no condition. -/
import Derived.Test.YtdodheahckpkfaaRows
import Derived.Test.YtdodheahckpkfaaSpentLaw
import Derived.Test.YtdodheahckpkfaaOpen
import Derived.Deep.RegionHeld3
namespace Go.Proofs.Ytdodheahckpkfaa.fnExactEqualSpentLists
open Go.ChangeShapes Go.WideShapes Go.ChangeAt Go.RowKit Go.Joins
set_option linter.unusedVariables false
set_option maxRecDepth 100000 in
theorem walk (a0 : Int) (v : Value) (l : List Int) (a1 : Int) (u : Value) (m : List Int) (w : World) (hs : Sl .i64 w v l) (hu : Sl .i64 w u m) : Calls Try.prog 5 #[.agg #[.int .i64 a0, v], .agg #[.int .i64 a1, u]] w fun e w' => e = .returned (.bool true) ∧ Below w.heap.size w w' := by
  obtain ⟨a, c, rfl, hm⟩ := hs.shape
  obtain ⟨a', c', rfl, hm'⟩ := hu.shape
  have HS := Lib.hid hs
  have HU := Lib.hid hu
  have B0 := Lib.hid (Below.refl w.heap.size w)
  have CS := szSpentList a0 _ l 1048576 _ ((hs.alloc (.cells #[.int .i64 a0, .slice a l.length c] 24)).alloc (.cells #[.int .i64 a1, .slice a' m.length c'] 24)) (by omega) (by omega)
  by_cases hlt : (1048576 : Int) < (l.length : Int)
  · rw [if_pos hlt] at CS
    have CS' := Lib.hid CS
    clear CS hlt hs hm hu hm'
    go_enter Try.func5, Try.ntmps5
    go_wp2_with fail
    refine CS'.out.mono ?_
    rintro e w1 ⟨rfl, hb1⟩
    go_wp2
    go_ret
    exact ⟨rfl, (by repeat (first | exact Below.refl _ _ | refine bel_al ?_ _ | refine Below.setCell ?_ (by first | (simp; done) | (simp; omega)) _ | refine Below.drew ?_ | refine bel_drewN ?_ _ | refine bel_seq ?_ (hb1)))⟩
  · rw [if_neg hlt] at CS
    have CS' := Lib.hid CS
    have hl : l.length ≤ 1048576 := by omega
    have hlt' : (l.length : Int) ≤ 1048576 := by omega
    have CT := fun W (h : Sl .i64 W (.slice a' m.length c') m) => szSpentList a1 _ m (1048576 - (l.length : Int)) W h (by omega) (by omega)
    by_cases hlt2 : (1048576 : Int) - (l.length : Int) < (m.length : Int)
    · simp only [if_pos hlt2] at CT
      have CT' := Lib.hid CT
      clear CS CT hlt hs hu
      go_enter Try.func5, Try.ntmps5
      go_wp2_with fail
      refine (CS'.out).mono ?_
      rintro e w1 ⟨rfl, hb1⟩
      have B1 := Lib.hid (bel_seq (bel_al (bel_al B0.out _) _) hb1)
      have p0 : w1.cell? ⟨w.heap.size, 0, none⟩ = some (.int .i64 a0) := later0 hb1 (by simp)
      have p1 : w1.cell? ⟨w.heap.size, 1, none⟩ = some (.slice a l.length c) := later0 hb1 (by simp)
      have r0 : w1.cell? ⟨w.heap.size + 1, 0, none⟩ = some (.int .i64 a1) := later0 hb1 (by simp)
      have r1 : w1.cell? ⟨w.heap.size + 1, 1, none⟩ = some (.slice a' m.length c') := later0 hb1 (by simp)
      go_wp2_with fail
      refine (CT'.out _ (HU.out.below B1.out)).mono ?_
      rintro e w2 ⟨rfl, hb2⟩
      replace p0 := later0 hb2 p0
      replace p1 := later0 hb2 p1
      replace r0 := later0 hb2 r0
      replace r1 := later0 hb2 r1
      have B2 := Lib.hid (bel_seq B1.out hb2)
      go_wp2
      go_ret
      exact ⟨rfl, B2.out⟩
    · simp only [if_neg hlt2] at CT
      have CT' := Lib.hid CT
      have hl2 : m.length ≤ 1048576 := by omega
      have hlt2' : (m.length : Int) ≤ 1048576 - (l.length : Int) := by omega
      clear CS CT hlt hlt2 hs hu
      have hh : ((a0 == a1 && l == m) != (a0 == a1 && l == m)) = false := by simp
      obtain ⟨r, hr⟩ : ∃ r, r = (a0 == a1 && l == m) := ⟨_, rfl⟩
      have C1 := fun v u W (h1 : Sl .i64 W v l) (h2 : Sl .i64 W u m) => specEqualSpentLists a0 a1 v u l m W h1 h2
      have C2 := fun v u W (h1 : Sl .i64 W v l) (h2 : Sl .i64 W u m) => implEqualSpentLists a0 a1 v u l m W h1 h2
      simp only [← hr] at C1 C2
      have C1' := Lib.hid C1
      have C2' := Lib.hid C2
      clear C1 C2 hr hh
      have hh : (r != r) = false := by simp
      go_enter Try.func5, Try.ntmps5
      go_wp2_with fail
      refine (CS'.out).mono ?_
      rintro e w1 ⟨rfl, hb1⟩
      have B1 := Lib.hid (bel_seq (bel_al (bel_al B0.out _) _) hb1)
      have p0 : w1.cell? ⟨w.heap.size, 0, none⟩ = some (.int .i64 a0) := later0 hb1 (by simp)
      have p1 : w1.cell? ⟨w.heap.size, 1, none⟩ = some (.slice a l.length c) := later0 hb1 (by simp)
      have r0 : w1.cell? ⟨w.heap.size + 1, 0, none⟩ = some (.int .i64 a1) := later0 hb1 (by simp)
      have r1 : w1.cell? ⟨w.heap.size + 1, 1, none⟩ = some (.slice a' m.length c') := later0 hb1 (by simp)
      go_wp2_with fail
      refine (CT'.out _ (HU.out.below B1.out)).mono ?_
      rintro e w2 ⟨rfl, hb2⟩
      replace p0 := later0 hb2 p0
      replace p1 := later0 hb2 p1
      replace r0 := later0 hb2 r0
      replace r1 := later0 hb2 r1
      have B2 := Lib.hid (bel_seq B1.out hb2)
      go_wp2_with fail
      go_region_held3 (fun W' => W'.cell? ⟨w.heap.size, 0, none⟩ = some (.int .i64 a0) ∧ W'.cell? ⟨w.heap.size, 1, none⟩ = some (.slice a l.length c) ∧ W'.cell? ⟨w.heap.size + 1, 0, none⟩ = some (.int .i64 a1) ∧ W'.cell? ⟨w.heap.size + 1, 1, none⟩ = some (.slice a' m.length c') ∧ Below w2.heap.size w2 W') (first | assumption | exact keep4 (bel_seq (bel4 ‹_›) hbh3) p0 p1 r0 r1 | exact keep4 (bel_seq (bel4 ‹_›) hbh4) p0 p1 r0 r1 | exact keep4 (bel_seq (bel4 ‹_›) hbh5) p0 p1 r0 r1 | exact keep4 ((Below.refl _ _).drew) p0 p1 r0 r1) (first | (go_at_call 17; (with_reducible refine (toSpentList a0 (.slice a l.length c) l _ (HS.out.below (bel_seq B2.out (bel4 ‹_›))) hl).mono ?_); rintro e w3 ⟨N3, g3, rfl, hN3, _, _, ho3, hbh3⟩) | (go_at_call 17; (with_reducible refine (toSpentList a1 (.slice a' m.length c') m _ (HU.out.below (bel_seq B2.out (bel4 ‹_›))) hl2).mono ?_); rintro e w4 ⟨N4, g4, rfl, hN4, _, _, ho4, hbh4⟩) | (go_at_call 22; (refine (C1'.out (.slice (some ⟨g3, 0, none⟩) N3 N3) (.slice (some ⟨g4, 0, none⟩) N4 N4) _ (ho3.sl.below hbh4) ho4.sl).mono ?_); rintro e w5 ⟨rfl, hbh5⟩))
      have hb5 : Below w2.heap.size w2 w5 := bel4 ‹_›
      have B5 := Lib.hid (bel_seq B2.out hb5)
      replace p0 := later0 hb5 p0
      replace p1 := later0 hb5 p1
      replace r0 := later0 hb5 r0
      replace r1 := later0 hb5 r1
      clear hbh3 hbh4 hbh5 ho3 ho4
      go_wp2_with fail
      refine (toSpentList a0 (.slice a l.length c) l _ (HS.out.below B5.out) hl).mono ?_
      rintro e w6 ⟨N6, g6, rfl, hN6, _, _, ho6, hb6⟩
      replace p0 := later0 hb6 p0
      replace p1 := later0 hb6 p1
      replace r0 := later0 hb6 r0
      replace r1 := later0 hb6 r1
      have B6 := Lib.hid (bel_seq B5.out hb6)
      have S6 := Lib.hid (ho6.alloc (.cells #[.int .i64 a0, .slice (some ⟨g6, 0, none⟩) N6 N6] 27)).sl
      clear ho6
      have hz6 : w.heap.size + 1 < w6.heap.size := World.block_lt_of_cell? w6 _ r0
      have hz6' : w.heap.size < w6.heap.size := World.block_lt_of_cell? w6 _ p0
      go_wp2_with fail
      refine (toSpentList a1 (.slice a' m.length c') m _ (HU.out.below (bel_al B6.out _)) hl2).mono ?_
      rintro e w7 ⟨N7, g7, rfl, hN7, _, _, ho7, hb7⟩
      replace p0 := later1 hb7 p0
      replace p1 := later1 hb7 p1
      replace r0 := later1 hb7 r0
      replace r1 := later1 hb7 r1
      have B7 := Lib.hid (bel_seq (bel_al B6.out _) hb7)
      have q0 : w7.cell? ⟨w6.heap.size, 0, none⟩ = some (.int .i64 a0) := later0 hb7 (by simp)
      have q1 : w7.cell? ⟨w6.heap.size, 1, none⟩ = some (.slice (some ⟨g6, 0, none⟩) N6 N6) := later0 hb7 (by simp)
      have S6' := Lib.hid (S6.out.below hb7)
      have S7 := Lib.hid ho7.sl
      clear ho7
      have hz7 : w6.heap.size < w7.heap.size := World.block_lt_of_cell? w7 _ q0
      go_wp2_with fail
      have hb8 : Below w7.heap.size w7 (w7.alloc (.cells #[.int .i64 a1, .slice (some ⟨g7, 0, none⟩) N7 N7] 27)) := bel_al (Below.refl _ _) _
      have t0 : (w7.alloc (.cells #[.int .i64 a1, .slice (some ⟨g7, 0, none⟩) N7 N7] 27)).cell? ⟨w7.heap.size, 0, none⟩ = some (.int .i64 a1) := by simp
      have t1 : (w7.alloc (.cells #[.int .i64 a1, .slice (some ⟨g7, 0, none⟩) N7 N7] 27)).cell? ⟨w7.heap.size, 1, none⟩ = some (.slice (some ⟨g7, 0, none⟩) N7 N7) := by simp
      generalize (w7.alloc (.cells #[.int .i64 a1, .slice (some ⟨g7, 0, none⟩) N7 N7] 27)) = w8 at hb8 t0 t1 ⊢
      have S6f := Lib.hid (S6'.out.below hb8)
      have S7f := Lib.hid (S7.out.below hb8)
      have B8 := Lib.hid (bel_seq B7.out hb8)
      replace p0 := later0 hb8 p0
      replace p1 := later0 hb8 p1
      replace r0 := later0 hb8 r0
      replace r1 := later0 hb8 r1
      replace q0 := later0 hb8 q0
      replace q1 := later0 hb8 q1
      clear S6 S6' S7 hb1 hb2 hb5 hb6 hb7 hb8
      refine (C2'.out _ _ _ S6f.out S7f.out).mono ?_
      rintro e w9 ⟨rfl, hb9⟩
      have B9 := Lib.hid (bel_seq B8.out hb9)
      replace p0 := later0 hb9 p0
      replace p1 := later0 hb9 p1
      replace r0 := later0 hb9 r0
      replace r1 := later0 hb9 r1
      replace q0 := later0 hb9 q0
      replace q1 := later0 hb9 q1
      replace t0 := later0 hb9 t0
      replace t1 := later0 hb9 t1
      have S6g := Lib.hid (S6f.out.below hb9)
      have S7g := Lib.hid (S7f.out.below hb9)
      clear hb9
      go_wp2_with fail
      go_region_held3 (fun W' => W'.cell? ⟨w6.heap.size, 0, none⟩ = some (.int .i64 a0) ∧ W'.cell? ⟨w6.heap.size, 1, none⟩ = some (.slice (some ⟨g6, 0, none⟩) N6 N6) ∧ W'.cell? ⟨w.heap.size, 0, none⟩ = some (.int .i64 a0) ∧ W'.cell? ⟨w.heap.size, 1, none⟩ = some (.slice a l.length c) ∧ Below w9.heap.size w9 W') (first | assumption | exact keep4 (bel_seq (bel4 ‹_›) hbhA) q0 q1 p0 p1 | exact keep4 (bel_seq (bel4 ‹_›) hbhB) q0 q1 p0 p1 | exact keep4 ((Below.refl _ _).drew) q0 q1 p0 p1) (first | (go_at_call 17; (refine (toSpentList a0 (.slice a l.length c) l _ (HS.out.below (bel_seq B9.out (bel4 ‹_›))) hl).mono ?_); rintro e wA ⟨NA, gA, rfl, hNA, _, _, hoA, hbhA⟩) | (go_at_call 19; (refine (eqSpentList_yes a0 (.slice (some ⟨g6, 0, none⟩) N6 N6) (.slice (some ⟨gA, 0, none⟩) NA NA) l _ (S6g.out.below (bel4 ‹_›)) hoA.sl).mono ?_); rintro e wB ⟨rfl, hbhB⟩))
      have hbB : Below w9.heap.size w9 wB := bel4 ‹_›
      have BB := Lib.hid (bel_seq B9.out hbB)
      replace r0 := later0 hbB r0
      replace r1 := later0 hbB r1
      replace t0 := later0 hbB t0
      replace t1 := later0 hbB t1
      have S7h := Lib.hid (S7g.out.below hbB)
      clear hbhA hbhB hoA hbB p0 p1 q0 q1
      go_wp2_with fail
      go_region_held3 (fun W' => W'.cell? ⟨w7.heap.size, 0, none⟩ = some (.int .i64 a1) ∧ W'.cell? ⟨w7.heap.size, 1, none⟩ = some (.slice (some ⟨g7, 0, none⟩) N7 N7) ∧ W'.cell? ⟨w.heap.size + 1, 0, none⟩ = some (.int .i64 a1) ∧ W'.cell? ⟨w.heap.size + 1, 1, none⟩ = some (.slice a' m.length c') ∧ Below wB.heap.size wB W') (first | assumption | exact keep4 (bel_seq (bel4 ‹_›) hbhC) t0 t1 r0 r1 | exact keep4 (bel_seq (bel4 ‹_›) hbhD) t0 t1 r0 r1 | exact keep4 ((Below.refl _ _).drew) t0 t1 r0 r1) (first | (go_at_call 17; (refine (toSpentList a1 (.slice a' m.length c') m _ (HU.out.below (bel_seq BB.out (bel4 ‹_›))) hl2).mono ?_); rintro e wC ⟨NC, gC, rfl, hNC, _, _, hoC, hbhC⟩) | (go_at_call 19; (refine (eqSpentList_yes a1 (.slice (some ⟨g7, 0, none⟩) N7 N7) (.slice (some ⟨gC, 0, none⟩) NC NC) m _ (S7h.out.below (bel4 ‹_›)) hoC.sl).mono ?_); rintro e wD ⟨rfl, hbhD⟩))
      go_wp2
      go_ret
      exact ⟨rfl, bel_seq BB.out (bel4 ‹_›)⟩
/-! ### THE ROW's STEP: the guide's own way -/
theorem own : ownKnob Try.prog.godebug = none := by kernel_rfl
theorem laidOut : laidOutB Try.prog = true := by kernel_rfl
set_option maxRecDepth 100000 in
theorem lifted (os : Os) (started : os.Started) (H : Type) (enc : TypeId × Value → H) :
    ReturnsInHanded {} Try.checked os 5 .any (Rows.fnExactEqualSpentListsSpec.pre6 enc Try.prog Try.f5 Rows.fnExactEqualSpentListsRow.domain false) (Rows.fnExactEqualSpentListsSpec.post enc Try.prog Try.f5 false true false false) := by
  refine returnsInHanded_of_change (C := Try.checked) own started (by kernel_rfl) Try.func5
    (ChangeSpec.witness6 (enc := enc) (C := Try.checked) false ⟨#[], #[.agg #[.int .i64 0, .slice none 0 0], .agg #[.int .i64 0, .slice none 0 0]], []⟩ 8 (by kernel_rfl) (by kernel_rfl) (by kernel_rfl) (by kernel_rfl)) ?_
  intro W base args ds gs before hval0 hW hcnd _
  have hval : ∀ (j : Nat) t v, Try.f5.params[j]? = some t → args[j]? = some v → Value.okWide Try.prog W .any base t v := hval0
  have hW' := hW
  obtain ⟨p, q, hA0, hV, rfl, hfz, hnd⟩ := hW
  have hA : DataW.TrodAll enc Try.prog W 0 (fun _ => true) true Try.f5.params.toList args.toList ds p := hA0
  rw [Try.params5] at hA hval
  obtain ⟨v0, vs0, d0, ds0, p0, q0, hargs, rfl, rfl, h0, r0⟩ := trodAll_cons hA
  obtain ⟨v1, vs1, d1, ds1, p1, q1, rfl, rfl, rfl, h1, r1⟩ := trodAll_cons r0
  obtain ⟨rfl, rfl, rfl⟩ := trodAll_nil r1
  obtain rfl : args = #[v0, v1] := by cases args; simp_all
  obtain ⟨rfl, rfl⟩ := trodVars_none hV
  have k0 := h0
  have lt0 : ∀ x ∈ p0, x.block < W.heap.size := by obtain ⟨m, hm⟩ := k0; exact DataW.trod_lt m _ _ _ hm
  obtain ⟨c0_0, c0_1, y0_0, y0_1, fuel0, rfl, e0, pe0, g0_0, g0_1⟩ := open_agg2 Try.underlying24 (by kernel_rfl) (by kernel_rfl) (hval 0 24 v0 rfl rfl) h0
  obtain ⟨a0_0, rfl, w0_0⟩ := intOfRead Try.underlying3 g0_0
  obtain ⟨z0_1, s0_1, wf0_1⟩ := slOfRead Try.underlying22 Try.underlying3 (by kernel_rfl) g0_1 (fun x hx => lt0 x (by rw [pe0]; simp [hx]))
  have k1 := h1
  have lt1 : ∀ x ∈ p1, x.block < W.heap.size := by obtain ⟨m, hm⟩ := k1; exact DataW.trod_lt m _ _ _ hm
  obtain ⟨c1_0, c1_1, y1_0, y1_1, fuel1, rfl, e1, pe1, g1_0, g1_1⟩ := open_agg2 Try.underlying24 (by kernel_rfl) (by kernel_rfl) (hval 1 24 v1 rfl rfl) h1
  obtain ⟨a1_0, rfl, w1_0⟩ := intOfRead Try.underlying3 g1_0
  obtain ⟨z1_1, s1_1, wf1_1⟩ := slOfRead Try.underlying22 Try.underlying3 (by kernel_rfl) g1_1 (fun x hx => lt1 x (by rw [pe1]; simp [hx]))
  clear hA0 hval0
  refine (walk a0_0 _ z0_1 a1_0 _ z1_1 W s0_1 s1_1).mono fun e W' ⟨he, bel⟩ => ?_
  subst he
  exact ⟨_, rfl, _, _, _, [], _, [], hW', trodAll_mk1 (shut_bool Try.underlying4 _), (trodAll_cons_mk (Below.trod laidOut (by kernel_rfl) (of_decide_eq_true (by kernel_rfl)) k0 bel lt0) (trodAll_cons_mk (Below.trod laidOut (by kernel_rfl) (of_decide_eq_true (by kernel_rfl)) k1 bel lt1) trodAll_mk0)), rfl, bel.frame _, fun h => by cases h⟩

theorem over : Rows.fnExactEqualSpentListsRow.holds Try.pinned (OpenSpec.ofChange Rows.fnExactEqualSpentListsSpec) :=
  OpenClaim.holds_of_wide 5 Try.f5 rfl rfl rfl rfl rfl rfl rfl ⟨rfl, rfl, rfl, rfl, rfl⟩ rfl rfl rfl rfl rfl (by kernel_rfl) Try.func5 (by kernel_rfl)
    (of_decide_eq_true (by kernel_rfl)) (by unfold Func.isWrapper; first | (rw [if_pos (by decide +kernel)]; kernel_rfl) | (rw [if_neg (by decide +kernel)]; exact ⟨rfl, rfl⟩))
    (fun os started H enc _ => lifted os started H enc)

/-- the statement -/
theorem proved : Rows.FnExactEqualSpentListsSaid := over
end Go.Proofs.Ytdodheahckpkfaa.fnExactEqualSpentLists
