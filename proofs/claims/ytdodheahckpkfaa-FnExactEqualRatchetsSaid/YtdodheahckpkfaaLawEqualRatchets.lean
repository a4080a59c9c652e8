/- For all pairs of ratchets the program's EqualRatchets returns what the reference's returns, and leaves its arguments alone; no condition. -/
import Derived.Test.YtdodheahckpkfaaRows
import Derived.Test.YtdodheahckpkfaaRatchLaw
import Derived.Test.YtdodheahckpkfaaOpenK
import Derived.Test.YtdodheahckpkfaaOpen
import Derived.Deep.RegionHeld3
namespace Go.Proofs.Ytdodheahckpkfaa.fnExactEqualRatchets
open Go.ChangeShapes Go.WideShapes Go.ChangeAt Go.RowKit Go.Joins
set_option linter.unusedVariables false
set_option maxRecDepth 100000 in
theorem walk (a0 b0 : Int) (v : Value) (n : Nat) (l : List Int) (a1 b1 : Int) (u : Value) (m : Nat) (k0 : List Int) (w : World) (hs : Sk w v n l) (hu : Sk w u m k0) : Calls Try.prog 14 #[.agg #[.int .i64 a0, .int .i64 b0, v], .agg #[.int .i64 a1, .int .i64 b1, u]] w fun e w' => e = .returned (.bool true) ∧ Below w.heap.size w w' := by
  obtain ⟨a, c, rfl, hm⟩ := hs.shape
  obtain ⟨a', c', rfl, hm'⟩ := hu.shape
  have HS := Lib.hid hs
  have HU := Lib.hid hu
  have B0 := Lib.hid (Below.refl w.heap.size w)
  have CS := szRatchet a0 b0 _ n l 1048576 _ ((hs.alloc (.cells #[.int .i64 a0, .int .i64 b0, .slice a n c] 72)).alloc (.cells #[.int .i64 a1, .int .i64 b1, .slice a' m c'] 72)) (by omega) (by omega)
  by_cases hlt : (1048576 : Int) < (n : Int)
  · rw [if_pos hlt] at CS
    have CS' := Lib.hid CS
    clear CS hlt hs hm hu hm'
    go_enter Try.func14, Try.ntmps14
    go_wp2_with fail
    refine CS'.out.mono ?_
    rintro e w1 ⟨rfl, hb1⟩
    go_wp2
    go_ret
    exact ⟨rfl, (by repeat (first | exact Below.refl _ _ | refine bel_al ?_ _ | refine Below.setCell ?_ (by first | (simp; done) | (simp; omega)) _ | refine Below.drew ?_ | refine bel_drewN ?_ _ | refine bel_seq ?_ (hb1)))⟩
  · rw [if_neg hlt] at CS
    have CS' := Lib.hid CS
    have hl : n ≤ 1048576 := by omega
    have hlt' : (n : Int) ≤ 1048576 := by omega
    have CT := fun W (h : Sk W (.slice a' m c') m k0) => szRatchet a1 b1 _ m k0 (1048576 - (n : Int)) W h (by omega) (by omega)
    by_cases hlt2 : (1048576 : Int) - (n : Int) < (m : Int)
    · simp only [if_pos hlt2] at CT
      have CT' := Lib.hid CT
      clear CS CT hlt hs hu
      go_enter Try.func14, Try.ntmps14
      go_wp2_with fail
      refine (CS'.out).mono ?_
      rintro e w1 ⟨rfl, hb1⟩
      have B1 := Lib.hid (bel_seq (bel_al (bel_al B0.out _) _) hb1)
      have p0 : w1.cell? ⟨w.heap.size, 0, none⟩ = some (.int .i64 a0) := later0 hb1 (by simp)
      have p1 : w1.cell? ⟨w.heap.size, 1, none⟩ = some (.int .i64 b0) := later0 hb1 (by simp)
      have p2 : w1.cell? ⟨w.heap.size, 2, none⟩ = some (.slice a n c) := later0 hb1 (by simp)
      have r0 : w1.cell? ⟨w.heap.size + 1, 0, none⟩ = some (.int .i64 a1) := later0 hb1 (by simp)
      have r1 : w1.cell? ⟨w.heap.size + 1, 1, none⟩ = some (.int .i64 b1) := later0 hb1 (by simp)
      have r2 : w1.cell? ⟨w.heap.size + 1, 2, none⟩ = some (.slice a' m c') := later0 hb1 (by simp)
      go_wp2_with fail
      refine (CT'.out _ (HU.out.below B1.out)).mono ?_
      rintro e w2 ⟨rfl, hb2⟩
      replace p0 := later0 hb2 p0
      replace p1 := later0 hb2 p1
      replace p2 := later0 hb2 p2
      replace r0 := later0 hb2 r0
      replace r1 := later0 hb2 r1
      replace r2 := later0 hb2 r2
      have B2 := Lib.hid (bel_seq B1.out hb2)
      go_wp2
      go_ret
      exact ⟨rfl, B2.out⟩
    · simp only [if_neg hlt2] at CT
      have CT' := Lib.hid CT
      have hl2 : m ≤ 1048576 := by omega
      have hlt2' : (m : Int) ≤ 1048576 - (n : Int) := by omega
      clear CS CT hlt hlt2 hs hu
      have hh : ((a0 == a1 && b0 == b1 && l == k0) != (a0 == a1 && b0 == b1 && l == k0)) = false := by simp
      obtain ⟨r, hr⟩ : ∃ r, r = (a0 == a1 && b0 == b1 && l == k0) := ⟨_, rfl⟩
      have C1 := fun v u W (h1 : Sk W v n l) (h2 : Sk W u m k0) => specEqualRatchets a0 b0 a1 b1 v u n m l k0 W h1 h2
      have C2 := fun v u W (h1 : Sk W v n l) (h2 : Sk W u m k0) => implEqualRatchets a0 b0 a1 b1 v u n m l k0 W h1 h2
      simp only [← hr] at C1 C2
      have C1' := Lib.hid C1
      have C2' := Lib.hid C2
      clear C1 C2 hr hh
      have hh : (r != r) = false := by simp
      go_enter Try.func14, Try.ntmps14
      go_wp2_with fail
      refine (CS'.out).mono ?_
      rintro e w1 ⟨rfl, hb1⟩
      have B1 := Lib.hid (bel_seq (bel_al (bel_al B0.out _) _) hb1)
      have p0 : w1.cell? ⟨w.heap.size, 0, none⟩ = some (.int .i64 a0) := later0 hb1 (by simp)
      have p1 : w1.cell? ⟨w.heap.size, 1, none⟩ = some (.int .i64 b0) := later0 hb1 (by simp)
      have p2 : w1.cell? ⟨w.heap.size, 2, none⟩ = some (.slice a n c) := later0 hb1 (by simp)
      have r0 : w1.cell? ⟨w.heap.size + 1, 0, none⟩ = some (.int .i64 a1) := later0 hb1 (by simp)
      have r1 : w1.cell? ⟨w.heap.size + 1, 1, none⟩ = some (.int .i64 b1) := later0 hb1 (by simp)
      have r2 : w1.cell? ⟨w.heap.size + 1, 2, none⟩ = some (.slice a' m c') := later0 hb1 (by simp)
      go_wp2_with fail
      refine (CT'.out _ (HU.out.below B1.out)).mono ?_
      rintro e w2 ⟨rfl, hb2⟩
      replace p0 := later0 hb2 p0
      replace p1 := later0 hb2 p1
      replace p2 := later0 hb2 p2
      replace r0 := later0 hb2 r0
      replace r1 := later0 hb2 r1
      replace r2 := later0 hb2 r2
      have B2 := Lib.hid (bel_seq B1.out hb2)
      go_wp2_with fail
      go_region_held3 (fun W' => W'.cell? ⟨w.heap.size, 0, none⟩ = some (.int .i64 a0) ∧ W'.cell? ⟨w.heap.size, 1, none⟩ = some (.int .i64 b0) ∧ W'.cell? ⟨w.heap.size, 2, none⟩ = some (.slice a n c) ∧ W'.cell? ⟨w.heap.size + 1, 0, none⟩ = some (.int .i64 a1) ∧ W'.cell? ⟨w.heap.size + 1, 1, none⟩ = some (.int .i64 b1) ∧ W'.cell? ⟨w.heap.size + 1, 2, none⟩ = some (.slice a' m c') ∧ Below w2.heap.size w2 W') (first | assumption | exact keep6 (bel_seq (bel6 ‹_›) hbh3) p0 p1 p2 r0 r1 r2 | exact keep6 (bel_seq (bel6 ‹_›) hbh4) p0 p1 p2 r0 r1 r2 | exact keep6 (bel_seq (bel6 ‹_›) hbh5) p0 p1 p2 r0 r1 r2 | exact keep6 ((Below.refl _ _).drew) p0 p1 p2 r0 r1 r2) (first | (go_at_call 53; (with_reducible refine (toRatchet a0 b0 (.slice a n c) n l _ (HS.out.below (bel_seq B2.out (bel6 ‹_›))) hl).mono ?_); rintro e w3 ⟨g3, rfl, _, _, ho3, hbh3⟩) | (go_at_call 53; (with_reducible refine (toRatchet a1 b1 (.slice a' m c') m k0 _ (HU.out.below (bel_seq B2.out (bel6 ‹_›))) hl2).mono ?_); rintro e w4 ⟨g4, rfl, _, _, ho4, hbh4⟩) | (go_at_call 55; (refine (C1'.out (.slice (some ⟨g3, 0, none⟩) n n) (.slice (some ⟨g4, 0, none⟩) m m) _ (ho3.sl.below hbh4) ho4.sl).mono ?_); rintro e w5 ⟨rfl, hbh5⟩))
      have hb5 : Below w2.heap.size w2 w5 := bel6 ‹_›
      have B5 := Lib.hid (bel_seq B2.out hb5)
      replace p0 := later0 hb5 p0
      replace p1 := later0 hb5 p1
      replace p2 := later0 hb5 p2
      replace r0 := later0 hb5 r0
      replace r1 := later0 hb5 r1
      replace r2 := later0 hb5 r2
      clear hbh3 hbh4 hbh5 ho3 ho4
      go_wp2_with fail
      refine (toRatchet a0 b0 (.slice a n c) n l _ (HS.out.below B5.out) hl).mono ?_
      rintro e w6 ⟨g6, rfl, _, _, ho6, hb6⟩
      replace p0 := later0 hb6 p0
      replace p1 := later0 hb6 p1
      replace p2 := later0 hb6 p2
      replace r0 := later0 hb6 r0
      replace r1 := later0 hb6 r1
      replace r2 := later0 hb6 r2
      have B6 := Lib.hid (bel_seq B5.out hb6)
      have S6 := Lib.hid (ho6.alloc (.cells #[.int .i64 a0, .int .i64 b0, .slice (some ⟨g6, 0, none⟩) n n] 65)).sl
      clear ho6
      have hz6 : w.heap.size + 1 < w6.heap.size := World.block_lt_of_cell? w6 _ r0
      have hz6' : w.heap.size < w6.heap.size := World.block_lt_of_cell? w6 _ p0
      go_wp2_with fail
      refine (toRatchet a1 b1 (.slice a' m c') m k0 _ (HU.out.below (bel_al B6.out _)) hl2).mono ?_
      rintro e w7 ⟨g7, rfl, _, _, ho7, hb7⟩
      replace p0 := later1 hb7 p0
      replace p1 := later1 hb7 p1
      replace p2 := later1 hb7 p2
      replace r0 := later1 hb7 r0
      replace r1 := later1 hb7 r1
      replace r2 := later1 hb7 r2
      have B7 := Lib.hid (bel_seq (bel_al B6.out _) hb7)
      have q0 : w7.cell? ⟨w6.heap.size, 0, none⟩ = some (.int .i64 a0) := later0 hb7 (by simp)
      have q1 : w7.cell? ⟨w6.heap.size, 1, none⟩ = some (.int .i64 b0) := later0 hb7 (by simp)
      have q2 : w7.cell? ⟨w6.heap.size, 2, none⟩ = some (.slice (some ⟨g6, 0, none⟩) n n) := later0 hb7 (by simp)
      have S6' := Lib.hid (S6.out.below hb7)
      have S7 := Lib.hid ho7.sl
      clear ho7
      have hz7 : w6.heap.size < w7.heap.size := World.block_lt_of_cell? w7 _ q0
      go_wp2_with fail
      have hb8 : Below w7.heap.size w7 (w7.alloc (.cells #[.int .i64 a1, .int .i64 b1, .slice (some ⟨g7, 0, none⟩) m m] 65)) := bel_al (Below.refl _ _) _
      have t0 : (w7.alloc (.cells #[.int .i64 a1, .int .i64 b1, .slice (some ⟨g7, 0, none⟩) m m] 65)).cell? ⟨w7.heap.size, 0, none⟩ = some (.int .i64 a1) := by simp
      have t1 : (w7.alloc (.cells #[.int .i64 a1, .int .i64 b1, .slice (some ⟨g7, 0, none⟩) m m] 65)).cell? ⟨w7.heap.size, 1, none⟩ = some (.int .i64 b1) := by simp
      have t2 : (w7.alloc (.cells #[.int .i64 a1, .int .i64 b1, .slice (some ⟨g7, 0, none⟩) m m] 65)).cell? ⟨w7.heap.size, 2, none⟩ = some (.slice (some ⟨g7, 0, none⟩) m m) := by simp
      generalize (w7.alloc (.cells #[.int .i64 a1, .int .i64 b1, .slice (some ⟨g7, 0, none⟩) m m] 65)) = w8 at hb8 t0 t1 t2 ⊢
      have S6f := Lib.hid (S6'.out.below hb8)
      have S7f := Lib.hid (S7.out.below hb8)
      have B8 := Lib.hid (bel_seq B7.out hb8)
      replace p0 := later0 hb8 p0
      replace p1 := later0 hb8 p1
      replace p2 := later0 hb8 p2
      replace r0 := later0 hb8 r0
      replace r1 := later0 hb8 r1
      replace r2 := later0 hb8 r2
      replace q0 := later0 hb8 q0
      replace q1 := later0 hb8 q1
      replace q2 := later0 hb8 q2
      clear S6 S6' S7 hb1 hb2 hb5 hb6 hb7 hb8
      refine (C2'.out _ _ _ S6f.out S7f.out).mono ?_
      rintro e w9 ⟨rfl, hb9⟩
      have B9 := Lib.hid (bel_seq B8.out hb9)
      replace p0 := later0 hb9 p0
      replace p1 := later0 hb9 p1
      replace p2 := later0 hb9 p2
      replace r0 := later0 hb9 r0
      replace r1 := later0 hb9 r1
      replace r2 := later0 hb9 r2
      replace q0 := later0 hb9 q0
      replace q1 := later0 hb9 q1
      replace q2 := later0 hb9 q2
      replace t0 := later0 hb9 t0
      replace t1 := later0 hb9 t1
      replace t2 := later0 hb9 t2
      have S6g := Lib.hid (S6f.out.below hb9)
      have S7g := Lib.hid (S7f.out.below hb9)
      clear hb9
      go_wp2_with fail
      go_region_held3 (fun W' => W'.cell? ⟨w6.heap.size, 0, none⟩ = some (.int .i64 a0) ∧ W'.cell? ⟨w6.heap.size, 1, none⟩ = some (.int .i64 b0) ∧ W'.cell? ⟨w6.heap.size, 2, none⟩ = some (.slice (some ⟨g6, 0, none⟩) n n) ∧ W'.cell? ⟨w.heap.size, 0, none⟩ = some (.int .i64 a0) ∧ W'.cell? ⟨w.heap.size, 1, none⟩ = some (.int .i64 b0) ∧ W'.cell? ⟨w.heap.size, 2, none⟩ = some (.slice a n c) ∧ Below w9.heap.size w9 W') (first | assumption | exact keep6 (bel_seq (bel6 ‹_›) hbhA) q0 q1 q2 p0 p1 p2 | exact keep6 (bel_seq (bel6 ‹_›) hbhB) q0 q1 q2 p0 p1 p2 | exact keep6 ((Below.refl _ _).drew) q0 q1 q2 p0 p1 p2) (first | (go_at_call 53; (refine (toRatchet a0 b0 (.slice a n c) n l _ (HS.out.below (bel_seq B9.out (bel6 ‹_›))) hl).mono ?_); rintro e wA ⟨gA, rfl, _, _, hoA, hbhA⟩) | (go_at_call 48; (refine (eqRatchet_yes a0 b0 (.slice (some ⟨g6, 0, none⟩) n n) (.slice (some ⟨gA, 0, none⟩) n n) n l _ (S6g.out.below (bel6 ‹_›)) hoA.sl).mono ?_); rintro e wB ⟨rfl, hbhB⟩))
      have hbB : Below w9.heap.size w9 wB := bel6 ‹_›
      have BB := Lib.hid (bel_seq B9.out hbB)
      replace r0 := later0 hbB r0
      replace r1 := later0 hbB r1
      replace r2 := later0 hbB r2
      replace t0 := later0 hbB t0
      replace t1 := later0 hbB t1
      replace t2 := later0 hbB t2
      have S7h := Lib.hid (S7g.out.below hbB)
      clear hbhA hbhB hoA hbB p0 p1 p2 q0 q1 q2
      go_wp2_with fail
      go_region_held3 (fun W' => W'.cell? ⟨w7.heap.size, 0, none⟩ = some (.int .i64 a1) ∧ W'.cell? ⟨w7.heap.size, 1, none⟩ = some (.int .i64 b1) ∧ W'.cell? ⟨w7.heap.size, 2, none⟩ = some (.slice (some ⟨g7, 0, none⟩) m m) ∧ W'.cell? ⟨w.heap.size + 1, 0, none⟩ = some (.int .i64 a1) ∧ W'.cell? ⟨w.heap.size + 1, 1, none⟩ = some (.int .i64 b1) ∧ W'.cell? ⟨w.heap.size + 1, 2, none⟩ = some (.slice a' m c') ∧ Below wB.heap.size wB W') (first | assumption | exact keep6 (bel_seq (bel6 ‹_›) hbhC) t0 t1 t2 r0 r1 r2 | exact keep6 (bel_seq (bel6 ‹_›) hbhD) t0 t1 t2 r0 r1 r2 | exact keep6 ((Below.refl _ _).drew) t0 t1 t2 r0 r1 r2) (first | (go_at_call 53; (refine (toRatchet a1 b1 (.slice a' m c') m k0 _ (HU.out.below (bel_seq BB.out (bel6 ‹_›))) hl2).mono ?_); rintro e wC ⟨gC, rfl, _, _, hoC, hbhC⟩) | (go_at_call 48; (refine (eqRatchet_yes a1 b1 (.slice (some ⟨g7, 0, none⟩) m m) (.slice (some ⟨gC, 0, none⟩) m m) m k0 _ (S7h.out.below (bel6 ‹_›)) hoC.sl).mono ?_); rintro e wD ⟨rfl, hbhD⟩))
      go_wp2
      go_ret
      exact ⟨rfl, bel_seq BB.out (bel6 ‹_›)⟩
/-! ### THE ROW's STEP: the guide's own way -/
theorem own : ownKnob Try.prog.godebug = none := by kernel_rfl
theorem laidOut : laidOutB Try.prog = true := by kernel_rfl
set_option maxRecDepth 100000 in
theorem lifted (os : Os) (started : os.Started) (H : Type) (enc : TypeId × Value → H) :
    ReturnsInHanded {} Try.checked os 14 .any (Rows.fnExactEqualRatchetsSpec.pre6 enc Try.prog Try.f14 Rows.fnExactEqualRatchetsRow.domain false) (Rows.fnExactEqualRatchetsSpec.post enc Try.prog Try.f14 false true false false) := by
  refine returnsInHanded_of_change (C := Try.checked) own started (by kernel_rfl) Try.func14
    (ChangeSpec.witness6 (enc := enc) (C := Try.checked) false ⟨#[], #[.agg #[.int .i64 0, .int .i64 0, .slice none 0 0], .agg #[.int .i64 0, .int .i64 0, .slice none 0 0]], []⟩ 8 (by kernel_rfl) (by kernel_rfl) (by kernel_rfl) (by kernel_rfl)) ?_
  intro W base args ds gs before hval0 hW hcnd _
  have hval : ∀ (j : Nat) t v, Try.f14.params[j]? = some t → args[j]? = some v → Value.okWide Try.prog W .any base t v := hval0
  have hW' := hW
  obtain ⟨p, q, hA0, hV, rfl, hfz, hnd⟩ := hW
  have hA : DataW.TrodAll enc Try.prog W 0 (fun _ => true) true Try.f14.params.toList args.toList ds p := hA0
  rw [Try.params14] at hA hval
  obtain ⟨v0, vs0, d0, ds0, p0, q0, hargs, rfl, rfl, h0, r0⟩ := trodAll_cons hA
  obtain ⟨v1, vs1, d1, ds1, p1, q1, rfl, rfl, rfl, h1, r1⟩ := trodAll_cons r0
  obtain ⟨rfl, rfl, rfl⟩ := trodAll_nil r1
  obtain rfl : args = #[v0, v1] := by cases args; simp_all
  obtain ⟨rfl, rfl⟩ := trodVars_none hV
  have k0 := h0
  have lt0 : ∀ x ∈ p0, x.block < W.heap.size := by obtain ⟨m, hm⟩ := k0; exact DataW.trod_lt m _ _ _ hm
  obtain ⟨c0_0, c0_1, c0_2, y0_0, y0_1, y0_2, fuel0, rfl, e0, pe0, g0_0, g0_1, g0_2⟩ := open_agg3 Try.underlying72 (by kernel_rfl) (by kernel_rfl) (hval 0 72 v0 rfl rfl) h0
  obtain ⟨a0_0, rfl, w0_0⟩ := intOfRead Try.underlying3 g0_0
  obtain ⟨a0_1, rfl, w0_1⟩ := intOfRead Try.underlying3 g0_1
  obtain ⟨n0_2, z0_2, s0_2⟩ := skOfRead Try.underlying70 Try.underlying110 Try.underlying3 Try.underlying3 (by kernel_rfl) rfl rfl (by kernel_rfl) (by kernel_rfl) g0_2 (fun x hx => lt0 x (by rw [pe0]; simp [hx]))
  have k1 := h1
  have lt1 : ∀ x ∈ p1, x.block < W.heap.size := by obtain ⟨m, hm⟩ := k1; exact DataW.trod_lt m _ _ _ hm
  obtain ⟨c1_0, c1_1, c1_2, y1_0, y1_1, y1_2, fuel1, rfl, e1, pe1, g1_0, g1_1, g1_2⟩ := open_agg3 Try.underlying72 (by kernel_rfl) (by kernel_rfl) (hval 1 72 v1 rfl rfl) h1
  obtain ⟨a1_0, rfl, w1_0⟩ := intOfRead Try.underlying3 g1_0
  obtain ⟨a1_1, rfl, w1_1⟩ := intOfRead Try.underlying3 g1_1
  obtain ⟨n1_2, z1_2, s1_2⟩ := skOfRead Try.underlying70 Try.underlying110 Try.underlying3 Try.underlying3 (by kernel_rfl) rfl rfl (by kernel_rfl) (by kernel_rfl) g1_2 (fun x hx => lt1 x (by rw [pe1]; simp [hx]))
  clear hA0 hval0
  refine (walk a0_0 a0_1 _ n0_2 z0_2 a1_0 a1_1 _ n1_2 z1_2 W s0_2 s1_2).mono fun e W' ⟨he, bel⟩ => ?_
  subst he
  exact ⟨_, rfl, _, _, _, [], _, [], hW', trodAll_mk1 (shut_bool Try.underlying4 _), (trodAll_cons_mk (Below.trod laidOut (by kernel_rfl) (of_decide_eq_true (by kernel_rfl)) k0 bel lt0) (trodAll_cons_mk (Below.trod laidOut (by kernel_rfl) (of_decide_eq_true (by kernel_rfl)) k1 bel lt1) trodAll_mk0)), rfl, bel.frame _, fun h => by cases h⟩

theorem over : Rows.fnExactEqualRatchetsRow.holds Try.pinned (OpenSpec.ofChange Rows.fnExactEqualRatchetsSpec) :=
  OpenClaim.holds_of_wide 14 Try.f14 rfl rfl rfl rfl rfl rfl rfl ⟨rfl, rfl, rfl, rfl, rfl⟩ rfl rfl rfl rfl rfl (by kernel_rfl) Try.func14 (by kernel_rfl)
    (of_decide_eq_true (by kernel_rfl)) (by unfold Func.isWrapper; first | (rw [if_pos (by decide +kernel)]; kernel_rfl) | (rw [if_neg (by decide +kernel)]; exact ⟨rfl, rfl⟩))
    (fun os started H enc _ => lifted os started H enc)

/-- the statement -/
theorem proved : Rows.FnExactEqualRatchetsSaid := over
end Go.Proofs.Ytdodheahckpkfaa.fnExactEqualRatchets
