/- For all arguments the program's KeyForStep returns what the reference's returns, leaves its argument alone and returns memory of its own; no condition. -/
import Derived.Test.YtelcpihbdgikfaaRows
import Derived.Test.YtelcpihbdgikfaaRatLaw2
import Derived.Test.YtelcpihbdgikfaaKeyLaw
import Derived.Test.YtelcpihbdgikfaaOpenK
import Derived.Test.YtelcpihbdgikfaaOpen
namespace Go.Proofs.Ytelcpihbdgikfaa.fnExactKeyForStep
open Go.ChangeShapes Go.WideShapes Go.ChangeAt Go.RowKit Go.Joins
set_option linter.unusedVariables false
set_option maxRecDepth 100000 in
theorem walk (x s : Int) (v : Value) (n : Nat) (l : List Int) (step : Int) (w : World) (hs : Sk w v n l) : Calls Try.prog 4 #[.agg #[.int .i64 x, .int .i64 s, v], .int .i64 step] w fun e w' => e = .returned (.bool true) ∧ Below w.heap.size w w' := by
  obtain ⟨a, c, rfl, hm⟩ := hs.shape
  have HS := Lib.hid hs
  have B0 := Lib.hid (Below.refl w.heap.size w)
  have CS := szRatchet x s _ n l 1048576 _ (hs.alloc (.cells #[.int .i64 x, .int .i64 s, .slice a n c] 24)) (by omega) (by omega)
  by_cases hlt : (1048576 : Int) < (n : Int)
  · rw [if_pos hlt] at CS
    have CS' := Lib.hid CS
    clear CS hlt hs hm
    go_enter Try.func4, Try.ntmps4
    go_wp2_with fail
    refine CS'.out.mono ?_
    rintro e w1 ⟨rfl, hb1⟩
    go_wp2
    go_ret
    exact ⟨rfl, (by repeat (first | exact Below.refl _ _ | refine bel_al ?_ _ | refine Below.setCell ?_ (by first | (simp; done) | (simp; omega)) _ | refine Below.drew ?_ | refine bel_drewN ?_ _ | refine bel_seq ?_ (hb1)))⟩
  · rw [if_neg hlt] at CS
    have CS' := Lib.hid CS
    have hl : n ≤ 1048576 := by omega
    have hlt' : (n : Int) ≤ 1048576 := by omega
    have C1 : ∀ v W, Sk W v n l → Calls Try.prog 22 #[.agg #[.int .i64 x, .int .i64 s, v], .int .i64 step] W (KeyPost (keyStepI x s n l step) W) := fun v W h => specKeyForStep x s v n l step W h hl
    have C2 : ∀ v W, Sk W v n l → Calls Try.prog 23 #[.agg #[.int .i64 x, .int .i64 s, v], .int .i64 step] W (KeyPost (keyStepI x s n l step) W) := fun v W h => implKeyForStep x s v n l step W h hl
    have hlen := keyStepI_len x s n l step hs.1
    obtain ⟨⟨⟨x1, s1⟩, l1, kk, b⟩, hx⟩ : ∃ y, y = keyStepI x s n l step := ⟨_, rfl⟩
    rw [← hx] at hlen
    simp only [← hx] at C1 C2
    dsimp only at hlen
    obtain ⟨n1, hn1'⟩ : ∃ n1, n1 = l1.length / 2 := ⟨_, rfl⟩
    have hn1 : n1 ≤ 1048576 := by omega
    have C1 : ∀ v W, Sk W v n l → Calls Try.prog 22 #[.agg #[.int .i64 x, .int .i64 s, v], .int .i64 step] W (RatPost ((x1, s1), kk, b) n1 l1 W) := fun v W h => (C1 v W h).mono fun e w' hk => ratOfKey hn1' hk
    have C2 : ∀ v W, Sk W v n l → Calls Try.prog 23 #[.agg #[.int .i64 x, .int .i64 s, v], .int .i64 step] W (RatPost ((x1, s1), kk, b) n1 l1 W) := fun v W h => (C2 v W h).mono fun e w' hk => ratOfKey hn1' hk
    clear hn1' hlen
    have C1' := Lib.hid C1
    have C2' := Lib.hid C2
    have hbb : (b != b) = false := by simp
    have hkk : (kk != kk) = false := by simp
    clear C1 C2 CS hlt hs hm hx
    go_enter Try.func4, Try.ntmps4
    go_wp2_with fail
    refine (CS'.out).mono ?_
    rintro e w1 ⟨rfl, hb1⟩
    have B1 := Lib.hid (bel_seq (bel_al B0.out _) hb1)
    have p0 : w1.cell? ⟨w.heap.size, 0, none⟩ = some (.int .i64 x) := later0 hb1 (by simp)
    have p1 : w1.cell? ⟨w.heap.size, 1, none⟩ = some (.int .i64 s) := later0 hb1 (by simp)
    have p2 : w1.cell? ⟨w.heap.size, 2, none⟩ = some (.slice a n c) := later0 hb1 (by simp)
    go_wp2_with fail
    refine (toRatchet x s (.slice a n c) n l _ (HS.out.below B1.out) hl).mono ?_
    rintro e w2 ⟨g2, rfl, _, _, ho2, hb2⟩
    replace p0 := later0 hb2 p0
    replace p1 := later0 hb2 p1
    replace p2 := later0 hb2 p2
    have B2 := Lib.hid (bel_seq B1.out hb2)
    have S2 := Lib.hid ho2.sl
    clear ho2
    go_wp2_with fail
    refine (C1'.out _ _ S2.out).mono ?_
    rintro e w3 ⟨ao3, c3, rfl, ho3, hb3⟩
    replace p0 := later0 hb3 p0
    replace p1 := later0 hb3 p1
    replace p2 := later0 hb3 p2
    have B3 := Lib.hid (bel_seq B2.out hb3)
    have O3 := Lib.hid ho3
    clear ho3
    have hz3 : w.heap.size < w3.heap.size := World.block_lt_of_cell? w3 _ p0
    go_wp2_with fail
    refine (toRatchet x s (.slice a n c) n l _ (HS.out.below (bel_al B3.out _)) hl).mono ?_
    rintro e w4 ⟨g4, rfl, hg4, _, ho4, hb4⟩
    replace p0 := later1 hb4 p0
    replace p1 := later1 hb4 p1
    replace p2 := later1 hb4 p2
    have B4 := Lib.hid (bel_seq (bel_al B3.out _) hb4)
    have q0 : w4.cell? ⟨w3.heap.size, 0, none⟩ = some (.int .i64 x1) := later0 hb4 (by simp)
    have q1 : w4.cell? ⟨w3.heap.size, 1, none⟩ = some (.int .i64 s1) := later0 hb4 (by simp)
    have q2 : w4.cell? ⟨w3.heap.size, 2, none⟩ = some (.slice ao3 n1 c3) := later0 hb4 (by simp)
    have hz4 : w3.heap.size < w4.heap.size := World.block_lt_of_cell? w4 _ q0
    have hz4' : w.heap.size < w4.heap.size := World.block_lt_of_cell? w4 _ p0
    have O34 := Lib.hid ((O3.out.alloc (.cells #[.int .i64 x1, .int .i64 s1, .slice ao3 n1 c3] 28)).below hb4)
    have ho4' := ho4
    rw [World.size_alloc] at ho4' hg4
    have O4 := Lib.hid (ho4'.alloc (.cells #[.int .i64 x, .int .i64 s, .slice (some ⟨g4, 0, none⟩) n n] 28))
    have HW4 := Lib.hid (show ∀ b, w4.heap.size ≤ b → some b ≠ ownB (some (⟨g4, 0, none⟩ : Addr)) from fun b hb => ho4.notNew hb)
    have HB4 := Lib.hid (show ∀ b, b < w3.heap.size + 1 → some b ≠ ownB (some (⟨g4, 0, none⟩ : Addr)) from fun b hb => ho4'.notOld hb)
    have A34 := Lib.hid (O3.out.apart ho4' (Nat.le_succ _))
    have O4o := Lib.hid ho4'
    clear ho4 ho4' hb1 hb2 hb3 hb4
    go_wp2_with fail
    refine (C2'.out _ _ O4.out.sl).mono ?_
    rintro e w5 ⟨ao5, c5, rfl, ho5, hb5⟩
    replace p0 := later1 hb5 p0
    replace p1 := later1 hb5 p1
    replace p2 := later1 hb5 p2
    replace q0 := later1 hb5 q0
    replace q1 := later1 hb5 q1
    replace q2 := later1 hb5 q2
    have B5 := Lib.hid (bel_seq (bel_al B4.out _) hb5)
    have e0 : w5.cell? ⟨w4.heap.size, 0, none⟩ = some (.int .i64 x) := later0 hb5 (by simp)
    have e1 : w5.cell? ⟨w4.heap.size, 1, none⟩ = some (.int .i64 s) := later0 hb5 (by simp)
    have e2 : w5.cell? ⟨w4.heap.size, 2, none⟩ = some (.slice (some ⟨g4, 0, none⟩) n n) := later0 hb5 (by simp)
    have O45 := Lib.hid (O4.out.below hb5)
    have O35 := Lib.hid ((O34.out.alloc (.cells #[.int .i64 x, .int .i64 s, .slice (some ⟨g4, 0, none⟩) n n] 28)).below hb5)
    have O5 := Lib.hid ho5
    have hz5 : w.heap.size < w5.heap.size := World.block_lt_of_cell? w5 _ p0
    have hz5' : w3.heap.size < w5.heap.size := World.block_lt_of_cell? w5 _ q0
    have hz5'' : w4.heap.size < w5.heap.size := World.block_lt_of_cell? w5 _ e0
    have ho5' := ho5
    rw [World.size_alloc] at ho5'
    have A35 := Lib.hid (O3.out.apart ho5' (by omega))
    have A54 := Lib.hid (show ownB ao5 = none ∨ ownB ao5 ≠ ownB (some (⟨g4, 0, none⟩ : Addr)) from ho5'.apart' O4o.out (Nat.le_succ _))
    have HB5 := Lib.hid (show ∀ b, b < w4.heap.size + 1 → some b ≠ ownB ao5 from fun b hb => ho5'.notOld hb)
    have HW5 := Lib.hid (show ∀ b, w5.heap.size ≤ b → some b ≠ ownB ao5 from fun b hb => ho5'.notNew hb)
    have BA5 := Lib.hid (show w.heap.size ≤ w4.heap.size + 1 by omega)
    clear ho5 ho5' hb5
    go_wp2_with fail
    refine (eqRatchet_yes x1 s1 _ _ n1 l1 _ (O5.out.alloc _).sl (O35.out.alloc _).sl).mono ?_
    rintro e w6 ⟨rfl, hb6⟩
    replace p0 := later1 hb6 p0
    replace p1 := later1 hb6 p1
    replace p2 := later1 hb6 p2
    replace q0 := later1 hb6 q0
    replace q1 := later1 hb6 q1
    replace q2 := later1 hb6 q2
    replace e0 := later1 hb6 e0
    replace e1 := later1 hb6 e1
    replace e2 := later1 hb6 e2
    have B6 := Lib.hid (bel_seq (bel_al B5.out _) hb6)
    have t0 : w6.cell? ⟨w5.heap.size, 0, none⟩ = some (.int .i64 x1) := later0 hb6 (by simp)
    have t1 : w6.cell? ⟨w5.heap.size, 1, none⟩ = some (.int .i64 s1) := later0 hb6 (by simp)
    have t2 : w6.cell? ⟨w5.heap.size, 2, none⟩ = some (.slice ao5 n1 c5) := later0 hb6 (by simp)
    have O36 := Lib.hid ((O35.out.alloc (.cells #[.int .i64 x1, .int .i64 s1, .slice ao5 n1 c5] 28)).below hb6)
    have O56 := Lib.hid ((O5.out.alloc (.cells #[.int .i64 x1, .int .i64 s1, .slice ao5 n1 c5] 28)).below hb6)
    have O46 := Lib.hid ((O45.out.alloc (.cells #[.int .i64 x1, .int .i64 s1, .slice ao5 n1 c5] 28)).below hb6)
    clear hb6
    go_wp2_with fail
    go_region_held3 (fun W' => W'.cell? ⟨w4.heap.size, 0, none⟩ = some (.int .i64 x) ∧ W'.cell? ⟨w4.heap.size, 1, none⟩ = some (.int .i64 s) ∧ W'.cell? ⟨w4.heap.size, 2, none⟩ = some (.slice (some ⟨g4, 0, none⟩) n n) ∧ W'.cell? ⟨w.heap.size, 0, none⟩ = some (.int .i64 x) ∧ W'.cell? ⟨w.heap.size, 1, none⟩ = some (.int .i64 s) ∧ W'.cell? ⟨w.heap.size, 2, none⟩ = some (.slice a n c) ∧ Below w6.heap.size w6 W') (first | assumption | exact keep6 (bel_seq (bel6 ‹_›) hb7) e0 e1 e2 p0 p1 p2 | exact keep6 (bel_seq (bel6 ‹_›) hb8) e0 e1 e2 p0 p1 p2 | exact keep6 ((Below.refl _ _).drew) e0 e1 e2 p0 p1 p2) (first | (go_at_call 17; (refine (toRatchet x s (.slice a n c) n l _ (HS.out.below (bel_seq B6.out (bel6 ‹_›))) hl).mono ?_); rintro e w7 ⟨g7, rfl, _, _, ho7, hb7⟩) | (go_at_call 19; (refine (eqRatchet_yes x s (.slice (some ⟨g4, 0, none⟩) n n) (.slice (some ⟨g7, 0, none⟩) n n) n l _ (O46.out.sl.below (bel6 ‹_›)) ho7.sl).mono ?_); rintro e w8 ⟨rfl, hb8⟩))
    have hb68 : Below w6.heap.size w6 w8 := bel6 ‹_›
    have B8 := Lib.hid (bel_seq B6.out hb68)
    replace p0 := later0 hb68 p0
    replace p1 := later0 hb68 p1
    replace p2 := later0 hb68 p2
    replace q0 := later0 hb68 q0
    replace q1 := later0 hb68 q1
    replace q2 := later0 hb68 q2
    replace t0 := later0 hb68 t0
    replace t1 := later0 hb68 t1
    replace t2 := later0 hb68 t2
    have O38 := Lib.hid (O36.out.below hb68)
    have O58 := Lib.hid (O56.out.below hb68)
    have O48 := Lib.hid (O46.out.below hb68)
    clear hb7 hb8 hb68 ho7
    have hk4 : ¬ (1 + 2 * (n : Int) < 0) := by omega
    go_wp2_with fail
    refine (markRatchet x s _ n n _ l 1 _ O48.out hl (by omega) (by omega)).mono ?_
    rintro e wb ⟨rfl, _, hgb⟩
    have hb9 := O48.out.belowG hgb (B := w.heap.size) (by omega) (by have := B8.out.size; omega)
    have Bb := Lib.hid (B8.out.trans hb9)
    replace p0 := laterG hgb p0 (HB4.out _ (by dsimp only; omega))
    replace p1 := laterG hgb p1 (HB4.out _ (by dsimp only; omega))
    replace p2 := laterG hgb p2 (HB4.out _ (by dsimp only; omega))
    replace q0 := laterG hgb q0 (HB4.out _ (by dsimp only; omega))
    replace q1 := laterG hgb q1 (HB4.out _ (by dsimp only; omega))
    replace q2 := laterG hgb q2 (HB4.out _ (by dsimp only; omega))
    replace t0 := laterG hgb t0 (HW4.out _ (by dsimp only; omega))
    replace t1 := laterG hgb t1 (HW4.out _ (by dsimp only; omega))
    replace t2 := laterG hgb t2 (HW4.out _ (by dsimp only; omega))
    have O3b := Lib.hid (O38.out.grown hgb A34.out)
    have O5b := Lib.hid (O58.out.grown hgb A54.out)
    clear hgb hb9 e0 e1 e2
    go_wp2_with fail
    refine (eqRatchet_yes x1 s1 _ _ n1 l1 _ O5b.out.sl O3b.out.sl).mono ?_
    rintro e w10 ⟨rfl, hb10⟩
    replace p0 := later0 hb10 p0
    replace p1 := later0 hb10 p1
    replace p2 := later0 hb10 p2
    replace q0 := later0 hb10 q0
    replace q1 := later0 hb10 q1
    replace q2 := later0 hb10 q2
    replace t0 := later0 hb10 t0
    replace t1 := later0 hb10 t1
    replace t2 := later0 hb10 t2
    have B10 := Lib.hid (bel_seq Bb.out hb10)
    have O3c := Lib.hid (O3b.out.below hb10)
    have O5c := Lib.hid (O5b.out.below hb10)
    have hk6 : ¬ (1 + 2 * (n1 : Int) < 0) := by omega
    have hm6 : ((1 + 2 * (n1 : Int)) != (1 + 2 * (n1 : Int))) = false := by simp
    clear hb10
    go_wp2_with fail
    refine (markRatchet x1 s1 _ n1 c5 _ l1 1 _ O5c.out hn1 (by omega) (by omega)).mono ?_
    rintro e we ⟨rfl, hoe, hge⟩
    have hb11 := O5c.out.belowG hge (B := w.heap.size) (by simp only [World.size_alloc]; exact BA5.out) (by have := B10.out.size; omega)
    have Be := Lib.hid (B10.out.trans hb11)
    have OE := Lib.hid hoe
    replace p0 := laterG hge p0 (HB5.out _ (by dsimp only; omega))
    replace p1 := laterG hge p1 (HB5.out _ (by dsimp only; omega))
    replace p2 := laterG hge p2 (HB5.out _ (by dsimp only; omega))
    replace q0 := laterG hge q0 (HB5.out _ (by dsimp only; omega))
    replace q1 := laterG hge q1 (HB5.out _ (by dsimp only; omega))
    replace q2 := laterG hge q2 (HB5.out _ (by dsimp only; omega))
    replace t0 := laterG hge t0 (HW5.out _ (by dsimp only; omega))
    replace t1 := laterG hge t1 (HW5.out _ (by dsimp only; omega))
    replace t2 := laterG hge t2 (HW5.out _ (by dsimp only; omega))
    have O3e := Lib.hid (O3c.out.grown hge A35.out)
    clear hoe hge hb11
    go_wp2_with fail
    refine (heldRatchet x1 s1 _ n1 1 _ OE.out.sl hn1 (by omega) (by omega)).mono ?_
    rintro e w12 ⟨rfl, hb12⟩
    replace p0 := later0 hb12 p0
    replace p1 := later0 hb12 p1
    replace p2 := later0 hb12 p2
    replace q0 := later0 hb12 q0
    replace q1 := later0 hb12 q1
    replace q2 := later0 hb12 q2
    replace t0 := later0 hb12 t0
    replace t1 := later0 hb12 t1
    replace t2 := later0 hb12 t2
    have B12 := Lib.hid (bel_seq Be.out hb12)
    have OE12 := Lib.hid (OE.out.below hb12)
    have O312 := Lib.hid (O3e.out.below hb12)
    go_wp2_with fail
    refine (toRatchet x s (.slice a n c) n l _ (HS.out.below B12.out) hl).mono ?_
    rintro e w13 ⟨g13, rfl, _, _, ho13, hb13⟩
    replace p0 := later0 hb13 p0
    replace p1 := later0 hb13 p1
    replace p2 := later0 hb13 p2
    replace q0 := later0 hb13 q0
    replace q1 := later0 hb13 q1
    replace q2 := later0 hb13 q2
    replace t0 := later0 hb13 t0
    replace t1 := later0 hb13 t1
    replace t2 := later0 hb13 t2
    have B13 := Lib.hid (bel_seq B12.out hb13)
    have S13 := Lib.hid ho13.sl
    clear ho13
    go_wp2_with fail
    refine (C2'.out _ _ S13.out).mono ?_
    rintro e w14 ⟨ao14, c14, rfl, ho14, hb14⟩
    replace p0 := later0 hb14 p0
    replace p1 := later0 hb14 p1
    replace p2 := later0 hb14 p2
    replace q0 := later0 hb14 q0
    replace q1 := later0 hb14 q1
    replace q2 := later0 hb14 q2
    replace t0 := later0 hb14 t0
    replace t1 := later0 hb14 t1
    replace t2 := later0 hb14 t2
    have B14 := Lib.hid (bel_seq B13.out hb14)
    have O14 := Lib.hid ho14
    have OE14 := Lib.hid ((OE12.out.below hb13).below hb14)
    have O314 := Lib.hid ((O312.out.below hb13).below hb14)
    have hz14 : w.heap.size < w14.heap.size := World.block_lt_of_cell? w14 _ p0
    have hz14' : w3.heap.size < w14.heap.size := World.block_lt_of_cell? w14 _ q0
    have hz14'' : w5.heap.size < w14.heap.size := World.block_lt_of_cell? w14 _ t0
    clear ho14 hb12 hb13 hb14
    go_wp2_with fail
    refine (eqRatchet_yes x1 s1 _ _ n1 l1 _ (O14.out.alloc _).sl (O314.out.alloc _).sl).mono ?_
    rintro e w15 ⟨rfl, hb15⟩
    replace p0 := later1 hb15 p0
    replace p1 := later1 hb15 p1
    replace p2 := later1 hb15 p2
    replace q0 := later1 hb15 q0
    replace q1 := later1 hb15 q1
    replace q2 := later1 hb15 q2
    replace t0 := later1 hb15 t0
    replace t1 := later1 hb15 t1
    replace t2 := later1 hb15 t2
    have B15 := Lib.hid (bel_seq (bel_al B14.out _) hb15)
    have OE15 := Lib.hid ((OE14.out.alloc (.cells #[.int .i64 x1, .int .i64 s1, .slice ao14 n1 c14] 28)).below hb15)
    clear hb15
    go_wp2_with fail
    refine (heldRatchet x1 s1 _ n1 1 _ OE15.out.sl hn1 (by omega) (by omega)).mono ?_
    rintro e w16 ⟨rfl, hb16⟩
    have B16 := Lib.hid (bel_seq B15.out hb16)
    go_wp2
    go_ret
    exact ⟨rfl, B16.out⟩
/-! ### THE ROW's STEP: the guide's own way -/
theorem own : ownKnob Try.prog.godebug = none := by kernel_rfl
theorem laidOut : laidOutB Try.prog = true := by kernel_rfl
set_option maxRecDepth 100000 in
theorem lifted (os : Os) (started : os.Started) (H : Type) (enc : TypeId × Value → H) :
    ReturnsInHanded {} Try.checked os 4 .any (Rows.fnExactKeyForStepSpec.pre6 enc Try.prog Try.f4 Rows.fnExactKeyForStepRow.domain false) (Rows.fnExactKeyForStepSpec.post enc Try.prog Try.f4 false true false false) := by
  refine returnsInHanded_of_change (C := Try.checked) own started (by kernel_rfl) Try.func4
    (ChangeSpec.witness6 (enc := enc) (C := Try.checked) false ⟨#[], #[.agg #[.int .i64 0, .int .i64 0, .slice none 0 0], .int .i64 0], []⟩ 8 (by kernel_rfl) (by kernel_rfl) (by kernel_rfl) (by kernel_rfl)) ?_
  intro W base args ds gs before hval0 hW hcnd _
  have hval : ∀ (j : Nat) t v, Try.f4.params[j]? = some t → args[j]? = some v → Value.okWide Try.prog W .any base t v := hval0
  have hW' := hW
  obtain ⟨p, q, hA0, hV, rfl, hfz, hnd⟩ := hW
  have hA : DataW.TrodAll enc Try.prog W 0 (fun _ => true) true Try.f4.params.toList args.toList ds p := hA0
  rw [Try.params4] at hA hval
  obtain ⟨v0, vs0, d0, ds0, p0, q0, hargs, rfl, rfl, h0, r0⟩ := trodAll_cons hA
  obtain ⟨v1, vs1, d1, ds1, p1, q1, rfl, rfl, rfl, h1, r1⟩ := trodAll_cons r0
  obtain ⟨rfl, rfl, rfl⟩ := trodAll_nil r1
  obtain rfl : args = #[v0, v1] := by cases args; simp_all
  obtain ⟨rfl, rfl⟩ := trodVars_none hV
  have k0 := h0
  have lt0 : ∀ x ∈ p0, x.block < W.heap.size := by obtain ⟨m, hm⟩ := k0; exact DataW.trod_lt m _ _ _ hm
  obtain ⟨c0_0, c0_1, c0_2, y0_0, y0_1, y0_2, fuel0, rfl, e0, pe0, g0_0, g0_1, g0_2⟩ := open_agg3 Try.underlying24 (by kernel_rfl) (by kernel_rfl) (hval 0 24 v0 rfl rfl) h0
  obtain ⟨a0_0, rfl, w0_0⟩ := intOfRead Try.underlying3 g0_0
  obtain ⟨a0_1, rfl, w0_1⟩ := intOfRead Try.underlying3 g0_1
  obtain ⟨n0_2, z0_2, s0_2⟩ := skOfRead Try.underlying22 Try.underlying113 Try.underlying3 Try.underlying3 (by kernel_rfl) rfl rfl (by kernel_rfl) (by kernel_rfl) g0_2 (fun x hx => lt0 x (by rw [pe0]; simp [hx]))
  have k1 := h1
  have lt1 : ∀ x ∈ p1, x.block < W.heap.size := by obtain ⟨m, hm⟩ := k1; exact DataW.trod_lt m _ _ _ hm
  obtain ⟨fuel1, g1⟩ := h1
  obtain ⟨a1, rfl, w1⟩ : ∃ n, v1 = .int .i64 n ∧ (Lit.int .i64 n).wf = true := by
    obtain ⟨n, rfl⟩ := okWide_int Try.underlying3 (hval 1 3 v1 rfl rfl)
    exact ⟨n, rfl, by obtain ⟨m, e, w⟩ := intOfRead Try.underlying3 (by simpa [Value.cells] using g1); cases e; exact w⟩
  clear hA0 hval0
  refine (walk a0_0 a0_1 _ n0_2 z0_2 a1 W s0_2).mono fun e W' ⟨he, bel⟩ => ?_
  subst he
  exact ⟨_, rfl, _, _, _, [], _, [], hW', trodAll_mk1 (shut_bool Try.underlying4 _), (trodAll_cons_mk (Below.trod laidOut (by kernel_rfl) (of_decide_eq_true (by kernel_rfl)) k0 bel lt0) (trodAll_cons_mk (Below.trod laidOut (by kernel_rfl) (of_decide_eq_true (by kernel_rfl)) k1 bel lt1) trodAll_mk0)), rfl, bel.frame _, fun h => by cases h⟩

theorem over : Rows.fnExactKeyForStepRow.holds Try.pinned (OpenSpec.ofChange Rows.fnExactKeyForStepSpec) :=
  OpenClaim.holds_of_wide 4 Try.f4 rfl rfl rfl rfl rfl rfl rfl ⟨rfl, rfl, rfl, rfl, rfl⟩ rfl rfl rfl rfl rfl (by kernel_rfl) Try.func4 (by kernel_rfl)
    (of_decide_eq_true (by kernel_rfl)) (by unfold Func.isWrapper; first | (rw [if_pos (by decide +kernel)]; kernel_rfl) | (rw [if_neg (by decide +kernel)]; exact ⟨rfl, rfl⟩))
    (fun os started H enc _ => lifted os started H enc)

/-- the statement -/
theorem proved : Rows.FnExactKeyForStepSaid := over
end Go.Proofs.Ytelcpihbdgikfaa.fnExactKeyForStep
