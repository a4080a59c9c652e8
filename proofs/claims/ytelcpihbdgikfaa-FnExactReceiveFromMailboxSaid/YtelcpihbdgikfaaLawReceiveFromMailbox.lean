/- For all arguments the program's ReceiveFromMailbox returns what the reference's returns, leaves its arguments alone and returns memory of its own; no condition. -/
import Derived.Test.YtelcpihbdgikfaaRows
import Derived.Test.YtelcpihbdgikfaaMailLaw
import Derived.Test.YtelcpihbdgikfaaMail3
import Derived.Test.YtelcpihbdgikfaaMail4
import Derived.Test.YtelcpihbdgikfaaOpen
namespace Go.Proofs.Ytelcpihbdgikfaa.fnExactReceiveFromMailbox
open Go.ChangeShapes Go.WideShapes Go.ChangeAt Go.RowKit Go.Joins
set_option linter.unusedVariables false
set_option maxRecDepth 100000 in
theorem walk (k s r d : Int) (v : Value) (l : List Int) (w : World) (hs : Sl .u8 w v l) (hby : ∀ x ∈ l, (Lit.int .u8 x).wf = true) : Calls Try.prog 8 #[.agg #[.int .i64 k, .int .i64 s, .int .i64 r], .int .i64 d, v] w fun e w' => e = .returned (.bool true) ∧ Below w.heap.size w w' := by
  obtain ⟨a, c, rfl, hm⟩ := hs.shape
  have HS := Lib.hid hs
  have HB : Hid (bytesOk l) := Lib.hid (bytes_of_wf' hby)
  have B0 := Lib.hid (Below.refl w.heap.size w)
  by_cases hbig : (1048576 : Int) < (l.length : Int)
  · clear hs hby
    go_enter Try.func8, Try.ntmps8
    go_wp2
    go_ret
    exact ⟨rfl, (by repeat (first | exact Below.refl _ _ | refine bel_al ?_ _ | refine Below.setCell ?_ (by first | (simp; done) | (simp; omega)) _ | refine Below.drew ?_ | refine bel_drewN ?_ _))⟩
  · have hl : l.length ≤ 1048576 := by omega
    have hl' : (l.length : Int) ≤ 1048576 := by omega
    have C1 := fun v W (h : Sl .u8 W v l) => specRecv k s r d v l W h HB.out
    have C2 := fun v W (h : Sl .u8 W v l) => implRecv k s r d v l W h HB.out
    have hlen := recvI_len k s r d l
    obtain ⟨⟨⟨k1, s1, r1⟩, L, b⟩, hx⟩ : ∃ x, x = recvI k s r d l := ⟨_, rfl⟩
    rw [← hx] at hlen
    simp only [← hx] at C1 C2
    have C1' := Lib.hid C1
    have C2' := Lib.hid C2
    have HL : Hid (L.length ≤ 24) := Lib.hid hlen
    have hbb : (b != b) = false := by simp
    clear C1 C2 hx hlen hbig hs hby
    go_enter Try.func8, Try.ntmps8
    go_wp2_with fail
    refine (toMailbox k s r _).mono ?_
    rintro e w1 ⟨rfl, hb1⟩
    have B1 := Lib.hid (bel_seq (bel_al B0.out _) hb1)
    have p0 : w1.cell? ⟨w.heap.size, 0, none⟩ = some (.int .i64 k) := later0 hb1 (by simp)
    have p1 : w1.cell? ⟨w.heap.size, 1, none⟩ = some (.int .i64 s) := later0 hb1 (by simp)
    have p2 : w1.cell? ⟨w.heap.size, 2, none⟩ = some (.int .i64 r) := later0 hb1 (by simp)
    go_wp2_with fail
    refine (toByteS (.slice a l.length c) l _ (HS.out.below B1.out) hl).mono ?_
    rintro e w2 ⟨N2, g2, rfl, hN2, _, _, ho2, hb2⟩
    replace p0 := later0 hb2 p0
    replace p1 := later0 hb2 p1
    replace p2 := later0 hb2 p2
    have B2 := Lib.hid (bel_seq B1.out hb2)
    have S2 := Lib.hid ho2.sl
    clear ho2
    go_wp2_with fail
    refine (C1'.out _ _ S2.out).mono ?_
    rintro e w3 ⟨ao3, N3, c3, rfl, ho3, hb3⟩
    replace p0 := later0 hb3 p0
    replace p1 := later0 hb3 p1
    replace p2 := later0 hb3 p2
    have B3 := Lib.hid (bel_seq B2.out hb3)
    have O3 := Lib.hid ho3
    clear ho3
    have hz3 : w.heap.size < w3.heap.size := World.block_lt_of_cell? w3 _ p0
    go_wp2_with fail
    refine (toByteS (.slice a l.length c) l _ (HS.out.below (bel_al B3.out _)) hl).mono ?_
    rintro e w4 ⟨N4, g4, rfl, hN4, hg4, _, ho4, hb4⟩
    replace p0 := later1 hb4 p0
    replace p1 := later1 hb4 p1
    replace p2 := later1 hb4 p2
    have B4 := Lib.hid (bel_seq (bel_al B3.out _) hb4)
    have q0 : w4.cell? ⟨w3.heap.size, 0, none⟩ = some (.int .i64 k1) := later0 hb4 (by simp)
    have q1 : w4.cell? ⟨w3.heap.size, 1, none⟩ = some (.int .i64 s1) := later0 hb4 (by simp)
    have q2 : w4.cell? ⟨w3.heap.size, 2, none⟩ = some (.int .i64 r1) := later0 hb4 (by simp)
    have hz4 : w3.heap.size < w4.heap.size := World.block_lt_of_cell? w4 _ q0
    have ho4' := ho4
    rw [World.size_alloc] at ho4' hg4
    have O4 := Lib.hid ho4'
    have HW4 := Lib.hid (show ∀ b, w4.heap.size ≤ b → some b ≠ ownB (some (⟨g4, 0, none⟩ : Addr)) from fun b hb => ho4.notNew hb)
    have HB4 := Lib.hid (show ∀ b, b < w3.heap.size + 1 → some b ≠ ownB (some (⟨g4, 0, none⟩ : Addr)) from fun b hb => ho4'.notOld hb)
    have A34 := Lib.hid (O3.out.apart ho4' (Nat.le_succ _))
    clear ho4 ho4'
    go_wp2_with fail
    refine (toMailbox k s r _).mono ?_
    rintro e w5 ⟨rfl, hb5⟩
    replace p0 := later0 hb5 p0
    replace p1 := later0 hb5 p1
    replace p2 := later0 hb5 p2
    replace q0 := later0 hb5 q0
    replace q1 := later0 hb5 q1
    replace q2 := later0 hb5 q2
    have B5 := Lib.hid (bel_seq B4.out hb5)
    have O4b := Lib.hid (O4.out.below hb5)
    have HZ45 := Lib.hid hb5.size
    go_wp2_with fail
    refine (C2'.out _ _ O4b.out.sl).mono ?_
    rintro e w6 ⟨ao6, N6, c6, rfl, ho6, hb6⟩
    replace p0 := later0 hb6 p0
    replace p1 := later0 hb6 p1
    replace p2 := later0 hb6 p2
    replace q0 := later0 hb6 q0
    replace q1 := later0 hb6 q1
    replace q2 := later0 hb6 q2
    have B6 := Lib.hid (bel_seq B5.out hb6)
    have O4c := Lib.hid (O4b.out.below hb6)
    have O6 := Lib.hid ho6
    have HZ6 := Lib.hid hb6.size
    have O3f := Lib.hid ((((O3.out.alloc (.cells #[.int .i64 k1, .int .i64 s1, .int .i64 r1] 49)).below hb4).below hb5).below hb6)
    have hz6 : w.heap.size < w6.heap.size := World.block_lt_of_cell? w6 _ p0
    have hz6' : w3.heap.size < w6.heap.size := World.block_lt_of_cell? w6 _ q0
    have A36 := Lib.hid (O3.out.apart ho6 (by have := HZ45.out; omega))
    have A64 := Lib.hid (show ownB ao6 = none ∨ ownB ao6 ≠ ownB (some (⟨g4, 0, none⟩ : Addr)) from ho6.apart' O4.out HZ45.out)
    have A46 := Lib.hid (show ownB (some (⟨g4, 0, none⟩ : Addr)) = none ∨ ownB (some (⟨g4, 0, none⟩ : Addr)) ≠ ownB ao6 from O4.out.apart ho6 HZ45.out)
    have HB6 := Lib.hid (show ∀ b, b < w5.heap.size → some b ≠ ownB ao6 from fun b hb => ho6.notOld hb)
    clear ho6 hb1 hb2 hb3 hb4 hb5 hb6
    go_wp2_with fail
    refine (eqMailbox_yes k1 s1 r1 _).mono ?_
    rintro e w7 ⟨rfl, hb7⟩
    replace p0 := later1 hb7 p0
    replace p1 := later1 hb7 p1
    replace p2 := later1 hb7 p2
    replace q0 := later1 hb7 q0
    replace q1 := later1 hb7 q1
    replace q2 := later1 hb7 q2
    have B7 := Lib.hid (bel_seq (bel_al B6.out _) hb7)
    have t0 : w7.cell? ⟨w6.heap.size, 0, none⟩ = some (.int .i64 k1) := later0 hb7 (by simp)
    have t1 : w7.cell? ⟨w6.heap.size, 1, none⟩ = some (.int .i64 s1) := later0 hb7 (by simp)
    have t2 : w7.cell? ⟨w6.heap.size, 2, none⟩ = some (.int .i64 r1) := later0 hb7 (by simp)
    have O37 := Lib.hid ((O3f.out.alloc (.cells #[.int .i64 k1, .int .i64 s1, .int .i64 r1] 49)).below hb7)
    have O67 := Lib.hid ((O6.out.alloc (.cells #[.int .i64 k1, .int .i64 s1, .int .i64 r1] 49)).below hb7)
    have O47 := Lib.hid ((O4c.out.alloc (.cells #[.int .i64 k1, .int .i64 s1, .int .i64 r1] 49)).below hb7)
    go_wp2_with fail
    refine (eqByteS_yes _ _ L _ O67.out.sl O37.out.sl).mono ?_
    rintro e w8 ⟨rfl, hb8⟩
    replace p0 := later0 hb8 p0
    replace p1 := later0 hb8 p1
    replace p2 := later0 hb8 p2
    replace q0 := later0 hb8 q0
    replace q1 := later0 hb8 q1
    replace q2 := later0 hb8 q2
    replace t0 := later0 hb8 t0
    replace t1 := later0 hb8 t1
    replace t2 := later0 hb8 t2
    have B8 := Lib.hid (bel_seq B7.out hb8)
    have O38 := Lib.hid (O37.out.below hb8)
    have O68 := Lib.hid (O67.out.below hb8)
    have O48 := Lib.hid (O47.out.below hb8)
    go_wp2_with fail
    refine (toByteS (.slice a l.length c) l _ (HS.out.below B8.out) hl).mono ?_
    rintro e w9 ⟨N9, g9, rfl, hN9, _, _, ho9, hb9⟩
    replace p0 := later0 hb9 p0
    replace p1 := later0 hb9 p1
    replace p2 := later0 hb9 p2
    replace q0 := later0 hb9 q0
    replace q1 := later0 hb9 q1
    replace q2 := later0 hb9 q2
    replace t0 := later0 hb9 t0
    replace t1 := later0 hb9 t1
    replace t2 := later0 hb9 t2
    have B9 := Lib.hid (bel_seq B8.out hb9)
    have S9 := Lib.hid ho9.sl
    have O39 := Lib.hid (O38.out.below hb9)
    have O69 := Lib.hid (O68.out.below hb9)
    have O49 := Lib.hid (O48.out.below hb9)
    clear ho9
    go_wp2_with fail
    refine (eqByteS_yes _ _ l _ O49.out.sl S9.out).mono ?_
    rintro e w10 ⟨rfl, hb10⟩
    replace p0 := later0 hb10 p0
    replace p1 := later0 hb10 p1
    replace p2 := later0 hb10 p2
    replace q0 := later0 hb10 q0
    replace q1 := later0 hb10 q1
    replace q2 := later0 hb10 q2
    replace t0 := later0 hb10 t0
    replace t1 := later0 hb10 t1
    replace t2 := later0 hb10 t2
    have B10 := Lib.hid (bel_seq B9.out hb10)
    have O3a := Lib.hid (O39.out.below hb10)
    have O6a := Lib.hid (O69.out.below hb10)
    have O4a := Lib.hid (O49.out.below hb10)
    clear hb7 hb8 hb9 hb10 O37 O67 O47 O38 O68 O48 O39 O69 O49 O3f O4b O4c S9
    have hk4 : ¬ (1 + (N4 : Int) < 0) := by omega
    go_wp2_with fail
    refine (markByteS _ N4 N4 _ l 1 _ O4a.out hN4 (by omega) (by omega)).mono ?_
    rintro e wb ⟨rfl, _, hgb⟩
    have hb11 := O4a.out.belowG hgb (B := w.heap.size) (by omega) (by have := B10.out.size; omega)
    have Bb := Lib.hid (B10.out.trans hb11)
    replace p0 := laterG hgb p0 (HB4.out _ (by dsimp only; omega))
    replace p1 := laterG hgb p1 (HB4.out _ (by dsimp only; omega))
    replace p2 := laterG hgb p2 (HB4.out _ (by dsimp only; omega))
    replace q0 := laterG hgb q0 (HB4.out _ (by dsimp only; omega))
    replace q1 := laterG hgb q1 (HB4.out _ (by dsimp only; omega))
    replace q2 := laterG hgb q2 (HB4.out _ (by dsimp only; omega))
    replace t0 := laterG hgb t0 (HW4.out _ (by dsimp only; have := HZ45.out; have := HZ6.out; omega))
    replace t1 := laterG hgb t1 (HW4.out _ (by dsimp only; have := HZ45.out; have := HZ6.out; omega))
    replace t2 := laterG hgb t2 (HW4.out _ (by dsimp only; have := HZ45.out; have := HZ6.out; omega))
    have O3b := Lib.hid (O3a.out.grown hgb A34.out)
    have O6b := Lib.hid (O6a.out.grown hgb A64.out)
    clear hgb hb11
    go_wp2_with fail
    refine (eqMailbox_yes k1 s1 r1 _).mono ?_
    rintro e w12 ⟨rfl, hb12⟩
    replace p0 := later0 hb12 p0
    replace p1 := later0 hb12 p1
    replace p2 := later0 hb12 p2
    replace q0 := later0 hb12 q0
    replace q1 := later0 hb12 q1
    replace q2 := later0 hb12 q2
    have B12 := Lib.hid (bel_seq Bb.out hb12)
    have O3c := Lib.hid (O3b.out.below hb12)
    have O6c := Lib.hid (O6b.out.below hb12)
    go_wp2_with fail
    refine (eqByteS_yes _ _ L _ O6c.out.sl O3c.out.sl).mono ?_
    rintro e w13 ⟨rfl, hb13⟩
    replace p0 := later0 hb13 p0
    replace p1 := later0 hb13 p1
    replace p2 := later0 hb13 p2
    replace q0 := later0 hb13 q0
    replace q1 := later0 hb13 q1
    replace q2 := later0 hb13 q2
    have B13 := Lib.hid (bel_seq B12.out hb13)
    have O3d := Lib.hid (O3c.out.below hb13)
    have O6d := Lib.hid (O6c.out.below hb13)
    have hN6 : N6 ≤ 1048576 := by have := O6.out.len; have := HL.out; omega
    have hk6 : ¬ (1 + (N6 : Int) < 0) := by omega
    have hm6 : ((1 + (N6 : Int)) != (1 + (N6 : Int))) = false := by simp
    clear hb12 hb13
    go_wp2_with fail
    refine (markByteS _ N6 c6 _ L 1 _ O6d.out hN6 (by omega) (by omega)).mono ?_
    rintro e we ⟨rfl, hoe, hge⟩
    have hb14 := O6d.out.belowG hge (B := w.heap.size) (by have := HZ45.out; omega) (by have := B13.out.size; omega)
    have Be := Lib.hid (B13.out.trans hb14)
    have OE := Lib.hid hoe
    replace p0 := laterG hge p0 (HB6.out _ (by dsimp only; have := HZ45.out; omega))
    replace p1 := laterG hge p1 (HB6.out _ (by dsimp only; have := HZ45.out; omega))
    replace p2 := laterG hge p2 (HB6.out _ (by dsimp only; have := HZ45.out; omega))
    replace q0 := laterG hge q0 (HB6.out _ (by dsimp only; have := HZ45.out; omega))
    replace q1 := laterG hge q1 (HB6.out _ (by dsimp only; have := HZ45.out; omega))
    replace q2 := laterG hge q2 (HB6.out _ (by dsimp only; have := HZ45.out; omega))
    have O3e := Lib.hid (O3d.out.grown hge A36.out)
    clear hoe hge hb14
    go_wp2_with fail
    refine (heldByteS _ N6 1 _ OE.out.sl hN6 (by omega) (by omega)).mono ?_
    rintro e wz ⟨rfl, rfl⟩
    go_wp2_with fail
    refine (toMailbox k s r _).mono ?_
    rintro e w15 ⟨rfl, hb15⟩
    replace p0 := later0 hb15 p0
    replace p1 := later0 hb15 p1
    replace p2 := later0 hb15 p2
    replace q0 := later0 hb15 q0
    replace q1 := later0 hb15 q1
    replace q2 := later0 hb15 q2
    have B15 := Lib.hid (bel_seq Be.out hb15)
    go_wp2_with fail
    refine (toByteS (.slice a l.length c) l _ (HS.out.below B15.out) hl).mono ?_
    rintro e w16 ⟨Ng, gg, rfl, hNg, _, _, hog, hb16⟩
    replace p0 := later0 hb16 p0
    replace p1 := later0 hb16 p1
    replace p2 := later0 hb16 p2
    replace q0 := later0 hb16 q0
    replace q1 := later0 hb16 q1
    replace q2 := later0 hb16 q2
    have B16 := Lib.hid (bel_seq B15.out hb16)
    have S16 := Lib.hid hog.sl
    clear hog
    go_wp2_with fail
    refine (C2'.out _ _ S16.out).mono ?_
    rintro e w17 ⟨ao17, N17, c17, rfl, ho17, hb17⟩
    replace p0 := later0 hb17 p0
    replace p1 := later0 hb17 p1
    replace p2 := later0 hb17 p2
    replace q0 := later0 hb17 q0
    replace q1 := later0 hb17 q1
    replace q2 := later0 hb17 q2
    have B17 := Lib.hid (bel_seq B16.out hb17)
    have O17 := Lib.hid ho17
    have OE17 := Lib.hid (((OE.out.below hb15).below hb16).below hb17)
    have O3g := Lib.hid (((O3e.out.below hb15).below hb16).below hb17)
    have hz17 : w.heap.size < w17.heap.size := World.block_lt_of_cell? w17 _ p0
    have hz17' : w3.heap.size < w17.heap.size := World.block_lt_of_cell? w17 _ q0
    clear ho17 hb15 hb16 hb17
    go_wp2_with fail
    refine (eqMailbox_yes k1 s1 r1 _).mono ?_
    rintro e w18 ⟨rfl, hb18⟩
    replace p0 := later1 hb18 p0
    replace p1 := later1 hb18 p1
    replace p2 := later1 hb18 p2
    replace q0 := later1 hb18 q0
    replace q1 := later1 hb18 q1
    replace q2 := later1 hb18 q2
    have B18 := Lib.hid (bel_seq (bel_al B17.out _) hb18)
    have OE18 := Lib.hid ((OE17.out.alloc (.cells #[.int .i64 k1, .int .i64 s1, .int .i64 r1] 49)).below hb18)
    have O3h := Lib.hid ((O3g.out.alloc (.cells #[.int .i64 k1, .int .i64 s1, .int .i64 r1] 49)).below hb18)
    have O18 := Lib.hid ((O17.out.alloc (.cells #[.int .i64 k1, .int .i64 s1, .int .i64 r1] 49)).below hb18)
    go_wp2_with fail
    refine (eqByteS_yes _ _ L _ O18.out.sl O3h.out.sl).mono ?_
    rintro e w19 ⟨rfl, hb19⟩
    replace p0 := later0 hb19 p0
    replace p1 := later0 hb19 p1
    replace p2 := later0 hb19 p2
    replace q0 := later0 hb19 q0
    replace q1 := later0 hb19 q1
    replace q2 := later0 hb19 q2
    have B19 := Lib.hid (bel_seq B18.out hb19)
    have OE19 := Lib.hid (OE18.out.below hb19)
    clear hb18 hb19
    go_wp2_with fail
    refine (heldByteS _ N6 1 _ OE19.out.sl hN6 (by omega) (by omega)).mono ?_
    rintro e wz ⟨rfl, rfl⟩
    go_wp2
    go_ret
    exact ⟨rfl, B19.out⟩
/-! ### THE ROW's STEP: the guide's own way -/
theorem own : ownKnob Try.prog.godebug = none := by kernel_rfl
theorem laidOut : laidOutB Try.prog = true := by kernel_rfl
set_option maxRecDepth 100000 in
theorem lifted (os : Os) (started : os.Started) (H : Type) (enc : TypeId × Value → H) :
    ReturnsInHanded {} Try.checked os 8 .any (Rows.fnExactReceiveFromMailboxSpec.pre6 enc Try.prog Try.f8 Rows.fnExactReceiveFromMailboxRow.domain false) (Rows.fnExactReceiveFromMailboxSpec.post enc Try.prog Try.f8 false true false false) := by
  refine returnsInHanded_of_change (C := Try.checked) own started (by kernel_rfl) Try.func8
    (ChangeSpec.witness6 (enc := enc) (C := Try.checked) false ⟨#[], #[.agg #[.int .i64 0, .int .i64 0, .int .i64 0], .int .i64 0, .slice none 0 0], []⟩ 8 (by kernel_rfl) (by kernel_rfl) (by kernel_rfl) (by kernel_rfl)) ?_
  intro W base args ds gs before hval0 hW hcnd _
  have hval : ∀ (j : Nat) t v, Try.f8.params[j]? = some t → args[j]? = some v → Value.okWide Try.prog W .any base t v := hval0
  have hW' := hW
  obtain ⟨p, q, hA0, hV, rfl, hfz, hnd⟩ := hW
  have hA : DataW.TrodAll enc Try.prog W 0 (fun _ => true) true Try.f8.params.toList args.toList ds p := hA0
  rw [Try.params8] at hA hval
  obtain ⟨v0, vs0, d0, ds0, p0, q0, hargs, rfl, rfl, h0, r0⟩ := trodAll_cons hA
  obtain ⟨v1, vs1, d1, ds1, p1, q1, rfl, rfl, rfl, h1, r1⟩ := trodAll_cons r0
  obtain ⟨v2, vs2, d2, ds2, p2, q2, rfl, rfl, rfl, h2, r2⟩ := trodAll_cons r1
  obtain ⟨rfl, rfl, rfl⟩ := trodAll_nil r2
  obtain rfl : args = #[v0, v1, v2] := by cases args; simp_all
  obtain ⟨rfl, rfl⟩ := trodVars_none hV
  have k0 := h0
  have lt0 : ∀ x ∈ p0, x.block < W.heap.size := by obtain ⟨m, hm⟩ := k0; exact DataW.trod_lt m _ _ _ hm
  obtain ⟨c0_0, c0_1, c0_2, y0_0, y0_1, y0_2, fuel0, rfl, e0, pe0, g0_0, g0_1, g0_2⟩ := open_agg3 Try.underlying48 (by kernel_rfl) (by kernel_rfl) (hval 0 48 v0 rfl rfl) h0
  obtain ⟨a0_0, rfl, w0_0⟩ := intOfRead Try.underlying3 g0_0
  obtain ⟨a0_1, rfl, w0_1⟩ := intOfRead Try.underlying3 g0_1
  obtain ⟨a0_2, rfl, w0_2⟩ := intOfRead Try.underlying3 g0_2
  have k1 := h1
  have lt1 : ∀ x ∈ p1, x.block < W.heap.size := by obtain ⟨m, hm⟩ := k1; exact DataW.trod_lt m _ _ _ hm
  obtain ⟨fuel1, g1⟩ := h1
  obtain ⟨a1, rfl, w1⟩ : ∃ n, v1 = .int .i64 n ∧ (Lit.int .i64 n).wf = true := by
    obtain ⟨n, rfl⟩ := okWide_int Try.underlying3 (hval 1 3 v1 rfl rfl)
    exact ⟨n, rfl, by obtain ⟨m, e, w⟩ := intOfRead Try.underlying3 (by simpa [Value.cells] using g1); cases e; exact w⟩
  have k2 := h2
  have lt2 : ∀ x ∈ p2, x.block < W.heap.size := by obtain ⟨m, hm⟩ := k2; exact DataW.trod_lt m _ _ _ hm
  obtain ⟨fuel2, g2⟩ := h2
  obtain ⟨b2, len2, cap2, rfl⟩ := okWide_slice Try.underlying37 (hval 2 37 v2 rfl rfl)
  obtain ⟨z2, s2, wf2⟩ := slOfRead Try.underlying37 Try.underlying5 (by kernel_rfl) (by simpa [Value.cells] using g2) lt2
  clear hA0 hval0
  refine (walk a0_0 a0_1 a0_2 a1 _ z2 W s2 wf2).mono fun e W' ⟨he, bel⟩ => ?_
  subst he
  exact ⟨_, rfl, _, _, _, [], _, [], hW', trodAll_mk1 (shut_bool Try.underlying4 _), (trodAll_cons_mk (Below.trod laidOut (by kernel_rfl) (of_decide_eq_true (by kernel_rfl)) k0 bel lt0) (trodAll_cons_mk (Below.trod laidOut (by kernel_rfl) (of_decide_eq_true (by kernel_rfl)) k1 bel lt1) (trodAll_cons_mk (Below.trod laidOut (by kernel_rfl) (of_decide_eq_true (by kernel_rfl)) k2 bel lt2) trodAll_mk0))), rfl, bel.frame _, fun h => by cases h⟩

theorem over : Rows.fnExactReceiveFromMailboxRow.holds Try.pinned (OpenSpec.ofChange Rows.fnExactReceiveFromMailboxSpec) :=
  OpenClaim.holds_of_wide 8 Try.f8 rfl rfl rfl rfl rfl rfl rfl ⟨rfl, rfl, rfl, rfl, rfl⟩ rfl rfl rfl rfl rfl (by kernel_rfl) Try.func8 (by kernel_rfl)
    (of_decide_eq_true (by kernel_rfl)) (by unfold Func.isWrapper; first | (rw [if_pos (by decide +kernel)]; kernel_rfl) | (rw [if_neg (by decide +kernel)]; exact ⟨rfl, rfl⟩))
    (fun os started H enc _ => lifted os started H enc)

/-- the statement -/
theorem proved : Rows.FnExactReceiveFromMailboxSaid := over
end Go.Proofs.Ytelcpihbdgikfaa.fnExactReceiveFromMailbox
