/- For all arguments the program's OpenStep returns what the reference's returns, leaves its arguments alone and returns memory of its own; no condition. -/
import Derived.Test.YtelcpihbdgikfaaRows
import Derived.Test.YtelcpihbdgikfaaStepLaw
import Derived.Test.YtelcpihbdgikfaaOpenLaw
import Derived.Test.YtelcpihbdgikfaaOpenK
import Derived.Test.YtelcpihbdgikfaaOpen
namespace Go.Proofs.Ytelcpihbdgikfaa.fnExactOpenStep
open Go.ChangeShapes Go.WideShapes Go.ChangeAt Go.RowKit Go.Joins
set_option linter.unusedVariables false
set_option maxRecDepth 100000 in
set_option maxHeartbeats 1000000 in
theorem walk (x s : Int) (v : Value) (n : Nat) (l : List Int) (step : Int) (u : Value) (m : List Int) (w : World) (hs : Sk w v n l) (hu : Sl .u8 w u m) (hby : ∀ x ∈ m, (Lit.int .u8 x).wf = true) : Calls Try.prog 6 #[.agg #[.int .i64 x, .int .i64 s, v], .int .i64 step, u] w fun e w' => e = .returned (.bool true) ∧ Below w.heap.size w w' := by
  obtain ⟨a, c, rfl, hm⟩ := hs.shape
  obtain ⟨a', c', rfl, hm'⟩ := hu.shape
  have HS := Lib.hid hs
  have HU := Lib.hid hu
  have HBY : Hid (bytesOk m) := Lib.hid (bytes_of_wf' hby)
  have B0 := Lib.hid (Below.refl w.heap.size w)
  have CS := szRatchet x s _ n l 1048576 _ (hs.alloc (.cells #[.int .i64 x, .int .i64 s, .slice a n c] 24)) (by omega) (by omega)
  clear hby
  by_cases hbig : (1048576 : Int) < (m.length : Int)
  · clear CS hs hu
    go_enter Try.func6, Try.ntmps6
    go_wp2
    go_ret
    exact ⟨rfl, (by repeat (first | exact Below.refl _ _ | refine bel_al ?_ _ | refine Below.setCell ?_ (by first | (simp; done) | (simp; omega)) _ | refine Below.drew ?_ | refine bel_drewN ?_ _))⟩
  have hl2 : m.length ≤ 1048576 := by omega
  have hl2' : (m.length : Int) ≤ 1048576 := by omega
  clear hbig
  by_cases hlt : (1048576 : Int) < (n : Int)
  · rw [if_pos hlt] at CS
    have CS' := Lib.hid CS
    clear CS hlt hs hm hu
    go_enter Try.func6, Try.ntmps6
    go_wp2_with fail
    refine CS'.out.mono ?_
    rintro e w1 ⟨rfl, hb1⟩
    go_wp2
    go_ret
    exact ⟨rfl, (by repeat (first | exact Below.refl _ _ | refine bel_al ?_ _ | refine Below.setCell ?_ (by first | (simp; done) | (simp; omega)) _ | refine Below.drew ?_ | refine bel_drewN ?_ _ | refine bel_seq ?_ (hb1)))⟩
  · rw [if_neg hlt] at CS
    have CS' := Lib.hid CS
    have hl : n ≤ 1048576 := by omega
    have hlt' : (n : Int) ≤ 1048576 := by omega
    have C1 : ∀ v u W, Sk W v n l → Sl .u8 W u m → Calls Try.prog 30 #[.agg #[.int .i64 x, .int .i64 s, v], .int .i64 step, u] W (OpenSPost (openStepI x s n l step m) W) := fun v u W h h2 => specOpenStep x s v n l step u m W h hl h2 HBY.out
    have C2 : ∀ v u W, Sk W v n l → Sl .u8 W u m → Calls Try.prog 31 #[.agg #[.int .i64 x, .int .i64 s, v], .int .i64 step, u] W (OpenSPost (openStepI x s n l step m) W) := fun v u W h h2 => implOpenStep x s v n l step u m W h hl h2 HBY.out
    have hlen2 := openStepI_len x s n l step m hs.1
    obtain ⟨⟨⟨x1, s1⟩, l1, L, b⟩, hx⟩ : ∃ y, y = openStepI x s n l step m := ⟨_, rfl⟩
    rw [← hx] at hlen2
    simp only [← hx] at C1 C2
    dsimp only at hlen2
    obtain ⟨hlen1, hlen⟩ := hlen2
    obtain ⟨n1, hn1'⟩ : ∃ n1, n1 = l1.length / 2 := ⟨_, rfl⟩
    have hn1 : n1 ≤ 1048576 := by omega
    have C1 : ∀ v u W, Sk W v n l → Sl .u8 W u m → Calls Try.prog 30 #[.agg #[.int .i64 x, .int .i64 s, v], .int .i64 step, u] W (OpenS2 x1 s1 l1 L b n1 W) := fun v u W h h2 => (C1 v u W h h2).mono fun e w' hk => openS2 hn1' hk
    have C2 : ∀ v u W, Sk W v n l → Sl .u8 W u m → Calls Try.prog 31 #[.agg #[.int .i64 x, .int .i64 s, v], .int .i64 step, u] W (OpenS2 x1 s1 l1 L b n1 W) := fun v u W h h2 => (C2 v u W h h2).mono fun e w' hk => openS2 hn1' hk
    clear hn1' hlen1 hx
    have C1' := Lib.hid C1
    have C2' := Lib.hid C2
    have HL : Hid (L.length ≤ 1048576) := Lib.hid hlen
    have hbb : (b != b) = false := by simp
    clear C1 C2 CS hlt hs hm hu hm' hlen
    go_enter Try.func6, Try.ntmps6
    go_wp2_with fail
    refine (CS'.out).mono ?_
    rintro e w1 ⟨rfl, hb1⟩
    have B1 := Lib.hid (bel_seq (bel_al B0.out _) hb1)
    have hs1 : w.heap.size + 1 ≤ w1.heap.size := by have := hb1.size; simp only [World.size_alloc] at this; omega
    have p0 : w1.cell? ⟨w.heap.size, 0, none⟩ = some (.int .i64 x) := later0 hb1 (by simp)
    have p1 : w1.cell? ⟨w.heap.size, 1, none⟩ = some (.int .i64 s) := later0 hb1 (by simp)
    have p2 : w1.cell? ⟨w.heap.size, 2, none⟩ = some (.slice a n c) := later0 hb1 (by simp)
    clear hb1
    go_wp2_with fail
    refine (toRatchet x s (.slice a n c) n l _ (HS.out.below B1.out) hl).mono ?_
    rintro e w2 ⟨ga, rfl, _, _, ho, hb2⟩
    replace p0 := later0 hb2 p0
    replace p1 := later0 hb2 p1
    replace p2 := later0 hb2 p2
    have B2 := Lib.hid (bel_seq B1.out hb2)
    have hs2 := hb2.size
    have RA2 := Lib.hid ho
    have IA : Hid (RowIn (w1.heap.size) w2.heap.size (some ⟨ga, 0, none⟩)) := Lib.hid (by have := ho.rowIn; exact this)
    clear ho
    clear hb2
    go_wp2_with fail
    refine (toByteS (.slice a' m.length c') m _ (HU.out.below B2.out) hl2).mono ?_
    rintro e w3 ⟨Nb, gb, rfl, hNb, _, _, ho, hb3⟩
    replace p0 := later0 hb3 p0
    replace p1 := later0 hb3 p1
    replace p2 := later0 hb3 p2
    have B3 := Lib.hid (bel_seq B2.out hb3)
    have hs3 := hb3.size
    have RA3 := Lib.hid (RA2.out.below hb3)
    clear RA2
    have RB3 := Lib.hid ho
    have IB : Hid (RowIn (w2.heap.size) w3.heap.size (some ⟨gb, 0, none⟩)) := Lib.hid (by have := ho.rowIn; exact this)
    clear ho
    clear hb3
    go_wp2_with fail
    refine (C1'.out _ _ _ RA3.out.sl RB3.out.sl).mono ?_
    rintro e w4 ⟨ao3, c3, bo3, M3, d3, rfl, ho, hp, _, hb4⟩
    replace p0 := later0 hb4 p0
    replace p1 := later0 hb4 p1
    replace p2 := later0 hb4 p2
    have B4 := Lib.hid (bel_seq B3.out hb4)
    have hs4 := hb4.size
    have RA4 := Lib.hid (RA3.out.below hb4)
    clear RA3
    have RB4 := Lib.hid (RB3.out.below hb4)
    clear RB3
    have RW4 := Lib.hid ho
    have IW : Hid (RowIn (w3.heap.size) w4.heap.size (ao3)) := Lib.hid (by have := ho.rowIn; exact this)
    clear ho
    have RV4 := Lib.hid hp
    have IV : Hid (RowIn (w3.heap.size) w4.heap.size (bo3)) := Lib.hid (by have := hp.rowIn; exact this)
    clear hp
    clear hb4
    clear RA4 IA
    clear RB4 IB
    have hz4_p0 : w.heap.size < w4.heap.size := World.block_lt_of_cell? w4 _ p0
    go_wp2_with fail
    refine (toRatchet x s (.slice a n c) n l _ (HS.out.below (bel_al B4.out _)) hl).mono ?_
    rintro e w5 ⟨g4, rfl, _, _, ho, hb5⟩
    replace p0 := later1 hb5 p0
    replace p1 := later1 hb5 p1
    replace p2 := later1 hb5 p2
    have B5 := Lib.hid (bel_seq (bel_al B4.out _) hb5)
    have hs5 : w4.heap.size + 1 ≤ w5.heap.size := by have := hb5.size; simp only [World.size_alloc] at this; omega
    have q0 : w5.cell? ⟨w4.heap.size, 0, none⟩ = some (.int .i64 x1) := later0 hb5 (by simp)
    have q1 : w5.cell? ⟨w4.heap.size, 1, none⟩ = some (.int .i64 s1) := later0 hb5 (by simp)
    have q2 : w5.cell? ⟨w4.heap.size, 2, none⟩ = some (.slice ao3 n1 c3) := later0 hb5 (by simp)
    have RW5 := Lib.hid ((RW4.out.alloc _).below hb5)
    clear RW4
    have RV5 := Lib.hid ((RV4.out.alloc _).below hb5)
    clear RV4
    have RX5 := Lib.hid ho
    have IX : Hid (RowIn (w4.heap.size + 1) w5.heap.size (some ⟨g4, 0, none⟩)) := Lib.hid (by have := ho.rowIn; simp only [World.size_alloc] at this; exact this)
    clear ho
    clear hb5
    have hz5_p0 : w.heap.size < w5.heap.size := World.block_lt_of_cell? w5 _ p0
    have hz5_q0 : w4.heap.size < w5.heap.size := World.block_lt_of_cell? w5 _ q0
    go_wp2_with fail
    refine (toByteS (.slice a' m.length c') m _ (HU.out.below (bel_al B5.out _)) hl2).mono ?_
    rintro e w6 ⟨N5, g5, rfl, hN5, _, _, ho, hb6⟩
    replace p0 := later1 hb6 p0
    replace p1 := later1 hb6 p1
    replace p2 := later1 hb6 p2
    replace q0 := later1 hb6 q0
    replace q1 := later1 hb6 q1
    replace q2 := later1 hb6 q2
    have B6 := Lib.hid (bel_seq (bel_al B5.out _) hb6)
    have hs6 : w5.heap.size + 1 ≤ w6.heap.size := by have := hb6.size; simp only [World.size_alloc] at this; omega
    have e0 : w6.cell? ⟨w5.heap.size, 0, none⟩ = some (.int .i64 x) := later0 hb6 (by simp)
    have e1 : w6.cell? ⟨w5.heap.size, 1, none⟩ = some (.int .i64 s) := later0 hb6 (by simp)
    have e2 : w6.cell? ⟨w5.heap.size, 2, none⟩ = some (.slice (some ⟨g4, 0, none⟩) n n) := later0 hb6 (by simp)
    have RW6 := Lib.hid ((RW5.out.alloc _).below hb6)
    clear RW5
    have RV6 := Lib.hid ((RV5.out.alloc _).below hb6)
    clear RV5
    have RX6 := Lib.hid ((RX5.out.alloc _).below hb6)
    clear RX5
    have RY6 := Lib.hid ho
    have IY : Hid (RowIn (w5.heap.size + 1) w6.heap.size (some ⟨g5, 0, none⟩)) := Lib.hid (by have := ho.rowIn; simp only [World.size_alloc] at this; exact this)
    clear ho
    clear hb6
    go_wp2_with fail
    refine (C2'.out _ _ _ RX6.out.sl RY6.out.sl).mono ?_
    rintro e w7 ⟨ao6, c6, bo6, M6, d6, rfl, ho, hp, ha6, hb7⟩
    replace p0 := later0 hb7 p0
    replace p1 := later0 hb7 p1
    replace p2 := later0 hb7 p2
    replace q0 := later0 hb7 q0
    replace q1 := later0 hb7 q1
    replace q2 := later0 hb7 q2
    replace e0 := later0 hb7 e0
    replace e1 := later0 hb7 e1
    replace e2 := later0 hb7 e2
    have B7 := Lib.hid (bel_seq B6.out hb7)
    have hs7 := hb7.size
    have RW7 := Lib.hid (RW6.out.below hb7)
    clear RW6
    have RV7 := Lib.hid (RV6.out.below hb7)
    clear RV6
    have RX7 := Lib.hid (RX6.out.below hb7)
    clear RX6
    have RY7 := Lib.hid (RY6.out.below hb7)
    clear RY6
    have RG7 := Lib.hid ho
    have IG : Hid (RowIn (w6.heap.size) w7.heap.size (ao6)) := Lib.hid (by have := ho.rowIn; exact this)
    clear ho
    have RH7 := Lib.hid hp
    have IH : Hid (RowIn (w6.heap.size) w7.heap.size (bo6)) := Lib.hid (by have := hp.rowIn; exact this)
    clear hp
    clear hb7
    have HA6 := Lib.hid ha6
    clear ha6
    have hM6 : M6 ≤ 1048576 := by have h1 : M6 = L.length := RH7.out.len; have := HL.out; omega
    have hz7_p0 : w.heap.size < w7.heap.size := World.block_lt_of_cell? w7 _ p0
    have hz7_q0 : w4.heap.size < w7.heap.size := World.block_lt_of_cell? w7 _ q0
    have hz7_e0 : w5.heap.size < w7.heap.size := World.block_lt_of_cell? w7 _ e0
    go_wp2_with fail
    refine (eqRatchet_yes x1 s1 _ _ n1 l1 _ (RG7.out.alloc _).sl (RW7.out.alloc _).sl).mono ?_
    rintro e w8 ⟨rfl, hb8⟩
    replace p0 := later1 hb8 p0
    replace p1 := later1 hb8 p1
    replace p2 := later1 hb8 p2
    replace q0 := later1 hb8 q0
    replace q1 := later1 hb8 q1
    replace q2 := later1 hb8 q2
    replace e0 := later1 hb8 e0
    replace e1 := later1 hb8 e1
    replace e2 := later1 hb8 e2
    have B8 := Lib.hid (bel_seq (bel_al B7.out _) hb8)
    have hs8 : w7.heap.size + 1 ≤ w8.heap.size := by have := hb8.size; simp only [World.size_alloc] at this; omega
    have t0 : w8.cell? ⟨w7.heap.size, 0, none⟩ = some (.int .i64 x1) := later0 hb8 (by simp)
    have t1 : w8.cell? ⟨w7.heap.size, 1, none⟩ = some (.int .i64 s1) := later0 hb8 (by simp)
    have t2 : w8.cell? ⟨w7.heap.size, 2, none⟩ = some (.slice ao6 n1 c6) := later0 hb8 (by simp)
    have RW8 := Lib.hid ((RW7.out.alloc _).below hb8)
    clear RW7
    have RV8 := Lib.hid ((RV7.out.alloc _).below hb8)
    clear RV7
    have RX8 := Lib.hid ((RX7.out.alloc _).below hb8)
    clear RX7
    have RY8 := Lib.hid ((RY7.out.alloc _).below hb8)
    clear RY7
    have RG8 := Lib.hid ((RG7.out.alloc _).below hb8)
    clear RG7
    have RH8 := Lib.hid ((RH7.out.alloc _).below hb8)
    clear RH7
    clear hb8
    go_wp2_with fail
    refine (eqByteS_yes _ _ L _ RH8.out.sl RV8.out.sl).mono ?_
    rintro e w9 ⟨rfl, hb9⟩
    replace p0 := later0 hb9 p0
    replace p1 := later0 hb9 p1
    replace p2 := later0 hb9 p2
    replace q0 := later0 hb9 q0
    replace q1 := later0 hb9 q1
    replace q2 := later0 hb9 q2
    replace e0 := later0 hb9 e0
    replace e1 := later0 hb9 e1
    replace e2 := later0 hb9 e2
    replace t0 := later0 hb9 t0
    replace t1 := later0 hb9 t1
    replace t2 := later0 hb9 t2
    have B9 := Lib.hid (bel_seq B8.out hb9)
    have hs9 := hb9.size
    have RW9 := Lib.hid (RW8.out.below hb9)
    clear RW8
    have RV9 := Lib.hid (RV8.out.below hb9)
    clear RV8
    have RX9 := Lib.hid (RX8.out.below hb9)
    clear RX8
    have RY9 := Lib.hid (RY8.out.below hb9)
    clear RY8
    have RG9 := Lib.hid (RG8.out.below hb9)
    clear RG8
    have RH9 := Lib.hid (RH8.out.below hb9)
    clear RH8
    clear hb9
    go_wp2_with fail
    go_region_held3 (fun W' => W'.cell? ⟨w5.heap.size, 0, none⟩ = some (.int .i64 x) ∧ W'.cell? ⟨w5.heap.size, 1, none⟩ = some (.int .i64 s) ∧ W'.cell? ⟨w5.heap.size, 2, none⟩ = some (.slice (some ⟨g4, 0, none⟩) n n) ∧ W'.cell? ⟨w.heap.size, 0, none⟩ = some (.int .i64 x) ∧ W'.cell? ⟨w.heap.size, 1, none⟩ = some (.int .i64 s) ∧ W'.cell? ⟨w.heap.size, 2, none⟩ = some (.slice a n c) ∧ Below w9.heap.size w9 W') (first | assumption | exact keep6 (bel_seq (bel6 ‹_›) hbx) e0 e1 e2 p0 p1 p2 | exact keep6 (bel_seq (bel6 ‹_›) hby) e0 e1 e2 p0 p1 p2 | exact keep6 ((Below.refl _ _).drew) e0 e1 e2 p0 p1 p2) (first | (go_at_call 17; (refine (toRatchet x s (.slice a n c) n l _ (HS.out.below (bel_seq B9.out (bel6 ‹_›))) hl).mono ?_); rintro e wx ⟨gx, rfl, _, _, hox, hbx⟩) | (go_at_call 19; (refine (eqRatchet_yes x s (.slice (some ⟨g4, 0, none⟩) n n) (.slice (some ⟨gx, 0, none⟩) n n) n l _ (RX9.out.sl.below (bel6 ‹_›)) hox.sl).mono ?_); rintro e wy ⟨rfl, hby⟩))
    have hb10 : Below w9.heap.size w9 wy := bel6 ‹_›
    clear hbx hby hox
    replace p0 := later0 hb10 p0
    replace p1 := later0 hb10 p1
    replace p2 := later0 hb10 p2
    replace q0 := later0 hb10 q0
    replace q1 := later0 hb10 q1
    replace q2 := later0 hb10 q2
    replace e0 := later0 hb10 e0
    replace e1 := later0 hb10 e1
    replace e2 := later0 hb10 e2
    replace t0 := later0 hb10 t0
    replace t1 := later0 hb10 t1
    replace t2 := later0 hb10 t2
    have B10 := Lib.hid (bel_seq B9.out hb10)
    have hs10 := hb10.size
    have RW10 := Lib.hid (RW9.out.below hb10)
    clear RW9
    have RV10 := Lib.hid (RV9.out.below hb10)
    clear RV9
    have RX10 := Lib.hid (RX9.out.below hb10)
    clear RX9
    have RY10 := Lib.hid (RY9.out.below hb10)
    clear RY9
    have RG10 := Lib.hid (RG9.out.below hb10)
    clear RG9
    have RH10 := Lib.hid (RH9.out.below hb10)
    clear RH9
    clear hb10
    go_wp2_with fail
    refine (toByteS (.slice a' m.length c') m _ (HU.out.below B10.out) hl2).mono ?_
    rintro e w11 ⟨Nc, gc, rfl, hNc, _, _, ho, hb11⟩
    replace p0 := later0 hb11 p0
    replace p1 := later0 hb11 p1
    replace p2 := later0 hb11 p2
    replace q0 := later0 hb11 q0
    replace q1 := later0 hb11 q1
    replace q2 := later0 hb11 q2
    replace e0 := later0 hb11 e0
    replace e1 := later0 hb11 e1
    replace e2 := later0 hb11 e2
    replace t0 := later0 hb11 t0
    replace t1 := later0 hb11 t1
    replace t2 := later0 hb11 t2
    have B11 := Lib.hid (bel_seq B10.out hb11)
    have hs11 := hb11.size
    have RW11 := Lib.hid (RW10.out.below hb11)
    clear RW10
    have RV11 := Lib.hid (RV10.out.below hb11)
    clear RV10
    have RX11 := Lib.hid (RX10.out.below hb11)
    clear RX10
    have RY11 := Lib.hid (RY10.out.below hb11)
    clear RY10
    have RG11 := Lib.hid (RG10.out.below hb11)
    clear RG10
    have RH11 := Lib.hid (RH10.out.below hb11)
    clear RH10
    have RZ11 := Lib.hid ho
    have IZ : Hid (RowIn (wy.heap.size) w11.heap.size (some ⟨gc, 0, none⟩)) := Lib.hid (by have := ho.rowIn; exact this)
    clear ho
    clear hb11
    go_wp2_with fail
    refine (eqByteS_yes _ _ m _ RY11.out.sl RZ11.out.sl).mono ?_
    rintro e w12 ⟨rfl, hb12⟩
    replace p0 := later0 hb12 p0
    replace p1 := later0 hb12 p1
    replace p2 := later0 hb12 p2
    replace q0 := later0 hb12 q0
    replace q1 := later0 hb12 q1
    replace q2 := later0 hb12 q2
    replace e0 := later0 hb12 e0
    replace e1 := later0 hb12 e1
    replace e2 := later0 hb12 e2
    replace t0 := later0 hb12 t0
    replace t1 := later0 hb12 t1
    replace t2 := later0 hb12 t2
    have B12 := Lib.hid (bel_seq B11.out hb12)
    have hs12 := hb12.size
    have RW12 := Lib.hid (RW11.out.below hb12)
    clear RW11
    have RV12 := Lib.hid (RV11.out.below hb12)
    clear RV11
    have RX12 := Lib.hid (RX11.out.below hb12)
    clear RX11
    have RY12 := Lib.hid (RY11.out.below hb12)
    clear RY11
    have RG12 := Lib.hid (RG11.out.below hb12)
    clear RG11
    have RH12 := Lib.hid (RH11.out.below hb12)
    clear RH11
    have RZ12 := Lib.hid (RZ11.out.below hb12)
    clear RZ11
    clear hb12
    clear RZ12 IZ
    have hk1 : ¬ (1 + 2 * (n : Int) + (N5 : Int) < 0) := by omega
    go_wp2_with fail
    refine (markRatchet x s _ n n _ l 1 _ RX12.out hl (by omega) (by omega)).mono ?_
    rintro e w13 ⟨rfl, ho13, hg13⟩
    have hbm13 := IX.out.belowG hg13 (B := w.heap.size) (by omega) (by omega)
    have B13 := Lib.hid (B12.out.trans hbm13)
    have hs13 := hg13.size
    replace p0 := laterG hg13 p0 (IX.out.cell (by dsimp only; omega))
    replace p1 := laterG hg13 p1 (IX.out.cell (by dsimp only; omega))
    replace p2 := laterG hg13 p2 (IX.out.cell (by dsimp only; omega))
    replace q0 := laterG hg13 q0 (IX.out.cell (by dsimp only; omega))
    replace q1 := laterG hg13 q1 (IX.out.cell (by dsimp only; omega))
    replace q2 := laterG hg13 q2 (IX.out.cell (by dsimp only; omega))
    replace e0 := laterG hg13 e0 (IX.out.cell (by dsimp only; omega))
    replace e1 := laterG hg13 e1 (IX.out.cell (by dsimp only; omega))
    replace e2 := laterG hg13 e2 (IX.out.cell (by dsimp only; omega))
    replace t0 := laterG hg13 t0 (IX.out.cell (by dsimp only; omega))
    replace t1 := laterG hg13 t1 (IX.out.cell (by dsimp only; omega))
    replace t2 := laterG hg13 t2 (IX.out.cell (by dsimp only; omega))
    have RW13 := Lib.hid (RW12.out.grown hg13 (IW.out.apart IX.out (by omega)))
    clear RW12
    have RV13 := Lib.hid (RV12.out.grown hg13 (IV.out.apart IX.out (by omega)))
    clear RV12
    have RY13 := Lib.hid (RY12.out.grown hg13 (IY.out.apart IX.out (by omega)))
    clear RY12
    have RG13 := Lib.hid (RG12.out.grown hg13 (IG.out.apart IX.out (by omega)))
    clear RG12
    have RH13 := Lib.hid (RH12.out.grown hg13 (IH.out.apart IX.out (by omega)))
    clear RH12
    have RX13 := Lib.hid ho13
    clear RX12 ho13 hg13 hbm13
    go_wp2_with fail
    refine (markByteS _ N5 N5 _ m (1 + 2 * n) _ RY13.out hN5 (by omega) (by omega)).mono ?_
    rintro e w14 ⟨rfl, ho14, hg14⟩
    have hbm14 := IY.out.belowG hg14 (B := w.heap.size) (by omega) (by omega)
    have B14 := Lib.hid (B13.out.trans hbm14)
    have hs14 := hg14.size
    replace p0 := laterG hg14 p0 (IY.out.cell (by dsimp only; omega))
    replace p1 := laterG hg14 p1 (IY.out.cell (by dsimp only; omega))
    replace p2 := laterG hg14 p2 (IY.out.cell (by dsimp only; omega))
    replace q0 := laterG hg14 q0 (IY.out.cell (by dsimp only; omega))
    replace q1 := laterG hg14 q1 (IY.out.cell (by dsimp only; omega))
    replace q2 := laterG hg14 q2 (IY.out.cell (by dsimp only; omega))
    replace e0 := laterG hg14 e0 (IY.out.cell (by dsimp only; omega))
    replace e1 := laterG hg14 e1 (IY.out.cell (by dsimp only; omega))
    replace e2 := laterG hg14 e2 (IY.out.cell (by dsimp only; omega))
    replace t0 := laterG hg14 t0 (IY.out.cell (by dsimp only; omega))
    replace t1 := laterG hg14 t1 (IY.out.cell (by dsimp only; omega))
    replace t2 := laterG hg14 t2 (IY.out.cell (by dsimp only; omega))
    have RW14 := Lib.hid (RW13.out.grown hg14 (IW.out.apart IY.out (by omega)))
    clear RW13
    have RV14 := Lib.hid (RV13.out.grown hg14 (IV.out.apart IY.out (by omega)))
    clear RV13
    have RX14 := Lib.hid (RX13.out.grown hg14 (IX.out.apart IY.out (by omega)))
    clear RX13
    have RG14 := Lib.hid (RG13.out.grown hg14 (IG.out.apart IY.out (by omega)))
    clear RG13
    have RH14 := Lib.hid (RH13.out.grown hg14 (IH.out.apart IY.out (by omega)))
    clear RH13
    have RY14 := Lib.hid ho14
    clear RY13 ho14 hg14 hbm14
    go_wp2_with fail
    refine (eqRatchet_yes x1 s1 _ _ n1 l1 _ RG14.out.sl RW14.out.sl).mono ?_
    rintro e w15 ⟨rfl, hb15⟩
    replace p0 := later0 hb15 p0
    replace p1 := later0 hb15 p1
    replace p2 := later0 hb15 p2
    replace q0 := later0 hb15 q0
    replace q1 := later0 hb15 q1
    replace q2 := later0 hb15 q2
    replace e0 := later0 hb15 e0
    replace e1 := later0 hb15 e1
    replace e2 := later0 hb15 e2
    replace t0 := later0 hb15 t0
    replace t1 := later0 hb15 t1
    replace t2 := later0 hb15 t2
    have B15 := Lib.hid (bel_seq B14.out hb15)
    have hs15 := hb15.size
    have RW15 := Lib.hid (RW14.out.below hb15)
    clear RW14
    have RV15 := Lib.hid (RV14.out.below hb15)
    clear RV14
    have RX15 := Lib.hid (RX14.out.below hb15)
    clear RX14
    have RY15 := Lib.hid (RY14.out.below hb15)
    clear RY14
    have RG15 := Lib.hid (RG14.out.below hb15)
    clear RG14
    have RH15 := Lib.hid (RH14.out.below hb15)
    clear RH14
    clear hb15
    go_wp2_with fail
    refine (eqByteS_yes _ _ L _ RH15.out.sl RV15.out.sl).mono ?_
    rintro e w16 ⟨rfl, hb16⟩
    replace p0 := later0 hb16 p0
    replace p1 := later0 hb16 p1
    replace p2 := later0 hb16 p2
    replace q0 := later0 hb16 q0
    replace q1 := later0 hb16 q1
    replace q2 := later0 hb16 q2
    replace e0 := later0 hb16 e0
    replace e1 := later0 hb16 e1
    replace e2 := later0 hb16 e2
    replace t0 := later0 hb16 t0
    replace t1 := later0 hb16 t1
    replace t2 := later0 hb16 t2
    have B16 := Lib.hid (bel_seq B15.out hb16)
    have hs16 := hb16.size
    have RW16 := Lib.hid (RW15.out.below hb16)
    clear RW15
    have RV16 := Lib.hid (RV15.out.below hb16)
    clear RV15
    have RX16 := Lib.hid (RX15.out.below hb16)
    clear RX15
    have RY16 := Lib.hid (RY15.out.below hb16)
    clear RY15
    have RG16 := Lib.hid (RG15.out.below hb16)
    clear RG15
    have RH16 := Lib.hid (RH15.out.below hb16)
    clear RH15
    clear hb16
    have hk2 : ¬ (1 + 2 * (n1 : Int) < 0) := by omega
    have hk3 : ¬ (1 + 2 * (n1 : Int) + (M6 : Int) < 0) := by omega
    have hk4 : ((1 + 2 * (n1 : Int) + (M6 : Int)) != (1 + 2 * (n1 : Int) + (M6 : Int))) = false := by simp
    go_wp2_with fail
    refine (markRatchet x1 s1 _ n1 c6 _ l1 1 _ RG16.out hn1 (by omega) (by omega)).mono ?_
    rintro e w17 ⟨rfl, ho17, hg17⟩
    have hbm17 := IG.out.belowG hg17 (B := w.heap.size) (by omega) (by omega)
    have B17 := Lib.hid (B16.out.trans hbm17)
    have hs17 := hg17.size
    replace p0 := laterG hg17 p0 (IG.out.cell (by dsimp only; omega))
    replace p1 := laterG hg17 p1 (IG.out.cell (by dsimp only; omega))
    replace p2 := laterG hg17 p2 (IG.out.cell (by dsimp only; omega))
    replace q0 := laterG hg17 q0 (IG.out.cell (by dsimp only; omega))
    replace q1 := laterG hg17 q1 (IG.out.cell (by dsimp only; omega))
    replace q2 := laterG hg17 q2 (IG.out.cell (by dsimp only; omega))
    replace e0 := laterG hg17 e0 (IG.out.cell (by dsimp only; omega))
    replace e1 := laterG hg17 e1 (IG.out.cell (by dsimp only; omega))
    replace e2 := laterG hg17 e2 (IG.out.cell (by dsimp only; omega))
    replace t0 := laterG hg17 t0 (IG.out.cell (by dsimp only; omega))
    replace t1 := laterG hg17 t1 (IG.out.cell (by dsimp only; omega))
    replace t2 := laterG hg17 t2 (IG.out.cell (by dsimp only; omega))
    have RW17 := Lib.hid (RW16.out.grown hg17 (IW.out.apart IG.out (by omega)))
    clear RW16
    have RV17 := Lib.hid (RV16.out.grown hg17 (IV.out.apart IG.out (by omega)))
    clear RV16
    have RX17 := Lib.hid (RX16.out.grown hg17 (IX.out.apart IG.out (by omega)))
    clear RX16
    have RY17 := Lib.hid (RY16.out.grown hg17 (IY.out.apart IG.out (by omega)))
    clear RY16
    have RH17 := Lib.hid (RH16.out.grown hg17 (apart_symm HA6.out))
    clear RH16
    have RG17 := Lib.hid ho17
    clear RG16 ho17 hg17 hbm17
    go_wp2_with fail
    refine (markByteS _ M6 d6 _ L (1 + 2 * n1) _ RH17.out hM6 (by omega) (by omega)).mono ?_
    rintro e w18 ⟨rfl, ho18, hg18⟩
    have hbm18 := IH.out.belowG hg18 (B := w.heap.size) (by omega) (by omega)
    have B18 := Lib.hid (B17.out.trans hbm18)
    have hs18 := hg18.size
    replace p0 := laterG hg18 p0 (IH.out.cell (by dsimp only; omega))
    replace p1 := laterG hg18 p1 (IH.out.cell (by dsimp only; omega))
    replace p2 := laterG hg18 p2 (IH.out.cell (by dsimp only; omega))
    replace q0 := laterG hg18 q0 (IH.out.cell (by dsimp only; omega))
    replace q1 := laterG hg18 q1 (IH.out.cell (by dsimp only; omega))
    replace q2 := laterG hg18 q2 (IH.out.cell (by dsimp only; omega))
    replace e0 := laterG hg18 e0 (IH.out.cell (by dsimp only; omega))
    replace e1 := laterG hg18 e1 (IH.out.cell (by dsimp only; omega))
    replace e2 := laterG hg18 e2 (IH.out.cell (by dsimp only; omega))
    replace t0 := laterG hg18 t0 (IH.out.cell (by dsimp only; omega))
    replace t1 := laterG hg18 t1 (IH.out.cell (by dsimp only; omega))
    replace t2 := laterG hg18 t2 (IH.out.cell (by dsimp only; omega))
    have RW18 := Lib.hid (RW17.out.grown hg18 (IW.out.apart IH.out (by omega)))
    clear RW17
    have RV18 := Lib.hid (RV17.out.grown hg18 (IV.out.apart IH.out (by omega)))
    clear RV17
    have RX18 := Lib.hid (RX17.out.grown hg18 (IX.out.apart IH.out (by omega)))
    clear RX17
    have RY18 := Lib.hid (RY17.out.grown hg18 (IY.out.apart IH.out (by omega)))
    clear RY17
    have RG18 := Lib.hid (RG17.out.grown hg18 (HA6.out))
    clear RG17
    have RH18 := Lib.hid ho18
    clear RH17 ho18 hg18 hbm18
    go_wp2_with fail
    refine (heldRatchet x1 s1 _ n1 1 _ RG18.out.sl hn1 (by omega) (by omega)).mono ?_
    rintro e w19 ⟨rfl, hb19⟩
    replace p0 := later0 hb19 p0
    replace p1 := later0 hb19 p1
    replace p2 := later0 hb19 p2
    replace q0 := later0 hb19 q0
    replace q1 := later0 hb19 q1
    replace q2 := later0 hb19 q2
    replace e0 := later0 hb19 e0
    replace e1 := later0 hb19 e1
    replace e2 := later0 hb19 e2
    replace t0 := later0 hb19 t0
    replace t1 := later0 hb19 t1
    replace t2 := later0 hb19 t2
    have B19 := Lib.hid (bel_seq B18.out hb19)
    have hs19 := hb19.size
    have RW19 := Lib.hid (RW18.out.below hb19)
    clear RW18
    have RV19 := Lib.hid (RV18.out.below hb19)
    clear RV18
    have RX19 := Lib.hid (RX18.out.below hb19)
    clear RX18
    have RY19 := Lib.hid (RY18.out.below hb19)
    clear RY18
    have RG19 := Lib.hid (RG18.out.below hb19)
    clear RG18
    have RH19 := Lib.hid (RH18.out.below hb19)
    clear RH18
    clear hb19
    go_wp2_with fail
    refine (heldByteS _ M6 (1 + 2 * n1) _ RH19.out.sl hM6 (by omega) (by omega)).mono ?_
    rintro e wz ⟨rfl, rfl⟩
    go_wp2_with fail
    refine (toRatchet x s (.slice a n c) n l _ (HS.out.below B19.out) hl).mono ?_
    rintro e w20 ⟨gd, rfl, _, _, ho, hb20⟩
    replace p0 := later0 hb20 p0
    replace p1 := later0 hb20 p1
    replace p2 := later0 hb20 p2
    replace q0 := later0 hb20 q0
    replace q1 := later0 hb20 q1
    replace q2 := later0 hb20 q2
    replace e0 := later0 hb20 e0
    replace e1 := later0 hb20 e1
    replace e2 := later0 hb20 e2
    replace t0 := later0 hb20 t0
    replace t1 := later0 hb20 t1
    replace t2 := later0 hb20 t2
    have B20 := Lib.hid (bel_seq B19.out hb20)
    have hs20 := hb20.size
    have RW20 := Lib.hid (RW19.out.below hb20)
    clear RW19
    have RV20 := Lib.hid (RV19.out.below hb20)
    clear RV19
    have RX20 := Lib.hid (RX19.out.below hb20)
    clear RX19
    have RY20 := Lib.hid (RY19.out.below hb20)
    clear RY19
    have RG20 := Lib.hid (RG19.out.below hb20)
    clear RG19
    have RH20 := Lib.hid (RH19.out.below hb20)
    clear RH19
    have RC20 := Lib.hid ho
    have IC : Hid (RowIn (w19.heap.size) w20.heap.size (some ⟨gd, 0, none⟩)) := Lib.hid (by have := ho.rowIn; exact this)
    clear ho
    clear hb20
    go_wp2_with fail
    refine (toByteS (.slice a' m.length c') m _ (HU.out.below B20.out) hl2).mono ?_
    rintro e w21 ⟨Nd, ge, rfl, hNd, _, _, ho, hb21⟩
    replace p0 := later0 hb21 p0
    replace p1 := later0 hb21 p1
    replace p2 := later0 hb21 p2
    replace q0 := later0 hb21 q0
    replace q1 := later0 hb21 q1
    replace q2 := later0 hb21 q2
    replace e0 := later0 hb21 e0
    replace e1 := later0 hb21 e1
    replace e2 := later0 hb21 e2
    replace t0 := later0 hb21 t0
    replace t1 := later0 hb21 t1
    replace t2 := later0 hb21 t2
    have B21 := Lib.hid (bel_seq B20.out hb21)
    have hs21 := hb21.size
    have RW21 := Lib.hid (RW20.out.below hb21)
    clear RW20
    have RV21 := Lib.hid (RV20.out.below hb21)
    clear RV20
    have RX21 := Lib.hid (RX20.out.below hb21)
    clear RX20
    have RY21 := Lib.hid (RY20.out.below hb21)
    clear RY20
    have RG21 := Lib.hid (RG20.out.below hb21)
    clear RG20
    have RH21 := Lib.hid (RH20.out.below hb21)
    clear RH20
    have RC21 := Lib.hid (RC20.out.below hb21)
    clear RC20
    have RD21 := Lib.hid ho
    have ID : Hid (RowIn (w20.heap.size) w21.heap.size (some ⟨ge, 0, none⟩)) := Lib.hid (by have := ho.rowIn; exact this)
    clear ho
    clear hb21
    go_wp2_with fail
    refine (C2'.out _ _ _ RC21.out.sl RD21.out.sl).mono ?_
    rintro e w22 ⟨ao9, c9, bo9, M9, d9, rfl, ho, hp, _, hb22⟩
    replace p0 := later0 hb22 p0
    replace p1 := later0 hb22 p1
    replace p2 := later0 hb22 p2
    replace q0 := later0 hb22 q0
    replace q1 := later0 hb22 q1
    replace q2 := later0 hb22 q2
    replace e0 := later0 hb22 e0
    replace e1 := later0 hb22 e1
    replace e2 := later0 hb22 e2
    replace t0 := later0 hb22 t0
    replace t1 := later0 hb22 t1
    replace t2 := later0 hb22 t2
    have B22 := Lib.hid (bel_seq B21.out hb22)
    have hs22 := hb22.size
    have RW22 := Lib.hid (RW21.out.below hb22)
    clear RW21
    have RV22 := Lib.hid (RV21.out.below hb22)
    clear RV21
    have RX22 := Lib.hid (RX21.out.below hb22)
    clear RX21
    have RY22 := Lib.hid (RY21.out.below hb22)
    clear RY21
    have RG22 := Lib.hid (RG21.out.below hb22)
    clear RG21
    have RH22 := Lib.hid (RH21.out.below hb22)
    clear RH21
    have RC22 := Lib.hid (RC21.out.below hb22)
    clear RC21
    have RD22 := Lib.hid (RD21.out.below hb22)
    clear RD21
    have RJ22 := Lib.hid ho
    have IJ : Hid (RowIn (w21.heap.size) w22.heap.size (ao9)) := Lib.hid (by have := ho.rowIn; exact this)
    clear ho
    have RK22 := Lib.hid hp
    have IK : Hid (RowIn (w21.heap.size) w22.heap.size (bo9)) := Lib.hid (by have := hp.rowIn; exact this)
    clear hp
    clear hb22
    clear RC22 IC
    clear RD22 ID
    have hz22_p0 : w.heap.size < w22.heap.size := World.block_lt_of_cell? w22 _ p0
    have hz22_q0 : w4.heap.size < w22.heap.size := World.block_lt_of_cell? w22 _ q0
    have hz22_e0 : w5.heap.size < w22.heap.size := World.block_lt_of_cell? w22 _ e0
    have hz22_t0 : w7.heap.size < w22.heap.size := World.block_lt_of_cell? w22 _ t0
    go_wp2_with fail
    refine (eqRatchet_yes x1 s1 _ _ n1 l1 _ (RJ22.out.alloc _).sl (RW22.out.alloc _).sl).mono ?_
    rintro e w23 ⟨rfl, hb23⟩
    replace p0 := later1 hb23 p0
    replace p1 := later1 hb23 p1
    replace p2 := later1 hb23 p2
    replace q0 := later1 hb23 q0
    replace q1 := later1 hb23 q1
    replace q2 := later1 hb23 q2
    replace e0 := later1 hb23 e0
    replace e1 := later1 hb23 e1
    replace e2 := later1 hb23 e2
    replace t0 := later1 hb23 t0
    replace t1 := later1 hb23 t1
    replace t2 := later1 hb23 t2
    have B23 := Lib.hid (bel_seq (bel_al B22.out _) hb23)
    have hs23 : w22.heap.size + 1 ≤ w23.heap.size := by have := hb23.size; simp only [World.size_alloc] at this; omega
    have u0 : w23.cell? ⟨w22.heap.size, 0, none⟩ = some (.int .i64 x1) := later0 hb23 (by simp)
    have u1 : w23.cell? ⟨w22.heap.size, 1, none⟩ = some (.int .i64 s1) := later0 hb23 (by simp)
    have u2 : w23.cell? ⟨w22.heap.size, 2, none⟩ = some (.slice ao9 n1 c9) := later0 hb23 (by simp)
    have RW23 := Lib.hid ((RW22.out.alloc _).below hb23)
    clear RW22
    have RV23 := Lib.hid ((RV22.out.alloc _).below hb23)
    clear RV22
    have RX23 := Lib.hid ((RX22.out.alloc _).below hb23)
    clear RX22
    have RY23 := Lib.hid ((RY22.out.alloc _).below hb23)
    clear RY22
    have RG23 := Lib.hid ((RG22.out.alloc _).below hb23)
    clear RG22
    have RH23 := Lib.hid ((RH22.out.alloc _).below hb23)
    clear RH22
    have RJ23 := Lib.hid ((RJ22.out.alloc _).below hb23)
    clear RJ22
    have RK23 := Lib.hid ((RK22.out.alloc _).below hb23)
    clear RK22
    clear hb23
    go_wp2_with fail
    refine (eqByteS_yes _ _ L _ RK23.out.sl RV23.out.sl).mono ?_
    rintro e w24 ⟨rfl, hb24⟩
    replace p0 := later0 hb24 p0
    replace p1 := later0 hb24 p1
    replace p2 := later0 hb24 p2
    replace q0 := later0 hb24 q0
    replace q1 := later0 hb24 q1
    replace q2 := later0 hb24 q2
    replace e0 := later0 hb24 e0
    replace e1 := later0 hb24 e1
    replace e2 := later0 hb24 e2
    replace t0 := later0 hb24 t0
    replace t1 := later0 hb24 t1
    replace t2 := later0 hb24 t2
    replace u0 := later0 hb24 u0
    replace u1 := later0 hb24 u1
    replace u2 := later0 hb24 u2
    have B24 := Lib.hid (bel_seq B23.out hb24)
    have hs24 := hb24.size
    have RW24 := Lib.hid (RW23.out.below hb24)
    clear RW23
    have RV24 := Lib.hid (RV23.out.below hb24)
    clear RV23
    have RX24 := Lib.hid (RX23.out.below hb24)
    clear RX23
    have RY24 := Lib.hid (RY23.out.below hb24)
    clear RY23
    have RG24 := Lib.hid (RG23.out.below hb24)
    clear RG23
    have RH24 := Lib.hid (RH23.out.below hb24)
    clear RH23
    have RJ24 := Lib.hid (RJ23.out.below hb24)
    clear RJ23
    have RK24 := Lib.hid (RK23.out.below hb24)
    clear RK23
    clear hb24
    go_wp2_with fail
    refine (heldRatchet x1 s1 _ n1 1 _ RG24.out.sl hn1 (by omega) (by omega)).mono ?_
    rintro e w25 ⟨rfl, hb25⟩
    replace p0 := later0 hb25 p0
    replace p1 := later0 hb25 p1
    replace p2 := later0 hb25 p2
    replace q0 := later0 hb25 q0
    replace q1 := later0 hb25 q1
    replace q2 := later0 hb25 q2
    replace e0 := later0 hb25 e0
    replace e1 := later0 hb25 e1
    replace e2 := later0 hb25 e2
    replace t0 := later0 hb25 t0
    replace t1 := later0 hb25 t1
    replace t2 := later0 hb25 t2
    replace u0 := later0 hb25 u0
    replace u1 := later0 hb25 u1
    replace u2 := later0 hb25 u2
    have B25 := Lib.hid (bel_seq B24.out hb25)
    have hs25 := hb25.size
    have RW25 := Lib.hid (RW24.out.below hb25)
    clear RW24
    have RV25 := Lib.hid (RV24.out.below hb25)
    clear RV24
    have RX25 := Lib.hid (RX24.out.below hb25)
    clear RX24
    have RY25 := Lib.hid (RY24.out.below hb25)
    clear RY24
    have RG25 := Lib.hid (RG24.out.below hb25)
    clear RG24
    have RH25 := Lib.hid (RH24.out.below hb25)
    clear RH24
    have RJ25 := Lib.hid (RJ24.out.below hb25)
    clear RJ24
    have RK25 := Lib.hid (RK24.out.below hb25)
    clear RK24
    clear hb25
    go_wp2_with fail
    refine (heldByteS _ M6 (1 + 2 * n1) _ RH25.out.sl hM6 (by omega) (by omega)).mono ?_
    rintro e wz ⟨rfl, rfl⟩
    go_wp2
    go_ret
    exact ⟨rfl, B25.out⟩
/-! ### THE ROW's STEP: the guide's own way -/
theorem own : ownKnob Try.prog.godebug = none := by kernel_rfl
theorem laidOut : laidOutB Try.prog = true := by kernel_rfl
set_option maxRecDepth 100000 in
theorem lifted (os : Os) (started : os.Started) (H : Type) (enc : TypeId × Value → H) :
    ReturnsInHanded {} Try.checked os 6 .any (Rows.fnExactOpenStepSpec.pre6 enc Try.prog Try.f6 Rows.fnExactOpenStepRow.domain false) (Rows.fnExactOpenStepSpec.post enc Try.prog Try.f6 false true false false) := by
  refine returnsInHanded_of_change (C := Try.checked) own started (by kernel_rfl) Try.func6
    (ChangeSpec.witness6 (enc := enc) (C := Try.checked) false ⟨#[], #[.agg #[.int .i64 0, .int .i64 0, .slice none 0 0], .int .i64 0, .slice none 0 0], []⟩ 8 (by kernel_rfl) (by kernel_rfl) (by kernel_rfl) (by kernel_rfl)) ?_
  intro W base args ds gs before hval0 hW hcnd _
  have hval : ∀ (j : Nat) t v, Try.f6.params[j]? = some t → args[j]? = some v → Value.okWide Try.prog W .any base t v := hval0
  have hW' := hW
  obtain ⟨p, q, hA0, hV, rfl, hfz, hnd⟩ := hW
  have hA : DataW.TrodAll enc Try.prog W 0 (fun _ => true) true Try.f6.params.toList args.toList ds p := hA0
  rw [Try.params6] at hA hval
  obtain ⟨v0, vs0, d0, ds0, p0, q0, hargs, rfl, rfl, h0, r0⟩ := trodAll_cons hA
  obtain ⟨v1, vs1, d1, ds1, p1, q1, rfl, rfl, rfl, h1, r1⟩ := trodAll_cons r0
  obtain ⟨v2, vs2, d2, ds2, p2, q2, rfl, rfl, rfl, h2, r2⟩ := trodAll_cons r1
  obtain ⟨rfl, rfl, rfl⟩ := trodAll_nil r2
  obtain rfl : args = #[v0, v1, v2] := by cases args; simp_all
  obtain ⟨rfl, rfl⟩ := trodVars_none hV
  have k0 := h0
  have lt0 : ∀ x ∈ p0, x.block < W.heap.size := by obtain ⟨m, hm⟩ := k0; exact DataW.trod_lt m _ _ _ hm
  obtain ⟨c0_0, c0_1, c0_2, y0_0, y0_1, y0_2, fuel0, rfl, e0, pe0, g0_0, g0_1, g0_2⟩ := open_agg3 Try.underlying24 (by kernel_rfl) (by kernel_rfl) (hval 0 24 v0 rfl rfl) h0
  obtain ⟨a0_0, rfl, w0_0⟩ := intOfRead Try.underlying3 g0_0
  obtain ⟨a0_1, rfl, w0_1⟩ := intOfRead Try.underlying3 g0_1
  obtain ⟨n0_2, z0_2, s0_2⟩ := skOfRead Try.underlying22 Try.underlying113 Try.underlying3 Try.underlying3 (by kernel_rfl) rfl rfl (by kernel_rfl) (by kernel_rfl) g0_2 (fun x hx => lt0 x (by rw [pe0]; simp [hx]))
  have k1 := h1
  have lt1 : ∀ x ∈ p1, x.block < W.heap.size := by obtain ⟨m, hm⟩ := k1; exact DataW.trod_lt m _ _ _ hm
  obtain ⟨fuel1, g1⟩ := h1
  obtain ⟨a1, rfl, w1⟩ : ∃ n, v1 = .int .i64 n ∧ (Lit.int .i64 n).wf = true := by
    obtain ⟨n, rfl⟩ := okWide_int Try.underlying3 (hval 1 3 v1 rfl rfl)
    exact ⟨n, rfl, by obtain ⟨m, e, w⟩ := intOfRead Try.underlying3 (by simpa [Value.cells] using g1); cases e; exact w⟩
  have k2 := h2
  have lt2 : ∀ x ∈ p2, x.block < W.heap.size := by obtain ⟨m, hm⟩ := k2; exact DataW.trod_lt m _ _ _ hm
  obtain ⟨fuel2, g2⟩ := h2
  obtain ⟨b2, len2, cap2, rfl⟩ := okWide_slice Try.underlying37 (hval 2 37 v2 rfl rfl)
  obtain ⟨z2, s2, wf2⟩ := slOfRead Try.underlying37 Try.underlying5 (by kernel_rfl) (by simpa [Value.cells] using g2) lt2
  clear hA0 hval0
  refine (walk a0_0 a0_1 _ n0_2 z0_2 a1 _ z2 W s0_2 s2 wf2).mono fun e W' ⟨he, bel⟩ => ?_
  subst he
  exact ⟨_, rfl, _, _, _, [], _, [], hW', trodAll_mk1 (shut_bool Try.underlying4 _), (trodAll_cons_mk (Below.trod laidOut (by kernel_rfl) (of_decide_eq_true (by kernel_rfl)) k0 bel lt0) (trodAll_cons_mk (Below.trod laidOut (by kernel_rfl) (of_decide_eq_true (by kernel_rfl)) k1 bel lt1) (trodAll_cons_mk (Below.trod laidOut (by kernel_rfl) (of_decide_eq_true (by kernel_rfl)) k2 bel lt2) trodAll_mk0))), rfl, bel.frame _, fun h => by cases h⟩

theorem over : Rows.fnExactOpenStepRow.holds Try.pinned (OpenSpec.ofChange Rows.fnExactOpenStepSpec) :=
  OpenClaim.holds_of_wide 6 Try.f6 rfl rfl rfl rfl rfl rfl rfl ⟨rfl, rfl, rfl, rfl, rfl⟩ rfl rfl rfl rfl rfl (by kernel_rfl) Try.func6 (by kernel_rfl)
    (of_decide_eq_true (by kernel_rfl)) (by unfold Func.isWrapper; first | (rw [if_pos (by decide +kernel)]; kernel_rfl) | (rw [if_neg (by decide +kernel)]; exact ⟨rfl, rfl⟩))
    (fun os started H enc _ => lifted os started H enc)

/-- the statement -/
theorem proved : Rows.FnExactOpenStepSaid := over
end Go.Proofs.Ytelcpihbdgikfaa.fnExactOpenStep
