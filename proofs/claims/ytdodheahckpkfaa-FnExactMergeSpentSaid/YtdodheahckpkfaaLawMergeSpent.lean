/- For all arguments the program's MergeSpent returns what the reference's returns, leaves its arguments alone and returns memory of its own; no condition. -/
import Derived.Test.YtdodheahckpkfaaRows
import Derived.Test.YtdodheahckpkfaaSpentLaw
import Derived.Test.YtdodheahckpkfaaMergeLaw
import Derived.Test.YtdodheahckpkfaaRowIn
import Derived.Test.YtdodheahckpkfaaOpen
import Derived.Deep.RegionHeld3
import Derived.Deep.CutRange
namespace Go.Proofs.Ytdodheahckpkfaa.fnExactMergeSpent
open Go.ChangeShapes Go.WideShapes Go.ChangeAt Go.RowKit Go.Joins
set_option linter.unusedVariables false
set_option maxRecDepth 100000 in
set_option maxHeartbeats 1000000 in
theorem walk (x : Int) (v : Value) (l : List Int) (y : Int) (u : Value) (m : List Int) (w : World) (hs : Sl .i64 w v l) (hu : Sl .i64 w u m) : Calls Try.prog 8 #[.agg #[.int .i64 x, v], .agg #[.int .i64 y, u]] w fun e w' => e = .returned (.bool true) ∧ Below w.heap.size w w' := by
  obtain ⟨a, c, rfl, hm⟩ := hs.shape
  obtain ⟨a', c', rfl, hm'⟩ := hu.shape
  have HS := Lib.hid hs
  have HU := Lib.hid hu
  have B0 := Lib.hid (Below.refl w.heap.size w)
  have CS := szSpentList x _ l 1048576 _ ((hs.alloc (.cells #[.int .i64 x, .slice a l.length c] 24)).alloc (.cells #[.int .i64 y, .slice a' m.length c'] 24)) (by omega) (by omega)
  by_cases hlt : (1048576 : Int) < (l.length : Int)
  · rw [if_pos hlt] at CS
    have CS' := Lib.hid CS
    clear CS hlt hs hm hu hm'
    go_enter Try.func8, Try.ntmps8
    go_wp2_with fail
    refine CS'.out.mono ?_
    rintro e w1 ⟨rfl, hb1⟩
    go_wp2
    go_ret
    exact ⟨rfl, (by repeat (first | exact Below.refl _ _ | refine bel_al ?_ _ | refine Below.setCell ?_ (by first | (simp; done) | (simp; omega)) _ | refine Below.drew ?_ | refine bel_drewN ?_ _ | refine bel_seq ?_ (hb1)))⟩
  · rw [if_neg hlt] at CS
    have CS' := Lib.hid CS
    have hl : l.length ≤ 1048576 := by omega
    have hlt' : (l.length : Int) ≤ 1048576 := by omega
    have CT := fun W (h : Sl .i64 W (.slice a' m.length c') m) => szSpentList y _ m (1048576 - l.length) W h (by omega) (by omega)
    by_cases hlt2 : (1048576 : Int) - l.length < (m.length : Int)
    · simp only [if_pos hlt2] at CT
      have CT' := Lib.hid CT
      have hlt3 : ¬ (1048576 : Int) - l.length < 0 := by omega
      clear CS CT hlt hs hm hu hm' hlt2
      go_enter Try.func8, Try.ntmps8
      go_wp2_with fail
      refine CS'.out.mono ?_
      rintro e w1 ⟨rfl, hb1⟩
      have k0 : w1.cell? ⟨w.heap.size + 1, 0, none⟩ = some (.int .i64 y) := later0 hb1 (by simp)
      have k1 : w1.cell? ⟨w.heap.size + 1, 1, none⟩ = some (.slice a' m.length c') := later0 hb1 (by simp)
      have B1 := Lib.hid (bel_seq (bel_al (bel_al B0.out _) _) hb1)
      clear hb1
      go_wp2_with fail
      refine (CT'.out _ (HU.out.below B1.out)).mono ?_
      rintro e w2 ⟨rfl, hb2⟩
      have B2 := Lib.hid (bel_seq B1.out hb2)
      clear hb2
      go_wp2
      go_ret
      exact ⟨rfl, B2.out⟩
    · simp only [if_neg hlt2] at CT
      have CT' := Lib.hid CT
      have hl2 : m.length ≤ 1048576 := by omega
      have hlt3 : ¬ (1048576 : Int) - l.length < 0 := by omega
      have hlt4 : ¬ (1048576 : Int) - l.length - m.length < 0 := by omega
      have C1 := fun v u W (h : Sl .i64 W v l) (h2 : Sl .i64 W u m) => specMergeSpent x y v u l m W h h2 hl
      have C2 := fun v u W (h : Sl .i64 W v l) (h2 : Sl .i64 W u m) => implMergeSpent x y v u l m W h h2 hl
      have hlen := merge_len x l y m hl
      obtain ⟨⟨L, r⟩, hx⟩ : ∃ q, q = mergeI x l y m := ⟨_, rfl⟩
      rw [← hx] at hlen
      simp only [← hx] at C1 C2
      have C1' := Lib.hid C1
      have C2' := Lib.hid C2
      have HL : Hid (L.length ≤ 1048576) := Lib.hid hlen
      have hrr : (r != r) = false := by simp
      have HLM := Lib.hid (show l.length + m.length ≤ 1048576 by omega)
      clear C1 C2 CS CT hlt hlt2 hs hm hu hm' hx hlen
      go_enter Try.func8, Try.ntmps8
      go_wp2_with fail
      refine CS'.out.mono ?_
      rintro e w1 ⟨rfl, hb1⟩
      have B1 := Lib.hid (bel_seq (bel_al (bel_al B0.out _) _) hb1)
      have hs1 : w.heap.size + 2 ≤ w1.heap.size := by have := hb1.size; simp only [World.size_alloc] at this; omega
      have p0 : w1.cell? ⟨w.heap.size, 0, none⟩ = some (.int .i64 x) := later0 hb1 (by simp)
      have p1 : w1.cell? ⟨w.heap.size, 1, none⟩ = some (.slice a l.length c) := later0 hb1 (by simp)
      have k0 : w1.cell? ⟨w.heap.size + 1, 0, none⟩ = some (.int .i64 y) := later0 hb1 (by simp)
      have k1 : w1.cell? ⟨w.heap.size + 1, 1, none⟩ = some (.slice a' m.length c') := later0 hb1 (by simp)
      clear hb1
      go_wp2_with fail
      refine (CT'.out _ (HU.out.below B1.out)).mono ?_
      rintro e w2 ⟨rfl, hb2⟩
      replace p0 := later0 hb2 p0
      replace p1 := later0 hb2 p1
      replace k0 := later0 hb2 k0
      replace k1 := later0 hb2 k1
      have B2 := Lib.hid (bel_seq B1.out hb2)
      have hs2 := hb2.size
      clear hb2
      go_wp2_with fail
      go_cut [6, 7] from 27 to 34 (fun sp sc wx => sc = .int .i64 r ∧ Res w2 wx x L sp)
      case first =>
        go_region_held3 (fun W' => W'.cell? ⟨w.heap.size, 0, none⟩ = some (.int .i64 x) ∧ W'.cell? ⟨w.heap.size, 1, none⟩ = some (.slice a l.length c) ∧ W'.cell? ⟨w.heap.size + 1, 0, none⟩ = some (.int .i64 y) ∧ W'.cell? ⟨w.heap.size + 1, 1, none⟩ = some (.slice a' m.length c') ∧ Below w2.heap.size w2 W') (first | assumption | exact keep4 h1C p0 p1 k0 k1 | exact keep4 (bel_al h1C _) p0 p1 k0 k1 | exact keep4 (bel_al h1C _).drew p0 p1 k0 k1 | exact keep4 h1B p0 p1 k0 k1 | exact keep4 (bel_al h1B _) p0 p1 k0 k1 | exact keep4 (bel_al h1B _).drew p0 p1 k0 k1 | exact keep4 h1A p0 p1 k0 k1 | exact keep4 (bel_al h1A _) p0 p1 k0 k1 | exact keep4 (bel_al h1A _).drew p0 p1 k0 k1 | exact keep4 (Below.refl _ _).drew p0 p1 k0 k1 | exact keep4 (bel_al (Below.refl _ _).drew _) p0 p1 k0 k1 | exact keep4 (bel_al (Below.refl _ _).drew _).drew p0 p1 k0 k1 | exact keep4 (Below.refl _ _) p0 p1 k0 k1 | exact keep4 (bel_al (Below.refl _ _) _) p0 p1 k0 k1 | exact keep4 (bel_al (Below.refl _ _) _).drew p0 p1 k0 k1 | exact keep4 ((h1C.setCell (by first | exact Nat.le_refl _ | exact h1A.size | exact h1B.size) _).setCell (by first | exact Nat.le_refl _ | exact h1A.size | exact h1B.size) _) p0 p1 k0 k1) (first | (go_at_call 17; (with_reducible refine (toSpentList x (.slice a l.length c) l _ (HS.out.below (bel_seq B2.out (bel4 ‹_›))) hl).mono ?_); rintro e wA ⟨NA, ga, rfl, hNA, _, _, hoA, hbA⟩; have h1A : Below w2.heap.size w2 wA := bel_seq (bel4 ‹_›) hbA; (first | have TD := (Two.new w2 (.int .i64 0) (.slice none 0 0) 27).below hbA | have TD := (Two.newD w2 (.int .i64 0) (.slice none 0 0) 27).below hbA | skip)) | (go_at_call 17; (with_reducible refine (toSpentList y (.slice a' m.length c') m _ (HU.out.below (bel_seq B2.out (bel4 ‹_›))) hl2).mono ?_); rintro e wB ⟨NB, gb, rfl, hNB, _, _, hoB, hbB⟩; have h1B : Below w2.heap.size w2 wB := bel_seq (bel4 ‹_›) hbB; (first | have TD := (Two.new wA (.int .i64 0) (.slice none 0 0) 27).below hbB | have TD := (Two.newD wA (.int .i64 0) (.slice none 0 0) 27).below hbB | have TD := TD.below hbB | skip)) | (go_at_call 33; (refine (C1'.out _ _ _ (by first | exact hoA.sl.below hbB | exact (hoA.sl.below hbB).alloc _ | exact (hoA.sl.alloc _).below hbB) (by first | exact hoB.sl | exact hoB.sl.alloc _)).mono ?_); rintro e wC ⟨aoC, NC, cC, rfl, hoC, hbC⟩; have h1C : Below w2.heap.size w2 wC := bel_seq (bel4 ‹_›) hbC; (first | have TD := (Two.new wB (.int .i64 0) (.slice none 0 0) 27).below hbC | have TD := (Two.newD wB (.int .i64 0) (.slice none 0 0) 27).below hbC | have TD := TD.below hbC | skip); (first | (have hzq := TD.lt; obtain ⟨tq0, tq1, tr0, tr1⟩ := TD) | skip)) | fail)
        all_goals
          go_wp2_with fail
          go_meet
          case rel =>
            refine ⟨rfl, ?_⟩
            first
            | exact res_alloc h1C (by have iA := hbA.size; have iB := hbB.size; (try simp at iA iB); first | omega | (simp; done) | (simp; omega)) hoC rfl
            | exact res_set h1C (by have iA := hbA.size; have iB := hbB.size; (try simp at iA iB); first | omega | (simp; done) | (simp; omega)) hoC (by have iA := hbA.size; have iB := hbB.size; (try simp at iA iB); first | omega | (simp; done) | (simp; omega)) (by have iA := hbA.size; have iB := hbB.size; (try simp at iA iB); first | omega | (simp; done) | (simp; omega)) hzq tq0 tq1 rfl
      case rest =>
        obtain ⟨w3, rfl⟩ : ∃ q, q = wc := ⟨wc, rfl⟩
        obtain ⟨rfl, qb, qa, qN, qc, ql, qh, rfl, q0n, q1n, ho, hri, qb1, qb2, qb3, qb4, qb5, hb3⟩ := hcut
        replace p0 := later0 hb3 p0
        replace p1 := later0 hb3 p1
        replace k0 := later0 hb3 k0
        replace k1 := later0 hb3 k1
        have B3 := Lib.hid (bel_seq B2.out hb3)
        have hs3 := hb3.size
        clear hb3
        have q0 := q0n
        have q1 := q1n
        clear q0n q1n
        have RW3 := Lib.hid ho
        have IW := Lib.hid hri
        clear ho hri
        go_wp2_with fail
        refine (toSpentList x (.slice a l.length c) l _ (HS.out.below B3.out) hl).mono ?_
        rintro e w4 ⟨N6, g6, rfl, hN6, _, _, ho, hb4⟩
        replace p0 := later0 hb4 p0
        replace p1 := later0 hb4 p1
        replace k0 := later0 hb4 k0
        replace k1 := later0 hb4 k1
        replace q0 := later0 hb4 q0
        replace q1 := later0 hb4 q1
        have B4 := Lib.hid (bel_seq B3.out hb4)
        have hs4 := hb4.size
        have RW4 := Lib.hid (RW3.out.below hb4)
        clear RW3
        have RX4 := Lib.hid ho
        have IX : Hid (RowIn (w3.heap.size) w4.heap.size (some ⟨g6, 0, none⟩)) := Lib.hid (by have := ho.rowIn; exact this)
        clear ho
        clear hb4
        have hz4_p0 : w.heap.size < w4.heap.size := World.block_lt_of_cell? w4 _ p0
        have hz4_k0 : w.heap.size + 1 < w4.heap.size := World.block_lt_of_cell? w4 _ k0
        have hz4_q0 : qb < w4.heap.size := World.block_lt_of_cell? w4 _ q0
        go_wp2_with fail
        refine (toSpentList y (.slice a' m.length c') m _ (HU.out.below (bel_al B4.out _)) hl2).mono ?_
        rintro e w5 ⟨N7, g7, rfl, hN7, _, _, ho, hb5⟩
        replace p0 := later1 hb5 p0
        replace p1 := later1 hb5 p1
        replace k0 := later1 hb5 k0
        replace k1 := later1 hb5 k1
        replace q0 := later1 hb5 q0
        replace q1 := later1 hb5 q1
        have B5 := Lib.hid (bel_seq (bel_al B4.out _) hb5)
        have hs5 : w4.heap.size + 1 ≤ w5.heap.size := by have := hb5.size; simp only [World.size_alloc] at this; omega
        have e0 : w5.cell? ⟨w4.heap.size, 0, none⟩ = some (.int .i64 x) := later0 hb5 (by simp)
        have e1 : w5.cell? ⟨w4.heap.size, 1, none⟩ = some (.slice (some ⟨g6, 0, none⟩) N6 N6) := later0 hb5 (by simp)
        have RW5 := Lib.hid ((RW4.out.alloc _).below hb5)
        clear RW4
        have RX5 := Lib.hid ((RX4.out.alloc _).below hb5)
        clear RX4
        have RY5 := Lib.hid ho
        have IY : Hid (RowIn (w4.heap.size + 1) w5.heap.size (some ⟨g7, 0, none⟩)) := Lib.hid (by have := ho.rowIn; simp only [World.size_alloc] at this; exact this)
        clear ho
        clear hb5
        have hz5_p0 : w.heap.size < w5.heap.size := World.block_lt_of_cell? w5 _ p0
        have hz5_k0 : w.heap.size + 1 < w5.heap.size := World.block_lt_of_cell? w5 _ k0
        have hz5_q0 : qb < w5.heap.size := World.block_lt_of_cell? w5 _ q0
        have hz5_e0 : w4.heap.size < w5.heap.size := World.block_lt_of_cell? w5 _ e0
        go_wp2_with fail
        refine (C2'.out _ _ _ (RX5.out.alloc _).sl (RY5.out.alloc _).sl).mono ?_
        rintro e w6 ⟨ta, tN, tc, rfl, ho, hb6⟩
        replace p0 := later1 hb6 p0
        replace p1 := later1 hb6 p1
        replace k0 := later1 hb6 k0
        replace k1 := later1 hb6 k1
        replace q0 := later1 hb6 q0
        replace q1 := later1 hb6 q1
        replace e0 := later1 hb6 e0
        replace e1 := later1 hb6 e1
        have B6 := Lib.hid (bel_seq (bel_al B5.out _) hb6)
        have hs6 : w5.heap.size + 1 ≤ w6.heap.size := by have := hb6.size; simp only [World.size_alloc] at this; omega
        have f0 : w6.cell? ⟨w5.heap.size, 0, none⟩ = some (.int .i64 y) := later0 hb6 (by simp)
        have f1 : w6.cell? ⟨w5.heap.size, 1, none⟩ = some (.slice (some ⟨g7, 0, none⟩) N7 N7) := later0 hb6 (by simp)
        have RW6 := Lib.hid ((RW5.out.alloc _).below hb6)
        clear RW5
        have RX6 := Lib.hid ((RX5.out.alloc _).below hb6)
        clear RX5
        have RY6 := Lib.hid ((RY5.out.alloc _).below hb6)
        clear RY5
        have RG6 := Lib.hid ho
        have IG : Hid (RowIn (w5.heap.size + 1) w6.heap.size (ta)) := Lib.hid (by have := ho.rowIn; simp only [World.size_alloc] at this; exact this)
        clear ho
        clear hb6
        have hz6_p0 : w.heap.size < w6.heap.size := World.block_lt_of_cell? w6 _ p0
        have hz6_k0 : w.heap.size + 1 < w6.heap.size := World.block_lt_of_cell? w6 _ k0
        have hz6_q0 : qb < w6.heap.size := World.block_lt_of_cell? w6 _ q0
        have hz6_e0 : w4.heap.size < w6.heap.size := World.block_lt_of_cell? w6 _ e0
        have hz6_f0 : w5.heap.size < w6.heap.size := World.block_lt_of_cell? w6 _ f0
        have hM : tN ≤ 1048576 := by have h1 : tN = L.length := RG6.out.len; have h2 := HL.out; omega
        go_wp2_with fail
        refine (eqSpentList_yes x _ _ L _ (RG6.out.alloc _).sl (RW6.out.alloc _).sl).mono ?_
        rintro e w7 ⟨rfl, hb7⟩
        replace p0 := later1 hb7 p0
        replace p1 := later1 hb7 p1
        replace k0 := later1 hb7 k0
        replace k1 := later1 hb7 k1
        replace q0 := later1 hb7 q0
        replace q1 := later1 hb7 q1
        replace e0 := later1 hb7 e0
        replace e1 := later1 hb7 e1
        replace f0 := later1 hb7 f0
        replace f1 := later1 hb7 f1
        have B7 := Lib.hid (bel_seq (bel_al B6.out _) hb7)
        have hs7 : w6.heap.size + 1 ≤ w7.heap.size := by have := hb7.size; simp only [World.size_alloc] at this; omega
        have t0 : w7.cell? ⟨w6.heap.size, 0, none⟩ = some (.int .i64 x) := later0 hb7 (by simp)
        have t1 : w7.cell? ⟨w6.heap.size, 1, none⟩ = some (.slice ta tN tc) := later0 hb7 (by simp)
        have RW7 := Lib.hid ((RW6.out.alloc _).below hb7)
        clear RW6
        have RX7 := Lib.hid ((RX6.out.alloc _).below hb7)
        clear RX6
        have RY7 := Lib.hid ((RY6.out.alloc _).below hb7)
        clear RY6
        have RG7 := Lib.hid ((RG6.out.alloc _).below hb7)
        clear RG6
        clear hb7
        go_wp2_with fail
        go_region_held3 (fun W' => W'.cell? ⟨w4.heap.size, 0, none⟩ = some (.int .i64 x) ∧ W'.cell? ⟨w4.heap.size, 1, none⟩ = some (.slice (some ⟨g6, 0, none⟩) N6 N6) ∧ W'.cell? ⟨w.heap.size, 0, none⟩ = some (.int .i64 x) ∧ W'.cell? ⟨w.heap.size, 1, none⟩ = some (.slice a l.length c) ∧ Below w7.heap.size w7 W') (first | assumption | exact keep4 (bel_seq (bel4 ‹_›) hbx) e0 e1 p0 p1 | exact keep4 (bel_seq (bel4 ‹_›) hby) e0 e1 p0 p1 | exact keep4 ((Below.refl _ _).drew) e0 e1 p0 p1) (first | (go_at_call 17; (refine (toSpentList x (.slice a l.length c) l _ (HS.out.below (bel_seq B7.out (bel4 ‹_›))) hl).mono ?_); rintro e wxa ⟨Nx, gx, rfl, hNx, _, _, hox, hbx⟩) | (go_at_call 19; (refine (eqSpentList_yes x (.slice (some ⟨g6, 0, none⟩) N6 N6) (.slice (some ⟨gx, 0, none⟩) Nx Nx) l _ (RX7.out.sl.below (bel4 ‹_›)) hox.sl).mono ?_); rintro e wya ⟨rfl, hby⟩))
        have hb8 : Below w7.heap.size w7 wya := bel4 ‹_›
        clear hbx hby hox
        replace p0 := later0 hb8 p0
        replace p1 := later0 hb8 p1
        replace k0 := later0 hb8 k0
        replace k1 := later0 hb8 k1
        replace q0 := later0 hb8 q0
        replace q1 := later0 hb8 q1
        replace e0 := later0 hb8 e0
        replace e1 := later0 hb8 e1
        replace f0 := later0 hb8 f0
        replace f1 := later0 hb8 f1
        replace t0 := later0 hb8 t0
        replace t1 := later0 hb8 t1
        have B8 := Lib.hid (bel_seq B7.out hb8)
        have hs8 := hb8.size
        have RW8 := Lib.hid (RW7.out.below hb8)
        clear RW7
        have RX8 := Lib.hid (RX7.out.below hb8)
        clear RX7
        have RY8 := Lib.hid (RY7.out.below hb8)
        clear RY7
        have RG8 := Lib.hid (RG7.out.below hb8)
        clear RG7
        clear hb8
        go_wp2_with fail
        go_region_held3 (fun W' => W'.cell? ⟨w5.heap.size, 0, none⟩ = some (.int .i64 y) ∧ W'.cell? ⟨w5.heap.size, 1, none⟩ = some (.slice (some ⟨g7, 0, none⟩) N7 N7) ∧ W'.cell? ⟨w.heap.size + 1, 0, none⟩ = some (.int .i64 y) ∧ W'.cell? ⟨w.heap.size + 1, 1, none⟩ = some (.slice a' m.length c') ∧ Below wya.heap.size wya W') (first | assumption | exact keep4 (bel_seq (bel4 ‹_›) hbx) f0 f1 k0 k1 | exact keep4 (bel_seq (bel4 ‹_›) hby) f0 f1 k0 k1 | exact keep4 ((Below.refl _ _).drew) f0 f1 k0 k1) (first | (go_at_call 17; (refine (toSpentList y (.slice a' m.length c') m _ (HU.out.below (bel_seq B8.out (bel4 ‹_›))) hl2).mono ?_); rintro e wxb ⟨Nx, gx, rfl, hNx, _, _, hox, hbx⟩) | (go_at_call 19; (refine (eqSpentList_yes y (.slice (some ⟨g7, 0, none⟩) N7 N7) (.slice (some ⟨gx, 0, none⟩) Nx Nx) m _ (RY8.out.sl.below (bel4 ‹_›)) hox.sl).mono ?_); rintro e wyb ⟨rfl, hby⟩))
        have hb9 : Below wya.heap.size wya wyb := bel4 ‹_›
        clear hbx hby hox
        replace p0 := later0 hb9 p0
        replace p1 := later0 hb9 p1
        replace k0 := later0 hb9 k0
        replace k1 := later0 hb9 k1
        replace q0 := later0 hb9 q0
        replace q1 := later0 hb9 q1
        replace e0 := later0 hb9 e0
        replace e1 := later0 hb9 e1
        replace f0 := later0 hb9 f0
        replace f1 := later0 hb9 f1
        replace t0 := later0 hb9 t0
        replace t1 := later0 hb9 t1
        have B9 := Lib.hid (bel_seq B8.out hb9)
        have hs9 := hb9.size
        have RW9 := Lib.hid (RW8.out.below hb9)
        clear RW8
        have RX9 := Lib.hid (RX8.out.below hb9)
        clear RX8
        have RY9 := Lib.hid (RY8.out.below hb9)
        clear RY8
        have RG9 := Lib.hid (RG8.out.below hb9)
        clear RG8
        clear hb9
        have hNX : N6 = l.length := RX9.out.len
        have hNY : N7 = m.length := RY9.out.len
        have hXY : N6 + N7 ≤ 1048576 := by have := HLM.out; omega
        have hk1 : ¬ (1 + (N6 : Int) + (N7 : Int) < 0) := by omega
        clear hNX hNY
        go_wp2_with fail
        refine (markSpentList x _ N6 N6 _ l 1 _ RX9.out hN6 (by omega) (by omega)).mono ?_
        rintro e w10 ⟨rfl, ho10, hg10⟩
        have hbm10 := IX.out.belowG hg10 (B := w.heap.size) (by omega) (by omega)
        have B10 := Lib.hid (B9.out.trans hbm10)
        have hs10 := hg10.size
        replace p0 := laterG hg10 p0 (IX.out.cell (by dsimp only; omega))
        replace p1 := laterG hg10 p1 (IX.out.cell (by dsimp only; omega))
        replace k0 := laterG hg10 k0 (IX.out.cell (by dsimp only; omega))
        replace k1 := laterG hg10 k1 (IX.out.cell (by dsimp only; omega))
        replace q0 := laterG hg10 q0 (IX.out.cell (by dsimp only; omega))
        replace q1 := laterG hg10 q1 (IX.out.cell (by dsimp only; omega))
        replace e0 := laterG hg10 e0 (IX.out.cell (by dsimp only; omega))
        replace e1 := laterG hg10 e1 (IX.out.cell (by dsimp only; omega))
        replace f0 := laterG hg10 f0 (IX.out.cell (by dsimp only; omega))
        replace f1 := laterG hg10 f1 (IX.out.cell (by dsimp only; omega))
        replace t0 := laterG hg10 t0 (IX.out.cell (by dsimp only; omega))
        replace t1 := laterG hg10 t1 (IX.out.cell (by dsimp only; omega))
        have RW10 := Lib.hid (RW9.out.grown hg10 (IW.out.apart IX.out (by omega)))
        clear RW9
        have RY10 := Lib.hid (RY9.out.grown hg10 (IY.out.apart IX.out (by omega)))
        clear RY9
        have RG10 := Lib.hid (RG9.out.grown hg10 (IG.out.apart IX.out (by omega)))
        clear RG9
        have RX10 := Lib.hid ho10
        clear RX9 ho10 hg10 hbm10
        go_wp2_with fail
        refine (markSpentList y _ N7 N7 _ m (1 + N6) _ RY10.out hN7 (by omega) (by omega)).mono ?_
        rintro e w11 ⟨rfl, ho11, hg11⟩
        have hbm11 := IY.out.belowG hg11 (B := w.heap.size) (by omega) (by omega)
        have B11 := Lib.hid (B10.out.trans hbm11)
        have hs11 := hg11.size
        replace p0 := laterG hg11 p0 (IY.out.cell (by dsimp only; omega))
        replace p1 := laterG hg11 p1 (IY.out.cell (by dsimp only; omega))
        replace k0 := laterG hg11 k0 (IY.out.cell (by dsimp only; omega))
        replace k1 := laterG hg11 k1 (IY.out.cell (by dsimp only; omega))
        replace q0 := laterG hg11 q0 (IY.out.cell (by dsimp only; omega))
        replace q1 := laterG hg11 q1 (IY.out.cell (by dsimp only; omega))
        replace e0 := laterG hg11 e0 (IY.out.cell (by dsimp only; omega))
        replace e1 := laterG hg11 e1 (IY.out.cell (by dsimp only; omega))
        replace f0 := laterG hg11 f0 (IY.out.cell (by dsimp only; omega))
        replace f1 := laterG hg11 f1 (IY.out.cell (by dsimp only; omega))
        replace t0 := laterG hg11 t0 (IY.out.cell (by dsimp only; omega))
        replace t1 := laterG hg11 t1 (IY.out.cell (by dsimp only; omega))
        have RW11 := Lib.hid (RW10.out.grown hg11 (IW.out.apart IY.out (by omega)))
        clear RW10
        have RX11 := Lib.hid (RX10.out.grown hg11 (IX.out.apart IY.out (by omega)))
        clear RX10
        have RG11 := Lib.hid (RG10.out.grown hg11 (IG.out.apart IY.out (by omega)))
        clear RG10
        have RY11 := Lib.hid ho11
        clear RY10 ho11 hg11 hbm11
        go_wp2_with fail
        refine (eqSpentList_yes x _ _ L _ RG11.out.sl RW11.out.sl).mono ?_
        rintro e w12 ⟨rfl, hb12⟩
        replace p0 := later0 hb12 p0
        replace p1 := later0 hb12 p1
        replace k0 := later0 hb12 k0
        replace k1 := later0 hb12 k1
        replace q0 := later0 hb12 q0
        replace q1 := later0 hb12 q1
        replace e0 := later0 hb12 e0
        replace e1 := later0 hb12 e1
        replace f0 := later0 hb12 f0
        replace f1 := later0 hb12 f1
        replace t0 := later0 hb12 t0
        replace t1 := later0 hb12 t1
        have B12 := Lib.hid (bel_seq B11.out hb12)
        have hs12 := hb12.size
        have RW12 := Lib.hid (RW11.out.below hb12)
        clear RW11
        have RX12 := Lib.hid (RX11.out.below hb12)
        clear RX11
        have RY12 := Lib.hid (RY11.out.below hb12)
        clear RY11
        have RG12 := Lib.hid (RG11.out.below hb12)
        clear RG11
        clear hb12
        have hk2 : ¬ (1 + (tN : Int) < 0) := by omega
        have hk3 : ((1 + (tN : Int)) != (1 + (tN : Int))) = false := by simp
        go_wp2_with fail
        refine (markSpentList x _ tN tc _ L 1 _ RG12.out hM (by omega) (by omega)).mono ?_
        rintro e w13 ⟨rfl, ho13, hg13⟩
        have hbm13 := IG.out.belowG hg13 (B := w.heap.size) (by omega) (by omega)
        have B13 := Lib.hid (B12.out.trans hbm13)
        have hs13 := hg13.size
        replace p0 := laterG hg13 p0 (IG.out.cell (by dsimp only; omega))
        replace p1 := laterG hg13 p1 (IG.out.cell (by dsimp only; omega))
        replace k0 := laterG hg13 k0 (IG.out.cell (by dsimp only; omega))
        replace k1 := laterG hg13 k1 (IG.out.cell (by dsimp only; omega))
        replace q0 := laterG hg13 q0 (IG.out.cell (by dsimp only; omega))
        replace q1 := laterG hg13 q1 (IG.out.cell (by dsimp only; omega))
        replace e0 := laterG hg13 e0 (IG.out.cell (by dsimp only; omega))
        replace e1 := laterG hg13 e1 (IG.out.cell (by dsimp only; omega))
        replace f0 := laterG hg13 f0 (IG.out.cell (by dsimp only; omega))
        replace f1 := laterG hg13 f1 (IG.out.cell (by dsimp only; omega))
        replace t0 := laterG hg13 t0 (IG.out.cell (by dsimp only; omega))
        replace t1 := laterG hg13 t1 (IG.out.cell (by dsimp only; omega))
        have RW13 := Lib.hid (RW12.out.grown hg13 (IW.out.apart IG.out (by omega)))
        clear RW12
        have RX13 := Lib.hid (RX12.out.grown hg13 (IX.out.apart IG.out (by omega)))
        clear RX12
        have RY13 := Lib.hid (RY12.out.grown hg13 (IY.out.apart IG.out (by omega)))
        clear RY12
        have RG13 := Lib.hid ho13
        clear RG12 ho13 hg13 hbm13
        go_wp2_with fail
        refine (heldSpentList x _ tN 1 _ RG13.out.sl hM (by omega) (by omega)).mono ?_
        rintro e w14 ⟨rfl, hb14⟩
        replace p0 := later0 hb14 p0
        replace p1 := later0 hb14 p1
        replace k0 := later0 hb14 k0
        replace k1 := later0 hb14 k1
        replace q0 := later0 hb14 q0
        replace q1 := later0 hb14 q1
        replace e0 := later0 hb14 e0
        replace e1 := later0 hb14 e1
        replace f0 := later0 hb14 f0
        replace f1 := later0 hb14 f1
        replace t0 := later0 hb14 t0
        replace t1 := later0 hb14 t1
        have B14 := Lib.hid (bel_seq B13.out hb14)
        have hs14 := hb14.size
        have RW14 := Lib.hid (RW13.out.below hb14)
        clear RW13
        have RX14 := Lib.hid (RX13.out.below hb14)
        clear RX13
        have RY14 := Lib.hid (RY13.out.below hb14)
        clear RY13
        have RG14 := Lib.hid (RG13.out.below hb14)
        clear RG13
        clear hb14
        go_wp2_with fail
        go_cut [15, 16] from 94 to 101 (fun sp sc wx => sc = .int .i64 r ∧ Res w14 wx x L sp)
        case first =>
          go_region_held3 (fun W' => W'.cell? ⟨w.heap.size, 0, none⟩ = some (.int .i64 x) ∧ W'.cell? ⟨w.heap.size, 1, none⟩ = some (.slice a l.length c) ∧ W'.cell? ⟨w.heap.size + 1, 0, none⟩ = some (.int .i64 y) ∧ W'.cell? ⟨w.heap.size + 1, 1, none⟩ = some (.slice a' m.length c') ∧ Below w14.heap.size w14 W') (first | assumption | exact keep4 h1C p0 p1 k0 k1 | exact keep4 (bel_al h1C _) p0 p1 k0 k1 | exact keep4 (bel_al h1C _).drew p0 p1 k0 k1 | exact keep4 h1B p0 p1 k0 k1 | exact keep4 (bel_al h1B _) p0 p1 k0 k1 | exact keep4 (bel_al h1B _).drew p0 p1 k0 k1 | exact keep4 h1A p0 p1 k0 k1 | exact keep4 (bel_al h1A _) p0 p1 k0 k1 | exact keep4 (bel_al h1A _).drew p0 p1 k0 k1 | exact keep4 (Below.refl _ _).drew p0 p1 k0 k1 | exact keep4 (bel_al (Below.refl _ _).drew _) p0 p1 k0 k1 | exact keep4 (bel_al (Below.refl _ _).drew _).drew p0 p1 k0 k1 | exact keep4 (Below.refl _ _) p0 p1 k0 k1 | exact keep4 (bel_al (Below.refl _ _) _) p0 p1 k0 k1 | exact keep4 (bel_al (Below.refl _ _) _).drew p0 p1 k0 k1 | exact keep4 ((h1C.setCell (by first | exact Nat.le_refl _ | exact h1A.size | exact h1B.size) _).setCell (by first | exact Nat.le_refl _ | exact h1A.size | exact h1B.size) _) p0 p1 k0 k1) (first | (go_at_call 17; (with_reducible refine (toSpentList x (.slice a l.length c) l _ (HS.out.below (bel_seq B14.out (bel4 ‹_›))) hl).mono ?_); rintro e wA ⟨NA, gd, rfl, hNA, _, _, hoA, hbA⟩; have h1A : Below w14.heap.size w14 wA := bel_seq (bel4 ‹_›) hbA; (first | have TD := (Two.new w14 (.int .i64 0) (.slice none 0 0) 27).below hbA | have TD := (Two.newD w14 (.int .i64 0) (.slice none 0 0) 27).below hbA | skip)) | (go_at_call 17; (with_reducible refine (toSpentList y (.slice a' m.length c') m _ (HU.out.below (bel_seq B14.out (bel4 ‹_›))) hl2).mono ?_); rintro e wB ⟨NB, ge, rfl, hNB, _, _, hoB, hbB⟩; have h1B : Below w14.heap.size w14 wB := bel_seq (bel4 ‹_›) hbB; (first | have TD := (Two.new wA (.int .i64 0) (.slice none 0 0) 27).below hbB | have TD := (Two.newD wA (.int .i64 0) (.slice none 0 0) 27).below hbB | have TD := TD.below hbB | skip)) | (go_at_call 34; (refine (C2'.out _ _ _ (by first | exact hoA.sl.below hbB | exact (hoA.sl.below hbB).alloc _ | exact (hoA.sl.alloc _).below hbB) (by first | exact hoB.sl | exact hoB.sl.alloc _)).mono ?_); rintro e wC ⟨aoC, NC, cC, rfl, hoC, hbC⟩; have h1C : Below w14.heap.size w14 wC := bel_seq (bel4 ‹_›) hbC; (first | have TD := (Two.new wB (.int .i64 0) (.slice none 0 0) 27).below hbC | have TD := (Two.newD wB (.int .i64 0) (.slice none 0 0) 27).below hbC | have TD := TD.below hbC | skip); (first | (have hzq := TD.lt; obtain ⟨tq0, tq1, tr0, tr1⟩ := TD) | skip)) | fail)
          all_goals
            go_wp2_with fail
            go_meet
            case rel =>
              refine ⟨rfl, ?_⟩
              first
              | exact res_alloc h1C (by have iA := hbA.size; have iB := hbB.size; (try simp at iA iB); first | omega | (simp; done) | (simp; omega)) hoC rfl
              | exact res_set h1C (by have iA := hbA.size; have iB := hbB.size; (try simp at iA iB); first | omega | (simp; done) | (simp; omega)) hoC (by have iA := hbA.size; have iB := hbB.size; (try simp at iA iB); first | omega | (simp; done) | (simp; omega)) (by have iA := hbA.size; have iB := hbB.size; (try simp at iA iB); first | omega | (simp; done) | (simp; omega)) hzq tq0 tq1 rfl
        case rest =>
          obtain ⟨w15, rfl⟩ : ∃ q, q = wc := ⟨wc, rfl⟩
          obtain ⟨rfl, ub, ua, uN, uc, ul, uh, rfl, u0n, u1n, ho, hri, ub1, ub2, ub3, ub4, ub5, hb15⟩ := hcut
          replace p0 := later0 hb15 p0
          replace p1 := later0 hb15 p1
          replace k0 := later0 hb15 k0
          replace k1 := later0 hb15 k1
          replace q0 := later0 hb15 q0
          replace q1 := later0 hb15 q1
          replace e0 := later0 hb15 e0
          replace e1 := later0 hb15 e1
          replace f0 := later0 hb15 f0
          replace f1 := later0 hb15 f1
          replace t0 := later0 hb15 t0
          replace t1 := later0 hb15 t1
          have B15 := Lib.hid (bel_seq B14.out hb15)
          have hs15 := hb15.size
          have RW15 := Lib.hid (RW14.out.below hb15)
          clear RW14
          have RX15 := Lib.hid (RX14.out.below hb15)
          clear RX14
          have RY15 := Lib.hid (RY14.out.below hb15)
          clear RY14
          have RG15 := Lib.hid (RG14.out.below hb15)
          clear RG14
          clear hb15
          have u0 := u0n
          have u1 := u1n
          clear u0n u1n
          have RJ15 := Lib.hid ho
          have IJ := Lib.hid hri
          clear ho hri
          go_wp2_with fail
          refine (eqSpentList_yes x _ _ L _ RJ15.out.sl RW15.out.sl).mono ?_
          rintro e w16 ⟨rfl, hb16⟩
          replace p0 := later0 hb16 p0
          replace p1 := later0 hb16 p1
          replace k0 := later0 hb16 k0
          replace k1 := later0 hb16 k1
          replace q0 := later0 hb16 q0
          replace q1 := later0 hb16 q1
          replace e0 := later0 hb16 e0
          replace e1 := later0 hb16 e1
          replace f0 := later0 hb16 f0
          replace f1 := later0 hb16 f1
          replace t0 := later0 hb16 t0
          replace t1 := later0 hb16 t1
          replace u0 := later0 hb16 u0
          replace u1 := later0 hb16 u1
          have B16 := Lib.hid (bel_seq B15.out hb16)
          have hs16 := hb16.size
          have RW16 := Lib.hid (RW15.out.below hb16)
          clear RW15
          have RX16 := Lib.hid (RX15.out.below hb16)
          clear RX15
          have RY16 := Lib.hid (RY15.out.below hb16)
          clear RY15
          have RG16 := Lib.hid (RG15.out.below hb16)
          clear RG15
          have RJ16 := Lib.hid (RJ15.out.below hb16)
          clear RJ15
          clear hb16
          go_wp2_with fail
          refine (heldSpentList x _ tN 1 _ RG16.out.sl hM (by omega) (by omega)).mono ?_
          rintro e w17 ⟨rfl, hb17⟩
          replace p0 := later0 hb17 p0
          replace p1 := later0 hb17 p1
          replace k0 := later0 hb17 k0
          replace k1 := later0 hb17 k1
          replace q0 := later0 hb17 q0
          replace q1 := later0 hb17 q1
          replace e0 := later0 hb17 e0
          replace e1 := later0 hb17 e1
          replace f0 := later0 hb17 f0
          replace f1 := later0 hb17 f1
          replace t0 := later0 hb17 t0
          replace t1 := later0 hb17 t1
          replace u0 := later0 hb17 u0
          replace u1 := later0 hb17 u1
          have B17 := Lib.hid (bel_seq B16.out hb17)
          have hs17 := hb17.size
          have RW17 := Lib.hid (RW16.out.below hb17)
          clear RW16
          have RX17 := Lib.hid (RX16.out.below hb17)
          clear RX16
          have RY17 := Lib.hid (RY16.out.below hb17)
          clear RY16
          have RG17 := Lib.hid (RG16.out.below hb17)
          clear RG16
          have RJ17 := Lib.hid (RJ16.out.below hb17)
          clear RJ16
          clear hb17
          go_wp2
          go_ret
          exact ⟨rfl, B17.out⟩
/-! ### THE ROW's STEP: the guide's own way -/
theorem own : ownKnob Try.prog.godebug = none := by kernel_rfl
theorem laidOut : laidOutB Try.prog = true := by kernel_rfl
set_option maxRecDepth 100000 in
theorem lifted (os : Os) (started : os.Started) (H : Type) (enc : TypeId × Value → H) :
    ReturnsInHanded {} Try.checked os 8 .any (Rows.fnExactMergeSpentSpec.pre6 enc Try.prog Try.f8 Rows.fnExactMergeSpentRow.domain false) (Rows.fnExactMergeSpentSpec.post enc Try.prog Try.f8 false true false false) := by
  refine returnsInHanded_of_change (C := Try.checked) own started (by kernel_rfl) Try.func8
    (ChangeSpec.witness6 (enc := enc) (C := Try.checked) false ⟨#[], #[.agg #[.int .i64 0, .slice none 0 0], .agg #[.int .i64 0, .slice none 0 0]], []⟩ 8 (by kernel_rfl) (by kernel_rfl) (by kernel_rfl) (by kernel_rfl)) ?_
  intro W base args ds gs before hval0 hW hcnd _
  have hval : ∀ (j : Nat) t v, Try.f8.params[j]? = some t → args[j]? = some v → Value.okWide Try.prog W .any base t v := hval0
  have hW' := hW
  obtain ⟨p, q, hA0, hV, rfl, hfz, hnd⟩ := hW
  have hA : DataW.TrodAll enc Try.prog W 0 (fun _ => true) true Try.f8.params.toList args.toList ds p := hA0
  rw [Try.params8] at hA hval
  obtain ⟨v0, vs0, d0, ds0, p0, q0, hargs, rfl, rfl, h0, r0⟩ := trodAll_cons hA
  obtain ⟨v1, vs1, d1, ds1, p1, q1, rfl, rfl, rfl, h1, r1⟩ := trodAll_cons r0
  obtain ⟨rfl, rfl, rfl⟩ := trodAll_nil r1
  obtain rfl : args = #[v0, v1] := by cases args; simp_all
  obtain ⟨rfl, rfl⟩ := trodVars_none hV
  have k0 := h0
  have lt0 : ∀ x ∈ p0, x.block < W.heap.size := by obtain ⟨m, hm⟩ := k0; exact DataW.trod_lt m _ _ _ hm
  obtain ⟨c0_0, c0_1, y0_0, y0_1, fuel0, rfl, e0, pe0, g0_0, g0_1⟩ := open_agg2 Try.underlying24 (by kernel_rfl) (by kernel_rfl) (hval 0 24 v0 rfl rfl) h0
  obtain ⟨a0_0, rfl, w0_0⟩ := intOfRead Try.underlying3 g0_0
  obtain ⟨z0_1, s0_1, wf0_1⟩ := slOfRead Try.underlying22 Try.underlying3 (by kernel_rfl) g0_1 (fun x hx => lt0 x (by rw [pe0]; simp [hx]))
  have k1 := h1
  have lt1 : ∀ x ∈ p1, x.block < W.heap.size := by obtain ⟨m, hm⟩ := k1; exact DataW.trod_lt m _ _ _ hm
  obtain ⟨c1_0, c1_1, y1_0, y1_1, fuel1, rfl, e1, pe1, g1_0, g1_1⟩ := open_agg2 Try.underlying24 (by kernel_rfl) (by kernel_rfl) (hval 1 24 v1 rfl rfl) h1
  obtain ⟨a1_0, rfl, w1_0⟩ := intOfRead Try.underlying3 g1_0
  obtain ⟨z1_1, s1_1, wf1_1⟩ := slOfRead Try.underlying22 Try.underlying3 (by kernel_rfl) g1_1 (fun x hx => lt1 x (by rw [pe1]; simp [hx]))
  clear hA0 hval0
  refine (walk a0_0 _ z0_1 a1_0 _ z1_1 W s0_1 s1_1).mono fun e W' ⟨he, bel⟩ => ?_
  subst he
  exact ⟨_, rfl, _, _, _, [], _, [], hW', trodAll_mk1 (shut_bool Try.underlying4 _), (trodAll_cons_mk (Below.trod laidOut (by kernel_rfl) (of_decide_eq_true (by kernel_rfl)) k0 bel lt0) (trodAll_cons_mk (Below.trod laidOut (by kernel_rfl) (of_decide_eq_true (by kernel_rfl)) k1 bel lt1) trodAll_mk0)), rfl, bel.frame _, fun h => by cases h⟩

theorem over : Rows.fnExactMergeSpentRow.holds Try.pinned (OpenSpec.ofChange Rows.fnExactMergeSpentSpec) :=
  OpenClaim.holds_of_wide 8 Try.f8 rfl rfl rfl rfl rfl rfl rfl ⟨rfl, rfl, rfl, rfl, rfl⟩ rfl rfl rfl rfl rfl (by kernel_rfl) Try.func8 (by kernel_rfl)
    (of_decide_eq_true (by kernel_rfl)) (by unfold Func.isWrapper; first | (rw [if_pos (by decide +kernel)]; kernel_rfl) | (rw [if_neg (by decide +kernel)]; exact ⟨rfl, rfl⟩))
    (fun os started H enc _ => lifted os started H enc)

/-- the statement -/
theorem proved : Rows.FnExactMergeSpentSaid := over
end Go.Proofs.Ytdodheahckpkfaa.fnExactMergeSpent
