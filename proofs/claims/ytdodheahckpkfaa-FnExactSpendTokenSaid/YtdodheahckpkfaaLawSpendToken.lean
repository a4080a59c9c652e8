/- For all arguments the program's SpendToken returns what the reference's returns, leaves its argument alone and returns memory of its own; no condition. -/
import Derived.Test.YtdodheahckpkfaaRows
import Derived.Test.YtdodheahckpkfaaSpentLaw
import Derived.Test.YtdodheahckpkfaaSpendLaw
import Derived.Test.YtdodheahckpkfaaRowIn
import Derived.Test.YtdodheahckpkfaaOpen
import Derived.Deep.RegionHeld3
import Derived.Deep.CutRange
namespace Go.Proofs.Ytdodheahckpkfaa.fnExactSpendToken
open Go.ChangeShapes Go.WideShapes Go.ChangeAt Go.RowKit Go.Joins
set_option linter.unusedVariables false
set_option maxRecDepth 100000 in
set_option maxHeartbeats 1000000 in
theorem walk (x : Int) (v : Value) (l : List Int) (s sn sv : Int) (w : World) (hs : Sl .i64 w v l) : Calls Try.prog 7 #[.agg #[.int .i64 x, v], .int .i64 s, .agg #[.int .i64 sn, .int .i64 sv]] w fun e w' => e = .returned (.bool true) ∧ Below w.heap.size w w' := by
  obtain ⟨a, c, rfl, hm⟩ := hs.shape
  have HS := Lib.hid hs
  have B0 := Lib.hid (Below.refl w.heap.size w)
  have CS := szSpentList x _ l 1048576 _ ((hs.alloc (.cells #[.int .i64 x, .slice a l.length c] 24)).alloc (.cells #[.int .i64 sn, .int .i64 sv] 39)) (by omega) (by omega)
  by_cases hlt : (1048576 : Int) < (l.length : Int)
  · rw [if_pos hlt] at CS
    have CS' := Lib.hid CS
    clear CS hlt hs hm
    go_enter Try.func7, Try.ntmps7
    go_wp2_with fail
    refine CS'.out.mono ?_
    rintro e w1 ⟨rfl, hb1⟩
    go_wp2
    go_ret
    exact ⟨rfl, (by repeat (first | exact Below.refl _ _ | refine bel_al ?_ _ | refine Below.setCell ?_ (by first | (simp; done) | (simp; omega)) _ | refine Below.drew ?_ | refine bel_drewN ?_ _ | refine bel_seq ?_ (hb1)))⟩
  · rw [if_neg hlt] at CS
    have CS' := Lib.hid CS
    have hl : l.length ≤ 1048576 := by omega
    have hlt' : (l.length : Int) ≤ 1048576 := by omega
    have C1 := fun v W (h : Sl .i64 W v l) => specSpendToken x v l s sn sv W h hl
    have C2 := fun v W (h : Sl .i64 W v l) => implSpendToken x v l s sn sv W h hl
    have hlen := spend_len x l (validTokenI s sn sv) sn hl
    obtain ⟨⟨L, r⟩, hx⟩ : ∃ y, y = spendI x l (validTokenI s sn sv) sn := ⟨_, rfl⟩
    rw [← hx] at hlen
    simp only [← hx] at C1 C2
    have C1' := Lib.hid C1
    have C2' := Lib.hid C2
    have HL : Hid (L.length ≤ 1048576) := Lib.hid hlen
    have hrr : (r != r) = false := by simp
    clear C1 C2 CS hlt hs hm hx hlen
    go_enter Try.func7, Try.ntmps7
    go_wp2_with fail
    refine CS'.out.mono ?_
    rintro e w1 ⟨rfl, hb1⟩
    have B1 := Lib.hid (bel_seq (bel_al (bel_al B0.out _) _) hb1)
    have hs1 : w.heap.size + 2 ≤ w1.heap.size := by have := hb1.size; simp only [World.size_alloc] at this; omega
    have p0 : w1.cell? ⟨w.heap.size, 0, none⟩ = some (.int .i64 x) := later0 hb1 (by simp)
    have p1 : w1.cell? ⟨w.heap.size, 1, none⟩ = some (.slice a l.length c) := later0 hb1 (by simp)
    have k0 : w1.cell? ⟨w.heap.size + 1, 0, none⟩ = some (.int .i64 sn) := later0 hb1 (by simp)
    have k1 : w1.cell? ⟨w.heap.size + 1, 1, none⟩ = some (.int .i64 sv) := later0 hb1 (by simp)
    clear hb1
    go_wp2_with fail
    go_cut [8, 9] from 23 to 31 (fun sp sc wx => sc = .int .i64 r ∧ Res w1 wx x L sp)
    case first =>
      go_region_held3 (fun W' => W'.cell? ⟨w.heap.size, 0, none⟩ = some (.int .i64 x) ∧ W'.cell? ⟨w.heap.size, 1, none⟩ = some (.slice a l.length c) ∧ W'.cell? ⟨w.heap.size + 1, 0, none⟩ = some (.int .i64 sn) ∧ W'.cell? ⟨w.heap.size + 1, 1, none⟩ = some (.int .i64 sv) ∧ Below w1.heap.size w1 W') (first | assumption | exact keep4 h1C p0 p1 k0 k1 | exact keep4 (bel_al h1C _) p0 p1 k0 k1 | exact keep4 (bel_al h1C _).drew p0 p1 k0 k1 | exact keep4 h1B p0 p1 k0 k1 | exact keep4 (bel_al h1B _) p0 p1 k0 k1 | exact keep4 (bel_al h1B _).drew p0 p1 k0 k1 | exact keep4 h1A p0 p1 k0 k1 | exact keep4 (bel_al h1A _) p0 p1 k0 k1 | exact keep4 (bel_al h1A _).drew p0 p1 k0 k1 | exact keep4 (Below.refl _ _).drew p0 p1 k0 k1 | exact keep4 (bel_al (Below.refl _ _).drew _) p0 p1 k0 k1 | exact keep4 (bel_al (Below.refl _ _).drew _).drew p0 p1 k0 k1 | exact keep4 (Below.refl _ _) p0 p1 k0 k1 | exact keep4 (bel_al (Below.refl _ _) _) p0 p1 k0 k1 | exact keep4 (bel_al (Below.refl _ _) _).drew p0 p1 k0 k1 | exact keep4 ((h1C.setCell (by first | exact Nat.le_refl _ | exact h1A.size | exact h1B.size) _).setCell (by first | exact Nat.le_refl _ | exact h1A.size | exact h1B.size) _) p0 p1 k0 k1) (first | (go_at_call 17; (refine (toSpentList x (.slice a l.length c) l _ (HS.out.below (bel_seq B1.out (bel4 ‹_›))) hl).mono ?_); rintro e wA ⟨NA, ga, rfl, hNA, _, _, hoA, hbA⟩; have h1A : Below w1.heap.size w1 wA := bel_seq (bel4 ‹_›) hbA; (first | have TD := (Two.new w1 (.int .i64 0) (.slice none 0 0) 27).below hbA | have TD := (Two.newD w1 (.int .i64 0) (.slice none 0 0) 27).below hbA | skip)) | (go_at_call 29; (refine (toToken sn sv _).mono ?_); rintro e wB ⟨rfl, hbB⟩; have h1B : Below w1.heap.size w1 wB := bel_seq (bel4 ‹_›) hbB; (first | have TD := (Two.new wA (.int .i64 0) (.slice none 0 0) 27).below hbB | have TD := (Two.newD wA (.int .i64 0) (.slice none 0 0) 27).below hbB | have TD := TD.below hbB | skip)) | (go_at_call 28; (refine (C1'.out _ _ (by first | exact (hoA.sl).below hbB | exact ((hoA.sl).below hbB).alloc _ | exact ((hoA.sl).alloc _).below hbB)).mono ?_); rintro e wC ⟨aoC, NC, cC, rfl, hoC, hbC⟩; have h1C : Below w1.heap.size w1 wC := bel_seq (bel4 ‹_›) hbC; (first | have TD := (Two.new wB (.int .i64 0) (.slice none 0 0) 27).below hbC | have TD := (Two.newD wB (.int .i64 0) (.slice none 0 0) 27).below hbC | have TD := TD.below hbC | skip); (first | (have hzq := TD.lt; obtain ⟨tq0, tq1, tr0, tr1⟩ := TD) | skip)) | fail)
      all_goals
        go_wp2_with fail
        go_meet
        case rel =>
          refine ⟨rfl, ?_⟩
          first
          | exact res_alloc h1C (by have iA := hbA.size; have iB := hbB.size; (try simp at iA iB); first | omega | (simp; done) | (simp; omega)) hoC rfl
          | exact res_set h1C (by have iA := hbA.size; have iB := hbB.size; (try simp at iA iB); first | omega | (simp; done) | (simp; omega)) hoC (by have iA := hbA.size; have iB := hbB.size; (try simp at iA iB); first | omega | (simp; done) | (simp; omega)) (by have iA := hbA.size; have iB := hbB.size; (try simp at iA iB); first | omega | (simp; done) | (simp; omega)) hzq tq0 tq1 rfl
    case rest =>
      obtain ⟨w5, rfl⟩ : ∃ q, q = wc := ⟨wc, rfl⟩
      obtain ⟨rfl, qb, qa, qN, qc, ql, qh, rfl, q0n, q1n, ho, hri, qb1, qb2, qb3, qb4, qb5, hb5⟩ := hcut
      replace p0 := later0 hb5 p0
      replace p1 := later0 hb5 p1
      replace k0 := later0 hb5 k0
      replace k1 := later0 hb5 k1
      have B5 := Lib.hid (bel_seq B1.out hb5)
      have hs5 := hb5.size
      clear hb5
      have q0 := q0n
      have q1 := q1n
      clear q0n q1n
      have RW5 := Lib.hid ho
      have IW := Lib.hid hri
      clear ho hri
      go_wp2_with fail
      refine (toSpentList x (.slice a l.length c) l _ (HS.out.below B5.out) hl).mono ?_
      rintro e w6 ⟨N6, g6, rfl, hN6, _, _, ho, hb6⟩
      replace p0 := later0 hb6 p0
      replace p1 := later0 hb6 p1
      replace k0 := later0 hb6 k0
      replace k1 := later0 hb6 k1
      replace q0 := later0 hb6 q0
      replace q1 := later0 hb6 q1
      have B6 := Lib.hid (bel_seq B5.out hb6)
      have hs6 := hb6.size
      have RW6 := Lib.hid (RW5.out.below hb6)
      clear RW5
      have RX6 := Lib.hid ho
      have IX : Hid (RowIn (w5.heap.size) w6.heap.size (some ⟨g6, 0, none⟩)) := Lib.hid (by have := ho.rowIn; exact this)
      clear ho
      clear hb6
      have hz6_p0 : w.heap.size < w6.heap.size := World.block_lt_of_cell? w6 _ p0
      have hz6_k0 : w.heap.size + 1 < w6.heap.size := World.block_lt_of_cell? w6 _ k0
      have hz6_q0 : qb < w6.heap.size := World.block_lt_of_cell? w6 _ q0
      go_wp2_with fail
      generalize hw7 : w6.alloc (.cells #[.int .i64 x, .slice (some ⟨g6, 0, none⟩) N6 N6] 27) = w7
      have hb7 : Below (w6.alloc (.cells #[.int .i64 x, .slice (some ⟨g6, 0, none⟩) N6 N6] 27)).heap.size (w6.alloc (.cells #[.int .i64 x, .slice (some ⟨g6, 0, none⟩) N6 N6] 27)) w7 := by rw [← hw7]; exact Below.refl _ _
      clear hw7
      replace p0 := later1 hb7 p0
      replace p1 := later1 hb7 p1
      replace k0 := later1 hb7 k0
      replace k1 := later1 hb7 k1
      replace q0 := later1 hb7 q0
      replace q1 := later1 hb7 q1
      have B7 := Lib.hid (bel_seq (bel_al B6.out _) hb7)
      have hs7 : w6.heap.size + 1 ≤ w7.heap.size := by have := hb7.size; simp only [World.size_alloc] at this; omega
      have e0 : w7.cell? ⟨w6.heap.size, 0, none⟩ = some (.int .i64 x) := later0 hb7 (by simp)
      have e1 : w7.cell? ⟨w6.heap.size, 1, none⟩ = some (.slice (some ⟨g6, 0, none⟩) N6 N6) := later0 hb7 (by simp)
      have RW7 := Lib.hid ((RW6.out.alloc _).below hb7)
      clear RW6
      have RX7 := Lib.hid ((RX6.out.alloc _).below hb7)
      clear RX6
      clear hb7
      go_cut [11, 12] from 34 to 41 (fun sp sc wx => sc = .int .i64 r ∧ Res w7 wx x L sp)
      case first =>
        go_region_held3 (fun W' => W'.cell? ⟨w6.heap.size, 0, none⟩ = some (.int .i64 x) ∧ W'.cell? ⟨w6.heap.size, 1, none⟩ = some (.slice (some ⟨g6, 0, none⟩) N6 N6) ∧ W'.cell? ⟨w.heap.size + 1, 0, none⟩ = some (.int .i64 sn) ∧ W'.cell? ⟨w.heap.size + 1, 1, none⟩ = some (.int .i64 sv) ∧ Below w7.heap.size w7 W') (first | assumption | exact keep4 h1C e0 e1 k0 k1 | exact keep4 (bel_al h1C _) e0 e1 k0 k1 | exact keep4 (bel_al h1C _).drew e0 e1 k0 k1 | exact keep4 h1B e0 e1 k0 k1 | exact keep4 (bel_al h1B _) e0 e1 k0 k1 | exact keep4 (bel_al h1B _).drew e0 e1 k0 k1 | exact keep4 (Below.refl _ _).drew e0 e1 k0 k1 | exact keep4 (bel_al (Below.refl _ _).drew _) e0 e1 k0 k1 | exact keep4 (bel_al (Below.refl _ _).drew _).drew e0 e1 k0 k1 | exact keep4 (Below.refl _ _) e0 e1 k0 k1 | exact keep4 (bel_al (Below.refl _ _) _) e0 e1 k0 k1 | exact keep4 (bel_al (Below.refl _ _) _).drew e0 e1 k0 k1 | exact keep4 ((h1C.setCell (by first | exact Nat.le_refl _ | exact h1B.size) _).setCell (by first | exact Nat.le_refl _ | exact h1B.size) _) e0 e1 k0 k1) (first | (go_at_call 29; (refine (toToken sn sv _).mono ?_); rintro e wB ⟨rfl, hbB⟩; have h1B : Below w7.heap.size w7 wB := bel_seq (bel4 ‹_›) hbB; (first | have TD := (Two.new w7 (.int .i64 0) (.slice none 0 0) 27).below hbB | have TD := (Two.newD w7 (.int .i64 0) (.slice none 0 0) 27).below hbB | skip)) | (go_at_call 30; (refine (C2'.out _ _ (by first | exact (RX7.out.sl.below (show Below w7.heap.size w7 _ from by repeat (first | exact Below.refl _ _ | refine Below.drew ?_ | refine bel_al ?_ _))).below hbB | exact ((RX7.out.sl.below (show Below w7.heap.size w7 _ from by repeat (first | exact Below.refl _ _ | refine Below.drew ?_ | refine bel_al ?_ _))).below hbB).alloc _ | exact ((RX7.out.sl.below (show Below w7.heap.size w7 _ from by repeat (first | exact Below.refl _ _ | refine Below.drew ?_ | refine bel_al ?_ _))).alloc _).below hbB)).mono ?_); rintro e wC ⟨aoC, NC, cC, rfl, hoC, hbC⟩; have h1C : Below w7.heap.size w7 wC := bel_seq (bel4 ‹_›) hbC; (first | have TD := (Two.new wB (.int .i64 0) (.slice none 0 0) 27).below hbC | have TD := (Two.newD wB (.int .i64 0) (.slice none 0 0) 27).below hbC | have TD := TD.below hbC | skip); (first | (have hzq := TD.lt; obtain ⟨tq0, tq1, tr0, tr1⟩ := TD) | skip)) | fail)
        all_goals
          go_wp2_with fail
          go_meet
          case rel =>
            refine ⟨rfl, ?_⟩
            first
            | exact res_alloc h1C (by have iB := hbB.size; (try simp at iB); first | omega | (simp; done) | (simp; omega)) hoC rfl
            | exact res_set h1C (by have iB := hbB.size; (try simp at iB); first | omega | (simp; done) | (simp; omega)) hoC (by have iB := hbB.size; (try simp at iB); first | omega | (simp; done) | (simp; omega)) (by have iB := hbB.size; (try simp at iB); first | omega | (simp; done) | (simp; omega)) hzq tq0 tq1 rfl
      case rest =>
        obtain ⟨w8, rfl⟩ : ∃ q, q = wc := ⟨wc, rfl⟩
        obtain ⟨rfl, tb, ta, tN, tc, tl, th, rfl, t0n, t1n, ho, hri, tb1, tb2, tb3, tb4, tb5, hb8⟩ := hcut
        replace p0 := later0 hb8 p0
        replace p1 := later0 hb8 p1
        replace k0 := later0 hb8 k0
        replace k1 := later0 hb8 k1
        replace q0 := later0 hb8 q0
        replace q1 := later0 hb8 q1
        replace e0 := later0 hb8 e0
        replace e1 := later0 hb8 e1
        have B8 := Lib.hid (bel_seq B7.out hb8)
        have hs8 := hb8.size
        have RW8 := Lib.hid (RW7.out.below hb8)
        clear RW7
        have RX8 := Lib.hid (RX7.out.below hb8)
        clear RX7
        clear hb8
        have t0 := t0n
        have t1 := t1n
        clear t0n t1n
        have RG8 := Lib.hid ho
        have IG := Lib.hid hri
        clear ho hri
        have hM : tN ≤ 1048576 := by have h1 := RG8.out.len; have h2 := HL.out; omega
        go_wp2_with fail
        refine (eqSpentList_yes x _ _ L _ RG8.out.sl RW8.out.sl).mono ?_
        rintro e w9 ⟨rfl, hb9⟩
        replace p0 := later0 hb9 p0
        replace p1 := later0 hb9 p1
        replace k0 := later0 hb9 k0
        replace k1 := later0 hb9 k1
        replace q0 := later0 hb9 q0
        replace q1 := later0 hb9 q1
        replace e0 := later0 hb9 e0
        replace e1 := later0 hb9 e1
        replace t0 := later0 hb9 t0
        replace t1 := later0 hb9 t1
        have B9 := Lib.hid (bel_seq B8.out hb9)
        have hs9 := hb9.size
        have RW9 := Lib.hid (RW8.out.below hb9)
        clear RW8
        have RX9 := Lib.hid (RX8.out.below hb9)
        clear RX8
        have RG9 := Lib.hid (RG8.out.below hb9)
        clear RG8
        clear hb9
        go_wp2_with fail
        go_region_held3 (fun W' => W'.cell? ⟨w6.heap.size, 0, none⟩ = some (.int .i64 x) ∧ W'.cell? ⟨w6.heap.size, 1, none⟩ = some (.slice (some ⟨g6, 0, none⟩) N6 N6) ∧ W'.cell? ⟨w.heap.size, 0, none⟩ = some (.int .i64 x) ∧ W'.cell? ⟨w.heap.size, 1, none⟩ = some (.slice a l.length c) ∧ Below w9.heap.size w9 W') (first | assumption | exact keep4 (bel_seq (bel4 ‹_›) hbx) e0 e1 p0 p1 | exact keep4 (bel_seq (bel4 ‹_›) hby) e0 e1 p0 p1 | exact keep4 ((Below.refl _ _).drew) e0 e1 p0 p1) (first | (go_at_call 17; (refine (toSpentList x (.slice a l.length c) l _ (HS.out.below (bel_seq B9.out (bel4 ‹_›))) hl).mono ?_); rintro e wx ⟨Nx, gx, rfl, hNx, _, _, hox, hbx⟩) | (go_at_call 19; (refine (eqSpentList_yes x (.slice (some ⟨g6, 0, none⟩) N6 N6) (.slice (some ⟨gx, 0, none⟩) Nx Nx) l _ (RX9.out.sl.below (bel4 ‹_›)) hox.sl).mono ?_); rintro e wy ⟨rfl, hby⟩))
        have hb10 : Below w9.heap.size w9 wy := bel4 ‹_›
        clear hbx hby hox
        replace p0 := later0 hb10 p0
        replace p1 := later0 hb10 p1
        replace k0 := later0 hb10 k0
        replace k1 := later0 hb10 k1
        replace q0 := later0 hb10 q0
        replace q1 := later0 hb10 q1
        replace e0 := later0 hb10 e0
        replace e1 := later0 hb10 e1
        replace t0 := later0 hb10 t0
        replace t1 := later0 hb10 t1
        have B10 := Lib.hid (bel_seq B9.out hb10)
        have hs10 := hb10.size
        have RW10 := Lib.hid (RW9.out.below hb10)
        clear RW9
        have RX10 := Lib.hid (RX9.out.below hb10)
        clear RX9
        have RG10 := Lib.hid (RG9.out.below hb10)
        clear RG9
        clear hb10
        have hk1 : ¬ (1 + (N6 : Int) < 0) := by omega
        go_wp2_with fail
        refine (markSpentList x _ N6 N6 _ l 1 _ RX10.out hN6 (by omega) (by omega)).mono ?_
        rintro e w11 ⟨rfl, ho11, hg11⟩
        have hbm11 := IX.out.belowG hg11 (B := w.heap.size) (by omega) (by omega)
        have B11 := Lib.hid (B10.out.trans hbm11)
        have hs11 := hg11.size
        replace p0 := laterG hg11 p0 (IX.out.cell (by dsimp only; omega))
        replace p1 := laterG hg11 p1 (IX.out.cell (by dsimp only; omega))
        replace k0 := laterG hg11 k0 (IX.out.cell (by dsimp only; omega))
        replace k1 := laterG hg11 k1 (IX.out.cell (by dsimp only; omega))
        replace q0 := laterG hg11 q0 (IX.out.cell (by dsimp only; omega))
        replace q1 := laterG hg11 q1 (IX.out.cell (by dsimp only; omega))
        replace e0 := laterG hg11 e0 (IX.out.cell (by dsimp only; omega))
        replace e1 := laterG hg11 e1 (IX.out.cell (by dsimp only; omega))
        replace t0 := laterG hg11 t0 (IX.out.cell (by dsimp only; omega))
        replace t1 := laterG hg11 t1 (IX.out.cell (by dsimp only; omega))
        have RW11 := Lib.hid (RW10.out.grown hg11 (IW.out.apart IX.out (by omega)))
        clear RW10
        have RG11 := Lib.hid (RG10.out.grown hg11 (IG.out.apart IX.out (by omega)))
        clear RG10
        have RX11 := Lib.hid ho11
        clear RX10 ho11 hg11 hbm11
        go_wp2_with fail
        refine (eqSpentList_yes x _ _ L _ RG11.out.sl RW11.out.sl).mono ?_
        rintro e w12 ⟨rfl, hb12⟩
        replace p0 := later0 hb12 p0
        replace p1 := later0 hb12 p1
        replace k0 := later0 hb12 k0
        replace k1 := later0 hb12 k1
        replace q0 := later0 hb12 q0
        replace q1 := later0 hb12 q1
        replace e0 := later0 hb12 e0
        replace e1 := later0 hb12 e1
        replace t0 := later0 hb12 t0
        replace t1 := later0 hb12 t1
        have B12 := Lib.hid (bel_seq B11.out hb12)
        have hs12 := hb12.size
        have RW12 := Lib.hid (RW11.out.below hb12)
        clear RW11
        have RX12 := Lib.hid (RX11.out.below hb12)
        clear RX11
        have RG12 := Lib.hid (RG11.out.below hb12)
        clear RG11
        clear hb12
        have hk2 : ¬ (1 + (tN : Int) < 0) := by omega
        have hk3 : ((1 + (tN : Int)) != (1 + (tN : Int))) = false := by simp
        go_wp2_with fail
        refine (markSpentList x _ tN tc _ L 1 _ RG12.out hM (by omega) (by omega)).mono ?_
        rintro e w13 ⟨rfl, ho13, hg13⟩
        have hbm13 := IG.out.belowG hg13 (B := w.heap.size) (by omega) (by omega)
        have B13 := Lib.hid (B12.out.trans hbm13)
        have hs13 := hg13.size
        replace p0 := laterG hg13 p0 (IG.out.cell (by dsimp only; omega))
        replace p1 := laterG hg13 p1 (IG.out.cell (by dsimp only; omega))
        replace k0 := laterG hg13 k0 (IG.out.cell (by dsimp only; omega))
        replace k1 := laterG hg13 k1 (IG.out.cell (by dsimp only; omega))
        replace q0 := laterG hg13 q0 (IG.out.cell (by dsimp only; omega))
        replace q1 := laterG hg13 q1 (IG.out.cell (by dsimp only; omega))
        replace e0 := laterG hg13 e0 (IG.out.cell (by dsimp only; omega))
        replace e1 := laterG hg13 e1 (IG.out.cell (by dsimp only; omega))
        replace t0 := laterG hg13 t0 (IG.out.cell (by dsimp only; omega))
        replace t1 := laterG hg13 t1 (IG.out.cell (by dsimp only; omega))
        have RW13 := Lib.hid (RW12.out.grown hg13 (IW.out.apart IG.out (by omega)))
        clear RW12
        have RX13 := Lib.hid (RX12.out.grown hg13 (IX.out.apart IG.out (by omega)))
        clear RX12
        have RG13 := Lib.hid ho13
        clear RG12 ho13 hg13 hbm13
        go_wp2_with fail
        refine (heldSpentList x _ tN 1 _ RG13.out.sl hM (by omega) (by omega)).mono ?_
        rintro e w14 ⟨rfl, hb14⟩
        replace p0 := later0 hb14 p0
        replace p1 := later0 hb14 p1
        replace k0 := later0 hb14 k0
        replace k1 := later0 hb14 k1
        replace q0 := later0 hb14 q0
        replace q1 := later0 hb14 q1
        replace e0 := later0 hb14 e0
        replace e1 := later0 hb14 e1
        replace t0 := later0 hb14 t0
        replace t1 := later0 hb14 t1
        have B14 := Lib.hid (bel_seq B13.out hb14)
        have hs14 := hb14.size
        have RW14 := Lib.hid (RW13.out.below hb14)
        clear RW13
        have RX14 := Lib.hid (RX13.out.below hb14)
        clear RX13
        have RG14 := Lib.hid (RG13.out.below hb14)
        clear RG13
        clear hb14
        go_wp2_with fail
        go_cut [16, 17] from 83 to 91 (fun sp sc wx => sc = .int .i64 r ∧ Res w14 wx x L sp)
        case first =>
          go_region_held3 (fun W' => W'.cell? ⟨w.heap.size, 0, none⟩ = some (.int .i64 x) ∧ W'.cell? ⟨w.heap.size, 1, none⟩ = some (.slice a l.length c) ∧ W'.cell? ⟨w.heap.size + 1, 0, none⟩ = some (.int .i64 sn) ∧ W'.cell? ⟨w.heap.size + 1, 1, none⟩ = some (.int .i64 sv) ∧ Below w14.heap.size w14 W') (first | assumption | exact keep4 h1C p0 p1 k0 k1 | exact keep4 (bel_al h1C _) p0 p1 k0 k1 | exact keep4 (bel_al h1C _).drew p0 p1 k0 k1 | exact keep4 h1B p0 p1 k0 k1 | exact keep4 (bel_al h1B _) p0 p1 k0 k1 | exact keep4 (bel_al h1B _).drew p0 p1 k0 k1 | exact keep4 h1A p0 p1 k0 k1 | exact keep4 (bel_al h1A _) p0 p1 k0 k1 | exact keep4 (bel_al h1A _).drew p0 p1 k0 k1 | exact keep4 (Below.refl _ _).drew p0 p1 k0 k1 | exact keep4 (bel_al (Below.refl _ _).drew _) p0 p1 k0 k1 | exact keep4 (bel_al (Below.refl _ _).drew _).drew p0 p1 k0 k1 | exact keep4 (Below.refl _ _) p0 p1 k0 k1 | exact keep4 (bel_al (Below.refl _ _) _) p0 p1 k0 k1 | exact keep4 (bel_al (Below.refl _ _) _).drew p0 p1 k0 k1 | exact keep4 ((h1C.setCell (by first | exact Nat.le_refl _ | exact h1A.size | exact h1B.size) _).setCell (by first | exact Nat.le_refl _ | exact h1A.size | exact h1B.size) _) p0 p1 k0 k1) (first | (go_at_call 17; (refine (toSpentList x (.slice a l.length c) l _ (HS.out.below (bel_seq B14.out (bel4 ‹_›))) hl).mono ?_); rintro e wA ⟨NA, gd, rfl, hNA, _, _, hoA, hbA⟩; have h1A : Below w14.heap.size w14 wA := bel_seq (bel4 ‹_›) hbA; (first | have TD := (Two.new w14 (.int .i64 0) (.slice none 0 0) 27).below hbA | have TD := (Two.newD w14 (.int .i64 0) (.slice none 0 0) 27).below hbA | skip)) | (go_at_call 29; (refine (toToken sn sv _).mono ?_); rintro e wB ⟨rfl, hbB⟩; have h1B : Below w14.heap.size w14 wB := bel_seq (bel4 ‹_›) hbB; (first | have TD := (Two.new wA (.int .i64 0) (.slice none 0 0) 27).below hbB | have TD := (Two.newD wA (.int .i64 0) (.slice none 0 0) 27).below hbB | have TD := TD.below hbB | skip)) | (go_at_call 30; (refine (C2'.out _ _ (by first | exact (hoA.sl).below hbB | exact ((hoA.sl).below hbB).alloc _ | exact ((hoA.sl).alloc _).below hbB)).mono ?_); rintro e wC ⟨aoC, NC, cC, rfl, hoC, hbC⟩; have h1C : Below w14.heap.size w14 wC := bel_seq (bel4 ‹_›) hbC; (first | have TD := (Two.new wB (.int .i64 0) (.slice none 0 0) 27).below hbC | have TD := (Two.newD wB (.int .i64 0) (.slice none 0 0) 27).below hbC | have TD := TD.below hbC | skip); (first | (have hzq := TD.lt; obtain ⟨tq0, tq1, tr0, tr1⟩ := TD) | skip)) | fail)
          all_goals
            go_wp2_with fail
            go_meet
            case rel =>
              refine ⟨rfl, ?_⟩
              first
              | exact res_alloc h1C (by have iA := hbA.size; have iB := hbB.size; (try simp at iA iB); first | omega | (simp; done) | (simp; omega)) hoC rfl
              | exact res_set h1C (by have iA := hbA.size; have iB := hbB.size; (try simp at iA iB); first | omega | (simp; done) | (simp; omega)) hoC (by have iA := hbA.size; have iB := hbB.size; (try simp at iA iB); first | omega | (simp; done) | (simp; omega)) (by have iA := hbA.size; have iB := hbB.size; (try simp at iA iB); first | omega | (simp; done) | (simp; omega)) hzq tq0 tq1 rfl
        case rest =>
          obtain ⟨w15, rfl⟩ : ∃ q, q = wc := ⟨wc, rfl⟩
          obtain ⟨rfl, ub, ua, uN, uc, ul, uh, rfl, u0n, u1n, ho, hri, ub1, ub2, ub3, ub4, ub5, hb15⟩ := hcut
          replace p0 := later0 hb15 p0
          replace p1 := later0 hb15 p1
          replace k0 := later0 hb15 k0
          replace k1 := later0 hb15 k1
          replace q0 := later0 hb15 q0
          replace q1 := later0 hb15 q1
          replace e0 := later0 hb15 e0
          replace e1 := later0 hb15 e1
          replace t0 := later0 hb15 t0
          replace t1 := later0 hb15 t1
          have B15 := Lib.hid (bel_seq B14.out hb15)
          have hs15 := hb15.size
          have RW15 := Lib.hid (RW14.out.below hb15)
          clear RW14
          have RX15 := Lib.hid (RX14.out.below hb15)
          clear RX14
          have RG15 := Lib.hid (RG14.out.below hb15)
          clear RG14
          clear hb15
          have u0 := u0n
          have u1 := u1n
          clear u0n u1n
          have RJ15 := Lib.hid ho
          have IJ := Lib.hid hri
          clear ho hri
          go_wp2_with fail
          refine (eqSpentList_yes x _ _ L _ RJ15.out.sl RW15.out.sl).mono ?_
          rintro e w16 ⟨rfl, hb16⟩
          replace p0 := later0 hb16 p0
          replace p1 := later0 hb16 p1
          replace k0 := later0 hb16 k0
          replace k1 := later0 hb16 k1
          replace q0 := later0 hb16 q0
          replace q1 := later0 hb16 q1
          replace e0 := later0 hb16 e0
          replace e1 := later0 hb16 e1
          replace t0 := later0 hb16 t0
          replace t1 := later0 hb16 t1
          replace u0 := later0 hb16 u0
          replace u1 := later0 hb16 u1
          have B16 := Lib.hid (bel_seq B15.out hb16)
          have hs16 := hb16.size
          have RW16 := Lib.hid (RW15.out.below hb16)
          clear RW15
          have RX16 := Lib.hid (RX15.out.below hb16)
          clear RX15
          have RG16 := Lib.hid (RG15.out.below hb16)
          clear RG15
          have RJ16 := Lib.hid (RJ15.out.below hb16)
          clear RJ15
          clear hb16
          go_wp2_with fail
          refine (heldSpentList x _ tN 1 _ RG16.out.sl hM (by omega) (by omega)).mono ?_
          rintro e w17 ⟨rfl, hb17⟩
          replace p0 := later0 hb17 p0
          replace p1 := later0 hb17 p1
          replace k0 := later0 hb17 k0
          replace k1 := later0 hb17 k1
          replace q0 := later0 hb17 q0
          replace q1 := later0 hb17 q1
          replace e0 := later0 hb17 e0
          replace e1 := later0 hb17 e1
          replace t0 := later0 hb17 t0
          replace t1 := later0 hb17 t1
          replace u0 := later0 hb17 u0
          replace u1 := later0 hb17 u1
          have B17 := Lib.hid (bel_seq B16.out hb17)
          have hs17 := hb17.size
          have RW17 := Lib.hid (RW16.out.below hb17)
          clear RW16
          have RX17 := Lib.hid (RX16.out.below hb17)
          clear RX16
          have RG17 := Lib.hid (RG16.out.below hb17)
          clear RG16
          have RJ17 := Lib.hid (RJ16.out.below hb17)
          clear RJ16
          clear hb17
          go_wp2
          go_ret
          exact ⟨rfl, B17.out⟩
/-! ### THE ROW's STEP: the guide's own way -/
theorem own : ownKnob Try.prog.godebug = none := by kernel_rfl
theorem laidOut : laidOutB Try.prog = true := by kernel_rfl
set_option maxRecDepth 100000 in
theorem lifted (os : Os) (started : os.Started) (H : Type) (enc : TypeId × Value → H) :
    ReturnsInHanded {} Try.checked os 7 .any (Rows.fnExactSpendTokenSpec.pre6 enc Try.prog Try.f7 Rows.fnExactSpendTokenRow.domain false) (Rows.fnExactSpendTokenSpec.post enc Try.prog Try.f7 false true false false) := by
  refine returnsInHanded_of_change (C := Try.checked) own started (by kernel_rfl) Try.func7
    (ChangeSpec.witness6 (enc := enc) (C := Try.checked) false ⟨#[], #[.agg #[.int .i64 0, .slice none 0 0], .int .i64 0, .agg #[.int .i64 0, .int .i64 0]], []⟩ 8 (by kernel_rfl) (by kernel_rfl) (by kernel_rfl) (by kernel_rfl)) ?_
  intro W base args ds gs before hval0 hW hcnd _
  have hval : ∀ (j : Nat) t v, Try.f7.params[j]? = some t → args[j]? = some v → Value.okWide Try.prog W .any base t v := hval0
  have hW' := hW
  obtain ⟨p, q, hA0, hV, rfl, hfz, hnd⟩ := hW
  have hA : DataW.TrodAll enc Try.prog W 0 (fun _ => true) true Try.f7.params.toList args.toList ds p := hA0
  rw [Try.params7] at hA hval
  obtain ⟨v0, vs0, d0, ds0, p0, q0, hargs, rfl, rfl, h0, r0⟩ := trodAll_cons hA
  obtain ⟨v1, vs1, d1, ds1, p1, q1, rfl, rfl, rfl, h1, r1⟩ := trodAll_cons r0
  obtain ⟨v2, vs2, d2, ds2, p2, q2, rfl, rfl, rfl, h2, r2⟩ := trodAll_cons r1
  obtain ⟨rfl, rfl, rfl⟩ := trodAll_nil r2
  obtain rfl : args = #[v0, v1, v2] := by cases args; simp_all
  obtain ⟨rfl, rfl⟩ := trodVars_none hV
  have k0 := h0
  have lt0 : ∀ x ∈ p0, x.block < W.heap.size := by obtain ⟨m, hm⟩ := k0; exact DataW.trod_lt m _ _ _ hm
  obtain ⟨c0_0, c0_1, y0_0, y0_1, fuel0, rfl, e0, pe0, g0_0, g0_1⟩ := open_agg2 Try.underlying24 (by kernel_rfl) (by kernel_rfl) (hval 0 24 v0 rfl rfl) h0
  obtain ⟨a0_0, rfl, w0_0⟩ := intOfRead Try.underlying3 g0_0
  obtain ⟨z0_1, s0_1, wf0_1⟩ := slOfRead Try.underlying22 Try.underlying3 (by kernel_rfl) g0_1 (fun x hx => lt0 x (by rw [pe0]; simp [hx]))
  have k1 := h1
  have lt1 : ∀ x ∈ p1, x.block < W.heap.size := by obtain ⟨m, hm⟩ := k1; exact DataW.trod_lt m _ _ _ hm
  obtain ⟨fuel1, g1⟩ := h1
  obtain ⟨a1, rfl, w1⟩ : ∃ n, v1 = .int .i64 n ∧ (Lit.int .i64 n).wf = true := by
    obtain ⟨n, rfl⟩ := okWide_int Try.underlying3 (hval 1 3 v1 rfl rfl)
    exact ⟨n, rfl, by obtain ⟨m, e, w⟩ := intOfRead Try.underlying3 (by simpa [Value.cells] using g1); cases e; exact w⟩
  have k2 := h2
  have lt2 : ∀ x ∈ p2, x.block < W.heap.size := by obtain ⟨m, hm⟩ := k2; exact DataW.trod_lt m _ _ _ hm
  obtain ⟨c2_0, c2_1, y2_0, y2_1, fuel2, rfl, e2, pe2, g2_0, g2_1⟩ := open_agg2 Try.underlying39 (by kernel_rfl) (by kernel_rfl) (hval 2 39 v2 rfl rfl) h2
  obtain ⟨a2_0, rfl, w2_0⟩ := intOfRead Try.underlying3 g2_0
  obtain ⟨a2_1, rfl, w2_1⟩ := intOfRead Try.underlying3 g2_1
  clear hA0 hval0
  refine (walk a0_0 _ z0_1 a1 a2_0 a2_1 W s0_1).mono fun e W' ⟨he, bel⟩ => ?_
  subst he
  exact ⟨_, rfl, _, _, _, [], _, [], hW', trodAll_mk1 (shut_bool Try.underlying4 _), (trodAll_cons_mk (Below.trod laidOut (by kernel_rfl) (of_decide_eq_true (by kernel_rfl)) k0 bel lt0) (trodAll_cons_mk (Below.trod laidOut (by kernel_rfl) (of_decide_eq_true (by kernel_rfl)) k1 bel lt1) (trodAll_cons_mk (Below.trod laidOut (by kernel_rfl) (of_decide_eq_true (by kernel_rfl)) k2 bel lt2) trodAll_mk0))), rfl, bel.frame _, fun h => by cases h⟩

theorem over : Rows.fnExactSpendTokenRow.holds Try.pinned (OpenSpec.ofChange Rows.fnExactSpendTokenSpec) :=
  OpenClaim.holds_of_wide 7 Try.f7 rfl rfl rfl rfl rfl rfl rfl ⟨rfl, rfl, rfl, rfl, rfl⟩ rfl rfl rfl rfl rfl (by kernel_rfl) Try.func7 (by kernel_rfl)
    (of_decide_eq_true (by kernel_rfl)) (by unfold Func.isWrapper; first | (rw [if_pos (by decide +kernel)]; kernel_rfl) | (rw [if_neg (by decide +kernel)]; exact ⟨rfl, rfl⟩))
    (fun os started H enc _ => lifted os started H enc)

/-- the statement -/
theorem proved : Rows.FnExactSpendTokenSaid := over
end Go.Proofs.Ytdodheahckpkfaa.fnExactSpendToken
