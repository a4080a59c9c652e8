/- The walk of the program's key for a step. -/
import Derived.Test.YtelcpihbdgikfaaProg
import Derived.Test.YtelcpihbdgikfaaStepK2
import Derived.Test.YtelcpihbdgikfaaDelK
import Derived.Test.YtelcpihbdgikfaaKeyS
import Derived.Test.YtelcpihbdgikfaaLater
import Derived.RegionTactic
import Derived.Deep.RegionHeld3
import Derived.Deep.AppendLies
import Derived.Deep.RegionLaw
import Derived.ChangeAlike
namespace Go.Proofs.Ytelcpihbdgikfaa
open Go.RowKit

set_option maxRecDepth 100000 in
set_option maxHeartbeats 2000000 in
theorem implKeyForStep (x s : Int) (v : Value) (n : Nat) (l : List Int) (step : Int) (w : World) (hs : Sk w v n l) (hl : n ≤ 1048576) : Calls Try.prog 23 #[.agg #[.int .i64 x, .int .i64 s, v], .int .i64 step] w (KeyPost (keyStepI x s n l step) w) := by
  obtain ⟨a, c, rfl, hm⟩ := hs.shape
  have HS00 := Lib.hid hs
  have HS := Lib.hid (((hs.alloc (.cells #[.int .i64 x, .int .i64 s, .slice a n c] 28)).alloc (.cells #[.int .i64 step] 3)).alloc (.cells #[.int .i64 0, .int .i64 0, .slice none 0 0] 28))
  have P := ((Box3.new w (.int .i64 x) (.int .i64 s) (.slice a n c) 28).alloc (.cells #[.int .i64 step] 3)).alloc (.cells #[.int .i64 0, .int .i64 0, .slice none 0 0] 28)
  have Z := later1 (o := .cells #[.int .i64 0, .int .i64 0, .slice none 0 0] 28) (Below.refl _ _) (show ((w.alloc (.cells #[.int .i64 x, .int .i64 s, .slice a n c] 28)).alloc (.cells #[.int .i64 step] 3)).cell? ⟨(w.alloc (.cells #[.int .i64 x, .int .i64 s, .slice a n c] 28)).heap.size, 0, none⟩ = some (.int .i64 step) by simp)
  rw [World.size_alloc] at Z
  have Q := Box3.new ((w.alloc (.cells #[.int .i64 x, .int .i64 s, .slice a n c] 28)).alloc (.cells #[.int .i64 step] 3)) (.int .i64 0) (.int .i64 0) (.slice none 0 0) 28
  have hb0 : Below w.heap.size w (((w.alloc (.cells #[.int .i64 x, .int .i64 s, .slice a n c] 28)).alloc (.cells #[.int .i64 step] 3)).alloc (.cells #[.int .i64 0, .int .i64 0, .slice none 0 0] 28)) := bel_al (bel_al (bel_al (Below.refl _ _) _) _) _
  have hz : w.heap.size + 3 ≤ (((w.alloc (.cells #[.int .i64 x, .int .i64 s, .slice a n c] 28)).alloc (.cells #[.int .i64 step] 3)).alloc (.cells #[.int .i64 0, .int .i64 0, .slice none 0 0] 28)).heap.size := by simp
  rw [World.size_alloc, World.size_alloc] at Q
  clear hs hm
  go_enter Try.func23, Try.ntmps23
  go_wp2_with fail
  generalize ((w.alloc (.cells #[.int .i64 x, .int .i64 s, .slice a n c] 28)).alloc (.cells #[.int .i64 step] 3)).alloc (.cells #[.int .i64 0, .int .i64 0, .slice none 0 0] 28) = W0 at HS P Q Z hb0 hz ⊢
  refine (implCopyR x s _ n l W0 HS.out hl).mono ?_
  rintro e w1 ⟨ao, cap, rfl, ho, hb1⟩
  have S1 := Lib.hid ((HS.out.below hb1).alloc (.cells #[.int .i64 x, .int .i64 s, .slice ao n cap] 28))
  have P1 := Lib.hid ((P.below hb1).alloc (.cells #[.int .i64 x, .int .i64 s, .slice ao n cap] 28))
  have Q1 := Lib.hid ((Q.below hb1).alloc (.cells #[.int .i64 x, .int .i64 s, .slice ao n cap] 28))
  have Z1 := Lib.hid (later1 (o := .cells #[.int .i64 x, .int .i64 s, .slice ao n cap] 28) (Below.refl _ _) (later0 hb1 Z))
  have T1 := Lib.hid (Box3.new w1 (.int .i64 x) (.int .i64 s) (.slice ao n cap) 28)
  have B1 := Lib.hid (bel_al (bel_seq hb0 hb1) (.cells #[.int .i64 x, .int .i64 s, .slice ao n cap] 28))
  have O1 := Lib.hid ((ho.mono hz).alloc (.cells #[.int .i64 x, .int .i64 s, .slice ao n cap] 28))
  have hz1 : w.heap.size + 3 ≤ w1.heap.size := Nat.le_trans hz hb1.size
  have HNT := Lib.hid (ho.notB (.inl (Nat.le_refl w1.heap.size)))
  obtain ⟨p0, p1, p2, _, _, _⟩ := (P.below hb1)
  have hzp : w.heap.size < w1.heap.size := by omega
  clear hb0 P Q Z ho hb1 HS hz
  go_wp2_with fail
  clear p0 p1 p2
  generalize w1.alloc (.cells #[.int .i64 x, .int .i64 s, .slice ao n cap] 28) = W1 at S1 P1 Q1 Z1 T1 B1 O1 ⊢
  generalize hB : w1.heap.size = t at T1 hz1 hzp HNT ⊢
  clear hB
  refine (implIsValidRatchet x s _ n l W1 S1.out).mono ?_
  rintro e w2 ⟨rfl, hb2⟩
  have B2 := Lib.hid (bel_seq B1.out hb2)
  have O2 := Lib.hid (O1.out.below hb2)
  have P2 := Lib.hid (P1.out.below hb2)
  have Q2 := Lib.hid (Q1.out.below hb2)
  have T2 := Lib.hid (T1.out.below hb2)
  have S2 := Lib.hid (S1.out.below hb2)
  have Z2 := Lib.hid (later0 hb2 Z1.out)
  clear hb2 S1 P1 Q1 T1 O1 B1 Z1
  have hzA := P2.out.lt
  have hzB := Q2.out.lt
  have hzC := T2.out.lt
  have ht1 : ¬ t = w.heap.size := by omega
  have ht2 : ¬ t = w.heap.size + 1 + 1 := by omega
  have ht3 : ¬ w.heap.size = t := by omega
  have ht4 : ¬ w.heap.size + 1 + 1 = t := by omega
  obtain ⟨p0, p1, p2, f0, f1, f2⟩ := P2.out
  obtain ⟨q0, q1, q2, r0, r1, r2⟩ := Q2.out
  obtain ⟨t0, t1, t2, u0, u1, u2⟩ := T2.out
  have z0 := Z2.out
  have RET : Hid (∀ W : World, Hid (Below w.heap.size w W) → Hid (OwnK (w.heap.size + 3) W ao n cap l) → ∀ (y : (Int × Int) × List Int × Int × Bool), y = ((x, s), l, 0, false) → ∀ W', W' = ((W.setCell ⟨w.heap.size + 1 + 1, 0, none⟩ (.int .i64 x)).setCell ⟨w.heap.size + 1 + 1, 1, none⟩ (.int .i64 s)).setCell ⟨w.heap.size + 1 + 1, 2, none⟩ (.slice ao n cap) → KeyPost y w (.returned (.tuple #[.agg #[.int .i64 x, .int .i64 s, .slice ao n cap], .int .i64 0, .bool false])) W') := Lib.hid (fun W BW OW y hy W' hW => by
    subst hW
    refine keyPost hy ?_ (by repeat (with_reducible (first | exact Below.refl _ _ | refine bel_al ?_ _ | refine Below.setCell ?_ (by first | (simp; done) | (simp; omega)) _ | refine Below.drew ?_ | refine bel_drewN ?_ _ | refine bel_seq ?_ (BW.out))))
    refine OwnK.mono (base := w.heap.size + 3) ?_ (by omega)
    repeat (first | exact OW.out | refine OwnK.cells ?_ (by omega) _))
  cases hv : validRatchetI x s n l with
  | false =>
    have HV := Lib.hid (keyStep_no (x := x) (s := s) (n := n) (l := l) (step := step) (by rw [hv]; rfl))
    go_wp2
    exact bodyPost_ret (v := .tuple #[.agg #[.int .i64 x, .int .i64 s, .slice ao n cap], .int .i64 0, .bool false]) (by simp [results, Try.results23, go_sem, *]) rfl (RET.out _ B2 O2 _ HV.out _ rfl)
  | true =>
  obtain ⟨s0, s1, n8⟩ := valid_bd hv
  by_cases he : step < 100000
  case neg =>
    have HV := Lib.hid (keyStep_no (x := x) (s := s) (n := n) (l := l) (step := step) (by rw [hv, decide_eq_false he]; rfl))
    have he' : (100000 : Int) ≤ step := by omega
    clear he
    go_wp2
    exact bodyPost_ret (v := .tuple #[.agg #[.int .i64 x, .int .i64 s, .slice ao n cap], .int .i64 0, .bool false]) (by simp [results, Try.results23, go_sem, *]) rfl (RET.out _ B2 O2 _ HV.out _ rfl)
  have hve := Lib.hid (show (validRatchetI x s n l && decide (step < 100000)) = true by rw [hv, decide_eq_true he]; rfl)
  clear hv
  have he2 : ¬ (100000 : Int) ≤ step := by omega
  by_cases hlt : step < s
  · go_wp2_with fail
    refine (idxFuncK _ n l step _ w2 S2.out Z2.out).mono ?_
    rintro e w3 ⟨⟨r, rfl, hr⟩, hb3⟩
    have B3 := Lib.hid (bel_seq B2.out hb3)
    have O3 := Lib.hid (O2.out.below hb3)
    have P3 := Lib.hid (P2.out.below hb3)
    have Q3 := Lib.hid (Q2.out.below hb3)
    have T3 := Lib.hid (T2.out.below hb3)
    have HB3 := Lib.hid hb3
    clear hb3 p0 p1 p2 f0 f1 f2 q0 q1 q2 r0 r1 r2 t0 t1 t2 u0 u1 u2 z0
    obtain ⟨p0, p1, p2, f0, f1, f2⟩ := P3.out
    obtain ⟨q0, q1, q2, r0, r1, r2⟩ := Q3.out
    obtain ⟨t0, t1, t2, u0, u1, u2⟩ := T3.out
    have hzA3 := P3.out.lt
    have hzB3 := Q3.out.lt
    have hzC3 := T3.out.lt
    clear hzA hzB hzC
    rcases hr with ⟨rfl, hn⟩ | ⟨k, hkn, rfl, hk, hn⟩
    · have HV := Lib.hid (keyStep_none hve.out hlt hn)
      clear hn
      go_wp2
      exact bodyPost_ret (v := .tuple #[.agg #[.int .i64 x, .int .i64 s, .slice ao n cap], .int .i64 0, .bool false]) (by simp [results, Try.results23, go_sem, *]) rfl (RET.out _ B3 O3 _ HV.out _ rfl)
    · have HV := Lib.hid (keyStep_at hve.out hlt hkn hk hn)
      clear hn hk
      obtain ⟨b, off, rfl, hb00, h4⟩ := HS00.out.at hkn
      obtain ⟨_, c1⟩ := h4 k hkn
      replace c1 := (B3.out.cell (p := ⟨b, off + k * 2 + 1, none⟩) hb00).trans c1
      generalize l.getD (2 * k + 1) 0 = z at c1 HV
      clear h4
      obtain ⟨M, rfl⟩ : ∃ M, n = M + 1 := ⟨n - 1, by omega⟩
      obtain ⟨g, rfl⟩ : ∃ g, ao = some ⟨g, 0, none⟩ := by
        rcases O3.out.shape with ⟨_, h0, _⟩ | ⟨g, rfl, _⟩
        · omega
        · exact ⟨g, rfl⟩
      have hgb := O3.out.blk
      have hk0 : ¬ ((k : Int) < 0) := by omega
      have hk1 : IntKind.i64.wrap ((k : Int) + 1) = k + 1 := by rw [IntKind.wrap_i64]; omega
      have hgt1 : ¬ g = t := by
        have := HNT.out
        rcases this with h | h
        · simp [ownB] at h
        · simp [ownB] at h; exact h
      go_wp2_with fail
      refine (delK _ g M cap l k w3 O3.out (by omega) (by omega)).mono ?_
      rintro e w4 ⟨rfl, ho4, hg4⟩
      have T4 := T3.out.grown hg4 (by simp; omega)
      have P4 := P3.out.grown hg4 (by simp; omega)
      have Q4 := Q3.out.grown hg4 (by simp; omega)
      have c4 := hg4.cell c1 (by simp; omega)
      have T7 := T4.set2 (.slice (some ⟨g, 0, none⟩) M cap)
      have hgt : w4.grownBy (w4.setCell ⟨t, 2, none⟩ (.slice (some ⟨g, 0, none⟩) M cap)) (some t) := grown_setA _ _ _ _
      have P7 := P4.grown hgt (by simp; omega)
      have Q7 := Q4.grown hgt (by simp; omega)
      have hbt : some b ≠ some t := by simp; omega
      have c7 := hgt.cell c4 hbt
      have O7 := Lib.hid (ho4.store (b := t) (.inr (by simp [ownB]; omega)) 2 (.slice (some ⟨g, 0, none⟩) M cap))
      have B4 := B3.out.trans (grown_below hg4 (B := w.heap.size) B3.out.size (fun j hj => by cases hj; omega))
      have B7 := Lib.hid (B4.trans (grown_below hgt (B := w.heap.size) B4.size (fun j hj => by cases hj; omega)))
      have hzT4 := T4.lt
      clear p0 p1 p2 f0 f1 f2 q0 q1 q2 r0 r1 r2 t0 t1 t2 u0 u1 u2 c1 c4
      obtain ⟨t0, t1, t2, u0, u1, u2⟩ := T4
      have hg5 := Lib.hid hgb
      clear hgt B4 ho4 hg4 hgb P4 Q4
      go_wp2_with fail
      generalize w4.setCell ⟨t, 2, none⟩ (.slice (some ⟨g, 0, none⟩) M cap) = w7 at T7 P7 Q7 O7 c7 B7 ⊢
      clear t0 t1 t2 u0 u1 u2 hzT4
      have hzA7 := P7.lt
      have hzB7 := Q7.lt
      have hzC7 := T7.lt
      have hbq : ¬ b = w.heap.size + 1 + 1 := by omega
      obtain ⟨_, _, p2, _, _, _⟩ := P7
      obtain ⟨q0, q1, q2, r0, r1, r2⟩ := Q7
      obtain ⟨t0, t1, t2, _, _, _⟩ := T7
      go_region
      all_goals
        go_wp2
        refine bodyPost_ret (v := .tuple #[.agg #[.int .i64 x, .int .i64 s, .slice (some ⟨g, 0, none⟩) M cap], .int .i64 z, .bool true]) (by simp [results, Try.results23, go_sem, *]) rfl (keyPost HV.out ?_ (by repeat (with_reducible (first | exact Below.refl _ _ | refine bel_al ?_ _ | refine Below.setCell ?_ (by first | (simp; done) | (simp; omega)) _ | refine Below.drew ?_ | refine bel_drewN ?_ _ | refine bel_seq ?_ (B7.out)))))
        refine OwnK.mono (base := w.heap.size + 3) ?_ (by omega)
        repeat (first | exact O7.out | exact O7.out.drew | refine OwnK.cells ?_ (by omega) _ | refine OwnK.drew ?_)
  · by_cases hfar : 8 < step - s
    · have HV := Lib.hid (keyStep_far hve.out hlt hfar)
      have hfw : IntKind.i64.wrap (s + 8) = s + 8 := by rw [IntKind.wrap_i64]; omega
      have hfar' : s + 8 < step := by omega
      go_wp2
      exact bodyPost_ret (v := .tuple #[.agg #[.int .i64 x, .int .i64 s, .slice ao n cap], .int .i64 0, .bool false]) (by simp [results, Try.results23, go_sem, *]) rfl (RET.out _ B2 O2 _ HV.out _ rfl)
    · obtain ⟨K, hK⟩ : ∃ K : Nat, step = s + K := ⟨(step - s).toNat, by omega⟩
      have hK8 : K ≤ 8 := by omega
      have hfw : IntKind.i64.wrap (s + 8) = s + 8 := by rw [IntKind.wrap_i64]; omega
      have hfar' : ¬ s + 8 < step := by omega
      have HVY := Lib.hid (fun (x' : Int) (L : List Int) (hq : skipI K x s l = (x', L)) => keyStep_yes hve.out hlt hfar hK hq)
      have HK := Lib.hid hK
      have T0 := T2
      have Q0 := Q2
      clear hK
      go_wp2_with fail
      clear p0 p1 p2 f0 f1 f2 q0 q1 q2 r0 r1 r2 t0 t1 t2 u0 u1 u2 z0 RET P2 S2 hve hfar' hfw
      have Z0 := Z2
      clear Z2
      go_loopw [] (fun wr => ∃ k : Nat, k ≤ K ∧ ∃ ao' N' cap', N' ≤ n + k ∧ n + k ≤ N' ∧ Hid (Box3 wr t (.int .i64 (skipI k x s l).1) (.int .i64 (s + k)) (.slice ao' N' cap')) ∧ Hid (Box3 wr (w.heap.size + 1 + 1) (.int .i64 0) (.int .i64 0) (.slice none 0 0)) ∧ Hid (OwnK (w.heap.size + 3) wr ao' N' cap' (skipI k x s l).2) ∧ Hid (ownB ao' = none ∨ ownB ao' ≠ some t) ∧ Hid (Below w.heap.size w wr) ∧ Hid (wr.cell? ⟨w.heap.size + 1, 0, none⟩ = some (.int .i64 step))) (fun wr => (step - (match wr.cell? ⟨t, 1, none⟩ with | some v => intOf v | none => 0)).toNat)
      case atStart => exact ⟨0, Nat.zero_le _, ao, n, cap, by omega, by omega, T0.out.cast3 rfl (by simp) rfl |> Lib.hid, Q0, O2, HNT, B2, Z0⟩
      case round =>
        obtain ⟨k, hk, ao', N', cap', hN1, hN2, TR, QR, OR, NR, BR, ZR⟩ := hrel
        clear T0 Q0 T2 Q2 O2 HNT Z0
        have z0 := ZR.out
        obtain ⟨⟨xk, lk⟩, hsk⟩ : ∃ q, skipI k x s l = q := ⟨_, rfl⟩
        rw [hsk] at TR OR
        have HSK := Lib.hid hsk
        clear hsk
        have hzT := TR.out.lt
        have hzQ := QR.out.lt
        obtain ⟨t0, t1, t2, u0, u1, u2⟩ := TR.out
        have HT1 := Lib.hid t1
        by_cases hkK : k < K
        · have hcmp : s + (k : Int) < step := by have := HK.out; omega
          have CM := fun W => implMessageKey xk W
          have CN := fun W => implNextChain xk W
          have hs1 : skipI (k + 1) x s l = (nextChainI xk, lk ++ [s + k, messageKeyI xk]) := by rw [skipI, HSK.out]
          generalize messageKeyI xk = mk at CM hs1
          generalize nextChainI xk = nc at CN hs1
          have HS1 := Lib.hid hs1
          have HCM := Lib.hid CM
          have HCN := Lib.hid CN
          have NR' : some t ≠ ownB ao' := by rcases NR.out with e | e
                                             · rw [e]; simp
                                             · exact fun h => e h.symm
          have HNR := Lib.hid NR'
          have hN3 : N' + 1 ≤ 1099511627776 := by omega
          clear CM CN hs1 NR'
          go_wp2_with fail
          go_region_law (first | (refine step_appK2 rfl _ _ (by rfl) (w.heap.size + 3) ao' N' cap' lk (by rfl) ((OR.out.below hbr).alloc _) (.slice (some ⟨w5.heap.size, 0, none⟩) 1 1) 1 [s + k, mk] (by rfl) (Sk.lit1 w5 _ _ _ rfl) hN3 (by simp; omega) ?_; intro ao6 N6 cap6 w6 hN6 hN6' ho6 hg6 hb6 hob6; have T6 := Lib.hid ((T5.out.alloc _).grown hg6 HNR.out); have hz6 := T6.out.lt; obtain ⟨k0, k1, k2, m0, m1, m2⟩ := T6.out) | (go_simp; go_at_call 57; (refine (HCM.out _).mono ?_); rintro e w5 ⟨rfl, hb5⟩; have hbr : Below wr.heap.size wr w5 := (by first | exact hb5 | exact bel_seq (Below.refl _ _).drew hb5); have T5 := Lib.hid (TR.out.below hbr); have hz5 := T5.out.lt; obtain ⟨g0, g1, g2, i0, i1, i2⟩ := T5.out))
          all_goals
            have T7 := T6.out.set2 (.slice ao6 N6 cap6)
            have hgt : w6.grownBy (w6.setCell ⟨t, 2, none⟩ (.slice ao6 N6 cap6)) (some t) := grown_setA _ _ _ _
            have Q6 := ((QR.out.below hbr).alloc (.cells #[.int .i64 (s + k), .int .i64 mk] 93)).keep hb6 (by omega)
            have Q7 := Lib.hid (Q6.grown hgt (by simp; omega))
            have hn6 : ownB ao6 = none ∨ ownB ao6 ≠ some t := by
              rcases hob6 with e | e
              · rw [e]; exact NR.out
              · rw [e]; exact .inr (by simp; omega)
            have N7 := Lib.hid hn6
            have O7 := Lib.hid (ho6.store hn6 2 (.slice ao6 N6 cap6))
            have Z7 := Lib.hid (hgt.cell ((hb6.cell (p := ⟨w.heap.size + 1, 0, none⟩) (show w.heap.size + 1 < w.heap.size + 3 by omega)).trans (later0 (bel_al hbr _) ZR.out)) (by simp; omega))
            have B6 : Below w.heap.size w w6 := ((bel_seq BR.out hbr).alloc (Nat.le_trans BR.out.size hbr.size) _).trans (hb6.mono (by omega))
            have B7 := Lib.hid (B6.trans (grown_below hgt (B := w.heap.size) B6.size (fun j hj => by cases hj; omega)))
            clear hgt Q6 hn6 hob6 ho6 hg6 hb6 B6 T6 T5 hbr hb5 hz5 hz6 g0 g1 g2 i0 i1 i2 k0 k1 k2 m0 m1 m2 t0 t1 t2 u0 u1 u2 z0 hzT hzQ TR QR OR NR BR ZR
            generalize w6.setCell ⟨t, 2, none⟩ (.slice ao6 N6 cap6) = w7 at T7 Q7 O7 B7 Z7 ⊢
            have hz7 := T7.lt
            obtain ⟨t0, t1, t2, u0, u1, u2⟩ := T7
            have T7h := Lib.hid (show Box3 w7 t (.int .i64 xk) (.int .i64 (s + k)) (.slice ao6 N6 cap6) from ⟨t0, t1, t2, u0, u1, u2⟩)
            go_wp2_with fail
            refine (HCN.out _).mono ?_
            rintro e w8 ⟨rfl, hb8⟩
            have T8 := Lib.hid (T7h.out.below hb8)
            have Q8 := Lib.hid (Q7.out.below hb8)
            have O8 := Lib.hid (O7.out.below hb8)
            have B8 := Lib.hid (bel_seq B7.out hb8)
            have Z8 := Lib.hid (later0 hb8 Z7.out)
            clear t0 t1 t2 u0 u1 u2 hz7 hb8
            have hz8 := T8.out.lt
            obtain ⟨t0, t1, t2, u0, u1, u2⟩ := T8.out
            go_wp2_with fail
            go_roundw
            case rel =>
              refine ⟨k + 1, by omega, ao6, N6, cap6, by omega, by omega, ?_, ?_, ?_, N7, ?_, ?_⟩
              · rw [HS1.out]
                exact Lib.hid ((T8.out.set01 (.int .i64 nc) (.int .i64 (s + k + 1))).cast3 rfl (by rw [Int.natCast_add, ← Int.add_assoc]; rfl) rfl)
              · exact Lib.hid (Q8.out.grown (grown_trans (grown_setA _ t 0 _) (grown_setA _ t 1 _)) (by simp; omega))
              · rw [HS1.out]
                exact Lib.hid ((O8.out.store N7.out 0 _).store N7.out 1 _)
              · exact Lib.hid (B8.out.trans (grown_below (grown_trans (grown_setA _ t 0 _) (grown_setA _ t 1 _)) (B := w.heap.size) B8.out.size (fun j hj => by cases hj; omega)))
              · exact Lib.hid ((grown_trans (grown_setA _ t 0 _) (grown_setA _ t 1 _)).cell Z8.out (by simp; omega))
            case measure =>
              rw [(T8.out.set01 (.int .i64 nc) (.int .i64 (s + k + 1))).2.1, HT1.out]
              simp only [intOf]
              omega
        · obtain rfl : k = K := by omega
          have hcmp : ¬ s + (k : Int) < step := by have := HK.out; omega
          have hlen : lk.length = 2 * N' := OR.out.1
          have CM := fun W => implMessageKey xk W
          have CN := fun W => implNextChain xk W
          have HV := Lib.hid ((HVY.out xk lk HSK.out).trans (by rw [HK.out] : ((nextChainI xk, step + 1), trimK lk, messageKeyI xk, true) = ((nextChainI xk, s + k + 1), trimK lk, messageKeyI xk, true)))
          generalize messageKeyI xk = mk at CM HV
          generalize nextChainI xk = nc at CN HV
          have HCM := Lib.hid CM
          have HCN := Lib.hid CN
          clear CM CN HVY
          obtain ⟨d, hd⟩ : ∃ d, d = N' - 8 := ⟨_, rfl⟩
          have ht : trimK lk = lk.drop (2 * d) := by unfold trimK; rw [show lk.length - 16 = 2 * d by omega]
          rw [ht] at HV
          clear ht HT1
          go_wp2_with fail
          clear z0 ZR
          refine (HCM.out _).mono ?_
          rintro e wa ⟨rfl, hba⟩
          have Ta := Lib.hid (TR.out.below hba)
          have Qa := Lib.hid (QR.out.below hba)
          have Oa := Lib.hid (OR.out.below hba)
          have Ba := Lib.hid (bel_seq BR.out hba)
          clear t0 t1 t2 u0 u1 u2 hzT hzQ hba TR QR OR BR
          obtain ⟨t0, t1, t2, u0, u1, u2⟩ := Ta.out
          go_wp2_with fail
          refine (HCN.out _).mono ?_
          rintro e wb ⟨rfl, hbb⟩
          have Tb := Lib.hid (Ta.out.below hbb)
          have Qb := Lib.hid (Qa.out.below hbb)
          have Ob := Lib.hid (Oa.out.below hbb)
          have Bb := Lib.hid (bel_seq Ba.out hbb)
          clear t0 t1 t2 u0 u1 u2 hbb Ta Qa Oa Ba
          have hzTb := Tb.out.lt
          have hzQb := Qb.out.lt
          obtain ⟨t0, t1, t2, u0, u1, u2⟩ := Tb.out
          have hgt := grown_trans (grown_setA wb t 0 (.int .i64 nc)) (grown_setA _ t 1 (.int .i64 (s + k + 1)))
          have T7 := Lib.hid (Tb.out.set01 (.int .i64 nc) (.int .i64 (s + k + 1)))
          have Q7 := Lib.hid (Qb.out.grown hgt (by simp; omega))
          have O7 := Lib.hid ((Ob.out.store NR.out 0 (.int .i64 nc)).store NR.out 1 (.int .i64 (s + k + 1)))
          have B7 := Lib.hid (Bb.out.trans (grown_below hgt (B := w.heap.size) Bb.out.size (fun j hj => by cases hj; omega)))
          clear hgt Tb Qb Ob Bb
          have hl8 : N' - d ≤ 1099511627776 := by omega
          have hlk : lk.length = 2 * N' := O7.out.1
          have hd1 : max (0 : Int) ((N' : Int) - 8) = d := by omega
          have hd2 : (d : Int) ≤ N' := by omega
          have hd3 : d ≤ N' := by omega
          have hd8 : (0 : Int) ≤ d := by omega
          have hzN := Lib.hid (show w.heap.size + 3 ≤ t + 1 by omega)
          rcases O7.out.shape with ⟨rfl, rfl, rfl⟩ | ⟨g, rfl, _, hgz⟩
          · obtain rfl : d = 0 := by omega
            have SK := Lib.hid O7.out.sl
            clear hd
            simp only [Nat.mul_zero, List.drop_zero] at HV
            go_wp2_with fail
            clear t0 t1 t2 u0 u1 u2 hzTb hzQb
            generalize (wb.setCell ⟨t, 0, none⟩ (.int .i64 nc)).setCell ⟨t, 1, none⟩ (.int .i64 (s + k + 1)) = w7 at T7 Q7 O7 B7 SK ⊢
            have hw7 : w.heap.size + 3 ≤ w7.heap.size := by have h1 := T7.out.lt; have h2 := hzN.out; omega
            refine (cloneK _ _ _ _ SK.out hl8).mono ?_
            rintro e w8 ⟨ao8, N8, cap8, rfl, hN8, hN8', ho8, hb8⟩
            have T8 := T7.out.below hb8
            have Q8 := Q7.out.below hb8
            have B8 := Lib.hid (bel_seq B7.out hb8)
            have N8b := Lib.hid (ho8.notB (b := t) (.inr T7.out.lt))
            have O8 := Lib.hid (ho8.mono hw7)
            have hzT8 := T8.lt
            have hzQ8 := Q8.lt
            clear ho8 hb8 T7 Q7 O7 B7 SK
            obtain ⟨t0, t1, t2, u0, u1, u2⟩ := T8
            obtain ⟨q0, q1, q2, r0, r1, r2⟩ := Q8
            go_wp2
            refine bodyPost_ret (v := .tuple #[.agg #[.int .i64 nc, .int .i64 (s + k + 1), .slice ao8 N8 cap8], .int .i64 mk, .bool true]) (by simp [results, Try.results23, go_sem, *]) rfl (keyPost HV.out ?_ (by repeat (with_reducible (first | exact Below.refl _ _ | refine bel_al ?_ _ | refine Below.setCell ?_ (by first | (simp; done) | (simp; omega)) _ | refine Below.drew ?_ | refine bel_drewN ?_ _ | refine bel_seq ?_ (B8.out)))))
            refine OwnK.mono (base := w.heap.size + 3) ?_ (by omega)
            repeat (with_reducible (first | exact O8.out | refine OwnK.cells ?_ (by omega) _ | refine OwnK.store ?_ N8b.out _ _))
          · obtain ⟨hc, hc2⟩ := O7.out.sl.capB
            by_cases hc0 : cap' = 0
            · obtain rfl : N' = 0 := by omega
              obtain rfl : d = 0 := by omega
              subst hc0
              have SK := Lib.hid O7.out.sl
              clear hd
              simp only [Nat.mul_zero, List.drop_zero] at HV
              go_wp2_with fail
              clear t0 t1 t2 u0 u1 u2 hzTb hzQb
              generalize (wb.setCell ⟨t, 0, none⟩ (.int .i64 nc)).setCell ⟨t, 1, none⟩ (.int .i64 (s + k + 1)) = w7 at T7 Q7 O7 B7 SK ⊢
              have hw7 : w.heap.size + 3 ≤ w7.heap.size := by have h1 := T7.out.lt; have h2 := hzN.out; omega
              refine (cloneK _ _ _ _ SK.out hl8).mono ?_
              rintro e w8 ⟨ao8, N8, cap8, rfl, hN8, hN8', ho8, hb8⟩
              have T8 := T7.out.below hb8
              have Q8 := Q7.out.below hb8
              have B8 := Lib.hid (bel_seq B7.out hb8)
              have N8b := Lib.hid (ho8.notB (b := t) (.inr T7.out.lt))
              have O8 := Lib.hid (ho8.mono hw7)
              have hzT8 := T8.lt
              have hzQ8 := Q8.lt
              clear ho8 hb8 T7 Q7 O7 B7 SK
              obtain ⟨t0, t1, t2, u0, u1, u2⟩ := T8
              obtain ⟨q0, q1, q2, r0, r1, r2⟩ := Q8
              go_wp2
              refine bodyPost_ret (v := .tuple #[.agg #[.int .i64 nc, .int .i64 (s + k + 1), .slice ao8 N8 cap8], .int .i64 mk, .bool true]) (by simp [results, Try.results23, go_sem, *]) rfl (keyPost HV.out ?_ (by repeat (with_reducible (first | exact Below.refl _ _ | refine bel_al ?_ _ | refine Below.setCell ?_ (by first | (simp; done) | (simp; omega)) _ | refine Below.drew ?_ | refine bel_drewN ?_ _ | refine bel_seq ?_ (B8.out)))))
              refine OwnK.mono (base := w.heap.size + 3) ?_ (by omega)
              repeat (with_reducible (first | exact O8.out | refine OwnK.cells ?_ (by omega) _ | refine OwnK.store ?_ N8b.out _ _))
            · have hd7 : ¬ cap' = d := by omega
              have SK := O7.out.sl.drop (j := d) hd3 hgz
              simp only [Nat.zero_add] at SK
              have hd4 : (d : Int) ≤ cap' := by omega
              have hd5 : d ≤ cap' := by omega
              have hd6 : (N' : Int) ≤ cap' := by omega
              have SK := Lib.hid SK
              clear hd
              go_wp2_with fail
              clear t0 t1 t2 u0 u1 u2 hzTb hzQb
              generalize (wb.setCell ⟨t, 0, none⟩ (.int .i64 nc)).setCell ⟨t, 1, none⟩ (.int .i64 (s + k + 1)) = w7 at T7 Q7 O7 B7 SK ⊢
              have hw7 : w.heap.size + 3 ≤ w7.heap.size := by have h1 := T7.out.lt; have h2 := hzN.out; omega
              refine (cloneK _ _ _ _ SK.out hl8).mono ?_
              rintro e w8 ⟨ao8, N8, cap8, rfl, hN8, hN8', ho8, hb8⟩
              have T8 := T7.out.below hb8
              have Q8 := Q7.out.below hb8
              have B8 := Lib.hid (bel_seq B7.out hb8)
              have N8b := Lib.hid (ho8.notB (b := t) (.inr T7.out.lt))
              have O8 := Lib.hid (ho8.mono hw7)
              have hzT8 := T8.lt
              have hzQ8 := Q8.lt
              clear ho8 hb8 T7 Q7 O7 B7 SK
              obtain ⟨t0, t1, t2, u0, u1, u2⟩ := T8
              obtain ⟨q0, q1, q2, r0, r1, r2⟩ := Q8
              go_wp2
              refine bodyPost_ret (v := .tuple #[.agg #[.int .i64 nc, .int .i64 (s + k + 1), .slice ao8 N8 cap8], .int .i64 mk, .bool true]) (by simp [results, Try.results23, go_sem, *]) rfl (keyPost HV.out ?_ (by repeat (with_reducible (first | exact Below.refl _ _ | refine bel_al ?_ _ | refine Below.setCell ?_ (by first | (simp; done) | (simp; omega)) _ | refine Below.drew ?_ | refine bel_drewN ?_ _ | refine bel_seq ?_ (B8.out)))))
              refine OwnK.mono (base := w.heap.size + 3) ?_ (by omega)
              repeat (with_reducible (first | exact O8.out | refine OwnK.cells ?_ (by omega) _ | refine OwnK.store ?_ N8b.out _ _))
end Go.Proofs.Ytelcpihbdgikfaa
