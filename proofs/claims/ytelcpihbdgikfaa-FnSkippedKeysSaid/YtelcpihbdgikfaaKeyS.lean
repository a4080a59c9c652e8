/- The walk of the reference's key for a step. -/
import Derived.Test.YtelcpihbdgikfaaProg
import Derived.Test.YtelcpihbdgikfaaStepK2
import Derived.Test.YtelcpihbdgikfaaKeyPlain
import Derived.Test.YtelcpihbdgikfaaAdv2
import Derived.RegionTactic
import Derived.Deep.RegionHeld3
import Derived.Deep.AppendLies
import Derived.Deep.RegionLaw
import Derived.ChangeAlike
namespace Go.Proofs.Ytelcpihbdgikfaa
open Go.RowKit

theorem Box3.set2 {W : World} {b : Nat} {v0 v1 v2 : Value} (h : Box3 W b v0 v1 v2) (u : Value) : Box3 (W.setCell ⟨b, 2, none⟩ u) b v0 v1 u := by
  have hz := h.lt
  obtain ⟨h0, h1, h2, f0, f1, f2⟩ := h
  refine ⟨?_, ?_, ?_, ?_, ?_, ?_⟩ <;> simp [go_sem, *]
theorem Box3.cast3 {W : World} {b : Nat} {v0 v1 v2 u0 u1 u2 : Value} (h : Box3 W b v0 v1 v2) (e0 : v0 = u0) (e1 : v1 = u1) (e2 : v2 = u2) : Box3 W b u0 u1 u2 := by subst e0 e1 e2; exact h
theorem Box3.set01 {W : World} {b : Nat} {v0 v1 v2 : Value} (h : Box3 W b v0 v1 v2) (x y : Value) : Box3 ((W.setCell ⟨b, 0, none⟩ x).setCell ⟨b, 1, none⟩ y) b x y v2 := by
  have hz := h.lt
  obtain ⟨h0, h1, h2, f0, f1, f2⟩ := h
  refine ⟨?_, ?_, ?_, ?_, ?_, ?_⟩ <;> simp [go_sem, *]
theorem keep1g {w W' : World} {row : Option Nat} {a0 : Addr} {u0 : Value} (h0 : w.cell? a0 = some u0) (n0 : some a0.block ≠ row) (hg : w.grownBy W' row) : W'.cell? a0 = some u0 ∧ w.grownBy W' row := ⟨hg.cell h0 n0, hg⟩
set_option maxRecDepth 100000 in
set_option maxHeartbeats 2000000 in
theorem specKeyForStep (x s : Int) (v : Value) (n : Nat) (l : List Int) (step : Int) (w : World) (hs : Sk w v n l) (hl : n ≤ 1048576) : Calls Try.prog 22 #[.agg #[.int .i64 x, .int .i64 s, v], .int .i64 step] w (KeyPost (keyStepI x s n l step) w) := by
  obtain ⟨a, c, rfl, hm⟩ := hs.shape
  have HS00 := Lib.hid hs
  have HS := Lib.hid ((hs.alloc (.cells #[.int .i64 x, .int .i64 s, .slice a n c] 28)).alloc (.cells #[.int .i64 0, .int .i64 0, .slice none 0 0] 28))
  have P := (Box3.new w (.int .i64 x) (.int .i64 s) (.slice a n c) 28).alloc (.cells #[.int .i64 0, .int .i64 0, .slice none 0 0] 28)
  have Q := Box3.new (w.alloc (.cells #[.int .i64 x, .int .i64 s, .slice a n c] 28)) (.int .i64 0) (.int .i64 0) (.slice none 0 0) 28
  have hb0 : Below w.heap.size w ((w.alloc (.cells #[.int .i64 x, .int .i64 s, .slice a n c] 28)).alloc (.cells #[.int .i64 0, .int .i64 0, .slice none 0 0] 28)) := bel_al (bel_al (Below.refl _ _) _) _
  have hz : w.heap.size + 2 ≤ ((w.alloc (.cells #[.int .i64 x, .int .i64 s, .slice a n c] 28)).alloc (.cells #[.int .i64 0, .int .i64 0, .slice none 0 0] 28)).heap.size := by simp
  rw [World.size_alloc] at Q
  clear hs hm
  go_enter Try.func22, Try.ntmps22
  go_wp2_with fail
  generalize (w.alloc (.cells #[.int .i64 x, .int .i64 s, .slice a n c] 28)).alloc (.cells #[.int .i64 0, .int .i64 0, .slice none 0 0] 28) = W0 at HS P Q hb0 hz ⊢
  refine (specCopyR x s _ n l W0 HS.out hl).mono ?_
  rintro e w1 ⟨ao, cap, rfl, ho, hb1⟩
  have S1 := Lib.hid ((HS.out.below hb1).alloc (.cells #[.int .i64 x, .int .i64 s, .slice ao n cap] 28))
  have P1 := Lib.hid ((P.below hb1).alloc (.cells #[.int .i64 x, .int .i64 s, .slice ao n cap] 28))
  have Q1 := Lib.hid ((Q.below hb1).alloc (.cells #[.int .i64 x, .int .i64 s, .slice ao n cap] 28))
  have T1 := Lib.hid (Box3.new w1 (.int .i64 x) (.int .i64 s) (.slice ao n cap) 28)
  have B1 := Lib.hid (bel_al (bel_seq hb0 hb1) (.cells #[.int .i64 x, .int .i64 s, .slice ao n cap] 28))
  have O1 := Lib.hid ((ho.mono hz).alloc (.cells #[.int .i64 x, .int .i64 s, .slice ao n cap] 28))
  have hz1 : w.heap.size + 2 ≤ w1.heap.size := Nat.le_trans hz hb1.size
  have HNT := Lib.hid (ho.notB (.inl (Nat.le_refl w1.heap.size)))
  obtain ⟨p0, p1, p2, _, _, _⟩ := (P.below hb1)
  have hzp : w.heap.size < w1.heap.size := by omega
  clear hb0 P Q ho hb1 HS hz
  go_wp2_with fail
  clear p0 p1 p2
  generalize w1.alloc (.cells #[.int .i64 x, .int .i64 s, .slice ao n cap] 28) = W1 at S1 P1 Q1 T1 B1 O1 ⊢
  generalize hB : w1.heap.size = t at T1 hz1 hzp HNT ⊢
  clear hB
  refine (specIsValidRatchet x s _ n l W1 S1.out).mono ?_
  rintro e w2 ⟨rfl, hb2⟩
  have B2 := Lib.hid (bel_seq B1.out hb2)
  have O2 := Lib.hid (O1.out.below hb2)
  have P2 := Lib.hid (P1.out.below hb2)
  have Q2 := Lib.hid (Q1.out.below hb2)
  have T2 := Lib.hid (T1.out.below hb2)
  have S2 := Lib.hid (S1.out.below hb2)
  clear hb2 S1 P1 Q1 T1 O1 B1
  have hzA := P2.out.lt
  have hzB := Q2.out.lt
  have hzC := T2.out.lt
  have ht1 : ¬ t = w.heap.size := by omega
  have ht2 : ¬ t = w.heap.size + 1 := by omega
  have ht3 : ¬ w.heap.size = t := by omega
  have ht4 : ¬ w.heap.size + 1 = t := by omega
  obtain ⟨p0, p1, p2, f0, f1, f2⟩ := P2.out
  obtain ⟨q0, q1, q2, r0, r1, r2⟩ := Q2.out
  obtain ⟨t0, t1, t2, u0, u1, u2⟩ := T2.out
  have RET : Hid (∀ (y : (Int × Int) × List Int × Int × Bool), y = ((x, s), l, 0, false) → ∀ W', W' = ((w2.setCell ⟨w.heap.size + 1, 0, none⟩ (.int .i64 x)).setCell ⟨w.heap.size + 1, 1, none⟩ (.int .i64 s)).setCell ⟨w.heap.size + 1, 2, none⟩ (.slice ao n cap) → KeyPost y w (.returned (.tuple #[.agg #[.int .i64 x, .int .i64 s, .slice ao n cap], .int .i64 0, .bool false])) W') := Lib.hid (fun y hy W' hW => by
    subst hW
    refine keyPost hy ?_ (by repeat (with_reducible (first | exact Below.refl _ _ | refine bel_al ?_ _ | refine Below.setCell ?_ (by first | (simp; done) | (simp; omega)) _ | refine Below.drew ?_ | refine bel_drewN ?_ _ | refine bel_seq ?_ (B2.out))))
    refine OwnK.mono (base := w.heap.size + 2) ?_ (by omega)
    repeat (first | exact O2.out | refine OwnK.cells ?_ (by omega) _))
  cases hv : validRatchetI x s n l with
  | false =>
    have HV := Lib.hid (keyStep_no (x := x) (s := s) (n := n) (l := l) (step := step) (by rw [hv]; rfl))
    go_wp2
    exact bodyPost_ret (v := .tuple #[.agg #[.int .i64 x, .int .i64 s, .slice ao n cap], .int .i64 0, .bool false]) (by simp [results, Try.results22, go_sem, *]) rfl (RET.out _ HV.out _ rfl)
  | true =>
  obtain ⟨s0, s1, n8⟩ := valid_bd hv
  by_cases he : step < 100000
  case neg =>
    have HV := Lib.hid (keyStep_no (x := x) (s := s) (n := n) (l := l) (step := step) (by rw [hv, decide_eq_false he]; rfl))
    have he' : (100000 : Int) ≤ step := by omega
    clear he
    go_wp2
    exact bodyPost_ret (v := .tuple #[.agg #[.int .i64 x, .int .i64 s, .slice ao n cap], .int .i64 0, .bool false]) (by simp [results, Try.results22, go_sem, *]) rfl (RET.out _ HV.out _ rfl)
  have hve := Lib.hid (show (validRatchetI x s n l && decide (step < 100000)) = true by rw [hv, decide_eq_true he]; rfl)
  clear hv
  have he2 : ¬ (100000 : Int) ≤ step := by omega
  by_cases hlt : step < s
  · go_wp2_with fail
    go_loop [8] (fun i => ∃ k : Nat, k ≤ n ∧ i = .int .i64 k ∧ Hid (∀ j, j < k → ¬ l.getD (2 * j) 0 = step)) (fun i => n - (intOf i).toNat)
    case atStart => exact ⟨0, Nat.zero_le _, rfl, Lib.hid (fun j hj => by omega)⟩
    case round =>
      obtain ⟨k, hk, rfl, HK⟩ := hrel
      by_cases hkn : k < n
      · obtain ⟨b, off, rfl, hb00, h4⟩ := HS00.out.at hkn
        obtain ⟨c0, c1⟩ := h4 k hkn
        replace c0 := (B2.out.cell (p := ⟨b, off + k * 2, none⟩) hb00).trans c0
        replace c1 := (B2.out.cell (p := ⟨b, off + k * 2 + 1, none⟩) hb00).trans c1
        have hb : b < w2.heap.size := Nat.lt_trans hb00 hzA
        have HBQ := Lib.hid (show ¬ b = w.heap.size + 1 by have : b < w.heap.size := hb00; omega)
        have HBT := Lib.hid (show some b ≠ some t by have : b < w.heap.size := hb00; simp; omega)
        clear h4
        obtain ⟨y, hy⟩ : ∃ y, l.getD (2 * k) 0 = y := ⟨_, rfl⟩
        rw [hy] at c0
        by_cases hys : y = step
        · subst hys
          have HV := Lib.hid (keyStep_at hve.out hlt hkn hy HK.out)
          generalize l.getD (2 * k + 1) 0 = z at c1 HV
          clear hy HK
          obtain ⟨hc, hc2⟩ := S2.out.capB
          have ST := Lib.hid (S2.out.take (j := k) (by omega))
          by_cases hce : c = k + 1
          · obtain rfl : n = k + 1 := by omega
            subst hce
            have SD := Lib.hid (show Sk w2 (.slice (some ⟨b, off, none⟩) 0 0) 0 (l.drop (2 * k + 2)) from ⟨by rw [List.length_drop, S2.out.1]; omega, .inl ⟨rfl, _, 0, rfl, by simp [maxLen], by simp⟩⟩)
            have hd1 : k ≤ k + 1 := by omega
            have hd2 : (k : Int) ≤ (k : Int) + 1 := by omega
            have hd3 : (0 : Int) ≤ (k : Int) + 1 := by omega
            have hd4 : IntKind.i64.wrap ((k : Int) + 1) = k + 1 := by rw [IntKind.wrap_i64]; omega
            have hd5 : ((k : Int) + 1).toNat = k + 1 := by omega
            go_wp2_with fail
            have hPt : some w.heap.size ≠ some t := by simp; omega
            have hq1 : 0 + k ≤ 1099511627776 := by omega
            go_region_held3 (fun W' => W'.cell? ⟨w.heap.size, 2, none⟩ = some (.slice (some ⟨b, off, none⟩) (k + 1) (k + 1)) ∧ w2.grownBy W' (some t)) (first | assumption | (refine keep1g p2 hPt ?_; first | (refine grown_trans ?_ (grown_setA _ _ _ _); refine below_grown ?_ _; repeat (first | exact Below.refl _ _ | refine bel_al ?_ _ | refine Below.drew ?_ | refine Below.trans ?_ hb5 | refine Below.trans ?_ hb6)) | (refine below_grown ?_ _; repeat (first | exact Below.refl _ _ | refine bel_al ?_ _ | refine Below.drew ?_ | refine Below.trans ?_ hb5 | refine Below.trans ?_ hb6)))) (first | (refine step_appK rfl _ _ (by rfl) w2.heap.size ao5 N5 cap5 ([] ++ l.take (2 * k)) (by rfl) (by first | exact ho5 | exact ho5.drew) (.slice (some ⟨b, off, none⟩) 0 0) 0 (l.drop (2 * k + 2)) (by rfl) (SD.out.below (by repeat (first | exact Below.refl _ _ | refine bel_al ?_ _ | refine Below.drew ?_ | refine Below.trans ?_ hb5))) (by omega) hz5 ?_; intro ao6 N6 cap6 w6 hN6 hN6' ho6 hg6 hb6; have e2 : w6.cell? ⟨t, 2, none⟩ = some (.slice ao (k + 1) cap) := (hb6.cell (p := ⟨t, 2, none⟩) hzC).trans (by simp [go_sem, *]); have e3 : w6.frozen? ⟨t, 2, none⟩ = false := (hb6.frozen (p := ⟨t, 2, none⟩) hzC).trans (by simp [go_sem, *])) | (refine step_appK rfl _ _ (by rfl) w2.heap.size (some ⟨w2.heap.size, 0, none⟩) 0 0 [] (by rfl) (by first | exact OwnK.lit0 _ w2 _ (Nat.le_refl _) rfl | exact (OwnK.lit0 _ w2 _ (Nat.le_refl _) rfl).drew | exact OwnK.lit0 _ w2.drew _ (Nat.le_refl _) rfl) (.slice (some ⟨b, off, none⟩) k (k + 1)) k (l.take (2 * k)) (by rfl) (ST.out.below (by repeat (first | exact Below.refl _ _ | refine bel_al ?_ _ | refine Below.drew ?_))) hq1 (by simp) ?_; intro ao5 N5 cap5 w5 hN5 hN5' ho5 hg5 hb5; have hz5 : w2.heap.size ≤ w5.heap.size := (by have := hb5.size; (try simp at this); omega); have e0 : w5.cell? ⟨t, 2, none⟩ = some (.slice ao (k + 1) cap) := (hb5.cell (p := ⟨t, 2, none⟩) hzC).trans (by simp [go_sem, *]); have e1 : w5.frozen? ⟨t, 2, none⟩ = false := (hb5.frozen (p := ⟨t, 2, none⟩) hzC).trans (by simp [go_sem, *])))
            have hb26 : Below w2.heap.size w2 w6 := by repeat (first | exact Below.refl _ _ | refine bel_al ?_ _ | refine Below.drew ?_ | refine Below.trans ?_ hb5 | refine Below.trans ?_ hb6)
            have hgt : w6.grownBy (w6.setCell ⟨t, 2, none⟩ (.slice ao6 N6 cap6)) (some t) := grown_setA _ _ _ _
            have T7 := (T2.out.below hb26).set2 (.slice ao6 N6 cap6)
            have P7 := (P2.out.below hb26).grown hgt (by simp; omega)
            have Q7 := (Q2.out.below hb26).grown hgt (by simp; omega)
            rw [List.nil_append] at ho6
            have O7 := Lib.hid (ho6.store (ho6.notB (.inr hzC)) 2 (.slice ao6 N6 cap6))
            have c7 := hgt.cell ((hb26.cell (p := ⟨b, off + k * 2 + 1, none⟩) hb).trans c1) HBT.out
            have B6 := bel_seq B2.out hb26
            have B7 := Lib.hid (B6.trans (grown_below hgt (B := w.heap.size) B6.size (fun j hj => by cases hj; omega)))
            clear p0 p1 p2 f0 f1 f2 q0 q1 q2 r0 r1 r2 t0 t1 t2 u0 u1 u2 c0 c1 B6 hgt hb26 ho6 hg6 hb6 hg5 hb5 RET e0 e1 e2 e3 hz5 ho5
            generalize w6.setCell ⟨t, 2, none⟩ (.slice ao6 N6 cap6) = w7 at T7 P7 Q7 O7 c7 B7 ⊢
            have hzA7 := P7.lt
            have hzB7 := Q7.lt
            have hzC7 := T7.lt
            have hbq := HBQ.out
            obtain ⟨_, _, p2, _, _, _⟩ := P7
            obtain ⟨q0, q1, q2, r0, r1, r2⟩ := Q7
            obtain ⟨t0, t1, t2, _, _, _⟩ := T7
            go_wp2
            go_region
            all_goals
              go_wp2
              refine bodyPost_ret (v := .tuple #[.agg #[.int .i64 x, .int .i64 s, .slice ao6 N6 cap6], .int .i64 z, .bool true]) (by simp [results, Try.results22, go_sem, *]) rfl (keyPost HV.out ?_ (by repeat (with_reducible (first | exact Below.refl _ _ | refine bel_al ?_ _ | refine Below.setCell ?_ (by first | (simp; done) | (simp; omega)) _ | refine Below.drew ?_ | refine bel_drewN ?_ _ | refine bel_seq ?_ (B7.out)))))
              refine OwnK.mono (base := w2.heap.size) ?_ (by omega)
              repeat (first | exact O7.out | exact O7.out.drew | refine OwnK.cells ?_ (by omega) _ | refine OwnK.drew ?_)
          · have SD := Lib.hid (S2.out.drop (j := k + 1) (by omega) hb)
            rw [show 2 * (k + 1) = 2 * k + 2 by omega] at SD
            have hc3 : (k : Int) ≤ c := by omega
            have hc4 : k ≤ c := by omega
            have hc5 : (k : Int) + 1 ≤ n := by omega
            have hc6 : k + 1 ≤ n := by omega
            have hc7 : IntKind.i64.wrap ((k : Int) + 1) = k + 1 := by rw [IntKind.wrap_i64]; omega
            have hc8 : ((k : Int) + 1).toNat = k + 1 := by omega
            have hc9 : (0 : Int) ≤ (k : Int) + 1 := by omega
            have hc10 : (n : Int) ≤ c := by omega
            go_wp2_with fail
            have hPt : some w.heap.size ≠ some t := by simp; omega
            have hq1 : 0 + k ≤ 1099511627776 := by omega
            go_region_held3 (fun W' => W'.cell? ⟨w.heap.size, 2, none⟩ = some (.slice (some ⟨b, off, none⟩) n c) ∧ w2.grownBy W' (some t)) (first | assumption | (refine keep1g p2 hPt ?_; first | (refine grown_trans ?_ (grown_setA _ _ _ _); refine below_grown ?_ _; repeat (first | exact Below.refl _ _ | refine bel_al ?_ _ | refine Below.drew ?_ | refine Below.trans ?_ hb5 | refine Below.trans ?_ hb6)) | (refine below_grown ?_ _; repeat (first | exact Below.refl _ _ | refine bel_al ?_ _ | refine Below.drew ?_ | refine Below.trans ?_ hb5 | refine Below.trans ?_ hb6)))) (first | (refine step_appK rfl _ _ (by rfl) w2.heap.size ao5 N5 cap5 ([] ++ l.take (2 * k)) (by rfl) (by first | exact ho5 | exact ho5.drew) (.slice (some ⟨b, off + (k + 1) * 2, none⟩) (n - (k + 1)) (c - (k + 1))) (n - (k + 1)) (l.drop (2 * k + 2)) (by rfl) (SD.out.below (by repeat (first | exact Below.refl _ _ | refine bel_al ?_ _ | refine Below.drew ?_ | refine Below.trans ?_ hb5))) (by omega) hz5 ?_; intro ao6 N6 cap6 w6 hN6 hN6' ho6 hg6 hb6; have e2 : w6.cell? ⟨t, 2, none⟩ = some (.slice ao n cap) := (hb6.cell (p := ⟨t, 2, none⟩) hzC).trans (by simp [go_sem, *]); have e3 : w6.frozen? ⟨t, 2, none⟩ = false := (hb6.frozen (p := ⟨t, 2, none⟩) hzC).trans (by simp [go_sem, *])) | (refine step_appK rfl _ _ (by rfl) w2.heap.size (some ⟨w2.heap.size, 0, none⟩) 0 0 [] (by rfl) (by first | exact OwnK.lit0 _ w2 _ (Nat.le_refl _) rfl | exact (OwnK.lit0 _ w2 _ (Nat.le_refl _) rfl).drew | exact OwnK.lit0 _ w2.drew _ (Nat.le_refl _) rfl) (.slice (some ⟨b, off, none⟩) k c) k (l.take (2 * k)) (by rfl) (ST.out.below (by repeat (first | exact Below.refl _ _ | refine bel_al ?_ _ | refine Below.drew ?_))) hq1 (by simp) ?_; intro ao5 N5 cap5 w5 hN5 hN5' ho5 hg5 hb5; have hz5 : w2.heap.size ≤ w5.heap.size := (by have := hb5.size; (try simp at this); omega); have e0 : w5.cell? ⟨t, 2, none⟩ = some (.slice ao n cap) := (hb5.cell (p := ⟨t, 2, none⟩) hzC).trans (by simp [go_sem, *]); have e1 : w5.frozen? ⟨t, 2, none⟩ = false := (hb5.frozen (p := ⟨t, 2, none⟩) hzC).trans (by simp [go_sem, *])))
            have hb26 : Below w2.heap.size w2 w6 := by repeat (first | exact Below.refl _ _ | refine bel_al ?_ _ | refine Below.drew ?_ | refine Below.trans ?_ hb5 | refine Below.trans ?_ hb6)
            have hgt : w6.grownBy (w6.setCell ⟨t, 2, none⟩ (.slice ao6 N6 cap6)) (some t) := grown_setA _ _ _ _
            have T7 := (T2.out.below hb26).set2 (.slice ao6 N6 cap6)
            have P7 := (P2.out.below hb26).grown hgt (by simp; omega)
            have Q7 := (Q2.out.below hb26).grown hgt (by simp; omega)
            rw [List.nil_append] at ho6
            have O7 := Lib.hid (ho6.store (ho6.notB (.inr hzC)) 2 (.slice ao6 N6 cap6))
            have c7 := hgt.cell ((hb26.cell (p := ⟨b, off + k * 2 + 1, none⟩) hb).trans c1) HBT.out
            have B6 := bel_seq B2.out hb26
            have B7 := Lib.hid (B6.trans (grown_below hgt (B := w.heap.size) B6.size (fun j hj => by cases hj; omega)))
            clear p0 p1 p2 f0 f1 f2 q0 q1 q2 r0 r1 r2 t0 t1 t2 u0 u1 u2 c0 c1 B6 hgt hb26 ho6 hg6 hb6 hg5 hb5 RET e0 e1 e2 e3 hz5 ho5
            generalize w6.setCell ⟨t, 2, none⟩ (.slice ao6 N6 cap6) = w7 at T7 P7 Q7 O7 c7 B7 ⊢
            have hzA7 := P7.lt
            have hzB7 := Q7.lt
            have hzC7 := T7.lt
            have hbq := HBQ.out
            obtain ⟨_, _, p2, _, _, _⟩ := P7
            obtain ⟨q0, q1, q2, r0, r1, r2⟩ := Q7
            obtain ⟨t0, t1, t2, _, _, _⟩ := T7
            go_wp2
            go_region
            all_goals
              go_wp2
              refine bodyPost_ret (v := .tuple #[.agg #[.int .i64 x, .int .i64 s, .slice ao6 N6 cap6], .int .i64 z, .bool true]) (by simp [results, Try.results22, go_sem, *]) rfl (keyPost HV.out ?_ (by repeat (with_reducible (first | exact Below.refl _ _ | refine bel_al ?_ _ | refine Below.setCell ?_ (by first | (simp; done) | (simp; omega)) _ | refine Below.drew ?_ | refine bel_drewN ?_ _ | refine bel_seq ?_ (B7.out)))))
              refine OwnK.mono (base := w2.heap.size) ?_ (by omega)
              repeat (first | exact O7.out | exact O7.out.drew | refine OwnK.cells ?_ (by omega) _ | refine OwnK.drew ?_)
        · have HN := Lib.hid (show ∀ j, j < k + 1 → ¬ l.getD (2 * j) 0 = step from fun j hj => by
            by_cases e : j = k
            · rw [e, hy]; exact hys
            · exact HK.out j (by omega))
          clear hy HK
          go_wp2
          go_round
          case rel => exact ⟨k + 1, by omega, by go_num, HN⟩
          case measure => simp [intOf]; omega
      · have hkn' : k = n := by omega
        subst hkn'
        have HV := Lib.hid (keyStep_none hve.out hlt HK.out)
        go_wp2
        exact bodyPost_ret (v := .tuple #[.agg #[.int .i64 x, .int .i64 s, .slice ao k cap], .int .i64 0, .bool false]) (by simp [results, Try.results22, go_sem, *]) rfl (RET.out _ HV.out _ rfl)
  · by_cases hfar : 8 < step - s
    · have HV := Lib.hid (keyStep_far hve.out hlt hfar)
      have hfar' : (8 : Int) < IntKind.i64.wrap (step - s) := by rw [IntKind.wrap_i64]; omega
      go_wp2
      exact bodyPost_ret (v := .tuple #[.agg #[.int .i64 x, .int .i64 s, .slice ao n cap], .int .i64 0, .bool false]) (by simp [results, Try.results22, go_sem, *]) rfl (RET.out _ HV.out _ rfl)
    · obtain ⟨K, hK⟩ : ∃ K : Nat, step = s + K := ⟨(step - s).toNat, by omega⟩
      have hK8 : K ≤ 8 := by omega
      have hfar' : ¬ (8 : Int) < IntKind.i64.wrap (step - s) := by rw [IntKind.wrap_i64]; omega
      have HVY := Lib.hid (fun (x' : Int) (L : List Int) (hq : skipI K x s l = (x', L)) => keyStep_yes hve.out hlt hfar hK hq)
      have HK := Lib.hid hK
      have T0 := T2
      have Q0 := Q2
      clear hK
      go_wp2_with fail
      clear p0 p1 p2 f0 f1 f2 q0 q1 q2 r0 r1 r2 t0 t1 t2 u0 u1 u2 RET P2 S2 hve hfar'
      go_loopw [] (fun wr => ∃ k : Nat, k ≤ K ∧ ∃ ao' N' cap', N' ≤ n + k ∧ n + k ≤ N' ∧ Hid (Box3 wr t (.int .i64 (skipI k x s l).1) (.int .i64 (s + k)) (.slice ao' N' cap')) ∧ Hid (Box3 wr (w.heap.size + 1) (.int .i64 0) (.int .i64 0) (.slice none 0 0)) ∧ Hid (OwnK (w.heap.size + 2) wr ao' N' cap' (skipI k x s l).2) ∧ Hid (ownB ao' = none ∨ ownB ao' ≠ some t) ∧ Hid (Below w.heap.size w wr)) (fun wr => (step - (match wr.cell? ⟨t, 1, none⟩ with | some v => intOf v | none => 0)).toNat)
      case atStart => exact ⟨0, Nat.zero_le _, ao, n, cap, by omega, by omega, T0.out.cast3 rfl (by simp) rfl |> Lib.hid, Q0, O2, HNT, B2⟩
      case round =>
        obtain ⟨k, hk, ao', N', cap', hN1, hN2, TR, QR, OR, NR, BR⟩ := hrel
        clear T0 Q0 T2 Q2 O2 HNT
        obtain ⟨⟨xk, lk⟩, hsk⟩ : ∃ q, skipI k x s l = q := ⟨_, rfl⟩
        rw [hsk] at TR OR
        have HSK := Lib.hid hsk
        clear hsk
        have hzT := TR.out.lt
        have hzQ := QR.out.lt
        obtain ⟨t0, t1, t2, u0, u1, u2⟩ := TR.out
        have HT1 := Lib.hid t1
        by_cases hkK : k < K
        · have hcmp : s + (k : Int) < step := by have := HK.out; omega
          have CM := fun W => specMessageKey xk W
          have CN := fun W => specNextChain xk W
          have hs1 : skipI (k + 1) x s l = (nextChainI xk, lk ++ [s + k, messageKeyI xk]) := by rw [skipI, HSK.out]
          generalize messageKeyI xk = mk at CM hs1
          generalize nextChainI xk = nc at CN hs1
          have HS1 := Lib.hid hs1
          have HCM := Lib.hid CM
          have HCN := Lib.hid CN
          have NR' : some t ≠ ownB ao' := by rcases NR.out with e | e
                                             · rw [e]; simp
                                             · exact fun h => e h.symm
          have HNR := Lib.hid NR'
          have hN3 : N' + 1 ≤ 1099511627776 := by omega
          clear CM CN hs1 NR'
          go_wp2_with fail
          go_region_law (first | (refine step_appK2 rfl _ _ (by rfl) (w.heap.size + 2) ao' N' cap' lk (by rfl) ((OR.out.below hbr).alloc _) (.slice (some ⟨w5.heap.size, 0, none⟩) 1 1) 1 [s + k, mk] (by rfl) (Sk.lit1 w5 _ _ _ rfl) hN3 (by simp; omega) ?_; intro ao6 N6 cap6 w6 hN6 hN6' ho6 hg6 hb6 hob6; have T6 := Lib.hid ((T5.out.alloc _).grown hg6 HNR.out); have hz6 := T6.out.lt; obtain ⟨k0, k1, k2, m0, m1, m2⟩ := T6.out) | (go_simp; go_at_call 72; (refine (HCM.out _).mono ?_); rintro e w5 ⟨rfl, hb5⟩; have hbr : Below wr.heap.size wr w5 := (by first | exact hb5 | exact bel_seq (Below.refl _ _).drew hb5); have T5 := Lib.hid (TR.out.below hbr); have hz5 := T5.out.lt; obtain ⟨g0, g1, g2, i0, i1, i2⟩ := T5.out))
          all_goals
            have T7 := T6.out.set2 (.slice ao6 N6 cap6)
            have hgt : w6.grownBy (w6.setCell ⟨t, 2, none⟩ (.slice ao6 N6 cap6)) (some t) := grown_setA _ _ _ _
            have Q6 := ((QR.out.below hbr).alloc (.cells #[.int .i64 (s + k), .int .i64 mk] 93)).keep hb6 (by omega)
            have Q7 := Lib.hid (Q6.grown hgt (by simp; omega))
            have hn6 : ownB ao6 = none ∨ ownB ao6 ≠ some t := by
              rcases hob6 with e | e
              · rw [e]; exact NR.out
              · rw [e]; exact .inr (by simp; omega)
            have N7 := Lib.hid hn6
            have O7 := Lib.hid (ho6.store hn6 2 (.slice ao6 N6 cap6))
            have B6 : Below w.heap.size w w6 := ((bel_seq BR.out hbr).alloc (Nat.le_trans BR.out.size hbr.size) _).trans (hb6.mono (by omega))
            have B7 := Lib.hid (B6.trans (grown_below hgt (B := w.heap.size) B6.size (fun j hj => by cases hj; omega)))
            clear hgt Q6 hn6 hob6 ho6 hg6 hb6 B6 T6 T5 hbr hb5 hz5 hz6 g0 g1 g2 i0 i1 i2 k0 k1 k2 m0 m1 m2 t0 t1 t2 u0 u1 u2 hzT hzQ TR QR OR NR BR
            generalize w6.setCell ⟨t, 2, none⟩ (.slice ao6 N6 cap6) = w7 at T7 Q7 O7 B7 ⊢
            have hz7 := T7.lt
            obtain ⟨t0, t1, t2, u0, u1, u2⟩ := T7
            have T7h := Lib.hid (show Box3 w7 t (.int .i64 xk) (.int .i64 (s + k)) (.slice ao6 N6 cap6) from ⟨t0, t1, t2, u0, u1, u2⟩)
            go_wp2_with fail
            refine (HCN.out _).mono ?_
            rintro e w8 ⟨rfl, hb8⟩
            have T8 := Lib.hid (T7h.out.below hb8)
            have Q8 := Lib.hid (Q7.out.below hb8)
            have O8 := Lib.hid (O7.out.below hb8)
            have B8 := Lib.hid (bel_seq B7.out hb8)
            clear t0 t1 t2 u0 u1 u2 hz7 hb8
            have hz8 := T8.out.lt
            obtain ⟨t0, t1, t2, u0, u1, u2⟩ := T8.out
            go_wp2_with fail
            go_roundw
            case rel =>
              refine ⟨k + 1, by omega, ao6, N6, cap6, by omega, by omega, ?_, ?_, ?_, N7, ?_⟩
              · rw [HS1.out]
                exact Lib.hid ((T8.out.set01 (.int .i64 nc) (.int .i64 (s + k + 1))).cast3 rfl (by rw [Int.natCast_add, ← Int.add_assoc]; rfl) rfl)
              · exact Lib.hid (Q8.out.grown (grown_trans (grown_setA _ t 0 _) (grown_setA _ t 1 _)) (by simp; omega))
              · rw [HS1.out]
                exact Lib.hid ((O8.out.store N7.out 0 _).store N7.out 1 _)
              · exact Lib.hid (B8.out.trans (grown_below (grown_trans (grown_setA _ t 0 _) (grown_setA _ t 1 _)) (B := w.heap.size) B8.out.size (fun j hj => by cases hj; omega)))
            case measure =>
              rw [(T8.out.set01 (.int .i64 nc) (.int .i64 (s + k + 1))).2.1, HT1.out]
              simp only [intOf]
              omega
        · obtain rfl : k = K := by omega
          have hcmp : ¬ s + (k : Int) < step := by have := HK.out; omega
          have hlen : lk.length = 2 * N' := OR.out.1
          have CM := fun W => specMessageKey xk W
          have CN := fun W => specNextChain xk W
          have HV := Lib.hid ((HVY.out xk lk HSK.out).trans (by rw [HK.out] : ((nextChainI xk, step + 1), trimK lk, messageKeyI xk, true) = ((nextChainI xk, s + k + 1), trimK lk, messageKeyI xk, true)))
          generalize messageKeyI xk = mk at CM HV
          generalize nextChainI xk = nc at CN HV
          have HCM := Lib.hid CM
          have HCN := Lib.hid CN
          clear CM CN HVY
          by_cases h8 : 8 < N'
          · obtain ⟨d, hd⟩ : ∃ d, N' = d + 8 := ⟨N' - 8, by omega⟩
            have ht : trimK lk = lk.drop (2 * d) := by unfold trimK; rw [show lk.length - 16 = 2 * d by omega]
            rw [ht] at HV
            clear ht
            obtain ⟨g, rfl⟩ : ∃ g, ao' = some ⟨g, 0, none⟩ := by
              rcases OR.out.shape with ⟨_, h0, _⟩ | ⟨g, rfl, _⟩
              · omega
              · exact ⟨g, rfl⟩
            obtain ⟨hc, hc2⟩ := OR.out.sl.capB
            have SD0 := OR.out.sl.drop (j := d) (by omega) OR.out.blk.2
            simp only [Nat.zero_add] at SD0
            have SD := Lib.hid (SD0.alloc (.cells #[] 93))
            have OL := Lib.hid (OwnK.lit0 wr.heap.size wr wr.heap.size (Nat.le_refl _) rfl)
            have h8' : (8 : Int) < N' := by omega
            have hd1 : IntKind.i64.wrap ((N' : Int) - 8) = d := by rw [IntKind.wrap_i64]; omega
            have hd2 : (d : Int) ≤ N' := by omega
            have hd3 : d ≤ N' := by omega
            have hd4 : (d : Int) ≤ cap' := by omega
            have hd5 : d ≤ cap' := by omega
            have hd6 : (N' : Int) ≤ cap' := by omega
            have hd7 : ¬ cap' = d := by omega
            have hd8 : (0 : Int) ≤ d := by omega
            have hl1 : 0 + (N' - d) ≤ 1099511627776 := by omega
            have hz1 : wr.heap.size ≤ (wr.alloc (.cells #[] 93)).heap.size := by simp
            have HR := Lib.hid (show Below wr.heap.size wr (wr.alloc (.cells #[] 93)) from bel_al (Below.refl _ _) _)
            clear SD0 hd h8
            go_wp2_with (at_builtin; go_loud (refine wpList_appK rfl _ _ rfl wr.heap.size _ _ _ _ rfl OL.out _ _ _ rfl SD.out hl1 hz1 ?_; intro ao6 N6 cap6 w6 hN6 hN6' ho6 hg6 hb6; have T6 := Lib.hid (TR.out.below (HR.out.trans hb6)); obtain ⟨k0, k1, k2, m0, m1, m2⟩ := T6.out; have hzT6 := T6.out.lt))
            have hb26 := HR.out.trans hb6
            have T7 := T6.out.set2 (.slice ao6 N6 cap6)
            have hgt : w6.grownBy (w6.setCell ⟨t, 2, none⟩ (.slice ao6 N6 cap6)) (some t) := grown_setA _ _ _ _
            have Q7 := Lib.hid ((QR.out.below hb26).grown hgt (by simp; omega))
            rw [List.nil_append] at ho6
            have N7 := Lib.hid (ho6.notB (b := t) (.inr hzT))
            have O7 := Lib.hid ((ho6.store N7.out 2 (.slice ao6 N6 cap6)).mono (show w.heap.size + 2 ≤ wr.heap.size by omega))
            have B6 := bel_seq BR.out hb26
            have B7 := Lib.hid (B6.trans (grown_below hgt (B := w.heap.size) B6.size (fun j hj => by cases hj; omega)))
            clear t0 t1 t2 u0 u1 u2 k0 k1 k2 m0 m1 m2 hgt B6 hb26 ho6 hg6 hb6 HR OL SD TR QR OR NR BR HT1 T6
            generalize w6.setCell ⟨t, 2, none⟩ (.slice ao6 N6 cap6) = w7 at T7 Q7 O7 B7 ⊢
            have T9 := Lib.hid T7
            have Q9 := Q7
            have O9 := O7
            have N9 := N7
            have B9 := B7
            clear T7 Q7 O7 N7 B7
            have hzT9 := T9.out.lt
            have hzQ9 := Q9.out.lt
            obtain ⟨t0, t1, t2, u0, u1, u2⟩ := T9.out
            go_wp2_with fail
            refine (HCM.out _).mono ?_
            rintro e wa ⟨rfl, hba⟩
            have Ta := Lib.hid (T9.out.below hba)
            have Qa := Lib.hid (Q9.out.below hba)
            have Oa := Lib.hid (O9.out.below hba)
            have Ba := Lib.hid (bel_seq B9.out hba)
            clear t0 t1 t2 u0 u1 u2 hzT9 hzQ9 hba T9 Q9 O9 B9
            obtain ⟨t0, t1, t2, u0, u1, u2⟩ := Ta.out
            go_wp2_with fail
            refine (HCN.out _).mono ?_
            rintro e wb ⟨rfl, hbb⟩
            have Tb := Lib.hid (Ta.out.below hbb)
            have Qb := Lib.hid (Qa.out.below hbb)
            have Ob := Lib.hid (Oa.out.below hbb)
            have Bb := Lib.hid (bel_seq Ba.out hbb)
            clear t0 t1 t2 u0 u1 u2 hbb Ta Qa Oa Ba
            have hzTb := Tb.out.lt
            have hzQb := Qb.out.lt
            obtain ⟨t0, t1, t2, u0, u1, u2⟩ := Tb.out
            obtain ⟨q0, q1, q2, r0, r1, r2⟩ := Qb.out
            go_wp2
            refine bodyPost_ret (v := .tuple #[.agg #[.int .i64 nc, .int .i64 (s + k + 1), .slice ao6 N6 cap6], .int .i64 mk, .bool true]) (by simp [results, Try.results22, go_sem, *]) rfl (keyPost HV.out ?_ (by repeat (with_reducible (first | exact Below.refl _ _ | refine bel_al ?_ _ | refine Below.setCell ?_ (by first | (simp; done) | (simp; omega)) _ | refine Below.drew ?_ | refine bel_drewN ?_ _ | refine bel_seq ?_ (Bb.out)))))
            refine OwnK.mono (base := w.heap.size + 2) ?_ (by omega)
            repeat (with_reducible (first | exact Ob.out | refine OwnK.cells ?_ (by omega) _ | refine OwnK.store ?_ N9.out _ _))
          · have ht : trimK lk = lk := by unfold trimK; rw [show lk.length - 16 = 0 by omega]; rfl
            rw [ht] at HV
            clear ht
            have h8' : ¬ (8 : Int) < N' := by omega
            have T9 := TR
            have Q9 := QR
            have O9 := OR
            have N9 := NR
            have B9 := BR
            clear TR QR OR NR BR HT1
            have hzT9 := T9.out.lt
            have hzQ9 := Q9.out.lt
            obtain ⟨t0, t1, t2, u0, u1, u2⟩ := T9.out
            go_wp2_with fail
            refine (HCM.out _).mono ?_
            rintro e wa ⟨rfl, hba⟩
            have Ta := Lib.hid (T9.out.below hba)
            have Qa := Lib.hid (Q9.out.below hba)
            have Oa := Lib.hid (O9.out.below hba)
            have Ba := Lib.hid (bel_seq B9.out hba)
            clear t0 t1 t2 u0 u1 u2 hzT9 hzQ9 hba T9 Q9 O9 B9
            obtain ⟨t0, t1, t2, u0, u1, u2⟩ := Ta.out
            go_wp2_with fail
            refine (HCN.out _).mono ?_
            rintro e wb ⟨rfl, hbb⟩
            have Tb := Lib.hid (Ta.out.below hbb)
            have Qb := Lib.hid (Qa.out.below hbb)
            have Ob := Lib.hid (Oa.out.below hbb)
            have Bb := Lib.hid (bel_seq Ba.out hbb)
            clear t0 t1 t2 u0 u1 u2 hbb Ta Qa Oa Ba
            have hzTb := Tb.out.lt
            have hzQb := Qb.out.lt
            obtain ⟨t0, t1, t2, u0, u1, u2⟩ := Tb.out
            obtain ⟨q0, q1, q2, r0, r1, r2⟩ := Qb.out
            go_wp2
            refine bodyPost_ret (v := .tuple #[.agg #[.int .i64 nc, .int .i64 (s + k + 1), .slice ao' N' cap'], .int .i64 mk, .bool true]) (by simp [results, Try.results22, go_sem, *]) rfl (keyPost HV.out ?_ (by repeat (with_reducible (first | exact Below.refl _ _ | refine bel_al ?_ _ | refine Below.setCell ?_ (by first | (simp; done) | (simp; omega)) _ | refine Below.drew ?_ | refine bel_drewN ?_ _ | refine bel_seq ?_ (Bb.out)))))
            refine OwnK.mono (base := w.heap.size + 2) ?_ (by omega)
            repeat (with_reducible (first | exact Ob.out | refine OwnK.cells ?_ (by omega) _ | refine OwnK.store ?_ N9.out _ _))
end Go.Proofs.Ytelcpihbdgikfaa
