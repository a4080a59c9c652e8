/- The walks of merging two lists of spent numbers. -/
import Derived.Test.YtdodheahckpkfaaProg
import Derived.Test.YtdodheahckpkfaaSpend
import Derived.Deep.RegionLaw
namespace Go.Proofs.Ytdodheahckpkfaa
open Go.RowKit

set_option maxRecDepth 100000 in
set_option maxHeartbeats 2000000 in
theorem specMergeSpent (ea eb : Int) (v u : Value) (la lb : List Int) (w : World) (hs : Sl .i64 w v la) (hu : Sl .i64 w u lb) (hl : la.length ≤ 1048576) : Calls Try.prog 33 #[.agg #[.int .i64 ea, v], .agg #[.int .i64 eb, u]] w (SpendPost ea (mergeI ea la eb lb) w) := by
  obtain ⟨a, c, rfl, hm⟩ := hs.shape
  obtain ⟨a', c', rfl, hm'⟩ := hu.shape
  have HSa := Lib.hid hs
  have HSb := Lib.hid hu
  have SA0 := ((hs.alloc (.cells #[.int .i64 ea, .slice a la.length c] 27)).alloc (.cells #[.int .i64 eb, .slice a' lb.length c'] 27)).alloc (.cells #[.int .i64 0, .slice none 0 0] 27)
  have SB0 := ((hu.alloc (.cells #[.int .i64 ea, .slice a la.length c] 27)).alloc (.cells #[.int .i64 eb, .slice a' lb.length c'] 27)).alloc (.cells #[.int .i64 0, .slice none 0 0] 27)
  have P0 := ((Two.new w (.int .i64 ea) (.slice a la.length c) 27).alloc (.cells #[.int .i64 eb, .slice a' lb.length c'] 27)).alloc (.cells #[.int .i64 0, .slice none 0 0] 27)
  have K0 := (Two.new (w.alloc (.cells #[.int .i64 ea, .slice a la.length c] 27)) (.int .i64 eb) (.slice a' lb.length c') 27).alloc (.cells #[.int .i64 0, .slice none 0 0] 27)
  have Q0 := Two.new ((w.alloc (.cells #[.int .i64 ea, .slice a la.length c] 27)).alloc (.cells #[.int .i64 eb, .slice a' lb.length c'] 27)) (.int .i64 0) (.slice none 0 0) 27
  have hb0 : Below w.heap.size w (((w.alloc (.cells #[.int .i64 ea, .slice a la.length c] 27)).alloc (.cells #[.int .i64 eb, .slice a' lb.length c'] 27)).alloc (.cells #[.int .i64 0, .slice none 0 0] 27)) := bel_al (bel_al (bel_al (Below.refl _ _) _) _) _
  have hz : w.heap.size + 3 ≤ (((w.alloc (.cells #[.int .i64 ea, .slice a la.length c] 27)).alloc (.cells #[.int .i64 eb, .slice a' lb.length c'] 27)).alloc (.cells #[.int .i64 0, .slice none 0 0] 27)).heap.size := by simp
  rw [World.size_alloc] at K0
  rw [World.size_alloc, World.size_alloc] at Q0
  clear hs hu
  go_enter Try.func33, Try.ntmps33
  go_wp2_with fail
  generalize ((w.alloc (.cells #[.int .i64 ea, .slice a la.length c] 27)).alloc (.cells #[.int .i64 eb, .slice a' lb.length c'] 27)).alloc (.cells #[.int .i64 0, .slice none 0 0] 27) = W0 at SA0 SB0 P0 K0 Q0 hb0 hz ⊢
  refine (specCopyS ea _ la W0 SA0 hl).mono ?_
  rintro e w1 ⟨ao, N, cap, rfl, ho, hb1⟩
  obtain rfl := ho.len
  have SAB := Lib.hid ((SA0.below hb1).alloc (.cells #[.int .i64 ea, .slice ao la.length cap] 27))
  have SBB := Lib.hid ((SB0.below hb1).alloc (.cells #[.int .i64 ea, .slice ao la.length cap] 27))
  have PB := Lib.hid ((P0.below hb1).alloc (.cells #[.int .i64 ea, .slice ao la.length cap] 27))
  have KB := Lib.hid ((K0.below hb1).alloc (.cells #[.int .i64 ea, .slice ao la.length cap] 27))
  have QB := Lib.hid ((Q0.below hb1).alloc (.cells #[.int .i64 ea, .slice ao la.length cap] 27))
  have TB := Lib.hid (Two.new w1 (.int .i64 ea) (.slice ao la.length cap) 27)
  have BB := Lib.hid (bel_al (bel_seq hb0 hb1) (.cells #[.int .i64 ea, .slice ao la.length cap] 27))
  have OB := Lib.hid ((ho.mono hz).alloc (.cells #[.int .i64 ea, .slice ao la.length cap] 27))
  have hz1 : w.heap.size + 3 ≤ w1.heap.size := Nat.le_trans hz hb1.size
  have HNT := Lib.hid (ho.notB (.inl (Nat.le_refl w1.heap.size)))
  obtain ⟨p0, p1, _, _⟩ := P0.below hb1
  have hzp : w.heap.size < w1.heap.size := by omega
  clear hb0 P0 K0 Q0 SA0 SB0 ho hb1 hz
  go_wp2_with fail
  clear p0 p1
  generalize w1.alloc (.cells #[.int .i64 ea, .slice ao la.length cap] 27) = W1 at SAB SBB PB KB QB TB BB OB ⊢
  generalize hB : w1.heap.size = t at TB hz1 hzp HNT ⊢
  clear hB
  have ht1 : ¬ t = w.heap.size := by omega
  have ht2 : ¬ t = w.heap.size + 1 + 1 := by omega
  have ht3 : ¬ w.heap.size = t := by omega
  have ht4 : ¬ w.heap.size + 1 + 1 = t := by omega
  have ht5 : ¬ t = w.heap.size + 1 := by omega
  have ht6 : ¬ w.heap.size + 1 = t := by omega
  refine (specIsValidSpentList ea _ la W1 SAB.out).mono ?_
  rintro e w2 ⟨rfl, hb2⟩
  have SB2 := Lib.hid (SBB.out.below hb2)
  have P2 := Lib.hid (PB.out.below hb2)
  have K2 := Lib.hid (KB.out.below hb2)
  have Q2 := Lib.hid (QB.out.below hb2)
  have T2 := Lib.hid (TB.out.below hb2)
  have O2 := Lib.hid (OB.out.below hb2)
  have B2 := Lib.hid (bel_seq BB.out hb2)
  clear PB KB QB TB OB BB hb2
  clear SAB SBB
  obtain ⟨p0, p1, f0, f1⟩ := P2.out
  obtain ⟨k0, k1, g0, g1⟩ := K2.out
  obtain ⟨q0, q1, r0, r1⟩ := Q2.out
  obtain ⟨t0, t1, u0, u1⟩ := T2.out
  have hzP := P2.out.lt
  have hzK := K2.out.lt
  have hzQ := Q2.out.lt
  have hzT := T2.out.lt
  cases hva : validSpentI ea la with
  | false =>
    have HV := Lib.hid (merge_no (ea := ea) (a := la) (eb := eb) (b := lb) (by rw [hva]; rfl))
    go_wp2
    refine bodyPost_ret (v := .tuple #[.agg #[.int .i64 ea, .slice ao la.length cap], .int .i64 0]) (by simp [results, Try.results33, go_sem, *]) rfl (spendPost HV.out ?_ (by repeat (with_reducible (first | exact Below.refl _ _ | refine bel_al ?_ _ | refine Below.setCell ?_ (by first | (simp; done) | (simp; omega)) _ | refine Below.drew ?_ | refine bel_drewN ?_ _ | refine bel_seq ?_ (B2.out)))))
    refine Own.mono (base := w.heap.size + 3) ?_ (by omega)
    repeat (with_reducible (first | exact O2.out | refine Own.cells ?_ (by omega) _))
  | true =>
    go_wp2_with fail
    refine (specIsValidSpentList eb _ lb w2 SB2.out).mono ?_
    rintro e w3 ⟨rfl, hb3⟩
    clear p0 p1 f0 f1 k0 k1 g0 g1 q0 q1 r0 r1 t0 t1 u0 u1 hzP hzK hzQ hzT
    have P3 := Lib.hid (P2.out.below hb3)
    have K3 := Lib.hid (K2.out.below hb3)
    have Q3 := Lib.hid (Q2.out.below hb3)
    have T3 := Lib.hid (T2.out.below hb3)
    have O3 := Lib.hid (O2.out.below hb3)
    have B3 := Lib.hid (bel_seq B2.out hb3)
    clear P2 K2 Q2 T2 O2 B2 hb3
    clear SB2
    obtain ⟨p0, p1, f0, f1⟩ := P3.out
    obtain ⟨k0, k1, g0, g1⟩ := K3.out
    obtain ⟨q0, q1, r0, r1⟩ := Q3.out
    obtain ⟨t0, t1, u0, u1⟩ := T3.out
    have hzP := P3.out.lt
    have hzK := K3.out.lt
    have hzQ := Q3.out.lt
    have hzT := T3.out.lt
    cases hvb : validSpentI eb lb with
    | false =>
      have HV := Lib.hid (merge_no (ea := ea) (a := la) (eb := eb) (b := lb) (by rw [hva, hvb]; rfl))
      go_wp2
      refine bodyPost_ret (v := .tuple #[.agg #[.int .i64 ea, .slice ao la.length cap], .int .i64 0]) (by simp [results, Try.results33, go_sem, *]) rfl (spendPost HV.out ?_ (by repeat (with_reducible (first | exact Below.refl _ _ | refine bel_al ?_ _ | refine Below.setCell ?_ (by first | (simp; done) | (simp; omega)) _ | refine Below.drew ?_ | refine bel_drewN ?_ _ | refine bel_seq ?_ (B3.out)))))
      refine Own.mono (base := w.heap.size + 3) ?_ (by omega)
      repeat (with_reducible (first | exact O3.out | refine Own.cells ?_ (by omega) _))
    | true =>
      by_cases hee : ea = eb
      · subst hee
        have heb : (ea != ea) = false := by simp
        have HYes := Lib.hid (fun (L : List Int) (n : Nat) (hq : mergeTo la lb lb.length = (L, n)) => merge_yes (ea := ea) (a := la) (eb := ea) (b := lb) (by rw [hva, hvb]; simp) hq)
        obtain ⟨_, hla, _, hsa⟩ := validSpent_iff.1 hva
        obtain ⟨_, hlb, _, _⟩ := validSpent_iff.1 hvb
        have HINV := Lib.hid (fun k hk => mergeTo_inv (a := la) (b := lb) (sorted_of_strict hsa) hla k hk)
        clear hva hvb hsa
        have T0 := T3
        have O0 := O3
        have P9 := P3
        have K9 := K3
        have Q9 := Q3
        have B9 := B3
        clear T3 O3 P3 K3 Q3 B3
        go_wp2_with fail
        go_loopw [7, 8] (fun nx ix wr => ∃ k : Nat, k ≤ lb.length ∧ ix = .int .i64 k ∧ ∃ (L : List Int) (nn : Nat) (ao2 : Option Addr) (N2 cap2 : Nat), Hid (mergeTo la lb k = (L, nn)) ∧ nx = .int .i64 nn ∧ Hid (Two wr t (.int .i64 ea) (.slice ao2 N2 cap2)) ∧ Hid (Own .i64 3 (w.heap.size + 3) wr ao2 N2 cap2 L) ∧ Hid (ownB ao2 = none ∨ ownB ao2 ≠ some t) ∧ Hid (Two wr w.heap.size (.int .i64 ea) (.slice a la.length c)) ∧ Hid (Two wr (w.heap.size + 1) (.int .i64 ea) (.slice a' lb.length c')) ∧ Hid (Two wr (w.heap.size + 1 + 1) (.int .i64 0) (.slice none 0 0)) ∧ Hid (Below w.heap.size w wr)) (fun _ ix _ => lb.length - (intOf ix).toNat)
        case atStart => exact ⟨0, Nat.zero_le _, rfl, la, 0, ao, la.length, cap, Lib.hid (mergeTo_zero la lb), rfl, T0, O0, HNT, P9, K9, Q9, B9⟩
        case round =>
          obtain ⟨k, hk, rfl, L, nn, ao2, N2, cap2, HQ, rfl, TR, OR, NR, PR, KR, QR, BR⟩ := hrel
          clear p0 p1 f0 f1 k0 k1 g0 g1 q0 q1 r0 r1 t0 t1 u0 u1 hzP hzK hzQ hzT T0 O0 HNT P9 K9 Q9 B9
          obtain rfl := OR.out.len
          obtain ⟨hso, hL40, hnk⟩ : L.Pairwise (· ≤ ·) ∧ L.length ≤ 40 ∧ nn ≤ k := by have := HINV.out k hk; rw [HQ.out] at this; exact this
          obtain ⟨p0, p1, f0, f1⟩ := PR.out
          obtain ⟨k0, k1, g0, g1⟩ := KR.out
          obtain ⟨q0, q1, r0, r1⟩ := QR.out
          obtain ⟨t0, t1, u0, u1⟩ := TR.out
          have hzP := PR.out.lt
          have hzK := KR.out.lt
          have hzQ := QR.out.lt
          have hzT := TR.out.lt
          by_cases hlt : k < lb.length
          · obtain ⟨b, off, rfl, hb, h4⟩ := HSb.out.at hlt
            have c0 := (BR.out.cell (p := ⟨b, off + k, none⟩) hb).trans (h4 k hlt)
            have hlt2 : (k : Int) < lb.length := by omega
            obtain ⟨y, hy⟩ : ∃ y, lb.getD k 0 = y := ⟨_, rfl⟩
            rw [hy] at c0
            have HY := Lib.hid hy
            have hbT : some b ≠ some t := by simp; omega
            have hbz : b < wr.heap.size := Nat.lt_of_lt_of_le hb BR.out.size
            clear h4 hy
            have HSR := Lib.hid (HSa.out.below BR.out)
            cases hme : memB la y with
            | true =>
              have HN := Lib.hid (merge_mem hlt HQ.out HY.out hme)
              have hwn : IntKind.i64.wrap ((nn : Int) + 1) = nn + 1 := by rw [IntKind.wrap_i64]; omega
              go_wp2_with fail
              go_region_held3 (fun W' => W'.cell? ⟨w.heap.size, 0, none⟩ = some (.int .i64 ea) ∧ W'.cell? ⟨w.heap.size, 1, none⟩ = some (.slice a la.length c) ∧ W'.cell? ⟨w.heap.size + 1, 1, none⟩ = some (.slice (some ⟨b, off, none⟩) lb.length c') ∧ W'.cell? ⟨b, off + k, none⟩ = some (.int .i64 y) ∧ Below wr.heap.size wr W') (first | assumption | exact keep4 h14 p0 p1 k1 c0 | exact keep4 ((Below.refl _ _).drew) p0 p1 k1 c0) (first | (go_at_call 16; (refine (specIsSpent ea (.slice a la.length c) la y _ (HSR.out.below (bel4 ‹_›))).mono ?_); rintro e w4 ⟨rfl, hb4⟩; have h14 : Below wr.heap.size wr w4 := bel_seq (bel4 ‹_›) hb4) | fail)
              have hb14 : Below wr.heap.size wr w4 := h14
              have P4 := Lib.hid (PR.out.below hb14)
              have K4 := Lib.hid (KR.out.below hb14)
              have Q4 := Lib.hid (QR.out.below hb14)
              have T4 := Lib.hid (TR.out.below hb14)
              have O4 := Lib.hid (OR.out.below hb14)
              have B4 := Lib.hid (bel_seq BR.out hb14)
              have c4 := (hb14.cell (p := ⟨b, off + k, none⟩) hbz).trans c0
              clear c0 p0 p1 f0 f1 k0 k1 g0 g1 q0 q1 r0 r1 t0 t1 u0 u1 hzP hzK hzQ hzT
              obtain ⟨p0, p1, f0, f1⟩ := P4.out
              obtain ⟨k0, k1, g0, g1⟩ := K4.out
              obtain ⟨q0, q1, r0, r1⟩ := Q4.out
              obtain ⟨t0, t1, u0, u1⟩ := T4.out
              have hzP := P4.out.lt
              have hzK := K4.out.lt
              have hzQ := Q4.out.lt
              have hzT := T4.out.lt
              have hbz4 : b < w4.heap.size := Nat.lt_of_lt_of_le hbz hb14.size
              go_wp2_with fail
              go_roundw
              case rel => exact ⟨k + 1, by omega, by go_num, L, nn + 1, ao2, L.length, cap2, HN, by go_num, T4, O4, NR, P4, K4, Q4, B4⟩
              case measure => simp [intOf]; omega
            | false =>
              go_wp2_with fail
              go_region_held3 (fun W' => W'.cell? ⟨w.heap.size, 0, none⟩ = some (.int .i64 ea) ∧ W'.cell? ⟨w.heap.size, 1, none⟩ = some (.slice a la.length c) ∧ W'.cell? ⟨w.heap.size + 1, 1, none⟩ = some (.slice (some ⟨b, off, none⟩) lb.length c') ∧ W'.cell? ⟨b, off + k, none⟩ = some (.int .i64 y) ∧ Below wr.heap.size wr W') (first | assumption | exact keep4 h14 p0 p1 k1 c0 | exact keep4 ((Below.refl _ _).drew) p0 p1 k1 c0) (first | (go_at_call 16; (refine (specIsSpent ea (.slice a la.length c) la y _ (HSR.out.below (bel4 ‹_›))).mono ?_); rintro e w4 ⟨rfl, hb4⟩; have h14 : Below wr.heap.size wr w4 := bel_seq (bel4 ‹_›) hb4) | fail)
              have hb14 : Below wr.heap.size wr w4 := h14
              have P4 := Lib.hid (PR.out.below hb14)
              have K4 := Lib.hid (KR.out.below hb14)
              have Q4 := Lib.hid (QR.out.below hb14)
              have T4 := Lib.hid (TR.out.below hb14)
              have O4 := Lib.hid (OR.out.below hb14)
              have B4 := Lib.hid (bel_seq BR.out hb14)
              have c4 := (hb14.cell (p := ⟨b, off + k, none⟩) hbz).trans c0
              clear c0 p0 p1 f0 f1 k0 k1 g0 g1 q0 q1 r0 r1 t0 t1 u0 u1 hzP hzK hzQ hzT
              obtain ⟨p0, p1, f0, f1⟩ := P4.out
              obtain ⟨k0, k1, g0, g1⟩ := K4.out
              obtain ⟨q0, q1, r0, r1⟩ := Q4.out
              obtain ⟨t0, t1, u0, u1⟩ := T4.out
              have hzP := P4.out.lt
              have hzK := K4.out.lt
              have hzQ := Q4.out.lt
              have hzT := T4.out.lt
              have hbz4 : b < w4.heap.size := Nat.lt_of_lt_of_le hbz hb14.size
              by_cases h40 : L.length < 40
              · have HN := Lib.hid (merge_ins hlt HQ.out HY.out hme h40)
                have h41 : (L.length : Int) < 40 := by omega
                have CI := Lib.hid (fun W (h : Below w4.heap.size w4 W) => specInsert ea (.slice ao2 L.length cap2) L y W (O4.out.below h).sl (by omega) hso)
                generalize insI L y = LI at CI HN
                go_wp2_with fail
                go_region_law (first | (go_simp; go_at_call 66; (refine (CI.out _ (by repeat (first | exact Below.refl _ _ | refine Below.drew ?_))).mono ?_); rintro e w5 ⟨ao5, N5, cap5, rfl, ho5, hb5⟩; have hb45 : Below w4.heap.size w4 w5 := (by first | exact hb5 | exact bel_seq (Below.refl _ _).drew hb5); have T5 := Lib.hid (T4.out.below hb45); obtain ⟨v0, v1, v2, v3⟩ := T5.out; have hzv := T5.out.lt) | fail)
                all_goals
                  have P5 := Lib.hid (P4.out.below hb45)
                  have K5 := Lib.hid (K4.out.below hb45)
                  have Q5 := Lib.hid (Q4.out.below hb45)
                  have N5b := Lib.hid (ho5.notB (b := t) (.inr hzT))
                  have O5 := Lib.hid (ho5.mono (show w.heap.size + 3 ≤ w4.heap.size by omega))
                  have B5 := Lib.hid (bel_seq B4.out hb45)
                  have hgt := grown_trans (grown_setCellW w5 t 0 (.int .i64 ea)) (grown_setCellW _ t 1 (.slice ao5 N5 cap5))
                  go_wp2_with fail
                  go_roundw
                  case rel => exact ⟨k + 1, by omega, by go_num, LI, nn, ao5, N5, cap5, HN, rfl, Lib.hid ((T5.out.set0 _).set1 _), Lib.hid (O5.out.grown hgt N5b.out), N5b, Lib.hid (P5.out.grown hgt (by simp; omega)), Lib.hid (K5.out.grown hgt (by simp; omega)), Lib.hid (Q5.out.grown hgt (by simp; omega)), Lib.hid (B5.out.trans (grown_below hgt (B := w.heap.size) B5.out.size (fun j hj => by cases hj; omega)))⟩
                  case measure => simp [intOf]; omega
              · have HN := Lib.hid (merge_full hlt HQ.out HY.out hme h40)
                have h41 : ¬ (L.length : Int) < 40 := by omega
                go_wp2_with fail
                go_roundw
                case rel => exact ⟨k + 1, by omega, by go_num, L, nn, ao2, L.length, cap2, HN, rfl, T4, O4, NR, P4, K4, Q4, B4⟩
                case measure => simp [intOf]; omega
          · obtain rfl : k = lb.length := by omega
            have HV := Lib.hid (HYes.out _ _ HQ.out)
            have hlt3 : ¬ (lb.length : Int) < lb.length := by omega
            go_wp2
            refine bodyPost_ret (v := .tuple #[.agg #[.int .i64 ea, .slice ao2 L.length cap2], .int .i64 nn]) (by simp [results, Try.results33, go_sem, *]) rfl (spendPost HV.out ?_ (by repeat (with_reducible (first | exact Below.refl _ _ | refine bel_al ?_ _ | refine Below.setCell ?_ (by first | (simp; done) | (simp; omega)) _ | refine Below.drew ?_ | refine bel_drewN ?_ _ | refine bel_seq ?_ (BR.out)))))
            refine Own.mono (base := w.heap.size + 3) ?_ (by omega)
            repeat (with_reducible (first | exact OR.out | refine Own.cells ?_ (by omega) _))
      · have heb : (ea != eb) = true := by simpa using hee
        have HV := Lib.hid (merge_no (ea := ea) (a := la) (eb := eb) (b := lb) (by rw [hva, hvb]; simpa using hee))
        go_wp2
        refine bodyPost_ret (v := .tuple #[.agg #[.int .i64 ea, .slice ao la.length cap], .int .i64 0]) (by simp [results, Try.results33, go_sem, *]) rfl (spendPost HV.out ?_ (by repeat (with_reducible (first | exact Below.refl _ _ | refine bel_al ?_ _ | refine Below.setCell ?_ (by first | (simp; done) | (simp; omega)) _ | refine Below.drew ?_ | refine bel_drewN ?_ _ | refine bel_seq ?_ (B3.out)))))
        refine Own.mono (base := w.heap.size + 3) ?_ (by omega)
        repeat (with_reducible (first | exact O3.out | refine Own.cells ?_ (by omega) _))
set_option maxRecDepth 100000 in
set_option maxHeartbeats 2000000 in
theorem implMergeSpent (ea eb : Int) (v u : Value) (la lb : List Int) (w : World) (hs : Sl .i64 w v la) (hu : Sl .i64 w u lb) (hl : la.length ≤ 1048576) : Calls Try.prog 34 #[.agg #[.int .i64 ea, v], .agg #[.int .i64 eb, u]] w (SpendPost ea (mergeI ea la eb lb) w) := by
  obtain ⟨a, c, rfl, hm⟩ := hs.shape
  obtain ⟨a', c', rfl, hm'⟩ := hu.shape
  have HSa := Lib.hid hs
  have HSb := Lib.hid hu
  have SA0 := ((hs.alloc (.cells #[.int .i64 ea, .slice a la.length c] 27)).alloc (.cells #[.int .i64 eb, .slice a' lb.length c'] 27)).alloc (.cells #[.int .i64 0, .slice none 0 0] 27)
  have SB0 := ((hu.alloc (.cells #[.int .i64 ea, .slice a la.length c] 27)).alloc (.cells #[.int .i64 eb, .slice a' lb.length c'] 27)).alloc (.cells #[.int .i64 0, .slice none 0 0] 27)
  have P0 := ((Two.new w (.int .i64 ea) (.slice a la.length c) 27).alloc (.cells #[.int .i64 eb, .slice a' lb.length c'] 27)).alloc (.cells #[.int .i64 0, .slice none 0 0] 27)
  have K0 := (Two.new (w.alloc (.cells #[.int .i64 ea, .slice a la.length c] 27)) (.int .i64 eb) (.slice a' lb.length c') 27).alloc (.cells #[.int .i64 0, .slice none 0 0] 27)
  have Q0 := Two.new ((w.alloc (.cells #[.int .i64 ea, .slice a la.length c] 27)).alloc (.cells #[.int .i64 eb, .slice a' lb.length c'] 27)) (.int .i64 0) (.slice none 0 0) 27
  have hb0 : Below w.heap.size w (((w.alloc (.cells #[.int .i64 ea, .slice a la.length c] 27)).alloc (.cells #[.int .i64 eb, .slice a' lb.length c'] 27)).alloc (.cells #[.int .i64 0, .slice none 0 0] 27)) := bel_al (bel_al (bel_al (Below.refl _ _) _) _) _
  have hz : w.heap.size + 3 ≤ (((w.alloc (.cells #[.int .i64 ea, .slice a la.length c] 27)).alloc (.cells #[.int .i64 eb, .slice a' lb.length c'] 27)).alloc (.cells #[.int .i64 0, .slice none 0 0] 27)).heap.size := by simp
  rw [World.size_alloc] at K0
  rw [World.size_alloc, World.size_alloc] at Q0
  clear hs hu
  go_enter Try.func34, Try.ntmps34
  go_wp2_with fail
  generalize ((w.alloc (.cells #[.int .i64 ea, .slice a la.length c] 27)).alloc (.cells #[.int .i64 eb, .slice a' lb.length c'] 27)).alloc (.cells #[.int .i64 0, .slice none 0 0] 27) = W0 at SA0 SB0 P0 K0 Q0 hb0 hz ⊢
  refine (implCopyS ea _ la W0 SA0 hl).mono ?_
  rintro e w1 ⟨ao, N, cap, rfl, ho, hb1⟩
  obtain rfl := ho.len
  have SAB := Lib.hid ((SA0.below hb1).alloc (.cells #[.int .i64 ea, .slice ao la.length cap] 27))
  have SBB := Lib.hid ((SB0.below hb1).alloc (.cells #[.int .i64 ea, .slice ao la.length cap] 27))
  have PB := Lib.hid ((P0.below hb1).alloc (.cells #[.int .i64 ea, .slice ao la.length cap] 27))
  have KB := Lib.hid ((K0.below hb1).alloc (.cells #[.int .i64 ea, .slice ao la.length cap] 27))
  have QB := Lib.hid ((Q0.below hb1).alloc (.cells #[.int .i64 ea, .slice ao la.length cap] 27))
  have TB := Lib.hid (Two.new w1 (.int .i64 ea) (.slice ao la.length cap) 27)
  have BB := Lib.hid (bel_al (bel_seq hb0 hb1) (.cells #[.int .i64 ea, .slice ao la.length cap] 27))
  have OB := Lib.hid ((ho.mono hz).alloc (.cells #[.int .i64 ea, .slice ao la.length cap] 27))
  have hz1 : w.heap.size + 3 ≤ w1.heap.size := Nat.le_trans hz hb1.size
  have HNT := Lib.hid (ho.notB (.inl (Nat.le_refl w1.heap.size)))
  obtain ⟨p0, p1, _, _⟩ := P0.below hb1
  have hzp : w.heap.size < w1.heap.size := by omega
  clear hb0 P0 K0 Q0 SA0 SB0 ho hb1 hz
  go_wp2_with fail
  clear p0 p1
  generalize w1.alloc (.cells #[.int .i64 ea, .slice ao la.length cap] 27) = W1 at SAB SBB PB KB QB TB BB OB ⊢
  generalize hB : w1.heap.size = t at TB hz1 hzp HNT ⊢
  clear hB
  have ht1 : ¬ t = w.heap.size := by omega
  have ht2 : ¬ t = w.heap.size + 1 + 1 := by omega
  have ht3 : ¬ w.heap.size = t := by omega
  have ht4 : ¬ w.heap.size + 1 + 1 = t := by omega
  have ht5 : ¬ t = w.heap.size + 1 := by omega
  have ht6 : ¬ w.heap.size + 1 = t := by omega
  refine (implIsValidSpentList ea _ la W1 SAB.out).mono ?_
  rintro e w2 ⟨rfl, hb2⟩
  have SB2 := Lib.hid (SBB.out.below hb2)
  have P2 := Lib.hid (PB.out.below hb2)
  have K2 := Lib.hid (KB.out.below hb2)
  have Q2 := Lib.hid (QB.out.below hb2)
  have T2 := Lib.hid (TB.out.below hb2)
  have O2 := Lib.hid (OB.out.below hb2)
  have B2 := Lib.hid (bel_seq BB.out hb2)
  clear PB KB QB TB OB BB hb2
  clear SAB SBB
  obtain ⟨p0, p1, f0, f1⟩ := P2.out
  obtain ⟨k0, k1, g0, g1⟩ := K2.out
  obtain ⟨q0, q1, r0, r1⟩ := Q2.out
  obtain ⟨t0, t1, u0, u1⟩ := T2.out
  have hzP := P2.out.lt
  have hzK := K2.out.lt
  have hzQ := Q2.out.lt
  have hzT := T2.out.lt
  cases hva : validSpentI ea la with
  | false =>
    have HV := Lib.hid (merge_no (ea := ea) (a := la) (eb := eb) (b := lb) (by rw [hva]; rfl))
    go_wp2
    refine bodyPost_ret (v := .tuple #[.agg #[.int .i64 ea, .slice ao la.length cap], .int .i64 0]) (by simp [results, Try.results34, go_sem, *]) rfl (spendPost HV.out ?_ (by repeat (with_reducible (first | exact Below.refl _ _ | refine bel_al ?_ _ | refine Below.setCell ?_ (by first | (simp; done) | (simp; omega)) _ | refine Below.drew ?_ | refine bel_drewN ?_ _ | refine bel_seq ?_ (B2.out)))))
    refine Own.mono (base := w.heap.size + 3) ?_ (by omega)
    repeat (with_reducible (first | exact O2.out | refine Own.cells ?_ (by omega) _))
  | true =>
    go_wp2_with fail
    refine (implIsValidSpentList eb _ lb w2 SB2.out).mono ?_
    rintro e w3 ⟨rfl, hb3⟩
    clear p0 p1 f0 f1 k0 k1 g0 g1 q0 q1 r0 r1 t0 t1 u0 u1 hzP hzK hzQ hzT
    have P3 := Lib.hid (P2.out.below hb3)
    have K3 := Lib.hid (K2.out.below hb3)
    have Q3 := Lib.hid (Q2.out.below hb3)
    have T3 := Lib.hid (T2.out.below hb3)
    have O3 := Lib.hid (O2.out.below hb3)
    have B3 := Lib.hid (bel_seq B2.out hb3)
    clear P2 K2 Q2 T2 O2 B2 hb3
    clear SB2
    obtain ⟨p0, p1, f0, f1⟩ := P3.out
    obtain ⟨k0, k1, g0, g1⟩ := K3.out
    obtain ⟨q0, q1, r0, r1⟩ := Q3.out
    obtain ⟨t0, t1, u0, u1⟩ := T3.out
    have hzP := P3.out.lt
    have hzK := K3.out.lt
    have hzQ := Q3.out.lt
    have hzT := T3.out.lt
    cases hvb : validSpentI eb lb with
    | false =>
      have HV := Lib.hid (merge_no (ea := ea) (a := la) (eb := eb) (b := lb) (by rw [hva, hvb]; rfl))
      go_wp2
      refine bodyPost_ret (v := .tuple #[.agg #[.int .i64 ea, .slice ao la.length cap], .int .i64 0]) (by simp [results, Try.results34, go_sem, *]) rfl (spendPost HV.out ?_ (by repeat (with_reducible (first | exact Below.refl _ _ | refine bel_al ?_ _ | refine Below.setCell ?_ (by first | (simp; done) | (simp; omega)) _ | refine Below.drew ?_ | refine bel_drewN ?_ _ | refine bel_seq ?_ (B3.out)))))
      refine Own.mono (base := w.heap.size + 3) ?_ (by omega)
      repeat (with_reducible (first | exact O3.out | refine Own.cells ?_ (by omega) _))
    | true =>
      by_cases hee : ea = eb
      · subst hee
        have heb : (ea != ea) = false := by simp
        have HYes := Lib.hid (fun (L : List Int) (n : Nat) (hq : mergeTo la lb lb.length = (L, n)) => merge_yes (ea := ea) (a := la) (eb := ea) (b := lb) (by rw [hva, hvb]; simp) hq)
        obtain ⟨_, hla, _, hsa⟩ := validSpent_iff.1 hva
        obtain ⟨_, hlb, _, _⟩ := validSpent_iff.1 hvb
        have HINV := Lib.hid (fun k hk => mergeTo_inv (a := la) (b := lb) (sorted_of_strict hsa) hla k hk)
        clear hva hvb hsa
        have T0 := T3
        have O0 := O3
        have P9 := P3
        have K9 := K3
        have Q9 := Q3
        have B9 := B3
        clear T3 O3 P3 K3 Q3 B3
        go_wp2_with fail
        go_loopw [7, 9, 31] (fun nx _ ix wr => ∃ k : Nat, k ≤ lb.length ∧ ix = .int .i64 k ∧ ∃ (L : List Int) (nn : Nat) (ao2 : Option Addr) (N2 cap2 : Nat), Hid (mergeTo la lb k = (L, nn)) ∧ nx = .int .i64 nn ∧ Hid (Two wr t (.int .i64 ea) (.slice ao2 N2 cap2)) ∧ Hid (Own .i64 3 (w.heap.size + 3) wr ao2 N2 cap2 L) ∧ Hid (ownB ao2 = none ∨ ownB ao2 ≠ some t) ∧ Hid (Two wr w.heap.size (.int .i64 ea) (.slice a la.length c)) ∧ Hid (Two wr (w.heap.size + 1) (.int .i64 ea) (.slice a' lb.length c')) ∧ Hid (Two wr (w.heap.size + 1 + 1) (.int .i64 0) (.slice none 0 0)) ∧ Hid (Below w.heap.size w wr)) (fun _ _ ix _ => lb.length - (intOf ix).toNat)
        case atStart => exact ⟨0, Nat.zero_le _, rfl, la, 0, ao, la.length, cap, Lib.hid (mergeTo_zero la lb), rfl, T0, O0, HNT, P9, K9, Q9, B9⟩
        case round =>
          obtain ⟨k, hk, rfl, L, nn, ao2, N2, cap2, HQ, rfl, TR, OR, NR, PR, KR, QR, BR⟩ := hrel
          clear p0 p1 f0 f1 k0 k1 g0 g1 q0 q1 r0 r1 t0 t1 u0 u1 hzP hzK hzQ hzT T0 O0 HNT P9 K9 Q9 B9
          obtain rfl := OR.out.len
          obtain ⟨hso, hL40, hnk⟩ : L.Pairwise (· ≤ ·) ∧ L.length ≤ 40 ∧ nn ≤ k := by have := HINV.out k hk; rw [HQ.out] at this; exact this
          obtain ⟨p0, p1, f0, f1⟩ := PR.out
          obtain ⟨k0, k1, g0, g1⟩ := KR.out
          obtain ⟨q0, q1, r0, r1⟩ := QR.out
          obtain ⟨t0, t1, u0, u1⟩ := TR.out
          have hzP := PR.out.lt
          have hzK := KR.out.lt
          have hzQ := QR.out.lt
          have hzT := TR.out.lt
          by_cases hlt : k < lb.length
          · obtain ⟨b, off, rfl, hb, h4⟩ := HSb.out.at hlt
            have c0 := (BR.out.cell (p := ⟨b, off + k, none⟩) hb).trans (h4 k hlt)
            have hlt2 : (k : Int) < lb.length := by omega
            obtain ⟨y, hy⟩ : ∃ y, lb.getD k 0 = y := ⟨_, rfl⟩
            rw [hy] at c0
            have HY := Lib.hid hy
            have hbT : some b ≠ some t := by simp; omega
            have hbz : b < wr.heap.size := Nat.lt_of_lt_of_le hb BR.out.size
            clear h4 hy
            have HSR := Lib.hid (HSa.out.below BR.out)
            cases hme : memB la y with
            | true =>
              have HN := Lib.hid (merge_mem hlt HQ.out HY.out hme)
              have hwn : IntKind.i64.wrap ((nn : Int) + 1) = nn + 1 := by rw [IntKind.wrap_i64]; omega
              go_wp2_with fail
              refine (implIsSpent ea _ la y _ HSR.out).mono ?_
              rintro e w4 ⟨rfl, hb4⟩
              have hb14 : Below wr.heap.size wr w4 := hb4
              have P4 := Lib.hid (PR.out.below hb14)
              have K4 := Lib.hid (KR.out.below hb14)
              have Q4 := Lib.hid (QR.out.below hb14)
              have T4 := Lib.hid (TR.out.below hb14)
              have O4 := Lib.hid (OR.out.below hb14)
              have B4 := Lib.hid (bel_seq BR.out hb14)
              have c4 := (hb14.cell (p := ⟨b, off + k, none⟩) hbz).trans c0
              clear c0 p0 p1 f0 f1 k0 k1 g0 g1 q0 q1 r0 r1 t0 t1 u0 u1 hzP hzK hzQ hzT
              obtain ⟨p0, p1, f0, f1⟩ := P4.out
              obtain ⟨k0, k1, g0, g1⟩ := K4.out
              obtain ⟨q0, q1, r0, r1⟩ := Q4.out
              obtain ⟨t0, t1, u0, u1⟩ := T4.out
              have hzP := P4.out.lt
              have hzK := K4.out.lt
              have hzQ := Q4.out.lt
              have hzT := T4.out.lt
              have hbz4 : b < w4.heap.size := Nat.lt_of_lt_of_le hbz hb14.size
              go_wp2_with fail
              go_roundw
              case rel => exact ⟨k + 1, by omega, by go_num, L, nn + 1, ao2, L.length, cap2, HN, by go_num, T4, O4, NR, P4, K4, Q4, B4⟩
              case measure => simp [intOf]; omega
            | false =>
              go_wp2_with fail
              refine (implIsSpent ea _ la y _ HSR.out).mono ?_
              rintro e w4 ⟨rfl, hb4⟩
              have hb14 : Below wr.heap.size wr w4 := hb4
              have P4 := Lib.hid (PR.out.below hb14)
              have K4 := Lib.hid (KR.out.below hb14)
              have Q4 := Lib.hid (QR.out.below hb14)
              have T4 := Lib.hid (TR.out.below hb14)
              have O4 := Lib.hid (OR.out.below hb14)
              have B4 := Lib.hid (bel_seq BR.out hb14)
              have c4 := (hb14.cell (p := ⟨b, off + k, none⟩) hbz).trans c0
              clear c0 p0 p1 f0 f1 k0 k1 g0 g1 q0 q1 r0 r1 t0 t1 u0 u1 hzP hzK hzQ hzT
              obtain ⟨p0, p1, f0, f1⟩ := P4.out
              obtain ⟨k0, k1, g0, g1⟩ := K4.out
              obtain ⟨q0, q1, r0, r1⟩ := Q4.out
              obtain ⟨t0, t1, u0, u1⟩ := T4.out
              have hzP := P4.out.lt
              have hzK := K4.out.lt
              have hzQ := Q4.out.lt
              have hzT := T4.out.lt
              have hbz4 : b < w4.heap.size := Nat.lt_of_lt_of_le hbz hb14.size
              by_cases h40 : L.length < 40
              · have HN := Lib.hid (merge_ins hlt HQ.out HY.out hme h40)
                have h41 : (L.length : Int) < 40 := by omega
                have CI := Lib.hid (implInserted _ L y w4 O4.out.sl (by omega) hso)
                generalize insI L y = LI at CI HN
                go_wp2_with fail
                refine CI.out.mono ?_
                rintro e w5 ⟨ao5, N5, cap5, rfl, ho5, hb5⟩
                have P5 := Lib.hid (P4.out.below hb5)
                have K5 := Lib.hid (K4.out.below hb5)
                have Q5 := Lib.hid (Q4.out.below hb5)
                have T5 := Lib.hid (T4.out.below hb5)
                have N5b := Lib.hid (ho5.notB (b := t) (.inr hzT))
                have O5 := Lib.hid (ho5.mono (show w.heap.size + 3 ≤ w4.heap.size by omega))
                have B5 := Lib.hid (bel_seq B4.out hb5)
                clear hb5 ho5 c4 p0 p1 f0 f1 k0 k1 g0 g1 q0 q1 r0 r1 t0 t1 u0 u1 hzP hzK hzQ hzT
                obtain ⟨p0, p1, f0, f1⟩ := P5.out
                obtain ⟨k0, k1, g0, g1⟩ := K5.out
                obtain ⟨q0, q1, r0, r1⟩ := Q5.out
                obtain ⟨t0, t1, u0, u1⟩ := T5.out
                have hzP := P5.out.lt
                have hzK := K5.out.lt
                have hzQ := Q5.out.lt
                have hzT := T5.out.lt
                have hgt : w5.grownBy (w5.setCell ⟨t, 1, none⟩ (.slice ao5 N5 cap5)) (some t) := grown_setCellW _ _ _ _
                go_wp2_with fail
                go_roundw
                case rel => exact ⟨k + 1, by omega, by go_num, LI, nn, ao5, N5, cap5, HN, rfl, Lib.hid (T5.out.set1 _), Lib.hid (O5.out.grown hgt N5b.out), N5b, Lib.hid (P5.out.grown hgt (by simp; omega)), Lib.hid (K5.out.grown hgt (by simp; omega)), Lib.hid (Q5.out.grown hgt (by simp; omega)), Lib.hid (B5.out.trans (grown_below hgt (B := w.heap.size) B5.out.size (fun j hj => by cases hj; omega)))⟩
                case measure => simp [intOf]; omega
              · have HN := Lib.hid (merge_full hlt HQ.out HY.out hme h40)
                have h41 : ¬ (L.length : Int) < 40 := by omega
                go_wp2_with fail
                go_roundw
                case rel => exact ⟨k + 1, by omega, by go_num, L, nn, ao2, L.length, cap2, HN, rfl, T4, O4, NR, P4, K4, Q4, B4⟩
                case measure => simp [intOf]; omega
          · obtain rfl : k = lb.length := by omega
            have HV := Lib.hid (HYes.out _ _ HQ.out)
            have hlt3 : ¬ (lb.length : Int) < lb.length := by omega
            go_wp2
            refine bodyPost_ret (v := .tuple #[.agg #[.int .i64 ea, .slice ao2 L.length cap2], .int .i64 nn]) (by simp [results, Try.results34, go_sem, *]) rfl (spendPost HV.out ?_ (by repeat (with_reducible (first | exact Below.refl _ _ | refine bel_al ?_ _ | refine Below.setCell ?_ (by first | (simp; done) | (simp; omega)) _ | refine Below.drew ?_ | refine bel_drewN ?_ _ | refine bel_seq ?_ (BR.out)))))
            refine Own.mono (base := w.heap.size + 3) ?_ (by omega)
            repeat (with_reducible (first | exact OR.out | refine Own.cells ?_ (by omega) _))
      · have heb : (ea != eb) = true := by simpa using hee
        have HV := Lib.hid (merge_no (ea := ea) (a := la) (eb := eb) (b := lb) (by rw [hva, hvb]; simpa using hee))
        go_wp2
        refine bodyPost_ret (v := .tuple #[.agg #[.int .i64 ea, .slice ao la.length cap], .int .i64 0]) (by simp [results, Try.results34, go_sem, *]) rfl (spendPost HV.out ?_ (by repeat (with_reducible (first | exact Below.refl _ _ | refine bel_al ?_ _ | refine Below.setCell ?_ (by first | (simp; done) | (simp; omega)) _ | refine Below.drew ?_ | refine bel_drewN ?_ _ | refine bel_seq ?_ (B3.out)))))
        refine Own.mono (base := w.heap.size + 3) ?_ (by omega)
        repeat (with_reducible (first | exact O3.out | refine Own.cells ?_ (by omega) _))
end Go.Proofs.Ytdodheahckpkfaa
