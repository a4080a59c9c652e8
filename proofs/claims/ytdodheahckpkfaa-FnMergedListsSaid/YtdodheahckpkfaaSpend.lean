/- The walks of spending a token. -/
import Derived.Test.YtdodheahckpkfaaProg
import Derived.Test.YtdodheahckpkfaaSpentInsS
import Derived.Test.YtdodheahckpkfaaTok
namespace Go.Proofs.Ytdodheahckpkfaa
open Go.RowKit

def SpendPost (e0 : Int) (y : List Int × Int) (w : World) (e : Ending) (w' : World) : Prop := ∃ ao N cap, e = .returned (.tuple #[.agg #[.int .i64 e0, .slice ao N cap], .int .i64 y.2]) ∧ Own .i64 3 w.heap.size w' ao N cap y.1 ∧ Below w.heap.size w w'
theorem spendPost {e0 : Int} {y : List Int × Int} {L : List Int} {r : Int} (h : y = (L, r)) {w w' : World} {ao : Option Addr} {N cap : Nat} (ho : Own .i64 3 w.heap.size w' ao N cap L) (hb : Below w.heap.size w w') : SpendPost e0 y w (.returned (.tuple #[.agg #[.int .i64 e0, .slice ao N cap], .int .i64 r])) w' := by
  subst h
  exact ⟨_, _, _, rfl, ho, hb⟩
set_option maxRecDepth 100000 in
set_option maxHeartbeats 2000000 in
theorem specSpendToken (e0 : Int) (v : Value) (l : List Int) (s sn sv : Int) (w : World) (hs : Sl .i64 w v l) (hl : l.length ≤ 1048576) : Calls Try.prog 28 #[.agg #[.int .i64 e0, v], .int .i64 s, .agg #[.int .i64 sn, .int .i64 sv]] w (SpendPost e0 (spendI e0 l (validTokenI s sn sv) sn) w) := by
  obtain ⟨a, c, rfl, hm⟩ := hs.shape
  have HS0 := (((hs.alloc (.cells #[.int .i64 e0, .slice a l.length c] 27)).alloc (.cells #[.int .i64 sn, .int .i64 sv] 42)).alloc (.cells #[.int .i64 0, .slice none 0 0] 27))
  have P0 := ((Two.new w (.int .i64 e0) (.slice a l.length c) 27).alloc (.cells #[.int .i64 sn, .int .i64 sv] 42)).alloc (.cells #[.int .i64 0, .slice none 0 0] 27)
  have K0 := (Two.new (w.alloc (.cells #[.int .i64 e0, .slice a l.length c] 27)) (.int .i64 sn) (.int .i64 sv) 42).alloc (.cells #[.int .i64 0, .slice none 0 0] 27)
  have Q0 := Two.new ((w.alloc (.cells #[.int .i64 e0, .slice a l.length c] 27)).alloc (.cells #[.int .i64 sn, .int .i64 sv] 42)) (.int .i64 0) (.slice none 0 0) 27
  have hb0 : Below w.heap.size w (((w.alloc (.cells #[.int .i64 e0, .slice a l.length c] 27)).alloc (.cells #[.int .i64 sn, .int .i64 sv] 42)).alloc (.cells #[.int .i64 0, .slice none 0 0] 27)) := bel_al (bel_al (bel_al (Below.refl _ _) _) _) _
  have hz : w.heap.size + 3 ≤ (((w.alloc (.cells #[.int .i64 e0, .slice a l.length c] 27)).alloc (.cells #[.int .i64 sn, .int .i64 sv] 42)).alloc (.cells #[.int .i64 0, .slice none 0 0] 27)).heap.size := by simp
  rw [World.size_alloc] at K0
  rw [World.size_alloc, World.size_alloc] at Q0
  obtain ⟨vt, hvt⟩ : ∃ vt, vt = validTokenI s sn sv := ⟨_, rfl⟩
  have CT := Lib.hid (fun W => specIsValidToken s sn sv W)
  rw [← hvt] at CT ⊢
  clear hs hvt
  go_enter Try.func28, Try.ntmps28
  go_wp2_with fail
  generalize ((w.alloc (.cells #[.int .i64 e0, .slice a l.length c] 27)).alloc (.cells #[.int .i64 sn, .int .i64 sv] 42)).alloc (.cells #[.int .i64 0, .slice none 0 0] 27) = W0 at HS0 P0 K0 Q0 hb0 hz ⊢
  have S0 := Lib.hid HS0
  have PA := Lib.hid P0
  have KA := Lib.hid K0
  have QA := Lib.hid Q0
  have BA := Lib.hid hb0
  clear HS0 P0 K0 Q0 hb0
  obtain ⟨p0, p1, f0, f1⟩ := PA.out
  clear p0 p1 f0 f1
  have SA := S0
  clear S0
  refine (specIsValidSpentList e0 _ l W0 SA.out).mono ?_
  rintro e w1 ⟨rfl, hb1⟩
  have hs1 := hb1.size
  have P1 := Lib.hid (PA.out.below hb1)
  have K1 := Lib.hid (KA.out.below hb1)
  have Q1 := Lib.hid (QA.out.below hb1)
  have S1 := Lib.hid (SA.out.below hb1)
  have B1 := Lib.hid (bel_seq BA.out hb1)
  clear PA KA QA SA hb1
  obtain ⟨p0, p1, f0, f1⟩ := P1.out
  obtain ⟨k0, k1, g0, g1⟩ := K1.out
  obtain ⟨q0, q1, r0, r1⟩ := Q1.out
  have hzP := P1.out.lt
  have hzK := K1.out.lt
  have hzQ := Q1.out.lt
  have hzc := Lib.hid (show w.heap.size + 3 ≤ w1.heap.size by omega)
  cases hv : validSpentI e0 l with
  | false =>
    have HV := Lib.hid (spend_no (e := e0) (l := l) (vt := vt) (x := sn) (by rw [hv]; rfl))
    go_wp2_with fail
    refine (specCopyS e0 _ l _ S1.out hl).mono ?_
    rintro e wc ⟨aoc, Nc, capc, rfl, hoc, hbc⟩
    have Qc := Lib.hid (Q1.out.below hbc)
    have Bc := Lib.hid (bel_seq B1.out hbc)
    have Oc := Lib.hid (hoc.mono (show w.heap.size + 3 ≤ _ by have := hzc.out; omega))
    clear hoc hbc
    clear p0 p1 f0 f1 k0 k1 g0 g1 q0 q1 r0 r1 hzP hzK hzQ
    obtain ⟨q0, q1, r0, r1⟩ := Qc.out
    have hzQ := Qc.out.lt
    go_wp2
    refine bodyPost_ret (v := .tuple #[.agg #[.int .i64 e0, .slice aoc Nc capc], .int .i64 1]) (by simp [results, Try.results28, go_sem, *]) rfl (spendPost HV.out ?_ (by repeat (with_reducible (first | exact Below.refl _ _ | refine bel_al ?_ _ | refine Below.setCell ?_ (by first | (simp; done) | (simp; omega)) _ | refine Below.drew ?_ | refine bel_drewN ?_ _ | refine bel_seq ?_ (Bc.out)))))
    refine Own.mono (base := w.heap.size + 3) ?_ (by omega)
    repeat (with_reducible (first | exact Oc.out | refine Own.cells ?_ (by omega) _))
  | true =>
    go_wp2_with fail
    refine (CT.out _).mono ?_
    rintro e w2 ⟨rfl, hb2⟩
    have hs2 := hb2.size
    clear p0 p1 f0 f1 k0 k1 g0 g1 q0 q1 r0 r1 hzP hzK hzQ
    have P2 := Lib.hid (P1.out.below hb2)
    have K2 := Lib.hid (K1.out.below hb2)
    have Q2 := Lib.hid (Q1.out.below hb2)
    have S2 := Lib.hid (S1.out.below hb2)
    have B2 := Lib.hid (bel_seq B1.out hb2)
    clear P1 K1 Q1 S1 hb2
    obtain ⟨p0, p1, f0, f1⟩ := P2.out
    obtain ⟨k0, k1, g0, g1⟩ := K2.out
    obtain ⟨q0, q1, r0, r1⟩ := Q2.out
    have hzP := P2.out.lt
    have hzK := K2.out.lt
    have hzQ := Q2.out.lt
    replace hzc := Lib.hid (show w.heap.size + 3 ≤ w2.heap.size from Nat.le_trans hzc.out hs2)
    cases hvt : vt with
    | false =>
      have HV := Lib.hid (spend_no (e := e0) (l := l) (vt := vt) (x := sn) (by rw [hv, hvt]; rfl))
      go_wp2_with fail
      refine (specCopyS e0 _ l _ S2.out hl).mono ?_
      rintro e wc ⟨aoc, Nc, capc, rfl, hoc, hbc⟩
      have Qc := Lib.hid (Q2.out.below hbc)
      have Bc := Lib.hid (bel_seq B2.out hbc)
      have Oc := Lib.hid (hoc.mono (show w.heap.size + 3 ≤ _ by have := hzc.out; omega))
      clear hoc hbc
      clear p0 p1 f0 f1 k0 k1 g0 g1 q0 q1 r0 r1 hzP hzK hzQ
      obtain ⟨q0, q1, r0, r1⟩ := Qc.out
      have hzQ := Qc.out.lt
      go_wp2
      refine bodyPost_ret (v := .tuple #[.agg #[.int .i64 e0, .slice aoc Nc capc], .int .i64 1]) (by simp [results, Try.results28, go_sem, *]) rfl (spendPost HV.out ?_ (by repeat (with_reducible (first | exact Below.refl _ _ | refine bel_al ?_ _ | refine Below.setCell ?_ (by first | (simp; done) | (simp; omega)) _ | refine Below.drew ?_ | refine bel_drewN ?_ _ | refine bel_seq ?_ (Bc.out)))))
      refine Own.mono (base := w.heap.size + 3) ?_ (by omega)
      repeat (with_reducible (first | exact Oc.out | refine Own.cells ?_ (by omega) _))
    | true =>
      have hvv := Lib.hid (show (validSpentI e0 l && vt) = true by rw [hv, hvt]; rfl)
      clear hv hvt
      go_wp2_with fail
      refine (specIsSpent e0 _ l sn _ S2.out).mono ?_
      rintro e w3 ⟨rfl, hb3⟩
      have hs3 := hb3.size
      clear p0 p1 f0 f1 k0 k1 g0 g1 q0 q1 r0 r1 hzP hzK hzQ
      have P3 := Lib.hid (P2.out.below hb3)
      have K3 := Lib.hid (K2.out.below hb3)
      have Q3 := Lib.hid (Q2.out.below hb3)
      have S3 := Lib.hid (S2.out.below hb3)
      have B3 := Lib.hid (bel_seq B2.out hb3)
      clear P2 K2 Q2 S2 hb3
      obtain ⟨p0, p1, f0, f1⟩ := P3.out
      obtain ⟨k0, k1, g0, g1⟩ := K3.out
      obtain ⟨q0, q1, r0, r1⟩ := Q3.out
      have hzP := P3.out.lt
      have hzK := K3.out.lt
      have hzQ := Q3.out.lt
      replace hzc := Lib.hid (show w.heap.size + 3 ≤ w3.heap.size from Nat.le_trans hzc.out hs3)
      cases hme : memB l sn with
      | true =>
        have HV := Lib.hid (spend_twice hvv.out hme)
        go_wp2_with fail
        refine (specCopyS e0 _ l _ S3.out hl).mono ?_
        rintro e wc ⟨aoc, Nc, capc, rfl, hoc, hbc⟩
        have Qc := Lib.hid (Q3.out.below hbc)
        have Bc := Lib.hid (bel_seq B3.out hbc)
        have Oc := Lib.hid (hoc.mono (show w.heap.size + 3 ≤ _ by have := hzc.out; omega))
        clear hoc hbc
        clear p0 p1 f0 f1 k0 k1 g0 g1 q0 q1 r0 r1 hzP hzK hzQ
        obtain ⟨q0, q1, r0, r1⟩ := Qc.out
        have hzQ := Qc.out.lt
        go_wp2
        refine bodyPost_ret (v := .tuple #[.agg #[.int .i64 e0, .slice aoc Nc capc], .int .i64 2]) (by simp [results, Try.results28, go_sem, *]) rfl (spendPost HV.out ?_ (by repeat (with_reducible (first | exact Below.refl _ _ | refine bel_al ?_ _ | refine Below.setCell ?_ (by first | (simp; done) | (simp; omega)) _ | refine Below.drew ?_ | refine bel_drewN ?_ _ | refine bel_seq ?_ (Bc.out)))))
        refine Own.mono (base := w.heap.size + 3) ?_ (by omega)
        repeat (with_reducible (first | exact Oc.out | refine Own.cells ?_ (by omega) _))
      | false =>
        by_cases h40 : l.length < 40
        · have HV := Lib.hid (spend_ok hvv.out hme h40)
          have hso : l.Pairwise (· ≤ ·) := sorted_of_strict (validSpent_iff.1 ((Bool.and_eq_true _ _).mp hvv.out).1).2.2.2
          have h41 : ¬ (40 : Int) ≤ l.length := by omega
          have CI := Lib.hid (specInsert e0 _ l sn w3 S3.out hl hso)
          generalize insI l sn = LI at CI HV
          clear hso
          go_wp2_with fail
          refine CI.out.mono ?_
          rintro e wc ⟨aoc, Nc, capc, rfl, hoc, hbc⟩
          have Qc := Lib.hid (Q3.out.below hbc)
          have Bc := Lib.hid (bel_seq B3.out hbc)
          have Oc := Lib.hid (hoc.mono (show w.heap.size + 3 ≤ _ by have := hzc.out; omega))
          clear hoc hbc
          clear p0 p1 f0 f1 k0 k1 g0 g1 q0 q1 r0 r1 hzP hzK hzQ
          obtain ⟨q0, q1, r0, r1⟩ := Qc.out
          have hzQ := Qc.out.lt
          go_wp2
          refine bodyPost_ret (v := .tuple #[.agg #[.int .i64 e0, .slice aoc Nc capc], .int .i64 0]) (by simp [results, Try.results28, go_sem, *]) rfl (spendPost HV.out ?_ (by repeat (with_reducible (first | exact Below.refl _ _ | refine bel_al ?_ _ | refine Below.setCell ?_ (by first | (simp; done) | (simp; omega)) _ | refine Below.drew ?_ | refine bel_drewN ?_ _ | refine bel_seq ?_ (Bc.out)))))
          refine Own.mono (base := w.heap.size + 3) ?_ (by omega)
          repeat (with_reducible (first | exact Oc.out | refine Own.cells ?_ (by omega) _))
        · have HV := Lib.hid (spend_full hvv.out hme h40)
          have h41 : (40 : Int) ≤ l.length := by omega
          go_wp2_with fail
          refine (specCopyS e0 _ l _ S3.out hl).mono ?_
          rintro e wc ⟨aoc, Nc, capc, rfl, hoc, hbc⟩
          have Qc := Lib.hid (Q3.out.below hbc)
          have Bc := Lib.hid (bel_seq B3.out hbc)
          have Oc := Lib.hid (hoc.mono (show w.heap.size + 3 ≤ _ by have := hzc.out; omega))
          clear hoc hbc
          clear p0 p1 f0 f1 k0 k1 g0 g1 q0 q1 r0 r1 hzP hzK hzQ
          obtain ⟨q0, q1, r0, r1⟩ := Qc.out
          have hzQ := Qc.out.lt
          go_wp2
          refine bodyPost_ret (v := .tuple #[.agg #[.int .i64 e0, .slice aoc Nc capc], .int .i64 3]) (by simp [results, Try.results28, go_sem, *]) rfl (spendPost HV.out ?_ (by repeat (with_reducible (first | exact Below.refl _ _ | refine bel_al ?_ _ | refine Below.setCell ?_ (by first | (simp; done) | (simp; omega)) _ | refine Below.drew ?_ | refine bel_drewN ?_ _ | refine bel_seq ?_ (Bc.out)))))
          refine Own.mono (base := w.heap.size + 3) ?_ (by omega)
          repeat (with_reducible (first | exact Oc.out | refine Own.cells ?_ (by omega) _))
set_option maxRecDepth 100000 in
set_option maxHeartbeats 2000000 in
theorem implSpendToken (e0 : Int) (v : Value) (l : List Int) (s sn sv : Int) (w : World) (hs : Sl .i64 w v l) (hl : l.length ≤ 1048576) : Calls Try.prog 30 #[.agg #[.int .i64 e0, v], .int .i64 s, .agg #[.int .i64 sn, .int .i64 sv]] w (SpendPost e0 (spendI e0 l (validTokenI s sn sv) sn) w) := by
  obtain ⟨a, c, rfl, hm⟩ := hs.shape
  have HS0 := (((hs.alloc (.cells #[.int .i64 e0, .slice a l.length c] 27)).alloc (.cells #[.int .i64 sn, .int .i64 sv] 42)).alloc (.cells #[.int .i64 0, .slice none 0 0] 27))
  have P0 := ((Two.new w (.int .i64 e0) (.slice a l.length c) 27).alloc (.cells #[.int .i64 sn, .int .i64 sv] 42)).alloc (.cells #[.int .i64 0, .slice none 0 0] 27)
  have K0 := (Two.new (w.alloc (.cells #[.int .i64 e0, .slice a l.length c] 27)) (.int .i64 sn) (.int .i64 sv) 42).alloc (.cells #[.int .i64 0, .slice none 0 0] 27)
  have Q0 := Two.new ((w.alloc (.cells #[.int .i64 e0, .slice a l.length c] 27)).alloc (.cells #[.int .i64 sn, .int .i64 sv] 42)) (.int .i64 0) (.slice none 0 0) 27
  have hb0 : Below w.heap.size w (((w.alloc (.cells #[.int .i64 e0, .slice a l.length c] 27)).alloc (.cells #[.int .i64 sn, .int .i64 sv] 42)).alloc (.cells #[.int .i64 0, .slice none 0 0] 27)) := bel_al (bel_al (bel_al (Below.refl _ _) _) _) _
  have hz : w.heap.size + 3 ≤ (((w.alloc (.cells #[.int .i64 e0, .slice a l.length c] 27)).alloc (.cells #[.int .i64 sn, .int .i64 sv] 42)).alloc (.cells #[.int .i64 0, .slice none 0 0] 27)).heap.size := by simp
  rw [World.size_alloc] at K0
  rw [World.size_alloc, World.size_alloc] at Q0
  obtain ⟨vt, hvt⟩ : ∃ vt, vt = validTokenI s sn sv := ⟨_, rfl⟩
  have CT := Lib.hid (fun W => implIsValidToken s sn sv W)
  rw [← hvt] at CT ⊢
  clear hs hvt
  go_enter Try.func30, Try.ntmps30
  go_wp2_with fail
  generalize ((w.alloc (.cells #[.int .i64 e0, .slice a l.length c] 27)).alloc (.cells #[.int .i64 sn, .int .i64 sv] 42)).alloc (.cells #[.int .i64 0, .slice none 0 0] 27) = W0 at HS0 P0 K0 Q0 hb0 hz ⊢
  have S0 := Lib.hid HS0
  have PA := Lib.hid P0
  have KA := Lib.hid K0
  have QA := Lib.hid Q0
  have BA := Lib.hid hb0
  clear HS0 P0 K0 Q0 hb0
  refine (implCopyS e0 _ l W0 S0.out hl).mono ?_
  rintro e w0 ⟨ao, N, cap, rfl, ho, hb1⟩
  obtain rfl := ho.len
  have SB := Lib.hid ((S0.out.below hb1).alloc (.cells #[.int .i64 e0, .slice ao l.length cap] 27))
  have PB := Lib.hid ((PA.out.below hb1).alloc (.cells #[.int .i64 e0, .slice ao l.length cap] 27))
  have KB := Lib.hid ((KA.out.below hb1).alloc (.cells #[.int .i64 e0, .slice ao l.length cap] 27))
  have QB := Lib.hid ((QA.out.below hb1).alloc (.cells #[.int .i64 e0, .slice ao l.length cap] 27))
  have BB := Lib.hid (bel_al (bel_seq BA.out hb1) (.cells #[.int .i64 e0, .slice ao l.length cap] 27))
  have OB := Lib.hid ((ho.mono hz).alloc (.cells #[.int .i64 e0, .slice ao l.length cap] 27))
  have TB := Lib.hid (Two.new w0 (.int .i64 e0) (.slice ao l.length cap) 27)
  have hz1 : w.heap.size + 3 ≤ w0.heap.size := Nat.le_trans hz hb1.size
  have HNT := Lib.hid (ho.notB (.inl (Nat.le_refl w0.heap.size)))
  obtain ⟨p0, p1, f0, f1⟩ := PA.out.below hb1
  have hzp : w.heap.size < w0.heap.size := by omega
  clear hb1 ho S0 PA KA QA BA hz
  go_wp2_with fail
  clear p0 p1 f0 f1
  generalize w0.alloc (.cells #[.int .i64 e0, .slice ao l.length cap] 27) = W1 at SB PB KB QB BB OB TB ⊢
  generalize hB : w0.heap.size = t at TB hz1 hzp HNT ⊢
  clear hB
  refine (implIsValidSpentList e0 _ l W1 SB.out).mono ?_
  rintro e w1 ⟨rfl, hb1⟩
  have hs1 := hb1.size
  have hW1 : t < W1.heap.size := TB.out.lt
  have P1 := Lib.hid (PB.out.below hb1)
  have K1 := Lib.hid (KB.out.below hb1)
  have Q1 := Lib.hid (QB.out.below hb1)
  have T1 := Lib.hid (TB.out.below hb1)
  have S1 := Lib.hid (SB.out.below hb1)
  have O1 := Lib.hid (OB.out.below hb1)
  have B1 := Lib.hid (bel_seq BB.out hb1)
  clear PB KB QB TB SB OB hb1
  obtain ⟨p0, p1, f0, f1⟩ := P1.out
  obtain ⟨k0, k1, g0, g1⟩ := K1.out
  obtain ⟨q0, q1, r0, r1⟩ := Q1.out
  obtain ⟨t0, t1, u0, u1⟩ := T1.out
  have hzP := P1.out.lt
  have hzK := K1.out.lt
  have hzQ := Q1.out.lt
  have hzT := T1.out.lt
  have hzc := Lib.hid (show w.heap.size + 3 ≤ w1.heap.size by omega)
  have ht1 : ¬ t = w.heap.size := by omega
  have ht2 : ¬ t = w.heap.size + 1 + 1 := by omega
  have ht3 : ¬ w.heap.size = t := by omega
  have ht4 : ¬ w.heap.size + 1 + 1 = t := by omega
  have ht5 : ¬ t = w.heap.size + 1 := by omega
  have ht6 : ¬ w.heap.size + 1 = t := by omega
  cases hv : validSpentI e0 l with
  | false =>
    have HV := Lib.hid (spend_no (e := e0) (l := l) (vt := vt) (x := sn) (by rw [hv]; rfl))
    go_wp2
    refine bodyPost_ret (v := .tuple #[.agg #[.int .i64 e0, .slice ao l.length cap], .int .i64 1]) (by simp [results, Try.results30, go_sem, *]) rfl (spendPost HV.out ?_ (by repeat (with_reducible (first | exact Below.refl _ _ | refine bel_al ?_ _ | refine Below.setCell ?_ (by first | (simp; done) | (simp; omega)) _ | refine Below.drew ?_ | refine bel_drewN ?_ _ | refine bel_seq ?_ (B1.out)))))
    refine Own.mono (base := w.heap.size + 3) ?_ (by omega)
    repeat (with_reducible (first | exact O1.out | refine Own.cells ?_ (by omega) _))
  | true =>
    go_wp2_with fail
    refine (CT.out _).mono ?_
    rintro e w2 ⟨rfl, hb2⟩
    have hs2 := hb2.size
    clear p0 p1 f0 f1 k0 k1 g0 g1 q0 q1 r0 r1 t0 t1 u0 u1 hzP hzK hzQ hzT
    have P2 := Lib.hid (P1.out.below hb2)
    have K2 := Lib.hid (K1.out.below hb2)
    have Q2 := Lib.hid (Q1.out.below hb2)
    have T2 := Lib.hid (T1.out.below hb2)
    have S2 := Lib.hid (S1.out.below hb2)
    have O2 := Lib.hid (O1.out.below hb2)
    have B2 := Lib.hid (bel_seq B1.out hb2)
    clear P1 K1 Q1 T1 S1 O1 hb2
    obtain ⟨p0, p1, f0, f1⟩ := P2.out
    obtain ⟨k0, k1, g0, g1⟩ := K2.out
    obtain ⟨q0, q1, r0, r1⟩ := Q2.out
    obtain ⟨t0, t1, u0, u1⟩ := T2.out
    have hzP := P2.out.lt
    have hzK := K2.out.lt
    have hzQ := Q2.out.lt
    have hzT := T2.out.lt
    replace hzc := Lib.hid (show w.heap.size + 3 ≤ w2.heap.size from Nat.le_trans hzc.out hs2)
    cases hvt : vt with
    | false =>
      have HV := Lib.hid (spend_no (e := e0) (l := l) (vt := vt) (x := sn) (by rw [hv, hvt]; rfl))
      go_wp2
      refine bodyPost_ret (v := .tuple #[.agg #[.int .i64 e0, .slice ao l.length cap], .int .i64 1]) (by simp [results, Try.results30, go_sem, *]) rfl (spendPost HV.out ?_ (by repeat (with_reducible (first | exact Below.refl _ _ | refine bel_al ?_ _ | refine Below.setCell ?_ (by first | (simp; done) | (simp; omega)) _ | refine Below.drew ?_ | refine bel_drewN ?_ _ | refine bel_seq ?_ (B2.out)))))
      refine Own.mono (base := w.heap.size + 3) ?_ (by omega)
      repeat (with_reducible (first | exact O2.out | refine Own.cells ?_ (by omega) _))
    | true =>
      have hvv := Lib.hid (show (validSpentI e0 l && vt) = true by rw [hv, hvt]; rfl)
      clear hv hvt
      go_wp2_with fail
      refine (implIsSpent e0 _ l sn _ S2.out).mono ?_
      rintro e w3 ⟨rfl, hb3⟩
      have hs3 := hb3.size
      clear p0 p1 f0 f1 k0 k1 g0 g1 q0 q1 r0 r1 t0 t1 u0 u1 hzP hzK hzQ hzT
      have P3 := Lib.hid (P2.out.below hb3)
      have K3 := Lib.hid (K2.out.below hb3)
      have Q3 := Lib.hid (Q2.out.below hb3)
      have T3 := Lib.hid (T2.out.below hb3)
      have S3 := Lib.hid (S2.out.below hb3)
      have O3 := Lib.hid (O2.out.below hb3)
      have B3 := Lib.hid (bel_seq B2.out hb3)
      clear P2 K2 Q2 T2 S2 O2 hb3
      obtain ⟨p0, p1, f0, f1⟩ := P3.out
      obtain ⟨k0, k1, g0, g1⟩ := K3.out
      obtain ⟨q0, q1, r0, r1⟩ := Q3.out
      obtain ⟨t0, t1, u0, u1⟩ := T3.out
      have hzP := P3.out.lt
      have hzK := K3.out.lt
      have hzQ := Q3.out.lt
      have hzT := T3.out.lt
      replace hzc := Lib.hid (show w.heap.size + 3 ≤ w3.heap.size from Nat.le_trans hzc.out hs3)
      cases hme : memB l sn with
      | true =>
        have HV := Lib.hid (spend_twice hvv.out hme)
        go_wp2
        refine bodyPost_ret (v := .tuple #[.agg #[.int .i64 e0, .slice ao l.length cap], .int .i64 2]) (by simp [results, Try.results30, go_sem, *]) rfl (spendPost HV.out ?_ (by repeat (with_reducible (first | exact Below.refl _ _ | refine bel_al ?_ _ | refine Below.setCell ?_ (by first | (simp; done) | (simp; omega)) _ | refine Below.drew ?_ | refine bel_drewN ?_ _ | refine bel_seq ?_ (B3.out)))))
        refine Own.mono (base := w.heap.size + 3) ?_ (by omega)
        repeat (with_reducible (first | exact O3.out | refine Own.cells ?_ (by omega) _))
      | false =>
        by_cases h40 : l.length < 40
        · have HV := Lib.hid (spend_ok hvv.out hme h40)
          have hso : l.Pairwise (· ≤ ·) := sorted_of_strict (validSpent_iff.1 ((Bool.and_eq_true _ _).mp hvv.out).1).2.2.2
          have h41 : ¬ (40 : Int) ≤ l.length := by omega
          have CI := Lib.hid (implInserted _ l sn w3 O3.out.sl hl hso)
          generalize insI l sn = LI at CI HV
          clear hso
          go_wp2_with fail
          refine CI.out.mono ?_
          rintro e wc ⟨aoc, Nc, capc, rfl, hoc, hbc⟩
          have Qc := Lib.hid (Q3.out.below hbc)
          have Tc := Lib.hid (T3.out.below hbc)
          have Bc := Lib.hid (bel_seq B3.out hbc)
          have Nc2 := Lib.hid (hoc.notB (b := t) (.inr hzT))
          have Oc := Lib.hid (hoc.mono (show w.heap.size + 3 ≤ _ by have := hzc.out; omega))
          clear hoc hbc
          clear p0 p1 f0 f1 k0 k1 g0 g1 q0 q1 r0 r1 t0 t1 u0 u1 hzP hzK hzQ hzT
          obtain ⟨q0, q1, r0, r1⟩ := Qc.out
          obtain ⟨t0, t1, u0, u1⟩ := Tc.out
          have hzQ := Qc.out.lt
          have hzT := Tc.out.lt
          go_wp2
          refine bodyPost_ret (v := .tuple #[.agg #[.int .i64 e0, .slice aoc Nc capc], .int .i64 0]) (by simp [results, Try.results30, go_sem, *]) rfl (spendPost HV.out ?_ (by repeat (with_reducible (first | exact Below.refl _ _ | refine bel_al ?_ _ | refine Below.setCell ?_ (by first | (simp; done) | (simp; omega)) _ | refine Below.drew ?_ | refine bel_drewN ?_ _ | refine bel_seq ?_ (Bc.out)))))
          refine Own.mono (base := w.heap.size + 3) ?_ (by omega)
          repeat (with_reducible (first | exact Oc.out | refine Own.cells ?_ (by omega) _ | refine Own.grown ?_ (grown_setCellW _ _ _ _) Nc2.out))
        · have HV := Lib.hid (spend_full hvv.out hme h40)
          have h41 : (40 : Int) ≤ l.length := by omega
          go_wp2
          refine bodyPost_ret (v := .tuple #[.agg #[.int .i64 e0, .slice ao l.length cap], .int .i64 3]) (by simp [results, Try.results30, go_sem, *]) rfl (spendPost HV.out ?_ (by repeat (with_reducible (first | exact Below.refl _ _ | refine bel_al ?_ _ | refine Below.setCell ?_ (by first | (simp; done) | (simp; omega)) _ | refine Below.drew ?_ | refine bel_drewN ?_ _ | refine bel_seq ?_ (B3.out)))))
          refine Own.mono (base := w.heap.size + 3) ?_ (by omega)
          repeat (with_reducible (first | exact O3.out | refine Own.cells ?_ (by omega) _))
end Go.Proofs.Ytdodheahckpkfaa
