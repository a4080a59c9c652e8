/- The walks of mailboxes: the reference's receiving. -/
import Derived.Test.YtelcpihbdgikfaaProg
import Derived.Test.YtelcpihbdgikfaaMail2
import Derived.RegionTactic
import Derived.ChangeAlike
namespace Go.Proofs.Ytelcpihbdgikfaa
open Go.RowKit
set_option maxRecDepth 100000 in
set_option maxHeartbeats 4000000 in
theorem specRecv (k s r d : Int) (v : Value) (cell : List Int) (w : World) (hs : Sl .u8 w v cell) (hby : bytesOk cell) : Calls Try.prog 36 #[.agg #[.int .i64 k, .int .i64 s, .int .i64 r], .int .i64 d, v] w (MailPost (recvI k s r d cell) w) := by
  obtain ⟨a, c, rfl, hm⟩ := hs.shape
  obtain ⟨n, hn⟩ : ∃ n, n = cell.length := ⟨_, rfl⟩
  rw [← hn] at hs hm ⊢
  have HT := two_boxes w k s r 49 _ rfl
  have CK := Lib.hid (fun W => specDirectionKey k d W)
  have CS := fun W h => specOpen (directionKeyI k d) r (.slice a n c) cell W h hby
  obtain ⟨⟨⟨kd, L⟩, b⟩, hq⟩ : ∃ q, q = openI (directionKeyI k d) r cell := ⟨_, rfl⟩
  have hx : recvI k s r d cell = recvWith k s r ((kd, L), b) := by unfold recvI; rw [hq]
  rw [hx]
  rw [← hq] at CS
  have CS := Lib.hid CS
  have HS := Lib.hid ((hs.alloc (.cells #[.int .i64 k, .int .i64 s, .int .i64 r] 49)).alloc (.cells #[.int .i64 0, .int .i64 0, .int .i64 0] 49))
  clear hx hq hs hby hn hm
  generalize directionKeyI k d = q at CK CS
  go_enter Try.func36, Try.ntmps36
  go_wp2_with fail
  generalize (w.alloc (.cells #[.int .i64 k, .int .i64 s, .int .i64 r] 49)).alloc (.cells #[.int .i64 0, .int .i64 0, .int .i64 0] 49) = W0 at HT HS ⊢
  have HT' := Lib.hid HT
  have hz0' := HT.2.2.2.2.2
  have HZ0 := Lib.hid hz0'
  have hz0 : w.heap.size + 2 ≤ W0.heap.size := by omega
  have c0 := HT.1.1
  have c1 := HT.1.2.2
  clear HT hz0'
  go_region_held3 (fun W' => W'.cell? ⟨w.heap.size, 0, none⟩ = some (.int .i64 k) ∧ W'.cell? ⟨w.heap.size, 2, none⟩ = some (.int .i64 r) ∧ Below W0.heap.size W0 W') (first | assumption | (refine keep2 ?_ c0 c1; repeat (first | exact Below.refl _ _ | refine bel_al ?_ _ | refine Below.drew ?_ | refine bel_seq ?_ hb1 | refine bel_seq ?_ hb2 | refine Below.setCell ?_ (by first | (simp; done) | (simp; omega) | omega) _))) (first | (go_at_call 86; (refine (CK.out _).mono ?_); rintro e w1 ⟨rfl, hb1⟩; obtain ⟨hc1, hf1⟩ := bcell hb1; have hz1 : W0.heap.size ≤ w1.heap.size := (by have := hb1.size; (try simp at this); omega); try (have hz1s : W0.heap.size < w1.heap.size := (by have := hb1.size; simp at this; omega))) | (go_at_call 84; (refine (CS.out _ (HS.out.below (by repeat (first | exact Below.refl _ _ | refine bel_al ?_ _ | refine Below.drew ?_ | refine bel_seq ?_ hb1)))).mono ?_); rintro e w2 ⟨ao, N, cap, rfl, ho, hb2⟩; obtain ⟨hc2, hf2⟩ := bcell hb2; have hz2 : w1.heap.size ≤ w2.heap.size := (by have := hb2.size; (try simp at this); omega); have hz2b : W0.heap.size ≤ w2.heap.size := (by omega); try (have hz2s : w1.heap.size < w2.heap.size := (by have := hb2.size; simp at this; omega)); try (have hz2t : W0.heap.size < w2.heap.size := (by omega))))
  · have k0 : (w2.alloc (.cells #[.int .i64 kd, .slice ao N cap] 100)).cell? ⟨w2.heap.size, 0, none⟩ = some (.int .i64 kd) := by simp [go_sem, *]
    have k1 : (w2.alloc (.cells #[.int .i64 kd, .slice ao N cap] 100)).cell? ⟨w2.heap.size, 1, none⟩ = some (.slice ao N cap) := by simp [go_sem, *]
    have hof : Own .u8 5 (w.heap.size + 2) (w2.alloc (.cells #[.int .i64 kd, .slice ao N cap] 100)) ao N cap L := (Own.mono ho (by (try simp); omega)).alloc _
    have hbl : Below W0.heap.size W0 (w2.alloc (.cells #[.int .i64 kd, .slice ao N cap] 100)) := And.right (And.right ‹_ ∧ _ ∧ _›)
    generalize w2.alloc (.cells #[.int .i64 kd, .slice ao N cap] 100) = W2 at k0 k1 hof hbl ⊢
    generalize hbx : w2.heap.size = x at k0 k1 ⊢
    have hxl : w.heap.size + 2 ≤ x := by omega
    have K0 := Lib.hid k0
    have K1 := Lib.hid k1
    have O2 := Lib.hid hof
    have H02 := Lib.hid hbl
    obtain ⟨⟨p0, p1, p2⟩, ⟨q0, q1, q2⟩, ⟨f0, f1, f2⟩, ⟨r0, r1, r2⟩, hB, hzW⟩ := two_later HT'.out hbl
    have B2 := Lib.hid hB
    have hzA : w.heap.size < W2.heap.size := by omega
    have hzB : w.heap.size + 1 < W2.heap.size := by omega
    have hx1 : ¬ x = w.heap.size := by omega
    have hx2 : ¬ x = w.heap.size + 1 := by omega
    have hx3 : ¬ w.heap.size = x := by omega
    have hx4 : ¬ w.heap.size + 1 = x := by omega
    clear c0 c1 hof hbl hB ho hb1 hb2 hc1 hc2 hf1 hf2 hz1 hz2 hz2b hbx hxl
    cases hv : validMailI k s r with
    | false =>
      have HV := Lib.hid (recvWith_no (k := k) (s := s) (r := r) (q := ((kd, L), b)) (by rw [hv]; simp))
      go_wp2_with fail
      refine (specIsMailis hv _).mono ?_
      rintro e w3 ⟨rfl, hb3⟩
      replace k0 := later0 hb3 K0.out
      replace k1 := later0 hb3 K1.out
      obtain ⟨⟨p0, p1, p2⟩, ⟨q0, q1, q2⟩, ⟨f0, f1, f2⟩, ⟨r0, r1, r2⟩, hB, hz3⟩ := two_later HT'.out (H02.out.trans (hb3.mono H02.out.size))
      have B3 := Lib.hid hB
      have O3 := Lib.hid (O2.out.below hb3)
      have hzC : w.heap.size < w3.heap.size := by omega
      have hzD : w.heap.size + 1 < w3.heap.size := by omega
      have hzE : x < w3.heap.size := World.block_lt_of_cell? w3 _ k0
      clear hb3 hB
      go_wp2
      refine bodyPost_ret (v := .tuple #[.agg #[.int .i64 k, .int .i64 s, .int .i64 r], .slice (some ⟨w3.heap.size, 0, none⟩) 0 0, .bool false]) (by simp [results, Try.results36, go_sem, *]) rfl (mailPost_no HV.out ?_ (by repeat (first | exact Below.refl _ _ | refine bel_al ?_ _ | refine Below.setCell ?_ (by first | (simp; done) | (simp; omega)) _ | refine Below.drew ?_ | refine bel_drewN ?_ _ | refine bel_seq ?_ (B3.out))))
      exact Own.litN _ _ _ _ _ (by simp [World.setCell]; omega) (by simp [World.setCell])
    | true =>
    obtain ⟨_, _, s0, s1⟩ := mail_bd hv
    by_cases he : r = 1000000000000
    · have HV := Lib.hid (recvWith_no (k := k) (s := s) (r := r) (q := ((kd, L), b)) (by rw [he]; simp))
      subst he
      go_wp2_with fail
      refine (specIsMailis hv _).mono ?_
      rintro e w3 ⟨rfl, hb3⟩
      replace k0 := later0 hb3 K0.out
      replace k1 := later0 hb3 K1.out
      obtain ⟨⟨p0, p1, p2⟩, ⟨q0, q1, q2⟩, ⟨f0, f1, f2⟩, ⟨r0, r1, r2⟩, hB, hz3⟩ := two_later HT'.out (H02.out.trans (hb3.mono H02.out.size))
      have B3 := Lib.hid hB
      have O3 := Lib.hid (O2.out.below hb3)
      have hzC : w.heap.size < w3.heap.size := by omega
      have hzD : w.heap.size + 1 < w3.heap.size := by omega
      have hzE : x < w3.heap.size := World.block_lt_of_cell? w3 _ k0
      clear hb3 hB
      go_wp2
      refine bodyPost_ret (v := .tuple #[.agg #[.int .i64 k, .int .i64 s, .int .i64 1000000000000], .slice (some ⟨w3.heap.size, 0, none⟩) 0 0, .bool false]) (by simp [results, Try.results36, go_sem, *]) rfl (mailPost_no HV.out ?_ (by repeat (first | exact Below.refl _ _ | refine bel_al ?_ _ | refine Below.setCell ?_ (by first | (simp; done) | (simp; omega)) _ | refine Below.drew ?_ | refine bel_drewN ?_ _ | refine bel_seq ?_ (B3.out))))
      exact Own.litN _ _ _ _ _ (by simp [World.setCell]; omega) (by simp [World.setCell])
    have he' : (r == 1000000000000) = false := beq_eq_false_iff_ne.2 he
    cases b with
    | false =>
      have HV := Lib.hid (recvWith_no (k := k) (s := s) (r := r) (q := ((kd, L), false)) rfl)
      clear he
      go_wp2_with fail
      refine (specIsMailis hv _).mono ?_
      rintro e w3 ⟨rfl, hb3⟩
      replace k0 := later0 hb3 K0.out
      replace k1 := later0 hb3 K1.out
      obtain ⟨⟨p0, p1, p2⟩, ⟨q0, q1, q2⟩, ⟨f0, f1, f2⟩, ⟨r0, r1, r2⟩, hB, hz3⟩ := two_later HT'.out (H02.out.trans (hb3.mono H02.out.size))
      have B3 := Lib.hid hB
      have O3 := Lib.hid (O2.out.below hb3)
      have hzC : w.heap.size < w3.heap.size := by omega
      have hzD : w.heap.size + 1 < w3.heap.size := by omega
      have hzE : x < w3.heap.size := World.block_lt_of_cell? w3 _ k0
      clear hb3 hB
      go_wp2
      refine bodyPost_ret (v := .tuple #[.agg #[.int .i64 k, .int .i64 s, .int .i64 r], .slice (some ⟨w3.heap.size, 0, none⟩) 0 0, .bool false]) (by simp [results, Try.results36, go_sem, *]) rfl (mailPost_no HV.out ?_ (by repeat (first | exact Below.refl _ _ | refine bel_al ?_ _ | refine Below.setCell ?_ (by first | (simp; done) | (simp; omega)) _ | refine Below.drew ?_ | refine bel_drewN ?_ _ | refine bel_seq ?_ (B3.out))))
      exact Own.litN _ _ _ _ _ (by simp [World.setCell]; omega) (by simp [World.setCell])
    | true =>
    by_cases hk : kd = 1
    case neg =>
      have HV := Lib.hid (recvWith_no (k := k) (s := s) (r := r) (q := ((kd, L), true)) (by rw [show (((kd, L), true).1.1 == (1 : Int)) = false from beq_eq_false_iff_ne.2 hk]; rfl))
      have hk' : (kd != 1) = true := by rw [bne_iff_ne]; exact hk
      clear hk he
      go_wp2_with fail
      refine (specIsMailis hv _).mono ?_
      rintro e w3 ⟨rfl, hb3⟩
      replace k0 := later0 hb3 K0.out
      replace k1 := later0 hb3 K1.out
      obtain ⟨⟨p0, p1, p2⟩, ⟨q0, q1, q2⟩, ⟨f0, f1, f2⟩, ⟨r0, r1, r2⟩, hB, hz3⟩ := two_later HT'.out (H02.out.trans (hb3.mono H02.out.size))
      have B3 := Lib.hid hB
      have O3 := Lib.hid (O2.out.below hb3)
      have hzC : w.heap.size < w3.heap.size := by omega
      have hzD : w.heap.size + 1 < w3.heap.size := by omega
      have hzE : x < w3.heap.size := World.block_lt_of_cell? w3 _ k0
      clear hb3 hB
      go_wp2
      refine bodyPost_ret (v := .tuple #[.agg #[.int .i64 k, .int .i64 s, .int .i64 r], .slice (some ⟨w3.heap.size, 0, none⟩) 0 0, .bool false]) (by simp [results, Try.results36, go_sem, *]) rfl (mailPost_no HV.out ?_ (by repeat (first | exact Below.refl _ _ | refine bel_al ?_ _ | refine Below.setCell ?_ (by first | (simp; done) | (simp; omega)) _ | refine Below.drew ?_ | refine bel_drewN ?_ _ | refine bel_seq ?_ (B3.out))))
      exact Own.litN _ _ _ _ _ (by simp [World.setCell]; omega) (by simp [World.setCell])
    case pos =>
      subst hk
      have HV := Lib.hid (recvWith_yes (k := k) (s := s) (r := r) (q := ((1, L), true)) (by rw [hv, he']; rfl))
      clear he
      go_wp2_with fail
      refine (specIsMailis hv _).mono ?_
      rintro e w3 ⟨rfl, hb3⟩
      replace k0 := later0 hb3 K0.out
      replace k1 := later0 hb3 K1.out
      obtain ⟨⟨p0, p1, p2⟩, ⟨q0, q1, q2⟩, ⟨f0, f1, f2⟩, ⟨r0, r1, r2⟩, hB, hz3⟩ := two_later HT'.out (H02.out.trans (hb3.mono H02.out.size))
      have B3 := Lib.hid hB
      have O3 := Lib.hid (O2.out.below hb3)
      have hzC : w.heap.size < w3.heap.size := by omega
      have hzD : w.heap.size + 1 < w3.heap.size := by omega
      have hzE : x < w3.heap.size := World.block_lt_of_cell? w3 _ k0
      clear hb3 hB
      go_wp2
      go_region
      all_goals
        go_wp2
        refine bodyPost_ret (v := .tuple #[.agg #[.int .i64 k, .int .i64 s, .int .i64 (r + 1)], .slice ao N cap, .bool true]) (by simp [results, Try.results36, go_sem, *]) rfl (mailPost_yes HV.out ?_ (by repeat (first | exact Below.refl _ _ | refine bel_al ?_ _ | refine Below.setCell ?_ (by first | (simp; done) | (simp; omega)) _ | refine Below.drew ?_ | refine bel_drewN ?_ _ | refine bel_seq ?_ (B3.out))))
        refine Own.mono (base := w.heap.size + 2) ?_ (by omega)
        repeat (first | exact O3.out | exact O3.out.drew | refine Own.cells ?_ (by omega) _ | refine Own.drew ?_ | refine Own.alloc ?_ _)
  · have k0 : ((w2.setCell ⟨w1.heap.size, 0, none⟩ (.int .i64 kd)).setCell ⟨w1.heap.size, 1, none⟩ (.slice ao N cap)).cell? ⟨w1.heap.size, 0, none⟩ = some (.int .i64 kd) := by simp [go_sem, *]
    have k1 : ((w2.setCell ⟨w1.heap.size, 0, none⟩ (.int .i64 kd)).setCell ⟨w1.heap.size, 1, none⟩ (.slice ao N cap)).cell? ⟨w1.heap.size, 1, none⟩ = some (.slice ao N cap) := by simp [go_sem, *]
    have hof : Own .u8 5 (w.heap.size + 2) ((w2.setCell ⟨w1.heap.size, 0, none⟩ (.int .i64 kd)).setCell ⟨w1.heap.size, 1, none⟩ (.slice ao N cap)) ao N cap L := ((Own.cells ho (by simp) _).cells (by simp) _).mono (by (try simp); omega)
    have hbl : Below W0.heap.size W0 ((w2.setCell ⟨w1.heap.size, 0, none⟩ (.int .i64 kd)).setCell ⟨w1.heap.size, 1, none⟩ (.slice ao N cap)) := And.right (And.right ‹_ ∧ _ ∧ _›)
    generalize (w2.setCell ⟨w1.heap.size, 0, none⟩ (.int .i64 kd)).setCell ⟨w1.heap.size, 1, none⟩ (.slice ao N cap) = W2 at k0 k1 hof hbl ⊢
    generalize hbx : w1.heap.size = x at k0 k1 ⊢
    have hxl : w.heap.size + 2 ≤ x := by omega
    have K0 := Lib.hid k0
    have K1 := Lib.hid k1
    have O2 := Lib.hid hof
    have H02 := Lib.hid hbl
    obtain ⟨⟨p0, p1, p2⟩, ⟨q0, q1, q2⟩, ⟨f0, f1, f2⟩, ⟨r0, r1, r2⟩, hB, hzW⟩ := two_later HT'.out hbl
    have B2 := Lib.hid hB
    have hzA : w.heap.size < W2.heap.size := by omega
    have hzB : w.heap.size + 1 < W2.heap.size := by omega
    have hx1 : ¬ x = w.heap.size := by omega
    have hx2 : ¬ x = w.heap.size + 1 := by omega
    have hx3 : ¬ w.heap.size = x := by omega
    have hx4 : ¬ w.heap.size + 1 = x := by omega
    clear c0 c1 hof hbl hB ho hb1 hb2 hc1 hc2 hf1 hf2 hz1 hz2 hz2b hbx hxl
    cases hv : validMailI k s r with
    | false =>
      have HV := Lib.hid (recvWith_no (k := k) (s := s) (r := r) (q := ((kd, L), b)) (by rw [hv]; simp))
      go_wp2_with fail
      refine (specIsMailis hv _).mono ?_
      rintro e w3 ⟨rfl, hb3⟩
      replace k0 := later0 hb3 K0.out
      replace k1 := later0 hb3 K1.out
      obtain ⟨⟨p0, p1, p2⟩, ⟨q0, q1, q2⟩, ⟨f0, f1, f2⟩, ⟨r0, r1, r2⟩, hB, hz3⟩ := two_later HT'.out (H02.out.trans (hb3.mono H02.out.size))
      have B3 := Lib.hid hB
      have O3 := Lib.hid (O2.out.below hb3)
      have hzC : w.heap.size < w3.heap.size := by omega
      have hzD : w.heap.size + 1 < w3.heap.size := by omega
      have hzE : x < w3.heap.size := World.block_lt_of_cell? w3 _ k0
      clear hb3 hB
      go_wp2
      refine bodyPost_ret (v := .tuple #[.agg #[.int .i64 k, .int .i64 s, .int .i64 r], .slice (some ⟨w3.heap.size, 0, none⟩) 0 0, .bool false]) (by simp [results, Try.results36, go_sem, *]) rfl (mailPost_no HV.out ?_ (by repeat (first | exact Below.refl _ _ | refine bel_al ?_ _ | refine Below.setCell ?_ (by first | (simp; done) | (simp; omega)) _ | refine Below.drew ?_ | refine bel_drewN ?_ _ | refine bel_seq ?_ (B3.out))))
      exact Own.litN _ _ _ _ _ (by simp [World.setCell]; omega) (by simp [World.setCell])
    | true =>
    obtain ⟨_, _, s0, s1⟩ := mail_bd hv
    by_cases he : r = 1000000000000
    · have HV := Lib.hid (recvWith_no (k := k) (s := s) (r := r) (q := ((kd, L), b)) (by rw [he]; simp))
      subst he
      go_wp2_with fail
      refine (specIsMailis hv _).mono ?_
      rintro e w3 ⟨rfl, hb3⟩
      replace k0 := later0 hb3 K0.out
      replace k1 := later0 hb3 K1.out
      obtain ⟨⟨p0, p1, p2⟩, ⟨q0, q1, q2⟩, ⟨f0, f1, f2⟩, ⟨r0, r1, r2⟩, hB, hz3⟩ := two_later HT'.out (H02.out.trans (hb3.mono H02.out.size))
      have B3 := Lib.hid hB
      have O3 := Lib.hid (O2.out.below hb3)
      have hzC : w.heap.size < w3.heap.size := by omega
      have hzD : w.heap.size + 1 < w3.heap.size := by omega
      have hzE : x < w3.heap.size := World.block_lt_of_cell? w3 _ k0
      clear hb3 hB
      go_wp2
      refine bodyPost_ret (v := .tuple #[.agg #[.int .i64 k, .int .i64 s, .int .i64 1000000000000], .slice (some ⟨w3.heap.size, 0, none⟩) 0 0, .bool false]) (by simp [results, Try.results36, go_sem, *]) rfl (mailPost_no HV.out ?_ (by repeat (first | exact Below.refl _ _ | refine bel_al ?_ _ | refine Below.setCell ?_ (by first | (simp; done) | (simp; omega)) _ | refine Below.drew ?_ | refine bel_drewN ?_ _ | refine bel_seq ?_ (B3.out))))
      exact Own.litN _ _ _ _ _ (by simp [World.setCell]; omega) (by simp [World.setCell])
    have he' : (r == 1000000000000) = false := beq_eq_false_iff_ne.2 he
    cases b with
    | false =>
      have HV := Lib.hid (recvWith_no (k := k) (s := s) (r := r) (q := ((kd, L), false)) rfl)
      clear he
      go_wp2_with fail
      refine (specIsMailis hv _).mono ?_
      rintro e w3 ⟨rfl, hb3⟩
      replace k0 := later0 hb3 K0.out
      replace k1 := later0 hb3 K1.out
      obtain ⟨⟨p0, p1, p2⟩, ⟨q0, q1, q2⟩, ⟨f0, f1, f2⟩, ⟨r0, r1, r2⟩, hB, hz3⟩ := two_later HT'.out (H02.out.trans (hb3.mono H02.out.size))
      have B3 := Lib.hid hB
      have O3 := Lib.hid (O2.out.below hb3)
      have hzC : w.heap.size < w3.heap.size := by omega
      have hzD : w.heap.size + 1 < w3.heap.size := by omega
      have hzE : x < w3.heap.size := World.block_lt_of_cell? w3 _ k0
      clear hb3 hB
      go_wp2
      refine bodyPost_ret (v := .tuple #[.agg #[.int .i64 k, .int .i64 s, .int .i64 r], .slice (some ⟨w3.heap.size, 0, none⟩) 0 0, .bool false]) (by simp [results, Try.results36, go_sem, *]) rfl (mailPost_no HV.out ?_ (by repeat (first | exact Below.refl _ _ | refine bel_al ?_ _ | refine Below.setCell ?_ (by first | (simp; done) | (simp; omega)) _ | refine Below.drew ?_ | refine bel_drewN ?_ _ | refine bel_seq ?_ (B3.out))))
      exact Own.litN _ _ _ _ _ (by simp [World.setCell]; omega) (by simp [World.setCell])
    | true =>
    by_cases hk : kd = 1
    case neg =>
      have HV := Lib.hid (recvWith_no (k := k) (s := s) (r := r) (q := ((kd, L), true)) (by rw [show (((kd, L), true).1.1 == (1 : Int)) = false from beq_eq_false_iff_ne.2 hk]; rfl))
      have hk' : (kd != 1) = true := by rw [bne_iff_ne]; exact hk
      clear hk he
      go_wp2_with fail
      refine (specIsMailis hv _).mono ?_
      rintro e w3 ⟨rfl, hb3⟩
      replace k0 := later0 hb3 K0.out
      replace k1 := later0 hb3 K1.out
      obtain ⟨⟨p0, p1, p2⟩, ⟨q0, q1, q2⟩, ⟨f0, f1, f2⟩, ⟨r0, r1, r2⟩, hB, hz3⟩ := two_later HT'.out (H02.out.trans (hb3.mono H02.out.size))
      have B3 := Lib.hid hB
      have O3 := Lib.hid (O2.out.below hb3)
      have hzC : w.heap.size < w3.heap.size := by omega
      have hzD : w.heap.size + 1 < w3.heap.size := by omega
      have hzE : x < w3.heap.size := World.block_lt_of_cell? w3 _ k0
      clear hb3 hB
      go_wp2
      refine bodyPost_ret (v := .tuple #[.agg #[.int .i64 k, .int .i64 s, .int .i64 r], .slice (some ⟨w3.heap.size, 0, none⟩) 0 0, .bool false]) (by simp [results, Try.results36, go_sem, *]) rfl (mailPost_no HV.out ?_ (by repeat (first | exact Below.refl _ _ | refine bel_al ?_ _ | refine Below.setCell ?_ (by first | (simp; done) | (simp; omega)) _ | refine Below.drew ?_ | refine bel_drewN ?_ _ | refine bel_seq ?_ (B3.out))))
      exact Own.litN _ _ _ _ _ (by simp [World.setCell]; omega) (by simp [World.setCell])
    case pos =>
      subst hk
      have HV := Lib.hid (recvWith_yes (k := k) (s := s) (r := r) (q := ((1, L), true)) (by rw [hv, he']; rfl))
      clear he
      go_wp2_with fail
      refine (specIsMailis hv _).mono ?_
      rintro e w3 ⟨rfl, hb3⟩
      replace k0 := later0 hb3 K0.out
      replace k1 := later0 hb3 K1.out
      obtain ⟨⟨p0, p1, p2⟩, ⟨q0, q1, q2⟩, ⟨f0, f1, f2⟩, ⟨r0, r1, r2⟩, hB, hz3⟩ := two_later HT'.out (H02.out.trans (hb3.mono H02.out.size))
      have B3 := Lib.hid hB
      have O3 := Lib.hid (O2.out.below hb3)
      have hzC : w.heap.size < w3.heap.size := by omega
      have hzD : w.heap.size + 1 < w3.heap.size := by omega
      have hzE : x < w3.heap.size := World.block_lt_of_cell? w3 _ k0
      clear hb3 hB
      go_wp2
      go_region
      all_goals
        go_wp2
        refine bodyPost_ret (v := .tuple #[.agg #[.int .i64 k, .int .i64 s, .int .i64 (r + 1)], .slice ao N cap, .bool true]) (by simp [results, Try.results36, go_sem, *]) rfl (mailPost_yes HV.out ?_ (by repeat (first | exact Below.refl _ _ | refine bel_al ?_ _ | refine Below.setCell ?_ (by first | (simp; done) | (simp; omega)) _ | refine Below.drew ?_ | refine bel_drewN ?_ _ | refine bel_seq ?_ (B3.out))))
        refine Own.mono (base := w.heap.size + 2) ?_ (by omega)
        repeat (first | exact O3.out | exact O3.out.drew | refine Own.cells ?_ (by omega) _ | refine Own.drew ?_ | refine Own.alloc ?_ _)
  · have k0 : ((w2.setCell ⟨W0.heap.size, 0, none⟩ (.int .i64 kd)).setCell ⟨W0.heap.size, 1, none⟩ (.slice ao N cap)).cell? ⟨W0.heap.size, 0, none⟩ = some (.int .i64 kd) := by simp [go_sem, *]
    have k1 : ((w2.setCell ⟨W0.heap.size, 0, none⟩ (.int .i64 kd)).setCell ⟨W0.heap.size, 1, none⟩ (.slice ao N cap)).cell? ⟨W0.heap.size, 1, none⟩ = some (.slice ao N cap) := by simp [go_sem, *]
    have hof : Own .u8 5 (w.heap.size + 2) ((w2.setCell ⟨W0.heap.size, 0, none⟩ (.int .i64 kd)).setCell ⟨W0.heap.size, 1, none⟩ (.slice ao N cap)) ao N cap L := ((Own.cells ho (by (try simp); omega) _).cells (by (try simp); omega) _).mono (by (try simp); omega)
    have hbl : Below W0.heap.size W0 ((w2.setCell ⟨W0.heap.size, 0, none⟩ (.int .i64 kd)).setCell ⟨W0.heap.size, 1, none⟩ (.slice ao N cap)) := And.right (And.right ‹_ ∧ _ ∧ _›)
    generalize (w2.setCell ⟨W0.heap.size, 0, none⟩ (.int .i64 kd)).setCell ⟨W0.heap.size, 1, none⟩ (.slice ao N cap) = W2 at k0 k1 hof hbl ⊢
    generalize hbx : W0.heap.size = x at k0 k1 ⊢
    have hxl : w.heap.size + 2 ≤ x := by omega
    have K0 := Lib.hid k0
    have K1 := Lib.hid k1
    have O2 := Lib.hid hof
    have H02 := Lib.hid hbl
    obtain ⟨⟨p0, p1, p2⟩, ⟨q0, q1, q2⟩, ⟨f0, f1, f2⟩, ⟨r0, r1, r2⟩, hB, hzW⟩ := two_later HT'.out hbl
    have B2 := Lib.hid hB
    have hzA : w.heap.size < W2.heap.size := by omega
    have hzB : w.heap.size + 1 < W2.heap.size := by omega
    have hx1 : ¬ x = w.heap.size := by omega
    have hx2 : ¬ x = w.heap.size + 1 := by omega
    have hx3 : ¬ w.heap.size = x := by omega
    have hx4 : ¬ w.heap.size + 1 = x := by omega
    clear c0 c1 hof hbl hB ho hb1 hb2 hc1 hc2 hf1 hf2 hz1 hz2 hz2b hbx hxl
    cases hv : validMailI k s r with
    | false =>
      have HV := Lib.hid (recvWith_no (k := k) (s := s) (r := r) (q := ((kd, L), b)) (by rw [hv]; simp))
      go_wp2_with fail
      refine (specIsMailis hv _).mono ?_
      rintro e w3 ⟨rfl, hb3⟩
      replace k0 := later0 hb3 K0.out
      replace k1 := later0 hb3 K1.out
      obtain ⟨⟨p0, p1, p2⟩, ⟨q0, q1, q2⟩, ⟨f0, f1, f2⟩, ⟨r0, r1, r2⟩, hB, hz3⟩ := two_later HT'.out (H02.out.trans (hb3.mono H02.out.size))
      have B3 := Lib.hid hB
      have O3 := Lib.hid (O2.out.below hb3)
      have hzC : w.heap.size < w3.heap.size := by omega
      have hzD : w.heap.size + 1 < w3.heap.size := by omega
      have hzE : x < w3.heap.size := World.block_lt_of_cell? w3 _ k0
      clear hb3 hB
      go_wp2
      refine bodyPost_ret (v := .tuple #[.agg #[.int .i64 k, .int .i64 s, .int .i64 r], .slice (some ⟨w3.heap.size, 0, none⟩) 0 0, .bool false]) (by simp [results, Try.results36, go_sem, *]) rfl (mailPost_no HV.out ?_ (by repeat (first | exact Below.refl _ _ | refine bel_al ?_ _ | refine Below.setCell ?_ (by first | (simp; done) | (simp; omega)) _ | refine Below.drew ?_ | refine bel_drewN ?_ _ | refine bel_seq ?_ (B3.out))))
      exact Own.litN _ _ _ _ _ (by simp [World.setCell]; omega) (by simp [World.setCell])
    | true =>
    obtain ⟨_, _, s0, s1⟩ := mail_bd hv
    by_cases he : r = 1000000000000
    · have HV := Lib.hid (recvWith_no (k := k) (s := s) (r := r) (q := ((kd, L), b)) (by rw [he]; simp))
      subst he
      go_wp2_with fail
      refine (specIsMailis hv _).mono ?_
      rintro e w3 ⟨rfl, hb3⟩
      replace k0 := later0 hb3 K0.out
      replace k1 := later0 hb3 K1.out
      obtain ⟨⟨p0, p1, p2⟩, ⟨q0, q1, q2⟩, ⟨f0, f1, f2⟩, ⟨r0, r1, r2⟩, hB, hz3⟩ := two_later HT'.out (H02.out.trans (hb3.mono H02.out.size))
      have B3 := Lib.hid hB
      have O3 := Lib.hid (O2.out.below hb3)
      have hzC : w.heap.size < w3.heap.size := by omega
      have hzD : w.heap.size + 1 < w3.heap.size := by omega
      have hzE : x < w3.heap.size := World.block_lt_of_cell? w3 _ k0
      clear hb3 hB
      go_wp2
      refine bodyPost_ret (v := .tuple #[.agg #[.int .i64 k, .int .i64 s, .int .i64 1000000000000], .slice (some ⟨w3.heap.size, 0, none⟩) 0 0, .bool false]) (by simp [results, Try.results36, go_sem, *]) rfl (mailPost_no HV.out ?_ (by repeat (first | exact Below.refl _ _ | refine bel_al ?_ _ | refine Below.setCell ?_ (by first | (simp; done) | (simp; omega)) _ | refine Below.drew ?_ | refine bel_drewN ?_ _ | refine bel_seq ?_ (B3.out))))
      exact Own.litN _ _ _ _ _ (by simp [World.setCell]; omega) (by simp [World.setCell])
    have he' : (r == 1000000000000) = false := beq_eq_false_iff_ne.2 he
    cases b with
    | false =>
      have HV := Lib.hid (recvWith_no (k := k) (s := s) (r := r) (q := ((kd, L), false)) rfl)
      clear he
      go_wp2_with fail
      refine (specIsMailis hv _).mono ?_
      rintro e w3 ⟨rfl, hb3⟩
      replace k0 := later0 hb3 K0.out
      replace k1 := later0 hb3 K1.out
      obtain ⟨⟨p0, p1, p2⟩, ⟨q0, q1, q2⟩, ⟨f0, f1, f2⟩, ⟨r0, r1, r2⟩, hB, hz3⟩ := two_later HT'.out (H02.out.trans (hb3.mono H02.out.size))
      have B3 := Lib.hid hB
      have O3 := Lib.hid (O2.out.below hb3)
      have hzC : w.heap.size < w3.heap.size := by omega
      have hzD : w.heap.size + 1 < w3.heap.size := by omega
      have hzE : x < w3.heap.size := World.block_lt_of_cell? w3 _ k0
      clear hb3 hB
      go_wp2
      refine bodyPost_ret (v := .tuple #[.agg #[.int .i64 k, .int .i64 s, .int .i64 r], .slice (some ⟨w3.heap.size, 0, none⟩) 0 0, .bool false]) (by simp [results, Try.results36, go_sem, *]) rfl (mailPost_no HV.out ?_ (by repeat (first | exact Below.refl _ _ | refine bel_al ?_ _ | refine Below.setCell ?_ (by first | (simp; done) | (simp; omega)) _ | refine Below.drew ?_ | refine bel_drewN ?_ _ | refine bel_seq ?_ (B3.out))))
      exact Own.litN _ _ _ _ _ (by simp [World.setCell]; omega) (by simp [World.setCell])
    | true =>
    by_cases hk : kd = 1
    case neg =>
      have HV := Lib.hid (recvWith_no (k := k) (s := s) (r := r) (q := ((kd, L), true)) (by rw [show (((kd, L), true).1.1 == (1 : Int)) = false from beq_eq_false_iff_ne.2 hk]; rfl))
      have hk' : (kd != 1) = true := by rw [bne_iff_ne]; exact hk
      clear hk he
      go_wp2_with fail
      refine (specIsMailis hv _).mono ?_
      rintro e w3 ⟨rfl, hb3⟩
      replace k0 := later0 hb3 K0.out
      replace k1 := later0 hb3 K1.out
      obtain ⟨⟨p0, p1, p2⟩, ⟨q0, q1, q2⟩, ⟨f0, f1, f2⟩, ⟨r0, r1, r2⟩, hB, hz3⟩ := two_later HT'.out (H02.out.trans (hb3.mono H02.out.size))
      have B3 := Lib.hid hB
      have O3 := Lib.hid (O2.out.below hb3)
      have hzC : w.heap.size < w3.heap.size := by omega
      have hzD : w.heap.size + 1 < w3.heap.size := by omega
      have hzE : x < w3.heap.size := World.block_lt_of_cell? w3 _ k0
      clear hb3 hB
      go_wp2
      refine bodyPost_ret (v := .tuple #[.agg #[.int .i64 k, .int .i64 s, .int .i64 r], .slice (some ⟨w3.heap.size, 0, none⟩) 0 0, .bool false]) (by simp [results, Try.results36, go_sem, *]) rfl (mailPost_no HV.out ?_ (by repeat (first | exact Below.refl _ _ | refine bel_al ?_ _ | refine Below.setCell ?_ (by first | (simp; done) | (simp; omega)) _ | refine Below.drew ?_ | refine bel_drewN ?_ _ | refine bel_seq ?_ (B3.out))))
      exact Own.litN _ _ _ _ _ (by simp [World.setCell]; omega) (by simp [World.setCell])
    case pos =>
      subst hk
      have HV := Lib.hid (recvWith_yes (k := k) (s := s) (r := r) (q := ((1, L), true)) (by rw [hv, he']; rfl))
      clear he
      go_wp2_with fail
      refine (specIsMailis hv _).mono ?_
      rintro e w3 ⟨rfl, hb3⟩
      replace k0 := later0 hb3 K0.out
      replace k1 := later0 hb3 K1.out
      obtain ⟨⟨p0, p1, p2⟩, ⟨q0, q1, q2⟩, ⟨f0, f1, f2⟩, ⟨r0, r1, r2⟩, hB, hz3⟩ := two_later HT'.out (H02.out.trans (hb3.mono H02.out.size))
      have B3 := Lib.hid hB
      have O3 := Lib.hid (O2.out.below hb3)
      have hzC : w.heap.size < w3.heap.size := by omega
      have hzD : w.heap.size + 1 < w3.heap.size := by omega
      have hzE : x < w3.heap.size := World.block_lt_of_cell? w3 _ k0
      clear hb3 hB
      go_wp2
      go_region
      all_goals
        go_wp2
        refine bodyPost_ret (v := .tuple #[.agg #[.int .i64 k, .int .i64 s, .int .i64 (r + 1)], .slice ao N cap, .bool true]) (by simp [results, Try.results36, go_sem, *]) rfl (mailPost_yes HV.out ?_ (by repeat (first | exact Below.refl _ _ | refine bel_al ?_ _ | refine Below.setCell ?_ (by first | (simp; done) | (simp; omega)) _ | refine Below.drew ?_ | refine bel_drewN ?_ _ | refine bel_seq ?_ (B3.out))))
        refine Own.mono (base := w.heap.size + 2) ?_ (by omega)
        repeat (first | exact O3.out | exact O3.out.drew | refine Own.cells ?_ (by omega) _ | refine Own.drew ?_ | refine Own.alloc ?_ _)
end Go.Proofs.Ytelcpihbdgikfaa
