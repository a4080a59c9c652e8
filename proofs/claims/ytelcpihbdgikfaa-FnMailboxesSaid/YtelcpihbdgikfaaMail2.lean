/- The walks of mailboxes: the reference's sending. -/
import Derived.Test.YtelcpihbdgikfaaProg
import Derived.Test.YtelcpihbdgikfaaMail
namespace Go.Proofs.Ytelcpihbdgikfaa
open Go.RowKit

theorem Own.litN (k : IntKind) (e : TypeId) (base : Nat) (w : World) (b : Nat) (hb : base ≤ w.heap.size) (h : b = w.heap.size) : Own k e base (w.alloc (.cells #[] e)) (some ⟨b, 0, none⟩) 0 0 [] := by
  subst h
  exact Own.lit k e base w [] (by simp [maxLen]) hb
set_option maxRecDepth 100000 in
set_option maxHeartbeats 1000000 in
theorem specSend (k s r d : Int) (v : Value) (body : List Int) (w : World) (hs : Sl .u8 w v body) (hby : bytesOk body) : Calls Try.prog 32 #[.agg #[.int .i64 k, .int .i64 s, .int .i64 r], .int .i64 d, v] w (MailPost (sendI k s r d body) w) := by
  obtain ⟨a, c, rfl, hm⟩ := hs.shape
  obtain ⟨n, hn⟩ : ∃ n, n = body.length := ⟨_, rfl⟩
  rw [← hn] at hs hm ⊢
  have HT := two_boxes w k s r 49 _ rfl
  have CK := Lib.hid (fun W => specDirectionKey k d W)
  have CS := fun W h => specSeal (directionKeyI k d) s 1 (.slice a n c) body W h hby
  obtain ⟨⟨L, b⟩, hq⟩ : ∃ q, q = sealI (directionKeyI k d) s 1 body := ⟨_, rfl⟩
  have hx : sendI k s r d body = sendWith k s r (L, b) := by unfold sendI; rw [hq]
  rw [hx]
  rw [← hq] at CS
  have CS := Lib.hid CS
  have HS := Lib.hid ((hs.alloc (.cells #[.int .i64 k, .int .i64 s, .int .i64 r] 49)).alloc (.cells #[.int .i64 0, .int .i64 0, .int .i64 0] 49))
  clear hx hq hs hby hn hm
  generalize directionKeyI k d = q at CK CS
  go_enter Try.func32, Try.ntmps32
  go_wp2_with fail
  generalize (w.alloc (.cells #[.int .i64 k, .int .i64 s, .int .i64 r] 49)).alloc (.cells #[.int .i64 0, .int .i64 0, .int .i64 0] 49) = W0 at HT HS ⊢
  have HT' := Lib.hid HT
  have hz0 := HT.2.2.2.2.2
  have c0 := HT.1.1
  have c1 := HT.1.2.1
  clear HT
  go_region_held3 (fun W' => W'.cell? ⟨w.heap.size, 0, none⟩ = some (.int .i64 k) ∧ W'.cell? ⟨w.heap.size, 1, none⟩ = some (.int .i64 s) ∧ Below W0.heap.size W0 W') (first | assumption | (refine keep2 ?_ c0 c1; repeat (first | exact Below.refl _ _ | refine bel_al ?_ _ | refine Below.drew ?_ | refine bel_seq ?_ hb1 | refine bel_seq ?_ hb2))) (first | (go_at_call 86; (refine (CK.out _).mono ?_); rintro e w1 ⟨rfl, hb1⟩) | (go_at_call 82; (refine (CS.out _ (by first | exact HS.out.below hb1 | exact (HS.out.below hb1).drew | exact (HS.out.drew).below hb1)).mono ?_); rintro e w2 ⟨ao, N, cap, rfl, ho, hb2⟩))
  have hb02 : Below W0.heap.size W0 w2 := And.right (And.right ‹_ ∧ _ ∧ _›)
  have ho2 : Own .u8 5 (w.heap.size + 2) w2 ao N cap L := Own.mono ho (by have := hb1.size; simp at *; omega)
  obtain ⟨⟨p0, p1, p2⟩, ⟨q0, q1, q2⟩, ⟨f0, f1, f2⟩, ⟨r0, r1, r2⟩, hB, hz2⟩ := two_later HT'.out hb02
  have B2 := Lib.hid hB
  have O2 := Lib.hid ho2
  have H02 := Lib.hid hb02
  have hzA : w.heap.size < w2.heap.size := by omega
  have hzB : w.heap.size + 1 < w2.heap.size := by omega
  clear hb1 hb2 hb02 hB ho2 ho c0 c1
  cases hv : validMailI k s r with
  | false =>
    have HV := Lib.hid (sendWith_no (k := k) (s := s) (r := r) (q := (L, b)) (by rw [hv]; simp))
    go_wp2_with fail
    refine (specIsMailis hv _).mono ?_
    rintro e w3 ⟨rfl, hb3⟩
    obtain ⟨⟨p0, p1, p2⟩, ⟨q0, q1, q2⟩, ⟨f0, f1, f2⟩, ⟨r0, r1, r2⟩, hB, hz3⟩ := two_later HT'.out (H02.out.trans (hb3.mono H02.out.size))
    have B3 := Lib.hid hB
    have O3 := Lib.hid (O2.out.below hb3)
    have hzC : w.heap.size < w3.heap.size := by omega
    have hzD : w.heap.size + 1 < w3.heap.size := by omega
    clear hb3 hB
    go_wp2
    refine bodyPost_ret (v := .tuple #[.agg #[.int .i64 k, .int .i64 s, .int .i64 r], .slice (some ⟨w3.heap.size, 0, none⟩) 0 0, .bool false]) (by simp [results, Try.results32, go_sem, *]) rfl (mailPost_no HV.out ?_ (by repeat (first | exact Below.refl _ _ | refine bel_al ?_ _ | refine Below.setCell ?_ (by first | (simp; done) | (simp; omega)) _ | refine Below.drew ?_ | refine bel_drewN ?_ _ | refine bel_seq ?_ (B3.out))))
    exact Own.litN _ _ _ _ _ (by simp [World.setCell]; omega) (by simp [World.setCell])
  | true =>
  obtain ⟨s0, s1, _, _⟩ := mail_bd hv
  by_cases he : s = 1000000000000
  · have HV := Lib.hid (sendWith_no (k := k) (s := s) (r := r) (q := (L, b)) (by rw [he]; simp))
    subst he
    go_wp2_with fail
    refine (specIsMailis hv _).mono ?_
    rintro e w3 ⟨rfl, hb3⟩
    obtain ⟨⟨p0, p1, p2⟩, ⟨q0, q1, q2⟩, ⟨f0, f1, f2⟩, ⟨r0, r1, r2⟩, hB, hz3⟩ := two_later HT'.out (H02.out.trans (hb3.mono H02.out.size))
    have B3 := Lib.hid hB
    have O3 := Lib.hid (O2.out.below hb3)
    have hzC : w.heap.size < w3.heap.size := by omega
    have hzD : w.heap.size + 1 < w3.heap.size := by omega
    clear hb3 hB
    go_wp2
    refine bodyPost_ret (v := .tuple #[.agg #[.int .i64 k, .int .i64 1000000000000, .int .i64 r], .slice (some ⟨w3.heap.size, 0, none⟩) 0 0, .bool false]) (by simp [results, Try.results32, go_sem, *]) rfl (mailPost_no HV.out ?_ (by repeat (first | exact Below.refl _ _ | refine bel_al ?_ _ | refine Below.setCell ?_ (by first | (simp; done) | (simp; omega)) _ | refine Below.drew ?_ | refine bel_drewN ?_ _ | refine bel_seq ?_ (B3.out))))
    exact Own.litN _ _ _ _ _ (by simp [World.setCell]; omega) (by simp [World.setCell])
  have he' : (s == 1000000000000) = false := beq_eq_false_iff_ne.2 he
  cases b with
  | false =>
    have HV := Lib.hid (sendWith_no (k := k) (s := s) (r := r) (q := (L, false)) rfl)
    clear he
    go_wp2_with fail
    refine (specIsMailis hv _).mono ?_
    rintro e w3 ⟨rfl, hb3⟩
    obtain ⟨⟨p0, p1, p2⟩, ⟨q0, q1, q2⟩, ⟨f0, f1, f2⟩, ⟨r0, r1, r2⟩, hB, hz3⟩ := two_later HT'.out (H02.out.trans (hb3.mono H02.out.size))
    have B3 := Lib.hid hB
    have O3 := Lib.hid (O2.out.below hb3)
    have hzC : w.heap.size < w3.heap.size := by omega
    have hzD : w.heap.size + 1 < w3.heap.size := by omega
    clear hb3 hB
    go_wp2
    refine bodyPost_ret (v := .tuple #[.agg #[.int .i64 k, .int .i64 s, .int .i64 r], .slice (some ⟨w3.heap.size, 0, none⟩) 0 0, .bool false]) (by simp [results, Try.results32, go_sem, *]) rfl (mailPost_no HV.out ?_ (by repeat (first | exact Below.refl _ _ | refine bel_al ?_ _ | refine Below.setCell ?_ (by first | (simp; done) | (simp; omega)) _ | refine Below.drew ?_ | refine bel_drewN ?_ _ | refine bel_seq ?_ (B3.out))))
    exact Own.litN _ _ _ _ _ (by simp [World.setCell]; omega) (by simp [World.setCell])
  | true =>
    have HV := Lib.hid (sendWith_yes (k := k) (s := s) (r := r) (q := (L, true)) (by rw [hv, he']; rfl))
    clear he
    go_wp2_with fail
    refine (specIsMailis hv _).mono ?_
    rintro e w3 ⟨rfl, hb3⟩
    obtain ⟨⟨p0, p1, p2⟩, ⟨q0, q1, q2⟩, ⟨f0, f1, f2⟩, ⟨r0, r1, r2⟩, hB, hz3⟩ := two_later HT'.out (H02.out.trans (hb3.mono H02.out.size))
    have B3 := Lib.hid hB
    have O3 := Lib.hid (O2.out.below hb3)
    have hzC : w.heap.size < w3.heap.size := by omega
    have hzD : w.heap.size + 1 < w3.heap.size := by omega
    clear hb3 hB
    go_wp2
    refine bodyPost_ret (v := .tuple #[.agg #[.int .i64 k, .int .i64 (s + 1), .int .i64 r], .slice ao N cap, .bool true]) (by simp [results, Try.results32, go_sem, *]) rfl (mailPost_yes HV.out ?_ ?_)
    · refine Own.mono (base := w.heap.size + 2) ?_ (by omega)
      repeat (first | exact O3.out | refine Own.cells ?_ (by omega) _ | refine Own.alloc ?_ _)
    · exact (by repeat (first | exact Below.refl _ _ | refine bel_al ?_ _ | refine Below.setCell ?_ (by first | (simp; done) | (simp; omega)) _ | refine Below.drew ?_ | refine bel_drewN ?_ _ | refine bel_seq ?_ (B3.out)))
end Go.Proofs.Ytelcpihbdgikfaa
