/- The walks of mailboxes. -/
import Derived.Test.YtelcpihbdgikfaaProg
import Derived.Test.YtelcpihbdgikfaaCell5
namespace Go.Proofs.Ytelcpihbdgikfaa
open Go.RowKit

def validMailI (k s r : Int) : Bool := keyB k && inR s 0 1000000000000 && inR r 0 1000000000000
theorem box3m (w : World) (a b c : Value) (e : TypeId) :
    (w.alloc (.cells #[a, b, c] e)).cell? ⟨w.heap.size, 0, none⟩ = some a ∧ (w.alloc (.cells #[a, b, c] e)).cell? ⟨w.heap.size, 1, none⟩ = some b ∧ (w.alloc (.cells #[a, b, c] e)).cell? ⟨w.heap.size, 2, none⟩ = some c ∧ Below w.heap.size w (w.alloc (.cells #[a, b, c] e)) :=
  ⟨by simp, by simp, by simp, bel_al (Below.refl _ _) _⟩
theorem implIsMail (k s r : Int) (w : World) : Calls Try.prog 50 #[.agg #[.int .i64 k, .int .i64 s, .int .i64 r]] w fun e w' => e = .returned (.bool (validMailI k s r)) ∧ Below w.heap.size w w' := by
  have HF := validMailI.eq_1 k s r
  cases h1 : keyB k <;> cases h2 : inR s 0 1000000000000 <;> cases h3 : inR r 0 1000000000000
  all_goals
    rw [h1, h2, h3] at HF
    have HF' := Lib.hid HF
    clear HF
    go_enter Try.func50, Try.ntmps50
    go_wp2_with (first | (go_at_call 63; (refine (implIsKeyis h1 _).mono ?_); rintro e w0 ⟨rfl, rfl⟩) | ((go_at_call 94; (with_reducible refine (implInRis h2 _).mono ?_)); rintro e w0 ⟨rfl, rfl⟩) | (go_at_call 94; (refine (implInRis h3 _).mono ?_); rintro e w0 ⟨rfl, rfl⟩))
    go_ret
    exact ⟨ret_bool (by simp [HF'.out]), (by repeat (first | exact Below.refl _ _ | refine bel_al ?_ _ | refine Below.setCell ?_ (by first | (simp; done) | (simp; omega)) _ | refine Below.drew ?_ | refine bel_drewN ?_ _))⟩
theorem implIsMailis {k s r : Int} {b : Bool} (h : validMailI k s r = b) (w : World) : Calls Try.prog 50 #[.agg #[.int .i64 k, .int .i64 s, .int .i64 r]] w fun e w' => e = .returned (.bool b) ∧ Below w.heap.size w w' := by
  have := implIsMail k s r w
  rw [h] at this
  exact this
theorem specIsMail (k s r : Int) (w : World) : Calls Try.prog 87 #[.agg #[.int .i64 k, .int .i64 s, .int .i64 r]] w fun e w' => e = .returned (.bool (validMailI k s r)) ∧ Below w.heap.size w w' := by
  have HF := validMailI.eq_1 k s r
  cases h1 : keyB k <;> cases h2 : inR s 0 1000000000000 <;> cases h3 : inR r 0 1000000000000
  all_goals
    rw [h1, h2, h3] at HF
    have HF' := Lib.hid HF
    clear HF
    go_enter Try.func87, Try.ntmps87
    go_wp2_with (first | (go_at_call 68; (refine (specIsKeyis h1 _).mono ?_); rintro e w0 ⟨rfl, rfl⟩) | ((go_at_call 108; (with_reducible refine (specInRis h2 _).mono ?_)); rintro e w0 ⟨rfl, rfl⟩) | (go_at_call 108; (refine (specInRis h3 _).mono ?_); rintro e w0 ⟨rfl, rfl⟩))
    go_ret
    exact ⟨ret_bool (by simp [HF'.out]), (by repeat (first | exact Below.refl _ _ | refine bel_al ?_ _ | refine Below.setCell ?_ (by first | (simp; done) | (simp; omega)) _ | refine Below.drew ?_ | refine bel_drewN ?_ _))⟩
theorem specIsMailis {k s r : Int} {b : Bool} (h : validMailI k s r = b) (w : World) : Calls Try.prog 87 #[.agg #[.int .i64 k, .int .i64 s, .int .i64 r]] w fun e w' => e = .returned (.bool b) ∧ Below w.heap.size w w' := by
  have := specIsMail k s r w
  rw [h] at this
  exact this
theorem mail_bd {k s r : Int} (h : validMailI k s r = true) : 0 ≤ s ∧ s ≤ 1000000000000 ∧ 0 ≤ r ∧ r ≤ 1000000000000 := by
  simp only [validMailI, inR, Bool.and_eq_true, decide_eq_true_eq] at h
  omega
/-- what sending returns, the seal's own answer known -/
def sendWith (k s r : Int) (q : List Int × Bool) : (Int × Int × Int) × List Int × Bool := if q.2 && validMailI k s r && !(s == 1000000000000) then ((k, s + 1, r), q.1, true) else ((k, s, r), [], false)
def sendI (k s r d : Int) (body : List Int) : (Int × Int × Int) × List Int × Bool := sendWith k s r (sealI (directionKeyI k d) s 1 body)
def recvWith (k s r : Int) (q : (Int × List Int) × Bool) : (Int × Int × Int) × List Int × Bool := if q.2 && (q.1.1 == 1) && validMailI k s r && !(r == 1000000000000) then ((k, s, r + 1), q.1.2, true) else ((k, s, r), [], false)
def recvI (k s r d : Int) (cell : List Int) : (Int × Int × Int) × List Int × Bool := recvWith k s r (openI (directionKeyI k d) r cell)
def MailPost (x : (Int × Int × Int) × List Int × Bool) (w : World) (e : Ending) (w' : World) : Prop :=
  ∃ ao N cap, e = .returned (.tuple #[.agg #[.int .i64 x.1.1, .int .i64 x.1.2.1, .int .i64 x.1.2.2], .slice ao N cap, .bool x.2.2]) ∧ Own .u8 5 w.heap.size w' ao N cap x.2.1 ∧ Below w.heap.size w w'
theorem sendWith_no {k s r : Int} {q : List Int × Bool} (h : (q.2 && validMailI k s r && !(s == 1000000000000)) = false) : sendWith k s r q = ((k, s, r), [], false) := by unfold sendWith; rw [h]; rfl
theorem sendWith_yes {k s r : Int} {q : List Int × Bool} (h : (q.2 && validMailI k s r && !(s == 1000000000000)) = true) : sendWith k s r q = ((k, s + 1, r), q.1, true) := by unfold sendWith; rw [h]; rfl
theorem recvWith_no {k s r : Int} {q : (Int × List Int) × Bool} (h : (q.2 && (q.1.1 == 1) && validMailI k s r && !(r == 1000000000000)) = false) : recvWith k s r q = ((k, s, r), [], false) := by unfold recvWith; rw [h]; rfl
theorem recvWith_yes {k s r : Int} {q : (Int × List Int) × Bool} (h : (q.2 && (q.1.1 == 1) && validMailI k s r && !(r == 1000000000000)) = true) : recvWith k s r q = ((k, s, r + 1), q.1.2, true) := by unfold recvWith; rw [h]; rfl
theorem mailPost_no {x : (Int × Int × Int) × List Int × Bool} {k s r : Int} (h : x = ((k, s, r), [], false)) {w w' : World} {ao : Option Addr} {N cap : Nat} (ho : Own .u8 5 w.heap.size w' ao N cap []) (hb : Below w.heap.size w w') :
    MailPost x w (.returned (.tuple #[.agg #[.int .i64 k, .int .i64 s, .int .i64 r], .slice ao N cap, .bool false])) w' := by
  subst h
  exact ⟨_, _, _, rfl, ho, hb⟩
theorem mailPost_yes {x : (Int × Int × Int) × List Int × Bool} {k s r : Int} {l : List Int} (h : x = ((k, s, r), l, true)) {w w' : World} {ao : Option Addr} {N cap : Nat} (ho : Own .u8 5 w.heap.size w' ao N cap l) (hb : Below w.heap.size w w') :
    MailPost x w (.returned (.tuple #[.agg #[.int .i64 k, .int .i64 s, .int .i64 r], .slice ao N cap, .bool true])) w' := by
  subst h
  exact ⟨_, _, _, rfl, ho, hb⟩
/-- the two blocks that a mailbox's function lays first -/
theorem two_boxes (w : World) (k s r : Int) (e : TypeId) : ∀ W, W = (w.alloc (.cells #[.int .i64 k, .int .i64 s, .int .i64 r] e)).alloc (.cells #[.int .i64 0, .int .i64 0, .int .i64 0] e) →
    (W.cell? ⟨w.heap.size, 0, none⟩ = some (.int .i64 k) ∧ W.cell? ⟨w.heap.size, 1, none⟩ = some (.int .i64 s) ∧ W.cell? ⟨w.heap.size, 2, none⟩ = some (.int .i64 r)) ∧
    (W.cell? ⟨w.heap.size + 1, 0, none⟩ = some (.int .i64 0) ∧ W.cell? ⟨w.heap.size + 1, 1, none⟩ = some (.int .i64 0) ∧ W.cell? ⟨w.heap.size + 1, 2, none⟩ = some (.int .i64 0)) ∧
    (∀ o, W.frozen? ⟨w.heap.size, o, none⟩ = false) ∧ (∀ o, W.frozen? ⟨w.heap.size + 1, o, none⟩ = false) ∧ Below w.heap.size w W ∧ W.heap.size = w.heap.size + 2 := by
  rintro W rfl
  refine ⟨⟨by simp [go_sem], by simp [go_sem], by simp [go_sem]⟩, ⟨by simp [go_sem], by simp [go_sem], by simp [go_sem]⟩, fun o => by simp [go_sem], fun o => by simp [go_sem], bel_al (bel_al (Below.refl _ _) _) _, by simp⟩
/-- the cells of the two blocks in a later world -/
theorem two_later {w W W' : World} {k s r : Int} (h : (W.cell? ⟨w.heap.size, 0, none⟩ = some (.int .i64 k) ∧ W.cell? ⟨w.heap.size, 1, none⟩ = some (.int .i64 s) ∧ W.cell? ⟨w.heap.size, 2, none⟩ = some (.int .i64 r)) ∧
    (W.cell? ⟨w.heap.size + 1, 0, none⟩ = some (.int .i64 0) ∧ W.cell? ⟨w.heap.size + 1, 1, none⟩ = some (.int .i64 0) ∧ W.cell? ⟨w.heap.size + 1, 2, none⟩ = some (.int .i64 0)) ∧
    (∀ o, W.frozen? ⟨w.heap.size, o, none⟩ = false) ∧ (∀ o, W.frozen? ⟨w.heap.size + 1, o, none⟩ = false) ∧ Below w.heap.size w W ∧ W.heap.size = w.heap.size + 2) (hb : Below W.heap.size W W') :
    (W'.cell? ⟨w.heap.size, 0, none⟩ = some (.int .i64 k) ∧ W'.cell? ⟨w.heap.size, 1, none⟩ = some (.int .i64 s) ∧ W'.cell? ⟨w.heap.size, 2, none⟩ = some (.int .i64 r)) ∧
    (W'.cell? ⟨w.heap.size + 1, 0, none⟩ = some (.int .i64 0) ∧ W'.cell? ⟨w.heap.size + 1, 1, none⟩ = some (.int .i64 0) ∧ W'.cell? ⟨w.heap.size + 1, 2, none⟩ = some (.int .i64 0)) ∧
    (W'.frozen? ⟨w.heap.size, 0, none⟩ = false ∧ W'.frozen? ⟨w.heap.size, 1, none⟩ = false ∧ W'.frozen? ⟨w.heap.size, 2, none⟩ = false) ∧ (W'.frozen? ⟨w.heap.size + 1, 0, none⟩ = false ∧ W'.frozen? ⟨w.heap.size + 1, 1, none⟩ = false ∧ W'.frozen? ⟨w.heap.size + 1, 2, none⟩ = false) ∧ Below w.heap.size w W' ∧ w.heap.size + 2 ≤ W'.heap.size := by
  obtain ⟨⟨h0, h1, h2⟩, ⟨h3, h4, h5⟩, f0, f1, hB, hz⟩ := h
  have hl : ∀ o, (⟨w.heap.size, o, none⟩ : Addr).block < W.heap.size := fun o => by show w.heap.size < _; omega
  have hl' : ∀ o, (⟨w.heap.size + 1, o, none⟩ : Addr).block < W.heap.size := fun o => by show w.heap.size + 1 < _; omega
  exact ⟨⟨later0 hb h0, later0 hb h1, later0 hb h2⟩, ⟨later0 hb h3, later0 hb h4, later0 hb h5⟩, ⟨(hb.frozen (hl 0)).trans (f0 0), (hb.frozen (hl 1)).trans (f0 1), (hb.frozen (hl 2)).trans (f0 2)⟩, ⟨(hb.frozen (hl' 0)).trans (f1 0), (hb.frozen (hl' 1)).trans (f1 1), (hb.frozen (hl' 2)).trans (f1 2)⟩, bel_seq hB hb, by have := hb.size; omega⟩
set_option maxRecDepth 100000 in
set_option maxHeartbeats 1000000 in
theorem implSend (k s r d : Int) (v : Value) (body : List Int) (w : World) (hs : Sl .u8 w v body) (hby : bytesOk body) : Calls Try.prog 34 #[.agg #[.int .i64 k, .int .i64 s, .int .i64 r], .int .i64 d, v] w (MailPost (sendI k s r d body) w) := by
  obtain ⟨a, c, rfl, hm⟩ := hs.shape
  obtain ⟨n, hn⟩ : ∃ n, n = body.length := ⟨_, rfl⟩
  rw [← hn] at hs hm ⊢
  have HT := two_boxes w k s r 49 _ rfl
  have CK := Lib.hid (fun W => implDirectionKey k d W)
  have CS := fun W h => implSeal (directionKeyI k d) s 1 (.slice a n c) body W h hby
  obtain ⟨⟨L, b⟩, hq⟩ : ∃ q, q = sealI (directionKeyI k d) s 1 body := ⟨_, rfl⟩
  have hx : sendI k s r d body = sendWith k s r (L, b) := by unfold sendI; rw [hq]
  rw [hx]
  rw [← hq] at CS
  have CS := Lib.hid CS
  have HS := Lib.hid ((hs.alloc (.cells #[.int .i64 k, .int .i64 s, .int .i64 r] 49)).alloc (.cells #[.int .i64 0, .int .i64 0, .int .i64 0] 49))
  clear hx hq hs hby hn hm
  generalize directionKeyI k d = q at CK CS
  go_enter Try.func34, Try.ntmps34
  go_wp2_with fail
  generalize (w.alloc (.cells #[.int .i64 k, .int .i64 s, .int .i64 r] 49)).alloc (.cells #[.int .i64 0, .int .i64 0, .int .i64 0] 49) = W0 at HT HS ⊢
  have HT' := Lib.hid HT
  have hz0 := HT.2.2.2.2.2
  have c0 := HT.1.1
  have c1 := HT.1.2.1
  clear HT
  go_region_held3 (fun W' => W'.cell? ⟨w.heap.size, 0, none⟩ = some (.int .i64 k) ∧ W'.cell? ⟨w.heap.size, 1, none⟩ = some (.int .i64 s) ∧ Below W0.heap.size W0 W') (first | assumption | (refine keep2 ?_ c0 c1; repeat (first | exact Below.refl _ _ | refine bel_al ?_ _ | refine Below.drew ?_ | refine bel_seq ?_ hb1 | refine bel_seq ?_ hb2))) (first | (go_at_call 52; (refine (CK.out _).mono ?_); rintro e w1 ⟨rfl, hb1⟩) | (go_at_call 83; (refine (CS.out _ (by first | exact HS.out.below hb1 | exact (HS.out.below hb1).drew | exact (HS.out.drew).below hb1)).mono ?_); rintro e w2 ⟨ao, N, cap, rfl, ho, hb2⟩))
  have hb02 : Below W0.heap.size W0 w2 := And.right (And.right ‹_ ∧ _ ∧ _›)
  have ho2 : Own .u8 5 (w.heap.size + 2) w2 ao N cap L := Own.mono ho (by have := hb1.size; simp at *; omega)
  obtain ⟨⟨p0, p1, p2⟩, ⟨q0, q1, q2⟩, ⟨f0, f1, f2⟩, ⟨r0, r1, r2⟩, hB, hz2⟩ := two_later HT'.out hb02
  have B2 := Lib.hid hB
  have O2 := Lib.hid ho2
  have H02 := Lib.hid hb02
  have hzA : w.heap.size < w2.heap.size := by omega
  have hzB : w.heap.size + 1 < w2.heap.size := by omega
  clear hb1 hb2 hb02 hB ho2 ho c0 c1
  cases b with
  | false =>
    have HV := Lib.hid (sendWith_no (k := k) (s := s) (r := r) (q := (L, false)) rfl)
    go_wp2
    exact bodyPost_ret (v := .tuple #[.agg #[.int .i64 k, .int .i64 s, .int .i64 r], .slice none 0 0, .bool false]) (by simp [results, Try.results34, go_sem, *]) rfl (mailPost_no HV.out (Own.nil _ _ _ _) (by repeat (first | exact Below.refl _ _ | refine bel_al ?_ _ | refine Below.setCell ?_ (by first | (simp; done) | (simp; omega)) _ | refine Below.drew ?_ | refine bel_drewN ?_ _ | refine bel_seq ?_ (B2.out))))
  | true =>
  cases hv : validMailI k s r with
  | false =>
    have HV := Lib.hid (sendWith_no (k := k) (s := s) (r := r) (q := (L, true)) (by rw [hv]; rfl))
    go_wp2_with fail
    refine (implIsMailis hv _).mono ?_
    rintro e w3 ⟨rfl, hb3⟩
    obtain ⟨⟨p0, p1, p2⟩, ⟨q0, q1, q2⟩, ⟨f0, f1, f2⟩, ⟨r0, r1, r2⟩, hB, hz3⟩ := two_later HT'.out (H02.out.trans (hb3.mono H02.out.size))
    have B3 := Lib.hid hB
    have O3 := Lib.hid (O2.out.below hb3)
    have hzC : w.heap.size < w3.heap.size := by omega
    have hzD : w.heap.size + 1 < w3.heap.size := by omega
    clear hb3 hB
    go_wp2
    exact bodyPost_ret (v := .tuple #[.agg #[.int .i64 k, .int .i64 s, .int .i64 r], .slice none 0 0, .bool false]) (by simp [results, Try.results34, go_sem, *]) rfl (mailPost_no HV.out (Own.nil _ _ _ _) (by repeat (first | exact Below.refl _ _ | refine bel_al ?_ _ | refine Below.setCell ?_ (by first | (simp; done) | (simp; omega)) _ | refine Below.drew ?_ | refine bel_drewN ?_ _ | refine bel_seq ?_ (B3.out))))
  | true =>
  obtain ⟨s0, s1, _, _⟩ := mail_bd hv
  by_cases he : s = 1000000000000
  · have HV := Lib.hid (sendWith_no (k := k) (s := s) (r := r) (q := (L, true)) (by rw [hv, he]; rfl))
    subst he
    go_wp2_with fail
    refine (implIsMailis hv _).mono ?_
    rintro e w3 ⟨rfl, hb3⟩
    obtain ⟨⟨p0, p1, p2⟩, ⟨q0, q1, q2⟩, ⟨f0, f1, f2⟩, ⟨r0, r1, r2⟩, hB, hz3⟩ := two_later HT'.out (H02.out.trans (hb3.mono H02.out.size))
    have B3 := Lib.hid hB
    have O3 := Lib.hid (O2.out.below hb3)
    have hzC : w.heap.size < w3.heap.size := by omega
    have hzD : w.heap.size + 1 < w3.heap.size := by omega
    clear hb3 hB
    go_wp2
    exact bodyPost_ret (v := .tuple #[.agg #[.int .i64 k, .int .i64 1000000000000, .int .i64 r], .slice none 0 0, .bool false]) (by simp [results, Try.results34, go_sem, *]) rfl (mailPost_no HV.out (Own.nil _ _ _ _) (by repeat (first | exact Below.refl _ _ | refine bel_al ?_ _ | refine Below.setCell ?_ (by first | (simp; done) | (simp; omega)) _ | refine Below.drew ?_ | refine bel_drewN ?_ _ | refine bel_seq ?_ (B3.out))))
  · have HV := Lib.hid (sendWith_yes (k := k) (s := s) (r := r) (q := (L, true)) (by rw [hv, beq_eq_false_iff_ne.2 he]; rfl))
    have he' : (s == 1000000000000) = false := beq_eq_false_iff_ne.2 he
    clear he
    go_wp2_with fail
    refine (implIsMailis hv _).mono ?_
    rintro e w3 ⟨rfl, hb3⟩
    obtain ⟨⟨p0, p1, p2⟩, ⟨q0, q1, q2⟩, ⟨f0, f1, f2⟩, ⟨r0, r1, r2⟩, hB, hz3⟩ := two_later HT'.out (H02.out.trans (hb3.mono H02.out.size))
    have B3 := Lib.hid hB
    have O3 := Lib.hid (O2.out.below hb3)
    have hzC : w.heap.size < w3.heap.size := by omega
    have hzD : w.heap.size + 1 < w3.heap.size := by omega
    clear hb3 hB
    go_wp2
    refine bodyPost_ret (v := .tuple #[.agg #[.int .i64 k, .int .i64 (s + 1), .int .i64 r], .slice ao N cap, .bool true]) (by simp [results, Try.results34, go_sem, *]) rfl (mailPost_yes HV.out ?_ (by repeat (first | exact Below.refl _ _ | refine bel_al ?_ _ | refine Below.setCell ?_ (by first | (simp; done) | (simp; omega)) _ | refine Below.drew ?_ | refine bel_drewN ?_ _ | refine bel_seq ?_ (B3.out))))
    refine Own.mono (base := w.heap.size + 2) ?_ (by omega)
    repeat (first | exact O3.out | refine Own.cells ?_ (by omega) _)
end Go.Proofs.Ytelcpihbdgikfaa
