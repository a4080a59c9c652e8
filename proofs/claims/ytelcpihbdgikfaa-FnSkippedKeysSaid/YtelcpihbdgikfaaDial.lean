/- The walks of invitations. -/
import Derived.Test.YtelcpihbdgikfaaProg
import Derived.Test.YtelcpihbdgikfaaCell5
import Derived.Test.YtelcpihbdgikfaaIdent
namespace Go.Proofs.Ytelcpihbdgikfaa
open Go.RowKit

def pubI (n : Int) : List Int := [n % 256, n / 256 % 256]
theorem pubI_ok (n : Int) : bytesOk (pubI n) := by
  intro x hx
  simp only [pubI, List.mem_cons, List.not_mem_nil, or_false] at hx
  omega
theorem pubI_length (n : Int) : (pubI n).length = 2 := rfl
theorem implPub (n : Int) (w : World) : Calls Try.prog 91 #[.int .i64 n] w fun e w' => ∃ g, e = .returned (.slice (some ⟨g, 0, none⟩) 2 2) ∧ Own .u8 5 w.heap.size w' (some ⟨g, 0, none⟩) 2 2 (pubI n) ∧ Below w.heap.size w w' := by
  go_enter Try.func91, Try.ntmps91
  go_wp2
  go_ret
  exact ⟨_, rfl, Own.lit .u8 5 w.heap.size w (pubI n) (by simp [pubI, maxLen]) (Nat.le_refl _), (by repeat (first | exact Below.refl _ _ | refine bel_al ?_ _ | refine Below.setCell ?_ (by first | (simp; done) | (simp; omega)) _ | refine Below.drew ?_ | refine bel_drewN ?_ _))⟩
theorem specPub (n : Int) (w : World) : Calls Try.prog 89 #[.int .i64 n] w fun e w' => ∃ g, e = .returned (.slice (some ⟨g, 0, none⟩) 2 2) ∧ Own .u8 5 w.heap.size w' (some ⟨g, 0, none⟩) 2 2 (pubI n) ∧ Below w.heap.size w w' := by
  go_enter Try.func89, Try.ntmps89
  go_wp2
  go_ret
  exact ⟨_, rfl, Own.lit .u8 5 w.heap.size w (pubI n) (by simp [pubI, maxLen]) (Nat.le_refl _), (by repeat (first | exact Below.refl _ _ | refine bel_al ?_ _ | refine Below.setCell ?_ (by first | (simp; done) | (simp; omega)) _ | refine Below.drew ?_ | refine bel_drewN ?_ _))⟩
theorem implIsIdis {s p : Int} {b : Bool} (h : validIdI s p = b) (w : World) : Calls Try.prog 65 #[.agg #[.int .i64 s, .int .i64 p]] w fun e w' => e = .returned (.bool b) ∧ Below w.heap.size w w' := by
  have := implIsValidIdentity s p w
  rw [h] at this
  exact this
theorem specIsIdis {s p : Int} {b : Bool} (h : validIdI s p = b) (w : World) : Calls Try.prog 90 #[.agg #[.int .i64 s, .int .i64 p]] w fun e w' => e = .returned (.bool b) ∧ Below w.heap.size w w' := by
  have := specIsValidIdentity s p w
  rw [h] at this
  exact this
def makeI (s p callee round : Int) : List Int × Bool := if validIdI s p && !(sharedKeyI s callee == 0) then sealI (sharedKeyI s callee) round 2 (pubI p) else ([], false)
def InvPost (x : List Int × Bool) (w : World) (e : Ending) (w' : World) : Prop :=
  ∃ ao N cap, e = .returned (.tuple #[.slice ao N cap, .bool x.2]) ∧ Own .u8 5 w.heap.size w' ao N cap x.1 ∧ Below w.heap.size w w'
theorem makeI_no {s p callee round : Int} (h : (validIdI s p && !(sharedKeyI s callee == 0)) = false) : makeI s p callee round = ([], false) := by unfold makeI; rw [h]; rfl
theorem makeI_yes {s p callee round : Int} (h : (validIdI s p && !(sharedKeyI s callee == 0)) = true) : makeI s p callee round = sealI (sharedKeyI s callee) round 2 (pubI p) := by unfold makeI; rw [h]; rfl
theorem sealI_bad {key counter kind : Int} {body L : List Int} (h : sealI key counter kind body = (L, false)) : L = [] := by
  unfold sealI at h
  split at h
  · cases h
  · cases h; rfl
set_option maxRecDepth 100000 in
theorem implMake (s p callee round : Int) (w : World) : Calls Try.prog 40 #[.agg #[.int .i64 s, .int .i64 p], .int .i64 callee, .int .i64 round] w (InvPost (makeI s p callee round) w) := by
  obtain ⟨K, hK⟩ : ∃ K, K = sharedKeyI s callee := ⟨_, rfl⟩
  have CK := fun W => implSharedKey s callee W
  rw [← hK] at CK
  have CK := Lib.hid CK
  have HN := Lib.hid (fun h => makeI_no (s := s) (p := p) (callee := callee) (round := round) (by rw [← hK]; exact h))
  have HY := Lib.hid (fun h => (makeI_yes (s := s) (p := p) (callee := callee) (round := round) (by rw [← hK]; exact h)).trans (by rw [← hK]))
  have HB := box2 w (.int .i64 s) (.int .i64 p) 59
  clear hK
  go_enter Try.func40, Try.ntmps40
  go_wp2_with fail
  refine (CK.out _).mono ?_
  rintro e w1 ⟨rfl, hb1⟩
  have c0 := later0 hb1 HB.1
  have c1 := later0 hb1 HB.2.1
  have B1 := Lib.hid (bel_seq HB.2.2.2 hb1)
  clear hb1 HB
  cases hv : validIdI s p with
  | false =>
    have HV := Lib.hid (HN.out (by rw [hv]; rfl))
    go_wp2_with fail
    refine (implIsIdis hv _).mono ?_
    rintro e w2 ⟨rfl, hb2⟩
    go_wp2
    go_ret2
    exact ⟨none, 0, 0, (by rw [HV.out]; rfl), by rw [HV.out]; exact Own.nil _ _ _ _, bel_seq B1.out hb2⟩
  | true =>
  by_cases hk : K = 0
  · have HV := Lib.hid (HN.out (by rw [hk]; simp))
    subst hk
    go_wp2_with fail
    refine (implIsIdis hv _).mono ?_
    rintro e w2 ⟨rfl, hb2⟩
    go_wp2
    go_ret2
    exact ⟨none, 0, 0, (by rw [HV.out]; rfl), by rw [HV.out]; exact Own.nil _ _ _ _, bel_seq B1.out hb2⟩
  · have hk' : (K == 0) = false := beq_eq_false_iff_ne.2 hk
    have HV := Lib.hid (HY.out (by rw [hv, hk']; rfl))
    clear hk
    go_wp2_with fail
    refine (implIsIdis hv _).mono ?_
    rintro e w2 ⟨rfl, hb2⟩
    replace c1 := later0 hb2 c1
    have B2 := Lib.hid (bel_seq B1.out hb2)
    clear hb2 c0
    go_wp2_with fail
    refine (implPub p _).mono ?_
    rintro e w3 ⟨g, rfl, ho3, hb3⟩
    have O3 := Lib.hid ho3
    have B3 := Lib.hid (bel_seq B2.out hb3)
    clear ho3 hb3
    go_wp2_with fail
    refine (implSeal K round 2 _ (pubI p) _ O3.out.sl (pubI_ok p)).mono ?_
    rintro e w4 ⟨ao, N, cap, rfl, ho4, hb4⟩
    have O4 := Lib.hid (ho4.mono B3.out.size)
    have B4 := Lib.hid (bel_seq B3.out hb4)
    clear ho4 hb4
    go_wp2
    go_ret2
    exact ⟨ao, N, cap, (by rw [HV.out]; rfl), by rw [HV.out]; exact O4.out, B4.out⟩
set_option maxRecDepth 100000 in
theorem specMake (s p callee round : Int) (w : World) : Calls Try.prog 38 #[.agg #[.int .i64 s, .int .i64 p], .int .i64 callee, .int .i64 round] w (InvPost (makeI s p callee round) w) := by
  obtain ⟨K, hK⟩ : ∃ K, K = sharedKeyI s callee := ⟨_, rfl⟩
  have CK := fun W => specSharedKey s callee W
  rw [← hK] at CK
  have CK := Lib.hid CK
  have CS := fun v W h => specSeal K round 2 v (pubI p) W h (pubI_ok p)
  obtain ⟨⟨L, b⟩, hq⟩ : ∃ q, q = sealI K round 2 (pubI p) := ⟨_, rfl⟩
  rw [← hq] at CS
  have CS := Lib.hid CS
  have HN := Lib.hid (fun h => makeI_no (s := s) (p := p) (callee := callee) (round := round) (by rw [← hK]; exact h))
  have HY := Lib.hid (fun h => (makeI_yes (s := s) (p := p) (callee := callee) (round := round) (by rw [← hK]; exact h)).trans (show _ = (L, b) by rw [← hK, hq]))
  have HQ := Lib.hid hq.symm
  have HB := box2 w (.int .i64 s) (.int .i64 p) 59
  clear hK hq
  go_enter Try.func38, Try.ntmps38
  go_wp2_with fail
  refine (CK.out _).mono ?_
  rintro e w1 ⟨rfl, hb1⟩
  have c0 := later0 hb1 HB.1
  have c1 := later0 hb1 HB.2.1
  have B1 := Lib.hid (bel_seq HB.2.2.2 hb1)
  clear hb1 HB
  go_wp2_with fail
  refine (specPub p _).mono ?_
  rintro e w3 ⟨g, rfl, ho3, hb3⟩
  have O3 := Lib.hid ho3
  have B3 := Lib.hid (bel_seq B1.out hb3)
  replace c0 := later0 hb3 c0
  replace c1 := later0 hb3 c1
  clear ho3 hb3
  go_wp2_with fail
  refine (CS.out _ _ O3.out.sl).mono ?_
  rintro e w4 ⟨ao, N, cap, rfl, ho4, hb4⟩
  have O4 := Lib.hid (ho4.mono B3.out.size)
  have B4 := Lib.hid (bel_seq B3.out hb4)
  replace c0 := later0 hb4 c0
  replace c1 := later0 hb4 c1
  clear ho4 hb4
  cases hv : validIdI s p with
  | false =>
    have HV := Lib.hid (HN.out (by rw [hv]; rfl))
    go_wp2_with fail
    refine (specIsIdis hv _).mono ?_
    rintro e w5 ⟨rfl, hb5⟩
    have hz := Nat.le_trans B4.out.size hb5.size
    go_wp2
    go_ret2
    exact ⟨_, _, _, (by rw [HV.out]; rfl), by rw [HV.out]; exact Own.lit _ _ _ _ [] (by simp [maxLen]) hz, bel_al (bel_seq B4.out hb5) _⟩
  | true =>
  by_cases hk : K = 0
  · have HV := Lib.hid (HN.out (by rw [hk]; simp))
    subst hk
    go_wp2_with fail
    refine (specIsIdis hv _).mono ?_
    rintro e w5 ⟨rfl, hb5⟩
    have hz := Nat.le_trans B4.out.size hb5.size
    go_wp2
    go_ret2
    exact ⟨_, _, _, (by rw [HV.out]; rfl), by rw [HV.out]; exact Own.lit _ _ _ _ [] (by simp [maxLen]) hz, bel_al (bel_seq B4.out hb5) _⟩
  have hk' : (K == 0) = false := beq_eq_false_iff_ne.2 hk
  have HV := Lib.hid (HY.out (by rw [hv, hk']; rfl))
  clear hk
  cases b with
  | false =>
    have HL := Lib.hid (sealI_bad HQ.out)
    go_wp2_with fail
    refine (specIsIdis hv _).mono ?_
    rintro e w5 ⟨rfl, hb5⟩
    have hz := Nat.le_trans B4.out.size hb5.size
    go_wp2
    go_ret2
    exact ⟨_, _, _, (by rw [HV.out]; rfl), by rw [HV.out, HL.out]; exact Own.lit _ _ _ _ [] (by simp [maxLen]) hz, bel_al (bel_seq B4.out hb5) _⟩
  | true =>
    go_wp2_with fail
    refine (specIsIdis hv _).mono ?_
    rintro e w5 ⟨rfl, hb5⟩
    have O5 := Lib.hid (O4.out.below hb5)
    have B5 := Lib.hid (bel_seq B4.out hb5)
    clear hb5
    go_wp2
    go_ret2
    exact ⟨ao, N, cap, (by rw [HV.out]; rfl), by rw [HV.out]; exact O5.out, B5.out⟩
end Go.Proofs.Ytelcpihbdgikfaa
