/- The walks of IsValidKey, IsValidGroup and of the laws' helpers on groups of senders. -/
import Derived.Test.YtdodheahckpkfaaProg
import Derived.Test.YtdodheahckpkfaaInts
import Derived.Test.YtdodheahckpkfaaAsc
import Derived.Test.YtdodheahckpkfaaLater
namespace Go.Proofs.Ytdodheahckpkfaa
open Go.RowKit
/-- may the number be a key -/
def keyB (x : Int) : Bool := inR x 1 2147483646
theorem specIsKey (x : Int) (w : World) : Calls Try.prog 81 #[.int .i64 x] w fun e w' => e = .returned (.bool (keyB x)) ∧ w = w' := by
  cases h : inR x 1 2147483646 with
  | false =>
    have HF := Lib.hid (show keyB x = false from h)
    go_enter Try.func81, Try.ntmps81
    go_wp2_with (first | (go_at_call 59; (refine (specInRis h _).mono ?_); rintro e w0 ⟨rfl, rfl⟩))
    go_ret
    exact ⟨ret_bool HF.out.symm, rfl⟩
  | true =>
    have HF := Lib.hid (show keyB x = true from h)
    go_enter Try.func81, Try.ntmps81
    go_wp2_with (first | (go_at_call 59; (refine (specInRis h _).mono ?_); rintro e w0 ⟨rfl, rfl⟩))
    go_ret
    exact ⟨ret_bool HF.out.symm, rfl⟩
theorem specIsKeyis {x : Int} {b : Bool} (h : keyB x = b) (w : World) : Calls Try.prog 81 #[.int .i64 x] w fun e w' => e = .returned (.bool b) ∧ w = w' := by
  have := specIsKey x w
  rw [h] at this
  exact this
theorem implIsKey (x : Int) (w : World) : Calls Try.prog 82 #[.int .i64 x] w fun e w' => e = .returned (.bool (keyB x)) ∧ w = w' := by
  cases h : inR x 1 2147483646 with
  | false =>
    have HF := Lib.hid (show keyB x = false from h)
    go_enter Try.func82, Try.ntmps82
    go_wp2_with (first | (go_at_call 60; (refine (implInRis h _).mono ?_); rintro e w0 ⟨rfl, rfl⟩))
    go_ret
    exact ⟨ret_bool HF.out.symm, rfl⟩
  | true =>
    have HF := Lib.hid (show keyB x = true from h)
    go_enter Try.func82, Try.ntmps82
    go_wp2_with (first | (go_at_call 60; (refine (implInRis h _).mono ?_); rintro e w0 ⟨rfl, rfl⟩))
    go_ret
    exact ⟨ret_bool HF.out.symm, rfl⟩
theorem implIsKeyis {x : Int} {b : Bool} (h : keyB x = b) (w : World) : Calls Try.prog 82 #[.int .i64 x] w fun e w' => e = .returned (.bool b) ∧ w = w' := by
  have := implIsKey x w
  rw [h] at this
  exact this
def validGroupI (i e s : Int) (l : List Int) : Bool := inR i 0 1000000000000 && inR e 0 100000 && keyB s && decide (l.length ≤ 8) && ascI l 0 1000000000000
theorem box4 (w : World) (a b c d : Value) (e : TypeId) :
    (w.alloc (.cells #[a, b, c, d] e)).cell? ⟨w.heap.size, 0, none⟩ = some a ∧ (w.alloc (.cells #[a, b, c, d] e)).cell? ⟨w.heap.size, 1, none⟩ = some b ∧ (w.alloc (.cells #[a, b, c, d] e)).cell? ⟨w.heap.size, 2, none⟩ = some c ∧ (w.alloc (.cells #[a, b, c, d] e)).cell? ⟨w.heap.size, 3, none⟩ = some d ∧ Below w.heap.size w (w.alloc (.cells #[a, b, c, d] e)) :=
  ⟨by simp, by simp, by simp, by simp, bel_al (Below.refl _ _) _⟩
theorem implIsValidGroup (i e s : Int) (v : Value) (l : List Int) (w : World) (hs : Sl .i64 w v l) : Calls Try.prog 44 #[.agg #[.int .i64 i, .int .i64 e, .int .i64 s, v]] w fun ex w' => ex = .returned (.bool (validGroupI i e s l)) ∧ Below w.heap.size w w' := by
  obtain ⟨a, c, rfl, hm⟩ := hs.shape
  have HS := Lib.hid (hs.alloc (.cells #[.int .i64 i, .int .i64 e, .int .i64 s, .slice a l.length c] 59))
  clear hs
  have HF := validGroupI.eq_1 i e s l
  cases h1 : inR i 0 1000000000000 <;> cases h2 : inR e 0 100000 <;> cases h3 : keyB s <;> by_cases h4 : l.length ≤ 8
  all_goals
    rw [h1, h2, h3] at HF
    first | rw [decide_eq_true h4] at HF | rw [decide_eq_false h4] at HF
    have HF' := Lib.hid HF
    clear HF
    go_enter Try.func44, Try.ntmps44
    go_wp2_with (first | (go_at_call 60; (with_reducible refine (implInRis h1 _).mono ?_); rintro e w0 ⟨rfl, rfl⟩) | (go_at_call 60; (refine (implInRis h2 _).mono ?_); rintro e w0 ⟨rfl, rfl⟩) | (go_at_call 82; (refine (implIsKeyis h3 _).mono ?_); rintro e w0 ⟨rfl, rfl⟩) | (go_at_call 61; (refine (implAsc _ _ _ _ _ HS.out).mono ?_); rintro e w1 ⟨rfl, hb1⟩))
    go_ret
    refine ⟨ret_bool (by simp [HF'.out]), ?_⟩
    repeat (first | exact Below.refl _ _ | refine bel_al ?_ _ | refine bel_seq ?_ hb1)
theorem specIsValidGroup (i e s : Int) (v : Value) (l : List Int) (w : World) (hs : Sl .i64 w v l) : Calls Try.prog 42 #[.agg #[.int .i64 i, .int .i64 e, .int .i64 s, v]] w fun ex w' => ex = .returned (.bool (validGroupI i e s l)) ∧ Below w.heap.size w w' := by
  obtain ⟨a, c, rfl, hm⟩ := hs.shape
  have HB := box4 w (.int .i64 i) (.int .i64 e) (.int .i64 s) (.slice a l.length c) 59
  have hs1 := hs.alloc (.cells #[.int .i64 i, .int .i64 e, .int .i64 s, .slice a l.length c] 59)
  go_enter Try.func42, Try.ntmps42
  go_wp2
  generalize w.alloc (.cells #[.int .i64 i, .int .i64 e, .int .i64 s, .slice a l.length c] 59) = W0 at HB hs1 ⊢
  obtain ⟨g0, g1, g2, g3, gb⟩ := HB
  have G0 := Lib.hid g0
  have G1 := Lib.hid g1
  have G2 := Lib.hid g2
  have G3 := Lib.hid g3
  have GB := Lib.hid gb
  have HS := Lib.hid hs1
  clear g0 g1 g2 g3 gb hs1 hs
  go_loopw [3] (fun ix wr => ∃ k : Nat, k ≤ l.length ∧ ix = .int .i64 k ∧ (∃ n, wr = W0.drewN n) ∧ Hid (∀ j, j < k → ascAt l 0 1000000000000 j = true)) (fun ix _ => l.length - (intOf ix).toNat)
  case atStart => exact ⟨0, Nat.zero_le _, rfl, ⟨0, rfl⟩, Lib.hid (fun j hj => by omega)⟩
  case round =>
    obtain ⟨k, hk, rfl, ⟨n, rfl⟩, HK⟩ := hrel
    have g3 : (W0.drewN n).cell? ⟨w.heap.size, 3, none⟩ = some (.slice a l.length c) := G3.out
    have g2 : (W0.drewN n).cell? ⟨w.heap.size, 2, none⟩ = some (.int .i64 s) := G2.out
    have g1 : (W0.drewN n).cell? ⟨w.heap.size, 1, none⟩ = some (.int .i64 e) := G1.out
    have g0 : (W0.drewN n).cell? ⟨w.heap.size, 0, none⟩ = some (.int .i64 i) := G0.out
    by_cases hlt : k < l.length
    · obtain ⟨b, off, rfl, hb, h4⟩ := HS.out.at hlt
      have hc1 : (W0.drewN n).cell? ⟨b, off + k, none⟩ = some (.int .i64 (l.getD k 0)) := h4 k hlt
      cases hr : inR (l.getD k 0) 0 1000000000000 with
      | false =>
        have HF := Lib.hid (ascI_no hlt (show ascAt l 0 1000000000000 k = false by unfold ascAt; rw [hr]; rfl))
        have HF2 := Lib.hid (show validGroupI i e s l = false by unfold validGroupI; rw [HF.out]; simp)
        clear h4 hb
        generalize l.getD k 0 = y at hc1 hr
        generalize hww : W0.drewN n = wn at hc1 g0 g1 g2 g3 ⊢
        have HW := Lib.hid hww
        clear hww
        go_wp2_with fail
        go_quiet (first | (go_at_call 59; exact quiet_same (specInRis hr _)))
        go_wp2
        go_ret
        exact ⟨ret_bool HF2.out.symm, by rw [← HW.out]; exact bel_drewN (bel_drewN GB.out _) _⟩
      | true =>
        cases k with
        | zero =>
          have HK' : Hid (∀ j, j < 0 + 1 → ascAt l 0 1000000000000 j = true) := Lib.hid (fun j hj => by
            obtain rfl : j = 0 := by omega
            unfold ascAt; rw [hr]; rfl)
          clear h4 hb
          simp only [Nat.add_zero] at hc1
          generalize l.getD 0 0 = y at hc1 hr
          generalize hww : W0.drewN n = wn at hc1 g0 g1 g2 g3 ⊢
          have HW := Lib.hid hww
          clear hww
          go_wp2_with fail
          go_quiet (first | (go_at_call 59; exact quiet_same (specInRis hr _)))
          go_wp2
          go_roundw
          case rel => exact ⟨0 + 1, by omega, by go_num, ⟨_, by rw [← HW.out, World.drewN_drewN]⟩, HK'⟩
          case measure => simp [intOf]; omega
        | succ m =>
          have hc2 : (W0.drewN n).cell? ⟨b, off + m, none⟩ = some (.int .i64 (l.getD m 0)) := h4 m (by omega)
          by_cases ha : l.getD m 0 < l.getD (m + 1) 0
          · have HK' : Hid (∀ j, j < m + 1 + 1 → ascAt l 0 1000000000000 j = true) := Lib.hid (fun j hj => by
              rcases Nat.lt_succ_iff_lt_or_eq.1 hj with h | h
              · exact HK.out j h
              · subst h
                unfold ascAt
                rw [hr, Nat.add_sub_cancel, decide_eq_true ha]; simp)
            clear h4 hb
            generalize l.getD (m + 1) 0 = y at hc1 hr ha
            generalize l.getD m 0 = z at hc2 ha
            generalize hww : W0.drewN n = wn at hc1 hc2 g0 g1 g2 g3 ⊢
            have HW := Lib.hid hww
            clear hww
            go_wp2_with fail
            go_quiet (first | (go_at_call 59; exact quiet_same (specInRis hr _)))
            go_wp2
            go_roundw
            case rel => exact ⟨m + 1 + 1, by omega, by go_num, ⟨_, by rw [← HW.out, World.drewN_drewN]⟩, HK'⟩
            case measure => simp [intOf]; omega
          · have HF := Lib.hid (ascI_no hlt (show ascAt l 0 1000000000000 (m + 1) = false by unfold ascAt; rw [hr, Nat.add_sub_cancel, decide_eq_false ha]; simp))
            have HF2 := Lib.hid (show validGroupI i e s l = false by unfold validGroupI; rw [HF.out]; simp)
            clear h4 hb
            generalize l.getD (m + 1) 0 = y at hc1 hr ha
            generalize l.getD m 0 = z at hc2 ha
            generalize hww : W0.drewN n = wn at hc1 hc2 g0 g1 g2 g3 ⊢
            have HW := Lib.hid hww
            clear hww
            go_wp2_with fail
            go_quiet (first | (go_at_call 59; exact quiet_same (specInRis hr _)))
            go_wp2
            go_ret
            exact ⟨ret_bool HF2.out.symm, by rw [← HW.out]; exact bel_drewN (bel_drewN GB.out _) _⟩
    · have : k = l.length := by omega
      subst this
      have HF0 := ascI_yes HK.out
      have HF := validGroupI.eq_1 i e s l
      rw [HF0] at HF
      clear HF0
      cases h1 : inR i 0 1000000000000 <;> cases h2 : inR e 0 100000 <;> cases h3 : keyB s
      all_goals
        rw [h1, h2, h3] at HF
        have HF' := Lib.hid HF
        clear HF
        go_wp2_with (first | (go_at_call 59; (with_reducible refine (specInRis h1 _).mono ?_); rintro e w0 ⟨rfl, rfl⟩) | (go_at_call 59; (refine (specInRis h2 _).mono ?_); rintro e w0 ⟨rfl, rfl⟩) | (go_at_call 81; (refine (specIsKeyis h3 _).mono ?_); rintro e w0 ⟨rfl, rfl⟩))
        go_ret
        exact ⟨ret_bool (by first | (simp [HF'.out]; done) | (simp [HF'.out]; omega)), bel_drewN GB.out _⟩
theorem toSenderGroup (i e s : Int) (v : Value) (l : List Int) (w : World) (hs : Sl .i64 w v l) (hl : l.length ≤ 1048576) :
    Calls Try.prog 43 #[.agg #[.int .i64 i, .int .i64 e, .int .i64 s, v]] w fun ex w' => ∃ N g, ex = .returned (.agg #[.int .i64 i, .int .i64 e, .int .i64 s, .slice (some ⟨g, 0, none⟩) N N]) ∧ N ≤ 1048576 ∧ w.heap.size ≤ g ∧ g < w'.heap.size ∧ Own .i64 3 w.heap.size w' (some ⟨g, 0, none⟩) N N l ∧ Below w.heap.size w w' := by
  obtain ⟨a, c, rfl, hm⟩ := hs.shape
  go_enter Try.func43, Try.ntmps43
  go_wp2_with fail
  refine (toIntS _ l _ (((hs.alloc _).alloc _).alloc _) hl).mono ?_
  rintro e w1 ⟨N, g, rfl, hN, hg1, hg2, hown, hb1⟩
  obtain ⟨hc, hf⟩ := bcell hb1
  have hz1 : w.heap.size + 1 < w1.heap.size := by have := hb1.size; simp at this; omega
  have hz2 : w.heap.size + 1 + 1 < w1.heap.size := by have := hb1.size; simp at this; omega
  simp only [World.size_alloc] at hg1 hown
  have B1 := Lib.hid hb1
  have O1 := Lib.hid hown
  clear hb1 hown hs
  go_wp2
  refine bodyPost_ret (v := .agg #[.int .i64 i, .int .i64 e, .int .i64 s, .slice (some ⟨g, 0, none⟩) N N]) (by simp [results, Try.results43, go_sem, *]) rfl ⟨N, g, rfl, hN, by omega, ?_, ?_, (by repeat (with_reducible (first | exact Below.refl _ _ | refine bel_al ?_ _ | refine Below.setCell ?_ (by first | (simp; done) | (simp; omega)) _ | refine Below.drew ?_ | refine bel_drewN ?_ _ | refine bel_seq ?_ (B1.out))))⟩
  · simp [World.setCell]; omega
  · refine Own.mono (base := w.heap.size + 1 + 1 + 1) ?_ (by omega)
    refine own_cells ?_ (by omega) _
    refine own_cells ?_ (by omega) _
    refine own_cells ?_ (by omega) _
    refine own_cells ?_ (by omega) _
    refine own_cells ?_ (by omega) _
    exact O1.out
theorem szSenderGroup (i e s : Int) (v : Value) (l : List Int) (left : Int) (w : World) (hs : Sl .i64 w v l) (h0 : 0 ≤ left) (h1 : left ≤ 1048576) :
    Calls Try.prog 41 #[.agg #[.int .i64 i, .int .i64 e, .int .i64 s, v], .int .i64 left] w fun ex w' => ex = .returned (.int .i64 (if left < l.length then -1 else left - l.length)) ∧ Below w.heap.size w w' := by
  obtain ⟨a, c, rfl, hm⟩ := hs.shape
  have CS := szIntS _ l left _ (hs.alloc (.cells #[.int .i64 i, .int .i64 e, .int .i64 s, .slice a l.length c] 56)) h0 h1
  clear hs
  by_cases hlt : left < (l.length : Int)
  · rw [if_pos hlt] at CS ⊢
    have CS' := Lib.hid CS
    clear CS
    go_enter Try.func41, Try.ntmps41
    go_wp2_with fail
    refine CS'.out.mono ?_
    rintro e w' ⟨rfl, rfl⟩
    go_wp2
    go_ret
    exact ⟨rfl, (by repeat (first | exact Below.refl _ _ | refine bel_al ?_ _ | refine Below.setCell ?_ (by first | (simp; done) | (simp; omega)) _ | refine Below.drew ?_ | refine bel_drewN ?_ _))⟩
  · rw [if_neg hlt] at CS ⊢
    have CS' := Lib.hid CS
    clear CS
    go_enter Try.func41, Try.ntmps41
    go_wp2_with fail
    refine CS'.out.mono ?_
    rintro e w' ⟨rfl, rfl⟩
    go_wp2
    go_ret
    exact ⟨rfl, (by repeat (first | exact Below.refl _ _ | refine bel_al ?_ _ | refine Below.setCell ?_ (by first | (simp; done) | (simp; omega)) _ | refine Below.drew ?_ | refine bel_drewN ?_ _))⟩
theorem eqSenderGroup_yes (i e s : Int) (v u : Value) (l : List Int) (w : World) (hs : Sl .i64 w v l) (hu : Sl .i64 w u l) :
    Calls Try.prog 45 #[.agg #[.int .i64 i, .int .i64 e, .int .i64 s, v], .agg #[.int .i64 i, .int .i64 e, .int .i64 s, u]] w fun ex w' => ex = .returned (.bool true) ∧ Below w.heap.size w w' := by
  obtain ⟨a, c, rfl, hm⟩ := hs.shape
  obtain ⟨a', c', rfl, hm'⟩ := hu.shape
  have CE := Lib.hid (eqIntS_yes _ _ l _ ((hs.alloc (.cells #[.int .i64 i, .int .i64 e, .int .i64 s, .slice a l.length c] 59)).alloc (.cells #[.int .i64 i, .int .i64 e, .int .i64 s, .slice a' l.length c'] 59)) ((hu.alloc (.cells #[.int .i64 i, .int .i64 e, .int .i64 s, .slice a l.length c] 59)).alloc (.cells #[.int .i64 i, .int .i64 e, .int .i64 s, .slice a' l.length c'] 59)))
  clear hs hu
  have hne1 : (i != i) = false := by simp
  have hne2 : (e != e) = false := by simp
  have hne3 : (s != s) = false := by simp
  go_enter Try.func45, Try.ntmps45
  go_wp2_with fail
  refine CE.out.mono ?_
  rintro e w1 ⟨rfl, hb1⟩
  go_wp2
  go_ret
  exact ⟨rfl, (by repeat (first | exact Below.refl _ _ | refine bel_al ?_ _ | refine Below.setCell ?_ (by first | (simp; done) | (simp; omega)) _ | refine Below.drew ?_ | refine bel_drewN ?_ _ | refine bel_seq ?_ (hb1)))⟩
end Go.Proofs.Ytdodheahckpkfaa
