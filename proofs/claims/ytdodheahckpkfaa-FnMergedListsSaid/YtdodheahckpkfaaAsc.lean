/- The walks of the functions that ask whether numbers ascend. -/
import Derived.Test.YtdodheahckpkfaaProg
import Derived.Test.YtdodheahckpkfaaLists
namespace Go.Proofs.Ytdodheahckpkfaa
open Go.RowKit

theorem implAsc (v : Value) (l : List Int) (lo hi : Int) (w : World) (hs : Sl .i64 w v l) : Calls Try.prog 61 #[v, .int .i64 lo, .int .i64 hi] w fun e w' => e = .returned (.bool (ascI l lo hi)) ∧ Below w.heap.size w w' := by
  obtain ⟨a, c, rfl, hm⟩ := hs.shape
  have HS := Lib.hid hs
  clear hs
  go_enter Try.func61, Try.ntmps61
  go_wp2
  go_loop [11] (fun i => ∃ k : Nat, k ≤ l.length ∧ i = .int .i64 k ∧ Hid (∀ j, j < k → ascAt l lo hi j = true)) (fun i => l.length - (intOf i).toNat)
  case atStart => exact ⟨0, Nat.zero_le _, rfl, Lib.hid (fun j hj => by omega)⟩
  case round =>
    obtain ⟨k, hk, rfl, HK⟩ := hrel
    by_cases hlt : k < l.length
    · obtain ⟨b, off, rfl, hb, h4⟩ := HS.out.at hlt
      have hc1 := h4 k hlt
      cases hr : inR (l.getD k 0) lo hi with
      | false =>
        have HF := Lib.hid (ascI_no hlt (show ascAt l lo hi k = false by unfold ascAt; rw [hr]; rfl))
        clear h4 hb
        generalize l.getD k 0 = y at hc1 hr
        go_wp2_with (first | (go_at_call 60; (refine (implInRis hr _).mono ?_); rintro e w0 ⟨rfl, rfl⟩))
        go_ret
        exact ⟨ret_bool HF.out.symm, Below.refl _ _⟩
      | true =>
        cases k with
        | zero =>
          have HK' : Hid (∀ j, j < 0 + 1 → ascAt l lo hi j = true) := Lib.hid (fun j hj => by
            obtain rfl : j = 0 := by omega
            unfold ascAt; rw [hr]; rfl)
          clear h4 hb
          simp only [Nat.add_zero] at hc1
          generalize l.getD 0 0 = y at hc1 hr
          go_wp2_with (first | (go_at_call 60; (refine (implInRis hr _).mono ?_); rintro e w0 ⟨rfl, rfl⟩))
          go_round
          case rel => exact ⟨0 + 1, by omega, by go_num, HK'⟩
          case measure => simp [intOf]; omega
        | succ m =>
          have hc2 := h4 m (by omega)
          by_cases ha : l.getD m 0 < l.getD (m + 1) 0
          · have HK' : Hid (∀ j, j < m + 1 + 1 → ascAt l lo hi j = true) := Lib.hid (fun j hj => by
              rcases Nat.lt_succ_iff_lt_or_eq.1 hj with h | h
              · exact HK.out j h
              · subst h
                unfold ascAt
                rw [hr, Nat.add_sub_cancel, decide_eq_true ha]; simp)
            clear h4 hb
            generalize l.getD (m + 1) 0 = y at hc1 hr ha
            generalize l.getD m 0 = z at hc2 ha
            go_wp2_with (first | (go_at_call 60; (refine (implInRis hr _).mono ?_); rintro e w0 ⟨rfl, rfl⟩))
            go_round
            case rel => exact ⟨m + 1 + 1, by omega, by go_num, HK'⟩
            case measure => simp [intOf]; omega
          · have HF := Lib.hid (ascI_no hlt (show ascAt l lo hi (m + 1) = false by unfold ascAt; rw [hr, Nat.add_sub_cancel, decide_eq_false ha]; simp))
            clear h4 hb
            generalize l.getD (m + 1) 0 = y at hc1 hr ha
            generalize l.getD m 0 = z at hc2 ha
            go_wp2_with (first | (go_at_call 60; (refine (implInRis hr _).mono ?_); rintro e w0 ⟨rfl, rfl⟩))
            go_ret
            exact ⟨ret_bool HF.out.symm, Below.refl _ _⟩
    · have : k = l.length := by omega
      subst this
      have HF := Lib.hid (ascI_yes HK.out)
      go_wp2
      go_ret
      exact ⟨ret_bool HF.out.symm, Below.refl _ _⟩
def validSpentI (e : Int) (l : List Int) : Bool := inR e 0 1000000000000 && decide (l.length ≤ 40) && ascI l 0 100000
theorem implIsValidSpentList (x : Int) (v : Value) (l : List Int) (w : World) (hs : Sl .i64 w v l) : Calls Try.prog 21 #[.agg #[.int .i64 x, v]] w fun e w' => e = .returned (.bool (validSpentI x l)) ∧ Below w.heap.size w w' := by
  obtain ⟨a, c, rfl, hm⟩ := hs.shape
  have HS := Lib.hid (hs.alloc (.cells #[.int .i64 x, .slice a l.length c] 27))
  clear hs
  cases h1 : inR x 0 1000000000000 with
  | false =>
    have HF := Lib.hid (show validSpentI x l = false by unfold validSpentI; rw [h1]; rfl)
    go_enter Try.func21, Try.ntmps21
    go_wp2_with (first | (go_at_call 60; (refine (implInRis h1 _).mono ?_); rintro e w0 ⟨rfl, rfl⟩))
    go_ret
    exact ⟨ret_bool HF.out.symm, (by repeat (first | exact Below.refl _ _ | refine bel_al ?_ _ | refine Below.setCell ?_ (by first | (simp; done) | (simp; omega)) _ | refine Below.drew ?_ | refine bel_drewN ?_ _))⟩
  | true =>
    by_cases h2 : l.length ≤ 40
    · have HF := Lib.hid (show validSpentI x l = ascI l 0 100000 by unfold validSpentI; rw [h1, decide_eq_true h2]; rfl)
      go_enter Try.func21, Try.ntmps21
      go_wp2_with (first | (go_at_call 60; (refine (implInRis h1 _).mono ?_); rintro e w0 ⟨rfl, rfl⟩) | (go_at_call 61; (refine (implAsc _ _ _ _ _ HS.out).mono ?_); rintro e w1 ⟨rfl, hb1⟩))
      go_ret
      exact ⟨ret_bool HF.out.symm, (by repeat (first | exact Below.refl _ _ | refine bel_al ?_ _ | refine Below.setCell ?_ (by first | (simp; done) | (simp; omega)) _ | refine Below.drew ?_ | refine bel_drewN ?_ _ | refine bel_seq ?_ (hb1)))⟩
    · have HF := Lib.hid (show validSpentI x l = false by unfold validSpentI; rw [h1, decide_eq_false h2]; rfl)
      go_enter Try.func21, Try.ntmps21
      go_wp2_with (first | (go_at_call 60; (refine (implInRis h1 _).mono ?_); rintro e w0 ⟨rfl, rfl⟩))
      go_ret
      exact ⟨ret_bool HF.out.symm, (by repeat (first | exact Below.refl _ _ | refine bel_al ?_ _ | refine Below.setCell ?_ (by first | (simp; done) | (simp; omega)) _ | refine Below.drew ?_ | refine bel_drewN ?_ _))⟩
/-- the struct's two cells and the list, known in a world -/
theorem box_list {w : World} (x v : Value) {k : IntKind} (l : List Int) (e : TypeId) (hs : Sl k w v l) :
    ((w.alloc (.cells #[x, v] e)).cell? ⟨w.heap.size, 0, none⟩ = some x ∧ (w.alloc (.cells #[x, v] e)).cell? ⟨w.heap.size, 1, none⟩ = some v ∧ Below w.heap.size w (w.alloc (.cells #[x, v] e))) ∧ Sl k (w.alloc (.cells #[x, v] e)) v l :=
  ⟨⟨(box2 w x v e).1, (box2 w x v e).2.1, (box2 w x v e).2.2.2⟩, hs.alloc _⟩
theorem specIsSpent (x : Int) (v : Value) (l : List Int) (s : Int) (w : World) (hs : Sl .i64 w v l) : Calls Try.prog 16 #[.agg #[.int .i64 x, v], .int .i64 s] w fun e w' => e = .returned (.bool (memB l s)) ∧ Below w.heap.size w w' := by
  obtain ⟨a, c, rfl, hm⟩ := hs.shape
  obtain ⟨HB, hs1⟩ := box_list (.int .i64 x) (.slice a l.length c) l 27 hs
  go_enter Try.func16, Try.ntmps16
  go_wp2
  generalize w.alloc (.cells #[.int .i64 x, .slice a l.length c] 27) = W0 at HB hs1 ⊢
  obtain ⟨g1, g2, g3⟩ := HB
  have G3 := Lib.hid g3
  have HS := Lib.hid hs1
  clear g1 g3 hs1 hs
  go_loop [5] (fun i => ∃ k : Nat, k ≤ l.length ∧ i = .int .i64 k ∧ Hid (∀ j, j < k → ¬ l.getD j 0 = s)) (fun i => l.length - (intOf i).toNat)
  case atStart => exact ⟨0, Nat.zero_le _, rfl, Lib.hid (fun j hj => by omega)⟩
  case round =>
    obtain ⟨k, hk, rfl, HK⟩ := hrel
    by_cases hlt : k < l.length
    · obtain ⟨b, off, rfl, hb, h4⟩ := HS.out.at hlt
      have hc1 := h4 k hlt
      clear h4 hb
      by_cases he : l.getD k 0 = s
      · have HF := Lib.hid (memB_yes hlt he)
        rw [he] at hc1
        have e1 : (s == s) = true := by simp
        clear he
        go_wp2
        go_ret
        exact ⟨ret_bool HF.out.symm, G3.out⟩
      · have HK' : Hid (∀ j, j < k + 1 → ¬ l.getD j 0 = s) := Lib.hid (fun j hj => by
          rcases Nat.lt_succ_iff_lt_or_eq.1 hj with h | h
          · exact HK.out j h
          · rw [h]; exact he)
        have e1 : (l.getD k 0 == s) = false := by simp only [beq_eq_false_iff_ne]; exact he
        generalize l.getD k 0 = y at hc1 e1
        clear he
        go_wp2
        go_round
        case rel => exact ⟨k + 1, by omega, by go_num, HK'⟩
        case measure => simp [intOf]; omega
    · have : k = l.length := by omega
      subst this
      have HF := Lib.hid (memB_no HK.out)
      go_wp2
      go_ret
      exact ⟨ret_bool HF.out.symm, G3.out⟩
theorem implIsSpent (x : Int) (v : Value) (l : List Int) (s : Int) (w : World) (hs : Sl .i64 w v l) : Calls Try.prog 18 #[.agg #[.int .i64 x, v], .int .i64 s] w fun e w' => e = .returned (.bool (memB l s)) ∧ Below w.heap.size w w' := by
  obtain ⟨a, c, rfl, hm⟩ := hs.shape
  have HS := Lib.hid (hs.alloc (.cells #[.int .i64 x, .slice a l.length c] 27))
  clear hs
  go_enter Try.func18, Try.ntmps18
  go_wp2_with (first | (go_at_call 58; (refine (slContains _ _ _ _ HS.out).mono ?_); rintro e w0 ⟨rfl, rfl⟩))
  go_ret
  exact ⟨rfl, (by repeat (first | exact Below.refl _ _ | refine bel_al ?_ _ | refine Below.setCell ?_ (by first | (simp; done) | (simp; omega)) _ | refine Below.drew ?_ | refine bel_drewN ?_ _))⟩
theorem specIsValidSpentList (x : Int) (v : Value) (l : List Int) (w : World) (hs : Sl .i64 w v l) : Calls Try.prog 20 #[.agg #[.int .i64 x, v]] w fun e w' => e = .returned (.bool (validSpentI x l)) ∧ Below w.heap.size w w' := by
  obtain ⟨a, c, rfl, hm⟩ := hs.shape
  obtain ⟨HB, hs1⟩ := box_list (.int .i64 x) (.slice a l.length c) l 27 hs
  go_enter Try.func20, Try.ntmps20
  go_wp2
  generalize w.alloc (.cells #[.int .i64 x, .slice a l.length c] 27) = W0 at HB hs1 ⊢
  obtain ⟨g1, g2, g3⟩ := HB
  have G1 := Lib.hid g1
  have G2 := Lib.hid g2
  have G3 := Lib.hid g3
  have HS := Lib.hid hs1
  clear g1 g2 g3 hs1 hs
  go_loopw [3] (fun i wr => ∃ k : Nat, k ≤ l.length ∧ i = .int .i64 k ∧ (∃ n, wr = W0.drewN n) ∧ Hid (∀ j, j < k → ascAt l 0 100000 j = true)) (fun i _ => l.length - (intOf i).toNat)
  case atStart => exact ⟨0, Nat.zero_le _, rfl, ⟨0, rfl⟩, Lib.hid (fun j hj => by omega)⟩
  case round =>
    obtain ⟨k, hk, rfl, ⟨n, rfl⟩, HK⟩ := hrel
    have g2 : (W0.drewN n).cell? ⟨w.heap.size, 1, none⟩ = some (.slice a l.length c) := G2.out
    have g1 : (W0.drewN n).cell? ⟨w.heap.size, 0, none⟩ = some (.int .i64 x) := G1.out
    by_cases hlt : k < l.length
    · obtain ⟨b, off, rfl, hb, h4⟩ := HS.out.at hlt
      have hc1 : (W0.drewN n).cell? ⟨b, off + k, none⟩ = some (.int .i64 (l.getD k 0)) := h4 k hlt
      cases hr : inR (l.getD k 0) 0 100000 with
      | false =>
        have HF := Lib.hid (ascI_no hlt (show ascAt l 0 100000 k = false by unfold ascAt; rw [hr]; rfl))
        have HF2 := Lib.hid (show validSpentI x l = false by unfold validSpentI; rw [HF.out]; simp)
        clear h4 hb
        generalize l.getD k 0 = y at hc1 hr
        generalize hww : W0.drewN n = wn at hc1 g1 g2 ⊢
        have HW := Lib.hid hww
        clear hww
        go_wp2_with fail
        go_quiet (first | (go_at_call 59; exact quiet_same (specInRis hr _)))
        go_wp2
        go_ret
        exact ⟨ret_bool HF2.out.symm, by rw [← HW.out]; exact bel_drewN (bel_drewN G3.out _) _⟩
      | true =>
        cases k with
        | zero =>
          have HK' : Hid (∀ j, j < 0 + 1 → ascAt l 0 100000 j = true) := Lib.hid (fun j hj => by
            obtain rfl : j = 0 := by omega
            unfold ascAt; rw [hr]; rfl)
          clear h4 hb
          simp only [Nat.add_zero] at hc1
          generalize l.getD 0 0 = y at hc1 hr
          generalize hww : W0.drewN n = wn at hc1 g1 g2 ⊢
          have HW := Lib.hid hww
          clear hww
          go_wp2_with fail
          go_quiet (first | (go_at_call 59; exact quiet_same (specInRis hr _)))
          go_wp2
          go_roundw
          case rel => exact ⟨0 + 1, by omega, by go_num, ⟨_, by rw [← HW.out, World.drewN_drewN]⟩, HK'⟩
          case measure => simp [intOf]; omega
        | succ m =>
          have hc2 : (W0.drewN n).cell? ⟨b, off + m, none⟩ = some (.int .i64 (l.getD m 0)) := h4 m (by omega)
          by_cases ha : l.getD m 0 < l.getD (m + 1) 0
          · have HK' : Hid (∀ j, j < m + 1 + 1 → ascAt l 0 100000 j = true) := Lib.hid (fun j hj => by
              rcases Nat.lt_succ_iff_lt_or_eq.1 hj with h | h
              · exact HK.out j h
              · subst h
                unfold ascAt
                rw [hr, Nat.add_sub_cancel, decide_eq_true ha]; simp)
            clear h4 hb
            generalize l.getD (m + 1) 0 = y at hc1 hr ha
            generalize l.getD m 0 = z at hc2 ha
            generalize hww : W0.drewN n = wn at hc1 hc2 g1 g2 ⊢
            have HW := Lib.hid hww
            clear hww
            go_wp2_with fail
            go_quiet (first | (go_at_call 59; exact quiet_same (specInRis hr _)))
            go_wp2
            go_roundw
            case rel => exact ⟨m + 1 + 1, by omega, by go_num, ⟨_, by rw [← HW.out, World.drewN_drewN]⟩, HK'⟩
            case measure => simp [intOf]; omega
          · have HF := Lib.hid (ascI_no hlt (show ascAt l 0 100000 (m + 1) = false by unfold ascAt; rw [hr, Nat.add_sub_cancel, decide_eq_false ha]; simp))
            have HF2 := Lib.hid (show validSpentI x l = false by unfold validSpentI; rw [HF.out]; simp)
            clear h4 hb
            generalize l.getD (m + 1) 0 = y at hc1 hr ha
            generalize l.getD m 0 = z at hc2 ha
            generalize hww : W0.drewN n = wn at hc1 hc2 g1 g2 ⊢
            have HW := Lib.hid hww
            clear hww
            go_wp2_with fail
            go_quiet (first | (go_at_call 59; exact quiet_same (specInRis hr _)))
            go_wp2
            go_ret
            exact ⟨ret_bool HF2.out.symm, by rw [← HW.out]; exact bel_drewN (bel_drewN G3.out _) _⟩
    · have : k = l.length := by omega
      subst this
      have HF := Lib.hid (ascI_yes HK.out)
      have hF : validSpentI x l = (inR x 0 1000000000000 && decide (l.length ≤ 40)) := by unfold validSpentI; rw [HF.out]; simp
      cases h1 : inR x 0 1000000000000 with
      | false =>
        rw [h1] at hF
        have HF2 := Lib.hid hF
        clear hF
        go_wp2_with (first | (go_at_call 59; (refine (specInRis h1 _).mono ?_); rintro e w0 ⟨rfl, rfl⟩))
        go_ret
        exact ⟨ret_bool HF2.out.symm, bel_drewN G3.out _⟩
      | true =>
        rw [h1] at hF
        have HF2 := Lib.hid hF
        clear hF
        go_wp2_with (first | (go_at_call 59; (refine (specInRis h1 _).mono ?_); rintro e w0 ⟨rfl, rfl⟩))
        go_ret
        exact ⟨ret_bool (by rw [HF2.out, Bool.true_and, decide_eq_decide]; omega), bel_drewN G3.out _⟩
theorem specEqualSpentLists (x y : Int) (v u : Value) (l m : List Int) (w : World) (hs : Sl .i64 w v l) (hu : Sl .i64 w u m) : Calls Try.prog 22 #[.agg #[.int .i64 x, v], .agg #[.int .i64 y, u]] w fun e w' => e = .returned (.bool (x == y && l == m)) ∧ Below w.heap.size w w' := by
  obtain ⟨a, c, rfl, hm⟩ := hs.shape
  obtain ⟨a', c', rfl, hm'⟩ := hu.shape
  have HS := Lib.hid ((hs.alloc (.cells #[.int .i64 x, .slice a l.length c] 27)).alloc (.cells #[.int .i64 y, .slice a' m.length c'] 27))
  have HU := Lib.hid ((hu.alloc (.cells #[.int .i64 x, .slice a l.length c] 27)).alloc (.cells #[.int .i64 y, .slice a' m.length c'] 27))
  clear hs hu
  cases h : (x == y) with
  | false =>
    go_enter Try.func22, Try.ntmps22
    go_wp2_with fail
    go_ret
    exact ⟨rfl, (by repeat (first | exact Below.refl _ _ | refine bel_al ?_ _ | refine Below.setCell ?_ (by first | (simp; done) | (simp; omega)) _ | refine Below.drew ?_ | refine bel_drewN ?_ _))⟩
  | true =>
    have CE := specEqualInts _ _ _ _ _ HS.out HU.out
    obtain ⟨r, hr⟩ : ∃ r, r = (l == m) := ⟨_, rfl⟩
    rw [← hr] at CE
    have HR := Lib.hid hr
    have CE' := Lib.hid CE
    clear hr CE
    go_enter Try.func22, Try.ntmps22
    go_wp2_with fail
    refine CE'.out.mono ?_
    rintro e w1 ⟨rfl, hb1⟩
    go_wp2
    go_ret
    exact ⟨ret_bool (by rw [HR.out]; simp), (by repeat (first | exact Below.refl _ _ | refine bel_al ?_ _ | refine Below.setCell ?_ (by first | (simp; done) | (simp; omega)) _ | refine Below.drew ?_ | refine bel_drewN ?_ _ | refine bel_seq ?_ (hb1)))⟩
theorem implEqualSpentLists (x y : Int) (v u : Value) (l m : List Int) (w : World) (hs : Sl .i64 w v l) (hu : Sl .i64 w u m) : Calls Try.prog 23 #[.agg #[.int .i64 x, v], .agg #[.int .i64 y, u]] w fun e w' => e = .returned (.bool (x == y && l == m)) ∧ Below w.heap.size w w' := by
  obtain ⟨a, c, rfl, hm⟩ := hs.shape
  obtain ⟨a', c', rfl, hm'⟩ := hu.shape
  have HS := Lib.hid ((hs.alloc (.cells #[.int .i64 x, .slice a l.length c] 27)).alloc (.cells #[.int .i64 y, .slice a' m.length c'] 27))
  have HU := Lib.hid ((hu.alloc (.cells #[.int .i64 x, .slice a l.length c] 27)).alloc (.cells #[.int .i64 y, .slice a' m.length c'] 27))
  clear hs hu
  cases h : (x == y) with
  | false =>
    go_enter Try.func23, Try.ntmps23
    go_wp2_with fail
    go_ret
    exact ⟨rfl, (by repeat (first | exact Below.refl _ _ | refine bel_al ?_ _ | refine Below.setCell ?_ (by first | (simp; done) | (simp; omega)) _ | refine Below.drew ?_ | refine bel_drewN ?_ _))⟩
  | true =>
    have CE := slEqual _ _ _ _ _ HS.out HU.out
    obtain ⟨r, hr⟩ : ∃ r, r = (l == m) := ⟨_, rfl⟩
    rw [← hr] at CE
    have HR := Lib.hid hr
    have CE' := Lib.hid CE
    clear hr CE
    go_enter Try.func23, Try.ntmps23
    go_wp2_with fail
    refine CE'.out.mono ?_
    rintro e w1 ⟨rfl, hb1⟩
    go_wp2
    go_ret
    exact ⟨ret_bool (by rw [HR.out]; simp), (by repeat (first | exact Below.refl _ _ | refine bel_al ?_ _ | refine Below.setCell ?_ (by first | (simp; done) | (simp; omega)) _ | refine Below.drew ?_ | refine bel_drewN ?_ _ | refine bel_seq ?_ (hb1)))⟩
end Go.Proofs.Ytdodheahckpkfaa
