/- The walks of ExplainRequest. -/
import Derived.Test.YtlabdakpcpiihaaBlind
namespace Go.Proofs.Ytlabdakpcpiihaa
open Go.RowKit

theorem hg_ge (l v : Int) : isGE (hashToGroupI l v) = true := pg_ge isGE_four _
theorem hg_ne_one (l v : Int) : ¬ hashToGroupI l v = 1 := by
  unfold hashToGroupI
  have := childI_bd (keyedI l [89, v]) 0
  exact pg_ne_one isGE_four (by omega) (by omega)
def explainI (e n : Int) : Int × Bool := if inR n 0 100000 && !(e == 1) && decide (1 ≤ dlogI (hashToGroupI 101 n) e) then (dlogI (hashToGroupI 101 n) e, true) else (0, false)
theorem explainI_no {e n : Int} (h : inR n 0 100000 = false ∨ (e == 1) = true ∨ dlogI (hashToGroupI 101 n) e < 1) : explainI e n = (0, false) := by
  unfold explainI; rw [if_neg]
  rcases h with h | h | h
  · simp [h]
  · simp [h]
  · rw [decide_eq_false (by omega)]; simp
theorem explainI_yes {e n : Int} (h1 : inR n 0 100000 = true) (h2 : (e == 1) = false) (h3 : 1 ≤ dlogI (hashToGroupI 101 n) e) : explainI e n = (dlogI (hashToGroupI 101 n) e, true) := by
  unfold explainI; rw [if_pos (by simp [h1, h2, h3])]
theorem explain_found {e n k : Int} (h1 : inR n 0 100000 = true) (k1 : 1 ≤ k) (k2 : k < 1019) (h : powGroupI (hashToGroupI 101 n) k = e) : explainI e n = (k, true) := by
  have hne : ¬ e = 1 := by rw [← h]; exact pg_ne_one (hg_ge _ _) (hg_ne_one _ _) (by omega)
  have hd : dlogI (hashToGroupI 101 n) e = k := by rw [← h]; exact dlogI_pg (hg_ge _ _) (hg_ne_one _ _) (by omega) k2
  rw [explainI_yes h1 (by simp [hne]) (by omega), hd]
theorem explain_none {e n : Int} (h : ∀ j : Int, 1 ≤ j → j < 1019 → ¬ powGroupI (hashToGroupI 101 n) j = e) : explainI e n = (0, false) := by
  by_cases he : e = 1
  · exact explainI_no (.inr (.inl (by simp [he])))
  · cases hg : isGE e with
    | false => exact explainI_no (.inr (.inr (by rw [dlogI_not (.inr (.inl hg))]; omega)))
    | true =>
      obtain ⟨m, m0, m1, e2⟩ := pg_gen (hg_ge 101 n) (hg_ne_one 101 n) hg
      rcases Int.lt_or_eq_of_le m0 with hm | hm
      · exact absurd e2 (h m (by omega) m1)
      · rw [← hm, pg_zero (hg_ge _ _) rfl] at e2
        exact absurd e2.symm he
theorem held1 {w W W' : World} {B : Nat} {x : Value} (h : B < W.heap.size ∧ W.cell? ⟨B, 0, none⟩ = some x ∧ Below w.heap.size w W) (hb : Below W.heap.size W W') :
    B < W'.heap.size ∧ W'.cell? ⟨B, 0, none⟩ = some x ∧ Below w.heap.size w W' := by
  obtain ⟨h3, h1, h4⟩ := h
  exact ⟨Nat.lt_of_lt_of_le h3 hb.size, (hb.cell (p := ⟨B, 0, none⟩) h3).trans h1, bel_seq h4 hb⟩
theorem held1d {w W : World} {B : Nat} {x : Value} (h : B < W.heap.size ∧ W.cell? ⟨B, 0, none⟩ = some x ∧ Below w.heap.size w W) :
    B < W.drew.heap.size ∧ W.drew.cell? ⟨B, 0, none⟩ = some x ∧ Below w.heap.size w W.drew := ⟨h.1, h.2.1, h.2.2.drew⟩
theorem bel_of {w W : World} {o : Obj} (h : Below (w.heap.size + 1) (w.alloc o) W) : Below w.heap.size w W := (bel_al (Below.refl _ _) o).trans (h.mono (by omega))
theorem bel_up {w W W' : World} {o : Obj} (h : Below (w.heap.size + 1) (w.alloc o) W) (h2 : Below W.heap.size W W') (o2 : Obj) : Below (w.heap.size + 1) (w.alloc o) (W'.alloc o2) :=
  (h.trans (h2.mono (by have := h.size; simp at this; omega))).alloc (by have := h.size; have := h2.size; simp at *; omega) _
theorem implBlindYes {s b : Int} (h1 : inR s 0 100000 = true) (h2 : (modI b 1019 == 0) = false) (w : World) : Calls Try.prog 11 #[.int .i64 s, .int .i64 b] w fun e w' => e = .returned (.tuple #[.agg #[.int .i64 (powGroupI (hashToGroupI 101 s) b)], .bool true]) ∧ Below w.heap.size w w' := by
  have h := implBlindToken s b w
  simp only [blindI_yes h1 h2] at h
  exact h
theorem implBlindNo {s b : Int} (h1 : inR s 0 100000 = false) (w : World) : Calls Try.prog 11 #[.int .i64 s, .int .i64 b] w fun e w' => e = .returned (.tuple #[.agg #[.int .i64 0], .bool false]) ∧ Below w.heap.size w w' := by
  have h := implBlindToken s b w
  simp only [blindI_no (s := s) (b := b) (.inl h1)] at h
  exact h
theorem implExplainRequest (e n : Int) (w : World) : Calls Try.prog 18 #[.agg #[.int .i64 e], .int .i64 n] w fun e' w' => e' = .returned (.tuple #[.int .i64 (explainI e n).1, .bool (explainI e n).2]) ∧ Below w.heap.size w w' := by
  cases h1 : inR n 0 100000 with
  | false =>
    have HV := Lib.hid (explainI_no (e := e) (n := n) (.inl h1))
    go_enter Try.func18, Try.ntmps18
    go_wp2
    go_loopw [6] (fun i wr => ∃ k : Int, i = .int .i64 k ∧ 1 ≤ k ∧ k ≤ 1019 ∧ Below w.heap.size w wr) (fun i _ => (1019 - intOf i).toNat)
    case atStart => exact ⟨1, rfl, by omega, by omega, bel_al (Below.refl _ _) _⟩
    case round =>
      obtain ⟨k, rfl, k1, k2, hbw⟩ := hrel
      have BW := Lib.hid hbw
      clear hbw
      by_cases hlt : k < 1019
      · go_wp2_with (first | (go_at_call 11; (refine (implBlindNo h1 _).mono ?_); rintro e w1 ⟨rfl, hb1⟩; have B1 := Lib.hid hb1; clear hb1))
        go_roundw
        case rel => exact ⟨k + 1, rfl, by omega, by omega, (by repeat (first | exact Below.refl _ _ | refine bel_al ?_ _ | refine Below.setCell ?_ (by first | (simp; done) | (simp; omega)) _ | refine Below.drew ?_ | refine bel_drewN ?_ _ | refine bel_seq ?_ (B1.out) | refine bel_seq ?_ (BW.out)))⟩
        case measure => simp [intOf]; omega
      · go_wp2
        go_ret2
        exact ⟨ret_two (val_int (congrArg Prod.fst HV.out).symm) (val_bool (congrArg Prod.snd HV.out).symm), BW.out⟩
  | true =>
    go_enter Try.func18, Try.ntmps18
    go_wp2
    go_loopw [6] (fun i wr => ∃ k : Int, i = .int .i64 k ∧ 1 ≤ k ∧ k ≤ 1019 ∧ Below (w.heap.size + 1) (w.alloc (.cells #[.int .i64 e] 23)) wr ∧ Hid (∀ j : Int, 1 ≤ j → j < k → ¬ powGroupI (hashToGroupI 101 n) j = e)) (fun i _ => (1019 - intOf i).toNat)
    case atStart => exact ⟨1, rfl, by omega, by omega, Below.refl _ _, Lib.hid (fun j _ _ => by omega)⟩
    case round =>
      obtain ⟨k, rfl, k1, k2, hbw, HK⟩ := hrel
      have hcell : wr.cell? ⟨w.heap.size, 0, none⟩ = some (.int .i64 e) := (hbw.cell (p := ⟨w.heap.size, 0, none⟩) (by simp)).trans (by simp)
      have hzw : w.heap.size < wr.heap.size := by have := hbw.size; simp at this; omega
      have BW := Lib.hid hbw
      clear hbw
      by_cases hlt : k < 1019
      · have hm : (modI k 1019 == 0) = false := by rw [modI_1019]; simp; omega
        have CB := implBlindYes h1 hm
        obtain ⟨x, hx⟩ : ∃ x, x = powGroupI (hashToGroupI 101 n) k := ⟨_, rfl⟩
        rw [← hx] at CB
        have HX := Lib.hid hx
        have CB := Lib.hid CB
        clear hm hx
        by_cases hxe : x = e
        · have HF := Lib.hid (explain_found h1 k1 hlt (HX.out.symm.trans hxe))
          subst hxe
          go_wp2_with fail
          refine (CB.out _).mono ?_
          rintro e' w1 ⟨rfl, hb1⟩
          obtain ⟨hc, hf⟩ := bcell hb1
          have B1 := Lib.hid hb1
          have hz1 : w.heap.size < w1.heap.size := (by have := hb1.size; omega)
          clear hb1
          go_wp2_with fail
          go_ret2
          exact ⟨ret_two (val_int (congrArg Prod.fst HF.out).symm) (val_bool (congrArg Prod.snd HF.out).symm), (by repeat (first | exact Below.refl _ _ | refine bel_al ?_ _ | refine Below.setCell ?_ (by first | (simp; done) | (simp; omega)) _ | refine Below.drew ?_ | refine bel_drewN ?_ _ | refine bel_seq ?_ (B1.out) | refine bel_seq ?_ (bel_of BW.out)))⟩
        · have HK' : Hid (∀ j : Int, 1 ≤ j → j < k + 1 → ¬ powGroupI (hashToGroupI 101 n) j = e) := Lib.hid (fun j a b => by
            rcases Int.lt_or_eq_of_le (show j ≤ k by omega) with h | h
            · exact HK.out j a h
            · rw [h, ← HX.out]; exact hxe)
          have hbe : (x == e) = false := by simp [hxe]
          clear hxe
          go_wp2_with fail
          refine (CB.out _).mono ?_
          rintro e' w1 ⟨rfl, hb1⟩
          obtain ⟨hc, hf⟩ := bcell hb1
          have B1 := Lib.hid hb1
          have hz1 : w.heap.size < w1.heap.size := (by have := hb1.size; omega)
          clear hb1
          go_wp2_with fail
          go_roundw
          case rel => exact ⟨k + 1, rfl, by omega, by omega, bel_up BW.out B1.out _, HK'⟩
          case measure => simp [intOf]; omega
      · have HF := Lib.hid (explain_none (e := e) (n := n) (fun j a b => HK.out j a (by omega)))
        go_wp2
        go_ret2
        exact ⟨ret_two (val_int (congrArg Prod.fst HF.out).symm) (val_bool (congrArg Prod.snd HF.out).symm), bel_of BW.out⟩
theorem specExplainRequest (e n : Int) (w : World) : Calls Try.prog 17 #[.agg #[.int .i64 e], .int .i64 n] w fun e' w' => e' = .returned (.tuple #[.int .i64 (explainI e n).1, .bool (explainI e n).2]) ∧ Below w.heap.size w w' := by
  cases h1 : inR n 0 100000 with
  | false =>
    have HV := Lib.hid (explainI_no (e := e) (n := n) (by simp [*]))
    go_enter Try.func17, Try.ntmps17
    go_wp2_with (first | (go_at_call 40; (refine (specInR _ _ _ _).mono ?_); rintro e w0 ⟨rfl, rfl⟩))
    go_ret2
    exact ⟨ret_two (val_int (congrArg Prod.fst HV.out).symm) (val_bool (congrArg Prod.snd HV.out).symm), bel_al (Below.refl _ _) _⟩
  | true =>
    cases h2 : (e == 1) with
    | true =>
      have HV := Lib.hid (explainI_no (e := e) (n := n) (by simp [*]))
      go_enter Try.func17, Try.ntmps17
      go_wp2_with (first | (go_at_call 40; (refine (specInR _ _ _ _).mono ?_); rintro e w0 ⟨rfl, rfl⟩))
      go_ret2
      exact ⟨ret_two (val_int (congrArg Prod.fst HV.out).symm) (val_bool (congrArg Prod.snd HV.out).symm), bel_al (Below.refl _ _) _⟩
    | false =>
      obtain ⟨d, hd⟩ : ∃ d, d = dlogI (hashToGroupI 101 n) e := ⟨_, rfl⟩
      have CD := specDiscreteLog (hashToGroupI 101 n) e
      rw [← hd] at CD
      have CD := Lib.hid CD
      have HB : w.heap.size < (w.alloc (.cells #[.int .i64 e] 23)).heap.size ∧ (w.alloc (.cells #[.int .i64 e] 23)).cell? ⟨w.heap.size, 0, none⟩ = some (.int .i64 e) ∧ Below w.heap.size w (w.alloc (.cells #[.int .i64 e] 23)) := ⟨by simp, by simp, bel_al (Below.refl _ _) _⟩
      by_cases hlt : d < 1
      · have HV := Lib.hid (explainI_no (e := e) (n := n) (.inr (.inr (by rw [← hd]; exact hlt))))
        clear hd
        go_enter Try.func17, Try.ntmps17
        go_wp2_with (first | (go_at_call 40; (refine (specInR _ _ _ _).mono ?_); rintro e w0 ⟨rfl, rfl⟩))
        generalize w.alloc (.cells #[.int .i64 e] 23) = W0 at HB ⊢
        obtain ⟨g1, g2, g3⟩ := HB
        go_region_held3 (fun W' => w.heap.size < W'.heap.size ∧ W'.cell? ⟨w.heap.size, 0, none⟩ = some (.int .i64 e) ∧ Below w.heap.size w W') (first | assumption | (refine held1 ?_ hbh; assumption) | exact held1d ⟨g1, g2, g3⟩) (first | (go_at_call 41; (refine (specHashToGroup _ _ _).mono ?_); rintro e w0 ⟨rfl, hbh⟩) | (go_at_call 45; (refine (CD.out _).mono ?_); rintro e' w0 ⟨rfl, rfl⟩))
        all_goals
          rename_i hH
          have hF := hH.2.2
          go_wp2
          go_ret2
          exact ⟨ret_two (val_int (congrArg Prod.fst HV.out).symm) (val_bool (congrArg Prod.snd HV.out).symm), hF⟩
      · have HV := Lib.hid ((explainI_yes (e := e) (n := n) h1 h2 (by rw [← hd]; omega)).trans (by rw [← hd]))
        clear hd
        go_enter Try.func17, Try.ntmps17
        go_wp2_with (first | (go_at_call 40; (refine (specInR _ _ _ _).mono ?_); rintro e w0 ⟨rfl, rfl⟩))
        generalize w.alloc (.cells #[.int .i64 e] 23) = W0 at HB ⊢
        obtain ⟨g1, g2, g3⟩ := HB
        go_region_held3 (fun W' => w.heap.size < W'.heap.size ∧ W'.cell? ⟨w.heap.size, 0, none⟩ = some (.int .i64 e) ∧ Below w.heap.size w W') (first | assumption | (refine held1 ?_ hbh; assumption) | exact held1d ⟨g1, g2, g3⟩) (first | (go_at_call 41; (refine (specHashToGroup _ _ _).mono ?_); rintro e w0 ⟨rfl, hbh⟩) | (go_at_call 45; (refine (CD.out _).mono ?_); rintro e' w0 ⟨rfl, rfl⟩))
        all_goals
          rename_i hH
          have hF := hH.2.2
          go_wp2
          go_ret2
          exact ⟨ret_two (val_int (congrArg Prod.fst HV.out).symm) (val_bool (congrArg Prod.snd HV.out).symm), hF⟩
end Go.Proofs.Ytlabdakpcpiihaa
