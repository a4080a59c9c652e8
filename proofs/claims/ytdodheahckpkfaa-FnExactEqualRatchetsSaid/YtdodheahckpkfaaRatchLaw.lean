/- The walks of EqualRatchets, NewRatchet and of the laws' helpers on ratchets. -/
import Derived.Test.YtdodheahckpkfaaProg
import Derived.Test.YtdodheahckpkfaaRatch
namespace Go.Proofs.Ytdodheahckpkfaa
open Go.RowKit

theorem toRatchet (x s : Int) (v : Value) (n : Nat) (l : List Int) (w : World) (hs : Sk w v n l) (hl : n ≤ 1048576) :
    Calls Try.prog 53 #[.agg #[.int .i64 x, .int .i64 s, v]] w fun e w' => ∃ g, e = .returned (.agg #[.int .i64 x, .int .i64 s, .slice (some ⟨g, 0, none⟩) n n]) ∧ w.heap.size ≤ g ∧ g < w'.heap.size ∧ OwnK w.heap.size w' (some ⟨g, 0, none⟩) n n l ∧ Below w.heap.size w w' := by
  obtain ⟨a, c, rfl, hm⟩ := hs.shape
  go_enter Try.func53, Try.ntmps53
  go_wp2_with fail
  refine (toSkippedKeyS _ n l _ (((hs.alloc _).alloc _).alloc _) hl).mono ?_
  rintro e w1 ⟨g, rfl, hg1, hg2, hown, hb1⟩
  obtain ⟨hc, hf⟩ := bcell hb1
  have hz1 : w.heap.size + 1 < w1.heap.size := by have := hb1.size; simp at this; omega
  have hz2 : w.heap.size + 1 + 1 < w1.heap.size := by have := hb1.size; simp at this; omega
  simp only [World.size_alloc] at hg1 hown
  have B1 := Lib.hid hb1
  have O1 := Lib.hid hown
  clear hb1 hown hs
  go_wp2
  refine bodyPost_ret (v := .agg #[.int .i64 x, .int .i64 s, .slice (some ⟨g, 0, none⟩) n n]) (by simp [results, Try.results53, go_sem, *]) rfl ⟨g, rfl, by omega, ?_, ?_, (by repeat (with_reducible (first | exact Below.refl _ _ | refine bel_al ?_ _ | refine Below.setCell ?_ (by first | (simp; done) | (simp; omega)) _ | refine Below.drew ?_ | refine bel_drewN ?_ _ | refine bel_seq ?_ (B1.out))))⟩
  · simp [World.setCell]; omega
  · refine OwnK.mono (base := w.heap.size + 1 + 1 + 1) ?_ (by omega)
    refine ownK_cells ?_ (by omega) _
    refine ownK_cells ?_ (by omega) _
    refine ownK_cells ?_ (by omega) _
    refine ownK_cells ?_ (by omega) _
    exact O1.out
theorem szRatchet (x s : Int) (v : Value) (n : Nat) (l : List Int) (left : Int) (w : World) (hs : Sk w v n l) (h0 : 0 ≤ left) (h1 : left ≤ 1048576) :
    Calls Try.prog 51 #[.agg #[.int .i64 x, .int .i64 s, v], .int .i64 left] w fun e w' => e = .returned (.int .i64 (if left < n then -1 else left - n)) ∧ Below w.heap.size w w' := by
  obtain ⟨a, c, rfl, hm⟩ := hs.shape
  have CS := szSkippedKeyS _ n l left _ (hs.alloc (.cells #[.int .i64 x, .int .i64 s, .slice a n c] 72)) h0 h1
  clear hs
  by_cases hlt : left < (n : Int)
  · rw [if_pos hlt] at CS ⊢
    have CS' := Lib.hid CS
    clear CS
    go_enter Try.func51, Try.ntmps51
    go_wp2_with fail
    refine CS'.out.mono ?_
    rintro e w' ⟨rfl, rfl⟩
    go_wp2
    go_ret
    exact ⟨rfl, (by repeat (first | exact Below.refl _ _ | refine bel_al ?_ _ | refine Below.setCell ?_ (by first | (simp; done) | (simp; omega)) _ | refine Below.drew ?_ | refine bel_drewN ?_ _))⟩
  · rw [if_neg hlt] at CS ⊢
    have CS' := Lib.hid CS
    clear CS
    go_enter Try.func51, Try.ntmps51
    go_wp2_with fail
    refine CS'.out.mono ?_
    rintro e w' ⟨rfl, rfl⟩
    go_wp2
    go_ret
    exact ⟨rfl, (by repeat (first | exact Below.refl _ _ | refine bel_al ?_ _ | refine Below.setCell ?_ (by first | (simp; done) | (simp; omega)) _ | refine Below.drew ?_ | refine bel_drewN ?_ _))⟩
theorem eqRatchet_yes (x s : Int) (v u : Value) (n : Nat) (l : List Int) (w : World) (hs : Sk w v n l) (hu : Sk w u n l) :
    Calls Try.prog 48 #[.agg #[.int .i64 x, .int .i64 s, v], .agg #[.int .i64 x, .int .i64 s, u]] w fun e w' => e = .returned (.bool true) ∧ Below w.heap.size w w' := by
  obtain ⟨a, c, rfl, hm⟩ := hs.shape
  obtain ⟨a', c', rfl, hm'⟩ := hu.shape
  have CE := Lib.hid (eqSkippedKeyS_yes _ _ n l _ ((hs.alloc (.cells #[.int .i64 x, .int .i64 s, .slice a n c] 65)).alloc (.cells #[.int .i64 x, .int .i64 s, .slice a' n c'] 65)) ((hu.alloc (.cells #[.int .i64 x, .int .i64 s, .slice a n c] 65)).alloc (.cells #[.int .i64 x, .int .i64 s, .slice a' n c'] 65)))
  clear hs hu
  have hne : (x != x) = false := by simp
  have hne2 : (s != s) = false := by simp
  go_enter Try.func48, Try.ntmps48
  go_wp2_with fail
  refine CE.out.mono ?_
  rintro e w1 ⟨rfl, hb1⟩
  go_wp2
  go_ret
  exact ⟨rfl, (by repeat (first | exact Below.refl _ _ | refine bel_al ?_ _ | refine Below.setCell ?_ (by first | (simp; done) | (simp; omega)) _ | refine Below.drew ?_ | refine bel_drewN ?_ _ | refine bel_seq ?_ (hb1)))⟩
theorem markRatchet (x s : Int) (ao : Option Addr) (N cap : Nat) (base : Nat) (l : List Int) (j : Int) (w : World) (ho : OwnK base w ao N cap l) (hN : N ≤ 1048576) (h0 : 0 ≤ j) (h1 : j ≤ 16777216) :
    Calls Try.prog 49 #[.agg #[.int .i64 x, .int .i64 s, .slice ao N cap], .int .i64 j] w fun e w' => e = .returned (.int .i64 (j + 2 * N)) ∧ OwnK base w' ao N cap (marks cvIntS j (2 * N)) ∧ w.grownBy w' (ownB ao) := by
  have CM := Lib.hid (markSkippedKeyS ao N cap base l j _ (ho.alloc (.cells #[.int .i64 x, .int .i64 s, .slice ao N cap] 65)) hN h0 h1)
  clear ho
  go_enter Try.func49, Try.ntmps49
  go_wp2_with fail
  refine CM.out.mono ?_
  rintro e w1 ⟨rfl, ho1, hg1⟩
  have O1 := Lib.hid ho1
  have G1 := Lib.hid hg1
  clear ho1 hg1
  go_wp2
  go_ret
  exact ⟨rfl, O1.out, grown_trans (World.grownBy_alloc _ _ _) G1.out⟩
theorem heldRatchet (x s : Int) (v : Value) (N : Nat) (j : Int) (w : World) (hs : Sk w v N (marks cvIntS j (2 * N))) (hN : N ≤ 1048576) (h0 : 0 ≤ j) (h1 : j ≤ 16777216) :
    Calls Try.prog 50 #[.agg #[.int .i64 x, .int .i64 s, v], .int .i64 j] w fun e w' => e = .returned (.int .i64 (j + 2 * N)) ∧ Below w.heap.size w w' := by
  obtain ⟨a, c, rfl, hm⟩ := hs.shape
  have CH := Lib.hid (heldSkippedKeyS _ N j _ (hs.alloc (.cells #[.int .i64 x, .int .i64 s, .slice a N c] 65)) hN h0 h1)
  clear hs hm
  go_enter Try.func50, Try.ntmps50
  go_wp2_with fail
  refine CH.out.mono ?_
  rintro e w1 ⟨rfl, rfl⟩
  go_wp2
  go_ret
  exact ⟨rfl, (by repeat (first | exact Below.refl _ _ | refine bel_al ?_ _ | refine Below.setCell ?_ (by first | (simp; done) | (simp; omega)) _ | refine Below.drew ?_ | refine bel_drewN ?_ _))⟩
theorem implEqualRatchets (x s y t : Int) (v u : Value) (n m : Nat) (l k : List Int) (w : World) (hs : Sk w v n l) (hu : Sk w u m k) : Calls Try.prog 56 #[.agg #[.int .i64 x, .int .i64 s, v], .agg #[.int .i64 y, .int .i64 t, u]] w fun e w' => e = .returned (.bool (x == y && s == t && l == k)) ∧ Below w.heap.size w w' := by
  obtain ⟨a, c, rfl, hm⟩ := hs.shape
  obtain ⟨a', c', rfl, hm'⟩ := hu.shape
  have CE := Lib.hid (skEqual _ _ _ _ _ _ _ ((hs.alloc (.cells #[.int .i64 x, .int .i64 s, .slice a n c] 65)).alloc (.cells #[.int .i64 y, .int .i64 t, .slice a' m c'] 65)) ((hu.alloc (.cells #[.int .i64 x, .int .i64 s, .slice a n c] 65)).alloc (.cells #[.int .i64 y, .int .i64 t, .slice a' m c'] 65)))
  clear hs hu
  cases h1 : (x == y) <;> cases h2 : (s == t)
  all_goals
    go_enter Try.func56, Try.ntmps56
    go_wp2_with (first | (go_at_call 88; (refine CE.out.mono ?_); rintro e w1 ⟨rfl, hb1⟩))
    go_ret
    refine ⟨ret_bool (by simp), ?_⟩
    repeat (first | exact Below.refl _ _ | refine bel_al ?_ _ | refine bel_seq ?_ hb1)
theorem specEqualRatchets (x s y t : Int) (v u : Value) (n m : Nat) (l k0 : List Int) (w : World) (hs : Sk w v n l) (hu : Sk w u m k0) : Calls Try.prog 55 #[.agg #[.int .i64 x, .int .i64 s, v], .agg #[.int .i64 y, .int .i64 t, u]] w fun e w' => e = .returned (.bool (x == y && s == t && l == k0)) ∧ Below w.heap.size w w' := by
  obtain ⟨a, c, rfl, hm⟩ := hs.shape
  obtain ⟨a', c', rfl, hm'⟩ := hu.shape
  cases h1 : (x == y) with
  | false =>
    have h1' : (x != y) = true := by simp [bne, h1]
    go_enter Try.func55, Try.ntmps55
    go_wp2
    go_ret
    exact ⟨ret_bool (by simp), (by repeat (first | exact Below.refl _ _ | refine bel_al ?_ _ | refine Below.setCell ?_ (by first | (simp; done) | (simp; omega)) _ | refine Below.drew ?_ | refine bel_drewN ?_ _))⟩
  | true =>
  have h1' : (x != y) = false := by simp [bne, h1]
  cases h2 : (s == t) with
  | false =>
    have h2' : (s != t) = true := by simp [bne, h2]
    go_enter Try.func55, Try.ntmps55
    go_wp2
    go_ret
    exact ⟨ret_bool (by simp), (by repeat (first | exact Below.refl _ _ | refine bel_al ?_ _ | refine Below.setCell ?_ (by first | (simp; done) | (simp; omega)) _ | refine Below.drew ?_ | refine bel_drewN ?_ _))⟩
  | true =>
  have h2' : (s != t) = false := by simp [bne, h2]
  by_cases hl : n = m
  · subst hl
    have hne : ((n : Int) != (n : Int)) = false := by simp
    have B0 := box3 w (.int .i64 x) (.int .i64 s) (.slice a n c) 65
    have B1 := box3 (w.alloc (.cells #[.int .i64 x, .int .i64 s, .slice a n c] 65)) (.int .i64 y) (.int .i64 t) (.slice a' n c') 65
    have HS := Lib.hid ((hs.alloc (.cells #[.int .i64 x, .int .i64 s, .slice a n c] 65)).alloc (.cells #[.int .i64 y, .int .i64 t, .slice a' n c'] 65))
    have HU := Lib.hid ((hu.alloc (.cells #[.int .i64 x, .int .i64 s, .slice a n c] 65)).alloc (.cells #[.int .i64 y, .int .i64 t, .slice a' n c'] 65))
    have hgt := skGuard
    clear hs hu
    have g2 := later0 B1.2.2.2 B0.2.2.1
    have k2 := B1.2.2.1
    have gb := bel_seq B0.2.2.2 B1.2.2.2
    simp only [World.size_alloc] at k2
    clear B0 B1
    go_enter Try.func55, Try.ntmps55
    go_wp2
    generalize (w.alloc (.cells #[.int .i64 x, .int .i64 s, .slice a n c] 65)).alloc (.cells #[.int .i64 y, .int .i64 t, .slice a' n c'] 65) = W0 at HS HU g2 k2 gb ⊢
    have G2 := Lib.hid g2
    have K2 := Lib.hid k2
    have GB := Lib.hid gb
    clear g2 k2 gb
    go_loopw [5] (fun i wr => ∃ k : Nat, k ≤ n ∧ i = .int .i64 k ∧ (∃ n, wr = W0.drewN n) ∧ Hid (∀ j, j < 2 * k → l.getD j 0 = k0.getD j 0)) (fun i _ => n - (intOf i).toNat)
    case atStart => exact ⟨0, Nat.zero_le _, rfl, ⟨0, rfl⟩, Lib.hid (fun j hj => by omega)⟩
    case round =>
      obtain ⟨k, hk, rfl, ⟨nd, rfl⟩, HK⟩ := hrel
      have g2 : (W0.drewN nd).cell? ⟨w.heap.size, 2, none⟩ = some (.slice a n c) := G2.out
      have k2 : (W0.drewN nd).cell? ⟨w.heap.size + 1, 2, none⟩ = some (.slice a' n c') := K2.out
      by_cases hlt : k < n
      · obtain ⟨b, off, rfl, hb, h4⟩ := HS.out.at hlt
        obtain ⟨b', off', rfl, hb', h4'⟩ := HU.out.at hlt
        have hc1 : (W0.drewN nd).cell? ⟨b, off + k * 2, none⟩ = _ := (h4 k hlt).1
        have hc2 : (W0.drewN nd).cell? ⟨b, off + k * 2 + 1, none⟩ = _ := (h4 k hlt).2
        have hc3 : (W0.drewN nd).cell? ⟨b', off' + k * 2, none⟩ = _ := (h4' k hlt).1
        have hc4 : (W0.drewN nd).cell? ⟨b', off' + k * 2 + 1, none⟩ = _ := (h4' k hlt).2
        clear h4 h4' hb hb'
        generalize hww : W0.drewN nd = wn at hc1 hc2 hc3 hc4 g2 k2 ⊢
        have HW := Lib.hid hww
        clear hww
        by_cases he : (l.getD (2 * k) 0 == k0.getD (2 * k) 0 && l.getD (2 * k + 1) 0 == k0.getD (2 * k + 1) 0) = true
        · have HK' : Hid (∀ j, j < 2 * (k + 1) → l.getD j 0 = k0.getD j 0) := Lib.hid (fun j hj => by
            simp only [Bool.and_eq_true, beq_iff_eq] at he
            rcases Nat.lt_or_ge j (2 * k) with h | h
            · exact HK.out j h
            · rcases (show j = 2 * k ∨ j = 2 * k + 1 by omega) with h | h <;> rw [h]
              · exact he.1
              · exact he.2)
          generalize l.getD (2 * k) 0 = p at hc1 he
          generalize l.getD (2 * k + 1) 0 = q at hc2 he
          generalize k0.getD (2 * k) 0 = p' at hc3 he
          generalize k0.getD (2 * k + 1) 0 = q' at hc4 he
          go_wp2_with fail
          go_quiet (fail)
          go_wp2
          go_roundw
          case rel => exact ⟨k + 1, by omega, by go_num, ⟨_, by rw [← HW.out, World.drewN_drewN]⟩, HK'⟩
          case measure => simp [intOf]; omega
        · have HF : Hid ((l == k0) = false) := Lib.hid (by
            simp only [Bool.and_eq_true, beq_iff_eq] at he
            by_cases h : l.getD (2 * k) 0 = k0.getD (2 * k) 0
            · exact beq_list_at (2 * k + 1) (fun h2 => he ⟨h, h2⟩)
            · exact beq_list_at (2 * k) h)
          rw [Bool.not_eq_true] at he
          generalize l.getD (2 * k) 0 = p at hc1 he
          generalize l.getD (2 * k + 1) 0 = q at hc2 he
          generalize k0.getD (2 * k) 0 = p' at hc3 he
          generalize k0.getD (2 * k + 1) 0 = q' at hc4 he
          go_wp2_with fail
          go_quiet (fail)
          go_wp2
          go_ret
          exact ⟨ret_bool (by rw [HF.out]; rfl), by rw [← HW.out]; exact bel_drewN (bel_drewN GB.out _) _⟩
      · have : k = n := by omega
        subst this
        have HF := Lib.hid (beq_pairs HS.out.1 HU.out.1 HK.out)
        go_wp2
        go_ret
        exact ⟨ret_bool (by rw [HF.out]; rfl), bel_drewN GB.out _⟩
  · have HF := Lib.hid (beq_list_len (l := l) (m := k0) (by have := hs.1; have := hu.1; omega))
    have hne : ((n : Int) != (m : Int)) = true := by rw [bne_iff_ne]; omega
    clear hl hs hu
    go_enter Try.func55, Try.ntmps55
    go_wp2
    go_ret
    exact ⟨ret_bool (by rw [HF.out]; rfl), (by repeat (first | exact Below.refl _ _ | refine bel_al ?_ _ | refine Below.setCell ?_ (by first | (simp; done) | (simp; omega)) _ | refine Below.drew ?_ | refine bel_drewN ?_ _))⟩
end Go.Proofs.Ytdodheahckpkfaa
