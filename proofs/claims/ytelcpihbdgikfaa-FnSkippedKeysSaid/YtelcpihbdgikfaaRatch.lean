/- The walks of IsValidRatchet, EqualRatchets and of the laws' helpers on ratchets. -/
import Derived.Test.YtelcpihbdgikfaaProg
import Derived.Test.YtelcpihbdgikfaaSkip
import Derived.Test.YtelcpihbdgikfaaKeyB
namespace Go.Proofs.Ytelcpihbdgikfaa
open Go.RowKit

/-- one place of the kept keys; hi: the highest step that may be kept -/
def skAt (l : List Int) (hi : Int) (i : Nat) : Bool := keyB (l.getD (2 * i + 1) 0) && inR (l.getD (2 * i) 0) 0 hi && (i == 0 || decide (l.getD (2 * (i - 1)) 0 < l.getD (2 * i) 0))
def keptOk (l : List Int) (n : Nat) (hi : Int) : Bool := (List.range n).all (skAt l hi)
theorem keptOk_no {l : List Int} {n : Nat} {hi : Int} {i : Nat} (h : i < n) (e : skAt l hi i = false) : keptOk l n hi = false := by
  rw [← Bool.not_eq_true]
  unfold keptOk
  rw [List.all_eq_true]
  intro hh
  have := hh i (List.mem_range.2 h)
  rw [e] at this
  cases this
theorem keptOk_yes {l : List Int} {n : Nat} {hi : Int} (h : ∀ i, i < n → skAt l hi i = true) : keptOk l n hi = true := by
  unfold keptOk
  rw [List.all_eq_true]
  intro i hi
  exact h i (List.mem_range.1 hi)
theorem box3 (w : World) (a b c : Value) (e : TypeId) :
    (w.alloc (.cells #[a, b, c] e)).cell? ⟨w.heap.size, 0, none⟩ = some a ∧ (w.alloc (.cells #[a, b, c] e)).cell? ⟨w.heap.size, 1, none⟩ = some b ∧ (w.alloc (.cells #[a, b, c] e)).cell? ⟨w.heap.size, 2, none⟩ = some c ∧ Below w.heap.size w (w.alloc (.cells #[a, b, c] e)) :=
  ⟨by simp, by simp, by simp, bel_al (Below.refl _ _) _⟩
def validRatchetI (x s : Int) (n : Nat) (l : List Int) : Bool := keptOk l n (IntKind.i64.wrap (s - 1)) && keyB x && inR s 0 100000 && decide (n ≤ 8)
theorem specIsValidRatchet (x s : Int) (v : Value) (n : Nat) (l : List Int) (w : World) (hs : Sk w v n l) : Calls Try.prog 67 #[.agg #[.int .i64 x, .int .i64 s, v]] w fun ex w' => ex = .returned (.bool (validRatchetI x s n l)) ∧ Below w.heap.size w w' := by
  obtain ⟨a, c, rfl, hm⟩ := hs.shape
  obtain ⟨top, htop⟩ : ∃ top, IntKind.i64.wrap (s - 1) = top := ⟨_, rfl⟩
  have HB := box3 w (.int .i64 x) (.int .i64 s) (.slice a n c) 28
  have hs1 := hs.alloc (.cells #[.int .i64 x, .int .i64 s, .slice a n c] 28)
  go_enter Try.func67, Try.ntmps67
  go_wp2
  generalize w.alloc (.cells #[.int .i64 x, .int .i64 s, .slice a n c] 28) = W0 at HB hs1 ⊢
  obtain ⟨g0, g1, g2, gb⟩ := HB
  have G0 := Lib.hid g0
  have G1 := Lib.hid g1
  have G2 := Lib.hid g2
  have GB := Lib.hid gb
  have HS := Lib.hid hs1
  clear g0 g1 g2 gb hs1 hs
  go_loopw [3] (fun ix wr => ∃ k : Nat, k ≤ n ∧ ix = .int .i64 k ∧ (∃ n, wr = W0.drewN n) ∧ Hid (∀ j, j < k → skAt l (top) j = true)) (fun ix _ => n - (intOf ix).toNat)
  case atStart => exact ⟨0, Nat.zero_le _, rfl, ⟨0, rfl⟩, Lib.hid (fun j hj => by omega)⟩
  case round =>
    obtain ⟨k, hk, rfl, ⟨nd, rfl⟩, HK⟩ := hrel
    have g2 : (W0.drewN nd).cell? ⟨w.heap.size, 2, none⟩ = some (.slice a n c) := G2.out
    have g1 : (W0.drewN nd).cell? ⟨w.heap.size, 1, none⟩ = some (.int .i64 s) := G1.out
    have g0 : (W0.drewN nd).cell? ⟨w.heap.size, 0, none⟩ = some (.int .i64 x) := G0.out
    by_cases hlt : k < n
    · obtain ⟨b, off, rfl, hb, h4⟩ := HS.out.at hlt
      have hc1 : (W0.drewN nd).cell? ⟨b, off + k * 2, none⟩ = some (.int .i64 (l.getD (2 * k) 0)) := (h4 k hlt).1
      have hc2 : (W0.drewN nd).cell? ⟨b, off + k * 2 + 1, none⟩ = some (.int .i64 (l.getD (2 * k + 1) 0)) := (h4 k hlt).2
      cases k with
      | zero =>
        have HA : Hid (skAt l (top) 0 = (keyB (l.getD 1 0) && inR (l.getD 0 0) 0 (top))) := Lib.hid (by unfold skAt; simp)
        simp only [Nat.zero_mul, Nat.add_zero, Nat.mul_zero, Nat.zero_add] at hc1 hc2
        generalize l.getD 0 0 = y at hc1 HA
        generalize l.getD 1 0 = z at hc2 HA
        generalize hww : W0.drewN nd = wn at hc1 hc2 g0 g1 g2 ⊢
        have HW := Lib.hid hww
        clear hww h4 hb
        cases hy : keyB z with
        | false =>
          have HF2 := Lib.hid (show validRatchetI x s n l = false by unfold validRatchetI; rw [htop, keptOk_no (l := l) (hi := top) hlt (by rw [HA.out, hy]; simp)]; simp)
          go_wp2_with fail
          go_quiet (first | (go_at_call 68; exact quiet_same (specIsKeyis hy _)))
          go_wp2
          go_ret
          exact ⟨ret_bool HF2.out.symm, by rw [← HW.out]; exact bel_drewN (bel_drewN GB.out _) _⟩
        | true =>
          cases hi : inR y 0 (top) with
          | false =>
            have HF2 := Lib.hid (show validRatchetI x s n l = false by unfold validRatchetI; rw [htop, keptOk_no (l := l) (hi := top) hlt (by rw [HA.out, hy, hi]; simp)]; simp)
            go_wp2_with fail
            go_quiet (first | (go_at_call 68; exact quiet_same (specIsKeyis hy _)) | (go_at_call 108; exact quiet_same (specInRis hi _)))
            go_wp2
            go_ret
            exact ⟨ret_bool HF2.out.symm, by rw [← HW.out]; exact bel_drewN (bel_drewN GB.out _) _⟩
          | true =>
            have HK' : Hid (∀ j, j < 0 + 1 → skAt l (top) j = true) := Lib.hid (fun j hj => by
              obtain rfl : j = 0 := by omega
              rw [HA.out, hy, hi]; simp)
            go_wp2_with fail
            go_quiet (first | (go_at_call 68; exact quiet_same (specIsKeyis hy _)) | (go_at_call 108; exact quiet_same (specInRis hi _)))
            go_wp2
            go_roundw
            case rel => exact ⟨0 + 1, by omega, by go_num, ⟨_, by rw [← HW.out, World.drewN_drewN]⟩, HK'⟩
            case measure => simp [intOf]; omega
      | succ m =>
        have hc3 : (W0.drewN nd).cell? ⟨b, off + m * 2, none⟩ = some (.int .i64 (l.getD (2 * m) 0)) := (h4 m (by omega)).1
        have HA : Hid (skAt l (top) (m + 1) = (keyB (l.getD (2 * (m + 1) + 1) 0) && inR (l.getD (2 * (m + 1)) 0) 0 (top) && decide (l.getD (2 * m) 0 < l.getD (2 * (m + 1)) 0))) := Lib.hid (by unfold skAt; simp)
        generalize l.getD (2 * (m + 1)) 0 = y at hc1 HA
        generalize l.getD (2 * (m + 1) + 1) 0 = z at hc2 HA
        generalize l.getD (2 * m) 0 = y0 at hc3 HA
        generalize hww : W0.drewN nd = wn at hc1 hc2 hc3 g0 g1 g2 ⊢
        have HW := Lib.hid hww
        clear hww h4 hb
        cases hy : keyB z with
        | false =>
          have HF2 := Lib.hid (show validRatchetI x s n l = false by unfold validRatchetI; rw [htop, keptOk_no (l := l) (hi := top) hlt (by rw [HA.out, hy]; simp)]; simp)
          go_wp2_with fail
          go_quiet (first | (go_at_call 68; exact quiet_same (specIsKeyis hy _)))
          go_wp2
          go_ret
          exact ⟨ret_bool HF2.out.symm, by rw [← HW.out]; exact bel_drewN (bel_drewN GB.out _) _⟩
        | true =>
          cases hi : inR y 0 (top) with
          | false =>
            have HF2 := Lib.hid (show validRatchetI x s n l = false by unfold validRatchetI; rw [htop, keptOk_no (l := l) (hi := top) hlt (by rw [HA.out, hy, hi]; simp)]; simp)
            go_wp2_with fail
            go_quiet (first | (go_at_call 68; exact quiet_same (specIsKeyis hy _)) | (go_at_call 108; exact quiet_same (specInRis hi _)))
            go_wp2
            go_ret
            exact ⟨ret_bool HF2.out.symm, by rw [← HW.out]; exact bel_drewN (bel_drewN GB.out _) _⟩
          | true =>
            by_cases ha : y0 < y
            · have HK' : Hid (∀ j, j < m + 1 + 1 → skAt l (top) j = true) := Lib.hid (fun j hj => by
                rcases Nat.lt_succ_iff_lt_or_eq.1 hj with h | h
                · exact HK.out j h
                · subst h
                  rw [HA.out, hy, hi, decide_eq_true ha]; simp)
              go_wp2_with fail
              go_quiet (first | (go_at_call 68; exact quiet_same (specIsKeyis hy _)) | (go_at_call 108; exact quiet_same (specInRis hi _)))
              go_wp2
              go_roundw
              case rel => exact ⟨m + 1 + 1, by omega, by go_num, ⟨_, by rw [← HW.out, World.drewN_drewN]⟩, HK'⟩
              case measure => simp [intOf]; omega
            · have HF2 := Lib.hid (show validRatchetI x s n l = false by unfold validRatchetI; rw [htop, keptOk_no (l := l) (hi := top) hlt (by rw [HA.out, hy, hi, decide_eq_false ha]; simp)]; simp)
              go_wp2_with fail
              go_quiet (first | (go_at_call 68; exact quiet_same (specIsKeyis hy _)) | (go_at_call 108; exact quiet_same (specInRis hi _)))
              go_wp2
              go_ret
              exact ⟨ret_bool HF2.out.symm, by rw [← HW.out]; exact bel_drewN (bel_drewN GB.out _) _⟩
    · have : k = n := by omega
      subst this
      have HF0 := keptOk_yes HK.out
      have HF := validRatchetI.eq_1 x s k l
      rw [htop, HF0] at HF
      clear HF0
      cases h1 : keyB x <;> cases h2 : inR s 0 100000
      all_goals
        rw [h1, h2] at HF
        have HF' := Lib.hid HF
        clear HF
        go_wp2_with (first | (go_at_call 108; (refine (specInRis h2 _).mono ?_); rintro e w0 ⟨rfl, rfl⟩) | (go_at_call 68; (refine (specIsKeyis h1 _).mono ?_); rintro e w0 ⟨rfl, rfl⟩))
        go_ret
        exact ⟨ret_bool (by first | (simp [HF'.out]; done) | (simp [HF'.out]; omega)), bel_drewN GB.out _⟩
theorem implIsValidRatchet (x s : Int) (v : Value) (n : Nat) (l : List Int) (w : World) (hs : Sk w v n l) : Calls Try.prog 55 #[.agg #[.int .i64 x, .int .i64 s, v]] w fun ex w' => ex = .returned (.bool (validRatchetI x s n l)) ∧ Below w.heap.size w w' := by
  obtain ⟨a, c, rfl, hm⟩ := hs.shape
  obtain ⟨top, htop⟩ : ∃ top, IntKind.i64.wrap (s - 1) = top := ⟨_, rfl⟩
  have HB := box3 w (.int .i64 x) (.int .i64 s) (.slice a n c) 28
  have hs1 := hs.alloc (.cells #[.int .i64 x, .int .i64 s, .slice a n c] 28)
  go_enter Try.func55, Try.ntmps55
  go_wp2
  generalize w.alloc (.cells #[.int .i64 x, .int .i64 s, .slice a n c] 28) = W0 at HB hs1 ⊢
  obtain ⟨g0, g1, g2, gb⟩ := HB
  have G0 := Lib.hid g0
  have G1 := Lib.hid g1
  have G2 := Lib.hid g2
  have GB := Lib.hid gb
  have HS := Lib.hid hs1
  clear g0 g1 g2 gb hs1 hs
  go_loopw [8] (fun ix wr => ∃ k : Nat, k ≤ n ∧ ix = .int .i64 k ∧ Hid (Below W0.heap.size W0 wr) ∧ Hid (∀ j, j < k → skAt l (top) j = true)) (fun ix _ => n - (intOf ix).toNat)
  case atStart => exact ⟨0, Nat.zero_le _, rfl, Lib.hid (Below.refl _ _), Lib.hid (fun j hj => by omega)⟩
  case round =>
    obtain ⟨k, hk, rfl, BW, HK⟩ := hrel
    have g2 : wr.cell? ⟨w.heap.size, 2, none⟩ = some (.slice a n c) := later0 BW.out G2.out
    have g1 : wr.cell? ⟨w.heap.size, 1, none⟩ = some (.int .i64 s) := later0 BW.out G1.out
    have g0 : wr.cell? ⟨w.heap.size, 0, none⟩ = some (.int .i64 x) := later0 BW.out G0.out
    by_cases hlt : k < n
    · obtain ⟨b, off, rfl, hb, h4⟩ := (HS.out.below BW.out).at hlt
      have hc1 : wr.cell? ⟨b, off + k * 2, none⟩ = some (.int .i64 (l.getD (2 * k) 0)) := (h4 k hlt).1
      have hc2 : wr.cell? ⟨b, off + k * 2 + 1, none⟩ = some (.int .i64 (l.getD (2 * k + 1) 0)) := (h4 k hlt).2
      cases k with
      | zero =>
        have HA : Hid (skAt l (top) 0 = (keyB (l.getD 1 0) && inR (l.getD 0 0) 0 (top))) := Lib.hid (by unfold skAt; simp)
        simp only [Nat.zero_mul, Nat.add_zero, Nat.mul_zero, Nat.zero_add] at hc1 hc2
        generalize l.getD 0 0 = y at hc1 HA
        generalize l.getD 1 0 = z at hc2 HA
        clear h4 hb
        have hz := World.block_lt_of_cell? wr _ g0
        have hz2 := World.block_lt_of_cell? wr _ hc1
        cases hy : keyB z with
        | false =>
          have HF2 := Lib.hid (show validRatchetI x s n l = false by unfold validRatchetI; rw [htop, keptOk_no (l := l) (hi := top) hlt (by rw [HA.out, hy]; simp)]; simp)
          go_wp2_with fail
          go_quiet (first | (go_at_call 63; exact quiet_same (implIsKeyis hy _)))
          go_wp2
          go_ret
          exact ⟨ret_bool HF2.out.symm, bel_drewN (bel_al (bel_seq GB.out BW.out) _) _⟩
        | true =>
          cases hi : inR y 0 (top) with
          | false =>
            have HF2 := Lib.hid (show validRatchetI x s n l = false by unfold validRatchetI; rw [htop, keptOk_no (l := l) (hi := top) hlt (by rw [HA.out, hy, hi]; simp)]; simp)
            go_wp2_with fail
            go_quiet (first | (go_at_call 63; exact quiet_same (implIsKeyis hy _)) | (go_at_call 94; exact quiet_same (implInRis hi _)))
            go_wp2
            go_ret
            exact ⟨ret_bool HF2.out.symm, bel_drewN (bel_al (bel_seq GB.out BW.out) _) _⟩
          | true =>
            have HK' : Hid (∀ j, j < 0 + 1 → skAt l (top) j = true) := Lib.hid (fun j hj => by
              obtain rfl : j = 0 := by omega
              rw [HA.out, hy, hi]; simp)
            go_wp2_with fail
            go_quiet (first | (go_at_call 63; exact quiet_same (implIsKeyis hy _)) | (go_at_call 94; exact quiet_same (implInRis hi _)))
            go_wp2
            go_roundw
            case rel => exact ⟨0 + 1, by omega, by go_num, Lib.hid (bel_drewN (bel_al BW.out _) _), HK'⟩
            case measure => simp [intOf]; omega
      | succ m =>
        have hc3 : wr.cell? ⟨b, off + m * 2, none⟩ = some (.int .i64 (l.getD (2 * m) 0)) := (h4 m (by omega)).1
        have HA : Hid (skAt l (top) (m + 1) = (keyB (l.getD (2 * (m + 1) + 1) 0) && inR (l.getD (2 * (m + 1)) 0) 0 (top) && decide (l.getD (2 * m) 0 < l.getD (2 * (m + 1)) 0))) := Lib.hid (by unfold skAt; simp)
        generalize l.getD (2 * (m + 1)) 0 = y at hc1 HA
        generalize l.getD (2 * (m + 1) + 1) 0 = z at hc2 HA
        generalize l.getD (2 * m) 0 = y0 at hc3 HA
        clear h4 hb
        have hz := World.block_lt_of_cell? wr _ g0
        have hz2 := World.block_lt_of_cell? wr _ hc1
        cases hy : keyB z with
        | false =>
          have HF2 := Lib.hid (show validRatchetI x s n l = false by unfold validRatchetI; rw [htop, keptOk_no (l := l) (hi := top) hlt (by rw [HA.out, hy]; simp)]; simp)
          go_wp2_with fail
          go_quiet (first | (go_at_call 63; exact quiet_same (implIsKeyis hy _)))
          go_wp2
          go_ret
          exact ⟨ret_bool HF2.out.symm, bel_drewN (bel_al (bel_seq GB.out BW.out) _) _⟩
        | true =>
          cases hi : inR y 0 (top) with
          | false =>
            have HF2 := Lib.hid (show validRatchetI x s n l = false by unfold validRatchetI; rw [htop, keptOk_no (l := l) (hi := top) hlt (by rw [HA.out, hy, hi]; simp)]; simp)
            go_wp2_with fail
            go_quiet (first | (go_at_call 63; exact quiet_same (implIsKeyis hy _)) | (go_at_call 94; exact quiet_same (implInRis hi _)))
            go_wp2
            go_ret
            exact ⟨ret_bool HF2.out.symm, bel_drewN (bel_al (bel_seq GB.out BW.out) _) _⟩
          | true =>
            by_cases ha : y0 < y
            · have HK' : Hid (∀ j, j < m + 1 + 1 → skAt l (top) j = true) := Lib.hid (fun j hj => by
                rcases Nat.lt_succ_iff_lt_or_eq.1 hj with h | h
                · exact HK.out j h
                · subst h
                  rw [HA.out, hy, hi, decide_eq_true ha]; simp)
              go_wp2_with fail
              go_quiet (first | (go_at_call 63; exact quiet_same (implIsKeyis hy _)) | (go_at_call 94; exact quiet_same (implInRis hi _)))
              go_wp2
              go_roundw
              case rel => exact ⟨m + 1 + 1, by omega, by go_num, Lib.hid (bel_drewN (bel_al BW.out _) _), HK'⟩
              case measure => simp [intOf]; omega
            · have HF2 := Lib.hid (show validRatchetI x s n l = false by unfold validRatchetI; rw [htop, keptOk_no (l := l) (hi := top) hlt (by rw [HA.out, hy, hi, decide_eq_false ha]; simp)]; simp)
              go_wp2_with fail
              go_quiet (first | (go_at_call 63; exact quiet_same (implIsKeyis hy _)) | (go_at_call 94; exact quiet_same (implInRis hi _)))
              go_wp2
              go_ret
              exact ⟨ret_bool HF2.out.symm, bel_drewN (bel_al (bel_seq GB.out BW.out) _) _⟩
    · have : k = n := by omega
      subst this
      have HF0 := keptOk_yes HK.out
      have HF := validRatchetI.eq_1 x s k l
      rw [htop, HF0] at HF
      clear HF0
      cases h1 : keyB x <;> cases h2 : inR s 0 100000
      all_goals
        rw [h1, h2] at HF
        have HF' := Lib.hid HF
        clear HF
        go_wp2_with (first | (go_at_call 94; (refine (implInRis h2 _).mono ?_); rintro e w0 ⟨rfl, rfl⟩) | (go_at_call 63; (refine (implIsKeyis h1 _).mono ?_); rintro e w0 ⟨rfl, rfl⟩))
        go_ret
        exact ⟨ret_bool (by first | (simp [HF'.out]; done) | (simp [HF'.out]; omega)), bel_seq GB.out BW.out⟩
end Go.Proofs.Ytelcpihbdgikfaa
