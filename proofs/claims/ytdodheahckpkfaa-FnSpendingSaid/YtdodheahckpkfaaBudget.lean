/- The walks of BudgetLeft. -/
import Derived.Test.YtdodheahckpkfaaProg
import Derived.Test.YtdodheahckpkfaaSpentLaw
import Derived.Test.YtdodheahckpkfaaTake
import Derived.Deep.RegionHeld3
namespace Go.Proofs.Ytdodheahckpkfaa
open Go.RowKit

/-- does the place count: not spent and not seen before -/
def budB (l ss : List Int) (k : Nat) : Bool := !(memB l (ss.getD k 0)) && !(memB (ss.take k) (ss.getD k 0))
def budN (l ss : List Int) (k : Nat) : Nat := ((List.range k).filter (budB l ss)).length
def budgetI (l ss : List Int) : Int := budN l ss ss.length
theorem budN_yes {l ss : List Int} {k : Nat} (h : budB l ss k = true) : budN l ss (k + 1) = budN l ss k + 1 := by
  unfold budN; rw [List.range_succ, List.filter_append, List.length_append]; simp [h]
theorem budN_no {l ss : List Int} {k : Nat} (h : budB l ss k = false) : budN l ss (k + 1) = budN l ss k := by
  unfold budN; rw [List.range_succ, List.filter_append, List.length_append]; simp [h]
theorem budN_le (l ss : List Int) (k : Nat) : budN l ss k ≤ k := by
  unfold budN; exact Nat.le_trans (List.length_filter_le _ _) (by simp)
theorem implBudgetLeft (x : Int) (v u : Value) (l ss : List Int) (w : World) (hs : Sl .i64 w v l) (hu : Sl .i64 w u ss) : Calls Try.prog 26 #[.agg #[.int .i64 x, v], u] w fun e w' => e = .returned (.int .i64 (budgetI l ss)) ∧ Below w.heap.size w w' := by
  obtain ⟨a, c, rfl, hm⟩ := hs.shape
  obtain ⟨a', c', rfl, hm'⟩ := hu.shape
  obtain ⟨HB, hs1⟩ := box_list (.int .i64 x) (.slice a l.length c) l 27 hs
  obtain ⟨hcap, hcap'⟩ := hu.cap
  have hu1 := hu.alloc (.cells #[.int .i64 x, .slice a l.length c] 27)
  go_enter Try.func26, Try.ntmps26
  go_wp2
  generalize w.alloc (.cells #[.int .i64 x, .slice a l.length c] 27) = W0 at HB hs1 hu1 ⊢
  obtain ⟨g1, g2, g3⟩ := HB
  have G1 := Lib.hid g1
  have G2 := Lib.hid g2
  have G3 := Lib.hid g3
  have HS := Lib.hid hs1
  have HU := Lib.hid hu1
  clear g1 g2 g3 hs1 hu1 hs hu
  go_loopw [5, 10] (fun nn ix wr => ∃ k : Nat, k ≤ ss.length ∧ ix = .int .i64 k ∧ nn = .int .i64 (budN l ss k) ∧ Hid (Below W0.heap.size W0 wr)) (fun _ ix _ => ss.length - (intOf ix).toNat)
  case atStart => exact ⟨0, Nat.zero_le _, rfl, rfl, Lib.hid (Below.refl _ _)⟩
  case round =>
    obtain ⟨k, hk, rfl, rfl, BW⟩ := hrel
    have g1 : wr.cell? ⟨w.heap.size, 0, none⟩ = some (.int .i64 x) := later0 BW.out G1.out
    have g2 : wr.cell? ⟨w.heap.size, 1, none⟩ = some (.slice a l.length c) := later0 BW.out G2.out
    have hbn := budN_le l ss k
    by_cases hlt : k < ss.length
    · obtain ⟨b, off, rfl, hb, h4⟩ := (HU.out.below BW.out).at hlt
      have hc1 := h4 k hlt
      have CS := Lib.hid (fun v W h => implIsSpent x v l (ss.getD k 0) W h)
      have CC := Lib.hid (fun W h => slContains (.slice (some ⟨b, off, none⟩) k c') (ss.take k) (ss.getD k 0) W h)
      clear h4 hb
      cases h1 : memB l (ss.getD k 0) with
      | true =>
        have HN := Lib.hid (budN_no (l := l) (ss := ss) (k := k) (by unfold budB; rw [h1]; rfl))
        rw [h1] at CS
        clear h1 CC
        generalize ss.getD k 0 = y at hc1 CS
        generalize budN l ss k = z at hbn HN
        go_wp2_with (first | (go_at_call 18; (refine (CS.out _ _ (HS.out.below BW.out)).mono ?_); rintro e w1 ⟨rfl, hb1⟩))
        have B2 := Lib.hid (BW.out.trans (hb1.mono BW.out.size))
        clear hb1
        go_wp2
        go_roundw
        case rel => exact ⟨k + 1, by omega, by go_num, by rw [HN.out], B2⟩
        case measure => simp [intOf]; omega
      | false =>
        cases h2 : memB (ss.take k) (ss.getD k 0) with
        | true =>
          have HN := Lib.hid (budN_no (l := l) (ss := ss) (k := k) (by unfold budB; rw [h1, h2]; rfl))
          rw [h1] at CS
          rw [h2] at CC
          clear h1 h2
          generalize ss.getD k 0 = y at hc1 CS CC
          generalize budN l ss k = z at hbn HN
          go_wp2_with (first | (go_at_call 18; (refine (CS.out _ _ (HS.out.below BW.out)).mono ?_); rintro e w1 ⟨rfl, hb1⟩; have B1 := Lib.hid (BW.out.trans (hb1.mono BW.out.size)); clear hb1) | (go_at_call 58; (refine (CC.out _ ((HU.out.below B1.out).take hk)).mono ?_); rintro e w2 ⟨rfl, rfl⟩))
          go_roundw
          case rel => exact ⟨k + 1, by omega, by go_num, by rw [HN.out], B1⟩
          case measure => simp [intOf]; omega
        | false =>
          have HN := Lib.hid (budN_yes (l := l) (ss := ss) (k := k) (by unfold budB; rw [h1, h2]; rfl))
          rw [h1] at CS
          rw [h2] at CC
          clear h1 h2
          generalize ss.getD k 0 = y at hc1 CS CC
          generalize budN l ss k = z at hbn HN
          go_wp2_with (first | (go_at_call 18; (refine (CS.out _ _ (HS.out.below BW.out)).mono ?_); rintro e w1 ⟨rfl, hb1⟩; have B1 := Lib.hid (BW.out.trans (hb1.mono BW.out.size)); clear hb1) | (go_at_call 58; (refine (CC.out _ ((HU.out.below B1.out).take hk)).mono ?_); rintro e w2 ⟨rfl, rfl⟩))
          go_roundw
          case rel => exact ⟨k + 1, by omega, by go_num, by rw [HN.out]; go_num, B1⟩
          case measure => simp [intOf]; omega
    · have : k = ss.length := by omega
      subst this
      go_wp2
      go_ret
      exact ⟨rfl, bel_seq G3.out BW.out⟩
theorem memB_take (ss : List Int) (y : Int) {k : Nat} (h : k < ss.length) : memB (ss.take (k + 1)) y = (memB (ss.take k) y || ss.getD k 0 == y) := by
  have : ss.take (k + 1) = ss.take k ++ [ss.getD k 0] := take_succ_getD ss k h
  rw [this]
  unfold memB
  rw [List.any_append]
  simp
theorem specBudgetLeft (x : Int) (v u : Value) (l ss : List Int) (w : World) (hs : Sl .i64 w v l) (hu : Sl .i64 w u ss) : Calls Try.prog 24 #[.agg #[.int .i64 x, v], u] w fun e w' => e = .returned (.int .i64 (budgetI l ss)) ∧ Below w.heap.size w w' := by
  obtain ⟨a, c, rfl, hm⟩ := hs.shape
  obtain ⟨a', c', rfl, hm'⟩ := hu.shape
  obtain ⟨HB, hs1⟩ := box_list (.int .i64 x) (.slice a l.length c) l 27 hs
  have hu1 := hu.alloc (.cells #[.int .i64 x, .slice a l.length c] 27)
  go_enter Try.func24, Try.ntmps24
  go_wp2
  generalize w.alloc (.cells #[.int .i64 x, .slice a l.length c] 27) = W0 at HB hs1 hu1 ⊢
  obtain ⟨g1, g2, g3⟩ := HB
  have G1 := Lib.hid g1
  have G2 := Lib.hid g2
  have G3 := Lib.hid g3
  have HS := Lib.hid hs1
  have HU := Lib.hid hu1
  clear g1 g2 g3 hs1 hu1 hs hu
  go_loopw [5, 6] (fun nn ix wr => ∃ k : Nat, k ≤ ss.length ∧ ix = .int .i64 k ∧ nn = .int .i64 (budN l ss k) ∧ Hid (Below W0.heap.size W0 wr)) (fun _ ix _ => ss.length - (intOf ix).toNat)
  case atStart => exact ⟨0, Nat.zero_le _, rfl, rfl, Lib.hid (Below.refl _ _)⟩
  case round =>
    obtain ⟨k, hk, rfl, rfl, BW⟩ := hrel
    have hbn := budN_le l ss k
    by_cases hlt : k < ss.length
    · have CS := Lib.hid (fun v W h => specIsSpent x v l (ss.getD k 0) W h)
      obtain ⟨y, hy⟩ : ∃ y, y = ss.getD k 0 := ⟨_, rfl⟩
      have HY := Lib.hid hy
      rw [← hy] at CS
      clear hy
      go_wp2
      go_loopw [7, 8] (fun ag jx wq => ∃ j : Nat, j ≤ k ∧ jx = .int .i64 j ∧ ag = .bool (memB (ss.take j) y) ∧ Hid (Below W0.heap.size W0 wq)) (fun _ jx _ => k - (intOf jx).toNat)
      case atStart => exact ⟨0, Nat.zero_le _, rfl, rfl, BW⟩
      case round =>
        obtain ⟨j, hj, rfl, rfl, BQ⟩ := hrel
        by_cases hjk : j < k
        · obtain ⟨b, off, rfl, hb, h4⟩ := (HU.out.below BQ.out).at hlt
          have hc1 := h4 k hlt
          have hc2 := h4 j (by omega)
          rw [← HY.out] at hc1
          have HM := Lib.hid (memB_take ss y (k := j) (by omega))
          clear h4 hb
          cases hq : memB (ss.take j) y with
          | true =>
            rw [hq] at HM
            clear hq
            go_wp2_with fail
            go_quiet (fail)
            go_wp2
            go_roundw
            case rel => exact ⟨j + 1, by omega, by go_num, by rw [HM.out]; simp, Lib.hid (bel_drewN BQ.out _)⟩
            case measure => simp [intOf]; omega
          | false =>
            rw [hq] at HM
            clear hq
            generalize ss.getD j 0 = z at hc2 HM
            cases hz : (z == y) with
            | true =>
              rw [hz] at HM
              go_wp2_with fail
              go_quiet (fail)
              go_wp2
              go_roundw
              case rel => exact ⟨j + 1, by omega, by go_num, by rw [HM.out]; simp, Lib.hid (bel_drewN BQ.out _)⟩
              case measure => simp [intOf]; omega
            | false =>
              rw [hz] at HM
              go_wp2_with fail
              go_quiet (fail)
              go_wp2
              go_roundw
              case rel => exact ⟨j + 1, by omega, by go_num, by rw [HM.out]; simp, Lib.hid (bel_drewN BQ.out _)⟩
              case measure => simp [intOf]; omega
        · have : j = k := by omega
          subst this
          obtain ⟨b, off, rfl, hb, h4⟩ := (HU.out.below BQ.out).at hlt
          have hc1 := h4 j hlt
          rw [← HY.out] at hc1
          clear h4 hb
          have g1 : wr.cell? ⟨w.heap.size, 0, none⟩ = some (.int .i64 x) := later0 BQ.out G1.out
          have g2 : wr.cell? ⟨w.heap.size, 1, none⟩ = some (.slice a l.length c) := later0 BQ.out G2.out
          cases hq : memB (ss.take j) y with
          | true =>
            have HN := Lib.hid (budN_no (l := l) (ss := ss) (k := j) (by unfold budB; rw [← HY.out, hq]; simp))
            generalize budN l ss j = z at hbn HN
            clear hq
            go_wp2_with fail
            go_quiet (fail)
            go_wp2
            go_roundw
            case rel => exact ⟨j + 1, by omega, by go_num, by rw [HN.out], Lib.hid (bel_drewN BQ.out _)⟩
            case measure => simp [intOf]; omega
          | false =>
            cases h1 : memB l y with
            | true =>
              have HN := Lib.hid (budN_no (l := l) (ss := ss) (k := j) (by unfold budB; rw [← HY.out, h1]; simp))
              generalize budN l ss j = z at hbn HN
              rw [h1] at CS
              clear hq h1
              go_wp2_with fail
              go_region_held3 (fun W' => W'.cell? ⟨w.heap.size, 0, none⟩ = some (.int .i64 x) ∧ W'.cell? ⟨w.heap.size, 1, none⟩ = some (.slice a l.length c) ∧ W'.cell? ⟨b, off + j, none⟩ = some (.int .i64 y) ∧ Below wr.heap.size wr W') (first | assumption | exact keep3 (bel_seq (bel3 ‹_›) hbh) g1 g2 hc1 | exact keep3 ((Below.refl _ _).drew) g1 g2 hc1) (first | (go_at_call 16; (refine (CS.out (.slice a l.length c) _ (HS.out.below (bel_seq BQ.out (bel3 ‹_›)))).mono ?_); rintro e w6 ⟨rfl, hbh⟩))
              have B6 := Lib.hid (bel_seq BQ.out (bel3 ‹_›))
              go_wp2
              go_roundw
              case rel => exact ⟨j + 1, by omega, by go_num, by rw [HN.out], B6⟩
              case measure => simp [intOf]; omega
            | false =>
              have HN := Lib.hid (budN_yes (l := l) (ss := ss) (k := j) (by unfold budB; rw [← HY.out, h1, hq]; rfl))
              generalize budN l ss j = z at hbn HN
              rw [h1] at CS
              clear hq h1
              go_wp2_with fail
              go_region_held3 (fun W' => W'.cell? ⟨w.heap.size, 0, none⟩ = some (.int .i64 x) ∧ W'.cell? ⟨w.heap.size, 1, none⟩ = some (.slice a l.length c) ∧ W'.cell? ⟨b, off + j, none⟩ = some (.int .i64 y) ∧ Below wr.heap.size wr W') (first | assumption | exact keep3 (bel_seq (bel3 ‹_›) hbh) g1 g2 hc1 | exact keep3 ((Below.refl _ _).drew) g1 g2 hc1) (first | (go_at_call 16; (refine (CS.out (.slice a l.length c) _ (HS.out.below (bel_seq BQ.out (bel3 ‹_›)))).mono ?_); rintro e w6 ⟨rfl, hbh⟩))
              have B6 := Lib.hid (bel_seq BQ.out (bel3 ‹_›))
              go_wp2
              go_roundw
              case rel => exact ⟨j + 1, by omega, by go_num, by rw [HN.out]; go_num, B6⟩
              case measure => simp [intOf]; omega
    · have : k = ss.length := by omega
      subst this
      go_wp2
      go_ret
      exact ⟨rfl, bel_seq G3.out BW.out⟩
end Go.Proofs.Ytdodheahckpkfaa
