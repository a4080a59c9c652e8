/- The walks of CountCollisions and FreeRound. -/
import Derived.Test.YtelcpihbdgikfaaProg
import Derived.Test.YtelcpihbdgikfaaLists
import Derived.Test.YtelcpihbdgikfaaKeys
import Derived.Test.YtelcpihbdgikfaaInts
import Derived.Test.YtelcpihbdgikfaaLater
import Derived.Test.YtelcpihbdgikfaaTake
namespace Go.Proofs.Ytelcpihbdgikfaa
open Go.RowKit

/-- was the number at this place there before -/
def colB (ss : List Int) (k : Nat) : Bool := memB (ss.take k) (ss.getD k 0)
def colN (ss : List Int) (k : Nat) : Nat := ((List.range k).filter (colB ss)).length
def colI (ss : List Int) : Int := colN ss ss.length
theorem colN_yes {ss : List Int} {k : Nat} (h : colB ss k = true) : colN ss (k + 1) = colN ss k + 1 := by
  unfold colN; rw [List.range_succ, List.filter_append, List.length_append]; simp [h]
theorem colN_no {ss : List Int} {k : Nat} (h : colB ss k = false) : colN ss (k + 1) = colN ss k := by
  unfold colN; rw [List.range_succ, List.filter_append, List.length_append]; simp [h]
theorem colN_le (ss : List Int) (k : Nat) : colN ss k ≤ k := by
  unfold colN; exact Nat.le_trans (List.length_filter_le _ _) (by simp)
theorem implCountCollisions (u : Value) (ss : List Int) (w : World) (hu : Sl .i64 w u ss) : Calls Try.prog 51 #[u] w fun e w' => e = .returned (.int .i64 (colI ss)) ∧ w = w' := by
  obtain ⟨a', c', rfl, hm'⟩ := hu.shape
  obtain ⟨hcap, hcap'⟩ := hu.cap
  have HU := Lib.hid hu
  clear hu
  go_enter Try.func51, Try.ntmps51
  go_wp2
  go_loop [3, 8] (fun nn ix => ∃ k : Nat, k ≤ ss.length ∧ ix = .int .i64 k ∧ nn = .int .i64 (colN ss k)) (fun _ ix => ss.length - (intOf ix).toNat)
  case atStart => exact ⟨0, Nat.zero_le _, rfl, rfl⟩
  case round =>
    obtain ⟨k, hk, rfl, rfl⟩ := hrel
    have hbn := colN_le ss k
    by_cases hlt : k < ss.length
    · obtain ⟨b, off, rfl, hb, h4⟩ := HU.out.at hlt
      have hc1 := h4 k hlt
      have CC := Lib.hid (slContains (.slice (some ⟨b, off, none⟩) k c') (ss.take k) (ss.getD k 0) w (HU.out.take hk))
      clear h4 hb
      cases h2 : memB (ss.take k) (ss.getD k 0) with
      | true =>
        have HN := Lib.hid (colN_yes (ss := ss) (k := k) (by unfold colB; rw [h2]))
        rw [h2] at CC
        clear h2
        generalize ss.getD k 0 = y at hc1 CC
        generalize colN ss k = z at hbn HN
        go_wp2_with (first | (go_at_call 97; (refine CC.out.mono ?_); rintro e w2 ⟨rfl, rfl⟩))
        go_round
        case rel => exact ⟨k + 1, by omega, by go_num, by rw [HN.out]; go_num⟩
        case measure => simp [intOf]; omega
      | false =>
        have HN := Lib.hid (colN_no (ss := ss) (k := k) (by unfold colB; rw [h2]))
        rw [h2] at CC
        clear h2
        generalize ss.getD k 0 = y at hc1 CC
        generalize colN ss k = z at hbn HN
        go_wp2_with (first | (go_at_call 97; (refine CC.out.mono ?_); rintro e w2 ⟨rfl, rfl⟩))
        go_round
        case rel => exact ⟨k + 1, by omega, by go_num, by rw [HN.out]⟩
        case measure => simp [intOf]; omega
    · have : k = ss.length := by omega
      subst this
      go_wp2
      go_ret
      exact ⟨rfl, rfl⟩
/-- the rows that the keys have in a round -/
def rowsI (keys : List Int) (r rows : Int) : List Int := keys.map fun k => mailboxRowI k r 0 rows
theorem rowsI_length (keys : List Int) (r rows : Int) : (rowsI keys r rows).length = keys.length := by simp [rowsI]
theorem rowsI_step (keys : List Int) (r rows : Int) {i : Nat} (h : i < keys.length) : (rowsI keys r rows).take i ++ [mailboxRowI (keys.getD i 0) r 0 rows] = (rowsI keys r rows).take (i + 1) := by
  have := take_succ_getD (rowsI keys r rows) i (by rw [rowsI_length]; exact h)
  rw [this]
  simp [rowsI, List.getD, h]
def freeFrom (keys : List Int) (rows : Int) : Nat → Int → Int
  | 0, _ => -1
  | n + 1, r => if colI (rowsI keys r rows) = 0 then r else freeFrom keys rows n (r + 1)
def freeI (keys : List Int) (round rows : Int) : Int := if inR rows 1 64 && inR round 0 999999999980 then freeFrom keys rows 20 round else -1
theorem free_yes {keys : List Int} {rows r : Int} {n : Nat} (h : colI (rowsI keys r rows) = 0) : freeFrom keys rows (n + 1) r = r := by
  rw [freeFrom, if_pos h]
theorem free_no {keys : List Int} {rows r : Int} {n : Nat} (h : ¬ colI (rowsI keys r rows) = 0) : freeFrom keys rows (n + 1) r = freeFrom keys rows n (r + 1) := by
  rw [freeFrom, if_neg h]
theorem implFreeRound (u : Value) (keys : List Int) (round rows : Int) (w : World) (hu : Sl .i64 w u keys) (hk : keys.length ≤ 1048576) : Calls Try.prog 49 #[u, .int .i64 round, .int .i64 rows] w fun e w' => e = .returned (.int .i64 (freeI keys round rows)) ∧ Below w.heap.size w w' := by
  obtain ⟨a', c', rfl, hm'⟩ := hu.shape
  have HU := Lib.hid hu
  clear hu
  cases h1 : inR rows 1 64 with
  | false =>
    have HF := Lib.hid (show freeI keys round rows = -1 by unfold freeI; rw [h1]; rfl)
    go_enter Try.func49, Try.ntmps49
    go_wp2_with (first | (go_at_call 94; (refine (implInRis h1 _).mono ?_); rintro e w0 ⟨rfl, rfl⟩))
    go_ret
    exact ⟨ret_int HF.out.symm, Below.refl _ _⟩
  | true =>
  cases h2 : inR round 0 999999999980 with
  | false =>
    have HF := Lib.hid (show freeI keys round rows = -1 by unfold freeI; rw [h1, h2]; rfl)
    go_enter Try.func49, Try.ntmps49
    go_wp2_with (first | (go_at_call 94; (with_reducible refine (implInRis h1 _).mono ?_); rintro e w0 ⟨rfl, rfl⟩) | (go_at_call 94; (with_reducible refine (implInRis h2 _).mono ?_); rintro e w0 ⟨rfl, rfl⟩))
    go_ret
    exact ⟨ret_int HF.out.symm, Below.refl _ _⟩
  | true =>
    have HF := Lib.hid (show freeI keys round rows = freeFrom keys rows 20 round by unfold freeI; rw [h1, h2]; rfl)
    have hr0 : 0 ≤ round ∧ round ≤ 999999999980 := by unfold inR at h2; simpa using h2
    obtain ⟨hr1, hr2⟩ := hr0
    go_enter Try.func49, Try.ntmps49
    go_wp2_with (first | (go_at_call 94; (with_reducible refine (implInRis h1 _).mono ?_); rintro e w0 ⟨rfl, rfl⟩) | (go_at_call 94; (with_reducible refine (implInRis h2 _).mono ?_); rintro e w0 ⟨rfl, rfl⟩))
    clear h1 h2
    go_loopw [7] (fun rx wr => ∃ j : Nat, j ≤ 20 ∧ rx = .int .i64 (round + j) ∧ Hid (freeFrom keys rows 20 round = freeFrom keys rows (20 - j) (round + j)) ∧ Hid (Below w.heap.size w wr)) (fun rx _ => (round + 20 - intOf rx).toNat)
    case atStart => exact ⟨0, Nat.zero_le _, by simp, Lib.hid (by simp), Lib.hid (Below.refl _ _)⟩
    case round =>
      obtain ⟨j, hj, rfl, HJ, BW⟩ := hrel
      by_cases hlt : j < 20
      · have hj' : (j : Int) < 20 := by omega
        obtain ⟨r, hr⟩ : ∃ r : Int, r = round + j := ⟨_, rfl⟩
        rw [← hr] at HJ ⊢
        have HR := Lib.hid hr
        have hr3 : r < round + 20 := by omega
        have hr4 : round ≤ r := by omega
        have hj2 : (round + 20 - r).toNat = 20 - j := by omega
        clear hr
        go_wp2
        have O0 := Own.lit .i64 3 w.heap.size wr [] (by simp [maxLen]) BW.out.size
        go_loopw [8, 29] (fun sx ix wq => ∃ (i cap : Nat) (ao : Option Addr), i ≤ keys.length ∧ ix = .int .i64 i ∧ sx = .slice ao i cap ∧ Hid (Own .i64 3 w.heap.size wq ao i cap ((rowsI keys r rows).take i)) ∧ Hid (Below w.heap.size w wq)) (fun _ ix _ => keys.length - (intOf ix).toNat)
        case atStart => exact ⟨0, 0, _, Nat.zero_le _, rfl, rfl, Lib.hid (by simpa using O0), Lib.hid (bel_al BW.out _)⟩
        case round =>
          obtain ⟨i, cap, ao, hi, rfl, rfl, O, BQ⟩ := hrel
          by_cases hil : i < keys.length
          · obtain ⟨b, off, rfl, hb, h4⟩ := (HU.out.below BQ.out).at hil
            have hc1 := h4 i hil
            have HS := Lib.hid (rowsI_step keys r rows hil)
            clear h4 hb
            have hl : i + [(0 : Int)].length ≤ 1099511627776 := by simp; omega
            generalize keys.getD i 0 = y at hc1 HS
            have HC := Lib.hid (fun W => implMailboxRow y r 0 rows W)
            generalize mailboxRowI y r 0 rows = z at HS HC
            go_wp2_with (first | (go_at_call 48; (refine (HC.out _).mono ?_); rintro e w1 ⟨rfl, hb1⟩; have O1 := Lib.hid ((O.out.below hb1).alloc (.cells #[.int .i64 z] 3)); have S1 := Lib.hid (Sl.lit .i64 w1 3 [z] (by simp [maxLen])); have B1 := Lib.hid (bel_al (bel_seq BQ.out hb1) (.cells #[.int .i64 z] 3)); clear hb1) | (at_builtin; refine wpList_app rfl _ _ _ rfl w.heap.size 3 .i64 (.int .i64 0) 8 Try.underlying62 info3 rfl (by omega) _ _ _ _ rfl O1.out _ [z] rfl S1.out hl B1.out.size ?_; intro ao' N' cap' w2 hN1 hN2 hown2 hg2 hb2))
            have O2 := Lib.hid hown2
            have B2 := Lib.hid (B1.out.trans hb2)
            simp only [List.length_cons, List.length_nil] at hN1 hN2
            obtain rfl : N' = i + 1 := by omega
            clear hown2 hg2 hb2 hN1 hN2
            go_wp2
            go_roundw
            case rel => exact ⟨i + 1, cap', ao', by omega, by go_num, rfl, Lib.hid (by rw [← HS.out]; exact O2.out), B2⟩
            case measure => simp [intOf]; omega
          · have : i = keys.length := by omega
            subst this
            have O' := Lib.hid (show Own .i64 3 w.heap.size wr ao keys.length cap (rowsI keys r rows) by have := O.out; rw [List.take_of_length_le (by rw [rowsI_length]; exact Nat.le_refl _)] at this; exact this)
            have CC := implCountCollisions _ _ _ O'.out.sl
            by_cases hc : colI (rowsI keys r rows) = 0
            · have HV := Lib.hid (free_yes (n := 20 - j - 1) hc)
              rw [hc] at CC
              have CC' := Lib.hid CC
              have HE : 20 - j - 1 + 1 = 20 - j := by omega
              have HE' := Lib.hid HE
              clear CC hc HE
              go_wp2_with fail
              refine CC'.out.mono ?_
              rintro e w9 ⟨rfl, rfl⟩
              have B9 := BQ
              go_wp2
              go_ret
              exact ⟨ret_int (by rw [HF.out, HJ.out, ← HE'.out, HV.out]), B9.out⟩
            · have HV := Lib.hid (free_no (n := 20 - j - 1) hc)
              have HE' := Lib.hid (show 20 - j - 1 + 1 = 20 - j by omega)
              have HE2 := Lib.hid (show 20 - j - 1 = 20 - (j + 1) by omega)
              generalize colI (rowsI keys r rows) = q at CC hc
              have hq : (q == 0) = false := by simp [hc]
              have CC' := Lib.hid CC
              clear CC hc
              go_wp2_with fail
              refine CC'.out.mono ?_
              rintro e w9 ⟨rfl, rfl⟩
              have B9 := BQ
              go_wp2
              go_roundw
              case rel => exact ⟨j + 1, by omega, by rw [HR.out]; go_num, Lib.hid (by rw [HJ.out, ← HE'.out, HV.out, HE2.out, HR.out]; congr 1; go_num), B9⟩
              case measure => simp [intOf]; omega
      · have : j = 20 := by omega
        subst this
        have hh : (round + ((20 : Nat) : Int)) = round + 20 := rfl
        go_wp2
        go_ret
        exact ⟨ret_int (by rw [HF.out, HJ.out]; rfl), BW.out⟩
end Go.Proofs.Ytelcpihbdgikfaa
