/- The walks of the laws' own helpers on slices of numbers: copying, comparing, measuring, marking. -/
import Derived.Test.YtelcpihbdgikfaaProg
import Derived.Test.YtelcpihbdgikfaaOwn
import Derived.WalkKit
import Derived.WalkSpells
import Derived.WalkLawsBesides
import Derived.Outline
import Derived.Lib.Hide
import Derived.Deep.QuietTactic
import Derived.BigQuiet
namespace Go.Proofs.Ytelcpihbdgikfaa
open Go.RowKit

theorem infoIntS : (Try.prog.info? 3).map (fun i => (i.zero, i.size, i.bytes)) = some (some (.int .i64 0), 1, 8) := by kernel_rfl
theorem toIntS (v : Value) (l : List Int) (w : World) (hs : Sl .i64 w v l) (hl : l.length ≤ 1048576) :
    Calls Try.prog 42 #[v] w fun e w' => ∃ N g, e = .returned (.slice (some ⟨g, 0, none⟩) N N) ∧ N ≤ 1048576 ∧ w.heap.size ≤ g ∧ g < w'.heap.size ∧ Own .i64 3 w.heap.size w' (some ⟨g, 0, none⟩) N N l ∧ Below w.heap.size w w' := by
  obtain ⟨a1, n1, c1, rfl⟩ : ∃ a1 n1 c1, v = .slice a1 n1 c1 := by
    rcases hs with ⟨_, a, cap, rfl, _⟩ | ⟨b, off, cap, rfl, _⟩ <;> exact ⟨_, _, _, rfl⟩
  have hn : n1 = l.length := hs.len
  have HN := Lib.hid hn
  have hn1 : n1 ≤ 1048576 := by omega
  have hn2 : n1 ≤ 1099511627776 := by omega
  clear hn
  have HS := Lib.hid hs
  go_enter Try.func42, Try.ntmps42
  go_wp2_with (first | (at_make; refine wpList_mk rfl _ _ _ rfl w.heap.size 3 .i64 8 Try.underlying62 infoIntS (by omega) .i64 .i64 n1 rfl rfl hn2 (Nat.le_refl _) ?_; intro w1 hown1 hb1))
  have hg1 := hown1.blk
  have O1 := Lib.hid hown1
  have B1 := Lib.hid hb1
  clear hown1 hb1
  go_loopw [4] (fun i wr => ∃ k : Nat, k ≤ n1 ∧ i = .int .i64 k ∧ Own .i64 3 w.heap.size wr (some ⟨w.heap.size, 0, none⟩) n1 n1 (l.take k ++ List.replicate (n1 - k) 0) ∧ Below w.heap.size w wr) (fun i _ => n1 - (intOf i).toNat)
  case atStart => exact ⟨0, Nat.zero_le _, rfl, by simpa using O1.out, B1.out⟩
  case round =>
    obtain ⟨k, hk, rfl, hown, hbw⟩ := hrel
    by_cases hlt : k < n1
    · have hc1 := hown.cellAt hlt
      have hf1 := hown.frozenAt k
      have hst := hown.stored k (l.getD k 0)
      have hlen : l.length = n1 := HN.out.symm
      rw [copy_step l k n1 (by omega) hlen] at hst
      have HST := Lib.hid hst.1
      have HB := Lib.hid (grown_below hst.2 (B := w.heap.size) (by have := hbw.size; omega) (fun j hj => by cases hj; exact Nat.le_refl _))
      have BW := Lib.hid hbw
      have hsl := HS.out.below hbw
      rcases hsl with ⟨h0, _⟩ | ⟨b, off, cap, hv, h1, h2, h3, h4⟩
      · rw [h0] at hlen; simp at hlen; omega
      · simp only [Value.slice.injEq] at hv
        obtain ⟨rfl, hv2, rfl⟩ := hv
        have hc2 := h4 k (by omega)
        clear h4 h1 h2 h3 hv2 hst hown hbw hlen
        generalize (l.take k ++ List.replicate (n1 - k) 0).getD k 0 = y at hc1
        generalize l.getD k 0 = x at hc2 HST HB
        go_wp2
        go_roundw
        case rel => exact ⟨k + 1, by omega, by go_num, HST.out, BW.out.trans HB.out⟩
        case measure => simp [intOf]; omega
    · have : k = n1 := by omega
      subst this
      have hlen : l.length = k := HN.out.symm
      have O := Lib.hid hown
      have BW := Lib.hid hbw
      have hz := hown.blk.2
      clear hown hbw
      go_wp2
      go_ret
      refine ⟨k, _, rfl, hn1, Nat.le_refl _, hz, ?_, BW.out⟩
      have := O.out
      rw [List.take_of_length_le (by omega), Nat.sub_self] at this
      simpa using this
theorem eqIntS_yes (v u : Value) (l : List Int) (w : World) (hs : Sl .i64 w v l) (hu : Sl .i64 w u l) :
    Calls Try.prog 44 #[v, u] w fun e w' => e = .returned (.bool true) ∧ Below w.heap.size w w' := by
  have hm := hs.max
  unfold maxLen at hm
  obtain ⟨a1, n1, c1, rfl⟩ : ∃ a1 n1 c1, v = .slice a1 n1 c1 := by
    rcases hs with ⟨_, a, cap, rfl, _⟩ | ⟨b, off, cap, rfl, _⟩ <;> exact ⟨_, _, _, rfl⟩
  obtain ⟨a2, n2, c2, rfl⟩ : ∃ a2 n2 c2, u = .slice a2 n2 c2 := by
    rcases hu with ⟨_, a, cap, rfl, _⟩ | ⟨b, off, cap, rfl, _⟩ <;> exact ⟨_, _, _, rfl⟩
  obtain rfl : n1 = l.length := hs.len
  obtain rfl : n2 = l.length := hu.len
  have HS := Lib.hid hs
  have HU := Lib.hid hu
  have hne : ((l.length : Int) != (l.length : Int)) = false := by simp
  clear hs hu
  go_enter Try.func44, Try.ntmps44
  go_wp2
  go_loopw [5] (fun i wr => ∃ k : Nat, k ≤ l.length ∧ i = .int .i64 k ∧ ∃ n, wr = w.drewN n) (fun i _ => l.length - (intOf i).toNat)
  case atStart => exact ⟨0, Nat.zero_le _, rfl, 0, rfl⟩
  case round =>
    obtain ⟨k, hk, rfl, n, rfl⟩ := hrel
    by_cases hlt : k < l.length
    · rcases HS.out with ⟨h0, _⟩ | ⟨b, off, cap, hv, h1, h2, h3, h4⟩
      · rw [h0] at hlt; simp at hlt
      · rcases HU.out with ⟨h0, _⟩ | ⟨b', off', cap', hv', h1', h2', h3', h4'⟩
        · rw [h0] at hlt; simp at hlt
        · simp only [Value.slice.injEq] at hv hv'
          obtain ⟨rfl, _, rfl⟩ := hv
          obtain ⟨rfl, _, rfl⟩ := hv'
          have hc1 : (w.drewN n).cell? ⟨b, off + k, none⟩ = some (.int .i64 (l.getD k 0)) := h4 k hlt
          have hc2 : (w.drewN n).cell? ⟨b', off' + k, none⟩ = some (.int .i64 (l.getD k 0)) := h4' k hlt
          clear h4 h4' h1 h2 h3 h1' h2' h3'
          generalize l.getD k 0 = x at hc1 hc2
          have hxx : (x != x) = false := by simp
          generalize hww : w.drewN n = wn at hc1 hc2 ⊢
          have HW := Lib.hid hww
          clear hww
          go_wp2_with fail
          go_quiet (fail)
          go_wp2
          go_roundw
          case rel => exact ⟨k + 1, by omega, by go_num, _, by rw [← HW.out, World.drewN_drewN]⟩
          case measure => simp [intOf]; omega
    · have : k = l.length := by omega
      subst this
      go_wp2
      go_ret
      exact ⟨rfl, bel_drewN (Below.refl _ _) _⟩
theorem infoByteS : (Try.prog.info? 5).map (fun i => (i.zero, i.size, i.bytes)) = some (some (.int .u8 0), 1, 1) := by kernel_rfl
theorem toByteS (v : Value) (l : List Int) (w : World) (hs : Sl .u8 w v l) (hl : l.length ≤ 1048576) :
    Calls Try.prog 25 #[v] w fun e w' => ∃ N g, e = .returned (.slice (some ⟨g, 0, none⟩) N N) ∧ N ≤ 1048576 ∧ w.heap.size ≤ g ∧ g < w'.heap.size ∧ Own .u8 5 w.heap.size w' (some ⟨g, 0, none⟩) N N l ∧ Below w.heap.size w w' := by
  obtain ⟨a1, n1, c1, rfl⟩ : ∃ a1 n1 c1, v = .slice a1 n1 c1 := by
    rcases hs with ⟨_, a, cap, rfl, _⟩ | ⟨b, off, cap, rfl, _⟩ <;> exact ⟨_, _, _, rfl⟩
  have hn : n1 = l.length := hs.len
  have HN := Lib.hid hn
  have hn1 : n1 ≤ 1048576 := by omega
  have hn2 : n1 ≤ 1099511627776 := by omega
  clear hn
  have HS := Lib.hid hs
  go_enter Try.func25, Try.ntmps25
  go_wp2_with (first | (at_make; refine wpList_mk rfl _ _ _ rfl w.heap.size 5 .u8 1 Try.underlying37 infoByteS (by omega) .i64 .i64 n1 rfl rfl hn2 (Nat.le_refl _) ?_; intro w1 hown1 hb1))
  have hg1 := hown1.blk
  have O1 := Lib.hid hown1
  have B1 := Lib.hid hb1
  clear hown1 hb1
  go_loopw [4] (fun i wr => ∃ k : Nat, k ≤ n1 ∧ i = .int .i64 k ∧ Own .u8 5 w.heap.size wr (some ⟨w.heap.size, 0, none⟩) n1 n1 (l.take k ++ List.replicate (n1 - k) 0) ∧ Below w.heap.size w wr) (fun i _ => n1 - (intOf i).toNat)
  case atStart => exact ⟨0, Nat.zero_le _, rfl, by simpa using O1.out, B1.out⟩
  case round =>
    obtain ⟨k, hk, rfl, hown, hbw⟩ := hrel
    by_cases hlt : k < n1
    · have hc1 := hown.cellAt hlt
      have hf1 := hown.frozenAt k
      have hst := hown.stored k (l.getD k 0)
      have hlen : l.length = n1 := HN.out.symm
      rw [copy_step l k n1 (by omega) hlen] at hst
      have HST := Lib.hid hst.1
      have HB := Lib.hid (grown_below hst.2 (B := w.heap.size) (by have := hbw.size; omega) (fun j hj => by cases hj; exact Nat.le_refl _))
      have BW := Lib.hid hbw
      have hsl := HS.out.below hbw
      rcases hsl with ⟨h0, _⟩ | ⟨b, off, cap, hv, h1, h2, h3, h4⟩
      · rw [h0] at hlen; simp at hlen; omega
      · simp only [Value.slice.injEq] at hv
        obtain ⟨rfl, hv2, rfl⟩ := hv
        have hc2 := h4 k (by omega)
        clear h4 h1 h2 h3 hv2 hst hown hbw hlen
        generalize (l.take k ++ List.replicate (n1 - k) 0).getD k 0 = y at hc1
        generalize l.getD k 0 = x at hc2 HST HB
        go_wp2
        go_roundw
        case rel => exact ⟨k + 1, by omega, by go_num, HST.out, BW.out.trans HB.out⟩
        case measure => simp [intOf]; omega
    · have : k = n1 := by omega
      subst this
      have hlen : l.length = k := HN.out.symm
      have O := Lib.hid hown
      have BW := Lib.hid hbw
      have hz := hown.blk.2
      clear hown hbw
      go_wp2
      go_ret
      refine ⟨k, _, rfl, hn1, Nat.le_refl _, hz, ?_, BW.out⟩
      have := O.out
      rw [List.take_of_length_le (by omega), Nat.sub_self] at this
      simpa using this
theorem eqByteS_yes (v u : Value) (l : List Int) (w : World) (hs : Sl .u8 w v l) (hu : Sl .u8 w u l) :
    Calls Try.prog 27 #[v, u] w fun e w' => e = .returned (.bool true) ∧ Below w.heap.size w w' := by
  have hm := hs.max
  unfold maxLen at hm
  obtain ⟨a1, n1, c1, rfl⟩ : ∃ a1 n1 c1, v = .slice a1 n1 c1 := by
    rcases hs with ⟨_, a, cap, rfl, _⟩ | ⟨b, off, cap, rfl, _⟩ <;> exact ⟨_, _, _, rfl⟩
  obtain ⟨a2, n2, c2, rfl⟩ : ∃ a2 n2 c2, u = .slice a2 n2 c2 := by
    rcases hu with ⟨_, a, cap, rfl, _⟩ | ⟨b, off, cap, rfl, _⟩ <;> exact ⟨_, _, _, rfl⟩
  obtain rfl : n1 = l.length := hs.len
  obtain rfl : n2 = l.length := hu.len
  have HS := Lib.hid hs
  have HU := Lib.hid hu
  have hne : ((l.length : Int) != (l.length : Int)) = false := by simp
  clear hs hu
  go_enter Try.func27, Try.ntmps27
  go_wp2
  go_loopw [5] (fun i wr => ∃ k : Nat, k ≤ l.length ∧ i = .int .i64 k ∧ ∃ n, wr = w.drewN n) (fun i _ => l.length - (intOf i).toNat)
  case atStart => exact ⟨0, Nat.zero_le _, rfl, 0, rfl⟩
  case round =>
    obtain ⟨k, hk, rfl, n, rfl⟩ := hrel
    by_cases hlt : k < l.length
    · rcases HS.out with ⟨h0, _⟩ | ⟨b, off, cap, hv, h1, h2, h3, h4⟩
      · rw [h0] at hlt; simp at hlt
      · rcases HU.out with ⟨h0, _⟩ | ⟨b', off', cap', hv', h1', h2', h3', h4'⟩
        · rw [h0] at hlt; simp at hlt
        · simp only [Value.slice.injEq] at hv hv'
          obtain ⟨rfl, _, rfl⟩ := hv
          obtain ⟨rfl, _, rfl⟩ := hv'
          have hc1 : (w.drewN n).cell? ⟨b, off + k, none⟩ = some (.int .u8 (l.getD k 0)) := h4 k hlt
          have hc2 : (w.drewN n).cell? ⟨b', off' + k, none⟩ = some (.int .u8 (l.getD k 0)) := h4' k hlt
          clear h4 h4' h1 h2 h3 h1' h2' h3'
          generalize l.getD k 0 = x at hc1 hc2
          have hxx : (x != x) = false := by simp
          generalize hww : w.drewN n = wn at hc1 hc2 ⊢
          have HW := Lib.hid hww
          clear hww
          go_wp2_with fail
          go_quiet (fail)
          go_wp2
          go_roundw
          case rel => exact ⟨k + 1, by omega, by go_num, _, by rw [← HW.out, World.drewN_drewN]⟩
          case measure => simp [intOf]; omega
    · have : k = l.length := by omega
      subst this
      go_wp2
      go_ret
      exact ⟨rfl, bel_drewN (Below.refl _ _) _⟩
theorem markByteS (ao : Option Addr) (N cap : Nat) (base : Nat) (l : List Int) (j : Int) (w : World) (ho : Own .u8 5 base w ao N cap l) (hN : N ≤ 1048576) (h0 : 0 ≤ j) (h1 : j ≤ 16777216) :
    Calls Try.prog 28 #[.slice ao N cap, .int .i64 j] w fun e w' => e = .returned (.int .i64 (j + N)) ∧ Own .u8 5 base w' ao N cap (marks cvByteS j N) ∧ w.grownBy w' (ownB ao) := by
  rcases ho.shape with ⟨rfl, rfl, rfl⟩ | ⟨g, rfl, hg1, hg2⟩
  · have hl : l = [] := List.length_eq_zero_iff.1 ho.1
    subst hl
    have HO := Lib.hid ho
    clear ho
    go_enter Try.func28, Try.ntmps28
    go_wp2
    go_loop [1, 5] (fun jj i => i = .int .i64 0 ∧ jj = .int .i64 j) (fun _ _ => 0)
    case atStart => exact ⟨rfl, rfl⟩
    case round =>
      obtain ⟨rfl, rfl⟩ := hrel
      go_wp2
      go_ret
      exact ⟨ret_int (by simp), HO.out, World.grownBy.refl _ _⟩
  · have HO := Lib.hid ho
    have hlen := Lib.hid ho.1
    clear ho
    go_enter Try.func28, Try.ntmps28
    go_wp2
    go_loopw [1, 5] (fun jj i wr => ∃ k : Nat, k ≤ N ∧ i = .int .i64 k ∧ jj = .int .i64 (j + k) ∧ Own .u8 5 base wr (some ⟨g, 0, none⟩) N cap (marks cvByteS j k ++ l.drop k) ∧ w.grownBy wr (some g)) (fun _ i _ => N - (intOf i).toNat)
    case atStart => exact ⟨0, Nat.zero_le _, rfl, by simp, by simpa [marks] using HO.out, World.grownBy.refl _ _⟩
    case round =>
      obtain ⟨k, hk, rfl, rfl, hown, hgw⟩ := hrel
      by_cases hlt : k < N
      · have hc1 := hown.cellAt hlt
        have hf1 := hown.frozenAt k
        have hst := hown.stored k (cvByteS (j + k))
        rw [mark_step cvByteS l j k (by have := hlen.out; omega)] at hst
        have HST := Lib.hid hst.1
        have HG := Lib.hid (grown_trans hgw hst.2)
        clear hst hown hgw
        generalize (marks cvByteS j k ++ l.drop k).getD k 0 = y at hc1
        unfold cvByteS at HST HG
        go_wp2
        go_roundw
        case rel => exact ⟨k + 1, by omega, by go_num, by go_num, HST.out, HG.out⟩
        case measure => simp [intOf]; omega
      · have : k = N := by omega
        subst this
        have O := Lib.hid hown
        have G := Lib.hid hgw
        clear hown hgw
        go_wp2
        go_ret
        refine ⟨rfl, ?_, G.out⟩
        have := O.out
        rw [List.drop_of_length_le (by have := hlen.out; omega), List.append_nil] at this
        exact this
theorem heldByteS (v : Value) (N : Nat) (j : Int) (w : World) (hs : Sl .u8 w v (marks cvByteS j N)) (hN : N ≤ 1048576) (h0 : 0 ≤ j) (h1 : j ≤ 16777216) :
    Calls Try.prog 29 #[v, .int .i64 j] w fun e w' => e = .returned (.int .i64 (j + N)) ∧ w = w' := by
  obtain ⟨a1, n1, c1, rfl⟩ : ∃ a1 n1 c1, v = .slice a1 n1 c1 := by
    rcases hs with ⟨_, a, cap, rfl, _⟩ | ⟨b, off, cap, rfl, _⟩ <;> exact ⟨_, _, _, rfl⟩
  have hn : n1 = N := by have := hs.len; rw [marks_length] at this; exact this
  subst hn
  have HS := Lib.hid hs
  clear hs
  go_enter Try.func29, Try.ntmps29
  go_wp2
  go_loop [1, 5] (fun jj i => ∃ k : Nat, k ≤ n1 ∧ i = .int .i64 k ∧ jj = .int .i64 (j + k)) (fun _ i => n1 - (intOf i).toNat)
  case atStart => exact ⟨0, Nat.zero_le _, rfl, by simp⟩
  case round =>
    obtain ⟨k, hk, rfl, rfl⟩ := hrel
    by_cases hlt : k < n1
    · rcases HS.out with ⟨h0, _⟩ | ⟨b, off, cap, hv, h1', h2, h3, h4⟩
      · have := congrArg List.length h0
        rw [marks_length] at this
        simp at this
        omega
      · simp only [Value.slice.injEq] at hv
        obtain ⟨rfl, hbad, rfl⟩ := hv
        clear hbad
        have hc1 := h4 k (by rw [marks_length]; exact hlt)
        rw [marks_getD cvByteS j hlt] at hc1
        clear h4 h1' h2 h3
        unfold cvByteS at hc1
        go_wp2
        go_round
        case rel => exact ⟨k + 1, by omega, by go_num, by go_num⟩
        case measure => simp [intOf]; omega
    · have : k = n1 := by omega
      subst this
      go_wp2
      go_ret
      exact ⟨rfl, rfl⟩
end Go.Proofs.Ytelcpihbdgikfaa
