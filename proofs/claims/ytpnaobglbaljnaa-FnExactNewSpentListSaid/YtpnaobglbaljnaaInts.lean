/- The walks of the laws' own helpers on slices of numbers: copying, comparing, measuring, marking. -/
import Derived.Test.YtpnaobglbaljnaaProg
import Derived.Test.YtpnaobglbaljnaaOwn
import Derived.WalkKit
import Derived.WalkSpells
import Derived.WalkLawsBesides
import Derived.Outline
import Derived.Lib.Hide
import Derived.Deep.QuietTactic
import Derived.BigQuiet
namespace Go.Proofs.Ytpnaobglbaljnaa
open Go.RowKit

theorem eqIntS_yes (v u : Value) (l : List Int) (w : World) (hs : Sl .i64 w v l) (hu : Sl .i64 w u l) :
    Calls Try.prog 50 #[v, u] w fun e w' => e = .returned (.bool true) ∧ Below w.heap.size w w' := by
  have hm := hs.max
  unfold maxLen at hm
  obtain ⟨a1, n1, c1, rfl⟩ : ∃ a1 n1 c1, v = .slice a1 n1 c1 := by
    rcases hs with ⟨_, a, cap, rfl, _⟩ | ⟨b, off, cap, rfl, _⟩ <;> exact ⟨_, _, _, rfl⟩
  obtain ⟨a2, n2, c2, rfl⟩ : ∃ a2 n2 c2, u = .slice a2 n2 c2 := by
    rcases hu with ⟨_, a, cap, rfl, _⟩ | ⟨b, off, cap, rfl, _⟩ <;> exact ⟨_, _, _, rfl⟩
  obtain rfl : n1 = l.length := hs.len
  obtain rfl : n2 = l.length := hu.len
  have HS := Lib.hid hs
  have HU := Lib.hid hu
  have hne : ((l.length : Int) != (l.length : Int)) = false := by simp
  clear hs hu
  go_enter Try.func50, Try.ntmps50
  go_wp2
  go_loopw [5] (fun i wr => ∃ k : Nat, k ≤ l.length ∧ i = .int .i64 k ∧ ∃ n, wr = w.drewN n) (fun i _ => l.length - (intOf i).toNat)
  case atStart => exact ⟨0, Nat.zero_le _, rfl, 0, rfl⟩
  case round =>
    obtain ⟨k, hk, rfl, n, rfl⟩ := hrel
    by_cases hlt : k < l.length
    · rcases HS.out with ⟨h0, _⟩ | ⟨b, off, cap, hv, h1, h2, h3, h4⟩
      · rw [h0] at hlt; simp at hlt
      · rcases HU.out with ⟨h0, _⟩ | ⟨b', off', cap', hv', h1', h2', h3', h4'⟩
        · rw [h0] at hlt; simp at hlt
        · simp only [Value.slice.injEq] at hv hv'
          obtain ⟨rfl, _, rfl⟩ := hv
          obtain ⟨rfl, _, rfl⟩ := hv'
          have hc1 : (w.drewN n).cell? ⟨b, off + k, none⟩ = some (.int .i64 (l.getD k 0)) := h4 k hlt
          have hc2 : (w.drewN n).cell? ⟨b', off' + k, none⟩ = some (.int .i64 (l.getD k 0)) := h4' k hlt
          clear h4 h4' h1 h2 h3 h1' h2' h3'
          generalize l.getD k 0 = x at hc1 hc2
          have hxx : (x != x) = false := by simp
          generalize hww : w.drewN n = wn at hc1 hc2 ⊢
          have HW := Lib.hid hww
          clear hww
          go_wp2_with fail
          go_quiet (fail)
          go_wp2
          go_roundw
          case rel => exact ⟨k + 1, by omega, by go_num, _, by rw [← HW.out, World.drewN_drewN]⟩
          case measure => simp [intOf]; omega
    · have : k = l.length := by omega
      subst this
      go_wp2
      go_ret
      exact ⟨rfl, bel_drewN (Below.refl _ _) _⟩
theorem markIntS (ao : Option Addr) (N cap : Nat) (base : Nat) (l : List Int) (j : Int) (w : World) (ho : Own .i64 3 base w ao N cap l) (hN : N ≤ 1048576) (h0 : 0 ≤ j) (h1 : j ≤ 16777216) :
    Calls Try.prog 51 #[.slice ao N cap, .int .i64 j] w fun e w' => e = .returned (.int .i64 (j + N)) ∧ Own .i64 3 base w' ao N cap (marks cvIntS j N) ∧ w.grownBy w' (ownB ao) := by
  rcases ho.shape with ⟨rfl, rfl, rfl⟩ | ⟨g, rfl, hg1, hg2⟩
  · have hl : l = [] := List.length_eq_zero_iff.1 ho.1
    subst hl
    have HO := Lib.hid ho
    clear ho
    go_enter Try.func51, Try.ntmps51
    go_wp2
    go_loop [1, 5] (fun jj i => i = .int .i64 0 ∧ jj = .int .i64 j) (fun _ _ => 0)
    case atStart => exact ⟨rfl, rfl⟩
    case round =>
      obtain ⟨rfl, rfl⟩ := hrel
      go_wp2
      go_ret
      exact ⟨ret_int (by simp), HO.out, World.grownBy.refl _ _⟩
  · have HO := Lib.hid ho
    have hlen := Lib.hid ho.1
    clear ho
    go_enter Try.func51, Try.ntmps51
    go_wp2
    go_loopw [1, 5] (fun jj i wr => ∃ k : Nat, k ≤ N ∧ i = .int .i64 k ∧ jj = .int .i64 (j + k) ∧ Own .i64 3 base wr (some ⟨g, 0, none⟩) N cap (marks cvIntS j k ++ l.drop k) ∧ w.grownBy wr (some g)) (fun _ i _ => N - (intOf i).toNat)
    case atStart => exact ⟨0, Nat.zero_le _, rfl, by simp, by simpa [marks] using HO.out, World.grownBy.refl _ _⟩
    case round =>
      obtain ⟨k, hk, rfl, rfl, hown, hgw⟩ := hrel
      by_cases hlt : k < N
      · have hc1 := hown.cellAt hlt
        have hf1 := hown.frozenAt k
        have hst := hown.stored k (cvIntS (j + k))
        rw [mark_step cvIntS l j k (by have := hlen.out; omega)] at hst
        have HST := Lib.hid hst.1
        have HG := Lib.hid (grown_trans hgw hst.2)
        clear hst hown hgw
        generalize (marks cvIntS j k ++ l.drop k).getD k 0 = y at hc1
        unfold cvIntS at HST HG
        go_wp2
        go_roundw
        case rel => exact ⟨k + 1, by omega, by go_num, by go_num, HST.out, HG.out⟩
        case measure => simp [intOf]; omega
      · have : k = N := by omega
        subst this
        have O := Lib.hid hown
        have G := Lib.hid hgw
        clear hown hgw
        go_wp2
        go_ret
        refine ⟨rfl, ?_, G.out⟩
        have := O.out
        rw [List.drop_of_length_le (by have := hlen.out; omega), List.append_nil] at this
        exact this
theorem heldIntS (v : Value) (N : Nat) (j : Int) (w : World) (hs : Sl .i64 w v (marks cvIntS j N)) (hN : N ≤ 1048576) (h0 : 0 ≤ j) (h1 : j ≤ 16777216) :
    Calls Try.prog 52 #[v, .int .i64 j] w fun e w' => e = .returned (.int .i64 (j + N)) ∧ w = w' := by
  obtain ⟨a1, n1, c1, rfl⟩ : ∃ a1 n1 c1, v = .slice a1 n1 c1 := by
    rcases hs with ⟨_, a, cap, rfl, _⟩ | ⟨b, off, cap, rfl, _⟩ <;> exact ⟨_, _, _, rfl⟩
  have hn : n1 = N := by have := hs.len; rw [marks_length] at this; exact this
  subst hn
  have HS := Lib.hid hs
  clear hs
  go_enter Try.func52, Try.ntmps52
  go_wp2
  go_loop [1, 5] (fun jj i => ∃ k : Nat, k ≤ n1 ∧ i = .int .i64 k ∧ jj = .int .i64 (j + k)) (fun _ i => n1 - (intOf i).toNat)
  case atStart => exact ⟨0, Nat.zero_le _, rfl, by simp⟩
  case round =>
    obtain ⟨k, hk, rfl, rfl⟩ := hrel
    by_cases hlt : k < n1
    · rcases HS.out with ⟨h0, _⟩ | ⟨b, off, cap, hv, h1', h2, h3, h4⟩
      · have := congrArg List.length h0
        rw [marks_length] at this
        simp at this
        omega
      · simp only [Value.slice.injEq] at hv
        obtain ⟨rfl, hbad, rfl⟩ := hv
        clear hbad
        have hc1 := h4 k (by rw [marks_length]; exact hlt)
        rw [marks_getD cvIntS j hlt] at hc1
        clear h4 h1' h2 h3
        unfold cvIntS at hc1
        go_wp2
        go_round
        case rel => exact ⟨k + 1, by omega, by go_num, by go_num⟩
        case measure => simp [intOf]; omega
    · have : k = n1 := by omega
      subst this
      go_wp2
      go_ret
      exact ⟨rfl, rfl⟩
end Go.Proofs.Ytpnaobglbaljnaa
