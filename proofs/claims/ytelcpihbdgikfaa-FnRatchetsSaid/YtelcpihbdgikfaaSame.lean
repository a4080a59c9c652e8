/- The walk of the laws' comparison of two byte slices. -/
import Derived.Test.YtelcpihbdgikfaaProg
import Derived.Test.YtelcpihbdgikfaaOwn
import Derived.Test.YtelcpihbdgikfaaDraw
import Derived.WalkKit
import Derived.WalkSpells
import Derived.WalkLawsBesides
import Derived.Outline
import Derived.Lib.Hide
import Derived.Deep.QuietTactic
import Derived.BigQuiet
namespace Go.Proofs.Ytelcpihbdgikfaa
open Go.RowKit
theorem sameBytes_yes (v u : Value) (l : List Int) (w : World) (hs : Sl .u8 w v l) (hu : Sl .u8 w u l) :
    Calls Try.prog 47 #[v, u] w fun e w' => e = .returned (.bool true) ∧ Below w.heap.size w w' := by
  have hm := hs.max
  unfold maxLen at hm
  obtain ⟨a1, n1, c1, rfl⟩ : ∃ a1 n1 c1, v = .slice a1 n1 c1 := by
    rcases hs with ⟨_, a, cap, rfl, _⟩ | ⟨b, off, cap, rfl, _⟩ <;> exact ⟨_, _, _, rfl⟩
  obtain ⟨a2, n2, c2, rfl⟩ : ∃ a2 n2 c2, u = .slice a2 n2 c2 := by
    rcases hu with ⟨_, a, cap, rfl, _⟩ | ⟨b, off, cap, rfl, _⟩ <;> exact ⟨_, _, _, rfl⟩
  obtain rfl : n1 = l.length := hs.len
  obtain rfl : n2 = l.length := hu.len
  have HS := Lib.hid hs
  have HU := Lib.hid hu
  have hne : ((l.length : Int) != (l.length : Int)) = false := by simp
  clear hs hu
  go_enter Try.func47, Try.ntmps47
  go_wp2
  go_loopw [5] (fun i wr => ∃ k : Nat, k ≤ l.length ∧ i = .int .i64 k ∧ ∃ n, wr = w.drewN n) (fun i _ => l.length - (intOf i).toNat)
  case atStart => exact ⟨0, Nat.zero_le _, rfl, 0, rfl⟩
  case round =>
    obtain ⟨k, hk, rfl, n, rfl⟩ := hrel
    by_cases hlt : k < l.length
    · rcases HS.out with ⟨h0, _⟩ | ⟨b, off, cap, hv, h1, h2, h3, h4⟩
      · rw [h0] at hlt; simp at hlt
      · rcases HU.out with ⟨h0, _⟩ | ⟨b', off', cap', hv', h1', h2', h3', h4'⟩
        · rw [h0] at hlt; simp at hlt
        · simp only [Value.slice.injEq] at hv hv'
          obtain ⟨rfl, _, rfl⟩ := hv
          obtain ⟨rfl, _, rfl⟩ := hv'
          have hc1 : (w.drewN n).cell? ⟨b, off + k, none⟩ = some (.int .u8 (l.getD k 0)) := h4 k hlt
          have hc2 : (w.drewN n).cell? ⟨b', off' + k, none⟩ = some (.int .u8 (l.getD k 0)) := h4' k hlt
          clear h4 h4' h1 h2 h3 h1' h2' h3'
          generalize l.getD k 0 = x at hc1 hc2
          have hxx : (x != x) = false := by simp
          generalize hww : w.drewN n = wn at hc1 hc2 ⊢
          have HW := Lib.hid hww
          clear hww
          go_wp2_with fail
          go_quiet (fail)
          go_wp2
          go_roundw
          case rel => exact ⟨k + 1, by omega, by go_num, _, by rw [← HW.out, World.drewN_drewN]⟩
          case measure => simp [intOf]; omega
    · have : k = l.length := by omega
      subst this
      go_wp2
      go_ret
      exact ⟨rfl, bel_drewN (Below.refl _ _) _⟩

/-- what the laws' at returns -/
def atI (l : List Int) (i : Nat) : Int := if i < l.length then l.getD i 0 else ((i : Int) * 31 + (l.length : Int) * 7) % 256
theorem atI_yes {l : List Int} {i : Nat} (h : i < l.length) : atI l i = l.getD i 0 := if_pos h
theorem atI_no {l : List Int} {i : Nat} (h : ¬ i < l.length) : atI l i = ((i : Int) * 31 + (l.length : Int) * 7) % 256 := if_neg h
theorem atI_bd {l : List Int} (h : ∀ x ∈ l, 0 ≤ x ∧ x ≤ 255) (i : Nat) : 0 ≤ atI l i ∧ atI l i ≤ 255 := by
  by_cases hi : i < l.length
  · rw [atI_yes hi]; exact h _ (by simp [List.getD, hi])
  · rw [atI_no hi]; omega
theorem lawsAtV (v : Value) (l : List Int) (i : Nat) (w : World) (hs : Sl .u8 w v l) (hl : l.length ≤ 1048576) (hi : i ≤ 1000) (hby : ∀ x ∈ l, 0 ≤ x ∧ x ≤ 255) : Calls Try.prog 46 #[v, .int .i64 i] w fun e w' => e = .returned (.int .i64 (atI l i)) ∧ w = w' := by
  obtain ⟨a, c, rfl, hm⟩ := hs.shape
  obtain ⟨hy0, hy1⟩ := atI_bd hby i
  by_cases hlt : i < l.length
  · obtain ⟨b, off, rfl, hb, h4⟩ := hs.at hlt
    have hc1 := h4 i hlt
    rw [← atI_yes hlt] at hc1
    clear h4 hb hs hby
    generalize atI l i = y at hc1 hy0 hy1
    go_enter Try.func46, Try.ntmps46
    go_wp2
    go_ret
    exact ⟨rfl, rfl⟩
  · rw [atI_no hlt]
    clear hs hby hy0 hy1
    go_enter Try.func46, Try.ntmps46
    go_wp2
    go_ret
    exact ⟨rfl, rfl⟩
end Go.Proofs.Ytelcpihbdgikfaa
