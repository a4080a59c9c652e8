/- The walks of contains and of NewRatchet. -/
import Derived.Test.YtelcpihbdgikfaaProg
import Derived.Test.YtelcpihbdgikfaaRatchLaw
import Derived.Test.YtelcpihbdgikfaaSame
namespace Go.Proofs.Ytelcpihbdgikfaa
open Go.RowKit
set_option linter.unusedVariables false

theorem getD_in {l : List Int} {k : Nat} (h : k < l.length) : l.getD k 0 = l[k] := by simp [List.getD, h]
theorem lawsContains (v : Value) (l : List Int) (n : Int) (w : World) (hs : Sl .i64 w v l) : Calls Try.prog 54 #[v, .int .i64 n] w fun e w' => e = .returned (.bool (decide (n ∈ l))) ∧ w = w' := by
  obtain ⟨a, c, rfl, hm⟩ := hs.shape
  have HS := Lib.hid hs
  clear hs
  go_enter Try.func54, Try.ntmps54
  go_wp2
  go_loopw [5] (fun i wr => ∃ k : Nat, k ≤ l.length ∧ i = .int .i64 k ∧ wr = w ∧ Hid (∀ j, j < k → ¬ l.getD j 0 = n)) (fun i _ => l.length - (intOf i).toNat)
  case atStart => exact ⟨0, Nat.zero_le _, rfl, rfl, Lib.hid (fun j hj => by omega)⟩
  case round =>
    obtain ⟨k, hk, rfl, rfl, HN⟩ := hrel
    by_cases hlt : k < l.length
    · obtain ⟨b, off, rfl, hb, h4⟩ := HS.out.at hlt
      have c0 := h4 k hlt
      obtain ⟨y, hy⟩ : ∃ y, l.getD k 0 = y := ⟨_, rfl⟩
      rw [hy] at c0
      have HY := Lib.hid hy
      have hmem : Hid (y ∈ l) := Lib.hid (by rw [← hy, getD_in hlt]; exact List.getElem_mem hlt)
      have hlt2 : (k : Int) < l.length := by omega
      clear h4 hy hb
      by_cases hyn : y = n
      · subst hyn
        have hd : decide (y ∈ l) = true := decide_eq_true hmem.out
        go_wp2_with fail
        go_ret
        exact ⟨by rw [hd]; rfl, rfl⟩
      · have hyb : (y == n) = false := beq_eq_false_iff_ne.2 hyn
        go_wp2_with fail
        go_roundw
        case rel => exact ⟨k + 1, by omega, by go_num, by trivial, Lib.hid (fun j hj => by
          by_cases hjk : j < k
          · exact HN.out j hjk
          · obtain rfl : j = k := by omega
            rw [HY.out]; exact hyn)⟩
        case measure => simp [intOf]; omega
    · have : k = l.length := by omega
      subst this
      have hd : decide (n ∈ l) = false := decide_eq_false (fun h => by
        obtain ⟨j, hj, e⟩ := List.getElem_of_mem h
        exact HN.out j hj (by rw [getD_in hj]; exact e))
      go_wp2
      go_ret
      exact ⟨by rw [hd]; rfl, rfl⟩
theorem implNewRatchet {a0 : Int} (h : keyB a0 = true) (w : World) : Calls Try.prog 53 #[.int .i64 a0] w fun e w' => e = .returned (.agg #[.int .i64 a0, .int .i64 0, .slice none 0 0]) ∧ Below w.heap.size w w' := by
  go_enter Try.func53, Try.ntmps53
  go_wp2_with (first | (go_at_call 63; (refine (implIsKeyis h _).mono ?_); rintro e w0 ⟨rfl, rfl⟩))
  refine bodyPost_ret (v := .agg #[.int .i64 a0, .int .i64 0, .slice none 0 0]) (by simp [results, Try.results53, go_sem, *]) rfl ⟨rfl, (by repeat (first | exact Below.refl _ _ | refine bel_al ?_ _ | refine Below.setCell ?_ (by first | (simp; done) | (simp; omega)) _ | refine Below.drew ?_ | refine bel_drewN ?_ _))⟩
end Go.Proofs.Ytelcpihbdgikfaa
