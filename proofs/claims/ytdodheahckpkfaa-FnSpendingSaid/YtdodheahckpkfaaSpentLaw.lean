/- The walks of the laws' own helpers on lists of spent serial numbers. -/
import Derived.Test.YtdodheahckpkfaaProg
import Derived.Test.YtdodheahckpkfaaInts
import Derived.Test.YtdodheahckpkfaaAsc
import Derived.Test.YtdodheahckpkfaaLater
namespace Go.Proofs.Ytdodheahckpkfaa
open Go.RowKit

theorem toSpentList (x : Int) (v : Value) (l : List Int) (w : World) (hs : Sl .i64 w v l) (hl : l.length ≤ 1048576) :
    Calls Try.prog 17 #[.agg #[.int .i64 x, v]] w fun e w' => ∃ N g, e = .returned (.agg #[.int .i64 x, .slice (some ⟨g, 0, none⟩) N N]) ∧ N ≤ 1048576 ∧ w.heap.size ≤ g ∧ g < w'.heap.size ∧ Own .i64 3 w.heap.size w' (some ⟨g, 0, none⟩) N N l ∧ Below w.heap.size w w' := by
  obtain ⟨a, c, rfl, hm⟩ := hs.shape
  go_enter Try.func17, Try.ntmps17
  go_wp2_with fail
  refine (toIntS _ l _ (((hs.alloc _).alloc _).alloc _) hl).mono ?_
  rintro e w1 ⟨N, g, rfl, hN, hg1, hg2, hown, hb1⟩
  obtain ⟨hc, hf⟩ := bcell hb1
  have hz1 : w.heap.size + 1 < w1.heap.size := by have := hb1.size; simp at this; omega
  have hz2 : w.heap.size + 1 + 1 < w1.heap.size := by have := hb1.size; simp at this; omega
  simp only [World.size_alloc] at hg1 hown
  have B1 := Lib.hid hb1
  have O1 := Lib.hid hown
  clear hb1 hown hs
  go_wp2
  refine bodyPost_ret (v := .agg #[.int .i64 x, .slice (some ⟨g, 0, none⟩) N N]) (by simp [results, Try.results17, go_sem, *]) rfl ⟨N, g, rfl, hN, by omega, ?_, ?_, (by repeat (first | exact Below.refl _ _ | refine bel_al ?_ _ | refine Below.setCell ?_ (by first | (simp; done) | (simp; omega)) _ | refine Below.drew ?_ | refine bel_drewN ?_ _ | refine bel_seq ?_ (B1.out)))⟩
  · simp [World.setCell]; omega
  · exact (own_cells (own_cells (own_cells O1.out (by omega) _) (by omega) _) (by omega) _).mono (by omega)
theorem szSpentList (x : Int) (v : Value) (l : List Int) (left : Int) (w : World) (hs : Sl .i64 w v l) (h0 : 0 ≤ left) (h1 : left ≤ 1048576) :
    Calls Try.prog 15 #[.agg #[.int .i64 x, v], .int .i64 left] w fun e w' => e = .returned (.int .i64 (if left < l.length then -1 else left - l.length)) ∧ Below w.heap.size w w' := by
  obtain ⟨a, c, rfl, hm⟩ := hs.shape
  have CS := szIntS _ l left _ (hs.alloc (.cells #[.int .i64 x, .slice a l.length c] 24)) h0 h1
  clear hs
  by_cases hlt : left < (l.length : Int)
  · rw [if_pos hlt] at CS ⊢
    have CS' := Lib.hid CS
    clear CS
    go_enter Try.func15, Try.ntmps15
    go_wp2_with fail
    refine CS'.out.mono ?_
    rintro e w' ⟨rfl, rfl⟩
    go_wp2
    go_ret
    exact ⟨rfl, (by repeat (first | exact Below.refl _ _ | refine bel_al ?_ _ | refine Below.setCell ?_ (by first | (simp; done) | (simp; omega)) _ | refine Below.drew ?_ | refine bel_drewN ?_ _))⟩
  · rw [if_neg hlt] at CS ⊢
    have CS' := Lib.hid CS
    clear CS
    go_enter Try.func15, Try.ntmps15
    go_wp2_with fail
    refine CS'.out.mono ?_
    rintro e w' ⟨rfl, rfl⟩
    go_wp2
    go_ret
    exact ⟨rfl, (by repeat (first | exact Below.refl _ _ | refine bel_al ?_ _ | refine Below.setCell ?_ (by first | (simp; done) | (simp; omega)) _ | refine Below.drew ?_ | refine bel_drewN ?_ _))⟩
theorem eqSpentList_yes (x : Int) (v u : Value) (l : List Int) (w : World) (hs : Sl .i64 w v l) (hu : Sl .i64 w u l) :
    Calls Try.prog 19 #[.agg #[.int .i64 x, v], .agg #[.int .i64 x, u]] w fun e w' => e = .returned (.bool true) ∧ Below w.heap.size w w' := by
  obtain ⟨a, c, rfl, hm⟩ := hs.shape
  obtain ⟨a', c', rfl, hm'⟩ := hu.shape
  have CE := Lib.hid (eqIntS_yes _ _ l _ ((hs.alloc (.cells #[.int .i64 x, .slice a l.length c] 27)).alloc (.cells #[.int .i64 x, .slice a' l.length c'] 27)) ((hu.alloc (.cells #[.int .i64 x, .slice a l.length c] 27)).alloc (.cells #[.int .i64 x, .slice a' l.length c'] 27)))
  clear hs hu
  have hne : (x != x) = false := by simp
  go_enter Try.func19, Try.ntmps19
  go_wp2_with fail
  refine CE.out.mono ?_
  rintro e w1 ⟨rfl, hb1⟩
  go_wp2
  go_ret
  exact ⟨rfl, (by repeat (first | exact Below.refl _ _ | refine bel_al ?_ _ | refine Below.setCell ?_ (by first | (simp; done) | (simp; omega)) _ | refine Below.drew ?_ | refine bel_drewN ?_ _ | refine bel_seq ?_ (hb1)))⟩
theorem markSpentList (x : Int) (ao : Option Addr) (N cap : Nat) (base : Nat) (l : List Int) (j : Int) (w : World) (ho : Own .i64 3 base w ao N cap l) (hN : N ≤ 1048576) (h0 : 0 ≤ j) (h1 : j ≤ 16777216) :
    Calls Try.prog 31 #[.agg #[.int .i64 x, .slice ao N cap], .int .i64 j] w fun e w' => e = .returned (.int .i64 (j + N)) ∧ Own .i64 3 base w' ao N cap (marks cvIntS j N) ∧ w.grownBy w' (ownB ao) := by
  have CM := Lib.hid (markIntS ao N cap base l j _ (ho.alloc (.cells #[.int .i64 x, .slice ao N cap] 27)) hN h0 h1)
  clear ho
  go_enter Try.func31, Try.ntmps31
  go_wp2_with fail
  refine CM.out.mono ?_
  rintro e w1 ⟨rfl, ho1, hg1⟩
  have O1 := Lib.hid ho1
  have G1 := Lib.hid hg1
  clear ho1 hg1
  go_wp2
  go_ret
  exact ⟨rfl, O1.out, grown_trans (World.grownBy_alloc _ _ _) G1.out⟩
theorem heldSpentList (x : Int) (v : Value) (N : Nat) (j : Int) (w : World) (hs : Sl .i64 w v (marks cvIntS j N)) (hN : N ≤ 1048576) (h0 : 0 ≤ j) (h1 : j ≤ 16777216) :
    Calls Try.prog 32 #[.agg #[.int .i64 x, v], .int .i64 j] w fun e w' => e = .returned (.int .i64 (j + N)) ∧ Below w.heap.size w w' := by
  obtain ⟨a, c, hv, hm⟩ := hs.shape
  rw [marks_length] at hv
  subst hv
  have CH := Lib.hid (heldIntS _ N j _ (hs.alloc (.cells #[.int .i64 x, .slice a N c] 27)) hN h0 h1)
  clear hs hm
  go_enter Try.func32, Try.ntmps32
  go_wp2_with fail
  refine CH.out.mono ?_
  rintro e w1 ⟨rfl, rfl⟩
  go_wp2
  go_ret
  exact ⟨rfl, (by repeat (first | exact Below.refl _ _ | refine bel_al ?_ _ | refine Below.setCell ?_ (by first | (simp; done) | (simp; omega)) _ | refine Below.drew ?_ | refine bel_drewN ?_ _))⟩
end Go.Proofs.Ytdodheahckpkfaa
