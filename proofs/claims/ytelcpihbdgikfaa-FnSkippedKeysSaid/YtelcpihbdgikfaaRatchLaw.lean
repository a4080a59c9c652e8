/- The walks of EqualRatchets, NewRatchet and of the laws' helpers on ratchets. -/
import Derived.Test.YtelcpihbdgikfaaProg
import Derived.Test.YtelcpihbdgikfaaRatch
namespace Go.Proofs.Ytelcpihbdgikfaa
open Go.RowKit

theorem toRatchet (x s : Int) (v : Value) (n : Nat) (l : List Int) (w : World) (hs : Sk w v n l) (hl : n ≤ 1048576) :
    Calls Try.prog 17 #[.agg #[.int .i64 x, .int .i64 s, v]] w fun e w' => ∃ g, e = .returned (.agg #[.int .i64 x, .int .i64 s, .slice (some ⟨g, 0, none⟩) n n]) ∧ w.heap.size ≤ g ∧ g < w'.heap.size ∧ OwnK w.heap.size w' (some ⟨g, 0, none⟩) n n l ∧ Below w.heap.size w w' := by
  obtain ⟨a, c, rfl, hm⟩ := hs.shape
  go_enter Try.func17, Try.ntmps17
  go_wp2_with fail
  refine (toSkippedKeyS _ n l _ (((hs.alloc _).alloc _).alloc _) hl).mono ?_
  rintro e w1 ⟨g, rfl, hg1, hg2, hown, hb1⟩
  obtain ⟨hc, hf⟩ := bcell hb1
  have hz1 : w.heap.size + 1 < w1.heap.size := by have := hb1.size; simp at this; omega
  have hz2 : w.heap.size + 1 + 1 < w1.heap.size := by have := hb1.size; simp at this; omega
  simp only [World.size_alloc] at hg1 hown
  have B1 := Lib.hid hb1
  have O1 := Lib.hid hown
  clear hb1 hown hs
  go_wp2
  refine bodyPost_ret (v := .agg #[.int .i64 x, .int .i64 s, .slice (some ⟨g, 0, none⟩) n n]) (by simp [results, Try.results17, go_sem, *]) rfl ⟨g, rfl, by omega, ?_, ?_, (by repeat (with_reducible (first | exact Below.refl _ _ | refine bel_al ?_ _ | refine Below.setCell ?_ (by first | (simp; done) | (simp; omega)) _ | refine Below.drew ?_ | refine bel_drewN ?_ _ | refine bel_seq ?_ (B1.out))))⟩
  · simp [World.setCell]; omega
  · refine OwnK.mono (base := w.heap.size + 1 + 1 + 1) ?_ (by omega)
    refine ownK_cells ?_ (by omega) _
    refine ownK_cells ?_ (by omega) _
    refine ownK_cells ?_ (by omega) _
    refine ownK_cells ?_ (by omega) _
    exact O1.out
theorem szRatchet (x s : Int) (v : Value) (n : Nat) (l : List Int) (left : Int) (w : World) (hs : Sk w v n l) (h0 : 0 ≤ left) (h1 : left ≤ 1048576) :
    Calls Try.prog 15 #[.agg #[.int .i64 x, .int .i64 s, v], .int .i64 left] w fun e w' => e = .returned (.int .i64 (if left < n then -1 else left - n)) ∧ Below w.heap.size w w' := by
  obtain ⟨a, c, rfl, hm⟩ := hs.shape
  have CS := szSkippedKeyS _ n l left _ (hs.alloc (.cells #[.int .i64 x, .int .i64 s, .slice a n c] 24)) h0 h1
  clear hs
  by_cases hlt : left < (n : Int)
  · rw [if_pos hlt] at CS ⊢
    have CS' := Lib.hid CS
    clear CS
    go_enter Try.func15, Try.ntmps15
    go_wp2_with fail
    refine CS'.out.mono ?_
    rintro e w' ⟨rfl, rfl⟩
    go_wp2
    go_ret
    exact ⟨rfl, (by repeat (first | exact Below.refl _ _ | refine bel_al ?_ _ | refine Below.setCell ?_ (by first | (simp; done) | (simp; omega)) _ | refine Below.drew ?_ | refine bel_drewN ?_ _))⟩
  · rw [if_neg hlt] at CS ⊢
    have CS' := Lib.hid CS
    clear CS
    go_enter Try.func15, Try.ntmps15
    go_wp2_with fail
    refine CS'.out.mono ?_
    rintro e w' ⟨rfl, rfl⟩
    go_wp2
    go_ret
    exact ⟨rfl, (by repeat (first | exact Below.refl _ _ | refine bel_al ?_ _ | refine Below.setCell ?_ (by first | (simp; done) | (simp; omega)) _ | refine Below.drew ?_ | refine bel_drewN ?_ _))⟩
theorem eqRatchet_yes (x s : Int) (v u : Value) (n : Nat) (l : List Int) (w : World) (hs : Sk w v n l) (hu : Sk w u n l) :
    Calls Try.prog 19 #[.agg #[.int .i64 x, .int .i64 s, v], .agg #[.int .i64 x, .int .i64 s, u]] w fun e w' => e = .returned (.bool true) ∧ Below w.heap.size w w' := by
  obtain ⟨a, c, rfl, hm⟩ := hs.shape
  obtain ⟨a', c', rfl, hm'⟩ := hu.shape
  have CE := Lib.hid (eqSkippedKeyS_yes _ _ n l _ ((hs.alloc (.cells #[.int .i64 x, .int .i64 s, .slice a n c] 28)).alloc (.cells #[.int .i64 x, .int .i64 s, .slice a' n c'] 28)) ((hu.alloc (.cells #[.int .i64 x, .int .i64 s, .slice a n c] 28)).alloc (.cells #[.int .i64 x, .int .i64 s, .slice a' n c'] 28)))
  clear hs hu
  have hne : (x != x) = false := by simp
  have hne2 : (s != s) = false := by simp
  go_enter Try.func19, Try.ntmps19
  go_wp2_with fail
  refine CE.out.mono ?_
  rintro e w1 ⟨rfl, hb1⟩
  go_wp2
  go_ret
  exact ⟨rfl, (by repeat (first | exact Below.refl _ _ | refine bel_al ?_ _ | refine Below.setCell ?_ (by first | (simp; done) | (simp; omega)) _ | refine Below.drew ?_ | refine bel_drewN ?_ _ | refine bel_seq ?_ (hb1)))⟩
theorem markRatchet (x s : Int) (ao : Option Addr) (N cap : Nat) (base : Nat) (l : List Int) (j : Int) (w : World) (ho : OwnK base w ao N cap l) (hN : N ≤ 1048576) (h0 : 0 ≤ j) (h1 : j ≤ 16777216) :
    Calls Try.prog 20 #[.agg #[.int .i64 x, .int .i64 s, .slice ao N cap], .int .i64 j] w fun e w' => e = .returned (.int .i64 (j + 2 * N)) ∧ OwnK base w' ao N cap (marks cvIntS j (2 * N)) ∧ w.grownBy w' (ownB ao) := by
  have CM := Lib.hid (markSkippedKeyS ao N cap base l j _ (ho.alloc (.cells #[.int .i64 x, .int .i64 s, .slice ao N cap] 28)) hN h0 h1)
  clear ho
  go_enter Try.func20, Try.ntmps20
  go_wp2_with fail
  refine CM.out.mono ?_
  rintro e w1 ⟨rfl, ho1, hg1⟩
  have O1 := Lib.hid ho1
  have G1 := Lib.hid hg1
  clear ho1 hg1
  go_wp2
  go_ret
  exact ⟨rfl, O1.out, grown_trans (World.grownBy_alloc _ _ _) G1.out⟩
theorem heldRatchet (x s : Int) (v : Value) (N : Nat) (j : Int) (w : World) (hs : Sk w v N (marks cvIntS j (2 * N))) (hN : N ≤ 1048576) (h0 : 0 ≤ j) (h1 : j ≤ 16777216) :
    Calls Try.prog 21 #[.agg #[.int .i64 x, .int .i64 s, v], .int .i64 j] w fun e w' => e = .returned (.int .i64 (j + 2 * N)) ∧ Below w.heap.size w w' := by
  obtain ⟨a, c, rfl, hm⟩ := hs.shape
  have CH := Lib.hid (heldSkippedKeyS _ N j _ (hs.alloc (.cells #[.int .i64 x, .int .i64 s, .slice a N c] 28)) hN h0 h1)
  clear hs hm
  go_enter Try.func21, Try.ntmps21
  go_wp2_with fail
  refine CH.out.mono ?_
  rintro e w1 ⟨rfl, rfl⟩
  go_wp2
  go_ret
  exact ⟨rfl, (by repeat (first | exact Below.refl _ _ | refine bel_al ?_ _ | refine Below.setCell ?_ (by first | (simp; done) | (simp; omega)) _ | refine Below.drew ?_ | refine bel_drewN ?_ _))⟩
theorem implEqualRatchets (x s y t : Int) (v u : Value) (n m : Nat) (l k : List Int) (w : World) (hs : Sk w v n l) (hu : Sk w u m k) : Calls Try.prog 56 #[.agg #[.int .i64 x, .int .i64 s, v], .agg #[.int .i64 y, .int .i64 t, u]] w fun e w' => e = .returned (.bool (x == y && s == t && l == k)) ∧ Below w.heap.size w w' := by
  obtain ⟨a, c, rfl, hm⟩ := hs.shape
  obtain ⟨a', c', rfl, hm'⟩ := hu.shape
  have CE := Lib.hid (skEqual _ _ _ _ _ _ _ ((hs.alloc (.cells #[.int .i64 x, .int .i64 s, .slice a n c] 28)).alloc (.cells #[.int .i64 y, .int .i64 t, .slice a' m c'] 28)) ((hu.alloc (.cells #[.int .i64 x, .int .i64 s, .slice a n c] 28)).alloc (.cells #[.int .i64 y, .int .i64 t, .slice a' m c'] 28)))
  clear hs hu
  cases h1 : (x == y) <;> cases h2 : (s == t)
  all_goals
    go_enter Try.func56, Try.ntmps56
    go_wp2_with (first | (go_at_call 99; (refine CE.out.mono ?_); rintro e w1 ⟨rfl, hb1⟩))
    go_ret
    refine ⟨ret_bool (by simp), ?_⟩
    repeat (first | exact Below.refl _ _ | refine bel_al ?_ _ | refine bel_seq ?_ hb1)
end Go.Proofs.Ytelcpihbdgikfaa
