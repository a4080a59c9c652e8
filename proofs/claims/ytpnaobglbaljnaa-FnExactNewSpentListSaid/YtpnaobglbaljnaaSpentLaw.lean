/- The walks of the laws' own helpers on lists of spent serial numbers. -/
import Derived.Test.YtpnaobglbaljnaaProg
import Derived.Test.YtpnaobglbaljnaaInts
import Derived.Test.YtpnaobglbaljnaaAsc
import Derived.Test.YtpnaobglbaljnaaLater
namespace Go.Proofs.Ytpnaobglbaljnaa
open Go.RowKit

theorem eqSpentList_yes (x : Int) (v u : Value) (l : List Int) (w : World) (hs : Sl .i64 w v l) (hu : Sl .i64 w u l) :
    Calls Try.prog 29 #[.agg #[.int .i64 x, v], .agg #[.int .i64 x, u]] w fun e w' => e = .returned (.bool true) ∧ Below w.heap.size w w' := by
  obtain ⟨a, c, rfl, hm⟩ := hs.shape
  obtain ⟨a', c', rfl, hm'⟩ := hu.shape
  have CE := Lib.hid (eqIntS_yes _ _ l _ ((hs.alloc (.cells #[.int .i64 x, .slice a l.length c] 28)).alloc (.cells #[.int .i64 x, .slice a' l.length c'] 28)) ((hu.alloc (.cells #[.int .i64 x, .slice a l.length c] 28)).alloc (.cells #[.int .i64 x, .slice a' l.length c'] 28)))
  clear hs hu
  have hne : (x != x) = false := by simp
  go_enter Try.func29, Try.ntmps29
  go_wp2_with fail
  refine CE.out.mono ?_
  rintro e w1 ⟨rfl, hb1⟩
  go_wp2
  go_ret
  exact ⟨rfl, (by repeat (first | exact Below.refl _ _ | refine bel_al ?_ _ | refine Below.setCell ?_ (by first | (simp; done) | (simp; omega)) _ | refine Below.drew ?_ | refine bel_drewN ?_ _ | refine bel_seq ?_ (hb1)))⟩
theorem markSpentList (x : Int) (ao : Option Addr) (N cap : Nat) (base : Nat) (l : List Int) (j : Int) (w : World) (ho : Own .i64 3 base w ao N cap l) (hN : N ≤ 1048576) (h0 : 0 ≤ j) (h1 : j ≤ 16777216) :
    Calls Try.prog 30 #[.agg #[.int .i64 x, .slice ao N cap], .int .i64 j] w fun e w' => e = .returned (.int .i64 (j + N)) ∧ Own .i64 3 base w' ao N cap (marks cvIntS j N) ∧ w.grownBy w' (ownB ao) := by
  have CM := Lib.hid (markIntS ao N cap base l j _ (ho.alloc (.cells #[.int .i64 x, .slice ao N cap] 28)) hN h0 h1)
  clear ho
  go_enter Try.func30, Try.ntmps30
  go_wp2_with fail
  refine CM.out.mono ?_
  rintro e w1 ⟨rfl, ho1, hg1⟩
  have O1 := Lib.hid ho1
  have G1 := Lib.hid hg1
  clear ho1 hg1
  go_wp2
  go_ret
  exact ⟨rfl, O1.out, grown_trans (World.grownBy_alloc _ _ _) G1.out⟩
theorem heldSpentList (x : Int) (v : Value) (N : Nat) (j : Int) (w : World) (hs : Sl .i64 w v (marks cvIntS j N)) (hN : N ≤ 1048576) (h0 : 0 ≤ j) (h1 : j ≤ 16777216) :
    Calls Try.prog 31 #[.agg #[.int .i64 x, v], .int .i64 j] w fun e w' => e = .returned (.int .i64 (j + N)) ∧ Below w.heap.size w w' := by
  obtain ⟨a, c, hv, hm⟩ := hs.shape
  rw [marks_length] at hv
  subst hv
  have CH := Lib.hid (heldIntS _ N j _ (hs.alloc (.cells #[.int .i64 x, .slice a N c] 28)) hN h0 h1)
  clear hs hm
  go_enter Try.func31, Try.ntmps31
  go_wp2_with fail
  refine CH.out.mono ?_
  rintro e w1 ⟨rfl, rfl⟩
  go_wp2
  go_ret
  exact ⟨rfl, (by repeat (first | exact Below.refl _ _ | refine bel_al ?_ _ | refine Below.setCell ?_ (by first | (simp; done) | (simp; omega)) _ | refine Below.drew ?_ | refine bel_drewN ?_ _))⟩
end Go.Proofs.Ytpnaobglbaljnaa
