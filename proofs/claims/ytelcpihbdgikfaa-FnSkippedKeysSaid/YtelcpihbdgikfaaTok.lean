/- The walks over tokens and their proofs. -/
import Derived.Test.YtelcpihbdgikfaaProg
import Derived.Test.YtelcpihbdgikfaaKeys
import Derived.WalkKit
import Derived.WalkSpells
import Derived.WalkLawsBesides
import Derived.Outline
import Derived.Lib.Hide
import Derived.Deep.RegionHeld3
import Derived.Deep.QuietTactic
import Derived.BigQuiet
import Derived.Deep.DeepFit
namespace Go.Proofs.Ytelcpihbdgikfaa
open Go.RowKit

def inR (n lo hi : Int) : Bool := decide (lo ≤ n) && decide (n ≤ hi)
theorem inR_yes {n lo hi : Int} (h1 : lo ≤ n) (h2 : n ≤ hi) : inR n lo hi = true := by unfold inR; simp [h1, h2]
theorem inR_no {n lo hi : Int} (h : n < lo ∨ hi < n) : inR n lo hi = false := by
  unfold inR
  rcases h with h | h
  · rw [decide_eq_false (by omega)]; rfl
  · rw [decide_eq_false (p := n ≤ hi) (by omega)]; simp
theorem implInR (n lo hi : Int) (w : World) : Calls Try.prog 94 #[.int .i64 n, .int .i64 lo, .int .i64 hi] w fun e w' => e = .returned (.bool (inR n lo hi)) ∧ w = w' := by
  by_cases h1 : lo ≤ n
  · by_cases h2 : n ≤ hi
    · have H := Lib.hid (inR_yes h1 h2)
      go_enter Try.func94, Try.ntmps94
      go_wp2
      go_ret
      exact ⟨ret_bool H.out.symm, rfl⟩
    · have H := Lib.hid (inR_no (n := n) (lo := lo) (hi := hi) (by omega))
      go_enter Try.func94, Try.ntmps94
      go_wp2
      go_ret
      exact ⟨ret_bool H.out.symm, rfl⟩
  · have H := Lib.hid (inR_no (n := n) (lo := lo) (hi := hi) (by omega))
    go_enter Try.func94, Try.ntmps94
    go_wp2
    go_ret
    exact ⟨ret_bool H.out.symm, rfl⟩
theorem implInRis {n lo hi : Int} {b : Bool} (h : inR n lo hi = b) (w : World) : Calls Try.prog 94 #[.int .i64 n, .int .i64 lo, .int .i64 hi] w fun e w' => e = .returned (.bool b) ∧ w = w' := by
  rw [← h]; exact implInR n lo hi w
theorem specInR (n lo hi : Int) (w : World) : Calls Try.prog 108 #[.int .i64 n, .int .i64 lo, .int .i64 hi] w fun e w' => e = .returned (.bool (inR n lo hi)) ∧ w = w' := by
  by_cases h1 : lo ≤ n
  · by_cases h2 : n ≤ hi
    · have H := Lib.hid (inR_yes h1 h2)
      go_enter Try.func108, Try.ntmps108
      go_wp2
      go_ret
      exact ⟨ret_bool H.out.symm, rfl⟩
    · have H := Lib.hid (inR_no (n := n) (lo := lo) (hi := hi) (by omega))
      go_enter Try.func108, Try.ntmps108
      go_wp2
      go_ret
      exact ⟨ret_bool H.out.symm, rfl⟩
  · have H := Lib.hid (inR_no (n := n) (lo := lo) (hi := hi) (by omega))
    go_enter Try.func108, Try.ntmps108
    go_wp2
    go_ret
    exact ⟨ret_bool H.out.symm, rfl⟩
theorem specInRis {n lo hi : Int} {b : Bool} (h : inR n lo hi = b) (w : World) : Calls Try.prog 108 #[.int .i64 n, .int .i64 lo, .int .i64 hi] w fun e w' => e = .returned (.bool b) ∧ w = w' := by
  rw [← h]; exact specInR n lo hi w
/-- two cells of a boxed struct, kept while calls make memory -/
theorem held2 {w W W' : World} {B : Nat} {x y : Value} (h : W.cell? ⟨B, 0, none⟩ = some x ∧ W.cell? ⟨B, 1, none⟩ = some y ∧ B < W.heap.size ∧ Below w.heap.size w W) (hb : Below W.heap.size W W') :
    W'.cell? ⟨B, 0, none⟩ = some x ∧ W'.cell? ⟨B, 1, none⟩ = some y ∧ B < W'.heap.size ∧ Below w.heap.size w W' := by
  obtain ⟨h1, h2, h3, h4⟩ := h
  exact ⟨(hb.cell (p := ⟨B, 0, none⟩) h3).trans h1, (hb.cell (p := ⟨B, 1, none⟩) h3).trans h2, Nat.lt_of_lt_of_le h3 hb.size, bel_seq h4 hb⟩
theorem quiet_same {P : Program} {f : FuncId} {args : Array Value} {w : World} {n : Nat} {v : Value}
    (h : Calls P f args (w.drewN n) fun e w' => e = .returned v ∧ w.drewN n = w') : Calls P f args (w.drewN n) fun e w'' => e = .returned v ∧ ∃ m, w'' = w.drewN m :=
  h.mono fun _ _ ⟨he, hm⟩ => ⟨he, n, hm.symm⟩
theorem held2d {w W : World} {B : Nat} {x y : Value} (h : W.cell? ⟨B, 0, none⟩ = some x ∧ W.cell? ⟨B, 1, none⟩ = some y ∧ B < W.heap.size ∧ Below w.heap.size w W) :
    W.drew.cell? ⟨B, 0, none⟩ = some x ∧ W.drew.cell? ⟨B, 1, none⟩ = some y ∧ B < W.drew.heap.size ∧ Below w.heap.size w W.drew := ⟨h.1, h.2.1, h.2.2.1, h.2.2.2.drew⟩
theorem box2 (w : World) (x y : Value) (e : TypeId) : (w.alloc (.cells #[x, y] e)).cell? ⟨w.heap.size, 0, none⟩ = some x ∧ (w.alloc (.cells #[x, y] e)).cell? ⟨w.heap.size, 1, none⟩ = some y ∧ w.heap.size < (w.alloc (.cells #[x, y] e)).heap.size ∧ Below w.heap.size w (w.alloc (.cells #[x, y] e)) := by
  refine ⟨?_, ?_, by simp, bel_al (Below.refl _ _) _⟩ <;> (rw [cell_of_row _ _ _ _ _ _ (heap_alloc_new w _)]; rfl)
def validTokenI (s n v : Int) : Bool := inR n 0 100000 && !(modI s 1019 == 0) && v == powGroupI (hashToGroupI 101 n) s
theorem toIdentity (a b : Int) (w : World) : Calls Try.prog 39 #[.agg #[.int .i64 a, .int .i64 b]] w fun e w' => e = .returned (.agg #[.int .i64 a, .int .i64 b]) ∧ Below w.heap.size w w' := by
  go_enter Try.func39, Try.ntmps39
  go_wp2
  exact bodyPost_ret (v := .agg #[.int .i64 a, .int .i64 b]) (by simp [results, Try.results39, go_sem]) rfl ⟨rfl, bel_al (bel_al (bel_al (Below.refl _ _) _) _) _⟩
theorem toMailbox (a b c : Int) (w : World) : Calls Try.prog 33 #[.agg #[.int .i64 a, .int .i64 b, .int .i64 c]] w fun e w' => e = .returned (.agg #[.int .i64 a, .int .i64 b, .int .i64 c]) ∧ Below w.heap.size w w' := by
  go_enter Try.func33, Try.ntmps33
  go_wp2
  exact bodyPost_ret (v := .agg #[.int .i64 a, .int .i64 b, .int .i64 c]) (by simp [results, Try.results33, go_sem]) rfl ⟨rfl, bel_al (bel_al (bel_al (Below.refl _ _) _) _) _⟩
/-- the challenge of a proof of equal exponents, and the response -/
def challengeI (l : List Int) : Int := keyedI 97 l % 1019
def proveI (g h s n : Int) : Int × Int :=
  if isGE g && isGE h then
    (challengeI [g, h, powGroupI g s, powGroupI h s, powGroupI g n, powGroupI h n], modI (wrap64 (n - wrap64 (challengeI [g, h, powGroupI g s, powGroupI h s, powGroupI g n, powGroupI h n] * s))) 1019)
  else (0, 0)
def verifyI (g h u v c r : Int) : Bool :=
  isGE g && isGE h && isGE u && isGE v && inR c 0 1018 && inR r 0 1018 &&
    (c == challengeI [g, h, u, v, mulGroupI (powGroupI g r) (powGroupI u c), mulGroupI (powGroupI h r) (powGroupI v c)])
theorem verifyI_no {g h u v c r : Int} (e : (isGE g && isGE h && isGE u && isGE v && inR c 0 1018 && inR r 0 1018) = false) : verifyI g h u v c r = false := by unfold verifyI; rw [e]; rfl
theorem verifyI_yes {g h u v c r : Int} (e : (isGE g && isGE h && isGE u && isGE v && inR c 0 1018 && inR r 0 1018) = true) :
    verifyI g h u v c r = (c == challengeI [g, h, u, v, mulGroupI (powGroupI g r) (powGroupI u c), mulGroupI (powGroupI h r) (powGroupI v c)]) := by unfold verifyI; rw [e]; rfl
end Go.Proofs.Ytelcpihbdgikfaa
