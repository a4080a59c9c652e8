/- The walks over tokens and their proofs. -/
import Derived.Test.YtamhlmeopbpjpaaDoorProg
import Derived.Test.YtamhlmeopbpjpaaDoorKeys
import Derived.WalkKit
import Derived.WalkSpells
import Derived.WalkLawsBesides
import Derived.Outline
import Derived.Lib.Hide
import Derived.Deep.RegionHeld3
import Derived.Deep.QuietTactic
import Derived.BigQuiet
import Derived.Deep.DeepFit
namespace Go.Proofs.YtamhlmeopbpjpaaDoor
open Go.RowKit

def inR (n lo hi : Int) : Bool := decide (lo ≤ n) && decide (n ≤ hi)
theorem inR_yes {n lo hi : Int} (h1 : lo ≤ n) (h2 : n ≤ hi) : inR n lo hi = true := by unfold inR; simp [h1, h2]
theorem inR_no {n lo hi : Int} (h : n < lo ∨ hi < n) : inR n lo hi = false := by
  unfold inR
  rcases h with h | h
  · rw [decide_eq_false (by omega)]; rfl
  · rw [decide_eq_false (p := n ≤ hi) (by omega)]; simp
theorem implInR (n lo hi : Int) (w : World) : Calls Tryd.prog 23 #[.int .i64 n, .int .i64 lo, .int .i64 hi] w fun e w' => e = .returned (.bool (inR n lo hi)) ∧ w = w' := by
  by_cases h1 : lo ≤ n
  · by_cases h2 : n ≤ hi
    · have H := Lib.hid (inR_yes h1 h2)
      go_enter Tryd.func23, Tryd.ntmps23
      go_wp2
      go_ret
      exact ⟨ret_bool H.out.symm, rfl⟩
    · have H := Lib.hid (inR_no (n := n) (lo := lo) (hi := hi) (by omega))
      go_enter Tryd.func23, Tryd.ntmps23
      go_wp2
      go_ret
      exact ⟨ret_bool H.out.symm, rfl⟩
  · have H := Lib.hid (inR_no (n := n) (lo := lo) (hi := hi) (by omega))
    go_enter Tryd.func23, Tryd.ntmps23
    go_wp2
    go_ret
    exact ⟨ret_bool H.out.symm, rfl⟩
theorem implInRis {n lo hi : Int} {b : Bool} (h : inR n lo hi = b) (w : World) : Calls Tryd.prog 23 #[.int .i64 n, .int .i64 lo, .int .i64 hi] w fun e w' => e = .returned (.bool b) ∧ w = w' := by
  rw [← h]; exact implInR n lo hi w
theorem specInR (n lo hi : Int) (w : World) : Calls Tryd.prog 42 #[.int .i64 n, .int .i64 lo, .int .i64 hi] w fun e w' => e = .returned (.bool (inR n lo hi)) ∧ w = w' := by
  by_cases h1 : lo ≤ n
  · by_cases h2 : n ≤ hi
    · have H := Lib.hid (inR_yes h1 h2)
      go_enter Tryd.func42, Tryd.ntmps42
      go_wp2
      go_ret
      exact ⟨ret_bool H.out.symm, rfl⟩
    · have H := Lib.hid (inR_no (n := n) (lo := lo) (hi := hi) (by omega))
      go_enter Tryd.func42, Tryd.ntmps42
      go_wp2
      go_ret
      exact ⟨ret_bool H.out.symm, rfl⟩
  · have H := Lib.hid (inR_no (n := n) (lo := lo) (hi := hi) (by omega))
    go_enter Tryd.func42, Tryd.ntmps42
    go_wp2
    go_ret
    exact ⟨ret_bool H.out.symm, rfl⟩
theorem specInRis {n lo hi : Int} {b : Bool} (h : inR n lo hi = b) (w : World) : Calls Tryd.prog 42 #[.int .i64 n, .int .i64 lo, .int .i64 hi] w fun e w' => e = .returned (.bool b) ∧ w = w' := by
  rw [← h]; exact specInR n lo hi w
/-- two cells of a boxed struct, kept while calls make memory -/
theorem held2 {w W W' : World} {B : Nat} {x y : Value} (h : W.cell? ⟨B, 0, none⟩ = some x ∧ W.cell? ⟨B, 1, none⟩ = some y ∧ B < W.heap.size ∧ Below w.heap.size w W) (hb : Below W.heap.size W W') :
    W'.cell? ⟨B, 0, none⟩ = some x ∧ W'.cell? ⟨B, 1, none⟩ = some y ∧ B < W'.heap.size ∧ Below w.heap.size w W' := by
  obtain ⟨h1, h2, h3, h4⟩ := h
  exact ⟨(hb.cell (p := ⟨B, 0, none⟩) h3).trans h1, (hb.cell (p := ⟨B, 1, none⟩) h3).trans h2, Nat.lt_of_lt_of_le h3 hb.size, bel_seq h4 hb⟩
theorem quiet_same {P : Program} {f : FuncId} {args : Array Value} {w : World} {n : Nat} {v : Value}
    (h : Calls P f args (w.drewN n) fun e w' => e = .returned v ∧ w.drewN n = w') : Calls P f args (w.drewN n) fun e w'' => e = .returned v ∧ ∃ m, w'' = w.drewN m :=
  h.mono fun _ _ ⟨he, hm⟩ => ⟨he, n, hm.symm⟩
theorem held2d {w W : World} {B : Nat} {x y : Value} (h : W.cell? ⟨B, 0, none⟩ = some x ∧ W.cell? ⟨B, 1, none⟩ = some y ∧ B < W.heap.size ∧ Below w.heap.size w W) :
    W.drew.cell? ⟨B, 0, none⟩ = some x ∧ W.drew.cell? ⟨B, 1, none⟩ = some y ∧ B < W.drew.heap.size ∧ Below w.heap.size w W.drew := ⟨h.1, h.2.1, h.2.2.1, h.2.2.2.drew⟩
theorem box2 (w : World) (x y : Value) (e : TypeId) : (w.alloc (.cells #[x, y] e)).cell? ⟨w.heap.size, 0, none⟩ = some x ∧ (w.alloc (.cells #[x, y] e)).cell? ⟨w.heap.size, 1, none⟩ = some y ∧ w.heap.size < (w.alloc (.cells #[x, y] e)).heap.size ∧ Below w.heap.size w (w.alloc (.cells #[x, y] e)) := by
  refine ⟨?_, ?_, by simp, bel_al (Below.refl _ _) _⟩ <;> (rw [cell_of_row _ _ _ _ _ _ (heap_alloc_new w _)]; rfl)
def validTokenI (s n v : Int) : Bool := inR n 0 100000 && !(modI s 1019 == 0) && v == powGroupI (hashToGroupI 101 n) s
theorem implIsValidToken (s n v : Int) (w : World) : Calls Tryd.prog 15 #[.int .i64 s, .agg #[.int .i64 n, .int .i64 v]] w fun e w' => e = .returned (.bool (validTokenI s n v)) ∧ Below w.heap.size w w' := by
  cases h1 : inR n 0 100000 with
  | false =>
    have HV := Lib.hid (show validTokenI s n v = false by unfold validTokenI; rw [h1]; rfl)
    have HB := box2 w (.int .i64 n) (.int .i64 v) 25
    go_enter Tryd.func15, Tryd.ntmps15
    go_wp2_with fail
    generalize w.alloc (.cells #[.int .i64 n, .int .i64 v] 25) = W0 at HB ⊢
    obtain ⟨g1, g2, g3, g4⟩ := HB
    go_quiet (first | (go_at_call 23; exact quiet_same (implInRis h1 _)))
    go_wp2
    go_ret
    exact ⟨ret_bool HV.out.symm, by first | exact bel_drewN g4 _ | exact g4⟩
  | true =>
    cases h2 : (modI s 1019 == 0) with
    | true =>
      have HV := Lib.hid (show validTokenI s n v = false by unfold validTokenI; rw [h1, h2]; rfl)
      have h2' : (modI s 1019 != 0) = false := by simpa using h2
      have HB := box2 w (.int .i64 n) (.int .i64 v) 25
      go_enter Tryd.func15, Tryd.ntmps15
      go_wp2_with fail
      generalize w.alloc (.cells #[.int .i64 n, .int .i64 v] 25) = W0 at HB ⊢
      obtain ⟨g1, g2, g3, g4⟩ := HB
      go_quiet (first | (go_at_call 23; exact quiet_same (implInRis h1 _)) | (go_at_call 24; exact quiet_same (implMod _ _ _)))
      go_wp2
      go_ret
      exact ⟨ret_bool HV.out.symm, by first | exact bel_drewN g4 _ | exact g4⟩
    | false =>
      have HV := Lib.hid (show validTokenI s n v = (v == powGroupI (hashToGroupI 101 n) s) by unfold validTokenI; rw [h1, h2]; rfl)
      have h2' : (modI s 1019 != 0) = true := by simpa using h2
      have HB := box2 w (.int .i64 n) (.int .i64 v) 25
      go_enter Tryd.func15, Tryd.ntmps15
      go_wp2_with fail
      generalize w.alloc (.cells #[.int .i64 n, .int .i64 v] 25) = W0 at HB ⊢
      obtain ⟨g1, g2, g3, g4⟩ := HB
      go_region_held3 (fun W' => W'.cell? ⟨w.heap.size, 0, none⟩ = some (.int .i64 n) ∧ W'.cell? ⟨w.heap.size, 1, none⟩ = some (.int .i64 v) ∧ w.heap.size < W'.heap.size ∧ Below w.heap.size w W') (first | assumption | (refine held2 ?_ hbh; assumption) | (refine held2d ?_; assumption) | exact held2d ⟨g1, g2, g3, g4⟩) (first | (go_at_call 23; (refine (implInRis h1 _).mono ?_); rintro e w0 ⟨rfl, rfl⟩) | (go_at_call 24; (refine (implMod _ _ _).mono ?_); rintro e w0 ⟨rfl, rfl⟩) | (go_at_call 26; (refine (implHashToGroup _ _ _).mono ?_); rintro e w0 ⟨rfl, hbh⟩) | (go_at_call 25; (refine (implPowGroup _ _ _).mono ?_); rintro e w0 ⟨rfl, rfl⟩))
      rename_i hH
      have hF := hH.2.2.2
      clear hH hbh g1 g2 g3 g4
      go_wp2
      go_ret
      exact ⟨ret_bool HV.out.symm, hF⟩
theorem toToken (a b : Int) (w : World) : Calls Tryd.prog 6 #[.agg #[.int .i64 a, .int .i64 b]] w fun e w' => e = .returned (.agg #[.int .i64 a, .int .i64 b]) ∧ Below w.heap.size w w' := by
  go_enter Tryd.func6, Tryd.ntmps6
  go_wp2
  exact bodyPost_ret (v := .agg #[.int .i64 a, .int .i64 b]) (by simp [results, Tryd.results6, go_sem]) rfl ⟨rfl, bel_al (bel_al (bel_al (Below.refl _ _) _) _) _⟩
/-- the challenge of a proof of equal exponents, and the response -/
def challengeI (l : List Int) : Int := keyedI 97 l % 1019
def proveI (g h s n : Int) : Int × Int :=
  if isGE g && isGE h then
    (challengeI [g, h, powGroupI g s, powGroupI h s, powGroupI g n, powGroupI h n], modI (wrap64 (n - wrap64 (challengeI [g, h, powGroupI g s, powGroupI h s, powGroupI g n, powGroupI h n] * s))) 1019)
  else (0, 0)
def verifyI (g h u v c r : Int) : Bool :=
  isGE g && isGE h && isGE u && isGE v && inR c 0 1018 && inR r 0 1018 &&
    (c == challengeI [g, h, u, v, mulGroupI (powGroupI g r) (powGroupI u c), mulGroupI (powGroupI h r) (powGroupI v c)])
theorem specChallenge (l : List Int) (w : World) (b : Nat) (n c : Nat) (hl : l.length ≤ 1073741824) (hb : b = w.heap.size) (hn : n = l.length) (hc : c = l.length) :
    Calls Tryd.prog 46 #[.slice (some ⟨b, 0, none⟩) n c] (w.alloc (.cells (l.map (Value.int .i64)).toArray 3)) fun e w' => e = .returned (.int .i64 (challengeI l)) ∧ Below w.heap.size w w' := by
  obtain ⟨c1, c2⟩ := keyedI_bd 97 l
  subst hb hn hc
  go_enter Tryd.func46, Tryd.ntmps46
  go_wp2_with (first | (go_at_call 51; (refine (specKeyedLit 97 l w _ _ _ hl rfl rfl rfl).mono ?_); rintro e w1 ⟨rfl, hb1⟩))
  go_ret
  exact ⟨rfl, hb1⟩
theorem implProveEqual (g h s n : Int) (w : World) : Calls Tryd.prog 28 #[.int .i64 g, .int .i64 h, .int .i64 s, .int .i64 n] w fun e w' => e = .returned (.tuple #[.int .i64 (proveI g h s n).1, .int .i64 (proveI g h s n).2]) ∧ Below w.heap.size w w' := by
  cases h1 : isGE g with
  | false =>
    have HV := Lib.hid (show proveI g h s n = (0, 0) by unfold proveI; rw [h1]; rfl)
    go_enter Tryd.func28, Tryd.ntmps28
    go_wp2_with (first | (go_at_call 27; (refine (implIsGroupElement _ _).mono ?_); rintro e w0 ⟨rfl, rfl⟩))
    go_ret2
    exact ⟨ret_two (val_int (congrArg Prod.fst HV.out).symm) (val_int (congrArg Prod.snd HV.out).symm), Below.refl _ _⟩
  | true =>
    cases h2 : isGE h with
    | false =>
      have HV := Lib.hid (show proveI g h s n = (0, 0) by unfold proveI; rw [h1, h2]; rfl)
      go_enter Tryd.func28, Tryd.ntmps28
      go_wp2_with (first | (go_at_call 27; (refine (implIsGroupElement _ _).mono ?_); rintro e w0 ⟨rfl, rfl⟩))
      go_ret2
      exact ⟨ret_two (val_int (congrArg Prod.fst HV.out).symm) (val_int (congrArg Prod.snd HV.out).symm), Below.refl _ _⟩
    | true =>
      have HV := Lib.hid (show proveI g h s n = (challengeI [g, h, powGroupI g s, powGroupI h s, powGroupI g n, powGroupI h n], modI (wrap64 (n - wrap64 (challengeI [g, h, powGroupI g s, powGroupI h s, powGroupI g n, powGroupI h n] * s))) 1019) by unfold proveI; rw [h1, h2]; rfl)
      obtain ⟨c1, c2⟩ := keyedI_bd 97 [g, h, powGroupI g s, powGroupI h s, powGroupI g n, powGroupI h n]
      go_enter Tryd.func28, Tryd.ntmps28
      go_wp2_with (first | (go_at_call 27; (refine (implIsGroupElement _ _).mono ?_); rintro e w0 ⟨rfl, rfl⟩) | (go_at_call 25; (refine (implPowGroup _ _ _).mono ?_); rintro e w0 ⟨rfl, rfl⟩) | (go_at_call 24; (refine (implMod _ _ _).mono ?_); rintro e w0 ⟨rfl, rfl⟩) | (go_at_call 40; (refine (implKeyedLit 97 [g, h, powGroupI g s, powGroupI h s, powGroupI g n, powGroupI h n] w _ _ _ (by simp) rfl rfl rfl).mono ?_); rintro e w1 ⟨rfl, hb1⟩))
      go_ret2
      exact ⟨ret_two (val_int (congrArg Prod.fst HV.out).symm) (val_int (congrArg Prod.snd HV.out).symm), hb1⟩
theorem verifyI_no {g h u v c r : Int} (e : (isGE g && isGE h && isGE u && isGE v && inR c 0 1018 && inR r 0 1018) = false) : verifyI g h u v c r = false := by unfold verifyI; rw [e]; rfl
theorem verifyI_yes {g h u v c r : Int} (e : (isGE g && isGE h && isGE u && isGE v && inR c 0 1018 && inR r 0 1018) = true) :
    verifyI g h u v c r = (c == challengeI [g, h, u, v, mulGroupI (powGroupI g r) (powGroupI u c), mulGroupI (powGroupI h r) (powGroupI v c)]) := by unfold verifyI; rw [e]; rfl
theorem specVerifyEqual (g h u v c r : Int) (w : World) : Calls Tryd.prog 33 #[.int .i64 g, .int .i64 h, .int .i64 u, .int .i64 v, .int .i64 c, .int .i64 r] w fun e w' => e = .returned (.bool (verifyI g h u v c r)) ∧ Below w.heap.size w w' := by
  cases h1 : isGE g with
  | false =>
    have HV := Lib.hid (verifyI_no (g := g) (h := h) (u := u) (v := v) (c := c) (r := r) (by simp [*]))
    go_enter Tryd.func33, Tryd.ntmps33
    go_wp2_with (first | (go_at_call 31; (refine (specIsGroupElement _ _).mono ?_); rintro e w0 ⟨rfl, rfl⟩) | (go_at_call 42; (refine (specInR _ _ _ _).mono ?_); rintro e w0 ⟨rfl, rfl⟩))
    go_ret
    exact ⟨ret_bool HV.out.symm, Below.refl _ _⟩
  | true =>
    cases h2 : isGE h with
    | false =>
      have HV := Lib.hid (verifyI_no (g := g) (h := h) (u := u) (v := v) (c := c) (r := r) (by simp [*]))
      go_enter Tryd.func33, Tryd.ntmps33
      go_wp2_with (first | (go_at_call 31; (refine (specIsGroupElement _ _).mono ?_); rintro e w0 ⟨rfl, rfl⟩) | (go_at_call 42; (refine (specInR _ _ _ _).mono ?_); rintro e w0 ⟨rfl, rfl⟩))
      go_ret
      exact ⟨ret_bool HV.out.symm, Below.refl _ _⟩
    | true =>
      cases h3 : isGE u with
      | false =>
        have HV := Lib.hid (verifyI_no (g := g) (h := h) (u := u) (v := v) (c := c) (r := r) (by simp [*]))
        go_enter Tryd.func33, Tryd.ntmps33
        go_wp2_with (first | (go_at_call 31; (refine (specIsGroupElement _ _).mono ?_); rintro e w0 ⟨rfl, rfl⟩) | (go_at_call 42; (refine (specInR _ _ _ _).mono ?_); rintro e w0 ⟨rfl, rfl⟩))
        go_ret
        exact ⟨ret_bool HV.out.symm, Below.refl _ _⟩
      | true =>
        cases h4 : isGE v with
        | false =>
          have HV := Lib.hid (verifyI_no (g := g) (h := h) (u := u) (v := v) (c := c) (r := r) (by simp [*]))
          go_enter Tryd.func33, Tryd.ntmps33
          go_wp2_with (first | (go_at_call 31; (refine (specIsGroupElement _ _).mono ?_); rintro e w0 ⟨rfl, rfl⟩) | (go_at_call 42; (refine (specInR _ _ _ _).mono ?_); rintro e w0 ⟨rfl, rfl⟩))
          go_ret
          exact ⟨ret_bool HV.out.symm, Below.refl _ _⟩
        | true =>
          cases h5 : inR c 0 1018 with
          | false =>
            have HV := Lib.hid (verifyI_no (g := g) (h := h) (u := u) (v := v) (c := c) (r := r) (by simp [*]))
            go_enter Tryd.func33, Tryd.ntmps33
            go_wp2_with (first | (go_at_call 31; (refine (specIsGroupElement _ _).mono ?_); rintro e w0 ⟨rfl, rfl⟩) | (go_at_call 42; (refine (specInR _ _ _ _).mono ?_); rintro e w0 ⟨rfl, rfl⟩))
            go_ret
            exact ⟨ret_bool HV.out.symm, Below.refl _ _⟩
          | true =>
            cases h6 : inR r 0 1018 with
            | false =>
              have HV := Lib.hid (verifyI_no (g := g) (h := h) (u := u) (v := v) (c := c) (r := r) (by simp [*]))
              go_enter Tryd.func33, Tryd.ntmps33
              go_wp2_with (first | (go_at_call 31; (refine (specIsGroupElement _ _).mono ?_); rintro e w0 ⟨rfl, rfl⟩) | (go_at_call 42; (refine (specInR _ _ _ _).mono ?_); rintro e w0 ⟨rfl, rfl⟩))
              go_ret
              exact ⟨ret_bool HV.out.symm, Below.refl _ _⟩
            | true =>
              have HV := Lib.hid (verifyI_yes (g := g) (h := h) (u := u) (v := v) (c := c) (r := r) (by simp [*]))
              go_enter Tryd.func33, Tryd.ntmps33
              go_wp2_with (first | (go_at_call 31; (refine (specIsGroupElement _ _).mono ?_); rintro e w0 ⟨rfl, rfl⟩) | (go_at_call 42; (refine (specInR _ _ _ _).mono ?_); rintro e w0 ⟨rfl, rfl⟩) | (go_at_call 34; (refine (specPowGroup _ _ _).mono ?_); rintro e w0 ⟨rfl, rfl⟩) | (go_at_call 16; (refine (specMulGroup _ _ _).mono ?_); rintro e w0 ⟨rfl, rfl⟩) | (go_at_call 46; (refine (specChallenge [g, h, u, v, mulGroupI (powGroupI g r) (powGroupI u c), mulGroupI (powGroupI h r) (powGroupI v c)] w _ _ _ (by simp) rfl rfl rfl).mono ?_); rintro e w1 ⟨rfl, hb1⟩))
              go_ret
              exact ⟨ret_bool HV.out.symm, hb1⟩
theorem implVerifyEqual (g h u v c r : Int) (w : World) : Calls Tryd.prog 29 #[.int .i64 g, .int .i64 h, .int .i64 u, .int .i64 v, .int .i64 c, .int .i64 r] w fun e w' => e = .returned (.bool (verifyI g h u v c r)) ∧ Below w.heap.size w w' := by
  go_enter Tryd.func29, Tryd.ntmps29
  go_wp2
  go_loop [23] (fun i => i = .int .i64 0 ∨ (i = .int .i64 1 ∧ isGE g = true) ∨ (i = .int .i64 2 ∧ isGE g = true ∧ isGE h = true) ∨ (i = .int .i64 3 ∧ isGE g = true ∧ isGE h = true ∧ isGE u = true) ∨ (i = .int .i64 4 ∧ isGE g = true ∧ isGE h = true ∧ isGE u = true ∧ isGE v = true)) (fun i => (4 - intOf i).toNat)
  case atStart => exact .inl rfl
  case round =>
    rcases hrel with rfl | ⟨rfl, h1⟩ | ⟨rfl, h1, h2⟩ | ⟨rfl, h1, h2, h3⟩ | ⟨rfl, h1, h2, h3, h4⟩
    · cases h1 : isGE g with
      | false =>
        have HV := Lib.hid (verifyI_no (g := g) (h := h) (u := u) (v := v) (c := c) (r := r) (by simp [*]))
        go_wp2_with (first | (go_at_call 27; (refine (implIsGroupElement _ _).mono ?_); rintro e w0 ⟨rfl, rfl⟩))
        go_ret
        exact ⟨ret_bool HV.out.symm, bel_al (Below.refl _ _) _⟩
      | true =>
        go_wp2_with (first | (go_at_call 27; (refine (implIsGroupElement _ _).mono ?_); rintro e w0 ⟨rfl, rfl⟩))
        go_round
        case rel => exact .inr (.inl ⟨rfl, (by first | assumption | trivial)⟩)
        case measure => simp [intOf]
    · cases h2 : isGE h with
      | false =>
        have HV := Lib.hid (verifyI_no (g := g) (h := h) (u := u) (v := v) (c := c) (r := r) (by simp [*]))
        go_wp2_with (first | (go_at_call 27; (refine (implIsGroupElement _ _).mono ?_); rintro e w0 ⟨rfl, rfl⟩))
        go_ret
        exact ⟨ret_bool HV.out.symm, bel_al (Below.refl _ _) _⟩
      | true =>
        go_wp2_with (first | (go_at_call 27; (refine (implIsGroupElement _ _).mono ?_); rintro e w0 ⟨rfl, rfl⟩))
        go_round
        case rel => exact .inr (.inr (.inl ⟨rfl, (by first | assumption | trivial), (by first | assumption | trivial)⟩))
        case measure => simp [intOf]
    · cases h3 : isGE u with
      | false =>
        have HV := Lib.hid (verifyI_no (g := g) (h := h) (u := u) (v := v) (c := c) (r := r) (by simp [*]))
        go_wp2_with (first | (go_at_call 27; (refine (implIsGroupElement _ _).mono ?_); rintro e w0 ⟨rfl, rfl⟩))
        go_ret
        exact ⟨ret_bool HV.out.symm, bel_al (Below.refl _ _) _⟩
      | true =>
        go_wp2_with (first | (go_at_call 27; (refine (implIsGroupElement _ _).mono ?_); rintro e w0 ⟨rfl, rfl⟩))
        go_round
        case rel => exact .inr (.inr (.inr (.inl ⟨rfl, (by first | assumption | trivial), (by first | assumption | trivial), (by first | assumption | trivial)⟩)))
        case measure => simp [intOf]
    · cases h4 : isGE v with
      | false =>
        have HV := Lib.hid (verifyI_no (g := g) (h := h) (u := u) (v := v) (c := c) (r := r) (by simp [*]))
        go_wp2_with (first | (go_at_call 27; (refine (implIsGroupElement _ _).mono ?_); rintro e w0 ⟨rfl, rfl⟩))
        go_ret
        exact ⟨ret_bool HV.out.symm, bel_al (Below.refl _ _) _⟩
      | true =>
        go_wp2_with (first | (go_at_call 27; (refine (implIsGroupElement _ _).mono ?_); rintro e w0 ⟨rfl, rfl⟩))
        go_round
        case rel => exact .inr (.inr (.inr (.inr (⟨rfl, (by first | assumption | trivial), (by first | assumption | trivial), (by first | assumption | trivial), (by first | assumption | trivial)⟩))))
        case measure => simp [intOf]
    · cases h5 : inR c 0 1018 with
      | false =>
        have HV := Lib.hid (verifyI_no (g := g) (h := h) (u := u) (v := v) (c := c) (r := r) (by simp [*]))
        go_wp2_with (first | (go_at_call 27; (refine (implIsGroupElement _ _).mono ?_); rintro e w0 ⟨rfl, rfl⟩) | (go_at_call 23; (refine (implInR _ _ _ _).mono ?_); rintro e w0 ⟨rfl, rfl⟩) | (go_at_call 25; (refine (implPowGroup _ _ _).mono ?_); rintro e w0 ⟨rfl, rfl⟩) | (go_at_call 41; (refine (implMulGroup _ _ _).mono ?_); rintro e w0 ⟨rfl, rfl⟩))
        go_ret
        exact ⟨ret_bool HV.out.symm, bel_al (Below.refl _ _) _⟩
      | true =>
        cases h6 : inR r 0 1018 with
        | false =>
          have HV := Lib.hid (verifyI_no (g := g) (h := h) (u := u) (v := v) (c := c) (r := r) (by simp [*]))
          go_wp2_with (first | (go_at_call 27; (refine (implIsGroupElement _ _).mono ?_); rintro e w0 ⟨rfl, rfl⟩) | (go_at_call 23; (refine (implInR _ _ _ _).mono ?_); rintro e w0 ⟨rfl, rfl⟩) | (go_at_call 25; (refine (implPowGroup _ _ _).mono ?_); rintro e w0 ⟨rfl, rfl⟩) | (go_at_call 41; (refine (implMulGroup _ _ _).mono ?_); rintro e w0 ⟨rfl, rfl⟩))
          go_ret
          exact ⟨ret_bool HV.out.symm, bel_al (Below.refl _ _) _⟩
        | true =>
          have HV := Lib.hid (verifyI_yes (g := g) (h := h) (u := u) (v := v) (c := c) (r := r) (by simp [*]))
          obtain ⟨k1, k2⟩ := keyedI_bd 97 [g, h, u, v, mulGroupI (powGroupI g r) (powGroupI u c), mulGroupI (powGroupI h r) (powGroupI v c)]
          go_wp2_with (first | (go_at_call 27; (refine (implIsGroupElement _ _).mono ?_); rintro e w0 ⟨rfl, rfl⟩) | (go_at_call 23; (refine (implInR _ _ _ _).mono ?_); rintro e w0 ⟨rfl, rfl⟩) | (go_at_call 25; (refine (implPowGroup _ _ _).mono ?_); rintro e w0 ⟨rfl, rfl⟩) | (go_at_call 41; (refine (implMulGroup _ _ _).mono ?_); rintro e w0 ⟨rfl, rfl⟩) | (go_at_call 40; (refine (implKeyedLit 97 [g, h, u, v, mulGroupI (powGroupI g r) (powGroupI u c), mulGroupI (powGroupI h r) (powGroupI v c)] _ _ _ _ (by simp) (by simp) rfl rfl).mono ?_); rintro e w1 ⟨rfl, hb1⟩))
          go_ret
          exact ⟨ret_bool HV.out.symm, bel_seq (bel_al (Below.refl _ _) _) hb1⟩
end Go.Proofs.YtamhlmeopbpjpaaDoor
