/- The walks of the blind tokens: asking, signing, finishing, explaining. -/
import Derived.Test.YtamhlmeopbpjpaaDoorProg
import Derived.Test.YtamhlmeopbpjpaaDoorTok
import Derived.Test.YtamhlmeopbpjpaaDoorGroupPlain
import Derived.WalkKit
import Derived.WalkSpells
import Derived.WalkLawsBesides
import Derived.Outline
import Derived.Lib.Hide
import Derived.Deep.RegionHeld3
import Derived.Deep.QuietTactic
import Derived.BigQuiet
import Derived.Deep.RegionWith
namespace Go.Proofs.YtamhlmeopbpjpaaDoor
open Go.RowKit

def blindI (s b : Int) : Int × Bool := if inR s 0 100000 && !(modI b 1019 == 0) then (powGroupI (hashToGroupI 101 s) b, true) else (0, false)
theorem blindI_no {s b : Int} (h : inR s 0 100000 = false ∨ (modI b 1019 == 0) = true) : blindI s b = (0, false) := by
  unfold blindI; rw [if_neg (by rcases h with h | h <;> simp [h])]
theorem blindI_yes {s b : Int} (h1 : inR s 0 100000 = true) (h2 : (modI b 1019 == 0) = false) : blindI s b = (powGroupI (hashToGroupI 101 s) b, true) := by
  unfold blindI; rw [if_pos (by simp [h1, h2])]
theorem ret_ib {x y : Int} {b c : Bool} (h : (x, b) = (y, c)) : Ending.returned (.tuple #[.agg #[.int .i64 x], .bool b]) = .returned (.tuple #[.agg #[.int .i64 y], .bool c]) := by cases h; rfl
theorem implBlindToken (s b : Int) (w : World) : Calls Tryd.prog 10 #[.int .i64 s, .int .i64 b] w fun e w' => e = .returned (.tuple #[.agg #[.int .i64 (blindI s b).1], .bool (blindI s b).2]) ∧ Below w.heap.size w w' := by
  cases h1 : inR s 0 100000 with
  | false =>
    have HV := Lib.hid (blindI_no (s := s) (b := b) (by simp [*]))
    go_enter Tryd.func10, Tryd.ntmps10
    go_wp2_with (first | (go_at_call 23; (refine (implInR _ _ _ _).mono ?_); rintro e w0 ⟨rfl, rfl⟩) | (go_at_call 24; (refine (implMod _ _ _).mono ?_); rintro e w0 ⟨rfl, rfl⟩))
    exact bodyPost_ret (v := .tuple #[.agg #[.int .i64 0], .bool false]) (by simp [results, Tryd.results10, go_sem]) rfl ⟨ret_ib HV.out.symm, bel_al (Below.refl _ _) _⟩
  | true =>
    cases h2 : (modI b 1019 == 0) with
    | true =>
      have HV := Lib.hid (blindI_no (s := s) (b := b) (by simp [*]))
      go_enter Tryd.func10, Tryd.ntmps10
      go_wp2_with (first | (go_at_call 23; (refine (implInR _ _ _ _).mono ?_); rintro e w0 ⟨rfl, rfl⟩) | (go_at_call 24; (refine (implMod _ _ _).mono ?_); rintro e w0 ⟨rfl, rfl⟩))
      exact bodyPost_ret (v := .tuple #[.agg #[.int .i64 0], .bool false]) (by simp [results, Tryd.results10, go_sem]) rfl ⟨ret_ib HV.out.symm, bel_al (Below.refl _ _) _⟩
    | false =>
      have HV := Lib.hid (blindI_yes h1 h2)
      go_enter Tryd.func10, Tryd.ntmps10
      go_wp2_with (first | (go_at_call 23; (refine (implInR _ _ _ _).mono ?_); rintro e w0 ⟨rfl, rfl⟩) | (go_at_call 24; (refine (implMod _ _ _).mono ?_); rintro e w0 ⟨rfl, rfl⟩) | (go_at_call 25; (refine (implPowGroup _ _ _).mono ?_); rintro e w0 ⟨rfl, rfl⟩) | (go_at_call 26; (refine (implHashToGroup _ _ _).mono ?_); rintro e w1 ⟨rfl, hb1⟩; obtain ⟨hc, hf⟩ := bcell hb1; have B1 := Lib.hid hb1; clear hb1))
      exact bodyPost_ret (v := .tuple #[.agg #[.int .i64 (powGroupI (hashToGroupI 101 s) b)], .bool true]) (by simp [results, Tryd.results10, go_sem, hc]) rfl ⟨ret_ib HV.out.symm, (bel_seq (bel_al (Below.refl _ _) _) B1.out).setCell (Nat.le_refl _) _⟩
theorem specBlindToken (s b : Int) (w : World) : Calls Tryd.prog 32 #[.int .i64 s, .int .i64 b] w fun e w' => e = .returned (.tuple #[.agg #[.int .i64 (blindI s b).1], .bool (blindI s b).2]) ∧ Below w.heap.size w w' := by
  cases h1 : inR s 0 100000 with
  | false =>
    have HV := Lib.hid (blindI_no (s := s) (b := b) (by simp [*]))
    go_enter Tryd.func32, Tryd.ntmps32
    go_wp2_with (first | (go_at_call 42; (refine (specInR _ _ _ _).mono ?_); rintro e w0 ⟨rfl, rfl⟩) | (go_at_call 44; (refine (specMod _ _ _).mono ?_); rintro e w0 ⟨rfl, rfl⟩))
    exact bodyPost_ret (v := .tuple #[.agg #[.int .i64 0], .bool false]) (by simp [results, Tryd.results32, go_sem]) rfl ⟨ret_ib HV.out.symm, bel_al (Below.refl _ _) _⟩
  | true =>
    cases h2 : (modI b 1019 == 0) with
    | true =>
      have HV := Lib.hid (blindI_no (s := s) (b := b) (by simp [*]))
      go_enter Tryd.func32, Tryd.ntmps32
      go_wp2_with (first | (go_at_call 42; (refine (specInR _ _ _ _).mono ?_); rintro e w0 ⟨rfl, rfl⟩) | (go_at_call 44; (refine (specMod _ _ _).mono ?_); rintro e w0 ⟨rfl, rfl⟩))
      exact bodyPost_ret (v := .tuple #[.agg #[.int .i64 0], .bool false]) (by simp [results, Tryd.results32, go_sem]) rfl ⟨ret_ib HV.out.symm, bel_al (Below.refl _ _) _⟩
    | false =>
      have HV := Lib.hid (blindI_yes h1 h2)
      go_enter Tryd.func32, Tryd.ntmps32
      go_wp2_with (first | (go_at_call 42; (refine (specInR _ _ _ _).mono ?_); rintro e w0 ⟨rfl, rfl⟩) | (go_at_call 44; (refine (specMod _ _ _).mono ?_); rintro e w0 ⟨rfl, rfl⟩) | (go_at_call 34; (refine (specPowGroup _ _ _).mono ?_); rintro e w0 ⟨rfl, rfl⟩) | (go_at_call 45; (refine (specHashToGroup _ _ _).mono ?_); rintro e w1 ⟨rfl, hb1⟩; obtain ⟨hc, hf⟩ := bcell hb1; have B1 := Lib.hid hb1; clear hb1))
      exact bodyPost_ret (v := .tuple #[.agg #[.int .i64 (powGroupI (hashToGroupI 101 s) b)], .bool true]) (by simp [results, Tryd.results32, go_sem, hc]) rfl ⟨ret_ib HV.out.symm, (bel_seq (bel_al (Below.refl _ _) _) B1.out).setCell (Nat.le_refl _) _⟩
def signI (s x n : Int) : (Int × Int × Int) × Bool :=
  if isGE x && !(x == 1) && !(modI s 1019 == 0) then ((powGroupI x s, (proveI 4 x s n).1, (proveI 4 x s n).2), true) else ((0, 0, 0), false)
theorem signI_no {s x n : Int} (h : isGE x = false ∨ (x == 1) = true ∨ (modI s 1019 == 0) = true) : signI s x n = ((0, 0, 0), false) := by
  unfold signI; rw [if_neg (by rcases h with h | h | h <;> simp [h])]
theorem signI_yes {s x n : Int} (h1 : isGE x = true) (h2 : (x == 1) = false) (h3 : (modI s 1019 == 0) = false) : signI s x n = ((powGroupI x s, (proveI 4 x s n).1, (proveI 4 x s n).2), true) := by
  unfold signI; rw [if_pos (by simp [h1, h2, h3])]
theorem ret_3b {x y z x' y' z' : Int} {b c : Bool} (h : ((x, y, z), b) = ((x', y', z'), c)) : Ending.returned (.tuple #[.agg #[.int .i64 x, .int .i64 y, .int .i64 z], .bool b]) = .returned (.tuple #[.agg #[.int .i64 x', .int .i64 y', .int .i64 z'], .bool c]) := by cases h; rfl
theorem implSignBlinded (s x n : Int) (w : World) : Calls Tryd.prog 11 #[.int .i64 s, .agg #[.int .i64 x], .int .i64 n] w fun e w' => e = .returned (.tuple #[.agg #[.int .i64 (signI s x n).1.1, .int .i64 (signI s x n).1.2.1, .int .i64 (signI s x n).1.2.2], .bool (signI s x n).2]) ∧ Below w.heap.size w w' := by
  cases h1 : isGE x with
  | false =>
    have HV := Lib.hid (signI_no (s := s) (x := x) (n := n) (by simp [*]))
    go_enter Tryd.func11, Tryd.ntmps11
    go_wp2_with (first | (go_at_call 27; (refine (implIsGroupElement _ _).mono ?_); rintro e w0 ⟨rfl, rfl⟩) | (go_at_call 24; (refine (implMod _ _ _).mono ?_); rintro e w0 ⟨rfl, rfl⟩))
    exact bodyPost_ret (v := .tuple #[.agg #[.int .i64 0, .int .i64 0, .int .i64 0], .bool false]) (by simp [results, Tryd.results11, go_sem]) rfl ⟨ret_3b HV.out.symm, bel_al (bel_al (Below.refl _ _) _) _⟩
  | true =>
    cases h2 : (x == 1) with
    | true =>
      have HV := Lib.hid (signI_no (s := s) (x := x) (n := n) (by simp [*]))
      go_enter Tryd.func11, Tryd.ntmps11
      go_wp2_with (first | (go_at_call 27; (refine (implIsGroupElement _ _).mono ?_); rintro e w0 ⟨rfl, rfl⟩) | (go_at_call 24; (refine (implMod _ _ _).mono ?_); rintro e w0 ⟨rfl, rfl⟩))
      exact bodyPost_ret (v := .tuple #[.agg #[.int .i64 0, .int .i64 0, .int .i64 0], .bool false]) (by simp [results, Tryd.results11, go_sem]) rfl ⟨ret_3b HV.out.symm, bel_al (bel_al (Below.refl _ _) _) _⟩
    | false =>
      cases h3 : (modI s 1019 == 0) with
      | true =>
        have HV := Lib.hid (signI_no (s := s) (x := x) (n := n) (by simp [*]))
        go_enter Tryd.func11, Tryd.ntmps11
        go_wp2_with (first | (go_at_call 27; (refine (implIsGroupElement _ _).mono ?_); rintro e w0 ⟨rfl, rfl⟩) | (go_at_call 24; (refine (implMod _ _ _).mono ?_); rintro e w0 ⟨rfl, rfl⟩))
        exact bodyPost_ret (v := .tuple #[.agg #[.int .i64 0, .int .i64 0, .int .i64 0], .bool false]) (by simp [results, Tryd.results11, go_sem]) rfl ⟨ret_3b HV.out.symm, bel_al (bel_al (Below.refl _ _) _) _⟩
      | false =>
        have HV := Lib.hid (signI_yes (n := n) h1 h2 h3)
        go_enter Tryd.func11, Tryd.ntmps11
        go_wp2_with (first | (go_at_call 27; (refine (implIsGroupElement _ _).mono ?_); rintro e w0 ⟨rfl, rfl⟩) | (go_at_call 24; (refine (implMod _ _ _).mono ?_); rintro e w0 ⟨rfl, rfl⟩) | (go_at_call 25; (refine (implPowGroup _ _ _).mono ?_); rintro e w0 ⟨rfl, rfl⟩) | (go_at_call 28; (refine (implProveEqual _ _ _ _ _).mono ?_); rintro e w1 ⟨rfl, hb1⟩; obtain ⟨hc, hf⟩ := bcell hb1; have B1 := Lib.hid hb1; clear hb1))
        exact bodyPost_ret (v := .tuple #[.agg #[.int .i64 (powGroupI x s), .int .i64 (proveI 4 x s n).1, .int .i64 (proveI 4 x s n).2], .bool true]) (by simp [results, Tryd.results11, go_sem, hc]) rfl ⟨ret_3b HV.out.symm, (((bel_seq (bel_al (bel_al (Below.refl _ _) _) _) B1.out).setCell (by simp) _).setCell (by simp) _).setCell (by simp) _⟩
def finishI (n b k e c r : Int) : (Int × Int) × Bool :=
  if (blindI n b).2 && verifyI 4 (blindI n b).1 k e c r then ((n, powGroupI e (invI b)), true) else ((0, 0), false)
theorem finishI_no {n b k e c r : Int} (h : (blindI n b).2 = false ∨ verifyI 4 (blindI n b).1 k e c r = false) : finishI n b k e c r = ((0, 0), false) := by
  unfold finishI; rw [if_neg (by rcases h with h | h <;> simp [h])]
theorem finishI_yes {n b k e c r : Int} (h1 : (blindI n b).2 = true) (h2 : verifyI 4 (blindI n b).1 k e c r = true) : finishI n b k e c r = ((n, powGroupI e (invI b)), true) := by
  unfold finishI; rw [if_pos (by simp [h1, h2])]
theorem ret_2b {x y x' y' : Int} {b c : Bool} (h : ((x, y), b) = ((x', y'), c)) : Ending.returned (.tuple #[.agg #[.int .i64 x, .int .i64 y], .bool b]) = .returned (.tuple #[.agg #[.int .i64 x', .int .i64 y'], .bool c]) := by cases h; rfl
theorem implFinishToken (n b k e c r : Int) (w : World) : Calls Tryd.prog 13 #[.int .i64 n, .int .i64 b, .int .i64 k, .agg #[.int .i64 e, .int .i64 c, .int .i64 r]] w fun e' w' => e' = .returned (.tuple #[.agg #[.int .i64 (finishI n b k e c r).1.1, .int .i64 (finishI n b k e c r).1.2], .bool (finishI n b k e c r).2]) ∧ Below w.heap.size w w' := by
  cases h1 : (blindI n b).2 with
  | false =>
    have HV := Lib.hid (finishI_no (n := n) (b := b) (k := k) (e := e) (c := c) (r := r) (by simp [*]))
    go_enter Tryd.func13, Tryd.ntmps13
    go_wp2_with (first | (go_at_call 10; (refine (implBlindToken _ _ _).mono ?_); rintro e w1 ⟨rfl, hb1⟩; obtain ⟨hc, hf⟩ := bcell hb1; have B1 := Lib.hid hb1; have hz1 : w.heap.size < w1.heap.size ∧ w.heap.size + 1 < w1.heap.size := (by have := hb1.size; simp at this; omega); obtain ⟨hz1, hz2⟩ := hz1; clear hb1) | (go_at_call 29; (refine (implVerifyEqual _ _ _ _ _ _ _).mono ?_); rintro e w2 ⟨rfl, hb2⟩; obtain ⟨hc2, hf2⟩ := bcell hb2; have B2 := Lib.hid hb2; have hz3 : w1.heap.size < w2.heap.size := (by have := hb2.size; simp at this; omega); clear hb2))
    exact bodyPost_ret (v := .tuple #[.agg #[.int .i64 0, .int .i64 0], .bool false]) (by simp [results, Tryd.results13, go_sem, *]) rfl ⟨ret_2b HV.out.symm, by first | exact (by repeat (first | exact Below.refl _ _ | refine bel_al ?_ _ | refine Below.setCell ?_ (by first | (simp; done) | (simp; omega)) _ | refine Below.drew ?_ | refine bel_drewN ?_ _ | refine bel_seq ?_ (B1.out) | refine bel_seq ?_ (B2.out))) | exact (by repeat (first | exact Below.refl _ _ | refine bel_al ?_ _ | refine Below.setCell ?_ (by first | (simp; done) | (simp; omega)) _ | refine Below.drew ?_ | refine bel_drewN ?_ _ | refine bel_seq ?_ (B1.out)))⟩
  | true =>
    cases h2 : verifyI 4 (blindI n b).1 k e c r with
    | false =>
      have HV := Lib.hid (finishI_no (n := n) (b := b) (k := k) (e := e) (c := c) (r := r) (by simp [*]))
      go_enter Tryd.func13, Tryd.ntmps13
      go_wp2_with (first | (go_at_call 10; (refine (implBlindToken _ _ _).mono ?_); rintro e w1 ⟨rfl, hb1⟩; obtain ⟨hc, hf⟩ := bcell hb1; have B1 := Lib.hid hb1; have hz1 : w.heap.size < w1.heap.size ∧ w.heap.size + 1 < w1.heap.size := (by have := hb1.size; simp at this; omega); obtain ⟨hz1, hz2⟩ := hz1; clear hb1) | (go_at_call 29; (refine (implVerifyEqual _ _ _ _ _ _ _).mono ?_); rintro e w2 ⟨rfl, hb2⟩; obtain ⟨hc2, hf2⟩ := bcell hb2; have B2 := Lib.hid hb2; have hz3 : w1.heap.size < w2.heap.size := (by have := hb2.size; simp at this; omega); clear hb2))
      exact bodyPost_ret (v := .tuple #[.agg #[.int .i64 0, .int .i64 0], .bool false]) (by simp [results, Tryd.results13, go_sem, *]) rfl ⟨ret_2b HV.out.symm, by first | exact (by repeat (first | exact Below.refl _ _ | refine bel_al ?_ _ | refine Below.setCell ?_ (by first | (simp; done) | (simp; omega)) _ | refine Below.drew ?_ | refine bel_drewN ?_ _ | refine bel_seq ?_ (B1.out) | refine bel_seq ?_ (B2.out))) | exact (by repeat (first | exact Below.refl _ _ | refine bel_al ?_ _ | refine Below.setCell ?_ (by first | (simp; done) | (simp; omega)) _ | refine Below.drew ?_ | refine bel_drewN ?_ _ | refine bel_seq ?_ (B1.out)))⟩
    | true =>
      have HV := Lib.hid (finishI_yes h1 h2)
      go_enter Tryd.func13, Tryd.ntmps13
      go_wp2_with (first | (go_at_call 10; (refine (implBlindToken _ _ _).mono ?_); rintro e w1 ⟨rfl, hb1⟩; obtain ⟨hc, hf⟩ := bcell hb1; have B1 := Lib.hid hb1; have hz1 : w.heap.size < w1.heap.size ∧ w.heap.size + 1 < w1.heap.size := (by have := hb1.size; simp at this; omega); obtain ⟨hz1, hz2⟩ := hz1; clear hb1) | (go_at_call 29; (refine (implVerifyEqual _ _ _ _ _ _ _).mono ?_); rintro e w2 ⟨rfl, hb2⟩; obtain ⟨hc2, hf2⟩ := bcell hb2; have B2 := Lib.hid hb2; have hz3 : w1.heap.size < w2.heap.size := (by have := hb2.size; simp at this; omega); clear hb2))
      go_region_with (first | (go_at_call 30; (refine (implInverseExponent _ _).mono ?_); rintro e w0 ⟨rfl, rfl⟩) | (go_at_call 25; (refine (implPowGroup _ _ _).mono ?_); rintro e w0 ⟨rfl, rfl⟩))
      all_goals
        go_wp2
        exact bodyPost_ret (v := .tuple #[.agg #[.int .i64 n, .int .i64 (powGroupI e (invI b))], .bool true]) (by simp [results, Tryd.results13, go_sem, *]) rfl ⟨ret_2b HV.out.symm, (by repeat (first | exact Below.refl _ _ | refine bel_al ?_ _ | refine Below.setCell ?_ (by first | (simp; done) | (simp; omega)) _ | refine Below.drew ?_ | refine bel_drewN ?_ _ | refine bel_seq ?_ (B1.out) | refine bel_seq ?_ (B2.out)))⟩
theorem specFinishToken (n b k e c r : Int) (w : World) : Calls Tryd.prog 17 #[.int .i64 n, .int .i64 b, .int .i64 k, .agg #[.int .i64 e, .int .i64 c, .int .i64 r]] w fun e' w' => e' = .returned (.tuple #[.agg #[.int .i64 (finishI n b k e c r).1.1, .int .i64 (finishI n b k e c r).1.2], .bool (finishI n b k e c r).2]) ∧ Below w.heap.size w w' := by
  cases h1 : (blindI n b).2 with
  | false =>
    have HV := Lib.hid (finishI_no (n := n) (b := b) (k := k) (e := e) (c := c) (r := r) (by simp [*]))
    go_enter Tryd.func17, Tryd.ntmps17
    go_wp2_with (first | (go_at_call 32; (refine (specBlindToken _ _ _).mono ?_); rintro e w1 ⟨rfl, hb1⟩; obtain ⟨hc, hf⟩ := bcell hb1; have B1 := Lib.hid hb1; have hz1 : w.heap.size < w1.heap.size ∧ w.heap.size + 1 < w1.heap.size := (by have := hb1.size; simp at this; omega); obtain ⟨hz1, hz2⟩ := hz1; clear hb1) | (go_at_call 33; (refine (specVerifyEqual _ _ _ _ _ _ _).mono ?_); rintro e w2 ⟨rfl, hb2⟩; obtain ⟨hc2, hf2⟩ := bcell hb2; have B2 := Lib.hid hb2; have hz3 : w1.heap.size < w2.heap.size := (by have := hb2.size; simp at this; omega); clear hb2))
    exact bodyPost_ret (v := .tuple #[.agg #[.int .i64 0, .int .i64 0], .bool false]) (by simp [results, Tryd.results17, go_sem, *]) rfl ⟨ret_2b HV.out.symm, by first | exact (by repeat (first | exact Below.refl _ _ | refine bel_al ?_ _ | refine Below.setCell ?_ (by first | (simp; done) | (simp; omega)) _ | refine Below.drew ?_ | refine bel_drewN ?_ _ | refine bel_seq ?_ (B1.out) | refine bel_seq ?_ (B2.out))) | exact (by repeat (first | exact Below.refl _ _ | refine bel_al ?_ _ | refine Below.setCell ?_ (by first | (simp; done) | (simp; omega)) _ | refine Below.drew ?_ | refine bel_drewN ?_ _ | refine bel_seq ?_ (B1.out)))⟩
  | true =>
    cases h2 : verifyI 4 (blindI n b).1 k e c r with
    | false =>
      have HV := Lib.hid (finishI_no (n := n) (b := b) (k := k) (e := e) (c := c) (r := r) (by simp [*]))
      go_enter Tryd.func17, Tryd.ntmps17
      go_wp2_with (first | (go_at_call 32; (refine (specBlindToken _ _ _).mono ?_); rintro e w1 ⟨rfl, hb1⟩; obtain ⟨hc, hf⟩ := bcell hb1; have B1 := Lib.hid hb1; have hz1 : w.heap.size < w1.heap.size ∧ w.heap.size + 1 < w1.heap.size := (by have := hb1.size; simp at this; omega); obtain ⟨hz1, hz2⟩ := hz1; clear hb1) | (go_at_call 33; (refine (specVerifyEqual _ _ _ _ _ _ _).mono ?_); rintro e w2 ⟨rfl, hb2⟩; obtain ⟨hc2, hf2⟩ := bcell hb2; have B2 := Lib.hid hb2; have hz3 : w1.heap.size < w2.heap.size := (by have := hb2.size; simp at this; omega); clear hb2))
      exact bodyPost_ret (v := .tuple #[.agg #[.int .i64 0, .int .i64 0], .bool false]) (by simp [results, Tryd.results17, go_sem, *]) rfl ⟨ret_2b HV.out.symm, by first | exact (by repeat (first | exact Below.refl _ _ | refine bel_al ?_ _ | refine Below.setCell ?_ (by first | (simp; done) | (simp; omega)) _ | refine Below.drew ?_ | refine bel_drewN ?_ _ | refine bel_seq ?_ (B1.out) | refine bel_seq ?_ (B2.out))) | exact (by repeat (first | exact Below.refl _ _ | refine bel_al ?_ _ | refine Below.setCell ?_ (by first | (simp; done) | (simp; omega)) _ | refine Below.drew ?_ | refine bel_drewN ?_ _ | refine bel_seq ?_ (B1.out)))⟩
    | true =>
      have HV := Lib.hid (finishI_yes h1 h2)
      go_enter Tryd.func17, Tryd.ntmps17
      go_wp2_with (first | (go_at_call 32; (refine (specBlindToken _ _ _).mono ?_); rintro e w1 ⟨rfl, hb1⟩; obtain ⟨hc, hf⟩ := bcell hb1; have B1 := Lib.hid hb1; have hz1 : w.heap.size < w1.heap.size ∧ w.heap.size + 1 < w1.heap.size := (by have := hb1.size; simp at this; omega); obtain ⟨hz1, hz2⟩ := hz1; clear hb1) | (go_at_call 33; (refine (specVerifyEqual _ _ _ _ _ _ _).mono ?_); rintro e w2 ⟨rfl, hb2⟩; obtain ⟨hc2, hf2⟩ := bcell hb2; have B2 := Lib.hid hb2; have hz3 : w1.heap.size < w2.heap.size := (by have := hb2.size; simp at this; omega); clear hb2))
      go_region_with (first | (go_at_call 35; (refine (specInverseExponent _ _).mono ?_); rintro e w0 ⟨rfl, rfl⟩) | (go_at_call 34; (refine (specPowGroup _ _ _).mono ?_); rintro e w0 ⟨rfl, rfl⟩))
      all_goals
        go_wp2
        exact bodyPost_ret (v := .tuple #[.agg #[.int .i64 n, .int .i64 (powGroupI e (invI b))], .bool true]) (by simp [results, Tryd.results17, go_sem, *]) rfl ⟨ret_2b HV.out.symm, (by repeat (first | exact Below.refl _ _ | refine bel_al ?_ _ | refine Below.setCell ?_ (by first | (simp; done) | (simp; omega)) _ | refine Below.drew ?_ | refine bel_drewN ?_ _ | refine bel_seq ?_ (B1.out) | refine bel_seq ?_ (B2.out)))⟩
end Go.Proofs.YtamhlmeopbpjpaaDoor
