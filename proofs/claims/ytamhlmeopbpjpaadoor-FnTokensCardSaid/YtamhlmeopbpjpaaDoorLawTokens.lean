/- For every code: a token that was signed blindly is valid for its issuer, and for no other; no condition. (The card ties the library's table of powers of ten to the program's text.) -/
import Derived.Test.YtamhlmeopbpjpaaDoorRows
import Derived.Test.YtamhlmeopbpjpaaDoorCards
import Derived.Test.YtamhlmeopbpjpaaDoorTie
import Derived.Test.YtamhlmeopbpjpaaDoorFmtTok
import Derived.Test.YtamhlmeopbpjpaaDoorLaidTab
import Derived.Test.YtamhlmeopbpjpaaDoorTokPlain
import Derived.Test.YtamhlmeopbpjpaaDoorDraw
import Derived.Test.YtamhlmeopbpjpaaDoorOpen
import Derived.SevenTiedAt
import Derived.Deep.RegionHeld3
import Derived.Deep.CutRange
import Derived.Deep.Light
namespace Go.Proofs.YtamhlmeopbpjpaaDoor.fnTokens
open Go.ChangeShapes Go.WideShapes Go.ChangeAt Go.RowKit Go.Joins
set_option linter.unusedVariables false
def Bx3 (W : World) (b : Nat) (v0 v1 v2 : Value) : Prop :=
  W.cell? ⟨b, 0, none⟩ = some v0 ∧ W.cell? ⟨b, 1, none⟩ = some v1 ∧ W.cell? ⟨b, 2, none⟩ = some v2 ∧ W.frozen? ⟨b, 0, none⟩ = false ∧ W.frozen? ⟨b, 1, none⟩ = false ∧ W.frozen? ⟨b, 2, none⟩ = false
theorem Bx3.new (w : World) (v0 v1 v2 : Value) (e : TypeId) : Bx3 (w.alloc (.cells #[v0, v1, v2] e)) w.heap.size v0 v1 v2 := ⟨by simp, by simp, by simp, by simp [go_sem], by simp [go_sem], by simp [go_sem]⟩
theorem Bx3.newD (w : World) (v0 v1 v2 : Value) (e : TypeId) : Bx3 (w.alloc (.cells #[v0, v1, v2] e)).drew w.heap.size v0 v1 v2 := Bx3.new w v0 v1 v2 e
theorem Bx3.lt {W : World} {b : Nat} {v0 v1 v2 : Value} (h : Bx3 W b v0 v1 v2) : b < W.heap.size := World.block_lt_of_cell? W _ h.1
theorem Bx3.below {W W' : World} {b : Nat} {v0 v1 v2 : Value} (h : Bx3 W b v0 v1 v2) (hB : Below W.heap.size W W') : Bx3 W' b v0 v1 v2 := by
  have hb := h.lt
  obtain ⟨h0, h1, h2, f0, f1, f2⟩ := h
  exact ⟨(hB.cell (p := ⟨b, 0, none⟩) hb).trans h0, (hB.cell (p := ⟨b, 1, none⟩) hb).trans h1, (hB.cell (p := ⟨b, 2, none⟩) hb).trans h2, (hB.frozen (p := ⟨b, 0, none⟩) hb).trans f0, (hB.frozen (p := ⟨b, 1, none⟩) hb).trans f1, (hB.frozen (p := ⟨b, 2, none⟩) hb).trans f2⟩
def Bx2 (W : World) (b : Nat) (v0 v1 : Value) : Prop :=
  W.cell? ⟨b, 0, none⟩ = some v0 ∧ W.cell? ⟨b, 1, none⟩ = some v1 ∧ W.frozen? ⟨b, 0, none⟩ = false ∧ W.frozen? ⟨b, 1, none⟩ = false
theorem Bx2.new (w : World) (v0 v1 : Value) (e : TypeId) : Bx2 (w.alloc (.cells #[v0, v1] e)) w.heap.size v0 v1 := ⟨by simp, by simp, by simp [go_sem], by simp [go_sem]⟩
theorem Bx2.newD (w : World) (v0 v1 : Value) (e : TypeId) : Bx2 (w.alloc (.cells #[v0, v1] e)).drew w.heap.size v0 v1 := Bx2.new w v0 v1 e
theorem Bx2.lt {W : World} {b : Nat} {v0 v1 : Value} (h : Bx2 W b v0 v1) : b < W.heap.size := World.block_lt_of_cell? W _ h.1
theorem Bx2.below {W W' : World} {b : Nat} {v0 v1 : Value} (h : Bx2 W b v0 v1) (hB : Below W.heap.size W W') : Bx2 W' b v0 v1 := by
  have hb := h.lt
  obtain ⟨h0, h1, f0, f1⟩ := h
  exact ⟨(hB.cell (p := ⟨b, 0, none⟩) hb).trans h0, (hB.cell (p := ⟨b, 1, none⟩) hb).trans h1, (hB.frozen (p := ⟨b, 0, none⟩) hb).trans f0, (hB.frozen (p := ⟨b, 1, none⟩) hb).trans f1⟩
theorem Bx3.alloc {W : World} {b : Nat} {v0 v1 v2 : Value} (h : Bx3 W b v0 v1 v2) (o : Obj) : Bx3 (W.alloc o) b v0 v1 v2 := h.below (bel_al (Below.refl _ _) o)
theorem Bx2.alloc {W : World} {b : Nat} {v0 v1 : Value} (h : Bx2 W b v0 v1) (o : Obj) : Bx2 (W.alloc o) b v0 v1 := h.below (bel_al (Below.refl _ _) o)
theorem Bx3.other {W : World} {b : Nat} {v0 v1 v2 : Value} (h : Bx3 W b v0 v1 v2) {b' : Nat} (hne : ¬ b' = b) (o : Nat) (u : Value) : Bx3 (W.setCell ⟨b', o, none⟩ u) b v0 v1 v2 := by
  have hne2 : ¬ b = b' := fun e => hne e.symm
  obtain ⟨h0, h1, h2, f0, f1, f2⟩ := h
  refine ⟨?_, ?_, ?_, ?_, ?_, ?_⟩ <;> simp [go_sem, *]
theorem Bx2.other {W : World} {b : Nat} {v0 v1 : Value} (h : Bx2 W b v0 v1) {b' : Nat} (hne : ¬ b' = b) (o : Nat) (u : Value) : Bx2 (W.setCell ⟨b', o, none⟩ u) b v0 v1 := by
  have hne2 : ¬ b = b' := fun e => hne e.symm
  obtain ⟨h0, h1, f0, f1⟩ := h
  refine ⟨?_, ?_, ?_, ?_⟩ <;> simp [go_sem, *]
theorem Bx2.put1 {W : World} {b : Nat} {v0 v1 : Value} (h : Bx2 W b v0 v1) (u : Value) : Bx2 (W.setCell ⟨b, 1, none⟩ u) b v0 u := by
  obtain ⟨h0, h1, f0, f1⟩ := h
  refine ⟨?_, ?_, ?_, ?_⟩ <;> simp [go_sem, *]
/-- a result of three numbers, or of two, lies in the box sp, made since w1 -/
def Rb3 (w1 wx : World) (x y z : Int) (sp : Value) : Prop := ∃ B, sp = .pointer (some ⟨B, 0, none⟩) ∧ Bx3 wx B (.int .i64 x) (.int .i64 y) (.int .i64 z) ∧ Below w1.heap.size w1 wx
def Rb2 (w1 wx : World) (x y : Int) (sp : Value) : Prop := ∃ B, sp = .pointer (some ⟨B, 0, none⟩) ∧ Bx2 wx B (.int .i64 x) (.int .i64 y) ∧ Below w1.heap.size w1 wx
theorem rb3_alloc {w1 w3 w4 : World} {x y z : Int} (h : Below w1.heap.size w1 w4) (h3 : w3 = w4.alloc (.cells #[.int .i64 x, .int .i64 y, .int .i64 z] 37)) : Rb3 w1 w3 x y z (.pointer (some ⟨w4.heap.size, 0, none⟩)) := by
  subst h3; exact ⟨_, rfl, Bx3.new _ _ _ _ _, bel_al h _⟩
theorem rb2_alloc {w1 w3 w4 : World} {x y : Int} (h : Below w1.heap.size w1 w4) (h3 : w3 = w4.alloc (.cells #[.int .i64 x, .int .i64 y] 25)) : Rb2 w1 w3 x y (.pointer (some ⟨w4.heap.size, 0, none⟩)) := by
  subst h3; exact ⟨_, rfl, Bx2.new _ _ _ _, bel_al h _⟩
theorem rb3_set {w1 w3 w4 : World} {x y z : Int} {B : Nat} {u0 u1 u2 : Value} (h : Below w1.heap.size w1 w4) (hB : w1.heap.size ≤ B) (T : Bx3 w4 B u0 u1 u2) (h3 : w3 = ((w4.setCell ⟨B, 0, none⟩ (.int .i64 x)).setCell ⟨B, 1, none⟩ (.int .i64 y)).setCell ⟨B, 2, none⟩ (.int .i64 z)) : Rb3 w1 w3 x y z (.pointer (some ⟨B, 0, none⟩)) := by
  subst h3
  refine ⟨_, rfl, ?_, ((h.setCell hB _).setCell hB _).setCell hB _⟩
  obtain ⟨h0, h1, h2, f0, f1, f2⟩ := T
  refine ⟨?_, ?_, ?_, ?_, ?_, ?_⟩ <;> simp [go_sem, *]
theorem rb2_set {w1 w3 w4 : World} {x y : Int} {B : Nat} {u0 u1 : Value} (h : Below w1.heap.size w1 w4) (hB : w1.heap.size ≤ B) (T : Bx2 w4 B u0 u1) (h3 : w3 = (w4.setCell ⟨B, 0, none⟩ (.int .i64 x)).setCell ⟨B, 1, none⟩ (.int .i64 y)) : Rb2 w1 w3 x y (.pointer (some ⟨B, 0, none⟩)) := by
  subst h3
  refine ⟨_, rfl, ?_, (h.setCell hB _).setCell hB _⟩
  obtain ⟨h0, h1, f0, f1⟩ := T
  refine ⟨?_, ?_, ?_, ?_⟩ <;> simp [go_sem, *]
theorem bel1 {p0 e : Prop} (h : p0 ∧ e) : e := h.2
theorem keep1 {W W' : World} {a0 : Addr} {u0 : Value} (hb : Below W.heap.size W W') (h0 : W.cell? a0 = some u0) : W'.cell? a0 = some u0 ∧ Below W.heap.size W W' := ⟨later0 hb h0, hb⟩
/-- what is known of the values, with names for the great ones -/
structure TV (s n b x v e k : Int) : Prop where
  key : powGroupI 4 s = k
  blind : blindI n b = (x, true)
  sign : ∀ m : Int, 0 ≤ m → m ≤ 100000 → ∃ c r : Int, signI s x m = ((e, c, r), true) ∧ finishI n b k e c r = ((n, v), true)
  valid : validTokenI s n v = true
  bad : validTokenI s n (mulGroupI v 4) = false
  other : ∀ o : Int, 1 ≤ o → o ≤ 1018 → ¬ o = s → validTokenI o n v = false
  v0 : 0 ≤ v
  v1 : v ≤ 2038
theorem tv {s n b : Int} (s0 : 1 ≤ s) (s1 : s ≤ 1018) (n0 : 0 ≤ n) (n1 : n < 5000) (b0 : 1 ≤ b) (b1 : b ≤ 1018) : ∃ x v e k : Int, TV s n b x v e k :=
  ⟨_, _, _, _, rfl, blind_val n0 (by omega) b0 b1, fun m m0 m1 => tok_sign s0 s1 n0 n1 b0 b1 m0 m1, tok_valid s0 s1 n0 n1, tok_bad, fun o o0 o1 ho => tok_other s0 s1 o0 o1 ho, (pg_bd (hg_ge 101 n)).1, (pg_bd (hg_ge 101 n)).2⟩
set_option maxRecDepth 100000 in
set_option maxHeartbeats 4000000 in
theorem walk (v : Value) (l : List Int) (w : World) (hs : Sl .u8 w v l) (hby : ∀ x ∈ l, (Lit.int .u8 x).wf = true) (ht : Tab w) : Calls Tryd.prog 4 #[v] w fun e w' => e = .returned (.bool true) ∧ Below w.heap.size w w' := by
  obtain ⟨a, c, rfl, hm⟩ := hs.shape
  have HS := Lib.hid hs
  have HT := Lib.hid ht
  have HB : Hid (∀ x ∈ l, 0 ≤ x ∧ x ≤ 255) := Lib.hid (bytes_of_wf hby)
  clear hs hby ht
  by_cases hbig : (1048576 : Int) < (l.length : Int)
  · go_enter Tryd.func4, Tryd.ntmps4
    go_wp2_with (first | (go_at_call 8; (refine (lawsBig _ l _ HS.out).mono ?_); rintro e w0 ⟨rfl, rfl⟩))
    go_ret
    exact ⟨rfl, Below.refl _ _⟩
  · have hl : l.length ≤ 1048576 := by omega
    go_enter Tryd.func4, Tryd.ntmps4
    go_wp2_with (first | (go_at_call 8; (refine (lawsBig _ l _ HS.out).mono ?_); rintro e w0 ⟨rfl, rfl⟩))
    refine (drawIssuing _ l _ HS.out hl HB.out).mono ?_
    rintro e w1 ⟨s, n, b, rfl, s0, s1, n0, n1, b0, b1, hb1⟩
    obtain ⟨x, tv, ee, ky, hTV⟩ := tv s0 s1 n0 n1 b0 b1
    have HV := Lib.hid hTV
    clear hTV
    have CB := Lib.hid (fun W => by have := implBlindToken n b W; rw [HV.out.blind] at this; exact this)
    have B1 := Lib.hid hb1
    clear hb1
    go_wp2_with fail
    refine (CB.out _).mono ?_
    rintro e w2 ⟨rfl, hb2⟩
    have B2 := Lib.hid (bel_al (bel_seq B1.out hb2) (.cells #[.int .i64 x] 33))
    have r0 : (w2.alloc (.cells #[.int .i64 x] 33)).cell? ⟨w2.heap.size, 0, none⟩ = some (.int .i64 x) := by simp
    clear hb2 B1 CB
    go_wp2_with fail
    generalize w2.alloc (.cells #[.int .i64 x] 33) = W2 at B2 r0 ⊢
    generalize w2.heap.size = R at r0 ⊢
    have hlen : l.length ≤ 1048576 := hl
    have CAt := Lib.hid (fun W (h : Below w.heap.size w W) => lawsAt _ l 0 W (HS.out.below h) hlen (by omega) HB.out)
    have CSG : Hid (∀ y : Int, 0 ≤ y → y ≤ 255 → ∃ cc rr : Int, Hid (finishI n b ky ee cc rr = ((n, tv), true)) ∧ ∀ W, Calls Tryd.prog 11 #[.int .i64 s, .agg #[.int .i64 x], .int .i64 (IntKind.i64.wrap (y * 3))] W fun e w' => e = .returned (.tuple #[.agg #[.int .i64 ee, .int .i64 cc, .int .i64 rr], .bool true]) ∧ Below W.heap.size W w') := Lib.hid (fun y m0 m1 => by
      obtain ⟨cc, rr, h1, h2⟩ := HV.out.sign (y * 3) (by omega) (by omega)
      exact ⟨cc, rr, Lib.hid h2, fun W => by have := implSignBlinded s x (y * 3) W; rw [h1] at this; rw [show IntKind.i64.wrap (y * 3) = y * 3 by rw [IntKind.wrap_i64]; omega]; exact this⟩)
    clear hlen
    go_cut [8, 9] from 33 to 40 (fun sp bv wx => bv = .bool true ∧ ∃ cc rr : Int, Hid (finishI n b ky ee cc rr = ((n, tv), true)) ∧ Rb3 W2 wx ee cc rr sp)
    case first =>
      first
      | go_region_held3 (fun W' => W'.cell? ⟨R, 0, none⟩ = some (.int .i64 x) ∧ Below W2.heap.size W2 W') (first | assumption | with_reducible exact keep1 h1C r0 | with_reducible exact keep1 (bel_al h1C _) r0 | with_reducible exact keep1 (bel_al h1C _).drew r0 | with_reducible exact keep1 h1C.drew r0 | with_reducible exact keep1 (Below.refl _ _).drew r0 | with_reducible exact keep1 (bel_al (Below.refl _ _).drew _) r0 | with_reducible exact keep1 (bel_al (Below.refl _ _).drew _).drew r0 | with_reducible exact keep1 (Below.refl _ _).drew.drew r0 | with_reducible exact keep1 (Below.refl _ _) r0 | with_reducible exact keep1 (bel_al (Below.refl _ _) _) r0 | with_reducible exact keep1 (bel_al (Below.refl _ _) _).drew r0 | with_reducible exact keep1 (Below.refl _ _).drew r0 | with_reducible exact keep1 (((h1C.setCell (by first | exact Nat.le_refl _ | omega) _).setCell (by first | exact Nat.le_refl _ | omega) _).setCell (by first | exact Nat.le_refl _ | omega) _) r0) (first | (go_at_call 12; (refine (CAt.out _ (bel_seq B2.out (bel1 ‹_›))).mono ?_); rintro e w4 ⟨y, rfl, hy0, hy1, rfl⟩) | (go_at_call 11; (obtain ⟨cc, rr, hfi, hcg⟩ := CSG.out y hy0 hy1); (refine (hcg _).mono ?_); clear hcg; rintro e wC ⟨rfl, hbC⟩; have h1C : Below W2.heap.size W2 wC := bel_seq (bel1 ‹_›) hbC; (first | have TD := (Bx3.new W2 (.int .i64 0) (.int .i64 0) (.int .i64 0) 37).below hbC | have TD := (Bx3.newD W2 (.int .i64 0) (.int .i64 0) (.int .i64 0) 37).below hbC | skip); (first | (have hzq := TD.lt; obtain ⟨tq0, tq1, tq2, tr0, tr1, tr2⟩ := TD) | skip)) | fail)
      | fail
      all_goals
        go_wp2_with fail
        go_meet
        case rel =>
          first
          | exact ⟨rfl, cc, rr, hfi, rb3_alloc h1C rfl⟩
          | exact ⟨rfl, cc, rr, hfi, rb3_set h1C (by first | exact Nat.le_refl _ | omega | (simp; done) | (simp; omega)) ⟨tq0, tq1, tq2, tr0, tr1, tr2⟩ rfl⟩
    case rest =>
      obtain ⟨w5, rfl⟩ : ∃ q, q = wc := ⟨wc, rfl⟩
      obtain ⟨rfl, cc, rr, hfi, P, rfl, hP, hb5⟩ := hcut
      have B5 := Lib.hid (bel_seq B2.out hb5)
      have P5 := Lib.hid hP
      obtain ⟨p0, p1, p2, _, _, _⟩ := P5.out
      have CF := Lib.hid (fun W => by have := implFinishToken n b ky ee cc rr W; rw [hfi.out] at this; exact this)
      have CI := Lib.hid (fun W => by have := implIssuerKey s W; rw [HV.out.key] at this; exact this)
      clear hP hb5 B2 r0 CSG hfi CAt
      go_wp2_with fail
      go_cut [10, 11] from 42 to 49 (fun sp bv wx => bv = .bool true ∧ Rb2 w5 wx n tv sp)
      case first =>
        first
        | go_region_held3 (fun W' => W'.cell? ⟨P, 0, none⟩ = some (.int .i64 ee) ∧ W'.cell? ⟨P, 1, none⟩ = some (.int .i64 cc) ∧ W'.cell? ⟨P, 2, none⟩ = some (.int .i64 rr) ∧ Below w5.heap.size w5 W') (first | assumption | with_reducible exact keep3 h1C p0 p1 p2 | with_reducible exact keep3 (bel_al h1C _) p0 p1 p2 | with_reducible exact keep3 (bel_al h1C _).drew p0 p1 p2 | with_reducible exact keep3 h1C.drew p0 p1 p2 | with_reducible exact keep3 (Below.refl _ _).drew p0 p1 p2 | with_reducible exact keep3 (bel_al (Below.refl _ _).drew _) p0 p1 p2 | with_reducible exact keep3 (bel_al (Below.refl _ _).drew _).drew p0 p1 p2 | with_reducible exact keep3 (Below.refl _ _).drew.drew p0 p1 p2 | with_reducible exact keep3 (Below.refl _ _) p0 p1 p2 | with_reducible exact keep3 (bel_al (Below.refl _ _) _) p0 p1 p2 | with_reducible exact keep3 (bel_al (Below.refl _ _) _).drew p0 p1 p2 | with_reducible exact keep3 (Below.refl _ _).drew p0 p1 p2 | with_reducible exact keep3 ((h1C.setCell (by first | exact Nat.le_refl _ | omega) _).setCell (by first | exact Nat.le_refl _ | omega) _) p0 p1 p2) (first | (go_at_call 14; (refine (CI.out _).mono ?_); rintro e w4 ⟨rfl, rfl⟩) | (go_at_call 13; (refine (CF.out _).mono ?_); rintro e wC ⟨rfl, hbC⟩; have h1C : Below w5.heap.size w5 wC := bel_seq (bel3 ‹_›) hbC; (first | have TD := (Bx2.new w5 (.int .i64 0) (.int .i64 0) 25).below hbC | have TD := (Bx2.newD w5 (.int .i64 0) (.int .i64 0) 25).below hbC | skip); (first | (have hzq := TD.lt; obtain ⟨tq0, tq1, tr0, tr1⟩ := TD) | skip)) | fail)
        | fail
        all_goals
          go_wp2_with fail
          go_meet
          case rel =>
            first
            | exact ⟨rfl, rb2_alloc h1C rfl⟩
            | exact ⟨rfl, rb2_set h1C (by first | exact Nat.le_refl _ | omega | (simp; done) | (simp; omega)) ⟨tq0, tq1, tr0, tr1⟩ rfl⟩
      case rest =>
        obtain ⟨w6, rfl⟩ : ∃ q, q = wc := ⟨wc, rfl⟩
        obtain ⟨rfl, Q, rfl, hQ, hb6⟩ := hcut
        have B6 := Lib.hid (bel_seq B5.out hb6)
        have P6 := Lib.hid (P5.out.below hb6)
        have Q6 := Lib.hid hQ
        obtain ⟨q0, q1, _, _⟩ := Q6.out
        have CV := Lib.hid (fun W => by have := implIsValidToken s n tv W; rw [HV.out.valid] at this; exact this)
        have hnn : (n != n) = false := by simp
        clear hQ hb6 B5 P5 p0 p1 p2 CF CI
        go_wp2_with fail
        refine (CV.out _).mono ?_
        rintro e w7 ⟨rfl, hb7⟩
        have B7 := Lib.hid (bel_seq B6.out hb7)
        have P7 := Lib.hid (P6.out.below hb7)
        have Q7 := Lib.hid (Q6.out.below hb7)
        clear hb7 B6 P6 Q6 q0 q1 CV
        obtain ⟨p0, p1, p2, _, _, _⟩ := P7.out
        obtain ⟨q0, q1, _, _⟩ := Q7.out
        obtain ⟨o, ho⟩ : ∃ o, o = s % 1018 := ⟨_, rfl⟩
        have ho0 : 0 ≤ o := by omega
        have ho1 : o ≤ 1017 := by omega
        have hos : ¬ 1 + o = s := by omega
        have htm : s.tmod 1018 = o := by rw [Int.tmod_eq_emod_of_nonneg (by omega)]; omega
        have htm2 : s % 1018 = o := ho.symm
        clear ho
        have CF1 := Lib.hid (fun W => implFinishToken n b (powGroupI 4 (1 + o)) ee cc rr W)
        have CF2 := Lib.hid (fun W => specFinishToken n b (powGroupI 4 (1 + o)) ee cc rr W)
        have CI1 := Lib.hid (fun W => implIssuerKey (1 + o) W)
        have CI2 := Lib.hid (fun W => specIssuerKey (1 + o) W)
        generalize powGroupI 4 (1 + o) = ko at CF1 CF2 CI1 CI2
        obtain ⟨⟨⟨g0, g1⟩, gb⟩, hg⟩ : ∃ q, finishI n b ko ee cc rr = q := ⟨_, rfl⟩
        rw [hg] at CF1 CF2
        clear hg
        go_wp2_with fail
        go_cut [14] from 76 to 83 (fun bv wx => bv = .bool gb ∧ Below w7.heap.size w7 wx)
        case first =>
          first
          | go_region_held3 (fun W' => W'.cell? ⟨P, 0, none⟩ = some (.int .i64 ee) ∧ W'.cell? ⟨P, 1, none⟩ = some (.int .i64 cc) ∧ W'.cell? ⟨P, 2, none⟩ = some (.int .i64 rr) ∧ Below w7.heap.size w7 W') (first | assumption | with_reducible exact keep3 h1C p0 p1 p2 | with_reducible exact keep3 (bel_al h1C _) p0 p1 p2 | with_reducible exact keep3 (bel_al h1C _).drew p0 p1 p2 | with_reducible exact keep3 h1C.drew p0 p1 p2 | with_reducible exact keep3 (Below.refl _ _).drew p0 p1 p2 | with_reducible exact keep3 (bel_al (Below.refl _ _).drew _) p0 p1 p2 | with_reducible exact keep3 (bel_al (Below.refl _ _).drew _).drew p0 p1 p2 | with_reducible exact keep3 (Below.refl _ _).drew.drew p0 p1 p2 | with_reducible exact keep3 (Below.refl _ _) p0 p1 p2 | with_reducible exact keep3 (bel_al (Below.refl _ _) _) p0 p1 p2 | with_reducible exact keep3 (bel_al (Below.refl _ _) _).drew p0 p1 p2 | with_reducible exact keep3 (Below.refl _ _).drew p0 p1 p2 | with_reducible exact keep3 ((h1C.setCell (by first | exact Nat.le_refl _ | omega) _).setCell (by first | exact Nat.le_refl _ | omega) _) p0 p1 p2) (first | (go_at_call 14; (refine (CI1.out _).mono ?_); rintro e w4 ⟨rfl, rfl⟩) | (go_at_call 13; (refine (CF1.out _).mono ?_); rintro e wC ⟨rfl, hbC⟩; have h1C : Below w7.heap.size w7 wC := bel_seq (bel3 ‹_›) hbC; (first | have TD := (Bx2.new w7 (.int .i64 0) (.int .i64 0) 25).below hbC | have TD := (Bx2.newD w7 (.int .i64 0) (.int .i64 0) 25).below hbC | skip); (first | (have hzq := TD.lt; obtain ⟨tq0, tq1, tr0, tr1⟩ := TD) | skip)) | fail)
          | fail
          all_goals
            go_wp2_with fail
            go_meet
            case rel =>
              first
              | exact ⟨rfl, bel_al h1C _⟩
              | exact ⟨rfl, (h1C.setCell (by first | exact Nat.le_refl _ | omega) _).setCell (by first | exact Nat.le_refl _ | omega) _⟩
        case rest =>
          obtain ⟨w8, rfl⟩ : ∃ q, q = wc := ⟨wc, rfl⟩
          obtain ⟨rfl, hb8⟩ := hcut
          have B8 := Lib.hid (bel_al (bel_seq B7.out hb8) (.cells #[.int .i64 n, .int .i64 tv] 25))
          have P8 := Lib.hid ((P7.out.below hb8).alloc (.cells #[.int .i64 n, .int .i64 tv] 25))
          have Q8 := Lib.hid ((Q7.out.below hb8).alloc (.cells #[.int .i64 n, .int .i64 tv] 25))
          have D8 := Lib.hid (Bx2.new w8 (.int .i64 n) (.int .i64 tv) 25)
          have hzQ := Q7.out.lt
          have hz8 := hb8.size
          obtain ⟨y0, y1, _, _⟩ := Q7.out.below hb8
          have P7z := P7.out.lt
          have B8z := (bel_seq B7.out hb8).size
          have hzQ8 : Q < w8.heap.size := by omega
          clear hb8 B7 P7 Q7 p0 p1 p2 q0 q1 CF1 CI1
          obtain ⟨q0, q1, _, _⟩ := Q8.out
          obtain ⟨d0, d1, e0, e1⟩ := D8.out
          have CM := Lib.hid (fun W => specMulGroup tv 4 W)
          have HBAD := Lib.hid HV.out.bad
          have HOTH := Lib.hid (HV.out.other (1 + o) (by omega) (by omega) hos)
          have CVb := Lib.hid (fun W => by have := implIsValidToken s n (mulGroupI tv 4) W; rw [HBAD.out] at this; exact this)
          have CVo := Lib.hid (fun W => by have := implIsValidToken (1 + o) n tv W; rw [HOTH.out] at this; exact this)
          generalize mulGroupI tv 4 = mv at CM CVb HBAD
          have hDQ : ¬ w8.heap.size = Q := by omega
          have hDP : ¬ w8.heap.size = P := by have := P7z; omega
          have BD8 : Hid (w.heap.size ≤ w8.heap.size) := Lib.hid B8z
          clear P7z B8z
          go_wp2_with fail
          clear y0 y1 hzQ8 hzQ hz8
          generalize w8.alloc (.cells #[.int .i64 n, .int .i64 tv] 25) = W8 at B8 P8 Q8 D8 q0 q1 d0 d1 e0 e1 ⊢
          generalize w8.heap.size = D at D8 BD8 hDQ hDP d0 d1 e0 e1 ⊢
          refine (CM.out _).mono ?_
          rintro e w9 ⟨rfl, rfl⟩
          have P9 := Lib.hid (P8.out.other hDP 1 (.int .i64 mv))
          have Q9 := Lib.hid (Q8.out.other hDQ 1 (.int .i64 mv))
          have D9 := Lib.hid (D8.out.put1 (.int .i64 mv))
          have B9 := Lib.hid (B8.out.setCell (p := ⟨D, 1, none⟩) BD8.out (.int .i64 mv))
          have hzD := D8.out.lt
          clear P8 Q8 D8 B8 CM
          go_wp2_with fail
          generalize W8.setCell ⟨D, 1, none⟩ (.int .i64 mv) = W9 at P9 Q9 D9 B9 ⊢
          clear q0 q1 d0 d1 e0 e1 hzD
          obtain ⟨p0, p1, p2, _, _, _⟩ := P9.out
          go_cut [17] from 90 to 97 (fun bv wx => bv = .bool gb ∧ Below W9.heap.size W9 wx)
          case first =>
            first
            | go_region_held3 (fun W' => W'.cell? ⟨P, 0, none⟩ = some (.int .i64 ee) ∧ W'.cell? ⟨P, 1, none⟩ = some (.int .i64 cc) ∧ W'.cell? ⟨P, 2, none⟩ = some (.int .i64 rr) ∧ Below W9.heap.size W9 W') (first | assumption | with_reducible exact keep3 h1C p0 p1 p2 | with_reducible exact keep3 (bel_al h1C _) p0 p1 p2 | with_reducible exact keep3 (bel_al h1C _).drew p0 p1 p2 | with_reducible exact keep3 h1C.drew p0 p1 p2 | with_reducible exact keep3 (Below.refl _ _).drew p0 p1 p2 | with_reducible exact keep3 (bel_al (Below.refl _ _).drew _) p0 p1 p2 | with_reducible exact keep3 (bel_al (Below.refl _ _).drew _).drew p0 p1 p2 | with_reducible exact keep3 (Below.refl _ _).drew.drew p0 p1 p2 | with_reducible exact keep3 (Below.refl _ _) p0 p1 p2 | with_reducible exact keep3 (bel_al (Below.refl _ _) _) p0 p1 p2 | with_reducible exact keep3 (bel_al (Below.refl _ _) _).drew p0 p1 p2 | with_reducible exact keep3 (Below.refl _ _).drew p0 p1 p2 | with_reducible exact keep3 ((h1C.setCell (by first | exact Nat.le_refl _ | omega) _).setCell (by first | exact Nat.le_refl _ | omega) _) p0 p1 p2) (first | (go_at_call 18; (refine (CI2.out _).mono ?_); rintro e w4 ⟨rfl, rfl⟩) | (go_at_call 17; (refine (CF2.out _).mono ?_); rintro e wC ⟨rfl, hbC⟩; have h1C : Below W9.heap.size W9 wC := bel_seq (bel3 ‹_›) hbC; (first | have TD := (Bx2.new W9 (.int .i64 0) (.int .i64 0) 25).below hbC | have TD := (Bx2.newD W9 (.int .i64 0) (.int .i64 0) 25).below hbC | skip); (first | (have hzq := TD.lt; obtain ⟨tq0, tq1, tr0, tr1⟩ := TD) | skip)) | fail)
            | fail
            all_goals
              go_wp2_with fail
              go_meet
              case rel =>
                first
                | exact ⟨rfl, bel_al h1C _⟩
                | exact ⟨rfl, (h1C.setCell (by first | exact Nat.le_refl _ | omega) _).setCell (by first | exact Nat.le_refl _ | omega) _⟩
          case rest =>
            obtain ⟨W, rfl⟩ : ∃ q, q = wc := ⟨wc, rfl⟩
            obtain ⟨rfl, hbz⟩ := hcut
            have BZ := Lib.hid (bel_seq B9.out hbz)
            have QZ := Lib.hid (Q9.out.below hbz)
            have DZ := Lib.hid (D9.out.below hbz)
            clear hbz B9 P9 Q9 D9 p0 p1 p2 CF2 CI2
            obtain ⟨q0, q1, _, _⟩ := QZ.out
            obtain ⟨d0, d1, _, _⟩ := DZ.out
            have tv0 := HV.out.v0
            have tv1 := HV.out.v1
            have CFi := Lib.hid (fun W' (h : Below W.heap.size W W') => implFormatToken n tv W' (by omega) (by omega) (by omega) (by omega) (HT.out.below (bel_seq BZ.out h)))
            have CFs := Lib.hid (fun W' (h : Below W.heap.size W W') => specFormatToken n tv W' (by omega) (by omega) (by omega) (by omega) (HT.out.below (bel_seq BZ.out h)))
            generalize fmtI n tv = ft at CFi CFs
            have hgg : (gb == gb) = true := by simp
            clear QZ DZ HBAD HOTH HV
            clear tv0 tv1
            go_wp2_with fail
            first
            | go_region_held3 (fun W' => W'.cell? ⟨D, 0, none⟩ = some (.int .i64 n) ∧ W'.cell? ⟨D, 1, none⟩ = some (.int .i64 mv) ∧ W'.cell? ⟨Q, 0, none⟩ = some (.int .i64 n) ∧ W'.cell? ⟨Q, 1, none⟩ = some (.int .i64 tv) ∧ Below W.heap.size W W') (first | assumption | with_reducible exact keep4 h1D d0 d1 q0 q1 | with_reducible exact keep4 h1D.drew d0 d1 q0 q1 | with_reducible exact keep4 h1C d0 d1 q0 q1 | with_reducible exact keep4 h1C.drew d0 d1 q0 q1 | with_reducible exact keep4 h1B d0 d1 q0 q1 | with_reducible exact keep4 h1B.drew d0 d1 q0 q1 | with_reducible exact keep4 h1A d0 d1 q0 q1 | with_reducible exact keep4 h1A.drew d0 d1 q0 q1 | with_reducible exact keep4 (Below.refl _ _).drew d0 d1 q0 q1 | with_reducible exact keep4 (Below.refl _ _) d0 d1 q0 q1) (first | (go_at_call 15; (with_reducible refine (CVb.out _).mono ?_); rintro e wA ⟨rfl, hbA⟩; have h1A : Below W.heap.size W wA := bel_seq (bel4 ‹_›) hbA) | (go_at_call 15; (with_reducible refine (CVo.out _).mono ?_); rintro e wB ⟨rfl, hbB⟩; have h1B : Below W.heap.size W wB := bel_seq (bel4 ‹_›) hbB) | (go_at_call 7; (with_reducible refine (CFi.out _ (bel4 ‹_›)).mono ?_); rintro e wC ⟨rfl, hbC⟩; have h1C : Below W.heap.size W wC := bel_seq (bel4 ‹_›) hbC) | (go_at_call 5; (with_reducible refine (CFs.out _ (bel4 ‹_›)).mono ?_); rintro e wD ⟨rfl, hbD⟩; have h1D : Below W.heap.size W wD := bel_seq (bel4 ‹_›) hbD) | fail)
            | fail
            all_goals
              go_wp2
              go_ret
              exact ⟨rfl, bel_seq BZ.out (bel4 ‹_›)⟩
/-! ### THE ROW's STEP: the guide's own way -/
theorem own : ownKnob Tryd.prog.godebug = none := by kernel_rfl
theorem laidOut : laidOutB Tryd.prog = true := by kernel_rfl
set_option maxRecDepth 100000 in
theorem lifted (os : Os) (started : os.Started) (H : Type) (enc : TypeId × Value → H) :
    ReturnsInHanded {} Tryd.checked os 4 .any (fun w args => (Rows.fnTokensSpec.pre enc Tryd.prog Tryd.f4 [] false w args ∧ laidMetH Tryd.prog laid3 w) ∧ sizedMet enc Tryd.prog Tryd.f4 (OpenSpec.ofChange Rows.fnTokensSpec) false w args) (Rows.fnTokensSpec.post enc Tryd.prog Tryd.f4 false true false false) := by
  refine returnsInHanded_of_change_and (C := Tryd.checked) (X := fun w _ => laidMetH Tryd.prog laid3 w) (fun _ _ _ hh h => h.of_heap hh) own started (by kernel_rfl) Tryd.func4
    (ChangeSpec.witness_shaped (enc := enc) (C := Tryd.checked) (os := os) (X := fun w _ => laidMetH Tryd.prog laid3 w) false (World.doorLaid Tryd.prog 400 os) #[.slice none 0 0] 8 rfl (World.shaped_of_RefB (by kernel_rfl) (by kernel_rfl)) (by kernel_rfl) (by kernel_rfl) (by kernel_rfl) (door_met os _)) ?_
  intro W base args ds gs before hval0 hW _ _ hL _
  have HTab := tab_of_laid hL
  have hval : ∀ (j : Nat) t v, Tryd.f4.params[j]? = some t → args[j]? = some v → Value.okWide Tryd.prog W .any base t v := hval0
  have hW' := hW
  obtain ⟨p, q, hA0, hV, rfl, hfz, hnd⟩ := hW
  have hA : DataW.TrodAll enc Tryd.prog W 0 (fun _ => true) true Tryd.f4.params.toList args.toList ds p := hA0
  rw [Tryd.params4] at hA hval
  obtain ⟨v0, vs0, d0, ds0, p0, q0, hargs, rfl, rfl, h0, r0⟩ := trodAll_cons hA
  obtain ⟨rfl, rfl, rfl⟩ := trodAll_nil r0
  obtain rfl : args = #[v0] := by cases args; simp_all
  obtain ⟨rfl, rfl⟩ := trodVars_none hV
  have k0 := h0
  have lt0 : ∀ x ∈ p0, x.block < W.heap.size := by obtain ⟨m, hm⟩ := k0; exact DataW.trod_lt m _ _ _ hm
  obtain ⟨fuel0, g0⟩ := h0
  obtain ⟨b0, len0, cap0, rfl⟩ := okWide_slice Tryd.underlying28 (hval 0 28 v0 rfl rfl)
  obtain ⟨z0, s0, wf0⟩ := slOfRead Tryd.underlying28 Tryd.underlying5 (by kernel_rfl) (by simpa [Value.cells] using g0) lt0
  clear hA0 hval0
  refine (walk _ z0 W s0 wf0 HTab).mono fun e W' ⟨he, bel⟩ => ?_
  subst he
  exact ⟨_, rfl, _, _, _, [], _, [], hW', trodAll_mk1 (shut_bool Tryd.underlying4 _), (trodAll_cons_mk (Below.trod laidOut (by kernel_rfl) (of_decide_eq_true (by kernel_rfl)) k0 bel lt0) trodAll_mk0), rfl, bel.frame _, fun h => by cases h⟩

theorem over : Rows.fnTokensRow.holds Tryd.pinned (OpenSpec.ofChange Rows.fnTokensSpec) :=
  OpenClaim.holds_of_wide 4 Tryd.f4 rfl rfl rfl rfl rfl rfl rfl ⟨rfl, rfl, rfl, rfl, rfl⟩ rfl rfl rfl rfl rfl (by kernel_rfl) Tryd.func4 (by kernel_rfl)
    (of_decide_eq_true (by kernel_rfl)) (by unfold Func.isWrapper; first | (rw [if_pos (by decide +kernel)]; kernel_rfl) | (rw [if_neg (by decide +kernel)]; exact ⟨rfl, rfl⟩))
    (fun os started H enc _ => lifted os started H enc)

/-- the statement: the tied card -/
theorem proved : Rows.FnTokensCardSaid :=
  Claim7.holds_tied_plain_at .later [] [.data, .data, .data] true Rows.fnTokensCard.stood.harness false
    over (fun _ h => by cases h) (by kernel_rfl) (fun _ h => by cases h) fnTokens_row_tie rfl ⟨rfl, rfl⟩ (by kernel_rfl) rfl
    (fun f fn hf hfn => by
      obtain rfl : f = 4 := Option.some.inj ((show Tryd.prog.funcNamed Rows.fnTokensRow.func = some 4 by kernel_rfl).symm.trans hf) |>.symm
      obtain rfl : fn = Tryd.f4 := (Option.some.inj (Tryd.func4.symm.trans hfn)).symm
      exact ⟨by kernel_rfl, fun j t ht => by
        rw [Tryd.params4] at ht
        have hm : t ∈ [28] := by simpa using Array.mem_of_getElem? ht
        have hall : ([28].all fun u => !Tryd.prog.wantsStandIn u) = true := by kernel_rfl
        exact (show Tryd.prog.wantsStandIn t = false by simpa using List.all_eq_true.1 hall t hm)⟩)
    (by kernel_rfl)
end Go.Proofs.YtamhlmeopbpjpaaDoor.fnTokens
