/- The walks of the drawing of a ratchet. -/
import Derived.Test.YtelcpihbdgikfaaProg
import Derived.Test.YtelcpihbdgikfaaDraw
import Derived.Test.YtelcpihbdgikfaaKeyS
import Derived.Test.YtelcpihbdgikfaaSkipPlain
import Derived.Deep.RegionLaw
import Derived.Deep.RegionHeld3
import Derived.Deep.CutRange
namespace Go.Proofs.Ytelcpihbdgikfaa
open Go.RowKit
set_option linter.unusedVariables false

theorem l13Key (p : Nat) (v : Value) (l : List Int) (w : World) (hc : Cur w p v l) : Calls Try.prog 135 #[.pointer (some ⟨p, 0, none⟩)] w fun e w' => ∃ x : Int, e = .returned (.int .i64 x) ∧ Cur w' p v l ∧ w.grownBy w' (some p) := by
  have HC := Lib.hid hc
  clear hc
  go_enter Try.func135, Try.ntmps135
  go_wp2_with fail
  refine (l1Once p v l 10 _ HC.out (by omega) (by omega)).mono ?_
  rintro e w1 ⟨b, rfl, hc1, hg1⟩
  have HC1 := Lib.hid hc1
  have HG1 := Lib.hid hg1
  clear hc1 hg1
  cases b with
  | false =>
    go_wp2_with fail
    refine (l1Below p v l 99999 _ HC1.out (by omega) (by omega)).mono ?_
    rintro e w2 ⟨x, rfl, hx0, hx1, hc2, hg2⟩
    have HC2 := Lib.hid hc2
    have HG2 := Lib.hid hg2
    clear hc2 hg2
    go_wp2
    go_ret
    exact ⟨_, rfl, HC2.out, grown_trans HG1.out HG2.out⟩
  | true =>
    go_wp2_with fail
    refine (l1Lit p v l [0, -1, 2147483646, 2147483647] _ _ _ w1 HC1.out (by simp) (by simp) rfl rfl rfl).mono ?_
    rintro e w2 ⟨x, rfl, hx, hc2, hg2⟩
    have HC2 := Lib.hid hc2
    have HG2 := Lib.hid hg2
    clear hc2 hg2 hx
    go_wp2
    go_ret
    exact ⟨_, rfl, HC2.out, grown_trans HG1.out HG2.out⟩
theorem specNewRatchet {a0 : Int} (h : keyB a0 = true) (w : World) : Calls Try.prog 143 #[.int .i64 a0] w fun e w' => e = .returned (.agg #[.int .i64 a0, .int .i64 0, .slice none 0 0]) ∧ Below w.heap.size w w' := by
  go_enter Try.func143, Try.ntmps143
  go_wp2_with (first | (go_at_call 68; (refine (specIsKeyis h _).mono ?_); rintro e w0 ⟨rfl, rfl⟩))
  refine bodyPost_ret (v := .agg #[.int .i64 a0, .int .i64 0, .slice none 0 0]) (by simp [results, Try.results143, go_sem, *]) rfl ⟨rfl, (by repeat (first | exact Below.refl _ _ | refine bel_al ?_ _ | refine Below.setCell ?_ (by first | (simp; done) | (simp; omega)) _ | refine Below.drew ?_ | refine bel_drewN ?_ _))⟩
theorem grown_newW {w w' : World} {row : Option Nat} {b o : Nat} {u : Value} (h : w.grownBy w' row) (hb : w.heap.size ≤ b) : w.grownBy (w'.setCell ⟨b, o, none⟩ u) row := by
  obtain ⟨h1, h2, h3, h4, h5⟩ := h
  exact ⟨h1, h2, h3, by simpa [World.setCell] using h4, fun i hi hne => (Below.heap_setCell _ _ _ _ (by show i ≠ b; omega)).trans (h5 i hi hne)⟩
theorem grown_frozenW {w w' : World} {row : Option Nat} {b o : Nat} (hg : w.grownBy w' row) (hne : some b ≠ row) (hl : b < w.heap.size) : w'.frozen? ⟨b, o, none⟩ = w.frozen? ⟨b, o, none⟩ := World.frozen?_of_block (hg.block b hl hne)
theorem Cur.grownO {w w' : World} {p : Nat} {v : Value} {l : List Int} {row : Option Nat} (hc : Cur w p v l) (hg : w.grownBy w' row) (hr : ∀ k, row = some k → p < k) : Cur w' p v l := by
  obtain ⟨i, h, g0, g1, g2, f1, f2, hi0, hi1, hs, hne, hby⟩ := hc
  have np : ∀ b, b ≤ p → some b ≠ row := fun b hb e => by have := hr b e.symm; omega
  refine ⟨i, h, hg.cell g0 (np _ (Nat.le_refl _)), hg.cell g1 (np _ (Nat.le_refl _)), hg.cell g2 (np _ (Nat.le_refl _)), (grown_frozenW hg (np _ (Nat.le_refl _)) (World.block_lt_of_cell? w _ g1)).trans f1, (grown_frozenW hg (np _ (Nat.le_refl _)) (World.block_lt_of_cell? w _ g2)).trans f2, hi0, hi1, ?_, hne, hby⟩
  by_cases h0 : 0 < l.length
  · exact hs.grown hg (fun b' off n c e => np _ (Nat.le_of_lt (hne b' off n c e h0)))
  · obtain rfl : l = [] := List.length_eq_zero_iff.1 (by omega)
    rcases hs with h | ⟨b', off, cap, rfl, _, h2, _, _⟩
    · exact .inl h
    · exact .inl ⟨rfl, _, cap, rfl, h2, by simp⟩
theorem Cur.over {w : World} {p : Nat} {v : Value} {l : List Int} (hc : Cur w p v l) {b : Nat} (hb : p < b) (o : Nat) (u : Value) : Cur (w.setCell ⟨b, o, none⟩ u) p v l :=
  hc.grownO (grown_setA w b o u) (fun k hk => by cases hk; exact hb)
theorem Cur.over3 {w : World} {p : Nat} {v : Value} {l : List Int} (hc : Cur w p v l) {b : Nat} (hb : p < b) (u0 u1 u2 : Value) : Cur (((w.setCell ⟨b, 0, none⟩ u0).setCell ⟨b, 1, none⟩ u1).setCell ⟨b, 2, none⟩ u2) p v l := ((hc.over hb _ _).over hb _ _).over hb _ _
theorem grown_new3 {w w' : World} {row : Option Nat} {b : Nat} (h : w.grownBy w' row) (hb : w.heap.size ≤ b) (u0 u1 u2 : Value) : w.grownBy (((w'.setCell ⟨b, 0, none⟩ u0).setCell ⟨b, 1, none⟩ u1).setCell ⟨b, 2, none⟩ u2) row := grown_newW (grown_newW (grown_newW h hb) hb) hb
theorem Box3.set3' {W : World} {A : Nat} {v0 v1 v2 : Value} (h : Box3 W A v0 v1 v2) (u0 u1 u2 : Value) : Box3 (((W.setCell ⟨A, 0, none⟩ u0).setCell ⟨A, 1, none⟩ u1).setCell ⟨A, 2, none⟩ u2) A u0 u1 u2 := by
  obtain ⟨h0, h1, h2, f0, f1, f2⟩ := h
  refine ⟨?_, ?_, ?_, ?_, ?_, ?_⟩ <;> simp [go_sem, *]
theorem OwnK.store3 {base : Nat} {w : World} {ao : Option Addr} {N cap : Nat} {l : List Int} (h : OwnK base w ao N cap l) {b : Nat} (hn : ownB ao = none ∨ ownB ao ≠ some b) (u0 u1 u2 : Value) : OwnK base (((w.setCell ⟨b, 0, none⟩ u0).setCell ⟨b, 1, none⟩ u1).setCell ⟨b, 2, none⟩ u2) ao N cap l := ((h.store hn _ _).store hn _ _).store hn _ _
theorem grown_store3' (w : World) (b : Nat) (x y z : Value) : w.grownBy (((w.setCell ⟨b, 0, none⟩ x).setCell ⟨b, 1, none⟩ y).setCell ⟨b, 2, none⟩ z) (some b) := grown_store3 (World.grownBy.refl _ _) x y z
/-- a ratchet that is being drawn: its box t, the result's box R, the cursor p; all but the cursor in memory made since w -/
structure LR (w : World) (p : Nat) (v : Value) (l : List Int) (t R : Nat) (wr : World) (x s : Int) (L : List Int) (ao : Option Addr) (N cap : Nat) : Prop where
  T : Box3 wr t (.int .i64 x) (.int .i64 s) (.slice ao N cap)
  O : OwnK (w.heap.size + 1) wr ao N cap L
  NT : ownB ao = none ∨ ownB ao ≠ some t
  Q : Box3 wr R (.int .i64 0) (.int .i64 0) (.slice none 0 0)
  C : Cur wr p v l
  G : w.grownBy wr (some p)
  pt : p < w.heap.size
  ht : w.heap.size + 1 ≤ t
  hR : w.heap.size ≤ R
  tR : t ≠ R
section
variable {w wr : World} {p : Nat} {v : Value} {l : List Int} {t R : Nat} {x s : Int} {L : List Int} {ao : Option Addr} {N cap : Nat}
theorem LR.step (h : LR w p v l t R wr x s L ao N cap) {w2 : World} (hc : Cur w2 p v l) (hg : wr.grownBy w2 (some p)) : LR w p v l t R w2 x s L ao N cap := by
  obtain ⟨T, O, NT, Q, C, G, pt, ht, hR, tR⟩ := h
  exact ⟨T.grown hg (by simp; omega), O.grown hg (O.notB (.inr (by omega))), NT, Q.grown hg (by simp; omega), hc, grown_trans G hg, pt, ht, hR, tR⟩
theorem LR.below (h : LR w p v l t R wr x s L ao N cap) {w2 : World} (hb : Below wr.heap.size wr w2) : LR w p v l t R w2 x s L ao N cap := h.step (h.C.below hb) (below_grown hb _)
theorem LR.alloc (h : LR w p v l t R wr x s L ao N cap) (o : Obj) : LR w p v l t R (wr.alloc o) x s L ao N cap := h.below (bel_al (Below.refl _ _) o)
/-- another ratchet is stored into the box -/
theorem LR.put (h : LR w p v l t R wr x s L ao N cap) {x2 s2 : Int} {L2 : List Int} {ao2 : Option Addr} {N2 cap2 : Nat} (ho : OwnK (w.heap.size + 1) wr ao2 N2 cap2 L2) (n2 : ownB ao2 = none ∨ ownB ao2 ≠ some t) : LR w p v l t R (((wr.setCell ⟨t, 0, none⟩ (.int .i64 x2)).setCell ⟨t, 1, none⟩ (.int .i64 s2)).setCell ⟨t, 2, none⟩ (.slice ao2 N2 cap2)) x2 s2 L2 ao2 N2 cap2 := by
  obtain ⟨T, O, NT, Q, C, G, pt, ht, hR, tR⟩ := h
  exact ⟨T.set3' _ _ _, ho.store3 n2 _ _ _, n2, Q.grown (grown_store3' _ _ _ _ _) (by simp; omega), C.over3 (by omega) _ _ _, grown_new3 G (by omega) _ _ _, pt, ht, hR, tR⟩
theorem LR.put0 (h : LR w p v l t R wr x s L ao N cap) (x2 : Int) : LR w p v l t R (wr.setCell ⟨t, 0, none⟩ (.int .i64 x2)) x2 s L ao N cap := by
  obtain ⟨T, O, NT, Q, C, G, pt, ht, hR, tR⟩ := h
  refine ⟨?_, O.store NT _ _, NT, Q.grown (grown_setA _ _ _ _) (by simp; omega), C.over (by omega) _ _, grown_newW G (by omega), pt, ht, hR, tR⟩
  obtain ⟨h0, h1, h2, f0, f1, f2⟩ := T
  refine ⟨?_, ?_, ?_, ?_, ?_, ?_⟩ <;> simp [go_sem, *]
theorem LR.put1 (h : LR w p v l t R wr x s L ao N cap) (s2 : Int) : LR w p v l t R (wr.setCell ⟨t, 1, none⟩ (.int .i64 s2)) x s2 L ao N cap := by
  obtain ⟨T, O, NT, Q, C, G, pt, ht, hR, tR⟩ := h
  refine ⟨?_, O.store NT _ _, NT, Q.grown (grown_setA _ _ _ _) (by simp; omega), C.over (by omega) _ _, grown_newW G (by omega), pt, ht, hR, tR⟩
  obtain ⟨h0, h1, h2, f0, f1, f2⟩ := T
  refine ⟨?_, ?_, ?_, ?_, ?_, ?_⟩ <;> simp [go_sem, *]
end
theorem Box3.newW (w : World) (v0 v1 v2 : Value) (e : TypeId) : Box3 (w.alloc (.cells #[v0, v1, v2] e)).drew w.heap.size v0 v1 v2 := Box3.new w v0 v1 v2 e
/-! ### the statement of the loop -/
section
variable {w W : World} {p : Nat} {v : Value} {l : List Int} {t : Nat} {u0 u1 u2 : Value}
theorem keepR_step (h : W.cell? ⟨t, 0, none⟩ = some u0 ∧ W.cell? ⟨t, 1, none⟩ = some u1 ∧ W.cell? ⟨t, 2, none⟩ = some u2 ∧ Cur W p v l ∧ w.grownBy W (some p)) (ht : p < t) {W' : World} (hc : Cur W' p v l) (hg : W.grownBy W' (some p)) : W'.cell? ⟨t, 0, none⟩ = some u0 ∧ W'.cell? ⟨t, 1, none⟩ = some u1 ∧ W'.cell? ⟨t, 2, none⟩ = some u2 ∧ Cur W' p v l ∧ w.grownBy W' (some p) := by
  obtain ⟨h0, h1, h2, h3, h4⟩ := h
  exact ⟨hg.cell h0 (by simp; omega), hg.cell h1 (by simp; omega), hg.cell h2 (by simp; omega), hc, grown_trans h4 hg⟩
theorem keepR_bel (h : W.cell? ⟨t, 0, none⟩ = some u0 ∧ W.cell? ⟨t, 1, none⟩ = some u1 ∧ W.cell? ⟨t, 2, none⟩ = some u2 ∧ Cur W p v l ∧ w.grownBy W (some p)) (ht : p < t) {W' : World} (hb : Below W.heap.size W W') : W'.cell? ⟨t, 0, none⟩ = some u0 ∧ W'.cell? ⟨t, 1, none⟩ = some u1 ∧ W'.cell? ⟨t, 2, none⟩ = some u2 ∧ Cur W' p v l ∧ w.grownBy W' (some p) := keepR_step h ht (h.2.2.2.1.below hb) (below_grown hb _)
theorem keepR_al (h : W.cell? ⟨t, 0, none⟩ = some u0 ∧ W.cell? ⟨t, 1, none⟩ = some u1 ∧ W.cell? ⟨t, 2, none⟩ = some u2 ∧ Cur W p v l ∧ w.grownBy W (some p)) (ht : p < t) (o : Obj) : (W.alloc o).cell? ⟨t, 0, none⟩ = some u0 ∧ (W.alloc o).cell? ⟨t, 1, none⟩ = some u1 ∧ (W.alloc o).cell? ⟨t, 2, none⟩ = some u2 ∧ Cur (W.alloc o) p v l ∧ w.grownBy (W.alloc o) (some p) := keepR_bel h ht (bel_al (Below.refl _ _) o)
theorem keepR_drew (h : W.cell? ⟨t, 0, none⟩ = some u0 ∧ W.cell? ⟨t, 1, none⟩ = some u1 ∧ W.cell? ⟨t, 2, none⟩ = some u2 ∧ Cur W p v l ∧ w.grownBy W (some p)) (ht : p < t) : W.drew.cell? ⟨t, 0, none⟩ = some u0 ∧ W.drew.cell? ⟨t, 1, none⟩ = some u1 ∧ W.drew.cell? ⟨t, 2, none⟩ = some u2 ∧ Cur W.drew p v l ∧ w.grownBy W.drew (some p) := keepR_bel h ht ((Below.refl _ _).drew)
theorem keepR_set (h : W.cell? ⟨t, 0, none⟩ = some u0 ∧ W.cell? ⟨t, 1, none⟩ = some u1 ∧ W.cell? ⟨t, 2, none⟩ = some u2 ∧ Cur W p v l ∧ w.grownBy W (some p)) (ht : p < t) (hpw : p < w.heap.size) (htw : t < w.heap.size) {B : Nat} (hB : w.heap.size ≤ B) (x y z : Value) : (((W.setCell ⟨B, 0, none⟩ x).setCell ⟨B, 1, none⟩ y).setCell ⟨B, 2, none⟩ z).cell? ⟨t, 0, none⟩ = some u0 ∧ (((W.setCell ⟨B, 0, none⟩ x).setCell ⟨B, 1, none⟩ y).setCell ⟨B, 2, none⟩ z).cell? ⟨t, 1, none⟩ = some u1 ∧ (((W.setCell ⟨B, 0, none⟩ x).setCell ⟨B, 1, none⟩ y).setCell ⟨B, 2, none⟩ z).cell? ⟨t, 2, none⟩ = some u2 ∧ Cur (((W.setCell ⟨B, 0, none⟩ x).setCell ⟨B, 1, none⟩ y).setCell ⟨B, 2, none⟩ z) p v l ∧ w.grownBy (((W.setCell ⟨B, 0, none⟩ x).setCell ⟨B, 1, none⟩ y).setCell ⟨B, 2, none⟩ z) (some p) := by
  obtain ⟨h0, h1, h2, h3, h4⟩ := h
  have hg := grown_store3' W B x y z
  exact ⟨hg.cell h0 (by simp; omega), hg.cell h1 (by simp; omega), hg.cell h2 (by simp; omega), h3.over3 (by omega) _ _ _, grown_new3 h4 hB _ _ _⟩
end
/-- behind the statement: a ratchet of at most 8 kept keys lies in the box sp -/
def ResR (wr : World) (p : Nat) (v : Value) (l : List Int) (wx : World) (sp : Value) : Prop := ∃ (B : Nat) (x s : Int) (L : List Int) (ao : Option Addr) (N cap : Nat), sp = .pointer (some ⟨B, 0, none⟩) ∧ Box3 wx B (.int .i64 x) (.int .i64 s) (.slice ao N cap) ∧ OwnK wr.heap.size wx ao N cap L ∧ N ≤ 8 ∧ wr.heap.size ≤ B ∧ Cur wx p v l ∧ wr.grownBy wx (some p)
theorem resR_alloc {wr w3 w4 : World} {p : Nat} {v : Value} {l : List Int} {x s : Int} {L : List Int} {ao : Option Addr} {N cap base : Nat} (hb : wr.heap.size ≤ base) (hk : OwnK base w4 ao N cap L) (hN : N ≤ 8) (hc : Cur w4 p v l) (hg : wr.grownBy w4 (some p)) (h3 : w3 = w4.alloc (.cells #[.int .i64 x, .int .i64 s, .slice ao N cap] 28)) : ResR wr p v l w3 (.pointer (some ⟨w4.heap.size, 0, none⟩)) := by
  subst h3
  exact ⟨w4.heap.size, x, s, L, ao, N, cap, rfl, Box3.new _ _ _ _ _, (hk.mono hb).alloc _, hN, hg.size, hc.alloc _, grown_trans hg (World.grownBy_alloc _ _ _)⟩
theorem resR_set {wr w3 w4 : World} {p : Nat} {v : Value} {l : List Int} {x s : Int} {L : List Int} {ao : Option Addr} {N cap base B : Nat} {u0 u1 u2 : Value} (hb : wr.heap.size ≤ base) (hk : OwnK base w4 ao N cap L) (hN : N ≤ 8) (hc : Cur w4 p v l) (hg : wr.grownBy w4 (some p)) (hpw : p < wr.heap.size) (hB : wr.heap.size ≤ B) (hB2 : B < base) (T : Box3 w4 B u0 u1 u2) (h3 : w3 = ((w4.setCell ⟨B, 0, none⟩ (.int .i64 x)).setCell ⟨B, 1, none⟩ (.int .i64 s)).setCell ⟨B, 2, none⟩ (.slice ao N cap)) : ResR wr p v l w3 (.pointer (some ⟨B, 0, none⟩)) := by
  subst h3
  exact ⟨B, x, s, L, ao, N, cap, rfl, T.set3' _ _ _, (((hk.cells hB2 _).cells hB2 _).cells hB2 _).mono hb, hN, hB, hc.over3 (by omega) _ _ _, grown_new3 hg hB _ _ _⟩
theorem key_any (x s : Int) (v : Value) (n : Nat) (l : List Int) (step : Int) (w : World) (hs : Sk w v n l) (hn : n ≤ 8) : Calls Try.prog 22 #[.agg #[.int .i64 x, .int .i64 s, v], .int .i64 step] w fun e w' => ∃ (x1 s1 k : Int) (b : Bool) (L : List Int) (ao : Option Addr) (N cap : Nat), e = .returned (.tuple #[.agg #[.int .i64 x1, .int .i64 s1, .slice ao N cap], .int .i64 k, .bool b]) ∧ OwnK w.heap.size w' ao N cap L ∧ N ≤ 8 ∧ Below w.heap.size w w' := by
  refine (specKeyForStep x s v n l step w hs (by omega)).mono ?_
  rintro e w' ⟨ao, N, cap, he, ho, hb⟩
  refine ⟨_, _, _, _, _, ao, N, cap, he, ho, ?_, hb⟩
  have h1 := key_len x s n l hs.1 hn step
  have h2 := ho.1
  omega
set_option maxRecDepth 100000 in
set_option maxHeartbeats 1000000 in
theorem l19Ratchet (p : Nat) (v : Value) (l : List Int) (w : World) (hc : Cur w p v l) : Calls Try.prog 134 #[.pointer (some ⟨p, 0, none⟩)] w fun e w' => ∃ (x s : Int) (L : List Int) (ao : Option Addr) (N cap : Nat), e = .returned (.agg #[.int .i64 x, .int .i64 s, .slice ao N cap]) ∧ OwnK w.heap.size w' ao N cap L ∧ N ≤ 8 ∧ Cur w' p v l ∧ w.grownBy w' (some p) := by
  have hlt := hc.lt
  have HC := Lib.hid (hc.alloc (.cells #[.int .i64 0, .int .i64 0, .slice none 0 0] 28))
  have HA := Lib.hid (World.grownBy_alloc w (.cells #[.int .i64 0, .int .i64 0, .slice none 0 0] 28) (some p))
  have HX := Lib.hid (Box3.new w (.int .i64 0) (.int .i64 0) (.slice none 0 0) 28)
  have hsz : w.heap.size + 1 ≤ (w.alloc (.cells #[.int .i64 0, .int .i64 0, .slice none 0 0] 28)).heap.size := by simp
  clear hc
  go_enter Try.func134, Try.ntmps134
  go_wp2_with fail
  generalize w.alloc (.cells #[.int .i64 0, .int .i64 0, .slice none 0 0] 28) = W0 at HC HA HX hsz ⊢
  refine (l1Below p v l 99 _ HC.out (by omega) (by omega)).mono ?_
  rintro e w1 ⟨x, rfl, hx0, hx1, hc1, hg1⟩
  have X1 := Lib.hid (HX.out.grown hg1 (by simp; omega))
  have G1 := Lib.hid (grown_trans HA.out hg1)
  have C1 := Lib.hid hc1
  have hz1 : w.heap.size + 1 ≤ w1.heap.size := Nat.le_trans hsz hg1.size
  have hkey : keyB (1 + x) = true := inR_iff.2 (by omega)
  clear hc1 hg1 HX HA HC hsz
  go_wp2_with fail
  refine (specNewRatchet hkey w1).mono ?_
  rintro e w2 ⟨rfl, hb2⟩
  have hz2 : w.heap.size + 1 ≤ w2.heap.size := Nat.le_trans hz1 hb2.size
  generalize 1 + x = x0
  have S2 : Hid (LR w p v l w2.heap.size w.heap.size (w2.alloc (.cells #[.int .i64 x0, .int .i64 0, .slice none 0 0] 28)) x0 0 [] none 0 0) := Lib.hid
    ⟨Box3.new w2 _ _ _ _, OwnK.nil _ _, .inl rfl, (X1.out.below hb2).alloc _, (C1.out.below hb2).alloc _, grown_trans (grown_trans G1.out (below_grown hb2 _)) (World.grownBy_alloc _ _ _), by omega, by omega, Nat.le_refl _, by omega⟩
  clear hb2 X1 G1 C1 hx0 hx1 hkey hz1
  go_wp2_with fail
  generalize w2.alloc (.cells #[.int .i64 x0, .int .i64 0, .slice none 0 0] 28) = W2 at S2 ⊢
  generalize w2.heap.size = t at S2 hz2 ⊢
  refine (l1Below p v l 7 _ S2.out.C (by omega) (by omega)).mono ?_
  rintro e w3 ⟨j, rfl, hj0, hj1, hc3, hg3⟩
  have S3 : Hid (∃ (x s : Int) (L : List Int) (ao : Option Addr) (N cap : Nat), LR w p v l t w.heap.size w3 x s L ao N cap ∧ N ≤ 8) := Lib.hid ⟨_, _, _, _, _, _, S2.out.step hc3 hg3, by omega⟩
  obtain ⟨j, rfl⟩ : ∃ q : Nat, j = q := ⟨j.toNat, by omega⟩
  clear hc3 hg3 S2
  go_wp2_with fail
  go_loopw [4] (fun ix wr => ∃ k : Nat, k ≤ 7 ∧ ix = .int .i64 k ∧ Hid (∃ (x s : Int) (L : List Int) (ao : Option Addr) (N cap : Nat), LR w p v l t w.heap.size wr x s L ao N cap ∧ N ≤ 8)) (fun ix _ => (intOf ix).toNat)
  case atStart => exact ⟨j, by omega, rfl, S3⟩
  case round =>
    clear S3
    obtain ⟨k, hk, rfl, HR⟩ := hrel
    obtain ⟨x, s, L, ao, N, cap, hS, hN8⟩ := HR.out
    have S4 := Lib.hid hS
    clear hS HR
    obtain ⟨t0, t1, t2, f0, f1, f2⟩ := S4.out.T
    have htw := S4.out.T.lt
    cases k with
    | succ k =>
      have hpos2 : (0 : Int) < ((k + 1 : Nat) : Int) := by omega
      have hpt : p < t := by have := S4.out.pt; omega
      have hpw : p < wr.heap.size := by omega
      have CR := S4.out.C
      have SKK : Hid (∀ W : World, wr.grownBy W (some p) → Sk W (.slice ao N cap) N L) := Lib.hid (fun W hg => (S4.out.O.grown hg (S4.out.O.notB (.inr (by have := S4.out.pt; omega)))).sl)
      have hS0 : wr.cell? ⟨t, 0, none⟩ = some (.int .i64 x) ∧ wr.cell? ⟨t, 1, none⟩ = some (.int .i64 s) ∧ wr.cell? ⟨t, 2, none⟩ = some (.slice ao N cap) ∧ Cur wr p v l ∧ wr.grownBy wr (some p) := ⟨t0, t1, t2, CR, World.grownBy.refl _ _⟩
      go_wp2_with fail
      go_cut [5] from 18 to 30 (fun sp wx => ResR wr p v l wx sp)
      case first =>
        first
        | go_region_held3 (fun W' => W'.cell? ⟨t, 0, none⟩ = some (.int .i64 x) ∧ W'.cell? ⟨t, 1, none⟩ = some (.int .i64 s) ∧ W'.cell? ⟨t, 2, none⟩ = some (.slice ao N cap) ∧ Cur W' p v l ∧ wr.grownBy W' (some p)) (first | assumption | with_reducible exact keepR_al SX hpt _ | with_reducible exact keepR_al (keepR_drew SX hpt) hpt _ | with_reducible exact keepR_drew (keepR_al SX hpt _) hpt | with_reducible exact keepR_step ‹_› hpt ‹Cur _ p v l› ‹_› | with_reducible exact keepR_bel ‹_› hpt ‹_› | with_reducible exact keepR_al ‹_› hpt _ | with_reducible exact keepR_drew ‹_› hpt | with_reducible exact keepR_drew (keepR_al ‹_› hpt _) hpt | with_reducible exact keepR_al (keepR_drew ‹_› hpt) hpt _ | with_reducible exact keepR_set ‹_› hpt hpw htw (by first | exact Nat.le_refl _ | omega) _ _ _) (first | (go_at_call 107; (refine (l1Below p v l 9 _ (‹_ ∧ _ ∧ _ ∧ Cur _ p v l ∧ _›).2.2.2.1 (by omega) (by omega)).mono ?_); rintro e w4 ⟨y, rfl, hy0, hy1, hc4, hg4⟩; have hz40 := hg4.size; (try simp at hz40); have hz4 : wr.heap.size ≤ w4.heap.size := (by omega); (first | have TD := (Box3.new wr (.int .i64 0) (.int .i64 0) (.slice none 0 0) 28).grown hg4 (by simp; omega) | have TD := (Box3.newW wr (.int .i64 0) (.int .i64 0) (.slice none 0 0) 28).grown hg4 (by simp; omega) | skip)) | (go_at_call 109; (refine (specMax _ _ _).mono ?_); rintro e w5 ⟨rfl, rfl⟩) | (go_at_call 22; (refine (key_any x s (.slice ao N cap) N L _ _ (SKK.out _ (‹_ ∧ _ ∧ _ ∧ Cur _ p v l ∧ _›).2.2.2.2) hN8).mono ?_); rintro e w6 ⟨x6, s6, k6, b6, L6, ao6, N6, cap6, rfl, ho6, hN6, hb6⟩; have SX := keepR_bel ‹_› hpt hb6; (first | have TD := TD.below hb6 | have TD := (Box3.new w4 (.int .i64 0) (.int .i64 0) (.slice none 0 0) 28).below hb6 | have TD := (Box3.newW w4 (.int .i64 0) (.int .i64 0) (.slice none 0 0) 28).below hb6 | skip); (first | (have hzq := TD.lt; obtain ⟨tq0, tq1, tq2, tr0, tr1, tr2⟩ := TD) | skip)) | fail)
        | fail
        all_goals
          go_wp2_with fail
          go_meet
          case rel =>
            first
            | exact resR_alloc (by first | exact Nat.le_refl _ | omega | (simp; done) | (simp; omega)) ho6 hN6 SX.2.2.2.1 SX.2.2.2.2 rfl
            | exact resR_set (by first | exact Nat.le_refl _ | omega | (simp; done) | (simp; omega)) ho6 hN6 SX.2.2.2.1 SX.2.2.2.2 hpw (by first | exact Nat.le_refl _ | omega | (simp; done) | (simp; omega)) (by first | exact Nat.le_refl _ | omega | (simp; done) | (simp; omega)) ⟨tq0, tq1, tq2, tr0, tr1, tr2⟩ rfl
      case rest =>
        obtain ⟨wz, rfl⟩ : ∃ q, q = wc := ⟨wc, rfl⟩
        obtain ⟨B, x2, s2, L2, ao2, N2, cap2, rfl, hX, hO, hN2, hB, hC, hG⟩ := hcut
        have S5 := Lib.hid (S4.out.step hC hG)
        have O5 := Lib.hid (hO.mono (show w.heap.size + 1 ≤ wr.heap.size by omega))
        have NT := Lib.hid (hO.notB (b := t) (.inr htw))
        have hzB := hX.lt
        clear t0 t1 t2 f0 f1 f2 hS0 CR SKK hO hG hC
        obtain ⟨t0, t1, t2, f0, f1, f2⟩ := S5.out.T
        obtain ⟨b0, b1, b2, g0, g1, g2⟩ := hX
        have hzT := S5.out.T.lt
        have hBt : ¬ B = t := by omega
        have hBt2 : ¬ t = B := by omega
        go_wp2_with fail
        go_roundw
        case rel =>
          exact ⟨k, by omega, by go_num, Lib.hid ⟨_, _, _, _, _, _, S5.out.put O5.out NT.out, hN2⟩⟩
        case measure => simp [intOf]; try omega
    | zero =>
      obtain ⟨q0, q1, q2, g0, g1, g2⟩ := S4.out.Q
      have hzQ := S4.out.Q.lt
      have htR := S4.out.tR
      have hpt := S4.out.pt
      go_wp2_with fail
      refine bodyPost_ret (v := .agg #[.int .i64 x, .int .i64 s, .slice ao N cap]) (by simp [results, Try.results134, go_sem, *]) rfl ⟨x, s, L, ao, N, cap, rfl, ?_, hN8, S4.out.C.over3 (by omega) _ _ _, grown_new3 S4.out.G (Nat.le_refl _) _ _ _⟩
      exact (((S4.out.O.cells (Nat.lt_succ_self _) _).cells (Nat.lt_succ_self _) _).cells (Nat.lt_succ_self _) _).mono (Nat.le_succ _)
theorem LR.fin {w wr : World} {p : Nat} {v : Value} {l : List Int} {t : Nat} {x s : Int} {L : List Int} {ao : Option Addr} {N cap : Nat} (h : LR w p v l t w.heap.size wr x s L ao N cap) (u0 u1 u2 : Value) : OwnK w.heap.size (((wr.setCell ⟨w.heap.size, 0, none⟩ u0).setCell ⟨w.heap.size, 1, none⟩ u1).setCell ⟨w.heap.size, 2, none⟩ u2) ao N cap L ∧ Cur (((wr.setCell ⟨w.heap.size, 0, none⟩ u0).setCell ⟨w.heap.size, 1, none⟩ u1).setCell ⟨w.heap.size, 2, none⟩ u2) p v l ∧ w.grownBy (((wr.setCell ⟨w.heap.size, 0, none⟩ u0).setCell ⟨w.heap.size, 1, none⟩ u1).setCell ⟨w.heap.size, 2, none⟩ u2) (some p) := by
  have hpt := h.pt
  exact ⟨(((h.O.cells (Nat.lt_succ_self _) _).cells (Nat.lt_succ_self _) _).cells (Nat.lt_succ_self _) _).mono (Nat.le_succ _), h.C.over3 hpt _ _ _, grown_new3 h.G (Nat.le_refl _) _ _ _⟩
theorem LR.ins1 {w wr : World} {p : Nat} {v : Value} {l : List Int} {t R : Nat} {x s : Int} {L : List Int} {ao : Option Addr} {N cap : Nat} (h : LR w p v l t R wr x s L ao N cap) {w2 : World} (hc : Cur w2 p v l) (hT : Box3 w2 t (.int .i64 x) (.int .i64 s) (.slice ao N cap)) (hQ : Box3 w2 R (.int .i64 0) (.int .i64 0) (.slice none 0 0)) (hG : w.grownBy w2 (some p)) {ao2 : Option Addr} {N2 cap2 : Nat} {L2 : List Int} (ho : OwnK (w.heap.size + 1) w2 ao2 N2 cap2 L2) (n2 : ownB ao2 = none ∨ ownB ao2 ≠ some t) : LR w p v l t R (w2.setCell ⟨t, 2, none⟩ (.slice ao2 N2 cap2)) x s L2 ao2 N2 cap2 := by
  have ht := h.ht
  have pt := h.pt
  have tR := h.tR
  refine ⟨?_, ho.store n2 _ _, n2, hQ.grown (grown_setA _ _ _ _) (by simp; omega), hc.over (by omega) _ _, grown_newW hG (by omega), h.pt, h.ht, h.hR, h.tR⟩
  obtain ⟨h0, h1, h2, f0, f1, f2⟩ := hT
  refine ⟨?_, ?_, ?_, ?_, ?_, ?_⟩ <;> simp [go_sem, *]
theorem grown_belowB {w W w7 : World} {row : Option Nat} {B : Nat} (h : w.grownBy W row) (hb : Below B W w7) (hB : w.heap.size ≤ B) : w.grownBy w7 row := ⟨hb.os.trans h.os, hb.tape.trans h.tape, hb.output.trans h.output, Nat.le_trans h.size hb.size, fun i hi hne => (hb.block i (by omega)).trans (h.block i hi hne)⟩
def AnyPost (p : Nat) (v : Value) (l : List Int) (w : World) (e : Ending) (w' : World) : Prop := ∃ (x s : Int) (L : List Int) (ao : Option Addr) (N cap : Nat), e = .returned (.agg #[.int .i64 x, .int .i64 s, .slice ao N cap]) ∧ OwnK w.heap.size w' ao N cap L ∧ N ≤ 9 ∧ Cur w' p v l ∧ w.grownBy w' (some p)
theorem anyPost {p : Nat} {v : Value} {l : List Int} {w w' : World} {x s : Int} {L : List Int} {ao : Option Addr} {N cap : Nat} (h : OwnK w.heap.size w' ao N cap L ∧ Cur w' p v l ∧ w.grownBy w' (some p)) (hn : N ≤ 9) : AnyPost p v l w (.returned (.agg #[.int .i64 x, .int .i64 s, .slice ao N cap])) w' := ⟨x, s, L, ao, N, cap, rfl, h.1, hn, h.2.1, h.2.2⟩
set_option maxRecDepth 100000 in
set_option maxHeartbeats 1000000 in
theorem l19Any (p : Nat) (v : Value) (l : List Int) (w : World) (hc : Cur w p v l) : Calls Try.prog 105 #[.pointer (some ⟨p, 0, none⟩)] w (AnyPost p v l w) := by
  have hlt := hc.lt
  have HC := Lib.hid (hc.alloc (.cells #[.int .i64 0, .int .i64 0, .slice none 0 0] 28))
  have HA := Lib.hid (World.grownBy_alloc w (.cells #[.int .i64 0, .int .i64 0, .slice none 0 0] 28) (some p))
  have HX := Lib.hid (Box3.new w (.int .i64 0) (.int .i64 0) (.slice none 0 0) 28)
  have hsz : w.heap.size + 1 ≤ (w.alloc (.cells #[.int .i64 0, .int .i64 0, .slice none 0 0] 28)).heap.size := by simp
  clear hc
  go_enter Try.func105, Try.ntmps105
  go_wp2_with fail
  generalize w.alloc (.cells #[.int .i64 0, .int .i64 0, .slice none 0 0] 28) = W0 at HC HA HX hsz ⊢
  refine (l19Ratchet p v l _ HC.out).mono ?_
  rintro e w1 ⟨x, s, L, ao, N, cap, rfl, ho, hN8, hc1, hg1⟩
  have hz1 : w.heap.size + 1 ≤ w1.heap.size := Nat.le_trans hsz hg1.size
  have S1 : Hid (LR w p v l w1.heap.size w.heap.size (w1.alloc (.cells #[.int .i64 x, .int .i64 s, .slice ao N cap] 28)) x s L ao N cap) := Lib.hid
    ⟨Box3.new w1 _ _ _ _, (ho.mono hsz).alloc _, ho.notB (.inl (Nat.le_refl _)), (HX.out.grown hg1 (by simp; omega)).alloc _, hc1.alloc _, grown_trans (grown_trans HA.out hg1) (World.grownBy_alloc _ _ _), hlt, hz1, Nat.le_refl _, by omega⟩
  clear ho hc1 hg1 HX HA HC hsz
  go_wp2_with fail
  generalize w1.alloc (.cells #[.int .i64 x, .int .i64 s, .slice ao N cap] 28) = W1 at S1 ⊢
  generalize w1.heap.size = t at S1 hz1 ⊢
  refine (l1Below p v l 12 _ S1.out.C (by omega) (by omega)).mono ?_
  rintro e w2 ⟨sw, rfl, hsw0, hsw1, hc2, hg2⟩
  have S2 := Lib.hid (S1.out.step hc2 hg2)
  clear hc2 hg2 S1
  rcases (show sw = 0 ∨ sw = 1 ∨ sw = 2 ∨ 3 ≤ sw by omega) with rfl | rfl | rfl | hsw
  · go_wp2_with fail
    refine (l13Key p v l _ S2.out.C).mono ?_
    rintro e w3 ⟨y, rfl, hc3, hg3⟩
    have S3 := Lib.hid (S2.out.step hc3 hg3)
    have S4 := Lib.hid (S3.out.put0 y)
    clear hc3 hg3 S2
    obtain ⟨q0, q1, q2, g0, g1, g2⟩ := S3.out.Q
    have hzQ := S3.out.Q.lt
    have htR1 : ¬ t = w.heap.size := by omega
    have htR2 : ¬ w.heap.size = t := by omega
    obtain ⟨t0, t1, t2, f0, f1, f2⟩ := S3.out.T
    have hzT := S3.out.T.lt
    go_wp2_with fail
    exact bodyPost_ret (v := .agg #[.int .i64 y, .int .i64 s, .slice ao N cap]) (by simp [results, Try.results105, go_sem, *]) rfl (anyPost (S4.out.fin _ _ _) (by omega))
  · go_wp2_with fail
    refine (l1Lit p v l [-1, 0, 99999, 100000, 100001] _ _ _ w2 S2.out.C (by simp) (by simp) rfl rfl rfl).mono ?_
    rintro e w3 ⟨y, rfl, _, hc3, hg3⟩
    have S3 := Lib.hid (S2.out.step hc3 hg3)
    have S4 := Lib.hid (S3.out.put1 y)
    clear hc3 hg3 S2
    obtain ⟨q0, q1, q2, g0, g1, g2⟩ := S3.out.Q
    have hzQ := S3.out.Q.lt
    have htR1 : ¬ t = w.heap.size := by omega
    have htR2 : ¬ w.heap.size = t := by omega
    obtain ⟨t0, t1, t2, f0, f1, f2⟩ := S3.out.T
    have hzT := S3.out.T.lt
    go_wp2_with fail
    exact bodyPost_ret (v := .agg #[.int .i64 x, .int .i64 y, .slice ao N cap]) (by simp [results, Try.results105, go_sem, *]) rfl (anyPost (S4.out.fin _ _ _) (by omega))
  · have hnT : some t ≠ ownB ao := by
      rcases S2.out.NT with e | e
      · rw [e]; simp
      · exact fun h => e h.symm
    have HNT := Lib.hid hnT
    have HRO := Lib.hid (show ∀ k, ownB ao = some k → p < k from fun k hk => by
      rcases S2.out.O.shape with ⟨rfl, _⟩ | ⟨g, rfl, h1, _⟩
      · simp [ownB] at hk
      · simp [ownB] at hk; omega)
    have hq1 : N + 1 ≤ 1099511627776 := by omega
    obtain ⟨t0, t1, t2, f0, f1, f2⟩ := S2.out.T
    have hzT := S2.out.T.lt
    obtain ⟨sm, hsm⟩ : ∃ sm, IntKind.i64.wrap (s - 1) = sm := ⟨_, rfl⟩
    clear hnT
    go_wp2_with fail
    go_region_law (first | (refine step_appK2 rfl _ _ (by rfl) (w.heap.size + 1) ao N cap L (by rfl) (S5.out.O.alloc _) (.slice (some ⟨w5.heap.size, 0, none⟩) 1 1) 1 [yk, zk] (by rfl) (Sk.lit1 w5 _ _ _ rfl) hq1 hzb ?_; intro ao7 N7 cap7 w7 hN7 hN7' ho7 hg7 hb7 hob7; have T7 := Lib.hid ((S5.out.T.alloc _).grown hg7 HNT.out); have hzT7 := T7.out.lt; obtain ⟨k0, k1, k2, m0, m1, m2⟩ := T7.out) | (go_simp; go_at_call 136; (refine (l1Lit p v l [-1, 0, sm, s] _ _ _ w2.drew (S2.out.C.below (Below.refl _ _).drew) (by simp) (by simp) rfl rfl rfl).mono ?_); rintro e w4 ⟨yk, rfl, _, hc4, hg4⟩; have S4 := Lib.hid (S2.out.step hc4 (grown_trans (below_grown (Below.refl _ _).drew _) hg4)); have hzT4 := S4.out.T.lt; obtain ⟨g0, g1, g2, i0, i1, i2⟩ := S4.out.T) | (go_simp; go_at_call 135; (refine (l13Key p v l _ S4.out.C).mono ?_); rintro e w5 ⟨zk, rfl, hc5, hg5⟩; have S5 := Lib.hid (S4.out.step hc5 hg5); have hzT5 := S5.out.T.lt; have hzb : w.heap.size + 1 ≤ (w5.alloc (.cells #[.int .i64 yk, .int .i64 zk] 93)).heap.size := (by simp; omega); obtain ⟨a0, a1, a2, a3, a4, a5⟩ := S5.out.T) | fail)
    all_goals
      have hn7 : ownB ao7 = none ∨ ownB ao7 ≠ some t := by
        rcases hob7 with e | e
        · rw [e]; exact S5.out.NT
        · rw [e]; exact .inr (by simp; omega)
      have Q7 := (S5.out.Q.alloc (.cells #[.int .i64 yk, .int .i64 zk] 93)).keep hb7 (Nat.lt_succ_self _)
      have C7 := (S5.out.C.alloc (.cells #[.int .i64 yk, .int .i64 zk] 93)).grownO hg7 HRO.out
      have G7 : w.grownBy w7 (some p) := grown_belowB (grown_trans S5.out.G (World.grownBy_alloc _ (.cells #[.int .i64 yk, .int .i64 zk] 93) _)) hb7 (Nat.le_succ _)
      have S8 := Lib.hid (S5.out.ins1 C7 T7.out Q7 G7 ho7 hn7)
      have hn9 : N7 ≤ 9 := by omega
      have htR1 : ¬ t = w.heap.size := by omega
      have htR2 : ¬ w.heap.size = t := by omega
      have hzQ7 := Q7.lt
      clear t0 t1 t2 f0 f1 f2 hzT g0 g1 g2 i0 i1 i2 a0 a1 a2 a3 a4 a5 hob7 hb7 hg7 ho7 hn7 C7 G7 hc4 hg4 hc5 hg5
      obtain ⟨q0, q1, q2, r0, r1, r2⟩ := Q7
      go_wp2
      exact bodyPost_ret (v := .agg #[.int .i64 x, .int .i64 s, .slice ao7 N7 cap7]) (by simp [results, Try.results105, go_sem, *]) rfl (anyPost (S8.out.fin _ _ _) hn9)
  · have hs0 : (sw == 0) = false := beq_eq_false_iff_ne.2 (by omega)
    have hs1 : (sw == 1) = false := beq_eq_false_iff_ne.2 (by omega)
    have hs2 : (sw == 2) = false := beq_eq_false_iff_ne.2 (by omega)
    have S3 := S2
    obtain ⟨q0, q1, q2, g0, g1, g2⟩ := S3.out.Q
    have hzQ := S3.out.Q.lt
    have htR1 : ¬ t = w.heap.size := by omega
    have htR2 : ¬ w.heap.size = t := by omega
    obtain ⟨t0, t1, t2, f0, f1, f2⟩ := S3.out.T
    have hzT := S3.out.T.lt
    go_wp2_with fail
    exact bodyPost_ret (v := .agg #[.int .i64 x, .int .i64 s, .slice ao N cap]) (by simp [results, Try.results105, go_sem, *]) rfl (anyPost (S3.out.fin _ _ _) (by omega))
end Go.Proofs.Ytelcpihbdgikfaa
