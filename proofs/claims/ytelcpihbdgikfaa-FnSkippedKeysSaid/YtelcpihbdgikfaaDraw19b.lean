/- The walk of the drawing of a ratchet and a step. -/
import Derived.Test.YtelcpihbdgikfaaProg
import Derived.Test.YtelcpihbdgikfaaDraw19
namespace Go.Proofs.Ytelcpihbdgikfaa
open Go.RowKit
set_option linter.unusedVariables false

/-- a ratchet in the box t, the result's box at the head of the call's own memory, the cursor p -/
structure DS (w : World) (p : Nat) (v : Value) (l : List Int) (t : Nat) (W : World) (x s : Int) (L : List Int) (ao : Option Addr) (N cap : Nat) : Prop where
  P : Box3 W w.heap.size (.int .i64 0) (.int .i64 0) (.slice none 0 0)
  A : Box3 W t (.int .i64 x) (.int .i64 s) (.slice ao N cap)
  O : OwnK (p + 1) W ao N cap L
  C : Cur W p v l
  B : Below w.heap.size w W
  hp : w.heap.size < p
  ht : p < t
section
variable {w W : World} {p : Nat} {v : Value} {l : List Int} {t : Nat} {x s : Int} {L : List Int} {ao : Option Addr} {N cap : Nat}
theorem DS.step (h : DS w p v l t W x s L ao N cap) {W2 : World} (hc : Cur W2 p v l) (hg : W.grownBy W2 (some p)) : DS w p v l t W2 x s L ao N cap := by
  obtain ⟨P, A, O, C, B, hp, ht⟩ := h
  exact ⟨P.grown hg (by simp; omega), A.grown hg (by simp; omega), O.grown hg (O.notB (.inr (Nat.lt_succ_self p))), hc, B.trans (grown_below hg B.size (fun k hk => by cases hk; omega)), hp, ht⟩
theorem DS.below (h : DS w p v l t W x s L ao N cap) {W2 : World} (hb : Below W.heap.size W W2) : DS w p v l t W2 x s L ao N cap := h.step (h.C.below hb) (below_grown hb _)
theorem DS.fin (h : DS w p v l t W x s L ao N cap) (u0 u1 u2 : Value) : OwnK w.heap.size (((W.setCell ⟨w.heap.size, 0, none⟩ u0).setCell ⟨w.heap.size, 1, none⟩ u1).setCell ⟨w.heap.size, 2, none⟩ u2) ao N cap L ∧ Below w.heap.size w (((W.setCell ⟨w.heap.size, 0, none⟩ u0).setCell ⟨w.heap.size, 1, none⟩ u1).setCell ⟨w.heap.size, 2, none⟩ u2) := by
  have hp := h.hp
  exact ⟨(((h.O.cells (by omega) _).cells (by omega) _).cells (by omega) _).mono (by omega), ((h.B.setCell (Nat.le_refl _) _).setCell (Nat.le_refl _) _).setCell (Nat.le_refl _) _⟩
end
def DrawPost (w : World) (e : Ending) (w' : World) : Prop := ∃ (x s step : Int) (L : List Int) (ao : Option Addr) (N cap : Nat), e = .returned (.tuple #[.agg #[.int .i64 x, .int .i64 s, .slice ao N cap], .int .i64 step]) ∧ OwnK w.heap.size w' ao N cap L ∧ N ≤ 9 ∧ Below w.heap.size w w'
theorem drawPost {w w' : World} {x s step : Int} {L : List Int} {ao : Option Addr} {N cap : Nat} (h : OwnK w.heap.size w' ao N cap L ∧ Below w.heap.size w w') (hn : N ≤ 9) : DrawPost w (.returned (.tuple #[.agg #[.int .i64 x, .int .i64 s, .slice ao N cap], .int .i64 step])) w' := ⟨x, s, step, L, ao, N, cap, rfl, h.1, hn, h.2⟩
set_option maxRecDepth 100000 in
set_option maxHeartbeats 1000000 in
theorem drawKeyForStep (v : Value) (l : List Int) (w : World) (hs : Sl .u8 w v l) (hl : l.length ≤ 1048576) (hby : ∀ x ∈ l, 0 ≤ x ∧ x ≤ 255) : Calls Try.prog 66 #[v] w (DrawPost w) := by
  have HS := Lib.hid (hs.alloc (.cells #[.int .i64 0, .int .i64 0, .slice none 0 0] 28))
  have HP := Lib.hid (Box3.new w (.int .i64 0) (.int .i64 0) (.slice none 0 0) 28)
  have hb0 : Below w.heap.size w (w.alloc (.cells #[.int .i64 0, .int .i64 0, .slice none 0 0] 28)) := bel_al (Below.refl _ _) _
  have hz0 : w.heap.size < (w.alloc (.cells #[.int .i64 0, .int .i64 0, .slice none 0 0] 28)).heap.size := by simp
  have HBY := Lib.hid hby
  clear hs hby
  go_enter Try.func66, Try.ntmps66
  go_wp2_with fail
  generalize w.alloc (.cells #[.int .i64 0, .int .i64 0, .slice none 0 0] 28) = W0 at HS HP hb0 hz0 ⊢
  refine (l1New v l W0 HS.out hl HBY.out).mono ?_
  rintro e w1 ⟨rfl, hc1, hb1⟩
  have P1 := Lib.hid (HP.out.below hb1)
  have B1 := Lib.hid (bel_seq hb0 hb1)
  have C1 := Lib.hid hc1
  have hp1 := hc1.lt
  generalize W0.heap.size = p at C1 hz0 hp1 hc1 ⊢
  clear hb0 hb1 HP HS HBY hc1
  go_wp2_with fail
  refine (l19Any p v l w1 C1.out).mono ?_
  rintro e w2 ⟨x, s, L, ao, N, cap, rfl, ho, hN9, hc2, hg2⟩
  have hz2 := hg2.size
  have S2 : Hid (DS w p v l w2.heap.size (w2.alloc (.cells #[.int .i64 x, .int .i64 s, .slice ao N cap] 28)) x s L ao N cap) := Lib.hid
    ⟨(P1.out.grown hg2 (by simp; omega)).alloc _, Box3.new w2 _ _ _ _, (ho.mono (by omega)).alloc _, hc2.alloc _, bel_al (B1.out.trans (grown_below hg2 B1.out.size (fun k hk => by cases hk; omega))) _, hz0, by omega⟩
  clear ho hc2 hg2 P1 B1 C1
  obtain ⟨sm, hsm⟩ : ∃ sm, IntKind.i64.wrap (s - 2) = sm := ⟨_, rfl⟩
  by_cases hN : 0 < N
  · have hNi : (0 : Int) < N := by omega
    go_wp2_with fail
    generalize w2.alloc (.cells #[.int .i64 x, .int .i64 s, .slice ao N cap] 28) = W2 at S2 ⊢
    generalize w2.heap.size = t at S2 hz2 ⊢
    have hpt : p < t := by omega
    have hRt : ¬ w.heap.size = t := by omega
    have hRt2 : ¬ t = w.heap.size := by omega
    obtain ⟨a0, a1, a2, i0, i1, i2⟩ := S2.out.A
    have hzt := S2.out.A.lt
    refine (l1Once p v l 2 W2 S2.out.C (by omega) (by omega)).mono ?_
    rintro e w3 ⟨bo, rfl, hc3, hg3⟩
    have S3 := Lib.hid (S2.out.step hc3 hg3)
    clear hc3 hg3 S2 a0 a1 a2 i0 i1 i2 hzt
    obtain ⟨a0, a1, a2, i0, i1, i2⟩ := S3.out.A
    have hzt := S3.out.A.lt
    obtain ⟨g, hao⟩ : ∃ g, ao = some ⟨g, 0, none⟩ := by
      rcases S3.out.O.shape with ⟨_, h0, _⟩ | ⟨g, h, _⟩
      · omega
      · exact ⟨g, h⟩
    subst hao
    cases bo with
    | true =>
      go_wp2_with fail
      go_region_law (first | (go_simp; go_at_call 107; (refine (l1Below p v l N _ (by first | exact S3.out.C | exact S3.out.C.below (Below.refl _ _).drew) (by omega) (by omega)).mono ?_); rintro e w5 ⟨y, rfl, hy0, hy1, hc5, hg5⟩; have S5 := Lib.hid (S3.out.step hc5 (by first | exact hg5 | exact grown_trans (below_grown (Below.refl _ _).drew _) hg5)); have hzT5 := S5.out.A.lt; obtain ⟨b0, b1, b2, j0, j1, j2⟩ := S5.out.A; obtain ⟨q0, q1, q2, r0, r1, r2⟩ := S5.out.P; have hzR5 := S5.out.P.lt; obtain ⟨j, rfl⟩ := Int.eq_ofNat_of_zero_le hy0; have hcj := S5.out.O.cellAt (j := j * 2) (by omega); have hzg := S5.out.O.blk; generalize L.getD (j * 2) 0 = z at hcj) | fail)
      all_goals
        go_wp2
        exact bodyPost_ret (v := .tuple #[.agg #[.int .i64 x, .int .i64 s, .slice (some ⟨g, 0, none⟩) N cap], .int .i64 z]) (by simp [results, Try.results66, go_sem, *]) rfl (drawPost (S5.out.fin _ _ _) hN9)
    | false =>
      go_wp2_with fail
      go_region_law (first | (go_simp; go_at_call 107; (refine (l1Below p v l 12 _ (by first | exact S3.out.C | exact S3.out.C.below (Below.refl _ _).drew) (by omega) (by omega)).mono ?_); rintro e w5 ⟨y, rfl, hy0, hy1, hc5, hg5⟩; have S5 := Lib.hid (S3.out.step hc5 (by first | exact hg5 | exact grown_trans (below_grown (Below.refl _ _).drew _) hg5)); have hzT5 := S5.out.A.lt; obtain ⟨b0, b1, b2, j0, j1, j2⟩ := S5.out.A; obtain ⟨q0, q1, q2, r0, r1, r2⟩ := S5.out.P; have hzR5 := S5.out.P.lt) | fail)
      all_goals
        go_wp2
        exact bodyPost_ret (v := .tuple #[.agg #[.int .i64 x, .int .i64 s, .slice (some ⟨g, 0, none⟩) N cap], .int .i64 (IntKind.i64.wrap (sm + y))]) (by simp [results, Try.results66, go_sem, *]) rfl (drawPost (S5.out.fin _ _ _) hN9)
  · have hNi : ¬ (0 : Int) < N := by omega
    go_wp2_with fail
    generalize w2.alloc (.cells #[.int .i64 x, .int .i64 s, .slice ao N cap] 28) = W2 at S2 ⊢
    generalize w2.heap.size = t at S2 hz2 ⊢
    have hpt : p < t := by omega
    have hRt : ¬ w.heap.size = t := by omega
    have hRt2 : ¬ t = w.heap.size := by omega
    obtain ⟨a0, a1, a2, i0, i1, i2⟩ := S2.out.A
    have hzt := S2.out.A.lt
    go_region_law (first | (go_simp; go_at_call 107; (refine (l1Below p v l 12 _ (by first | exact S2.out.C | exact S2.out.C.below (Below.refl _ _).drew) (by omega) (by omega)).mono ?_); rintro e w5 ⟨y, rfl, hy0, hy1, hc5, hg5⟩; have S5 := Lib.hid (S2.out.step hc5 (by first | exact hg5 | exact grown_trans (below_grown (Below.refl _ _).drew _) hg5)); have hzT5 := S5.out.A.lt; obtain ⟨b0, b1, b2, j0, j1, j2⟩ := S5.out.A; obtain ⟨q0, q1, q2, r0, r1, r2⟩ := S5.out.P; have hzR5 := S5.out.P.lt) | fail)
    all_goals
      go_wp2
      exact bodyPost_ret (v := .tuple #[.agg #[.int .i64 x, .int .i64 s, .slice ao N cap], .int .i64 (IntKind.i64.wrap (sm + y))]) (by simp [results, Try.results66, go_sem, *]) rfl (drawPost (S5.out.fin _ _ _) hN9)
end Go.Proofs.Ytelcpihbdgikfaa
