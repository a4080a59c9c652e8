/- The walks of copying and advancing a ratchet. -/
import Derived.Test.YtelcpihbdgikfaaProg
import Derived.Test.YtelcpihbdgikfaaRatch
import Derived.Test.YtelcpihbdgikfaaStepK
import Derived.Test.YtelcpihbdgikfaaKeys
import Derived.Deep.RegionHeld3
namespace Go.Proofs.Ytelcpihbdgikfaa
open Go.RowKit

/-- three cells of block b hold these values and may be written -/
def Box3 (W : World) (b : Nat) (v0 v1 v2 : Value) : Prop :=
  W.cell? ⟨b, 0, none⟩ = some v0 ∧ W.cell? ⟨b, 1, none⟩ = some v1 ∧ W.cell? ⟨b, 2, none⟩ = some v2 ∧ W.frozen? ⟨b, 0, none⟩ = false ∧ W.frozen? ⟨b, 1, none⟩ = false ∧ W.frozen? ⟨b, 2, none⟩ = false
theorem Box3.new (w : World) (v0 v1 v2 : Value) (e : TypeId) : Box3 (w.alloc (.cells #[v0, v1, v2] e)) w.heap.size v0 v1 v2 := by
  refine ⟨by simp, by simp, by simp, by simp [go_sem], by simp [go_sem], by simp [go_sem]⟩
theorem Box3.lt {W : World} {b : Nat} {v0 v1 v2 : Value} (h : Box3 W b v0 v1 v2) : b < W.heap.size := World.block_lt_of_cell? W _ h.1
theorem Box3.keep {B : Nat} {W W' : World} {b : Nat} {v0 v1 v2 : Value} (h : Box3 W b v0 v1 v2) (hB : Below B W W') (hb : b < B) : Box3 W' b v0 v1 v2 := by
  obtain ⟨h0, h1, h2, f0, f1, f2⟩ := h
  exact ⟨(hB.cell (p := ⟨b, 0, none⟩) hb).trans h0, (hB.cell (p := ⟨b, 1, none⟩) hb).trans h1, (hB.cell (p := ⟨b, 2, none⟩) hb).trans h2, (hB.frozen (p := ⟨b, 0, none⟩) hb).trans f0, (hB.frozen (p := ⟨b, 1, none⟩) hb).trans f1, (hB.frozen (p := ⟨b, 2, none⟩) hb).trans f2⟩
theorem Box3.below {W W' : World} {b : Nat} {v0 v1 v2 : Value} (h : Box3 W b v0 v1 v2) (hB : Below W.heap.size W W') : Box3 W' b v0 v1 v2 := h.keep hB h.lt
theorem Box3.alloc {W : World} {b : Nat} {v0 v1 v2 : Value} (h : Box3 W b v0 v1 v2) (o : Obj) : Box3 (W.alloc o) b v0 v1 v2 := h.below (bel_al (Below.refl _ _) o)
theorem Box3.grown {W W' : World} {row : Option Nat} {b : Nat} {v0 v1 v2 : Value} (h : Box3 W b v0 v1 v2) (hg : W.grownBy W' row) (hne : some b ≠ row) : Box3 W' b v0 v1 v2 := by
  have hl := h.lt
  obtain ⟨h0, h1, h2, f0, f1, f2⟩ := h
  have hf : ∀ o, W'.frozen? ⟨b, o, none⟩ = W.frozen? ⟨b, o, none⟩ := fun o => World.frozen?_of_block (hg.block b hl hne)
  exact ⟨hg.cell h0 hne, hg.cell h1 hne, hg.cell h2 hne, (hf 0).trans f0, (hf 1).trans f1, (hf 2).trans f2⟩
set_option maxRecDepth 100000 in
set_option maxHeartbeats 1000000 in
theorem implCopyR (x s : Int) (v : Value) (n : Nat) (l : List Int) (w : World) (hs : Sk w v n l) (hl : n ≤ 1048576) : Calls Try.prog 74 #[.agg #[.int .i64 x, .int .i64 s, v]] w fun e w' => ∃ ao cap, e = .returned (.agg #[.int .i64 x, .int .i64 s, .slice ao n cap]) ∧ OwnK w.heap.size w' ao n cap l ∧ Below w.heap.size w w' := by
  obtain ⟨a, c, rfl, hm⟩ := hs.shape
  have HS := Lib.hid ((hs.alloc (.cells #[.int .i64 x, .int .i64 s, .slice a n c] 28)).alloc (.cells #[.int .i64 0, .int .i64 0, .slice none 0 0] 28))
  have P := (Box3.new w (.int .i64 x) (.int .i64 s) (.slice a n c) 28).alloc (.cells #[.int .i64 0, .int .i64 0, .slice none 0 0] 28)
  have Q := Box3.new (w.alloc (.cells #[.int .i64 x, .int .i64 s, .slice a n c] 28)) (.int .i64 0) (.int .i64 0) (.slice none 0 0) 28
  have hb0 : Below w.heap.size w ((w.alloc (.cells #[.int .i64 x, .int .i64 s, .slice a n c] 28)).alloc (.cells #[.int .i64 0, .int .i64 0, .slice none 0 0] 28)) := bel_al (bel_al (Below.refl _ _) _) _
  have hz : ((w.alloc (.cells #[.int .i64 x, .int .i64 s, .slice a n c] 28)).alloc (.cells #[.int .i64 0, .int .i64 0, .slice none 0 0] 28)).heap.size = w.heap.size + 2 := by simp
  rw [World.size_alloc] at Q
  clear hs
  go_enter Try.func74, Try.ntmps74
  go_wp2_with fail
  generalize (w.alloc (.cells #[.int .i64 x, .int .i64 s, .slice a n c] 28)).alloc (.cells #[.int .i64 0, .int .i64 0, .slice none 0 0] 28) = W0 at HS P Q hb0 hz ⊢
  have HZ := Lib.hid hz
  have B0 := Lib.hid hb0
  refine (cloneK _ n l W0 HS.out (by omega)).mono ?_
  rintro e w1 ⟨ao, N, cap, rfl, hN1, hN2, ho, hb1⟩
  obtain rfl : n = N := by omega
  have P1 := P.below hb1
  have Q1 := Q.below hb1
  have B1 := Lib.hid (bel_seq B0.out hb1)
  have O1 := Lib.hid (ho.mono (show w.heap.size + 2 ≤ W0.heap.size by omega))
  clear hb0 hz P Q ho hb1 hN1 hN2
  have hzA := P1.lt
  have hzB := Q1.lt
  obtain ⟨p0, p1, p2, f0, f1, f2⟩ := P1
  obtain ⟨q0, q1, q2, r0, r1, r2⟩ := Q1
  go_wp2
  refine bodyPost_ret (v := .agg #[.int .i64 x, .int .i64 s, .slice ao n cap]) (by simp [results, Try.results74, go_sem, *]) rfl ⟨ao, cap, rfl, ?_, (by repeat (with_reducible (first | exact Below.refl _ _ | refine bel_al ?_ _ | refine Below.setCell ?_ (by first | (simp; done) | (simp; omega)) _ | refine Below.drew ?_ | refine bel_drewN ?_ _ | refine bel_seq ?_ (B1.out))))⟩
  refine OwnK.mono (base := w.heap.size + 2) ?_ (by omega)
  repeat (first | exact O1.out | refine OwnK.cells ?_ (by omega) _)
set_option maxRecDepth 100000 in
set_option maxHeartbeats 1000000 in
theorem specCopyR (x s : Int) (v : Value) (n : Nat) (l : List Int) (w : World) (hs : Sk w v n l) (hl : n ≤ 1048576) : Calls Try.prog 70 #[.agg #[.int .i64 x, .int .i64 s, v]] w fun e w' => ∃ ao cap, e = .returned (.agg #[.int .i64 x, .int .i64 s, .slice ao n cap]) ∧ OwnK w.heap.size w' ao n cap l ∧ Below w.heap.size w w' := by
  obtain ⟨a, c, rfl, hm⟩ := hs.shape
  have HS := Lib.hid ((hs.alloc (.cells #[.int .i64 x, .int .i64 s, .slice a n c] 28)).alloc (.cells #[.int .i64 0, .int .i64 0, .slice none 0 0] 28))
  have P := (Box3.new w (.int .i64 x) (.int .i64 s) (.slice a n c) 28).alloc (.cells #[.int .i64 0, .int .i64 0, .slice none 0 0] 28)
  have Q := Box3.new (w.alloc (.cells #[.int .i64 x, .int .i64 s, .slice a n c] 28)) (.int .i64 0) (.int .i64 0) (.slice none 0 0) 28
  have hb0 : Below w.heap.size w ((w.alloc (.cells #[.int .i64 x, .int .i64 s, .slice a n c] 28)).alloc (.cells #[.int .i64 0, .int .i64 0, .slice none 0 0] 28)) := bel_al (bel_al (Below.refl _ _) _) _
  have hz : ((w.alloc (.cells #[.int .i64 x, .int .i64 s, .slice a n c] 28)).alloc (.cells #[.int .i64 0, .int .i64 0, .slice none 0 0] 28)).heap.size = w.heap.size + 2 := by simp
  rw [World.size_alloc] at Q
  clear hs
  go_enter Try.func70, Try.ntmps70
  have P2 := Lib.hid ((P.alloc (.cells #[.int .i64 x, .int .i64 s, .slice a n c] 28)).alloc (.cells #[] 93))
  have Q2 := Lib.hid ((Q.alloc (.cells #[.int .i64 x, .int .i64 s, .slice a n c] 28)).alloc (.cells #[] 93))
  have T0 := Box3.new ((w.alloc (.cells #[.int .i64 x, .int .i64 s, .slice a n c] 28)).alloc (.cells #[.int .i64 0, .int .i64 0, .slice none 0 0] 28)) (.int .i64 x) (.int .i64 s) (.slice a n c) 28
  rw [hz] at T0
  have T2 := Lib.hid (T0.alloc (.cells #[] 93))
  have S2 := Lib.hid ((HS.out.alloc (.cells #[.int .i64 x, .int .i64 s, .slice a n c] 28)).alloc (.cells #[] 93))
  have O2 := Lib.hid (OwnK.lit0 (w.heap.size + 3) (((w.alloc (.cells #[.int .i64 x, .int .i64 s, .slice a n c] 28)).alloc (.cells #[.int .i64 0, .int .i64 0, .slice none 0 0] 28)).alloc (.cells #[.int .i64 x, .int .i64 s, .slice a n c] 28)) (w.heap.size + 2 + 1) (by simp) (by simp))
  have hl1 : 0 + n ≤ 1099511627776 := by omega
  have hz1 : w.heap.size + 3 ≤ ((((w.alloc (.cells #[.int .i64 x, .int .i64 s, .slice a n c] 28)).alloc (.cells #[.int .i64 0, .int .i64 0, .slice none 0 0] 28)).alloc (.cells #[.int .i64 x, .int .i64 s, .slice a n c] 28)).alloc (.cells #[] 93)).heap.size := by simp
  have B2 := Lib.hid (bel_al (bel_al hb0 (.cells #[.int .i64 x, .int .i64 s, .slice a n c] 28)) (.cells #[] 93))
  clear hb0 hz P Q T0
  go_wp2_with (at_builtin; refine wpList_appK rfl _ _ rfl (w.heap.size + 3) _ _ _ _ rfl O2.out _ _ _ rfl S2.out hl1 hz1 ?_; intro ao N cap w4 hN1 hN2 ho hg4 hb4; obtain ⟨p0, p1, p2, f0, f1, f2⟩ := P2.out.keep hb4 (by omega); obtain ⟨q0, q1, q2, r0, r1, r2⟩ := Q2.out.keep hb4 (by omega); obtain ⟨t0, t1, t2, u0, u1, u2⟩ := T2.out.keep hb4 (by omega); have hzA : w.heap.size < w4.heap.size := (World.block_lt_of_cell? w4 _ p0); have hzB : w.heap.size + 1 < w4.heap.size := (World.block_lt_of_cell? w4 _ q0); have hzC : w.heap.size + 2 < w4.heap.size := (World.block_lt_of_cell? w4 _ t0); have B4 := Lib.hid (B2.out.trans (hb4.mono (by omega))); have O4 := Lib.hid ho; have HN := Lib.hid (And.intro hN1 hN2); clear ho hb4 hg4 hN1 hN2)
  obtain rfl : n = N := by have := HN.out; omega
  refine bodyPost_ret (v := .agg #[.int .i64 x, .int .i64 s, .slice ao n cap]) (by simp [results, Try.results70, go_sem, *]) rfl ⟨ao, cap, rfl, ?_, (by repeat (with_reducible (first | exact Below.refl _ _ | refine bel_al ?_ _ | refine Below.setCell ?_ (by first | (simp; done) | (simp; omega)) _ | refine Below.drew ?_ | refine bel_drewN ?_ _ | refine bel_seq ?_ (B4.out))))⟩
  refine OwnK.mono (base := w.heap.size + 3) ?_ (by omega)
  have h := O4.out
  rw [List.nil_append] at h
  repeat (first | exact h | refine OwnK.cells ?_ (by omega) _)
end Go.Proofs.Ytelcpihbdgikfaa
