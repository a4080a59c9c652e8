/- The walks of advancing a ratchet. -/
import Derived.Test.YtelcpihbdgikfaaProg
import Derived.Test.YtelcpihbdgikfaaAdv
namespace Go.Proofs.Ytelcpihbdgikfaa
open Go.RowKit

def advI (x s : Int) (n : Nat) (l : List Int) : (Int × Int) × Int × Bool := if validRatchetI x s n l && !(s == 100000) then ((nextChainI x, s + 1), messageKeyI x, true) else ((x, s), 0, false)
theorem advI_no {x s : Int} {n : Nat} {l : List Int} (h : (validRatchetI x s n l && !(s == 100000)) = false) : advI x s n l = ((x, s), 0, false) := by unfold advI; rw [h]; rfl
theorem advI_yes {x s : Int} {n : Nat} {l : List Int} (h : (validRatchetI x s n l && !(s == 100000)) = true) : advI x s n l = ((nextChainI x, s + 1), messageKeyI x, true) := by unfold advI; rw [h]; rfl
/-- a ratchet, a key and an answer are returned; the kept keys lie in memory of the call's own -/
def RatPost (y : (Int × Int) × Int × Bool) (n : Nat) (l : List Int) (w : World) (e : Ending) (w' : World) : Prop :=
  ∃ ao cap, e = .returned (.tuple #[.agg #[.int .i64 y.1.1, .int .i64 y.1.2, .slice ao n cap], .int .i64 y.2.1, .bool y.2.2]) ∧ OwnK w.heap.size w' ao n cap l ∧ Below w.heap.size w w'
theorem ratPost {y : (Int × Int) × Int × Bool} {x s k : Int} {b : Bool} (h : y = ((x, s), k, b)) {n : Nat} {l : List Int} {w w' : World} {ao : Option Addr} {cap : Nat} (ho : OwnK w.heap.size w' ao n cap l) (hb : Below w.heap.size w w') :
    RatPost y n l w (.returned (.tuple #[.agg #[.int .i64 x, .int .i64 s, .slice ao n cap], .int .i64 k, .bool b])) w' := by
  subst h
  exact ⟨_, _, rfl, ho, hb⟩
theorem keep4g {w W' : World} {row : Option Nat} {a0 a1 a2 a3 : Addr} {u0 u1 u2 u3 : Value} (h0 : w.cell? a0 = some u0) (h1 : w.cell? a1 = some u1) (h2 : w.cell? a2 = some u2) (h3 : w.cell? a3 = some u3) (n0 : some a0.block ≠ row) (n1 : some a1.block ≠ row) (n2 : some a2.block ≠ row) (n3 : some a3.block ≠ row) (hg : w.grownBy W' row) :
    W'.cell? a0 = some u0 ∧ W'.cell? a1 = some u1 ∧ W'.cell? a2 = some u2 ∧ W'.cell? a3 = some u3 ∧ w.grownBy W' row := ⟨hg.cell h0 n0, hg.cell h1 n1, hg.cell h2 n2, hg.cell h3 n3, hg⟩
theorem grown_setA (w : World) (b o : Nat) (u : Value) : w.grownBy (w.setCell ⟨b, o, none⟩ u) (some b) := ⟨rfl, rfl, rfl, by simp [World.setCell], fun i _ hne => Below.heap_setCell _ _ _ _ (fun e => hne (by rw [e]))⟩
theorem grown_store3 {w w6 : World} {b : Nat} (h : w.grownBy w6 (some b)) (x y z : Value) : w.grownBy (((w6.setCell ⟨b, 0, none⟩ x).setCell ⟨b, 1, none⟩ y).setCell ⟨b, 2, none⟩ z) (some b) := grown_trans (grown_trans (grown_trans h (grown_setA _ _ _ _)) (grown_setA _ _ _ _)) (grown_setA _ _ _ _)
theorem OwnK.notB {base : Nat} {w : World} {ao : Option Addr} {N cap : Nat} {l : List Int} (h : OwnK base w ao N cap l) {b : Nat} (hb : w.heap.size ≤ b ∨ b < base) : ownB ao = none ∨ ownB ao ≠ some b := by
  rcases h.shape with ⟨rfl, _⟩ | ⟨g, rfl, hg, hg2⟩
  · exact .inl rfl
  · exact .inr (by simp [ownB]; omega)
theorem OwnK.store {base : Nat} {w : World} {ao : Option Addr} {N cap : Nat} {l : List Int} (h : OwnK base w ao N cap l) {b : Nat} (hn : ownB ao = none ∨ ownB ao ≠ some b) (o : Nat) (u : Value) : OwnK base (w.setCell ⟨b, o, none⟩ u) ao N cap l := h.grown (grown_setA _ _ _ _) hn
set_option maxRecDepth 100000 in
set_option maxHeartbeats 1000000 in
theorem implAdvance (x s : Int) (v : Value) (n : Nat) (l : List Int) (w : World) (hs : Sk w v n l) (hl : n ≤ 1048576) : Calls Try.prog 18 #[.agg #[.int .i64 x, .int .i64 s, v]] w (RatPost (advI x s n l) n l w) := by
  obtain ⟨a, c, rfl, hm⟩ := hs.shape
  have HS := Lib.hid ((hs.alloc (.cells #[.int .i64 x, .int .i64 s, .slice a n c] 28)).alloc (.cells #[.int .i64 0, .int .i64 0, .slice none 0 0] 28))
  have P := (Box3.new w (.int .i64 x) (.int .i64 s) (.slice a n c) 28).alloc (.cells #[.int .i64 0, .int .i64 0, .slice none 0 0] 28)
  have Q := Box3.new (w.alloc (.cells #[.int .i64 x, .int .i64 s, .slice a n c] 28)) (.int .i64 0) (.int .i64 0) (.slice none 0 0) 28
  have hb0 : Below w.heap.size w ((w.alloc (.cells #[.int .i64 x, .int .i64 s, .slice a n c] 28)).alloc (.cells #[.int .i64 0, .int .i64 0, .slice none 0 0] 28)) := bel_al (bel_al (Below.refl _ _) _) _
  have hz : w.heap.size + 2 ≤ ((w.alloc (.cells #[.int .i64 x, .int .i64 s, .slice a n c] 28)).alloc (.cells #[.int .i64 0, .int .i64 0, .slice none 0 0] 28)).heap.size := by simp
  rw [World.size_alloc] at Q
  clear hs hm
  go_enter Try.func18, Try.ntmps18
  go_wp2_with fail
  generalize (w.alloc (.cells #[.int .i64 x, .int .i64 s, .slice a n c] 28)).alloc (.cells #[.int .i64 0, .int .i64 0, .slice none 0 0] 28) = W0 at HS P Q hb0 hz ⊢
  refine (implCopyR x s _ n l W0 HS.out hl).mono ?_
  rintro e w1 ⟨ao, cap, rfl, ho, hb1⟩
  have S1 := Lib.hid ((HS.out.below hb1).alloc (.cells #[.int .i64 x, .int .i64 s, .slice ao n cap] 28))
  have P1 := Lib.hid ((P.below hb1).alloc (.cells #[.int .i64 x, .int .i64 s, .slice ao n cap] 28))
  have Q1 := Lib.hid ((Q.below hb1).alloc (.cells #[.int .i64 x, .int .i64 s, .slice ao n cap] 28))
  have T1 := Lib.hid (Box3.new w1 (.int .i64 x) (.int .i64 s) (.slice ao n cap) 28)
  have B1 := Lib.hid (bel_al (bel_seq hb0 hb1) (.cells #[.int .i64 x, .int .i64 s, .slice ao n cap] 28))
  have O1 := Lib.hid ((ho.mono hz).alloc (.cells #[.int .i64 x, .int .i64 s, .slice ao n cap] 28))
  have hz1 : w.heap.size + 2 ≤ w1.heap.size := Nat.le_trans hz hb1.size
  have HNT := Lib.hid (ho.notB (.inl (Nat.le_refl w1.heap.size)))
  obtain ⟨p0, p1, p2, _, _, _⟩ := (P.below hb1)
  have hzp : w.heap.size < w1.heap.size := by omega
  clear hb0 P Q ho hb1 HS hz
  go_wp2_with fail
  clear p0 p1 p2
  generalize w1.alloc (.cells #[.int .i64 x, .int .i64 s, .slice ao n cap] 28) = W1 at S1 P1 Q1 T1 B1 O1 ⊢
  generalize hB : w1.heap.size = t at T1 hz1 hzp HNT ⊢
  clear hB
  refine (implIsValidRatchet x s _ n l W1 S1.out).mono ?_
  rintro e w2 ⟨rfl, hb2⟩
  have B2 := Lib.hid (bel_seq B1.out hb2)
  have O2 := Lib.hid (O1.out.below hb2)
  have P2 := Lib.hid (P1.out.below hb2)
  have Q2 := Lib.hid (Q1.out.below hb2)
  have T2 := Lib.hid (T1.out.below hb2)
  clear hb2 S1 P1 Q1 T1 O1
  have hzA := P2.out.lt
  have hzB := Q2.out.lt
  have hzC := T2.out.lt
  have ht1 : ¬ t = w.heap.size := by omega
  have ht2 : ¬ t = w.heap.size + 1 := by omega
  have ht3 : ¬ w.heap.size = t := by omega
  have ht4 : ¬ w.heap.size + 1 = t := by omega
  cases hv : validRatchetI x s n l with
  | false =>
    have HV := Lib.hid (advI_no (x := x) (s := s) (n := n) (l := l) (by rw [hv]; rfl))
    obtain ⟨p0, p1, p2, f0, f1, f2⟩ := P2.out
    obtain ⟨q0, q1, q2, r0, r1, r2⟩ := Q2.out
    obtain ⟨t0, t1, t2, u0, u1, u2⟩ := T2.out
    go_wp2
    refine bodyPost_ret (v := .tuple #[.agg #[.int .i64 x, .int .i64 s, .slice ao n cap], .int .i64 0, .bool false]) (by simp [results, Try.results18, go_sem, *]) rfl (ratPost HV.out ?_ (by repeat (with_reducible (first | exact Below.refl _ _ | refine bel_al ?_ _ | refine Below.setCell ?_ (by first | (simp; done) | (simp; omega)) _ | refine Below.drew ?_ | refine bel_drewN ?_ _ | refine bel_seq ?_ (B2.out)))))
    refine OwnK.mono (base := w.heap.size + 2) ?_ (by omega)
    repeat (first | exact O2.out | refine OwnK.cells ?_ (by omega) _)
  | true =>
  by_cases he : s = 100000
  · have HV := Lib.hid (advI_no (x := x) (s := s) (n := n) (l := l) (by rw [he]; simp))
    subst he
    obtain ⟨p0, p1, p2, f0, f1, f2⟩ := P2.out
    obtain ⟨q0, q1, q2, r0, r1, r2⟩ := Q2.out
    obtain ⟨t0, t1, t2, u0, u1, u2⟩ := T2.out
    go_wp2
    refine bodyPost_ret (v := .tuple #[.agg #[.int .i64 x, .int .i64 100000, .slice ao n cap], .int .i64 0, .bool false]) (by simp [results, Try.results18, go_sem, *]) rfl (ratPost HV.out ?_ (by repeat (with_reducible (first | exact Below.refl _ _ | refine bel_al ?_ _ | refine Below.setCell ?_ (by first | (simp; done) | (simp; omega)) _ | refine Below.drew ?_ | refine bel_drewN ?_ _ | refine bel_seq ?_ (B2.out)))))
    refine OwnK.mono (base := w.heap.size + 2) ?_ (by omega)
    repeat (first | exact O2.out | refine OwnK.cells ?_ (by omega) _)
  · have he' : (s == 100000) = false := beq_eq_false_iff_ne.2 he
    have HV := Lib.hid (advI_yes (x := x) (s := s) (n := n) (l := l) (by rw [hv, he']; rfl))
    clear he
    obtain ⟨s0, s1⟩ : 0 ≤ s ∧ s ≤ 100000 := by
      simp only [validRatchetI, inR, Bool.and_eq_true, decide_eq_true_eq] at hv
      omega
    obtain ⟨p0, p1, p2, f0, f1, f2⟩ := P2.out
    obtain ⟨t0, t1, t2, u0, u1, u2⟩ := T2.out
    go_wp2_with fail
    refine (implNextChain x _).mono ?_
    rintro e w3 ⟨rfl, hb3⟩
    generalize nextChainI x = nc at HV ⊢
    have B3 := Lib.hid (bel_seq B2.out hb3)
    have O3 := Lib.hid (O2.out.below hb3)
    have Q3 := Lib.hid (Q2.out.below hb3)
    clear p0 p1 p2 f0 f1 f2 t0 t1 t2 u0 u1 u2
    obtain ⟨p0, p1, p2, f0, f1, f2⟩ := P2.out.below hb3
    obtain ⟨t0, t1, t2, u0, u1, u2⟩ := T2.out.below hb3
    have hzD : t < w3.heap.size := World.block_lt_of_cell? w3 _ t0
    have hzE : w.heap.size < w3.heap.size := World.block_lt_of_cell? w3 _ p0
    clear hb3 hzA hzB hzC
    go_wp2_with fail
    have T4 : Box3 ((w3.setCell ⟨t, 0, none⟩ (.int .i64 nc)).setCell ⟨t, 1, none⟩ (.int .i64 (s + 1))) t (.int .i64 nc) (.int .i64 (s + 1)) (.slice ao n cap) := by
      refine ⟨?_, ?_, ?_, ?_, ?_, ?_⟩ <;> simp [go_sem, *]
    have hgt : w3.grownBy ((w3.setCell ⟨t, 0, none⟩ (.int .i64 nc)).setCell ⟨t, 1, none⟩ (.int .i64 (s + 1))) (some t) := grown_trans (grown_setA _ _ _ _) (grown_setA _ _ _ _)
    have P4 := Box3.grown (b := w.heap.size) ⟨p0, p1, p2, f0, f1, f2⟩ hgt (by simp; omega)
    have Q4 := Lib.hid (Q3.out.grown hgt (by simp; omega))
    have O4 := Lib.hid ((O3.out.store HNT.out 0 (.int .i64 nc)).store HNT.out 1 (.int .i64 (s + 1)))
    have B4 := Lib.hid (B3.out.trans (grown_below hgt (B := w.heap.size) B3.out.size (fun j hj => by cases hj; omega)))
    clear p0 p1 p2 f0 f1 f2 t0 t1 t2 u0 u1 u2 hgt
    generalize (w3.setCell ⟨t, 0, none⟩ (.int .i64 nc)).setCell ⟨t, 1, none⟩ (.int .i64 (s + 1)) = w4 at T4 P4 Q4 O4 B4 ⊢
    have hzF := T4.lt
    obtain ⟨p0, _⟩ := P4
    obtain ⟨q0, q1, q2, r0, r1, r2⟩ := Q4.out
    obtain ⟨t0, t1, t2, _, _, _⟩ := T4
    have hzG : w.heap.size + 1 < w4.heap.size := World.block_lt_of_cell? w4 _ q0
    have n0 : some t ≠ some (w.heap.size + 1) := by simp; omega
    have n3 : some w.heap.size ≠ some (w.heap.size + 1) := by simp
    have CM := Lib.hid (fun W => implMessageKey x W)
    generalize messageKeyI x = mk at HV CM
    go_region_held3 (fun W' => W'.cell? ⟨t, 0, none⟩ = some (.int .i64 nc) ∧ W'.cell? ⟨t, 1, none⟩ = some (.int .i64 (s + 1)) ∧ W'.cell? ⟨t, 2, none⟩ = some (.slice ao n cap) ∧ W'.cell? ⟨w.heap.size, 0, none⟩ = some (.int .i64 x) ∧ w4.grownBy W' (some (w.heap.size + 1))) (first | assumption | (refine keep4g t0 t1 t2 p0 n0 n0 n0 n3 ?_; first | (refine grown_store3 ?_ _ _ _; refine below_grown ?_ _; repeat (first | exact Below.refl _ _ | refine bel_al ?_ _ | refine Below.drew ?_ | refine bel_seq ?_ hb5)) | (refine below_grown ?_ _; repeat (first | exact Below.refl _ _ | refine bel_al ?_ _ | refine Below.drew ?_ | refine bel_seq ?_ hb5)))) (first | (go_at_call 57; (refine (CM.out _).mono ?_); rintro e w5 ⟨rfl, hb5⟩; obtain ⟨hc5, hf5⟩ := bcell hb5; have hz5 : w.heap.size + 1 < w5.heap.size := (by have := hb5.size; (try simp at this); omega); try (obtain ⟨z0, z1, z2, y0, y1, y2⟩ := Q4.out.below (show Below w4.heap.size w4 w5 by (repeat (first | exact Below.refl _ _ | refine bel_al ?_ _ | refine Below.drew ?_ | refine bel_seq ?_ hb5)); done); clear hc5 hf5)))
    all_goals
      have hb45 : Below w4.heap.size w4 w5 := by repeat (first | exact Below.refl _ _ | refine bel_al ?_ _ | refine Below.drew ?_ | refine bel_seq ?_ hb5)
      have O5 := Lib.hid (O4.out.below hb45)
      have B5 := Lib.hid (bel_seq B4.out hb45)
      obtain ⟨q0', q1', q2', r0', r1', r2'⟩ := Q4.out.below hb45
      clear hb5 hb45
      go_wp2
      refine bodyPost_ret (v := .tuple #[.agg #[.int .i64 nc, .int .i64 (s + 1), .slice ao n cap], .int .i64 mk, .bool true]) (by simp [results, Try.results18, go_sem, *]) rfl (ratPost HV.out ?_ (by repeat (with_reducible (first | exact Below.refl _ _ | refine bel_al ?_ _ | refine Below.setCell ?_ (by first | (simp; done) | (simp; omega)) _ | refine Below.drew ?_ | refine bel_drewN ?_ _ | refine bel_seq ?_ (B5.out)))))
      refine OwnK.mono (base := w.heap.size + 2) ?_ (by omega)
      repeat (first | exact O5.out | exact O5.out.drew | refine OwnK.cells ?_ (by omega) _ | refine OwnK.drew ?_)
set_option maxRecDepth 100000 in
set_option maxHeartbeats 1000000 in
theorem specAdvance (x s : Int) (v : Value) (n : Nat) (l : List Int) (w : World) (hs : Sk w v n l) (hl : n ≤ 1048576) : Calls Try.prog 16 #[.agg #[.int .i64 x, .int .i64 s, v]] w (RatPost (advI x s n l) n l w) := by
  obtain ⟨a, c, rfl, hm⟩ := hs.shape
  have HS := Lib.hid ((hs.alloc (.cells #[.int .i64 x, .int .i64 s, .slice a n c] 28)).alloc (.cells #[.int .i64 0, .int .i64 0, .slice none 0 0] 28))
  have P := (Box3.new w (.int .i64 x) (.int .i64 s) (.slice a n c) 28).alloc (.cells #[.int .i64 0, .int .i64 0, .slice none 0 0] 28)
  have Q := Box3.new (w.alloc (.cells #[.int .i64 x, .int .i64 s, .slice a n c] 28)) (.int .i64 0) (.int .i64 0) (.slice none 0 0) 28
  have hb0 : Below w.heap.size w ((w.alloc (.cells #[.int .i64 x, .int .i64 s, .slice a n c] 28)).alloc (.cells #[.int .i64 0, .int .i64 0, .slice none 0 0] 28)) := bel_al (bel_al (Below.refl _ _) _) _
  have hz : w.heap.size + 2 ≤ ((w.alloc (.cells #[.int .i64 x, .int .i64 s, .slice a n c] 28)).alloc (.cells #[.int .i64 0, .int .i64 0, .slice none 0 0] 28)).heap.size := by simp
  rw [World.size_alloc] at Q
  clear hs hm
  go_enter Try.func16, Try.ntmps16
  go_wp2_with fail
  generalize (w.alloc (.cells #[.int .i64 x, .int .i64 s, .slice a n c] 28)).alloc (.cells #[.int .i64 0, .int .i64 0, .slice none 0 0] 28) = W0 at HS P Q hb0 hz ⊢
  refine (specCopyR x s _ n l W0 HS.out hl).mono ?_
  rintro e w1 ⟨ao, cap, rfl, ho, hb1⟩
  have S1 := Lib.hid ((HS.out.below hb1).alloc (.cells #[.int .i64 x, .int .i64 s, .slice ao n cap] 28))
  have P1 := Lib.hid ((P.below hb1).alloc (.cells #[.int .i64 x, .int .i64 s, .slice ao n cap] 28))
  have Q1 := Lib.hid ((Q.below hb1).alloc (.cells #[.int .i64 x, .int .i64 s, .slice ao n cap] 28))
  have T1 := Lib.hid (Box3.new w1 (.int .i64 x) (.int .i64 s) (.slice ao n cap) 28)
  have B1 := Lib.hid (bel_al (bel_seq hb0 hb1) (.cells #[.int .i64 x, .int .i64 s, .slice ao n cap] 28))
  have O1 := Lib.hid ((ho.mono hz).alloc (.cells #[.int .i64 x, .int .i64 s, .slice ao n cap] 28))
  have hz1 : w.heap.size + 2 ≤ w1.heap.size := Nat.le_trans hz hb1.size
  have HNT := Lib.hid (ho.notB (.inl (Nat.le_refl w1.heap.size)))
  obtain ⟨p0, p1, p2, _, _, _⟩ := (P.below hb1)
  have hzp : w.heap.size < w1.heap.size := by omega
  clear hb0 P Q ho hb1 HS hz
  go_wp2_with fail
  clear p0 p1 p2
  generalize w1.alloc (.cells #[.int .i64 x, .int .i64 s, .slice ao n cap] 28) = W1 at S1 P1 Q1 T1 B1 O1 ⊢
  generalize hB : w1.heap.size = t at T1 hz1 hzp HNT ⊢
  clear hB
  refine (specIsValidRatchet x s _ n l W1 S1.out).mono ?_
  rintro e w2 ⟨rfl, hb2⟩
  have B2 := Lib.hid (bel_seq B1.out hb2)
  have O2 := Lib.hid (O1.out.below hb2)
  have P2 := Lib.hid (P1.out.below hb2)
  have Q2 := Lib.hid (Q1.out.below hb2)
  have T2 := Lib.hid (T1.out.below hb2)
  clear hb2 S1 P1 Q1 T1 O1
  have hzA := P2.out.lt
  have hzB := Q2.out.lt
  have hzC := T2.out.lt
  have ht1 : ¬ t = w.heap.size := by omega
  have ht2 : ¬ t = w.heap.size + 1 := by omega
  have ht3 : ¬ w.heap.size = t := by omega
  have ht4 : ¬ w.heap.size + 1 = t := by omega
  cases hv : validRatchetI x s n l with
  | false =>
    have HV := Lib.hid (advI_no (x := x) (s := s) (n := n) (l := l) (by rw [hv]; rfl))
    obtain ⟨p0, p1, p2, f0, f1, f2⟩ := P2.out
    obtain ⟨q0, q1, q2, r0, r1, r2⟩ := Q2.out
    obtain ⟨t0, t1, t2, u0, u1, u2⟩ := T2.out
    go_wp2
    refine bodyPost_ret (v := .tuple #[.agg #[.int .i64 x, .int .i64 s, .slice ao n cap], .int .i64 0, .bool false]) (by simp [results, Try.results16, go_sem, *]) rfl (ratPost HV.out ?_ (by repeat (with_reducible (first | exact Below.refl _ _ | refine bel_al ?_ _ | refine Below.setCell ?_ (by first | (simp; done) | (simp; omega)) _ | refine Below.drew ?_ | refine bel_drewN ?_ _ | refine bel_seq ?_ (B2.out)))))
    refine OwnK.mono (base := w.heap.size + 2) ?_ (by omega)
    repeat (first | exact O2.out | refine OwnK.cells ?_ (by omega) _)
  | true =>
  by_cases he : s = 100000
  · have HV := Lib.hid (advI_no (x := x) (s := s) (n := n) (l := l) (by rw [he]; simp))
    subst he
    obtain ⟨p0, p1, p2, f0, f1, f2⟩ := P2.out
    obtain ⟨q0, q1, q2, r0, r1, r2⟩ := Q2.out
    obtain ⟨t0, t1, t2, u0, u1, u2⟩ := T2.out
    go_wp2
    refine bodyPost_ret (v := .tuple #[.agg #[.int .i64 x, .int .i64 100000, .slice ao n cap], .int .i64 0, .bool false]) (by simp [results, Try.results16, go_sem, *]) rfl (ratPost HV.out ?_ (by repeat (with_reducible (first | exact Below.refl _ _ | refine bel_al ?_ _ | refine Below.setCell ?_ (by first | (simp; done) | (simp; omega)) _ | refine Below.drew ?_ | refine bel_drewN ?_ _ | refine bel_seq ?_ (B2.out)))))
    refine OwnK.mono (base := w.heap.size + 2) ?_ (by omega)
    repeat (first | exact O2.out | refine OwnK.cells ?_ (by omega) _)
  · have he' : (s == 100000) = false := beq_eq_false_iff_ne.2 he
    have HV := Lib.hid (advI_yes (x := x) (s := s) (n := n) (l := l) (by rw [hv, he']; rfl))
    clear he
    obtain ⟨s0, s1⟩ : 0 ≤ s ∧ s ≤ 100000 := by
      simp only [validRatchetI, inR, Bool.and_eq_true, decide_eq_true_eq] at hv
      omega
    obtain ⟨p0, p1, p2, f0, f1, f2⟩ := P2.out
    obtain ⟨t0, t1, t2, u0, u1, u2⟩ := T2.out
    go_wp2_with fail
    refine (specNextChain x _).mono ?_
    rintro e w3 ⟨rfl, hb3⟩
    generalize nextChainI x = nc at HV ⊢
    have B3 := Lib.hid (bel_seq B2.out hb3)
    have O3 := Lib.hid (O2.out.below hb3)
    have Q3 := Lib.hid (Q2.out.below hb3)
    clear p0 p1 p2 f0 f1 f2 t0 t1 t2 u0 u1 u2
    obtain ⟨p0, p1, p2, f0, f1, f2⟩ := P2.out.below hb3
    obtain ⟨t0, t1, t2, u0, u1, u2⟩ := T2.out.below hb3
    have hzD : t < w3.heap.size := World.block_lt_of_cell? w3 _ t0
    have hzE : w.heap.size < w3.heap.size := World.block_lt_of_cell? w3 _ p0
    clear hb3 hzA hzB hzC
    go_wp2_with fail
    have T4 : Box3 ((w3.setCell ⟨t, 0, none⟩ (.int .i64 nc)).setCell ⟨t, 1, none⟩ (.int .i64 (s + 1))) t (.int .i64 nc) (.int .i64 (s + 1)) (.slice ao n cap) := by
      refine ⟨?_, ?_, ?_, ?_, ?_, ?_⟩ <;> simp [go_sem, *]
    have hgt : w3.grownBy ((w3.setCell ⟨t, 0, none⟩ (.int .i64 nc)).setCell ⟨t, 1, none⟩ (.int .i64 (s + 1))) (some t) := grown_trans (grown_setA _ _ _ _) (grown_setA _ _ _ _)
    have P4 := Box3.grown (b := w.heap.size) ⟨p0, p1, p2, f0, f1, f2⟩ hgt (by simp; omega)
    have Q4 := Lib.hid (Q3.out.grown hgt (by simp; omega))
    have O4 := Lib.hid ((O3.out.store HNT.out 0 (.int .i64 nc)).store HNT.out 1 (.int .i64 (s + 1)))
    have B4 := Lib.hid (B3.out.trans (grown_below hgt (B := w.heap.size) B3.out.size (fun j hj => by cases hj; omega)))
    clear p0 p1 p2 f0 f1 f2 t0 t1 t2 u0 u1 u2 hgt
    generalize (w3.setCell ⟨t, 0, none⟩ (.int .i64 nc)).setCell ⟨t, 1, none⟩ (.int .i64 (s + 1)) = w4 at T4 P4 Q4 O4 B4 ⊢
    have hzF := T4.lt
    obtain ⟨p0, _⟩ := P4
    obtain ⟨q0, q1, q2, r0, r1, r2⟩ := Q4.out
    obtain ⟨t0, t1, t2, _, _, _⟩ := T4
    have hzG : w.heap.size + 1 < w4.heap.size := World.block_lt_of_cell? w4 _ q0
    have n0 : some t ≠ some (w.heap.size + 1) := by simp; omega
    have n3 : some w.heap.size ≠ some (w.heap.size + 1) := by simp
    have CM := Lib.hid (fun W => specMessageKey x W)
    generalize messageKeyI x = mk at HV CM
    go_region_held3 (fun W' => W'.cell? ⟨t, 0, none⟩ = some (.int .i64 nc) ∧ W'.cell? ⟨t, 1, none⟩ = some (.int .i64 (s + 1)) ∧ W'.cell? ⟨t, 2, none⟩ = some (.slice ao n cap) ∧ W'.cell? ⟨w.heap.size, 0, none⟩ = some (.int .i64 x) ∧ w4.grownBy W' (some (w.heap.size + 1))) (first | assumption | (refine keep4g t0 t1 t2 p0 n0 n0 n0 n3 ?_; first | (refine grown_store3 ?_ _ _ _; refine below_grown ?_ _; repeat (first | exact Below.refl _ _ | refine bel_al ?_ _ | refine Below.drew ?_ | refine bel_seq ?_ hb5)) | (refine below_grown ?_ _; repeat (first | exact Below.refl _ _ | refine bel_al ?_ _ | refine Below.drew ?_ | refine bel_seq ?_ hb5)))) (first | (go_at_call 72; (refine (CM.out _).mono ?_); rintro e w5 ⟨rfl, hb5⟩; obtain ⟨hc5, hf5⟩ := bcell hb5; have hz5 : w.heap.size + 1 < w5.heap.size := (by have := hb5.size; (try simp at this); omega); try (obtain ⟨z0, z1, z2, y0, y1, y2⟩ := Q4.out.below (show Below w4.heap.size w4 w5 by (repeat (first | exact Below.refl _ _ | refine bel_al ?_ _ | refine Below.drew ?_ | refine bel_seq ?_ hb5)); done); clear hc5 hf5)))
    all_goals
      have hb45 : Below w4.heap.size w4 w5 := by repeat (first | exact Below.refl _ _ | refine bel_al ?_ _ | refine Below.drew ?_ | refine bel_seq ?_ hb5)
      have O5 := Lib.hid (O4.out.below hb45)
      have B5 := Lib.hid (bel_seq B4.out hb45)
      obtain ⟨q0', q1', q2', r0', r1', r2'⟩ := Q4.out.below hb45
      clear hb5 hb45
      go_wp2
      refine bodyPost_ret (v := .tuple #[.agg #[.int .i64 nc, .int .i64 (s + 1), .slice ao n cap], .int .i64 mk, .bool true]) (by simp [results, Try.results16, go_sem, *]) rfl (ratPost HV.out ?_ (by repeat (with_reducible (first | exact Below.refl _ _ | refine bel_al ?_ _ | refine Below.setCell ?_ (by first | (simp; done) | (simp; omega)) _ | refine Below.drew ?_ | refine bel_drewN ?_ _ | refine bel_seq ?_ (B5.out)))))
      refine OwnK.mono (base := w.heap.size + 2) ?_ (by omega)
      repeat (first | exact O5.out | exact O5.out.drew | refine OwnK.cells ?_ (by omega) _ | refine OwnK.drew ?_)
end Go.Proofs.Ytelcpihbdgikfaa
