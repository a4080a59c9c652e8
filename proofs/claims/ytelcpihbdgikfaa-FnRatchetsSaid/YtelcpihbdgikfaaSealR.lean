/- The walks of sealing by a ratchet. -/
import Derived.Test.YtelcpihbdgikfaaProg
import Derived.Test.YtelcpihbdgikfaaRatLaw2
import Derived.Test.YtelcpihbdgikfaaMailLaw
import Derived.Test.YtelcpihbdgikfaaCell3
import Derived.RegionTactic
import Derived.ChangeAlike
namespace Go.Proofs.Ytelcpihbdgikfaa
open Go.RowKit

def sealWith (x s : Int) (a : (Int × Int) × Int × Bool) (q : List Int × Bool) : (Int × Int) × Int × List Int × Bool := if a.2.2 && q.2 then (a.1, s, q.1, true) else ((x, s), 0, [], false)
def sealStepI (x s : Int) (n : Nat) (l : List Int) (body : List Int) : (Int × Int) × Int × List Int × Bool := sealWith x s (advI x s n l) (sealI (advI x s n l).2.1 s 1 body)
theorem sealWith_no {x s : Int} {a : (Int × Int) × Int × Bool} {q : List Int × Bool} (h : (a.2.2 && q.2) = false) : sealWith x s a q = ((x, s), 0, [], false) := by unfold sealWith; rw [h]; rfl
theorem sealWith_yes {x s : Int} {a : (Int × Int) × Int × Bool} {q : List Int × Bool} (h : (a.2.2 && q.2) = true) : sealWith x s a q = (a.1, s, q.1, true) := by unfold sealWith; rw [h]; rfl
def SealPost (y : (Int × Int) × Int × List Int × Bool) (n : Nat) (l : List Int) (w : World) (e : Ending) (w' : World) : Prop :=
  ∃ ao cap bo M cap2, e = .returned (.tuple #[.agg #[.int .i64 y.1.1, .int .i64 y.1.2, .slice ao n cap], .int .i64 y.2.1, .slice bo M cap2, .bool y.2.2.2]) ∧ OwnK w.heap.size w' ao n cap l ∧ Own .u8 5 w.heap.size w' bo M cap2 y.2.2.1 ∧ (ownB ao = none ∨ ownB ao ≠ ownB bo) ∧ Below w.heap.size w w'
theorem sealPost {y : (Int × Int) × Int × List Int × Bool} {x s k : Int} {L : List Int} {b : Bool} (h : y = ((x, s), k, L, b)) {n : Nat} {l : List Int} {w w' : World} {ao bo : Option Addr} {cap M cap2 : Nat} (ho : OwnK w.heap.size w' ao n cap l) (hp : Own .u8 5 w.heap.size w' bo M cap2 L) (ha : ownB ao = none ∨ ownB ao ≠ ownB bo) (hb : Below w.heap.size w w') :
    SealPost y n l w (.returned (.tuple #[.agg #[.int .i64 x, .int .i64 s, .slice ao n cap], .int .i64 k, .slice bo M cap2, .bool b])) w' := by
  subst h
  exact ⟨_, _, _, _, _, rfl, ho, hp, ha, hb⟩
theorem OwnK.apartB {base : Nat} {w : World} {ao : Option Addr} {N cap : Nat} {l : List Int} (h : OwnK base w ao N cap l) {k : IntKind} {e : TypeId} {base' : Nat} {w' : World} {bo : Option Addr} {M cap' : Nat} {m : List Int} (h' : Own k e base' w' bo M cap' m) (hlt : w.heap.size ≤ base') : ownB ao = none ∨ ownB ao ≠ ownB bo := by
  rcases h.shape with ⟨rfl, _⟩ | ⟨g, rfl, hg, hg'⟩
  · exact .inl rfl
  · refine .inr ?_
    rcases h'.shape with ⟨rfl, _⟩ | ⟨g2, rfl, hg2, _⟩
    · simp [ownB]
    · simp [ownB]; omega
theorem Own.litZ (k : IntKind) (e : TypeId) (base : Nat) (w : World) (b : Nat) (hb : base ≤ w.heap.size) (h : b = w.heap.size) : Own k e base (w.alloc (.cells #[] e)) (some ⟨b, 0, none⟩) 0 0 [] := by
  subst h
  exact Own.lit k e base w [] (by simp [maxLen]) hb
theorem apart_none (ao : Option Addr) : ownB ao = none ∨ ownB ao ≠ ownB none := by cases ao <;> simp [ownB]
set_option maxRecDepth 100000 in
set_option maxHeartbeats 1000000 in
theorem implSealStep (x s : Int) (v : Value) (n : Nat) (l : List Int) (u : Value) (body : List Int) (w : World) (hs : Sk w v n l) (hl : n ≤ 1048576) (hu : Sl .u8 w u body) (hby : bytesOk body) : Calls Try.prog 26 #[.agg #[.int .i64 x, .int .i64 s, v], u] w (SealPost (sealStepI x s n l body) n l w) := by
  obtain ⟨a, c, rfl, hm⟩ := hs.shape
  obtain ⟨a', c', rfl, hm'⟩ := hu.shape
  obtain ⟨n', hn'⟩ : ∃ n', n' = body.length := ⟨_, rfl⟩
  rw [← hn'] at hu ⊢
  have CA := fun v W (h : Sk W v n l) => implAdvance x s v n l W h hl
  obtain ⟨⟨⟨x1, s1⟩, k, b1⟩, hx⟩ : ∃ y, y = advI x s n l := ⟨_, rfl⟩
  have CS := fun W h => implSeal k s 1 (.slice a' n' c') body W h hby
  obtain ⟨⟨L, b2⟩, hq⟩ : ∃ q, q = sealI k s 1 body := ⟨_, rfl⟩
  have hy : sealStepI x s n l body = sealWith x s ((x1, s1), k, b1) (L, b2) := by unfold sealStepI; rw [← hx, hq]
  rw [hy]
  simp only [← hx] at CA
  rw [← hq] at CS
  have CA := Lib.hid CA
  have CS := Lib.hid CS
  have HS := Lib.hid ((hs.alloc (.cells #[.int .i64 x, .int .i64 s, .slice a n c] 28)).alloc (.cells #[.int .i64 0, .int .i64 0, .slice none 0 0] 28))
  have HU := Lib.hid ((hu.alloc (.cells #[.int .i64 x, .int .i64 s, .slice a n c] 28)).alloc (.cells #[.int .i64 0, .int .i64 0, .slice none 0 0] 28))
  have P := (Box3.new w (.int .i64 x) (.int .i64 s) (.slice a n c) 28).alloc (.cells #[.int .i64 0, .int .i64 0, .slice none 0 0] 28)
  have Q := Box3.new (w.alloc (.cells #[.int .i64 x, .int .i64 s, .slice a n c] 28)) (.int .i64 0) (.int .i64 0) (.slice none 0 0) 28
  have hb0 : Below w.heap.size w ((w.alloc (.cells #[.int .i64 x, .int .i64 s, .slice a n c] 28)).alloc (.cells #[.int .i64 0, .int .i64 0, .slice none 0 0] 28)) := bel_al (bel_al (Below.refl _ _) _) _
  have hz : w.heap.size + 2 ≤ ((w.alloc (.cells #[.int .i64 x, .int .i64 s, .slice a n c] 28)).alloc (.cells #[.int .i64 0, .int .i64 0, .slice none 0 0] 28)).heap.size := by simp
  rw [World.size_alloc] at Q
  clear hs hm hu hm' hn' hx hq hy hby
  go_enter Try.func26, Try.ntmps26
  go_wp2_with fail
  generalize (w.alloc (.cells #[.int .i64 x, .int .i64 s, .slice a n c] 28)).alloc (.cells #[.int .i64 0, .int .i64 0, .slice none 0 0] 28) = W0 at HS HU P Q hb0 hz ⊢
  refine (CA.out _ W0 HS.out).mono ?_
  rintro e w1 ⟨ao, cap, rfl, ho, hb1⟩
  have S1 := Lib.hid ((HS.out.below hb1).alloc (.cells #[.int .i64 x1, .int .i64 s1, .slice ao n cap] 28))
  have U1 := Lib.hid ((HU.out.below hb1).alloc (.cells #[.int .i64 x1, .int .i64 s1, .slice ao n cap] 28))
  have P1 := Lib.hid ((P.below hb1).alloc (.cells #[.int .i64 x1, .int .i64 s1, .slice ao n cap] 28))
  have Q1 := Lib.hid ((Q.below hb1).alloc (.cells #[.int .i64 x1, .int .i64 s1, .slice ao n cap] 28))
  have T1 := Lib.hid (Box3.new w1 (.int .i64 x1) (.int .i64 s1) (.slice ao n cap) 28)
  have B1 := Lib.hid (bel_al (bel_seq hb0 hb1) (.cells #[.int .i64 x1, .int .i64 s1, .slice ao n cap] 28))
  have O1 := Lib.hid ((ho.mono hz).alloc (.cells #[.int .i64 x1, .int .i64 s1, .slice ao n cap] 28))
  have hz1 : w.heap.size + 2 ≤ w1.heap.size := Nat.le_trans hz hb1.size
  have HZ : Hid (w1.heap.size < (w1.alloc (.cells #[.int .i64 x1, .int .i64 s1, .slice ao n cap] 28)).heap.size) := Lib.hid (by simp)
  obtain ⟨p0, p1, p2, _, _, _⟩ := (P.below hb1)
  have hzp : w.heap.size < w1.heap.size := by omega
  clear hb0 P Q hb1 HS HU hz
  go_wp2_with fail
  clear p0 p1 p2
  generalize w1.alloc (.cells #[.int .i64 x1, .int .i64 s1, .slice ao n cap] 28) = W1 at S1 U1 P1 Q1 T1 B1 O1 HZ ⊢
  have OK1 := Lib.hid ho
  refine (CS.out W1 U1.out).mono ?_
  rintro e w2 ⟨bo, M, cap2, rfl, hp, hb2⟩
  have A12 := Lib.hid (OK1.out.apartB hp (Nat.le_of_lt HZ.out))
  have R2 := Lib.hid (hp.mono (show w.heap.size + 2 ≤ W1.heap.size by have := HZ.out; omega))
  have B2 := Lib.hid (bel_seq B1.out hb2)
  have O2 := Lib.hid (O1.out.below hb2)
  have S2 := Lib.hid (S1.out.below hb2)
  have P2 := Lib.hid (P1.out.below hb2)
  have Q2 := Lib.hid (Q1.out.below hb2)
  have T2 := Lib.hid (T1.out.below hb2)
  generalize hB : w1.heap.size = t at T1 T2 hz1 hzp HZ ⊢
  clear hB hb2 S1 U1 P1 Q1 T1 O1 hp ho OK1 HZ
  have hzA := P2.out.lt
  have hzB := Q2.out.lt
  have hzC := T2.out.lt
  have ht1 : ¬ t = w.heap.size := by omega
  have ht2 : ¬ t = w.heap.size + 1 := by omega
  have ht3 : ¬ w.heap.size = t := by omega
  have ht4 : ¬ w.heap.size + 1 = t := by omega
  obtain ⟨p0, p1, p2, f0, f1, f2⟩ := P2.out
  obtain ⟨q0, q1, q2, r0, r1, r2⟩ := Q2.out
  obtain ⟨t0, t1, t2, u0, u1, u2⟩ := T2.out
  cases hbb : (b1 && b2) with
  | true =>
    have HV := Lib.hid (sealWith_yes (x := x) (s := s) (a := ((x1, s1), k, b1)) (q := (L, b2)) hbb)
    obtain ⟨rfl, rfl⟩ : b1 = true ∧ b2 = true := by simpa using hbb
    clear hbb
    go_wp2
    go_region
    all_goals
      go_wp2
      refine bodyPost_ret (v := .tuple #[.agg #[.int .i64 x1, .int .i64 s1, .slice ao n cap], .int .i64 s, .slice bo M cap2, .bool true]) (by simp [results, Try.results26, go_sem, *]) rfl (sealPost HV.out ?_ ?_ A12.out (by repeat (with_reducible (first | exact Below.refl _ _ | refine bel_al ?_ _ | refine Below.setCell ?_ (by first | (simp; done) | (simp; omega)) _ | refine Below.drew ?_ | refine bel_drewN ?_ _ | refine bel_seq ?_ (B2.out)))))
      · refine OwnK.mono (base := w.heap.size + 2) ?_ (by omega)
        repeat (first | exact O2.out | exact O2.out.drew | refine OwnK.cells ?_ (by omega) _ | refine OwnK.drew ?_)
      · refine Own.mono (base := w.heap.size + 2) ?_ (by omega)
        repeat (first | exact R2.out | exact R2.out.drew | refine Own.cells ?_ (by omega) _ | refine Own.drew ?_)
  | false =>
    have HV := Lib.hid (sealWith_no (x := x) (s := s) (a := ((x1, s1), k, b1)) (q := (L, b2)) hbb)
    have hb12 : b1 = false ∨ (b1 = true ∧ b2 = false) := by cases b1 <;> simp_all
    clear hbb
    rcases hb12 with rfl | ⟨rfl, rfl⟩
    all_goals
      go_wp2_with fail
      refine (implCopyR x s _ n l _ S2.out hl).mono ?_
      rintro e w3 ⟨ao3, cap3, rfl, ho3, hb3⟩
      obtain ⟨q0, q1, q2, r0, r1, r2⟩ := Q2.out.below hb3
      have hzD : w.heap.size + 1 < w3.heap.size := World.block_lt_of_cell? w3 _ q0
      have B3 := Lib.hid (bel_seq B2.out hb3)
      have O3 := Lib.hid (ho3.mono (show w.heap.size + 2 ≤ w2.heap.size by omega))
      have N3 := Lib.hid (ho3.notB (.inl (Nat.le_refl w3.heap.size)))
      clear hb3 ho3
      go_wp2
      refine bodyPost_ret (v := .tuple #[.agg #[.int .i64 x, .int .i64 s, .slice ao3 n cap3], .int .i64 0, .slice none 0 0, .bool false]) (by simp [results, Try.results26, go_sem, *]) rfl (sealPost HV.out ?_ (Own.nil _ _ _ _) (apart_none _) (by repeat (with_reducible (first | exact Below.refl _ _ | refine bel_al ?_ _ | refine Below.setCell ?_ (by first | (simp; done) | (simp; omega)) _ | refine Below.drew ?_ | refine bel_drewN ?_ _ | refine bel_seq ?_ (B3.out)))))
      refine OwnK.mono (base := w.heap.size + 2) ?_ (by omega)
      repeat (first | exact O3.out | refine OwnK.cells ?_ (by omega) _)
set_option maxRecDepth 100000 in
set_option maxHeartbeats 1000000 in
theorem specSealStep (x s : Int) (v : Value) (n : Nat) (l : List Int) (u : Value) (body : List Int) (w : World) (hs : Sk w v n l) (hl : n ≤ 1048576) (hu : Sl .u8 w u body) (hby : bytesOk body) : Calls Try.prog 24 #[.agg #[.int .i64 x, .int .i64 s, v], u] w (SealPost (sealStepI x s n l body) n l w) := by
  obtain ⟨a, c, rfl, hm⟩ := hs.shape
  obtain ⟨a', c', rfl, hm'⟩ := hu.shape
  obtain ⟨n', hn'⟩ : ∃ n', n' = body.length := ⟨_, rfl⟩
  rw [← hn'] at hu ⊢
  have CA := fun v W (h : Sk W v n l) => specAdvance x s v n l W h hl
  obtain ⟨⟨⟨x1, s1⟩, k, b1⟩, hx⟩ : ∃ y, y = advI x s n l := ⟨_, rfl⟩
  have CS := fun W h => specSeal k s 1 (.slice a' n' c') body W h hby
  obtain ⟨⟨L, b2⟩, hq⟩ : ∃ q, q = sealI k s 1 body := ⟨_, rfl⟩
  have hy : sealStepI x s n l body = sealWith x s ((x1, s1), k, b1) (L, b2) := by unfold sealStepI; rw [← hx, hq]
  rw [hy]
  simp only [← hx] at CA
  rw [← hq] at CS
  have CA := Lib.hid CA
  have CS := Lib.hid CS
  have HS := Lib.hid ((hs.alloc (.cells #[.int .i64 x, .int .i64 s, .slice a n c] 28)).alloc (.cells #[.int .i64 0, .int .i64 0, .slice none 0 0] 28))
  have HU := Lib.hid ((hu.alloc (.cells #[.int .i64 x, .int .i64 s, .slice a n c] 28)).alloc (.cells #[.int .i64 0, .int .i64 0, .slice none 0 0] 28))
  have P := (Box3.new w (.int .i64 x) (.int .i64 s) (.slice a n c) 28).alloc (.cells #[.int .i64 0, .int .i64 0, .slice none 0 0] 28)
  have Q := Box3.new (w.alloc (.cells #[.int .i64 x, .int .i64 s, .slice a n c] 28)) (.int .i64 0) (.int .i64 0) (.slice none 0 0) 28
  have hb0 : Below w.heap.size w ((w.alloc (.cells #[.int .i64 x, .int .i64 s, .slice a n c] 28)).alloc (.cells #[.int .i64 0, .int .i64 0, .slice none 0 0] 28)) := bel_al (bel_al (Below.refl _ _) _) _
  have hz : w.heap.size + 2 ≤ ((w.alloc (.cells #[.int .i64 x, .int .i64 s, .slice a n c] 28)).alloc (.cells #[.int .i64 0, .int .i64 0, .slice none 0 0] 28)).heap.size := by simp
  rw [World.size_alloc] at Q
  clear hs hm hu hm' hn' hx hq hy hby
  go_enter Try.func24, Try.ntmps24
  go_wp2_with fail
  generalize (w.alloc (.cells #[.int .i64 x, .int .i64 s, .slice a n c] 28)).alloc (.cells #[.int .i64 0, .int .i64 0, .slice none 0 0] 28) = W0 at HS HU P Q hb0 hz ⊢
  refine (CA.out _ W0 HS.out).mono ?_
  rintro e w1 ⟨ao, cap, rfl, ho, hb1⟩
  have S1 := Lib.hid ((HS.out.below hb1).alloc (.cells #[.int .i64 x1, .int .i64 s1, .slice ao n cap] 28))
  have U1 := Lib.hid ((HU.out.below hb1).alloc (.cells #[.int .i64 x1, .int .i64 s1, .slice ao n cap] 28))
  have P1 := Lib.hid ((P.below hb1).alloc (.cells #[.int .i64 x1, .int .i64 s1, .slice ao n cap] 28))
  have Q1 := Lib.hid ((Q.below hb1).alloc (.cells #[.int .i64 x1, .int .i64 s1, .slice ao n cap] 28))
  have T1 := Lib.hid (Box3.new w1 (.int .i64 x1) (.int .i64 s1) (.slice ao n cap) 28)
  have B1 := Lib.hid (bel_al (bel_seq hb0 hb1) (.cells #[.int .i64 x1, .int .i64 s1, .slice ao n cap] 28))
  have O1 := Lib.hid ((ho.mono hz).alloc (.cells #[.int .i64 x1, .int .i64 s1, .slice ao n cap] 28))
  have hz1 : w.heap.size + 2 ≤ w1.heap.size := Nat.le_trans hz hb1.size
  have HZ : Hid (w1.heap.size < (w1.alloc (.cells #[.int .i64 x1, .int .i64 s1, .slice ao n cap] 28)).heap.size) := Lib.hid (by simp)
  obtain ⟨p0, p1, p2, _, _, _⟩ := (P.below hb1)
  have hzp : w.heap.size < w1.heap.size := by omega
  clear hb0 P Q hb1 HS HU hz
  go_wp2_with fail
  clear p0 p1 p2
  generalize w1.alloc (.cells #[.int .i64 x1, .int .i64 s1, .slice ao n cap] 28) = W1 at S1 U1 P1 Q1 T1 B1 O1 HZ ⊢
  have OK1 := Lib.hid ho
  refine (CS.out W1 U1.out).mono ?_
  rintro e w2 ⟨bo, M, cap2, rfl, hp, hb2⟩
  have A12 := Lib.hid (OK1.out.apartB hp (Nat.le_of_lt HZ.out))
  have R2 := Lib.hid (hp.mono (show w.heap.size + 2 ≤ W1.heap.size by have := HZ.out; omega))
  have B2 := Lib.hid (bel_seq B1.out hb2)
  have O2 := Lib.hid (O1.out.below hb2)
  have S2 := Lib.hid (S1.out.below hb2)
  have P2 := Lib.hid (P1.out.below hb2)
  have Q2 := Lib.hid (Q1.out.below hb2)
  have T2 := Lib.hid (T1.out.below hb2)
  generalize hB : w1.heap.size = t at T1 T2 hz1 hzp HZ ⊢
  clear hB hb2 S1 U1 P1 Q1 T1 O1 hp ho OK1 HZ
  have hzA := P2.out.lt
  have hzB := Q2.out.lt
  have hzC := T2.out.lt
  have ht1 : ¬ t = w.heap.size := by omega
  have ht2 : ¬ t = w.heap.size + 1 := by omega
  have ht3 : ¬ w.heap.size = t := by omega
  have ht4 : ¬ w.heap.size + 1 = t := by omega
  obtain ⟨p0, p1, p2, f0, f1, f2⟩ := P2.out
  obtain ⟨q0, q1, q2, r0, r1, r2⟩ := Q2.out
  obtain ⟨t0, t1, t2, u0, u1, u2⟩ := T2.out
  cases hbb : (b1 && b2) with
  | true =>
    have HV := Lib.hid (sealWith_yes (x := x) (s := s) (a := ((x1, s1), k, b1)) (q := (L, b2)) hbb)
    obtain ⟨rfl, rfl⟩ : b1 = true ∧ b2 = true := by simpa using hbb
    clear hbb
    go_wp2
    go_region
    all_goals
      go_wp2
      refine bodyPost_ret (v := .tuple #[.agg #[.int .i64 x1, .int .i64 s1, .slice ao n cap], .int .i64 s, .slice bo M cap2, .bool true]) (by simp [results, Try.results24, go_sem, *]) rfl (sealPost HV.out ?_ ?_ A12.out (by repeat (with_reducible (first | exact Below.refl _ _ | refine bel_al ?_ _ | refine Below.setCell ?_ (by first | (simp; done) | (simp; omega)) _ | refine Below.drew ?_ | refine bel_drewN ?_ _ | refine bel_seq ?_ (B2.out)))))
      · refine OwnK.mono (base := w.heap.size + 2) ?_ (by omega)
        repeat (first | exact O2.out | exact O2.out.drew | refine OwnK.cells ?_ (by omega) _ | refine OwnK.drew ?_)
      · refine Own.mono (base := w.heap.size + 2) ?_ (by omega)
        repeat (first | exact R2.out | exact R2.out.drew | refine Own.cells ?_ (by omega) _ | refine Own.drew ?_)
  | false =>
    have HV := Lib.hid (sealWith_no (x := x) (s := s) (a := ((x1, s1), k, b1)) (q := (L, b2)) hbb)
    have hb12 : b1 = false ∨ (b1 = true ∧ b2 = false) := by cases b1 <;> simp_all
    clear hbb
    rcases hb12 with rfl | ⟨rfl, rfl⟩
    all_goals
      go_wp2_with fail
      refine (specCopyR x s _ n l _ S2.out hl).mono ?_
      rintro e w3 ⟨ao3, cap3, rfl, ho3, hb3⟩
      obtain ⟨q0, q1, q2, r0, r1, r2⟩ := Q2.out.below hb3
      have hzD : w.heap.size + 1 < w3.heap.size := World.block_lt_of_cell? w3 _ q0
      have B3 := Lib.hid (bel_seq B2.out hb3)
      have O3 := Lib.hid (ho3.mono (show w.heap.size + 2 ≤ w2.heap.size by omega))
      have N3 := Lib.hid (ho3.notB (.inl (Nat.le_refl w3.heap.size)))
      clear hb3 ho3
      go_wp2
      refine bodyPost_ret (v := .tuple #[.agg #[.int .i64 x, .int .i64 s, .slice ao3 n cap3], .int .i64 0, .slice (some ⟨w3.heap.size, 0, none⟩) 0 0, .bool false]) (by simp [results, Try.results24, go_sem, *]) rfl (sealPost HV.out ?_ ?_ N3.out (by repeat (with_reducible (first | exact Below.refl _ _ | refine bel_al ?_ _ | refine Below.setCell ?_ (by first | (simp; done) | (simp; omega)) _ | refine Below.drew ?_ | refine bel_drewN ?_ _ | refine bel_seq ?_ (B3.out)))))
      · refine OwnK.mono (base := w.heap.size + 2) ?_ (by omega)
        repeat (first | exact O3.out | refine OwnK.cells ?_ (by omega) _ | refine OwnK.alloc ?_ _)
      · exact Own.litZ _ _ _ _ _ (by simp [World.setCell]; omega) (by simp [World.setCell])
end Go.Proofs.Ytelcpihbdgikfaa
