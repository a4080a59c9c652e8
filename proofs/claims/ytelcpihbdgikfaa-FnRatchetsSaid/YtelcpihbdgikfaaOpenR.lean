/- The walks of opening by a ratchet. -/
import Derived.Test.YtelcpihbdgikfaaProg
import Derived.Test.YtelcpihbdgikfaaKeyI
import Derived.Test.YtelcpihbdgikfaaSealR
import Derived.Test.YtelcpihbdgikfaaCell5
namespace Go.Proofs.Ytelcpihbdgikfaa
open Go.RowKit

def openWith (x s : Int) (l : List Int) (y : (Int × Int) × List Int × Int × Bool) (q : (Int × List Int) × Bool) : (Int × Int) × List Int × List Int × Bool := if y.2.2.2 && q.2 && q.1.1 == 1 then (y.1, y.2.1, q.1.2, true) else ((x, s), l, [], false)
def openStepI (x s : Int) (n : Nat) (l : List Int) (step : Int) (cell : List Int) : (Int × Int) × List Int × List Int × Bool := openWith x s l (keyStepI x s n l step) (openI (keyStepI x s n l step).2.2.1 step cell)
theorem openWith_no {x s : Int} {l : List Int} {y : (Int × Int) × List Int × Int × Bool} {q : (Int × List Int) × Bool} (h : (y.2.2.2 && q.2 && q.1.1 == 1) = false) : openWith x s l y q = ((x, s), l, [], false) := by unfold openWith; rw [h]; rfl
theorem openWith_yes {x s : Int} {l : List Int} {y : (Int × Int) × List Int × Int × Bool} {q : (Int × List Int) × Bool} (h : (y.2.2.2 && q.2 && q.1.1 == 1) = true) : openWith x s l y q = (y.1, y.2.1, q.1.2, true) := by unfold openWith; rw [h]; rfl
def OpenSPost (y : (Int × Int) × List Int × List Int × Bool) (w : World) (e : Ending) (w' : World) : Prop :=
  ∃ ao N cap bo M cap2, e = .returned (.tuple #[.agg #[.int .i64 y.1.1, .int .i64 y.1.2, .slice ao N cap], .slice bo M cap2, .bool y.2.2.2]) ∧ OwnK w.heap.size w' ao N cap y.2.1 ∧ Own .u8 5 w.heap.size w' bo M cap2 y.2.2.1 ∧ (ownB ao = none ∨ ownB ao ≠ ownB bo) ∧ Below w.heap.size w w'
theorem openSPost {y : (Int × Int) × List Int × List Int × Bool} {x s : Int} {l L : List Int} {b : Bool} (h : y = ((x, s), l, L, b)) {w w' : World} {ao bo : Option Addr} {N cap M cap2 : Nat} (ho : OwnK w.heap.size w' ao N cap l) (hp : Own .u8 5 w.heap.size w' bo M cap2 L) (ha : ownB ao = none ∨ ownB ao ≠ ownB bo) (hb : Below w.heap.size w w') :
    OpenSPost y w (.returned (.tuple #[.agg #[.int .i64 x, .int .i64 s, .slice ao N cap], .slice bo M cap2, .bool b])) w' := by
  subst h
  exact ⟨_, _, _, _, _, _, rfl, ho, hp, ha, hb⟩
set_option maxRecDepth 100000 in
set_option maxHeartbeats 1000000 in
theorem specOpenStep (x s : Int) (v : Value) (n : Nat) (l : List Int) (step : Int) (u : Value) (cell : List Int) (w : World) (hs : Sk w v n l) (hl : n ≤ 1048576) (hu : Sl .u8 w u cell) (hby : bytesOk cell) : Calls Try.prog 30 #[.agg #[.int .i64 x, .int .i64 s, v], .int .i64 step, u] w (OpenSPost (openStepI x s n l step cell) w) := by
  obtain ⟨a, c, rfl, hm⟩ := hs.shape
  obtain ⟨a', c', rfl, hm'⟩ := hu.shape
  obtain ⟨n', hn'⟩ : ∃ n', n' = cell.length := ⟨_, rfl⟩
  rw [← hn'] at hu ⊢
  have CA := fun v W (h : Sk W v n l) => specKeyForStep x s v n l step W h hl
  obtain ⟨⟨⟨x1, s1⟩, l1, k, b1⟩, hx⟩ : ∃ y, y = keyStepI x s n l step := ⟨_, rfl⟩
  have CS := fun W h => specOpen k step (.slice a' n' c') cell W h hby
  obtain ⟨⟨⟨kd, L⟩, b2⟩, hq⟩ : ∃ q, q = openI k step cell := ⟨_, rfl⟩
  have hy : openStepI x s n l step cell = openWith x s l ((x1, s1), l1, k, b1) ((kd, L), b2) := by unfold openStepI; rw [← hx, hq]
  rw [hy]
  simp only [← hx] at CA
  rw [← hq] at CS
  have CA := Lib.hid CA
  have CS := Lib.hid CS
  have HS := Lib.hid ((hs.alloc (.cells #[.int .i64 x, .int .i64 s, .slice a n c] 28)).alloc (.cells #[.int .i64 0, .int .i64 0, .slice none 0 0] 28))
  have HU := Lib.hid ((hu.alloc (.cells #[.int .i64 x, .int .i64 s, .slice a n c] 28)).alloc (.cells #[.int .i64 0, .int .i64 0, .slice none 0 0] 28))
  have P := (Box3.new w (.int .i64 x) (.int .i64 s) (.slice a n c) 28).alloc (.cells #[.int .i64 0, .int .i64 0, .slice none 0 0] 28)
  have Q := Box3.new (w.alloc (.cells #[.int .i64 x, .int .i64 s, .slice a n c] 28)) (.int .i64 0) (.int .i64 0) (.slice none 0 0) 28
  have hb0 : Below w.heap.size w ((w.alloc (.cells #[.int .i64 x, .int .i64 s, .slice a n c] 28)).alloc (.cells #[.int .i64 0, .int .i64 0, .slice none 0 0] 28)) := bel_al (bel_al (Below.refl _ _) _) _
  have hz : w.heap.size + 2 ≤ ((w.alloc (.cells #[.int .i64 x, .int .i64 s, .slice a n c] 28)).alloc (.cells #[.int .i64 0, .int .i64 0, .slice none 0 0] 28)).heap.size := by simp
  rw [World.size_alloc] at Q
  clear hs hm hu hm' hn' hx hq hy hby
  go_enter Try.func30, Try.ntmps30
  go_wp2_with fail
  generalize (w.alloc (.cells #[.int .i64 x, .int .i64 s, .slice a n c] 28)).alloc (.cells #[.int .i64 0, .int .i64 0, .slice none 0 0] 28) = W0 at HS HU P Q hb0 hz ⊢
  refine (CA.out _ W0 HS.out).mono ?_
  rintro e w1 ⟨ao, N, cap, rfl, ho, hb1⟩
  dsimp only at ho
  have S1 := Lib.hid ((HS.out.below hb1).alloc (.cells #[.int .i64 x1, .int .i64 s1, .slice ao N cap] 28))
  have U1 := Lib.hid ((HU.out.below hb1).alloc (.cells #[.int .i64 x1, .int .i64 s1, .slice ao N cap] 28))
  have P1 := Lib.hid ((P.below hb1).alloc (.cells #[.int .i64 x1, .int .i64 s1, .slice ao N cap] 28))
  have Q1 := Lib.hid ((Q.below hb1).alloc (.cells #[.int .i64 x1, .int .i64 s1, .slice ao N cap] 28))
  have T1 := Lib.hid (Box3.new w1 (.int .i64 x1) (.int .i64 s1) (.slice ao N cap) 28)
  have B1 := Lib.hid (bel_al (bel_seq hb0 hb1) (.cells #[.int .i64 x1, .int .i64 s1, .slice ao N cap] 28))
  have O1 := Lib.hid ((ho.mono hz).alloc (.cells #[.int .i64 x1, .int .i64 s1, .slice ao N cap] 28))
  have hz1 : w.heap.size + 2 ≤ w1.heap.size := Nat.le_trans hz hb1.size
  have HZ : Hid (w1.heap.size < (w1.alloc (.cells #[.int .i64 x1, .int .i64 s1, .slice ao N cap] 28)).heap.size) := Lib.hid (by simp)
  obtain ⟨p0, p1, p2, _, _, _⟩ := (P.below hb1)
  have hzp : w.heap.size < w1.heap.size := by omega
  clear hb0 P Q hb1 HS HU hz
  go_wp2_with fail
  clear p0 p1 p2
  generalize w1.alloc (.cells #[.int .i64 x1, .int .i64 s1, .slice ao N cap] 28) = W1 at S1 U1 P1 Q1 T1 B1 O1 HZ ⊢
  have OK1 := Lib.hid ho
  refine (CS.out W1 U1.out).mono ?_
  rintro e w2' ⟨bo, M, cap2, rfl, hp, hb2⟩
  dsimp only at hp
  have A12 := Lib.hid (OK1.out.apartB hp (Nat.le_of_lt HZ.out))
  have R2 := Lib.hid ((hp.mono (show w.heap.size + 2 ≤ W1.heap.size by have := HZ.out; omega)).alloc (.cells #[.int .i64 kd, .slice bo M cap2] 100))
  have B2 := Lib.hid (bel_al (bel_seq B1.out hb2) (.cells #[.int .i64 kd, .slice bo M cap2] 100))
  have O2 := Lib.hid ((O1.out.below hb2).alloc (.cells #[.int .i64 kd, .slice bo M cap2] 100))
  have S2 := Lib.hid ((S1.out.below hb2).alloc (.cells #[.int .i64 kd, .slice bo M cap2] 100))
  have P2 := Lib.hid ((P1.out.below hb2).alloc (.cells #[.int .i64 kd, .slice bo M cap2] 100))
  have Q2 := Lib.hid ((Q1.out.below hb2).alloc (.cells #[.int .i64 kd, .slice bo M cap2] 100))
  have T2 := Lib.hid ((T1.out.below hb2).alloc (.cells #[.int .i64 kd, .slice bo M cap2] 100))
  have D0 : (w2'.alloc (.cells #[.int .i64 kd, .slice bo M cap2] 100)).cell? ⟨w2'.heap.size, 0, none⟩ = some (.int .i64 kd) := by simp
  have D1 : (w2'.alloc (.cells #[.int .i64 kd, .slice bo M cap2] 100)).cell? ⟨w2'.heap.size, 1, none⟩ = some (.slice bo M cap2) := by simp
  have hzd : w1.heap.size < w2'.heap.size := Nat.lt_of_lt_of_le HZ.out hb2.size
  generalize hB : w1.heap.size = t at T1 T2 hz1 hzp HZ hzd ⊢
  clear hB hb2 S1 U1 P1 Q1 T1 O1 hp ho OK1 HZ
  have hzA := P2.out.lt
  have hzB := Q2.out.lt
  have hzC := T2.out.lt
  have ht1 : ¬ t = w.heap.size := by omega
  have ht2 : ¬ t = w.heap.size + 1 := by omega
  have ht3 : ¬ w.heap.size = t := by omega
  have ht4 : ¬ w.heap.size + 1 = t := by omega
  cases hbb : (b1 && b2 && kd == 1) with
  | true =>
    have HV := Lib.hid (openWith_yes (x := x) (s := s) (l := l) (y := ((x1, s1), l1, k, b1)) (q := ((kd, L), b2)) hbb)
    obtain ⟨⟨rfl, rfl⟩, rfl⟩ : (b1 = true ∧ b2 = true) ∧ kd = 1 := by simpa using hbb
    clear hbb
    obtain ⟨p0, p1, p2, f0, f1, f2⟩ := P2.out
    obtain ⟨q0, q1, q2, r0, r1, r2⟩ := Q2.out
    obtain ⟨t0, t1, t2, u0, u1, u2⟩ := T2.out
    have D0h := Lib.hid D0
    have D1h := Lib.hid D1
    clear D0 D1 p0 p1 p2 f0 f1 f2 q0 q1 q2 r0 r1 r2 t0 t1 t2 u0 u1 u2
    go_wp2_with fail
    generalize w2'.alloc (.cells #[.int .i64 1, .slice bo M cap2] 100) = w2 at R2 B2 O2 S2 P2 Q2 T2 D0h D1h hzA hzB hzC ⊢
    have d0 := D0h.out
    have d1 := D1h.out
    obtain ⟨p0, p1, p2, f0, f1, f2⟩ := P2.out
    obtain ⟨q0, q1, q2, r0, r1, r2⟩ := Q2.out
    obtain ⟨t0, t1, t2, u0, u1, u2⟩ := T2.out
    have hd1 : ¬ w2'.heap.size = w.heap.size + 1 := by omega
    have hd2 : ¬ w.heap.size + 1 = w2'.heap.size := by omega
    have hzd0 := World.block_lt_of_cell? w2 _ d0
    dsimp only at hzd0
    try go_wp2_with fail
    go_region
    all_goals
      go_wp2
      refine bodyPost_ret (v := .tuple #[.agg #[.int .i64 x1, .int .i64 s1, .slice ao N cap], .slice bo M cap2, .bool true]) (by simp [results, Try.results30, go_sem, *]) rfl (openSPost HV.out ?_ ?_ A12.out (by repeat (with_reducible (first | exact Below.refl _ _ | refine bel_al ?_ _ | refine Below.setCell ?_ (by first | (simp; done) | (simp; omega)) _ | refine Below.drew ?_ | refine bel_drewN ?_ _ | refine bel_seq ?_ (B2.out)))))
      · refine OwnK.mono (base := w.heap.size + 2) ?_ (by omega)
        repeat (first | exact O2.out | exact O2.out.drew | refine OwnK.cells ?_ (by omega) _ | refine OwnK.drew ?_)
      · refine Own.mono (base := w.heap.size + 2) ?_ (by omega)
        repeat (first | exact R2.out | exact R2.out.drew | refine Own.cells ?_ (by omega) _ | refine Own.drew ?_)
  | false =>
    have HV := Lib.hid (openWith_no (x := x) (s := s) (l := l) (y := ((x1, s1), l1, k, b1)) (q := ((kd, L), b2)) hbb)
    have hb12 : b1 = false ∨ (b1 = true ∧ b2 = false) ∨ (b1 = true ∧ b2 = true ∧ ¬ kd = 1) := by
      cases b1 with
      | false => exact .inl rfl
      | true =>
        cases b2 with
        | false => exact .inr (.inl ⟨rfl, rfl⟩)
        | true => exact .inr (.inr ⟨rfl, rfl, by simpa using hbb⟩)
    clear hbb
    have D0h := Lib.hid D0
    have D1h := Lib.hid D1
    clear D0 D1
    have hkd : Hid (b1 = true → b2 = true → (kd == 1) = false ∧ (kd != 1) = true) := Lib.hid (fun h1 h2 => by
      rcases hb12 with rfl | ⟨_, rfl⟩ | ⟨_, _, h⟩
      · cases h1
      · cases h2
      · exact ⟨by simpa using h, by simpa using h⟩)
    rcases hb12 with rfl | ⟨rfl, rfl⟩ | ⟨rfl, rfl, hk1⟩
    all_goals
      obtain ⟨p0, p1, p2, f0, f1, f2⟩ := P2.out
      have d0 := D0h.out
      go_wp2_with fail
      generalize w2'.alloc (.cells #[.int .i64 kd, .slice bo M cap2] 100) = w2 at R2 B2 O2 S2 P2 Q2 T2 D0h D1h hzA hzB hzC p0 p1 p2 f0 f1 f2 d0 ⊢
      refine (specCopyR x s _ n l _ S2.out hl).mono ?_
      rintro e w3 ⟨ao3, cap3, rfl, ho3, hb3⟩
      obtain ⟨q0, q1, q2, r0, r1, r2⟩ := Q2.out.below hb3
      have hzD : w.heap.size + 1 < w3.heap.size := World.block_lt_of_cell? w3 _ q0
      have B3 := Lib.hid (bel_seq B2.out hb3)
      have O3 := Lib.hid (ho3.mono (show w.heap.size + 2 ≤ w2.heap.size by omega))
      have N3 := Lib.hid (ho3.notB (.inl (Nat.le_refl w3.heap.size)))
      clear hb3 ho3 p0 p1 p2 f0 f1 f2 d0
      go_wp2
      refine bodyPost_ret (v := .tuple #[.agg #[.int .i64 x, .int .i64 s, .slice ao3 n cap3], .slice (some ⟨w3.heap.size, 0, none⟩) 0 0, .bool false]) (by simp [results, Try.results30, go_sem, *]) rfl (openSPost HV.out ?_ ?_ N3.out (by repeat (with_reducible (first | exact Below.refl _ _ | refine bel_al ?_ _ | refine Below.setCell ?_ (by first | (simp; done) | (simp; omega)) _ | refine Below.drew ?_ | refine bel_drewN ?_ _ | refine bel_seq ?_ (B3.out)))))
      · refine OwnK.mono (base := w.heap.size + 2) ?_ (by omega)
        repeat (first | exact O3.out | refine OwnK.cells ?_ (by omega) _ | refine OwnK.alloc ?_ _)
      · exact Own.litZ _ _ _ _ _ (by simp [World.setCell]; omega) (by simp [World.setCell])
set_option maxRecDepth 100000 in
set_option maxHeartbeats 1000000 in
theorem implOpenStep (x s : Int) (v : Value) (n : Nat) (l : List Int) (step : Int) (u : Value) (cell : List Int) (w : World) (hs : Sk w v n l) (hl : n ≤ 1048576) (hu : Sl .u8 w u cell) (hby : bytesOk cell) : Calls Try.prog 31 #[.agg #[.int .i64 x, .int .i64 s, v], .int .i64 step, u] w (OpenSPost (openStepI x s n l step cell) w) := by
  obtain ⟨a, c, rfl, hm⟩ := hs.shape
  obtain ⟨a', c', rfl, hm'⟩ := hu.shape
  obtain ⟨n', hn'⟩ : ∃ n', n' = cell.length := ⟨_, rfl⟩
  rw [← hn'] at hu ⊢
  have CA := fun v W (h : Sk W v n l) => implKeyForStep x s v n l step W h hl
  obtain ⟨⟨⟨x1, s1⟩, l1, k, b1⟩, hx⟩ : ∃ y, y = keyStepI x s n l step := ⟨_, rfl⟩
  have CS := fun W h => implOpen k step (.slice a' n' c') cell W h hby
  obtain ⟨⟨⟨kd, L⟩, b2⟩, hq⟩ : ∃ q, q = openI k step cell := ⟨_, rfl⟩
  have hy : openStepI x s n l step cell = openWith x s l ((x1, s1), l1, k, b1) ((kd, L), b2) := by unfold openStepI; rw [← hx, hq]
  rw [hy]
  simp only [← hx] at CA
  rw [← hq] at CS
  have CA := Lib.hid CA
  have CS := Lib.hid CS
  have HS := Lib.hid ((hs.alloc (.cells #[.int .i64 x, .int .i64 s, .slice a n c] 28)).alloc (.cells #[.int .i64 0, .int .i64 0, .slice none 0 0] 28))
  have HU := Lib.hid ((hu.alloc (.cells #[.int .i64 x, .int .i64 s, .slice a n c] 28)).alloc (.cells #[.int .i64 0, .int .i64 0, .slice none 0 0] 28))
  have P := (Box3.new w (.int .i64 x) (.int .i64 s) (.slice a n c) 28).alloc (.cells #[.int .i64 0, .int .i64 0, .slice none 0 0] 28)
  have Q := Box3.new (w.alloc (.cells #[.int .i64 x, .int .i64 s, .slice a n c] 28)) (.int .i64 0) (.int .i64 0) (.slice none 0 0) 28
  have hb0 : Below w.heap.size w ((w.alloc (.cells #[.int .i64 x, .int .i64 s, .slice a n c] 28)).alloc (.cells #[.int .i64 0, .int .i64 0, .slice none 0 0] 28)) := bel_al (bel_al (Below.refl _ _) _) _
  have hz : w.heap.size + 2 ≤ ((w.alloc (.cells #[.int .i64 x, .int .i64 s, .slice a n c] 28)).alloc (.cells #[.int .i64 0, .int .i64 0, .slice none 0 0] 28)).heap.size := by simp
  rw [World.size_alloc] at Q
  clear hs hm hu hm' hn' hx hq hy hby
  go_enter Try.func31, Try.ntmps31
  go_wp2_with fail
  generalize (w.alloc (.cells #[.int .i64 x, .int .i64 s, .slice a n c] 28)).alloc (.cells #[.int .i64 0, .int .i64 0, .slice none 0 0] 28) = W0 at HS HU P Q hb0 hz ⊢
  refine (CA.out _ W0 HS.out).mono ?_
  rintro e w1 ⟨ao, N, cap, rfl, ho, hb1⟩
  dsimp only at ho
  have S1 := Lib.hid ((HS.out.below hb1).alloc (.cells #[.int .i64 x1, .int .i64 s1, .slice ao N cap] 28))
  have U1 := Lib.hid ((HU.out.below hb1).alloc (.cells #[.int .i64 x1, .int .i64 s1, .slice ao N cap] 28))
  have P1 := Lib.hid ((P.below hb1).alloc (.cells #[.int .i64 x1, .int .i64 s1, .slice ao N cap] 28))
  have Q1 := Lib.hid ((Q.below hb1).alloc (.cells #[.int .i64 x1, .int .i64 s1, .slice ao N cap] 28))
  have T1 := Lib.hid (Box3.new w1 (.int .i64 x1) (.int .i64 s1) (.slice ao N cap) 28)
  have B1 := Lib.hid (bel_al (bel_seq hb0 hb1) (.cells #[.int .i64 x1, .int .i64 s1, .slice ao N cap] 28))
  have O1 := Lib.hid ((ho.mono hz).alloc (.cells #[.int .i64 x1, .int .i64 s1, .slice ao N cap] 28))
  have hz1 : w.heap.size + 2 ≤ w1.heap.size := Nat.le_trans hz hb1.size
  have HZ : Hid (w1.heap.size < (w1.alloc (.cells #[.int .i64 x1, .int .i64 s1, .slice ao N cap] 28)).heap.size) := Lib.hid (by simp)
  obtain ⟨p0, p1, p2, _, _, _⟩ := (P.below hb1)
  have hzp : w.heap.size < w1.heap.size := by omega
  clear hb0 P Q hb1 HS HU hz
  go_wp2_with fail
  clear p0 p1 p2
  generalize w1.alloc (.cells #[.int .i64 x1, .int .i64 s1, .slice ao N cap] 28) = W1 at S1 U1 P1 Q1 T1 B1 O1 HZ ⊢
  have OK1 := Lib.hid ho
  refine (CS.out W1 U1.out).mono ?_
  rintro e w2' ⟨bo, M, cap2, rfl, hp, hb2⟩
  dsimp only at hp
  have A12 := Lib.hid (OK1.out.apartB hp (Nat.le_of_lt HZ.out))
  have R2 := Lib.hid ((hp.mono (show w.heap.size + 2 ≤ W1.heap.size by have := HZ.out; omega)).alloc (.cells #[.int .i64 kd, .slice bo M cap2] 100))
  have B2 := Lib.hid (bel_al (bel_seq B1.out hb2) (.cells #[.int .i64 kd, .slice bo M cap2] 100))
  have O2 := Lib.hid ((O1.out.below hb2).alloc (.cells #[.int .i64 kd, .slice bo M cap2] 100))
  have S2 := Lib.hid ((S1.out.below hb2).alloc (.cells #[.int .i64 kd, .slice bo M cap2] 100))
  have P2 := Lib.hid ((P1.out.below hb2).alloc (.cells #[.int .i64 kd, .slice bo M cap2] 100))
  have Q2 := Lib.hid ((Q1.out.below hb2).alloc (.cells #[.int .i64 kd, .slice bo M cap2] 100))
  have T2 := Lib.hid ((T1.out.below hb2).alloc (.cells #[.int .i64 kd, .slice bo M cap2] 100))
  have D0 : (w2'.alloc (.cells #[.int .i64 kd, .slice bo M cap2] 100)).cell? ⟨w2'.heap.size, 0, none⟩ = some (.int .i64 kd) := by simp
  have D1 : (w2'.alloc (.cells #[.int .i64 kd, .slice bo M cap2] 100)).cell? ⟨w2'.heap.size, 1, none⟩ = some (.slice bo M cap2) := by simp
  have hzd : w1.heap.size < w2'.heap.size := Nat.lt_of_lt_of_le HZ.out hb2.size
  generalize hB : w1.heap.size = t at T1 T2 hz1 hzp HZ hzd ⊢
  clear hB hb2 S1 U1 P1 Q1 T1 O1 hp ho OK1 HZ
  have hzA := P2.out.lt
  have hzB := Q2.out.lt
  have hzC := T2.out.lt
  have ht1 : ¬ t = w.heap.size := by omega
  have ht2 : ¬ t = w.heap.size + 1 := by omega
  have ht3 : ¬ w.heap.size = t := by omega
  have ht4 : ¬ w.heap.size + 1 = t := by omega
  cases hbb : (b1 && b2 && kd == 1) with
  | true =>
    have HV := Lib.hid (openWith_yes (x := x) (s := s) (l := l) (y := ((x1, s1), l1, k, b1)) (q := ((kd, L), b2)) hbb)
    obtain ⟨⟨rfl, rfl⟩, rfl⟩ : (b1 = true ∧ b2 = true) ∧ kd = 1 := by simpa using hbb
    clear hbb
    obtain ⟨p0, p1, p2, f0, f1, f2⟩ := P2.out
    obtain ⟨q0, q1, q2, r0, r1, r2⟩ := Q2.out
    obtain ⟨t0, t1, t2, u0, u1, u2⟩ := T2.out
    have D0h := Lib.hid D0
    have D1h := Lib.hid D1
    clear D0 D1 p0 p1 p2 f0 f1 f2 q0 q1 q2 r0 r1 r2 t0 t1 t2 u0 u1 u2
    go_wp2_with fail
    generalize w2'.alloc (.cells #[.int .i64 1, .slice bo M cap2] 100) = w2 at R2 B2 O2 S2 P2 Q2 T2 D0h D1h hzA hzB hzC ⊢
    have d0 := D0h.out
    have d1 := D1h.out
    obtain ⟨p0, p1, p2, f0, f1, f2⟩ := P2.out
    obtain ⟨q0, q1, q2, r0, r1, r2⟩ := Q2.out
    obtain ⟨t0, t1, t2, u0, u1, u2⟩ := T2.out
    have hd1 : ¬ w2'.heap.size = w.heap.size + 1 := by omega
    have hd2 : ¬ w.heap.size + 1 = w2'.heap.size := by omega
    have hzd0 := World.block_lt_of_cell? w2 _ d0
    dsimp only at hzd0
    try go_wp2_with fail
    go_region
    all_goals
      go_wp2
      refine bodyPost_ret (v := .tuple #[.agg #[.int .i64 x1, .int .i64 s1, .slice ao N cap], .slice bo M cap2, .bool true]) (by simp [results, Try.results31, go_sem, *]) rfl (openSPost HV.out ?_ ?_ A12.out (by repeat (with_reducible (first | exact Below.refl _ _ | refine bel_al ?_ _ | refine Below.setCell ?_ (by first | (simp; done) | (simp; omega)) _ | refine Below.drew ?_ | refine bel_drewN ?_ _ | refine bel_seq ?_ (B2.out)))))
      · refine OwnK.mono (base := w.heap.size + 2) ?_ (by omega)
        repeat (first | exact O2.out | exact O2.out.drew | refine OwnK.cells ?_ (by omega) _ | refine OwnK.drew ?_)
      · refine Own.mono (base := w.heap.size + 2) ?_ (by omega)
        repeat (first | exact R2.out | exact R2.out.drew | refine Own.cells ?_ (by omega) _ | refine Own.drew ?_)
  | false =>
    have HV := Lib.hid (openWith_no (x := x) (s := s) (l := l) (y := ((x1, s1), l1, k, b1)) (q := ((kd, L), b2)) hbb)
    have hb12 : b1 = false ∨ (b1 = true ∧ b2 = false) ∨ (b1 = true ∧ b2 = true ∧ ¬ kd = 1) := by
      cases b1 with
      | false => exact .inl rfl
      | true =>
        cases b2 with
        | false => exact .inr (.inl ⟨rfl, rfl⟩)
        | true => exact .inr (.inr ⟨rfl, rfl, by simpa using hbb⟩)
    clear hbb
    have D0h := Lib.hid D0
    have D1h := Lib.hid D1
    clear D0 D1
    have hkd : Hid (b1 = true → b2 = true → (kd == 1) = false ∧ (kd != 1) = true) := Lib.hid (fun h1 h2 => by
      rcases hb12 with rfl | ⟨_, rfl⟩ | ⟨_, _, h⟩
      · cases h1
      · cases h2
      · exact ⟨by simpa using h, by simpa using h⟩)
    rcases hb12 with rfl | ⟨rfl, rfl⟩ | ⟨rfl, rfl, hk1⟩
    all_goals
      obtain ⟨p0, p1, p2, f0, f1, f2⟩ := P2.out
      have d0 := D0h.out
      go_wp2_with fail
      generalize w2'.alloc (.cells #[.int .i64 kd, .slice bo M cap2] 100) = w2 at R2 B2 O2 S2 P2 Q2 T2 D0h D1h hzA hzB hzC p0 p1 p2 f0 f1 f2 d0 ⊢
      refine (implCopyR x s _ n l _ S2.out hl).mono ?_
      rintro e w3 ⟨ao3, cap3, rfl, ho3, hb3⟩
      obtain ⟨q0, q1, q2, r0, r1, r2⟩ := Q2.out.below hb3
      have hzD : w.heap.size + 1 < w3.heap.size := World.block_lt_of_cell? w3 _ q0
      have B3 := Lib.hid (bel_seq B2.out hb3)
      have O3 := Lib.hid (ho3.mono (show w.heap.size + 2 ≤ w2.heap.size by omega))
      have N3 := Lib.hid (ho3.notB (.inl (Nat.le_refl w3.heap.size)))
      clear hb3 ho3 p0 p1 p2 f0 f1 f2 d0
      go_wp2
      refine bodyPost_ret (v := .tuple #[.agg #[.int .i64 x, .int .i64 s, .slice ao3 n cap3], .slice none 0 0, .bool false]) (by simp [results, Try.results31, go_sem, *]) rfl (openSPost HV.out ?_ (Own.nil _ _ _ _) (apart_none _) (by repeat (with_reducible (first | exact Below.refl _ _ | refine bel_al ?_ _ | refine Below.setCell ?_ (by first | (simp; done) | (simp; omega)) _ | refine Below.drew ?_ | refine bel_drewN ?_ _ | refine bel_seq ?_ (B3.out)))))
      refine OwnK.mono (base := w.heap.size + 2) ?_ (by omega)
      repeat (first | exact O3.out | refine OwnK.cells ?_ (by omega) _)
end Go.Proofs.Ytelcpihbdgikfaa
