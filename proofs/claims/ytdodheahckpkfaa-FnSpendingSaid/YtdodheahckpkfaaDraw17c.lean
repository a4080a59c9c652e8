/- The walk of the drawing of a list of spent numbers, a secret and a token. -/
import Derived.Test.YtdodheahckpkfaaProg
import Derived.Test.YtdodheahckpkfaaDraw17
import Derived.RegionTactic
namespace Go.Proofs.Ytdodheahckpkfaa
open Go.RowKit

set_option maxRecDepth 100000 in
set_option maxHeartbeats 1000000 in
theorem drawSpendToken (v : Value) (l : List Int) (w : World) (hs : Sl .u8 w v l) (hl : l.length ≤ 1048576) (hby : ∀ x ∈ l, 0 ≤ x ∧ x ≤ 255) : Calls Try.prog 36 #[v] w fun e w' => ∃ (ea s n tv : Int) (La : List Int) (aa : Option Addr) (Na ca : Nat), e = .returned (.tuple #[.agg #[.int .i64 ea, .slice aa Na ca], .int .i64 s, .agg #[.int .i64 n, .int .i64 tv]]) ∧ Own .i64 3 w.heap.size w' aa Na ca La ∧ La.length ≤ 41 ∧ Below w.heap.size w w' := by
  have HS := Lib.hid ((hs.alloc (.cells #[.int .i64 0, .slice none 0 0] 27)).alloc (.cells #[.int .i64 0, .int .i64 0] 42))
  have P := (Two.new w (.int .i64 0) (.slice none 0 0) 27).alloc (.cells #[.int .i64 0, .int .i64 0] 42)
  have Q := Two.new (w.alloc (.cells #[.int .i64 0, .slice none 0 0] 27)) (.int .i64 0) (.int .i64 0) 42
  have hb0 : Below w.heap.size w ((w.alloc (.cells #[.int .i64 0, .slice none 0 0] 27)).alloc (.cells #[.int .i64 0, .int .i64 0] 42)) := bel_al (bel_al (Below.refl _ _) _) _
  have hz : w.heap.size + 2 ≤ ((w.alloc (.cells #[.int .i64 0, .slice none 0 0] 27)).alloc (.cells #[.int .i64 0, .int .i64 0] 42)).heap.size := by simp
  rw [World.size_alloc] at Q
  clear hs
  go_enter Try.func36, Try.ntmps36
  go_wp2_with fail
  generalize (w.alloc (.cells #[.int .i64 0, .slice none 0 0] 27)).alloc (.cells #[.int .i64 0, .int .i64 0] 42) = W0 at HS P Q hb0 hz ⊢
  refine (l1New v l W0 HS.out hl hby).mono ?_
  rintro e w1 ⟨rfl, hc1, hb1⟩
  have P1 := Lib.hid (P.below hb1)
  have Q1 := Lib.hid (Q.below hb1)
  have B1 := Lib.hid (bel_seq hb0 hb1)
  have C1 := Lib.hid hc1
  have hp1 := hc1.lt
  generalize W0.heap.size = p at C1 hz hp1 hc1 ⊢
  clear hb0 hb1 P Q HS hby hc1
  go_wp2_with fail
  refine (l17List p v l w1 C1.out).mono ?_
  rintro e w2 ⟨ea, La, aa, Na, ca, rfl, hoa, hla, hc2, hg2⟩
  have hb2 : Below (w.heap.size + 2) w1 w2 := grown_below hg2 (by omega) (fun k hk => by cases hk; omega)
  have hz2 := hg2.size
  have P2 := Lib.hid ((P1.out.keep hb2 (by omega)).alloc (.cells #[.int .i64 ea, .slice aa Na ca] 27))
  have Q2 := Lib.hid ((Q1.out.keep hb2 (by omega)).alloc (.cells #[.int .i64 ea, .slice aa Na ca] 27))
  have B2 := Lib.hid (B1.out.trans ((hb2.alloc (by omega) (.cells #[.int .i64 ea, .slice aa Na ca] 27)).mono (show w.heap.size ≤ w.heap.size + 2 by omega)))
  have C2 := Lib.hid (hc2.alloc (.cells #[.int .i64 ea, .slice aa Na ca] 27))
  have A2 := Lib.hid (Two.new w2 (.int .i64 ea) (.slice aa Na ca) 27)
  have OA2 := Lib.hid ((hoa.mono (show p + 1 ≤ w1.heap.size by omega)).alloc (.cells #[.int .i64 ea, .slice aa Na ca] 27))
  have hzW : w2.heap.size + 1 ≤ (w2.alloc (.cells #[.int .i64 ea, .slice aa Na ca] 27)).heap.size := by simp
  have IA := Lib.hid hoa.rowIn
  clear P1 Q1 B1 C1 hoa hc2 hg2 hb2
  go_wp2_with fail
  generalize w2.alloc (.cells #[.int .i64 ea, .slice aa Na ca] 27) = W2 at P2 Q2 B2 C2 A2 OA2 hzW ⊢
  generalize hA : w2.heap.size = ta at A2 hzW hz2 IA ⊢
  clear hA
  refine (l1Below p v l 1018 W2 C2.out (by omega) (by omega)).mono ?_
  rintro e w3 ⟨x, rfl, hx0, hx1, hc3, hg3⟩
  have hb3 : Below (w.heap.size + 2) W2 w3 := grown_below hg3 (by omega) (fun k hk => by cases hk; omega)
  have hz3 := hg3.size
  have P3 := Lib.hid (P2.out.keep hb3 (by omega))
  have Q3 := Lib.hid (Q2.out.keep hb3 (by omega))
  have B3 := Lib.hid (B2.out.trans (hb3.mono (show w.heap.size ≤ w.heap.size + 2 by omega)))
  have C3 := Lib.hid hc3
  have A3 := Lib.hid (A2.out.grown hg3 (by simp; omega))
  have OA3 := Lib.hid (OA2.out.grown hg3 (OA2.out.notB (.inr (Nat.lt_succ_self p))))
  clear P2 Q2 B2 C2 A2 OA2 hc3 hg3 hb3
  go_wp2_with fail
  refine (l1Below p v l 40 w3 C3.out (by omega) (by omega)).mono ?_
  rintro e w4 ⟨n, rfl, hn0, hn1, hc4, hg4⟩
  have hb4 : Below (w.heap.size + 2) w3 w4 := grown_below hg4 (by omega) (fun k hk => by cases hk; omega)
  have hz4 := hg4.size
  have P4 := Lib.hid (P3.out.keep hb4 (by omega))
  have Q4 := Lib.hid (Q3.out.keep hb4 (by omega))
  have B4 := Lib.hid (B3.out.trans (hb4.mono (show w.heap.size ≤ w.heap.size + 2 by omega)))
  have C4 := Lib.hid hc4
  have A4 := Lib.hid (A3.out.grown hg4 (by simp; omega))
  have OA4 := Lib.hid (OA3.out.grown hg4 (OA3.out.notB (.inr (Nat.lt_succ_self p))))
  clear P3 Q3 B3 C3 A3 OA3 hc4 hg4 hb4
  generalize 1 + x = s
  have CH := fun W => specHashToGroup 101 n W
  generalize hashToGroupI 101 n = h at CH
  have CP := fun W => specPowGroup h s W
  generalize powGroupI h s = tv at CP
  have CH := Lib.hid CH
  have CP := Lib.hid CP
  go_wp2_with fail
  refine (CH.out _).mono ?_
  rintro e w5 ⟨rfl, hb5⟩
  have hz5 := hb5.size
  have P5 := Lib.hid (P4.out.below hb5)
  have Q5 := Lib.hid (Q4.out.below hb5)
  have B5 := Lib.hid (bel_seq B4.out hb5)
  have C5 := Lib.hid (C4.out.below hb5)
  have A5 := Lib.hid (A4.out.below hb5)
  have OA5 := Lib.hid (OA4.out.below hb5)
  clear P4 Q4 B4 C4 A4 OA4 hb5
  go_wp2_with fail
  refine (CP.out _).mono ?_
  rintro e w6 ⟨rfl, rfl⟩
  have P6 := Lib.hid (P5.out.alloc (.cells #[.int .i64 n, .int .i64 tv] 42))
  have Q6 := Lib.hid (Q5.out.alloc (.cells #[.int .i64 n, .int .i64 tv] 42))
  have B6 := Lib.hid (bel_al B5.out (.cells #[.int .i64 n, .int .i64 tv] 42))
  have C6 := Lib.hid (C5.out.alloc (.cells #[.int .i64 n, .int .i64 tv] 42))
  have A6 := Lib.hid (A5.out.alloc (.cells #[.int .i64 n, .int .i64 tv] 42))
  have OA6 := Lib.hid (OA5.out.alloc (.cells #[.int .i64 n, .int .i64 tv] 42))
  have T6 := Lib.hid (Two.new w5 (.int .i64 n) (.int .i64 tv) 42)
  have hzV : w5.heap.size + 1 ≤ (w5.alloc (.cells #[.int .i64 n, .int .i64 tv] 42)).heap.size := by simp
  clear P5 Q5 B5 C5 A5 OA5
  go_wp2_with fail
  generalize w5.alloc (.cells #[.int .i64 n, .int .i64 tv] 42) = W6 at P6 Q6 B6 C6 A6 OA6 T6 hzV ⊢
  generalize hA : w5.heap.size = tb at T6 hzV hz5 ⊢
  clear hA
  refine (l1Once p v l 4 W6 C6.out (by omega) (by omega)).mono ?_
  rintro e w7 ⟨bo, rfl, hc7, hg7⟩
  have hb7 : Below (w.heap.size + 2) W6 w7 := grown_below hg7 (by omega) (fun k hk => by cases hk; omega)
  have hz7 := hg7.size
  have P7 := Lib.hid (P6.out.keep hb7 (by omega))
  have Q7 := Lib.hid (Q6.out.keep hb7 (by omega))
  have B7 := Lib.hid (B6.out.trans (hb7.mono (show w.heap.size ≤ w.heap.size + 2 by omega)))
  have A7 := Lib.hid (A6.out.grown hg7 (by simp; omega))
  have T7 := Lib.hid (T6.out.grown hg7 (by simp; omega))
  have OA7 := Lib.hid (OA6.out.grown hg7 (OA6.out.notB (.inr (Nat.lt_succ_self p))))
  have C7 := Lib.hid hc7
  clear P6 Q6 B6 C6 A6 T6 OA6 hc7 hg7 hb7
  have n1 : ¬ tb = w.heap.size := by omega
  have n2 : ¬ tb = w.heap.size + 1 := by omega
  have n3 : ¬ w.heap.size = tb := by omega
  have n4 : ¬ w.heap.size + 1 = tb := by omega
  have n5 : ¬ ta = tb := by omega
  have n6 : ¬ tb = ta := by omega
  have n7 : ¬ ta = w.heap.size := by omega
  have n8 : ¬ ta = w.heap.size + 1 := by omega
  have n9 : ¬ w.heap.size = ta := by omega
  have n10 : ¬ w.heap.size + 1 = ta := by omega
  cases bo with
  | false =>
    have hzA := A7.out.lt
    have hzD := T7.out.lt
    have hzP := P7.out.lt
    have hzQ := Q7.out.lt
    have OA8 := Lib.hid (OA7.out.mono (show w.heap.size + 2 ≤ p + 1 by omega))
    go_wp2_with fail
    obtain ⟨a0, a1, _, _⟩ := A7.out
    obtain ⟨d0, d1, _, _⟩ := T7.out
    obtain ⟨p0, p1, g0, g1⟩ := P7.out
    obtain ⟨q0, q1, r0, r1⟩ := Q7.out
    go_region
    all_goals
      go_wp2
      refine bodyPost_ret (v := .tuple #[.agg #[.int .i64 ea, .slice aa Na ca], .int .i64 s, .agg #[.int .i64 n, .int .i64 tv]]) (by simp [results, Try.results36, go_sem, *]) rfl ⟨ea, s, n, tv, La, aa, Na, ca, rfl, ?_, hla, (by repeat (with_reducible (first | exact Below.refl _ _ | refine bel_al ?_ _ | refine Below.setCell ?_ (by first | (simp; done) | (simp; omega)) _ | refine Below.drew ?_ | refine bel_drewN ?_ _ | refine bel_seq ?_ (B7.out))))⟩
      refine Own.mono (base := w.heap.size + 2) ?_ (by omega)
      repeat (with_reducible (first | exact OA8.out | refine Own.cells ?_ (by omega) _ | refine Own.drew ?_))
  | true =>
    go_wp2_with fail
    refine (l15Any p v l w7 C7.out).mono ?_
    rintro e w8 ⟨y, rfl, hc8, hg8⟩
    have hb8 : Below (w.heap.size + 2) w7 w8 := grown_below hg8 (by omega) (fun k hk => by cases hk; omega)
    have hz8 := hg8.size
    have P8 := Lib.hid (P7.out.keep hb8 (by omega))
    have Q8 := Lib.hid (Q7.out.keep hb8 (by omega))
    have B8 := Lib.hid (B7.out.trans (hb8.mono (show w.heap.size ≤ w.heap.size + 2 by omega)))
    have A8 := Lib.hid (A7.out.grown hg8 (by simp; omega))
    have T8 := Lib.hid (T7.out.grown hg8 (by simp; omega))
    have OA8 := Lib.hid ((OA7.out.grown hg8 (OA7.out.notB (.inr (Nat.lt_succ_self p)))).mono (show w.heap.size + 2 ≤ p + 1 by omega))
    have na : ownB aa = none ∨ ownB aa ≠ some tb := .inr (IA.out.cell (b := tb) (.inr (by omega))).symm
    have hgt := grown_setCellW w8 tb 1 (.int .i64 y)
    have OA9 := Lib.hid (OA8.out.grown hgt na)
    have B9 := Lib.hid (B8.out.setCell (p := ⟨tb, 1, none⟩) (show w.heap.size ≤ tb by omega) (.int .i64 y))
    have A9 := A8.out.grown hgt (by simp; omega)
    have T9 := T8.out.set1 (.int .i64 y)
    have P9 := P8.out.grown hgt (by simp; omega)
    have Q9 := Q8.out.grown hgt (by simp; omega)
    obtain ⟨d0, d1, f0, f1⟩ := T8.out
    have hzD := T8.out.lt
    clear na hgt hc8 hg8 hb8 P8 Q8 B8 A8 T8 OA8
    go_wp2_with fail
    clear d0 d1 f0 f1 hzD
    generalize w8.setCell ⟨tb, 1, none⟩ (.int .i64 y) = w9 at OA9 B9 A9 T9 P9 Q9 ⊢
    have hzA := A9.lt
    have hzD := T9.lt
    have hzP := P9.lt
    have hzQ := Q9.lt
    obtain ⟨a0, a1, _, _⟩ := A9
    obtain ⟨d0, d1, _, _⟩ := T9
    obtain ⟨p0, p1, g0, g1⟩ := P9
    obtain ⟨q0, q1, r0, r1⟩ := Q9
    go_region
    all_goals
      go_wp2
      refine bodyPost_ret (v := .tuple #[.agg #[.int .i64 ea, .slice aa Na ca], .int .i64 s, .agg #[.int .i64 n, .int .i64 y]]) (by simp [results, Try.results36, go_sem, *]) rfl ⟨ea, s, n, y, La, aa, Na, ca, rfl, ?_, hla, (by repeat (with_reducible (first | exact Below.refl _ _ | refine bel_al ?_ _ | refine Below.setCell ?_ (by first | (simp; done) | (simp; omega)) _ | refine Below.drew ?_ | refine bel_drewN ?_ _ | refine bel_seq ?_ (B9.out))))⟩
      refine Own.mono (base := w.heap.size + 2) ?_ (by omega)
      repeat (with_reducible (first | exact OA9.out | refine Own.cells ?_ (by omega) _ | refine Own.drew ?_))
end Go.Proofs.Ytdodheahckpkfaa
