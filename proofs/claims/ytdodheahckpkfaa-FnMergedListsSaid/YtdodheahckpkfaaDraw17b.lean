/- The walk of the drawing of two lists of spent numbers. -/
import Derived.Test.YtdodheahckpkfaaProg
import Derived.Test.YtdodheahckpkfaaDraw17
import Derived.RegionTactic
namespace Go.Proofs.Ytdodheahckpkfaa
open Go.RowKit

theorem ownB_ge {k : IntKind} {e : TypeId} {base : Nat} {w : World} {ao : Option Addr} {N cap : Nat} {l : List Int} (h : Own k e base w ao N cap l) {p : Nat} (hp : p < base) : ownB ao = none ∨ ownB ao ≠ some p := h.notB (.inr hp)
set_option maxRecDepth 100000 in
set_option maxHeartbeats 1000000 in
theorem drawMergeSpent (v : Value) (l : List Int) (w : World) (hs : Sl .u8 w v l) (hl : l.length ≤ 1048576) (hby : ∀ x ∈ l, 0 ≤ x ∧ x ≤ 255) : Calls Try.prog 39 #[v] w fun e w' => ∃ (ea eb : Int) (La Lb : List Int) (aa ab : Option Addr) (Na Nb ca cb : Nat), e = .returned (.tuple #[.agg #[.int .i64 ea, .slice aa Na ca], .agg #[.int .i64 eb, .slice ab Nb cb]]) ∧ Own .i64 3 w.heap.size w' aa Na ca La ∧ Own .i64 3 w.heap.size w' ab Nb cb Lb ∧ La.length ≤ 41 ∧ Lb.length ≤ 41 ∧ Below w.heap.size w w' := by
  have HS := Lib.hid ((hs.alloc (.cells #[.int .i64 0, .slice none 0 0] 27)).alloc (.cells #[.int .i64 0, .slice none 0 0] 27))
  have P := (Two.new w (.int .i64 0) (.slice none 0 0) 27).alloc (.cells #[.int .i64 0, .slice none 0 0] 27)
  have Q := Two.new (w.alloc (.cells #[.int .i64 0, .slice none 0 0] 27)) (.int .i64 0) (.slice none 0 0) 27
  have hb0 : Below w.heap.size w ((w.alloc (.cells #[.int .i64 0, .slice none 0 0] 27)).alloc (.cells #[.int .i64 0, .slice none 0 0] 27)) := bel_al (bel_al (Below.refl _ _) _) _
  have hz : w.heap.size + 2 ≤ ((w.alloc (.cells #[.int .i64 0, .slice none 0 0] 27)).alloc (.cells #[.int .i64 0, .slice none 0 0] 27)).heap.size := by simp
  rw [World.size_alloc] at Q
  clear hs
  go_enter Try.func39, Try.ntmps39
  go_wp2_with fail
  generalize (w.alloc (.cells #[.int .i64 0, .slice none 0 0] 27)).alloc (.cells #[.int .i64 0, .slice none 0 0] 27) = W0 at HS P Q hb0 hz ⊢
  refine (l1New v l W0 HS.out hl hby).mono ?_
  rintro e w1 ⟨rfl, hc1, hb1⟩
  have P1 := Lib.hid (P.below hb1)
  have Q1 := Lib.hid (Q.below hb1)
  have B1 := Lib.hid (bel_seq hb0 hb1)
  have C1 := Lib.hid hc1
  have hp1 := hc1.lt
  generalize W0.heap.size = p at C1 hz hp1 hc1 ⊢
  clear hb0 hb1 P Q HS hby hc1
  go_wp2_with fail
  refine (l17List p v l w1 C1.out).mono ?_
  rintro e w2 ⟨ea, La, aa, Na, ca, rfl, hoa, hla, hc2, hg2⟩
  have hb2 : Below (w.heap.size + 2) w1 w2 := grown_below hg2 (by omega) (fun k hk => by cases hk; omega)
  have hz2 := hg2.size
  have IA := Lib.hid hoa.rowIn
  have P2 := Lib.hid ((P1.out.keep hb2 (by omega)).alloc (.cells #[.int .i64 ea, .slice aa Na ca] 27))
  have Q2 := Lib.hid ((Q1.out.keep hb2 (by omega)).alloc (.cells #[.int .i64 ea, .slice aa Na ca] 27))
  have B2 := Lib.hid (B1.out.trans ((hb2.alloc (by omega) (.cells #[.int .i64 ea, .slice aa Na ca] 27)).mono (show w.heap.size ≤ w.heap.size + 2 by omega)))
  have C2 := Lib.hid (hc2.alloc (.cells #[.int .i64 ea, .slice aa Na ca] 27))
  have A2 := Lib.hid (Two.new w2 (.int .i64 ea) (.slice aa Na ca) 27)
  have OA2 := Lib.hid ((hoa.mono (show p + 1 ≤ w1.heap.size by omega)).alloc (.cells #[.int .i64 ea, .slice aa Na ca] 27))
  have hzW : w2.heap.size + 1 ≤ (w2.alloc (.cells #[.int .i64 ea, .slice aa Na ca] 27)).heap.size := by simp
  clear P1 Q1 B1 C1 hoa hc2 hg2 hb2
  go_wp2_with fail
  generalize w2.alloc (.cells #[.int .i64 ea, .slice aa Na ca] 27) = W2 at P2 Q2 B2 C2 A2 OA2 hzW ⊢
  generalize hA : w2.heap.size = ta at A2 hzW hz2 IA ⊢
  clear hA
  refine (l17List p v l W2 C2.out).mono ?_
  rintro e w3 ⟨eb, Lb, ab, Nb, cb, rfl, hob, hlb, hc3, hg3⟩
  have hb3 : Below (w.heap.size + 2) W2 w3 := grown_below hg3 (by omega) (fun k hk => by cases hk; omega)
  have hz3 := hg3.size
  have IB := Lib.hid hob.rowIn
  have P3 := Lib.hid ((P2.out.keep hb3 (by omega)).alloc (.cells #[.int .i64 eb, .slice ab Nb cb] 27))
  have Q3 := Lib.hid ((Q2.out.keep hb3 (by omega)).alloc (.cells #[.int .i64 eb, .slice ab Nb cb] 27))
  have B3 := Lib.hid (B2.out.trans ((hb3.alloc (by omega) (.cells #[.int .i64 eb, .slice ab Nb cb] 27)).mono (show w.heap.size ≤ w.heap.size + 2 by omega)))
  have C3 := Lib.hid (hc3.alloc (.cells #[.int .i64 eb, .slice ab Nb cb] 27))
  have A3 := Lib.hid ((A2.out.grown hg3 (by simp; omega)).alloc (.cells #[.int .i64 eb, .slice ab Nb cb] 27))
  have D3 := Lib.hid (Two.new w3 (.int .i64 eb) (.slice ab Nb cb) 27)
  have OA3 := Lib.hid ((OA2.out.grown hg3 (ownB_ge OA2.out (Nat.lt_succ_self p))).alloc (.cells #[.int .i64 eb, .slice ab Nb cb] 27))
  have OB3 := Lib.hid ((hob.mono (show p + 1 ≤ W2.heap.size by omega)).alloc (.cells #[.int .i64 eb, .slice ab Nb cb] 27))
  have hzV : w3.heap.size + 1 ≤ (w3.alloc (.cells #[.int .i64 eb, .slice ab Nb cb] 27)).heap.size := by simp
  clear P2 Q2 B2 C2 A2 OA2 hob hc3 hg3 hb3
  go_wp2_with fail
  generalize w3.alloc (.cells #[.int .i64 eb, .slice ab Nb cb] 27) = W3 at P3 Q3 B3 C3 A3 D3 OA3 OB3 hzV ⊢
  generalize hA : w3.heap.size = tb at D3 hzV hz3 IB ⊢
  clear hA
  refine (l1Once p v l 2 W3 C3.out (by omega) (by omega)).mono ?_
  rintro e w4 ⟨bo, rfl, hc4, hg4⟩
  have hb4 : Below (w.heap.size + 2) W3 w4 := grown_below hg4 (by omega) (fun k hk => by cases hk; omega)
  have hz4 := hg4.size
  have P4 := Lib.hid (P3.out.keep hb4 (by omega))
  have Q4 := Lib.hid (Q3.out.keep hb4 (by omega))
  have B4 := Lib.hid (B3.out.trans (hb4.mono (show w.heap.size ≤ w.heap.size + 2 by omega)))
  have A4 := Lib.hid (A3.out.grown hg4 (by simp; omega))
  have D4 := Lib.hid (D3.out.grown hg4 (by simp; omega))
  have OA4 := Lib.hid ((OA3.out.grown hg4 (ownB_ge OA3.out (Nat.lt_succ_self p))).mono (show w.heap.size + 2 ≤ p + 1 by omega))
  have OB4 := Lib.hid ((OB3.out.grown hg4 (ownB_ge OB3.out (Nat.lt_succ_self p))).mono (show w.heap.size + 2 ≤ p + 1 by omega))
  clear P3 Q3 B3 C3 A3 D3 OA3 OB3 hc4 hg4 hb4
  obtain ⟨a0, a1, _, _⟩ := A4.out
  obtain ⟨d0, d1, f0, f1⟩ := D4.out
  obtain ⟨p0, p1, g0, g1⟩ := P4.out
  obtain ⟨q0, q1, r0, r1⟩ := Q4.out
  have hzA := A4.out.lt
  have hzD := D4.out.lt
  have hzP := P4.out.lt
  have hzQ := Q4.out.lt
  have n1 : ¬ tb = w.heap.size := by omega
  have n2 : ¬ tb = w.heap.size + 1 := by omega
  have n3 : ¬ w.heap.size = tb := by omega
  have n4 : ¬ w.heap.size + 1 = tb := by omega
  have n5 : ¬ ta = tb := by omega
  have n6 : ¬ tb = ta := by omega
  have n7 : ¬ ta = w.heap.size := by omega
  have n8 : ¬ ta = w.heap.size + 1 := by omega
  have n9 : ¬ w.heap.size = ta := by omega
  have n10 : ¬ w.heap.size + 1 = ta := by omega
  cases bo with
  | false =>
    go_wp2_with fail
    go_region
    all_goals
      go_wp2
      refine bodyPost_ret (v := .tuple #[.agg #[.int .i64 ea, .slice aa Na ca], .agg #[.int .i64 eb, .slice ab Nb cb]]) (by simp [results, Try.results39, go_sem, *]) rfl ⟨ea, eb, La, Lb, aa, ab, Na, Nb, ca, cb, rfl, ?_, ?_, hla, hlb, (by repeat (with_reducible (first | exact Below.refl _ _ | refine bel_al ?_ _ | refine Below.setCell ?_ (by first | (simp; done) | (simp; omega)) _ | refine Below.drew ?_ | refine bel_drewN ?_ _ | refine bel_seq ?_ (B4.out))))⟩
      · refine Own.mono (base := w.heap.size + 2) ?_ (by omega)
        repeat (with_reducible (first | exact OA4.out | refine Own.cells ?_ (by omega) _ | refine Own.drew ?_))
      · refine Own.mono (base := w.heap.size + 2) ?_ (by omega)
        repeat (with_reducible (first | exact OB4.out | refine Own.cells ?_ (by omega) _ | refine Own.drew ?_))
  | true =>
    have na : ownB aa = none ∨ ownB aa ≠ some tb := .inr (IA.out.cell (b := tb) (.inr (by omega))).symm
    have nb : ownB ab = none ∨ ownB ab ≠ some tb := .inr (IB.out.cell (b := tb) (.inr (Nat.le_refl _))).symm
    have hgt := grown_setCellW w4 tb 0 (.int .i64 ea)
    have OA5 := Lib.hid (OA4.out.grown hgt na)
    have OB5 := Lib.hid (OB4.out.grown hgt nb)
    have B5 := Lib.hid (B4.out.setCell (p := ⟨tb, 0, none⟩) (show w.heap.size ≤ tb by omega) (.int .i64 ea))
    have A5 := A4.out.grown hgt (by simp; omega)
    have D5 := D4.out.set0 (.int .i64 ea)
    have P5 := P4.out.grown hgt (by simp; omega)
    have Q5 := Q4.out.grown hgt (by simp; omega)
    clear na nb hgt
    go_wp2_with fail
    clear a0 a1 d0 d1 f0 f1 p0 p1 g0 g1 q0 q1 r0 r1 hzA hzD hzP hzQ
    generalize w4.setCell ⟨tb, 0, none⟩ (.int .i64 ea) = w5 at OA5 OB5 B5 A5 D5 P5 Q5 ⊢
    have hzA := A5.lt
    have hzD := D5.lt
    have hzP := P5.lt
    have hzQ := Q5.lt
    obtain ⟨a0, a1, _, _⟩ := A5
    obtain ⟨d0, d1, f0, f1⟩ := D5
    obtain ⟨p0, p1, g0, g1⟩ := P5
    obtain ⟨q0, q1, r0, r1⟩ := Q5
    go_region
    all_goals
      go_wp2
      refine bodyPost_ret (v := .tuple #[.agg #[.int .i64 ea, .slice aa Na ca], .agg #[.int .i64 ea, .slice ab Nb cb]]) (by simp [results, Try.results39, go_sem, *]) rfl ⟨ea, ea, La, Lb, aa, ab, Na, Nb, ca, cb, rfl, ?_, ?_, hla, hlb, (by repeat (with_reducible (first | exact Below.refl _ _ | refine bel_al ?_ _ | refine Below.setCell ?_ (by first | (simp; done) | (simp; omega)) _ | refine Below.drew ?_ | refine bel_drewN ?_ _ | refine bel_seq ?_ (B5.out))))⟩
      · refine Own.mono (base := w.heap.size + 2) ?_ (by omega)
        repeat (with_reducible (first | exact OA5.out | refine Own.cells ?_ (by omega) _ | refine Own.drew ?_))
      · refine Own.mono (base := w.heap.size + 2) ?_ (by omega)
        repeat (with_reducible (first | exact OB5.out | refine Own.cells ?_ (by omega) _ | refine Own.drew ?_))
end Go.Proofs.Ytdodheahckpkfaa
