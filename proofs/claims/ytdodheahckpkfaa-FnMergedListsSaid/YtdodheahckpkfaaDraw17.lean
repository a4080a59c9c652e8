/- The walk of the drawing of a list of spent numbers. -/
import Derived.Test.YtdodheahckpkfaaProg
import Derived.Test.YtdodheahckpkfaaDraw
import Derived.Test.YtdodheahckpkfaaSpend
import Derived.Deep.RegionLaw
namespace Go.Proofs.Ytdodheahckpkfaa
open Go.RowKit

theorem grown_newW {w w' : World} {row : Option Nat} {b o : Nat} {u : Value} (h : w.grownBy w' row) (hb : w.heap.size ≤ b) : w.grownBy (w'.setCell ⟨b, o, none⟩ u) row := by
  obtain ⟨h1, h2, h3, h4, h5⟩ := h
  exact ⟨h1, h2, h3, by simpa [World.setCell] using h4, fun i hi hne => (Below.heap_setCell _ _ _ _ (by show i ≠ b; omega)).trans (h5 i hi hne)⟩
theorem grown_frozenW {w w' : World} {row : Option Nat} {b o : Nat} (hg : w.grownBy w' row) (hne : some b ≠ row) (hl : b < w.heap.size) : w'.frozen? ⟨b, o, none⟩ = w.frozen? ⟨b, o, none⟩ := World.frozen?_of_block (hg.block b hl hne)
theorem Cur.over {w : World} {p : Nat} {v : Value} {l : List Int} (hc : Cur w p v l) {b : Nat} (hb : p < b) (o : Nat) (u : Value) : Cur (w.setCell ⟨b, o, none⟩ u) p v l := by
  obtain ⟨i, h, g0, g1, g2, f1, f2, hi0, hi1, hs, hne, hby⟩ := hc
  have hg := grown_setCellW w b o u
  refine ⟨i, h, hg.cell g0 (by simp; omega), hg.cell g1 (by simp; omega), hg.cell g2 (by simp; omega), (grown_frozenW hg (by simp; omega) (World.block_lt_of_cell? w _ g1)).trans f1, (grown_frozenW hg (by simp; omega) (World.block_lt_of_cell? w _ g2)).trans f2, hi0, hi1, ?_, hne, hby⟩
  by_cases h0 : 0 < l.length
  · exact hs.grown hg (fun b' off n c e => by have := hne b' off n c e h0; simp; omega)
  · obtain rfl : l = [] := List.length_eq_zero_iff.1 (by omega)
    rcases hs with h | ⟨b', off, cap, rfl, _, h2, _, _⟩
    · exact .inl h
    · exact .inl ⟨rfl, _, cap, rfl, h2, by simp⟩
section
variable {P : Program} {w : World}
theorem run_app2 (t ty : TypeId) (base : Nat) (e : TypeId) (k : IntKind) (z : Value) (bytes : Nat) (ht : P.underlying t = some (.slice e)) (hi : (P.info? e).map (fun i => (i.zero, i.size, i.bytes)) = some (some z, 1, bytes)) (hzs : z.cells.size = 1) (hby : bytes ≤ 8)
    (ao : Option Addr) (N cap : Nat) (l : List Int) (hown : Own k e base w ao N cap l) (vx : Value) (m : List Int) (hsl : Sl k w vx m) (hlen : N + m.length ≤ 1099511627776) (hbase : base ≤ w.heap.size) :
    ∃ ao' N' cap' w', (Builtin.append_ #[t, t] ty #[.slice ao N cap, vx]).run P w = .ok (.slice ao' N' cap') w' ∧ N' ≤ N + m.length ∧ N + m.length ≤ N' ∧ Own k e base w' ao' N' cap' (l ++ m) ∧ w.grownBy w' (ownB ao) ∧ Below base w w' ∧ (ownB ao' = ownB ao ∨ ownB ao' = some w.heap.size) := by
  obtain ⟨i, hi1, hi2, hi3, hi4⟩ := info_parts hi
  suffices grow : ∀ (ad : Addr) (c : Nat), vx = .slice (some ad) m.length c → (∀ i, i < m.length → w.cell? (ad.add i) = some (.int k (m.getD i 0))) → ∃ ao' N' cap' w', (Builtin.append_ #[t, t] ty #[.slice ao N cap, vx]).run P w = .ok (.slice ao' N' cap') w' ∧ N' ≤ N + m.length ∧ N + m.length ≤ N' ∧ Own k e base w' ao' N' cap' (l ++ m) ∧ w.grownBy w' (ownB ao) ∧ Below base w w' ∧ (ownB ao' = ownB ao ∨ ownB ao' = some w.heap.size) by
    rcases hsl with ⟨rfl, ad, c, rfl, hc, hnone⟩ | ⟨b, off, c, rfl, h1, h2, h3, h4⟩
    · cases ad with
      | none =>
        obtain rfl := hnone rfl
        exact ⟨ao, N, cap, w, run_append_owned_none (P := P) (w := w) base t ty e i 1 ht hi1 _ N _ hown.2, by simp, by simp, by simpa using hown, World.grownBy.refl _ _, Below.refl _ _, .inl rfl⟩
      | some ad => exact grow ad c rfl (fun i hi => by simp at hi)
    · exact grow ⟨b, off, none⟩ c rfl (fun i hi => by rw [Addr.add_lit]; exact h4 i hi)
  intro ad c hx h4
  subst hx
  obtain ⟨v', w', hr, hown', hg, _, hob⟩ := run_append_own_at (P := P) w base t ty e i z 1 bytes ht hi1 hi2 hi3 hi4 hzs (by omega) _ N _ hown.2 ad m.length c (m.map (Value.int k)) (by simp) (fun j u hj => by
      simp only [List.getElem?_map, Option.map_eq_some_iff] at hj
      obtain ⟨n, hn, rfl⟩ := hj
      have hj' : j < m.length := (List.getElem?_eq_some_iff.1 hn).1
      have := h4 j hj'
      rw [show m.getD j 0 = n by simp [hn]] at this
      exact this) (fun u hu => by
      obtain ⟨n, _, rfl⟩ := List.mem_map.1 hu
      rfl) (by unfold maxLen; omega) (by
      calc (N + m.length) * bytes ≤ 1099511627776 * 8 := Nat.mul_le_mul hlen hby
        _ ≤ 140737488355328 := by omega) hbase
  have hb : Below base w w' := (Below.refl _ _).grown hg hbase (fun k hk => (hown.2.lt k hk).1)
  rw [ownB_slice] at hg hob
  have hl : (l ++ m).length = N + m.length := by rw [List.length_append, hown.1]
  rw [← List.map_append] at hown'
  rcases hown'.2 with ⟨hv, h0⟩ | ⟨g, cap', cur, hv, _⟩
  · subst hv
    exact ⟨none, 0, 0, w', hr, by omega, by omega, ⟨by rw [hl]; exact h0, by rw [h0] at hown'; exact hown'⟩, hg, hb, by rw [ownB_slice] at hob; exact hob⟩
  · subst hv
    exact ⟨_, _, cap', w', hr, Nat.le_refl _, Nat.le_refl _, ⟨hl, hown'⟩, hg, hb, by rw [ownB_slice] at hob; exact hob⟩
/-- 'append' as one step of a region that draws its order -/
theorem step_app2 {ops : Array Oper} {o : Oper} {a : Act} {K : Act → World → Prop} {Q : Exit → Act → World → Prop} {E : Prop} (hgd : o.guard = none) (s x : Operand) (t : TypeId)
    (ho : o.op = .call { callee := .builtin .append, args := #[s, x], argTypes := #[t, t] })
    (base : Nat) (e : TypeId) (k : IntKind) (z : Value) (bytes : Nat) (ht : P.underlying t = some (.slice e)) (hi : (P.info? e).map (fun i => (i.zero, i.size, i.bytes)) = some (some z, 1, bytes)) (hzs : z.cells.size = 1) (hby : bytes ≤ 8)
    (ao : Option Addr) (N cap : Nat) (l : List Int) (hs : a.eval s = .slice ao N cap) (hown : Own k e base w ao N cap l) (vx : Value) (m : List Int) (hx : a.eval x = vx) (hsl : Sl k w vx m) (hlen : N + m.length ≤ 1099511627776) (hbase : base ≤ w.heap.size)
    (h : ∀ ao' N' cap' w', N' ≤ N + m.length → N + m.length ≤ N' → Own k e base w' ao' N' cap' (l ++ m) → w.grownBy w' (ownB ao) → Below base w w' → (ownB ao' = ownB ao ∨ ownB ao' = some w.heap.size) → K (a.put o.dst (.slice ao' N' cap')) w') :
    if Region.wanted o (yielded ops a.tmps) = true then Oper.wp P o a w K Q else E := by
  have hw : Region.wanted o (yielded ops a.tmps) = true := by simp [Region.wanted, hgd]
  rw [if_pos hw]
  obtain ⟨ao', N', cap', w', hr, h1, h2, h3, h4, h5, h6⟩ := run_app2 (P := P) (w := w) t o.type base e k z bytes ht hi hzs hby ao N cap l hown vx m hsl hlen hbase
  unfold Oper.wp
  simp [execOp, ho, resolve, invoke, builtin, hs, hx, hr, Result.andThen]
  exact h _ _ _ _ h1 h2 h3 h4 h5 h6
end
theorem Cur.grownO {w w' : World} {p : Nat} {v : Value} {l : List Int} {row : Option Nat} (hc : Cur w p v l) (hg : w.grownBy w' row) (hr : ∀ k, row = some k → p < k) : Cur w' p v l := by
  obtain ⟨i, h, g0, g1, g2, f1, f2, hi0, hi1, hs, hne, hby⟩ := hc
  have np : ∀ b, b ≤ p → some b ≠ row := fun b hb e => by have := hr b e.symm; omega
  refine ⟨i, h, hg.cell g0 (np _ (Nat.le_refl _)), hg.cell g1 (np _ (Nat.le_refl _)), hg.cell g2 (np _ (Nat.le_refl _)), (grown_frozenW hg (np _ (Nat.le_refl _)) (World.block_lt_of_cell? w _ g1)).trans f1, (grown_frozenW hg (np _ (Nat.le_refl _)) (World.block_lt_of_cell? w _ g2)).trans f2, hi0, hi1, ?_, hne, hby⟩
  by_cases h0 : 0 < l.length
  · exact hs.grown hg (fun b' off n c e => np _ (Nat.le_of_lt (hne b' off n c e h0)))
  · obtain rfl : l = [] := List.length_eq_zero_iff.1 (by omega)
    rcases hs with h | ⟨b', off, cap, rfl, _, h2, _, _⟩
    · exact .inl h
    · exact .inl ⟨rfl, _, cap, rfl, h2, by simp⟩
theorem grown_belowB {w W w7 : World} {row : Option Nat} {B : Nat} (h : w.grownBy W row) (hb : Below B W w7) (hB : w.heap.size ≤ B) : w.grownBy w7 row := ⟨hb.os.trans h.os, hb.tape.trans h.tape, hb.output.trans h.output, Nat.le_trans h.size hb.size, fun i hi hne => (hb.block i (by omega)).trans (h.block i hi hne)⟩
/-- a list that is being drawn: its box t, the result's box R, the cursor p; all but the cursor in memory made since w -/
structure LS (w : World) (p : Nat) (v : Value) (l : List Int) (t R : Nat) (wr : World) (e0 : Int) (L : List Int) (ao : Option Addr) (N cap : Nat) : Prop where
  T : Two wr t (.int .i64 e0) (.slice ao N cap)
  O : Own .i64 3 (w.heap.size + 1) wr ao N cap L
  NT : ownB ao = none ∨ ownB ao ≠ some t
  Q : Two wr R (.int .i64 0) (.slice none 0 0)
  C : Cur wr p v l
  G : w.grownBy wr (some p)
  pt : p < w.heap.size
  ht : w.heap.size + 1 ≤ t
  hR : w.heap.size ≤ R
  tR : t ≠ R
section
variable {w wr : World} {p : Nat} {v : Value} {l : List Int} {t R : Nat} {e0 : Int} {L : List Int} {ao : Option Addr} {N cap : Nat}
theorem LS.step (h : LS w p v l t R wr e0 L ao N cap) {w2 : World} (hc : Cur w2 p v l) (hg : wr.grownBy w2 (some p)) : LS w p v l t R w2 e0 L ao N cap := by
  obtain ⟨T, O, NT, Q, C, G, pt, ht, hR, tR⟩ := h
  refine ⟨T.grown hg (by simp; omega), O.grown hg ?_, NT, Q.grown hg (by simp; omega), hc, grown_trans G hg, pt, ht, hR, tR⟩
  rcases O.shape with ⟨rfl, _⟩ | ⟨g, rfl, h1, _⟩
  · exact .inl rfl
  · exact .inr (by simp [ownB]; omega)
theorem LS.below (h : LS w p v l t R wr e0 L ao N cap) {w2 : World} (hb : Below wr.heap.size wr w2) : LS w p v l t R w2 e0 L ao N cap := h.step (h.C.below hb) (below_grown hb _)
theorem LS.alloc (h : LS w p v l t R wr e0 L ao N cap) (o : Obj) : LS w p v l t R (wr.alloc o) e0 L ao N cap := h.below (bel_al (Below.refl _ _) o)
theorem LS.ins (h : LS w p v l t R wr e0 L ao N cap) {w2 : World} (hb : Below wr.heap.size wr w2) {ao2 : Option Addr} {N2 cap2 : Nat} {L2 : List Int} (ho : Own .i64 3 wr.heap.size w2 ao2 N2 cap2 L2) (e2 : Int) : LS w p v l t R ((w2.setCell ⟨t, 0, none⟩ (.int .i64 e2)).setCell ⟨t, 1, none⟩ (.slice ao2 N2 cap2)) e2 L2 ao2 N2 cap2 := by
  have htl := h.T.lt
  have hsz : w.heap.size + 1 ≤ wr.heap.size := by have := h.ht; omega
  obtain ⟨T, O, NT, Q, C, G, pt, ht, hR, tR⟩ := h.below hb
  have n2 := ho.notB (b := t) (.inr htl)
  have hg := grown_trans (grown_setCellW w2 t 0 (.int .i64 e2)) (grown_setCellW _ t 1 (.slice ao2 N2 cap2))
  exact ⟨(T.set0 _).set1 _, (ho.grown hg n2).mono hsz, n2, Q.grown hg (by simp; omega), (C.over (by omega) 0 _).over (by omega) 1 _, grown_newW (grown_newW G (by omega)) (by omega), pt, ht, hR, tR⟩
theorem LS.ins1 (h : LS w p v l t R wr e0 L ao N cap) {w2 : World} (hc : Cur w2 p v l) (hT : Two w2 t (.int .i64 e0) (.slice ao N cap)) (hQ : Two w2 R (.int .i64 0) (.slice none 0 0)) (hG : w.grownBy w2 (some p)) {ao2 : Option Addr} {N2 cap2 : Nat} {L2 : List Int} (ho : Own .i64 3 (w.heap.size + 1) w2 ao2 N2 cap2 L2) (n2 : ownB ao2 = none ∨ ownB ao2 ≠ some t) : LS w p v l t R (w2.setCell ⟨t, 1, none⟩ (.slice ao2 N2 cap2)) e0 L2 ao2 N2 cap2 := by
  have hg := grown_setCellW w2 t 1 (.slice ao2 N2 cap2)
  have ht := h.ht
  have pt := h.pt
  have tR := h.tR
  exact ⟨hT.set1 _, ho.grown hg n2, n2, hQ.grown hg (by simp; omega), hc.over (by omega) 1 _, grown_newW hG (by omega), h.pt, h.ht, h.hR, h.tR⟩
theorem LS.setE (h : LS w p v l t R wr e0 L ao N cap) (e2 : Int) : LS w p v l t R (wr.setCell ⟨t, 0, none⟩ (.int .i64 e2)) e2 L ao N cap := by
  obtain ⟨T, O, NT, Q, C, G, pt, ht, hR, tR⟩ := h
  have hg := grown_setCellW wr t 0 (.int .i64 e2)
  exact ⟨T.set0 _, O.grown hg NT, NT, Q.grown hg (by simp; omega), C.over (by omega) 0 _, grown_newW G (by omega), pt, ht, hR, tR⟩
end
def newEp17 (x : Int) : Int := if inR x 0 1000000000000 then x else 0
theorem specNew17 (a0 : Int) (w : World) : Calls Try.prog 97 #[.int .i64 a0] w fun e w' => e = .returned (.agg #[.int .i64 (newEp17 a0), .slice none 0 0]) ∧ Below w.heap.size w w' := by
  cases h : inR a0 0 1000000000000 with
  | false =>
    have HV := Lib.hid (show newEp17 a0 = 0 by unfold newEp17; rw [h]; rfl)
    go_enter Try.func97, Try.ntmps97
    go_wp2_with (go_at_call 59; (refine (specInRis h _).mono ?_); rintro e w' ⟨rfl, rfl⟩)
    refine bodyPost_ret (v := .agg #[.int .i64 0, .slice none 0 0]) (by simp [results, Try.results97, go_sem, *]) rfl ⟨by rw [HV.out], (by repeat (first | exact Below.refl _ _ | refine bel_al ?_ _ | refine Below.setCell ?_ (by first | (simp; done) | (simp; omega)) _ | refine Below.drew ?_ | refine bel_drewN ?_ _))⟩
  | true =>
    have HV := Lib.hid (show newEp17 a0 = a0 by unfold newEp17; rw [h]; rfl)
    go_enter Try.func97, Try.ntmps97
    go_wp2_with (go_at_call 59; (refine (specInRis h _).mono ?_); rintro e w' ⟨rfl, rfl⟩)
    refine bodyPost_ret (v := .agg #[.int .i64 a0, .slice none 0 0]) (by simp [results, Try.results97, go_sem, *]) rfl ⟨by rw [HV.out], (by repeat (first | exact Below.refl _ _ | refine bel_al ?_ _ | refine Below.setCell ?_ (by first | (simp; done) | (simp; omega)) _ | refine Below.drew ?_ | refine bel_drewN ?_ _))⟩
set_option maxRecDepth 100000 in
set_option maxHeartbeats 2000000 in
theorem l17List (p : Nat) (v : Value) (l : List Int) (w : World) (hc : Cur w p v l) : Calls Try.prog 73 #[.pointer (some ⟨p, 0, none⟩)] w fun e w' => ∃ (e0 : Int) (L : List Int) (ao : Option Addr) (N cap : Nat), e = .returned (.agg #[.int .i64 e0, .slice ao N cap]) ∧ Own .i64 3 w.heap.size w' ao N cap L ∧ L.length ≤ 41 ∧ Cur w' p v l ∧ w.grownBy w' (some p) := by
  have hlt := hc.lt
  have HC := Lib.hid (hc.alloc (.cells #[.int .i64 0, .slice none 0 0] 27))
  have HA := Lib.hid (World.grownBy_alloc w (.cells #[.int .i64 0, .slice none 0 0] 27) (some p))
  have HX := Lib.hid (Two.new w (.int .i64 0) (.slice none 0 0) 27)
  have hsz : w.heap.size + 1 ≤ (w.alloc (.cells #[.int .i64 0, .slice none 0 0] 27)).heap.size := by simp
  clear hc
  go_enter Try.func73, Try.ntmps73
  go_wp2_with fail
  generalize w.alloc (.cells #[.int .i64 0, .slice none 0 0] 27) = W0 at HC HA HX hsz ⊢
  refine (l1Below p v l 3 _ HC.out (by omega) (by omega)).mono ?_
  rintro e w1 ⟨x, rfl, hx0, hx1, hc1, hg1⟩
  have X1 := Lib.hid (HX.out.grown hg1 (by simp; omega))
  have G1 := Lib.hid (grown_trans HA.out hg1)
  have C1 := Lib.hid hc1
  have hz1 : w.heap.size + 1 ≤ w1.heap.size := Nat.le_trans hsz hg1.size
  clear hc1 hg1 HX HA HC hsz
  go_wp2_with fail
  refine (specNew17 x w1).mono ?_
  rintro e w2 ⟨rfl, hb2⟩
  generalize newEp17 x = ep
  have hz2 : w.heap.size + 1 ≤ w2.heap.size := Nat.le_trans hz1 hb2.size
  have S2 : LS w p v l w2.heap.size w.heap.size (w2.alloc (.cells #[.int .i64 ep, .slice none 0 0] 27)) ep [] none 0 0 :=
    ⟨Two.new w2 _ _ _, Own.nil _ _ _ _, .inl rfl, (X1.out.below hb2).alloc _, (C1.out.below hb2).alloc _, grown_trans (grown_trans G1.out (below_grown hb2 _)) (World.grownBy_alloc _ _ _), by omega, by omega, Nat.le_refl _, by omega⟩
  have hz3 : w2.heap.size + 1 ≤ (w2.alloc (.cells #[.int .i64 ep, .slice none 0 0] 27)).heap.size := by simp
  clear hb2 X1 G1 C1 hx0 hx1
  go_wp2_with fail
  have hq : w2.heap.size + 1 = (w2.alloc (.cells #[.int .i64 ep, .slice none 0 0] 27)).heap.size := by simp
  have hL0 : Hid (∃ L : List Int, ([] : List Int) = L ∧ L.Pairwise (· ≤ ·) ∧ L.length ≤ 0) := Lib.hid ⟨[], rfl, List.Pairwise.nil, Nat.le_refl _⟩
  generalize w2.alloc (.cells #[.int .i64 ep, .slice none 0 0] 27) = W2 at S2 hz3 hq ⊢
  have HQ := Lib.hid hq
  have S2h := Lib.hid S2
  generalize w2.heap.size + 1 = lb at hq HQ ⊢
  have HT := Lib.hid (show w.heap.size + 1 ≤ w2.heap.size from hz2)
  generalize w2.heap.size = t at S2 S2h hz2 hz3 HT ⊢
  clear S2 hz3 hq hz2
  refine (l1Lit p v l [0, 2, 5, 9] _ _ _ W2 S2h.out.C (by simp) (by simp) HQ.out rfl rfl).mono ?_
  rintro e w3 ⟨i0, rfl, hi0, hc3, hg3⟩
  have hi9 : i0 ≤ 9 := by simp only [List.mem_cons, List.not_mem_nil, or_false] at hi0; omega
  have hi00 : 0 ≤ i0 := by simp only [List.mem_cons, List.not_mem_nil, or_false] at hi0; omega
  have S3 := Lib.hid (S2h.out.step hc3 hg3)
  have htR : w.heap.size + 1 ≤ t := HT.out
  clear hc3 hg3 hi0 S2h HQ HT hz1
  obtain ⟨L0, hL0e, hL0s, hL0l⟩ := hL0.out
  rw [hL0e] at S3
  have HS0 := Lib.hid hL0s
  clear hL0 hL0e hL0s
  go_wp2_with fail
  go_loopw [4, 5] (fun ix _ wr => ∃ (i : Int) (e1 : Int) (L : List Int) (ao : Option Addr) (N cap : Nat), ix = .int .i64 i ∧ i ≤ 9 ∧ 0 ≤ i ∧ (L.length : Int) + i ≤ 9 ∧ Hid (L.Pairwise (· ≤ ·)) ∧ Hid (LS w p v l t w.heap.size wr e1 L ao N cap)) (fun ix _ _ => (intOf ix).toNat)
  case atStart => exact ⟨i0, ep, L0, none, 0, 0, rfl, hi9, hi00, by omega, HS0, S3⟩
  case round =>
    obtain ⟨i, e1, L, ao, N, cap, rfl, hi9', hi00, hiL, HSo, SR⟩ := hrel
    clear S3 HS0 hL0l hi9
    obtain ⟨t0, t1, u0, u1⟩ := SR.out.T
    have hzT := SR.out.T.lt
    by_cases hi : 0 < i
    · have hw1 : IntKind.i64.wrap (i - 1) = i - 1 := by rw [IntKind.wrap_i64]; omega
      have hLl : L.length ≤ 8 := by omega
      go_wp2_with fail
      refine (l1Below p v l 30 _ SR.out.C (by omega) (by omega)).mono ?_
      rintro e w4 ⟨y, rfl, hy0, hy1, hc4, hg4⟩
      have S4 := Lib.hid (SR.out.step hc4 hg4)
      clear hc4 hg4 SR
      clear t0 t1 u0 u1 hzT
      obtain ⟨t0, t1, u0, u1⟩ := S4.out.T
      have hzT := S4.out.T.lt
      go_wp2_with fail
      refine (specIsSpent e1 _ L y _ S4.out.O.sl).mono ?_
      rintro e w5 ⟨rfl, hb5⟩
      have S5 := Lib.hid (S4.out.below hb5)
      clear hb5 S4
      clear t0 t1 u0 u1 hzT
      obtain ⟨t0, t1, u0, u1⟩ := S5.out.T
      have hzT := S5.out.T.lt
      cases hm : memB L y with
      | true =>
        go_wp2_with fail
        go_roundw
        case rel => exact ⟨i - 1, e1, L, ao, N, cap, by go_num, by omega, by omega, by omega, HSo, S5⟩
        case measure => simp [intOf]; omega
      | false =>
        have HI := Lib.hid (insI_sorted (x := y) HSo.out)
        have hil := insI_length L y
        have CI := Lib.hid (specInsert e1 _ L y w5 S5.out.O.sl (by omega) HSo.out)
        generalize insI L y = LI at CI HI hil
        go_wp2_with fail
        refine CI.out.mono ?_
        rintro e w6 ⟨ao6, N6, cap6, rfl, ho6, hb6⟩
        have S6 := Lib.hid (S5.out.below hb6)
        have S7 := Lib.hid (S5.out.ins hb6 ho6 e1)
        clear ho6 hb6 S5
        clear t0 t1 u0 u1 hzT
        obtain ⟨t0, t1, u0, u1⟩ := S6.out.T
        have hzT := S6.out.T.lt
        go_wp2_with fail
        go_roundw
        case rel => exact ⟨i - 1, e1, LI, ao6, N6, cap6, by go_num, by omega, by omega, by omega, HI, S7⟩
        case measure => simp [intOf]; omega
    · have hL9 : L.length ≤ 9 := by omega
      clear hiL hi9' hi00
      obtain ⟨e2, he2⟩ : ∃ e2, e2 = e1 := ⟨_, rfl⟩
      go_wp2_with fail
      clear t0 t1 u0 u1 hzT
      go_loopw [6] (fun sx wr => ∃ (s : Int) (L : List Int) (ao : Option Addr) (N cap : Nat), sx = .int .i64 s ∧ 100 ≤ s ∧ s ≤ 140 ∧ L.length ≤ 40 ∧ Hid (L.Pairwise (· ≤ ·)) ∧ Hid (LS w p v l t w.heap.size wr e1 L ao N cap)) (fun sx _ => (140 - intOf sx).toNat)
      case atStart => exact ⟨100, L, ao, N, cap, rfl, by omega, by omega, by omega, HSo, SR⟩
      case round =>
        clear SR HSo hL9
        obtain ⟨s, L, ao, N, cap, rfl, hs0, hs1, hL40, HSo, SR⟩ := hrel
        obtain ⟨t0, t1, u0, u1⟩ := SR.out.T
        have hzT := SR.out.T.lt
        go_wp2_with fail
        refine (l1Once p v l 4 _ SR.out.C (by omega) (by omega)).mono ?_
        rintro e w4 ⟨bo, rfl, hc4, hg4⟩
        have S4 := Lib.hid (SR.out.step hc4 hg4)
        clear hc4 hg4 SR
        clear t0 t1 u0 u1 hzT
        obtain ⟨t0, t1, u0, u1⟩ := S4.out.T
        have hzT := S4.out.T.lt
        obtain rfl := S4.out.O.len
        by_cases hgo : bo = true ∧ s < 140 ∧ L.length < 40
        · obtain ⟨rfl, hs2, hL2⟩ := hgo
          have hL3 : (L.length : Int) < 40 := by omega
          go_wp2_with fail
          clear t0 t1 u0 u1 hzT
          go_loopw [6] (fun sx wq => ∃ (s' : Int) (L' : List Int) (ao' : Option Addr) (N' cap' : Nat), sx = .int .i64 s' ∧ s ≤ s' ∧ s' ≤ 140 ∧ L'.length ≤ 40 ∧ (s < s' ∨ s' < 140 ∧ L'.length < 40) ∧ Hid (L'.Pairwise (· ≤ ·)) ∧ Hid (LS w p v l t w.heap.size wq e1 L' ao' N' cap')) (fun sx _ => (140 - intOf sx).toNat)
          case atStart => exact ⟨s, L, ao, L.length, cap, rfl, by omega, hs1, hL40, .inr ⟨hs2, hL2⟩, HSo, S4⟩
          case round =>
            clear S4 HSo
            obtain ⟨s', L', ao', N', cap', rfl, hs3, hs4, hL4, hst, HSo, SR⟩ := hrel
            obtain rfl := SR.out.O.len
            obtain ⟨t0, t1, u0, u1⟩ := SR.out.T
            have hzT := SR.out.T.lt
            by_cases hin : s' < 140 ∧ L'.length < 40
            · obtain ⟨hs5, hL5⟩ := hin
              have hL6 : (L'.length : Int) < 40 := by omega
              have hw1 : IntKind.i64.wrap (s' + 1) = s' + 1 := by rw [IntKind.wrap_i64]; omega
              have HI := Lib.hid (insI_sorted (x := s') HSo.out)
              have hil := insI_length L' s'
              have CI := Lib.hid (specInsert e1 _ L' s' _ SR.out.O.sl (by omega) HSo.out)
              generalize insI L' s' = LI at CI HI hil
              go_wp2_with fail
              refine CI.out.mono ?_
              rintro e w6 ⟨ao6, N6, cap6, rfl, ho6, hb6⟩
              have S6 := Lib.hid (SR.out.below hb6)
              have S7 := Lib.hid (SR.out.ins hb6 ho6 e1)
              clear ho6 hb6 SR
              clear t0 t1 u0 u1 hzT
              obtain ⟨t0, t1, u0, u1⟩ := S6.out.T
              have hzT := S6.out.T.lt
              go_wp2_with fail
              go_roundw
              case rel => exact ⟨s' + 1, LI, ao6, N6, cap6, by go_num, by omega, by omega, by omega, by omega, HI, S7⟩
              case measure => simp [intOf]; omega
            · have hcond : ¬ s' < 140 ∨ (s' < 140 ∧ ¬ (L'.length : Int) < 40) := by omega
              have hprog : s < s' := by omega
              rcases hcond with hc1 | ⟨hc1, hc2⟩
              all_goals
                go_wp2_with fail
                go_roundw
                case rel => exact ⟨s', L', ao', L'.length, cap', rfl, by omega, hs4, hL4, HSo, SR⟩
                case measure => simp [intOf]; omega
        · have hcond : bo = false ∨ (bo = true ∧ ¬ s < 140) ∨ (bo = true ∧ s < 140 ∧ ¬ (L.length : Int) < 40) := by
            cases bo with
            | false => exact .inl rfl
            | true =>
              by_cases h1 : s < 140
              · exact .inr (.inr ⟨rfl, h1, fun h2 => hgo ⟨rfl, h1, by omega⟩⟩)
              · exact .inr (.inl ⟨rfl, h1⟩)
          clear hgo
          rcases hcond with rfl | ⟨rfl, hc1⟩ | ⟨rfl, hc1, hc2⟩
          all_goals
            go_wp2_with fail
            refine (l1Below p v l 10 _ S4.out.C (by omega) (by omega)).mono ?_
            rintro e w5 ⟨sw, rfl, hsw0, hsw1, hc5, hg5⟩
            have S5 := Lib.hid (S4.out.step hc5 hg5)
            clear hc5 hg5 t0 t1 u0 u1 hzT
            obtain ⟨t0, t1, u0, u1⟩ := S5.out.T
            have hzT := S5.out.T.lt
            by_cases hsw : sw = 0
            · subst hsw
              go_wp2_with fail
              refine (l1Lit p v l [-1, 1000000000000, 1000000000001] _ _ _ w5 S5.out.C (by simp) (by simp) rfl rfl rfl).mono ?_
              rintro e w6 ⟨e6, rfl, _, hc6, hg6⟩
              have S6 := Lib.hid (S5.out.step hc6 hg6)
              have S7 := Lib.hid (S6.out.setE e6)
              clear hc6 hg6 S5 S4 t0 t1 u0 u1 hzT
              obtain ⟨t0, t1, u0, u1⟩ := S6.out.T
              have hzT := S6.out.T.lt
              obtain ⟨q0, q1, r0, r1⟩ := S6.out.Q
              have hzQ := S6.out.Q.lt
              have htR1 : ¬ t = w.heap.size := by omega
              have htR2 : ¬ w.heap.size = t := by omega
              go_wp2
              refine bodyPost_ret (v := .agg #[.int .i64 e6, .slice ao L.length cap]) (by simp [results, Try.results73, go_sem, *]) rfl ⟨_, L, _, _, _, rfl, ?_, by omega, ?_, ?_⟩
              · refine Own.mono (base := w.heap.size + 1) ?_ (by omega)
                repeat (with_reducible (first | exact S7.out.O | refine Own.cells ?_ (by omega) _))
              · exact (S7.out.C.over (by omega) 0 _).over (by omega) 1 _
              · exact grown_newW (grown_newW S7.out.G (Nat.le_refl _)) (Nat.le_refl _)
            · by_cases hsx : sw = 1
              · subst hsx
                have hnT : some t ≠ ownB ao := by
                  rcases S5.out.NT with e | e
                  · rw [e]; simp
                  · exact fun h => e h.symm
                have HNT := Lib.hid hnT
                have HRO := Lib.hid (show ∀ k, ownB ao = some k → p < k from fun k hk => by
                  rcases S5.out.O.shape with ⟨rfl, _⟩ | ⟨g, rfl, h1, _⟩
                  · simp [ownB] at hk
                  · simp [ownB] at hk; omega)
                have hq1 : L.length + 1 ≤ 1099511627776 := by omega
                clear hnT
                go_wp2_with fail
                go_region_law (first | (refine step_app2 rfl _ _ 22 (by rfl) (w.heap.size + 1) 3 .i64 (.int .i64 0) 8 Try.underlying22 info3 rfl (by omega) ao L.length cap L (by rfl) (S6.out.O.alloc _) (.slice (some ⟨w6.heap.size, 0, none⟩) 1 1) [y] (by rfl) (Sl.litX w6 _ y rfl) hq1 hzb ?_; intro ao7 N7 cap7 w7 hN7 hN7' ho7 hg7 hb7 hob7; have T7 := Lib.hid ((S6.out.T.alloc _).grown hg7 HNT.out); have hzT7 := T7.out.lt; obtain ⟨k0, k1, m0, m1⟩ := T7.out) | (go_simp; go_at_call 98; (refine (l1Lit p v l [-1, 3, 100000, 100001] _ _ _ w5.drew (S5.out.C.below (Below.refl _ _).drew) (by simp) (by simp) rfl rfl rfl).mono ?_); rintro e w6 ⟨y, rfl, _, hc6, hg6⟩; have S6 := Lib.hid (S5.out.step hc6 (grown_trans (below_grown (Below.refl _ _).drew _) hg6)); have hzT6 := S6.out.T.lt; have hzb : w.heap.size + 1 ≤ (w6.alloc (.cells #[.int .i64 y] 3)).heap.size := (by simp; omega); obtain ⟨g0, g1, i0', i1'⟩ := S6.out.T) | fail)
                all_goals
                  have hn7 : ownB ao7 = none ∨ ownB ao7 ≠ some t := by
                    rcases hob7 with e | e
                    · rw [e]; exact S5.out.NT
                    · rw [e]; exact .inr (by simp; omega)
                  have Q7 := (S6.out.Q.alloc (.cells #[.int .i64 y] 3)).keep hb7 (by omega)
                  have C7 := (S6.out.C.alloc (.cells #[.int .i64 y] 3)).grownO hg7 HRO.out
                  have G7 : w.grownBy w7 (some p) := grown_belowB (grown_trans S6.out.G (World.grownBy_alloc _ (.cells #[.int .i64 y] 3) _)) hb7 (by omega)
                  have S8 := Lib.hid (S6.out.ins1 C7 T7.out Q7 G7 ho7 hn7)
                  have htR1 : ¬ t = w.heap.size := by omega
                  have htR2 : ¬ w.heap.size = t := by omega
                  have hzQ7 := Q7.lt
                  clear t0 t1 u0 u1 hzT g0 g1 i0' i1'
                  obtain ⟨q0, q1, r0, r1⟩ := Q7
                  go_wp2
                  refine bodyPost_ret (v := .agg #[.int .i64 e1, .slice ao7 N7 cap7]) (by simp [results, Try.results73, go_sem, *]) rfl ⟨_, L ++ [y], _, _, _, rfl, ?_, by simp; omega, ?_, ?_⟩
                  · refine Own.mono (base := w.heap.size + 1) ?_ (by omega)
                    repeat (with_reducible (first | exact S8.out.O | refine Own.cells ?_ (by omega) _))
                  · exact (S8.out.C.over (by omega) 0 _).over (by omega) 1 _
                  · exact grown_newW (grown_newW S8.out.G (Nat.le_refl _)) (Nat.le_refl _)
              · have hsw' : (sw == 0) = false := beq_eq_false_iff_ne.2 hsw
                have hsx' : (sw == 1) = false := beq_eq_false_iff_ne.2 hsx
                obtain ⟨q0, q1, r0, r1⟩ := S5.out.Q
                have hzQ := S5.out.Q.lt
                go_wp2
                refine bodyPost_ret (v := .agg #[.int .i64 e1, .slice ao L.length cap]) (by simp [results, Try.results73, go_sem, *]) rfl ⟨_, L, _, _, _, rfl, ?_, by omega, ?_, ?_⟩
                · refine Own.mono (base := w.heap.size + 1) ?_ (by omega)
                  repeat (with_reducible (first | exact S5.out.O | refine Own.cells ?_ (by omega) _))
                · exact (S5.out.C.over (by omega) 0 _).over (by omega) 1 _
                · exact grown_newW (grown_newW S5.out.G (Nat.le_refl _)) (Nat.le_refl _)
end Go.Proofs.Ytdodheahckpkfaa
