/- For every code: steps of a ratchet are opened in any order, each once; no condition. -/
import Derived.Test.YtelcpihbdgikfaaRows
import Derived.Test.YtelcpihbdgikfaaRatchetPlain
import Derived.Test.YtelcpihbdgikfaaRatchHelp
import Derived.Test.YtelcpihbdgikfaaCells
import Derived.Test.YtelcpihbdgikfaaRatchRes
import Derived.Deep.CutRange
import Derived.Deep.Light
import Derived.Test.YtelcpihbdgikfaaKeyI
import Derived.Test.YtelcpihbdgikfaaAdv
import Derived.Test.YtelcpihbdgikfaaDraw
import Derived.Test.YtelcpihbdgikfaaSame
import Derived.Test.YtelcpihbdgikfaaOpen
namespace Go.Proofs.Ytelcpihbdgikfaa.fnRatchets
open Go.ChangeShapes Go.WideShapes Go.ChangeAt Go.RowKit Go.Joins
set_option linter.unusedVariables false
theorem start_key {l : List Int} (h : ∀ x ∈ l, 0 ≤ x ∧ x ≤ 255) : IntKind.i64.wrap (atI l 0 * 3) = atI l 0 * 3 ∧ IntKind.i64.wrap (1 + atI l 0 * 3) = 1 + atI l 0 * 3 ∧ keyB (1 + atI l 0 * 3) = true := by
  have := atI_bd h 0
  refine ⟨IntWalk.i64_in _ (by omega), IntWalk.i64_in _ (by omega), ?_⟩
  simp only [keyB, inR, Bool.and_eq_true, decide_eq_true_eq]; omega
theorem Sk.zero {w : World} {v : Value} (h : Sk w v 0 []) (w' : World) : Sk w' v 0 [] := by
  rcases h.2 with h1 | ⟨b, off, cap, rfl, _, h2, _⟩
  · exact ⟨rfl, .inl h1⟩
  · exact ⟨rfl, .inl ⟨rfl, _, cap, rfl, h2, fun e => by cases e⟩⟩
/-- the first loop: k steps are sealed -/
def Rel1 (x : Int) (w : World) (A E k : Nat) (v5 : Value) (wr : World) : Prop :=
  ∃ ao cap v3, v5 = .slice ao k cap ∧ Cells (cellN x) (E + 1) wr ao k cap ∧ Box3 wr A (.int .i64 (chainN x k)) (.int .i64 k) v3 ∧ Sk wr v3 0 [] ∧ Box3 wr E (.int .i64 x) (.int .i64 0) (.slice none 0 0) ∧ Below w.heap.size w wr
theorem slByte (w : World) (k : Nat) : Sl .u8 (w.alloc (.cells #[.int .u8 k] 5)) (.slice (some ⟨w.heap.size, 0, none⟩) 1 1) [(k : Int)] := Sl.lit .u8 w 5 [(k : Int)] (by simp [maxLen])
theorem sealS {x : Int} (hx : keyB x = true) {k : Nat} (hk : k < 8) (v3 u : Value) (W : World) (h : Sk W v3 0 []) (hu : Sl .u8 W u [(k : Int)]) :
    Calls Try.prog 26 #[.agg #[.int .i64 (chainN x k), .int .i64 k, v3], u] W (SealPost ((chainN x (k + 1), (k : Int) + 1), (k : Int), cellN x k, true) 0 [] W) := by
  have := implSealStep (chainN x k) k v3 0 [] u [(k : Int)] W h (by omega) hu (one_bytes hk)
  rw [seal_step hx hk] at this
  exact this
/-- the second loop: the steps of 'seen' are opened -/
def Rel2 (x : Int) (w W8 : World) (E i : Nat) (v11 : Value) (wr : World) : Prop :=
  ∃ m q seen ao cap ak ck, v11 = .slice ao seen.length cap ∧ Own .i64 3 W8.heap.size wr ao seen.length cap (seen.map (fun j : Nat => (j : Int))) ∧ RInv m q seen ∧ (∀ j ∈ seen, j < 8) ∧ seen.length ≤ i ∧
    Box3 wr E (.int .i64 (chainN x m)) (.int .i64 m) (.slice ak q.length ck) ∧ OwnK (E + 1) wr ak q.length ck (keptL x q) ∧ W8.grownBy wr (some E) ∧ Below w.heap.size w wr
theorem set3_grown (W : World) (A : Nat) (u0 u1 u2 : Value) : W.grownBy (((W.setCell ⟨A, 0, none⟩ u0).setCell ⟨A, 1, none⟩ u1).setCell ⟨A, 2, none⟩ u2) (some A) := by
  have one : ∀ (W : World) (o : Nat) (u : Value), W.grownBy (W.setCell ⟨A, o, none⟩ u) (some A) := fun W o u => ⟨rfl, rfl, rfl, by simp [World.setCell], fun i _ hne => Below.heap_setCell _ _ _ _ (fun e => hne (by rw [e]))⟩
  have tr : ∀ {W1 W2 W3 : World}, W1.grownBy W2 (some A) → W2.grownBy W3 (some A) → W1.grownBy W3 (some A) := fun h1 h2 => ⟨h2.os.trans h1.os, h2.tape.trans h1.tape, h2.output.trans h1.output, Nat.le_trans h1.size h2.size, fun i hi hne => (h2.block i (Nat.lt_of_lt_of_le hi h1.size) hne).trans (h1.block i hi hne)⟩
  exact tr (tr (one _ _ _) (one _ _ _)) (one _ _ _)
theorem Box3.set3 {W : World} {A : Nat} {v0 v1 v2 : Value} (h : Box3 W A v0 v1 v2) (u0 u1 u2 : Value) : Box3 (((W.setCell ⟨A, 0, none⟩ u0).setCell ⟨A, 1, none⟩ u1).setCell ⟨A, 2, none⟩ u2) A u0 u1 u2 := by
  obtain ⟨h0, h1, h2, f0, f1, f2⟩ := h
  refine ⟨?_, ?_, ?_, ?_, ?_, ?_⟩ <;> simp [go_sem, *]
theorem bel1 {p0 e : Prop} (h : p0 ∧ e) : e := h.2
theorem keep1 {W W' : World} {a0 : Addr} {u0 : Value} (hb : Below W.heap.size W W') (h0 : W.cell? a0 = some u0) : W'.cell? a0 = some u0 ∧ Below W.heap.size W W' := ⟨(hb.cell (World.block_lt_of_cell? W a0 h0)).trans h0, hb⟩
theorem rel2_next {x : Int} {w W8 wC : World} {E i m' : Nat} {q' seen' : List Nat} {an : Option Addr} {n cn : Nat} {ax : Option Addr} {N cx : Nat} {u0 u1 u2 : Value} {y' : Int} (hlen : n = seen'.length) (hO : Own .i64 3 W8.heap.size wC an n cn (seen'.map (fun j : Nat => (j : Int)))) (hI : RInv m' q' seen') (h8 : ∀ j ∈ seen', j < 8) (hi : seen'.length ≤ i) (hN : N = q'.length) (hK : OwnK (E + 1) wC ax N cx (keptL x q')) (hX : Box3 wC E u0 u1 u2) (hG : W8.grownBy wC (some E)) (hB : Below w.heap.size w wC) (hE8 : E < W8.heap.size) (hwE : w.heap.size ≤ E) (hy : chainN x m' = y') :
    Rel2 x w W8 E i (.slice an n cn) (((wC.setCell ⟨E, 0, none⟩ (.int .i64 y')).setCell ⟨E, 1, none⟩ (.int .i64 m')).setCell ⟨E, 2, none⟩ (.slice ax N cx)) := by
  subst hlen hN hy
  exact ⟨m', q', seen', an, cn, ax, cx, rfl, hO.set3 hE8 _ _ _, hI, h8, hi, Box3.set3 hX _ _ _, hK.set3 (Nat.lt_succ_self _) _ _ _, grown_trans hG (set3_grown _ _ _ _ _), ((hB.setCell hwE _).setCell hwE _).setCell hwE _⟩
theorem grown_belowC {w W w7 : World} {row : Option Nat} {B : Nat} (h : w.grownBy W row) (hb : Below B W w7) (hB : w.heap.size ≤ B) : w.grownBy w7 row := ⟨hb.os.trans h.os, hb.tape.trans h.tape, hb.output.trans h.output, Nat.le_trans h.size hb.size, fun i hi hne => (hb.block i (by omega)).trans (h.block i hi hne)⟩
set_option maxRecDepth 100000 in
set_option maxHeartbeats 4000000 in
theorem walk (v : Value) (l : List Int) (w : World) (hs : Sl .u8 w v l) (hby : ∀ x ∈ l, (Lit.int .u8 x).wf = true) : Calls Try.prog 12 #[v] w fun e w' => e = .returned (.bool true) ∧ Below w.heap.size w w' := by
  obtain ⟨a, c, rfl, hm⟩ := hs.shape
  have HS := Lib.hid hs
  have HB : Hid (∀ x ∈ l, 0 ≤ x ∧ x ≤ 255) := Lib.hid (bytes_of_wf hby)
  clear hs hby
  by_cases hbig : (1048576 : Int) < (l.length : Int)
  · go_enter Try.func12, Try.ntmps12
    go_wp2_with (first | (go_at_call 45; (refine (lawsBig _ l _ HS.out).mono ?_); rintro e w0 ⟨rfl, rfl⟩))
    go_ret
    exact ⟨rfl, Below.refl _ _⟩
  · have hl : l.length ≤ 1048576 := by omega
    obtain ⟨k1, k2, k3⟩ := start_key HB.out
    have CA := Lib.hid (fun W (h : Sl .u8 W (.slice a l.length c) l) => lawsAtV _ l 0 W h hl (by omega) HB.out)
    have hr := atI_bd HB.out 0
    generalize atI l 0 = rd at k1 k2 k3 CA hr
    obtain ⟨hr0, hr1⟩ := hr
    have CN := Lib.hid (fun W => implNewRatchet k3 W)
    have K3 := Lib.hid k3
    clear k3 k1 k2
    go_enter Try.func12, Try.ntmps12
    go_wp2_with (first | (go_at_call 45; (refine (lawsBig _ l _ HS.out).mono ?_); rintro e w0 ⟨rfl, rfl⟩))
    refine (CA.out _ HS.out).mono ?_
    rintro e w0 ⟨rfl, rfl⟩
    go_wp2_with fail
    refine (CN.out _).mono ?_
    rintro e w1 ⟨rfl, hb1⟩
    have B1 := Lib.hid (bel_al hb1 (.cells #[.int .i64 (1 + rd * 3), .int .i64 0, .slice none 0 0] 28))
    have hb1s := hb1.size
    have X1 := Lib.hid (Box3.new w1 (.int .i64 (1 + rd * 3)) (.int .i64 0) (.slice none 0 0) 28)
    clear hb1
    go_wp2_with fail
    generalize w1.alloc (.cells #[.int .i64 (1 + rd * 3), .int .i64 0, .slice none 0 0] 28) = W1 at B1 X1 ⊢
    have hwA := B1.out.size
    have hwA' := hb1s
    generalize hA : w1.heap.size = A at X1 hwA' ⊢
    clear hA hwA
    have hs1 := HS.out.below B1.out
    refine (CA.out _ hs1).mono ?_
    rintro e w0 ⟨rfl, rfl⟩
    go_wp2_with fail
    refine (CN.out _).mono ?_
    rintro e w2 ⟨rfl, hb2⟩
    have B2 := Lib.hid (bel_al (bel_seq B1.out hb2) (.cells #[.int .i64 (1 + rd * 3), .int .i64 0, .slice none 0 0] 28))
    have Y2 := Lib.hid (Box3.new w2 (.int .i64 (1 + rd * 3)) (.int .i64 0) (.slice none 0 0) 28)
    have X2 := Lib.hid ((X1.out.below hb2).alloc (.cells #[.int .i64 (1 + rd * 3), .int .i64 0, .slice none 0 0] 28))
    have hAE := (X1.out.below hb2).lt
    clear hb2 X1 B1 hs1 CA CN
    go_wp2_with fail
    have hsz : (w2.alloc (.cells #[.int .i64 (1 + rd * 3), .int .i64 0, .slice none 0 0] 28)).heap.size = w2.heap.size + 1 := by simp
    generalize w2.alloc (.cells #[.int .i64 (1 + rd * 3), .int .i64 0, .slice none 0 0] 28) = W2 at B2 Y2 X2 hsz ⊢
    generalize w2.heap.size = E at Y2 hsz hAE ⊢
    generalize 1 + rd * 3 = x at *
    have R0 : Hid (Rel1 x w A E 0 (.slice (some ⟨E + 1, 0, none⟩) 0 0) (W2.alloc (.cells #[] 37))) := Lib.hid ⟨_, _, _, rfl, Cells.lit0 _ _ W2 _ (by omega) (by omega), X2.out.alloc _, Sk.nil _, Y2.out.alloc _, bel_al B2.out _⟩
    clear X2 Y2 B2
    go_loopw [5, 6] (fun cv ix wr => ∃ k : Nat, k ≤ 8 ∧ ix = .int .i64 k ∧ Hid (Rel1 x w A E k cv wr)) (fun _ ix _ => 8 - (intOf ix).toNat)
    case atStart => exact ⟨0, by omega, rfl, R0⟩
    case round =>
      clear R0
      obtain ⟨k, hk, rfl, hR⟩ := hrel
      obtain ⟨ao, cap, v3, rfl, hC, hX, hk0, hY, hBw⟩ := hR.out
      have HC := Lib.hid hC
      have HX := Lib.hid hX
      obtain ⟨p0, p1, p2, f0, f1, f2⟩ := HX.out
      have HK := Lib.hid hk0
      have HY := Lib.hid hY
      have BR := Lib.hid hBw
      have hzr := HY.out.lt
      clear hC hX hk0 hY hBw hR
      by_cases hlt : k < 8
      · go_light
        have hlt2 : (k : Int) < 8 := by omega
        have hw8 : IntKind.u8.wrap (k : Int) = k := by rw [IntKind.wrap_u8]; omega
        have CS := Lib.hid (fun u W (hu : Sl .u8 W u [(k : Int)]) => sealS K3.out hlt v3 u W (Sk.zero HK.out W) hu)
        generalize hy : chainN x k = y at p0 HX CS
        generalize hy' : chainN x (k + 1) = y' at CS
        obtain ⟨a3, c3, rfl, _⟩ := HK.out.shape
        have S1 := Lib.hid (slByte wr k)
        have B1 := Lib.hid (bel_al (Below.refl wr.heap.size wr) (.cells #[.int .u8 k] 5))
        go_wp2_with fail
        refine (CS.out _ _ S1.out).mono ?_
        rintro e w3 ⟨a4, c4, bo, M, c5, rfl, hok, hob, hap, hb3⟩
        have hb13 := bel_seq B1.out hb3
        have hz3 := hb13.size
        have C3 := (HC.out.below hb13).alloc (.cells #[.int .i64 y', .int .i64 ((k : Int) + 1), .slice a4 0 c4] 28)
        have X3 := (HX.out.below hb13).alloc (.cells #[.int .i64 y', .int .i64 ((k : Int) + 1), .slice a4 0 c4] 28)
        have Y3 := (HY.out.below hb13).alloc (.cells #[.int .i64 y', .int .i64 ((k : Int) + 1), .slice a4 0 c4] 28)
        have D3 := Box3.new w3 (.int .i64 y') (.int .i64 ((k : Int) + 1)) (.slice a4 0 c4) 28
        have O3 := (hob.mono (base' := E + 1) (by simp; omega)).alloc (.cells #[.int .i64 y', .int .i64 ((k : Int) + 1), .slice a4 0 c4] 28)
        have K4 := Lib.hid (hok.sl)
        have BW := bel_al (bel_seq BR.out hb13) (.cells #[.int .i64 y', .int .i64 ((k : Int) + 1), .slice a4 0 c4] 28)
        have C5 := Lib.hid (C3.alloc (.cells #[.slice bo M c5] 37))
        have X5 := Lib.hid (X3.alloc (.cells #[.slice bo M c5] 37))
        have Y5 := Lib.hid (Y3.alloc (.cells #[.slice bo M c5] 37))
        have D5 := Lib.hid (D3.alloc (.cells #[.slice bo M c5] 37))
        have O5 := Lib.hid (O3.alloc (.cells #[.slice bo M c5] 37))
        have B5 := Lib.hid (bel_al BW (.cells #[.slice bo M c5] 37))
        have hc5 := Lib.hid (show ((w3.alloc (.cells #[.int .i64 y', .int .i64 ((k : Int) + 1), .slice a4 0 c4] 28)).alloc (.cells #[.slice bo M c5] 37)).cell? ⟨w3.heap.size + 1, 0, none⟩ = some (.slice bo M c5) by simp)
        have hz5 : E + 1 ≤ ((w3.alloc (.cells #[.int .i64 y', .int .i64 ((k : Int) + 1), .slice a4 0 c4] 28)).alloc (.cells #[.slice bo M c5] 37)).heap.size := by simp; omega
        have hsh := HC.out.shape
        have hnD : some w3.heap.size ≠ ownB ao := by
          rcases hsh with ⟨rfl, _⟩ | ⟨g, rfl, hg, hg', _⟩
          · simp [ownB]
          · simp only [ownB, Option.map_some, ne_eq, Option.some.injEq]; omega
        have hzD : E < w3.heap.size := by omega
        obtain ⟨d0, d1, d2, _, _, _⟩ := D3
        clear p0 p1 p2 f0 f1 f2 hsh C3 X3 Y3 O3 BW hob hok hb3 hb13 HC HX HY BR S1 B1 CS
        have hkk : ((k : Int) != (k : Int)) = false := by simp
        have hk1 : ((k : Int) + 1 != (k : Int) + 1) = false := by simp
        have hsz3 : w.heap.size ≤ ((w3.alloc (.cells #[.int .i64 y', .int .i64 ((k : Int) + 1), .slice a4 0 c4] 28)).alloc (.cells #[.slice bo M c5] 37)).heap.size := B5.out.size
        go_wp2_with (at_builtin; refine wpList_appC rfl _ _ rfl (cellN x) (E + 1) _ _ _ rfl C5.out _ _ rfl _ _ _ hc5.out O5.out (by omega) hz5 ?_; intro ao' cap' w6 hC6 hg6 hb6; obtain ⟨p0, p1, p2, f0, f1, f2⟩ := X5.out.keep hb6 (by omega); obtain ⟨d0', d1', d2', _, _, _⟩ := D5.out.grown hg6 hnD; clear d0 d1 d2)
        have X6 : Box3 w6 A _ _ _ := ⟨p0, p1, p2, f0, f1, f2⟩
        have Y6 := Y5.out.keep hb6 (by omega)
        have hg3 := set3_grown w6 A (.int .i64 y') (.int .i64 ((k : Int) + 1)) (.slice a4 0 c4)
        have B6 := B5.out.trans (hb6.mono (show w.heap.size ≤ E + 1 by omega))
        go_roundw
        case rel => exact ⟨k + 1, by omega, by go_num, Lib.hid ⟨ao', cap', .slice a4 0 c4, rfl, hC6.grown hg3 (fun g hg e => by simp at e; omega), by rw [hy']; exact Box3.set3 X6 _ _ _, Sk.zero K4.out _, Y6.grown hg3 (by simp; omega), ((B6.setCell hwA' _).setCell hwA' _).setCell hwA' _⟩⟩
        case measure => simp [intOf]; omega
      · obtain rfl : k = 8 := by omega
        have hlt3 : ¬ ((8 : Nat) : Int) < 8 := by omega
        clear hlt p0 p1 p2 f0 f1 f2
        go_wp2_with fail
        have R0 : Hid (Rel2 x w wr E 0 (.slice (some ⟨wr.heap.size, 0, none⟩) 0 0) (wr.alloc (.cells #[] 3))) := by
          refine Lib.hid ⟨0, [], [], some ⟨wr.heap.size, 0, none⟩, 0, none, 0, rfl, ?_, RInv.zero, by simp, by simp, HY.out.alloc _, OwnK.nil _ _, World.grownBy_alloc _ _ _, bel_al BR.out _⟩
          exact Own.litZ .i64 3 _ wr _ (Nat.le_refl _) rfl
        generalize wr = W8 at *
        go_loopw [11, 12] (fun sv ix wr => ∃ i : Nat, i ≤ 20 ∧ ix = .int .i64 i ∧ Hid (Rel2 x w W8 E i sv wr)) (fun _ ix _ => 20 - (intOf ix).toNat)
        case atStart => exact ⟨0, by omega, rfl, R0⟩
        case round =>
          clear R0
          obtain ⟨i, hi, rfl, hR⟩ := hrel
          obtain ⟨m, q, seen, an, cn, ak, ck, rfl, hS, hI, hs8, hsl, hY2, hK2, hG, hB⟩ := hR.out
          have H1 := Lib.hid hS
          have H2 := Lib.hid hI
          have H3 := Lib.hid hs8
          have H4 := Lib.hid hY2
          have H5 := Lib.hid hK2
          have H6 := Lib.hid hG
          have H7 := Lib.hid hB
          have hS1 := HS.out.below hB
          clear hS hI hs8 hY2 hK2 hG hB hR
          by_cases hlt : i < 20
          · go_light
            have hlt2 : (i : Int) < 20 := by omega
            have hb := atI_bd HB.out (i + 1)
            have CA := Lib.hid (lawsAtV _ l (i + 1) wr hS1 hl (by omega) HB.out)
            obtain ⟨t, ht⟩ : ∃ t : Nat, atI l (i + 1) = t := ⟨(atI l (i + 1)).toNat, by omega⟩
            rw [ht] at CA hb
            have ht2 : t ≤ 255 := by omega
            obtain ⟨k, hk⟩ : ∃ k : Nat, t % 8 = k := ⟨_, rfl⟩
            have hk8 : k < 8 := by omega
            have htm : (t : Int).tmod 8 = k := by rw [Int.tmod_eq_emod_of_nonneg (by omega)]; omega
            clear ht hb hS1
            have HC1 := HC.out.grown H6.out (fun g hg e => by simp at e; omega)
            obtain ⟨g, bo, M, c1, rfl, hgE, hgz, hck, hcO⟩ := HC1.at hk8
            obtain ⟨m', q', seen', body, b, hI', hst, hcase⟩ := H2.out.open_any K3.out hk8
            have hql := H2.out.len
            have hm8 := H2.out.m8
            have CO0 := fun (u : Value) (W : World) (hq : Sk W (.slice ak q.length ck) q.length (keptL x q)) (hu : Sl .u8 W u (cellN x k)) => implOpenStep (chainN x m) m (.slice ak q.length ck) q.length (keptL x q) k u (cellN x k) W hq (by omega) hu (cellN_bytes x k)
            rw [hst] at CO0
            have U5 := Lib.hid hcO.sl
            have K5 := Lib.hid H5.out.sl
            have CO := Lib.hid (fun W h1 h2 => CO0 (.slice bo M c1) W h1 h2)
            clear CO0
            have hzg := hgz
            obtain ⟨p0, p1, p2, f0, f1, f2⟩ := H4.out
            obtain ⟨y, hy⟩ : ∃ y, chainN x m = y := ⟨_, rfl⟩
            obtain ⟨y', hy'⟩ : ∃ y, chainN x m' = y := ⟨_, rfl⟩
            obtain ⟨n, hn⟩ : ∃ n, q.length = n := ⟨_, rfl⟩
            rw [hy] at p0 CO
            rw [hy'] at CO
            rw [hn] at p2 CO K5
            have HY1 := Lib.hid hy
            have HY2 := Lib.hid hy'
            have HN := Lib.hid hn
            have HI := Lib.hid hI'
            have HCA := Lib.hid hcase
            have hk8i : (k : Int) < 8 := by omega
            have hzE := H4.out.lt
            clear hy hy' hn hI' hcase hst HC1 hcO hm8
            go_wp2_with fail
            refine CA.out.mono ?_
            rintro e w0 ⟨rfl, rfl⟩
            go_wp2_with fail
            go_cut [14, 15, 16] from 78 to 87 (fun sp bv ov wx => ov = .bool b ∧ ResO wr wx y' m' (keptL x q') body sp bv)
            case first =>
              go_region_held3 (fun W' => W'.cell? ⟨E, 0, none⟩ = some (.int .i64 y) ∧ W'.cell? ⟨E, 1, none⟩ = some (.int .i64 m) ∧ W'.cell? ⟨E, 2, none⟩ = some (.slice ak n ck) ∧ W'.cell? ⟨g, k, none⟩ = some (.slice bo M c1) ∧ Below wr.heap.size wr W') (first | assumption | exact keep4 h1C p0 p1 p2 hck | exact keep4 (bel_al h1C _) p0 p1 p2 hck | exact keep4 (bel_al h1C _).drew p0 p1 p2 hck | exact keep4 (Below.refl _ _).drew p0 p1 p2 hck | exact keep4 (bel_al (Below.refl _ _).drew _) p0 p1 p2 hck | exact keep4 (bel_al (Below.refl _ _).drew _).drew p0 p1 p2 hck | exact keep4 (Below.refl _ _) p0 p1 p2 hck | exact keep4 (bel_al (Below.refl _ _) _) p0 p1 p2 hck | exact keep4 (bel_al (Below.refl _ _) _).drew p0 p1 p2 hck | exact keep4 (((h1C.setCell (by first | exact Nat.le_refl _ | omega) _).setCell (by first | exact Nat.le_refl _ | omega) _).setCell (by first | exact Nat.le_refl _ | omega) _) p0 p1 p2 hck) (first | (go_at_call 31; (refine (CO.out _ (K5.out.below (bel4 ‹_›)) (U5.out.below (bel4 ‹_›))).mono ?_); rintro e wC ⟨ao', N', cap', bo', M', c2', rfl, hokC, hobC, hapC, hbC⟩; have h1C : Below wr.heap.size wr wC := bel_seq (bel4 ‹_›) hbC; (first | have TD := (Box3.new wr (.int .i64 0) (.int .i64 0) (.slice none 0 0) 28).below hbC | have TD := (Box3.newD wr (.int .i64 0) (.int .i64 0) (.slice none 0 0) 28).below hbC | skip); (first | (have hzq := TD.lt; obtain ⟨tq0, tq1, tq2, tr0, tr1, tr2⟩ := TD) | skip)) | fail)
              all_goals
                go_wp2_with fail
                go_meet
                case rel =>
                  refine ⟨rfl, ?_⟩
                  first
                  | exact resO_alloc h1C (by first | exact Nat.le_refl _ | omega | (simp; done) | (simp; omega)) hokC hobC rfl
                  | exact resO_set h1C (by first | exact Nat.le_refl _ | omega | (simp; done) | (simp; omega)) hokC hobC (by first | exact Nat.le_refl _ | omega | (simp; done) | (simp; omega)) (by first | exact Nat.le_refl _ | omega | (simp; done) | (simp; omega)) ⟨tq0, tq1, tq2, tr0, tr1, tr2⟩ rfl
            case rest =>
              obtain ⟨wz, rfl⟩ : ∃ q, q = wc := ⟨wc, rfl⟩
              obtain ⟨rfl, B, ax, N, cx, bb, Mb, cb, rfl, rfl, hXB, hXK, hXO, hBz, hbz⟩ := hcut
              have hNq : N = q'.length := by have h1 := hXK.1; rw [keptL_length] at h1; omega
              have HNQ := Lib.hid hNq
              have hv : validRatchetI y' m' N (keptL x q') = true := by rw [hNq, ← HY2.out]; exact HI.out.valid K3.out
              have CV := Lib.hid (fun W (h : Sk W (.slice ax N cx) N (keptL x q')) => by have := implIsValidRatchet y' m' (.slice ax N cx) N (keptL x q') W h; rw [hv] at this; exact this)
              have XB := Lib.hid hXB
              have XK := Lib.hid hXK
              have XO := Lib.hid hXO
              have Z1 := Lib.hid (H1.out.below hbz)
              have Z4 := Lib.hid (H4.out.below hbz)
              have ZK := Lib.hid (H5.out.below hbz)
              have Z6 := Lib.hid (grown_trans H6.out (below_grown hbz _))
              have Z7 := Lib.hid (bel_seq H7.out hbz)
              have hzz := hbz.size
              have NA : Hid (ownB ax = none ∨ ownB ax ≠ ownB an) := Lib.hid (by
                rcases hXK.shape with ⟨rfl, _⟩ | ⟨gx, rfl, hgx, _⟩
                · exact .inl rfl
                · rcases H1.out.shape with ⟨rfl, _⟩ | ⟨gn, rfl, _, hgn⟩
                  · exact .inr (by simp [ownB])
                  · exact .inr (by simp [ownB]; omega))
              have NB : Hid (some B ≠ ownB an) := Lib.hid (by
                rcases H1.out.shape with ⟨rfl, _⟩ | ⟨gn, rfl, _, hgn⟩
                · simp [ownB]
                · simp [ownB]; omega)
              have hE8 := HY.out.lt
              have hzEr := H4.out.lt
              clear hbz hXB hXK hXO hv hNq CO CA U5 K5 p0 p1 p2 f0 f1 f2 hck H4 H5 H6 H7 hzg
              rcases HCA.out with ⟨rfl, hks, rfl, rfl⟩ | ⟨rfl, hks, rfl, rfl, rfl⟩
              · have hd : decide ((k : Int) ∈ seen.map (fun j : Nat => (j : Int))) = false := by rw [mem_cast]; exact decide_eq_false hks
                have CK := Lib.hid (fun W (h : Sl .i64 W (.slice an seen.length cn) (seen.map (fun j : Nat => (j : Int)))) => by have := lawsContains _ _ (k : Int) W h; rw [hd] at this; exact this)
                have hw8 : IntKind.u8.wrap (k : Int) = k := by rw [IntKind.wrap_u8]; omega
                have hks' := Lib.hid hks
                clear hd hks HCA ZK
                go_wp2_with fail
                refine (CK.out _ Z1.out.sl).mono ?_
                rintro e w0 ⟨rfl, rfl⟩
                have SB := Lib.hid (slByte wz k)
                go_wp2_with fail
                refine (sameBytes_yes _ _ _ _ (XO.out.sl.alloc _) SB.out).mono ?_
                rintro e wA ⟨rfl, hbA⟩
                have XBA := Lib.hid ((XB.out.alloc (.cells #[.int .u8 k] 5)).below hbA)
                have XKA := Lib.hid ((XK.out.alloc (.cells #[.int .u8 k] 5)).below hbA)
                have ZA1 := Lib.hid ((Z1.out.alloc (.cells #[.int .u8 k] 5)).below hbA)
                have ZA4 := Lib.hid ((Z4.out.alloc (.cells #[.int .u8 k] 5)).below hbA)
                have ZA6 := Lib.hid (grown_trans Z6.out (below_grown (bel_seq (bel_al (Below.refl _ _) (.cells #[.int .u8 k] 5)) hbA) _))
                have ZA7 := Lib.hid (bel_seq (bel_al Z7.out (.cells #[.int .u8 k] 5)) hbA)
                have hzA := (bel_seq (bel_al (Below.refl wz.heap.size wz) (.cells #[.int .u8 k] 5)) hbA).size
                obtain ⟨b0, b1, b2, _, _, _⟩ := XBA.out
                clear hbA SB XB XK XO Z1 Z4 Z6 Z7
                go_wp2_with fail
                refine (CV.out _ XKA.out.sl).mono ?_
                rintro e wB ⟨rfl, hbB⟩
                have XBB := Lib.hid ((XBA.out.below hbB).alloc (.cells #[.int .i64 k] 3))
                have XKB := Lib.hid ((XKA.out.below hbB).alloc (.cells #[.int .i64 k] 3))
                have ZB1 := Lib.hid ((ZA1.out.below hbB).alloc (.cells #[.int .i64 k] 3))
                have ZB4 := Lib.hid ((ZA4.out.below hbB).alloc (.cells #[.int .i64 k] 3))
                have ZB6 := Lib.hid (grown_trans ZA6.out (below_grown (bel_al hbB (.cells #[.int .i64 k] 3)) _))
                have ZB7 := Lib.hid (bel_al (bel_seq ZA7.out hbB) (.cells #[.int .i64 k] 3))
                have SKL := Lib.hid (Sl.lit .i64 wB 3 [(k : Int)] (by simp [maxLen]))
                have hl1 : seen.length + [(k : Int)].length ≤ 1099511627776 := by simp only [List.length_cons, List.length_nil]; omega
                have hz1 : W8.heap.size ≤ (wB.alloc (.cells #[.int .i64 k] 3)).heap.size := ZB6.out.size
                clear hbB b0 b1 b2 XBA XKA ZA1 ZA4 ZA6 ZA7 CV CK
                go_wp2_with (at_builtin; refine wpList_app rfl _ _ _ rfl W8.heap.size 3 .i64 (.int .i64 0) 8 Try.underlying62 info3 rfl (by omega) _ _ _ _ rfl ZB1.out _ [(k : Int)] rfl SKL.out hl1 hz1 ?_; intro an2 n2 cn2 wC hN1 hN2 hownC hgC hbC; obtain ⟨b0, b1, b2, _, _, _⟩ := XBB.out.grown hgC NB.out; obtain ⟨e0, e1, e2, e3, e4, e5⟩ := ZB4.out.keep hbC hE8)
                have O1 := Lib.hid hownC
                have O2 := Lib.hid ((XKB.out.grown hgC NA.out).mono (show E + 1 ≤ wr.heap.size by omega))
                have G2 := Lib.hid (grown_belowC ZB6.out hbC (Nat.le_refl _))
                have BW := Lib.hid (ZB7.out.trans (hbC.mono (show w.heap.size ≤ W8.heap.size by omega)))
                have E2 := Lib.hid (ZB4.out.keep hbC hE8)
                clear hownC hgC hbC
                go_roundw
                case rel => exact ⟨i + 1, by omega, by go_num, Lib.hid (rel2_next (seen' := seen ++ [k]) (by simp only [List.length_append, List.length_cons, List.length_nil] at hN1 hN2 ⊢; omega) (by rw [List.map_append]; exact O1.out) HI.out (fun j hj => by rcases List.mem_append.1 hj with h | h; exact H3.out j h; rw [List.mem_singleton] at h; omega) (by simp only [List.length_append, List.length_cons, List.length_nil]; omega) HNQ.out O2.out E2.out G2.out BW.out hE8 (by omega) HY2.out)⟩
                case measure => simp [intOf]; omega
              · obtain rfl : y = y' := HY1.out.symm.trans HY2.out
                have hd : decide ((k : Int) ∈ seen.map (fun j : Nat => (j : Int))) = true := by rw [mem_cast]; exact decide_eq_true hks
                have CK := Lib.hid (fun W (h : Sl .i64 W (.slice an seen.length cn) (seen.map (fun j : Nat => (j : Int)))) => by have := lawsContains _ _ (k : Int) W h; rw [hd] at this; exact this)
                have hNn : N = n := HNQ.out.trans HN.out
                have CE := Lib.hid (fun W (h1 : Sk W (.slice ax N cx) N (keptL x q)) (h2 : Sk W (.slice ak n ck) n (keptL x q)) => by
                  have := implEqualRatchets y m y m (.slice ax N cx) (.slice ak n ck) N n (keptL x q) (keptL x q) W h1 h2
                  rw [show (y == y && (m : Int) == m && keptL x q == keptL x q) = true by simp] at this
                  exact this)
                have HK0 := Lib.hid (show OwnK (E + 1) wz ak n ck (keptL x q) by have := ZK.out; rw [HN.out] at this; exact this)
                clear hd hks HCA hNn ZK
                obtain ⟨b0, b1, b2, _, _, _⟩ := XB.out
                go_wp2_with fail
                refine (CK.out _ Z1.out.sl).mono ?_
                rintro e w0 ⟨rfl, rfl⟩
                go_wp2_with fail
                refine (CV.out _ XK.out.sl).mono ?_
                rintro e wB ⟨rfl, hbB⟩
                have XBB := Lib.hid (XB.out.below hbB)
                have XKB := Lib.hid (XK.out.below hbB)
                have ZB1 := Lib.hid (Z1.out.below hbB)
                have ZB4 := Lib.hid (show Box3 wB E (.int .i64 y) (.int .i64 m) (.slice ak n ck) by have := Z4.out.below hbB; rw [HN.out, HY1.out] at this; exact this)
                have ZB6 := Lib.hid (grown_trans Z6.out (below_grown hbB _))
                have ZB7 := Lib.hid (bel_seq Z7.out hbB)
                have HKB := Lib.hid (HK0.out.below hbB)
                clear hbB b0 b1 b2 XB XK XO Z1 Z4 Z6 Z7 HK0 CK CV
                obtain ⟨b0, b1, b2, _, _, _⟩ := XBB.out
                obtain ⟨e0, e1, e2, e3, e4, e5⟩ := ZB4.out
                go_wp2_with fail
                refine (CE.out _ XKB.out.sl HKB.out.sl).mono ?_
                rintro e wC ⟨rfl, hbC⟩
                have XBC := Lib.hid (XBB.out.below hbC)
                have O1 := Lib.hid (ZB1.out.below hbC)
                have O2 := Lib.hid ((XKB.out.below hbC).mono (show E + 1 ≤ wr.heap.size by omega))
                have E2 := Lib.hid (ZB4.out.below hbC)
                have G2 := Lib.hid (grown_trans ZB6.out (below_grown hbC _))
                have BW := Lib.hid (bel_seq ZB7.out hbC)
                clear hbC b0 b1 b2 e0 e1 e2 e3 e4 e5 XBB XKB ZB1 ZB4 ZB6 ZB7 HKB CE
                obtain ⟨b0, b1, b2, _, _, _⟩ := XBC.out
                obtain ⟨e0, e1, e2, e3, e4, e5⟩ := E2.out
                go_wp2_with fail
                go_roundw
                case rel => exact ⟨i + 1, by omega, by go_num, Lib.hid (rel2_next (seen' := seen) rfl O1.out HI.out H3.out (by omega) HNQ.out O2.out E2.out G2.out BW.out hE8 (by omega) HY1.out)⟩
                case measure => simp [intOf]; omega
          · obtain rfl : i = 20 := by omega
            have hlt3 : ¬ ((20 : Nat) : Int) < 20 := by omega
            have X8 := Lib.hid (HX.out.grown H6.out (by simp; omega))
            obtain ⟨y, hy⟩ : ∃ y, chainN x m = y := ⟨_, rfl⟩
            obtain ⟨n, hn⟩ : ∃ n, q.length = n := ⟨_, rfl⟩
            obtain ⟨L, hL⟩ : ∃ L, keptL x q = L := ⟨_, rfl⟩
            have hql := H2.out.len
            have hm8 := H2.out.m8
            have hn8 : n ≤ 8 := by omega
            have CK0 : Hid (∀ z : Int, z ∈ seen.map (fun j : Nat => (j : Int)) → ∀ W, Sk W (.slice ak n ck) n L → Calls Try.prog 23 #[.agg #[.int .i64 y, .int .i64 m, .slice ak n ck], .int .i64 z] W (KeyPost ((y, (m : Int)), L, 0, false) W)) := Lib.hid (fun z hz W h => by
              obtain ⟨k, hk, rfl⟩ := List.mem_map.1 hz
              have h1 := implKeyForStep y m (.slice ak n ck) n L (k : Int) W h (by omega)
              have h2 := H2.out.key_no K3.out hk
              rw [hy, hn, hL] at h2
              rw [h2] at h1
              exact h1)
            have Z4 := Lib.hid (show Box3 wr E (.int .i64 y) (.int .i64 m) (.slice ak n ck) by have := H4.out; rw [hy, hn] at this; exact this)
            have Z5 := Lib.hid (show OwnK (E + 1) wr ak n ck L by have := H5.out; rw [hn, hL] at this; exact this)
            have hsl2 : (seen.map (fun j : Nat => (j : Int))).length = seen.length := by simp
            have Z1 := Lib.hid H1.out
            generalize seen.map (fun j : Nat => (j : Int)) = zs at Z1 CK0 hsl2
            generalize seen.length = ns at Z1 hsl2 hsl ⊢
            have hns : ns ≤ 20 := hsl
            obtain ⟨y8, hy8⟩ : ∃ y, chainN x 8 = y := ⟨_, rfl⟩
            have Z8 := Lib.hid (show Box3 wr A (.int .i64 y8) _ _ by have := X8.out; rw [hy8] at this; exact this)
            clear hy hn hL hql hm8 H1 H2 H3 H4 H5 H6 X8 hS1 hy8 hlt
            go_wp2_with fail
            generalize wr = W9 at *
            go_loopw [17] (fun jx wx => ∃ j : Nat, j ≤ ns ∧ jx = .int .i64 j ∧ Hid (Below W9.heap.size W9 wx)) (fun jx _ => ns - (intOf jx).toNat)
            case atStart => exact ⟨0, Nat.zero_le _, rfl, Lib.hid (Below.refl _ _)⟩
            case round =>
              obtain ⟨j, hj, rfl, BX⟩ := hrel
              by_cases hlt : j < ns
              · go_light
                have hlt2 : (j : Int) < ns := by omega
                have ZX := Z1.out.below BX.out
                obtain ⟨gs, rfl⟩ : ∃ gs, an = some ⟨gs, 0, none⟩ := by
                  rcases ZX.shape with ⟨_, h0, _⟩ | ⟨gs, h, _⟩
                  · omega
                  · exact ⟨gs, h⟩
                have hcj := ZX.cellAt hlt
                have hzm : zs.getD j 0 ∈ zs := by rw [getD_in (by omega)]; exact List.getElem_mem _
                have CK := Lib.hid (CK0.out _ hzm)
                generalize zs.getD j 0 = z at hcj CK
                have KX := Lib.hid (Z5.out.below BX.out).sl
                obtain ⟨p0, p1, p2, f0, f1, f2⟩ := Z4.out.below BX.out
                have hsC := ZX.capMax
                unfold maxLen at hsC
                clear ZX hzm
                go_wp2_with fail
                go_cut [20] from 132 to 141 (fun bv wy => bv = .bool false ∧ Below wr.heap.size wr wy)
                case first =>
                  first
                  | go_region_held3 (fun W' => W'.cell? ⟨E, 0, none⟩ = some (.int .i64 y) ∧ W'.cell? ⟨E, 1, none⟩ = some (.int .i64 m) ∧ W'.cell? ⟨E, 2, none⟩ = some (.slice ak n ck) ∧ W'.cell? ⟨gs, j, none⟩ = some (.int .i64 z) ∧ Below wr.heap.size wr W') (first | assumption | exact keep4 h1C p0 p1 p2 hcj | exact keep4 (bel_al h1C _) p0 p1 p2 hcj | exact keep4 (bel_al h1C _).drew p0 p1 p2 hcj | exact keep4 (Below.refl _ _).drew p0 p1 p2 hcj | exact keep4 (bel_al (Below.refl _ _).drew _) p0 p1 p2 hcj | exact keep4 (bel_al (Below.refl _ _).drew _).drew p0 p1 p2 hcj | exact keep4 (Below.refl _ _) p0 p1 p2 hcj | exact keep4 (bel_al (Below.refl _ _) _) p0 p1 p2 hcj | exact keep4 (bel_al (Below.refl _ _) _).drew p0 p1 p2 hcj | exact keep4 (((h1C.setCell (by first | exact Nat.le_refl _ | omega) _).setCell (by first | exact Nat.le_refl _ | omega) _).setCell (by first | exact Nat.le_refl _ | omega) _) p0 p1 p2 hcj) (first | (go_at_call 23; (refine (CK.out _ (KX.out.below (bel4 ‹_›))).mono ?_); rintro e wC ⟨ao', N', cap', rfl, hokC, hbC⟩; have h1C : Below wr.heap.size wr wC := bel_seq (bel4 ‹_›) hbC; (first | have TD := (Box3.new wr (.int .i64 0) (.int .i64 0) (.slice none 0 0) 28).below hbC | have TD := (Box3.newD wr (.int .i64 0) (.int .i64 0) (.slice none 0 0) 28).below hbC | skip); (first | (have hzq := TD.lt; obtain ⟨tq0, tq1, tq2, tr0, tr1, tr2⟩ := TD) | skip)) | fail)
                  | fail
                  all_goals
                    go_wp2_with fail
                    go_meet
                    case rel =>
                      refine ⟨rfl, ?_⟩
                      first
                      | exact bel_al h1C _
                      | exact ((h1C.setCell (by first | exact Nat.le_refl _ | omega) _).setCell (by first | exact Nat.le_refl _ | omega) _).setCell (by first | exact Nat.le_refl _ | omega) _
                case rest =>
                  obtain ⟨wz, rfl⟩ : ∃ q, q = wc := ⟨wc, rfl⟩
                  obtain ⟨rfl, hbz⟩ := hcut
                  go_wp2_with fail
                  go_roundw
                  case rel => exact ⟨j + 1, by omega, by go_num, Lib.hid (bel_seq BX.out hbz)⟩
                  case measure => simp [intOf]; omega
              · have hlt2 : ¬ (j : Int) < ns := by omega
                obtain ⟨a0, _, _, _, _, _⟩ := Z8.out.below BX.out
                have CM := Lib.hid (fun W => implMessageKey y8 W)
                have CN := Lib.hid (fun W => implNextChain y8 W)
                have hmn := message_next y8
                generalize messageKeyI y8 = u1 at CM hmn
                generalize nextChainI y8 = u2 at CN hmn
                have hmn2 : (u1 != u2) = true := by simpa using hmn
                have BZ := Lib.hid (bel_seq H7.out BX.out)
                clear hmn Z1 Z4 Z5 Z8 CK0 H7
                go_wp2_with fail
                first
                | go_region_held3 (fun W' => W'.cell? ⟨A, 0, none⟩ = some (.int .i64 y8) ∧ Below wr.heap.size wr W') (first | assumption | exact keep1 h1C a0 | exact keep1 h1B a0 | exact keep1 h1C.drew a0 | exact keep1 h1B.drew a0 | exact keep1 (Below.refl _ _).drew a0) (first | (go_at_call 57; (refine (CM.out _).mono ?_); rintro e wC ⟨rfl, hbC⟩; have h1C : Below wr.heap.size wr wC := bel_seq (bel1 ‹_›) hbC) | (go_at_call 58; (refine (CN.out _).mono ?_); rintro e wB ⟨rfl, hbB⟩; have h1B : Below wr.heap.size wr wB := bel_seq (bel1 ‹_›) hbB) | fail)
                | fail
                all_goals
                  go_wp2
                  go_ret
                  exact ⟨rfl, bel_seq BZ.out (bel1 ‹_›)⟩
/-! ### THE ROW's STEP: the guide's own way -/
theorem own : ownKnob Try.prog.godebug = none := by kernel_rfl
theorem laidOut : laidOutB Try.prog = true := by kernel_rfl
set_option maxRecDepth 100000 in
theorem lifted (os : Os) (started : os.Started) (H : Type) (enc : TypeId × Value → H) :
    ReturnsInHanded {} Try.checked os 12 .any (Rows.fnRatchetsSpec.pre6 enc Try.prog Try.f12 Rows.fnRatchetsRow.domain false) (Rows.fnRatchetsSpec.post enc Try.prog Try.f12 false true false false) := by
  refine returnsInHanded_of_change (C := Try.checked) own started (by kernel_rfl) Try.func12
    (ChangeSpec.witness6 (enc := enc) (C := Try.checked) false ⟨#[], #[.slice none 0 0], []⟩ 8 (by kernel_rfl) (by kernel_rfl) (by kernel_rfl) (by kernel_rfl)) ?_
  intro W base args ds gs before hval0 hW hcnd _
  have hval : ∀ (j : Nat) t v, Try.f12.params[j]? = some t → args[j]? = some v → Value.okWide Try.prog W .any base t v := hval0
  have hW' := hW
  obtain ⟨p, q, hA0, hV, rfl, hfz, hnd⟩ := hW
  have hA : DataW.TrodAll enc Try.prog W 0 (fun _ => true) true Try.f12.params.toList args.toList ds p := hA0
  rw [Try.params12] at hA hval
  obtain ⟨v0, vs0, d0, ds0, p0, q0, hargs, rfl, rfl, h0, r0⟩ := trodAll_cons hA
  obtain ⟨rfl, rfl, rfl⟩ := trodAll_nil r0
  obtain rfl : args = #[v0] := by cases args; simp_all
  obtain ⟨rfl, rfl⟩ := trodVars_none hV
  have k0 := h0
  have lt0 : ∀ x ∈ p0, x.block < W.heap.size := by obtain ⟨m, hm⟩ := k0; exact DataW.trod_lt m _ _ _ hm
  obtain ⟨fuel0, g0⟩ := h0
  obtain ⟨b0, len0, cap0, rfl⟩ := okWide_slice Try.underlying37 (hval 0 37 v0 rfl rfl)
  obtain ⟨z0, s0, wf0⟩ := slOfRead Try.underlying37 Try.underlying5 (by kernel_rfl) (by simpa [Value.cells] using g0) lt0
  clear hA0 hval0
  refine (walk _ z0 W s0 wf0).mono fun e W' ⟨he, bel⟩ => ?_
  subst he
  exact ⟨_, rfl, _, _, _, [], _, [], hW', trodAll_mk1 (shut_bool Try.underlying4 _), (trodAll_cons_mk (Below.trod laidOut (by kernel_rfl) (of_decide_eq_true (by kernel_rfl)) k0 bel lt0) trodAll_mk0), rfl, bel.frame _, fun h => by cases h⟩

theorem over : Rows.fnRatchetsRow.holds Try.pinned (OpenSpec.ofChange Rows.fnRatchetsSpec) :=
  OpenClaim.holds_of_wide 12 Try.f12 rfl rfl rfl rfl rfl rfl rfl ⟨rfl, rfl, rfl, rfl, rfl⟩ rfl rfl rfl rfl rfl (by kernel_rfl) Try.func12 (by kernel_rfl)
    (of_decide_eq_true (by kernel_rfl)) (by unfold Func.isWrapper; first | (rw [if_pos (by decide +kernel)]; kernel_rfl) | (rw [if_neg (by decide +kernel)]; exact ⟨rfl, rfl⟩))
    (fun os started H enc _ => lifted os started H enc)

/-- the statement -/
theorem proved : Rows.FnRatchetsSaid := over
end Go.Proofs.Ytelcpihbdgikfaa.fnRatchets
