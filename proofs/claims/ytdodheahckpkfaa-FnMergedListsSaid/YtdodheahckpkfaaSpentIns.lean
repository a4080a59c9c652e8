/- The walks of the library's functions on lists of integers that spending wants: the place of a number in an ascending list, a copy, one element inserted; and the program's 'inserted'. -/
import Derived.Test.YtdodheahckpkfaaProg
import Derived.Test.YtdodheahckpkfaaShl
import Derived.Test.YtdodheahckpkfaaSpentPlain
import Derived.Test.YtdodheahckpkfaaStep
import Derived.Test.YtdodheahckpkfaaLater
import Derived.Test.YtdodheahckpkfaaTake
import Derived.Lib.SliceRun
namespace Go.Proofs.Ytdodheahckpkfaa
open Go.RowKit

theorem row_setCells {g : Nat} {e : TypeId} : ∀ (vs : List Value) (o : Nat) (w : World) (cur : Array Value), w.heap[g]? = some (.cells cur e (0, 0)) → ∃ cur', (w.setCells g o vs).heap[g]? = some (.cells cur' e (0, 0)) ∧ cur'.size = cur.size
  | [], _, _, cur, h => ⟨cur, h, rfl⟩
  | v :: r, o, w, cur, h => by
    obtain ⟨c', h1, h2⟩ := row_setCells r (o + 1) (w.setCell ⟨g, o, none⟩ v) (cur.setIfInBounds o v) (heap_setCell_same w g o cur e v h)
    exact ⟨c', h1, by rw [h2]; simp⟩
theorem grown_setCellW (w : World) (b o : Nat) (u : Value) : w.grownBy (w.setCell ⟨b, o, none⟩ u) (some b) := ⟨rfl, rfl, rfl, by simp [World.setCell], fun i _ hne => Below.heap_setCell _ _ _ _ (fun e => hne (by rw [e]))⟩
theorem grown_setCells (g : Nat) : ∀ (vs : List Value) (o : Nat) (w : World), w.grownBy (w.setCells g o vs) (some g)
  | [], _, _ => World.grownBy.refl _ _
  | v :: r, o, w => grown_trans (grown_setCellW w g o v) (grown_setCells g r (o + 1) _)
theorem below_setCellsI {B b : Nat} {a : World} (hb : B ≤ b) : ∀ (vs : List Value) (o : Nat) (w : World), Below B a w → Below B a (w.setCells b o vs)
  | [], _, _, h => h
  | v :: r, o, _, h => below_setCellsI hb r (o + 1) _ (h.setCell hb v)
theorem ownOfCells {k : IntKind} {e : TypeId} {base : Nat} {w : World} {g N cap : Nat} {l : List Int} {cur : Array Value} (hb : base ≤ g) (hg : w.heap[g]? = some (.cells cur e (0, 0))) (hs : cur.size = cap) (hN : N ≤ cap) (hm : cap ≤ maxLen) (hl : l.length = N)
    (hc : ∀ j, j < N → w.cell? ⟨g, j, none⟩ = some (.int k (l.getD j 0))) : Own k e base w (some ⟨g, 0, none⟩) N cap l := by
  refine ⟨hl, by rw [List.length_map, hl, Nat.mul_one], .inr ⟨g, cap, cur, rfl, hb, hg, hN, hm, by rw [Nat.mul_one]; exact hs, ?_⟩⟩
  apply List.ext_getElem?
  intro j
  rw [Nat.mul_one, List.getElem?_take]
  by_cases hj : j < N
  · rw [if_pos hj]
    have := hc j hj
    rw [cell_of_row w g j cur e (0, 0) hg] at this
    rw [Array.getElem?_toList, this]
    simp [List.getElem?_eq_getElem (show j < l.length by omega)]
  · rw [if_neg hj, List.getElem?_eq_none (by rw [List.length_map]; omega)]
theorem ins_getD {l : List Int} {k : Nat} (hk : k ≤ l.length) (x : Int) (j : Nat) : (l.take k ++ [x] ++ l.drop k).getD j 0 = if j < k then l.getD j 0 else if j = k then x else l.getD (j - 1) 0 := by
  have hl : (l.take k).length = k := by rw [List.length_take]; omega
  simp only [List.getD]
  rw [List.append_assoc, List.getElem?_append, hl]
  by_cases h : j < k
  · rw [if_pos h, if_pos h, List.getElem?_take, if_pos h]
  · rw [if_neg h, if_neg h]
    by_cases e : j = k
    · subst e; simp
    · rw [if_neg e, List.getElem?_append, if_neg (by simp; omega), List.getElem?_drop]
      simp only [List.length_cons, List.length_nil]
      rw [show k + (j - k - (0 + 1)) = j - 1 by omega]
/-- what stands in a row of the call's own -/
theorem Own.row {k : IntKind} {e : TypeId} {base : Nat} {w : World} {g N cap : Nat} {l : List Int} (h : Own k e base w (some ⟨g, 0, none⟩) N cap l) : ∃ cur : Array Value, w.heap[g]? = some (.cells cur e (0, 0)) ∧ cur.size = cap ∧ base ≤ g := by
  rcases h.2.2 with ⟨hv, _⟩ | ⟨g', cap', cur, hv, hb, hg, hnc, hcm, hcs, htake⟩
  · cases hv
  · simp only [Value.slice.injEq, Option.some.injEq, Addr.mk.injEq, and_true, true_and] at hv
    obtain ⟨rfl, rfl⟩ := hv
    exact ⟨cur, hg, by rw [hcs, Nat.mul_one], hb⟩
theorem binI (v : Value) (l : List Int) (x : Int) (w : World) (hs : Sl .i64 w v l) (hl : l.length ≤ 1048576) (hso : l.Pairwise (· ≤ ·)) :
    Calls Try.prog 95 #[v, .int .i64 x] w fun e w' => (∃ b, e = .returned (.tuple #[.int .i64 (insK l x : Nat), .bool b])) ∧ Below w.heap.size w w' := by
  rcases hs with ⟨rfl, a, cap, rfl, hc, hz⟩ | ⟨b, off, cap, rfl, h1, h2, h3, h4⟩
  · refine (Any.slices_BinarySearch_int_empty lays25 a cap x w).mono ?_
    rintro e w' ⟨rfl, rfl⟩
    exact ⟨⟨_, rfl⟩, Below.refl _ _⟩
  · refine (Any.slices_BinarySearch_int lays25 b off l.length cap l x w (Nat.le_refl _) (by omega) h4 (by rw [List.take_length]; exact hso)).mono ?_
    rintro e w' ⟨rfl, q, rfl⟩
    rw [List.take_length]
    exact ⟨⟨_, rfl⟩, bel_drewN (Below.refl _ _) q⟩
set_option maxRecDepth 100000 in
theorem cloneI (v : Value) (l : List Int) (w : World) (hs : Sl .i64 w v l) (hl : l.length ≤ 1048576) : Calls Try.prog 91 #[v] w fun e w' => ∃ ao N cap, e = .returned (.slice ao N cap) ∧ Own .i64 3 w.heap.size w' ao N cap l ∧ Below w.heap.size w w' := by
  obtain ⟨a, c, rfl, hm⟩ := hs.shape
  have q22 : ∀ (w : World) (a : Option Addr) (n c n' c' : Nat), (binOp .eql 22 (.slice a n c) (.slice none n' c')).run Try.prog w = .ok (.bool a.isNone) w := fun w a n c n' c' => Lib.run_eql_slice_nil w _ _ a n c n' c' Try.underlying22
  cases a with
  | none =>
    have h0 : l = [] ∧ c = 0 := by
      rcases hs with ⟨h0, a, cap, hv, hc, hz⟩ | ⟨b, off, cap, hv, _⟩
      · simp only [Value.slice.injEq] at hv
        exact ⟨h0, by rw [hv.2.2]; exact hz hv.1.symm⟩
      · simp only [Value.slice.injEq] at hv
        cases hv.1
    obtain ⟨rfl, rfl⟩ := h0
    clear hm hl hs
    go_enter Try.func91, Try.ntmps91
    go_wp2
    go_ret
    exact ⟨_, _, _, rfl, Own.nil _ _ _ _, Below.refl _ _⟩
  | some ad =>
    have O1 := Lib.hid (Own.lit .i64 3 w.heap.size w [] (by simp [maxLen]) (Nat.le_refl _))
    have S1 := Lib.hid (hs.alloc (.cells #[] 3))
    have hl1 : 0 + l.length ≤ 1099511627776 := by omega
    have hz1 : w.heap.size ≤ (w.alloc (.cells #[] 3)).heap.size := by simp
    clear hs hm hl
    go_enter Try.func91, Try.ntmps91
    go_wp2_with (at_builtin; refine wpList_app rfl _ _ _ rfl w.heap.size 3 .i64 (.int .i64 0) 8 Try.underlying22 info3 rfl (by omega) _ _ _ _ rfl O1.out _ _ rfl S1.out hl1 hz1 ?_; intro ao N cap w1 hN1 hN2 hown1 hg1 hb1)
    go_ret
    exact ⟨_, _, _, rfl, by simpa using hown1, bel_al (Below.refl _ _) _ |>.trans hb1⟩
theorem insertI (base : Nat) (ao : Option Addr) (N cap : Nat) (l : List Int) (k : Nat) (x : Int) (vb : Nat) (t : TypeId) (w : World) (ho : Own .i64 3 base w ao N cap l) (hk : k ≤ N) (hN : N ≤ 1048576) (hv : w.heap[vb]? = some (.cells #[.int .i64 x] t (0, 0))) (hne : some vb ≠ ownB ao) (hbase : base ≤ w.heap.size) :
    Calls Try.prog 96 #[.slice ao N cap, .int .i64 k, .slice (some ⟨vb, 0, none⟩) 1 1] w fun e w' => ∃ ao' N' cap', e = .returned (.slice ao' N' cap') ∧ Own .i64 3 base w' ao' N' cap' (l.take k ++ [x] ++ l.drop k) ∧ w.grownBy w' (ownB ao) ∧ Below base w w' := by
  have hlen := ho.1
  obtain ⟨hc, hc2⟩ := ho.capMax
  have hvc : ∀ j v, [Value.int .i64 x][j]? = some v → w.cell? ⟨vb, 0 + j, none⟩ = some v := fun j v hj => by
    rw [Nat.zero_add, cell_of_row w vb j _ t (0, 0) hv]
    simpa using hj
  have h1v : ∀ v ∈ [Value.int .i64 x], v.oneCell' = true := fun v hv => by rw [List.mem_singleton.1 hv]; rfl
  have h1c : ∀ v ∈ l.map (Value.int .i64), v.oneCell' = true := fun v hv => by
    obtain ⟨n, _, rfl⟩ := List.mem_map.1 hv
    rfl
  have hcl : (l.map (Value.int .i64)).length = N := by rw [List.length_map, hlen]
  have hil : (l.take k ++ [x] ++ l.drop k).length = N + 1 := by
    simp only [List.length_append, List.length_take, List.length_drop, List.length_cons, List.length_nil]; omega
  have bl : ∀ W, w.grownBy W (ownB ao) → Below base w W := fun W hg => grown_below hg hbase (fun j hj => by
    rcases ho.shape with ⟨rfl, _⟩ | ⟨g, rfl, h1, _⟩
    · simp [ownB] at hj
    · simp [ownB] at hj; omega)
  have hmap : ∀ j v, (l.map (Value.int .i64))[j]? = some v → j < N ∧ v = .int .i64 (l.getD j 0) := fun j v hj => by
    rw [List.getElem?_map, Option.map_eq_some_iff] at hj
    obtain ⟨n, hn, rfl⟩ := hj
    exact ⟨by have := (List.getElem?_eq_some_iff.1 hn).1; omega, by simp [hn]⟩
  -- the end of each way: what the cells hold
  have fin : ∀ (W : World) (g c : Nat) (cur : Array Value), base ≤ g → W.heap[g]? = some (.cells cur 3 (0, 0)) → cur.size = c → N + 1 ≤ c → c ≤ maxLen → (∀ j, j < k → W.cell? ⟨g, j, none⟩ = some (.int .i64 (l.getD j 0))) → W.cell? ⟨g, k, none⟩ = some (.int .i64 x) → (∀ j, k < j → j < N + 1 → W.cell? ⟨g, j, none⟩ = some (.int .i64 (l.getD (j - 1) 0))) → Own .i64 3 base W (some ⟨g, 0, none⟩) (N + 1) c (l.take k ++ [x] ++ l.drop k) := fun W g c cur hb hg hs hNc hm h1 h2 h3 => by
    refine ownOfCells hb hg hs hNc hm hil (fun j hj => ?_)
    rw [ins_getD (by omega)]
    by_cases a1 : j < k
    · rw [if_pos a1]; exact h1 j a1
    · by_cases a2 : j = k
      · subst a2; rw [if_neg a1, if_pos rfl]; exact h2
      · rw [if_neg a1, if_neg a2]; exact h3 j (by omega) hj
  rcases ho.shape with ⟨rfl, rfl, rfl⟩ | ⟨g, rfl, hg1, hg2⟩
  · -- nil
    obtain rfl : k = 0 := by omega
    refine (Any2.slices_Insert_int_end_grow lays21 none 0 0 vb 0 1 1 (l.map (Value.int .i64)) [.int .i64 x] w (by omega) (by omega) (by omega) (by omega) hcl rfl (fun _ => rfl) (fun a h => by cases h) hvc h1v).mono ?_
    rintro e w' ⟨he, hw⟩
    simp only [show lays21_ren.t 3 = 3 from rfl] at he hw
    subst he hw
    have hge := grownCap_ge w (0 + 1) 0 3
    have hgm := grownCap_le_maxLen w (0 + 1) 0 3 (by simp [maxLen])
    generalize grownCap w (0 + 1) 0 3 = G at hge hgm ⊢
    have hgr : w.grownBy (w.drew.alloc (.cells (((l.map (Value.int .i64)) ++ [Value.int .i64 x]).toArray ++ Builtin.zeroCells (Value.int .i64 0).cells (G - (0 + 1))) 3)) (ownB none) := below_grown (bel_al (Below.refl _ _).drew _) _
    have hl0 : l = [] := List.length_eq_zero_iff.1 hlen
    subst hl0
    exact ⟨_, _, _, rfl, fin _ w.heap.size _ _ hbase (heap_alloc_new w.drew _) (by simp [Builtin.zeroCells, Value.cells]; omega) hge hgm (fun j hj => by omega) (by
      rw [World.cell?_alloc_at (w := w.drew) _ _ w.heap.size 0 rfl]
      simp [Array.getElem?_append]) (fun j h1 h2 => by omega), hgr, bl _ hgr⟩
  · obtain ⟨cur, hrow, hcur, hbg⟩ := ho.row
    have hcell : ∀ j v, (l.map (Value.int .i64))[j]? = some v → w.cell? ⟨g, 0 + j, none⟩ = some v := fun j v hj => by
      obtain ⟨h1, rfl⟩ := hmap j v hj
      rw [Nat.zero_add]
      exact ho.cellAt h1
    have hsome : ∀ j, j < cap → (w.cell? ⟨g, 0 + j, none⟩).isSome = true := fun j hj => by
      rw [Nat.zero_add, cell_of_row w g j cur _ (0, 0) hrow]
      simp; omega
    have hfz : ∀ j, w.frozen? ⟨g, 0 + j, none⟩ = false := fun j => ho.frozenAt _
    have hvg : vb ≠ g := fun e => hne (by simp [ownB, e])
    have hlt : vb < w.heap.size := (Array.getElem?_eq_some_iff.1 hv).1
    by_cases hkN : k < N
    · by_cases hroom : N + 1 ≤ cap
      · refine (Any2.slices_Insert_int_shift lays21 g 0 N cap k vb 0 1 1 (l.map (Value.int .i64)) [.int .i64 x] w hkN (by omega) hroom (by unfold maxLen at hc2; omega) hvg hcl rfl hcell (fun j hj => hsome j (by omega)) (fun j _ => hfz j) hvc h1c h1v t 3 1 cap (by simp [World.shape?, hv]) (by simp [World.shape?, hrow, hcur]) (by omega) (by simp [World.frozen?, hv]) (by simp [World.frozen?, hv])).mono ?_
        rintro e w' ⟨rfl, rfl⟩
        have hgr : w.grownBy ((w.drew.setCells g (0 + (k + 1)) ((l.map (Value.int .i64)).drop k)).setCells g (0 + k) [.int .i64 x]) (some g) := grown_trans (grown_trans (below_grown (Below.refl _ _).drew _) (grown_setCells g _ _ _)) (grown_setCells g _ _ _)
        obtain ⟨c1, r1, z1⟩ := row_setCells ((l.map (Value.int .i64)).drop k) (0 + (k + 1)) w.drew cur hrow
        obtain ⟨c2, r2, z2⟩ := row_setCells [.int .i64 x] (0 + k) _ c1 r1
        have hdl : ((l.map (Value.int .i64)).drop k).length = N - k := by rw [List.length_drop, hcl]
        have in1 : ∀ j, j < N - k → (w.drew.setCells g (0 + (k + 1)) ((l.map (Value.int .i64)).drop k)).cell? ⟨g, 0 + (k + 1) + j, none⟩ = some (.int .i64 (l.getD (k + j) 0)) := fun j hj => by
          rw [World.cell?_setCells_in g _ _ _ (fun i hi => by rw [hdl] at hi; have := hsome (k + 1 + i) (by omega); rw [← Nat.add_assoc] at this; exact this) j (by omega)]
          simp [List.getD, show k + j < l.length by omega]
        refine ⟨_, _, _, rfl, fin _ g cap c2 hbg r2 (by omega) hroom hc2 (fun j hj => ?_) ?_ (fun j h1 h2 => ?_), hgr, bl _ hgr⟩
        · rw [World.cell?_setCells_out _ _ _ _ _ (fun _ _ => by left; dsimp only; omega), World.cell?_setCells_out _ _ _ _ _ (fun _ _ => by left; dsimp only; omega)]
          exact ho.cellAt (by omega)
        · have := World.cell?_setCells_in g [Value.int .i64 x] (0 + k) (w.drew.setCells g (0 + (k + 1)) ((l.map (Value.int .i64)).drop k)) (fun i hi => by
            simp only [List.length_cons, List.length_nil] at hi
            obtain rfl : i = 0 := by omega
            rw [cell_of_row _ g _ c1 _ (0, 0) r1]; simp; omega) 0 (by simp)
          simpa using this
        · rw [World.cell?_setCells_out _ _ _ _ _ (fun _ _ => by right; simp; omega)]
          have := in1 (j - (k + 1)) (by omega)
          rw [show 0 + (k + 1) + (j - (k + 1)) = j by omega, show k + (j - (k + 1)) = j - 1 by omega] at this
          exact this
      · have hge := grownCap_ge w (N + 1) cap 3
        have hgm := grownCap_le_maxLen w (N + 1) cap 3 (by unfold maxLen; omega)
        refine (Any2.slices_Insert_int_grow lays21 g 0 N cap k vb 0 1 1 (l.map (Value.int .i64)) [.int .i64 x] w hkN (by omega) hc (by omega) (by omega) hcl rfl hcell hvc h1c h1v).mono ?_
        rintro e w' ⟨he, hw⟩
        simp only [show lays21_ren.t 3 = 3 from rfl] at he hw
        subst he hw
        generalize grownCap w (N + 1) cap 3 = G at hge hgm ⊢
        obtain ⟨ROW, hROW⟩ : ∃ ROW : Array Value, ROW = ((l.map (Value.int .i64)).take k).toArray ++ Builtin.zeroCells (Value.int .i64 0).cells (N + 1 - k) ++ Builtin.zeroCells (Value.int .i64 0).cells (G - (N + 1)) := ⟨_, rfl⟩
        rw [← hROW]
        have hRs : ROW.size = G := by
          rw [hROW]
          simp [Builtin.zeroCells, Value.cells]
          omega
        have hRk : ∀ j, j < k → ROW[j]? = some (.int .i64 (l.getD j 0)) := fun j hj => by
          have h0 : j < l.length := by omega
          rw [hROW, Array.append_assoc, Array.getElem?_append_left (by simp; omega)]
          simp [hj, h0, List.getD]
        have r0 : ((w.alloc (.cells ROW 3)).drew).heap[w.heap.size]? = some (.cells ROW 3 (0, 0)) := heap_alloc_new w _
        obtain ⟨c1, r1, z1⟩ := row_setCells [Value.int .i64 x] k (w.alloc (.cells ROW 3)).drew ROW r0
        obtain ⟨c2, r2, z2⟩ := row_setCells ((l.map (Value.int .i64)).drop k) (k + 1) ((w.alloc (.cells ROW 3)).drew.setCells w.heap.size k [Value.int .i64 x]).drew c1 r1
        have hdl : ((l.map (Value.int .i64)).drop k).length = N - k := by rw [List.length_drop, hcl]
        have hb : Below w.heap.size w ((((w.alloc (.cells ROW 3)).drew.setCells w.heap.size k [Value.int .i64 x]).drew).setCells w.heap.size (k + 1) ((l.map (Value.int .i64)).drop k)) := below_setCellsI (Nat.le_refl _) _ _ _ (below_setCellsI (Nat.le_refl _) _ _ _ (bel_al (Below.refl _ _) _).drew).drew
        have hgr := below_grown hb (ownB (some (⟨g, 0, none⟩ : Addr)))
        refine ⟨_, _, _, rfl, fin _ w.heap.size G c2 hbase r2 (by omega) hge hgm (fun j hj => ?_) ?_ (fun j h1 h2 => ?_), hgr, bl _ hgr⟩
        · rw [World.cell?_setCells_out _ _ _ _ _ (fun _ _ => by left; dsimp only; omega)]
          show World.cell? (((w.alloc (.cells ROW 3)).drew.setCells w.heap.size k [Value.int .i64 x])) _ = _
          rw [World.cell?_setCells_out _ _ _ _ _ (fun _ _ => by left; dsimp only; omega), cell_of_row _ _ _ _ _ _ r0]
          exact hRk j hj
        · rw [World.cell?_setCells_out _ _ _ _ _ (fun _ _ => by left; dsimp only; omega)]
          have := World.cell?_setCells_in w.heap.size [Value.int .i64 x] k (w.alloc (.cells ROW 3)).drew (fun i hi => by
            simp only [List.length_cons, List.length_nil] at hi
            obtain rfl : i = 0 := by omega
            rw [cell_of_row _ _ _ _ _ _ r0]; simp; omega) 0 (by simp)
          simpa using this
        · have := World.cell?_setCells_in w.heap.size ((l.map (Value.int .i64)).drop k) (k + 1) ((w.alloc (.cells ROW 3)).drew.setCells w.heap.size k [Value.int .i64 x]).drew (fun i hi => by
            rw [hdl] at hi
            show (World.cell? ((w.alloc (.cells ROW 3)).drew.setCells w.heap.size k [Value.int .i64 x]) _).isSome = true
            rw [cell_of_row _ _ _ _ _ _ r1]; simp; omega) (j - (k + 1)) (by omega)
          rw [show k + 1 + (j - (k + 1)) = j by omega] at this
          rw [this]
          simp [List.getD, show k + (j - (k + 1)) = j - 1 by omega, show j - 1 < l.length by omega]
    · obtain rfl : k = N := by omega
      by_cases hroom : k + 1 ≤ cap
      · refine (Any2.slices_Insert_int_end_room lays21 g 0 k cap vb 0 1 1 [.int .i64 x] w (by omega) hroom (by unfold maxLen at hc2; omega) rfl (fun j hj => by rw [Nat.add_assoc]; exact hsome _ (by omega)) (fun j _ => by rw [Nat.add_assoc]; exact hfz _) hvc h1v).mono ?_
        rintro e w' ⟨rfl, rfl⟩
        have hgr : w.grownBy (w.setCells g (0 + k) [.int .i64 x]) (some g) := grown_setCells g _ _ _
        obtain ⟨c1, r1, z1⟩ := row_setCells [.int .i64 x] (0 + k) w cur hrow
        refine ⟨_, _, _, rfl, fin _ g cap c1 hbg r1 (by omega) hroom hc2 (fun j hj => ?_) ?_ (fun j h1 h2 => by omega), hgr, bl _ hgr⟩
        · rw [World.cell?_setCells_out _ _ _ _ _ (fun _ _ => by left; dsimp only; omega)]
          exact ho.cellAt hj
        · have := World.cell?_setCells_in g [Value.int .i64 x] (0 + k) w (fun i hi => by
            simp only [List.length_cons, List.length_nil] at hi
            obtain rfl : i = 0 := by omega
            rw [Nat.add_assoc]; exact hsome _ (by omega)) 0 (by simp)
          simpa using this
      · have hge := grownCap_ge w (k + 1) cap 3
        have hgm := grownCap_le_maxLen w (k + 1) cap 3 (by unfold maxLen; omega)
        refine (Any2.slices_Insert_int_end_grow lays21 (some ⟨g, 0, none⟩) k cap vb 0 1 1 (l.map (Value.int .i64)) [.int .i64 x] w (by omega) hc (by omega) (by omega) hcl rfl (fun h => by cases h) (fun a h j v hj => by
          cases h
          rw [Addr.add_lit]
          exact hcell j v hj) hvc h1v).mono ?_
        rintro e w' ⟨he, hw⟩
        simp only [show lays21_ren.t 3 = 3 from rfl] at he hw
        subst he hw
        generalize grownCap w (k + 1) cap 3 = G at hge hgm ⊢
        have hgr := below_grown (bel_al (Below.refl w.heap.size w).drew (.cells (((l.map (Value.int .i64)) ++ [Value.int .i64 x]).toArray ++ Builtin.zeroCells (Value.int .i64 0).cells (G - (k + 1))) 3)) (ownB (some (⟨g, 0, none⟩ : Addr)))
        have r0 := heap_alloc_new w.drew (.cells (((l.map (Value.int .i64)) ++ [Value.int .i64 x]).toArray ++ Builtin.zeroCells (Value.int .i64 0).cells (G - (k + 1))) 3)
        refine ⟨_, _, _, rfl, fin _ w.heap.size G _ hbase r0 (by simp [Builtin.zeroCells, Value.cells]; omega) hge hgm (fun j hj => ?_) ?_ (fun j h1 h2 => by omega), hgr, bl _ hgr⟩
        · refine (cell_of_row _ _ _ _ _ _ r0).trans ?_
          have h0 : j < l.length := by omega
          rw [Array.getElem?_append_left (by simp; omega)]
          simp [h0, List.getD, List.getElem?_append]
        · refine (cell_of_row _ _ _ _ _ _ r0).trans ?_
          rw [Array.getElem?_append_left (by simp; omega)]
          simp [hlen]
end Go.Proofs.Ytdodheahckpkfaa
