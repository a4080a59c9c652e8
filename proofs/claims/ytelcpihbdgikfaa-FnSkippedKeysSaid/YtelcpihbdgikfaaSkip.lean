/- Slices of skipped keys in memory, read as a flat list of numbers (step, key, step, key ..): Sk and OwnK, as Sl and Own; the walks of the laws' helpers over them. -/
import Derived.Test.YtelcpihbdgikfaaProg
import Derived.Test.YtelcpihbdgikfaaInts
import Derived.Test.YtelcpihbdgikfaaLists
import Derived.Test.YtelcpihbdgikfaaLater
import Derived.Deep.RegionHeld3
namespace Go.Proofs.Ytelcpihbdgikfaa
open Go.RowKit

/-- the value reads as n pairs -/
def Sk (w : World) (v : Value) (n : Nat) (l : List Int) : Prop :=
  l.length = 2 * n ∧ ((n = 0 ∧ ∃ a cap, v = .slice a 0 cap ∧ cap ≤ maxLen ∧ (a = none → cap = 0)) ∨
  ∃ b off cap, v = .slice (some ⟨b, off, none⟩) n cap ∧ n ≤ cap ∧ cap ≤ maxLen ∧ b < w.heap.size ∧ ∀ i, i < 2 * n → w.cell? ⟨b, off + i, none⟩ = some (.int .i64 (l.getD i 0)))
theorem Sk.nil (w : World) : Sk w (.slice none 0 0) 0 [] := ⟨rfl, .inl ⟨rfl, none, 0, rfl, by simp [maxLen], fun _ => rfl⟩⟩
theorem Sk.below {w w' : World} {v : Value} {n : Nat} {l : List Int} (h : Sk w v n l) (hb : Below w.heap.size w w') : Sk w' v n l := by
  obtain ⟨hl, h⟩ := h
  refine ⟨hl, ?_⟩
  rcases h with h | ⟨b, off, cap, rfl, h1, h2, h3, h4⟩
  · exact .inl h
  · exact .inr ⟨b, off, cap, rfl, h1, h2, Nat.lt_of_lt_of_le h3 hb.size, fun i hi => (hb.cell (p := ⟨b, off + i, none⟩) h3).trans (h4 i hi)⟩
theorem Sk.alloc {w : World} {v : Value} {n : Nat} {l : List Int} (h : Sk w v n l) (o : Obj) : Sk (w.alloc o) v n l := h.below ((Below.refl _ _).alloc (Nat.le_refl _) o)
theorem Sk.drew {w : World} {v : Value} {n : Nat} {l : List Int} (h : Sk w v n l) : Sk w.drew v n l := h.below (Below.refl _ _).drew
theorem Sk.shape {w : World} {v : Value} {n : Nat} {l : List Int} (h : Sk w v n l) : ∃ a c, v = .slice a n c ∧ n ≤ 9223372036854775807 := by
  obtain ⟨hl, h⟩ := h
  rcases h with ⟨rfl, a, cap, rfl, _⟩ | ⟨b, off, cap, rfl, h1, h2, _⟩
  · exact ⟨a, cap, rfl, by omega⟩
  · exact ⟨_, cap, rfl, by unfold maxLen at h2; omega⟩
theorem Sk.at {w : World} {a : Option Addr} {n c : Nat} {l : List Int} (h : Sk w (.slice a n c) n l) {i : Nat} (hi : i < n) : ∃ b off, a = some ⟨b, off, none⟩ ∧ b < w.heap.size ∧ ∀ j, j < n → w.cell? ⟨b, off + j * 2, none⟩ = some (.int .i64 (l.getD (2 * j) 0)) ∧ w.cell? ⟨b, off + j * 2 + 1, none⟩ = some (.int .i64 (l.getD (2 * j + 1) 0)) := by
  rcases h.2 with ⟨h0, _⟩ | ⟨b, off, cap, hv, h1, h2, h3, h4⟩
  · omega
  · simp only [Value.slice.injEq] at hv
    refine ⟨b, off, hv.1, h3, fun j hj => ⟨?_, ?_⟩⟩
    · rw [Nat.mul_comm j 2]; exact h4 (2 * j) (by omega)
    · rw [Nat.mul_comm j 2, Nat.add_assoc]; exact h4 (2 * j + 1) (by omega)

def OwnK (base : Nat) (w : World) (ao : Option Addr) (N cap : Nat) (l : List Int) : Prop :=
  l.length = 2 * N ∧ w.ownsRow base 93 2 (.slice ao N cap) N (l.map (Value.int .i64))
theorem OwnK.sl {base : Nat} {w : World} {ao : Option Addr} {N cap : Nat} {l : List Int} (h : OwnK base w ao N cap l) : Sk w (.slice ao N cap) N l := by
  obtain ⟨hl0, h⟩ := h
  have h0 := h
  obtain ⟨hl, h⟩ := h
  refine ⟨hl0, ?_⟩
  rcases h with ⟨h, h0⟩ | ⟨g, cap', cur, h, hb, hg, hn, hm, hs, ht⟩
  · simp only [Value.slice.injEq] at h
    obtain ⟨rfl, h, rfl⟩ := h
    subst h
    exact .inl ⟨rfl, none, 0, rfl, by simp [maxLen], fun _ => rfl⟩
  · simp only [Value.slice.injEq] at h
    obtain ⟨rfl, _, rfl⟩ := h
    refine .inr ⟨g, 0, cap, rfl, hn, hm, (Array.getElem?_eq_some_iff.1 hg).1, fun i hi => ?_⟩
    have hc := h0.cellAt i (by omega)
    rw [Nat.zero_add, hc]
    simp [List.getElem?_eq_getElem (show i < l.length by omega)]
theorem OwnK.nil (base : Nat) (w : World) : OwnK base w none 0 0 [] := ⟨rfl, World.ownsRow_nil _ _ _ _⟩
theorem OwnK.mono {base base' : Nat} {w : World} {ao : Option Addr} {N cap : Nat} {l : List Int} (h : OwnK base w ao N cap l) (hb : base' ≤ base) : OwnK base' w ao N cap l := by
  refine ⟨h.1, h.2.1, ?_⟩
  rcases h.2.2 with h | ⟨g, cap', cur, hv, hg, r⟩
  · exact .inl h
  · exact .inr ⟨g, cap', cur, hv, by omega, r⟩
theorem OwnK.alloc {base : Nat} {w : World} {ao : Option Addr} {N cap : Nat} {l : List Int} (h : OwnK base w ao N cap l) (o : Obj) : OwnK base (w.alloc o) ao N cap l := ⟨h.1, h.2.alloc o⟩
theorem OwnK.grown {base : Nat} {w w' : World} {ao : Option Addr} {N cap : Nat} {l : List Int} {row : Option Nat} (h : OwnK base w ao N cap l) (hg : w.grownBy w' row) (hne : ownB ao = none ∨ ownB ao ≠ row) : OwnK base w' ao N cap l :=
  ⟨h.1, h.2.kept hg (by rw [ownB_slice]; exact hne)⟩
theorem OwnK.below {base : Nat} {w w' : World} {ao : Option Addr} {N cap : Nat} {l : List Int} (h : OwnK base w ao N cap l) (hb : Below w.heap.size w w') : OwnK base w' ao N cap l :=
  h.grown (row := none) (below_grown hb none) (by cases ao <;> simp [ownB])
theorem OwnK.blk {base : Nat} {w : World} {g N cap : Nat} {l : List Int} (h : OwnK base w (some ⟨g, 0, none⟩) N cap l) : base ≤ g ∧ g < w.heap.size := h.2.lt g rfl
theorem OwnK.cellAt {base : Nat} {w : World} {g N cap : Nat} {l : List Int} (h : OwnK base w (some ⟨g, 0, none⟩) N cap l) {j : Nat} (hj : j < 2 * N) : w.cell? ⟨g, j, none⟩ = some (.int .i64 (l.getD j 0)) := by
  have := h.2.cellAt j (by omega)
  rw [this]
  simp [List.getElem?_eq_getElem (show j < l.length by have := h.1; omega)]
theorem OwnK.frozenAt {base : Nat} {w : World} {g N cap : Nat} {l : List Int} (h : OwnK base w (some ⟨g, 0, none⟩) N cap l) (j : Nat) : w.frozen? ⟨g, j, none⟩ = false := h.2.frozenAt j
theorem OwnK.stored {base : Nat} {w : World} {g N cap : Nat} {l : List Int} (h : OwnK base w (some ⟨g, 0, none⟩) N cap l) (j : Nat) (x : Int) :
    OwnK base (w.setCell ⟨g, j, none⟩ (.int .i64 x)) (some ⟨g, 0, none⟩) N cap (l.set j x) ∧ w.grownBy (w.setCell ⟨g, j, none⟩ (.int .i64 x)) (some g) := by
  have := h.2.stored j (.int .i64 x)
  refine ⟨⟨by rw [List.length_set]; exact h.1, ?_⟩, this.2⟩
  rw [List.map_set]
  exact this.1
theorem OwnK.shape {base : Nat} {w : World} {ao : Option Addr} {N cap : Nat} {l : List Int} (h : OwnK base w ao N cap l) : (ao = none ∧ N = 0 ∧ cap = 0) ∨ ∃ g, ao = some ⟨g, 0, none⟩ ∧ base ≤ g ∧ g < w.heap.size := by
  rcases h.2.2 with ⟨hv, h0⟩ | ⟨g, cap', cur, hv, hb, hg, _⟩
  · simp only [Value.slice.injEq] at hv; exact .inl ⟨hv.1, h0, hv.2.2⟩
  · simp only [Value.slice.injEq] at hv; exact .inr ⟨g, hv.1, hb, (Array.getElem?_eq_some_iff.1 hg).1⟩

theorem ownK_cells {base : Nat} {w : World} {g N cap : Nat} {l : List Int} (h : OwnK base w (some ⟨g, 0, none⟩) N cap l) {b o : Nat} (hb : b < base) (u : Value) : OwnK base (w.setCell ⟨b, o, none⟩ u) (some ⟨g, 0, none⟩) N cap l :=
  h.grown (row := some b) ⟨rfl, rfl, rfl, by simp [World.setCell], fun i _ hne => Below.heap_setCell _ _ _ _ (fun e => hne (by rw [e]))⟩ (.inr (by simp [ownB]; have := h.blk.1; omega))

theorem szSkippedKeyS (v : Value) (n : Nat) (l : List Int) (left : Int) (w : World) (hs : Sk w v n l) (h0 : 0 ≤ left) (h1 : left ≤ 1048576) :
    Calls Try.prog 69 #[v, .int .i64 left] w fun e w' => e = .returned (.int .i64 (if left < n then -1 else left - n)) ∧ w = w' := by
  obtain ⟨a, c, rfl, hm⟩ := hs.shape
  clear hs
  by_cases hlt : left < (n : Int)
  · rw [if_pos hlt]
    go_enter Try.func69, Try.ntmps69
    go_wp2
    go_ret
    exact ⟨rfl, rfl⟩
  · rw [if_neg hlt]
    go_enter Try.func69, Try.ntmps69
    go_wp2
    go_ret
    exact ⟨rfl, rfl⟩
theorem eqSkippedKey_yes (x y : Int) (w : World) : Calls Try.prog 112 #[.agg #[.int .i64 x, .int .i64 y], .agg #[.int .i64 x, .int .i64 y]] w fun e w' => e = .returned (.bool true) ∧ Below w.heap.size w w' := by
  have h1 : (x != x) = false := by simp
  have h2 : (y != y) = false := by simp
  go_enter Try.func112, Try.ntmps112
  go_wp2
  go_ret
  exact ⟨rfl, (by repeat (first | exact Below.refl _ _ | refine bel_al ?_ _ | refine Below.setCell ?_ (by first | (simp; done) | (simp; omega)) _ | refine Below.drew ?_ | refine bel_drewN ?_ _))⟩
theorem eqSkippedKeyS_yes (v u : Value) (n : Nat) (l : List Int) (w : World) (hs : Sk w v n l) (hu : Sk w u n l) :
    Calls Try.prog 75 #[v, u] w fun e w' => e = .returned (.bool true) ∧ Below w.heap.size w w' := by
  obtain ⟨a, c, rfl, hm⟩ := hs.shape
  obtain ⟨a', c', rfl, hm'⟩ := hu.shape
  have HS := Lib.hid hs
  have HU := Lib.hid hu
  have hne : ((n : Int) != (n : Int)) = false := by simp
  have B0 := Lib.hid (Below.refl w.heap.size w)
  clear hs hu
  go_enter Try.func75, Try.ntmps75
  go_wp2
  go_loopw [5] (fun i wr => ∃ k : Nat, k ≤ n ∧ i = .int .i64 k ∧ Hid (Below w.heap.size w wr)) (fun i _ => n - (intOf i).toNat)
  case atStart => exact ⟨0, Nat.zero_le _, rfl, B0⟩
  case round =>
    obtain ⟨k, hk, rfl, BW⟩ := hrel
    by_cases hlt : k < n
    · obtain ⟨b, off, rfl, hb, h4⟩ := (HS.out.below BW.out).at hlt
      obtain ⟨b', off', rfl, hb', h4'⟩ := (HU.out.below BW.out).at hlt
      obtain ⟨hc1, hc2⟩ := h4 k hlt
      obtain ⟨hc3, hc4⟩ := h4' k hlt
      clear h4 h4' hb hb'
      generalize l.getD (2 * k) 0 = x at hc1 hc3
      generalize l.getD (2 * k + 1) 0 = y at hc2 hc4
      go_wp2_with fail
      go_region_held3 (fun W' => W'.cell? ⟨b, off + k * 2, none⟩ = some (.int .i64 x) ∧ W'.cell? ⟨b, off + k * 2 + 1, none⟩ = some (.int .i64 y) ∧ W'.cell? ⟨b', off' + k * 2, none⟩ = some (.int .i64 x) ∧ W'.cell? ⟨b', off' + k * 2 + 1, none⟩ = some (.int .i64 y) ∧ Below wr.heap.size wr W') (first | assumption | exact keep4 (bel_seq (bel4 ‹_›) hbh) hc1 hc2 hc3 hc4 | exact keep4 ((Below.refl _ _).drew) hc1 hc2 hc3 hc4) (first | (go_at_call 112; (refine (eqSkippedKey_yes x y _).mono ?_); rintro e w6 ⟨rfl, hbh⟩))
      have B2 := Lib.hid (BW.out.trans (by have h := (bel4 ‹_› : Below wr.heap.size wr w6); exact h.mono BW.out.size))
      go_wp2
      go_roundw
      case rel => exact ⟨k + 1, by omega, by go_num, B2⟩
      case measure => simp [intOf]; omega
    · have : k = n := by omega
      subst this
      go_wp2
      go_ret
      exact ⟨rfl, BW.out⟩
theorem toSkippedKey (x y : Int) (w : World) : Calls Try.prog 111 #[.agg #[.int .i64 x, .int .i64 y]] w fun e w' => e = .returned (.agg #[.int .i64 x, .int .i64 y]) ∧ Below w.heap.size w w' := by
  go_enter Try.func111, Try.ntmps111
  go_wp2
  refine bodyPost_ret (v := .agg #[.int .i64 x, .int .i64 y]) (by simp [results, Try.results111, go_sem, *]) rfl ⟨rfl, (by repeat (with_reducible (first | exact Below.refl _ _ | refine bel_al ?_ _ | refine Below.setCell ?_ (by first | (simp; done) | (simp; omega)) _ | refine Below.drew ?_ | refine bel_drewN ?_ _)))⟩
theorem made2 (u : Value) (n : Nat) : (madeCells #[u, u] n).toList = List.replicate n u := by
  apply List.ext_getElem
  · simp [madeCells]
  · intro i h1 h2
    have : i % 2 = 0 ∨ i % 2 = 1 := by omega
    rcases this with h | h <;> simp [madeCells, h]
theorem infoSkipped : (Try.prog.info? 93).map (fun i => (i.zero, i.size, i.bytes)) = some (some (.agg #[.int .i64 0, .int .i64 0]), 2, 16) := by kernel_rfl
/-- 'make([]SkippedKey, n)' -/
theorem wpList_mkK {w : World} {ops : Array Oper} {rest : List Oper} {o : Oper} {a : Act} {Q : Exit → Act → World → Prop} (hg : o.guard = none) (l c : Operand) (hop : o.op = Op.makeSlice 26 l c)
    (base : Nat) (n : Nat) (hl : a.eval l = .int .i64 n) (hc : a.eval c = .int .i64 n) (hn : n ≤ 1099511627776) (hb : base ≤ w.heap.size)
    (h : ∀ w', OwnK base w' (some ⟨w.heap.size, 0, none⟩) n n (List.replicate (2 * n) 0) → Below w.heap.size w w' → wpList Try.prog ops Q rest (a.put o.dst (.slice (some ⟨w.heap.size, 0, none⟩) n n)) w') : wpList Try.prog ops Q (o :: rest) a w := by
  obtain ⟨i, hi1, hi2, hi3, hi4⟩ := info_parts infoSkipped
  refine wpList_make_full w hg l c 26 hop base 93 i (.agg #[.int .i64 0, .int .i64 0]) 2 Try.underlying26 hi1 hi2 hi3 .i64 .i64 n n n hl hc rfl rfl ?_ (by unfold maxLen; omega) hb ?_
  · rw [hi4]
    calc 16 * n ≤ 16 * 1099511627776 := Nat.mul_le_mul (Nat.le_refl _) hn
      _ ≤ 281474976710656 := by omega
  · intro w' hown hgr
    refine h w' ⟨by simp, ?_⟩ (grown_below hgr (Nat.le_refl _) (fun k hk => by cases hk))
    have e1 : (madeCells (Value.agg #[.int .i64 0, .int .i64 0]).cells (n * 2)).toList = (List.replicate (2 * n) (0 : Int)).map (Value.int .i64) := by
      rw [show (Value.agg #[.int .i64 0, .int .i64 0]).cells = #[.int .i64 0, .int .i64 0] from rfl, made2, List.map_replicate, Nat.mul_comm]
    rw [← e1]
    exact hown
theorem toSkippedKeyS (v : Value) (n : Nat) (l : List Int) (w : World) (hs : Sk w v n l) (hn : n ≤ 1048576) :
    Calls Try.prog 73 #[v] w fun e w' => ∃ g, e = .returned (.slice (some ⟨g, 0, none⟩) n n) ∧ w.heap.size ≤ g ∧ g < w'.heap.size ∧ OwnK w.heap.size w' (some ⟨g, 0, none⟩) n n l ∧ Below w.heap.size w w' := by
  obtain ⟨a, c, rfl, hm⟩ := hs.shape
  have HS := Lib.hid hs
  have HL := Lib.hid hs.1
  have hn2 : n ≤ 1099511627776 := by omega
  clear hs
  go_enter Try.func73, Try.ntmps73
  go_wp2_with (first | (at_make; refine wpList_mkK rfl _ _ rfl w.heap.size n rfl rfl hn2 (Nat.le_refl _) ?_; intro w1 hown1 hb1))
  have hg1 := hown1.blk
  have O1 := Lib.hid hown1
  have B1 := Lib.hid hb1
  clear hown1 hb1
  go_loopw [4] (fun i wr => ∃ k : Nat, k ≤ n ∧ i = .int .i64 k ∧ OwnK w.heap.size wr (some ⟨w.heap.size, 0, none⟩) n n (l.take (2 * k) ++ List.replicate (2 * n - 2 * k) 0) ∧ Below w.heap.size w wr) (fun i _ => n - (intOf i).toNat)
  case atStart => exact ⟨0, Nat.zero_le _, rfl, by simpa using O1.out, B1.out⟩
  case round =>
    obtain ⟨k, hk, rfl, hown, hbw⟩ := hrel
    by_cases hlt : k < n
    · obtain ⟨b, off, rfl, hb, h4⟩ := (HS.out.below hbw).at hlt
      obtain ⟨hc1, hc2⟩ := h4 k hlt
      have BW := Lib.hid hbw
      have O := Lib.hid hown
      clear h4 hb hbw hown
      obtain ⟨x, hx⟩ : ∃ x, x = l.getD (2 * k) 0 := ⟨_, rfl⟩
      obtain ⟨y, hy⟩ : ∃ y, y = l.getD (2 * k + 1) 0 := ⟨_, rfl⟩
      rw [← hx] at hc1
      rw [← hy] at hc2
      have HX := Lib.hid hx
      have HY := Lib.hid hy
      clear hx hy
      go_wp2_with fail
      refine (toSkippedKey x y _).mono ?_
      rintro e w2 ⟨rfl, hb2⟩
      have O2 := O.out.below hb2
      have hf1 := O2.frozenAt (k * 2)
      have hf2 := O2.frozenAt (k * 2 + 1)
      have hd1 := O2.cellAt (j := k * 2) (by omega)
      have hd2 := O2.cellAt (j := k * 2 + 1) (by omega)
      have hst1 := O2.stored (k * 2) x
      have hst2 := hst1.1.stored (k * 2 + 1) y
      have E1 : ((l.take (2 * k) ++ List.replicate (2 * n - 2 * k) 0).set (k * 2) x).set (k * 2 + 1) y = l.take (2 * (k + 1)) ++ List.replicate (2 * n - 2 * (k + 1)) 0 := by
        have hl := HL.out
        rw [Nat.mul_comm k 2, HX.out, copy_step l (2 * k) (2 * n) (by omega) hl, HY.out, copy_step l (2 * k + 1) (2 * n) (by omega) hl]
        rfl
      rw [E1] at hst2
      have HST := Lib.hid hst2.1
      have HB := Lib.hid (grown_below (grown_trans hst1.2 hst2.2) (B := w.heap.size) (by have := BW.out.size; have := hb2.size; omega) (fun j hj => by cases hj; exact Nat.le_refl _))
      have BW2 := Lib.hid (BW.out.trans (hb2.mono BW.out.size))
      generalize (l.take (2 * k) ++ List.replicate (2 * n - 2 * k) 0).getD (k * 2) 0 = y1 at hd1
      generalize (l.take (2 * k) ++ List.replicate (2 * n - 2 * k) 0).getD (k * 2 + 1) 0 = y2 at hd2
      clear hst1 hst2 E1 O2 hb2
      go_wp2
      go_roundw
      case rel => exact ⟨k + 1, by omega, by go_num, HST.out, BW2.out.trans HB.out⟩
      case measure => simp [intOf]; omega
    · have : k = n := by omega
      subst this
      have O := Lib.hid hown
      have BW := Lib.hid hbw
      have hz := hown.blk.2
      clear hown hbw
      go_wp2
      go_ret
      refine ⟨_, rfl, Nat.le_refl _, hz, ?_, BW.out⟩
      have := O.out
      have hl := HL.out
      rw [List.take_of_length_le (by omega), Nat.sub_self] at this
      simpa using this
theorem markSkippedKeyS (ao : Option Addr) (N cap : Nat) (base : Nat) (l : List Int) (j : Int) (w : World) (ho : OwnK base w ao N cap l) (hN : N ≤ 1048576) (h0 : 0 ≤ j) (h1 : j ≤ 16777216) :
    Calls Try.prog 76 #[.slice ao N cap, .int .i64 j] w fun e w' => e = .returned (.int .i64 (j + 2 * N)) ∧ OwnK base w' ao N cap (marks cvIntS j (2 * N)) ∧ w.grownBy w' (ownB ao) := by
  rcases ho.shape with ⟨rfl, rfl, rfl⟩ | ⟨g, rfl, hg1, hg2⟩
  · have hl : l = [] := List.length_eq_zero_iff.1 ho.1
    subst hl
    have HO := Lib.hid ho
    clear ho
    go_enter Try.func76, Try.ntmps76
    go_wp2
    go_loop [1, 5] (fun jj i => i = .int .i64 0 ∧ jj = .int .i64 j) (fun _ _ => 0)
    case atStart => exact ⟨rfl, rfl⟩
    case round =>
      obtain ⟨rfl, rfl⟩ := hrel
      go_wp2
      go_ret
      exact ⟨ret_int (by simp), HO.out, World.grownBy.refl _ _⟩
  · have HO := Lib.hid ho
    have HL := Lib.hid ho.1
    clear ho
    go_enter Try.func76, Try.ntmps76
    go_wp2
    go_loopw [1, 5] (fun jj i wr => ∃ k : Nat, k ≤ N ∧ i = .int .i64 k ∧ jj = .int .i64 (j + 2 * k) ∧ OwnK base wr (some ⟨g, 0, none⟩) N cap (marks cvIntS j (2 * k) ++ l.drop (2 * k)) ∧ w.grownBy wr (some g)) (fun _ i _ => N - (intOf i).toNat)
    case atStart => exact ⟨0, Nat.zero_le _, rfl, by simp, by simpa [marks] using HO.out, World.grownBy.refl _ _⟩
    case round =>
      obtain ⟨k, hk, rfl, rfl, hown, hgw⟩ := hrel
      by_cases hlt : k < N
      · have hc1 := hown.cellAt (j := k * 2) (by omega)
        have hc2 := hown.cellAt (j := k * 2 + 1) (by omega)
        have hf1 := hown.frozenAt (k * 2)
        have hf2 := hown.frozenAt (k * 2 + 1)
        have hst1 := hown.stored (k * 2) (j + 2 * k)
        have hst2 := hst1.1.stored (k * 2 + 1) (j + 2 * k + 1)
        have E1 : ((marks cvIntS j (2 * k) ++ l.drop (2 * k)).set (k * 2) (j + 2 * k)).set (k * 2 + 1) (j + 2 * k + 1) = marks cvIntS j (2 * (k + 1)) ++ l.drop (2 * (k + 1)) := by
          have hl := HL.out
          have e1 := mark_step cvIntS l j (2 * k) (by omega)
          have e2 := mark_step cvIntS l j (2 * k + 1) (by omega)
          unfold cvIntS at e1 e2 ⊢
          push_cast at e1 e2
          rw [Nat.mul_comm k 2, e1, Int.add_assoc, e2]
          rfl
        rw [E1] at hst2
        have HST := Lib.hid hst2.1
        have HG := Lib.hid (grown_trans hgw (grown_trans hst1.2 hst2.2))
        clear hst1 hst2 E1 hown hgw
        generalize (marks cvIntS j (2 * k) ++ l.drop (2 * k)).getD (k * 2) 0 = y1 at hc1
        generalize (marks cvIntS j (2 * k) ++ l.drop (2 * k)).getD (k * 2 + 1) 0 = y2 at hc2
        go_wp2
        go_roundw
        case rel => exact ⟨k + 1, by omega, by go_num, by go_num, HST.out, HG.out⟩
        case measure => simp [intOf]; omega
      · have : k = N := by omega
        subst this
        have O := Lib.hid hown
        have G := Lib.hid hgw
        clear hown hgw
        go_wp2
        go_ret
        refine ⟨rfl, ?_, G.out⟩
        have := O.out
        rw [List.drop_of_length_le (by have := HL.out; omega), List.append_nil] at this
        exact this
theorem heldSkippedKeyS (v : Value) (N : Nat) (j : Int) (w : World) (hs : Sk w v N (marks cvIntS j (2 * N))) (hN : N ≤ 1048576) (h0 : 0 ≤ j) (h1 : j ≤ 16777216) :
    Calls Try.prog 77 #[v, .int .i64 j] w fun e w' => e = .returned (.int .i64 (j + 2 * N)) ∧ w = w' := by
  obtain ⟨a, c, rfl, hm⟩ := hs.shape
  have HS := Lib.hid hs
  clear hs
  go_enter Try.func77, Try.ntmps77
  go_wp2
  go_loop [1, 5] (fun jj i => ∃ k : Nat, k ≤ N ∧ i = .int .i64 k ∧ jj = .int .i64 (j + 2 * k)) (fun _ i => N - (intOf i).toNat)
  case atStart => exact ⟨0, Nat.zero_le _, rfl, by simp⟩
  case round =>
    obtain ⟨k, hk, rfl, rfl⟩ := hrel
    by_cases hlt : k < N
    · obtain ⟨b, off, rfl, hb, h4⟩ := HS.out.at hlt
      obtain ⟨hc1, hc2⟩ := h4 k hlt
      rw [marks_getD cvIntS j (by omega)] at hc1 hc2
      unfold cvIntS at hc1 hc2
      push_cast at hc1 hc2
      rw [← Int.add_assoc] at hc2
      clear h4 hb
      have e1 : ((j + 2 * (k : Int)) != (j + 2 * (k : Int))) = false := by simp
      have e2 : ((j + 2 * (k : Int) + 1) != (j + 2 * (k : Int) + 1)) = false := by simp
      go_wp2
      go_round
      case rel => exact ⟨k + 1, by omega, by go_num, by go_num⟩
      case measure => simp [intOf]; omega
    · have : k = N := by omega
      subst this
      go_wp2
      go_ret
      exact ⟨rfl, rfl⟩
@[go_sem high] theorem neqSk (x y x' y' : Int) (w : World) : (binOp .neq 93 (.agg #[.int .i64 x, .int .i64 y]) (.agg #[.int .i64 x', .int .i64 y'])).run Try.prog w = .ok (.bool (!(x == x' && y == y'))) w := by
  have hS : Try.prog.underlying 93 = some (.struct (Try.prog.fieldsOf 93)) := by kernel_rfl
  have hp : Try.prog.stoodInHeld 93 = false := by kernel_rfl
  have u3 := Try.underlying3
  have a3 := Try.isAgg3
  have z3 := Try.sizeOf3
  rw [run_neq_struct, show (10000 : Nat) = 9999 + 1 from rfl, run_equalIn_agg w 9999 93 _ _ hS hp]
  simp only [Program.fieldsOf, Try.underlying93]
  go_simp
  by_cases h1 : x = x' <;> by_cases h2 : y = y' <;> simp [h1, h2]
theorem skGuard : Try.prog.eqGuardType Try.prog.depth 93 = false := by kernel_rfl
theorem beq_pairs {l m : List Int} {n : Nat} (h1 : l.length = 2 * n) (h2 : m.length = 2 * n) (he : ∀ i, i < 2 * n → l.getD i 0 = m.getD i 0) : (l == m) = true := by
  rw [beq_iff_eq]; exact eq_of_getD (by omega) (fun i hi => he i (by omega))
theorem skEqual (v u : Value) (n m : Nat) (l k0 : List Int) (w : World) (hs : Sk w v n l) (hu : Sk w u m k0) : Calls Try.prog 99 #[v, u] w fun e w' => e = .returned (.bool (l == k0)) ∧ Below w.heap.size w w' := by
  obtain ⟨a, c, rfl, hm⟩ := hs.shape
  obtain ⟨a', c', rfl, hm'⟩ := hu.shape
  have HS := Lib.hid hs
  have HU := Lib.hid hu
  have hgt := skGuard
  clear hs hu
  by_cases hl : n = m
  · subst hl
    have hne : ((n : Int) != (n : Int)) = false := by simp
    go_enter Try.func99, Try.ntmps99
    go_wp2
    go_loopw [13, 5] (fun i _ wr => ∃ k : Nat, k ≤ n ∧ i = .int .i64 k ∧ (∃ n, wr = w.drewN n) ∧ Hid (∀ j, j < 2 * k → l.getD j 0 = k0.getD j 0)) (fun i _ _ => n - (intOf i).toNat)
    case atStart => exact ⟨0, Nat.zero_le _, rfl, ⟨0, rfl⟩, Lib.hid (fun j hj => by omega)⟩
    case round =>
      obtain ⟨k, hk, rfl, ⟨nd, rfl⟩, HK⟩ := hrel
      by_cases hlt : k < n
      · obtain ⟨b, off, rfl, hb, h4⟩ := HS.out.at hlt
        obtain ⟨b', off', rfl, hb', h4'⟩ := HU.out.at hlt
        have hc1 : (w.drewN nd).cell? ⟨b, off + k * 2, none⟩ = _ := (h4 k hlt).1
        have hc2 : (w.drewN nd).cell? ⟨b, off + k * 2 + 1, none⟩ = _ := (h4 k hlt).2
        have hc3 : (w.drewN nd).cell? ⟨b', off' + k * 2, none⟩ = _ := (h4' k hlt).1
        have hc4 : (w.drewN nd).cell? ⟨b', off' + k * 2 + 1, none⟩ = _ := (h4' k hlt).2
        clear h4 h4' hb hb'
        generalize hww : w.drewN nd = wn at hc1 hc2 hc3 hc4 ⊢
        have HW := Lib.hid hww
        clear hww
        by_cases he : (l.getD (2 * k) 0 == k0.getD (2 * k) 0 && l.getD (2 * k + 1) 0 == k0.getD (2 * k + 1) 0) = true
        · have HK' : Hid (∀ j, j < 2 * (k + 1) → l.getD j 0 = k0.getD j 0) := Lib.hid (fun j hj => by
            simp only [Bool.and_eq_true, beq_iff_eq] at he
            rcases Nat.lt_or_ge j (2 * k) with h | h
            · exact HK.out j h
            · rcases (show j = 2 * k ∨ j = 2 * k + 1 by omega) with h | h <;> rw [h]
              · exact he.1
              · exact he.2)
          generalize l.getD (2 * k) 0 = x at hc1 he
          generalize l.getD (2 * k + 1) 0 = y at hc2 he
          generalize k0.getD (2 * k) 0 = x' at hc3 he
          generalize k0.getD (2 * k + 1) 0 = y' at hc4 he
          go_wp2_with fail
          go_quiet (fail)
          go_wp2
          go_roundw
          case rel => exact ⟨k + 1, by omega, by go_num, ⟨_, by rw [← HW.out, World.drewN_drewN]⟩, HK'⟩
          case measure => simp [intOf]; omega
        · have HF : Hid ((l == k0) = false) := Lib.hid (by
            simp only [Bool.and_eq_true, beq_iff_eq] at he
            by_cases h : l.getD (2 * k) 0 = k0.getD (2 * k) 0
            · exact beq_list_at (2 * k + 1) (fun h2 => he ⟨h, h2⟩)
            · exact beq_list_at (2 * k) h)
          rw [Bool.not_eq_true] at he
          generalize l.getD (2 * k) 0 = x at hc1 he
          generalize l.getD (2 * k + 1) 0 = y at hc2 he
          generalize k0.getD (2 * k) 0 = x' at hc3 he
          generalize k0.getD (2 * k + 1) 0 = y' at hc4 he
          go_wp2_with fail
          go_quiet (fail)
          go_wp2
          go_ret
          exact ⟨ret_bool HF.out.symm, by rw [← HW.out]; exact bel_drewN (bel_drewN (Below.refl _ _) _) _⟩
      · have : k = n := by omega
        subst this
        have HF := Lib.hid (beq_pairs HS.out.1 HU.out.1 HK.out)
        go_wp2
        go_ret
        exact ⟨ret_bool HF.out.symm, bel_drewN (Below.refl _ _) _⟩
  · have HF := Lib.hid (beq_list_len (l := l) (m := k0) (by have := HS.out.1; have := HU.out.1; omega))
    have hne : ((n : Int) != (m : Int)) = true := by rw [bne_iff_ne]; omega
    clear hl
    go_enter Try.func99, Try.ntmps99
    go_wp2
    go_ret
    exact ⟨ret_bool HF.out.symm, Below.refl _ _⟩
end Go.Proofs.Ytelcpihbdgikfaa
