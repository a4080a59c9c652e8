/- The walks of copying a list of spent numbers and of inserting one. -/
import Derived.Test.YtdodheahckpkfaaProg
import Derived.Test.YtdodheahckpkfaaSpentIns
import Derived.Test.YtdodheahckpkfaaRowIn
import Derived.Deep.RegionLaw
import Derived.Deep.RegionHeld3
import Derived.ChangeAlike
namespace Go.Proofs.Ytdodheahckpkfaa
open Go.RowKit

/-- two cells of block b hold these values and may be written -/
def Two (W : World) (b : Nat) (v0 v1 : Value) : Prop := W.cell? ⟨b, 0, none⟩ = some v0 ∧ W.cell? ⟨b, 1, none⟩ = some v1 ∧ W.frozen? ⟨b, 0, none⟩ = false ∧ W.frozen? ⟨b, 1, none⟩ = false
theorem Two.new (w : World) (v0 v1 : Value) (e : TypeId) : Two (w.alloc (.cells #[v0, v1] e)) w.heap.size v0 v1 := by
  refine ⟨by simp, by simp, by simp [go_sem], by simp [go_sem]⟩
theorem Two.lt {W : World} {b : Nat} {v0 v1 : Value} (h : Two W b v0 v1) : b < W.heap.size := World.block_lt_of_cell? W _ h.1
theorem Two.keep {B : Nat} {W W' : World} {b : Nat} {v0 v1 : Value} (h : Two W b v0 v1) (hB : Below B W W') (hb : b < B) : Two W' b v0 v1 := by
  obtain ⟨h0, h1, f0, f1⟩ := h
  exact ⟨(hB.cell (p := ⟨b, 0, none⟩) hb).trans h0, (hB.cell (p := ⟨b, 1, none⟩) hb).trans h1, (hB.frozen (p := ⟨b, 0, none⟩) hb).trans f0, (hB.frozen (p := ⟨b, 1, none⟩) hb).trans f1⟩
theorem Two.below {W W' : World} {b : Nat} {v0 v1 : Value} (h : Two W b v0 v1) (hB : Below W.heap.size W W') : Two W' b v0 v1 := h.keep hB h.lt
theorem Two.alloc {W : World} {b : Nat} {v0 v1 : Value} (h : Two W b v0 v1) (o : Obj) : Two (W.alloc o) b v0 v1 := h.below (bel_al (Below.refl _ _) o)
theorem Two.grown {W W' : World} {row : Option Nat} {b : Nat} {v0 v1 : Value} (h : Two W b v0 v1) (hg : W.grownBy W' row) (hne : some b ≠ row) : Two W' b v0 v1 := by
  have hl := h.lt
  obtain ⟨h0, h1, f0, f1⟩ := h
  have hf : ∀ o, W'.frozen? ⟨b, o, none⟩ = W.frozen? ⟨b, o, none⟩ := fun o => World.frozen?_of_block (hg.block b hl hne)
  exact ⟨hg.cell h0 hne, hg.cell h1 hne, (hf 0).trans f0, (hf 1).trans f1⟩
theorem Two.set0 {W : World} {b : Nat} {v0 v1 : Value} (h : Two W b v0 v1) (u : Value) : Two (W.setCell ⟨b, 0, none⟩ u) b u v1 := by
  have hz := h.lt
  obtain ⟨h0, h1, f0, f1⟩ := h
  refine ⟨?_, ?_, ?_, ?_⟩ <;> simp [go_sem, *]
theorem Two.set1 {W : World} {b : Nat} {v0 v1 : Value} (h : Two W b v0 v1) (u : Value) : Two (W.setCell ⟨b, 1, none⟩ u) b v0 u := by
  have hz := h.lt
  obtain ⟨h0, h1, f0, f1⟩ := h
  refine ⟨?_, ?_, ?_, ?_⟩ <;> simp [go_sem, *]
theorem Own.cells {k : IntKind} {e : TypeId} {base : Nat} {w : World} {ao : Option Addr} {N cap : Nat} {l : List Int} (h : Own k e base w ao N cap l) {b o : Nat} (hb : b < base) (u : Value) : Own k e base (w.setCell ⟨b, o, none⟩ u) ao N cap l := by
  refine h.grown (grown_setCellW _ _ _ _) ?_
  rcases h.shape with ⟨rfl, _⟩ | ⟨g, rfl, hg, _⟩
  · exact .inl rfl
  · exact .inr (by simp [ownB]; omega)
theorem Own.notB {k : IntKind} {e : TypeId} {base : Nat} {w : World} {ao : Option Addr} {N cap : Nat} {l : List Int} (h : Own k e base w ao N cap l) {b : Nat} (hb : w.heap.size ≤ b ∨ b < base) : ownB ao = none ∨ ownB ao ≠ some b := by
  rcases h.shape with ⟨rfl, _⟩ | ⟨g, rfl, hg, hg2⟩
  · exact .inl rfl
  · exact .inr (by simp [ownB]; omega)
theorem keep2g {w W' : World} {row : Option Nat} {a0 a1 : Addr} {u0 u1 : Value} (h0 : w.cell? a0 = some u0) (h1 : w.cell? a1 = some u1) (n0 : some a0.block ≠ row) (n1 : some a1.block ≠ row) (hg : w.grownBy W' row) : W'.cell? a0 = some u0 ∧ W'.cell? a1 = some u1 ∧ w.grownBy W' row := ⟨hg.cell h0 n0, hg.cell h1 n1, hg⟩
/-- a list and its epoch are returned; the list lies in memory of the call's own -/
def SpPost (x : Int) (L : List Int) (w : World) (e : Ending) (w' : World) : Prop := ∃ ao N cap, e = .returned (.agg #[.int .i64 x, .slice ao N cap]) ∧ Own .i64 3 w.heap.size w' ao N cap L ∧ Below w.heap.size w w'
set_option maxRecDepth 100000 in
set_option maxHeartbeats 1000000 in
theorem implInserted (v : Value) (l : List Int) (x : Int) (w : World) (hs : Sl .i64 w v l) (hl : l.length ≤ 1048576) (hso : l.Pairwise (· ≤ ·)) :
    Calls Try.prog 69 #[v, .int .i64 x] w fun e w' => ∃ ao N cap, e = .returned (.slice ao N cap) ∧ Own .i64 3 w.heap.size w' ao N cap (insI l x) ∧ Below w.heap.size w w' := by
  have CB := Lib.hid (binI v l x w hs hl hso)
  have HS := Lib.hid hs
  have hk := insK_le l x
  have HI := Lib.hid (show insI l x = l.take (insK l x) ++ [x] ++ l.drop (insK l x) from rfl)
  generalize insK l x = K at CB hk HI
  generalize insI l x = L at HI ⊢
  obtain ⟨a, c, rfl, hm⟩ := hs.shape
  clear hs hso
  go_enter Try.func69, Try.ntmps69
  go_wp2_with fail
  refine CB.out.mono ?_
  rintro e w1 ⟨⟨b, rfl⟩, hb1⟩
  go_wp2_with fail
  refine (cloneI _ l w1 (HS.out.below hb1) hl).mono ?_
  rintro e w2 ⟨ao, N, cap, rfl, ho2, hb2⟩
  obtain rfl := ho2.len
  have hne := ho2.rowIn.cell (b := w2.heap.size) (.inr (Nat.le_refl _))
  have h12 := hb2.size
  have CI := Lib.hid (insertI w1.heap.size ao _ cap l K x w2.heap.size 3 (w2.alloc (.cells #[.int .i64 x] 3)) (ho2.alloc _) (by omega) (by omega) (heap_alloc_new w2 _) hne (by simp; omega))
  have B2 := Lib.hid (bel_seq hb1 hb2)
  have h01 := hb1.size
  clear hb1 hb2 ho2 hne
  go_wp2_with fail
  refine CI.out.mono ?_
  rintro e w3 ⟨ao3, N3, cap3, rfl, ho3, _, hb3⟩
  go_wp2
  go_ret
  exact ⟨_, _, _, rfl, by rw [HI.out]; exact ho3.mono h01, (bel_al B2.out _).trans (hb3.mono h01)⟩
set_option maxRecDepth 100000 in
theorem implCopyS (x : Int) (v : Value) (l : List Int) (w : World) (hs : Sl .i64 w v l) (hl : l.length ≤ 1048576) : Calls Try.prog 67 #[.agg #[.int .i64 x, v]] w (SpPost x l w) := by
  obtain ⟨a, c, rfl, hm⟩ := hs.shape
  have HS := Lib.hid ((hs.alloc (.cells #[.int .i64 x, .slice a l.length c] 27)).alloc (.cells #[.int .i64 0, .slice none 0 0] 27))
  have P := (Two.new w (.int .i64 x) (.slice a l.length c) 27).alloc (.cells #[.int .i64 0, .slice none 0 0] 27)
  have Q := Two.new (w.alloc (.cells #[.int .i64 x, .slice a l.length c] 27)) (.int .i64 0) (.slice none 0 0) 27
  have hb0 : Below w.heap.size w ((w.alloc (.cells #[.int .i64 x, .slice a l.length c] 27)).alloc (.cells #[.int .i64 0, .slice none 0 0] 27)) := bel_al (bel_al (Below.refl _ _) _) _
  have hz : ((w.alloc (.cells #[.int .i64 x, .slice a l.length c] 27)).alloc (.cells #[.int .i64 0, .slice none 0 0] 27)).heap.size = w.heap.size + 2 := by simp
  rw [World.size_alloc] at Q
  clear hs
  go_enter Try.func67, Try.ntmps67
  go_wp2_with fail
  generalize (w.alloc (.cells #[.int .i64 x, .slice a l.length c] 27)).alloc (.cells #[.int .i64 0, .slice none 0 0] 27) = W0 at HS P Q hb0 hz ⊢
  have CC := Lib.hid (fun W (h : Below W0.heap.size W0 W) => cloneI (.slice a l.length c) l W (HS.out.below h) hl)
  have B0 := Lib.hid hb0
  have PH := Lib.hid P
  have QH := Lib.hid Q
  have hn : some w.heap.size ≠ some (w.heap.size + 1) := by simp
  have HZ := Lib.hid hz
  clear hz
  obtain ⟨p0, p1, _, _⟩ := P
  clear Q hb0
  go_region_held3 (fun W' => W'.cell? ⟨w.heap.size, 0, none⟩ = some (.int .i64 x) ∧ W'.cell? ⟨w.heap.size, 1, none⟩ = some (.slice a l.length c) ∧ W0.grownBy W' (some (w.heap.size + 1))) (first | assumption | (refine keep2g p0 p1 hn hn ?_; first | (refine grown_trans (grown_trans ?_ (grown_setCellW _ _ _ _)) (grown_setCellW _ _ _ _); refine below_grown ?_ _; repeat (first | exact Below.refl _ _ | refine bel_al ?_ _ | refine Below.drew ?_ | refine bel_seq ?_ hb1)) | (refine below_grown ?_ _; repeat (first | exact Below.refl _ _ | refine bel_al ?_ _ | refine Below.drew ?_ | refine bel_seq ?_ hb1)))) (first | (go_at_call 91; (refine (CC.out _ (by repeat (first | exact Below.refl _ _ | refine Below.drew ?_))).mono ?_); rintro e w1 ⟨ao, N, cap, rfl, ho1, hb1⟩; have hb01 : Below W0.heap.size W0 w1 := (by first | exact hb1 | exact bel_seq (Below.refl _ _).drew hb1); have Q1 := Lib.hid (QH.out.below hb01); obtain ⟨q0, q1, r0, r1⟩ := Q1.out; have hzq := Q1.out.lt))
  all_goals
    have O1 := Lib.hid (ho1.mono (show w.heap.size + 2 ≤ _ by first | exact Nat.le_of_eq HZ.out.symm | (have := HZ.out; simp; omega)))
    have B1 := Lib.hid (bel_seq B0.out hb01)
    go_wp2
    refine bodyPost_ret (v := .agg #[.int .i64 x, .slice ao N cap]) (by simp [results, Try.results67, go_sem, *]) rfl ⟨ao, N, cap, rfl, ?_, (by repeat (with_reducible (first | exact Below.refl _ _ | refine bel_al ?_ _ | refine Below.setCell ?_ (by first | (simp; done) | (simp; omega)) _ | refine Below.drew ?_ | refine bel_drewN ?_ _ | refine bel_seq ?_ (B1.out))))⟩
    refine Own.mono (base := w.heap.size + 2) ?_ (by omega)
    repeat (first | exact O1.out | exact O1.out.drew | refine Own.cells ?_ (by omega) _ | refine Own.drew ?_)
set_option maxRecDepth 100000 in
theorem specCopyS (x : Int) (v : Value) (l : List Int) (w : World) (hs : Sl .i64 w v l) (hl : l.length ≤ 1048576) : Calls Try.prog 65 #[.agg #[.int .i64 x, v]] w (SpPost x l w) := by
  obtain ⟨a, c, rfl, hm⟩ := hs.shape
  have HS := Lib.hid ((hs.alloc (.cells #[.int .i64 x, .slice a l.length c] 27)).alloc (.cells #[.int .i64 0, .slice none 0 0] 27))
  have P := (Two.new w (.int .i64 x) (.slice a l.length c) 27).alloc (.cells #[.int .i64 0, .slice none 0 0] 27)
  have Q := Two.new (w.alloc (.cells #[.int .i64 x, .slice a l.length c] 27)) (.int .i64 0) (.slice none 0 0) 27
  have hb0 : Below w.heap.size w ((w.alloc (.cells #[.int .i64 x, .slice a l.length c] 27)).alloc (.cells #[.int .i64 0, .slice none 0 0] 27)) := bel_al (bel_al (Below.refl _ _) _) _
  have hz : ((w.alloc (.cells #[.int .i64 x, .slice a l.length c] 27)).alloc (.cells #[.int .i64 0, .slice none 0 0] 27)).heap.size = w.heap.size + 2 := by simp
  rw [World.size_alloc] at Q
  clear hs
  go_enter Try.func65, Try.ntmps65
  go_wp2_with fail
  generalize (w.alloc (.cells #[.int .i64 x, .slice a l.length c] 27)).alloc (.cells #[.int .i64 0, .slice none 0 0] 27) = W0 at HS P Q hb0 hz ⊢
  have B0 := Lib.hid hb0
  have QH := Lib.hid Q
  have hn : some w.heap.size ≠ some (w.heap.size + 1) := by simp
  have HZ := Lib.hid hz
  clear hz
  have hl1 : 0 + l.length ≤ 1099511627776 := by omega
  obtain ⟨p0, p1, _, _⟩ := P
  clear Q hb0
  go_region_held3 (fun W' => W'.cell? ⟨w.heap.size, 0, none⟩ = some (.int .i64 x) ∧ W'.cell? ⟨w.heap.size, 1, none⟩ = some (.slice a l.length c) ∧ W0.grownBy W' (some (w.heap.size + 1))) (first | assumption | (refine keep2g p0 p1 hn hn ?_; first | (refine grown_trans (grown_trans ?_ (grown_setCellW _ _ _ _)) (grown_setCellW _ _ _ _); refine below_grown ?_ _; repeat (first | exact Below.refl _ _ | refine bel_al ?_ _ | refine Below.drew ?_ | refine Below.trans ?_ hb1)) | (refine below_grown ?_ _; repeat (first | exact Below.refl _ _ | refine bel_al ?_ _ | refine Below.drew ?_ | refine Below.trans ?_ hb1)))) (first | (refine step_app rfl _ _ 22 (by rfl) W0.heap.size 3 .i64 (.int .i64 0) 8 Try.underlying22 info3 rfl (by omega) (some ⟨W0.heap.size, 0, none⟩) 0 0 [] (by rfl) (by first | exact Own.lit .i64 3 _ W0 [] (by simp [maxLen]) (Nat.le_refl _) | exact (Own.lit .i64 3 _ W0 [] (by simp [maxLen]) (Nat.le_refl _)).drew | exact Own.lit .i64 3 _ W0.drew [] (by simp [maxLen]) (Nat.le_refl _)) (.slice a l.length c) l (by rfl) (HS.out.below (by repeat (first | exact Below.refl _ _ | refine bel_al ?_ _ | refine Below.drew ?_))) hl1 (by simp) ?_; intro ao N cap w1 hN1 hN2 ho1 hg1 hb1; have hb01 : Below W0.heap.size W0 w1 := (by repeat (first | exact Below.refl _ _ | refine bel_al ?_ _ | refine Below.drew ?_ | refine Below.trans ?_ hb1)); have Q1 := Lib.hid (QH.out.below hb01); obtain ⟨q0, q1, r0, r1⟩ := Q1.out; have hzq := Q1.out.lt))
  all_goals
    rw [List.nil_append] at ho1
    have O1 := Lib.hid (ho1.mono (show w.heap.size + 2 ≤ _ by first | exact Nat.le_of_eq HZ.out.symm | (have := HZ.out; simp; omega)))
    have B1 := Lib.hid (bel_seq B0.out hb01)
    go_wp2
    refine bodyPost_ret (v := .agg #[.int .i64 x, .slice ao N cap]) (by simp [results, Try.results65, go_sem, *]) rfl ⟨ao, N, cap, rfl, ?_, (by repeat (with_reducible (first | exact Below.refl _ _ | refine bel_al ?_ _ | refine Below.setCell ?_ (by first | (simp; done) | (simp; omega)) _ | refine Below.drew ?_ | refine bel_drewN ?_ _ | refine bel_seq ?_ (B1.out))))⟩
    refine Own.mono (base := w.heap.size + 2) ?_ (by omega)
    repeat (first | exact O1.out | exact O1.out.drew | refine Own.cells ?_ (by omega) _ | refine Own.drew ?_)
end Go.Proofs.Ytdodheahckpkfaa
