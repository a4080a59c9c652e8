/- The walks of the functions that draw persons. -/
import Derived.Test.YtelcpihbdgikfaaProg
import Derived.Test.YtelcpihbdgikfaaDraw
import Derived.Test.YtelcpihbdgikfaaDialPlain
import Derived.Deep.RegionWith
namespace Go.Proofs.Ytelcpihbdgikfaa
open Go.RowKit

theorem grown_new {w w' : World} {row : Option Nat} {b o : Nat} {u : Value} (h : w.grownBy w' row) (hb : w.heap.size ≤ b) : w.grownBy (w'.setCell ⟨b, o, none⟩ u) row := by
  obtain ⟨h1, h2, h3, h4, h5⟩ := h
  exact ⟨h1, h2, h3, by simpa [World.setCell] using h4, fun i hi hne => (Below.heap_setCell _ _ _ _ (by show i ≠ b; omega)).trans (h5 i hi hne)⟩
theorem grown_cell {w w' : World} {row : Option Nat} {a : Addr} {u : Value} (hg : w.grownBy w' row) (hne : some a.block ≠ row) (h : w.cell? a = some u) : w'.cell? a = some u := hg.cell h hne
theorem grown_frozen {w w' : World} {row : Option Nat} {b o : Nat} (hg : w.grownBy w' row) (hne : some b ≠ row) (hl : b < w.heap.size) : w'.frozen? ⟨b, o, none⟩ = w.frozen? ⟨b, o, none⟩ := World.frozen?_of_block (hg.block b hl hne)
theorem Cur.above {w : World} {p : Nat} {v : Value} {l : List Int} (hc : Cur w p v l) {b : Nat} (hb : p < b) (o : Nat) (u : Value) : Cur (w.setCell ⟨b, o, none⟩ u) p v l := by
  obtain ⟨i, h, g0, g1, g2, f1, f2, hi0, hi1, hs, hne, hby⟩ := hc
  have hg := grown_set w b o u
  refine ⟨i, h, ?_, ?_, ?_, ?_, ?_, hi0, hi1, ?_, hne, hby⟩
  · exact (grown_cell hg (by simp; omega) g0)
  · exact (grown_cell hg (by simp; omega) g1)
  · exact (grown_cell hg (by simp; omega) g2)
  · exact (grown_frozen hg (by simp; omega) (World.block_lt_of_cell? w _ g1)).trans f1
  · exact (grown_frozen hg (by simp; omega) (World.block_lt_of_cell? w _ g2)).trans f2
  · by_cases h0 : 0 < l.length
    · exact hs.grown hg (fun b' off n c e => by have := hne b' off n c e h0; simp; omega)
    · obtain rfl : l = [] := List.length_eq_zero_iff.1 (by omega)
      rcases hs with h | ⟨b', off, cap, rfl, _, h2, _, _⟩
      · exact .inl h
      · exact .inl ⟨rfl, _, cap, rfl, h2, by simp⟩
/-- a person in memory of the call's own -/
def Box2 (W : World) (b : Nat) (v0 v1 : Value) : Prop :=
  W.cell? ⟨b, 0, none⟩ = some v0 ∧ W.cell? ⟨b, 1, none⟩ = some v1 ∧ W.frozen? ⟨b, 0, none⟩ = false ∧ W.frozen? ⟨b, 1, none⟩ = false
theorem Box2.lt {W : World} {b : Nat} {v0 v1 : Value} (h : Box2 W b v0 v1) : b < W.heap.size := World.block_lt_of_cell? W _ h.1
theorem Box2.new (w : World) (x y : Value) (e : TypeId) : Box2 (w.alloc (.cells #[x, y] e)) w.heap.size x y := by
  refine ⟨by simp, by simp, ?_, ?_⟩ <;> simp [go_sem]
theorem Box2.grown {W W' : World} {row : Option Nat} {b : Nat} {v0 v1 : Value} (h : Box2 W b v0 v1) (hg : W.grownBy W' row) (hne : some b ≠ row) : Box2 W' b v0 v1 := by
  have hl := h.lt
  obtain ⟨h0, h1, f0, f1⟩ := h
  have hf : ∀ o, W'.frozen? ⟨b, o, none⟩ = W.frozen? ⟨b, o, none⟩ := fun o => World.frozen?_of_block (hg.block b hl hne)
  exact ⟨hg.cell h0 hne, hg.cell h1 hne, (hf 0).trans f0, (hf 1).trans f1⟩
theorem Box2.below {W W' : World} {b : Nat} {v0 v1 : Value} (h : Box2 W b v0 v1) (hb : Below W.heap.size W W') : Box2 W' b v0 v1 := h.grown (below_grown hb none) (by simp)
theorem Box2.alloc {W : World} {b : Nat} {v0 v1 : Value} (h : Box2 W b v0 v1) (o : Obj) : Box2 (W.alloc o) b v0 v1 := h.grown (World.grownBy_alloc _ _ none) (by simp)
theorem l18Person (p : Nat) (v : Value) (l : List Int) (w : World) (hc : Cur w p v l) : Calls Try.prog 101 #[.pointer (some ⟨p, 0, none⟩)] w fun e w' => ∃ s : Int, e = .returned (.agg #[.int .i64 s, .int .i64 (powGroupI 4 s)]) ∧ 1 ≤ s ∧ s ≤ 1018 ∧ Cur w' p v l ∧ w.grownBy w' (some p) := by
  have hlt := hc.lt
  have HC := Lib.hid (hc.alloc (.cells #[.int .i64 0, .int .i64 0] 59))
  have HA := Lib.hid (World.grownBy_alloc w (.cells #[.int .i64 0, .int .i64 0] 59) (some p))
  have HX := Lib.hid (Box2.new w (.int .i64 0) (.int .i64 0) 59)
  clear hc
  go_enter Try.func101, Try.ntmps101
  go_wp2_with fail
  generalize w.alloc (.cells #[.int .i64 0, .int .i64 0] 59) = W0 at HC HA HX ⊢
  refine (l1Below p v l 1018 _ HC.out (by omega) (by omega)).mono ?_
  rintro e w1 ⟨x, rfl, hx0, hx1, hc1, hg1⟩
  have HC1 := Lib.hid hc1
  have X1 := Lib.hid (HX.out.grown hg1 (by simp; omega))
  have G1 := Lib.hid (grown_trans HA.out hg1)
  clear hc1 hg1 HX
  go_wp2_with fail
  have hn := specNewIdentity (1 + x) w1
  rw [person_val (s := 1 + x) (by omega) (by omega)] at hn
  have HB1 := Lib.hid (show 1 ≤ 1 + x ∧ 1 + x ≤ 1018 by omega)
  have hs0 : 0 ≤ 1 + x := by omega
  have hs1 : 1 + x ≤ 1018 := by omega
  clear hx0 hx1
  generalize 1 + x = s at hn HB1 hs0 hs1 ⊢
  obtain ⟨y, hy⟩ : ∃ y, powGroupI 4 s = y := ⟨_, rfl⟩
  rw [hy] at hn
  have HY := Lib.hid hy
  clear hy
  refine hn.mono ?_
  rintro e w2 ⟨rfl, hb2⟩
  have HC2 := Lib.hid (HC1.out.below hb2)
  have G2 := Lib.hid (grown_trans G1.out (below_grown hb2 (some p)))
  have X2 := X1.out.below hb2
  have hz := X2.lt
  obtain ⟨g0, g1, f0, f1⟩ := X2
  clear hb2 hn X1 HC1 G1
  go_wp2
  exact bodyPost_ret (v := .agg #[.int .i64 s, .int .i64 y]) (by simp [results, Try.results101, go_sem, *]) rfl ⟨s, by rw [HY.out], HB1.out.1, HB1.out.2, (HC2.out.above hlt _ _).above hlt _ _, grown_new (grown_new G2.out (Nat.le_refl _)) (Nat.le_refl _)⟩
set_option maxRecDepth 100000 in
theorem drawFriends (v : Value) (l : List Int) (w : World) (hs : Sl .u8 w v l) (hl : l.length ≤ 1048576) (hby : ∀ x ∈ l, 0 ≤ x ∧ x ≤ 255) : Calls Try.prog 59 #[v] w fun e w' => ∃ s t : Int, e = .returned (.tuple #[.agg #[.int .i64 s, .int .i64 (powGroupI 4 s)], .agg #[.int .i64 t, .int .i64 (powGroupI 4 t)]]) ∧ 1 ≤ s ∧ s ≤ 1018 ∧ 1 ≤ t ∧ t ≤ 1018 ∧ Below w.heap.size w w' := by
  have Z1 := Box2.new w (.int .i64 0) (.int .i64 0) 59
  have HX := Lib.hid (Z1.alloc (.cells #[.int .i64 0, .int .i64 0] 59))
  have HY := Box2.new (w.alloc (.cells #[.int .i64 0, .int .i64 0] 59)) (.int .i64 0) (.int .i64 0) 59
  rw [World.size_alloc] at HY
  have HY := Lib.hid HY
  have CN := Lib.hid (l1New v l _ ((hs.alloc (.cells #[.int .i64 0, .int .i64 0] 59)).alloc (.cells #[.int .i64 0, .int .i64 0] 59)) hl hby)
  have HB := Lib.hid (bel_al (bel_al (Below.refl w.heap.size w) (.cells #[.int .i64 0, .int .i64 0] 59)) (.cells #[.int .i64 0, .int .i64 0] 59))
  have hz0 : w.heap.size + 2 ≤ ((w.alloc (.cells #[.int .i64 0, .int .i64 0] 59)).alloc (.cells #[.int .i64 0, .int .i64 0] 59)).heap.size := by simp
  clear hs hby Z1
  go_enter Try.func59, Try.ntmps59
  go_wp2_with fail
  generalize (w.alloc (.cells #[.int .i64 0, .int .i64 0] 59)).alloc (.cells #[.int .i64 0, .int .i64 0] 59) = W0 at CN HX HY HB hz0 ⊢
  refine CN.out.mono ?_
  rintro e w1 ⟨rfl, hc1, hb1⟩
  have B1 := Lib.hid (bel_seq HB.out hb1)
  have X1 := Lib.hid (HX.out.below hb1)
  have Y1 := Lib.hid (HY.out.below hb1)
  have HC1 := Lib.hid hc1
  generalize W0.heap.size = p at HC1 hz0 ⊢
  clear hb1 hc1 HX HY CN HB
  go_wp2_with fail
  refine (l18Person _ v l _ HC1.out).mono ?_
  rintro e w2 ⟨s, rfl, hs0, hs1, hc2, hg2⟩
  have X2 := Lib.hid ((X1.out.grown hg2 (by simp; omega)).alloc (.cells #[.int .i64 s, .int .i64 (powGroupI 4 s)] 59))
  have Y2 := Lib.hid ((Y1.out.grown hg2 (by simp; omega)).alloc (.cells #[.int .i64 s, .int .i64 (powGroupI 4 s)] 59))
  have Z2 := Lib.hid (Box2.new w2 (.int .i64 s) (.int .i64 (powGroupI 4 s)) 59)
  have hp2 := hc2.lt
  have HC2 := Lib.hid (hc2.alloc (.cells #[.int .i64 s, .int .i64 (powGroupI 4 s)] 59))
  have B2 := Lib.hid (bel_al (B1.out.trans (grown_below hg2 B1.out.size (fun k hk => by cases hk; omega))) (.cells #[.int .i64 s, .int .i64 (powGroupI 4 s)] 59))
  have HS := Lib.hid (show 1 ≤ s ∧ s ≤ 1018 from ⟨hs0, hs1⟩)
  clear hg2 hc2 X1 Y1 B1 HC1
  go_wp2_with fail
  generalize w2.alloc (.cells #[.int .i64 s, .int .i64 (powGroupI 4 s)] 59) = W2 at X2 Y2 Z2 HC2 B2 ⊢
  generalize w2.heap.size = t at Z2 hp2 ⊢
  obtain ⟨y, hy⟩ : ∃ y, powGroupI 4 s = y := ⟨_, rfl⟩
  rw [hy] at Z2
  obtain ⟨z0, z1, _, _⟩ := Z2.out
  have XD := Lib.hid (X2.out.below (Below.refl _ _).drew)
  have YD := Lib.hid (Y2.out.below (Below.refl _ _).drew)
  have ZD := Lib.hid (Z2.out.below (Below.refl _ _).drew)
  have CD := Lib.hid (HC2.out.below (Below.refl _ _).drew)
  have BD := Lib.hid B2.out.drew
  have hpx : some w.heap.size ≠ some p := by simp; omega
  have hpy : some (w.heap.size + 1) ≠ some p := by simp; omega
  have hpt : some t ≠ some p := by simp; omega
  go_region_with (first | (go_at_call 101; (refine (l18Person p v l W2.drew CD.out).mono ?_); rintro e w3 ⟨s', rfl, hs0', hs1', hc3, hg3⟩; have hx3 := (XD.out.grown hg3 hpx).lt; have hy3 := (YD.out.grown hg3 hpy).lt; obtain ⟨x0, x1, x2, x3⟩ := XD.out.grown hg3 hpx; obtain ⟨y0, y1, y2, y3⟩ := YD.out.grown hg3 hpy; obtain ⟨z2, z3, _, _⟩ := ZD.out.grown hg3 hpt))
  all_goals
    have B3 := BD.out.trans (grown_below hg3 BD.out.size (fun k hk => by cases hk; omega))
    go_wp2
    refine bodyPost_ret (v := .tuple #[.agg #[.int .i64 s, .int .i64 y], .agg #[.int .i64 s', .int .i64 (powGroupI 4 s')]]) (by simp [results, Try.results59, go_sem, *]) rfl ⟨s, s', by rw [hy], HS.out.1, HS.out.2, hs0', hs1', (by repeat (with_reducible (first | exact Below.refl _ _ | refine bel_al ?_ _ | refine Below.setCell ?_ (by first | (simp; done) | (simp; omega)) _ | refine Below.drew ?_ | refine bel_drewN ?_ _ | refine bel_seq ?_ (B3))))⟩
end Go.Proofs.Ytelcpihbdgikfaa
