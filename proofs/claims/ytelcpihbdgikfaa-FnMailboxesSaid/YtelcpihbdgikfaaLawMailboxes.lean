/- For every code: what is sent is received once and in order, by the other direction never; no condition. -/
import Derived.Test.YtelcpihbdgikfaaRows
import Derived.Test.YtelcpihbdgikfaaDraw
import Derived.Test.YtelcpihbdgikfaaSame
import Derived.Test.YtelcpihbdgikfaaBoxPlain
import Derived.Test.YtelcpihbdgikfaaAdv
import Derived.Test.YtelcpihbdgikfaaMail3
import Derived.Test.YtelcpihbdgikfaaOpen
import Derived.IntWalk
namespace Go.Proofs.Ytelcpihbdgikfaa.fnMailboxes
open Go.ChangeShapes Go.WideShapes Go.ChangeAt Go.RowKit Go.Joins
set_option linter.unusedVariables false
theorem slLit2 (w : World) (b : Nat) (h : b = w.heap.size) (x y : Int) : Sl .u8 (w.alloc (.cells #[.int .u8 x, .int .u8 y] 5)) (.slice (some ⟨b, 0, none⟩) 2 2) [x, y] := by
  subst h
  exact Sl.lit .u8 w 5 [x, y] (by simp [maxLen])
theorem _root_.Go.Proofs.Ytelcpihbdgikfaa.Box3.write {W : World} {b : Nat} {v0 v1 v2 : Value} (h : Box3 W b v0 v1 v2) (u0 u1 u2 : Value) : Box3 (((W.setCell ⟨b, 0, none⟩ u0).setCell ⟨b, 1, none⟩ u1).setCell ⟨b, 2, none⟩ u2) b u0 u1 u2 := by
  have hz := h.lt
  obtain ⟨h0, h1, h2, f0, f1, f2⟩ := h
  refine ⟨?_, ?_, ?_, ?_, ?_, ?_⟩ <;> simp [go_sem, *]
theorem _root_.Go.Proofs.Ytelcpihbdgikfaa.Box3.other {W : World} {b b' : Nat} {v0 v1 v2 : Value} (h : Box3 W b v0 v1 v2) (hne : b ≠ b') (u0 u1 u2 : Value) : Box3 (((W.setCell ⟨b', 0, none⟩ u0).setCell ⟨b', 1, none⟩ u1).setCell ⟨b', 2, none⟩ u2) b v0 v1 v2 :=
  h.grown (grown_trans (grown_trans (grown_set W b' 0 u0) (grown_set _ b' 1 u1)) (grown_set _ b' 2 u2)) (by simpa using hne)
theorem _root_.Go.Proofs.Ytelcpihbdgikfaa.Box3.cast {W : World} {b : Nat} {v0 v1 v2 u0 u1 u2 : Value} (h : Box3 W b v0 v1 v2) (e0 : v0 = u0) (e1 : v1 = u1) (e2 : v2 = u2) : Box3 W b u0 u1 u2 := by subst e0 e1 e2; exact h
set_option maxRecDepth 100000 in
set_option maxHeartbeats 4000000 in
theorem walk (v : Value) (l : List Int) (w : World) (hs : Sl .u8 w v l) (hby : ∀ x ∈ l, (Lit.int .u8 x).wf = true) : Calls Try.prog 11 #[v] w fun e w' => e = .returned (.bool true) ∧ Below w.heap.size w w' := by
  obtain ⟨a, c, rfl, hm⟩ := hs.shape
  have HS := Lib.hid hs
  have HB : Hid (∀ x ∈ l, 0 ≤ x ∧ x ≤ 255) := Lib.hid (bytes_of_wf hby)
  clear hs hby
  by_cases hbig : (1048576 : Int) < (l.length : Int)
  · go_enter Try.func11, Try.ntmps11
    go_wp2_with (first | (go_at_call 45; (refine (lawsBig _ l _ HS.out).mono ?_); rintro e w0 ⟨rfl, rfl⟩))
    go_ret
    exact ⟨rfl, Below.refl _ _⟩
  · have hl : l.length ≤ 1048576 := by omega
    go_enter Try.func11, Try.ntmps11
    go_wp2_with (first | (go_at_call 45; (refine (lawsBig _ l _ HS.out).mono ?_); rintro e w0 ⟨rfl, rfl⟩))
    refine (lawsAt _ l 0 _ HS.out hl (by omega) HB.out).mono ?_
    rintro e w4 ⟨y0, rfl, hy00, hy01, rfl⟩
    obtain ⟨k, hk⟩ : ∃ k, k = 1 + y0 * 7 := ⟨_, rfl⟩
    have hk0 : 1 ≤ k := by omega
    have hk1 : k ≤ 2000 := by omega
    have hkE := hk.symm
    clear hk
    go_wp2_with fail
    have S0 := Lib.hid ((HS.out.alloc (.cells #[.int .i64 k, .int .i64 0, .int .i64 0] 49)).alloc (.cells #[.int .i64 k, .int .i64 0, .int .i64 0] 49))
    have X0 := Lib.hid ((Box3.new w (.int .i64 k) (.int .i64 0) (.int .i64 0) 49).alloc (.cells #[.int .i64 k, .int .i64 0, .int .i64 0] 49))
    have Y00 := Box3.new (w.alloc (.cells #[.int .i64 k, .int .i64 0, .int .i64 0] 49)) (.int .i64 k) (.int .i64 0) (.int .i64 0) 49
    rw [World.size_alloc] at Y00
    have Y0 := Lib.hid Y00
    have B0 := Lib.hid (bel_al (bel_al (Below.refl w.heap.size w) (.cells #[.int .i64 k, .int .i64 0, .int .i64 0] 49)) (.cells #[.int .i64 k, .int .i64 0, .int .i64 0] 49))
    clear Y00 hkE
    generalize (w.alloc (.cells #[.int .i64 k, .int .i64 0, .int .i64 0] 49)).alloc (.cells #[.int .i64 k, .int .i64 0, .int .i64 0] 49) = W0 at S0 X0 Y0 B0 ⊢
    go_loopw [6] (fun ix wr => ∃ j : Nat, j ≤ 5 ∧ ix = .int .i64 j ∧ Hid (Box3 wr w.heap.size (.int .i64 k) (.int .i64 j) (.int .i64 0)) ∧ Hid (Box3 wr (w.heap.size + 1) (.int .i64 k) (.int .i64 0) (.int .i64 j)) ∧ Hid (Below w.heap.size w wr)) (fun ix _ => 5 - (intOf ix).toNat)
    case atStart => exact ⟨0, Nat.zero_le _, rfl, X0, Y0, B0⟩
    case round =>
      obtain ⟨j, hj, rfl, XR, YR, BR⟩ := hrel
      clear X0 Y0 B0 S0
      by_cases hlt : j < 5
      · have hj5 : (j : Int) < 5 := by omega
        have CA := lawsAt _ l (j + 1) _ (HS.out.below BR.out) hl (by omega) HB.out
        rw [Int.natCast_add] at CA
        go_wp2_with fail
        refine CA.mono ?_
        rintro e w4 ⟨y, rfl, hy0, hy1, rfl⟩
        have hwj : IntKind.u8.wrap (j : Int) = j := IntWalk.u8_in _ (by omega)
        have hwy : IntKind.u8.wrap y = y := IntWalk.u8_in _ ⟨hy0, hy1⟩
        have hbo : bytesOk [(j : Int), y] := by intro x hx; simp only [List.mem_cons, List.not_mem_nil, or_false] at hx; omega
        obtain ⟨L, hL⟩ : ∃ L, L = (sealI (directionKeyI k 0) j 1 [(j : Int), y]).1 := ⟨_, rfl⟩
        obtain ⟨hL24, hLb⟩ := box_len (by omega) (by omega) hL
        have C1 := fun v W (h : Sl .u8 W v [(j : Int), y]) => implSend k j 0 0 v _ W h hbo
        rw [box_send hk0 hk1 (by omega) (by omega) (by omega) (by omega) _ _ hL] at C1
        have C2 := fun v W (h : Sl .u8 W v L) => implRecv k 0 j 0 v _ W h hLb
        rw [box_recv hk0 hk1 (by omega) (by omega) (by omega) (by omega) hbo hL] at C2
        have C3 := fun v W (h : Sl .u8 W v L) => implRecv k 0 (j + 1) 0 v _ W h hLb
        rw [box_again (by omega) (by omega) hL] at C3
        have C4 := fun v W (h : Sl .u8 W v L) => implRecv k 0 j 1 v _ W h hLb
        rw [box_wrong (by omega) (by omega) hL] at C4
        have H1 := Lib.hid C1
        have H2 := Lib.hid C2
        have H3 := Lib.hid C3
        have H4 := Lib.hid C4
        have HN := Lib.hid hL24
        clear C1 C2 C3 C4 hL hL24 hLb hbo CA
        obtain ⟨x0, x1, x2, _, _, _⟩ := XR.out
        have hzX := XR.out.lt
        have hzY := YR.out.lt
        have X1 := Lib.hid (XR.out.alloc (.cells #[.int .u8 (j : Int), .int .u8 y] 5))
        have Y1 := Lib.hid (YR.out.alloc (.cells #[.int .u8 (j : Int), .int .u8 y] 5))
        have B1 := Lib.hid (bel_al BR.out (.cells #[.int .u8 (j : Int), .int .u8 y] 5))
        have D1 := Lib.hid (slLit2 wr _ rfl (j : Int) y)
        have HZ := Lib.hid (show wr.heap.size < (wr.alloc (.cells #[.int .u8 (j : Int), .int .u8 y] 5)).heap.size by simp)
        go_wp2_with fail
        clear x0 x1 x2 hzX hzY
        generalize wr.alloc (.cells #[.int .u8 (j : Int), .int .u8 y] 5) = W1 at X1 Y1 B1 D1 HZ ⊢
        generalize wr.heap.size = g at D1 HZ ⊢
        refine (H1.out _ _ D1.out).mono ?_
        rintro e w2 ⟨ao, N, cap, rfl, ho, hb2⟩
        obtain rfl : N = 24 := ho.len.trans HN.out
        have L2 := Lib.hid (ho.sl.alloc (.cells #[.int .i64 k, .int .i64 ((j : Int) + 1), .int .i64 0] 49))
        have X2 := Lib.hid ((X1.out.below hb2).alloc (.cells #[.int .i64 k, .int .i64 ((j : Int) + 1), .int .i64 0] 49))
        have Y2 := Lib.hid ((Y1.out.below hb2).alloc (.cells #[.int .i64 k, .int .i64 ((j : Int) + 1), .int .i64 0] 49))
        have D2 := Lib.hid ((D1.out.below hb2).alloc (.cells #[.int .i64 k, .int .i64 ((j : Int) + 1), .int .i64 0] 49))
        have B2 := Lib.hid (bel_al (bel_seq B1.out hb2) (.cells #[.int .i64 k, .int .i64 ((j : Int) + 1), .int .i64 0] 49))
        have P2 := Lib.hid (Box3.new w2 (.int .i64 k) (.int .i64 ((j : Int) + 1)) (.int .i64 0) 49)
        obtain ⟨y0, y1, y2, _, _, _⟩ := Y1.out.below hb2
        have hzY := (Y1.out.below hb2).lt
        clear ho hb2 X1 Y1 D1 B1 HZ
        go_wp2_with fail
        clear y0 y1 y2 hzY
        generalize w2.alloc (.cells #[.int .i64 k, .int .i64 ((j : Int) + 1), .int .i64 0] 49) = W2 at L2 X2 Y2 D2 B2 P2 ⊢
        generalize w2.heap.size = p2 at P2 ⊢
        refine (H2.out _ _ L2.out).mono ?_
        rintro e w3 ⟨ao3, N3, cap3, rfl, ho3, hb3⟩
        obtain rfl : N3 = 2 := ho3.len
        have E3 := Lib.hid (ho3.sl.alloc (.cells #[.int .i64 k, .int .i64 0, .int .i64 ((j : Int) + 1)] 49))
        have L3 := Lib.hid ((L2.out.below hb3).alloc (.cells #[.int .i64 k, .int .i64 0, .int .i64 ((j : Int) + 1)] 49))
        have X3 := Lib.hid ((X2.out.below hb3).alloc (.cells #[.int .i64 k, .int .i64 0, .int .i64 ((j : Int) + 1)] 49))
        have Y3 := Lib.hid ((Y2.out.below hb3).alloc (.cells #[.int .i64 k, .int .i64 0, .int .i64 ((j : Int) + 1)] 49))
        have D3 := Lib.hid ((D2.out.below hb3).alloc (.cells #[.int .i64 k, .int .i64 0, .int .i64 ((j : Int) + 1)] 49))
        have P3 := Lib.hid ((P2.out.below hb3).alloc (.cells #[.int .i64 k, .int .i64 0, .int .i64 ((j : Int) + 1)] 49))
        have B3 := Lib.hid (bel_al (bel_seq B2.out hb3) (.cells #[.int .i64 k, .int .i64 0, .int .i64 ((j : Int) + 1)] 49))
        have Q3 := Lib.hid (Box3.new w3 (.int .i64 k) (.int .i64 0) (.int .i64 ((j : Int) + 1)) 49)
        have hq3 : w.heap.size + 1 < w3.heap.size := (Y2.out.below hb3).lt
        clear ho3 hb3 L2 X2 Y2 D2 B2 P2
        go_wp2_with fail
        generalize w3.alloc (.cells #[.int .i64 k, .int .i64 0, .int .i64 ((j : Int) + 1)] 49) = W3 at E3 L3 X3 Y3 D3 P3 B3 Q3 ⊢
        generalize w3.heap.size = q3 at Q3 hq3 ⊢
        refine (sameBytes_yes _ _ _ _ E3.out D3.out).mono ?_
        rintro e w4 ⟨rfl, hb4⟩
        have L4 := Lib.hid (L3.out.below hb4)
        have X4 := Lib.hid (X3.out.below hb4)
        have Y4 := Lib.hid (Y3.out.below hb4)
        have P4 := Lib.hid (P3.out.below hb4)
        have Q4 := Lib.hid (Q3.out.below hb4)
        have B4 := Lib.hid (bel_seq B3.out hb4)
        obtain ⟨q0, q1, q2, _, _, _⟩ := Q4.out
        clear hb4 E3 L3 X3 Y3 D3 P3 B3 Q3
        go_wp2_with fail
        refine (H3.out _ _ L4.out).mono ?_
        rintro e w5 ⟨ao5, N5, cap5, rfl, ho5, hb5⟩
        have L5 := Lib.hid ((L4.out.below hb5).alloc (.cells #[.int .i64 k, .int .i64 0, .int .i64 ((j : Int) + 1)] 49))
        have X5 := Lib.hid ((X4.out.below hb5).alloc (.cells #[.int .i64 k, .int .i64 0, .int .i64 ((j : Int) + 1)] 49))
        have Y5 := Lib.hid ((Y4.out.below hb5).alloc (.cells #[.int .i64 k, .int .i64 0, .int .i64 ((j : Int) + 1)] 49))
        have P5 := Lib.hid ((P4.out.below hb5).alloc (.cells #[.int .i64 k, .int .i64 0, .int .i64 ((j : Int) + 1)] 49))
        have Q5 := Lib.hid ((Q4.out.below hb5).alloc (.cells #[.int .i64 k, .int .i64 0, .int .i64 ((j : Int) + 1)] 49))
        have B5 := Lib.hid (bel_al (bel_seq B4.out hb5) (.cells #[.int .i64 k, .int .i64 0, .int .i64 ((j : Int) + 1)] 49))
        obtain ⟨y0, y1, y2, _, _, _⟩ := Y4.out.below hb5
        have hzY := (Y4.out.below hb5).lt
        clear hb5 ho5 q0 q1 q2 L4 X4 Y4 P4 Q4 B4
        go_wp2_with fail
        clear y0 y1 y2 hzY
        generalize w5.alloc (.cells #[.int .i64 k, .int .i64 0, .int .i64 ((j : Int) + 1)] 49) = W5 at L5 X5 Y5 P5 Q5 B5 ⊢
        generalize w5.heap.size = r5 at ⊢
        refine (H4.out _ _ L5.out).mono ?_
        rintro e w6 ⟨ao6, N6, cap6, rfl, ho6, hb6⟩
        have B6 := Lib.hid (bel_seq B5.out hb6)
        obtain ⟨x0, x1, x2, xf0, xf1, xf2⟩ := X5.out.below hb6
        obtain ⟨y0, y1, y2, yf0, yf1, yf2⟩ := Y5.out.below hb6
        obtain ⟨c0, c1, c2, _, _, _⟩ := P5.out.below hb6
        obtain ⟨d0, d1, d2, _, _, _⟩ := Q5.out.below hb6
        have X6 := Lib.hid (X5.out.below hb6)
        have Y6 := Lib.hid (Y5.out.below hb6)
        have hzX := X6.out.lt
        have hzY := Y6.out.lt
        have hzP := (P5.out.below hb6).lt
        have hzQ := (Q5.out.below hb6).lt
        clear hb6 ho6 L5 X5 Y5 P5 Q5 B5
        have hq4 : ¬ q3 = w.heap.size := by omega
        go_wp2_with fail
        go_roundw
        case rel => exact ⟨j + 1, by omega, by go_num, Lib.hid ((((X6.out.write _ _ _).other (by omega) _ _ _).alloc _).cast rfl (by rw [Int.natCast_add]; rfl) rfl), Lib.hid ((((Y6.out.other (by omega) _ _ _).write _ _ _).alloc _).cast rfl rfl (by rw [Int.natCast_add]; rfl)), Lib.hid (by repeat (with_reducible (first | exact Below.refl _ _ | refine bel_al ?_ _ | refine Below.setCell ?_ (by first | (simp; done) | (simp; omega)) _ | refine Below.drew ?_ | refine bel_drewN ?_ _ | refine bel_seq ?_ (B6.out))))⟩
        case measure => simp [intOf]; omega
      · have hj5 : j = 5 := by omega
        subst hj5
        obtain ⟨x0, x1, x2, _, _, _⟩ := XR.out
        obtain ⟨y0, y1, y2, _, _, _⟩ := YR.out
        have hzX := XR.out.lt
        have hzY := YR.out.lt
        go_wp2_with fail
        refine (lawsAtV _ l 7 _ (HS.out.below BR.out) hl (by omega) HB.out).mono ?_
        rintro e w4 ⟨rfl, rfl⟩
        obtain ⟨h80, h81⟩ := atI_bd HB.out 8
        obtain ⟨h70, h71⟩ := atI_bd HB.out 7
        obtain ⟨h90, h91⟩ := atI_bd HB.out 9
        have A8 := fun W h => lawsAtV (.slice a l.length c) l 8 W h hl (by omega) HB.out
        have A9 := fun W h => lawsAtV (.slice a l.length c) l 9 W h hl (by omega) HB.out
        generalize atI l 7 = z7 at *
        generalize atI l 8 = z8 at *
        generalize atI l 9 = z9 at *
        have A8' := Lib.hid A8
        have A9' := Lib.hid A9
        clear A8 A9
        go_wp2_with fail
        refine (A8'.out _ (HS.out.below BR.out)).mono ?_
        rintro e w4 ⟨rfl, rfl⟩
        obtain ⟨q, hq⟩ : ∃ q, q = 1 + z8 % 40 := ⟨_, rfl⟩
        have hq0 : 1 ≤ q := by omega
        have hq1 : q ≤ 40 := by omega
        have hqE := hq.symm
        clear hq
        have CR := fun W => implMailboxRow k z7 1 q W
        have hr := box_row (k := k) (d := 1) h70 (show z7 ≤ 1000000 by omega) hq0 (by omega)
        have hf := box_free k z9
        have CF := fun v W (h : Sl .i64 W v [k, k + 1]) => implFreeRound v [k, k + 1] z9 16 W h (by simp)
        have CM1 := fun W => implMailboxRow k (freeI [k, k + 1] z9 16) 0 16 W
        have CM2 := fun W => implMailboxRow (k + 1) (freeI [k, k + 1] z9 16) 0 16 W
        generalize freeI [k, k + 1] z9 16 = f at CF CM1 CM2 hf
        generalize mailboxRowI k z7 1 q = r at CR hr
        generalize mailboxRowI k f 0 16 = m1 at CM1 hf
        generalize mailboxRowI (k + 1) f 0 16 = m2 at CM2 hf
        have CV := fun W => implIsMailis (mail_ok (k := k) (s := 0) (r := 5) hk0 hk1 (by omega) (by omega) (by omega) (by omega)) W
        have CD0 := fun W => implDirectionKey k 0 W
        have CD1 := fun W => implDirectionKey k 1 W
        have hdd := dir_ne k
        generalize directionKeyI k 0 = d0 at CD0 hdd
        generalize directionKeyI k 1 = d1 at CD1 hdd
        obtain ⟨hr0, hr1⟩ := hr
        have HR := Lib.hid CR
        have HF := Lib.hid CF
        have HM1 := Lib.hid CM1
        have HM2 := Lib.hid CM2
        have HV := Lib.hid CV
        have HD0 := Lib.hid CD0
        have HD1 := Lib.hid CD1
        have hdb : (d0 != d1) = true := by simpa using hdd
        clear CR CF CM1 CM2 CV CD0 CD1
        go_wp2_with fail
        refine (HR.out _).mono ?_
        rintro e w5 ⟨rfl, hb5⟩
        have S5 := Lib.hid (((HS.out.below BR.out).below hb5).alloc (.cells #[.int .i64 k, .int .i64 (k + 1)] 3))
        have X5 := Lib.hid ((XR.out.below hb5).alloc (.cells #[.int .i64 k, .int .i64 (k + 1)] 3))
        have Y5 := Lib.hid ((YR.out.below hb5).alloc (.cells #[.int .i64 k, .int .i64 (k + 1)] 3))
        have B5 := Lib.hid (bel_al (bel_seq BR.out hb5) (.cells #[.int .i64 k, .int .i64 (k + 1)] 3))
        have F5 := Lib.hid (Sl.lit .i64 w5 3 [k, k + 1] (by simp [maxLen]))
        clear hb5 x0 x1 x2 y0 y1 y2 hzX hzY
        go_wp2_with fail
        refine (A9'.out _ S5.out).mono ?_
        rintro e w4 ⟨rfl, rfl⟩
        go_wp2_with fail
        refine (HF.out _ _ F5.out).mono ?_
        rintro e w6 ⟨rfl, hb6⟩
        have S6 := Lib.hid (S5.out.below hb6)
        have B6 := Lib.hid (bel_seq B5.out hb6)
        obtain ⟨x0, x1, x2, _, _, _⟩ := X5.out.below hb6
        obtain ⟨y0, y1, y2, _, _, _⟩ := Y5.out.below hb6
        clear hb6 X5 Y5 F5 S5
        go_wp2_with fail
        refine (HV.out _).mono ?_
        rintro e w7 ⟨rfl, hb7⟩
        have S7 := Lib.hid (S6.out.below hb7)
        have B7 := Lib.hid (bel_seq B6.out hb7)
        clear hb7 S6 B6
        go_wp2_with fail
        refine (A8'.out _ S7.out).mono ?_
        rintro e w4 ⟨rfl, rfl⟩
        rcases hf with rfl | ⟨hf0, hfm⟩
        · skip
          have C6 := Lib.hid (bel_al B7.out (.cells #[.int .i64 3, .int .i64 1, .int .i64 3, .int .i64 3] 3))
          have CC := Lib.hid (implCountCollisions _ [3, 1, 3, 3] _ (Sl.lit .i64 w7 3 [3, 1, 3, 3] (by simp [maxLen])))
          rw [box_col] at CC
          go_wp2_with fail
          refine CC.out.mono ?_
          rintro e wc ⟨rfl, rfl⟩
          go_wp2_with fail
          refine (HD0.out _).mono ?_
          rintro e wd ⟨rfl, hbd⟩
          go_wp2_with fail
          refine (HD1.out _).mono ?_
          rintro e we ⟨rfl, hbe⟩
          have B9 := Lib.hid (bel_seq (bel_seq C6.out hbd) hbe)
          go_wp2
          go_ret
          exact ⟨rfl, B9.out⟩
        · have hf1 : ¬ f = -1 := by omega
          have hmb : (m1 != m2) = true := by simpa using hfm
          have hk1E : IntKind.i64.wrap (k + 1) = k + 1 := IntWalk.i64_in _ (by omega)
          go_wp2_with fail
          refine (A9'.out _ S7.out).mono ?_
          rintro e w4 ⟨rfl, rfl⟩
          go_wp2_with fail
          refine (HM1.out _).mono ?_
          rintro e w8 ⟨rfl, hb8⟩
          go_wp2_with fail
          refine (HM2.out _).mono ?_
          rintro e w9 ⟨rfl, hb9⟩
          have BX := Lib.hid (bel_seq (bel_seq B7.out hb8) hb9)
          have C6 := Lib.hid (bel_al BX.out (.cells #[.int .i64 3, .int .i64 1, .int .i64 3, .int .i64 3] 3))
          have CC := Lib.hid (implCountCollisions _ [3, 1, 3, 3] _ (Sl.lit .i64 w9 3 [3, 1, 3, 3] (by simp [maxLen])))
          rw [box_col] at CC
          go_wp2_with fail
          refine CC.out.mono ?_
          rintro e wc ⟨rfl, rfl⟩
          go_wp2_with fail
          refine (HD0.out _).mono ?_
          rintro e wd ⟨rfl, hbd⟩
          go_wp2_with fail
          refine (HD1.out _).mono ?_
          rintro e we ⟨rfl, hbe⟩
          have B9 := Lib.hid (bel_seq (bel_seq C6.out hbd) hbe)
          go_wp2
          go_ret
          exact ⟨rfl, B9.out⟩
/-! ### THE ROW's STEP: the guide's own way -/
theorem own : ownKnob Try.prog.godebug = none := by kernel_rfl
theorem laidOut : laidOutB Try.prog = true := by kernel_rfl
set_option maxRecDepth 100000 in
theorem lifted (os : Os) (started : os.Started) (H : Type) (enc : TypeId × Value → H) :
    ReturnsInHanded {} Try.checked os 11 .any (Rows.fnMailboxesSpec.pre6 enc Try.prog Try.f11 Rows.fnMailboxesRow.domain false) (Rows.fnMailboxesSpec.post enc Try.prog Try.f11 false true false false) := by
  refine returnsInHanded_of_change (C := Try.checked) own started (by kernel_rfl) Try.func11
    (ChangeSpec.witness6 (enc := enc) (C := Try.checked) false ⟨#[], #[.slice none 0 0], []⟩ 8 (by kernel_rfl) (by kernel_rfl) (by kernel_rfl) (by kernel_rfl)) ?_
  intro W base args ds gs before hval0 hW hcnd _
  have hval : ∀ (j : Nat) t v, Try.f11.params[j]? = some t → args[j]? = some v → Value.okWide Try.prog W .any base t v := hval0
  have hW' := hW
  obtain ⟨p, q, hA0, hV, rfl, hfz, hnd⟩ := hW
  have hA : DataW.TrodAll enc Try.prog W 0 (fun _ => true) true Try.f11.params.toList args.toList ds p := hA0
  rw [Try.params11] at hA hval
  obtain ⟨v0, vs0, d0, ds0, p0, q0, hargs, rfl, rfl, h0, r0⟩ := trodAll_cons hA
  obtain ⟨rfl, rfl, rfl⟩ := trodAll_nil r0
  obtain rfl : args = #[v0] := by cases args; simp_all
  obtain ⟨rfl, rfl⟩ := trodVars_none hV
  have k0 := h0
  have lt0 : ∀ x ∈ p0, x.block < W.heap.size := by obtain ⟨m, hm⟩ := k0; exact DataW.trod_lt m _ _ _ hm
  obtain ⟨fuel0, g0⟩ := h0
  obtain ⟨b0, len0, cap0, rfl⟩ := okWide_slice Try.underlying37 (hval 0 37 v0 rfl rfl)
  obtain ⟨z0, s0, wf0⟩ := slOfRead Try.underlying37 Try.underlying5 (by kernel_rfl) (by simpa [Value.cells] using g0) lt0
  clear hA0 hval0
  refine (walk _ z0 W s0 wf0).mono fun e W' ⟨he, bel⟩ => ?_
  subst he
  exact ⟨_, rfl, _, _, _, [], _, [], hW', trodAll_mk1 (shut_bool Try.underlying4 _), (trodAll_cons_mk (Below.trod laidOut (by kernel_rfl) (of_decide_eq_true (by kernel_rfl)) k0 bel lt0) trodAll_mk0), rfl, bel.frame _, fun h => by cases h⟩

theorem over : Rows.fnMailboxesRow.holds Try.pinned (OpenSpec.ofChange Rows.fnMailboxesSpec) :=
  OpenClaim.holds_of_wide 11 Try.f11 rfl rfl rfl rfl rfl rfl rfl ⟨rfl, rfl, rfl, rfl, rfl⟩ rfl rfl rfl rfl rfl (by kernel_rfl) Try.func11 (by kernel_rfl)
    (of_decide_eq_true (by kernel_rfl)) (by unfold Func.isWrapper; first | (rw [if_pos (by decide +kernel)]; kernel_rfl) | (rw [if_neg (by decide +kernel)]; exact ⟨rfl, rfl⟩))
    (fun os started H enc _ => lifted os started H enc)

/-- the statement -/
theorem proved : Rows.FnMailboxesSaid := over
end Go.Proofs.Ytelcpihbdgikfaa.fnMailboxes
