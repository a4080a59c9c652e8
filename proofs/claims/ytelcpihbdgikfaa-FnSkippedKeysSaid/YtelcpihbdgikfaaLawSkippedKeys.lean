/- For every code: skipping too far is refused, and advancing yields the same keys as asking for the steps; no condition. -/
import Derived.Test.YtelcpihbdgikfaaRows
import Derived.Test.YtelcpihbdgikfaaSkipPlain
import Derived.Test.YtelcpihbdgikfaaDraw19b
import Derived.Test.YtelcpihbdgikfaaKeyI
import Derived.Test.YtelcpihbdgikfaaAdv2
import Derived.Test.YtelcpihbdgikfaaRatchLaw
import Derived.Test.YtelcpihbdgikfaaOpen
import Derived.Deep.Light
namespace Go.Proofs.Ytelcpihbdgikfaa.fnSkippedKeys
open Go.ChangeShapes Go.WideShapes Go.ChangeAt Go.RowKit Go.Joins
set_option linter.unusedVariables false
/-- two ratchets in the boxes A and X -/
structure SK2 (w W : World) (A X : Nat) (x s : Int) (ao : Option Addr) (N cap : Nat) (L : List Int) (x1 s1 : Int) (ao1 : Option Addr) (N1 cap1 : Nat) (L1 : List Int) : Prop where
  SA : Sk W (.slice ao N cap) N L
  SX : Sk W (.slice ao1 N1 cap1) N1 L1
  BA : Box3 W A (.int .i64 x) (.int .i64 s) (.slice ao N cap)
  BX : Box3 W X (.int .i64 x1) (.int .i64 s1) (.slice ao1 N1 cap1)
  B : Below w.heap.size w W
theorem SK2.below {w W : World} {A X : Nat} {x s : Int} {ao : Option Addr} {N cap : Nat} {L : List Int} {x1 s1 : Int} {ao1 : Option Addr} {N1 cap1 : Nat} {L1 : List Int} (h : SK2 w W A X x s ao N cap L x1 s1 ao1 N1 cap1 L1) {W2 : World} (hb : Below W.heap.size W W2) : SK2 w W2 A X x s ao N cap L x1 s1 ao1 N1 cap1 L1 := ⟨h.SA.below hb, h.SX.below hb, h.BA.below hb, h.BX.below hb, bel_seq h.B hb⟩
theorem SK2.alloc {w W : World} {A X : Nat} {x s : Int} {ao : Option Addr} {N cap : Nat} {L : List Int} {x1 s1 : Int} {ao1 : Option Addr} {N1 cap1 : Nat} {L1 : List Int} (h : SK2 w W A X x s ao N cap L x1 s1 ao1 N1 cap1 L1) (o : Obj) : SK2 w (W.alloc o) A X x s ao N cap L x1 s1 ao1 N1 cap1 L1 := h.below (bel_al (Below.refl _ _) o)
theorem eq_self (x s : Int) (L : List Int) : (x == x && s == s && L == L) = true := by simp
set_option maxRecDepth 100000 in
set_option maxHeartbeats 4000000 in
theorem walk (v : Value) (l : List Int) (w : World) (hs : Sl .u8 w v l) (hby : ∀ x ∈ l, (Lit.int .u8 x).wf = true) : Calls Try.prog 14 #[v] w fun e w' => e = .returned (.bool true) ∧ Below w.heap.size w w' := by
  obtain ⟨a, c, rfl, hm⟩ := hs.shape
  have HS := Lib.hid hs
  have HB : Hid (∀ x ∈ l, 0 ≤ x ∧ x ≤ 255) := Lib.hid (bytes_of_wf hby)
  clear hs hby
  by_cases hbig : (1048576 : Int) < (l.length : Int)
  · go_enter Try.func14, Try.ntmps14
    go_wp2_with (first | (go_at_call 45; (refine (lawsBig _ l _ HS.out).mono ?_); rintro e w0 ⟨rfl, rfl⟩))
    go_ret
    exact ⟨rfl, Below.refl _ _⟩
  · have hl : l.length ≤ 1048576 := by omega
    go_enter Try.func14, Try.ntmps14
    go_wp2_with (first | (go_at_call 45; (refine (lawsBig _ l _ HS.out).mono ?_); rintro e w0 ⟨rfl, rfl⟩))
    refine (drawKeyForStep _ l _ HS.out hl HB.out).mono ?_
    rintro e w1 ⟨x, s, step, L, ao, N, cap, rfl, hO, hN9, hb1⟩
    have hlen := hO.1
    obtain ⟨⟨⟨x1, s1⟩, L1, key, ok⟩, hy⟩ : ∃ y, keyStepI x s N L step = y := ⟨_, rfl⟩
    have CY := Lib.hid (fun W (h : Sk W (.slice ao N cap) N L) => by have := implKeyForStep x s _ N L step W h (by omega); rw [hy] at this; exact this)
    have HY := Lib.hid hy
    have HLEN := Lib.hid hlen
    have S1 := Lib.hid (hO.sl.alloc (.cells #[.int .i64 x, .int .i64 s, .slice ao N cap] 28))
    have A1 := Lib.hid (Box3.new w1 (.int .i64 x) (.int .i64 s) (.slice ao N cap) 28)
    have B1 := Lib.hid (bel_al hb1 (.cells #[.int .i64 x, .int .i64 s, .slice ao N cap] 28))
    clear hy hlen hO hb1 HS HB hl hbig
    go_wp2_with fail
    generalize w1.alloc (.cells #[.int .i64 x, .int .i64 s, .slice ao N cap] 28) = W1 at S1 A1 B1 ⊢
    generalize w1.heap.size = A at A1 ⊢
    obtain ⟨a0, a1, a2, _, _, _⟩ := A1.out
    refine (CY.out _ S1.out).mono ?_
    rintro e w2 ⟨ao1, N1, cap1, rfl, hO1, hb2⟩
    have hlen1 := Lib.hid hO1.1
    have S2 : Hid (SK2 w (w2.alloc (.cells #[.int .i64 x1, .int .i64 s1, .slice ao1 N1 cap1] 28)) A w2.heap.size x s ao N cap L x1 s1 ao1 N1 cap1 L1) := Lib.hid
      ⟨(S1.out.below hb2).alloc _, hO1.sl.alloc _, (A1.out.below hb2).alloc _, Box3.new w2 _ _ _ _, bel_al (bel_seq B1.out hb2) _⟩
    clear hO1 hb2 S1 A1 B1 a0 a1 a2 CY
    cases hv : validRatchetI x s N L with
    | false =>
      obtain ⟨e1, e2⟩ := key_invalid hv step
      rw [e1] at HY
      have hyy := HY.out
      simp only [Prod.mk.injEq] at hyy
      obtain ⟨⟨rfl, rfl⟩, rfl, rfl, rfl⟩ := hyy
      have CV := Lib.hid (fun W (h : Sk W (.slice ao N cap) N L) => by have := specIsValidRatchet x s _ N L W h; rw [hv] at this; exact this)
      have CI := Lib.hid (fun W (h : Sk W (.slice ao N cap) N L) => by have := implIsValidRatchet x s _ N L W h; rw [hv] at this; exact this)
      have CA := Lib.hid (fun W (h : Sk W (.slice ao N cap) N L) => by have := implAdvance x s _ N L W h (by omega); rw [e2] at this; exact this)
      have CE := Lib.hid (fun W (h1 : Sk W (.slice ao1 N1 cap1) N1 L) (h2 : Sk W (.slice ao N cap) N L) => by have := implEqualRatchets x s x s _ _ N1 N L L W h1 h2; rw [eq_self] at this; exact this)
      clear hv e1 e2 HY HLEN hlen1
      obtain ⟨a0, a1, a2, _, _, _⟩ := S2.out.BA
      go_wp2_with fail
      generalize w2.alloc (.cells #[.int .i64 x, .int .i64 s, .slice ao1 N1 cap1] 28) = W2 at S2 a0 a1 a2 ⊢
      generalize w2.heap.size = X at S2 ⊢
      refine (CV.out _ S2.out.SA).mono ?_
      rintro e w3 ⟨rfl, hb3⟩
      have S3 := Lib.hid (S2.out.below hb3)
      clear hb3 S2 a0 a1 a2 CV
      obtain ⟨a0, a1, a2, _, _, _⟩ := S3.out.BA
      go_wp2_with fail
      refine (CA.out _ S3.out.SA).mono ?_
      rintro e w4 ⟨ao4, cap4, rfl, hO4, hb4⟩
      have S4 := Lib.hid ((S3.out.below hb4).alloc (.cells #[.int .i64 x, .int .i64 s, .slice ao4 N cap4] 28))
      clear hb4 S3 a0 a1 a2 CA hO4
      obtain ⟨a0, a1, a2, _, _, _⟩ := S4.out.BA
      obtain ⟨b0, b1, b2, _, _, _⟩ := S4.out.BX
      go_wp2_with fail
      generalize w4.alloc (.cells #[.int .i64 x, .int .i64 s, .slice ao4 N cap4] 28) = W4 at S4 a0 a1 a2 b0 b1 b2 ⊢
      refine (CE.out _ S4.out.SX S4.out.SA).mono ?_
      rintro e w5 ⟨rfl, hb5⟩
      have S5 := Lib.hid (S4.out.below hb5)
      clear hb5 S4 a0 a1 a2 b0 b1 b2 CE
      obtain ⟨a0, a1, a2, _, _, _⟩ := S5.out.BA
      go_wp2_with fail
      refine (CI.out _ S5.out.SA).mono ?_
      rintro e w6 ⟨rfl, hb6⟩
      have B6 := Lib.hid (bel_seq S5.out.B hb6)
      clear hb6 S5 a0 a1 a2 CI
      go_wp2
      go_ret
      exact ⟨rfl, B6.out⟩
    | true =>
      obtain ⟨v1, v2, v3, v4, v5, v6⟩ := key_valid hv HLEN.out step HY.out hlen1.out
      obtain ⟨_, _, vs0, vs1, vn⟩ := valid_split hv HLEN.out
      have hw8 : IntKind.i64.wrap (s + 8) = s + 8 := by rw [IntKind.wrap_i64]; omega
      have CV := Lib.hid (fun W (h : Sk W (.slice ao N cap) N L) => by have := specIsValidRatchet x s _ N L W h; rw [hv] at this; exact this)
      have CX := Lib.hid (fun W (h : Sk W (.slice ao1 N1 cap1) N1 L1) => by have := implIsValidRatchet x1 s1 _ N1 L1 W h; rw [v1] at this; exact this)
      obtain ⟨a0, a1, a2, _, _, _⟩ := S2.out.BA
      obtain ⟨b0, b1, b2, _, _, _⟩ := S2.out.BX
      rcases adv_key hv HLEN.out with ⟨hs1, e1, e2⟩ | ⟨e1, e2⟩
      · have CA := Lib.hid (fun W (h : Sk W (.slice ao N cap) N L) => by have := implAdvance x s _ N L W h (by omega); rw [e1] at this; exact this)
        have CK := Lib.hid (fun W (h : Sk W (.slice ao N cap) N L) => by have := implKeyForStep x s _ N L s W h (by omega); rw [e2] at this; exact this)
        clear e1 e2 hv hs1
        cases ok with
        | false =>
          obtain ⟨e1, e2, e3, e4⟩ := v3 rfl
          obtain rfl := e1.symm
          obtain rfl := e2.symm
          obtain rfl := e3.symm
          obtain rfl := e4.symm
          have CE := Lib.hid (fun W (h1 : Sk W (.slice ao1 N cap1) N L) (h2 : Sk W (.slice ao N cap) N L) => by have := implEqualRatchets x s x s _ _ N N L L W h1 h2; rw [eq_self] at this; exact this)
          have hn8 : ¬ (8 : Int) < (N : Int) := by omega
          clear v1 v2 v3 v4 v5 v6 vn HY HLEN hlen1
          by_cases hfar : s + 8 < step
          · go_wp2_with fail
            generalize w2.alloc (.cells #[.int .i64 x, .int .i64 s, .slice ao1 N cap1] 28) = W2 at S2 a0 a1 a2 b0 b1 b2 ⊢
            generalize w2.heap.size = X at S2 b0 b1 b2 ⊢
            refine (CV.out _ S2.out.SA).mono ?_
            rintro e w3 ⟨rfl, hb3⟩
            have S3 := Lib.hid (S2.out.below hb3)
            clear hb3 S2 a0 a1 a2 b0 b1 b2 CV
            obtain ⟨a0, a1, a2, _, _, _⟩ := S3.out.BA
            obtain ⟨b0, b1, b2, _, _, _⟩ := S3.out.BX
            go_wp2_with fail
            refine (CX.out _ S3.out.SX).mono ?_
            rintro e w6 ⟨rfl, hb6⟩
            have S6 := Lib.hid (S3.out.below hb6)
            clear hb6 S3 a0 a1 a2 b0 b1 b2 CX
            obtain ⟨a0, a1, a2, _, _, _⟩ := S6.out.BA
            obtain ⟨b0, b1, b2, _, _, _⟩ := S6.out.BX
            go_wp2_with fail
            refine (CE.out _ S6.out.SX S6.out.SA).mono ?_
            rintro e w7 ⟨rfl, hb7⟩
            have S7 := Lib.hid (S6.out.below hb7)
            clear hb7 S6 a0 a1 a2 b0 b1 b2 CE
            obtain ⟨a0, a1, a2, _, _, _⟩ := S7.out.BA
            obtain ⟨b0, b1, b2, _, _, _⟩ := S7.out.BX
            go_wp2_with fail
            clear b0 b1 b2
            refine (CA.out _ S7.out.SA).mono ?_
            rintro e w4 ⟨ao4, cap4, rfl, hO4, hb4⟩
            have S4 := Lib.hid ((S7.out.below hb4).alloc (.cells #[.int .i64 x, .int .i64 s, .slice ao4 N cap4] 28))
            have D4 := Lib.hid (Box3.new w4 (.int .i64 x) (.int .i64 s) (.slice ao4 N cap4) 28)
            clear hb4 hO4 CA a0 a1 a2
            obtain ⟨a0, a1, a2, _, _, _⟩ := S4.out.BA
            go_wp2_with fail
            generalize w4.alloc (.cells #[.int .i64 x, .int .i64 s, .slice ao4 N cap4] 28) = W4 at S4 D4 a0 a1 a2 ⊢
            generalize w4.heap.size = A4 at D4 ⊢
            refine (CK.out _ S4.out.SA).mono ?_
            rintro e w5 ⟨ao5, N5, cap5, rfl, hO5, hb5⟩
            have B5 := Lib.hid (bel_al (bel_seq S4.out.B hb5) (.cells #[.int .i64 x, .int .i64 s, .slice ao5 N5 cap5] 28))
            have D5 := Lib.hid ((D4.out.below hb5).alloc (.cells #[.int .i64 x, .int .i64 s, .slice ao5 N5 cap5] 28))
            have F5 := Box3.new w5 (.int .i64 x) (.int .i64 s) (.slice ao5 N5 cap5) 28
            obtain ⟨d0, d1, d2, _, _, _⟩ := D5.out
            obtain ⟨f0, f1, f2, _, _, _⟩ := F5
            clear hb5 hO5 CK a0 a1 a2 S4 D4
            go_wp2
            go_ret
            exact ⟨rfl, B5.out⟩
          · go_wp2_with fail
            generalize w2.alloc (.cells #[.int .i64 x, .int .i64 s, .slice ao1 N cap1] 28) = W2 at S2 a0 a1 a2 b0 b1 b2 ⊢
            generalize w2.heap.size = X at S2 b0 b1 b2 ⊢
            refine (CV.out _ S2.out.SA).mono ?_
            rintro e w3 ⟨rfl, hb3⟩
            have S3 := Lib.hid (S2.out.below hb3)
            clear hb3 S2 a0 a1 a2 b0 b1 b2 CV
            obtain ⟨a0, a1, a2, _, _, _⟩ := S3.out.BA
            obtain ⟨b0, b1, b2, _, _, _⟩ := S3.out.BX
            go_wp2_with fail
            refine (CX.out _ S3.out.SX).mono ?_
            rintro e w6 ⟨rfl, hb6⟩
            have S6 := Lib.hid (S3.out.below hb6)
            clear hb6 S3 a0 a1 a2 b0 b1 b2 CX
            obtain ⟨a0, a1, a2, _, _, _⟩ := S6.out.BA
            obtain ⟨b0, b1, b2, _, _, _⟩ := S6.out.BX
            go_wp2_with fail
            refine (CE.out _ S6.out.SX S6.out.SA).mono ?_
            rintro e w7 ⟨rfl, hb7⟩
            have S7 := Lib.hid (S6.out.below hb7)
            clear hb7 S6 a0 a1 a2 b0 b1 b2 CE
            obtain ⟨a0, a1, a2, _, _, _⟩ := S7.out.BA
            obtain ⟨b0, b1, b2, _, _, _⟩ := S7.out.BX
            go_wp2_with fail
            clear b0 b1 b2
            refine (CA.out _ S7.out.SA).mono ?_
            rintro e w4 ⟨ao4, cap4, rfl, hO4, hb4⟩
            have S4 := Lib.hid ((S7.out.below hb4).alloc (.cells #[.int .i64 x, .int .i64 s, .slice ao4 N cap4] 28))
            have D4 := Lib.hid (Box3.new w4 (.int .i64 x) (.int .i64 s) (.slice ao4 N cap4) 28)
            clear hb4 hO4 CA a0 a1 a2
            obtain ⟨a0, a1, a2, _, _, _⟩ := S4.out.BA
            go_wp2_with fail
            generalize w4.alloc (.cells #[.int .i64 x, .int .i64 s, .slice ao4 N cap4] 28) = W4 at S4 D4 a0 a1 a2 ⊢
            generalize w4.heap.size = A4 at D4 ⊢
            refine (CK.out _ S4.out.SA).mono ?_
            rintro e w5 ⟨ao5, N5, cap5, rfl, hO5, hb5⟩
            have B5 := Lib.hid (bel_al (bel_seq S4.out.B hb5) (.cells #[.int .i64 x, .int .i64 s, .slice ao5 N5 cap5] 28))
            have D5 := Lib.hid ((D4.out.below hb5).alloc (.cells #[.int .i64 x, .int .i64 s, .slice ao5 N5 cap5] 28))
            have F5 := Box3.new w5 (.int .i64 x) (.int .i64 s) (.slice ao5 N5 cap5) 28
            obtain ⟨d0, d1, d2, _, _, _⟩ := D5.out
            obtain ⟨f0, f1, f2, _, _, _⟩ := F5
            clear hb5 hO5 CK a0 a1 a2 S4 D4
            go_wp2
            go_ret
            exact ⟨rfl, B5.out⟩
        | true =>
          have hkb := v4 rfl
          have hnf : ¬ s + 8 < step := fun h => by cases v6 h
          have hn8 : ¬ (8 : Int) < (N1 : Int) := by omega
          by_cases hge : s ≤ step
          · obtain rfl : s1 = step + 1 := v5 rfl hge
            have hw1 : IntKind.i64.wrap (step + 1) = step + 1 := by rw [IntKind.wrap_i64]; omega
            have CQ := Lib.hid (fun W => specIsKeyis hkb W)
            clear v1 v2 v3 v4 v5 v6 HY HLEN hlen1 vn hkb
            go_wp2_with fail
            generalize w2.alloc (.cells #[.int .i64 x1, .int .i64 (step + 1), .slice ao1 N1 cap1] 28) = W2 at S2 a0 a1 a2 b0 b1 b2 ⊢
            generalize w2.heap.size = X at S2 b0 b1 b2 ⊢
            refine (CV.out _ S2.out.SA).mono ?_
            rintro e w3 ⟨rfl, hb3⟩
            have S3 := Lib.hid (S2.out.below hb3)
            clear hb3 S2 a0 a1 a2 b0 b1 b2 CV
            obtain ⟨a0, a1, a2, _, _, _⟩ := S3.out.BA
            obtain ⟨b0, b1, b2, _, _, _⟩ := S3.out.BX
            go_wp2_with fail
            refine (CX.out _ S3.out.SX).mono ?_
            rintro e w6 ⟨rfl, hb6⟩
            have S6 := Lib.hid (S3.out.below hb6)
            clear hb6 S3 a0 a1 a2 b0 b1 b2 CX
            obtain ⟨a0, a1, a2, _, _, _⟩ := S6.out.BA
            obtain ⟨b0, b1, b2, _, _, _⟩ := S6.out.BX
            go_wp2_with fail
            refine (CQ.out _).mono ?_
            rintro e w7 ⟨rfl, rfl⟩
            go_wp2_with fail
            clear b0 b1 b2
            refine (CA.out _ S6.out.SA).mono ?_
            rintro e w4 ⟨ao4, cap4, rfl, hO4, hb4⟩
            have S4 := Lib.hid ((S6.out.below hb4).alloc (.cells #[.int .i64 x, .int .i64 s, .slice ao4 N cap4] 28))
            have D4 := Lib.hid (Box3.new w4 (.int .i64 x) (.int .i64 s) (.slice ao4 N cap4) 28)
            clear hb4 hO4 CA a0 a1 a2
            obtain ⟨a0, a1, a2, _, _, _⟩ := S4.out.BA
            go_wp2_with fail
            generalize w4.alloc (.cells #[.int .i64 x, .int .i64 s, .slice ao4 N cap4] 28) = W4 at S4 D4 a0 a1 a2 ⊢
            generalize w4.heap.size = A4 at D4 ⊢
            refine (CK.out _ S4.out.SA).mono ?_
            rintro e w5 ⟨ao5, N5, cap5, rfl, hO5, hb5⟩
            have B5 := Lib.hid (bel_al (bel_seq S4.out.B hb5) (.cells #[.int .i64 x, .int .i64 s, .slice ao5 N5 cap5] 28))
            have D5 := Lib.hid ((D4.out.below hb5).alloc (.cells #[.int .i64 x, .int .i64 s, .slice ao5 N5 cap5] 28))
            have F5 := Box3.new w5 (.int .i64 x) (.int .i64 s) (.slice ao5 N5 cap5) 28
            obtain ⟨d0, d1, d2, _, _, _⟩ := D5.out
            obtain ⟨f0, f1, f2, _, _, _⟩ := F5
            clear hb5 hO5 CK a0 a1 a2 S4 D4
            go_wp2
            go_ret
            exact ⟨rfl, B5.out⟩
          · have hge2 : ¬ s ≤ step := hge
            have CQ := Lib.hid (fun W => specIsKeyis hkb W)
            clear v1 v2 v3 v4 v5 v6 HY HLEN hlen1 vn hkb
            go_wp2_with fail
            generalize w2.alloc (.cells #[.int .i64 x1, .int .i64 s1, .slice ao1 N1 cap1] 28) = W2 at S2 a0 a1 a2 b0 b1 b2 ⊢
            generalize w2.heap.size = X at S2 b0 b1 b2 ⊢
            refine (CV.out _ S2.out.SA).mono ?_
            rintro e w3 ⟨rfl, hb3⟩
            have S3 := Lib.hid (S2.out.below hb3)
            clear hb3 S2 a0 a1 a2 b0 b1 b2 CV
            obtain ⟨a0, a1, a2, _, _, _⟩ := S3.out.BA
            obtain ⟨b0, b1, b2, _, _, _⟩ := S3.out.BX
            go_wp2_with fail
            refine (CX.out _ S3.out.SX).mono ?_
            rintro e w6 ⟨rfl, hb6⟩
            have S6 := Lib.hid (S3.out.below hb6)
            clear hb6 S3 a0 a1 a2 b0 b1 b2 CX
            obtain ⟨a0, a1, a2, _, _, _⟩ := S6.out.BA
            obtain ⟨b0, b1, b2, _, _, _⟩ := S6.out.BX
            go_wp2_with fail
            refine (CQ.out _).mono ?_
            rintro e w7 ⟨rfl, rfl⟩
            go_wp2_with fail
            clear b0 b1 b2
            refine (CA.out _ S6.out.SA).mono ?_
            rintro e w4 ⟨ao4, cap4, rfl, hO4, hb4⟩
            have S4 := Lib.hid ((S6.out.below hb4).alloc (.cells #[.int .i64 x, .int .i64 s, .slice ao4 N cap4] 28))
            have D4 := Lib.hid (Box3.new w4 (.int .i64 x) (.int .i64 s) (.slice ao4 N cap4) 28)
            clear hb4 hO4 CA a0 a1 a2
            obtain ⟨a0, a1, a2, _, _, _⟩ := S4.out.BA
            go_wp2_with fail
            generalize w4.alloc (.cells #[.int .i64 x, .int .i64 s, .slice ao4 N cap4] 28) = W4 at S4 D4 a0 a1 a2 ⊢
            generalize w4.heap.size = A4 at D4 ⊢
            refine (CK.out _ S4.out.SA).mono ?_
            rintro e w5 ⟨ao5, N5, cap5, rfl, hO5, hb5⟩
            have B5 := Lib.hid (bel_al (bel_seq S4.out.B hb5) (.cells #[.int .i64 x, .int .i64 s, .slice ao5 N5 cap5] 28))
            have D5 := Lib.hid ((D4.out.below hb5).alloc (.cells #[.int .i64 x, .int .i64 s, .slice ao5 N5 cap5] 28))
            have F5 := Box3.new w5 (.int .i64 x) (.int .i64 s) (.slice ao5 N5 cap5) 28
            obtain ⟨d0, d1, d2, _, _, _⟩ := D5.out
            obtain ⟨f0, f1, f2, _, _, _⟩ := F5
            clear hb5 hO5 CK a0 a1 a2 S4 D4
            go_wp2
            go_ret
            exact ⟨rfl, B5.out⟩
      · have CA0 := fun W (h : Sk W (.slice ao N cap) N L) => by have := implAdvance x s _ N L W h (by omega); rw [e1] at this; exact this
        have CK0 := fun W (h : Sk W (.slice ao N cap) N L) => by have := implKeyForStep x s _ N L s W h (by omega); rw [e2] at this; exact this
        clear e1 e2 hv
        generalize nextChainI x = nx at CA0 CK0
        generalize messageKeyI x = mk at CA0 CK0
        have CA := Lib.hid CA0
        have CK := Lib.hid CK0
        clear CA0 CK0
        cases ok with
        | false =>
          obtain ⟨e1, e2, e3, e4⟩ := v3 rfl
          obtain rfl := e1.symm
          obtain rfl := e2.symm
          obtain rfl := e3.symm
          obtain rfl := e4.symm
          have CE := Lib.hid (fun W (h1 : Sk W (.slice ao1 N cap1) N L) (h2 : Sk W (.slice ao N cap) N L) => by have := implEqualRatchets x s x s _ _ N N L L W h1 h2; rw [eq_self] at this; exact this)
          have hn8 : ¬ (8 : Int) < (N : Int) := by omega
          clear v1 v2 v3 v4 v5 v6 vn HY HLEN hlen1
          by_cases hfar : s + 8 < step
          · go_wp2_with fail
            generalize w2.alloc (.cells #[.int .i64 x, .int .i64 s, .slice ao1 N cap1] 28) = W2 at S2 a0 a1 a2 b0 b1 b2 ⊢
            generalize w2.heap.size = X at S2 b0 b1 b2 ⊢
            refine (CV.out _ S2.out.SA).mono ?_
            rintro e w3 ⟨rfl, hb3⟩
            have S3 := Lib.hid (S2.out.below hb3)
            clear hb3 S2 a0 a1 a2 b0 b1 b2 CV
            obtain ⟨a0, a1, a2, _, _, _⟩ := S3.out.BA
            obtain ⟨b0, b1, b2, _, _, _⟩ := S3.out.BX
            go_wp2_with fail
            refine (CX.out _ S3.out.SX).mono ?_
            rintro e w6 ⟨rfl, hb6⟩
            have S6 := Lib.hid (S3.out.below hb6)
            clear hb6 S3 a0 a1 a2 b0 b1 b2 CX
            obtain ⟨a0, a1, a2, _, _, _⟩ := S6.out.BA
            obtain ⟨b0, b1, b2, _, _, _⟩ := S6.out.BX
            go_wp2_with fail
            refine (CE.out _ S6.out.SX S6.out.SA).mono ?_
            rintro e w7 ⟨rfl, hb7⟩
            have S7 := Lib.hid (S6.out.below hb7)
            clear hb7 S6 a0 a1 a2 b0 b1 b2 CE
            obtain ⟨a0, a1, a2, _, _, _⟩ := S7.out.BA
            obtain ⟨b0, b1, b2, _, _, _⟩ := S7.out.BX
            go_wp2_with fail
            clear b0 b1 b2
            refine (CA.out _ S7.out.SA).mono ?_
            rintro e w4 ⟨ao4, cap4, rfl, hO4, hb4⟩
            have S4 := Lib.hid ((S7.out.below hb4).alloc (.cells #[.int .i64 nx, .int .i64 (s + 1), .slice ao4 N cap4] 28))
            have D4 := Lib.hid (Box3.new w4 (.int .i64 nx) (.int .i64 (s + 1)) (.slice ao4 N cap4) 28)
            clear hb4 hO4 CA a0 a1 a2
            obtain ⟨a0, a1, a2, _, _, _⟩ := S4.out.BA
            go_wp2_with fail
            generalize w4.alloc (.cells #[.int .i64 nx, .int .i64 (s + 1), .slice ao4 N cap4] 28) = W4 at S4 D4 a0 a1 a2 ⊢
            generalize w4.heap.size = A4 at D4 ⊢
            refine (CK.out _ S4.out.SA).mono ?_
            rintro e w5 ⟨ao5, N5, cap5, rfl, hO5, hb5⟩
            have B5 := Lib.hid (bel_al (bel_seq S4.out.B hb5) (.cells #[.int .i64 nx, .int .i64 (s + 1), .slice ao5 N5 cap5] 28))
            have D5 := Lib.hid ((D4.out.below hb5).alloc (.cells #[.int .i64 nx, .int .i64 (s + 1), .slice ao5 N5 cap5] 28))
            have F5 := Box3.new w5 (.int .i64 nx) (.int .i64 (s + 1)) (.slice ao5 N5 cap5) 28
            obtain ⟨d0, d1, d2, _, _, _⟩ := D5.out
            obtain ⟨f0, f1, f2, _, _, _⟩ := F5
            clear hb5 hO5 CK a0 a1 a2 S4 D4
            go_wp2
            go_ret
            exact ⟨rfl, B5.out⟩
          · go_wp2_with fail
            generalize w2.alloc (.cells #[.int .i64 x, .int .i64 s, .slice ao1 N cap1] 28) = W2 at S2 a0 a1 a2 b0 b1 b2 ⊢
            generalize w2.heap.size = X at S2 b0 b1 b2 ⊢
            refine (CV.out _ S2.out.SA).mono ?_
            rintro e w3 ⟨rfl, hb3⟩
            have S3 := Lib.hid (S2.out.below hb3)
            clear hb3 S2 a0 a1 a2 b0 b1 b2 CV
            obtain ⟨a0, a1, a2, _, _, _⟩ := S3.out.BA
            obtain ⟨b0, b1, b2, _, _, _⟩ := S3.out.BX
            go_wp2_with fail
            refine (CX.out _ S3.out.SX).mono ?_
            rintro e w6 ⟨rfl, hb6⟩
            have S6 := Lib.hid (S3.out.below hb6)
            clear hb6 S3 a0 a1 a2 b0 b1 b2 CX
            obtain ⟨a0, a1, a2, _, _, _⟩ := S6.out.BA
            obtain ⟨b0, b1, b2, _, _, _⟩ := S6.out.BX
            go_wp2_with fail
            refine (CE.out _ S6.out.SX S6.out.SA).mono ?_
            rintro e w7 ⟨rfl, hb7⟩
            have S7 := Lib.hid (S6.out.below hb7)
            clear hb7 S6 a0 a1 a2 b0 b1 b2 CE
            obtain ⟨a0, a1, a2, _, _, _⟩ := S7.out.BA
            obtain ⟨b0, b1, b2, _, _, _⟩ := S7.out.BX
            go_wp2_with fail
            clear b0 b1 b2
            refine (CA.out _ S7.out.SA).mono ?_
            rintro e w4 ⟨ao4, cap4, rfl, hO4, hb4⟩
            have S4 := Lib.hid ((S7.out.below hb4).alloc (.cells #[.int .i64 nx, .int .i64 (s + 1), .slice ao4 N cap4] 28))
            have D4 := Lib.hid (Box3.new w4 (.int .i64 nx) (.int .i64 (s + 1)) (.slice ao4 N cap4) 28)
            clear hb4 hO4 CA a0 a1 a2
            obtain ⟨a0, a1, a2, _, _, _⟩ := S4.out.BA
            go_wp2_with fail
            generalize w4.alloc (.cells #[.int .i64 nx, .int .i64 (s + 1), .slice ao4 N cap4] 28) = W4 at S4 D4 a0 a1 a2 ⊢
            generalize w4.heap.size = A4 at D4 ⊢
            refine (CK.out _ S4.out.SA).mono ?_
            rintro e w5 ⟨ao5, N5, cap5, rfl, hO5, hb5⟩
            have B5 := Lib.hid (bel_al (bel_seq S4.out.B hb5) (.cells #[.int .i64 nx, .int .i64 (s + 1), .slice ao5 N5 cap5] 28))
            have D5 := Lib.hid ((D4.out.below hb5).alloc (.cells #[.int .i64 nx, .int .i64 (s + 1), .slice ao5 N5 cap5] 28))
            have F5 := Box3.new w5 (.int .i64 nx) (.int .i64 (s + 1)) (.slice ao5 N5 cap5) 28
            obtain ⟨d0, d1, d2, _, _, _⟩ := D5.out
            obtain ⟨f0, f1, f2, _, _, _⟩ := F5
            clear hb5 hO5 CK a0 a1 a2 S4 D4
            go_wp2
            go_ret
            exact ⟨rfl, B5.out⟩
        | true =>
          have hkb := v4 rfl
          have hnf : ¬ s + 8 < step := fun h => by cases v6 h
          have hn8 : ¬ (8 : Int) < (N1 : Int) := by omega
          by_cases hge : s ≤ step
          · obtain rfl : s1 = step + 1 := v5 rfl hge
            have hw1 : IntKind.i64.wrap (step + 1) = step + 1 := by rw [IntKind.wrap_i64]; omega
            have CQ := Lib.hid (fun W => specIsKeyis hkb W)
            clear v1 v2 v3 v4 v5 v6 HY HLEN hlen1 vn hkb
            go_wp2_with fail
            generalize w2.alloc (.cells #[.int .i64 x1, .int .i64 (step + 1), .slice ao1 N1 cap1] 28) = W2 at S2 a0 a1 a2 b0 b1 b2 ⊢
            generalize w2.heap.size = X at S2 b0 b1 b2 ⊢
            refine (CV.out _ S2.out.SA).mono ?_
            rintro e w3 ⟨rfl, hb3⟩
            have S3 := Lib.hid (S2.out.below hb3)
            clear hb3 S2 a0 a1 a2 b0 b1 b2 CV
            obtain ⟨a0, a1, a2, _, _, _⟩ := S3.out.BA
            obtain ⟨b0, b1, b2, _, _, _⟩ := S3.out.BX
            go_wp2_with fail
            refine (CX.out _ S3.out.SX).mono ?_
            rintro e w6 ⟨rfl, hb6⟩
            have S6 := Lib.hid (S3.out.below hb6)
            clear hb6 S3 a0 a1 a2 b0 b1 b2 CX
            obtain ⟨a0, a1, a2, _, _, _⟩ := S6.out.BA
            obtain ⟨b0, b1, b2, _, _, _⟩ := S6.out.BX
            go_wp2_with fail
            refine (CQ.out _).mono ?_
            rintro e w7 ⟨rfl, rfl⟩
            go_wp2_with fail
            clear b0 b1 b2
            refine (CA.out _ S6.out.SA).mono ?_
            rintro e w4 ⟨ao4, cap4, rfl, hO4, hb4⟩
            have S4 := Lib.hid ((S6.out.below hb4).alloc (.cells #[.int .i64 nx, .int .i64 (s + 1), .slice ao4 N cap4] 28))
            have D4 := Lib.hid (Box3.new w4 (.int .i64 nx) (.int .i64 (s + 1)) (.slice ao4 N cap4) 28)
            clear hb4 hO4 CA a0 a1 a2
            obtain ⟨a0, a1, a2, _, _, _⟩ := S4.out.BA
            go_wp2_with fail
            generalize w4.alloc (.cells #[.int .i64 nx, .int .i64 (s + 1), .slice ao4 N cap4] 28) = W4 at S4 D4 a0 a1 a2 ⊢
            generalize w4.heap.size = A4 at D4 ⊢
            refine (CK.out _ S4.out.SA).mono ?_
            rintro e w5 ⟨ao5, N5, cap5, rfl, hO5, hb5⟩
            have B5 := Lib.hid (bel_al (bel_seq S4.out.B hb5) (.cells #[.int .i64 nx, .int .i64 (s + 1), .slice ao5 N5 cap5] 28))
            have D5 := Lib.hid ((D4.out.below hb5).alloc (.cells #[.int .i64 nx, .int .i64 (s + 1), .slice ao5 N5 cap5] 28))
            have F5 := Box3.new w5 (.int .i64 nx) (.int .i64 (s + 1)) (.slice ao5 N5 cap5) 28
            obtain ⟨d0, d1, d2, _, _, _⟩ := D5.out
            obtain ⟨f0, f1, f2, _, _, _⟩ := F5
            clear hb5 hO5 CK a0 a1 a2 S4 D4
            go_wp2
            go_ret
            exact ⟨rfl, B5.out⟩
          · have hge2 : ¬ s ≤ step := hge
            have CQ := Lib.hid (fun W => specIsKeyis hkb W)
            clear v1 v2 v3 v4 v5 v6 HY HLEN hlen1 vn hkb
            go_wp2_with fail
            generalize w2.alloc (.cells #[.int .i64 x1, .int .i64 s1, .slice ao1 N1 cap1] 28) = W2 at S2 a0 a1 a2 b0 b1 b2 ⊢
            generalize w2.heap.size = X at S2 b0 b1 b2 ⊢
            refine (CV.out _ S2.out.SA).mono ?_
            rintro e w3 ⟨rfl, hb3⟩
            have S3 := Lib.hid (S2.out.below hb3)
            clear hb3 S2 a0 a1 a2 b0 b1 b2 CV
            obtain ⟨a0, a1, a2, _, _, _⟩ := S3.out.BA
            obtain ⟨b0, b1, b2, _, _, _⟩ := S3.out.BX
            go_wp2_with fail
            refine (CX.out _ S3.out.SX).mono ?_
            rintro e w6 ⟨rfl, hb6⟩
            have S6 := Lib.hid (S3.out.below hb6)
            clear hb6 S3 a0 a1 a2 b0 b1 b2 CX
            obtain ⟨a0, a1, a2, _, _, _⟩ := S6.out.BA
            obtain ⟨b0, b1, b2, _, _, _⟩ := S6.out.BX
            go_wp2_with fail
            refine (CQ.out _).mono ?_
            rintro e w7 ⟨rfl, rfl⟩
            go_wp2_with fail
            clear b0 b1 b2
            refine (CA.out _ S6.out.SA).mono ?_
            rintro e w4 ⟨ao4, cap4, rfl, hO4, hb4⟩
            have S4 := Lib.hid ((S6.out.below hb4).alloc (.cells #[.int .i64 nx, .int .i64 (s + 1), .slice ao4 N cap4] 28))
            have D4 := Lib.hid (Box3.new w4 (.int .i64 nx) (.int .i64 (s + 1)) (.slice ao4 N cap4) 28)
            clear hb4 hO4 CA a0 a1 a2
            obtain ⟨a0, a1, a2, _, _, _⟩ := S4.out.BA
            go_wp2_with fail
            generalize w4.alloc (.cells #[.int .i64 nx, .int .i64 (s + 1), .slice ao4 N cap4] 28) = W4 at S4 D4 a0 a1 a2 ⊢
            generalize w4.heap.size = A4 at D4 ⊢
            refine (CK.out _ S4.out.SA).mono ?_
            rintro e w5 ⟨ao5, N5, cap5, rfl, hO5, hb5⟩
            have B5 := Lib.hid (bel_al (bel_seq S4.out.B hb5) (.cells #[.int .i64 nx, .int .i64 (s + 1), .slice ao5 N5 cap5] 28))
            have D5 := Lib.hid ((D4.out.below hb5).alloc (.cells #[.int .i64 nx, .int .i64 (s + 1), .slice ao5 N5 cap5] 28))
            have F5 := Box3.new w5 (.int .i64 nx) (.int .i64 (s + 1)) (.slice ao5 N5 cap5) 28
            obtain ⟨d0, d1, d2, _, _, _⟩ := D5.out
            obtain ⟨f0, f1, f2, _, _, _⟩ := F5
            clear hb5 hO5 CK a0 a1 a2 S4 D4
            go_wp2
            go_ret
            exact ⟨rfl, B5.out⟩
/-! ### THE ROW's STEP: the guide's own way -/
theorem own : ownKnob Try.prog.godebug = none := by kernel_rfl
theorem laidOut : laidOutB Try.prog = true := by kernel_rfl
set_option maxRecDepth 100000 in
theorem lifted (os : Os) (started : os.Started) (H : Type) (enc : TypeId × Value → H) :
    ReturnsInHanded {} Try.checked os 14 .any (Rows.fnSkippedKeysSpec.pre6 enc Try.prog Try.f14 Rows.fnSkippedKeysRow.domain false) (Rows.fnSkippedKeysSpec.post enc Try.prog Try.f14 false true false false) := by
  refine returnsInHanded_of_change (C := Try.checked) own started (by kernel_rfl) Try.func14
    (ChangeSpec.witness6 (enc := enc) (C := Try.checked) false ⟨#[], #[.slice none 0 0], []⟩ 8 (by kernel_rfl) (by kernel_rfl) (by kernel_rfl) (by kernel_rfl)) ?_
  intro W base args ds gs before hval0 hW hcnd _
  have hval : ∀ (j : Nat) t v, Try.f14.params[j]? = some t → args[j]? = some v → Value.okWide Try.prog W .any base t v := hval0
  have hW' := hW
  obtain ⟨p, q, hA0, hV, rfl, hfz, hnd⟩ := hW
  have hA : DataW.TrodAll enc Try.prog W 0 (fun _ => true) true Try.f14.params.toList args.toList ds p := hA0
  rw [Try.params14] at hA hval
  obtain ⟨v0, vs0, d0, ds0, p0, q0, hargs, rfl, rfl, h0, r0⟩ := trodAll_cons hA
  obtain ⟨rfl, rfl, rfl⟩ := trodAll_nil r0
  obtain rfl : args = #[v0] := by cases args; simp_all
  obtain ⟨rfl, rfl⟩ := trodVars_none hV
  have k0 := h0
  have lt0 : ∀ x ∈ p0, x.block < W.heap.size := by obtain ⟨m, hm⟩ := k0; exact DataW.trod_lt m _ _ _ hm
  obtain ⟨fuel0, g0⟩ := h0
  obtain ⟨b0, len0, cap0, rfl⟩ := okWide_slice Try.underlying37 (hval 0 37 v0 rfl rfl)
  obtain ⟨z0, s0, wf0⟩ := slOfRead Try.underlying37 Try.underlying5 (by kernel_rfl) (by simpa [Value.cells] using g0) lt0
  clear hA0 hval0
  refine (walk _ z0 W s0 wf0).mono fun e W' ⟨he, bel⟩ => ?_
  subst he
  exact ⟨_, rfl, _, _, _, [], _, [], hW', trodAll_mk1 (shut_bool Try.underlying4 _), (trodAll_cons_mk (Below.trod laidOut (by kernel_rfl) (of_decide_eq_true (by kernel_rfl)) k0 bel lt0) trodAll_mk0), rfl, bel.frame _, fun h => by cases h⟩

theorem over : Rows.fnSkippedKeysRow.holds Try.pinned (OpenSpec.ofChange Rows.fnSkippedKeysSpec) :=
  OpenClaim.holds_of_wide 14 Try.f14 rfl rfl rfl rfl rfl rfl rfl ⟨rfl, rfl, rfl, rfl, rfl⟩ rfl rfl rfl rfl rfl (by kernel_rfl) Try.func14 (by kernel_rfl)
    (of_decide_eq_true (by kernel_rfl)) (by unfold Func.isWrapper; first | (rw [if_pos (by decide +kernel)]; kernel_rfl) | (rw [if_neg (by decide +kernel)]; exact ⟨rfl, rfl⟩))
    (fun os started H enc _ => lifted os started H enc)

/-- the statement -/
theorem proved : Rows.FnSkippedKeysSaid := over
end Go.Proofs.Ytelcpihbdgikfaa.fnSkippedKeys
