/- For every code: a token is accepted once in its epoch, and double spending is counted; no condition. -/
import Derived.Test.YtdodheahckpkfaaRows
import Derived.Test.YtdodheahckpkfaaMerge
import Derived.Test.YtdodheahckpkfaaSpendPlain
import Derived.Test.YtdodheahckpkfaaDraw17c
import Derived.Test.YtdodheahckpkfaaLater
import Derived.Test.YtdodheahckpkfaaOpen
namespace Go.Proofs.Ytdodheahckpkfaa.fnSpending
open Go.ChangeShapes Go.WideShapes Go.ChangeAt Go.RowKit Go.Joins
set_option linter.unusedVariables false
theorem slN2 (w : World) (n : Int) : Sl .i64 (w.alloc (.cells #[.int .i64 n, .int .i64 n] 3)) (.slice (some ⟨w.heap.size, 0, none⟩) 2 2) [n, n] := Sl.lit .i64 w 3 [n, n] (by simp [maxLen])
theorem slN1 (w : World) (n : Int) : Sl .i64 (w.alloc (.cells #[.int .i64 n] 3)) (.slice (some ⟨w.heap.size, 0, none⟩) 1 1) [n] := Sl.lit .i64 w 3 [n] (by simp [maxLen])
theorem spend_zero {e : Int} {l L : List Int} {vt : Bool} {x : Int} (h : spendI e l vt x = (L, 0)) : validSpentI e l = true ∧ vt = true ∧ memB l x = false ∧ l.length < 40 ∧ L = insI l x := by
  unfold spendI at h
  split at h
  · rename_i h1
    split at h
    · simp at h
    · rename_i h2
      split at h
      · rename_i h3
        simp only [Bool.and_eq_true] at h1
        exact ⟨h1.1, h1.2, by simpa using h2, h3, by simp only [Prod.mk.injEq] at h; exact h.1.symm⟩
      · simp at h
  · simp at h
theorem spend_not {e : Int} {l L : List Int} {vt : Bool} {x r : Int} (h : spendI e l vt x = (L, r)) (hr : ¬ r = 0) : L = l := by
  unfold spendI at h
  split at h
  · split at h
    · simp only [Prod.mk.injEq] at h; exact h.1.symm
    · split at h
      · simp only [Prod.mk.injEq] at h; exact absurd h.2.symm hr
      · simp only [Prod.mk.injEq] at h; exact h.1.symm
  · simp only [Prod.mk.injEq] at h; exact h.1.symm
set_option maxRecDepth 100000 in
set_option maxHeartbeats 1000000 in
theorem walk (v : Value) (l : List Int) (w : World) (hs : Sl .u8 w v l) (hby : ∀ x ∈ l, (Lit.int .u8 x).wf = true) : Calls Try.prog 9 #[v] w fun e w' => e = .returned (.bool true) ∧ Below w.heap.size w w' := by
  obtain ⟨a, c, rfl, hm⟩ := hs.shape
  have HS := Lib.hid hs
  have HB : Hid (∀ x ∈ l, 0 ≤ x ∧ x ≤ 255) := Lib.hid (bytes_of_wf hby)
  clear hs hby
  by_cases hbig : (1048576 : Int) < (l.length : Int)
  · go_enter Try.func9, Try.ntmps9
    go_wp2_with (first | (go_at_call 35; (refine (lawsBig _ l _ HS.out).mono ?_); rintro e w0 ⟨rfl, rfl⟩))
    go_ret
    exact ⟨rfl, Below.refl _ _⟩
  · have hl : l.length ≤ 1048576 := by omega
    go_enter Try.func9, Try.ntmps9
    go_wp2_with (first | (go_at_call 35; (refine (lawsBig _ l _ HS.out).mono ?_); rintro e w0 ⟨rfl, rfl⟩))
    refine (drawSpendToken _ l _ HS.out hl HB.out).mono ?_
    rintro e w1 ⟨ea, s, n, tv, La, aa, Na, ca, rfl, hoa, hla, hb1⟩
    obtain rfl := hoa.len
    have SA := Lib.hid ((hoa.sl.alloc (.cells #[.int .i64 ea, .slice aa La.length ca] 27)).alloc (.cells #[.int .i64 n, .int .i64 tv] 42))
    have AA := Lib.hid ((Two.new w1 (.int .i64 ea) (.slice aa La.length ca) 27).alloc (.cells #[.int .i64 n, .int .i64 tv] 42))
    have K0 := Two.new (w1.alloc (.cells #[.int .i64 ea, .slice aa La.length ca] 27)) (.int .i64 n) (.int .i64 tv) 42
    rw [World.size_alloc] at K0
    have KK := Lib.hid K0
    have BB := Lib.hid (bel_al (bel_al hb1 (.cells #[.int .i64 ea, .slice aa La.length ca] 27)) (.cells #[.int .i64 n, .int .i64 tv] 42))
    clear hb1 hoa K0
    obtain ⟨⟨Lx, r⟩, hx⟩ : ∃ q, spendI ea La (validTokenI s n tv) n = q := ⟨_, rfl⟩
    have HX := Lib.hid hx
    have C2 := Lib.hid (fun W (h : Sl .i64 W (.slice aa La.length ca) La) => by have := implSpendToken ea _ La s n tv W h (by omega); rw [hx] at this; exact this)
    have C1 := Lib.hid (fun W (h : Sl .i64 W (.slice aa La.length ca) La) => by have := specSpendToken ea _ La s n tv W h (by omega); rw [hx] at this; exact this)
    have hrr : (r != r) = false := by simp
    clear hx
    go_wp2_with fail
    generalize (w1.alloc (.cells #[.int .i64 ea, .slice aa La.length ca] 27)).alloc (.cells #[.int .i64 n, .int .i64 tv] 42) = W1 at SA AA KK BB ⊢
    generalize w1.heap.size = A at AA KK ⊢
    obtain ⟨a0, a1, _, _⟩ := AA.out
    obtain ⟨k0, k1, _, _⟩ := KK.out
    clear AA KK
    refine (C2.out _ SA.out).mono ?_
    rintro e w3 ⟨ax, Nx, cx, rfl, hox, hb3⟩
    replace a0 := later0 hb3 a0
    replace a1 := later0 hb3 a1
    replace k0 := later0 hb3 k0
    replace k1 := later0 hb3 k1
    replace SA := Lib.hid (SA.out.below hb3)
    replace BB := Lib.hid (bel_seq BB.out hb3)
    clear hb3
    have SX := Lib.hid (hox.sl.alloc (.cells #[.int .i64 ea, .slice ax Nx cx] 27))
    clear hox
    have SA_ := Lib.hid (SA.out.alloc (.cells #[.int .i64 ea, .slice ax Nx cx] 27))
    have a0_ : (w3.alloc (.cells #[.int .i64 ea, .slice ax Nx cx] 27)).cell? _ = some _ := later0 (bel_al (Below.refl _ _) (.cells #[.int .i64 ea, .slice ax Nx cx] 27)) a0
    have a1_ : (w3.alloc (.cells #[.int .i64 ea, .slice ax Nx cx] 27)).cell? _ = some _ := later0 (bel_al (Below.refl _ _) (.cells #[.int .i64 ea, .slice ax Nx cx] 27)) a1
    have k0_ : (w3.alloc (.cells #[.int .i64 ea, .slice ax Nx cx] 27)).cell? _ = some _ := later0 (bel_al (Below.refl _ _) (.cells #[.int .i64 ea, .slice ax Nx cx] 27)) k0
    have k1_ : (w3.alloc (.cells #[.int .i64 ea, .slice ax Nx cx] 27)).cell? _ = some _ := later0 (bel_al (Below.refl _ _) (.cells #[.int .i64 ea, .slice ax Nx cx] 27)) k1
    have BB_ := Lib.hid (bel_al BB.out (.cells #[.int .i64 ea, .slice ax Nx cx] 27))
    have x0 : (w3.alloc (.cells #[.int .i64 ea, .slice ax Nx cx] 27)).cell? ⟨w3.heap.size, 0, none⟩ = some (.int .i64 ea) := by simp
    have x1 : (w3.alloc (.cells #[.int .i64 ea, .slice ax Nx cx] 27)).cell? ⟨w3.heap.size, 1, none⟩ = some (.slice ax Nx cx) := by simp
    clear SA a0 a1 k0 k1 BB
    go_wp2_with fail
    generalize w3.alloc (.cells #[.int .i64 ea, .slice ax Nx cx] 27) = W3 at SA_ a0_ a1_ k0_ k1_ BB_ SX x0 x1 ⊢
    generalize w3.heap.size = xb at x0 x1 ⊢
    have SA := SA_
    have a0 := a0_
    have a1 := a1_
    have k0 := k0_
    have k1 := k1_
    have BB := BB_
    clear SA_ a0_ a1_ k0_ k1_ BB_
    obtain rfl : Nx = Lx.length := SX.out.len
    refine (C1.out _ SA.out).mono ?_
    rintro e w4 ⟨ay, Ny, cy, rfl, hoy, hb4⟩
    replace a0 := later0 hb4 a0
    replace a1 := later0 hb4 a1
    replace k0 := later0 hb4 k0
    replace k1 := later0 hb4 k1
    replace x0 := later0 hb4 x0
    replace x1 := later0 hb4 x1
    replace SA := Lib.hid (SA.out.below hb4)
    replace SX := Lib.hid (SX.out.below hb4)
    replace BB := Lib.hid (bel_seq BB.out hb4)
    clear hb4
    have SY := Lib.hid (hoy.sl.alloc (.cells #[.int .i64 ea, .slice ay Ny cy] 27))
    clear hoy
    have SA_ := Lib.hid (SA.out.alloc (.cells #[.int .i64 ea, .slice ay Ny cy] 27))
    have SX_ := Lib.hid (SX.out.alloc (.cells #[.int .i64 ea, .slice ay Ny cy] 27))
    have a0_ : (w4.alloc (.cells #[.int .i64 ea, .slice ay Ny cy] 27)).cell? _ = some _ := later0 (bel_al (Below.refl _ _) (.cells #[.int .i64 ea, .slice ay Ny cy] 27)) a0
    have a1_ : (w4.alloc (.cells #[.int .i64 ea, .slice ay Ny cy] 27)).cell? _ = some _ := later0 (bel_al (Below.refl _ _) (.cells #[.int .i64 ea, .slice ay Ny cy] 27)) a1
    have k0_ : (w4.alloc (.cells #[.int .i64 ea, .slice ay Ny cy] 27)).cell? _ = some _ := later0 (bel_al (Below.refl _ _) (.cells #[.int .i64 ea, .slice ay Ny cy] 27)) k0
    have k1_ : (w4.alloc (.cells #[.int .i64 ea, .slice ay Ny cy] 27)).cell? _ = some _ := later0 (bel_al (Below.refl _ _) (.cells #[.int .i64 ea, .slice ay Ny cy] 27)) k1
    have x0_ : (w4.alloc (.cells #[.int .i64 ea, .slice ay Ny cy] 27)).cell? _ = some _ := later0 (bel_al (Below.refl _ _) (.cells #[.int .i64 ea, .slice ay Ny cy] 27)) x0
    have x1_ : (w4.alloc (.cells #[.int .i64 ea, .slice ay Ny cy] 27)).cell? _ = some _ := later0 (bel_al (Below.refl _ _) (.cells #[.int .i64 ea, .slice ay Ny cy] 27)) x1
    have BB_ := Lib.hid (bel_al BB.out (.cells #[.int .i64 ea, .slice ay Ny cy] 27))
    have y0 : (w4.alloc (.cells #[.int .i64 ea, .slice ay Ny cy] 27)).cell? ⟨w4.heap.size, 0, none⟩ = some (.int .i64 ea) := by simp
    have y1 : (w4.alloc (.cells #[.int .i64 ea, .slice ay Ny cy] 27)).cell? ⟨w4.heap.size, 1, none⟩ = some (.slice ay Ny cy) := by simp
    clear SA SX a0 a1 k0 k1 x0 x1 BB
    go_wp2_with fail
    generalize w4.alloc (.cells #[.int .i64 ea, .slice ay Ny cy] 27) = W4 at SA_ SX_ a0_ a1_ k0_ k1_ x0_ x1_ BB_ SY y0 y1 ⊢
    generalize w4.heap.size = yb at y0 y1 ⊢
    have SA := SA_
    have SX := SX_
    have a0 := a0_
    have a1 := a1_
    have k0 := k0_
    have k1 := k1_
    have x0 := x0_
    have x1 := x1_
    have BB := BB_
    clear SA_ SX_ a0_ a1_ k0_ k1_ x0_ x1_ BB_
    obtain rfl : Ny = Lx.length := SY.out.len
    refine (implEqualSpentLists ea ea _ _ Lx Lx _ SX.out SY.out).mono ?_
    rintro e w5 ⟨rfl, hb5⟩
    simp only [beq_self_eq_true, Bool.and_self]
    replace a0 := later0 hb5 a0
    replace a1 := later0 hb5 a1
    replace k0 := later0 hb5 k0
    replace k1 := later0 hb5 k1
    replace x0 := later0 hb5 x0
    replace x1 := later0 hb5 x1
    replace y0 := later0 hb5 y0
    replace y1 := later0 hb5 y1
    replace SA := Lib.hid (SA.out.below hb5)
    replace SX := Lib.hid (SX.out.below hb5)
    replace SY := Lib.hid (SY.out.below hb5)
    replace BB := Lib.hid (bel_seq BB.out hb5)
    clear hb5
    clear y0 y1 SY
    by_cases hr : r = 0
    · subst hr
      obtain ⟨hva, hvt, hme, h40, hL⟩ := spend_zero HX.out
      have hvx := spent_valid hva (token_bd hvt).1 (token_bd hvt).2 hme h40
      have hmx := spent_mem La n
      rw [← hL] at hvx hmx
      have hsp : spendI ea Lx (validTokenI s n tv) n = (Lx, 2) := spend_twice (by rw [hvx, hvt]; rfl) hmx
      have hmg := merge_self hvx
      have hb2 := budget_two hme
      have hb0 := budget_none hmx
      have hlx : Lx.length ≤ 40 := (validSpent_iff.1 hvx).2.1
      have C3 := Lib.hid (fun v W (h : Sl .i64 W v Lx) => by have := implSpendToken ea v Lx s n tv W h (by omega); rw [hsp] at this; exact this)
      have C4 := Lib.hid (fun v u W (h : Sl .i64 W v Lx) (h2 : Sl .i64 W u Lx) => by have := implMergeSpent ea ea v u Lx Lx W h h2 (by omega); rw [hmg] at this; exact this)
      have C5 := Lib.hid (fun W (h : Sl .i64 W (.slice ax Lx.length cx) Lx) => by have := implIsSpent ea _ Lx n W h; rw [hmx] at this; exact this)
      have C6 := Lib.hid (fun W (h : Sl .i64 W (.slice aa La.length ca) La) => by have := implIsSpent ea _ La n W h; rw [hme] at this; exact this)
      have C7 := Lib.hid (fun W (h : Sl .i64 W (.slice ax Lx.length cx) Lx) => by have := implIsValidSpentList ea _ Lx W h; rw [hvx] at this; exact this)
      have C8 := Lib.hid (fun u W (h : Sl .i64 W (.slice aa La.length ca) La) (h2 : Sl .i64 W u [n, n]) => by have := implBudgetLeft ea _ u La [n, n] W h h2; rw [hb2] at this; exact this)
      have C9 := Lib.hid (fun u W (h : Sl .i64 W (.slice ax Lx.length cx) Lx) (h2 : Sl .i64 W u [n]) => by have := implBudgetLeft ea _ u Lx [n] W h h2; rw [hb0] at this; exact this)
      clear hva hvt hme hL hvx hmx hsp hmg hb2 hb0 HX
      go_wp2_with fail
      refine (C3.out _ _ SX.out).mono ?_
      rintro e w6 ⟨at_, Nt, ct, rfl, hot, hb6⟩
      replace a0 := later0 hb6 a0
      replace a1 := later0 hb6 a1
      replace k0 := later0 hb6 k0
      replace k1 := later0 hb6 k1
      replace x0 := later0 hb6 x0
      replace x1 := later0 hb6 x1
      replace SA := Lib.hid (SA.out.below hb6)
      replace SX := Lib.hid (SX.out.below hb6)
      replace BB := Lib.hid (bel_seq BB.out hb6)
      clear hb6
      have ST := Lib.hid (hot.sl.alloc (.cells #[.int .i64 ea, .slice at_ Nt ct] 27))
      clear hot
      have SA_ := Lib.hid (SA.out.alloc (.cells #[.int .i64 ea, .slice at_ Nt ct] 27))
      have SX_ := Lib.hid (SX.out.alloc (.cells #[.int .i64 ea, .slice at_ Nt ct] 27))
      have a0_ : (w6.alloc (.cells #[.int .i64 ea, .slice at_ Nt ct] 27)).cell? _ = some _ := later0 (bel_al (Below.refl _ _) (.cells #[.int .i64 ea, .slice at_ Nt ct] 27)) a0
      have a1_ : (w6.alloc (.cells #[.int .i64 ea, .slice at_ Nt ct] 27)).cell? _ = some _ := later0 (bel_al (Below.refl _ _) (.cells #[.int .i64 ea, .slice at_ Nt ct] 27)) a1
      have k0_ : (w6.alloc (.cells #[.int .i64 ea, .slice at_ Nt ct] 27)).cell? _ = some _ := later0 (bel_al (Below.refl _ _) (.cells #[.int .i64 ea, .slice at_ Nt ct] 27)) k0
      have k1_ : (w6.alloc (.cells #[.int .i64 ea, .slice at_ Nt ct] 27)).cell? _ = some _ := later0 (bel_al (Below.refl _ _) (.cells #[.int .i64 ea, .slice at_ Nt ct] 27)) k1
      have x0_ : (w6.alloc (.cells #[.int .i64 ea, .slice at_ Nt ct] 27)).cell? _ = some _ := later0 (bel_al (Below.refl _ _) (.cells #[.int .i64 ea, .slice at_ Nt ct] 27)) x0
      have x1_ : (w6.alloc (.cells #[.int .i64 ea, .slice at_ Nt ct] 27)).cell? _ = some _ := later0 (bel_al (Below.refl _ _) (.cells #[.int .i64 ea, .slice at_ Nt ct] 27)) x1
      have BB_ := Lib.hid (bel_al BB.out (.cells #[.int .i64 ea, .slice at_ Nt ct] 27))
      have t0 : (w6.alloc (.cells #[.int .i64 ea, .slice at_ Nt ct] 27)).cell? ⟨w6.heap.size, 0, none⟩ = some (.int .i64 ea) := by simp
      have t1 : (w6.alloc (.cells #[.int .i64 ea, .slice at_ Nt ct] 27)).cell? ⟨w6.heap.size, 1, none⟩ = some (.slice at_ Nt ct) := by simp
      clear SA SX a0 a1 k0 k1 x0 x1 BB
      go_wp2_with fail
      generalize w6.alloc (.cells #[.int .i64 ea, .slice at_ Nt ct] 27) = W6 at SA_ SX_ a0_ a1_ k0_ k1_ x0_ x1_ BB_ ST t0 t1 ⊢
      generalize w6.heap.size = tb at t0 t1 ⊢
      have SA := SA_
      have SX := SX_
      have a0 := a0_
      have a1 := a1_
      have k0 := k0_
      have k1 := k1_
      have x0 := x0_
      have x1 := x1_
      have BB := BB_
      clear SA_ SX_ a0_ a1_ k0_ k1_ x0_ x1_ BB_
      clear t0 t1 ST
      refine (C4.out _ _ _ SX.out SX.out).mono ?_
      rintro e w7 ⟨am, Nm, cm, rfl, hom, hb7⟩
      replace a0 := later0 hb7 a0
      replace a1 := later0 hb7 a1
      replace k0 := later0 hb7 k0
      replace k1 := later0 hb7 k1
      replace x0 := later0 hb7 x0
      replace x1 := later0 hb7 x1
      replace SA := Lib.hid (SA.out.below hb7)
      replace SX := Lib.hid (SX.out.below hb7)
      replace BB := Lib.hid (bel_seq BB.out hb7)
      clear hb7
      have SM := Lib.hid (hom.sl.alloc (.cells #[.int .i64 ea, .slice am Nm cm] 27))
      clear hom
      have SA_ := Lib.hid (SA.out.alloc (.cells #[.int .i64 ea, .slice am Nm cm] 27))
      have SX_ := Lib.hid (SX.out.alloc (.cells #[.int .i64 ea, .slice am Nm cm] 27))
      have a0_ : (w7.alloc (.cells #[.int .i64 ea, .slice am Nm cm] 27)).cell? _ = some _ := later0 (bel_al (Below.refl _ _) (.cells #[.int .i64 ea, .slice am Nm cm] 27)) a0
      have a1_ : (w7.alloc (.cells #[.int .i64 ea, .slice am Nm cm] 27)).cell? _ = some _ := later0 (bel_al (Below.refl _ _) (.cells #[.int .i64 ea, .slice am Nm cm] 27)) a1
      have k0_ : (w7.alloc (.cells #[.int .i64 ea, .slice am Nm cm] 27)).cell? _ = some _ := later0 (bel_al (Below.refl _ _) (.cells #[.int .i64 ea, .slice am Nm cm] 27)) k0
      have k1_ : (w7.alloc (.cells #[.int .i64 ea, .slice am Nm cm] 27)).cell? _ = some _ := later0 (bel_al (Below.refl _ _) (.cells #[.int .i64 ea, .slice am Nm cm] 27)) k1
      have x0_ : (w7.alloc (.cells #[.int .i64 ea, .slice am Nm cm] 27)).cell? _ = some _ := later0 (bel_al (Below.refl _ _) (.cells #[.int .i64 ea, .slice am Nm cm] 27)) x0
      have x1_ : (w7.alloc (.cells #[.int .i64 ea, .slice am Nm cm] 27)).cell? _ = some _ := later0 (bel_al (Below.refl _ _) (.cells #[.int .i64 ea, .slice am Nm cm] 27)) x1
      have BB_ := Lib.hid (bel_al BB.out (.cells #[.int .i64 ea, .slice am Nm cm] 27))
      have m0 : (w7.alloc (.cells #[.int .i64 ea, .slice am Nm cm] 27)).cell? ⟨w7.heap.size, 0, none⟩ = some (.int .i64 ea) := by simp
      have m1 : (w7.alloc (.cells #[.int .i64 ea, .slice am Nm cm] 27)).cell? ⟨w7.heap.size, 1, none⟩ = some (.slice am Nm cm) := by simp
      clear SA SX a0 a1 k0 k1 x0 x1 BB
      go_wp2_with fail
      generalize w7.alloc (.cells #[.int .i64 ea, .slice am Nm cm] 27) = W7 at SA_ SX_ a0_ a1_ k0_ k1_ x0_ x1_ BB_ SM m0 m1 ⊢
      generalize w7.heap.size = mb at m0 m1 ⊢
      have SA := SA_
      have SX := SX_
      have a0 := a0_
      have a1 := a1_
      have k0 := k0_
      have k1 := k1_
      have x0 := x0_
      have x1 := x1_
      have BB := BB_
      clear SA_ SX_ a0_ a1_ k0_ k1_ x0_ x1_ BB_
      obtain rfl : Nm = Lx.length := SM.out.len
      refine (lawsAt _ l 0 _ (HS.out.below BB.out) hl (by omega) HB.out).mono ?_
      rintro e w8 ⟨y0, rfl, _, _, rfl⟩
      go_wp2_with fail
      refine (lawsAt _ l 1 _ (HS.out.below BB.out) hl (by omega) HB.out).mono ?_
      rintro e w8q ⟨y1, rfl, _, _, rfl⟩
      have hep := epoch_bd y0 y1
      have CE := Lib.hid (fun W => implEpochSecret y0 y1 W)
      generalize epochSecretI y0 y1 = ep at hep CE
      go_wp2_with fail
      refine (CE.out _).mono ?_
      rintro e w9 ⟨rfl, hb9⟩
      replace a0 := later0 hb9 a0
      replace a1 := later0 hb9 a1
      replace k0 := later0 hb9 k0
      replace k1 := later0 hb9 k1
      replace x0 := later0 hb9 x0
      replace x1 := later0 hb9 x1
      replace m0 := later0 hb9 m0
      replace m1 := later0 hb9 m1
      replace SA := Lib.hid (SA.out.below hb9)
      replace SX := Lib.hid (SX.out.below hb9)
      replace SM := Lib.hid (SM.out.below hb9)
      replace BB := Lib.hid (bel_seq BB.out hb9)
      clear hb9
      obtain ⟨he1, he2⟩ := hep
      have he3 : ep < 1019 := by omega
      have hlen : ((Lx.length : Int) == (Lx.length : Int)) = true := by simp
      go_wp2_with fail
      refine (C5.out _ SX.out).mono ?_
      rintro e w10 ⟨rfl, hb10⟩
      replace a0 := later0 hb10 a0
      replace a1 := later0 hb10 a1
      replace k0 := later0 hb10 k0
      replace k1 := later0 hb10 k1
      replace x0 := later0 hb10 x0
      replace x1 := later0 hb10 x1
      replace m0 := later0 hb10 m0
      replace m1 := later0 hb10 m1
      replace SA := Lib.hid (SA.out.below hb10)
      replace SX := Lib.hid (SX.out.below hb10)
      replace SM := Lib.hid (SM.out.below hb10)
      replace BB := Lib.hid (bel_seq BB.out hb10)
      clear hb10
      go_wp2_with fail
      refine (C6.out _ SA.out).mono ?_
      rintro e w11 ⟨rfl, hb11⟩
      replace a0 := later0 hb11 a0
      replace a1 := later0 hb11 a1
      replace k0 := later0 hb11 k0
      replace k1 := later0 hb11 k1
      replace x0 := later0 hb11 x0
      replace x1 := later0 hb11 x1
      replace m0 := later0 hb11 m0
      replace m1 := later0 hb11 m1
      replace SA := Lib.hid (SA.out.below hb11)
      replace SX := Lib.hid (SX.out.below hb11)
      replace SM := Lib.hid (SM.out.below hb11)
      replace BB := Lib.hid (bel_seq BB.out hb11)
      clear hb11
      go_wp2_with fail
      refine (C7.out _ SX.out).mono ?_
      rintro e w12 ⟨rfl, hb12⟩
      replace a0 := later0 hb12 a0
      replace a1 := later0 hb12 a1
      replace k0 := later0 hb12 k0
      replace k1 := later0 hb12 k1
      replace x0 := later0 hb12 x0
      replace x1 := later0 hb12 x1
      replace m0 := later0 hb12 m0
      replace m1 := later0 hb12 m1
      replace SA := Lib.hid (SA.out.below hb12)
      replace SX := Lib.hid (SX.out.below hb12)
      replace SM := Lib.hid (SM.out.below hb12)
      replace BB := Lib.hid (bel_seq BB.out hb12)
      clear hb12
      go_wp2_with fail
      refine (implEqualSpentLists ea ea _ _ Lx Lx _ SM.out SX.out).mono ?_
      rintro e w13 ⟨rfl, hb13⟩
      simp only [beq_self_eq_true, Bool.and_self]
      replace a0 := later0 hb13 a0
      replace a1 := later0 hb13 a1
      replace k0 := later0 hb13 k0
      replace k1 := later0 hb13 k1
      replace x0 := later0 hb13 x0
      replace x1 := later0 hb13 x1
      replace m0 := later0 hb13 m0
      replace m1 := later0 hb13 m1
      replace SA := Lib.hid (SA.out.below hb13)
      replace SX := Lib.hid (SX.out.below hb13)
      replace SM := Lib.hid (SM.out.below hb13)
      replace BB := Lib.hid (bel_seq BB.out hb13)
      clear hb13
      go_wp2_with fail
      refine (C8.out _ _ (SA.out.alloc (.cells #[.int .i64 n, .int .i64 n] 3)) (slN2 w13 n)).mono ?_
      rintro e w14 ⟨rfl, hb14⟩
      replace SX := Lib.hid ((SX.out.alloc (.cells #[.int .i64 n, .int .i64 n] 3)).below hb14)
      replace x0 := later1 hb14 x0
      replace x1 := later1 hb14 x1
      replace k0 := later1 hb14 k0
      replace k1 := later1 hb14 k1
      replace BB := Lib.hid (bel_seq (bel_al BB.out _) hb14)
      clear hb14
      go_wp2_with fail
      refine (C9.out _ _ (SX.out.alloc (.cells #[.int .i64 n] 3)) (slN1 w14 n)).mono ?_
      rintro e w15 ⟨rfl, hb15⟩
      replace BB := Lib.hid (bel_seq (bel_al BB.out _) hb15)
      clear hb15
      go_wp2
      go_ret
      exact ⟨rfl, BB.out⟩
    · have hLx := spend_not HX.out hr
      have hr2 : (r != 0) = true := by simpa using hr
      subst hLx
      go_wp2_with fail
      refine (implEqualSpentLists ea ea _ _ _ _ _ SX.out SA.out).mono ?_
      rintro e w90 ⟨rfl, hb90⟩
      simp only [beq_self_eq_true, Bool.and_self]
      replace BB := Lib.hid (bel_seq BB.out hb90)
      go_wp2
      go_ret
      exact ⟨rfl, BB.out⟩
/-! ### THE ROW's STEP: the guide's own way -/
theorem own : ownKnob Try.prog.godebug = none := by kernel_rfl
theorem laidOut : laidOutB Try.prog = true := by kernel_rfl
set_option maxRecDepth 100000 in
theorem lifted (os : Os) (started : os.Started) (H : Type) (enc : TypeId × Value → H) :
    ReturnsInHanded {} Try.checked os 9 .any (Rows.fnSpendingSpec.pre6 enc Try.prog Try.f9 Rows.fnSpendingRow.domain false) (Rows.fnSpendingSpec.post enc Try.prog Try.f9 false true false false) := by
  refine returnsInHanded_of_change (C := Try.checked) own started (by kernel_rfl) Try.func9
    (ChangeSpec.witness6 (enc := enc) (C := Try.checked) false ⟨#[], #[.slice none 0 0], []⟩ 8 (by kernel_rfl) (by kernel_rfl) (by kernel_rfl) (by kernel_rfl)) ?_
  intro W base args ds gs before hval0 hW hcnd _
  have hval : ∀ (j : Nat) t v, Try.f9.params[j]? = some t → args[j]? = some v → Value.okWide Try.prog W .any base t v := hval0
  have hW' := hW
  obtain ⟨p, q, hA0, hV, rfl, hfz, hnd⟩ := hW
  have hA : DataW.TrodAll enc Try.prog W 0 (fun _ => true) true Try.f9.params.toList args.toList ds p := hA0
  rw [Try.params9] at hA hval
  obtain ⟨v0, vs0, d0, ds0, p0, q0, hargs, rfl, rfl, h0, r0⟩ := trodAll_cons hA
  obtain ⟨rfl, rfl, rfl⟩ := trodAll_nil r0
  obtain rfl : args = #[v0] := by cases args; simp_all
  obtain ⟨rfl, rfl⟩ := trodVars_none hV
  have k0 := h0
  have lt0 : ∀ x ∈ p0, x.block < W.heap.size := by obtain ⟨m, hm⟩ := k0; exact DataW.trod_lt m _ _ _ hm
  obtain ⟨fuel0, g0⟩ := h0
  obtain ⟨b0, len0, cap0, rfl⟩ := okWide_slice Try.underlying47 (hval 0 47 v0 rfl rfl)
  obtain ⟨z0, s0, wf0⟩ := slOfRead Try.underlying47 Try.underlying5 (by kernel_rfl) (by simpa [Value.cells] using g0) lt0
  clear hA0 hval0
  refine (walk _ z0 W s0 wf0).mono fun e W' ⟨he, bel⟩ => ?_
  subst he
  exact ⟨_, rfl, _, _, _, [], _, [], hW', trodAll_mk1 (shut_bool Try.underlying4 _), (trodAll_cons_mk (Below.trod laidOut (by kernel_rfl) (of_decide_eq_true (by kernel_rfl)) k0 bel lt0) trodAll_mk0), rfl, bel.frame _, fun h => by cases h⟩

theorem over : Rows.fnSpendingRow.holds Try.pinned (OpenSpec.ofChange Rows.fnSpendingSpec) :=
  OpenClaim.holds_of_wide 9 Try.f9 rfl rfl rfl rfl rfl rfl rfl ⟨rfl, rfl, rfl, rfl, rfl⟩ rfl rfl rfl rfl rfl (by kernel_rfl) Try.func9 (by kernel_rfl)
    (of_decide_eq_true (by kernel_rfl)) (by unfold Func.isWrapper; first | (rw [if_pos (by decide +kernel)]; kernel_rfl) | (rw [if_neg (by decide +kernel)]; exact ⟨rfl, rfl⟩))
    (fun os started H enc _ => lifted os started H enc)

/-- the statement -/
theorem proved : Rows.FnSpendingSaid := over
end Go.Proofs.Ytdodheahckpkfaa.fnSpending
