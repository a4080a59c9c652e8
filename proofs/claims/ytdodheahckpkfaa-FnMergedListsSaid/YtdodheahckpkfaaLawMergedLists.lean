/- For every code: a merged list contains what both lists contain, as far as there is room; no condition. -/
import Derived.Test.YtdodheahckpkfaaRows
import Derived.Test.YtdodheahckpkfaaMerge
import Derived.Test.YtdodheahckpkfaaMergePlain
import Derived.Test.YtdodheahckpkfaaDraw17b
import Derived.Test.YtdodheahckpkfaaLater
import Derived.Test.YtdodheahckpkfaaOpen
import Derived.Deep.RegionHeld3
namespace Go.Proofs.Ytdodheahckpkfaa.fnMergedLists
open Go.ChangeShapes Go.WideShapes Go.ChangeAt Go.RowKit Go.Joins
set_option linter.unusedVariables false
set_option linter.unusedSimpArgs false
theorem specMin (a b r : Int) (hr : r = min a b) (w : World) : Calls Try.prog 40 #[.int .i64 a, .int .i64 b] w fun e w' => e = .returned (.int .i64 r) ∧ w = w' := by
  go_enter Try.func40, Try.ntmps40
  by_cases h : b < a
  · obtain rfl : r = b := by omega
    clear hr
    go_wp2
    go_ret
    exact ⟨rfl, rfl⟩
  · obtain rfl : r = a := by omega
    clear hr
    go_wp2
    go_ret
    exact ⟨rfl, rfl⟩
theorem keep5 {W W' : World} {a0 a1 a2 a3 a4 : Addr} {u0 u1 u2 u3 u4 : Value} (hb : Below W.heap.size W W') (h0 : W.cell? a0 = some u0) (h1 : W.cell? a1 = some u1) (h2 : W.cell? a2 = some u2) (h3 : W.cell? a3 = some u3) (h4 : W.cell? a4 = some u4) :
    W'.cell? a0 = some u0 ∧ W'.cell? a1 = some u1 ∧ W'.cell? a2 = some u2 ∧ W'.cell? a3 = some u3 ∧ W'.cell? a4 = some u4 ∧ Below W.heap.size W W' := ⟨later0 hb h0, later0 hb h1, later0 hb h2, later0 hb h3, later0 hb h4, hb⟩
theorem bel5 {p0 p1 p2 p3 p4 e : Prop} (h : p0 ∧ p1 ∧ p2 ∧ p3 ∧ p4 ∧ e) : e := h.2.2.2.2.2
set_option maxRecDepth 100000 in
set_option maxHeartbeats 4000000 in
theorem walk (v : Value) (l : List Int) (w : World) (hs : Sl .u8 w v l) (hby : ∀ x ∈ l, (Lit.int .u8 x).wf = true) : Calls Try.prog 10 #[v] w fun e w' => e = .returned (.bool true) ∧ Below w.heap.size w w' := by
  obtain ⟨a, c, rfl, hm⟩ := hs.shape
  have HS := Lib.hid hs
  have HB : Hid (∀ x ∈ l, 0 ≤ x ∧ x ≤ 255) := Lib.hid (bytes_of_wf hby)
  clear hs hby
  by_cases hbig : (1048576 : Int) < (l.length : Int)
  · go_enter Try.func10, Try.ntmps10
    go_wp2_with (first | (go_at_call 35; (refine (lawsBig _ l _ HS.out).mono ?_); rintro e w0 ⟨rfl, rfl⟩))
    go_ret
    exact ⟨rfl, Below.refl _ _⟩
  · have hl : l.length ≤ 1048576 := by omega
    go_enter Try.func10, Try.ntmps10
    go_wp2_with (first | (go_at_call 35; (refine (lawsBig _ l _ HS.out).mono ?_); rintro e w0 ⟨rfl, rfl⟩))
    refine (drawMergeSpent _ l _ HS.out hl HB.out).mono ?_
    rintro e w1 ⟨ea, eb, La, Lb, aa, ab, Na, Nb, ca, cb, rfl, hoa, hob, hla, hlb, hb1⟩
    obtain rfl := hoa.len
    obtain rfl := hob.len
    have SA1 := Lib.hid ((hoa.sl.alloc (.cells #[.int .i64 ea, .slice aa La.length ca] 27)).alloc (.cells #[.int .i64 eb, .slice ab Lb.length cb] 27))
    have SB1 := Lib.hid ((hob.sl.alloc (.cells #[.int .i64 ea, .slice aa La.length ca] 27)).alloc (.cells #[.int .i64 eb, .slice ab Lb.length cb] 27))
    have A1 := Lib.hid ((Two.new w1 (.int .i64 ea) (.slice aa La.length ca) 27).alloc (.cells #[.int .i64 eb, .slice ab Lb.length cb] 27))
    have D10 := Two.new (w1.alloc (.cells #[.int .i64 ea, .slice aa La.length ca] 27)) (.int .i64 eb) (.slice ab Lb.length cb) 27
    rw [World.size_alloc] at D10
    have D1 := Lib.hid D10
    have B1 := Lib.hid (bel_al (bel_al hb1 (.cells #[.int .i64 ea, .slice aa La.length ca] 27)) (.cells #[.int .i64 eb, .slice ab Lb.length cb] 27))
    have CM := Lib.hid (fun W (h1 : Sl .i64 W (.slice aa La.length ca) La) (h2 : Sl .i64 W (.slice ab Lb.length cb) Lb) => implMergeSpent ea eb _ _ La Lb W h1 h2 (by omega))
    have hzW : w1.heap.size + 2 ≤ ((w1.alloc (.cells #[.int .i64 ea, .slice aa La.length ca] 27)).alloc (.cells #[.int .i64 eb, .slice ab Lb.length cb] 27)).heap.size := by simp
    clear hb1 hoa hob D10
    go_wp2_with fail
    generalize (w1.alloc (.cells #[.int .i64 ea, .slice aa La.length ca] 27)).alloc (.cells #[.int .i64 eb, .slice ab Lb.length cb] 27) = W1 at SA1 SB1 A1 D1 B1 hzW ⊢
    generalize w1.heap.size = A at A1 D1 hzW ⊢
    obtain ⟨⟨M, r⟩, hx⟩ : ∃ q, q = mergeI ea La eb Lb := ⟨_, rfl⟩
    have HX := Lib.hid hx
    have CM1 := Lib.hid (CM.out W1 SA1.out SB1.out)
    rw [← hx] at CM1
    clear hx CM
    refine CM1.out.mono ?_
    rintro e w2 ⟨am, Nm, cm, rfl, hom, hb2⟩
    obtain rfl : Nm = M.length := hom.len
    have SA := Lib.hid ((SA1.out.below hb2).alloc (.cells #[.int .i64 ea, .slice am M.length cm] 27))
    have SB := Lib.hid ((SB1.out.below hb2).alloc (.cells #[.int .i64 ea, .slice am M.length cm] 27))
    have SM : Hid (Sl .i64 (w2.alloc (.cells #[.int .i64 ea, .slice am M.length cm] 27)) (.slice am M.length cm) M) := Lib.hid (hom.sl.alloc _)
    have AA := Lib.hid ((A1.out.below hb2).alloc (.cells #[.int .i64 ea, .slice am M.length cm] 27))
    have DD := Lib.hid ((D1.out.below hb2).alloc (.cells #[.int .i64 ea, .slice am M.length cm] 27))
    have MM := Lib.hid (Two.new w2 (.int .i64 ea) (.slice am M.length cm) 27)
    have BB := Lib.hid (bel_al (bel_seq B1.out hb2) (.cells #[.int .i64 ea, .slice am M.length cm] 27))
    clear SA1 SB1 A1 D1 B1 hb2 hom CM1 HS HB
    obtain ⟨a0, a1, _, _⟩ := AA.out
    obtain ⟨d0, d1, _, _⟩ := DD.out
    obtain ⟨m0, m1, _, _⟩ := MM.out
    clear AA DD MM
    go_wp2_with fail
    generalize w2.alloc (.cells #[.int .i64 ea, .slice am M.length cm] 27) = W2 at SA SB SM BB a0 a1 d0 d1 m0 m1 ⊢
    generalize w2.heap.size = mb at m0 m1 ⊢
    refine (specIsValidSpentList ea _ La W2 SA.out).mono ?_
    rintro e w3 ⟨rfl, hb3⟩
    replace a0 := later0 hb3 a0
    replace a1 := later0 hb3 a1
    replace d0 := later0 hb3 d0
    replace d1 := later0 hb3 d1
    replace m0 := later0 hb3 m0
    replace m1 := later0 hb3 m1
    replace SA := Lib.hid (SA.out.below hb3)
    replace SB := Lib.hid (SB.out.below hb3)
    replace SM := Lib.hid (SM.out.below hb3)
    replace BB := Lib.hid (bel_seq BB.out hb3)
    clear hb3
    cases hva : validSpentI ea La with
    | false =>
      have hMr : (M, r) = (La, 0) := HX.out.trans (merge_no (by rw [hva]; rfl))
      obtain ⟨rfl, rfl⟩ : M = La ∧ r = 0 := by simpa using hMr
      clear hMr
      go_wp2_with fail
      refine (implEqualSpentLists ea ea _ _ _ _ _ SM.out SA.out).mono ?_
      rintro e w9 ⟨rfl, hb9⟩
      simp only [beq_self_eq_true, Bool.and_self]
      replace BB := Lib.hid (bel_seq BB.out hb9)
      go_wp2
      go_ret
      exact ⟨rfl, BB.out⟩
    | true =>
      go_wp2_with fail
      refine (specIsValidSpentList eb _ Lb w3 SB.out).mono ?_
      rintro e w4 ⟨rfl, hb4⟩
      replace a0 := later0 hb4 a0
      replace a1 := later0 hb4 a1
      replace d0 := later0 hb4 d0
      replace d1 := later0 hb4 d1
      replace m0 := later0 hb4 m0
      replace m1 := later0 hb4 m1
      replace SA := Lib.hid (SA.out.below hb4)
      replace SB := Lib.hid (SB.out.below hb4)
      replace SM := Lib.hid (SM.out.below hb4)
      replace BB := Lib.hid (bel_seq BB.out hb4)
      clear hb4
      cases hvb : validSpentI eb Lb with
      | false =>
        have hMr : (M, r) = (La, 0) := HX.out.trans (merge_no (by rw [hva, hvb]; rfl))
        obtain ⟨rfl, rfl⟩ : M = La ∧ r = 0 := by simpa using hMr
        clear hMr
        go_wp2_with fail
        refine (implEqualSpentLists ea ea _ _ _ _ _ SM.out SA.out).mono ?_
        rintro e w9 ⟨rfl, hb9⟩
        simp only [beq_self_eq_true, Bool.and_self]
        replace BB := Lib.hid (bel_seq BB.out hb9)
        go_wp2
        go_ret
        exact ⟨rfl, BB.out⟩
      | true =>
        by_cases hee : ea = eb
        · subst hee
          have heb : (ea != ea) = false := by simp
          obtain ⟨h1, h2, h3, h4, h5⟩ := merge_law hva hvb
          obtain ⟨⟨M', n⟩, hn⟩ : ∃ q, mergeTo La Lb Lb.length = q := ⟨_, rfl⟩
          rw [hn] at h1 h2 h3 h4 h5
          have hMr : (M, r) = (M', (n : Int)) := HX.out.trans (merge_yes (by rw [hva, hvb]; simp) hn)
          obtain ⟨rfl, rfl⟩ : M' = M ∧ r = (n : Int) := by simp only [Prod.mk.injEq] at hMr; exact ⟨hMr.1.symm, hMr.2⟩
          dsimp only at h1 h2 h3 h4 h5
          have H1 := Lib.hid h1
          have H2 := Lib.hid h2
          have H3 := Lib.hid h3
          have H4 := Lib.hid h4
          have H5 := Lib.hid h5
          have hM40 : M'.length ≤ 40 := by omega
          clear hMr hn h1 h2 h3 h4 h5 HX hva hvb
          have A0 := a0
          have A1 := a1
          have D0 := d0
          have D1 := d1
          have M0 := m0
          have M1 := m1
          have HA := Lib.hid (And.intro A0 (And.intro A1 (And.intro D0 (And.intro D1 (And.intro M0 M1)))))
          clear A0 A1 D0 D1 M0 M1
          go_wp2_with fail
          clear a0 a1 d0 d1 m0 m1
          go_loopw [7] (fun ix wr => ∃ k : Nat, k ≤ M'.length ∧ ix = .int .i64 k ∧ Hid (Below w4.heap.size w4 wr)) (fun ix _ => M'.length - (intOf ix).toNat)
          case atStart => exact ⟨0, Nat.zero_le _, rfl, Lib.hid (Below.refl _ _)⟩
          case round =>
            obtain ⟨k, hk, rfl, BR⟩ := hrel
            obtain ⟨a0, a1, d0, d1, m0, m1⟩ := HA.out
            replace a0 := later0 BR.out a0
            replace a1 := later0 BR.out a1
            replace d0 := later0 BR.out d0
            replace d1 := later0 BR.out d1
            replace m0 := later0 BR.out m0
            replace m1 := later0 BR.out m1
            have SMr := Lib.hid (SM.out.below BR.out)
            have SAr := Lib.hid (SA.out.below BR.out)
            have SBr := Lib.hid (SB.out.below BR.out)
            by_cases hlt : k < M'.length
            · obtain ⟨b, off, rfl, hb, h4⟩ := SMr.out.at hlt
              have c0 := h4 k hlt
              have hlt2 : (k : Int) < M'.length := by omega
              obtain ⟨y, hy⟩ : ∃ y, M'.getD k 0 = y := ⟨_, rfl⟩
              rw [hy] at c0
              have hym := H1.out y (by rw [← hy, Lib.getD_lt _ _ hlt]; exact List.getElem_mem hlt)
              clear h4 hb hy
              cases hma : memB La y with
              | true =>
                have CSa := Lib.hid (fun W (h : Sl .i64 W (.slice aa La.length ca) La) => by have := specIsSpent ea _ La y W h; rw [hma] at this; exact this)
                go_wp2_with fail
                clear HA SA SB SM BB H1 H2 H3 H4 H5 SMr SBr hym d0 d1 m0 hma
                refine wp_region_held_drew (S := (fun W' => W'.cell? ⟨A, 0, none⟩ = some (.int .i64 ea) ∧ W'.cell? ⟨A, 1, none⟩ = some (.slice aa La.length ca) ∧ W'.cell? ⟨mb, 1, none⟩ = some (.slice (some ⟨b, off, none⟩) M'.length cm) ∧ W'.cell? ⟨b, off + k, none⟩ = some (.int .i64 y) ∧ Below wr.heap.size wr W')) (by kernel_rfl) ?_ (fun hHeld => ?_)
                · exact keep4 ((Below.refl _ _).drew) a0 a1 m1 c0
                refine wpAnyH_take (i := 0) (v := ?_) (by simp only [List.getElem?_toArray, List.getElem?_cons_zero, List.getElem?_cons_succ]; rfl) (by kernel_rfl) (by kernel_rfl) (by kernel_rfl) (by exact fun _ _ _ h => h) (Or.inl ⟨by rfl, ?_⟩) (by assumption) ?_
                rotate_left
                · intro w hSw
                  try dsimp only at hSw
                  first
                  | (go_simp; done)
                  | (go_simp; with_reducible rfl)
                try simp only [Act.put, List.setIfInBounds_toArray, List.set_cons_zero, List.set_cons_succ]
                refine wpAnyH_take (i := 1) (v := ?_) (by simp only [List.getElem?_toArray, List.getElem?_cons_zero, List.getElem?_cons_succ]; rfl) (by kernel_rfl) (by kernel_rfl) (by kernel_rfl) (by exact fun _ _ _ h => h) (Or.inl ⟨by rfl, ?_⟩) (by assumption) ?_
                rotate_left
                · intro w hSw
                  try dsimp only at hSw
                  first
                  | (go_simp; done)
                  | (go_simp; with_reducible rfl)
                try simp only [Act.put, List.setIfInBounds_toArray, List.set_cons_zero, List.set_cons_succ]
                refine wpAnyH_take (i := 2) (v := ?_) (by simp only [List.getElem?_toArray, List.getElem?_cons_zero, List.getElem?_cons_succ]; rfl) (by kernel_rfl) (by kernel_rfl) (by kernel_rfl) (by exact fun _ _ _ h => h) (Or.inl ⟨by rfl, ?_⟩) (by assumption) ?_
                rotate_left
                · intro w hSw
                  try dsimp only at hSw
                  first
                  | (go_simp; done)
                  | (go_simp; with_reducible rfl)
                try simp only [Act.put, List.setIfInBounds_toArray, List.set_cons_zero, List.set_cons_succ]
                refine wpAnyH_take (i := 3) (v := ?_) (by simp only [List.getElem?_toArray, List.getElem?_cons_zero, List.getElem?_cons_succ]; rfl) (by kernel_rfl) (by kernel_rfl) (by kernel_rfl) (by exact fun _ _ _ h => h) (Or.inl ⟨by rfl, ?_⟩) (by assumption) ?_
                rotate_left
                · intro w hSw
                  try dsimp only at hSw
                  first
                  | (go_simp; done)
                  | (go_simp; with_reducible rfl)
                try simp only [Act.put, List.setIfInBounds_toArray, List.set_cons_zero, List.set_cons_succ]
                refine wpAnyH_take (i := 4) (v := ?_) (by simp only [List.getElem?_toArray, List.getElem?_cons_zero, List.getElem?_cons_succ]; rfl) (by kernel_rfl) (by kernel_rfl) (by kernel_rfl) (by exact fun _ _ _ h => h) (Or.inl ⟨by rfl, ?_⟩) (by assumption) ?_
                rotate_left
                · intro w hSw
                  try dsimp only at hSw
                  first
                  | (go_simp; done)
                  | (go_simp; with_reducible rfl)
                try simp only [Act.put, List.setIfInBounds_toArray, List.set_cons_zero, List.set_cons_succ]
                refine wpAnyH_take (i := 5) (v := ?_) (by simp only [List.getElem?_toArray, List.getElem?_cons_zero, List.getElem?_cons_succ]; rfl) (by kernel_rfl) (by kernel_rfl) (by kernel_rfl) (by exact fun _ _ _ h => h) (Or.inl ⟨by rfl, ?_⟩) (by assumption) ?_
                rotate_left
                · intro w hSw
                  try dsimp only at hSw
                  first
                  | (go_simp; done)
                  | (go_simp; with_reducible rfl)
                try simp only [Act.put, List.setIfInBounds_toArray, List.set_cons_zero, List.set_cons_succ]
                refine wpAnyH_ready (rs := [6]) (by kernel_rfl) (by simp) ?_
                refine AllReadyH.cons (by simp only [List.getElem?_toArray, List.getElem?_cons_zero, List.getElem?_cons_succ]; rfl) (fun K hK => ?_) AllReadyH.nil
                go_simp
                go_at_call 16
                refine (CSa.out _ (SAr.out.below (bel4 hHeld))).mono ?_
                rintro e w6 ⟨rfl, hb6⟩
                have h16 : Below wr.heap.size wr w6 := bel_seq (bel4 hHeld) hb6
                go_wp2_with fail
                refine hK.out _ _ ?_ (fun hHeld2 => ?_)
                · exact keep4 h16 a0 a1 m1 c0
                clear hK K hHeld
                try simp only [Act.put, List.setIfInBounds_toArray, List.set_cons_zero, List.set_cons_succ]
                refine wpAnyH_take (i := 7) (v := ?_) (by simp only [List.getElem?_toArray, List.getElem?_cons_zero, List.getElem?_cons_succ]; rfl) (by kernel_rfl) (by kernel_rfl) (by kernel_rfl) (by exact fun _ _ _ h => h) (Or.inl ⟨by rfl, ?_⟩) (by assumption) ?_
                rotate_left
                · intro w hSw
                  try dsimp only at hSw
                  first
                  | (go_simp; done)
                  | (go_simp; with_reducible rfl)
                try simp only [Act.put, List.setIfInBounds_toArray, List.set_cons_zero, List.set_cons_succ]
                refine wpAnyH_take (i := 8) (v := ?_) (by simp only [List.getElem?_toArray, List.getElem?_cons_zero, List.getElem?_cons_succ]; rfl) (by kernel_rfl) (by kernel_rfl) (by kernel_rfl) (by exact fun _ _ _ h => h) (Or.inl ⟨by rfl, ?_⟩) (by assumption) ?_
                rotate_left
                · intro w hSw
                  try dsimp only at hSw
                  first
                  | (go_simp; done)
                  | (go_simp; with_reducible rfl)
                try simp only [Act.put, List.setIfInBounds_toArray, List.set_cons_zero, List.set_cons_succ]
                refine wpAnyH_take (i := 9) (v := undef) (by simp only [List.getElem?_toArray, List.getElem?_cons_zero, List.getElem?_cons_succ]; rfl) (by kernel_rfl) (by kernel_rfl) (by kernel_rfl) (by exact fun _ _ _ h => h) (Or.inr ⟨by rfl, rfl⟩) (by assumption) ?_
                try simp only [Act.put, List.setIfInBounds_toArray, List.set_cons_zero, List.set_cons_succ]
                refine wpAnyH_take (i := 10) (v := undef) (by simp only [List.getElem?_toArray, List.getElem?_cons_zero, List.getElem?_cons_succ]; rfl) (by kernel_rfl) (by kernel_rfl) (by kernel_rfl) (by exact fun _ _ _ h => h) (Or.inr ⟨by rfl, rfl⟩) (by assumption) ?_
                try simp only [Act.put, List.setIfInBounds_toArray, List.set_cons_zero, List.set_cons_succ]
                refine wpAnyH_take (i := 11) (v := undef) (by simp only [List.getElem?_toArray, List.getElem?_cons_zero, List.getElem?_cons_succ]; rfl) (by kernel_rfl) (by kernel_rfl) (by kernel_rfl) (by exact fun _ _ _ h => h) (Or.inr ⟨by rfl, rfl⟩) (by assumption) ?_
                try simp only [Act.put, List.setIfInBounds_toArray, List.set_cons_zero, List.set_cons_succ]
                refine wpAnyH_take (i := 12) (v := undef) (by simp only [List.getElem?_toArray, List.getElem?_cons_zero, List.getElem?_cons_succ]; rfl) (by kernel_rfl) (by kernel_rfl) (by kernel_rfl) (by exact fun _ _ _ h => h) (Or.inr ⟨by rfl, rfl⟩) (by assumption) ?_
                try simp only [Act.put, List.setIfInBounds_toArray, List.set_cons_zero, List.set_cons_succ]
                refine wpAnyH_take (i := 13) (v := undef) (by simp only [List.getElem?_toArray, List.getElem?_cons_zero, List.getElem?_cons_succ]; rfl) (by kernel_rfl) (by kernel_rfl) (by kernel_rfl) (by exact fun _ _ _ h => h) (Or.inr ⟨by rfl, rfl⟩) (by assumption) ?_
                try simp only [Act.put, List.setIfInBounds_toArray, List.set_cons_zero, List.set_cons_succ]
                refine wpAnyH_take (i := 14) (v := undef) (by simp only [List.getElem?_toArray, List.getElem?_cons_zero, List.getElem?_cons_succ]; rfl) (by kernel_rfl) (by kernel_rfl) (by kernel_rfl) (by exact fun _ _ _ h => h) (Or.inr ⟨by rfl, rfl⟩) (by assumption) ?_
                try simp only [Act.put, List.setIfInBounds_toArray, List.set_cons_zero, List.set_cons_succ]
                refine wpAnyH_take (i := 15) (v := undef) (by simp only [List.getElem?_toArray, List.getElem?_cons_zero, List.getElem?_cons_succ]; rfl) (by kernel_rfl) (by kernel_rfl) (by kernel_rfl) (by exact fun _ _ _ h => h) (Or.inr ⟨by rfl, rfl⟩) (by assumption) ?_
                try simp only [Act.put, List.setIfInBounds_toArray, List.set_cons_zero, List.set_cons_succ]
                refine wpAnyH_take (i := 16) (v := undef) (by simp only [List.getElem?_toArray, List.getElem?_cons_zero, List.getElem?_cons_succ]; rfl) (by kernel_rfl) (by kernel_rfl) (by kernel_rfl) (by exact fun _ _ _ h => h) (Or.inr ⟨by rfl, rfl⟩) (by assumption) ?_
                try simp only [Act.put, List.setIfInBounds_toArray, List.set_cons_zero, List.set_cons_succ]
                refine wpAnyH_take (i := 17) (v := ?_) (by simp only [List.getElem?_toArray, List.getElem?_cons_zero, List.getElem?_cons_succ]; rfl) (by kernel_rfl) (by kernel_rfl) (by kernel_rfl) (by exact fun _ _ _ h => h) (Or.inl ⟨by rfl, ?_⟩) (by assumption) ?_
                rotate_left
                · intro w hSw
                  try dsimp only at hSw
                  first
                  | (go_simp; done)
                  | (go_simp; with_reducible rfl)
                try simp only [Act.put, List.setIfInBounds_toArray, List.set_cons_zero, List.set_cons_succ]
                refine wpAnyH_done (by kernel_rfl) ?_ _
                go_wp2_with fail
                go_roundw
                case rel => exact ⟨k + 1, by omega, by go_num, Lib.hid (bel_seq BR.out (bel4 ‹_›))⟩
                case measure => simp [intOf]; omega
              | false =>
                have hmb : memB Lb y = true := by rcases hym with h | h; (rw [hma] at h; cases h); exact h
                have CSa := Lib.hid (fun W (h : Sl .i64 W (.slice aa La.length ca) La) => by have := specIsSpent ea _ La y W h; rw [hma] at this; exact this)
                have CSb := Lib.hid (fun W (h : Sl .i64 W (.slice ab Lb.length cb) Lb) => by have := specIsSpent ea _ Lb y W h; rw [hmb] at this; exact this)
                go_wp2_with fail
                first
                | go_region_held3 (fun W' => W'.cell? ⟨A, 0, none⟩ = some (.int .i64 ea) ∧ W'.cell? ⟨A, 1, none⟩ = some (.slice aa La.length ca) ∧ W'.cell? ⟨A + 1, 0, none⟩ = some (.int .i64 ea) ∧ W'.cell? ⟨A + 1, 1, none⟩ = some (.slice ab Lb.length cb) ∧ W'.cell? ⟨mb, 1, none⟩ = some (.slice (some ⟨b, off, none⟩) M'.length cm) ∧ W'.cell? ⟨b, off + k, none⟩ = some (.int .i64 y) ∧ Below wr.heap.size wr W') (first | assumption | exact keep6 h17 a0 a1 d0 d1 m1 c0 | exact keep6 h16 a0 a1 d0 d1 m1 c0 | exact keep6 ((Below.refl _ _).drew) a0 a1 d0 d1 m1 c0) (first | (go_at_call 16; (with_reducible refine (CSa.out _ (SAr.out.below (bel6 ‹_›))).mono ?_); rintro e w6 ⟨rfl, hb6⟩; have h16 : Below wr.heap.size wr w6 := bel_seq (bel6 ‹_›) hb6) | (go_at_call 16; (with_reducible refine (CSb.out _ (SBr.out.below (bel6 ‹_›))).mono ?_); rintro e w7 ⟨rfl, hb7⟩; have h17 : Below wr.heap.size wr w7 := bel_seq (bel6 ‹_›) hb7) | fail)
                | fail
                all_goals
                  go_wp2_with fail
                  go_roundw
                  case rel => exact ⟨k + 1, by omega, by go_num, Lib.hid (bel_seq BR.out (bel6 ‹_›))⟩
                  case measure => simp [intOf]; omega
            · have hke : k = M'.length := by omega
              have hlt3 : ¬ (k : Int) < M'.length := by omega
              have BR0 := BR
              clear hlt hke
              go_wp2_with fail
              clear a0 a1 d0 d1 m0 m1 BR SMr SAr SBr
              go_loopw [8] (fun ix wq => ∃ j : Nat, j ≤ La.length ∧ ix = .int .i64 j ∧ Hid (Below w4.heap.size w4 wq)) (fun ix _ => La.length - (intOf ix).toNat)
              case atStart => exact ⟨0, Nat.zero_le _, rfl, BR0⟩
              case round =>
                clear BR0
                obtain ⟨j, hj, rfl, BR⟩ := hrel
                obtain ⟨a0, a1, d0, d1, m0, m1⟩ := HA.out
                replace a0 := later0 BR.out a0
                replace a1 := later0 BR.out a1
                replace d0 := later0 BR.out d0
                replace d1 := later0 BR.out d1
                replace m0 := later0 BR.out m0
                replace m1 := later0 BR.out m1
                have SMr := Lib.hid (SM.out.below BR.out)
                have SAr := Lib.hid (SA.out.below BR.out)
                by_cases hjl : j < La.length
                · obtain ⟨b, off, rfl, hb, h4⟩ := SAr.out.at hjl
                  have c0 := h4 j hjl
                  have hjl2 : (j : Int) < La.length := by omega
                  obtain ⟨y, hy⟩ : ∃ y, La.getD j 0 = y := ⟨_, rfl⟩
                  rw [hy] at c0
                  have hym := H2.out y (by rw [← hy, Lib.getD_lt _ _ hjl]; exact List.getElem_mem hjl)
                  have CSm := Lib.hid (fun W (h : Sl .i64 W (.slice am M'.length cm) M') => by have := implIsSpent ea _ M' y W h; rw [hym] at this; exact this)
                  clear h4 hb hy hym
                  go_wp2_with fail
                  first
                  | go_region_held3 (fun W' => W'.cell? ⟨mb, 0, none⟩ = some (.int .i64 ea) ∧ W'.cell? ⟨mb, 1, none⟩ = some (.slice am M'.length cm) ∧ W'.cell? ⟨A, 1, none⟩ = some (.slice (some ⟨b, off, none⟩) La.length ca) ∧ W'.cell? ⟨b, off + j, none⟩ = some (.int .i64 y) ∧ Below wr.heap.size wr W') (first | assumption | exact keep4 h16 m0 m1 a1 c0 | exact keep4 ((Below.refl _ _).drew) m0 m1 a1 c0) (first | (go_at_call 18; (refine (CSm.out _ (SMr.out.below (bel4 ‹_›))).mono ?_); rintro e w6 ⟨rfl, hb6⟩; have h16 : Below wr.heap.size wr w6 := bel_seq (bel4 ‹_›) hb6) | fail)
                  | fail
                  all_goals
                    go_wp2_with fail
                    go_roundw
                    case rel => exact ⟨j + 1, by omega, by go_num, Lib.hid (bel_seq BR.out (bel4 ‹_›))⟩
                    case measure => simp [intOf]; omega
                · have hjl3 : ¬ (j : Int) < La.length := by omega
                  have CV := Lib.hid (fun W (h : Sl .i64 W (.slice am M'.length cm) M') => by have := implIsValidSpentList ea _ M' W h; rw [H3.out] at this; exact this)
                  have hlen4 := H4.out
                  have hn5 := H5.out
                  have hwa : IntKind.i64.wrap ((La.length : Int) + Lb.length) = La.length + Lb.length := by rw [IntKind.wrap_i64]; omega
                  have hws : IntKind.i64.wrap ((La.length : Int) + Lb.length - n) = La.length + Lb.length - n := by rw [IntKind.wrap_i64]; omega
                  have CMin := Lib.hid (fun W => specMin 40 ((La.length : Int) + Lb.length - n) M'.length (by omega) W)
                  have hee2 : ((M'.length : Int) == (M'.length : Int)) = true := by simp
                  clear hlen4
                  go_wp2_with fail
                  first
                  | go_region_held3 (fun W' => W'.cell? ⟨mb, 0, none⟩ = some (.int .i64 ea) ∧ W'.cell? ⟨mb, 1, none⟩ = some (.slice am M'.length cm) ∧ W'.cell? ⟨A, 1, none⟩ = some (.slice aa La.length ca) ∧ W'.cell? ⟨A + 1, 1, none⟩ = some (.slice ab Lb.length cb) ∧ Below wr.heap.size wr W') (first | assumption | exact keep4 h16 m0 m1 a1 d1 | exact keep4 ((Below.refl _ _).drew) m0 m1 a1 d1) (first | (go_at_call 21; (refine (CV.out _ (SMr.out.below (bel4 ‹_›))).mono ?_); rintro e w6 ⟨rfl, hb6⟩; have h16 : Below wr.heap.size wr w6 := bel_seq (bel4 ‹_›) hb6) | (go_at_call 40; (refine (CMin.out _).mono ?_); rintro e w7 ⟨rfl, rfl⟩) | fail)
                  | fail
                  all_goals
                    have hbq : Below wr.heap.size wr _ := bel4 ‹_›
                    have BQ := Lib.hid (bel_seq BB.out (bel_seq BR.out hbq))
                    go_wp2
                    go_ret
                    exact ⟨rfl, BQ.out⟩
        · have heb : (ea != eb) = true := by simpa using hee
          have hMr : (M, r) = (La, 0) := HX.out.trans (merge_no (by rw [hva, hvb]; simpa using hee))
          obtain ⟨rfl, rfl⟩ : M = La ∧ r = 0 := by simpa using hMr
          clear hMr
          clear hee
          go_wp2_with fail
          refine (implEqualSpentLists ea ea _ _ _ _ _ SM.out SA.out).mono ?_
          rintro e w9 ⟨rfl, hb9⟩
          simp only [beq_self_eq_true, Bool.and_self]
          replace BB := Lib.hid (bel_seq BB.out hb9)
          go_wp2
          go_ret
          exact ⟨rfl, BB.out⟩
/-! ### THE ROW's STEP: the guide's own way -/
theorem own : ownKnob Try.prog.godebug = none := by kernel_rfl
theorem laidOut : laidOutB Try.prog = true := by kernel_rfl
set_option maxRecDepth 100000 in
theorem lifted (os : Os) (started : os.Started) (H : Type) (enc : TypeId × Value → H) :
    ReturnsInHanded {} Try.checked os 10 .any (Rows.fnMergedListsSpec.pre6 enc Try.prog Try.f10 Rows.fnMergedListsRow.domain false) (Rows.fnMergedListsSpec.post enc Try.prog Try.f10 false true false false) := by
  refine returnsInHanded_of_change (C := Try.checked) own started (by kernel_rfl) Try.func10
    (ChangeSpec.witness6 (enc := enc) (C := Try.checked) false ⟨#[], #[.slice none 0 0], []⟩ 8 (by kernel_rfl) (by kernel_rfl) (by kernel_rfl) (by kernel_rfl)) ?_
  intro W base args ds gs before hval0 hW hcnd _
  have hval : ∀ (j : Nat) t v, Try.f10.params[j]? = some t → args[j]? = some v → Value.okWide Try.prog W .any base t v := hval0
  have hW' := hW
  obtain ⟨p, q, hA0, hV, rfl, hfz, hnd⟩ := hW
  have hA : DataW.TrodAll enc Try.prog W 0 (fun _ => true) true Try.f10.params.toList args.toList ds p := hA0
  rw [Try.params10] at hA hval
  obtain ⟨v0, vs0, d0, ds0, p0, q0, hargs, rfl, rfl, h0, r0⟩ := trodAll_cons hA
  obtain ⟨rfl, rfl, rfl⟩ := trodAll_nil r0
  obtain rfl : args = #[v0] := by cases args; simp_all
  obtain ⟨rfl, rfl⟩ := trodVars_none hV
  have k0 := h0
  have lt0 : ∀ x ∈ p0, x.block < W.heap.size := by obtain ⟨m, hm⟩ := k0; exact DataW.trod_lt m _ _ _ hm
  obtain ⟨fuel0, g0⟩ := h0
  obtain ⟨b0, len0, cap0, rfl⟩ := okWide_slice Try.underlying47 (hval 0 47 v0 rfl rfl)
  obtain ⟨z0, s0, wf0⟩ := slOfRead Try.underlying47 Try.underlying5 (by kernel_rfl) (by simpa [Value.cells] using g0) lt0
  clear hA0 hval0
  refine (walk _ z0 W s0 wf0).mono fun e W' ⟨he, bel⟩ => ?_
  subst he
  exact ⟨_, rfl, _, _, _, [], _, [], hW', trodAll_mk1 (shut_bool Try.underlying4 _), (trodAll_cons_mk (Below.trod laidOut (by kernel_rfl) (of_decide_eq_true (by kernel_rfl)) k0 bel lt0) trodAll_mk0), rfl, bel.frame _, fun h => by cases h⟩

theorem over : Rows.fnMergedListsRow.holds Try.pinned (OpenSpec.ofChange Rows.fnMergedListsSpec) :=
  OpenClaim.holds_of_wide 10 Try.f10 rfl rfl rfl rfl rfl rfl rfl ⟨rfl, rfl, rfl, rfl, rfl⟩ rfl rfl rfl rfl rfl (by kernel_rfl) Try.func10 (by kernel_rfl)
    (of_decide_eq_true (by kernel_rfl)) (by unfold Func.isWrapper; first | (rw [if_pos (by decide +kernel)]; kernel_rfl) | (rw [if_neg (by decide +kernel)]; exact ⟨rfl, rfl⟩))
    (fun os started H enc _ => lifted os started H enc)

/-- the statement -/
theorem proved : Rows.FnMergedListsSaid := over
end Go.Proofs.Ytdodheahckpkfaa.fnMergedLists
