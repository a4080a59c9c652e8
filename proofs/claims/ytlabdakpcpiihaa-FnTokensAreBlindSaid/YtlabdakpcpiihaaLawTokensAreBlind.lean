/- For every code: a request fits every serial number; no condition. -/
import Derived.Test.YtlabdakpcpiihaaRows
import Derived.Test.YtlabdakpcpiihaaDraw
import Derived.Test.YtlabdakpcpiihaaBlindPlain
import Derived.Test.YtlabdakpcpiihaaOpen
namespace Go.Proofs.Ytlabdakpcpiihaa.fnTokensAreBlind
open Go.ChangeShapes Go.WideShapes Go.ChangeAt Go.RowKit Go.Joins
set_option linter.unusedVariables false
theorem walk (v : Value) (l : List Int) (w : World) (hs : Sl .u8 w v l) (hby : ∀ x ∈ l, (Lit.int .u8 x).wf = true) : Calls Try.prog 7 #[v] w fun e w' => e = .returned (.bool true) ∧ Below w.heap.size w w' := by
  obtain ⟨a, c, rfl, hm⟩ := hs.shape
  have HS := Lib.hid hs
  have HB : Hid (∀ x ∈ l, 0 ≤ x ∧ x ≤ 255) := Lib.hid (bytes_of_wf hby)
  have B0 := Lib.hid (Below.refl w.heap.size w)
  clear hs hby
  by_cases hbig : (1048576 : Int) < (l.length : Int)
  · go_enter Try.func7, Try.ntmps7
    go_wp2_with (first | (go_at_call 23; (refine (lawsBig _ l _ HS.out).mono ?_); rintro e w0 ⟨rfl, rfl⟩))
    go_ret
    exact ⟨rfl, Below.refl _ _⟩
  · have hl : l.length ≤ 1048576 := by omega
    go_enter Try.func7, Try.ntmps7
    go_wp2_with (first | (go_at_call 23; (refine (lawsBig _ l _ HS.out).mono ?_); rintro e w0 ⟨rfl, rfl⟩))
    refine (drawIssuing _ l _ HS.out hl HB.out).mono ?_
    rintro e w1 ⟨sec, ser, bl, rfl, _, _, hn0, hn1, hb0, hb1, hbel1⟩
    have B1 := Lib.hid hbel1
    clear hbel1
    have C1 := fun W => implBlindToken ser bl W
    have C2 := fun W => implExplainRequest (powGroupI (hashToGroupI 101 ser) bl) ser W
    have C3 := fun W => implExplainRequest 1 ser W
    rw [blind_val hn0 (by omega) hb0 hb1] at C1
    rw [explain_back hn0 (by omega) hb0 hb1] at C2
    rw [explain_one] at C3
    have he := pg_ge (hg_ge 101 ser) bl
    have hne := blind_ne (s := ser) hb0 hb1
    generalize powGroupI (hashToGroupI 101 ser) bl = x at C1 C2 he hne
    have C1' := Lib.hid C1
    have C2' := Lib.hid C2
    have C3' := Lib.hid C3
    have HF := Lib.hid (fun (o : Int) (h0 : 0 ≤ o) (h1 : o ≤ 100000) => fits he hne h0 h1)
    clear C1 C2 C3 he hne
    go_wp2_with fail
    refine (C1'.out _).mono ?_
    rintro e w2 ⟨rfl, hb2⟩
    have B2 := Lib.hid (bel_seq B1.out hb2)
    go_wp2
    have p0 : (w2.alloc (.cells #[.int .i64 x] 23)).cell? ⟨w2.heap.size, 0, none⟩ = some (.int .i64 x) := by simp
    have B3 := Lib.hid (bel_al B2.out (.cells #[.int .i64 x] 23))
    generalize w2.alloc (.cells #[.int .i64 x] 23) = W0 at p0 B3 ⊢
    have P0 := Lib.hid p0
    clear p0 hb2 B0 B1 B2
    go_loopw [8] (fun ix wr => ∃ k : Nat, k ≤ 5 ∧ ix = .int .i64 k ∧ Hid (Below W0.heap.size W0 wr)) (fun ix _ => 5 - (intOf ix).toNat)
    case atStart => exact ⟨0, Nat.zero_le _, rfl, Lib.hid (Below.refl _ _)⟩
    case round =>
      obtain ⟨k, hk, rfl, BW⟩ := hrel
      have p0 := later0 BW.out P0.out
      by_cases hlt : k < 5
      · have hk5 : (k : Int) < 5 := by omega
        go_wp2_with fail
        refine (lawsAt _ l k _ (HS.out.below (bel_seq B3.out BW.out)) hl (by omega) HB.out).mono ?_
        rintro e w4 ⟨y, rfl, hy0, hy1, rfl⟩
        obtain ⟨o, ho⟩ : ∃ o, o = y * 11 := ⟨_, rfl⟩
        obtain ⟨d, d0, d1, hd1, hd2⟩ := HF.out o (by omega) (by omega)
        have ho' : y * 11 = o := ho.symm
        clear ho
        have D1 := fun W => implExplainRequest x o W
        have D2 := fun W => implBlindToken o d W
        rw [hd1] at D1
        rw [hd2] at D2
        have D1' := Lib.hid D1
        have D2' := Lib.hid D2
        clear D1 D2 hd1 hd2
        have hxx : (x == x) = true := by simp
        have hxx' : (x != x) = false := by simp
        go_wp2_with fail
        refine (D1'.out _).mono ?_
        rintro e w5 ⟨rfl, hb5⟩
        replace p0 := later0 hb5 p0
        have B5 := Lib.hid (bel_seq BW.out hb5)
        go_wp2_with fail
        refine (D2'.out _).mono ?_
        rintro e w6 ⟨rfl, hb6⟩
        replace p0 := later0 hb6 p0
        have B6 := Lib.hid (bel_seq B5.out hb6)
        have hz6 : w2.heap.size < w6.heap.size := World.block_lt_of_cell? w6 _ p0
        clear hb5 hb6
        go_wp2_with fail
        go_roundw
        case rel => exact ⟨k + 1, by omega, by go_num, Lib.hid (bel_al B6.out _)⟩
        case measure => simp [intOf]; omega
      · have hk5 : k = 5 := by omega
        subst hk5
        have hbb : (bl == bl) = true := by simp
        go_wp2_with fail
        refine (C2'.out _).mono ?_
        rintro e w5 ⟨rfl, hb5⟩
        replace p0 := later0 hb5 p0
        have B5 := Lib.hid (bel_seq BW.out hb5)
        go_wp2_with fail
        refine (C3'.out _).mono ?_
        rintro e w6 ⟨rfl, hb6⟩
        replace p0 := later0 hb6 p0
        have B6 := Lib.hid (bel_seq B5.out hb6)
        go_wp2
        go_ret
        exact ⟨rfl, bel_seq B3.out B6.out⟩
/-! ### THE ROW's STEP: the guide's own way -/
theorem own : ownKnob Try.prog.godebug = none := by kernel_rfl
theorem laidOut : laidOutB Try.prog = true := by kernel_rfl
set_option maxRecDepth 100000 in
theorem lifted (os : Os) (started : os.Started) (H : Type) (enc : TypeId × Value → H) :
    ReturnsInHanded {} Try.checked os 7 .any (Rows.fnTokensAreBlindSpec.pre6 enc Try.prog Try.f7 Rows.fnTokensAreBlindRow.domain false) (Rows.fnTokensAreBlindSpec.post enc Try.prog Try.f7 false true false false) := by
  refine returnsInHanded_of_change (C := Try.checked) own started (by kernel_rfl) Try.func7
    (ChangeSpec.witness6 (enc := enc) (C := Try.checked) false ⟨#[], #[.slice none 0 0], []⟩ 8 (by kernel_rfl) (by kernel_rfl) (by kernel_rfl) (by kernel_rfl)) ?_
  intro W base args ds gs before hval0 hW hcnd _
  have hval : ∀ (j : Nat) t v, Try.f7.params[j]? = some t → args[j]? = some v → Value.okWide Try.prog W .any base t v := hval0
  have hW' := hW
  obtain ⟨p, q, hA0, hV, rfl, hfz, hnd⟩ := hW
  have hA : DataW.TrodAll enc Try.prog W 0 (fun _ => true) true Try.f7.params.toList args.toList ds p := hA0
  rw [Try.params7] at hA hval
  obtain ⟨v0, vs0, d0, ds0, p0, q0, hargs, rfl, rfl, h0, r0⟩ := trodAll_cons hA
  obtain ⟨rfl, rfl, rfl⟩ := trodAll_nil r0
  obtain rfl : args = #[v0] := by cases args; simp_all
  obtain ⟨rfl, rfl⟩ := trodVars_none hV
  have k0 := h0
  have lt0 : ∀ x ∈ p0, x.block < W.heap.size := by obtain ⟨m, hm⟩ := k0; exact DataW.trod_lt m _ _ _ hm
  obtain ⟨fuel0, g0⟩ := h0
  obtain ⟨b0, len0, cap0, rfl⟩ := okWide_slice Try.underlying47 (hval 0 47 v0 rfl rfl)
  obtain ⟨z0, s0, wf0⟩ := slOfRead Try.underlying47 Try.underlying5 (by kernel_rfl) (by simpa [Value.cells] using g0) lt0
  clear hA0 hval0
  refine (walk _ z0 W s0 wf0).mono fun e W' ⟨he, bel⟩ => ?_
  subst he
  exact ⟨_, rfl, _, _, _, [], _, [], hW', trodAll_mk1 (shut_bool Try.underlying4 _), (trodAll_cons_mk (Below.trod laidOut (by kernel_rfl) (of_decide_eq_true (by kernel_rfl)) k0 bel lt0) trodAll_mk0), rfl, bel.frame _, fun h => by cases h⟩

theorem over : Rows.fnTokensAreBlindRow.holds Try.pinned (OpenSpec.ofChange Rows.fnTokensAreBlindSpec) :=
  OpenClaim.holds_of_wide 7 Try.f7 rfl rfl rfl rfl rfl rfl rfl ⟨rfl, rfl, rfl, rfl, rfl⟩ rfl rfl rfl rfl rfl (by kernel_rfl) Try.func7 (by kernel_rfl)
    (of_decide_eq_true (by kernel_rfl)) (by unfold Func.isWrapper; first | (rw [if_pos (by decide +kernel)]; kernel_rfl) | (rw [if_neg (by decide +kernel)]; exact ⟨rfl, rfl⟩))
    (fun os started H enc _ => lifted os started H enc)

/-- the statement -/
theorem proved : Rows.FnTokensAreBlindSaid := over
end Go.Proofs.Ytlabdakpcpiihaa.fnTokensAreBlind
