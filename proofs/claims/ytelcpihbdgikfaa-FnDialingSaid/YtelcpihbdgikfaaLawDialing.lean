/- For every code: two persons reach each other, and nobody else is reached; no condition. -/
import Derived.Test.YtelcpihbdgikfaaRows
import Derived.Test.YtelcpihbdgikfaaDraw18
import Derived.Test.YtelcpihbdgikfaaDial2
import Derived.Test.YtelcpihbdgikfaaDialPlain
import Derived.Test.YtelcpihbdgikfaaOpen
namespace Go.Proofs.Ytelcpihbdgikfaa.fnDialing
open Go.ChangeShapes Go.WideShapes Go.ChangeAt Go.RowKit Go.Joins
set_option linter.unusedVariables false
theorem fourI_ok (x : Int) : bytesOk (fourI x) := by
  intro y hy
  simp only [fourI, List.mem_cons, List.not_mem_nil, or_false] at hy
  omega
theorem sealI_ok (key counter kind : Int) (body : List Int) : bytesOk (sealI key counter kind body).1 := by
  unfold sealI
  split
  · exact (encI_ok _ _).append (fourI_ok _)
  · intro x hx; simp at hx
theorem slLit1 (w : World) (b : Nat) (h : b = w.heap.size) (z : Int) : Sl .i64 (w.alloc (.cells #[.int .i64 z] 3)) (.slice (some ⟨b, 0, none⟩) 1 1) [z] := by
  subst h
  exact Sl.lit .i64 w 3 [z] (by simp [maxLen])
set_option maxRecDepth 100000 in
set_option maxHeartbeats 4000000 in
theorem walk (v : Value) (l : List Int) (w : World) (hs : Sl .u8 w v l) (hby : ∀ x ∈ l, (Lit.int .u8 x).wf = true) : Calls Try.prog 13 #[v] w fun e w' => e = .returned (.bool true) ∧ Below w.heap.size w w' := by
  obtain ⟨a, c, rfl, hm⟩ := hs.shape
  have HS := Lib.hid hs
  have HB : Hid (∀ x ∈ l, 0 ≤ x ∧ x ≤ 255) := Lib.hid (bytes_of_wf hby)
  clear hs hby
  by_cases hbig : (1048576 : Int) < (l.length : Int)
  · go_enter Try.func13, Try.ntmps13
    go_wp2_with (first | (go_at_call 45; (refine (lawsBig _ l _ HS.out).mono ?_); rintro e w0 ⟨rfl, rfl⟩))
    go_ret
    exact ⟨rfl, Below.refl _ _⟩
  · have hl : l.length ≤ 1048576 := by omega
    go_enter Try.func13, Try.ntmps13
    go_wp2_with (first | (go_at_call 45; (refine (lawsBig _ l _ HS.out).mono ?_); rintro e w0 ⟨rfl, rfl⟩))
    refine (drawFriends _ l _ HS.out hl HB.out).mono ?_
    rintro e w1 ⟨s, t, rfl, hs0, hs1, ht0, ht1, hb1⟩
    have BW := Lib.hid hb1
    clear hb1
    go_wp2_with fail
    have S1 := Lib.hid (((HS.out.below BW.out).alloc (.cells #[.int .i64 s, .int .i64 (powGroupI 4 s)] 59)).alloc (.cells #[.int .i64 t, .int .i64 (powGroupI 4 t)] 59))
    have X1 := Lib.hid ((Box2.new w1 (.int .i64 s) (.int .i64 (powGroupI 4 s)) 59).alloc (.cells #[.int .i64 t, .int .i64 (powGroupI 4 t)] 59))
    have Y0 := Box2.new (w1.alloc (.cells #[.int .i64 s, .int .i64 (powGroupI 4 s)] 59)) (.int .i64 t) (.int .i64 (powGroupI 4 t)) 59
    rw [World.size_alloc] at Y0
    have Y1 := Lib.hid Y0
    clear Y0
    have B1 := Lib.hid (bel_al (bel_al BW.out (.cells #[.int .i64 s, .int .i64 (powGroupI 4 s)] 59)) (.cells #[.int .i64 t, .int .i64 (powGroupI 4 t)] 59))
    generalize (w1.alloc (.cells #[.int .i64 s, .int .i64 (powGroupI 4 s)] 59)).alloc (.cells #[.int .i64 t, .int .i64 (powGroupI 4 t)] 59) = W1 at S1 X1 Y1 B1 ⊢
    generalize hp : w1.heap.size = p at X1 Y1 ⊢
    clear hp BW
    refine (lawsAt _ l 0 _ S1.out hl (by omega) HB.out).mono ?_
    rintro e w4 ⟨rd, rfl, hr0, hr1, rfl⟩
    -- the plain facts
    have hu := stranger_ne hs0 hs1
    obtain ⟨u, hue⟩ : ∃ u, 1 + s % 1018 = u := ⟨_, rfl⟩
    rw [hue] at hu
    obtain ⟨hu0, hu1, hus⟩ := hu
    have CK1 := fun W => implSharedKey s (powGroupI 4 t) W
    have CK2 := fun W => implSharedKey t (powGroupI 4 s) W
    rw [← shared_sym hs0 hs1 ht0 ht1] at CK2
    have CM := fun W => implMake s (powGroupI 4 s) (powGroupI 4 t) rd W
    have hmv := make_val hs0 hs1 ht0 ht1 hr0 (by omega)
    rw [hmv.2] at CM
    obtain ⟨⟨L, okb⟩, hq⟩ : ∃ q, q = sealI (sharedKeyI s (powGroupI 4 t)) rd 2 (pubI (powGroupI 4 s)) := ⟨_, rfl⟩
    have hL : L = (sealI (sharedKeyI s (powGroupI 4 t)) rd 2 (pubI (powGroupI 4 s))).1 := by rw [← hq]
    have hok : okb = true := by have := hmv.1; rw [← hq] at this; exact this
    have hLb : bytesOk L := by rw [hL]; exact sealI_ok _ _ _ _
    subst hok
    rw [← hq] at CM
    have CO1 := fun v u W (h : Sl .i64 W v [1, powGroupI 4 s]) (h2 : Sl .u8 W u L) => implOpenInv t (powGroupI 4 t) rd v u _ L W h h2 hLb
    rw [open_own hs0 hs1 ht0 ht1 hr0 (by omega) hL] at CO1
    have CO2 := fun v u' W (h : Sl .i64 W v [powGroupI 4 u]) (h2 : Sl .u8 W u' L) => implOpenInv t (powGroupI 4 t) rd v u' _ L W h h2 hLb
    rw [open_stranger hs0 hs1 ht0 ht1 hu0 hu1 hus hr0 (by omega) hL] at CO2
    have CO3 := fun v u W (h : Sl .i64 W v [powGroupI 4 s]) (h2 : Sl .u8 W u L) => implOpenInv t (powGroupI 4 t) (rd + 1) v u _ L W h h2 hLb
    rw [open_late hs0 hs1 ht0 ht1 hr0 (by omega) hL] at CO3
    have CI := fun W => implNewIdentity u W
    rw [person_val hu0 hu1] at CI
    have CR := fun W => implDialRow (powGroupI 4 t) rd 16 W
    have hd := dial_bd (p := powGroupI 4 t) hr0 (by omega)
    have hk := shared_bd hs0 hs1 ht0 ht1
    have CF1 := fun W => implSafetyNumber (powGroupI 4 s) (powGroupI 4 t) W
    have CF2 := fun W => implSafetyNumber (powGroupI 4 t) (powGroupI 4 s) W
    rw [safety_sym] at CF2
    have CV1 := fun W => implIsIdis (person_ok hs0 hs1) W
    have CV2 := fun W => implIsIdis (person_ok hu0 hu1) W
    generalize sharedKeyI s (powGroupI 4 t) = k at CK1 CK2 CO1 hk
    generalize dialRowI (powGroupI 4 t) rd 16 = r at CR hd
    generalize safetyNumberI (powGroupI 4 s) (powGroupI 4 t) = f at CF1 CF2
    clear hL hq hmv
    generalize powGroupI 4 s = x at *
    generalize powGroupI 4 t = y at *
    generalize powGroupI 4 u = z at *
    have hkk := (show keyB k = true by unfold keyB; exact inR_yes hk.1 hk.2)
    have CK3 := fun W => implIsKeyis hkk W
    have HK1 := Lib.hid CK1
    have HK2 := Lib.hid CK2
    have HK3 := Lib.hid CK3
    have HM := Lib.hid CM
    have HO1 := Lib.hid CO1
    have HO2 := Lib.hid CO2
    have HO3 := Lib.hid CO3
    have HI := Lib.hid CI
    have HR := Lib.hid CR
    have HF1 := Lib.hid CF1
    have HF2 := Lib.hid CF2
    have HV1 := Lib.hid CV1
    have HV2 := Lib.hid CV2
    obtain ⟨hd0, hd1⟩ := hd
    have hff : (f == f) = true := by simp
    have hkb : (k == k) = true := by simp
    clear CK1 CK2 CK3 CM CO1 CO2 CO3 CI CR CF1 CF2 CV1 CV2 hkk hk hLb hus HS S1
    obtain ⟨x0, x1, _, _⟩ := X1.out
    obtain ⟨y0, y1, _, _⟩ := Y1.out
    clear X1 Y1
    have hrn : IntKind.i64.wrap (rd + 1) = rd + 1 := IntWalk.i64_in _ (by omega)
    go_wp2_with fail
    refine (HK1.out _).mono ?_
    rintro e w2 ⟨rfl, hb2⟩
    replace x0 := later0 hb2 x0
    replace x1 := later0 hb2 x1
    replace y0 := later0 hb2 y0
    replace y1 := later0 hb2 y1
    have B2 := Lib.hid (bel_seq B1.out hb2)
    clear hb2
    go_wp2_with fail
    refine (HM.out _).mono ?_
    rintro e w3 ⟨ao, N, cap, rfl, ho, hb3⟩
    replace x0 := later0 hb3 x0
    replace x1 := later0 hb3 x1
    replace y0 := later0 hb3 y0
    replace y1 := later0 hb3 y1
    have B3 := Lib.hid (bel_seq B2.out hb3)
    have S3 := Lib.hid ho.sl
    clear ho hb3
    go_wp2_with fail
    refine (HO1.out _ _ _ (Sl.lit .i64 _ 3 [1, x] (by simp [maxLen])) (S3.out.alloc _)).mono ?_
    rintro e w4 ⟨rfl, hb4⟩
    replace x0 := later1 hb4 x0
    replace x1 := later1 hb4 x1
    replace y0 := later1 hb4 y0
    replace y1 := later1 hb4 y1
    have B4 := Lib.hid (bel_seq (bel_al B3.out _) hb4)
    have S4 := Lib.hid ((S3.out.alloc _).below hb4)
    clear hb4
    go_wp2_with fail
    refine (HI.out _).mono ?_
    rintro e w5 ⟨rfl, hb5⟩
    replace x0 := later0 hb5 x0
    replace x1 := later0 hb5 x1
    replace y0 := later0 hb5 y0
    replace y1 := later0 hb5 y1
    have B5 := Lib.hid (bel_seq B4.out hb5)
    have S5 := Lib.hid ((S4.out.below hb5).alloc (.cells #[.int .i64 u, .int .i64 z] 59))
    have z0 : (w5.alloc (.cells #[.int .i64 u, .int .i64 z] 59)).cell? ⟨w5.heap.size, 0, none⟩ = some (.int .i64 u) := by simp
    have z1 : (w5.alloc (.cells #[.int .i64 u, .int .i64 z] 59)).cell? ⟨w5.heap.size, 1, none⟩ = some (.int .i64 z) := by simp
    replace x0 := later0 (bel_al (Below.refl _ _) (.cells #[.int .i64 u, .int .i64 z] 59)) x0
    replace x1 := later0 (bel_al (Below.refl _ _) (.cells #[.int .i64 u, .int .i64 z] 59)) x1
    replace y0 := later0 (bel_al (Below.refl _ _) (.cells #[.int .i64 u, .int .i64 z] 59)) y0
    replace y1 := later0 (bel_al (Below.refl _ _) (.cells #[.int .i64 u, .int .i64 z] 59)) y1
    have B6 := Lib.hid (bel_al B5.out (.cells #[.int .i64 u, .int .i64 z] 59))
    clear hb5
    have HQ := Lib.hid (show w5.heap.size + 1 = (w5.alloc (.cells #[.int .i64 u, .int .i64 z] 59)).heap.size by simp)
    go_wp2_with fail
    generalize w5.alloc (.cells #[.int .i64 u, .int .i64 z] 59) = w6 at x0 x1 y0 y1 z0 z1 B6 S5 HQ ⊢
    generalize w5.heap.size = q at z0 z1 HQ ⊢
    refine (HO2.out _ _ _ (slLit1 _ _ HQ.out _) (S5.out.alloc _)).mono ?_
    rintro e w7 ⟨rfl, hb7⟩
    replace x0 := later1 hb7 x0
    replace x1 := later1 hb7 x1
    replace y0 := later1 hb7 y0
    replace y1 := later1 hb7 y1
    replace z0 := later1 hb7 z0
    replace z1 := later1 hb7 z1
    have B7 := Lib.hid (bel_seq (bel_al B6.out _) hb7)
    have S7 := Lib.hid ((S5.out.alloc _).below hb7)
    clear hb7
    go_wp2_with fail
    refine (HO3.out _ _ _ (slLit1 _ _ rfl _) (S7.out.alloc _)).mono ?_
    rintro e w8 ⟨rfl, hb8⟩
    replace x0 := later1 hb8 x0
    replace x1 := later1 hb8 x1
    replace y0 := later1 hb8 y0
    replace y1 := later1 hb8 y1
    replace z0 := later1 hb8 z0
    replace z1 := later1 hb8 z1
    have B8 := Lib.hid (bel_seq (bel_al B7.out _) hb8)
    clear hb8
    go_wp2_with fail
    refine (HR.out _).mono ?_
    rintro e w9 ⟨rfl, hb9⟩
    replace x0 := later0 hb9 x0
    replace x1 := later0 hb9 x1
    replace y0 := later0 hb9 y0
    replace y1 := later0 hb9 y1
    replace z0 := later0 hb9 z0
    replace z1 := later0 hb9 z1
    have B9 := Lib.hid (bel_seq B8.out hb9)
    clear hb9
    go_wp2_with fail
    clear hs0 hs1 ht0 ht1 hr0 hr1 hl hbig hm hrn hue hu0 hu1 S3 S4 S5 S7 HB HK1 HM HO1 HO2 HO3 HI HR B1 B2 B3 B4 B5 B6 B7 B8 HQ
    go_region_held3 (fun W' => W'.cell? ⟨p, 0, none⟩ = some (.int .i64 s) ∧ W'.cell? ⟨p, 1, none⟩ = some (.int .i64 x) ∧ W'.cell? ⟨p + 1, 0, none⟩ = some (.int .i64 t) ∧ W'.cell? ⟨p + 1, 1, none⟩ = some (.int .i64 y) ∧ W'.cell? ⟨q, 0, none⟩ = some (.int .i64 u) ∧ W'.cell? ⟨q, 1, none⟩ = some (.int .i64 z) ∧ Below w9.heap.size w9 W') (first | assumption | exact keep6 (bel_seq (bel6 ‹_›) hba) x0 x1 y0 y1 z0 z1 | exact keep6 (bel_seq (bel6 ‹_›) hbb) x0 x1 y0 y1 z0 z1 | exact keep6 (bel_seq (bel6 ‹_›) hbc) x0 x1 y0 y1 z0 z1 | exact keep6 (bel_seq (bel6 ‹_›) hbd) x0 x1 y0 y1 z0 z1 | exact keep6 (bel_seq (bel6 ‹_›) hbe) x0 x1 y0 y1 z0 z1 | exact keep6 ((Below.refl _ _).drew) x0 x1 y0 y1 z0 z1) (first | (go_at_call 60; (with_reducible refine (HK2.out _).mono ?_); rintro e wa ⟨rfl, hba⟩) | (go_at_call 63; (with_reducible refine (HK3.out _).mono ?_); rintro e wa ⟨rfl, rfl⟩) | (go_at_call 64; first | ((with_reducible refine (HF1.out _).mono ?_); rintro e wb ⟨rfl, hbb⟩) | ((with_reducible refine (HF2.out _).mono ?_); rintro e wc ⟨rfl, hbc⟩)) | (go_at_call 65; first | ((with_reducible refine (HV1.out _).mono ?_); rintro e wd ⟨rfl, hbd⟩) | ((with_reducible refine (HV2.out _).mono ?_); rintro e we ⟨rfl, hbe⟩)))
    have B10 := Lib.hid (bel_seq B9.out (bel6 ‹_›))
    go_wp2
    go_ret
    exact ⟨rfl, by first | exact B10.out | exact B10.out.drew⟩
/-! ### THE ROW's STEP: the guide's own way -/
theorem own : ownKnob Try.prog.godebug = none := by kernel_rfl
theorem laidOut : laidOutB Try.prog = true := by kernel_rfl
set_option maxRecDepth 100000 in
theorem lifted (os : Os) (started : os.Started) (H : Type) (enc : TypeId × Value → H) :
    ReturnsInHanded {} Try.checked os 13 .any (Rows.fnDialingSpec.pre6 enc Try.prog Try.f13 Rows.fnDialingRow.domain false) (Rows.fnDialingSpec.post enc Try.prog Try.f13 false true false false) := by
  refine returnsInHanded_of_change (C := Try.checked) own started (by kernel_rfl) Try.func13
    (ChangeSpec.witness6 (enc := enc) (C := Try.checked) false ⟨#[], #[.slice none 0 0], []⟩ 8 (by kernel_rfl) (by kernel_rfl) (by kernel_rfl) (by kernel_rfl)) ?_
  intro W base args ds gs before hval0 hW hcnd _
  have hval : ∀ (j : Nat) t v, Try.f13.params[j]? = some t → args[j]? = some v → Value.okWide Try.prog W .any base t v := hval0
  have hW' := hW
  obtain ⟨p, q, hA0, hV, rfl, hfz, hnd⟩ := hW
  have hA : DataW.TrodAll enc Try.prog W 0 (fun _ => true) true Try.f13.params.toList args.toList ds p := hA0
  rw [Try.params13] at hA hval
  obtain ⟨v0, vs0, d0, ds0, p0, q0, hargs, rfl, rfl, h0, r0⟩ := trodAll_cons hA
  obtain ⟨rfl, rfl, rfl⟩ := trodAll_nil r0
  obtain rfl : args = #[v0] := by cases args; simp_all
  obtain ⟨rfl, rfl⟩ := trodVars_none hV
  have k0 := h0
  have lt0 : ∀ x ∈ p0, x.block < W.heap.size := by obtain ⟨m, hm⟩ := k0; exact DataW.trod_lt m _ _ _ hm
  obtain ⟨fuel0, g0⟩ := h0
  obtain ⟨b0, len0, cap0, rfl⟩ := okWide_slice Try.underlying37 (hval 0 37 v0 rfl rfl)
  obtain ⟨z0, s0, wf0⟩ := slOfRead Try.underlying37 Try.underlying5 (by kernel_rfl) (by simpa [Value.cells] using g0) lt0
  clear hA0 hval0
  refine (walk _ z0 W s0 wf0).mono fun e W' ⟨he, bel⟩ => ?_
  subst he
  exact ⟨_, rfl, _, _, _, [], _, [], hW', trodAll_mk1 (shut_bool Try.underlying4 _), (trodAll_cons_mk (Below.trod laidOut (by kernel_rfl) (of_decide_eq_true (by kernel_rfl)) k0 bel lt0) trodAll_mk0), rfl, bel.frame _, fun h => by cases h⟩

theorem over : Rows.fnDialingRow.holds Try.pinned (OpenSpec.ofChange Rows.fnDialingSpec) :=
  OpenClaim.holds_of_wide 13 Try.f13 rfl rfl rfl rfl rfl rfl rfl ⟨rfl, rfl, rfl, rfl, rfl⟩ rfl rfl rfl rfl rfl (by kernel_rfl) Try.func13 (by kernel_rfl)
    (of_decide_eq_true (by kernel_rfl)) (by unfold Func.isWrapper; first | (rw [if_pos (by decide +kernel)]; kernel_rfl) | (rw [if_neg (by decide +kernel)]; exact ⟨rfl, rfl⟩))
    (fun os started H enc _ => lifted os started H enc)

/-- the statement -/
theorem proved : Rows.FnDialingSaid := over
end Go.Proofs.Ytelcpihbdgikfaa.fnDialing
