/- The walks of opening invitations. -/
import Derived.Test.YtelcpihbdgikfaaProg
import Derived.Test.YtelcpihbdgikfaaDial
import Derived.Laws.BytesArg
namespace Go.Proofs.Ytelcpihbdgikfaa
open Go.RowKit

theorem conv_run {w : World} {v : Value} {l : List Int} (hs : Sl .u8 w v l) : (convert 37 9 v).run Try.prog w = .ok (.string (strOfNums l)) w := by
  rcases hs with ⟨rfl, a, cap, rfl, hc, hz⟩ | ⟨b, off, cap, rfl, h1, h2, h3, h4⟩
  · cases a with
    | none => exact run_convert_bytes_nil w _ _ Try.underlying37 Try.underlying5 0 cap _ Try.underlying9
    | some ad =>
      rw [run_convert_bytes_string w _ _ _ _ 0 cap Try.underlying37 Try.underlying5 Try.underlying9, run_bytesToString w ad 0 cap [] (by simp [loadCells, loadCellsFrom])]
      rfl
  · exact run_convert_bytes_arg w _ _ Try.underlying37 Try.underlying5 b off l.length cap l rfl h4 _ Try.underlying9
theorem strOf_eq {l m : List Int} (hl : bytesOk l) (hm : bytesOk m) : ((strOfNums l).toList == (strOfNums m).toList) = (l == m) := by
  rw [ByteArray.toList_eq, ByteArray.toList_eq, strOfNums_data, strOfNums_data, Bool.eq_iff_iff, beq_iff_eq, beq_iff_eq]
  constructor
  · intro h2
    have hlen : l.length = m.length := by simpa using congrArg List.length h2
    refine ext_getD hlen (fun i hi => ?_)
    have h3 := congrArg (fun L => L[i]?) h2
    simp only [List.getElem?_map] at h3
    have a1 := hl.getD i
    have a2 := hm.getD i
    have hi2 : i < m.length := by omega
    rw [List.getElem?_eq_getElem hi, List.getElem?_eq_getElem hi2] at h3
    simp only [Option.map_some, Option.some.injEq] at h3
    have h4 := congrArg UInt8.toNat h3
    simp only [List.getD, List.getElem?_eq_getElem hi, List.getElem?_eq_getElem hi2, Option.getD_some] at a1 a2 ⊢
    simp only [UInt8.toNat_ofNat'] at h4
    omega
  · intro h; rw [h]
theorem specEqualBytes (v u : Value) (l m : List Int) (w : World) (hs : Sl .u8 w v l) (hu : Sl .u8 w u m) (hl : bytesOk l) (hm : bytesOk m) : Calls Try.prog 92 #[v, u] w fun e w' => e = .returned (.bool (l == m)) ∧ Below w.heap.size w w' := by
  obtain ⟨a, c, rfl, hm1⟩ := hs.shape
  obtain ⟨a', c', rfl, hm2⟩ := hu.shape
  have q1 := conv_run hs
  have q2 := conv_run hu
  have HE := Lib.hid (strOf_eq hl hm)
  generalize strOfNums l = s1 at q1 HE
  generalize strOfNums m = s2 at q2 HE
  clear hs hu hl hm
  go_enter Try.func92, Try.ntmps92
  go_wp2
  go_ret
  exact ⟨ret_bool HE.out, Below.refl _ _⟩
/-- does the contact's cell open to its own invitation -/
def invAt (s round : Int) (cell : List Int) (c : Int) : Bool := (openI (sharedKeyI s c) round cell).2 && ((openI (sharedKeyI s c) round cell).1.1 == 2) && ((openI (sharedKeyI s c) round cell).1.2 == pubI c)
def findInv (s round : Int) (cell l : List Int) : Int × Int × Bool :=
  match l.findIdx? (invAt s round cell) with
  | some i => ((i : Int), sharedKeyI s (l.getD i 0), true)
  | none => (-1, 0, false)
def openInvI (s p : Int) (l : List Int) (round : Int) (cell : List Int) : Int × Int × Bool := if validIdI s p then findInv s round cell l else (-1, 0, false)
theorem findIdx_p : ∀ (p : Int → Bool) (l : List Int) (i : Nat), i < l.length → p (l.getD i 0) = true → (∀ j, j < i → p (l.getD j 0) = false) → l.findIdx? p = some i := by
  intro p l
  induction l with
  | nil => intro i h; simp at h
  | cons y l ih =>
    intro i h he hn
    rw [List.findIdx?_cons]
    cases i with
    | zero => rw [if_pos (by simpa using he)]
    | succ i =>
      have h0 := hn 0 (by omega)
      rw [if_neg (by simpa using h0), ih i (by simpa using h) (by simpa using he) (fun j hj => by simpa using hn (j + 1) (by omega))]
      rfl
theorem findIdx_pn {p : Int → Bool} {l : List Int} (hn : ∀ j, j < l.length → p (l.getD j 0) = false) : l.findIdx? p = none := by
  rw [List.findIdx?_eq_none_iff]
  intro y hy
  obtain ⟨i, hi, e⟩ := List.getElem_of_mem hy
  have := hn i hi
  simp only [List.getD, List.getElem?_eq_getElem hi, Option.getD_some, e] at this
  exact this
theorem findInv_at {s round : Int} {cell l : List Int} {i : Nat} (h : i < l.length) (he : invAt s round cell (l.getD i 0) = true) (hn : ∀ j, j < i → invAt s round cell (l.getD j 0) = false) : findInv s round cell l = ((i : Int), sharedKeyI s (l.getD i 0), true) := by
  unfold findInv; rw [findIdx_p _ l i h he hn]
theorem findInv_none {s round : Int} {cell l : List Int} (hn : ∀ j, j < l.length → invAt s round cell (l.getD j 0) = false) : findInv s round cell l = (-1, 0, false) := by
  unfold findInv; rw [findIdx_pn hn]
theorem ret_iib {x y x' y' : Int} {b c : Bool} (h : (x, y, b) = (x', y', c)) : Ending.returned (.tuple #[.int .i64 x, .int .i64 y, .bool b]) = .returned (.tuple #[.int .i64 x', .int .i64 y', .bool c]) := by cases h; rfl
theorem openI_ok (key counter : Int) (cell : List Int) : bytesOk (openI key counter cell).1.2 := by
  unfold openI
  split
  · exact ((decI_ok _ _).drop _).take _
  · intro x hx; simp at hx
set_option maxRecDepth 100000 in
set_option maxHeartbeats 1000000 in
theorem implOpenInv (s p round : Int) (v u : Value) (l cell : List Int) (w : World) (hs : Sl .i64 w v l) (hu : Sl .u8 w u cell) (hby : bytesOk cell) : Calls Try.prog 43 #[.agg #[.int .i64 s, .int .i64 p], v, .int .i64 round, u] w fun e w' => e = .returned (.tuple #[.int .i64 (openInvI s p l round cell).1, .int .i64 (openInvI s p l round cell).2.1, .bool (openInvI s p l round cell).2.2]) ∧ Below w.heap.size w w' := by
  obtain ⟨a, c, rfl, hm⟩ := hs.shape
  obtain ⟨a', c', rfl, hm'⟩ := hu.shape
  obtain ⟨n', hn'⟩ : ∃ n', n' = cell.length := ⟨_, rfl⟩
  rw [← hn'] at hu ⊢
  have HB := box2 w (.int .i64 s) (.int .i64 p) 59
  have HS := Lib.hid (hs.alloc (.cells #[.int .i64 s, .int .i64 p] 59))
  have HU := Lib.hid (hu.alloc (.cells #[.int .i64 s, .int .i64 p] 59))
  have HBY := Lib.hid hby
  clear hs hu hm' hn' hby
  cases hv : validIdI s p with
  | false =>
    have HV := Lib.hid (show openInvI s p l round cell = (-1, 0, false) by unfold openInvI; rw [hv]; rfl)
    go_enter Try.func43, Try.ntmps43
    go_wp2_with fail
    refine (implIsIdis hv _).mono ?_
    rintro e w1 ⟨rfl, hb1⟩
    go_wp2
    go_ret3
    exact ⟨ret_iib HV.out.symm, bel_seq HB.2.2.2 hb1⟩
  | true =>
  have HV := Lib.hid (show openInvI s p l round cell = findInv s round cell l by unfold openInvI; rw [hv]; rfl)
  go_enter Try.func43, Try.ntmps43
  go_wp2_with fail
  generalize w.alloc (.cells #[.int .i64 s, .int .i64 p] 59) = W0 at HB HS HU ⊢
  refine (implIsIdis hv _).mono ?_
  rintro e w1 ⟨rfl, hb1⟩
  have P0 := Lib.hid HB.1
  have BW := Lib.hid HB.2.2.2
  have H1 := Lib.hid hb1
  clear HB hb1 hv
  go_wp2
  go_loopw [21] (fun i wr => ∃ k : Nat, k ≤ l.length ∧ i = .int .i64 k ∧ Hid (Below W0.heap.size W0 wr) ∧ Hid (∀ j, j < k → invAt s round cell (l.getD j 0) = false)) (fun i _ => l.length - (intOf i).toNat)
  case atStart => exact ⟨0, Nat.zero_le _, rfl, H1, Lib.hid (fun j hj => by omega)⟩
  case round =>
    obtain ⟨k, hk, rfl, BR, HK⟩ := hrel
    have p0 := later0 BR.out P0.out
    by_cases hlt : k < l.length
    · obtain ⟨bk, off, rfl, hb, h4⟩ := (HS.out.below BR.out).at hlt
      have hc1 := h4 k hlt
      clear h4 hb
      obtain ⟨y, hy⟩ : ∃ y, y = l.getD k 0 := ⟨_, rfl⟩
      rw [← hy] at hc1
      have HY := Lib.hid hy
      obtain ⟨K, hK⟩ : ∃ K, K = sharedKeyI s y := ⟨_, rfl⟩
      have CK := fun W => implSharedKey s y W
      rw [← hK] at CK
      have CK := Lib.hid CK
      have CO := fun W (h : Sl .u8 W (.slice a' n' c') cell) => implOpen K round _ cell W h HBY.out
      obtain ⟨⟨⟨kd, L⟩, b⟩, hq⟩ : ∃ q, q = openI K round cell := ⟨_, rfl⟩
      have hL := openI_ok K round cell
      rw [← hq] at CO hL
      have CO := Lib.hid CO
      have HLO : Hid (bytesOk L) := Lib.hid hL
      have HI : Hid (invAt s round cell y = (b && (kd == 2) && (L == pubI y))) := Lib.hid (by unfold invAt; rw [← hK, ← hq])
      have HKK := Lib.hid hK
      clear hy hK hq hL
      go_wp2_with fail
      refine (CK.out _).mono ?_
      rintro e w2 ⟨rfl, hb2⟩
      have B2 := Lib.hid (bel_seq BR.out hb2)
      clear hb2
      go_wp2_with fail
      refine (CO.out _ (HU.out.below B2.out)).mono ?_
      rintro e w3 ⟨ao, N, cap, rfl, ho3, hb3⟩
      have B3 := Lib.hid (bel_seq B2.out hb3)
      have O3 := Lib.hid (ho3.alloc (.cells #[.int .i64 kd, .slice ao N cap] 100))
      have HB4 := box2 w3 (.int .i64 kd) (.slice ao N cap) 100
      have B4 := Lib.hid (bel_al B3.out (.cells #[.int .i64 kd, .slice ao N cap] 100))
      clear ho3 hb3
      cases b with
      | false =>
        have HK' : Hid (∀ j, j < k + 1 → invAt s round cell (l.getD j 0) = false) := Lib.hid (fun j hj => by
          rcases Nat.lt_succ_iff_lt_or_eq.1 hj with h | h
          · exact HK.out j h
          · rw [h, ← HY.out, HI.out]; rfl)
        go_wp2_with fail
        generalize w3.alloc (.cells #[.int .i64 kd, .slice ao N cap] 100) = W4 at B4 HB4 O3 ⊢
        go_quiet (fail)
        go_wp2
        go_roundw
        case rel => exact ⟨k + 1, by omega, by go_num, Lib.hid (bel_drewN B4.out _), HK'⟩
        case measure => simp [intOf]; omega
      | true =>
      by_cases hkd : kd = 2
      case neg =>
        have hkd' : (kd == 2) = false := beq_eq_false_iff_ne.2 hkd
        have HK' : Hid (∀ j, j < k + 1 → invAt s round cell (l.getD j 0) = false) := Lib.hid (fun j hj => by
          rcases Nat.lt_succ_iff_lt_or_eq.1 hj with h | h
          · exact HK.out j h
          · rw [h, ← HY.out, HI.out, hkd']; rfl)
        clear hkd
        go_wp2_with fail
        generalize w3.alloc (.cells #[.int .i64 kd, .slice ao N cap] 100) = W4 at B4 HB4 O3 ⊢
        obtain ⟨k0, k1, k2, k3⟩ := HB4
        go_quiet (fail)
        go_wp2
        go_roundw
        case rel => exact ⟨k + 1, by omega, by go_num, Lib.hid (bel_drewN B4.out _), HK'⟩
        case measure => simp [intOf]; omega
      case pos =>
      subst hkd
      obtain ⟨r, hr⟩ : ∃ r, r = (L == pubI y) := ⟨_, rfl⟩
      have CP := Lib.hid (fun W => implPub y W)
      have CE := fun g W (h1 : Sl .u8 W (.slice ao N cap) L) (h2 : Sl .u8 W (.slice (some ⟨g, 0, none⟩) 2 2) (pubI y)) => slEqualB _ _ _ _ W h1 h2
      rw [← hr] at CE
      have CE := Lib.hid CE
      have HR : Hid (invAt s round cell y = r) := Lib.hid (by rw [HI.out, hr]; simp)
      clear hr
      go_wp2_with fail
      generalize w3.alloc (.cells #[.int .i64 2, .slice ao N cap] 100) = W4 at B4 HB4 O3 ⊢
      obtain ⟨c0, c1, _, _⟩ := HB4
      go_region_held3 (fun W' => W'.cell? ⟨w3.heap.size, 0, none⟩ = some (.int .i64 2) ∧ W'.cell? ⟨w3.heap.size, 1, none⟩ = some (.slice ao N cap) ∧ Below W4.heap.size W4 W') (first | assumption | (refine keep2 ?_ c0 c1; repeat (first | exact Below.refl _ _ | refine bel_al ?_ _ | refine Below.drew ?_ | refine bel_seq ?_ hb5 | refine bel_seq ?_ hb6))) (first | (go_at_call 91; (refine (CP.out _).mono ?_); rintro e w5 ⟨g5, rfl, ho5, hb5⟩) | (go_at_call 93; (refine (CE.out _ _ (O3.out.sl.below (by repeat (first | exact Below.refl _ _ | refine bel_al ?_ _ | refine Below.drew ?_ | refine bel_seq ?_ hb5))) (by first | exact ho5.sl | exact ho5.sl.drew)).mono ?_); rintro e w6 ⟨rfl, hb6⟩))
      have B6 := Lib.hid (bel_seq B4.out (And.right (And.right ‹_ ∧ _ ∧ _›) : Below W4.heap.size W4 w6))
      clear hb5 hb6 ho5 c0 c1
      cases r with
      | false =>
        have HK' : Hid (∀ j, j < k + 1 → invAt s round cell (l.getD j 0) = false) := Lib.hid (fun j hj => by
          rcases Nat.lt_succ_iff_lt_or_eq.1 hj with h | h
          · exact HK.out j h
          · rw [h, ← HY.out, HR.out])
        go_wp2
        go_roundw
        case rel => exact ⟨k + 1, by omega, by go_num, B6, HK'⟩
        case measure => simp [intOf]; omega
      | true =>
        have HF := Lib.hid (findInv_at hlt (by rw [← HY.out]; exact HR.out) HK.out)
        go_wp2
        go_ret3
        exact ⟨ret_iib (by rw [HV.out, HF.out, ← HY.out, ← HKK.out]), bel_seq BW.out B6.out⟩
    · have : k = l.length := by omega
      subst this
      have HF := Lib.hid (findInv_none HK.out)
      go_wp2
      go_ret3
      exact ⟨ret_iib (HF.out.symm.trans HV.out.symm), bel_seq BW.out BR.out⟩
set_option maxRecDepth 100000 in
set_option maxHeartbeats 1000000 in
theorem specOpenInv (s p round : Int) (v u : Value) (l cell : List Int) (w : World) (hs : Sl .i64 w v l) (hu : Sl .u8 w u cell) (hby : bytesOk cell) : Calls Try.prog 41 #[.agg #[.int .i64 s, .int .i64 p], v, .int .i64 round, u] w fun e w' => e = .returned (.tuple #[.int .i64 (openInvI s p l round cell).1, .int .i64 (openInvI s p l round cell).2.1, .bool (openInvI s p l round cell).2.2]) ∧ Below w.heap.size w w' := by
  obtain ⟨a, c, rfl, hm⟩ := hs.shape
  obtain ⟨a', c', rfl, hm'⟩ := hu.shape
  obtain ⟨n', hn'⟩ : ∃ n', n' = cell.length := ⟨_, rfl⟩
  rw [← hn'] at hu ⊢
  have HB := box2 w (.int .i64 s) (.int .i64 p) 59
  have HS := Lib.hid (hs.alloc (.cells #[.int .i64 s, .int .i64 p] 59))
  have HU := Lib.hid (hu.alloc (.cells #[.int .i64 s, .int .i64 p] 59))
  have HBY := Lib.hid hby
  clear hs hu hm' hn' hby
  cases hv : validIdI s p with
  | false =>
    have HV := Lib.hid (show openInvI s p l round cell = (-1, 0, false) by unfold openInvI; rw [hv]; rfl)
    go_enter Try.func41, Try.ntmps41
    go_wp2_with fail
    generalize w.alloc (.cells #[.int .i64 s, .int .i64 p] 59) = W0 at HB HS HU ⊢
    have P0 := HB.1
    have P1 := HB.2.1
    have BW := Lib.hid HB.2.2.2
    clear HB
    go_loopw [11] (fun i wr => i = .int .i64 0 ∧ wr = W0) (fun _ _ => 0)
    case atStart => exact ⟨rfl, rfl⟩
    case round =>
      obtain ⟨rfl, rfl⟩ := hrel
      by_cases hlt : 0 < l.length
      · have hlt' : (0 : Int) < l.length := by omega
        go_wp2_with fail
        refine (specIsIdis hv _).mono ?_
        rintro e w1 ⟨rfl, hb1⟩
        go_wp2
        go_ret3
        exact ⟨ret_iib HV.out.symm, bel_seq BW.out hb1⟩
      · have hlt' : ¬ (0 : Int) < l.length := by omega
        go_wp2
        go_ret3
        exact ⟨ret_iib HV.out.symm, BW.out⟩
  | true =>
  have HV := Lib.hid (show openInvI s p l round cell = findInv s round cell l by unfold openInvI; rw [hv]; rfl)
  go_enter Try.func41, Try.ntmps41
  go_wp2_with fail
  generalize w.alloc (.cells #[.int .i64 s, .int .i64 p] 59) = W0 at HB HS HU ⊢
  have P0 := Lib.hid HB.1
  have P1 := Lib.hid HB.2.1
  have BW := Lib.hid HB.2.2.2
  have HVV := Lib.hid hv
  clear HB hv
  go_loopw [11] (fun i wr => ∃ k : Nat, k ≤ l.length ∧ i = .int .i64 k ∧ Hid (Below W0.heap.size W0 wr) ∧ Hid (∀ j, j < k → invAt s round cell (l.getD j 0) = false)) (fun i _ => l.length - (intOf i).toNat)
  case atStart => exact ⟨0, Nat.zero_le _, rfl, Lib.hid (Below.refl _ _), Lib.hid (fun j hj => by omega)⟩
  case round =>
    obtain ⟨k, hk, rfl, BR, HK⟩ := hrel
    by_cases hlt : k < l.length
    · have p0 := later0 BR.out P0.out
      have p1 := later0 BR.out P1.out
      go_wp2_with fail
      refine (specIsIdis HVV.out _).mono ?_
      rintro e w1 ⟨rfl, hb1⟩
      replace p0 := later0 hb1 p0
      have B1 := Lib.hid (bel_seq BR.out hb1)
      clear hb1 p1
      obtain ⟨bk, off, rfl, hb, h4⟩ := (HS.out.below B1.out).at hlt
      have hc1 := h4 k hlt
      clear h4 hb
      obtain ⟨y, hy⟩ : ∃ y, y = l.getD k 0 := ⟨_, rfl⟩
      rw [← hy] at hc1
      have HY := Lib.hid hy
      obtain ⟨K, hK⟩ : ∃ K, K = sharedKeyI s y := ⟨_, rfl⟩
      have CK := fun W => specSharedKey s y W
      rw [← hK] at CK
      have CK := Lib.hid CK
      have CO := fun W (h : Sl .u8 W (.slice a' n' c') cell) => specOpen K round _ cell W h HBY.out
      obtain ⟨⟨⟨kd, L⟩, b⟩, hq⟩ : ∃ q, q = openI K round cell := ⟨_, rfl⟩
      have hL := openI_ok K round cell
      rw [← hq] at CO hL
      have CO := Lib.hid CO
      have HLO : Hid (bytesOk L) := Lib.hid hL
      have HI : Hid (invAt s round cell y = (b && (kd == 2) && (L == pubI y))) := Lib.hid (by unfold invAt; rw [← hK, ← hq])
      have HKK := Lib.hid hK
      clear hy hK hq hL
      go_wp2_with fail
      go_region_held3 (fun W' => W'.cell? ⟨w.heap.size, 0, none⟩ = some (.int .i64 s) ∧ W'.cell? ⟨bk, off + k, none⟩ = some (.int .i64 y) ∧ Below w1.heap.size w1 W') (first | assumption | (refine keep2 ?_ p0 hc1; repeat (first | exact Below.refl _ _ | refine bel_al ?_ _ | refine Below.drew ?_ | refine bel_seq ?_ hb2))) (first | (go_at_call 88; (refine (CK.out _).mono ?_); rintro e w2 ⟨rfl, hb2⟩))
      have hb12 : Below w1.heap.size w1 w2 := And.right (And.right ‹_ ∧ _ ∧ _›)
      have B2 := Lib.hid (bel_seq B1.out hb12)
      replace hc1 := later0 hb12 hc1
      clear hb2 hb12 p0
      go_wp2_with fail
      refine (CO.out _ (HU.out.below B2.out)).mono ?_
      rintro e w3 ⟨ao, N, cap, rfl, ho3, hb3⟩
      have B3 := Lib.hid (bel_seq B2.out hb3)
      have O3 := Lib.hid (ho3.alloc (.cells #[.int .i64 kd, .slice ao N cap] 100))
      have HB4 := box2 w3 (.int .i64 kd) (.slice ao N cap) 100
      replace hc1 := later0 (bel_al (Below.refl _ _) (.cells #[.int .i64 kd, .slice ao N cap] 100)) (later0 hb3 hc1)
      have B4 := Lib.hid (bel_al B3.out (.cells #[.int .i64 kd, .slice ao N cap] 100))
      clear ho3 hb3
      cases b with
      | false =>
        have HK' : Hid (∀ j, j < k + 1 → invAt s round cell (l.getD j 0) = false) := Lib.hid (fun j hj => by
          rcases Nat.lt_succ_iff_lt_or_eq.1 hj with h | h
          · exact HK.out j h
          · rw [h, ← HY.out, HI.out]; rfl)
        go_wp2_with fail
        generalize w3.alloc (.cells #[.int .i64 kd, .slice ao N cap] 100) = W4 at B4 HB4 O3 hc1 ⊢
        go_quiet (fail)
        go_wp2
        go_roundw
        case rel => exact ⟨k + 1, by omega, by go_num, Lib.hid (bel_drewN B4.out _), HK'⟩
        case measure => simp [intOf]; omega
      | true =>
      by_cases hkd : kd = 2
      case neg =>
        have hkd' : (kd == 2) = false := beq_eq_false_iff_ne.2 hkd
        have HK' : Hid (∀ j, j < k + 1 → invAt s round cell (l.getD j 0) = false) := Lib.hid (fun j hj => by
          rcases Nat.lt_succ_iff_lt_or_eq.1 hj with h | h
          · exact HK.out j h
          · rw [h, ← HY.out, HI.out, hkd']; rfl)
        clear hkd
        go_wp2_with fail
        generalize w3.alloc (.cells #[.int .i64 kd, .slice ao N cap] 100) = W4 at B4 HB4 O3 hc1 ⊢
        obtain ⟨k0, k1, k2, k3⟩ := HB4
        go_quiet (fail)
        go_wp2
        go_roundw
        case rel => exact ⟨k + 1, by omega, by go_num, Lib.hid (bel_drewN B4.out _), HK'⟩
        case measure => simp [intOf]; omega
      case pos =>
      subst hkd
      obtain ⟨r, hr⟩ : ∃ r, r = (L == pubI y) := ⟨_, rfl⟩
      have CP := Lib.hid (fun W => specPub y W)
      have CE := fun g W (h1 : Sl .u8 W (.slice ao N cap) L) (h2 : Sl .u8 W (.slice (some ⟨g, 0, none⟩) 2 2) (pubI y)) => specEqualBytes _ _ _ _ W h1 h2 HLO.out (pubI_ok y)
      rw [← hr] at CE
      have CE := Lib.hid CE
      have HR : Hid (invAt s round cell y = r) := Lib.hid (by rw [HI.out, hr]; simp)
      clear hr
      go_wp2_with fail
      generalize w3.alloc (.cells #[.int .i64 2, .slice ao N cap] 100) = W4 at B4 HB4 O3 hc1 ⊢
      obtain ⟨c0, c1, _, _⟩ := HB4
      go_region_held3 (fun W' => W'.cell? ⟨w3.heap.size, 0, none⟩ = some (.int .i64 2) ∧ W'.cell? ⟨w3.heap.size, 1, none⟩ = some (.slice ao N cap) ∧ W'.cell? ⟨bk, off + k, none⟩ = some (.int .i64 y) ∧ Below W4.heap.size W4 W') (first | assumption | (refine keep3 ?_ c0 c1 hc1; repeat (first | exact Below.refl _ _ | refine bel_al ?_ _ | refine Below.drew ?_ | refine bel_seq ?_ hb5 | refine bel_seq ?_ hb6))) (first | (go_at_call 89; (refine (CP.out _).mono ?_); rintro e w5 ⟨g5, rfl, ho5, hb5⟩) | (go_at_call 92; (refine (CE.out _ _ (O3.out.sl.below (by repeat (first | exact Below.refl _ _ | refine bel_al ?_ _ | refine Below.drew ?_ | refine bel_seq ?_ hb5))) (by first | exact ho5.sl | exact ho5.sl.drew)).mono ?_); rintro e w6 ⟨rfl, hb6⟩))
      have B6 := Lib.hid (bel_seq B4.out (And.right (And.right (And.right ‹_ ∧ _ ∧ _ ∧ _›)) : Below W4.heap.size W4 w6))
      clear hb5 hb6 ho5 c0 c1
      cases r with
      | false =>
        have HK' : Hid (∀ j, j < k + 1 → invAt s round cell (l.getD j 0) = false) := Lib.hid (fun j hj => by
          rcases Nat.lt_succ_iff_lt_or_eq.1 hj with h | h
          · exact HK.out j h
          · rw [h, ← HY.out, HR.out])
        go_wp2
        go_roundw
        case rel => exact ⟨k + 1, by omega, by go_num, B6, HK'⟩
        case measure => simp [intOf]; omega
      | true =>
        have HF := Lib.hid (findInv_at hlt (by rw [← HY.out]; exact HR.out) HK.out)
        go_wp2
        go_ret3
        exact ⟨ret_iib (by rw [HV.out, HF.out, ← HY.out, ← HKK.out]), bel_seq BW.out B6.out⟩
    · have : k = l.length := by omega
      subst this
      have HF := Lib.hid (findInv_none HK.out)
      go_wp2
      go_ret3
      exact ⟨ret_iib (HF.out.symm.trans HV.out.symm), bel_seq BW.out BR.out⟩
end Go.Proofs.Ytelcpihbdgikfaa
