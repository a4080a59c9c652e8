/- The walks of opening. -/
import Derived.Test.YtelcpihbdgikfaaProg
import Derived.Test.YtelcpihbdgikfaaCell3
namespace Go.Proofs.Ytelcpihbdgikfaa
open Go.RowKit

/-- what lies in an opened cell -/
def innerI (key counter : Int) (cell : List Int) : List Int := decI (cipherI key counter) (cell.take 20)
theorem innerI_length (key counter : Int) {cell : List Int} (h : cell.length = 24) : (innerI key counter cell).length = 20 := by
  unfold innerI; rw [decI_length, List.length_take]; omega
theorem innerI_ok (key counter : Int) (cell : List Int) : bytesOk (innerI key counter cell) := decI_ok _ _
def openOk (key counter : Int) (cell : List Int) : Bool := keyB key && inR counter 0 1000000000000 && decide (cell.length = 24) && (cell.drop 20 == fourI (checkI key counter (cell.take 20)))
theorem openI_no {key counter : Int} {cell : List Int} (h : openOk key counter cell = false) : openI key counter cell = ((0, []), false) := by
  unfold openI
  rw [if_neg]
  unfold openOk at h
  rw [keyOk_keyB, countOk_inR, h]
  simp
theorem openI_bad {key counter : Int} {cell : List Int} (h : ¬ (innerI key counter cell).getD 0 0 ≤ 3 ∨ ¬ (innerI key counter cell).getD 1 0 ≤ 14) : openI key counter cell = ((0, []), false) := by
  unfold openI
  rw [if_neg]
  unfold innerI at h
  rw [Bool.and_eq_true, Bool.and_eq_true, decide_eq_true_eq, decide_eq_true_eq]
  intro hh
  rcases h with h | h
  · exact h hh.1.2
  · exact h hh.2
theorem openI_yes {key counter : Int} {cell : List Int} (h : openOk key counter cell = true) (h0 : (innerI key counter cell).getD 0 0 ≤ 3) (h1 : (innerI key counter cell).getD 1 0 ≤ 14) :
    openI key counter cell = (((innerI key counter cell).getD 0 0, ((innerI key counter cell).drop 2).take ((innerI key counter cell).getD 1 0).toNat), true) := by
  unfold openI
  unfold openOk at h
  unfold innerI at h0 h1 ⊢
  rw [if_pos]
  rw [keyOk_keyB, countOk_inR, h, decide_eq_true h0, decide_eq_true h1]
  rfl
theorem Own.cells {k : IntKind} {e : TypeId} {base : Nat} {w : World} {ao : Option Addr} {N cap : Nat} {l : List Int} (h : Own k e base w ao N cap l) {b o : Nat} (hb : b < base) (u : Value) : Own k e base (w.setCell ⟨b, o, none⟩ u) ao N cap l := by
  refine h.grown (row := some b) ⟨rfl, rfl, rfl, by simp [World.setCell], fun i _ hne => Below.heap_setCell _ _ _ _ (fun e => hne (by rw [e]))⟩ ?_
  rcases h.shape with ⟨rfl, _⟩ | ⟨g, rfl, hg, _⟩
  · exact .inl rfl
  · exact .inr (by simp [ownB]; omega)
theorem ret_pb {k : Int} {v : Value} {k' : Int} {a b : Bool} (h1 : k = k') (h2 : a = b) : Ending.returned (.tuple #[.agg #[.int .i64 k, v], .bool a]) = .returned (.tuple #[.agg #[.int .i64 k', v], .bool b]) := by rw [h1, h2]
/-- what opening returns: the kind, the body in memory of the call's own, whether it opened -/
def OpenPost (r : (Int × List Int) × Bool) (w : World) (e : Ending) (w' : World) : Prop :=
  ∃ ao N cap, e = .returned (.tuple #[.agg #[.int .i64 r.1.1, .slice ao N cap], .bool r.2]) ∧ Own .u8 5 w.heap.size w' ao N cap r.1.2 ∧ Below w.heap.size w w'
theorem openPost_no {r : (Int × List Int) × Bool} (h : r = ((0, []), false)) {w w' : World} (hb : Below w.heap.size w w') : OpenPost r w (.returned (.tuple #[.agg #[.int .i64 0, .slice none 0 0], .bool false])) w' := by
  subst h
  exact ⟨none, 0, 0, rfl, Own.nil _ _ _ _, hb⟩
set_option maxRecDepth 100000 in
set_option maxHeartbeats 1000000 in
theorem implOpen (key counter : Int) (v : Value) (cell : List Int) (w : World) (hs : Sl .u8 w v cell) (hby : bytesOk cell) : Calls Try.prog 85 #[.int .i64 key, .int .i64 counter, v] w (OpenPost (openI key counter cell) w) := by
  obtain ⟨a, c, rfl, hm⟩ := hs.shape
  have hcap := hs.cap
  obtain ⟨n, hn⟩ : ∃ n, n = cell.length := ⟨_, rfl⟩
  rw [← hn] at hs hm hcap ⊢
  have HN := Lib.hid hn
  have HB := Lib.hid hby
  have B0 := Lib.hid (bel_al (Below.refl w.heap.size w) (.cells #[.int .i64 0, .slice none 0 0] 100))
  have HS := Lib.hid (hs.alloc (.cells #[.int .i64 0, .slice none 0 0] 100))
  have hbx := box2 w (.int .i64 0) (.slice none 0 0) 100
  have P0 := Lib.hid hbx.1
  have P1 := Lib.hid hbx.2.1
  have F0 := Lib.hid (show (w.alloc (.cells #[.int .i64 0, .slice none 0 0] 100)).frozen? ⟨w.heap.size, 0, none⟩ = false by simp [go_sem])
  have F1 := Lib.hid (show (w.alloc (.cells #[.int .i64 0, .slice none 0 0] 100)).frozen? ⟨w.heap.size, 1, none⟩ = false by simp [go_sem])
  clear hn hby hs hbx
  cases h1 : keyB key with
  | false =>
    have HV := Lib.hid (openI_no (key := key) (counter := counter) (cell := cell) (by unfold openOk; rw [h1]; rfl))
    go_enter Try.func85, Try.ntmps85
    go_wp2_with fail
    generalize w.alloc (.cells #[.int .i64 0, .slice none 0 0] 100) = W0 at B0 HS P0 P1 F0 F1 ⊢
    go_quiet (first | (go_at_call 63; exact quiet_same (implIsKeyis h1 _)))
    have q0 : (W0.drewN nq).cell? ⟨w.heap.size, 0, none⟩ = some (.int .i64 0) := P0.out
    have q1 : (W0.drewN nq).cell? ⟨w.heap.size, 1, none⟩ = some (.slice none 0 0) := P1.out
    have r0 : (W0.drewN nq).frozen? ⟨w.heap.size, 0, none⟩ = false := F0.out
    have r1 : (W0.drewN nq).frozen? ⟨w.heap.size, 1, none⟩ = false := F1.out
    have B1 := Lib.hid (bel_drewN B0.out nq)
    generalize W0.drewN nq = W1 at q0 q1 r0 r1 B1 ⊢
    go_wp2
    exact bodyPost_ret (v := .tuple #[.agg #[.int .i64 0, .slice none 0 0], .bool false]) (by simp [results, Try.results85, go_sem, *]) rfl (openPost_no HV.out (by repeat (first | exact Below.refl _ _ | refine bel_al ?_ _ | refine Below.setCell ?_ (by first | (simp; done) | (simp; omega)) _ | refine Below.drew ?_ | refine bel_drewN ?_ _ | refine bel_seq ?_ (B1.out))))
  | true =>
  cases h2 : inR counter 0 1000000000000 with
  | false =>
    have HV := Lib.hid (openI_no (key := key) (counter := counter) (cell := cell) (by unfold openOk; rw [h2]; simp))
    go_enter Try.func85, Try.ntmps85
    go_wp2_with fail
    generalize w.alloc (.cells #[.int .i64 0, .slice none 0 0] 100) = W0 at B0 HS P0 P1 F0 F1 ⊢
    go_quiet (first | (go_at_call 63; exact quiet_same (implIsKeyis h1 _)) | (go_at_call 94; exact quiet_same (implInRis h2 _)))
    have q0 : (W0.drewN nq).cell? ⟨w.heap.size, 0, none⟩ = some (.int .i64 0) := P0.out
    have q1 : (W0.drewN nq).cell? ⟨w.heap.size, 1, none⟩ = some (.slice none 0 0) := P1.out
    have r0 : (W0.drewN nq).frozen? ⟨w.heap.size, 0, none⟩ = false := F0.out
    have r1 : (W0.drewN nq).frozen? ⟨w.heap.size, 1, none⟩ = false := F1.out
    have B1 := Lib.hid (bel_drewN B0.out nq)
    generalize W0.drewN nq = W1 at q0 q1 r0 r1 B1 ⊢
    go_wp2
    exact bodyPost_ret (v := .tuple #[.agg #[.int .i64 0, .slice none 0 0], .bool false]) (by simp [results, Try.results85, go_sem, *]) rfl (openPost_no HV.out (by repeat (first | exact Below.refl _ _ | refine bel_al ?_ _ | refine Below.setCell ?_ (by first | (simp; done) | (simp; omega)) _ | refine Below.drew ?_ | refine bel_drewN ?_ _ | refine bel_seq ?_ (B1.out))))
  | true =>
  by_cases h3 : n = 24
  case neg =>
    have HV := Lib.hid (openI_no (key := key) (counter := counter) (cell := cell) (by unfold openOk; rw [decide_eq_false (by have := HN.out; omega)]; simp))
    have h3' : ((n : Int) != 24) = true := by rw [bne_iff_ne]; omega
    clear h3
    go_enter Try.func85, Try.ntmps85
    go_wp2_with fail
    generalize w.alloc (.cells #[.int .i64 0, .slice none 0 0] 100) = W0 at B0 HS P0 P1 F0 F1 ⊢
    go_quiet (first | (go_at_call 63; exact quiet_same (implIsKeyis h1 _)) | (go_at_call 94; exact quiet_same (implInRis h2 _)))
    have q0 : (W0.drewN nq).cell? ⟨w.heap.size, 0, none⟩ = some (.int .i64 0) := P0.out
    have q1 : (W0.drewN nq).cell? ⟨w.heap.size, 1, none⟩ = some (.slice none 0 0) := P1.out
    have r0 : (W0.drewN nq).frozen? ⟨w.heap.size, 0, none⟩ = false := F0.out
    have r1 : (W0.drewN nq).frozen? ⟨w.heap.size, 1, none⟩ = false := F1.out
    have B1 := Lib.hid (bel_drewN B0.out nq)
    generalize W0.drewN nq = W1 at q0 q1 r0 r1 B1 ⊢
    go_wp2
    exact bodyPost_ret (v := .tuple #[.agg #[.int .i64 0, .slice none 0 0], .bool false]) (by simp [results, Try.results85, go_sem, *]) rfl (openPost_no HV.out (by repeat (first | exact Below.refl _ _ | refine bel_al ?_ _ | refine Below.setCell ?_ (by first | (simp; done) | (simp; omega)) _ | refine Below.drew ?_ | refine bel_drewN ?_ _ | refine bel_seq ?_ (B1.out))))
  case pos =>
  subst h3
  obtain ⟨b, off, rfl, hb, _⟩ := HS.out.at (show 0 < 24 by omega)
  have ST := Lib.hid (HS.out.take (show 20 ≤ 24 by omega))
  have SD := Lib.hid (HS.out.drop (show 20 ≤ 24 by omega) hb)
  have hc1 : ¬ c = 20 := by omega
  have hc2 : 24 ≤ c := hcap.1
  have hc3 : (24 : Int) ≤ c := by omega
  have hc4 : (20 : Int) ≤ c := by omega
  have hc5 : 20 ≤ c := by omega
  have hz0 : w.heap.size + 1 ≤ (w.alloc (.cells #[.int .i64 0, .slice none 0 0] 100)).heap.size := by simp
  have hby20 := HB.out.take 20
  have CB := Lib.hid (fun W h => implCheckBytes key counter (.slice (some ⟨b, off, none⟩) 20 c) (cell.take 20) W h (by rw [List.length_take]; omega) hby20)
  obtain ⟨r, hr⟩ : ∃ r, r = (cell.drop 20 == fourI (checkI key counter (cell.take 20))) := ⟨_, rfl⟩
  have CE := fun gk W (h1 : Sl .u8 W (.slice (some ⟨b, off + 20, none⟩) 4 (c - 20)) (cell.drop 20)) (h2 : Sl .u8 W (.slice (some ⟨gk, 0, none⟩) 4 4) (fourI (checkI key counter (cell.take 20)))) => slEqualB _ _ _ _ W h1 h2
  rw [← hr] at CE
  have CE := Lib.hid CE
  have HR := Lib.hid hr
  have HK1 := Lib.hid h1
  have HK2 := Lib.hid h2
  clear hr hby20
  go_enter Try.func85, Try.ntmps85
  go_wp2_with fail
  generalize w.alloc (.cells #[.int .i64 0, .slice none 0 0] 100) = W0 at B0 HS P0 P1 F0 F1 ST SD hb hz0 ⊢
  go_region_held3 (fun W' => BB (w.heap.size + 1) W0 W') (first | assumption | (repeat (first | exact BB.refl hz0 | refine BB.al ?_ _ | refine BB.drew ?_ | refine BB.seq ?_ hb2 | refine BB.seq ?_ hb3))) (first | (go_at_call 63; (refine (implIsKeyis h1 _).mono ?_); rintro e w0 ⟨rfl, rfl⟩) | (go_at_call 94; (refine (implInRis h2 _).mono ?_); rintro e w0 ⟨rfl, rfl⟩) | (go_at_call 122; (refine (CB.out _ (by first | exact ST.out | exact ST.out.drew)).mono ?_); rintro e w2 ⟨gk, rfl, hok, hb2⟩) | (go_at_call 93; (refine (CE.out _ _ (by first | exact SD.out.below hb2 | exact (SD.out.drew).below hb2 | exact (SD.out.below hb2).drew) (by first | exact hok.sl | exact hok.sl.drew)).mono ?_); rintro e w3 ⟨rfl, hb3⟩))
  have H3 := Lib.hid (‹BB (w.heap.size + 1) W0 w3›.2)
  cases r with
  | false =>
    have HV := Lib.hid (openI_no (key := key) (counter := counter) (cell := cell) (by unfold openOk; rw [← HR.out]; simp))
    have q0 := (H3.out.cell (p := ⟨w.heap.size, 0, none⟩) (Nat.lt_succ_self _)).trans P0.out
    have q1 := (H3.out.cell (p := ⟨w.heap.size, 1, none⟩) (Nat.lt_succ_self _)).trans P1.out
    have r0 := (H3.out.frozen (p := ⟨w.heap.size, 0, none⟩) (Nat.lt_succ_self _)).trans F0.out
    have r1 := (H3.out.frozen (p := ⟨w.heap.size, 1, none⟩) (Nat.lt_succ_self _)).trans F1.out
    have BF := Lib.hid (B0.out.trans (H3.out.mono (Nat.le_succ _)))
    go_wp2
    exact bodyPost_ret (v := .tuple #[.agg #[.int .i64 0, .slice none 0 0], .bool false]) (by simp [results, Try.results85, go_sem, *]) rfl (openPost_no HV.out (by repeat (first | exact Below.refl _ _ | refine bel_al ?_ _ | refine Below.setCell ?_ (by first | (simp; done) | (simp; omega)) _ | refine Below.drew ?_ | refine bel_drewN ?_ _ | refine bel_seq ?_ (BF.out))))
  | true =>
  have HO : Hid (openOk key counter cell = true) := Lib.hid (by unfold openOk; rw [← HR.out, HK1.out, HK2.out, decide_eq_true HN.out.symm]; rfl)
  have hb3' : Below W0.heap.size W0 w3 := by repeat (first | exact Below.refl _ _ | refine bel_al ?_ _ | refine Below.drew ?_ | refine bel_seq ?_ hb2 | refine bel_seq ?_ hb3)
  have ST3 := Lib.hid (ST.out.below hb3')
  have CQ := Lib.hid (fun W => implCipher key counter W)
  have CD := Lib.hid (fun W h => implDecrypt (cipherI key counter) (.slice (some ⟨b, off, none⟩) 20 c) (cell.take 20) W h (by rw [List.length_take]; omega) (HB.out.take 20))
  have hz3 : w.heap.size + 1 ≤ w3.heap.size := Nat.le_trans hz0 H3.out.size
  clear hb2 hb3 hb3' hok h1 h2
  go_wp2_with fail
  go_region_held3 (fun W' => BB (w.heap.size + 1) w3 W') (first | assumption | (repeat (first | exact BB.refl hz3 | refine BB.al ?_ _ | refine BB.drew ?_ | refine BB.seq ?_ hb4 | refine BB.seq ?_ hb5))) (first | (go_at_call 121; (refine (CQ.out _).mono ?_); rintro e w4 ⟨rfl, hb4⟩) | (go_at_call 124; (refine (CD.out _ (by first | exact ST3.out.below hb4 | exact (ST3.out.drew).below hb4 | exact (ST3.out.below hb4).drew)).mono ?_); rintro e w5 ⟨aod, Nd, capd, rfl, hod, hb5⟩))
  have H5 := Lib.hid (H3.out.trans (‹BB (w.heap.size + 1) w3 w5›.2))
  have hod' : Own .u8 5 (w.heap.size + 1) w5 aod Nd capd (innerI key counter cell) := Own.mono hod (by have := hb4.size; simp at *; omega)
  clear hod
  have hdl := innerI_length key counter (cell := cell) HN.out.symm
  obtain rfl : 20 = Nd := by rw [← hdl]; exact hod'.1
  have hdk := innerI_ok key counter cell
  have hcd := hod'.capMax
  unfold maxLen at hcd
  obtain ⟨gd, rfl⟩ : ∃ gd, aod = some ⟨gd, 0, none⟩ := by
    rcases hod'.shape with ⟨_, h, _⟩ | ⟨g, h, _⟩
    · omega
    · exact ⟨g, h⟩
  have c0 := hod'.cellAt (j := 0) (by omega)
  have c1 := hod'.cellAt (j := 1) (by omega)
  obtain ⟨y00, y01⟩ := hdk.getD 0
  obtain ⟨y10, y11⟩ := hdk.getD 1
  have HD := Lib.hid hod'
  clear hb4 hb5 hod' hdl hdk
  obtain ⟨y0, e0⟩ : ∃ y0, y0 = (innerI key counter cell).getD 0 0 := ⟨_, rfl⟩
  obtain ⟨y1, e1⟩ : ∃ y1 : Nat, (y1 : Int) = (innerI key counter cell).getD 1 0 := ⟨((innerI key counter cell).getD 1 0).toNat, by omega⟩
  rw [← e0] at c0 y00 y01
  rw [← e1] at c1 y10 y11
  have E0 := Lib.hid e0
  have E1 := Lib.hid e1
  clear e0 e1
  have hz5 : w.heap.size + 1 ≤ w5.heap.size := Nat.le_trans hz0 H5.out.size
  by_cases hy1 : y1 ≤ 14
  case neg =>
    have HV := Lib.hid (openI_bad (key := key) (counter := counter) (cell := cell) (.inr (by rw [← E1.out]; omega)))
    have hy1' : ¬ (y1 : Int) ≤ 14 := by omega
    have q0 := (H5.out.cell (p := ⟨w.heap.size, 0, none⟩) (Nat.lt_succ_self _)).trans P0.out
    have q1 := (H5.out.cell (p := ⟨w.heap.size, 1, none⟩) (Nat.lt_succ_self _)).trans P1.out
    have r0 := (H5.out.frozen (p := ⟨w.heap.size, 0, none⟩) (Nat.lt_succ_self _)).trans F0.out
    have r1 := (H5.out.frozen (p := ⟨w.heap.size, 1, none⟩) (Nat.lt_succ_self _)).trans F1.out
    have BF := Lib.hid (B0.out.trans (H5.out.mono (Nat.le_succ _)))
    go_wp2
    exact bodyPost_ret (v := .tuple #[.agg #[.int .i64 0, .slice none 0 0], .bool false]) (by simp [results, Try.results85, go_sem, *]) rfl (openPost_no HV.out (by repeat (first | exact Below.refl _ _ | refine bel_al ?_ _ | refine Below.setCell ?_ (by first | (simp; done) | (simp; omega)) _ | refine Below.drew ?_ | refine bel_drewN ?_ _ | refine bel_seq ?_ (BF.out))))
  case pos =>
  have hy1' : (y1 : Int) ≤ 14 := by omega
  have S2 := Lib.hid ((HD.out.tail (j := 2) (by omega)).take (j := y1) (by omega))
  have CL := Lib.hid (fun W h => cloneB (.slice (some ⟨gd, 2, none⟩) y1 (capd - 2)) (((innerI key counter cell).drop 2).take y1) W h (by rw [List.length_take]; omega))
  go_wp2
  have hcd1 : (2 : Int) + y1 ≤ capd := by omega
  have hcd2 : 2 + y1 ≤ capd := by omega
  have hcd3 : ¬ capd = 2 := by omega
  have hcd4 : (2 : Int) ≤ 2 + (y1 : Int) := by omega
  have hcd5 : (0 : Int) ≤ 2 + (y1 : Int) := by omega
  have hcd6 : 2 ≤ 2 + y1 := by omega
  have hw0 : IntKind.i64.wrap y0 = y0 := by rw [IntKind.wrap_i64]; omega
  have hw1 : IntKind.i64.wrap (y1 : Int) = y1 := by rw [IntKind.wrap_i64]; omega
  have hw2 : IntKind.i64.wrap (2 + (y1 : Int)) = 2 + y1 := by rw [IntKind.wrap_i64]; omega
  have hw3 : (2 + (y1 : Int)).toNat = 2 + y1 := by omega
  go_region_held3 (fun W' => W'.cell? ⟨gd, 0, none⟩ = some (.int .u8 y0) ∧ W'.cell? ⟨gd, 1, none⟩ = some (.int .u8 y1) ∧ Below w5.heap.size w5 W') (first | assumption | (refine keep2 ?_ c0 c1; repeat (first | exact Below.refl _ _ | refine bel_al ?_ _ | refine Below.drew ?_ | refine bel_seq ?_ hb6 | refine Below.setCell ?_ (by first | (simp; done) | (simp; omega) | omega) _))) (first | (go_at_call 125; (refine (CL.out _ (S2.out.below (by repeat (first | exact Below.refl _ _ | refine bel_al ?_ _ | refine Below.drew ?_)))).mono ?_); rintro e w6 ⟨aob, Nb, capb, rfl, hob, hb6⟩; obtain ⟨hc6, hf6⟩ := bcell hb6; have hz6' : w5.heap.size ≤ w6.heap.size := (by have := hb6.size; (try simp at this); omega); try (have hz6 : w5.heap.size < w6.heap.size := (by have := hb6.size; simp at this; omega))))
  · have k0 : (w6.alloc (.cells #[.int .i64 y0, .slice aob Nb capb] 100)).cell? ⟨w6.heap.size, 0, none⟩ = some (.int .i64 y0) := by simp [go_sem, *]
    have k1 : (w6.alloc (.cells #[.int .i64 y0, .slice aob Nb capb] 100)).cell? ⟨w6.heap.size, 1, none⟩ = some (.slice aob Nb capb) := by simp [go_sem, *]
    have hof : Own .u8 5 (w.heap.size + 1) (w6.alloc (.cells #[.int .i64 y0, .slice aob Nb capb] 100)) aob Nb capb (((innerI key counter cell).drop 2).take y1) := (hob.mono (by simp; omega)).alloc _
    have H6 := Lib.hid (H5.out.trans ((And.right (And.right ‹_ ∧ _ ∧ _›) : Below w5.heap.size w5 (w6.alloc (.cells #[.int .i64 y0, .slice aob Nb capb] 100))).mono hz5))
    have OF := Lib.hid hof
    generalize w6.alloc (.cells #[.int .i64 y0, .slice aob Nb capb] 100) = W6 at k0 k1 OF H6 ⊢
    have K0 := Lib.hid k0
    have K1 := Lib.hid k1
    clear hof hob hb6 hc6 hf6 hz6' c0 c1 hw0 hw1 hw2 hw3 hcd1 hcd2 hcd3
    by_cases h0 : y0 ≤ 3
    · have hp : plainOk y0 (((innerI key counter cell).drop 2).take y1) = true := by
        have h14 : (((innerI key counter cell).drop 2).take y1).length ≤ 14 := by rw [List.length_take]; omega
        unfold plainOk
        rw [decide_eq_true y00, decide_eq_true h0, decide_eq_true h14]; rfl
      have hv := openI_yes (key := key) (counter := counter) (cell := cell) HO.out (by rw [← E0.out]; exact h0) (by rw [← E1.out]; omega)
      rw [← E0.out, ← E1.out, Int.toNat_natCast] at hv
      have HV := Lib.hid hv
      have CP := Lib.hid (implIsPlainis _ hp W6 OF.out.sl)
      clear hv hp
      go_wp2_with fail
      refine CP.out.mono ?_
      rintro e w7 ⟨rfl, hb7⟩
      replace k0 := later0 hb7 K0.out
      replace k1 := later0 hb7 K1.out
      have H7 := Lib.hid (H6.out.trans (hb7.mono (Nat.le_trans hz0 H6.out.size)))
      have O7 := Lib.hid (OF.out.below hb7)
      clear hb7
      have q0 := (H7.out.cell (p := ⟨w.heap.size, 0, none⟩) (Nat.lt_succ_self _)).trans P0.out
      have q1 := (H7.out.cell (p := ⟨w.heap.size, 1, none⟩) (Nat.lt_succ_self _)).trans P1.out
      have r0 := (H7.out.frozen (p := ⟨w.heap.size, 0, none⟩) (Nat.lt_succ_self _)).trans F0.out
      have r1 := (H7.out.frozen (p := ⟨w.heap.size, 1, none⟩) (Nat.lt_succ_self _)).trans F1.out
      have BF := Lib.hid (B0.out.trans (H7.out.mono (Nat.le_succ _)))
      go_wp2
      refine bodyPost_ret (v := .tuple #[.agg #[.int .i64 y0, .slice aob Nb capb], .bool true]) (by simp [results, Try.results85, go_sem, *]) rfl ⟨aob, Nb, capb, by rw [HV.out], ?_, (by repeat (first | exact Below.refl _ _ | refine bel_al ?_ _ | refine Below.setCell ?_ (by first | (simp; done) | (simp; omega)) _ | refine Below.drew ?_ | refine bel_drewN ?_ _ | refine bel_seq ?_ (BF.out)))⟩
      rw [HV.out]
      exact ((O7.out.cells (Nat.lt_succ_self _) _).cells (Nat.lt_succ_self _) _).mono (Nat.le_succ _)
    · have hp : plainOk y0 (((innerI key counter cell).drop 2).take y1) = false := by unfold plainOk; rw [decide_eq_false h0]; simp
      have HV := Lib.hid (openI_bad (key := key) (counter := counter) (cell := cell) (.inl (by rw [← E0.out]; exact h0)))
      have CP := Lib.hid (implIsPlainis _ hp W6 OF.out.sl)
      clear hp
      go_wp2_with fail
      refine CP.out.mono ?_
      rintro e w7 ⟨rfl, hb7⟩
      have H7 := Lib.hid (H6.out.trans (hb7.mono (Nat.le_trans hz0 H6.out.size)))
      clear hb7
      have q0 := (H7.out.cell (p := ⟨w.heap.size, 0, none⟩) (Nat.lt_succ_self _)).trans P0.out
      have q1 := (H7.out.cell (p := ⟨w.heap.size, 1, none⟩) (Nat.lt_succ_self _)).trans P1.out
      have r0 := (H7.out.frozen (p := ⟨w.heap.size, 0, none⟩) (Nat.lt_succ_self _)).trans F0.out
      have r1 := (H7.out.frozen (p := ⟨w.heap.size, 1, none⟩) (Nat.lt_succ_self _)).trans F1.out
      have BF := Lib.hid (B0.out.trans (H7.out.mono (Nat.le_succ _)))
      go_wp2
      exact bodyPost_ret (v := .tuple #[.agg #[.int .i64 0, .slice none 0 0], .bool false]) (by simp [results, Try.results85, go_sem, *]) rfl (openPost_no HV.out (by repeat (first | exact Below.refl _ _ | refine bel_al ?_ _ | refine Below.setCell ?_ (by first | (simp; done) | (simp; omega)) _ | refine Below.drew ?_ | refine bel_drewN ?_ _ | refine bel_seq ?_ (BF.out))))
  · have k0 : ((w6.setCell ⟨w5.heap.size, 0, none⟩ (.int .i64 y0)).setCell ⟨w5.heap.size, 1, none⟩ (.slice aob Nb capb)).cell? ⟨w5.heap.size, 0, none⟩ = some (.int .i64 y0) := by simp [go_sem, *]
    have k1 : ((w6.setCell ⟨w5.heap.size, 0, none⟩ (.int .i64 y0)).setCell ⟨w5.heap.size, 1, none⟩ (.slice aob Nb capb)).cell? ⟨w5.heap.size, 1, none⟩ = some (.slice aob Nb capb) := by simp [go_sem, *]
    have hof : Own .u8 5 (w.heap.size + 1) ((w6.setCell ⟨w5.heap.size, 0, none⟩ (.int .i64 y0)).setCell ⟨w5.heap.size, 1, none⟩ (.slice aob Nb capb)) aob Nb capb (((innerI key counter cell).drop 2).take y1) := ((hob.cells (by simp) _).cells (by simp) _).mono (by simp; omega)
    have H6 := Lib.hid (H5.out.trans ((And.right (And.right ‹_ ∧ _ ∧ _›) : Below w5.heap.size w5 ((w6.setCell ⟨w5.heap.size, 0, none⟩ (.int .i64 y0)).setCell ⟨w5.heap.size, 1, none⟩ (.slice aob Nb capb))).mono hz5))
    have OF := Lib.hid hof
    generalize (w6.setCell ⟨w5.heap.size, 0, none⟩ (.int .i64 y0)).setCell ⟨w5.heap.size, 1, none⟩ (.slice aob Nb capb) = W6 at k0 k1 OF H6 ⊢
    have K0 := Lib.hid k0
    have K1 := Lib.hid k1
    clear hof hob hb6 hc6 hf6 hz6' c0 c1 hw0 hw1 hw2 hw3 hcd1 hcd2 hcd3
    by_cases h0 : y0 ≤ 3
    · have hp : plainOk y0 (((innerI key counter cell).drop 2).take y1) = true := by
        have h14 : (((innerI key counter cell).drop 2).take y1).length ≤ 14 := by rw [List.length_take]; omega
        unfold plainOk
        rw [decide_eq_true y00, decide_eq_true h0, decide_eq_true h14]; rfl
      have hv := openI_yes (key := key) (counter := counter) (cell := cell) HO.out (by rw [← E0.out]; exact h0) (by rw [← E1.out]; omega)
      rw [← E0.out, ← E1.out, Int.toNat_natCast] at hv
      have HV := Lib.hid hv
      have CP := Lib.hid (implIsPlainis _ hp W6 OF.out.sl)
      clear hv hp
      go_wp2_with fail
      refine CP.out.mono ?_
      rintro e w7 ⟨rfl, hb7⟩
      replace k0 := later0 hb7 K0.out
      replace k1 := later0 hb7 K1.out
      have H7 := Lib.hid (H6.out.trans (hb7.mono (Nat.le_trans hz0 H6.out.size)))
      have O7 := Lib.hid (OF.out.below hb7)
      clear hb7
      have q0 := (H7.out.cell (p := ⟨w.heap.size, 0, none⟩) (Nat.lt_succ_self _)).trans P0.out
      have q1 := (H7.out.cell (p := ⟨w.heap.size, 1, none⟩) (Nat.lt_succ_self _)).trans P1.out
      have r0 := (H7.out.frozen (p := ⟨w.heap.size, 0, none⟩) (Nat.lt_succ_self _)).trans F0.out
      have r1 := (H7.out.frozen (p := ⟨w.heap.size, 1, none⟩) (Nat.lt_succ_self _)).trans F1.out
      have BF := Lib.hid (B0.out.trans (H7.out.mono (Nat.le_succ _)))
      go_wp2
      refine bodyPost_ret (v := .tuple #[.agg #[.int .i64 y0, .slice aob Nb capb], .bool true]) (by simp [results, Try.results85, go_sem, *]) rfl ⟨aob, Nb, capb, by rw [HV.out], ?_, (by repeat (first | exact Below.refl _ _ | refine bel_al ?_ _ | refine Below.setCell ?_ (by first | (simp; done) | (simp; omega)) _ | refine Below.drew ?_ | refine bel_drewN ?_ _ | refine bel_seq ?_ (BF.out)))⟩
      rw [HV.out]
      exact ((O7.out.cells (Nat.lt_succ_self _) _).cells (Nat.lt_succ_self _) _).mono (Nat.le_succ _)
    · have hp : plainOk y0 (((innerI key counter cell).drop 2).take y1) = false := by unfold plainOk; rw [decide_eq_false h0]; simp
      have HV := Lib.hid (openI_bad (key := key) (counter := counter) (cell := cell) (.inl (by rw [← E0.out]; exact h0)))
      have CP := Lib.hid (implIsPlainis _ hp W6 OF.out.sl)
      clear hp
      go_wp2_with fail
      refine CP.out.mono ?_
      rintro e w7 ⟨rfl, hb7⟩
      have H7 := Lib.hid (H6.out.trans (hb7.mono (Nat.le_trans hz0 H6.out.size)))
      clear hb7
      have q0 := (H7.out.cell (p := ⟨w.heap.size, 0, none⟩) (Nat.lt_succ_self _)).trans P0.out
      have q1 := (H7.out.cell (p := ⟨w.heap.size, 1, none⟩) (Nat.lt_succ_self _)).trans P1.out
      have r0 := (H7.out.frozen (p := ⟨w.heap.size, 0, none⟩) (Nat.lt_succ_self _)).trans F0.out
      have r1 := (H7.out.frozen (p := ⟨w.heap.size, 1, none⟩) (Nat.lt_succ_self _)).trans F1.out
      have BF := Lib.hid (B0.out.trans (H7.out.mono (Nat.le_succ _)))
      go_wp2
      exact bodyPost_ret (v := .tuple #[.agg #[.int .i64 0, .slice none 0 0], .bool false]) (by simp [results, Try.results85, go_sem, *]) rfl (openPost_no HV.out (by repeat (first | exact Below.refl _ _ | refine bel_al ?_ _ | refine Below.setCell ?_ (by first | (simp; done) | (simp; omega)) _ | refine Below.drew ?_ | refine bel_drewN ?_ _ | refine bel_seq ?_ (BF.out))))
end Go.Proofs.Ytelcpihbdgikfaa
