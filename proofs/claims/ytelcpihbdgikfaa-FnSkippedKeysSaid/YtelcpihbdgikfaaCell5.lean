/- The walk of the reference's opening. -/
import Derived.Test.YtelcpihbdgikfaaProg
import Derived.Test.YtelcpihbdgikfaaCell4
namespace Go.Proofs.Ytelcpihbdgikfaa
open Go.RowKit

theorem or_add (a b i : Nat) (ha : a < 2 ^ i) (hb : b < 256) (hi : i ≤ 24) : bits .or .i64 (a : Int) ((b * 2 ^ i : Nat) : Int) = ((a + b * 2 ^ i : Nat) : Int) := by
  have h24 : 2 ^ i ≤ 2 ^ 24 := Nat.pow_le_pow_right (by decide) hi
  have hb2 : b * 2 ^ i < 2 ^ 33 := Nat.lt_of_le_of_lt (Nat.mul_le_mul (Nat.le_of_lt hb) h24) (by decide)
  rw [(bits_nat .i64 33 (by decide) (fun n h0 h1 => by rw [IntKind.wrap_i64]; have : (2 : Int) ^ 33 = 8589934592 := by decide
                                                       omega) a (b * 2 ^ i) (Nat.lt_of_lt_of_le ha (Nat.pow_le_pow_right (by decide) (by omega))) hb2).2]
  rw [Nat.or_comm, ← Nat.shiftLeft_eq, ← Nat.shiftLeft_add_eq_or_of_lt ha, Nat.add_comm]
theorem or_chain {x0 x1 x2 x3 : Int} (a0 : 0 ≤ x0) (b0 : x0 ≤ 255) (a1 : 0 ≤ x1) (b1 : x1 ≤ 255) (a2 : 0 ≤ x2) (b2 : x2 ≤ 255) (a3 : 0 ≤ x3) (b3 : x3 ≤ 255) :
    bits .or .i64 (bits .or .i64 (bits .or .i64 x0 (x1 * 256)) (x2 * 65536)) (x3 * 16777216) = x0 + x1 * 256 + x2 * 65536 + x3 * 16777216 := by
  obtain ⟨n0, rfl⟩ := Int.eq_ofNat_of_zero_le a0
  obtain ⟨n1, rfl⟩ := Int.eq_ofNat_of_zero_le a1
  obtain ⟨n2, rfl⟩ := Int.eq_ofNat_of_zero_le a2
  obtain ⟨n3, rfl⟩ := Int.eq_ofNat_of_zero_le a3
  have e1 := or_add n0 n1 8 (by omega) (by omega) (by omega)
  have e2 := or_add (n0 + n1 * 2 ^ 8) n2 16 (by omega) (by omega) (by omega)
  have e3 := or_add (n0 + n1 * 2 ^ 8 + n2 * 2 ^ 16) n3 24 (by omega) (by omega) (by omega)
  rw [show ((n1 : Int) * 256) = ((n1 * 2 ^ 8 : Nat) : Int) by simp, e1, show ((n2 : Int) * 65536) = ((n2 * 2 ^ 16 : Nat) : Int) by simp, e2, show ((n3 : Int) * 16777216) = ((n3 * 2 ^ 24 : Nat) : Int) by simp, e3]
  omega
theorem drop20 {cell : List Int} (h : cell.length = 24) : cell.drop 20 = [cell.getD 20 0, cell.getD 21 0, cell.getD 22 0, cell.getD 23 0] := by
  apply ext_getD
  · simp [h]
  · intro i hi
    rw [List.length_drop, h] at hi
    rcases (show i = 0 ∨ i = 1 ∨ i = 2 ∨ i = 3 by omega) with rfl | rfl | rfl | rfl <;> simp [List.getD]
/-- two cells, kept while all but one block grows -/
theorem keep2g {w W' : World} {row : Option Nat} {a0 a1 : Addr} {u0 u1 : Value} (h0 : w.cell? a0 = some u0) (h1 : w.cell? a1 = some u1) (n0 : some a0.block ≠ row) (n1 : some a1.block ≠ row) (hg : w.grownBy W' row) :
    W'.cell? a0 = some u0 ∧ W'.cell? a1 = some u1 ∧ w.grownBy W' row := ⟨hg.cell h0 n0, hg.cell h1 n1, hg⟩
theorem grown_set5 (w : World) (b o : Nat) (u : Value) : w.grownBy (w.setCell ⟨b, o, none⟩ u) (some b) := ⟨rfl, rfl, rfl, by simp [World.setCell], fun i _ hne => Below.heap_setCell _ _ _ _ (fun e => hne (by rw [e]))⟩
theorem grown_store {w w6 : World} {b : Nat} (h : w.grownBy w6 (some b)) (x y : Value) : w.grownBy ((w6.setCell ⟨b, 0, none⟩ x).setCell ⟨b, 1, none⟩ y) (some b) := grown_trans (grown_trans h (grown_set5 _ _ _ _)) (grown_set5 _ _ _ _)
theorem below_grown' {B : Nat} {w w' : World} (hb : Below B w w') (hB : w.heap.size ≤ B) (row : Option Nat) : w.grownBy w' row := below_grown (hb.mono hB) row
theorem four_iff {x0 x1 x2 x3 q : Int} (a0 : 0 ≤ x0) (b0 : x0 ≤ 255) (a1 : 0 ≤ x1) (b1 : x1 ≤ 255) (a2 : 0 ≤ x2) (b2 : x2 ≤ 255) (a3 : 0 ≤ x3) (b3 : x3 ≤ 255) (q0 : 0 ≤ q) (q1 : q < 2147483648) :
    ([x0, x1, x2, x3] == fourI q) = (x0 + x1 * 256 + x2 * 65536 + x3 * 16777216 == q) := by
  rw [Bool.eq_iff_iff, beq_iff_eq, beq_iff_eq]
  simp only [fourI, List.cons.injEq, and_true]
  constructor
  · intro h; omega
  · intro h; omega

set_option maxRecDepth 100000 in
set_option maxHeartbeats 1000000 in
theorem specOpen (key counter : Int) (v : Value) (cell : List Int) (w : World) (hs : Sl .u8 w v cell) (hby : bytesOk cell) : Calls Try.prog 84 #[.int .i64 key, .int .i64 counter, v] w (OpenPost (openI key counter cell) w) := by
  obtain ⟨a, c, rfl, hm⟩ := hs.shape
  have hcap := hs.cap
  obtain ⟨n, hn⟩ : ∃ n, n = cell.length := ⟨_, rfl⟩
  rw [← hn] at hs hm hcap ⊢
  have HN := Lib.hid hn
  have HB := Lib.hid hby
  have B0 := Lib.hid (bel_al (Below.refl w.heap.size w) (.cells #[.int .i64 0, .slice none 0 0] 100))
  have HS := Lib.hid (hs.alloc (.cells #[.int .i64 0, .slice none 0 0] 100))
  have hbx := box2 w (.int .i64 0) (.slice none 0 0) 100
  have P0 := Lib.hid hbx.1
  have P1 := Lib.hid hbx.2.1
  have F0 := Lib.hid (show (w.alloc (.cells #[.int .i64 0, .slice none 0 0] 100)).frozen? ⟨w.heap.size, 0, none⟩ = false by simp [go_sem])
  have F1 := Lib.hid (show (w.alloc (.cells #[.int .i64 0, .slice none 0 0] 100)).frozen? ⟨w.heap.size, 1, none⟩ = false by simp [go_sem])
  clear hn hby hs hbx
  cases h1 : keyB key with
  | false =>
    have HV := Lib.hid (openI_no (key := key) (counter := counter) (cell := cell) (by unfold openOk; rw [h1]; rfl))
    go_enter Try.func84, Try.ntmps84
    go_wp2_with (first | (go_at_call 68; (refine (specIsKeyis h1 _).mono ?_); rintro e w0 ⟨rfl, rfl⟩))
    exact bodyPost_ret (v := .tuple #[.agg #[.int .i64 0, .slice none 0 0], .bool false]) (by simp [results, Try.results84, go_sem, *]) rfl (openPost_no HV.out (by repeat (first | exact Below.refl _ _ | refine bel_al ?_ _ | refine Below.setCell ?_ (by first | (simp; done) | (simp; omega)) _ | refine Below.drew ?_ | refine bel_drewN ?_ _)))
  | true =>
  cases h2 : inR counter 0 1000000000000 with
  | false =>
    have HV := Lib.hid (openI_no (key := key) (counter := counter) (cell := cell) (by unfold openOk; rw [h2]; simp))
    go_enter Try.func84, Try.ntmps84
    go_wp2_with (first | (go_at_call 68; (refine (specIsKeyis h1 _).mono ?_); rintro e w0 ⟨rfl, rfl⟩) | (go_at_call 108; (refine (specInRis h2 _).mono ?_); rintro e w0 ⟨rfl, rfl⟩))
    exact bodyPost_ret (v := .tuple #[.agg #[.int .i64 0, .slice none 0 0], .bool false]) (by simp [results, Try.results84, go_sem, *]) rfl (openPost_no HV.out (by repeat (first | exact Below.refl _ _ | refine bel_al ?_ _ | refine Below.setCell ?_ (by first | (simp; done) | (simp; omega)) _ | refine Below.drew ?_ | refine bel_drewN ?_ _)))
  | true =>
  by_cases h3 : n = 24
  case neg =>
    have HV := Lib.hid (openI_no (key := key) (counter := counter) (cell := cell) (by unfold openOk; rw [decide_eq_false (by have := HN.out; omega)]; simp))
    have h3' : ((n : Int) != 24) = true := by rw [bne_iff_ne]; omega
    clear h3
    go_enter Try.func84, Try.ntmps84
    go_wp2_with (first | (go_at_call 68; (refine (specIsKeyis h1 _).mono ?_); rintro e w0 ⟨rfl, rfl⟩) | (go_at_call 108; (refine (specInRis h2 _).mono ?_); rintro e w0 ⟨rfl, rfl⟩))
    exact bodyPost_ret (v := .tuple #[.agg #[.int .i64 0, .slice none 0 0], .bool false]) (by simp [results, Try.results84, go_sem, *]) rfl (openPost_no HV.out (by repeat (first | exact Below.refl _ _ | refine bel_al ?_ _ | refine Below.setCell ?_ (by first | (simp; done) | (simp; omega)) _ | refine Below.drew ?_ | refine bel_drewN ?_ _)))
  case pos =>
  subst h3
  obtain ⟨b, off, rfl, hb, h4⟩ := HS.out.at (show 0 < 24 by omega)
  have ST := Lib.hid (HS.out.take (show 20 ≤ 24 by omega))
  have hc1 : ¬ c = 20 := by omega
  have hc2 : 24 ≤ c := hcap.1
  have hc3 : (24 : Int) ≤ c := by omega
  have hc4 : (20 : Int) ≤ c := by omega
  have hc5 : 20 ≤ c := by omega
  have hz0 : w.heap.size + 1 ≤ (w.alloc (.cells #[.int .i64 0, .slice none 0 0] 100)).heap.size := by simp
  have g0 := h4 20 (by omega)
  have g1 := h4 21 (by omega)
  have g2 := h4 22 (by omega)
  have g3 := h4 23 (by omega)
  obtain ⟨y00, y01⟩ := HB.out.getD 20
  obtain ⟨y10, y11⟩ := HB.out.getD 21
  obtain ⟨y20, y21⟩ := HB.out.getD 22
  obtain ⟨y30, y31⟩ := HB.out.getD 23
  obtain ⟨x0, e0⟩ : ∃ x, x = cell.getD 20 0 := ⟨_, rfl⟩
  obtain ⟨x1, e1⟩ : ∃ x, x = cell.getD 21 0 := ⟨_, rfl⟩
  obtain ⟨x2, e2⟩ : ∃ x, x = cell.getD 22 0 := ⟨_, rfl⟩
  obtain ⟨x3, e3⟩ : ∃ x, x = cell.getD 23 0 := ⟨_, rfl⟩
  rw [← e0] at g0 y00 y01
  rw [← e1] at g1 y10 y11
  rw [← e2] at g2 y20 y21
  rw [← e3] at g3 y30 y31
  have E0 := Lib.hid e0
  have E1 := Lib.hid e1
  have E2 := Lib.hid e2
  have E3 := Lib.hid e3
  clear h4 e0 e1 e2 e3
  go_enter Try.func84, Try.ntmps84
  go_wp2_with (first | (go_at_call 68; (refine (specIsKeyis h1 _).mono ?_); rintro e w0 ⟨rfl, rfl⟩) | (go_at_call 108; (refine (specInRis h2 _).mono ?_); rintro e w0 ⟨rfl, rfl⟩))
  have HK1 := Lib.hid h1
  have HK2 := Lib.hid h2
  clear h1 h2
  generalize w.alloc (.cells #[.int .i64 0, .slice none 0 0] 100) = W0 at B0 HS P0 P1 F0 F1 ST hb hz0 g0 g1 g2 g3 ⊢
  go_quiet (fail)
  rw [or_chain y00 y01 y10 y11 y20 y21 y30 y31]
  obtain ⟨X, eX⟩ : ∃ X, X = x0 + x1 * 256 + x2 * 65536 + x3 * 16777216 := ⟨_, rfl⟩
  rw [← eX]
  obtain ⟨k0, k1⟩ := checkI_bd key counter (cell.take 20)
  have CC := fun W h => specCheck key counter (.slice (some ⟨b, off, none⟩) 20 c) (cell.take 20) W h (by rw [List.length_take]; omega) (HB.out.take 20)
  obtain ⟨q, hq⟩ : ∃ q, q = checkI key counter (cell.take 20) := ⟨_, rfl⟩
  have hr : (cell.drop 20 == fourI (checkI key counter (cell.take 20))) = (X == q) := by
    rw [drop20 HN.out.symm, ← E0.out, ← E1.out, ← E2.out, ← E3.out, four_iff y00 y01 y10 y11 y20 y21 y30 y31 k0 (by omega), ← eX, ← hq]
  rw [← hq] at CC
  have CC := Lib.hid CC
  have HR := Lib.hid hr
  have ST1 := Lib.hid (ST.out.below (bel_drewN (Below.refl _ _) nq))
  have H1 : Hid (Below (w.heap.size + 1) W0 (W0.drewN nq)) := Lib.hid (by have := bel_drewN (Below.refl W0.heap.size W0) nq; exact this.mono hz0)
  clear hr eX hq g0 g1 g2 g3 y00 y01 y10 y11 y20 y21 y30 y31
  generalize W0.drewN nq = W1 at ST1 H1 ⊢
  have hz1 : w.heap.size + 1 ≤ W1.heap.size := Nat.le_trans hz0 H1.out.size
  cases hx : (X == q) with
  | false =>
    have hx' : (X != q) = true := by rw [bne, hx]; rfl
    have HV := Lib.hid (openI_no (key := key) (counter := counter) (cell := cell) (by unfold openOk; rw [HR.out, hx]; simp))
    go_wp2_with fail
    refine (CC.out _ ST1.out).mono ?_
    rintro e w2 ⟨rfl, hb2⟩
    have H2 := Lib.hid (H1.out.trans (hb2.mono hz1))
    clear hb2
    have q0 := (H2.out.cell (p := ⟨w.heap.size, 0, none⟩) (Nat.lt_succ_self _)).trans P0.out
    have q1 := (H2.out.cell (p := ⟨w.heap.size, 1, none⟩) (Nat.lt_succ_self _)).trans P1.out
    have r0 := (H2.out.frozen (p := ⟨w.heap.size, 0, none⟩) (Nat.lt_succ_self _)).trans F0.out
    have r1 := (H2.out.frozen (p := ⟨w.heap.size, 1, none⟩) (Nat.lt_succ_self _)).trans F1.out
    have BF := Lib.hid (B0.out.trans (H2.out.mono (Nat.le_succ _)))
    go_wp2
    exact bodyPost_ret (v := .tuple #[.agg #[.int .i64 0, .slice none 0 0], .bool false]) (by simp [results, Try.results84, go_sem, *]) rfl (openPost_no HV.out (by repeat (first | exact Below.refl _ _ | refine bel_al ?_ _ | refine Below.setCell ?_ (by first | (simp; done) | (simp; omega)) _ | refine Below.drew ?_ | refine bel_drewN ?_ _ | refine bel_seq ?_ (BF.out))))
  | true =>
    have hx' : (X != q) = false := by rw [bne, hx]; rfl
    have HO : Hid (openOk key counter cell = true) := Lib.hid (by unfold openOk; rw [HR.out, hx, HK1.out, HK2.out, decide_eq_true HN.out.symm]; rfl)
    go_wp2_with fail
    refine (CC.out _ ST1.out).mono ?_
    rintro e w3 ⟨rfl, hb2⟩
    have ST3 := Lib.hid (ST1.out.below hb2)
    have H3 := Lib.hid (H1.out.trans (hb2.mono hz1))
    clear hb2
    have CQ := Lib.hid (fun W => specCipher key counter W)
    have CD := Lib.hid (fun W h => specDecrypt (cipherI key counter) (.slice (some ⟨b, off, none⟩) 20 c) (cell.take 20) W h (by rw [List.length_take]; omega) (HB.out.take 20))
    have hz3 : w.heap.size + 1 ≤ w3.heap.size := Nat.le_trans hz0 H3.out.size
    go_wp2_with fail
    go_region_held3 (fun W' => BB (w.heap.size + 1) w3 W') (first | assumption | (repeat (first | exact BB.refl hz3 | refine BB.al ?_ _ | refine BB.drew ?_ | refine BB.seq ?_ hb4 | refine BB.seq ?_ hb5))) (first | (go_at_call 116; (refine (CQ.out _).mono ?_); rintro e w4 ⟨rfl, hb4⟩) | (go_at_call 123; (refine (CD.out _ (by first | exact ST3.out.below hb4 | exact (ST3.out.drew).below hb4 | exact (ST3.out.below hb4).drew)).mono ?_); rintro e w5 ⟨aod, Nd, capd, rfl, hod, hb5⟩))
    have H5 := Lib.hid (H3.out.trans (‹BB (w.heap.size + 1) w3 w5›.2))
    have hod' : Own .u8 5 (w.heap.size + 1) w5 aod Nd capd (innerI key counter cell) := Own.mono hod (by have := hb4.size; simp at *; omega)
    clear hod
    have hdl := innerI_length key counter (cell := cell) HN.out.symm
    obtain rfl : 20 = Nd := by rw [← hdl]; exact hod'.1
    have hdk := innerI_ok key counter cell
    have hcd := hod'.capMax
    unfold maxLen at hcd
    obtain ⟨gd, rfl⟩ : ∃ gd, aod = some ⟨gd, 0, none⟩ := by
      rcases hod'.shape with ⟨_, h, _⟩ | ⟨g, h, _⟩
      · omega
      · exact ⟨g, h⟩
    have c0 := hod'.cellAt (j := 0) (by omega)
    have c1 := hod'.cellAt (j := 1) (by omega)
    obtain ⟨y00, y01⟩ := hdk.getD 0
    obtain ⟨y10, y11⟩ := hdk.getD 1
    have HD := Lib.hid hod'
    clear hb4 hb5 hod' hdl hdk
    obtain ⟨y0, e0⟩ : ∃ y0, y0 = (innerI key counter cell).getD 0 0 := ⟨_, rfl⟩
    obtain ⟨y1, e1⟩ : ∃ y1 : Nat, (y1 : Int) = (innerI key counter cell).getD 1 0 := ⟨((innerI key counter cell).getD 1 0).toNat, by omega⟩
    rw [← e0] at c0 y00 y01
    rw [← e1] at c1 y10 y11
    have E0' := Lib.hid e0
    have E1' := Lib.hid e1
    clear e0 e1
    have hz5 : w.heap.size + 1 ≤ w5.heap.size := Nat.le_trans hz0 H5.out.size
    by_cases hy0 : y0 ≤ 3
    case neg =>
      have HV := Lib.hid (openI_bad (key := key) (counter := counter) (cell := cell) (.inl (by rw [← E0'.out]; exact hy0)))
      have q0 := (H5.out.cell (p := ⟨w.heap.size, 0, none⟩) (Nat.lt_succ_self _)).trans P0.out
      have q1 := (H5.out.cell (p := ⟨w.heap.size, 1, none⟩) (Nat.lt_succ_self _)).trans P1.out
      have r0 := (H5.out.frozen (p := ⟨w.heap.size, 0, none⟩) (Nat.lt_succ_self _)).trans F0.out
      have r1 := (H5.out.frozen (p := ⟨w.heap.size, 1, none⟩) (Nat.lt_succ_self _)).trans F1.out
      have BF := Lib.hid (B0.out.trans (H5.out.mono (Nat.le_succ _)))
      go_wp2
      exact bodyPost_ret (v := .tuple #[.agg #[.int .i64 0, .slice none 0 0], .bool false]) (by simp [results, Try.results84, go_sem, *]) rfl (openPost_no HV.out (by repeat (first | exact Below.refl _ _ | refine bel_al ?_ _ | refine Below.setCell ?_ (by first | (simp; done) | (simp; omega)) _ | refine Below.drew ?_ | refine bel_drewN ?_ _ | refine bel_seq ?_ (BF.out))))
    case pos =>
    by_cases hy1 : y1 ≤ 14
    case neg =>
      have HV := Lib.hid (openI_bad (key := key) (counter := counter) (cell := cell) (.inr (by rw [← E1'.out]; omega)))
      have hy1' : ¬ (y1 : Int) ≤ 14 := by omega
      have q0 := (H5.out.cell (p := ⟨w.heap.size, 0, none⟩) (Nat.lt_succ_self _)).trans P0.out
      have q1 := (H5.out.cell (p := ⟨w.heap.size, 1, none⟩) (Nat.lt_succ_self _)).trans P1.out
      have r0 := (H5.out.frozen (p := ⟨w.heap.size, 0, none⟩) (Nat.lt_succ_self _)).trans F0.out
      have r1 := (H5.out.frozen (p := ⟨w.heap.size, 1, none⟩) (Nat.lt_succ_self _)).trans F1.out
      have BF := Lib.hid (B0.out.trans (H5.out.mono (Nat.le_succ _)))
      go_wp2
      exact bodyPost_ret (v := .tuple #[.agg #[.int .i64 0, .slice none 0 0], .bool false]) (by simp [results, Try.results84, go_sem, *]) rfl (openPost_no HV.out (by repeat (first | exact Below.refl _ _ | refine bel_al ?_ _ | refine Below.setCell ?_ (by first | (simp; done) | (simp; omega)) _ | refine Below.drew ?_ | refine bel_drewN ?_ _ | refine bel_seq ?_ (BF.out))))
    case pos =>
    have hy1' : (y1 : Int) ≤ 14 := by omega
    have S2 := Lib.hid ((HD.out.tail (j := 2) (by omega)).take (j := y1) (by omega))
    have hln : 0 + (((innerI key counter cell).drop 2).take y1).length ≤ 1099511627776 := by rw [List.length_take]; omega
    have hzz : w.heap.size < w5.heap.size := by omega
    have hgd : some gd ≠ some w.heap.size := by have := HD.out.blk.1; simp; omega
    have q0 := (H5.out.cell (p := ⟨w.heap.size, 0, none⟩) (Nat.lt_succ_self _)).trans P0.out
    have q1 := (H5.out.cell (p := ⟨w.heap.size, 1, none⟩) (Nat.lt_succ_self _)).trans P1.out
    have r0 := (H5.out.frozen (p := ⟨w.heap.size, 0, none⟩) (Nat.lt_succ_self _)).trans F0.out
    have r1 := (H5.out.frozen (p := ⟨w.heap.size, 1, none⟩) (Nat.lt_succ_self _)).trans F1.out
    go_wp2
    have hcd1 : (2 : Int) + y1 ≤ capd := by omega
    have hcd2 : 2 + y1 ≤ capd := by omega
    have hcd3 : ¬ capd = 2 := by omega
    have hcd4 : (2 : Int) ≤ 2 + (y1 : Int) := by omega
    have hcd5 : (0 : Int) ≤ 2 + (y1 : Int) := by omega
    have hcd6 : 2 ≤ 2 + y1 := by omega
    have hw0 : IntKind.i64.wrap y0 = y0 := by rw [IntKind.wrap_i64]; omega
    have hw1 : IntKind.i64.wrap (y1 : Int) = y1 := by rw [IntKind.wrap_i64]; omega
    have hw2 : IntKind.i64.wrap (2 + (y1 : Int)) = 2 + y1 := by rw [IntKind.wrap_i64]; omega
    have hw3 : (2 + (y1 : Int)).toNat = 2 + y1 := by omega
    go_region_held3 (fun W' => W'.cell? ⟨gd, 0, none⟩ = some (.int .u8 y0) ∧ W'.cell? ⟨gd, 1, none⟩ = some (.int .u8 y1) ∧ w5.grownBy W' (some w.heap.size)) (first | assumption | (refine keep2g c0 c1 hgd hgd ?_; first | (refine grown_store ?_ _ _; refine below_grown ?_ _; repeat (first | exact Below.refl _ _ | refine bel_al ?_ _ | refine Below.drew ?_ | refine Below.trans ?_ hb6)) | (refine below_grown ?_ _; repeat (first | exact Below.refl _ _ | refine bel_al ?_ _ | refine Below.drew ?_ | refine Below.trans ?_ hb6)))) (first | (refine step_app rfl _ _ _ (by rfl) w5.heap.size 5 .u8 (.int .u8 0) 1 Try.underlying37 infoByteS rfl (by omega) _ _ _ [] (by rfl) (by first | exact Own.lit .u8 _ _ w5 [] (by simp [maxLen]) (Nat.le_refl _) | exact Own.lit .u8 _ _ w5.drew [] (by simp [maxLen]) (Nat.le_refl _) | exact (Own.lit .u8 _ _ w5 [] (by simp [maxLen]) (Nat.le_refl _)).drew) _ (((innerI key counter cell).drop 2).take y1) (by rfl) (S2.out.below (by repeat (first | exact Below.refl _ _ | refine bel_al ?_ _ | refine Below.drew ?_))) hln (by simp) ?_; intro aob Nb capb w6 hN1 hN2 hob hg6 hb6; have s0 : w6.cell? ⟨w.heap.size, 0, none⟩ = some (.int .i64 0) := (hb6.cell (p := ⟨w.heap.size, 0, none⟩) hzz).trans (by simp [go_sem, *]); have s1 : w6.cell? ⟨w.heap.size, 1, none⟩ = some (.slice none 0 0) := (hb6.cell (p := ⟨w.heap.size, 1, none⟩) hzz).trans (by simp [go_sem, *]); have t0 : w6.frozen? ⟨w.heap.size, 0, none⟩ = false := (hb6.frozen (p := ⟨w.heap.size, 0, none⟩) hzz).trans (by simp [go_sem, *]); have t1 : w6.frozen? ⟨w.heap.size, 1, none⟩ = false := (hb6.frozen (p := ⟨w.heap.size, 1, none⟩) hzz).trans (by simp [go_sem, *])))
    have hb56 : Below w5.heap.size w5 w6 := by repeat (first | exact Below.refl _ _ | refine bel_al ?_ _ | refine Below.drew ?_ | refine Below.trans ?_ hb6)
    have BF := Lib.hid ((B0.out.trans (H5.out.mono (Nat.le_succ _))).trans (hb56.mono (Nat.le_of_lt hzz)))
    rw [List.nil_append] at hob
    have OF := Lib.hid (((hob.cells (o := 0) hzz (.int .i64 y0)).cells (o := 1) hzz (.slice aob Nb capb)).mono (Nat.le_of_lt hzz))
    have hv := openI_yes (key := key) (counter := counter) (cell := cell) HO.out (by rw [← E0'.out]; exact hy0) (by rw [← E1'.out]; omega)
    rw [← E0'.out, ← E1'.out, Int.toNat_natCast] at hv
    have HV := Lib.hid hv
    clear hv hob hb56 hb6 hg6 hN1 hN2 hw0 hw1 hw2 hw3 hcd1 hcd2 hcd3 hcd4 hcd5 hcd6 c0 c1 q0 q1 r0 r1
    go_wp2
    refine bodyPost_ret (v := .tuple #[.agg #[.int .i64 y0, .slice aob Nb capb], .bool true]) (by simp [results, Try.results84, go_sem, *]) rfl ⟨aob, Nb, capb, by rw [HV.out], ?_, (by repeat (first | exact Below.refl _ _ | refine bel_al ?_ _ | refine Below.setCell ?_ (by first | (simp; done) | (simp; omega)) _ | refine Below.drew ?_ | refine bel_drewN ?_ _ | refine bel_seq ?_ (BF.out)))⟩
    rw [HV.out]
    exact OF.out
end Go.Proofs.Ytelcpihbdgikfaa
