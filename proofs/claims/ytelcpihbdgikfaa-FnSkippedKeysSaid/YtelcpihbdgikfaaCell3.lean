/- The walks of sealing. -/
import Derived.Test.YtelcpihbdgikfaaProg
import Derived.Test.YtelcpihbdgikfaaCell2
namespace Go.Proofs.Ytelcpihbdgikfaa
open Go.RowKit

theorem Sl.drop {k : IntKind} {w : World} {b off n c : Nat} {l : List Int} (h : Sl k w (.slice (some ⟨b, off, none⟩) n c) l) {j : Nat} (hj : j ≤ n) (hb : b < w.heap.size) : Sl k w (.slice (some ⟨b, off + j, none⟩) (n - j) (c - j)) (l.drop j) := by
  have hn := h.len
  have hl : (l.drop j).length = n - j := by rw [List.length_drop]; omega
  rcases h with ⟨h0, a, cap, hv, hc, hz⟩ | ⟨b', off', cap, hv, h1, h2, h3, h4⟩
  · simp only [Value.slice.injEq] at hv
    obtain ⟨hv1, hv2, rfl⟩ := hv
    obtain rfl : j = 0 := by omega
    subst h0
    exact .inl ⟨rfl, _, c, by rw [hv2]; rfl, hc, by simp⟩
  · simp only [Value.slice.injEq, Option.some.injEq, Addr.mk.injEq] at hv
    obtain ⟨⟨rfl, rfl, _⟩, hv2, rfl⟩ := hv
    refine .inr ⟨b, off + j, c - j, by rw [hl], by omega, by omega, hb, fun i hi => ?_⟩
    rw [hl] at hi
    rw [Nat.add_assoc, h4 (j + i) (by omega)]
    congr 2
    simp [List.getD]
theorem Own.tail {k : IntKind} {e : TypeId} {base : Nat} {w : World} {g N cap : Nat} {l : List Int} (h : Own k e base w (some ⟨g, 0, none⟩) N cap l) {j : Nat} (hj : j ≤ N) : Sl k w (.slice (some ⟨g, j, none⟩) (N - j) (cap - j)) (l.drop j) := by
  have := h.sl.drop hj h.blk.2
  rw [Nat.zero_add] at this
  exact this
/-- from block B on anything may have been turned; what lies below is as it was -/
def BB (B : Nat) (w W : World) : Prop := B ≤ w.heap.size ∧ Below B w W
theorem BB.refl {B : Nat} {w : World} (h : B ≤ w.heap.size) : BB B w w := ⟨h, Below.refl _ _⟩
theorem BB.al {B : Nat} {w W : World} (h : BB B w W) (o : Obj) : BB B w (W.alloc o) := ⟨h.1, h.2.alloc (Nat.le_trans h.1 h.2.size) o⟩
theorem BB.drew {B : Nat} {w W : World} (h : BB B w W) : BB B w W.drew := ⟨h.1, h.2.drew⟩
theorem BB.seq {B : Nat} {w W W' : World} (h : BB B w W) (k : Below W.heap.size W W') : BB B w W' := ⟨h.1, h.2.trans (k.mono (Nat.le_trans h.1 h.2.size))⟩
theorem BB.tr {B : Nat} {w W W' : World} (h : BB B w W) (k : Below B W W') : BB B w W' := ⟨h.1, h.2.trans k⟩
theorem BB.le {B : Nat} {w W : World} (h : BB B w W) : B ≤ W.heap.size := Nat.le_trans h.1 h.2.size
theorem keepBB {B : Nat} {w W' : World} {b o : Nat} {u : Value} (hb : b < B) (h : w.cell? ⟨b, o, none⟩ = some u) (hB : BB B w W') : W'.cell? ⟨b, o, none⟩ = some u ∧ BB B w W' :=
  ⟨(hB.2.cell (p := ⟨b, o, none⟩) hb).trans h, hB⟩
theorem ret_sb {v : Value} {a b : Bool} (h : a = b) : Ending.returned (.tuple #[v, .bool a]) = .returned (.tuple #[v, .bool b]) := by rw [h]
theorem sealI_no {key counter kind : Int} {body : List Int} (h : (keyOk key && countOk counter && plainOk kind body) = false) : sealI key counter kind body = ([], false) := by unfold sealI; rw [h]; rfl
theorem sealI_yes {key counter kind : Int} {body : List Int} (h : (keyOk key && countOk counter && plainOk kind body) = true) : sealI key counter kind body = (dataI key counter kind body ++ fourI (checkI key counter (dataI key counter kind body)), true) := by unfold sealI; rw [h]; rfl
theorem plainOk_bd {kind : Int} {body : List Int} (h : plainOk kind body = true) : 0 ≤ kind ∧ kind ≤ 3 ∧ body.length ≤ 14 := by
  simp only [plainOk, Bool.and_eq_true, decide_eq_true_eq] at h
  omega
theorem implIsPlainis {k : Int} {b : Bool} (v : Value) {l : List Int} (h : plainOk k l = b) (w : World) (hs : Sl .u8 w v l) : Calls Try.prog 118 #[.agg #[.int .i64 k, v]] w fun e w' => e = .returned (.bool b) ∧ Below w.heap.size w w' := by
  have := implIsPlain k v l w hs
  rw [h] at this
  exact this
theorem specIsPlainis {k : Int} {b : Bool} (v : Value) {l : List Int} (h : plainOk k l = b) (w : World) (hs : Sl .u8 w v l) : Calls Try.prog 113 #[.agg #[.int .i64 k, v]] w fun e w' => e = .returned (.bool b) ∧ Below w.heap.size w w' := by
  have := specIsPlain k v l w hs
  rw [h] at this
  exact this
theorem implStream18 (seed : Int) (w : World) : Calls Try.prog 119 #[.int .i64 seed, .int .i64 18] w fun e w' => ∃ g cap, e = .returned (.slice (some ⟨g, 0, none⟩) 18 cap) ∧ 18 ≤ cap ∧ cap ≤ 9223372036854775807 ∧ Own .u8 5 w.heap.size w' (some ⟨g, 0, none⟩) 18 cap (streamI seed 18) ∧ Below w.heap.size w w' := by
  refine (implStream seed 18 w (by omega)).mono ?_
  rintro e w' ⟨ao, N, cap, he, ho, hb⟩
  have hN : N = 18 := by have := ho.len; rw [streamI_length] at this; exact this
  subst hN
  have hc := ho.capMax
  unfold maxLen at hc
  rcases ho.shape with ⟨_, h, _⟩ | ⟨g, rfl, _⟩
  · omega
  · exact ⟨g, cap, he, by omega, by omega, ho, hb⟩
theorem specStream18 (seed : Int) (w : World) : Calls Try.prog 114 #[.int .i64 seed, .int .i64 18] w fun e w' => ∃ g cap, e = .returned (.slice (some ⟨g, 0, none⟩) 18 cap) ∧ 18 ≤ cap ∧ cap ≤ 9223372036854775807 ∧ Own .u8 5 w.heap.size w' (some ⟨g, 0, none⟩) 18 cap (streamI seed 18) ∧ Below w.heap.size w w' := by
  refine (specStream seed 18 w (by omega)).mono ?_
  rintro e w' ⟨ao, N, cap, he, ho, hb⟩
  have hN : N = 18 := by have := ho.len; rw [streamI_length] at this; exact this
  subst hN
  have hc := ho.capMax
  unfold maxLen at hc
  rcases ho.shape with ⟨_, h, _⟩ | ⟨g, rfl, _⟩
  · omega
  · exact ⟨g, cap, he, by omega, by omega, ho, hb⟩
set_option maxRecDepth 100000 in
theorem implSeal (key counter kind : Int) (v : Value) (body : List Int) (w : World) (hs : Sl .u8 w v body) (hby : bytesOk body) : Calls Try.prog 83 #[.int .i64 key, .int .i64 counter, .agg #[.int .i64 kind, v]] w fun e w' => ∃ ao N cap, e = .returned (.tuple #[.slice ao N cap, .bool (sealI key counter kind body).2]) ∧ Own .u8 5 w.heap.size w' ao N cap (sealI key counter kind body).1 ∧ Below w.heap.size w w' := by
  obtain ⟨a, c, rfl, hm⟩ := hs.shape
  obtain ⟨n, hn⟩ : ∃ n, n = body.length := ⟨_, rfl⟩
  rw [← hn] at hs hm ⊢
  have HN := Lib.hid hn
  have HB := Lib.hid hby
  have HS := Lib.hid (hs.alloc (.cells #[.int .i64 kind, .slice a n c] 100))
  clear hn hby hs
  cases h1 : keyB key with
  | false =>
    have HV := Lib.hid (sealI_no (key := key) (counter := counter) (kind := kind) (body := body) (by rw [keyOk_keyB, h1]; rfl))
    go_enter Try.func83, Try.ntmps83
    go_wp2_with (first | (go_at_call 63; (refine (implIsKeyis h1 _).mono ?_); rintro e w0 ⟨rfl, rfl⟩))
    go_ret2
    exact ⟨_, _, _, ret_sb (by rw [HV.out]), by rw [HV.out]; exact Own.nil _ _ _ _, (by repeat (first | exact Below.refl _ _ | refine bel_al ?_ _ | refine Below.setCell ?_ (by first | (simp; done) | (simp; omega)) _ | refine Below.drew ?_ | refine bel_drewN ?_ _))⟩
  | true =>
  cases h2 : inR counter 0 1000000000000 with
  | false =>
    have HV := Lib.hid (sealI_no (key := key) (counter := counter) (kind := kind) (body := body) (by rw [countOk_inR, h2]; simp))
    go_enter Try.func83, Try.ntmps83
    go_wp2_with (first | (go_at_call 63; (refine (implIsKeyis h1 _).mono ?_); rintro e w0 ⟨rfl, rfl⟩) | (go_at_call 94; (refine (implInRis h2 _).mono ?_); rintro e w0 ⟨rfl, rfl⟩))
    go_ret2
    exact ⟨_, _, _, ret_sb (by rw [HV.out]), by rw [HV.out]; exact Own.nil _ _ _ _, (by repeat (first | exact Below.refl _ _ | refine bel_al ?_ _ | refine Below.setCell ?_ (by first | (simp; done) | (simp; omega)) _ | refine Below.drew ?_ | refine bel_drewN ?_ _))⟩
  | true =>
  cases h3 : plainOk kind body with
  | false =>
    have HV := Lib.hid (sealI_no (key := key) (counter := counter) (kind := kind) (body := body) (by rw [h3]; simp))
    go_enter Try.func83, Try.ntmps83
    go_wp2_with (first | (go_at_call 63; (refine (implIsKeyis h1 _).mono ?_); rintro e w0 ⟨rfl, rfl⟩) | (go_at_call 94; (refine (implInRis h2 _).mono ?_); rintro e w0 ⟨rfl, rfl⟩) | (go_at_call 118; (refine (implIsPlainis _ h3 _ HS.out).mono ?_); rintro e w1 ⟨rfl, hb1⟩))
    go_ret2
    exact ⟨_, _, _, ret_sb (by rw [HV.out]), by rw [HV.out]; exact Own.nil _ _ _ _, (by repeat (first | exact Below.refl _ _ | refine bel_al ?_ _ | refine Below.setCell ?_ (by first | (simp; done) | (simp; omega)) _ | refine Below.drew ?_ | refine bel_drewN ?_ _ | refine bel_seq ?_ (hb1)))⟩
  | true =>
    have HV := Lib.hid (sealI_yes (key := key) (counter := counter) (kind := kind) (body := body) (by rw [keyOk_keyB, countOk_inR, h1, h2, h3]; rfl))
    obtain ⟨k0, k1, hl⟩ := plainOk_bd h3
    rw [← HN.out] at hl
    go_enter Try.func83, Try.ntmps83
    go_wp2_with (first | (go_at_call 63; (refine (implIsKeyis h1 _).mono ?_); rintro e w0 ⟨rfl, rfl⟩) | (go_at_call 94; (refine (implInRis h2 _).mono ?_); rintro e w0 ⟨rfl, rfl⟩))
    refine (implIsPlainis _ h3 _ HS.out).mono ?_
    rintro e w1 ⟨rfl, hb1⟩
    have p0 : w1.cell? ⟨w.heap.size, 0, none⟩ = some (.int .i64 kind) := later0 hb1 (by simp)
    have p1 : w1.cell? ⟨w.heap.size, 1, none⟩ = some (.slice a n c) := later0 hb1 (by simp)
    have B1 := Lib.hid (bel_seq (bel_al (Below.refl _ _) _) hb1)
    have hz1 : w.heap.size ≤ w1.heap.size := B1.out.size
    have hzw : w.heap.size < w1.heap.size := World.block_lt_of_cell? w1 _ p0
    have S1 := Lib.hid ((HS.out.below hb1).alloc (.cells #[.int .u8 kind, .int .u8 n] 5))
    have O1 := Lib.hid ((Own.lit .u8 5 w1.heap.size w1 [kind, (n : Int)] (by simp [maxLen]) (Nat.le_refl _)).mono hzw)
    have hl1 : 2 + body.length ≤ 1099511627776 := by have := HN.out; omega
    have hz1' : w.heap.size + 1 ≤ (w1.alloc (.cells #[.int .u8 kind, .int .u8 n] 5)).heap.size := by simp; omega
    clear hb1 h1 h2 h3
    go_wp2_with (at_builtin; refine wpList_app rfl _ _ _ rfl (w.heap.size + 1) 5 .u8 (.int .u8 0) 1 Try.underlying37 infoByteS rfl (by omega) _ _ _ _ rfl O1.out _ _ rfl S1.out hl1 hz1' ?_; intro ao N cap w2 hN1 hN2 hown2 hg2 hb2)
    have p1' : w2.cell? ⟨w.heap.size, 1, none⟩ = some (.slice a n c) := (hb2.cell (p := ⟨w.heap.size, 1, none⟩) (Nat.lt_succ_self _)).trans (by simp [go_sem, *])
    have hzw2 : w.heap.size + 1 ≤ w2.heap.size := World.block_lt_of_cell? w2 _ p1'
    have B2 := Lib.hid ((bel_al B1.out (.cells #[.int .u8 kind, .int .u8 n] 5)).trans (hb2.mono (Nat.le_succ _)))
    have hz2 := B2.out.size
    have O2 := Lib.hid hown2
    have CK := fun b n c W (h : Sl .i64 W (.slice (some ⟨b, 0, none⟩) n c) [61, counter]) => implKeyedHash key _ _ W h (by simp)
    obtain ⟨s, hs⟩ : ∃ s, s = keyedI key [61, counter] := ⟨_, rfl⟩
    rw [← hs] at CK
    have CK := Lib.hid CK
    have HSE := Lib.hid hs
    have CS := Lib.hid (fun W => implStream18 s W)
    have hl2 : N + ((streamI s 18).drop n).length ≤ 1099511627776 := by rw [List.length_drop, streamI_length]; have := HN.out; omega
    clear hown2 hg2 hb2 hs p0 p1 S1 O1 hl1 hz1' hN1 hN2 hzw hz1
    go_region_held3 (fun W' => W'.cell? ⟨w.heap.size, 1, none⟩ = some (.slice a n c) ∧ BB (w.heap.size + 1) w2 W') (first | assumption | (refine keepBB (Nat.lt_succ_self _) p1' ?_; repeat (first | exact BB.refl hzw2 | refine BB.al ?_ _ | refine BB.drew ?_ | refine BB.seq ?_ hb3 | refine BB.seq ?_ hb4 | refine BB.tr ?_ hb5))) (first | (go_at_call 96; (refine (CK.out _ _ _ _ (by first | exact Sl.lit .i64 _ _ [61, counter] (by simp [maxLen]) | exact (Sl.lit .i64 _ _ [61, counter] (by simp [maxLen])).drew)).mono ?_); rintro e w3 ⟨rfl, hb3⟩) | (go_at_call 119; (refine (CS.out _).mono ?_); rintro e w4 ⟨gs, caps, rfl, hcs1, hcs2, hos, hb4⟩; have hvs : Sl .u8 w4 (.slice (if caps = n then some ⟨gs, 0, none⟩ else some ⟨gs, n, none⟩) (18 - n) (caps - n)) ((streamI s 18).drop n) := (by rw [if_neg (by omega)]; exact hos.tail (by omega)); have hvt := hos.tail (j := n) (by omega); have hcs3 : (n : Int) ≤ (caps : Int) := (by omega); have hcs4 : ¬ n = caps := (by omega); have hcs5 : (n : Int) ≤ 18 := (by omega)) | (refine step_app rfl _ _ _ (by rfl) (w.heap.size + 1) 5 .u8 (.int .u8 0) 1 Try.underlying37 infoByteS rfl (by omega) _ _ _ _ (by rfl) (O2.out.below (by repeat (first | exact Below.refl _ _ | refine bel_al ?_ _ | refine Below.drew ?_ | refine bel_seq ?_ hb3 | refine bel_seq ?_ hb4))) _ ((streamI s 18).drop n) (by rfl) (by first | exact hvs | exact hvt | exact hvs.drew | exact hvt.drew) hl2 (by have := hb3.size; have := hb4.size; simp at *; omega) ?_; intro ao' N' cap' w5 hN1 hN2 hown5 hg5 hb5))
    have hB5 := (And.right ‹_› : BB (w.heap.size + 1) w2 w5)
    have B5 := Lib.hid (B2.out.trans (hB5.2.mono (Nat.le_succ _)))
    have hpl : [kind, (n : Int)] ++ body ++ (streamI s 18).drop n = plainI key counter kind body := by unfold plainI; rw [← HN.out, ← HSE.out]
    rw [hpl] at hown5
    have hlen := plainI_length key counter kind (body := body) (by have := HN.out; omega)
    have hok := plainI_ok key counter k0 k1 (by have := HN.out; omega) HB.out
    have CQ := Lib.hid (fun W => implCipher key counter W)
    have SP := Lib.hid (hown5.mono (Nat.le_succ _)).sl
    have hcn : ¬ caps = n := by omega
    have HOK := Lib.hid hok
    have HLEN := Lib.hid hlen
    clear hown5 hg5 hb5 hN1 hN2 hpl hB5 hb3 hb4 hos hcs1 hcs2 hcs3 hcs4 hcs5 hvs hvt hok hlen
    go_wp2_with fail
    refine (CQ.out _).mono ?_
    rintro e w6 ⟨rfl, hb6⟩
    have SP6 := Lib.hid (SP.out.below hb6)
    have B6 := Lib.hid (B5.out.trans (hb6.mono B5.out.size))
    clear hb6
    go_wp2_with fail
    refine (implEncrypt _ _ (plainI key counter kind body) _ SP6.out (by have := HLEN.out; omega) HOK.out).mono ?_
    rintro e w7 ⟨aod, Nd, capd, rfl, hod, hb7⟩
    have hdok := encI_ok (cipherI key counter) (plainI key counter kind body)
    have hod' : Own .u8 5 w6.heap.size w7 aod Nd capd (dataI key counter kind body) := hod
    have HDOK : Hid (bytesOk (dataI key counter kind body)) := Lib.hid hdok
    have hdl := dataI_length key counter kind (body := body) (by have := HN.out; omega)
    have hNd := hod'.len
    have HD := Lib.hid (hod'.mono B6.out.size)
    have B7 := Lib.hid (B6.out.trans (hb7.mono B6.out.size))
    have HDL := Lib.hid hdl
    have hl3 : Nd + (fourI (checkI key counter (dataI key counter kind body))).length ≤ 1099511627776 := by rw [fourI_length]; omega
    clear hod hod' hdok hdl hNd hb7
    go_wp2_with fail
    refine (implCheckBytes key counter _ (dataI key counter kind body) _ HD.out.sl (by have := HDL.out; omega) HDOK.out).mono ?_
    rintro e w8 ⟨gk, rfl, hok8, hb8⟩
    have O8 := Lib.hid (HD.out.below hb8)
    have S8 := Lib.hid hok8.sl
    have B8 := Lib.hid (B7.out.trans (hb8.mono B7.out.size))
    have hz8 := B8.out.size
    clear hok8 hb8
    go_wp2_with (at_builtin; refine wpList_app rfl _ _ _ rfl w.heap.size 5 .u8 (.int .u8 0) 1 Try.underlying37 infoByteS rfl (by omega) _ _ _ _ rfl O8.out _ _ rfl S8.out hl3 hz8 ?_; intro ao9 N9 cap9 w9 hN1 hN2 hown9 hg9 hb9)
    have O9 := Lib.hid hown9
    have B9 := Lib.hid (B8.out.trans hb9)
    clear hown9 hg9 hb9 hN1 hN2
    go_ret2
    exact ⟨_, _, _, ret_sb (by rw [HV.out]), by rw [HV.out]; exact O9.out, B9.out⟩
set_option maxRecDepth 100000 in
theorem specSeal (key counter kind : Int) (v : Value) (body : List Int) (w : World) (hs : Sl .u8 w v body) (hby : bytesOk body) : Calls Try.prog 82 #[.int .i64 key, .int .i64 counter, .agg #[.int .i64 kind, v]] w fun e w' => ∃ ao N cap, e = .returned (.tuple #[.slice ao N cap, .bool (sealI key counter kind body).2]) ∧ Own .u8 5 w.heap.size w' ao N cap (sealI key counter kind body).1 ∧ Below w.heap.size w w' := by
  obtain ⟨a, c, rfl, hm⟩ := hs.shape
  obtain ⟨n, hn⟩ : ∃ n, n = body.length := ⟨_, rfl⟩
  rw [← hn] at hs hm ⊢
  have HN := Lib.hid hn
  have HB := Lib.hid hby
  have HS := Lib.hid (hs.alloc (.cells #[.int .i64 kind, .slice a n c] 100))
  have ol := Own.lit .u8 5 w.heap.size (w.alloc (.cells #[.int .i64 kind, .slice a n c] 100)) [] (by simp [maxLen]) (by simp)
  rw [World.size_alloc] at ol
  have OL := Lib.hid ol
  clear hn hby hs ol
  cases h1 : keyB key with
  | false =>
    have HV := Lib.hid (sealI_no (key := key) (counter := counter) (kind := kind) (body := body) (by rw [keyOk_keyB, h1]; rfl))
    go_enter Try.func82, Try.ntmps82
    go_wp2_with (first | (go_at_call 68; (refine (specIsKeyis h1 _).mono ?_); rintro e w0 ⟨rfl, rfl⟩))
    go_ret2
    exact ⟨_, _, _, ret_sb (by rw [HV.out]), by rw [HV.out]; exact OL.out, (by repeat (first | exact Below.refl _ _ | refine bel_al ?_ _ | refine Below.setCell ?_ (by first | (simp; done) | (simp; omega)) _ | refine Below.drew ?_ | refine bel_drewN ?_ _))⟩
  | true =>
  cases h2 : inR counter 0 1000000000000 with
  | false =>
    have HV := Lib.hid (sealI_no (key := key) (counter := counter) (kind := kind) (body := body) (by rw [countOk_inR, h2]; simp))
    go_enter Try.func82, Try.ntmps82
    go_wp2_with (first | (go_at_call 68; (refine (specIsKeyis h1 _).mono ?_); rintro e w0 ⟨rfl, rfl⟩) | (go_at_call 108; (refine (specInRis h2 _).mono ?_); rintro e w0 ⟨rfl, rfl⟩))
    go_ret2
    exact ⟨_, _, _, ret_sb (by rw [HV.out]), by rw [HV.out]; exact OL.out, (by repeat (first | exact Below.refl _ _ | refine bel_al ?_ _ | refine Below.setCell ?_ (by first | (simp; done) | (simp; omega)) _ | refine Below.drew ?_ | refine bel_drewN ?_ _))⟩
  | true =>
  cases h3 : plainOk kind body with
  | false =>
    have HV := Lib.hid (sealI_no (key := key) (counter := counter) (kind := kind) (body := body) (by rw [h3]; simp))
    go_enter Try.func82, Try.ntmps82
    go_wp2_with (first | (go_at_call 68; (refine (specIsKeyis h1 _).mono ?_); rintro e w0 ⟨rfl, rfl⟩) | (go_at_call 108; (refine (specInRis h2 _).mono ?_); rintro e w0 ⟨rfl, rfl⟩) | (go_at_call 113; (refine (specIsPlainis _ h3 _ HS.out).mono ?_); rintro e w1 ⟨rfl, hb1⟩))
    go_ret2
    exact ⟨_, _, _, ret_sb (by rw [HV.out]), by rw [HV.out]; exact Own.lit .u8 _ _ _ [] (by simp [maxLen]) (by have := hb1.size; simp at this; omega), (by repeat (first | exact Below.refl _ _ | refine bel_al ?_ _ | refine Below.setCell ?_ (by first | (simp; done) | (simp; omega)) _ | refine Below.drew ?_ | refine bel_drewN ?_ _ | refine bel_seq ?_ (hb1)))⟩
  | true =>
    have HV := Lib.hid (sealI_yes (key := key) (counter := counter) (kind := kind) (body := body) (by rw [keyOk_keyB, countOk_inR, h1, h2, h3]; rfl))
    obtain ⟨k0, k1, hl⟩ := plainOk_bd h3
    rw [← HN.out] at hl
    go_enter Try.func82, Try.ntmps82
    go_wp2_with (first | (go_at_call 68; (refine (specIsKeyis h1 _).mono ?_); rintro e w0 ⟨rfl, rfl⟩) | (go_at_call 108; (refine (specInRis h2 _).mono ?_); rintro e w0 ⟨rfl, rfl⟩))
    refine (specIsPlainis _ h3 _ HS.out).mono ?_
    rintro e w1 ⟨rfl, hb1⟩
    have p0 : w1.cell? ⟨w.heap.size, 0, none⟩ = some (.int .i64 kind) := later0 hb1 (by simp)
    have p1 : w1.cell? ⟨w.heap.size, 1, none⟩ = some (.slice a n c) := later0 hb1 (by simp)
    have B1 := Lib.hid (bel_seq (bel_al (Below.refl _ _) _) hb1)
    have hz1 : w.heap.size ≤ w1.heap.size := B1.out.size
    have hzw : w.heap.size < w1.heap.size := World.block_lt_of_cell? w1 _ p0
    have S1 := Lib.hid ((HS.out.below hb1).alloc (.cells #[.int .u8 kind, .int .u8 n] 5))
    have O1 := Lib.hid ((Own.lit .u8 5 w1.heap.size w1 [kind, (n : Int)] (by simp [maxLen]) (Nat.le_refl _)).mono hzw)
    have hl1 : 2 + body.length ≤ 1099511627776 := by have := HN.out; omega
    have hz1' : w.heap.size + 1 ≤ (w1.alloc (.cells #[.int .u8 kind, .int .u8 n] 5)).heap.size := by simp; omega
    clear hb1 h1 h2 h3
    go_wp2_with (at_builtin; refine wpList_app rfl _ _ _ rfl (w.heap.size + 1) 5 .u8 (.int .u8 0) 1 Try.underlying37 infoByteS rfl (by omega) _ _ _ _ rfl O1.out _ _ rfl S1.out hl1 hz1' ?_; intro ao N cap w2 hN1 hN2 hown2 hg2 hb2)
    have p1' : w2.cell? ⟨w.heap.size, 1, none⟩ = some (.slice a n c) := (hb2.cell (p := ⟨w.heap.size, 1, none⟩) (Nat.lt_succ_self _)).trans (by simp [go_sem, *])
    have hzw2 : w.heap.size + 1 ≤ w2.heap.size := World.block_lt_of_cell? w2 _ p1'
    have B2 := Lib.hid ((bel_al B1.out (.cells #[.int .u8 kind, .int .u8 n] 5)).trans (hb2.mono (Nat.le_succ _)))
    have hz2 := B2.out.size
    have O2 := Lib.hid hown2
    have CK := fun b n c W (h : Sl .i64 W (.slice (some ⟨b, 0, none⟩) n c) [61, counter]) => specKeyedHash key _ _ W h (by simp)
    obtain ⟨s, hs⟩ : ∃ s, s = keyedI key [61, counter] := ⟨_, rfl⟩
    rw [← hs] at CK
    have CK := Lib.hid CK
    have HSE := Lib.hid hs
    have CS := Lib.hid (fun W => specStream18 s W)
    have hl2 : N + ((streamI s 18).drop n).length ≤ 1099511627776 := by rw [List.length_drop, streamI_length]; have := HN.out; omega
    clear hown2 hg2 hb2 hs p0 p1 S1 O1 hl1 hz1' hN1 hN2 hzw hz1
    go_region_held3 (fun W' => W'.cell? ⟨w.heap.size, 1, none⟩ = some (.slice a n c) ∧ BB (w.heap.size + 1) w2 W') (first | assumption | (refine keepBB (Nat.lt_succ_self _) p1' ?_; repeat (first | exact BB.refl hzw2 | refine BB.al ?_ _ | refine BB.drew ?_ | refine BB.seq ?_ hb3 | refine BB.seq ?_ hb4 | refine BB.tr ?_ hb5))) (first | (go_at_call 110; (refine (CK.out _ _ _ _ (by first | exact Sl.lit .i64 _ _ [61, counter] (by simp [maxLen]) | exact (Sl.lit .i64 _ _ [61, counter] (by simp [maxLen])).drew)).mono ?_); rintro e w3 ⟨rfl, hb3⟩) | (go_at_call 114; (refine (CS.out _).mono ?_); rintro e w4 ⟨gs, caps, rfl, hcs1, hcs2, hos, hb4⟩; have hvs : Sl .u8 w4 (.slice (if caps = n then some ⟨gs, 0, none⟩ else some ⟨gs, n, none⟩) (18 - n) (caps - n)) ((streamI s 18).drop n) := (by rw [if_neg (by omega)]; exact hos.tail (by omega)); have hvt := hos.tail (j := n) (by omega); have hcs3 : (n : Int) ≤ (caps : Int) := (by omega); have hcs4 : ¬ n = caps := (by omega); have hcs5 : (n : Int) ≤ 18 := (by omega)) | (refine step_app rfl _ _ _ (by rfl) (w.heap.size + 1) 5 .u8 (.int .u8 0) 1 Try.underlying37 infoByteS rfl (by omega) _ _ _ _ (by rfl) (O2.out.below (by repeat (first | exact Below.refl _ _ | refine bel_al ?_ _ | refine Below.drew ?_ | refine bel_seq ?_ hb3 | refine bel_seq ?_ hb4))) _ ((streamI s 18).drop n) (by rfl) (by first | exact hvs | exact hvt | exact hvs.drew | exact hvt.drew) hl2 (by have := hb3.size; have := hb4.size; simp at *; omega) ?_; intro ao' N' cap' w5 hN1 hN2 hown5 hg5 hb5))
    have hB5 := (And.right ‹_› : BB (w.heap.size + 1) w2 w5)
    have B5 := Lib.hid (B2.out.trans (hB5.2.mono (Nat.le_succ _)))
    have hpl : [kind, (n : Int)] ++ body ++ (streamI s 18).drop n = plainI key counter kind body := by unfold plainI; rw [← HN.out, ← HSE.out]
    rw [hpl] at hown5
    have hlen := plainI_length key counter kind (body := body) (by have := HN.out; omega)
    have hok := plainI_ok key counter k0 k1 (by have := HN.out; omega) HB.out
    have CQ := Lib.hid (fun W => specCipher key counter W)
    have SP := Lib.hid (hown5.mono (Nat.le_succ _)).sl
    have hcn : ¬ caps = n := by omega
    have HOK := Lib.hid hok
    have HLEN := Lib.hid hlen
    clear hown5 hg5 hb5 hN1 hN2 hpl hB5 hb3 hb4 hos hcs1 hcs2 hcs3 hcs4 hcs5 hvs hvt hok hlen
    go_wp2_with fail
    refine (CQ.out _).mono ?_
    rintro e w6 ⟨rfl, hb6⟩
    have SP6 := Lib.hid (SP.out.below hb6)
    have B6 := Lib.hid (B5.out.trans (hb6.mono B5.out.size))
    clear hb6
    go_wp2_with fail
    refine (specEncrypt _ _ (plainI key counter kind body) _ SP6.out (by have := HLEN.out; omega) HOK.out).mono ?_
    rintro e w7 ⟨aod, Nd, capd, rfl, hod, hb7⟩
    have hdok := encI_ok (cipherI key counter) (plainI key counter kind body)
    have hod' : Own .u8 5 w6.heap.size w7 aod Nd capd (dataI key counter kind body) := hod
    have HDOK : Hid (bytesOk (dataI key counter kind body)) := Lib.hid hdok
    have hdl := dataI_length key counter kind (body := body) (by have := HN.out; omega)
    have hNd := hod'.len
    have HD := Lib.hid (hod'.mono B6.out.size)
    have B7 := Lib.hid (B6.out.trans (hb7.mono B6.out.size))
    have HDL := Lib.hid hdl
    have CC := fun W (h : Sl .u8 W (.slice aod Nd capd) (dataI key counter kind body)) => specCheck key counter _ _ W h (by omega) HDOK.out
    obtain ⟨x, hx⟩ : ∃ x, x = checkI key counter (dataI key counter kind body) := ⟨_, rfl⟩
    obtain ⟨x0, x1⟩ := checkI_bd key counter (dataI key counter kind body)
    rw [← hx] at CC x0 x1
    have E : fourI (checkI key counter (dataI key counter kind body)) = [x % 256, x / 256 % 256, x / 65536 % 256, x / 16777216] := by rw [← hx]; unfold fourI; rw [show x / 16777216 % 256 = x / 16777216 by omega]
    have HE := Lib.hid E
    have CC := Lib.hid CC
    have hl3 : Nd + 4 ≤ 1099511627776 := by omega
    clear hod hod' hdok hdl hNd hb7 hx E
    go_wp2_with fail
    refine (CC.out _ HD.out.sl).mono ?_
    rintro e w8 ⟨rfl, hb8⟩
    have O8 := Lib.hid ((HD.out.below hb8).alloc (.cells #[.int .u8 (x % 256), .int .u8 (x / 256 % 256), .int .u8 (x / 65536 % 256), .int .u8 (x / 16777216)] 5))
    have S8 := Lib.hid (Sl.lit .u8 w8 5 [x % 256, x / 256 % 256, x / 65536 % 256, x / 16777216] (by simp [maxLen]))
    have B8 := Lib.hid ((B7.out.trans (hb8.mono B7.out.size)).alloc (Nat.le_trans B7.out.size hb8.size) (.cells #[.int .u8 (x % 256), .int .u8 (x / 256 % 256), .int .u8 (x / 65536 % 256), .int .u8 (x / 16777216)] 5))
    have hz8 := B8.out.size
    clear hb8
    go_wp2_with (at_builtin; refine wpList_app rfl _ _ _ rfl w.heap.size 5 .u8 (.int .u8 0) 1 Try.underlying37 infoByteS rfl (by omega) _ _ _ _ rfl O8.out _ [x % 256, x / 256 % 256, x / 65536 % 256, x / 16777216] rfl S8.out hl3 hz8 ?_; intro ao9 N9 cap9 w9 hN1 hN2 hown9 hg9 hb9)
    have O9 := Lib.hid hown9
    have B9 := Lib.hid (B8.out.trans hb9)
    clear hown9 hg9 hb9 hN1 hN2
    go_ret2
    exact ⟨_, _, _, ret_sb (by rw [HV.out]), by rw [HV.out, HE.out]; exact O9.out, B9.out⟩
end Go.Proofs.Ytelcpihbdgikfaa
