/- The walks of sealed cells: streams, encryption, check values, sealing and opening. -/
import Derived.Test.YtelcpihbdgikfaaProg
import Derived.Test.YtelcpihbdgikfaaCellPlain
import Derived.Test.YtelcpihbdgikfaaKeyB
import Derived.Test.YtelcpihbdgikfaaInts
import Derived.Test.YtelcpihbdgikfaaLists
import Derived.Test.YtelcpihbdgikfaaKeys
import Derived.Test.YtelcpihbdgikfaaTake
import Derived.Test.YtelcpihbdgikfaaLater
import Derived.Lib.SliceRun
import Derived.Lib.Walk
import Derived.Deep.RegionHeld3
import Derived.Deep.RegionWith
namespace Go.Proofs.Ytelcpihbdgikfaa
open Go.RowKit

theorem keyOk_keyB (x : Int) : keyOk x = keyB x := rfl
theorem plainOk_inR (k : Int) (l : List Int) : plainOk k l = (inR k 0 3 && decide (l.length ≤ 14)) := rfl
theorem countOk_inR (k : Int) : countOk k = inR k 0 1000000000000 := rfl
set_option maxRecDepth 100000 in
theorem cloneB (v : Value) (l : List Int) (w : World) (hs : Sl .u8 w v l) (hl : l.length ≤ 1099511627776) : Calls Try.prog 125 #[v] w fun e w' => ∃ ao N cap, e = .returned (.slice ao N cap) ∧ Own .u8 5 w.heap.size w' ao N cap l ∧ Below w.heap.size w w' := by
  obtain ⟨a, c, rfl, hm⟩ := hs.shape
  have q22 : ∀ (w : World) (a : Option Addr) (n c n' c' : Nat), (binOp .eql 37 (.slice a n c) (.slice none n' c')).run Try.prog w = .ok (.bool a.isNone) w := fun w a n c n' c' => Lib.run_eql_slice_nil w _ _ a n c n' c' Try.underlying37
  cases a with
  | none =>
    have h0 : l = [] ∧ c = 0 := by
      rcases hs with ⟨h0, a, cap, hv, hc, hz⟩ | ⟨b, off, cap, hv, _⟩
      · simp only [Value.slice.injEq] at hv
        exact ⟨h0, by rw [hv.2.2]; exact hz hv.1.symm⟩
      · simp only [Value.slice.injEq] at hv
        cases hv.1
    obtain ⟨rfl, rfl⟩ := h0
    clear hm hl hs
    go_enter Try.func125, Try.ntmps125
    go_wp2
    go_ret
    exact ⟨_, _, _, rfl, Own.nil _ _ _ _, Below.refl _ _⟩
  | some ad =>
    have O1 := Lib.hid (Own.lit .u8 5 w.heap.size w [] (by simp [maxLen]) (Nat.le_refl _))
    have S1 := Lib.hid (hs.alloc (.cells #[] 5))
    have hl1 : 0 + l.length ≤ 1099511627776 := by omega
    have hz1 : w.heap.size ≤ (w.alloc (.cells #[] 5)).heap.size := by simp
    clear hs hm hl
    go_enter Try.func125, Try.ntmps125
    go_wp2_with (at_builtin; refine wpList_app rfl _ _ _ rfl w.heap.size 5 .u8 (.int .u8 0) 1 Try.underlying37 infoByteS rfl (by omega) _ _ _ _ rfl O1.out _ _ rfl S1.out hl1 hz1 ?_; intro ao N cap w1 hN1 hN2 hown1 hg1 hb1)
    go_ret
    exact ⟨_, _, _, rfl, by simpa using hown1, bel_al (Below.refl _ _) _ |>.trans hb1⟩
theorem implIsPlain (k : Int) (v : Value) (l : List Int) (w : World) (hs : Sl .u8 w v l) : Calls Try.prog 118 #[.agg #[.int .i64 k, v]] w fun e w' => e = .returned (.bool (plainOk k l)) ∧ Below w.heap.size w w' := by
  obtain ⟨a, c, rfl, hm⟩ := hs.shape
  clear hs
  cases h1 : inR k 0 3 with
  | false =>
    have HF := Lib.hid (show plainOk k l = false by rw [plainOk_inR, h1]; rfl)
    go_enter Try.func118, Try.ntmps118
    go_wp2_with (first | (go_at_call 94; (refine (implInRis h1 _).mono ?_); rintro e w0 ⟨rfl, rfl⟩))
    go_ret
    exact ⟨ret_bool HF.out.symm, (by repeat (first | exact Below.refl _ _ | refine bel_al ?_ _ | refine Below.setCell ?_ (by first | (simp; done) | (simp; omega)) _ | refine Below.drew ?_ | refine bel_drewN ?_ _))⟩
  | true =>
    have HF := Lib.hid (show plainOk k l = decide (l.length ≤ 14) by rw [plainOk_inR, h1]; rfl)
    go_enter Try.func118, Try.ntmps118
    go_wp2_with (first | (go_at_call 94; (refine (implInRis h1 _).mono ?_); rintro e w0 ⟨rfl, rfl⟩))
    go_ret
    exact ⟨ret_bool (by rw [HF.out, decide_eq_decide]; omega), (by repeat (first | exact Below.refl _ _ | refine bel_al ?_ _ | refine Below.setCell ?_ (by first | (simp; done) | (simp; omega)) _ | refine Below.drew ?_ | refine bel_drewN ?_ _))⟩
theorem specIsPlain (k : Int) (v : Value) (l : List Int) (w : World) (hs : Sl .u8 w v l) : Calls Try.prog 113 #[.agg #[.int .i64 k, v]] w fun e w' => e = .returned (.bool (plainOk k l)) ∧ Below w.heap.size w w' := by
  obtain ⟨a, c, rfl, hm⟩ := hs.shape
  clear hs
  cases h1 : inR k 0 3 with
  | false =>
    have HF := Lib.hid (show plainOk k l = false by rw [plainOk_inR, h1]; rfl)
    go_enter Try.func113, Try.ntmps113
    go_wp2_with (first | (go_at_call 108; (refine (specInRis h1 _).mono ?_); rintro e w0 ⟨rfl, rfl⟩))
    go_ret
    exact ⟨ret_bool HF.out.symm, (by repeat (first | exact Below.refl _ _ | refine bel_al ?_ _ | refine Below.setCell ?_ (by first | (simp; done) | (simp; omega)) _ | refine Below.drew ?_ | refine bel_drewN ?_ _))⟩
  | true =>
    have HF := Lib.hid (show plainOk k l = decide (l.length ≤ 14) by rw [plainOk_inR, h1]; rfl)
    go_enter Try.func113, Try.ntmps113
    go_wp2_with (first | (go_at_call 108; (refine (specInRis h1 _).mono ?_); rintro e w0 ⟨rfl, rfl⟩))
    go_ret
    exact ⟨ret_bool (by rw [HF.out, decide_eq_decide]; omega), (by repeat (first | exact Below.refl _ _ | refine bel_al ?_ _ | refine Below.setCell ?_ (by first | (simp; done) | (simp; omega)) _ | refine Below.drew ?_ | refine bel_drewN ?_ _))⟩
theorem stream_succ (s : Int) (k : Nat) : streamI s (k + 1) = streamI s k ++ [childI s (100 + k) / 256 % 256] := tab_succ _ _
theorem implStream (seed : Int) (n : Nat) (w : World) (hn : n ≤ 400) : Calls Try.prog 119 #[.int .i64 seed, .int .i64 n] w fun e w' => ∃ ao N cap, e = .returned (.slice ao N cap) ∧ Own .u8 5 w.heap.size w' ao N cap (streamI seed n) ∧ Below w.heap.size w w' := by
  have O0 := Lib.hid (Own.lit .u8 5 w.heap.size w [] (by simp [maxLen]) (Nat.le_refl _))
  have B0 := Lib.hid (bel_al (Below.refl w.heap.size w) (.cells #[] 5))
  have hr := inR_yes (n := (n : Int)) (lo := 0) (hi := 400) (by omega) (by omega)
  go_enter Try.func119, Try.ntmps119
  go_wp2_with (first | (go_at_call 94; (refine (implInRis hr _).mono ?_); rintro e w0 ⟨rfl, rfl⟩))
  clear hr
  go_loopw [5, 12] (fun s i wr => ∃ (k : Nat) (ao : Option Addr) (N cap : Nat), k ≤ n ∧ i = .int .i64 k ∧ s = .slice ao N cap ∧ Hid (Own .u8 5 w.heap.size wr ao N cap (streamI seed k)) ∧ Hid (Below w.heap.size w wr)) (fun _ i _ => n - (intOf i).toNat)
  case atStart => exact ⟨0, _, _, _, Nat.zero_le _, rfl, rfl, O0, B0⟩
  case round =>
    obtain ⟨k, ao, N, cap, hk, rfl, rfl, O, B⟩ := hrel
    by_cases hlt : k < n
    · have hlt' : (k : Int) < n := by omega
      have HS := Lib.hid (stream_succ seed k)
      obtain ⟨c0, c1⟩ := childI_bd seed (100 + k)
      have CC := fun W => implChildSeed seed (100 + k) W
      generalize childI seed (100 + k) = c at HS c0 c1 CC
      have CC := Lib.hid CC
      have hl1 : N + 1 ≤ 1099511627776 := by have := O.out.len; rw [streamI_length] at this; omega
      go_wp2_with fail
      refine (CC.out _).mono ?_
      rintro e w2 ⟨rfl, hb2⟩
      have O2 := Lib.hid ((O.out.below hb2).alloc (.cells #[.int .u8 (c / 256 % 256)] 5))
      have S2 := Lib.hid (Sl.lit .u8 w2 5 [c / 256 % 256] (by simp [maxLen]))
      have B2 := Lib.hid (bel_al (B.out.trans (hb2.mono B.out.size)) (.cells #[.int .u8 (c / 256 % 256)] 5))
      have hz2 := B2.out.size
      clear hb2
      go_wp2_with (at_builtin; refine wpList_app rfl _ _ _ rfl w.heap.size 5 .u8 (.int .u8 0) 1 Try.underlying37 infoByteS rfl (by omega) _ _ _ _ rfl O2.out _ [c / 256 % 256] rfl S2.out hl1 hz2 ?_; intro ao' N' cap' w3 hN1 hN2 hown3 hg3 hb3)
      have HO3 := Lib.hid hown3
      have HB3 := Lib.hid (B2.out.trans hb3)
      clear hown3 hg3 hb3
      go_roundw
      case rel => exact ⟨k + 1, _, _, _, by omega, by go_num, rfl, Lib.hid (by rw [HS.out]; exact HO3.out), HB3⟩
      case measure => simp [intOf]; omega
    · have : k = n := by omega
      subst this
      go_wp2
      go_ret
      exact ⟨_, _, _, rfl, O.out, B.out⟩
theorem specStream (seed : Int) (n : Nat) (w : World) (hn : n ≤ 400) : Calls Try.prog 114 #[.int .i64 seed, .int .i64 n] w fun e w' => ∃ ao N cap, e = .returned (.slice ao N cap) ∧ Own .u8 5 w.heap.size w' ao N cap (streamI seed n) ∧ Below w.heap.size w w' := by
  have O0 := Lib.hid (Own.lit .u8 5 w.heap.size w [] (by simp [maxLen]) (Nat.le_refl _))
  have B0 := Lib.hid (bel_al (Below.refl w.heap.size w) (.cells #[] 5))
  have hr := inR_yes (n := (n : Int)) (lo := 0) (hi := 400) (by omega) (by omega)
  go_enter Try.func114, Try.ntmps114
  go_wp2
  clear hr
  go_loopw [5, 6] (fun s i wr => ∃ (k : Nat) (ao : Option Addr) (N cap : Nat), k ≤ n ∧ i = .int .i64 k ∧ s = .slice ao N cap ∧ Hid (Own .u8 5 w.heap.size wr ao N cap (streamI seed k)) ∧ Hid (Below w.heap.size w wr)) (fun _ i _ => n - (intOf i).toNat)
  case atStart => exact ⟨0, _, _, _, Nat.zero_le _, rfl, rfl, O0, B0⟩
  case round =>
    obtain ⟨k, ao, N, cap, hk, rfl, rfl, O, B⟩ := hrel
    by_cases hlt : k < n
    · have hlt' : (k : Int) < n := by omega
      have HS := Lib.hid (stream_succ seed k)
      obtain ⟨c0, c1⟩ := childI_bd seed (100 + k)
      have CC := fun W => specChildSeed seed (100 + k) W
      generalize childI seed (100 + k) = c at HS c0 c1 CC
      have CC := Lib.hid CC
      have hl1 : N + 1 ≤ 1099511627776 := by have := O.out.len; rw [streamI_length] at this; omega
      go_wp2_with fail
      refine (CC.out _).mono ?_
      rintro e w2 ⟨rfl, hb2⟩
      have O2 := Lib.hid ((O.out.below hb2).alloc (.cells #[.int .u8 (c / 256 % 256)] 5))
      have S2 := Lib.hid (Sl.lit .u8 w2 5 [c / 256 % 256] (by simp [maxLen]))
      have B2 := Lib.hid (bel_al (B.out.trans (hb2.mono B.out.size)) (.cells #[.int .u8 (c / 256 % 256)] 5))
      have hz2 := B2.out.size
      clear hb2
      go_wp2_with (at_builtin; refine wpList_app rfl _ _ _ rfl w.heap.size 5 .u8 (.int .u8 0) 1 Try.underlying37 infoByteS rfl (by omega) _ _ _ _ rfl O2.out _ [c / 256 % 256] rfl S2.out hl1 hz2 ?_; intro ao' N' cap' w3 hN1 hN2 hown3 hg3 hb3)
      have HO3 := Lib.hid hown3
      have HB3 := Lib.hid (B2.out.trans hb3)
      clear hown3 hg3 hb3
      go_roundw
      case rel => exact ⟨k + 1, _, _, _, by omega, by go_num, rfl, Lib.hid (by rw [HS.out]; exact HO3.out), HB3⟩
      case measure => simp [intOf]; omega
    · have : k = n := by omega
      subst this
      go_wp2
      go_ret
      exact ⟨_, _, _, rfl, O.out, B.out⟩
theorem implCheck (key counter : Int) (v : Value) (l : List Int) (w : World) (hs : Sl .u8 w v l) (hl : l.length ≤ 1048576) (hby : bytesOk l) : Calls Try.prog 140 #[.int .i64 key, .int .i64 counter, v] w fun e w' => e = .returned (.int .i64 (checkI key counter l)) ∧ Below w.heap.size w w' := by
  obtain ⟨a, c, rfl, hm⟩ := hs.shape
  have HS := Lib.hid hs
  have HB := Lib.hid hby
  have O0 := Lib.hid (Own.lit .i64 3 w.heap.size w [71, counter] (by simp [maxLen]) (Nat.le_refl _))
  have B0 := Lib.hid (bel_al (Below.refl w.heap.size w) (.cells #[.int .i64 71, .int .i64 counter] 3))
  clear hs hby
  go_enter Try.func140, Try.ntmps140
  go_wp2
  go_loopw [7, 14] (fun s i wr => ∃ (k : Nat) (ao : Option Addr) (N cap : Nat), k ≤ l.length ∧ i = .int .i64 k ∧ s = .slice ao N cap ∧ Hid (Own .i64 3 w.heap.size wr ao N cap ([71, counter] ++ l.take k)) ∧ Hid (Below w.heap.size w wr)) (fun _ i _ => l.length - (intOf i).toNat)
  case atStart => exact ⟨0, _, _, _, Nat.zero_le _, rfl, rfl, O0, B0⟩
  case round =>
    obtain ⟨k, ao, N, cap, hk, rfl, rfl, O, B⟩ := hrel
    by_cases hlt : k < l.length
    · obtain ⟨b, off, rfl, hb, h4⟩ := (HS.out.below B.out).at hlt
      have hc1 := h4 k hlt
      obtain ⟨y0, y1⟩ := HB.out.getD k
      have HT := Lib.hid (take_succ_getD l k hlt)
      have hl1 : N + 1 ≤ 1099511627776 := by have := O.out.len; simp only [List.length_append, List.length_take, List.length_cons, List.length_nil] at this; omega
      clear h4 hb
      generalize l.getD k 0 = y at hc1 y0 y1 HT
      have O2 := Lib.hid (O.out.alloc (.cells #[.int .i64 y] 3))
      have S2 := Lib.hid (Sl.lit .i64 wr 3 [y] (by simp [maxLen]))
      have B2 := Lib.hid (bel_al (B.out) (.cells #[.int .i64 y] 3))
      have hz2 := B2.out.size
      go_wp2_with (at_builtin; refine wpList_app rfl _ _ _ rfl w.heap.size 3 .i64 (.int .i64 0) 8 Try.underlying62 info3 rfl (by omega) _ _ _ _ rfl O2.out _ [y] rfl S2.out hl1 hz2 ?_; intro ao' N' cap' w3 hN1 hN2 hown3 hg3 hb3)
      have HO3 := Lib.hid hown3
      have HB3 := Lib.hid (B2.out.trans hb3)
      clear hown3 hg3 hb3
      go_roundw
      case rel => exact ⟨k + 1, _, _, _, by omega, by go_num, rfl, Lib.hid (by rw [HT.out, ← List.append_assoc]; exact HO3.out), HB3⟩
      case measure => simp [intOf]; omega
    · have : k = l.length := by omega
      subst this
      have hl2 : ([71, counter] ++ l).length ≤ 1073741824 := by simp only [List.length_append, List.length_cons, List.length_nil]; omega
      have HO := O.out
      rw [List.take_length] at HO
      have CK := Lib.hid (implKeyedHash key _ _ _ HO.sl hl2)
      obtain ⟨q, hq⟩ : ∃ q, q = keyedI key ([71, counter] ++ l) := ⟨_, rfl⟩
      have HQ := Lib.hid (show q = checkI key counter l from hq)
      have CK2 := CK.out
      rw [← hq] at CK2
      have CK3 := Lib.hid CK2
      clear hl2 HO CK CK2 hq
      go_wp2_with fail
      refine CK3.out.mono ?_
      rintro e w4 ⟨rfl, hb4⟩
      have B4 := Lib.hid (B.out.trans (hb4.mono B.out.size))
      clear hb4
      go_wp2
      go_ret
      exact ⟨ret_int HQ.out, B4.out⟩
theorem specCheck (key counter : Int) (v : Value) (l : List Int) (w : World) (hs : Sl .u8 w v l) (hl : l.length ≤ 1048576) (hby : bytesOk l) : Calls Try.prog 117 #[.int .i64 key, .int .i64 counter, v] w fun e w' => e = .returned (.int .i64 (checkI key counter l)) ∧ Below w.heap.size w w' := by
  obtain ⟨a, c, rfl, hm⟩ := hs.shape
  have HS := Lib.hid hs
  have HB := Lib.hid hby
  have O0 := Lib.hid (Own.lit .i64 3 w.heap.size w [71, counter] (by simp [maxLen]) (Nat.le_refl _))
  have B0 := Lib.hid (bel_al (Below.refl w.heap.size w) (.cells #[.int .i64 71, .int .i64 counter] 3))
  clear hs hby
  go_enter Try.func117, Try.ntmps117
  go_wp2
  go_loopw [7, 8] (fun s i wr => ∃ (k : Nat) (ao : Option Addr) (N cap : Nat), k ≤ l.length ∧ i = .int .i64 k ∧ s = .slice ao N cap ∧ Hid (Own .i64 3 w.heap.size wr ao N cap ([71, counter] ++ l.take k)) ∧ Hid (Below w.heap.size w wr)) (fun _ i _ => l.length - (intOf i).toNat)
  case atStart => exact ⟨0, _, _, _, Nat.zero_le _, rfl, rfl, O0, B0⟩
  case round =>
    obtain ⟨k, ao, N, cap, hk, rfl, rfl, O, B⟩ := hrel
    by_cases hlt : k < l.length
    · obtain ⟨b, off, rfl, hb, h4⟩ := (HS.out.below B.out).at hlt
      have hc1 := h4 k hlt
      obtain ⟨y0, y1⟩ := HB.out.getD k
      have HT := Lib.hid (take_succ_getD l k hlt)
      have hl1 : N + 1 ≤ 1099511627776 := by have := O.out.len; simp only [List.length_append, List.length_take, List.length_cons, List.length_nil] at this; omega
      clear h4 hb
      generalize l.getD k 0 = y at hc1 y0 y1 HT
      have O2 := Lib.hid (O.out.alloc (.cells #[.int .i64 y] 3))
      have S2 := Lib.hid (Sl.lit .i64 wr 3 [y] (by simp [maxLen]))
      have B2 := Lib.hid (bel_al (B.out) (.cells #[.int .i64 y] 3))
      have hz2 := B2.out.size
      go_wp2_with (at_builtin; refine wpList_app rfl _ _ _ rfl w.heap.size 3 .i64 (.int .i64 0) 8 Try.underlying62 info3 rfl (by omega) _ _ _ _ rfl O2.out _ [y] rfl S2.out hl1 hz2 ?_; intro ao' N' cap' w3 hN1 hN2 hown3 hg3 hb3)
      have HO3 := Lib.hid hown3
      have HB3 := Lib.hid (B2.out.trans hb3)
      clear hown3 hg3 hb3
      go_roundw
      case rel => exact ⟨k + 1, _, _, _, by omega, by go_num, rfl, Lib.hid (by rw [HT.out, ← List.append_assoc]; exact HO3.out), HB3⟩
      case measure => simp [intOf]; omega
    · have : k = l.length := by omega
      subst this
      have hl2 : ([71, counter] ++ l).length ≤ 1073741824 := by simp only [List.length_append, List.length_cons, List.length_nil]; omega
      have HO := O.out
      rw [List.take_length] at HO
      have CK := Lib.hid (specKeyedHash key _ _ _ HO.sl hl2)
      obtain ⟨q, hq⟩ : ∃ q, q = keyedI key ([71, counter] ++ l) := ⟨_, rfl⟩
      have HQ := Lib.hid (show q = checkI key counter l from hq)
      have CK2 := CK.out
      rw [← hq] at CK2
      have CK3 := Lib.hid CK2
      clear hl2 HO CK CK2 hq
      go_wp2_with fail
      refine CK3.out.mono ?_
      rintro e w4 ⟨rfl, hb4⟩
      have B4 := Lib.hid (B.out.trans (hb4.mono B.out.size))
      clear hb4
      go_wp2
      go_ret
      exact ⟨ret_int HQ.out, B4.out⟩
theorem implCipher (key counter : Int) (w : World) : Calls Try.prog 121 #[.int .i64 key, .int .i64 counter] w fun e w' => e = .returned (.int .i64 (cipherI key counter)) ∧ Below w.heap.size w w' := by
  go_enter Try.func121, Try.ntmps121
  go_wp2_with (first | (go_at_call 96; (refine (implKeyedLit key [67, counter] w _ _ _ (by simp) rfl rfl rfl).mono ?_); rintro e w1 ⟨rfl, hb1⟩) | (go_at_call 98; (refine (implOrOne _ _).mono ?_); rintro e w2 ⟨rfl, rfl⟩))
  go_ret
  exact ⟨rfl, hb1⟩
theorem specCipher (key counter : Int) (w : World) : Calls Try.prog 116 #[.int .i64 key, .int .i64 counter] w fun e w' => e = .returned (.int .i64 (cipherI key counter)) ∧ Below w.heap.size w w' := by
  have hk := (keyedI_bd key [67, counter]).1
  go_enter Try.func116, Try.ntmps116
  go_wp2_with (first | (go_at_call 110; (refine (specKeyedLit key [67, counter] w _ _ _ (by simp) rfl rfl rfl).mono ?_); rintro e w1 ⟨rfl, hb1⟩) | (go_at_call 109; (refine (specOrOne _ _ hk).mono ?_); rintro e w2 ⟨rfl, rfl⟩))
  go_ret
  exact ⟨rfl, hb1⟩
theorem implCheckBytes (key counter : Int) (v : Value) (l : List Int) (w : World) (hs : Sl .u8 w v l) (hl : l.length ≤ 1048576) (hby : bytesOk l) : Calls Try.prog 122 #[.int .i64 key, .int .i64 counter, v] w fun e w' => ∃ g, e = .returned (.slice (some ⟨g, 0, none⟩) 4 4) ∧ Own .u8 5 w.heap.size w' (some ⟨g, 0, none⟩) 4 4 (fourI (checkI key counter l)) ∧ Below w.heap.size w w' := by
  have CC := implCheck key counter v l w hs hl hby
  obtain ⟨c0, c1⟩ := checkI_bd key counter l
  generalize checkI key counter l = x at CC c0 c1
  have CC' := Lib.hid CC
  clear CC hs hl hby
  go_enter Try.func122, Try.ntmps122
  go_wp2_with fail
  refine CC'.out.mono ?_
  rintro e w1 ⟨rfl, hb1⟩
  have B1 := Lib.hid hb1
  clear hb1
  have E : fourI x = [x % 256, x / 256 % 256, x / 65536 % 256, x / 16777216] := by unfold fourI; rw [show x / 16777216 % 256 = x / 16777216 by omega]
  have O := Own.lit .u8 5 w1.heap.size w1 [x % 256, x / 256 % 256, x / 65536 % 256, x / 16777216] (by simp [maxLen]) (Nat.le_refl _)
  have HO : Hid (Own .u8 5 w.heap.size (w1.alloc (.cells #[.int .u8 (x % 256), .int .u8 (x / 256 % 256), .int .u8 (x / 65536 % 256), .int .u8 (x / 16777216)] 5)) (some ⟨w1.heap.size, 0, none⟩) 4 4 (fourI x)) := Lib.hid (by rw [E]; exact O.mono B1.out.size)
  clear E O
  go_wp2
  go_ret
  exact ⟨_, rfl, HO.out, bel_al B1.out _⟩
theorem tab_step (f : Nat → Int) (l : List Int) (k : Nat) (h : k < l.length) : (tab k f ++ l.drop k).set k (f k) = tab (k + 1) f ++ l.drop (k + 1) := by
  rw [List.set_append_right _ _ (by rw [tab_length]; exact Nat.le_refl _), tab_length, Nat.sub_self, List.drop_eq_getElem_cons h, List.set_cons_zero, tab_succ, List.append_assoc]; rfl
theorem tab_at (f : Nat → Int) (l : List Int) (k : Nat) (h : k < l.length) : (tab k f ++ l.drop k).getD k 0 = l.getD k 0 := by
  simp [List.getD, tab_length, List.getElem?_append_right, h]
set_option maxRecDepth 100000 in
theorem implEncrypt (key : Int) (v : Value) (l : List Int) (w : World) (hs : Sl .u8 w v l) (hl : l.length ≤ 1048576) (hby : bytesOk l) : Calls Try.prog 120 #[.int .i64 key, v] w fun e w' => ∃ ao N cap, e = .returned (.slice ao N cap) ∧ Own .u8 5 w.heap.size w' ao N cap (encI key l) ∧ Below w.heap.size w w' := by
  have CC := Lib.hid (cloneB v l w hs (by omega))
  have HL := Lib.hid hl
  have HB := Lib.hid hby
  clear hs hl hby
  go_enter Try.func120, Try.ntmps120
  go_wp2_with fail
  refine CC.out.mono ?_
  rintro e w1 ⟨ao, N, cap, rfl, hown, hb1⟩
  have B1 := Lib.hid hb1
  have O1 := Lib.hid hown
  clear hb1
  rcases hown.shape with ⟨rfl, rfl, rfl⟩ | ⟨g, rfl, hg1, hg2⟩
  · clear hown
    go_wp2
    go_loop [11] (fun i => i = .int .i64 0) (fun _ => 0)
    case atStart => rfl
    case round =>
      subst hrel
      go_wp2
      go_ret
      have hl0 : l = [] := by have := O1.out.len; exact List.length_eq_zero_iff.1 this.symm
      refine ⟨_, _, _, rfl, ?_, B1.out⟩
      rw [hl0]
      exact Own.nil _ _ _ _
  · have hN := hown.len
    have hN2 : N ≤ 1048576 := by have := HL.out; omega
    have HN := Lib.hid hN
    clear hown hN
    go_wp2
    go_loopw [11] (fun i wr => ∃ k : Nat, k ≤ N ∧ i = .int .i64 k ∧ Hid (Own .u8 5 w.heap.size wr (some ⟨g, 0, none⟩) N cap (tab k (fun i => (l.getD i 0 + padI key i) % 256) ++ l.drop k)) ∧ Hid (Below w.heap.size w wr)) (fun i _ => N - (intOf i).toNat)
    case atStart => exact ⟨0, Nat.zero_le _, rfl, O1, B1⟩
    case round =>
      obtain ⟨k, hk, rfl, O, B⟩ := hrel
      by_cases hlt : k < N
      · have hkl : k < l.length := by have := HN.out; omega
        have hc1 := O.out.cellAt hlt
        rw [tab_at _ l k hkl] at hc1
        have hf1 := O.out.frozenAt k
        obtain ⟨y0, y1⟩ := HB.out.getD k
        obtain ⟨q0, q1⟩ := keyedI_bd key [(k : Int)]
        have CK := fun b n c W (h : Sl .i64 W (.slice (some ⟨b, 0, none⟩) n c) [(k : Int)]) => implKeyedHash key _ _ W h (by simp)
        have HT := Lib.hid (tab_step (fun i => (l.getD i 0 + padI key i) % 256) l k hkl)
        have HP := Lib.hid (show padI key k = keyedI key [(k : Int)] % 256 from rfl)
        generalize keyedI key [(k : Int)] = q at q0 q1 CK HP
        have CK := Lib.hid CK
        obtain ⟨y, hy⟩ : ∃ y, y = l.getD k 0 := ⟨_, rfl⟩
        rw [← hy] at hc1 y0 y1
        have HV : Hid (IntKind.u8.wrap (y + IntKind.u8.wrap (q.tmod 256)) = (l.getD k 0 + padI key k) % 256) := Lib.hid (by rw [← hy, HP.out, Int.tmod_eq_emod_of_nonneg q0, IntKind.wrap_u8, IntKind.wrap_u8]; omega)
        clear HP
        have hgz : g < wr.heap.size := O.out.blk.2
        have hgz' : g < wr.heap.size + 1 := by omega
        clear hy hkl
        go_wp2_with fail
        go_region_with (first | (go_at_call 96; (refine (CK.out _ _ _ _ (by first | exact Sl.lit .i64 _ _ [(k : Int)] (by simp [maxLen]) | exact (Sl.lit .i64 _ _ [(k : Int)] (by simp [maxLen])).drew)).mono ?_); rintro e w2 ⟨rfl, hb2⟩; obtain ⟨hc, hf⟩ := bcell hb2; have B2 := Lib.hid hb2; clear hb2))
        all_goals
          have hb2 : Below wr.heap.size wr w2 := (by repeat (first | exact Below.refl _ _ | refine bel_al ?_ _ | refine Below.setCell ?_ (by first | (simp; done) | (simp; omega)) _ | refine Below.drew ?_ | refine bel_drewN ?_ _ | refine bel_seq ?_ (B2.out)))
          have hst := (O.out.below hb2).stored k (IntKind.u8.wrap (y + IntKind.u8.wrap (q.tmod 256)))
          have e : (tab k (fun i => (l.getD i 0 + padI key i) % 256) ++ l.drop k).set k (IntKind.u8.wrap (y + IntKind.u8.wrap (q.tmod 256))) = tab (k + 1) (fun i => (l.getD i 0 + padI key i) % 256) ++ l.drop (k + 1) := by rw [HV.out]; exact HT.out
          rw [e] at hst
          generalize w2.setCell ⟨g, k, none⟩ (.int .u8 (IntKind.u8.wrap (y + IntKind.u8.wrap (q.tmod 256)))) = w9 at hst ⊢
          have HST := Lib.hid hst.1
          have HB2 := Lib.hid (B.out.trans (hb2.mono B.out.size))
          have HBB := Lib.hid (HB2.out.trans (grown_below hst.2 (B := w.heap.size) HB2.out.size (fun j hj => by cases hj; exact hg1)))
          clear hb2 hst e
          go_wp2
          go_roundw
          case rel => exact ⟨k + 1, by omega, by go_num, HST, HBB⟩
          case measure => simp [intOf]; omega
      · have : k = N := by omega
        subst this
        go_wp2
        go_ret
        refine ⟨_, _, _, rfl, ?_, B.out⟩
        have h := O.out
        rw [List.drop_of_length_le (by have := HN.out; omega), List.append_nil, HN.out] at h
        rw [HN.out]
        exact h
set_option maxRecDepth 100000 in
theorem implDecrypt (key : Int) (v : Value) (l : List Int) (w : World) (hs : Sl .u8 w v l) (hl : l.length ≤ 1048576) (hby : bytesOk l) : Calls Try.prog 124 #[.int .i64 key, v] w fun e w' => ∃ ao N cap, e = .returned (.slice ao N cap) ∧ Own .u8 5 w.heap.size w' ao N cap (decI key l) ∧ Below w.heap.size w w' := by
  have CC := Lib.hid (cloneB v l w hs (by omega))
  have HL := Lib.hid hl
  have HB := Lib.hid hby
  clear hs hl hby
  go_enter Try.func124, Try.ntmps124
  go_wp2_with fail
  refine CC.out.mono ?_
  rintro e w1 ⟨ao, N, cap, rfl, hown, hb1⟩
  have B1 := Lib.hid hb1
  have O1 := Lib.hid hown
  clear hb1
  rcases hown.shape with ⟨rfl, rfl, rfl⟩ | ⟨g, rfl, hg1, hg2⟩
  · clear hown
    go_wp2
    go_loop [11] (fun i => i = .int .i64 0) (fun _ => 0)
    case atStart => rfl
    case round =>
      subst hrel
      go_wp2
      go_ret
      have hl0 : l = [] := by have := O1.out.len; exact List.length_eq_zero_iff.1 this.symm
      refine ⟨_, _, _, rfl, ?_, B1.out⟩
      rw [hl0]
      exact Own.nil _ _ _ _
  · have hN := hown.len
    have hN2 : N ≤ 1048576 := by have := HL.out; omega
    have HN := Lib.hid hN
    clear hown hN
    go_wp2
    go_loopw [11] (fun i wr => ∃ k : Nat, k ≤ N ∧ i = .int .i64 k ∧ Hid (Own .u8 5 w.heap.size wr (some ⟨g, 0, none⟩) N cap (tab k (fun i => (l.getD i 0 - padI key i) % 256) ++ l.drop k)) ∧ Hid (Below w.heap.size w wr)) (fun i _ => N - (intOf i).toNat)
    case atStart => exact ⟨0, Nat.zero_le _, rfl, O1, B1⟩
    case round =>
      obtain ⟨k, hk, rfl, O, B⟩ := hrel
      by_cases hlt : k < N
      · have hkl : k < l.length := by have := HN.out; omega
        have hc1 := O.out.cellAt hlt
        rw [tab_at _ l k hkl] at hc1
        have hf1 := O.out.frozenAt k
        obtain ⟨y0, y1⟩ := HB.out.getD k
        obtain ⟨q0, q1⟩ := keyedI_bd key [(k : Int)]
        have CK := fun b n c W (h : Sl .i64 W (.slice (some ⟨b, 0, none⟩) n c) [(k : Int)]) => implKeyedHash key _ _ W h (by simp)
        have HT := Lib.hid (tab_step (fun i => (l.getD i 0 - padI key i) % 256) l k hkl)
        have HP := Lib.hid (show padI key k = keyedI key [(k : Int)] % 256 from rfl)
        generalize keyedI key [(k : Int)] = q at q0 q1 CK HP
        have CK := Lib.hid CK
        obtain ⟨y, hy⟩ : ∃ y, y = l.getD k 0 := ⟨_, rfl⟩
        rw [← hy] at hc1 y0 y1
        have HV : Hid (IntKind.u8.wrap (y - IntKind.u8.wrap (q.tmod 256)) = (l.getD k 0 - padI key k) % 256) := Lib.hid (by rw [← hy, HP.out, Int.tmod_eq_emod_of_nonneg q0, IntKind.wrap_u8, IntKind.wrap_u8]; omega)
        clear HP
        have hgz : g < wr.heap.size := O.out.blk.2
        have hgz' : g < wr.heap.size + 1 := by omega
        clear hy hkl
        go_wp2_with fail
        go_region_with (first | (go_at_call 96; (refine (CK.out _ _ _ _ (by first | exact Sl.lit .i64 _ _ [(k : Int)] (by simp [maxLen]) | exact (Sl.lit .i64 _ _ [(k : Int)] (by simp [maxLen])).drew)).mono ?_); rintro e w2 ⟨rfl, hb2⟩; obtain ⟨hc, hf⟩ := bcell hb2; have B2 := Lib.hid hb2; clear hb2))
        all_goals
          have hb2 : Below wr.heap.size wr w2 := (by repeat (first | exact Below.refl _ _ | refine bel_al ?_ _ | refine Below.setCell ?_ (by first | (simp; done) | (simp; omega)) _ | refine Below.drew ?_ | refine bel_drewN ?_ _ | refine bel_seq ?_ (B2.out)))
          have hst := (O.out.below hb2).stored k (IntKind.u8.wrap (y - IntKind.u8.wrap (q.tmod 256)))
          have e : (tab k (fun i => (l.getD i 0 - padI key i) % 256) ++ l.drop k).set k (IntKind.u8.wrap (y - IntKind.u8.wrap (q.tmod 256))) = tab (k + 1) (fun i => (l.getD i 0 - padI key i) % 256) ++ l.drop (k + 1) := by rw [HV.out]; exact HT.out
          rw [e] at hst
          generalize w2.setCell ⟨g, k, none⟩ (.int .u8 (IntKind.u8.wrap (y - IntKind.u8.wrap (q.tmod 256)))) = w9 at hst ⊢
          have HST := Lib.hid hst.1
          have HB2 := Lib.hid (B.out.trans (hb2.mono B.out.size))
          have HBB := Lib.hid (HB2.out.trans (grown_below hst.2 (B := w.heap.size) HB2.out.size (fun j hj => by cases hj; exact hg1)))
          clear hb2 hst e
          go_wp2
          go_roundw
          case rel => exact ⟨k + 1, by omega, by go_num, HST, HBB⟩
          case measure => simp [intOf]; omega
      · have : k = N := by omega
        subst this
        go_wp2
        go_ret
        refine ⟨_, _, _, rfl, ?_, B.out⟩
        have h := O.out
        rw [List.drop_of_length_le (by have := HN.out; omega), List.append_nil, HN.out] at h
        rw [HN.out]
        exact h
end Go.Proofs.Ytelcpihbdgikfaa
