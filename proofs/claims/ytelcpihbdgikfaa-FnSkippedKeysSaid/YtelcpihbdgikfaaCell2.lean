/- The walks of the reference's encryption, and of sealing and opening. -/
import Derived.Test.YtelcpihbdgikfaaProg
import Derived.Test.YtelcpihbdgikfaaCell
import Derived.Test.YtelcpihbdgikfaaStep
import Derived.Deep.RegionHeld3
import Derived.Deep.RegionWith
namespace Go.Proofs.Ytelcpihbdgikfaa
open Go.RowKit

theorem keepB {w W' : World} {b o : Nat} {u : Value} (hb : b < w.heap.size) (h : w.cell? ⟨b, o, none⟩ = some u) (hB : Below w.heap.size w W') : W'.cell? ⟨b, o, none⟩ = some u ∧ Below w.heap.size w W' :=
  ⟨(hB.cell (p := ⟨b, o, none⟩) hb).trans h, hB⟩
set_option maxRecDepth 100000 in
theorem specEncrypt (key : Int) (v : Value) (l : List Int) (w : World) (hs : Sl .u8 w v l) (hl : l.length ≤ 1048576) (hby : bytesOk l) : Calls Try.prog 115 #[.int .i64 key, v] w fun e w' => ∃ ao N cap, e = .returned (.slice ao N cap) ∧ Own .u8 5 w.heap.size w' ao N cap (encI key l) ∧ Below w.heap.size w w' := by
  obtain ⟨a, c, rfl, hm⟩ := hs.shape
  have HS := Lib.hid hs
  have HB := Lib.hid hby
  have O0 := Lib.hid (Own.lit .u8 5 w.heap.size w [] (by simp [maxLen]) (Nat.le_refl _))
  have B0 := Lib.hid (bel_al (Below.refl w.heap.size w) (.cells #[] 5))
  clear hs hby
  go_enter Try.func115, Try.ntmps115
  go_wp2
  go_loopw [5, 6] (fun s i wr => ∃ (k : Nat) (ao : Option Addr) (N cap : Nat), k ≤ l.length ∧ i = .int .i64 k ∧ s = .slice ao N cap ∧ Hid (Own .u8 5 w.heap.size wr ao N cap (tab k (fun i => (l.getD i 0 + padI key i) % 256))) ∧ Hid (Below w.heap.size w wr)) (fun _ i _ => l.length - (intOf i).toNat)
  case atStart => exact ⟨0, _, _, _, Nat.zero_le _, rfl, rfl, O0, B0⟩
  case round =>
    obtain ⟨k, ao, N, cap, hk, rfl, rfl, O, B⟩ := hrel
    by_cases hlt : k < l.length
    · obtain ⟨b, off, rfl, hb, h4⟩ := HS.out.at hlt
      have hc0 := h4 k hlt
      have hc1 := (keepB hb hc0 B.out).1
      obtain ⟨y0, y1⟩ := HB.out.getD k
      obtain ⟨q0, q1⟩ := keyedI_bd key [(k : Int)]
      have CK := fun b n c W (h : Sl .i64 W (.slice (some ⟨b, 0, none⟩) n c) [(k : Int)]) => specKeyedHash key _ _ W h (by simp)
      have HT := Lib.hid (tab_succ k (fun i => (l.getD i 0 + padI key i) % 256))
      have HP := Lib.hid (show padI key k = keyedI key [(k : Int)] % 256 from rfl)
      generalize keyedI key [(k : Int)] = q at q0 q1 CK HP
      have CK := Lib.hid CK
      have hl1 : N + 1 ≤ 1099511627776 := by have := O.out.len; rw [tab_length] at this; omega
      obtain ⟨y, hy⟩ : ∃ y, y = l.getD k 0 := ⟨_, rfl⟩
      rw [← hy] at hc1 y0 y1 hc0
      have HV : Hid (IntKind.u8.wrap ((IntKind.i64.wrap (IntKind.i64.wrap y + q.tmod 256)).tmod 256) = (l.getD k 0 + padI key k) % 256) := Lib.hid (by
        rw [← hy, HP.out, Int.tmod_eq_emod_of_nonneg q0, IntKind.wrap_u8]
        have e1 : IntKind.i64.wrap y = y := by rw [IntKind.wrap_i64]; omega
        have e2 : IntKind.i64.wrap (y + q % 256) = y + q % 256 := by rw [IntKind.wrap_i64]; omega
        rw [e1, e2, Int.tmod_eq_emod_of_nonneg (by omega)]
        omega)
      clear h4 hy HP
      go_wp2_with fail
      go_region_held3 (fun W' => W'.cell? ⟨b, off + k, none⟩ = some (.int .u8 y) ∧ Below w.heap.size w W') (first | assumption | (refine keepB hb hc0 ?_; repeat (first | exact B.out | refine bel_al ?_ _ | refine Below.drew ?_ | refine bel_seq ?_ hb2 | refine Below.trans ?_ hb3))) (first | (go_at_call 110; (refine (CK.out _ _ _ _ (by first | exact Sl.lit .i64 _ _ [(k : Int)] (by simp [maxLen]) | exact (Sl.lit .i64 _ _ [(k : Int)] (by simp [maxLen])).drew)).mono ?_); rintro e w2 ⟨rfl, hb2⟩) | (go_at_call 127; (refine (specMod _ _ _).mono ?_); rintro e w0 ⟨rfl, rfl⟩) | (refine step_app rfl _ _ _ (by rfl) w.heap.size 5 .u8 (.int .u8 0) 1 Try.underlying37 infoByteS rfl (by omega) _ _ _ _ (by rfl) (O.out.below (by repeat (first | exact Below.refl _ _ | refine bel_al ?_ _ | refine Below.drew ?_ | refine bel_seq ?_ hb2))) _ [_] (by rfl) (by first | exact Sl.lit .u8 _ _ [_] (by simp [maxLen]) | exact (Sl.lit .u8 _ _ [_] (by simp [maxLen])).drew) hl1 (by have := B.out.size; have := hb2.size; simp at *; omega) ?_; intro ao' N' cap' w3 hN1 hN2 hown3 hg3 hb3))
      all_goals
        have HO3 : Hid (Own .u8 5 w.heap.size w3 ao' N' cap' (tab (k + 1) (fun i => (l.getD i 0 + padI key i) % 256))) := Lib.hid (by rw [HT.out, ← HV.out]; exact hown3)
        have HB3 : Hid (Below w.heap.size w w3) := Lib.hid (by first | exact And.right ‹_› | exact And.right (And.right ‹_›))
        clear hown3 hg3 hb3 hb2
        go_wp2
        go_roundw
        case rel => exact ⟨k + 1, _, _, _, by omega, by go_num, rfl, HO3, HB3⟩
        case measure => simp [intOf]; omega
    · have : k = l.length := by omega
      subst this
      go_wp2
      go_ret
      exact ⟨_, _, _, rfl, O.out, B.out⟩
set_option maxRecDepth 100000 in
theorem specDecrypt (key : Int) (v : Value) (l : List Int) (w : World) (hs : Sl .u8 w v l) (hl : l.length ≤ 1048576) (hby : bytesOk l) : Calls Try.prog 123 #[.int .i64 key, v] w fun e w' => ∃ ao N cap, e = .returned (.slice ao N cap) ∧ Own .u8 5 w.heap.size w' ao N cap (decI key l) ∧ Below w.heap.size w w' := by
  obtain ⟨a, c, rfl, hm⟩ := hs.shape
  have HS := Lib.hid hs
  have HB := Lib.hid hby
  have O0 := Lib.hid (Own.lit .u8 5 w.heap.size w [] (by simp [maxLen]) (Nat.le_refl _))
  have B0 := Lib.hid (bel_al (Below.refl w.heap.size w) (.cells #[] 5))
  clear hs hby
  go_enter Try.func123, Try.ntmps123
  go_wp2
  go_loopw [5, 6] (fun s i wr => ∃ (k : Nat) (ao : Option Addr) (N cap : Nat), k ≤ l.length ∧ i = .int .i64 k ∧ s = .slice ao N cap ∧ Hid (Own .u8 5 w.heap.size wr ao N cap (tab k (fun i => (l.getD i 0 - padI key i) % 256))) ∧ Hid (Below w.heap.size w wr)) (fun _ i _ => l.length - (intOf i).toNat)
  case atStart => exact ⟨0, _, _, _, Nat.zero_le _, rfl, rfl, O0, B0⟩
  case round =>
    obtain ⟨k, ao, N, cap, hk, rfl, rfl, O, B⟩ := hrel
    by_cases hlt : k < l.length
    · obtain ⟨b, off, rfl, hb, h4⟩ := HS.out.at hlt
      have hc0 := h4 k hlt
      have hc1 := (keepB hb hc0 B.out).1
      obtain ⟨y0, y1⟩ := HB.out.getD k
      obtain ⟨q0, q1⟩ := keyedI_bd key [(k : Int)]
      have CK := fun b n c W (h : Sl .i64 W (.slice (some ⟨b, 0, none⟩) n c) [(k : Int)]) => specKeyedHash key _ _ W h (by simp)
      have HT := Lib.hid (tab_succ k (fun i => (l.getD i 0 - padI key i) % 256))
      have HP := Lib.hid (show padI key k = keyedI key [(k : Int)] % 256 from rfl)
      generalize keyedI key [(k : Int)] = q at q0 q1 CK HP
      have CK := Lib.hid CK
      have hl1 : N + 1 ≤ 1099511627776 := by have := O.out.len; rw [tab_length] at this; omega
      obtain ⟨y, hy⟩ : ∃ y, y = l.getD k 0 := ⟨_, rfl⟩
      rw [← hy] at hc1 y0 y1 hc0
      have HV : Hid (IntKind.u8.wrap (modI (IntKind.i64.wrap (IntKind.i64.wrap y - q.tmod 256)) 256) = (l.getD k 0 - padI key k) % 256) := Lib.hid (by
        rw [← hy, HP.out, Int.tmod_eq_emod_of_nonneg q0, IntKind.wrap_u8]
        have e1 : IntKind.i64.wrap y = y := by rw [IntKind.wrap_i64]; omega
        have e2 : IntKind.i64.wrap (y - q % 256) = y - q % 256 := by rw [IntKind.wrap_i64]; omega
        rw [e1, e2, modI_in (by omega) (by omega)]
        omega)
      clear h4 hy HP
      go_wp2_with fail
      go_region_held3 (fun W' => W'.cell? ⟨b, off + k, none⟩ = some (.int .u8 y) ∧ Below w.heap.size w W') (first | assumption | (refine keepB hb hc0 ?_; repeat (first | exact B.out | refine bel_al ?_ _ | refine Below.drew ?_ | refine bel_seq ?_ hb2 | refine Below.trans ?_ hb3))) (first | (go_at_call 110; (refine (CK.out _ _ _ _ (by first | exact Sl.lit .i64 _ _ [(k : Int)] (by simp [maxLen]) | exact (Sl.lit .i64 _ _ [(k : Int)] (by simp [maxLen])).drew)).mono ?_); rintro e w2 ⟨rfl, hb2⟩) | (go_at_call 127; (refine (specMod _ _ _).mono ?_); rintro e w0 ⟨rfl, rfl⟩) | (refine step_app rfl _ _ _ (by rfl) w.heap.size 5 .u8 (.int .u8 0) 1 Try.underlying37 infoByteS rfl (by omega) _ _ _ _ (by rfl) (O.out.below (by repeat (first | exact Below.refl _ _ | refine bel_al ?_ _ | refine Below.drew ?_ | refine bel_seq ?_ hb2))) _ [_] (by rfl) (by first | exact Sl.lit .u8 _ _ [_] (by simp [maxLen]) | exact (Sl.lit .u8 _ _ [_] (by simp [maxLen])).drew) hl1 (by have := B.out.size; have := hb2.size; simp at *; omega) ?_; intro ao' N' cap' w3 hN1 hN2 hown3 hg3 hb3))
      all_goals
        have HO3 : Hid (Own .u8 5 w.heap.size w3 ao' N' cap' (tab (k + 1) (fun i => (l.getD i 0 - padI key i) % 256))) := Lib.hid (by rw [HT.out, ← HV.out]; exact hown3)
        have HB3 : Hid (Below w.heap.size w w3) := Lib.hid (by first | exact And.right ‹_› | exact And.right (And.right ‹_›))
        clear hown3 hg3 hb3 hb2
        go_wp2
        go_roundw
        case rel => exact ⟨k + 1, _, _, _, by omega, by go_num, rfl, HO3, HB3⟩
        case measure => simp [intOf]; omega
    · have : k = l.length := by omega
      subst this
      go_wp2
      go_ret
      exact ⟨_, _, _, rfl, O.out, B.out⟩
end Go.Proofs.Ytelcpihbdgikfaa
