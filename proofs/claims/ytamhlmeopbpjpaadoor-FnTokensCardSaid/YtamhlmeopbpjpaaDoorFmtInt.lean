/- The walk of the reference's FormatInt: it writes the decimal numeral. -/
import Derived.Test.YtamhlmeopbpjpaaDoorProg
import Derived.Test.YtamhlmeopbpjpaaDoorOwn
import Derived.Lib.ItoaNum
import Derived.Laws.BytesArg
namespace Go.Proofs.YtamhlmeopbpjpaaDoor
open Go.RowKit
set_option linter.unusedVariables false

theorem conv_runF {w : World} {v : Value} {l : List Int} (hs : Sl .u8 w v l) : (convert 28 9 v).run Tryd.prog w = .ok (.string (strOfNums l)) w := by
  rcases hs with ⟨rfl, a, cap, rfl, hc, hz⟩ | ⟨b, off, cap, rfl, h1, h2, h3, h4⟩
  · cases a with
    | none => exact run_convert_bytes_nil w _ _ Tryd.underlying28 Tryd.underlying5 0 cap _ Tryd.underlying9
    | some ad =>
      rw [run_convert_bytes_string w _ _ _ _ 0 cap Tryd.underlying28 Tryd.underlying5 Tryd.underlying9, run_bytesToString w ad 0 cap [] (by simp [loadCells, loadCellsFrom])]
      rfl
  · exact run_convert_bytes_arg w _ _ Tryd.underlying28 Tryd.underlying5 b off l.length cap l rfl h4 _ Tryd.underlying9
/-- y is still to be written, t is written -/
def LI (u y : Nat) (t : List UInt8) : Prop := (0 < y → Lib.decDigits y ++ t = Lib.decDigits u) ∧ (y = 0 → t = Lib.decDigits u)
theorem LI.start {u : Nat} (h : 0 < u) : LI u u [] := ⟨fun _ => List.append_nil _, fun h0 => absurd h0 (by omega)⟩
theorem LI.step {u y : Nat} {t : List UInt8} (h : LI u y t) (hy : 0 < y) : LI u (y / 10) (UInt8.ofNat (48 + y % 10) :: t) := by
  have h1 := h.1 hy
  rw [Lib.decDigits] at h1
  by_cases h10 : y < 10
  · rw [dif_pos h10] at h1
    refine ⟨fun h0 => absurd h0 (by omega), fun _ => ?_⟩
    rw [← h1, Nat.mod_eq_of_lt h10]
    rfl
  · rw [dif_neg h10] at h1
    refine ⟨fun _ => ?_, fun h0 => absurd h0 (by omega)⟩
    rw [← h1, List.append_assoc]
    rfl
theorem str_cons (z : Nat) (hz : z < 10) (b : ByteArray) : (strOfNums [((48 + z : Nat) : Int)] ++ b).data.toList = UInt8.ofNat (48 + z) :: b.data.toList := by
  have h1 : (strOfNums [((48 + z : Nat) : Int)]).data.toList = [UInt8.ofNat (48 + z)] := by
    rw [strOfNums_data]; rfl
  rw [ByteArray.data_append, Array.toList_append, h1]
  rfl
theorem str_end {b : ByteArray} {t : List UInt8} (h : b.data.toList = t) : b = ⟨t.toArray⟩ := by
  subst h; rfl
theorem dec_len : ∀ (k u : Nat), u < 10 ^ (k + 1) → (Lib.decDigits u).length ≤ k + 1
  | 0, u, h => by
    rw [Lib.decDigits, dif_pos (by simpa using h)]; simp
  | k + 1, u, h => by
    rw [Lib.decDigits]
    split
    · simp
    · have := dec_len k (u / 10) (by rw [Nat.pow_succ] at h; omega)
      simp only [List.length_append, List.length_cons, List.length_nil]
      omega
theorem LI.size {u y : Nat} {b : ByteArray} (h : LI u y b.data.toList) (hu : u ≤ 9223372036854775808) : b.size ≤ 20 := by
  have h1 := dec_len 19 u (by omega)
  have h2 : b.size = b.data.toList.length := rfl
  rw [h2]
  by_cases hy : 0 < y
  · have := congrArg List.length (h.1 hy)
    rw [List.length_append] at this
    omega
  · rw [h.2 (by omega)]; exact h1
theorem str_size (c : Int) : (strOfNums [c]).size = 1 := by
  have h : (strOfNums [c]).size = (strOfNums [c]).data.toList.length := rfl
  rw [h, strOfNums_data]; rfl
theorem litByte (w : World) (z : Int) : Sl .u8 (w.alloc (.cells #[.int .u8 z] 5)) (.slice (some ⟨w.heap.size, 0, none⟩) 1 1) [z] := Sl.lit .u8 w 5 [z] (by simp [maxLen])
set_option maxRecDepth 100000 in
theorem fmtZero (w : World) : Calls Tryd.prog 19 #[.int .i64 0] w fun e w' => e = .returned (.string ⟨(Lib.itoa 0).toArray⟩) ∧ Below w.heap.size w w' := by
  have HI := Lib.hid (show Lib.itoa 0 = [48] by unfold Lib.itoa; rw [if_neg (by omega)]; show Lib.decDigits 0 = [48]; rw [Lib.decDigits, dif_pos (by omega)]; rfl)
  generalize Lib.itoa 0 = t at HI ⊢
  go_enter Tryd.func19, Tryd.ntmps19
  go_wp2
  go_ret
  exact ⟨by rw [HI.out]; rfl, Below.refl _ _⟩
set_option maxRecDepth 100000 in
theorem fmtPos (n : Int) (h0 : -9223372036854775808 ≤ n) (h1 : n ≤ 9223372036854775807) (hn : 0 < n) (w : World) : Calls Tryd.prog 19 #[.int .i64 n] w fun e w' => e = .returned (.string ⟨(Lib.itoa n).toArray⟩) ∧ Below w.heap.size w w' := by
  obtain ⟨u, hu⟩ : ∃ u : Nat, n = (u : Int) := ⟨n.toNat, by omega⟩
  have hu0 : 0 < u := by omega
  have HI := Lib.hid (show Lib.itoa n = Lib.decDigits u by unfold Lib.itoa; rw [if_neg (by omega), hu]; rfl)
  have hne : (n == 0) = false := beq_eq_false_iff_ne.2 (by omega)
  have hnl : ¬ n < 0 := by omega
  have HU := Lib.hid hu
  have hum : u ≤ 9223372036854775808 := by omega
  clear hu
  go_enter Tryd.func19, Tryd.ntmps19
  go_wp2
  go_loopw [3, 4] (fun sv xv wr => ∃ (y : Nat) (x : Int) (b : ByteArray), Hid (x = (y : Int)) ∧ y ≤ u ∧ xv = .int .i64 x ∧ sv = .string b ∧ Hid (LI u y b.data.toList) ∧ Hid (Below w.heap.size w wr)) (fun _ xv _ => (intOf xv).natAbs)
  case atStart => exact ⟨u, n, ByteArray.empty, HU, Nat.le_refl _, rfl, rfl, Lib.hid (LI.start hu0), Lib.hid (Below.refl _ _)⟩
  case round =>
    obtain ⟨y, x, b, hx, hyu, rfl, rfl, HL, HB⟩ := hrel
    have hxv := hx.out
    by_cases hy : 0 < y
    · obtain ⟨z, hz⟩ : ∃ z, y % 10 = z := ⟨_, rfl⟩
      have hz10 : z < 10 := by omega
      obtain ⟨d, hd⟩ : ∃ d, x.tmod 10 = d := ⟨_, rfl⟩
      have hdv : d = (z : Int) := by rw [← hd, hxv]; rw [Int.tmod_eq_emod_of_nonneg (by omega)]; omega
      obtain ⟨c, hc⟩ : ∃ c : Int, c = ((48 + z : Nat) : Int) := ⟨_, rfl⟩
      have hd0 : ¬ d < 0 := by omega
      have hw1 : wrap64 (48 + d) = c := by unfold wrap64; omega
      have hw2 : c % 256 = c := by omega
      obtain ⟨x', hq⟩ : ∃ q, x.tdiv 10 = q := ⟨_, rfl⟩
      have hqv : x' = ((y / 10 : Nat) : Int) := by rw [← hq, hxv]; rw [Int.tdiv_eq_ediv_of_nonneg (by omega)]; omega
      have HQ := Lib.hid hqv
      have hw5 : wrap64 x' = x' := by unfold wrap64; omega
      have hxne : (x != 0) = true := by simp; omega
      have q := conv_runF (litByte wr c)
      have HL2 := Lib.hid (show LI u (y / 10) (strOfNums [c] ++ b).data.toList by rw [hc, str_cons z hz10, ← hz]; exact HL.out.step hy)
      have hlt : x'.natAbs < x.natAbs := by omega
      have BX := Lib.hid (bel_al HB.out (.cells #[.int .u8 c] 5))
      clear hz hz10 hqv hc hdv hxv
      have hsz : ¬ 9223372036854775807 < (strOfNums [c]).size + b.size := by have := HL.out.size hum; have := str_size c; omega
      generalize strOfNums [c] = sc at q HL2 hsz
      go_wp2_with fail
      go_roundw
      case rel => exact ⟨y / 10, x', sc ++ b, HQ, by omega, by go_num, rfl, HL2, BX⟩
      case measure => simpa [intOf, hw5] using hlt
    · obtain rfl : y = 0 := by omega
      obtain rfl : x = 0 := by omega
      have HBB := Lib.hid (str_end (HL.out.2 rfl))
      have hb20 := HL.out.size hum
      have hsz : ¬ 9223372036854775807 < 1 + b.size := by omega
      clear hxv hx hb20
      go_wp2
      go_ret
      exact ⟨by rw [HBB.out, HI.out]; rfl, HB.out⟩
set_option maxRecDepth 100000 in
theorem fmtNeg (n : Int) (h0 : -9223372036854775808 ≤ n) (h1 : n ≤ 9223372036854775807) (hn : n < 0) (w : World) : Calls Tryd.prog 19 #[.int .i64 n] w fun e w' => e = .returned (.string ⟨(Lib.itoa n).toArray⟩) ∧ Below w.heap.size w w' := by
  obtain ⟨u, hu⟩ : ∃ u : Nat, n = -(u : Int) := ⟨n.natAbs, by omega⟩
  have hu0 : 0 < u := by omega
  have HI := Lib.hid (show Lib.itoa n = 45 :: Lib.decDigits u by unfold Lib.itoa; rw [if_pos hn, show n.natAbs = u by omega])
  have hne : (n == 0) = false := beq_eq_false_iff_ne.2 (by omega)
  have hnl : n < 0 := by omega
  have HU := Lib.hid hu
  have hum : u ≤ 9223372036854775808 := by omega
  clear hu
  go_enter Tryd.func19, Tryd.ntmps19
  go_wp2
  go_loopw [3, 4] (fun sv xv wr => ∃ (y : Nat) (x : Int) (b : ByteArray), Hid (x = -(y : Int)) ∧ y ≤ u ∧ xv = .int .i64 x ∧ sv = .string b ∧ Hid (LI u y b.data.toList) ∧ Hid (Below w.heap.size w wr)) (fun _ xv _ => (intOf xv).natAbs)
  case atStart => exact ⟨u, n, ByteArray.empty, HU, Nat.le_refl _, rfl, rfl, Lib.hid (LI.start hu0), Lib.hid (Below.refl _ _)⟩
  case round =>
    obtain ⟨y, x, b, hx, hyu, rfl, rfl, HL, HB⟩ := hrel
    have hxv := hx.out
    by_cases hy : 0 < y
    · obtain ⟨z, hz⟩ : ∃ z, y % 10 = z := ⟨_, rfl⟩
      have hz10 : z < 10 := by omega
      obtain ⟨d, hd⟩ : ∃ d, x.tmod 10 = d := ⟨_, rfl⟩
      have hdv : d = -(z : Int) := by rw [← hd, hxv]; rw [Int.neg_tmod, Int.tmod_eq_emod_of_nonneg (by omega)]; omega
      obtain ⟨c, hc⟩ : ∃ c : Int, c = ((48 + z : Nat) : Int) := ⟨_, rfl⟩
      obtain ⟨e, he⟩ : ∃ e : Int, e = z := ⟨_, rfl⟩
      have hdd : (¬ d < 0 ∧ wrap64 (48 + d) = c) ∨ (d < 0 ∧ wrap64 (-d) = e ∧ wrap64 (48 + e) = c) := by
        by_cases hz0 : z = 0
        · exact .inl ⟨by omega, by unfold wrap64; omega⟩
        · exact .inr ⟨by omega, by unfold wrap64; omega, by unfold wrap64; omega⟩
      clear he
      have hw2 : c % 256 = c := by omega
      obtain ⟨x', hq⟩ : ∃ q, x.tdiv 10 = q := ⟨_, rfl⟩
      have hqv : x' = -((y / 10 : Nat) : Int) := by rw [← hq, hxv]; rw [Int.neg_tdiv, Int.tdiv_eq_ediv_of_nonneg (by omega)]; omega
      have HQ := Lib.hid hqv
      have hw5 : wrap64 x' = x' := by unfold wrap64; omega
      have hxne : (x != 0) = true := by simp; omega
      have q := conv_runF (litByte wr c)
      have HL2 := Lib.hid (show LI u (y / 10) (strOfNums [c] ++ b).data.toList by rw [hc, str_cons z hz10, ← hz]; exact HL.out.step hy)
      have hlt : x'.natAbs < x.natAbs := by omega
      have BX := Lib.hid (bel_al HB.out (.cells #[.int .u8 c] 5))
      clear hz hz10 hqv hc hdv hxv
      have hsz : ¬ 9223372036854775807 < (strOfNums [c]).size + b.size := by have := HL.out.size hum; have := str_size c; omega
      generalize strOfNums [c] = sc at q HL2 hsz
      rcases hdd with ⟨hd0, hw1⟩ | ⟨hd0, hw0, hw1⟩
      · go_wp2_with fail
        go_roundw
        case rel => exact ⟨y / 10, x', sc ++ b, HQ, by omega, by go_num, rfl, HL2, BX⟩
        case measure => simpa [intOf, hw5] using hlt
      · go_wp2_with fail
        go_roundw
        case rel => exact ⟨y / 10, x', sc ++ b, HQ, by omega, by go_num, rfl, HL2, BX⟩
        case measure => simpa [intOf, hw5] using hlt
    · obtain rfl : y = 0 := by omega
      obtain rfl : x = 0 := by omega
      have HBB := Lib.hid (str_end (HL.out.2 rfl))
      have hb20 := HL.out.size hum
      have hsz : ¬ 9223372036854775807 < 1 + b.size := by omega
      clear hxv hx hb20
      go_wp2
      go_ret
      exact ⟨by rw [HBB.out, HI.out]; rfl, HB.out⟩
theorem specFormatInt (n : Int) (h0 : -9223372036854775808 ≤ n) (h1 : n ≤ 9223372036854775807) (w : World) : Calls Tryd.prog 19 #[.int .i64 n] w fun e w' => e = .returned (.string ⟨(Lib.itoa n).toArray⟩) ∧ Below w.heap.size w w' := by
  rcases (show n = 0 ∨ 0 < n ∨ n < 0 by omega) with rfl | hn | hn
  · exact fmtZero w
  · exact fmtPos n h0 h1 hn w
  · exact fmtNeg n h0 h1 hn w
end Go.Proofs.YtamhlmeopbpjpaaDoor
