/- The walks of FormatToken: the two numerals with a colon between. -/
import Derived.Test.YtamhlmeopbpjpaaDoorProg
import Derived.Test.YtamhlmeopbpjpaaDoorItoa
import Derived.Test.YtamhlmeopbpjpaaDoorFmtInt
import Derived.Test.YtamhlmeopbpjpaaDoorLater
import Derived.Deep.RegionHeld3
namespace Go.Proofs.YtamhlmeopbpjpaaDoor
open Go.RowKit
set_option linter.unusedVariables false

/-- two cells of the box b, and all made since w -/
def fmtI (s v : Int) : ByteArray := (⟨(Lib.itoa s).toArray⟩ : ByteArray) ++ ⟨#[58]⟩ ++ ⟨(Lib.itoa v).toArray⟩
theorem itoa_len {n : Int} (h0 : -9223372036854775808 ≤ n) (h1 : n ≤ 9223372036854775807) : (⟨(Lib.itoa n).toArray⟩ : ByteArray).size ≤ 21 := by
  have h2 : (⟨(Lib.itoa n).toArray⟩ : ByteArray).size = (Lib.itoa n).length := by simp [ByteArray.size]
  rw [h2]
  unfold Lib.itoa
  split
  · have := dec_len 19 n.natAbs (by omega)
    simp only [List.length_cons]; omega
  · have := dec_len 19 n.toNat (by omega)
    omega
set_option maxRecDepth 100000 in
theorem specFormatToken (s v : Int) (w : World) (hs0 : -9223372036854775808 ≤ s) (hs1 : s ≤ 9223372036854775807) (hv0 : -9223372036854775808 ≤ v) (hv1 : v ≤ 9223372036854775807) (ht : Tab w) : Calls Tryd.prog 5 #[.agg #[.int .i64 s, .int .i64 v]] w fun e w' => e = .returned (.string (fmtI s v)) ∧ Below w.heap.size w w' := by
  have CS := Lib.hid (fun W => specFormatInt s hs0 hs1 W)
  have CV := Lib.hid (fun W => specFormatInt v hv0 hv1 W)
  have ls := itoa_len hs0 hs1
  have lv := itoa_len hv0 hv1
  have HF := Lib.hid (show fmtI s v = (⟨(Lib.itoa s).toArray⟩ : ByteArray) ++ ⟨#[58]⟩ ++ ⟨(Lib.itoa v).toArray⟩ from rfl)
  generalize (⟨(Lib.itoa s).toArray⟩ : ByteArray) = bs at CS ls HF
  generalize (⟨(Lib.itoa v).toArray⟩ : ByteArray) = bv at CV lv HF
  generalize fmtI s v = r at HF ⊢
  have k0 : (w.alloc (.cells #[.int .i64 s, .int .i64 v] 25)).cell? ⟨w.heap.size, 0, none⟩ = some (.int .i64 s) := by simp
  have k1 : (w.alloc (.cells #[.int .i64 s, .int .i64 v] 25)).cell? ⟨w.heap.size, 1, none⟩ = some (.int .i64 v) := by simp
  have B0 := Lib.hid (bel_al (Below.refl w.heap.size w) (.cells #[.int .i64 s, .int .i64 v] 25))
  have hz : w.heap.size < (w.alloc (.cells #[.int .i64 s, .int .i64 v] 25)).heap.size := by simp
  have hq1 : ¬ 9223372036854775807 < bs.size + 1 := by omega
  have hq2 : ¬ 9223372036854775807 < bs.size + 1 + bv.size := by omega
  clear ht ls lv hs0 hs1 hv0 hv1
  go_enter Tryd.func5, Tryd.ntmps5
  go_wp2_with fail
  generalize w.alloc (.cells #[.int .i64 s, .int .i64 v] 25) = W at CS CV k0 k1 B0 hz ⊢
  first
  | go_region_held3 (fun W' => W'.cell? ⟨w.heap.size, 0, none⟩ = some (.int .i64 s) ∧ W'.cell? ⟨w.heap.size, 1, none⟩ = some (.int .i64 v) ∧ Below W.heap.size W W') (first | assumption | exact keep2 h1A k0 k1 | exact keep2 h1B k0 k1 | exact keep2 h1A.drew k0 k1 | exact keep2 h1B.drew k0 k1 | exact keep2 (Below.refl _ _).drew k0 k1) (first | (go_at_call 19; (with_reducible refine (CS.out _).mono ?_); rintro e wA ⟨rfl, hbA⟩; have h1A : Below W.heap.size W wA := bel_seq (bel2 ‹_›) hbA) | (go_at_call 19; (with_reducible refine (CV.out _).mono ?_); rintro e wB ⟨rfl, hbB⟩; have h1B : Below W.heap.size W wB := bel_seq (bel2 ‹_›) hbB) | fail)
  | fail
  all_goals
    go_wp2
    go_ret
    exact ⟨by rw [HF.out]; rfl, bel_seq B0.out (bel2 ‹_›)⟩
set_option maxRecDepth 100000 in
theorem implFormatToken (s v : Int) (w : World) (hs0 : -9223372036854775808 ≤ s) (hs1 : s ≤ 9223372036854775807) (hv0 : -9223372036854775808 ≤ v) (hv1 : v ≤ 9223372036854775807) (ht : Tab w) : Calls Tryd.prog 7 #[.agg #[.int .i64 s, .int .i64 v]] w fun e w' => e = .returned (.string (fmtI s v)) ∧ Below w.heap.size w w' := by
  have CS := Lib.hid (fun W (hb : Below (w.alloc (.cells #[.int .i64 s, .int .i64 v] 25)).heap.size (w.alloc (.cells #[.int .i64 s, .int .i64 v] 25)) W) => implFormatInt s hs0 hs1 W ((ht.alloc _).below hb))
  have CV := Lib.hid (fun W (hb : Below (w.alloc (.cells #[.int .i64 s, .int .i64 v] 25)).heap.size (w.alloc (.cells #[.int .i64 s, .int .i64 v] 25)) W) => implFormatInt v hv0 hv1 W ((ht.alloc _).below hb))
  have ls := itoa_len hs0 hs1
  have lv := itoa_len hv0 hv1
  have HF := Lib.hid (show fmtI s v = (⟨(Lib.itoa s).toArray⟩ : ByteArray) ++ ⟨#[58]⟩ ++ ⟨(Lib.itoa v).toArray⟩ from rfl)
  generalize (⟨(Lib.itoa s).toArray⟩ : ByteArray) = bs at CS ls HF
  generalize (⟨(Lib.itoa v).toArray⟩ : ByteArray) = bv at CV lv HF
  generalize fmtI s v = r at HF ⊢
  have k0 : (w.alloc (.cells #[.int .i64 s, .int .i64 v] 25)).cell? ⟨w.heap.size, 0, none⟩ = some (.int .i64 s) := by simp
  have k1 : (w.alloc (.cells #[.int .i64 s, .int .i64 v] 25)).cell? ⟨w.heap.size, 1, none⟩ = some (.int .i64 v) := by simp
  have B0 := Lib.hid (bel_al (Below.refl w.heap.size w) (.cells #[.int .i64 s, .int .i64 v] 25))
  have hz : w.heap.size < (w.alloc (.cells #[.int .i64 s, .int .i64 v] 25)).heap.size := by simp
  have hq1 : ¬ 9223372036854775807 < bs.size + 1 := by omega
  have hq2 : ¬ 9223372036854775807 < bs.size + 1 + bv.size := by omega
  clear ht ls lv hs0 hs1 hv0 hv1
  go_enter Tryd.func7, Tryd.ntmps7
  go_wp2_with fail
  generalize w.alloc (.cells #[.int .i64 s, .int .i64 v] 25) = W at CS CV k0 k1 B0 hz ⊢
  first
  | go_region_held3 (fun W' => W'.cell? ⟨w.heap.size, 0, none⟩ = some (.int .i64 s) ∧ W'.cell? ⟨w.heap.size, 1, none⟩ = some (.int .i64 v) ∧ Below W.heap.size W W') (first | assumption | exact keep2 h1A k0 k1 | exact keep2 h1B k0 k1 | exact keep2 h1A.drew k0 k1 | exact keep2 h1B.drew k0 k1 | exact keep2 (Below.refl _ _).drew k0 k1) (first | (go_at_call 20; (with_reducible refine (CS.out _ (bel2 ‹_›)).mono ?_); rintro e wA ⟨rfl, hbA⟩; have h1A : Below W.heap.size W wA := bel_seq (bel2 ‹_›) hbA) | (go_at_call 20; (with_reducible refine (CV.out _ (bel2 ‹_›)).mono ?_); rintro e wB ⟨rfl, hbB⟩; have h1B : Below W.heap.size W wB := bel_seq (bel2 ‹_›) hbB) | fail)
  | fail
  all_goals
    go_wp2
    go_ret
    exact ⟨by rw [HF.out]; rfl, bel_seq B0.out (bel2 ‹_›)⟩
end Go.Proofs.YtamhlmeopbpjpaaDoor
