/- The walks over identities. -/
import Derived.Test.YtelcpihbdgikfaaProg
import Derived.Test.YtelcpihbdgikfaaTok
namespace Go.Proofs.Ytelcpihbdgikfaa
open Go.RowKit

def newIdI (s : Int) : Int × Int := if modI s 1019 == 0 then (0, 0) else (modI s 1019, powGroupI 4 (modI s 1019))
theorem ret_agg2 {x y x' y' : Int} (h : (x, y) = (x', y')) : Ending.returned (.agg #[.int .i64 x, .int .i64 y]) = .returned (.agg #[.int .i64 x', .int .i64 y']) := by cases h; rfl
theorem implNewIdentity (s : Int) (w : World) : Calls Try.prog 61 #[.int .i64 s] w fun e w' => e = .returned (.agg #[.int .i64 (newIdI s).1, .int .i64 (newIdI s).2]) ∧ Below w.heap.size w w' := by
  cases h1 : (modI s 1019 == 0) with
  | true =>
    have HV := Lib.hid (show newIdI s = (0, 0) by unfold newIdI; rw [h1]; rfl)
    go_enter Try.func61, Try.ntmps61
    go_wp2_with (first | (go_at_call 103; (refine (implMod _ _ _).mono ?_); rintro e w0 ⟨rfl, rfl⟩))
    exact bodyPost_ret (v := .agg #[.int .i64 0, .int .i64 0]) (by simp [results, Try.results61, go_sem]) rfl ⟨ret_agg2 HV.out.symm, (by repeat (first | exact Below.refl _ _ | refine bel_al ?_ _ | refine Below.setCell ?_ (by first | (simp; done) | (simp; omega)) _ | refine Below.drew ?_ | refine bel_drewN ?_ _))⟩
  | false =>
    have HV := Lib.hid (show newIdI s = (modI s 1019, powGroupI 4 (modI s 1019)) by unfold newIdI; rw [h1]; rfl)
    go_enter Try.func61, Try.ntmps61
    go_wp2_with (first | (go_at_call 103; (refine (implMod _ _ _).mono ?_); rintro e w0 ⟨rfl, rfl⟩) | (go_at_call 104; (refine (implPowGroup _ _ _).mono ?_); rintro e w0 ⟨rfl, rfl⟩))
    exact bodyPost_ret (v := .agg #[.int .i64 (modI s 1019), .int .i64 (powGroupI 4 (modI s 1019))]) (by simp [results, Try.results61, go_sem]) rfl ⟨ret_agg2 HV.out.symm, (by repeat (first | exact Below.refl _ _ | refine bel_al ?_ _ | refine Below.setCell ?_ (by first | (simp; done) | (simp; omega)) _ | refine Below.drew ?_ | refine bel_drewN ?_ _))⟩
theorem specNewIdentity (s : Int) (w : World) : Calls Try.prog 132 #[.int .i64 s] w fun e w' => e = .returned (.agg #[.int .i64 (newIdI s).1, .int .i64 (newIdI s).2]) ∧ Below w.heap.size w w' := by
  cases h1 : (modI s 1019 == 0) with
  | true =>
    have HV := Lib.hid (show newIdI s = (0, 0) by unfold newIdI; rw [h1]; rfl)
    go_enter Try.func132, Try.ntmps132
    go_wp2_with (first | (go_at_call 127; (refine (specMod _ _ _).mono ?_); rintro e w0 ⟨rfl, rfl⟩))
    exact bodyPost_ret (v := .agg #[.int .i64 0, .int .i64 0]) (by simp [results, Try.results132, go_sem]) rfl ⟨ret_agg2 HV.out.symm, (by repeat (first | exact Below.refl _ _ | refine bel_al ?_ _ | refine Below.setCell ?_ (by first | (simp; done) | (simp; omega)) _ | refine Below.drew ?_ | refine bel_drewN ?_ _))⟩
  | false =>
    have HV := Lib.hid (show newIdI s = (modI s 1019, powGroupI 4 (modI s 1019)) by unfold newIdI; rw [h1]; rfl)
    go_enter Try.func132, Try.ntmps132
    go_wp2_with (first | (go_at_call 127; (refine (specMod _ _ _).mono ?_); rintro e w0 ⟨rfl, rfl⟩) | (go_at_call 128; (refine (specPowGroup _ _ _).mono ?_); rintro e w0 ⟨rfl, rfl⟩))
    exact bodyPost_ret (v := .agg #[.int .i64 (modI s 1019), .int .i64 (powGroupI 4 (modI s 1019))]) (by simp [results, Try.results132, go_sem]) rfl ⟨ret_agg2 HV.out.symm, (by repeat (first | exact Below.refl _ _ | refine bel_al ?_ _ | refine Below.setCell ?_ (by first | (simp; done) | (simp; omega)) _ | refine Below.drew ?_ | refine bel_drewN ?_ _))⟩
def validIdI (s p : Int) : Bool := inR s 1 1018 && p == powGroupI 4 s
theorem implIsValidIdentity (s p : Int) (w : World) : Calls Try.prog 65 #[.agg #[.int .i64 s, .int .i64 p]] w fun e w' => e = .returned (.bool (validIdI s p)) ∧ Below w.heap.size w w' := by
  have HB := box2 w (.int .i64 s) (.int .i64 p) 59
  cases h1 : inR s 1 1018 with
  | false =>
    have HV := Lib.hid (show validIdI s p = false by unfold validIdI; rw [h1]; rfl)
    go_enter Try.func65, Try.ntmps65
    go_wp2_with fail
    generalize w.alloc (.cells #[.int .i64 s, .int .i64 p] 59) = W0 at HB ⊢
    obtain ⟨g1, g2, g3, g4⟩ := HB
    go_quiet (first | (go_at_call 94; exact quiet_same (implInRis h1 _)))
    go_wp2
    go_ret
    exact ⟨ret_bool HV.out.symm, by first | exact bel_drewN g4 _ | exact g4⟩
  | true =>
    have HV := Lib.hid (show validIdI s p = (p == powGroupI 4 s) by unfold validIdI; rw [h1]; rfl)
    go_enter Try.func65, Try.ntmps65
    go_wp2_with fail
    generalize w.alloc (.cells #[.int .i64 s, .int .i64 p] 59) = W0 at HB ⊢
    obtain ⟨g1, g2, g3, g4⟩ := HB
    go_quiet (first | (go_at_call 94; exact quiet_same (implInRis h1 _)) | (go_at_call 104; exact quiet_same (implPowGroup _ _ _)))
    go_wp2
    go_ret
    exact ⟨ret_bool HV.out.symm, by first | exact bel_drewN g4 _ | exact g4⟩
theorem specIsValidIdentity (s p : Int) (w : World) : Calls Try.prog 90 #[.agg #[.int .i64 s, .int .i64 p]] w fun e w' => e = .returned (.bool (validIdI s p)) ∧ Below w.heap.size w w' := by
  have HB := box2 w (.int .i64 s) (.int .i64 p) 59
  cases h1 : inR s 1 1018 with
  | false =>
    have HV := Lib.hid (show validIdI s p = false by unfold validIdI; rw [h1]; rfl)
    go_enter Try.func90, Try.ntmps90
    go_wp2_with fail
    generalize w.alloc (.cells #[.int .i64 s, .int .i64 p] 59) = W0 at HB ⊢
    obtain ⟨g1, g2, g3, g4⟩ := HB
    go_quiet (first | (go_at_call 108; exact quiet_same (specInRis h1 _)))
    go_wp2
    go_ret
    exact ⟨ret_bool HV.out.symm, by first | exact bel_drewN g4 _ | exact g4⟩
  | true =>
    have HV := Lib.hid (show validIdI s p = (p == powGroupI 4 s) by unfold validIdI; rw [h1]; rfl)
    go_enter Try.func90, Try.ntmps90
    go_wp2_with fail
    generalize w.alloc (.cells #[.int .i64 s, .int .i64 p] 59) = W0 at HB ⊢
    obtain ⟨g1, g2, g3, g4⟩ := HB
    go_quiet (first | (go_at_call 108; exact quiet_same (specInRis h1 _)) | (go_at_call 128; exact quiet_same (specPowGroup _ _ _)))
    go_wp2
    go_ret
    exact ⟨ret_bool HV.out.symm, by first | exact bel_drewN g4 _ | exact g4⟩
end Go.Proofs.Ytelcpihbdgikfaa
