/- The walks of IsValidKey. -/
import Derived.Test.YtelcpihbdgikfaaProg
import Derived.Test.YtelcpihbdgikfaaTok
namespace Go.Proofs.Ytelcpihbdgikfaa
open Go.RowKit
/-- may the number be a key -/
def keyB (x : Int) : Bool := inR x 1 2147483646
theorem specIsKey (x : Int) (w : World) : Calls Try.prog 68 #[.int .i64 x] w fun e w' => e = .returned (.bool (keyB x)) ∧ w = w' := by
  cases h : inR x 1 2147483646 with
  | false =>
    have HF := Lib.hid (show keyB x = false from h)
    go_enter Try.func68, Try.ntmps68
    go_wp2_with (first | (go_at_call 108; (refine (specInRis h _).mono ?_); rintro e w0 ⟨rfl, rfl⟩))
    go_ret
    exact ⟨ret_bool HF.out.symm, rfl⟩
  | true =>
    have HF := Lib.hid (show keyB x = true from h)
    go_enter Try.func68, Try.ntmps68
    go_wp2_with (first | (go_at_call 108; (refine (specInRis h _).mono ?_); rintro e w0 ⟨rfl, rfl⟩))
    go_ret
    exact ⟨ret_bool HF.out.symm, rfl⟩
theorem specIsKeyis {x : Int} {b : Bool} (h : keyB x = b) (w : World) : Calls Try.prog 68 #[.int .i64 x] w fun e w' => e = .returned (.bool b) ∧ w = w' := by
  have := specIsKey x w
  rw [h] at this
  exact this
theorem implIsKey (x : Int) (w : World) : Calls Try.prog 63 #[.int .i64 x] w fun e w' => e = .returned (.bool (keyB x)) ∧ w = w' := by
  cases h : inR x 1 2147483646 with
  | false =>
    have HF := Lib.hid (show keyB x = false from h)
    go_enter Try.func63, Try.ntmps63
    go_wp2_with (first | (go_at_call 94; (refine (implInRis h _).mono ?_); rintro e w0 ⟨rfl, rfl⟩))
    go_ret
    exact ⟨ret_bool HF.out.symm, rfl⟩
  | true =>
    have HF := Lib.hid (show keyB x = true from h)
    go_enter Try.func63, Try.ntmps63
    go_wp2_with (first | (go_at_call 94; (refine (implInRis h _).mono ?_); rintro e w0 ⟨rfl, rfl⟩))
    go_ret
    exact ⟨ret_bool HF.out.symm, rfl⟩
theorem implIsKeyis {x : Int} {b : Bool} (h : keyB x = b) (w : World) : Calls Try.prog 63 #[.int .i64 x] w fun e w' => e = .returned (.bool b) ∧ w = w' := by
  have := implIsKey x w
  rw [h] at this
  exact this
end Go.Proofs.Ytelcpihbdgikfaa
