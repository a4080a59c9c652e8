/- The plain hash of the given program. -/
import Derived.Test.YtamhlmeopbpjpaaDoorBase
namespace Go.Proofs.YtamhlmeopbpjpaaDoor

def hstep (h v : Int) : Int := (h * 1000003 + v % 2147483647 + 13) % 2147483647
def hashI (l : List Int) : Int := l.foldl hstep 11
def keyedI (key : Int) (l : List Int) : Int := hashI ([key] ++ l ++ [key])
def childI (seed side : Int) : Int := (keyedI seed [47, side] * keyedI seed [47, side] + 5) % 2147483647
def orOneI (n : Int) : Int := if n = 0 then 1 else n

theorem hstep_nonneg (h v : Int) : 0 ≤ hstep h v := Int.emod_nonneg _ (by omega)
theorem hstep_lt (h v : Int) : hstep h v < 2147483647 := Int.emod_lt_of_pos _ (by omega)
theorem foldl_hstep_bd (l : List Int) : ∀ h, 0 ≤ h → h < 2147483647 → 0 ≤ l.foldl hstep h ∧ l.foldl hstep h < 2147483647 := by
  induction l with
  | nil => intro h a b; exact ⟨a, b⟩
  | cons x l ih => intro h a b; exact ih _ (hstep_nonneg h x) (hstep_lt h x)
theorem hashI_bd (l : List Int) : 0 ≤ hashI l ∧ hashI l < 2147483647 := foldl_hstep_bd l 11 (by omega) (by omega)
theorem keyedI_bd (key : Int) (l : List Int) : 0 ≤ keyedI key l ∧ keyedI key l < 2147483647 := hashI_bd _
theorem childI_bd (seed side : Int) : 0 ≤ childI seed side ∧ childI seed side < 2147483647 :=
  ⟨Int.emod_nonneg _ (by omega), Int.emod_lt_of_pos _ (by omega)⟩
theorem take_succ_getD (l : List Int) (k : Nat) (h : k < l.length) : l.take (k + 1) = l.take k ++ [l.getD k 0] := by
  rw [List.take_succ_eq_append_getElem h]; simp [List.getElem?_eq_getElem h]
theorem hashI_snoc (l : List Int) (k : Nat) (h : k < l.length) : hashI (l.take (k + 1)) = hstep (hashI (l.take k)) (l.getD k 0) := by
  rw [take_succ_getD l k h]; unfold hashI; rw [List.foldl_append]; rfl
theorem hashI_nil : hashI [] = 11 := rfl
theorem sq_bd {h : Int} (a : 0 ≤ h) (b : h < 2147483647) : 0 ≤ h * h ∧ h * h ≤ 2147483646 * 2147483646 :=
  ⟨Int.mul_nonneg a a, Int.mul_le_mul (by omega) (by omega) a (by omega)⟩
end Go.Proofs.YtamhlmeopbpjpaaDoor
