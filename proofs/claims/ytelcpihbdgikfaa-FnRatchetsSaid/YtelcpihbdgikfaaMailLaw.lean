/- The laws' helpers on mailboxes; how facts are carried over a mark. -/
import Derived.Test.YtelcpihbdgikfaaProg
import Derived.Test.YtelcpihbdgikfaaMail
import Derived.Test.YtelcpihbdgikfaaInts
namespace Go.Proofs.Ytelcpihbdgikfaa
open Go.RowKit

theorem bytes_of_wf' {l : List Int} (h : ∀ x ∈ l, (Lit.int .u8 x).wf = true) : bytesOk l := by
  intro x hx
  have h1 := h x hx
  simp only [Lit.wf, Bool.and_eq_true, decide_eq_true_eq] at h1
  have e0 : IntKind.u8.min = 0 := by decide
  have e1 : IntKind.u8.max = 255 := by decide
  rw [e0, e1] at h1
  exact h1
theorem eqMailbox_yes (x y z : Int) (w : World) : Calls Try.prog 35 #[.agg #[.int .i64 x, .int .i64 y, .int .i64 z], .agg #[.int .i64 x, .int .i64 y, .int .i64 z]] w fun e w' => e = .returned (.bool true) ∧ Below w.heap.size w w' := by
  have h1 : (x != x) = false := by simp
  have h2 : (y != y) = false := by simp
  have h3 : (z != z) = false := by simp
  go_enter Try.func35, Try.ntmps35
  go_wp2
  go_ret
  exact ⟨rfl, (by repeat (first | exact Below.refl _ _ | refine bel_al ?_ _ | refine Below.setCell ?_ (by first | (simp; done) | (simp; omega)) _ | refine Below.drew ?_ | refine bel_drewN ?_ _))⟩
theorem sealI_len (key counter kind : Int) (body : List Int) : (sealI key counter kind body).1.length ≤ 24 := by
  unfold sealI
  split
  · rename_i h
    simp only [Bool.and_eq_true] at h
    have h3 := h.2
    simp only [plainOk, Bool.and_eq_true, decide_eq_true_eq] at h3
    rw [List.length_append, dataI_length _ _ _ (by omega), fourI_length]
    omega
  · simp
theorem openI_len (key counter : Int) (cell : List Int) : (openI key counter cell).1.2.length ≤ 20 := by
  unfold openI
  split
  · rename_i h
    simp only [Bool.and_eq_true, decide_eq_true_eq] at h
    simp only [List.length_take, List.length_drop, decI_length]
    omega
  · simp
theorem sendI_len (k s r d : Int) (body : List Int) : (sendI k s r d body).2.1.length ≤ 24 := by
  have h := sealI_len (directionKeyI k d) s 1 body
  unfold sendI sendWith
  split
  · exact h
  · simp
theorem recvI_len (k s r d : Int) (cell : List Int) : (recvI k s r d cell).2.1.length ≤ 24 := by
  have h := openI_len (directionKeyI k d) r cell
  unfold recvI recvWith
  split
  · exact Nat.le_trans h (by omega)
  · simp
/-- two rows of the call's own in memory of different ages lie apart -/
theorem Own.apart {k : IntKind} {e : TypeId} {base : Nat} {w : World} {ao : Option Addr} {N cap : Nat} {l : List Int} (h : Own k e base w ao N cap l) {k' : IntKind} {e' : TypeId} {base' : Nat} {w' : World} {bo : Option Addr} {M cap' : Nat} {m : List Int} (h' : Own k' e' base' w' bo M cap' m) (hlt : w.heap.size ≤ base') : ownB ao = none ∨ ownB ao ≠ ownB bo := by
  rcases h.shape with ⟨rfl, _⟩ | ⟨g, rfl, hg, hg'⟩
  · exact .inl rfl
  · refine .inr ?_
    rcases h'.shape with ⟨rfl, _⟩ | ⟨g2, rfl, hg2, _⟩
    · simp [ownB]
    · simp [ownB]; omega
theorem Own.apart' {k : IntKind} {e : TypeId} {base : Nat} {w : World} {ao : Option Addr} {N cap : Nat} {l : List Int} (h : Own k e base w ao N cap l) {k' : IntKind} {e' : TypeId} {base' : Nat} {w' : World} {bo : Option Addr} {M cap' : Nat} {m : List Int} (h' : Own k' e' base' w' bo M cap' m) (hlt : w'.heap.size ≤ base) : ownB ao = none ∨ ownB ao ≠ ownB bo := by
  rcases h.shape with ⟨rfl, _⟩ | ⟨g, rfl, hg, hg'⟩
  · exact .inl rfl
  · refine .inr ?_
    rcases h'.shape with ⟨rfl, _⟩ | ⟨g2, rfl, _, hg2⟩
    · simp [ownB]
    · simp [ownB]; omega
/-- a block that is older than a row, or younger than the world in which the row was made, is not the row's -/
theorem Own.notOld {k : IntKind} {e : TypeId} {base : Nat} {w : World} {ao : Option Addr} {N cap : Nat} {l : List Int} (h : Own k e base w ao N cap l) {b : Nat} (hb : b < base) : some b ≠ ownB ao := by
  rcases h.shape with ⟨rfl, _⟩ | ⟨g, rfl, hg, hg'⟩
  · simp [ownB]
  · simp [ownB]; omega
theorem Own.notNew {k : IntKind} {e : TypeId} {base : Nat} {w : World} {ao : Option Addr} {N cap : Nat} {l : List Int} (h : Own k e base w ao N cap l) {b : Nat} (hb : w.heap.size ≤ b) : some b ≠ ownB ao := by
  rcases h.shape with ⟨rfl, _⟩ | ⟨g, rfl, hg, hg'⟩
  · simp [ownB]
  · simp [ownB]; omega
theorem Own.belowG {k : IntKind} {e : TypeId} {base : Nat} {w : World} {ao : Option Addr} {N cap : Nat} {l : List Int} (h : Own k e base w ao N cap l) {W : World} (hg : w.grownBy W (ownB ao)) {B : Nat} (hB : B ≤ base) (hW : B ≤ w.heap.size) : Below B w W :=
  grown_below hg hW (fun j hj => by
    rcases h.shape with ⟨rfl, _⟩ | ⟨g, rfl, hg, hg'⟩
    · simp [ownB] at hj
    · simp [ownB] at hj; omega)
end Go.Proofs.Ytelcpihbdgikfaa
