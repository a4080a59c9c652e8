/- Plain functions on lists of integers that the given program computes, and the walks of the small functions over slices: membership, ascending order, equality, copies. -/
import Derived.Test.YtelcpihbdgikfaaProg
import Derived.Test.YtelcpihbdgikfaaTok
import Derived.Test.YtelcpihbdgikfaaOwn
import Derived.WalkKit
import Derived.WalkSpells
import Derived.WalkLawsBesides
import Derived.Outline
import Derived.Lib.Hide
import Derived.Deep.QuietTactic
import Derived.BigQuiet
namespace Go.Proofs.Ytelcpihbdgikfaa
open Go.RowKit

/-- is it in the list -/
def memB (l : List Int) (x : Int) : Bool := l.any fun y => y == x
theorem memB_iff (l : List Int) (x : Int) : memB l x = true ↔ x ∈ l := by
  unfold memB
  rw [List.any_eq_true]
  constructor
  · rintro ⟨y, hy, h⟩; rw [beq_iff_eq] at h; exact h ▸ hy
  · intro h; exact ⟨x, h, by simp⟩
theorem memB_yes {l : List Int} {x : Int} {i : Nat} (h : i < l.length) (he : l.getD i 0 = x) : memB l x = true := by
  rw [memB_iff, ← he]
  simp [List.getD, h]
theorem memB_no {l : List Int} {x : Int} (h : ∀ i, i < l.length → ¬ l.getD i 0 = x) : memB l x = false := by
  rw [← Bool.not_eq_true, memB_iff]
  intro hm
  obtain ⟨i, hi, e⟩ := List.getElem_of_mem hm
  exact h i hi (by simp [List.getD, hi, e])
/-- one place of an ascending list within a range -/
def ascAt (l : List Int) (lo hi : Int) (i : Nat) : Bool := inR (l.getD i 0) lo hi && (i == 0 || decide (l.getD (i - 1) 0 < l.getD i 0))
def ascI (l : List Int) (lo hi : Int) : Bool := (List.range l.length).all (ascAt l lo hi)
theorem ascI_no {l : List Int} {lo hi : Int} {i : Nat} (h : i < l.length) (e : ascAt l lo hi i = false) : ascI l lo hi = false := by
  rw [← Bool.not_eq_true]
  unfold ascI
  rw [List.all_eq_true]
  intro hh
  have := hh i (List.mem_range.2 h)
  rw [e] at this
  cases this
theorem ascI_yes {l : List Int} {lo hi : Int} (h : ∀ i, i < l.length → ascAt l lo hi i = true) : ascI l lo hi = true := by
  unfold ascI
  rw [List.all_eq_true]
  intro i hi
  exact h i (List.mem_range.1 hi)
/-- two slices that can be read, opened at a place -/
theorem Sl.at {k : IntKind} {w : World} {a : Option Addr} {n c : Nat} {l : List Int} (h : Sl k w (.slice a n c) l) {i : Nat} (hi : i < n) : ∃ b off, a = some ⟨b, off, none⟩ ∧ b < w.heap.size ∧ ∀ j, j < n → w.cell? ⟨b, off + j, none⟩ = some (.int k (l.getD j 0)) := by
  have hn := h.len
  rcases h with ⟨h0, _⟩ | ⟨b, off, cap, hv, h1, h2, h3, h4⟩
  · rw [h0] at hn; simp at hn; omega
  · simp only [Value.slice.injEq] at hv
    exact ⟨b, off, hv.1, h3, fun j hj => h4 j (by omega)⟩
theorem Sl.shape {k : IntKind} {w : World} {v : Value} {l : List Int} (h : Sl k w v l) : ∃ a c, v = .slice a l.length c ∧ l.length ≤ 9223372036854775807 := by
  have hm := h.max
  unfold maxLen at hm
  rcases h with ⟨rfl, a, cap, rfl, _⟩ | ⟨b, off, cap, rfl, _⟩
  · exact ⟨a, cap, rfl, by omega⟩
  · exact ⟨_, cap, rfl, by omega⟩

def idxI (l : List Int) (x : Int) : Int := ((l.findIdx? fun y => y == x).map fun (i : Nat) => (i : Int)).getD (-1)
theorem findIdx_at : ∀ (l : List Int) (x : Int) (i : Nat), i < l.length → l.getD i 0 = x → (∀ j, j < i → ¬ l.getD j 0 = x) → (l.findIdx? fun y => y == x) = some i := by
  intro l
  induction l with
  | nil => intro x i h; simp at h
  | cons y l ih =>
    intro x i h he hn
    rw [List.findIdx?_cons]
    cases i with
    | zero => rw [if_pos (by simpa using he)]
    | succ i =>
      have h0 := hn 0 (by omega)
      rw [if_neg (by simpa using h0), ih x i (by simpa using h) (by simpa using he) (fun j hj => by simpa using hn (j + 1) (by omega))]
      rfl
theorem idxI_at {l : List Int} {x : Int} {i : Nat} (h : i < l.length) (he : l.getD i 0 = x) (hn : ∀ j, j < i → ¬ l.getD j 0 = x) : idxI l x = i := by
  unfold idxI; rw [findIdx_at l x i h he hn]; rfl
theorem idxI_none {l : List Int} {x : Int} (hn : ∀ j, j < l.length → ¬ l.getD j 0 = x) : idxI l x = -1 := by
  unfold idxI
  have : (l.findIdx? fun y => y == x) = none := by
    rw [List.findIdx?_eq_none_iff]
    intro y hy
    obtain ⟨i, hi, e⟩ := List.getElem_of_mem hy
    have := hn i hi
    simp only [List.getD, List.getElem?_eq_getElem hi, Option.getD_some, e] at this
    simpa using this
  rw [this]; rfl
theorem idxI_mem (l : List Int) (x : Int) : (decide (0 ≤ idxI l x)) = memB l x := by
  by_cases h : ∃ i, i < l.length ∧ l.getD i 0 = x
  · obtain ⟨i, hi, he⟩ := h
    rw [memB_yes hi he]
    unfold idxI
    cases hf : (l.findIdx? fun y => y == x) with
    | none =>
      rw [List.findIdx?_eq_none_iff] at hf
      have := hf x (by rw [← he]; simp [List.getD, hi])
      simp at this
    | some j => simp
  · rw [idxI_none (fun j hj e => h ⟨j, hj, e⟩), memB_no (fun j hj e => h ⟨j, hj, e⟩)]; rfl
theorem slIndex (v : Value) (l : List Int) (x : Int) (w : World) (hs : Sl .i64 w v l) : Calls Try.prog 131 #[v, .int .i64 x] w fun e w' => e = .returned (.int .i64 (idxI l x)) ∧ w = w' := by
  obtain ⟨a, c, rfl, hm⟩ := hs.shape
  have HS := Lib.hid hs
  clear hs
  go_enter Try.func131, Try.ntmps131
  go_wp2
  go_loop [8] (fun i => ∃ k : Nat, k ≤ l.length ∧ i = .int .i64 k ∧ Hid (∀ j, j < k → ¬ l.getD j 0 = x)) (fun i => l.length - (intOf i).toNat)
  case atStart => exact ⟨0, Nat.zero_le _, rfl, Lib.hid (fun j hj => by omega)⟩
  case round =>
    obtain ⟨k, hk, rfl, HK⟩ := hrel
    by_cases hlt : k < l.length
    · obtain ⟨b, off, rfl, hb, h4⟩ := HS.out.at hlt
      have hc1 := h4 k hlt
      clear h4 hb
      by_cases he : l.getD k 0 = x
      · have HF := Lib.hid (idxI_at hlt he HK.out)
        rw [he] at hc1
        have e1 : (x == x) = true := by simp
        clear he
        go_wp2
        go_ret
        exact ⟨ret_int HF.out.symm, rfl⟩
      · have HK' : Hid (∀ j, j < k + 1 → ¬ l.getD j 0 = x) := Lib.hid (fun j hj => by
          rcases Nat.lt_succ_iff_lt_or_eq.1 hj with h | h
          · exact HK.out j h
          · rw [h]; exact he)
        have e1 : (x == l.getD k 0) = false := by simp; exact fun h => he (by simpa [List.getD] using h.symm)
        generalize l.getD k 0 = y at hc1 e1
        clear he
        go_wp2
        go_round
        case rel => exact ⟨k + 1, by omega, by go_num, HK'⟩
        case measure => simp [intOf]; omega
    · have : k = l.length := by omega
      subst this
      have HF := Lib.hid (idxI_none HK.out)
      go_wp2
      go_ret
      exact ⟨ret_int HF.out.symm, rfl⟩
theorem slContains (v : Value) (l : List Int) (x : Int) (w : World) (hs : Sl .i64 w v l) : Calls Try.prog 97 #[v, .int .i64 x] w fun e w' => e = .returned (.bool (memB l x)) ∧ w = w' := by
  have HM := Lib.hid (idxI_mem l x)
  go_enter Try.func97, Try.ntmps97
  go_wp2_with (first | (go_at_call 131; (refine (slIndex _ _ _ _ hs).mono ?_); rintro e w0 ⟨rfl, rfl⟩))
  go_ret
  exact ⟨ret_bool HM.out, rfl⟩
theorem beq_list_at {l m : List Int} (i : Nat) (hne : ¬ l.getD i 0 = m.getD i 0) : (l == m) = false := by
  rw [← Bool.not_eq_true, beq_iff_eq]
  intro e; exact hne (by rw [e])
theorem beq_list_len {l m : List Int} (h : ¬ l.length = m.length) : (l == m) = false := by
  rw [← Bool.not_eq_true, beq_iff_eq]
  intro e; exact h (by rw [e])
theorem beq_list_yes {l m : List Int} (h : l.length = m.length) (he : ∀ i, i < l.length → l.getD i 0 = m.getD i 0) : (l == m) = true := by
  rw [beq_iff_eq]; exact eq_of_getD h he
theorem slEqualB (v u : Value) (l m : List Int) (w : World) (hs : Sl .u8 w v l) (hu : Sl .u8 w u m) : Calls Try.prog 93 #[v, u] w fun e w' => e = .returned (.bool (l == m)) ∧ Below w.heap.size w w' := by
  obtain ⟨a, c, rfl, hm⟩ := hs.shape
  obtain ⟨a', c', rfl, hm'⟩ := hu.shape
  have HS := Lib.hid hs
  have HU := Lib.hid hu
  clear hs hu
  by_cases hl : l.length = m.length
  · have HL := Lib.hid hl
    have hne : ((l.length : Int) != (m.length : Int)) = false := by simp [hl]
    clear hl
    go_enter Try.func93, Try.ntmps93
    go_wp2
    go_loopw [13] (fun i wr => ∃ k : Nat, k ≤ l.length ∧ i = .int .i64 k ∧ (∃ n, wr = w.drewN n) ∧ Hid (∀ j, j < k → l.getD j 0 = m.getD j 0)) (fun i _ => l.length - (intOf i).toNat)
    case atStart => exact ⟨0, Nat.zero_le _, rfl, ⟨0, rfl⟩, Lib.hid (fun j hj => by omega)⟩
    case round =>
      obtain ⟨k, hk, rfl, ⟨n, rfl⟩, HK⟩ := hrel
      by_cases hlt : k < l.length
      · have hlt2 : k < m.length := by have := HL.out; omega
        obtain ⟨b, off, rfl, hb, h4⟩ := HS.out.at hlt
        obtain ⟨b', off', rfl, hb', h4'⟩ := HU.out.at hlt2
        have hc1 : (w.drewN n).cell? ⟨b, off + k, none⟩ = some (.int .u8 (l.getD k 0)) := h4 k hlt
        have hc2 : (w.drewN n).cell? ⟨b', off' + k, none⟩ = some (.int .u8 (m.getD k 0)) := h4' k hlt2
        clear h4 h4' hb hb'
        by_cases he : l.getD k 0 = m.getD k 0
        · have HK' : Hid (∀ j, j < k + 1 → l.getD j 0 = m.getD j 0) := Lib.hid (fun j hj => by
            rcases Nat.lt_succ_iff_lt_or_eq.1 hj with h | h
            · exact HK.out j h
            · rw [h]; exact he)
          rw [← he] at hc2
          clear he
          generalize l.getD k 0 = y at hc1 hc2
          have e1 : (y != y) = false := by simp
          generalize hww : w.drewN n = wn at hc1 hc2 ⊢
          have HW := Lib.hid hww
          clear hww
          go_wp2_with fail
          go_quiet (fail)
          go_wp2
          go_roundw
          case rel => exact ⟨k + 1, by omega, by go_num, ⟨_, by rw [← HW.out, World.drewN_drewN]⟩, HK'⟩
          case measure => simp [intOf]; omega
        · have HF := Lib.hid (beq_list_at k he)
          have e1 : (l.getD k 0 != m.getD k 0) = true := by rw [bne_iff_ne]; exact he
          generalize l.getD k 0 = y at hc1 e1
          generalize m.getD k 0 = z at hc2 e1
          clear he
          generalize hww : w.drewN n = wn at hc1 hc2 ⊢
          have HW := Lib.hid hww
          clear hww
          go_wp2_with fail
          go_quiet (fail)
          go_wp2
          go_ret
          exact ⟨ret_bool HF.out.symm, by rw [← HW.out]; exact bel_drewN (bel_drewN (Below.refl _ _) _) _⟩
      · have : k = l.length := by omega
        subst this
        have HF := Lib.hid (beq_list_yes HL.out HK.out)
        go_wp2
        go_ret
        exact ⟨ret_bool HF.out.symm, bel_drewN (Below.refl _ _) _⟩
  · have HF := Lib.hid (beq_list_len hl)
    have hne : ((l.length : Int) != (m.length : Int)) = true := by rw [bne_iff_ne]; omega
    clear hl
    go_enter Try.func93, Try.ntmps93
    go_wp2
    go_ret
    exact ⟨ret_bool HF.out.symm, Below.refl _ _⟩
end Go.Proofs.Ytelcpihbdgikfaa
