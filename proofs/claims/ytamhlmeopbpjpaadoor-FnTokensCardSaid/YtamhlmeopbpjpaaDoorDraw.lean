/- The walks of the functions that draw from a code: a cursor in memory (Cur), and of every number that is drawn only its range. -/
import Derived.Test.YtamhlmeopbpjpaaDoorProg
import Derived.Test.YtamhlmeopbpjpaaDoorOwn
import Derived.Test.YtamhlmeopbpjpaaDoorLists
import Derived.Test.YtamhlmeopbpjpaaDoorLater
import Derived.Test.YtamhlmeopbpjpaaDoorTok
import Derived.Test.YtamhlmeopbpjpaaDoorGroupPlain
import Derived.Laws.BitsLemmas
import Derived.WalkKit
import Derived.WalkSpells
import Derived.WalkLawsBesides
import Derived.Outline
import Derived.Lib.Hide
import Derived.Deep.QuietTactic
import Derived.BigQuiet
namespace Go.Proofs.YtamhlmeopbpjpaaDoor
open Go.RowKit

theorem and255 (x : Int) : 0 ≤ bits .and .i64 x 255 ∧ bits .and .i64 x 255 ≤ 255 := by
  have h : (BitVec.ofInt IntKind.i64.bits x &&& BitVec.ofInt IntKind.i64.bits 255).toNat ≤ 255 := by
    rw [BitVec.toNat_and]
    exact Nat.le_trans Nat.and_le_right (by decide)
  simp only [bits]
  rw [IntKind.wrap_i64]
  omega
theorem bytes_of_wf {l : List Int} (h : ∀ x ∈ l, (Lit.int .u8 x).wf = true) : ∀ x ∈ l, 0 ≤ x ∧ x ≤ 255 := by
  intro x hx
  have h1 := h x hx
  simp only [Lit.wf, Bool.and_eq_true, decide_eq_true_eq] at h1
  have e0 : IntKind.u8.min = 0 := by decide
  have e1 : IntKind.u8.max = 255 := by decide
  rw [e0, e1] at h1
  exact h1
/-- the cursor in block p: the code's value, the place, the state -/
def Cur (w : World) (p : Nat) (v : Value) (l : List Int) : Prop :=
  ∃ i h : Int, w.cell? ⟨p, 0, none⟩ = some v ∧ w.cell? ⟨p, 1, none⟩ = some (.int .i64 i) ∧ w.cell? ⟨p, 2, none⟩ = some (.int .i64 h) ∧ w.frozen? ⟨p, 1, none⟩ = false ∧ w.frozen? ⟨p, 2, none⟩ = false ∧ 0 ≤ i ∧ i ≤ l.length ∧
    Sl .u8 w v l ∧ (∀ b off n c, v = .slice (some ⟨b, off, none⟩) n c → 0 < l.length → b < p) ∧ (∀ x ∈ l, 0 ≤ x ∧ x ≤ 255)
theorem grown_set (w : World) (b o : Nat) (u : Value) : w.grownBy (w.setCell ⟨b, o, none⟩ u) (some b) := ⟨rfl, rfl, rfl, by simp [World.setCell], fun i _ hne => Below.heap_setCell _ _ _ _ (fun e => hne (by rw [e]))⟩
theorem grown_drewN (w : World) (n : Nat) (row : Option Nat) : w.grownBy (w.drewN n) row := below_grown (bel_drewN (Below.refl _ _) n) row
theorem Sl.cur {k : IntKind} {w w' : World} {v : Value} {l : List Int} {p : Nat} (h : Sl k w v l) (hg : w.grownBy w' (some p)) (hne : ∀ b off n c, v = .slice (some ⟨b, off, none⟩) n c → 0 < l.length → b < p) : Sl k w' v l := by
  by_cases h0 : 0 < l.length
  · exact h.grown hg (fun b off n c e => by have := hne b off n c e h0; simp; omega)
  · obtain rfl : l = [] := List.length_eq_zero_iff.1 (by omega)
    rcases h with h | ⟨b, off, cap, rfl, _, h2, _, _⟩
    · exact .inl h
    · exact .inl ⟨rfl, _, cap, rfl, h2, by simp⟩
/-- a new state in the cursor, some draws of the world's own tape -/
theorem Cur.state {w : World} {p : Nat} {v : Value} {l : List Int} (hc : Cur w p v l) (h : Int) (n : Nat) : Cur ((w.setCell ⟨p, 2, none⟩ (.int .i64 h)).drewN n) p v l ∧ w.grownBy ((w.setCell ⟨p, 2, none⟩ (.int .i64 h)).drewN n) (some p) := by
  obtain ⟨i, h0, g0, g1, g2, f1, f2, hi0, hi1, hs, hne, hby⟩ := hc
  have hz := World.block_lt_of_cell? w _ g0
  have hg := grown_trans (grown_set w p 2 (.int .i64 h)) (grown_drewN _ n _)
  refine ⟨⟨i, h, ?_, ?_, ?_, ?_, ?_, hi0, hi1, hs.cur hg hne, hne, hby⟩, hg⟩
  · show (w.setCell ⟨p, 2, none⟩ (.int .i64 h)).cell? ⟨p, 0, none⟩ = _
    simp [go_sem, *]
  · show (w.setCell ⟨p, 2, none⟩ (.int .i64 h)).cell? ⟨p, 1, none⟩ = _
    simp [go_sem, *]
  · show (w.setCell ⟨p, 2, none⟩ (.int .i64 h)).cell? ⟨p, 2, none⟩ = _
    simp [go_sem, *]
  · show (w.setCell ⟨p, 2, none⟩ (.int .i64 h)).frozen? ⟨p, 1, none⟩ = _
    simp [go_sem, *]
  · show (w.setCell ⟨p, 2, none⟩ (.int .i64 h)).frozen? ⟨p, 2, none⟩ = _
    simp [go_sem, *]
/-- a new place in the cursor -/
theorem Cur.place {w : World} {p : Nat} {v : Value} {l : List Int} (hc : Cur w p v l) (i : Int) (h0 : 0 ≤ i) (h1 : i ≤ l.length) : Cur (w.setCell ⟨p, 1, none⟩ (.int .i64 i)) p v l ∧ w.grownBy (w.setCell ⟨p, 1, none⟩ (.int .i64 i)) (some p) := by
  obtain ⟨i0, h, g0, g1, g2, f1, f2, hi0, hi1, hs, hne, hby⟩ := hc
  have hz := World.block_lt_of_cell? w _ g0
  have hg := grown_set w p 1 (.int .i64 i)
  refine ⟨⟨i, h, ?_, ?_, ?_, ?_, ?_, h0, h1, hs.cur hg hne, hne, hby⟩, hg⟩ <;> simp [go_sem, *]
theorem Cur.drewN {w : World} {p : Nat} {v : Value} {l : List Int} (hc : Cur w p v l) (n : Nat) : Cur (w.drewN n) p v l := by
  obtain ⟨i, h, g0, g1, g2, f1, f2, hi0, hi1, hs, hne, hby⟩ := hc
  exact ⟨i, h, g0, g1, g2, f1, f2, hi0, hi1, hs.below (bel_drewN (Below.refl _ _) n), hne, hby⟩
theorem l1Byte (p : Nat) (v : Value) (l : List Int) (w : World) (hc : Cur w p v l) : Calls Tryd.prog 37 #[.pointer (some ⟨p, 0, none⟩)] w fun e w' => ∃ x : Int, e = .returned (.int .i64 x) ∧ 0 ≤ x ∧ x ≤ 255 ∧ Cur w' p v l ∧ w.grownBy w' (some p) := by
  have HC := Lib.hid hc
  obtain ⟨i, h, g0, g1, g2, f1, f2, hi0, hi1, hs, hne, hby⟩ := hc
  have hz := World.block_lt_of_cell? w _ g0
  obtain ⟨h1, hh1⟩ : ∃ h1, IntKind.i64.wrap (h * 6364136223846793005) = h1 := ⟨_, rfl⟩
  obtain ⟨h2, hh2⟩ : ∃ h2, IntKind.i64.wrap (h1 + 1442695040888963407) = h2 := ⟨_, rfl⟩
  obtain ⟨q, hq⟩ : ∃ q, bits .and .i64 (bits .xor .i64 (h2 / 8589934592) (h2 / 140737488355328)) 255 = q := ⟨_, rfl⟩
  have hq2 := and255 (bits .xor .i64 (h2 / 8589934592) (h2 / 140737488355328))
  rw [hq] at hq2
  obtain ⟨hq0, hq1⟩ := hq2
  obtain ⟨a, n, c, rfl⟩ : ∃ a n c, v = .slice a n c := by
    rcases hs with ⟨_, a, cap, rfl, _⟩ | ⟨b, off, cap, rfl, _⟩ <;> exact ⟨_, _, _, rfl⟩
  have hn := hs.len
  subst hn
  clear hs hne hby
  go_enter Tryd.func37, Tryd.ntmps37
  go_wp2_with fail
  go_quiet (fail)
  have hst := HC.out.state h2 nq
  generalize (w.setCell ⟨p, 2, none⟩ (.int .i64 h2)).drewN nq = W1 at hst ⊢
  clear g0 g1 g2 f1 f2 hi0 hi1 hz hh1 hh2 hq
  have HG1 := Lib.hid hst.2
  have HC1 := Lib.hid hst.1
  clear hst
  obtain ⟨i1, h3, k0, k1, k2, e1, e2, hi0, hi1, hs, hne, hby⟩ := HC1.out
  have hm := hs.max
  unfold maxLen at hm
  have hz := World.block_lt_of_cell? W1 _ k0
  by_cases hlt : i1 < (l.length : Int)
  · obtain ⟨j, rfl⟩ := Int.eq_ofNat_of_zero_le hi0
    have hj : j < l.length := by omega
    obtain ⟨b, off, rfl, hb, h4⟩ := hs.at hj
    have hcl := h4 j hj
    have hy := hby (l.getD j 0) (by simp [List.getD, hj])
    obtain ⟨y, hye⟩ : ∃ y, y = l.getD j 0 := ⟨_, rfl⟩
    rw [← hye] at hcl hy
    obtain ⟨hy0, hy1⟩ := hy
    obtain ⟨q2, hq2⟩ : ∃ q2, bits .and .i64 (q + y) 255 = q2 := ⟨_, rfl⟩
    have hq3 := and255 (q + y)
    rw [hq2] at hq3
    obtain ⟨hq4, hq5⟩ := hq3
    clear hye h4 hb hs hne hby
    go_wp2_with fail
    go_quiet (fail)
    go_wp2_with fail
    go_quiet (fail)
    go_wp2
    go_ret
    have hp := fun m => (HC1.out.drewN m).place (j + 1) (by omega) (by omega)
    exact ⟨q2, rfl, hq4, hq5, (hp _).1, grown_trans HG1.out (grown_trans (grown_drewN _ _ _) (hp _).2)⟩
  · clear hs hne hby
    go_wp2_with fail
    go_quiet (fail)
    go_wp2
    go_ret
    exact ⟨q, rfl, hq0, hq1, HC1.out.drewN _, grown_trans HG1.out (grown_drewN _ _ _)⟩
theorem l1Below (p : Nat) (v : Value) (l : List Int) (n : Int) (w : World) (hc : Cur w p v l) (hn : 0 < n) (hn2 : n ≤ 100000) : Calls Tryd.prog 22 #[.pointer (some ⟨p, 0, none⟩), .int .i64 n] w fun e w' => ∃ x : Int, e = .returned (.int .i64 x) ∧ 0 ≤ x ∧ x < n ∧ Cur w' p v l ∧ w.grownBy w' (some p) := by
  have HC := Lib.hid hc
  clear hc
  by_cases hs : n ≤ 256
  · go_enter Tryd.func22, Tryd.ntmps22
    go_wp2_with (first | (go_at_call 37; (refine (l1Byte p v l _ HC.out).mono ?_); rintro e w1 ⟨x, rfl, hx0, hx1, hc1, hg1⟩))
    have HC1 := Lib.hid hc1
    have HG1 := Lib.hid hg1
    clear hc1 hg1
    go_ret
    exact ⟨_, rfl, Int.emod_nonneg _ (by omega), Int.emod_lt_of_pos _ hn, HC1.out, HG1.out⟩
  · go_enter Tryd.func22, Tryd.ntmps22
    go_wp2_with fail
    refine (l1Byte p v l _ HC.out).mono ?_
    rintro e w1 ⟨x, rfl, hx0, hx1, hc1, hg1⟩
    have HC1 := Lib.hid hc1
    have HG1 := Lib.hid hg1
    clear hc1 hg1
    go_wp2_with fail
    refine (l1Byte p v l _ HC1.out).mono ?_
    rintro e w2 ⟨y, rfl, hy0, hy1, hc2, hg2⟩
    have HC2 := Lib.hid hc2
    have HG2 := Lib.hid hg2
    clear hc2 hg2
    go_wp2_with fail
    refine (l1Byte p v l _ HC2.out).mono ?_
    rintro e w3 ⟨z, rfl, hz0, hz1, hc3, hg3⟩
    have HC3 := Lib.hid hc3
    have HG3 := Lib.hid hg3
    clear hc3 hg3
    go_wp2
    go_ret
    exact ⟨_, rfl, Int.emod_nonneg _ (by omega), Int.emod_lt_of_pos _ hn, HC3.out, grown_trans HG1.out (grown_trans HG2.out HG3.out)⟩
theorem newCur {w : World} {v : Value} {l : List Int} (hs : Sl .u8 w v l) (hby : ∀ x ∈ l, 0 ≤ x ∧ x ≤ 255) (h : Int) (e : TypeId) : Cur (w.alloc (.cells #[v, .int .i64 0, .int .i64 h] e)) w.heap.size v l := by
  refine ⟨0, h, by simp, by simp, by simp, ?_, ?_, Int.le_refl _, by omega, hs.alloc _, ?_, hby⟩
  · simp [go_sem]
  · simp [go_sem]
  · intro b off n c hv h0
    rcases hs with ⟨rfl, a, cap, rfl, _⟩ | ⟨b', off', cap, rfl, _, _, h3, _⟩
    · simp at h0
    · simp only [Value.slice.injEq, Option.some.injEq, Addr.mk.injEq] at hv
      omega
theorem l1New (v : Value) (l : List Int) (w : World) (hs : Sl .u8 w v l) (hl : l.length ≤ 1048576) (hby : ∀ x ∈ l, 0 ≤ x ∧ x ≤ 255) : Calls Tryd.prog 21 #[v] w fun e w' => e = .returned (.pointer (some ⟨w.heap.size, 0, none⟩)) ∧ Cur w' w.heap.size v l ∧ Below w.heap.size w w' := by
  obtain ⟨a, c, rfl, hm⟩ := hs.shape
  have HS := Lib.hid hs
  have HB := Lib.hid hby
  clear hs hby
  go_enter Tryd.func21, Tryd.ntmps21
  go_wp2
  go_loop [3, 4] (fun hh i => ∃ (k : Nat) (h : Int), k ≤ l.length ∧ i = .int .i64 k ∧ hh = .int .i64 h) (fun _ i => l.length - (intOf i).toNat)
  case atStart => exact ⟨0, _, Nat.zero_le _, rfl, rfl⟩
  case round =>
    obtain ⟨k, h, hk, rfl, rfl⟩ := hrel
    by_cases hlt : k < l.length
    · obtain ⟨b, off, rfl, hb, h4⟩ := HS.out.at hlt
      have hc1 := h4 k hlt
      have hy := HB.out (l.getD k 0) (by simp [List.getD, hlt])
      clear h4 hb
      generalize l.getD k 0 = y at hc1 hy
      obtain ⟨hy0, hy1⟩ := hy
      by_cases h40 : k < 4000
      · obtain ⟨g1, hg1⟩ : ∃ g, IntKind.i64.wrap (h * 137) = g := ⟨_, rfl⟩
        obtain ⟨g2, hg2⟩ : ∃ g, IntKind.i64.wrap (g1 + y) = g := ⟨_, rfl⟩
        obtain ⟨g3, hg3⟩ : ∃ g, IntKind.i64.wrap (g2 + 11) = g := ⟨_, rfl⟩
        obtain ⟨g4, hg4⟩ : ∃ g, bits .and .i64 g3 1073741823 = g := ⟨_, rfl⟩
        have h40' : (k : Int) < 4000 := by omega
        go_wp2
        go_round
        case rel => exact ⟨k + 1, _, by omega, by go_num, rfl⟩
        case measure => simp [intOf]; omega
      · have h40' : ¬ (k : Int) < 4000 := by omega
        go_wp2
        go_ret
        exact ⟨rfl, newCur HS.out HB.out h _, bel_al (Below.refl _ _) _⟩
    · have : k = l.length := by omega
      subst this
      go_wp2
      go_ret
      exact ⟨rfl, newCur HS.out HB.out h _, bel_al (Below.refl _ _) _⟩
theorem lawsBig (v : Value) (l : List Int) (w : World) (hs : Sl .u8 w v l) : Calls Tryd.prog 8 #[v] w fun e w' => e = .returned (.bool (decide ((1048576 : Int) < l.length))) ∧ w = w' := by
  obtain ⟨a, c, rfl, hm⟩ := hs.shape
  clear hs
  go_enter Tryd.func8, Tryd.ntmps8
  go_wp2
  go_ret
  exact ⟨rfl, rfl⟩
theorem lawsAt (v : Value) (l : List Int) (i : Nat) (w : World) (hs : Sl .u8 w v l) (hl : l.length ≤ 1048576) (hi : i ≤ 1000) (hby : ∀ x ∈ l, 0 ≤ x ∧ x ≤ 255) : Calls Tryd.prog 12 #[v, .int .i64 i] w fun e w' => ∃ x : Int, e = .returned (.int .i64 x) ∧ 0 ≤ x ∧ x ≤ 255 ∧ w = w' := by
  obtain ⟨a, c, rfl, hm⟩ := hs.shape
  by_cases hlt : i < l.length
  · obtain ⟨b, off, rfl, hb, h4⟩ := hs.at hlt
    have hc1 := h4 i hlt
    have hy := hby (l.getD i 0) (by simp [List.getD, hlt])
    clear h4 hb hs hby
    generalize l.getD i 0 = y at hc1 hy
    obtain ⟨hy0, hy1⟩ := hy
    go_enter Tryd.func12, Tryd.ntmps12
    go_wp2
    go_ret
    exact ⟨_, rfl, hy0, hy1, rfl⟩
  · clear hs hby
    go_enter Tryd.func12, Tryd.ntmps12
    go_wp2
    go_ret
    exact ⟨_, rfl, by omega, by omega, rfl⟩
/-- what a drawing function leaves of the world: only the cursor's block, laid here, was written -/
theorem drawBelow {w w1 w2 : World} (hb : Below w.heap.size w w1) (hg : w1.grownBy w2 (some w.heap.size)) : Below w.heap.size w w2 :=
  hb.trans (grown_below hg hb.size (fun k hk => by cases hk; exact Nat.le_refl _))
theorem drawIssuing (v : Value) (l : List Int) (w : World) (hs : Sl .u8 w v l) (hl : l.length ≤ 1048576) (hby : ∀ x ∈ l, 0 ≤ x ∧ x ≤ 255) : Calls Tryd.prog 9 #[v] w fun e w' => ∃ s n b : Int, e = .returned (.tuple #[.int .i64 s, .int .i64 n, .int .i64 b]) ∧ 1 ≤ s ∧ s ≤ 1018 ∧ 0 ≤ n ∧ n < 5000 ∧ 1 ≤ b ∧ b ≤ 1018 ∧ Below w.heap.size w w' := by
  have CN := Lib.hid (l1New v l w hs hl hby)
  clear hs hby
  go_enter Tryd.func9, Tryd.ntmps9
  go_wp2_with fail
  refine CN.out.mono ?_
  rintro e w1 ⟨rfl, hc1, hb1⟩
  have B1 := Lib.hid hb1
  have HC1 := Lib.hid hc1
  clear hb1 hc1
  go_wp2_with fail
  refine (l1Below _ v l 1018 _ HC1.out (by omega) (by omega)).mono ?_
  rintro e w2 ⟨s, rfl, hs0, hs1, hc2, hg2⟩
  have HC2 := Lib.hid hc2
  have G2 := Lib.hid hg2
  clear hc2 hg2
  go_wp2_with fail
  refine (l1Below _ v l 5000 _ HC2.out (by omega) (by omega)).mono ?_
  rintro e w3 ⟨n, rfl, hn0, hn1, hc3, hg3⟩
  have HC3 := Lib.hid hc3
  have G3 := Lib.hid (grown_trans G2.out hg3)
  clear hc3 hg3
  go_wp2_with fail
  refine (l1Below _ v l 1018 _ HC3.out (by omega) (by omega)).mono ?_
  rintro e w4 ⟨b, rfl, hb0, hb1, hc4, hg4⟩
  have G4 := Lib.hid (grown_trans G3.out hg4)
  clear hc4 hg4
  go_wp2
  go_ret3
  exact ⟨_, _, _, rfl, by omega, by omega, hn0, hn1, by omega, by omega, drawBelow B1.out G4.out⟩
theorem Cur.lt {w : World} {p : Nat} {v : Value} {l : List Int} (hc : Cur w p v l) : p < w.heap.size := by
  obtain ⟨i, h, g0, _⟩ := hc
  exact World.block_lt_of_cell? w _ g0
theorem Cur.below {w w' : World} {p : Nat} {v : Value} {l : List Int} (hc : Cur w p v l) (hb : Below w.heap.size w w') : Cur w' p v l := by
  have hz := hc.lt
  obtain ⟨i, h, g0, g1, g2, f1, f2, hi0, hi1, hs, hne, hby⟩ := hc
  exact ⟨i, h, (hb.cell (p := ⟨p, 0, none⟩) hz).trans g0, (hb.cell (p := ⟨p, 1, none⟩) hz).trans g1, (hb.cell (p := ⟨p, 2, none⟩) hz).trans g2, (hb.frozen (p := ⟨p, 1, none⟩) hz).trans f1, (hb.frozen (p := ⟨p, 2, none⟩) hz).trans f2, hi0, hi1, hs.below hb, hne, hby⟩
theorem Cur.alloc {w : World} {p : Nat} {v : Value} {l : List Int} (hc : Cur w p v l) (o : Obj) : Cur (w.alloc o) p v l := hc.below (bel_al (Below.refl _ _) o)
/-- a literal list of numbers, laid for a draw -/
theorem elem_ge {x : Int} (h0 : 0 ≤ x) (h1 : x < 1019) : isGE (powI 4 x 2039) = true := by
  have h := pg_ge isGE_four x
  rw [powGroupI_yes x isGE_four, modI_1019, Int.emod_eq_of_lt h0 h1] at h
  exact h
end Go.Proofs.YtamhlmeopbpjpaaDoor
