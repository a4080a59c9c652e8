/- The walks of Mod, Hash, KeyedHash, ChildSeed: each returns what the plain function says; memory that existed is as it was. -/
import Derived.Test.YtamhlmeopbpjpaaDoorProg
import Derived.Test.YtamhlmeopbpjpaaDoorMem
import Derived.Test.YtamhlmeopbpjpaaDoorHashPlain
import Derived.WalkKit
import Derived.WalkSpells
import Derived.WalkLawsBesides
import Derived.Outline
import Derived.Lib.Hide
import Derived.Lib.AppendZerosOnto
import Derived.Lib.SliceRun
import Derived.Lib.Walk
namespace Go.Proofs.YtamhlmeopbpjpaaDoor
open Go.RowKit

theorem modI_in {n q : Int} (h1 : 1 ≤ q) (h2 : q ≤ 1000000000000) : modI n q = n % q := by unfold modI; rw [if_pos ⟨h1, h2⟩]
theorem modI_out {n q : Int} (h : q < 1 ∨ 1000000000000 < q) : modI n q = 0 := by unfold modI; rw [if_neg (by omega)]
theorem mod_go (p q : Int) (hq : 1 ≤ q) : (Int.tmod p q + q) % q = p % q := by
  rw [Int.add_emod_right, Int.tmod_eq_emod]
  split
  · rw [show (((0 : Nat) : Int)) = 0 from rfl, Int.sub_zero, Int.emod_emod_of_dvd _ (Int.dvd_refl _)]
  · rw [Int.natAbs_of_nonneg (by omega), Int.sub_emod_right, Int.emod_emod_of_dvd _ (Int.dvd_refl _)]
theorem tmod_bd (p q : Int) (hq : 1 ≤ q) : - q < Int.tmod p q ∧ Int.tmod p q < q := by
  have h1 := Int.tmod_lt_of_pos p (show 0 < q by omega)
  have h2 := Int.lt_tmod_of_pos p (show 0 < q by omega)
  exact ⟨h2, h1⟩

theorem implMod (p q : Int) (w : World) : Calls Tryd.prog 24 #[.int .i64 p, .int .i64 q] w fun e w' => e = .returned (.int .i64 (modI p q)) ∧ w = w' := by
  by_cases h1 : 1 ≤ q
  · by_cases h2 : q ≤ 1000000000000
    · have H := Lib.hid (modI_in (n := p) h1 h2)
      have HM := Lib.hid (mod_go p q h1)
      obtain ⟨b1, b2⟩ := tmod_bd p q h1
      go_enter Tryd.func24, Tryd.ntmps24
      go_wp2
      go_ret
      exact ⟨ret_int (by rw [H.out]; exact HM.out), rfl⟩
    · have H := Lib.hid (modI_out (n := p) (q := q) (by omega))
      go_enter Tryd.func24, Tryd.ntmps24
      go_wp2
      go_ret
      exact ⟨ret_int H.out.symm, rfl⟩
  · have H := Lib.hid (modI_out (n := p) (q := q) (by omega))
    go_enter Tryd.func24, Tryd.ntmps24
    go_wp2
    go_ret
    exact ⟨ret_int H.out.symm, rfl⟩
theorem specMod (p q : Int) (w : World) : Calls Tryd.prog 44 #[.int .i64 p, .int .i64 q] w fun e w' => e = .returned (.int .i64 (modI p q)) ∧ w = w' := by
  by_cases h1 : 1 ≤ q
  · by_cases h2 : q ≤ 1000000000000
    · have H := Lib.hid (modI_in (n := p) h1 h2)
      have HM := Lib.hid (mod_go p q h1)
      obtain ⟨b1, b2⟩ := tmod_bd p q h1
      go_enter Tryd.func44, Tryd.ntmps44
      go_wp2
      go_ret
      exact ⟨ret_int (by rw [H.out]; exact HM.out), rfl⟩
    · have H := Lib.hid (modI_out (n := p) (q := q) (by omega))
      go_enter Tryd.func44, Tryd.ntmps44
      go_wp2
      go_ret
      exact ⟨ret_int H.out.symm, rfl⟩
  · have H := Lib.hid (modI_out (n := p) (q := q) (by omega))
    go_enter Tryd.func44, Tryd.ntmps44
    go_wp2
    go_ret
    exact ⟨ret_int H.out.symm, rfl⟩
/-- Mod at the hash's own modulus -/
theorem modI_p (v : Int) : modI v 2147483647 = v % 2147483647 := modI_in (by omega) (by omega)
theorem implHash (v : Value) (l : List Int) (w : World) (hs : Sl .i64 w v l) : Calls Tryd.prog 48 #[v] w fun e w' => e = .returned (.int .i64 (hashI l)) ∧ w = w' := by
  rcases hs with ⟨rfl, a, cap, rfl, hcap, ha⟩ | ⟨b, off, cap, rfl, h1, h2, h3, h4⟩
  · go_enter Tryd.func48, Tryd.ntmps48
    go_wp2
    go_loop [3, 8] (fun h i => i = .int .i64 0 ∧ h = .int .i64 11) (fun _ _ => 0)
    case atStart => exact ⟨rfl, rfl⟩
    case round =>
      obtain ⟨rfl, rfl⟩ := hrel
      go_wp2
      go_ret
      exact ⟨rfl, rfl⟩
  · unfold maxLen at h2
    go_enter Tryd.func48, Tryd.ntmps48
    go_wp2
    go_loop [3, 8] (fun h i => ∃ k : Nat, k ≤ l.length ∧ i = .int .i64 k ∧ h = .int .i64 (hashI (l.take k))) (fun _ i => l.length - (intOf i).toNat)
    case atStart => exact ⟨0, Nat.zero_le _, rfl, rfl⟩
    case round =>
      obtain ⟨k, hk, rfl, rfl⟩ := hrel
      by_cases hlt : k < l.length
      · have hc := h4 k hlt
        have HS := Lib.hid (hashI_snoc l k hlt)
        obtain ⟨d1, d2⟩ := hashI_bd (l.take k)
        have HM := Lib.hid (modI_p (l.getD k 0))
        obtain ⟨m1, m2⟩ : 0 ≤ modI (l.getD k 0) 2147483647 ∧ modI (l.getD k 0) 2147483647 < 2147483647 := by rw [HM.out]; omega
        clear h4
        generalize l.getD k 0 = x at hc HS HM m1 m2
        go_wp2_with (first | (go_at_call 24; (refine (implMod _ _ _).mono ?_); rintro e w' ⟨rfl, rfl⟩) | go_in)
        go_round
        case rel => exact ⟨k + 1, by omega, by go_num, by rw [HS.out]; unfold hstep; rw [← HM.out]⟩
        case measure => simp [intOf]; omega
      · have : k = l.length := by omega
        subst this
        clear h4
        rw [List.take_length]
        go_wp2
        go_ret
        exact ⟨rfl, rfl⟩
theorem specHash (v : Value) (l : List Int) (w : World) (hs : Sl .i64 w v l) : Calls Tryd.prog 54 #[v] w fun e w' => e = .returned (.int .i64 (hashI l)) ∧ w = w' := by
  rcases hs with ⟨rfl, a, cap, rfl, hcap, ha⟩ | ⟨b, off, cap, rfl, h1, h2, h3, h4⟩
  · go_enter Tryd.func54, Tryd.ntmps54
    go_wp2
    go_loop [3, 4] (fun h i => i = .int .i64 0 ∧ h = .int .i64 11) (fun _ _ => 0)
    case atStart => exact ⟨rfl, rfl⟩
    case round =>
      obtain ⟨rfl, rfl⟩ := hrel
      go_wp2
      go_ret
      exact ⟨rfl, rfl⟩
  · unfold maxLen at h2
    go_enter Tryd.func54, Tryd.ntmps54
    go_wp2
    go_loop [3, 4] (fun h i => ∃ k : Nat, k ≤ l.length ∧ i = .int .i64 k ∧ h = .int .i64 (hashI (l.take k))) (fun _ i => l.length - (intOf i).toNat)
    case atStart => exact ⟨0, Nat.zero_le _, rfl, rfl⟩
    case round =>
      obtain ⟨k, hk, rfl, rfl⟩ := hrel
      by_cases hlt : k < l.length
      · have hc := h4 k hlt
        have HS := Lib.hid (hashI_snoc l k hlt)
        obtain ⟨d1, d2⟩ := hashI_bd (l.take k)
        have HM := Lib.hid (modI_p (l.getD k 0))
        obtain ⟨m1, m2⟩ : 0 ≤ modI (l.getD k 0) 2147483647 ∧ modI (l.getD k 0) 2147483647 < 2147483647 := by rw [HM.out]; omega
        clear h4
        generalize l.getD k 0 = x at hc HS HM m1 m2
        go_wp2_with (first | (go_at_call 44; (refine (specMod _ _ _).mono ?_); rintro e w' ⟨rfl, rfl⟩) | go_in)
        go_round
        case rel => exact ⟨k + 1, by omega, by go_num, by rw [HS.out]; unfold hstep; rw [← HM.out]⟩
        case measure => simp [intOf]; omega
      · have : k = l.length := by omega
        subst this
        clear h4
        rw [List.take_length]
        go_wp2
        go_ret
        exact ⟨rfl, rfl⟩
theorem info3 : (Tryd.prog.info? 3).map (fun i => (i.zero, i.size, i.bytes)) = some (some (.int .i64 0), 1, 8) := by kernel_rfl
set_option maxRecDepth 100000 in
/-- slices.Grow of the nil slice, n at least 1: a new row with room -/
theorem growNil (n : Int) (w : World) (h0 : 0 < n) (hn : n ≤ 1099511627776) :
    Calls Tryd.prog 53 #[.slice none 0 0, .int .i64 n] w fun e w' => ∃ cap, e = .returned (.slice (some ⟨w.heap.size, 0, none⟩) 0 cap) ∧ Own .i64 3 w.heap.size w' (some ⟨w.heap.size, 0, none⟩) 0 cap [] ∧ Below w.heap.size w w' := by
  obtain ⟨n, rfl⟩ := Int.eq_ofNat_of_zero_le (show 0 ≤ n by omega)
  obtain ⟨i0, hi, hz0, hz1, hz2⟩ := info_parts info3
  have hrz : ∀ ty, (Builtin.append_ #[60, 3] ty #[.slice none 0 0, .int .i64 n]).run Tryd.prog w =
      .ok (.slice (some ⟨w.heap.size, 0, none⟩) n (grownCap w n 0 3)) (w.drew.alloc (.cells (Builtin.zeroCells (Value.int .i64 0).cells n ++ Builtin.zeroCells (Value.int .i64 0).cells (grownCap w n 0 3 - n)) 3)) := fun ty => by
    have h := Lib.run_append_grow_zeros w 60 3 ty 3 i0 (.int .i64 0) .i64 .i64 Tryd.underlying60 Tryd.underlying3 hi hz0 none 0 0 [] (by exact run_firstCells_none w.drew i0.size 0 0 0) n (by omega) (by omega) (by omega) (by omega) (by rw [hz2]; omega)
      (by rw [Nat.zero_add]; exact growslice_fits (by omega) (by rw [hz2]; omega))
    simpa using h
  have hG : n ≤ grownCap w n 0 3 := grownCap_ge w _ _ _
  have hG2 := grownCap_le_maxLen w n 0 3 (by unfold maxLen; omega)
  generalize grownCap w n 0 3 = G at hrz hG hG2
  have fin : Own .i64 3 w.heap.size (w.drew.alloc (.cells (Builtin.zeroCells (Value.int .i64 0).cells n ++ Builtin.zeroCells (Value.int .i64 0).cells (G - n)) 3)) (some ⟨w.heap.size, 0, none⟩) 0 G [] := by
    refine ⟨rfl, World.ownsRow_made w.drew _ G (Nat.le_refl _) hG2 ?_⟩
    rw [Array.size_append, size_zeroCells, size_zeroCells]
    simp [Value.cells]; omega
  have fin2 : Below w.heap.size w (w.drew.alloc (.cells (Builtin.zeroCells (Value.int .i64 0).cells n ++ Builtin.zeroCells (Value.int .i64 0).cells (G - n)) 3)) := bel_al ((Below.refl _ _).drew) _
  have F := Lib.hid (And.intro fin fin2)
  clear fin fin2
  unfold maxLen at hG2
  go_enter Tryd.func53, Tryd.ntmps53
  go_wp2_with (at_builtin; refine Lib.wpList_append_run _ rfl _ _ _ _ rfl _ _ rfl rfl _ _ (hrz _) ?_)
  go_ret
  exact ⟨G, rfl, F.out.1, F.out.2⟩
/-- slices.Concat of three slices -/
theorem concat3 (b : Nat) (a0 a1 a2 : Option Addr) (n0 n1 n2 c0 c1 c2 : Nat) (l0 l1 l2 : List Int) (w : World)
    (h0 : Sl .i64 w (.slice a0 n0 c0) l0) (h1 : Sl .i64 w (.slice a1 n1 c1) l1) (h2 : Sl .i64 w (.slice a2 n2 c2) l2)
    (e0 : w.cell? ⟨b, 0, none⟩ = some (.slice a0 n0 c0)) (e1 : w.cell? ⟨b, 1, none⟩ = some (.slice a1 n1 c1)) (e2 : w.cell? ⟨b, 2, none⟩ = some (.slice a2 n2 c2))
    (hlen : n0 + n1 + n2 ≤ 1099511627776) (hpos : 0 < n0) :
    Calls Tryd.prog 49 #[.slice (some ⟨b, 0, none⟩) 3 3] w fun e w' => ∃ ao N cap, e = .returned (.slice ao N cap) ∧ Own .i64 3 w.heap.size w' ao N cap (l0 ++ l1 ++ l2) ∧ Below w.heap.size w w' := by
  have q0 : n0 = l0.length := h0.len
  have q1 : n1 = l1.length := h1.len
  have q2 : n2 = l2.length := h2.len
  have Q0 := Lib.hid q0; have Q1 := Lib.hid q1; have Q2 := Lib.hid q2
  clear q0 q1 q2
  have hb : b < w.heap.size := World.block_lt_of_cell? w ⟨b, 0, none⟩ e0
  have H0 := Lib.hid h0; have H1 := Lib.hid h1; have H2 := Lib.hid h2
  clear h0 h1 h2
  go_enter Tryd.func49, Tryd.ntmps49
  go_wp2
  go_loop [3, 11] (fun sz i => (i = .int .i64 0 ∧ sz = .int .i64 0) ∨ (i = .int .i64 1 ∧ sz = .int .i64 (n0 : Int)) ∨ (i = .int .i64 2 ∧ sz = .int .i64 ((n0 : Int) + n1)) ∨ (i = .int .i64 3 ∧ sz = .int .i64 ((n0 : Int) + n1 + n2))) (fun _ i => (3 - intOf i).toNat)
  case atStart => exact .inl ⟨rfl, rfl⟩
  case round =>
    rcases hrel with ⟨rfl, rfl⟩ | ⟨rfl, rfl⟩ | ⟨rfl, rfl⟩ | ⟨rfl, rfl⟩
    · go_wp2
      go_round
      case rel => exact .inr (.inl ⟨rfl, rfl⟩)
      case measure => simp [intOf]
    · go_wp2
      go_round
      case rel => exact .inr (.inr (.inl ⟨rfl, rfl⟩))
      case measure => simp [intOf]
    · go_wp2
      go_round
      case rel => exact .inr (.inr (.inr ⟨rfl, rfl⟩))
      case measure => simp [intOf]
    · go_wp2_with (go_at_call 53; (refine (growNil _ _ (by omega) (by omega)).mono ?_); rintro e w1 ⟨cap1, rfl, hown1, hb1⟩)
      go_loopw [6, 27] (fun s i wr => ∃ ao N cap m, s = .slice ao N cap ∧ Own .i64 3 w.heap.size wr ao N cap m ∧ Below w.heap.size w wr ∧ ((i = .int .i64 0 ∧ m = [] ∧ N ≤ 0) ∨ (i = .int .i64 1 ∧ m = l0 ∧ N ≤ n0) ∨ (i = .int .i64 2 ∧ m = l0 ++ l1 ∧ N ≤ n0 + n1) ∨ (i = .int .i64 3 ∧ m = l0 ++ l1 ++ l2 ∧ N ≤ n0 + n1 + n2))) (fun _ i _ => (3 - intOf i).toNat)
      case atStart => exact ⟨_, _, _, _, rfl, hown1, hb1, .inl ⟨rfl, rfl, Nat.le_refl _⟩⟩
      case round =>
        obtain ⟨ao, N, cap, m, rfl, hown, hbw, hcase⟩ := hrel
        have d0 := (hbw.cell (p := ⟨b, 0, none⟩) hb).trans e0
        have d1 := (hbw.cell (p := ⟨b, 1, none⟩) hb).trans e1
        have d2 := (hbw.cell (p := ⟨b, 2, none⟩) hb).trans e2
        have hz := hbw.size
        rcases hcase with ⟨rfl, rfl, hN⟩ | ⟨rfl, rfl, hN⟩ | ⟨rfl, rfl, hN⟩ | ⟨rfl, rfl, hN⟩
        · have hs := Lib.hid (H0.out.below hbw)
          have hl : N + l0.length ≤ 1099511627776 := by rw [← Q0.out]; omega
          have O := Lib.hid hown; clear hown
          go_wp2_with (at_builtin; refine wpList_app rfl _ _ _ rfl w.heap.size 3 .i64 (.int .i64 0) 8 Tryd.underlying60 info3 rfl (by omega) _ _ _ _ rfl O.out _ _ rfl hs.out hl hz ?_; intro ao' cap' N' w2 hN1 hN2 hown2 hg2 hb2)
          go_roundw
          case rel => exact ⟨_, _, _, _, rfl, hown2, hbw.trans hb2, .inr (.inl ⟨rfl, by simp, by have := Q0.out; omega⟩)⟩
          case measure => simp [intOf]
        · have hs := Lib.hid (H1.out.below hbw)
          have hl : N + l1.length ≤ 1099511627776 := by rw [← Q1.out]; omega
          have O := Lib.hid hown; clear hown
          go_wp2_with (at_builtin; refine wpList_app rfl _ _ _ rfl w.heap.size 3 .i64 (.int .i64 0) 8 Tryd.underlying60 info3 rfl (by omega) _ _ _ _ rfl O.out _ _ rfl hs.out hl hz ?_; intro ao' cap' N' w2 hN1 hN2 hown2 hg2 hb2)
          go_roundw
          case rel => exact ⟨_, _, _, _, rfl, hown2, hbw.trans hb2, .inr (.inr (.inl ⟨rfl, rfl, by have := Q1.out; omega⟩))⟩
          case measure => simp [intOf]
        · have hs := Lib.hid (H2.out.below hbw)
          have hl : N + l2.length ≤ 1099511627776 := by rw [← Q2.out]; omega
          have O := Lib.hid hown; clear hown
          go_wp2_with (at_builtin; refine wpList_app rfl _ _ _ rfl w.heap.size 3 .i64 (.int .i64 0) 8 Tryd.underlying60 info3 rfl (by omega) _ _ _ _ rfl O.out _ _ rfl hs.out hl hz ?_; intro ao' cap' N' w2 hN1 hN2 hown2 hg2 hb2)
          go_roundw
          case rel => exact ⟨_, _, _, _, rfl, hown2, hbw.trans hb2, .inr (.inr (.inr ⟨rfl, rfl, by have := Q2.out; omega⟩))⟩
          case measure => simp [intOf]
        · have O := Lib.hid hown; clear hown
          go_wp2
          go_ret
          exact ⟨_, _, _, rfl, O.out, hbw⟩
theorem concat_pre (key : Int) (a1 : Option Addr) (n1 c1 : Nat) (l : List Int) (w : World) (hs : Sl .i64 w (.slice a1 n1 c1) l) :
    ∀ W, W = (((w.alloc (Obj.cells #[Value.int IntKind.i64 key] 3)).alloc (Obj.cells #[Value.int IntKind.i64 key] 3)).alloc (Obj.cells #[Value.slice (some ⟨w.heap.size, 0, none⟩) 1 1, Value.slice a1 n1 c1, Value.slice (some ⟨w.heap.size + 1, 0, none⟩) 1 1] 60)) →
    Sl .i64 W (.slice (some ⟨w.heap.size, 0, none⟩) 1 1) [key] ∧ Sl .i64 W (.slice a1 n1 c1) l ∧ Sl .i64 W (.slice (some ⟨w.heap.size + 1, 0, none⟩) 1 1) [key] ∧
    W.cell? ⟨w.heap.size + 1 + 1, 0, none⟩ = some (.slice (some ⟨w.heap.size, 0, none⟩) 1 1) ∧ W.cell? ⟨w.heap.size + 1 + 1, 1, none⟩ = some (.slice a1 n1 c1) ∧ W.cell? ⟨w.heap.size + 1 + 1, 2, none⟩ = some (.slice (some ⟨w.heap.size + 1, 0, none⟩) 1 1) ∧ Below w.heap.size w W := by
  rintro W rfl
  have s0 := Sl.lit .i64 w 3 [key] (by simp [maxLen])
  have s1 := Sl.lit .i64 (w.alloc (Obj.cells #[Value.int IntKind.i64 key] 3)) 3 [key] (by simp [maxLen])
  rw [World.size_alloc] at s1
  refine ⟨(s0.alloc _).alloc _, ((hs.alloc _).alloc _).alloc _, s1.alloc _, ?_, ?_, ?_, bel_al (bel_al (bel_al (Below.refl _ _) _) _) _⟩ <;>
  · rw [cell_of_row _ _ _ _ _ _ (by have := heap_alloc_new ((w.alloc (Obj.cells #[Value.int IntKind.i64 key] 3)).alloc (Obj.cells #[Value.int IntKind.i64 key] 3)) (Obj.cells #[Value.slice (some ⟨w.heap.size, 0, none⟩) 1 1, Value.slice a1 n1 c1, Value.slice (some ⟨w.heap.size + 1, 0, none⟩) 1 1] 60); rw [World.size_alloc, World.size_alloc] at this; exact this)]
    rfl
theorem implKeyedHash (key : Int) (v : Value) (l : List Int) (w : World) (hs : Sl .i64 w v l) (hl : l.length ≤ 1073741824) :
    Calls Tryd.prog 40 #[.int .i64 key, v] w fun e w' => e = .returned (.int .i64 (keyedI key l)) ∧ Below w.heap.size w w' := by
  obtain ⟨a1, n1, c1, rfl⟩ : ∃ a1 n1 c1, v = .slice a1 n1 c1 := by
    rcases hs with ⟨_, a, cap, rfl, _⟩ | ⟨b, off, cap, rfl, _⟩ <;> exact ⟨_, _, _, rfl⟩
  have hn : n1 = l.length := hs.len
  have hn1 : 1 + n1 + 1 ≤ 1099511627776 := by omega
  have HS := Lib.hid (concat_pre key a1 n1 c1 l w hs); clear hs hn
  go_enter Tryd.func40, Tryd.ntmps40
  go_wp2_with fail
  obtain ⟨p0, p1, p2, p3, p4, p5, p6⟩ := HS.out _ rfl
  refine (concat3 _ _ _ _ _ _ _ _ _ _ _ _ _ _ p0 p1 p2 p3 p4 p5 hn1 (by omega)).mono ?_
  rintro e w1 ⟨ao, N, cap, rfl, hown, hb⟩
  have B := Lib.hid (bel_seq p6 hb)
  have O := Lib.hid hown
  clear p0 p1 p2 p3 p4 p5 p6 hown hb
  go_wp2_with fail
  refine (implHash _ _ _ O.out.sl).mono ?_
  rintro e w' ⟨rfl, rfl⟩
  go_wp2_with fail
  go_ret
  exact ⟨rfl, B.out⟩
theorem specKeyedHash (key : Int) (v : Value) (l : List Int) (w : World) (hs : Sl .i64 w v l) (hl : l.length ≤ 1073741824) :
    Calls Tryd.prog 51 #[.int .i64 key, v] w fun e w' => e = .returned (.int .i64 (keyedI key l)) ∧ Below w.heap.size w w' := by
  obtain ⟨a1, n1, c1, rfl⟩ : ∃ a1 n1 c1, v = .slice a1 n1 c1 := by
    rcases hs with ⟨_, a, cap, rfl, _⟩ | ⟨b, off, cap, rfl, _⟩ <;> exact ⟨_, _, _, rfl⟩
  have o0 := Lib.hid (Own.lit .i64 3 w.heap.size w [key] (by simp [maxLen]) (Nat.le_refl _))
  have hs1 := Lib.hid (hs.alloc (.cells #[.int .i64 key] 3))
  have hl1 : 1 + l.length ≤ 1099511627776 := by omega
  have hz1 : w.heap.size ≤ (w.alloc (.cells #[.int .i64 key] 3)).heap.size := by simp
  clear hs
  go_enter Tryd.func51, Tryd.ntmps51
  go_wp2_with (first | (at_builtin; refine wpList_app rfl _ _ _ rfl w.heap.size 3 .i64 (.int .i64 0) 8 Tryd.underlying60 info3 rfl (by omega) _ _ _ _ rfl o0.out _ _ rfl hs1.out hl1 hz1 ?_; intro ao N cap w1 hN1 hN2 hown1 hg1 hb1; clear hs1 hg1; have O1 := Lib.hid (hown1.alloc (.cells #[.int .i64 key] 3)); have hz2 : w.heap.size ≤ (w1.alloc (.cells #[.int .i64 key] 3)).heap.size := by { have := hb1.size; simp at this ⊢; omega }; have hl2 : N + [key].length ≤ 1099511627776 := by { simp; omega }; have B1 := Lib.hid hb1; clear hown1 hb1) | (at_builtin; refine wpList_app rfl _ _ _ rfl w.heap.size 3 .i64 (.int .i64 0) 8 Tryd.underlying60 info3 rfl (by omega) _ _ _ _ rfl O1.out _ [key] rfl (Sl.lit .i64 _ _ [key] (by simp [maxLen])) hl2 hz2 ?_; intro ao' N' cap' w2 hN1' hN2' hown2 hg2 hb2; clear hg2; have O2 := Lib.hid hown2; have B2 := Lib.hid hb2; clear hown2 hb2) | (go_at_call 54; (refine (specHash _ _ _ O2.out.sl).mono ?_); rintro e w' ⟨rfl, rfl⟩))
  go_ret
  exact ⟨rfl, ((bel_al (Below.refl _ _) _).trans (B1.out)).trans (((Below.refl _ _).alloc (by have := B1.out.size; simp at this; omega) _).trans B2.out)⟩
/-- the hash of a literal list -/
theorem implKeyedLit (key : Int) (l : List Int) (w : World) (b : Nat) (n c : Nat) (hl : l.length ≤ 1073741824) (hb : b = w.heap.size) (hn : n = l.length) (hc : c = l.length) :
    Calls Tryd.prog 40 #[.int .i64 key, .slice (some ⟨b, 0, none⟩) n c] (w.alloc (.cells (l.map (Value.int .i64)).toArray 3)) fun e w' => e = .returned (.int .i64 (keyedI key l)) ∧ Below w.heap.size w w' := by
  subst hb hn hc
  have s := Sl.lit .i64 w 3 l (by unfold maxLen; omega)
  exact (implKeyedHash key _ l _ s hl).mono fun e w' ⟨he, hb⟩ => ⟨he, bel_al (Below.refl _ _) _ |>.trans (hb.mono (by simp))⟩
theorem implChildSeed (seed side : Int) (w : World) : Calls Tryd.prog 39 #[.int .i64 seed, .int .i64 side] w fun e w' => e = .returned (.int .i64 (childI seed side)) ∧ Below w.heap.size w w' := by
  obtain ⟨k1, k2⟩ := keyedI_bd seed [47, side]
  obtain ⟨q1, q2⟩ := sq_bd k1 k2
  have HC := Lib.hid (show childI seed side = (keyedI seed [47, side] * keyedI seed [47, side] + 5) % 2147483647 from rfl)
  go_enter Tryd.func39, Tryd.ntmps39
  go_wp2_with (go_at_call 40; (refine (implKeyedLit seed [47, side] w _ _ _ (by simp) rfl rfl rfl).mono ?_); rintro e w1 ⟨rfl, hb1⟩)
  go_ret
  exact ⟨ret_int HC.out.symm, hb1⟩
theorem specKeyedLit (key : Int) (l : List Int) (w : World) (b : Nat) (n c : Nat) (hl : l.length ≤ 1073741824) (hb : b = w.heap.size) (hn : n = l.length) (hc : c = l.length) :
    Calls Tryd.prog 51 #[.int .i64 key, .slice (some ⟨b, 0, none⟩) n c] (w.alloc (.cells (l.map (Value.int .i64)).toArray 3)) fun e w' => e = .returned (.int .i64 (keyedI key l)) ∧ Below w.heap.size w w' := by
  subst hb hn hc
  have s := Sl.lit .i64 w 3 l (by unfold maxLen; omega)
  exact (specKeyedHash key _ l _ s hl).mono fun e w' ⟨he, hb⟩ => ⟨he, bel_al (Below.refl _ _) _ |>.trans (hb.mono (by simp))⟩
theorem specChildSeed (seed side : Int) (w : World) : Calls Tryd.prog 50 #[.int .i64 seed, .int .i64 side] w fun e w' => e = .returned (.int .i64 (childI seed side)) ∧ Below w.heap.size w w' := by
  obtain ⟨k1, k2⟩ := keyedI_bd seed [47, side]
  obtain ⟨q1, q2⟩ := sq_bd k1 k2
  have HC := Lib.hid (show childI seed side = (keyedI seed [47, side] * keyedI seed [47, side] + 5) % 2147483647 from rfl)
  go_enter Tryd.func50, Tryd.ntmps50
  go_wp2_with (go_at_call 51; (refine (specKeyedLit seed [47, side] w _ _ _ (by simp) rfl rfl rfl).mono ?_); rintro e w1 ⟨rfl, hb1⟩)
  go_ret
  exact ⟨ret_int HC.out.symm, hb1⟩
end Go.Proofs.YtamhlmeopbpjpaaDoor
