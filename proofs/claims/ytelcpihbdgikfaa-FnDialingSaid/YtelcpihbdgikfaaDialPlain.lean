/- The plain law of dialing. No program in sight. -/
import Derived.Test.YtelcpihbdgikfaaDial2
import Derived.Test.YtelcpihbdgikfaaGroupPlain
namespace Go.Proofs.Ytelcpihbdgikfaa

theorem person_val {s : Int} (h0 : 1 ≤ s) (h1 : s ≤ 1018) : newIdI s = (s, powGroupI 4 s) := by
  unfold newIdI
  rw [modI_1019, Int.emod_eq_of_lt (by omega) (by omega), beq_eq_false_iff_ne.2 (by omega)]
  rfl
theorem person_ok {s : Int} (h0 : 1 ≤ s) (h1 : s ≤ 1018) : validIdI s (powGroupI 4 s) = true := by
  unfold validIdI; rw [inR_yes h0 h1]; simp
theorem pub_ge (s : Int) : isGE (powGroupI 4 s) = true := pg_ge isGE_four s
theorem pub_ne {s : Int} (h0 : 1 ≤ s) (h1 : s ≤ 1018) : ¬ powGroupI 4 s = 1 := pg_ne_one isGE_four (by omega) (by omega)
theorem shared_val {s t : Int} (h0 : 1 ≤ s) (h1 : s ≤ 1018) (k0 : 1 ≤ t) (k1 : t ≤ 1018) : sharedKeyI s (powGroupI 4 t) = orOneI (keyedI (powGroupI 4 (t * s)) [107]) := by
  unfold sharedKeyI
  rw [pub_ge, beq_eq_false_iff_ne.2 (pub_ne k0 k1), modI_1019, Int.emod_eq_of_lt (by omega) (by omega), beq_eq_false_iff_ne.2 (show ¬ s = 0 by omega), pg_pg isGE_four]
  exact if_pos rfl
theorem shared_sym {s t : Int} (h0 : 1 ≤ s) (h1 : s ≤ 1018) (k0 : 1 ≤ t) (k1 : t ≤ 1018) : sharedKeyI s (powGroupI 4 t) = sharedKeyI t (powGroupI 4 s) := by
  rw [shared_val h0 h1 k0 k1, shared_val k0 k1 h0 h1, Int.mul_comm]
theorem shared_bd {s t : Int} (h0 : 1 ≤ s) (h1 : s ≤ 1018) (k0 : 1 ≤ t) (k1 : t ≤ 1018) : 1 ≤ sharedKeyI s (powGroupI 4 t) ∧ sharedKeyI s (powGroupI 4 t) ≤ 2147483646 := by
  rw [shared_val h0 h1 k0 k1]
  obtain ⟨a, b⟩ := keyedI_bd (powGroupI 4 (t * s)) [107]
  have := orOneI_bd a b
  omega
theorem small_diff : ∀ d : Fin 2039, d.val = 0 ∨ (d.val * 1426104155 % 2147483647 ≠ 0 ∧ d.val * 1426104155 % 2147483647 ≠ 1 ∧ d.val * 1426104155 % 2147483647 ≠ 2147483646) := by decide +kernel
theorem small_diff' (d : Nat) (h0 : 0 < d) (h1 : d < 2039) (D : Int) (hD : D = (d : Int) * 1426104155 % 2147483647) : 0 ≤ D ∧ D < 2147483647 ∧ D ≠ 0 ∧ D ≠ 1 ∧ D ≠ 2147483646 := by
  have h := small_diff ⟨d, h1⟩
  have e : D = ((d * 1426104155 % 2147483647 : Nat) : Int) := by rw [hD]; simp
  dsimp only at h
  have hlt : d * 1426104155 % 2147483647 < 2147483647 := Nat.mod_lt _ (by decide)
  clear hD
  generalize d * 1426104155 % 2147483647 = E at h e hlt
  omega
theorem part_fin {x y D : Int} (_hx : 0 ≤ x ∧ x < 2147483647) (_hy : 0 ≤ y ∧ y < 2147483647) (hD : 0 ≤ D ∧ D < 2147483647 ∧ D ≠ 0 ∧ D ≠ 1 ∧ D ≠ 2147483646) (h : (x - y) % 2147483647 = D ∨ (y - x) % 2147483647 = D) : ¬ orOneI x = orOneI y := by
  refine orOne_ne ?_ ?_ ?_
  · intro e; subst e; omega
  · intro e; omega
  · intro e; omega
theorem part_mod (a b : Int) : ∃ D, D = (a - b) * 1426104155 % 2147483647 ∧ (keyedI a [107] - keyedI b [107]) % 2147483647 = D := by
  have hd := keyed_diff a b [107]
  have e2 : (1000003 ^ (1 + 1) + 1 : Int) % 2147483647 = 1426104155 := by decide +kernel
  refine ⟨_, rfl, ?_⟩
  rw [hd, Int.mul_emod, show ([107] : List Int).length = 1 from rfl, e2, Int.mul_emod (a - b) 1426104155]
  rfl
/-- two keys of two group elements part -/
theorem keys_part {a b : Int} (a0 : 0 ≤ a) (a1 : a < 2039) (b0 : 0 ≤ b) (b1 : b < 2039) (h : ¬ a = b) : ¬ orOneI (keyedI a [107]) = orOneI (keyedI b [107]) := by
  obtain ⟨D, hD, e3⟩ := part_mod a b
  obtain ⟨E, hE, e4⟩ := part_mod b a
  have hx := keyedI_bd a [107]
  have hy := keyedI_bd b [107]
  generalize keyedI a [107] = x at *
  generalize keyedI b [107] = y at *
  rcases Int.lt_or_gt_of_ne h with hlt | hgt
  · obtain ⟨d, hd⟩ := Int.eq_ofNat_of_zero_le (show 0 ≤ b - a by clear hE hD e3 e4; omega)
    rw [hd] at hE
    exact part_fin hx hy (small_diff' d (by clear hE hD e3 e4; omega) (by clear hE hD e3 e4; omega) E hE) (.inr e4)
  · obtain ⟨d, hd⟩ := Int.eq_ofNat_of_zero_le (show 0 ≤ a - b by clear hE hD e3 e4; omega)
    rw [hd] at hD
    exact part_fin hx hy (small_diff' d (by clear hE hD e3 e4; omega) (by clear hE hD e3 e4; omega) D hD) (.inl e3)
theorem stranger_ne {s : Int} (_h0 : 1 ≤ s) (_h1 : s ≤ 1018) : 1 ≤ 1 + s % 1018 ∧ 1 + s % 1018 ≤ 1018 ∧ ¬ 1 + s % 1018 = s := by omega
theorem make_val {s t round : Int} (h0 : 1 ≤ s) (h1 : s ≤ 1018) (k0 : 1 ≤ t) (k1 : t ≤ 1018) (r0 : 0 ≤ round) (r1 : round ≤ 1000) :
    (sealI (sharedKeyI s (powGroupI 4 t)) round 2 (pubI (powGroupI 4 s))).2 = true ∧ makeI s (powGroupI 4 s) (powGroupI 4 t) round = sealI (sharedKeyI s (powGroupI 4 t)) round 2 (pubI (powGroupI 4 s)) := by
  have hb := shared_bd h0 h1 k0 k1
  constructor
  · unfold sealI
    have e1 : keyOk (sharedKeyI s (powGroupI 4 t)) = true := by unfold keyOk; rw [decide_eq_true hb.1, decide_eq_true hb.2]; rfl
    have e2 : countOk round = true := by unfold countOk; rw [decide_eq_true r0, decide_eq_true (show round ≤ 1000000000000 by omega)]; rfl
    have e3 : plainOk 2 (pubI (powGroupI 4 s)) = true := by unfold plainOk; rw [pubI_length]; rfl
    rw [if_pos (by rw [e1, e2, e3]; rfl)]
  · exact makeI_yes (by rw [person_ok h0 h1, beq_eq_false_iff_ne.2 (by omega)]; rfl)
/-- the addressee opens the invitation -/
theorem open_own {s t round : Int} (h0 : 1 ≤ s) (h1 : s ≤ 1018) (k0 : 1 ≤ t) (k1 : t ≤ 1018) (r0 : 0 ≤ round) (r1 : round ≤ 1000) {cell : List Int} (hc : cell = (sealI (sharedKeyI s (powGroupI 4 t)) round 2 (pubI (powGroupI 4 s))).1) :
    openInvI t (powGroupI 4 t) [1, powGroupI 4 s] round cell = (1, sharedKeyI s (powGroupI 4 t), true) := by
  have hs := (make_val h0 h1 k0 k1 r0 r1).1
  have ho := seal_open (pubI_ok _) hs
  rw [← hc] at ho
  have ha : invAt t round cell (powGroupI 4 s) = true := by
    unfold invAt
    rw [shared_sym k0 k1 h0 h1, ho]
    simp
  have hb : invAt t round cell 1 = false := by
    unfold invAt
    have h : (isGE 1 && !((1 : Int) == 1) && !(modI t 1019 == 0)) = false := by cases isGE 1 <;> rfl
    have : sharedKeyI t 1 = 0 := by unfold sharedKeyI; exact if_neg (by rw [h]; simp)
    rw [this, openI_no (by unfold openOk; rfl)]
    rfl
  unfold openInvI
  rw [if_pos (person_ok k0 k1), findInv_at (i := 1) (by simp) (by rw [List.getD_cons_succ, List.getD_cons_zero]; exact ha) (fun j hj => by
    obtain rfl : j = 0 := by omega
    rw [List.getD_cons_zero]; exact hb)]
  rw [List.getD_cons_succ, List.getD_cons_zero, shared_sym k0 k1 h0 h1]
  rfl
/-- a stranger's name opens nothing -/
theorem open_stranger {s t u round : Int} (h0 : 1 ≤ s) (h1 : s ≤ 1018) (k0 : 1 ≤ t) (k1 : t ≤ 1018) (u0 : 1 ≤ u) (u1 : u ≤ 1018) (hu : ¬ u = s) (r0 : 0 ≤ round) (r1 : round ≤ 1000) {cell : List Int} (hc : cell = (sealI (sharedKeyI s (powGroupI 4 t)) round 2 (pubI (powGroupI 4 s))).1) :
    openInvI t (powGroupI 4 t) [powGroupI 4 u] round cell = (-1, 0, false) := by
  have hs := (make_val h0 h1 k0 k1 r0 r1).1
  have hk : ¬ sharedKeyI s (powGroupI 4 t) = sharedKeyI t (powGroupI 4 u) := by
    rw [shared_sym h0 h1 k0 k1, shared_val k0 k1 h0 h1, shared_val k0 k1 u0 u1]
    have b1 := powGroupI_bd 4 (s * t)
    have b2 := powGroupI_bd 4 (u * t)
    refine keys_part b1.1 b1.2 b2.1 b2.2 (fun e => ?_)
    have hi := inv_ok (x := t) (by omega) (by omega)
    have e1 := pg_inj isGE_four (by omega) e
    have e2 : (s * t * powI t 1017 1019) % 1019 = (u * t * powI t 1017 1019) % 1019 := by rw [Int.mul_emod, e1, ← Int.mul_emod]
    rw [Int.mul_assoc, Int.mul_assoc, Int.mul_emod, hi, Int.mul_emod u, hi] at e2
    omega
  have b1 := shared_bd h0 h1 k0 k1
  have b2 := shared_bd k0 k1 u0 u1
  have ho := open_other (key' := sharedKeyI t (powGroupI 4 u)) (counter' := round) hs (check_key (dataI_length _ _ _ (by rw [pubI_length]; omega)) (by omega))
  rw [← hc] at ho
  unfold openInvI
  rw [if_pos (person_ok k0 k1), findInv_none (fun j hj => by
    obtain rfl : j = 0 := by simpa using hj
    rw [List.getD_cons_zero]
    unfold invAt
    rw [ho]
    rfl)]
/-- a round later nothing opens -/
theorem open_late {s t round : Int} (h0 : 1 ≤ s) (h1 : s ≤ 1018) (k0 : 1 ≤ t) (k1 : t ≤ 1018) (r0 : 0 ≤ round) (r1 : round ≤ 1000) {cell : List Int} (hc : cell = (sealI (sharedKeyI s (powGroupI 4 t)) round 2 (pubI (powGroupI 4 s))).1) :
    openInvI t (powGroupI 4 t) [powGroupI 4 s] (round + 1) cell = (-1, 0, false) := by
  have hs := (make_val h0 h1 k0 k1 r0 r1).1
  have ho := open_other (key' := sharedKeyI s (powGroupI 4 t)) (counter' := round + 1) hs (check_counter (by omega))
  rw [← hc] at ho
  unfold openInvI
  rw [if_pos (person_ok k0 k1), findInv_none (fun j hj => by
    obtain rfl : j = 0 := by simpa using hj
    rw [List.getD_cons_zero]
    unfold invAt
    rw [shared_sym k0 k1 h0 h1, ho]
    rfl)]
theorem dial_bd {p round : Int} (r0 : 0 ≤ round) (r1 : round ≤ 1000) : 0 ≤ dialRowI p round 16 ∧ dialRowI p round 16 < 16 := by
  have h : dialRowI p round 16 = childI (keyedI p [109, round]) 0 % 16 := rowI_yes (by omega) (by omega) r0 (by omega)
  rw [h]; omega
theorem safety_sym (a b : Int) : safetyNumberI a b = safetyNumberI b a := by
  unfold safetyNumberI; rw [Int.min_comm, Int.max_comm]
end Go.Proofs.Ytelcpihbdgikfaa
