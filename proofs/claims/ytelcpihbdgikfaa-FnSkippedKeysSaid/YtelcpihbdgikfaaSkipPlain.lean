/- Plain law of the key for a step: a valid ratchet stays valid, and advancing agrees with asking for the next step. No program in sight. -/
import Derived.Test.YtelcpihbdgikfaaProg
import Derived.Test.YtelcpihbdgikfaaKeyPlain
namespace Go.Proofs.Ytelcpihbdgikfaa
set_option linter.unusedVariables false
set_option linter.unusedSimpArgs false

/-- pairs of a step and a key: the keys are keys, the steps go up, from 0 to hi -/
def GK (l : List Int) (hi : Int) : Prop := ∀ i, 2 * i + 1 < l.length → keyB (l.getD (2 * i + 1) 0) = true ∧ 0 ≤ l.getD (2 * i) 0 ∧ l.getD (2 * i) 0 ≤ hi ∧ ∀ j, j < i → l.getD (2 * j) 0 < l.getD (2 * i) 0
theorem inR_iff {x a b : Int} : inR x a b = true ↔ a ≤ x ∧ x ≤ b := by
  simp only [inR, Bool.and_eq_true, decide_eq_true_eq]
theorem skAt_of {l : List Int} {n : Nat} {hi : Int} (h : keptOk l n hi = true) {i : Nat} (hin : i < n) : keyB (l.getD (2 * i + 1) 0) = true ∧ 0 ≤ l.getD (2 * i) 0 ∧ l.getD (2 * i) 0 ≤ hi ∧ (i = 0 ∨ l.getD (2 * (i - 1)) 0 < l.getD (2 * i) 0) := by
  unfold keptOk at h
  rw [List.all_eq_true] at h
  have h2 := h i (List.mem_range.2 hin)
  unfold skAt at h2
  rw [Bool.and_eq_true, Bool.and_eq_true, inR_iff, Bool.or_eq_true, decide_eq_true_eq, beq_iff_eq] at h2
  exact ⟨h2.1.1, h2.1.2.1, h2.1.2.2, h2.2⟩
theorem GK.of {l : List Int} {n : Nat} {hi : Int} (h : keptOk l n hi = true) (hl : l.length = 2 * n) : GK l hi := by
  intro i hi1
  refine ⟨(skAt_of h (show i < n by omega)).1, (skAt_of h (show i < n by omega)).2.1, (skAt_of h (show i < n by omega)).2.2.1, ?_⟩
  induction i with
  | zero => intro j hj; omega
  | succ i ih =>
    intro j hj
    obtain ⟨_, _, _, h4⟩ := skAt_of h (show i + 1 < n by omega)
    have h5 : l.getD (2 * i) 0 < l.getD (2 * (i + 1)) 0 := by
      rcases h4 with h4 | h4
      · omega
      · exact h4
    by_cases hji : j = i
    · rw [hji]; exact h5
    · have := ih (by omega) j (by omega)
      omega
theorem GK.ok {l : List Int} {n : Nat} {hi : Int} (h : GK l hi) (hl : l.length = 2 * n) : keptOk l n hi = true := by
  refine keptOk_yes (fun i hin => ?_)
  obtain ⟨h1, h2, h3, h4⟩ := h i (by omega)
  unfold skAt
  rw [h1, inR_iff.2 ⟨h2, h3⟩]
  cases i with
  | zero => rfl
  | succ i =>
    have := h4 i (by omega)
    rw [Nat.add_sub_cancel, decide_eq_true this]
    simp
theorem del_getD (l : List Int) (i j : Nat) (h : 2 * i ≤ l.length) : (l.take (2 * i) ++ l.drop (2 * i + 2)).getD j 0 = if j < 2 * i then l.getD j 0 else l.getD (j + 2) 0 := by
  have hl : (l.take (2 * i)).length = 2 * i := by rw [List.length_take]; omega
  split
  · rename_i hj
    simp only [List.getD_eq_getElem?_getD]
    rw [List.getElem?_append_left (by omega), List.getElem?_take, if_pos hj]
  · rename_i hj
    simp only [List.getD_eq_getElem?_getD]
    rw [List.getElem?_append_right (by omega), hl, List.getElem?_drop, show 2 * i + 2 + (j - 2 * i) = j + 2 by omega]
theorem GK.del {l : List Int} {hi : Int} (h : GK l hi) {i : Nat} (hi1 : 2 * i + 1 < l.length) : GK (l.take (2 * i) ++ l.drop (2 * i + 2)) hi := by
  intro p hp
  have hlen : (l.take (2 * i) ++ l.drop (2 * i + 2)).length + 2 = l.length := by
    rw [List.length_append, List.length_take, List.length_drop]; omega
  simp only [del_getD l i _ (show 2 * i ≤ l.length by omega)]
  by_cases hpi : p < i
  · obtain ⟨h1, h2, h3, h4⟩ := h p (by omega)
    rw [if_pos (by omega), if_pos (by omega)]
    refine ⟨h1, h2, h3, fun j hj => ?_⟩
    rw [if_pos (by omega)]
    exact h4 j hj
  · obtain ⟨h1, h2, h3, h4⟩ := h (p + 1) (by omega)
    rw [if_neg (by omega), if_neg (by omega)]
    have e1 : 2 * p + 1 + 2 = 2 * (p + 1) + 1 := by omega
    have e2 : 2 * p + 2 = 2 * (p + 1) := by omega
    rw [e1, e2]
    refine ⟨h1, h2, h3, fun j hj => ?_⟩
    split
    · exact h4 j (by omega)
    · have e3 : 2 * j + 2 = 2 * (j + 1) := by omega
      rw [e3]
      exact h4 (j + 1) (by omega)
theorem GK.drop {l : List Int} {hi : Int} (h : GK l hi) (m : Nat) : GK (l.drop (2 * m)) hi := by
  intro p hp
  rw [List.length_drop] at hp
  obtain ⟨h1, h2, h3, h4⟩ := h (m + p) (by omega)
  have e : ∀ q, (l.drop (2 * m)).getD q 0 = l.getD (2 * m + q) 0 := fun q => by simp only [List.getD_eq_getElem?_getD, List.getElem?_drop]
  rw [e, e, show 2 * m + (2 * p + 1) = 2 * (m + p) + 1 by omega, show 2 * m + 2 * p = 2 * (m + p) by omega]
  refine ⟨h1, h2, h3, fun j hj => ?_⟩
  rw [e, show 2 * m + 2 * j = 2 * (m + j) by omega]
  exact h4 (m + j) (by omega)
theorem GK.snoc {l : List Int} {hi hi' a b : Int} (h : GK l hi) {n : Nat} (hl : l.length = 2 * n) (ha0 : 0 ≤ a) (ha : hi < a) (ha' : a ≤ hi') (hb : keyB b = true) : GK (l ++ [a, b]) hi' := by
  intro p hp
  have hp' : p ≤ n := by rw [List.length_append, hl] at hp; simp only [List.length_cons, List.length_nil] at hp; omega
  have el : ∀ q, q < 2 * n → (l ++ [a, b]).getD q 0 = l.getD q 0 := fun q hq => by
    simp only [List.getD_eq_getElem?_getD]; rw [List.getElem?_append_left (by omega)]
  have e0 : (l ++ [a, b]).getD (2 * n) 0 = a := by
    simp only [List.getD_eq_getElem?_getD]; rw [List.getElem?_append_right (by omega), hl, Nat.sub_self]; rfl
  have e1 : (l ++ [a, b]).getD (2 * n + 1) 0 = b := by
    simp only [List.getD_eq_getElem?_getD]; rw [List.getElem?_append_right (by omega), hl, Nat.add_sub_cancel_left]; rfl
  by_cases hpn : p = n
  · subst hpn
    rw [e0, e1]
    refine ⟨hb, ha0, ha', fun j hj => ?_⟩
    rw [el _ (by omega)]
    have := (h j (by omega)).2.2.1
    omega
  · obtain ⟨h1, h2, h3, h4⟩ := h p (by omega)
    rw [el _ (by omega), el _ (by omega)]
    refine ⟨h1, h2, by omega, fun j hj => ?_⟩
    rw [el _ (by omega)]
    exact h4 j hj
theorem message_key (x : Int) : keyB (messageKeyI x) = true := by
  have h := keyedI_bd x [127]
  have h2 := orOneI_bd h.1 h.2
  unfold messageKeyI
  exact inR_iff.2 (by omega)
theorem next_key (x : Int) : keyB (nextChainI x) = true := by
  have h := keyedI_bd x [131]
  have h2 := orOneI_bd h.1 h.2
  unfold nextChainI
  exact inR_iff.2 (by omega)
theorem GK.skip {l : List Int} {s : Int} {n : Nat} (h : GK l (s - 1)) (hl : l.length = 2 * n) (hs : 0 ≤ s) (x : Int) (k : Nat) : GK (skipI k x s l).2 (s + k - 1) := by
  induction k with
  | zero => simpa [skipI] using h
  | succ k ih =>
    simp only [skipI]
    refine ih.snoc (n := n + k) (by rw [skipI_length, hl]; omega) (by omega) (by omega) (by omega) (message_key _)
theorem trim_even (l : List Int) {n : Nat} (hl : l.length = 2 * n) : trimK l = l.drop (2 * (n - 8)) := by
  unfold trimK
  rw [hl, show 2 * n - 16 = 2 * (n - 8) by omega]
theorem valid_split {x s : Int} {n : Nat} {l : List Int} (h : validRatchetI x s n l = true) (hl : l.length = 2 * n) : GK l (s - 1) ∧ keyB x = true ∧ 0 ≤ s ∧ s ≤ 100000 ∧ n ≤ 8 := by
  have hb := valid_bd h
  unfold validRatchetI at h
  rw [Bool.and_eq_true, Bool.and_eq_true, Bool.and_eq_true] at h
  have hw : IntKind.i64.wrap (s - 1) = s - 1 := by rw [IntKind.wrap_i64]; omega
  rw [hw] at h
  exact ⟨GK.of h.1.1.1 hl, h.1.1.2, hb.1, hb.2.1, hb.2.2⟩
theorem valid_join {x s : Int} {n : Nat} {l : List Int} (h : GK l (s - 1)) (hx : keyB x = true) (h0 : 0 ≤ s) (h1 : s ≤ 100000) (hn : n ≤ 8) (hl : l.length = 2 * n) : validRatchetI x s n l = true := by
  have hw : IntKind.i64.wrap (s - 1) = s - 1 := by rw [IntKind.wrap_i64]; omega
  unfold validRatchetI
  rw [hw, h.ok hl, hx, inR_iff.2 ⟨h0, h1⟩, decide_eq_true hn]
  rfl
/-- what the key for a step gives at a valid ratchet -/
theorem key_valid {x s : Int} {n : Nat} {l : List Int} (h : validRatchetI x s n l = true) (hl : l.length = 2 * n) (step : Int) {x1 s1 key : Int} {l1 : List Int} {ok : Bool} (hy : keyStepI x s n l step = ((x1, s1), l1, key, ok)) {n1 : Nat} (hn1 : l1.length = 2 * n1) :
    validRatchetI x1 s1 n1 l1 = true ∧ n1 ≤ 8 ∧ (ok = false → x1 = x ∧ s1 = s ∧ n1 = n ∧ l1 = l) ∧ (ok = true → keyB key = true) ∧ (ok = true → s ≤ step → s1 = step + 1) ∧ (s + 8 < step → ok = false) := by
  obtain ⟨hg, hx, hs0, hs1, hn⟩ := valid_split h hl
  have same : keyStepI x s n l step = ((x, s), l, 0, false) → validRatchetI x1 s1 n1 l1 = true ∧ n1 ≤ 8 ∧ (ok = false → x1 = x ∧ s1 = s ∧ n1 = n ∧ l1 = l) ∧ (ok = true → keyB key = true) ∧ (ok = true → s ≤ step → s1 = step + 1) ∧ (s + 8 < step → ok = false) := by
    intro e
    rw [e] at hy
    simp only [Prod.mk.injEq] at hy
    obtain ⟨⟨rfl, rfl⟩, rfl, rfl, rfl⟩ := hy
    have hnn : n1 = n := by omega
    subst hnn
    exact ⟨h, hn, fun _ => ⟨rfl, rfl, rfl, rfl⟩, fun e => (by cases e), fun e => (by cases e), fun _ => rfl⟩
  by_cases hst : step < 100000
  · have hv : (validRatchetI x s n l && decide (step < 100000)) = true := by rw [h, decide_eq_true hst]; rfl
    by_cases hlt : step < s
    · by_cases hex : ∃ i, i < n ∧ l.getD (2 * i) 0 = step
      · obtain ⟨i, hi, he⟩ := hex
        have hgi := hg i (by omega)
        have hn' : ∀ j, j < i → ¬ l.getD (2 * j) 0 = step := fun j hj => by
          have := hgi.2.2.2 j hj
          omega
        rw [keyStep_at hv hlt hi he hn'] at hy
        simp only [Prod.mk.injEq] at hy
        obtain ⟨⟨rfl, rfl⟩, rfl, rfl, rfl⟩ := hy
        have hlen : (l.take (2 * i) ++ l.drop (2 * i + 2)).length + 2 = l.length := by
          rw [List.length_append, List.length_take, List.length_drop]; omega
        exact ⟨valid_join (hg.del (by omega)) hx hs0 hs1 (by omega) hn1, by omega, fun e => (by cases e), fun _ => hgi.1, fun _ h => by omega, fun h => by omega⟩
      · exact same (keyStep_none hv hlt (fun j hj e => hex ⟨j, hj, e⟩))
    · by_cases hf : 8 < step - s
      · exact same (keyStep_far hv hlt hf)
      · obtain ⟨k, hk⟩ : ∃ k : Nat, step = s + k := ⟨(step - s).toNat, by omega⟩
        have hsk := hg.skip hl hs0 x k
        have hlk := skipI_length k x s l
        rw [keyStep_yes (x' := (skipI k x s l).1) (L := (skipI k x s l).2) hv hlt hf hk rfl] at hy
        simp only [Prod.mk.injEq] at hy
        obtain ⟨⟨rfl, rfl⟩, rfl, rfl, rfl⟩ := hy
        rw [trim_even (n := n + k) _ (by rw [hlk, hl]; omega)] at hn1 ⊢
        have hl2 := hn1
        rw [List.length_drop, hlk, hl] at hl2
        refine ⟨valid_join ?_ (next_key _) (by omega) (by omega) (by omega) hn1, by omega, fun e => (by cases e), fun _ => message_key _, fun _ _ => rfl, fun h => by omega⟩
        have := hsk.drop (n + k - 8)
        rw [show step + 1 - 1 = s + k by omega]
        intro p hp
        obtain ⟨a1, a2, a3, a4⟩ := this p hp
        exact ⟨a1, a2, by omega, a4⟩
  · exact same (keyStep_no (by rw [decide_eq_false hst]; simp))
/-- advancing agrees with asking for the ratchet's own step -/
theorem adv_key {x s : Int} {n : Nat} {l : List Int} (h : validRatchetI x s n l = true) (hl : l.length = 2 * n) :
    (s = 100000 ∧ advI x s n l = ((x, s), 0, false) ∧ keyStepI x s n l s = ((x, s), l, 0, false)) ∨
    (advI x s n l = ((nextChainI x, s + 1), messageKeyI x, true) ∧ keyStepI x s n l s = ((nextChainI x, s + 1), trimK l, messageKeyI x, true)) := by
  obtain ⟨hg, hx, hs0, hs1, hn⟩ := valid_split h hl
  by_cases hs : s = 100000
  · subst hs
    exact .inl ⟨rfl, advI_no (by rw [h]; rfl), keyStep_no (by rw [h]; rfl)⟩
  · refine .inr ⟨advI_yes (by rw [h]; simp [hs]), ?_⟩
    rw [keyStep_yes (k := 0) (x' := x) (L := l) (by rw [h, decide_eq_true (by omega)]; rfl) (by omega) (by omega) (by omega) rfl]
theorem key_invalid {x s : Int} {n : Nat} {l : List Int} (h : validRatchetI x s n l = false) (step : Int) : keyStepI x s n l step = ((x, s), l, 0, false) ∧ advI x s n l = ((x, s), 0, false) := by
  constructor
  · exact keyStep_no (by rw [h]; rfl)
  · exact advI_no (by rw [h]; rfl)
/-- the length stays within bounds -/
theorem key_len (x s : Int) (n : Nat) (l : List Int) (hl : l.length = 2 * n) (hn : n ≤ 8) (step : Int) : (keyStepI x s n l step).2.1.length ≤ 16 := by
  unfold keyStepI
  split
  · split
    · split
      · dsimp only; rw [List.length_append, List.length_take, List.length_drop]; omega
      · dsimp only; omega
    · split
      · show l.length ≤ 16; omega
      · show (trimK _).length ≤ 16
        unfold trimK; rw [List.length_drop]; omega
  · show l.length ≤ 16; omega
end Go.Proofs.Ytelcpihbdgikfaa
