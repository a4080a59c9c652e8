/- Plain law of ratchets: what sealing step by step and opening in any order computes. No program in sight. -/
import Derived.Test.YtelcpihbdgikfaaProg
import Derived.Test.YtelcpihbdgikfaaKeyPlain
import Derived.Test.YtelcpihbdgikfaaOpenR
import Derived.Test.YtelcpihbdgikfaaSealR
namespace Go.Proofs.Ytelcpihbdgikfaa
set_option linter.unusedVariables false
set_option linter.unusedSimpArgs false

def chainN (x : Int) : Nat → Int
  | 0 => x
  | n + 1 => nextChainI (chainN x n)
def mkN (x : Int) (i : Nat) : Int := messageKeyI (chainN x i)
def keptL (x : Int) : List Nat → List Int
  | [] => []
  | j :: q => (j : Int) :: mkN x j :: keptL x q
theorem keptL_length (x : Int) (q : List Nat) : (keptL x q).length = 2 * q.length := by
  induction q with
  | nil => rfl
  | cons j q ih => simp only [keptL, List.length_cons, ih]; omega
theorem keptL_append (x : Int) (q r : List Nat) : keptL x (q ++ r) = keptL x q ++ keptL x r := by
  induction q with
  | nil => rfl
  | cons j q ih => simp only [keptL, List.cons_append, ih]
theorem keptL_get (x : Int) (q : List Nat) (i : Nat) (h : i < q.length) : (keptL x q).getD (2 * i) 0 = ((q[i] : Nat) : Int) ∧ (keptL x q).getD (2 * i + 1) 0 = mkN x q[i] := by
  induction q generalizing i with
  | nil => exact absurd h (by simp)
  | cons j q ih =>
    cases i with
    | zero => simp [keptL]
    | succ i =>
      have := ih i (by simpa using h)
      rw [show 2 * (i + 1) = 2 * i + 1 + 1 by omega]
      simpa [keptL] using this
theorem mkN_key (x : Int) (i : Nat) : keyB (mkN x i) = true ∧ keyOk (mkN x i) = true := by
  have h := keyedI_bd (chainN x i) [127]
  have h2 := orOneI_bd h.1 h.2
  unfold mkN messageKeyI
  constructor
  · simp only [keyB, inR, Bool.and_eq_true, decide_eq_true_eq]; omega
  · simp only [keyOk, Bool.and_eq_true, decide_eq_true_eq]; omega
theorem chainN_key {x : Int} (hx : keyB x = true) (i : Nat) : keyB (chainN x i) = true := by
  cases i with
  | zero => exact hx
  | succ i =>
    have h := keyedI_bd (chainN x i) [131]
    have h2 := orOneI_bd h.1 h.2
    show keyB (orOneI (keyedI (chainN x i) [131])) = true
    simp only [keyB, inR, Bool.and_eq_true, decide_eq_true_eq]; omega
/-- r has opened 'seen': it stands at step m and keeps the keys of q. -/
structure RInv (m : Nat) (q seen : List Nat) : Prop where
  m8 : m ≤ 8
  srt : q.Pairwise (· < ·)
  mem : ∀ j, j ∈ q ↔ j < m ∧ j ∉ seen
  sm : ∀ j ∈ seen, j < m
theorem RInv.zero : RInv 0 [] [] := ⟨by omega, List.Pairwise.nil, by simp, by simp⟩
theorem srt_len {q : List Nat} : ∀ {a m : Nat}, q.Pairwise (· < ·) → (∀ j ∈ q, a ≤ j ∧ j < m) → q.length + a ≤ m ∨ q = [] := by
  induction q with
  | nil => intro a m _ _; exact .inr rfl
  | cons j q ih =>
    intro a m h1 h2
    rw [List.pairwise_cons] at h1
    refine .inl ?_
    have hj := h2 j (by simp)
    rcases ih (a := j + 1) (m := m) h1.2 (fun i hi => ⟨h1.1 i hi, (h2 i (by simp [hi])).2⟩) with h | h
    · simp only [List.length_cons]; omega
    · subst h; simp only [List.length_cons, List.length_nil]; omega
theorem RInv.len {m : Nat} {q seen : List Nat} (h : RInv m q seen) : q.length ≤ m := by
  rcases srt_len (a := 0) (m := m) h.srt (fun j hj => ⟨Nat.zero_le _, ((h.mem j).1 hj).1⟩) with h | h
  · omega
  · subst h; simp
theorem RInv.valid {x : Int} (hx : keyB x = true) {m : Nat} {q seen : List Nat} (h : RInv m q seen) : validRatchetI (chainN x m) m q.length (keptL x q) = true := by
  have hl := h.len
  have h8 := h.m8
  unfold validRatchetI
  rw [chainN_key hx, keptOk_yes]
  · simp only [inR, Bool.and_eq_true, decide_eq_true_eq, Bool.true_and]; omega
  · intro i hi
    obtain ⟨e0, e1⟩ := keptL_get x q i hi
    have hm := (h.mem q[i]).1 (List.getElem_mem hi)
    unfold skAt
    rw [e0, e1, (mkN_key x _).1]
    have hw : IntKind.i64.wrap ((m : Int) - 1) = m - 1 := by rw [IntKind.wrap_i64]; omega
    rw [hw]
    have : (i == 0 || decide ((keptL x q).getD (2 * (i - 1)) 0 < ((q[i] : Nat) : Int))) = true := by
      cases i with
      | zero => rfl
      | succ i =>
        obtain ⟨e2, _⟩ := keptL_get x q i (by omega)
        have := List.pairwise_iff_getElem.1 h.srt i (i + 1) (by omega) hi (by omega)
        rw [Nat.add_sub_cancel, e2]
        simp only [Bool.or_eq_true, decide_eq_true_eq]
        right; omega
    rw [this]
    simp only [inR, Bool.and_eq_true, decide_eq_true_eq, Bool.true_and, Bool.and_true]
    omega
theorem skip_chain (x : Int) (m : Nat) (l : List Int) (k : Nat) : skipI k (chainN x m) m l = (chainN x (m + k), l ++ keptL x ((List.range k).map (m + ·))) := by
  induction k with
  | zero => simp [skipI, keptL]
  | succ k ih =>
    simp only [skipI, ih]
    rw [List.range_succ, List.map_append, keptL_append]
    simp [keptL, mkN, chainN, Nat.add_assoc]
/-- a step that has been opened is not to be had again -/
theorem RInv.key_no {x : Int} (hx : keyB x = true) {m : Nat} {q seen : List Nat} (h : RInv m q seen) {k : Nat} (hk : k ∈ seen) :
    keyStepI (chainN x m) m q.length (keptL x q) k = ((chainN x m, (m : Int)), keptL x q, 0, false) := by
  have h8 := h.m8
  have hkm := h.sm k hk
  refine keyStep_none (by rw [h.valid hx]; simp; omega) (by omega) (fun j hj => ?_)
  rw [(keptL_get x q j hj).1]
  intro e
  have e' : q[j] = k := by omega
  exact ((h.mem k).1 (e' ▸ List.getElem_mem hj)).2 hk
/-- a step that has not been opened gives its key -/
theorem RInv.key_yes {x : Int} (hx : keyB x = true) {m : Nat} {q seen : List Nat} (h : RInv m q seen) {k : Nat} (hk8 : k < 8) (hk : k ∉ seen) :
    ∃ m' q', RInv m' q' (seen ++ [k]) ∧ keyStepI (chainN x m) m q.length (keptL x q) k = ((chainN x m', (m' : Int)), keptL x q', mkN x k, true) := by
  have h8 := h.m8
  have hlen := h.len
  have hv : (validRatchetI (chainN x m) m q.length (keptL x q) && decide ((k : Int) < 100000)) = true := by rw [h.valid hx]; simp; omega
  by_cases hkm : k < m
  · have hq := (h.mem k).2 ⟨hkm, hk⟩
    obtain ⟨q1, q2, rfl⟩ := List.append_of_mem hq
    have hs := h.srt
    rw [List.pairwise_append] at hs
    obtain ⟨s1, s2, s3⟩ := hs
    rw [List.pairwise_cons] at s2
    refine ⟨m, q1 ++ q2, ⟨h8, ?_, ?_, ?_⟩, ?_⟩
    · rw [List.pairwise_append]
      exact ⟨s1, s2.2, fun a ha b hb => s3 a ha b (by simp [hb])⟩
    · intro j
      have hj := h.mem j
      simp only [List.mem_append, List.mem_cons, List.not_mem_nil, or_false, not_or] at hj ⊢
      constructor
      · intro hh
        have hjk : j ≠ k := by
          rintro rfl
          rcases hh with hh | hh
          · exact Nat.lt_irrefl _ (s3 j hh j (by simp))
          · exact Nat.lt_irrefl _ (s2.1 j hh)
        have := hj.1 (hh.elim .inl (fun e => .inr (.inr e)))
        exact ⟨this.1, this.2, hjk⟩
      · rintro ⟨a, b, c⟩
        rcases hj.2 ⟨a, b⟩ with e | e | e
        · exact .inl e
        · exact absurd e c
        · exact .inr e
    · intro j hj
      rcases List.mem_append.1 hj with e | e
      · exact h.sm j e
      · rw [List.mem_singleton] at e; omega
    · have hi : q1.length < (q1 ++ k :: q2).length := by simp
      have hg : (q1 ++ k :: q2)[q1.length] = k := by simp
      obtain ⟨e0, e1⟩ := keptL_get x (q1 ++ k :: q2) q1.length hi
      rw [hg] at e0 e1
      rw [keyStep_at hv (by omega) hi e0 (fun j hj => ?_), e1]
      · have hL : keptL x (q1 ++ k :: q2) = keptL x q1 ++ ([(k : Int), mkN x k] ++ keptL x q2) := by rw [keptL_append]; rfl
        rw [hL, ← keptL_length x q1, List.take_left', List.drop_append]
        · have : (keptL x q1).length + 2 - (keptL x q1).length = 2 := by omega
          rw [this, List.drop_of_length_le (by omega), keptL_append]
          simp
        · rfl
      · obtain ⟨e2, _⟩ := keptL_get x (q1 ++ k :: q2) j (by omega)
        rw [e2, List.getElem_append_left hj]
        have := s3 q1[j] (List.getElem_mem hj) k (by simp)
        omega
  · have hsk := skip_chain x m (keptL x q) (k - m)
    rw [show m + (k - m) = k by omega] at hsk
    refine ⟨k + 1, q ++ (List.range (k - m)).map (m + ·), ⟨by omega, ?_, ?_, ?_⟩, ?_⟩
    · rw [List.pairwise_append]
      refine ⟨h.srt, ?_, ?_⟩
      · rw [List.pairwise_map]
        exact List.pairwise_lt_range.imp (fun h => by omega)
      · intro a ha b hb
        have := ((h.mem a).1 ha).1
        simp only [List.mem_map] at hb
        obtain ⟨c, _, rfl⟩ := hb
        omega
    · intro j
      simp only [List.mem_append, List.mem_map, List.mem_range, List.mem_singleton, not_or]
      rw [h.mem]
      constructor
      · rintro (⟨a, b⟩ | ⟨c, hc, rfl⟩)
        · exact ⟨by omega, b, by omega⟩
        · exact ⟨by omega, fun e => by have := h.sm _ e; omega, by omega⟩
      · rintro ⟨a, b, c⟩
        by_cases hjm : j < m
        · exact .inl ⟨hjm, b⟩
        · exact .inr ⟨j - m, by omega, by omega⟩
    · intro j hj
      rcases List.mem_append.1 hj with e | e
      · have := h.sm j e; omega
      · rw [List.mem_singleton] at e; omega
    · rw [keyStep_yes hv (by omega) (by omega) (k := k - m) (by omega) hsk]
      have ht : trimK (keptL x q ++ keptL x ((List.range (k - m)).map (m + ·))) = keptL x (q ++ (List.range (k - m)).map (m + ·)) := by
        rw [← keptL_append]
        unfold trimK
        rw [keptL_length, List.length_append, List.length_map, List.length_range, show 2 * (q.length + (k - m)) - 16 = 0 by omega, List.drop_zero]
      rw [ht]
      rfl
/-! ### sealing and opening -/
def cellN (x : Int) (i : Nat) : List Int := (sealI (mkN x i) i 1 [(i : Int)]).1
theorem cellN_ok (x : Int) {i : Nat} (h : i < 8) : sealI (mkN x i) i 1 [(i : Int)] = (cellN x i, true) := by
  have hs : (sealI (mkN x i) i 1 [(i : Int)]).2 = true := by
    unfold sealI
    rw [(mkN_key x i).2, if_pos]
    simp only [countOk, plainOk, Bool.and_eq_true, decide_eq_true_eq, Bool.true_and, List.length_cons, List.length_nil]
    omega
  exact Prod.ext rfl hs
theorem seal_step {x : Int} (hx : keyB x = true) {i : Nat} (h : i < 8) : sealStepI (chainN x i) i 0 [] [(i : Int)] = ((chainN x (i + 1), ((i + 1 : Nat) : Int)), (i : Int), cellN x i, true) := by
  have hv : validRatchetI (chainN x i) i 0 [] = true := by
    unfold validRatchetI
    rw [chainN_key hx, keptOk_yes (by intro j hj; omega)]
    simp only [inR, Bool.and_eq_true, decide_eq_true_eq, Bool.true_and]; omega
  have ha : advI (chainN x i) i 0 [] = ((chainN x (i + 1), ((i + 1 : Nat) : Int)), mkN x i, true) := by
    unfold advI
    rw [hv, if_pos]
    · simp [chainN, mkN]
    · simp; omega
  unfold sealStepI
  rw [ha, cellN_ok x h, sealWith_yes rfl]
theorem one_bytes {i : Nat} (h : i < 8) : bytesOk [(i : Int)] := by
  intro y hy
  simp only [List.mem_singleton] at hy
  omega
theorem RInv.open_no {x : Int} (hx : keyB x = true) {m : Nat} {q seen : List Nat} (h : RInv m q seen) {k : Nat} (hk : k ∈ seen) (cell : List Int) :
    openStepI (chainN x m) m q.length (keptL x q) k cell = ((chainN x m, (m : Int)), keptL x q, [], false) := by
  unfold openStepI
  rw [h.key_no hx hk, openWith_no rfl]
theorem RInv.open_yes {x : Int} (hx : keyB x = true) {m : Nat} {q seen : List Nat} (h : RInv m q seen) {k : Nat} (hk8 : k < 8) (hk : k ∉ seen) :
    ∃ m' q', RInv m' q' (seen ++ [k]) ∧ openStepI (chainN x m) m q.length (keptL x q) k (cellN x k) = ((chainN x m', (m' : Int)), keptL x q', [(k : Int)], true) := by
  obtain ⟨m', q', hi, hs⟩ := h.key_yes hx hk8 hk
  refine ⟨m', q', hi, ?_⟩
  have ho : openI (mkN x k) k (cellN x k) = ((1, [(k : Int)]), true) := seal_open (one_bytes hk8) (by rw [cellN_ok x hk8])
  unfold openStepI
  rw [hs]
  dsimp only
  rw [ho, openWith_yes rfl]
theorem message_next (x : Int) : ¬ messageKeyI x = nextChainI x := by
  have hd : (keyedI x [127] - keyedI x [131]) % 2147483647 = 2143483635 := by
    unfold keyedI hashI
    simp only [List.cons_append, List.nil_append, List.foldl_append, List.foldl_cons, List.foldl_nil]
    generalize hstep 11 x = a
    rw [step_diff]
    unfold hstep
    omega
  have h1 := keyedI_bd x [127]
  have h2 := keyedI_bd x [131]
  unfold messageKeyI nextChainI
  generalize keyedI x [127] = y at *
  generalize keyedI x [131] = z at *
  exact orOne_ne (by omega) (by omega) (by omega)
end Go.Proofs.Ytelcpihbdgikfaa
