/- The plain law of mailboxes. No program in sight. -/
import Derived.Test.YtelcpihbdgikfaaMailLaw
import Derived.Test.YtelcpihbdgikfaaMail4
import Derived.Test.YtelcpihbdgikfaaFree
namespace Go.Proofs.Ytelcpihbdgikfaa

theorem dir_bd (k d : Int) : 1 ≤ directionKeyI k d ∧ directionKeyI k d ≤ 2147483646 := by
  unfold directionKeyI
  obtain ⟨a, b⟩ := keyedI_bd k [83, d]
  have := orOneI_bd a b
  omega
theorem dir_diff (k : Int) : ∃ D, D = keyedI k [83, 0] ∧ ∃ E, E = keyedI k [83, 1] ∧ (D - E) % 2147483647 = -1000003 % 2147483647 := by
  refine ⟨_, rfl, _, rfl, ?_⟩
  show (hstep (hstep (hstep (hstep 11 k) 83) 0) k - hstep (hstep (hstep (hstep 11 k) 83) 1) k) % 2147483647 = _
  rw [step_diff]
  generalize hstep (hstep 11 k) 83 = h
  have e : (hstep h 0 - hstep h 1) % 2147483647 = -1 % 2147483647 := by unfold hstep; omega
  rw [Int.mul_emod, e]
  decide
theorem dir_part (k : Int) : ¬ (directionKeyI k 0 - directionKeyI k 1) % 2147483647 = 0 := by
  obtain ⟨D, hD, E, hE, h⟩ := dir_diff k
  have a := keyedI_bd k [83, 0]
  have b := keyedI_bd k [83, 1]
  have c := dir_bd k 0
  have d := dir_bd k 1
  rw [← hD] at a
  rw [← hE] at b
  unfold directionKeyI at *
  rw [← hD, ← hE] at *
  have h2 : ¬ orOneI D = orOneI E := orOne_ne (by intro e; subst e; omega) (by omega) (by omega)
  generalize orOneI D = x at *
  generalize orOneI E = y at *
  omega
theorem dir_ne (k : Int) : ¬ directionKeyI k 0 = directionKeyI k 1 := by
  intro e; exact dir_part k (by rw [e]; simp)
theorem mail_ok {k s r : Int} (k0 : 1 ≤ k) (k1 : k ≤ 2000) (s0 : 0 ≤ s) (s1 : s ≤ 10) (r0 : 0 ≤ r) (r1 : r ≤ 10) : validMailI k s r = true := by
  unfold validMailI keyB
  rw [inR_yes k0 (by omega), inR_yes s0 (by omega), inR_yes r0 (by omega)]
  rfl
theorem box_seal {k d s : Int} (s0 : 0 ≤ s) (s1 : s ≤ 10) (x y : Int) : (sealI (directionKeyI k d) s 1 [x, y]).2 = true := by
  have hb := dir_bd k d
  unfold sealI
  have e1 : keyOk (directionKeyI k d) = true := by unfold keyOk; rw [decide_eq_true hb.1, decide_eq_true hb.2]; rfl
  have e2 : countOk s = true := by unfold countOk; rw [decide_eq_true s0, decide_eq_true (show s ≤ 1000000000000 by omega)]; rfl
  have e3 : plainOk 1 [x, y] = true := by unfold plainOk; rfl
  rw [if_pos (by rw [e1, e2, e3]; rfl)]
theorem box_send {k s r : Int} (k0 : 1 ≤ k) (k1 : k ≤ 2000) (s0 : 0 ≤ s) (s1 : s ≤ 10) (r0 : 0 ≤ r) (r1 : r ≤ 10) (x y : Int) {c : List Int} (hc : c = (sealI (directionKeyI k 0) s 1 [x, y]).1) : sendI k s r 0 [x, y] = ((k, s + 1, r), c, true) := by
  have h := box_seal (k := k) (d := 0) s0 s1 x y
  unfold sendI
  rw [sendWith_yes (by rw [h, mail_ok k0 k1 s0 s1 r0 r1, beq_eq_false_iff_ne.2 (by omega)]; rfl), ← hc]
theorem box_recv {k s r : Int} (k0 : 1 ≤ k) (k1 : k ≤ 2000) (s0 : 0 ≤ s) (s1 : s ≤ 10) (r0 : 0 ≤ r) (r1 : r ≤ 10) {x y : Int} (hb : bytesOk [x, y]) {c : List Int} (hc : c = (sealI (directionKeyI k 0) r 1 [x, y]).1) : recvI k s r 0 c = ((k, s, r + 1), [x, y], true) := by
  have ho := seal_open hb (box_seal (k := k) (d := 0) r0 r1 x y)
  rw [← hc] at ho
  unfold recvI
  rw [ho, recvWith_yes (by rw [mail_ok k0 k1 s0 s1 r0 r1, beq_eq_false_iff_ne.2 (show ¬ r = 1000000000000 by omega)]; rfl)]
theorem box_again {k s r : Int} (r0 : 0 ≤ r) (r1 : r ≤ 10) {x y : Int} {c : List Int} (hc : c = (sealI (directionKeyI k 0) r 1 [x, y]).1) : recvI k s (r + 1) 0 c = ((k, s, r + 1), [], false) := by
  have ho := open_other (key' := directionKeyI k 0) (counter' := r + 1) (box_seal (k := k) (d := 0) r0 r1 x y) (check_counter (by omega))
  rw [← hc] at ho
  unfold recvI
  rw [ho, recvWith_no (by rfl)]
theorem box_wrong {k s r : Int} (r0 : 0 ≤ r) (r1 : r ≤ 10) {x y : Int} {c : List Int} (hc : c = (sealI (directionKeyI k 0) r 1 [x, y]).1) : recvI k s r 1 c = ((k, s, r), [], false) := by
  have ho := open_other (key' := directionKeyI k 1) (counter' := r) (box_seal (k := k) (d := 0) r0 r1 x y) (check_key (dataI_length _ _ _ (by simp)) (dir_part k))
  rw [← hc] at ho
  unfold recvI
  rw [ho, recvWith_no (by rfl)]
theorem box_len {k r : Int} (r0 : 0 ≤ r) (r1 : r ≤ 10) {x y : Int} {c : List Int} (hc : c = (sealI (directionKeyI k 0) r 1 [x, y]).1) : c.length = 24 ∧ bytesOk c := by
  have h := box_seal (k := k) (d := 0) r0 r1 x y
  unfold sealI at h hc
  split at hc
  · subst hc
    constructor
    · rw [List.length_append, dataI_length _ _ _ (by simp), fourI_length]
    · refine (encI_ok _ _).append fun y hy => ?_
      simp only [fourI, List.mem_cons, List.not_mem_nil, or_false] at hy
      omega
  · rename_i hn
    rw [if_neg hn] at h
    cases h
theorem box_row {k rd d rows : Int} (r0 : 0 ≤ rd) (r1 : rd ≤ 1000000) (h0 : 1 ≤ rows) (h1 : rows ≤ 64) : 0 ≤ mailboxRowI k rd d rows ∧ mailboxRowI k rd d rows < rows := by
  unfold mailboxRowI
  rw [rowI_yes h0 h1 r0 (by omega)]
  exact ⟨Int.emod_nonneg _ (by omega), Int.emod_lt_of_pos _ (by omega)⟩
theorem freeFrom_is (keys : List Int) (rows : Int) : ∀ (n : Nat) (r : Int), freeFrom keys rows n r = -1 ∨ (r ≤ freeFrom keys rows n r ∧ colI (rowsI keys (freeFrom keys rows n r) rows) = 0) := by
  intro n
  induction n with
  | zero => intro r; exact .inl rfl
  | succ n ih =>
    intro r
    by_cases h : colI (rowsI keys r rows) = 0
    · rw [free_yes h]; exact .inr ⟨Int.le_refl _, h⟩
    · rw [free_no h]
      rcases ih (r + 1) with e | ⟨e1, e2⟩
      · exact .inl e
      · exact .inr ⟨by omega, e2⟩
theorem box_free (k rd : Int) : freeI [k, k + 1] rd 16 = -1 ∨ (rd ≤ freeI [k, k + 1] rd 16 ∧ ¬ mailboxRowI k (freeI [k, k + 1] rd 16) 0 16 = mailboxRowI (k + 1) (freeI [k, k + 1] rd 16) 0 16) := by
  unfold freeI
  split
  · rcases freeFrom_is [k, k + 1] 16 20 rd with e | ⟨e1, e2⟩
    · exact .inl e
    · refine .inr ⟨e1, fun e => ?_⟩
      generalize freeFrom [k, k + 1] 16 20 rd = f at *
      have : rowsI [k, k + 1] f 16 = [mailboxRowI (k + 1) f 0 16, mailboxRowI (k + 1) f 0 16] := by unfold rowsI; simp [e]
      rw [this] at e2
      generalize mailboxRowI (k + 1) f 0 16 = z at e2
      have : colI [z, z] = 1 := by
        unfold colI
        show ((colN [z, z] 2 : Nat) : Int) = 1
        simp [colN, colB, memB, List.range_succ]
      omega
  · exact .inl rfl
theorem box_col : colI [3, 1, 3, 3] = 2 := by decide +kernel
end Go.Proofs.Ytelcpihbdgikfaa
