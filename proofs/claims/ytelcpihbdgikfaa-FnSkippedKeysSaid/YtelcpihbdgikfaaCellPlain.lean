/- The plain functions of sealed cells: streams, encryption, check values, sealing and opening; and plain laws. No program in sight. -/
import Derived.Test.YtelcpihbdgikfaaBase
import Derived.Test.YtelcpihbdgikfaaHashPlain
namespace Go.Proofs.Ytelcpihbdgikfaa

def bytesOk (l : List Int) : Prop := ∀ x ∈ l, 0 ≤ x ∧ x ≤ 255
/-- a list by its places -/
def tab (n : Nat) (f : Nat → Int) : List Int := (List.range n).map f
theorem tab_length (n : Nat) (f : Nat → Int) : (tab n f).length = n := by simp [tab]
theorem tab_getD (n : Nat) (f : Nat → Int) {i : Nat} (h : i < n) : (tab n f).getD i 0 = f i := by simp [tab, h]
theorem tab_succ (n : Nat) (f : Nat → Int) : tab (n + 1) f = tab n f ++ [f n] := by simp [tab, List.range_succ]
theorem tab_zero (f : Nat → Int) : tab 0 f = [] := rfl
theorem tab_mem {n : Nat} {f : Nat → Int} {x : Int} (h : x ∈ tab n f) : ∃ i, i < n ∧ f i = x := by
  simp only [tab, List.mem_map, List.mem_range] at h; exact h
def streamI (seed : Int) (n : Nat) : List Int := tab n fun i => childI seed (100 + i) / 256 % 256
def padI (key : Int) (i : Nat) : Int := keyedI key [(i : Int)] % 256
def encI (key : Int) (l : List Int) : List Int := tab l.length fun i => (l.getD i 0 + padI key i) % 256
def decI (key : Int) (l : List Int) : List Int := tab l.length fun i => (l.getD i 0 - padI key i) % 256
def checkI (key counter : Int) (data : List Int) : Int := keyedI key ([71, counter] ++ data)
def fourI (x : Int) : List Int := [x % 256, x / 256 % 256, x / 65536 % 256, x / 16777216 % 256]
def cipherI (key counter : Int) : Int := orOneI (keyedI key [67, counter])
def plainI (key counter kind : Int) (body : List Int) : List Int := [kind, (body.length : Int)] ++ body ++ (streamI (keyedI key [61, counter]) 18).drop body.length
def dataI (key counter kind : Int) (body : List Int) : List Int := encI (cipherI key counter) (plainI key counter kind body)
theorem streamI_length (s : Int) (n : Nat) : (streamI s n).length = n := tab_length _ _
theorem encI_length (k : Int) (l : List Int) : (encI k l).length = l.length := tab_length _ _
theorem decI_length (k : Int) (l : List Int) : (decI k l).length = l.length := tab_length _ _
theorem padI_bd (k : Int) (i : Nat) : 0 ≤ padI k i ∧ padI k i < 256 := by unfold padI; omega
theorem streamI_ok (s : Int) (n : Nat) : bytesOk (streamI s n) := by
  intro x hx
  obtain ⟨i, _, rfl⟩ := tab_mem hx
  omega
theorem encI_ok (k : Int) (l : List Int) : bytesOk (encI k l) := by
  intro x hx
  obtain ⟨i, _, rfl⟩ := tab_mem hx
  omega
theorem decI_ok (k : Int) (l : List Int) : bytesOk (decI k l) := by
  intro x hx
  obtain ⟨i, _, rfl⟩ := tab_mem hx
  omega
theorem bytesOk.getD {l : List Int} (h : bytesOk l) (i : Nat) : 0 ≤ l.getD i 0 ∧ l.getD i 0 ≤ 255 := by
  by_cases hi : i < l.length
  · exact h _ (by simp [List.getD, hi])
  · simp [List.getD, List.getElem?_eq_none (by omega : l.length ≤ i)]
theorem bytesOk.take {l : List Int} (h : bytesOk l) (n : Nat) : bytesOk (l.take n) := fun x hx => h x (List.mem_of_mem_take hx)
theorem bytesOk.drop {l : List Int} (h : bytesOk l) (n : Nat) : bytesOk (l.drop n) := fun x hx => h x (List.mem_of_mem_drop hx)
theorem bytesOk.append {l m : List Int} (h : bytesOk l) (k : bytesOk m) : bytesOk (l ++ m) := fun x hx => (List.mem_append.1 hx).elim (h x) (k x)
theorem ext_getD {l m : List Int} (h : l.length = m.length) (he : ∀ i, i < l.length → l.getD i 0 = m.getD i 0) : l = m := by
  apply List.ext_getElem h
  intro i h1 h2
  have := he i h1
  simpa [List.getD, h1, h2] using this
theorem dec_enc (k : Int) {l : List Int} (h : bytesOk l) : decI k (encI k l) = l := by
  apply ext_getD
  · rw [decI_length, encI_length]
  · intro i hi
    rw [decI_length, encI_length] at hi
    unfold decI
    rw [tab_getD _ _ (by rw [encI_length]; exact hi)]
    unfold encI
    rw [tab_getD _ _ hi]
    have := h.getD i
    have := padI_bd k i
    omega
theorem plainI_length (key counter kind : Int) {body : List Int} (h : body.length ≤ 18) : (plainI key counter kind body).length = 20 := by
  unfold plainI
  simp only [List.length_append, List.length_cons, List.length_nil, List.length_drop, streamI_length]
  omega
theorem plainI_ok (key counter : Int) {kind : Int} {body : List Int} (hk0 : 0 ≤ kind) (hk1 : kind ≤ 3) (h : body.length ≤ 14) (hb : bytesOk body) : bytesOk (plainI key counter kind body) := by
  unfold plainI
  refine bytesOk.append (bytesOk.append ?_ hb) ((streamI_ok _ _).drop _)
  intro x hx
  simp only [List.mem_cons, List.not_mem_nil, or_false] at hx
  omega
theorem dataI_length (key counter kind : Int) {body : List Int} (h : body.length ≤ 18) : (dataI key counter kind body).length = 20 := by
  unfold dataI; rw [encI_length, plainI_length _ _ _ h]
/-- may the number be a key -/
def keyOk (x : Int) : Bool := decide (1 ≤ x) && decide (x ≤ 2147483646)
def countOk (x : Int) : Bool := decide (0 ≤ x) && decide (x ≤ 1000000000000)
def plainOk (kind : Int) (body : List Int) : Bool := (decide (0 ≤ kind) && decide (kind ≤ 3)) && decide (body.length ≤ 14)
def sealI (key counter kind : Int) (body : List Int) : List Int × Bool :=
  if keyOk key && countOk counter && plainOk kind body then (dataI key counter kind body ++ fourI (checkI key counter (dataI key counter kind body)), true) else ([], false)
def openI (key counter : Int) (cell : List Int) : (Int × List Int) × Bool :=
  if keyOk key && countOk counter && decide (cell.length = 24) && (cell.drop 20 == fourI (checkI key counter (cell.take 20))) &&
    decide ((decI (cipherI key counter) (cell.take 20)).getD 0 0 ≤ 3) && decide ((decI (cipherI key counter) (cell.take 20)).getD 1 0 ≤ 14)
  then (((decI (cipherI key counter) (cell.take 20)).getD 0 0, ((decI (cipherI key counter) (cell.take 20)).drop 2).take ((decI (cipherI key counter) (cell.take 20)).getD 1 0).toNat), true)
  else ((0, []), false)
theorem checkI_bd (k c : Int) (l : List Int) : 0 ≤ checkI k c l ∧ checkI k c l < 2147483647 := keyedI_bd _ _
theorem fourI_inj {x y : Int} (hx0 : 0 ≤ x) (hx1 : x < 2147483648) (hy0 : 0 ≤ y) (hy1 : y < 2147483648) (h : fourI x = fourI y) : x = y := by
  simp only [fourI, List.cons.injEq, and_true] at h
  omega
theorem fourI_length (x : Int) : (fourI x).length = 4 := rfl

/-! ### what is sealed is opened -/
theorem seal_open {key counter kind : Int} {body : List Int} (hb : bytesOk body) (h : (sealI key counter kind body).2 = true) :
    openI key counter (sealI key counter kind body).1 = ((kind, body), true) := by
  unfold sealI at h ⊢
  by_cases hc : (keyOk key && countOk counter && plainOk kind body) = true
  · rw [if_pos hc]
    simp only [Bool.and_eq_true] at hc
    obtain ⟨⟨h1, h2⟩, h3⟩ := hc
    have h3' := h3
    simp only [plainOk, Bool.and_eq_true, decide_eq_true_eq] at h3'
    obtain ⟨⟨k0, k1⟩, hl⟩ := h3'
    have hlen := dataI_length key counter kind (body := body) (by omega)
    have ht : (dataI key counter kind body ++ fourI (checkI key counter (dataI key counter kind body))).take 20 = dataI key counter kind body := by
      rw [List.take_append_of_le_length (by omega), List.take_of_length_le (by omega)]
    have hd : (dataI key counter kind body ++ fourI (checkI key counter (dataI key counter kind body))).drop 20 = fourI (checkI key counter (dataI key counter kind body)) := by
      rw [List.drop_append_of_le_length (by omega), List.drop_of_length_le (by omega), List.nil_append]
    have hp : decI (cipherI key counter) (dataI key counter kind body) = plainI key counter kind body := dec_enc _ (plainI_ok _ _ k0 k1 hl hb)
    unfold openI
    rw [ht, hd, hp]
    have g0 : (plainI key counter kind body).getD 0 0 = kind := rfl
    have g1 : (plainI key counter kind body).getD 1 0 = (body.length : Int) := rfl
    have g2 : ((plainI key counter kind body).drop 2).take body.length = body := by
      unfold plainI
      rw [List.append_assoc, List.drop_append_of_le_length (by simp)]
      simp
    rw [g0, g1, Int.toNat_natCast, g2, h1, h2]
    simp only [List.length_append, hlen, fourI_length]
    rw [if_pos]
    simp [k1]; omega
  · rw [if_neg hc] at h; cases h

/-! ### the hash is linear: a check value at another counter, or another key, is another -/
theorem step_diff (h h' x : Int) : (hstep h x - hstep h' x) % 2147483647 = ((h - h') * 1000003) % 2147483647 := by
  unfold hstep
  have e1 := Int.emod_add_mul_ediv (h * 1000003 + x % 2147483647 + 13) 2147483647
  have e2 := Int.emod_add_mul_ediv (h' * 1000003 + x % 2147483647 + 13) 2147483647
  rw [Int.sub_mul]
  omega
theorem foldl_diff (l : List Int) : ∀ h h' : Int, (l.foldl hstep h - l.foldl hstep h') % 2147483647 = (h - h') * 1000003 ^ l.length % 2147483647 := by
  induction l with
  | nil => intro h h'; simp
  | cons x l ih =>
    intro h h'
    rw [List.foldl_cons, List.foldl_cons, ih, List.length_cons, Int.pow_succ, Int.mul_comm (1000003 ^ l.length), ← Int.mul_assoc, Int.mul_emod, step_diff, ← Int.mul_emod]
theorem unM {d : Int} (h : d * 1000003 % 2147483647 = 0) : d % 2147483647 = 0 := by
  have e : (d * 1000003 * 1523789695) % 2147483647 = 0 := by rw [Int.mul_emod, h]; simp
  rw [Int.mul_assoc, show (1000003 * 1523789695 : Int) = 1 + 2147483647 * 709572 by decide, Int.mul_add, Int.mul_one, Int.mul_left_comm, Int.add_mul_emod_self_left] at e
  exact e
theorem foldl_ne (l : List Int) : ∀ h h' : Int, ¬ (h - h') % 2147483647 = 0 → ¬ (l.foldl hstep h - l.foldl hstep h') % 2147483647 = 0 := by
  induction l with
  | nil => intro h h' hn; exact hn
  | cons x l ih =>
    intro h h' hn
    rw [List.foldl_cons, List.foldl_cons]
    refine ih _ _ (fun e => hn (unM ?_))
    rw [← step_diff h h' x]; exact e
/-- two lists that part at one place have other hashes -/
theorem hash_ne (pre post : List Int) {x y : Int} (h : ¬ (x - y) % 2147483647 = 0) : ¬ hashI (pre ++ [x] ++ post) = hashI (pre ++ [y] ++ post) := by
  unfold hashI
  rw [List.foldl_append, List.foldl_append, List.foldl_append, List.foldl_append]
  intro e
  refine foldl_ne post (List.foldl hstep (List.foldl hstep 11 pre) [x]) (List.foldl hstep (List.foldl hstep 11 pre) [y]) ?_ (by rw [e]; simp)
  simp only [List.foldl_cons, List.foldl_nil]
  generalize List.foldl hstep 11 pre = a
  intro e2
  unfold hstep at e2
  have e3 := Int.emod_add_mul_ediv (a * 1000003 + x % 2147483647 + 13) 2147483647
  have e4 := Int.emod_add_mul_ediv (a * 1000003 + y % 2147483647 + 13) 2147483647
  have e5 := Int.emod_add_mul_ediv x 2147483647
  have e6 := Int.emod_add_mul_ediv y 2147483647
  obtain ⟨k, hk⟩ := Int.dvd_of_emod_eq_zero e2
  refine h (Int.emod_eq_zero_of_dvd ⟨k + (a * 1000003 + x % 2147483647 + 13) / 2147483647 - (a * 1000003 + y % 2147483647 + 13) / 2147483647 + x / 2147483647 - y / 2147483647, ?_⟩)
  omega
/-- the same list under two keys -/
theorem keyed_diff (k k' : Int) (l : List Int) : (keyedI k l - keyedI k' l) % 2147483647 = (k - k') * (1000003 ^ (l.length + 1) + 1) % 2147483647 := by
  unfold keyedI hashI
  rw [List.foldl_append, List.foldl_append, List.foldl_append, List.foldl_append]
  simp only [List.foldl_cons, List.foldl_nil]
  have h1 := foldl_diff l (hstep 11 k) (hstep 11 k')
  have h2 : (hstep 11 k - hstep 11 k') % 2147483647 = (k - k') % 2147483647 := by unfold hstep; omega
  generalize List.foldl hstep (hstep 11 k) l = a at *
  generalize List.foldl hstep (hstep 11 k') l = b at *
  have h3 : (a - b) % 2147483647 = (k - k') * 1000003 ^ l.length % 2147483647 := by rw [h1, Int.mul_emod, h2, ← Int.mul_emod]
  have h4 : ((a - b) * 1000003) % 2147483647 = ((k - k') * 1000003 ^ (l.length + 1)) % 2147483647 := by
    rw [Int.mul_emod, h3, ← Int.mul_emod, Int.mul_assoc, ← Int.pow_succ]
  rw [Int.mul_add, Int.mul_one]
  generalize (k - k') * 1000003 ^ (l.length + 1) = t at *
  unfold hstep
  rw [Int.sub_mul] at h4
  omega
theorem unC {d c i q : Int} (hc : c * i = 1 + 2147483647 * q) (h : d * c % 2147483647 = 0) : d % 2147483647 = 0 := by
  have e : (d * c * i) % 2147483647 = 0 := by rw [Int.mul_emod, h]; simp
  rw [Int.mul_assoc, hc, Int.mul_add, Int.mul_one, Int.mul_left_comm, Int.add_mul_emod_self_left] at e
  exact e
/-- 22 numbers under two keys -/
theorem keyed_ne22 {k k' : Int} {l : List Int} (hl : l.length = 22) (h : ¬ (k - k') % 2147483647 = 0) : ¬ keyedI k l = keyedI k' l := by
  intro e
  have h1 := keyed_diff k k' l
  rw [e, hl] at h1
  have e2 : (1000003 ^ (22 + 1) + 1 : Int) % 2147483647 = 345644590 := by decide +kernel
  refine h (unC (c := 345644590) (i := 927054385) (q := 149212467) (by decide) ?_)
  rw [← e2, Int.mul_emod, Int.emod_emod_of_dvd _ (Int.dvd_refl _), ← Int.mul_emod, ← h1]
  simp
/-- one number under two keys -/
theorem keyed_ne1 {k k' : Int} {l : List Int} (hl : l.length = 1) (h : ¬ (k - k') % 2147483647 = 0) : ¬ keyedI k l = keyedI k' l := by
  intro e
  have h1 := keyed_diff k k' l
  rw [e, hl] at h1
  have e2 : (1000003 ^ (1 + 1) + 1 : Int) % 2147483647 = 1426104155 := by decide +kernel
  refine h (unC (c := 1426104155) (i := 1022143728) (q := 678786737) (by decide) ?_)
  rw [← e2, Int.mul_emod, Int.emod_emod_of_dvd _ (Int.dvd_refl _), ← Int.mul_emod, ← h1]
  simp
/-- a cell does not open at another counter -/
theorem check_counter {k c c' : Int} {l : List Int} (h : ¬ (c - c') % 2147483647 = 0) : ¬ checkI k c l = checkI k c' l := by
  have := hash_ne [k, 71] (l ++ [k]) h
  simpa [checkI, keyedI] using this
theorem check_key {k k' c : Int} {l : List Int} (hl : l.length = 20) (h : ¬ (k - k') % 2147483647 = 0) : ¬ checkI k c l = checkI k' c l :=
  keyed_ne22 (by simp [hl]) h
theorem open_other {key counter kind key' counter' : Int} {body : List Int} (h : (sealI key counter kind body).2 = true)
    (hne : ¬ checkI key counter (dataI key counter kind body) = checkI key' counter' (dataI key counter kind body)) :
    openI key' counter' (sealI key counter kind body).1 = ((0, []), false) := by
  unfold sealI at h ⊢
  by_cases hc : (keyOk key && countOk counter && plainOk kind body) = true
  · rw [if_pos hc]
    simp only [Bool.and_eq_true] at hc
    obtain ⟨⟨h1, h2⟩, h3⟩ := hc
    simp only [plainOk, Bool.and_eq_true, decide_eq_true_eq] at h3
    have hlen := dataI_length key counter kind (body := body) (by omega)
    have ht : (dataI key counter kind body ++ fourI (checkI key counter (dataI key counter kind body))).take 20 = dataI key counter kind body := by
      rw [List.take_append_of_le_length (by omega), List.take_of_length_le (by omega)]
    have hd : (dataI key counter kind body ++ fourI (checkI key counter (dataI key counter kind body))).drop 20 = fourI (checkI key counter (dataI key counter kind body)) := by
      rw [List.drop_append_of_le_length (by omega), List.drop_of_length_le (by omega), List.nil_append]
    have hb : (fourI (checkI key counter (dataI key counter kind body)) == fourI (checkI key' counter' (dataI key counter kind body))) = false := by
      rw [← Bool.not_eq_true, beq_iff_eq]
      intro e
      have b1 := checkI_bd key counter (dataI key counter kind body)
      have b2 := checkI_bd key' counter' (dataI key counter kind body)
      exact hne (fourI_inj (by omega) (by omega) (by omega) (by omega) e)
    unfold openI
    rw [ht, hd, hb]
    simp
  · rw [if_neg hc] at h; cases h
theorem orOne_ne {x y : Int} (h : ¬ x = y) (h1 : ¬ (x - y) % 2147483647 = 1) (h2 : ¬ (y - x) % 2147483647 = 1) : ¬ orOneI x = orOneI y := by
  unfold orOneI
  split <;> split <;> omega
end Go.Proofs.Ytelcpihbdgikfaa
