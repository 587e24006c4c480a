/-
  PLAIN MATHEMATICS of the CRC of 32 bits: the register's step is linear and one-to-one; a text is a number, lowest byte first; what the register becomes. No program in sight.
-/
namespace Go.Proofs.Ytaikcehdomaebaa.Crc

def poly : Nat := 3988292384
/-- one bit leaves the register -/
def step (r : Nat) : Nat := r / 2 ^^^ (r % 2 * poly)
def steps : Nat → Nat → Nat
  | 0, r => r
  | n + 1, r => steps n (step r)
/-- n bits of x go in, the lowest first -/
def feed : Nat → Nat → Nat → Nat
  | 0, r, _ => r
  | n + 1, r, x => feed n (step (r ^^^ x % 2)) (x / 2)
/-- a text as a number -/
def num : List UInt8 → Nat
  | [] => 0
  | b :: l => b.toNat + 256 * num l
/-- the register behind a text -/
def reg (r : Nat) (l : List UInt8) : Nat := l.foldl (fun r b => steps 8 (r ^^^ b.toNat)) r
def ones : Nat := 4294967295
def more (sum : Nat) (l : List UInt8) : Nat := reg (sum ^^^ ones) l ^^^ ones
def sum (l : List UInt8) : Nat := more 0 l

theorem xor_div2 (a b : Nat) : (a ^^^ b) / 2 = a / 2 ^^^ b / 2 := by
  apply Nat.eq_of_testBit_eq; intro i
  simp [Nat.testBit_div_two]
theorem xor_mod2 (a b : Nat) : (a ^^^ b) % 2 = a % 2 ^^^ b % 2 := by
  have := Nat.xor_mod_two_pow (a := a) (b := b) (n := 1)
  simpa using this
theorem mod2 (a : Nat) : a % 2 = 0 ∨ a % 2 = 1 := by omega
theorem xor_swap (a b c d : Nat) : (a ^^^ b) ^^^ (c ^^^ d) = (a ^^^ c) ^^^ (b ^^^ d) := by
  rw [Nat.xor_assoc, Nat.xor_assoc, ← Nat.xor_assoc b c d, Nat.xor_comm b c, Nat.xor_assoc]

theorem step_xor (a b : Nat) : step (a ^^^ b) = step a ^^^ step b := by
  unfold step
  rw [xor_div2, xor_mod2, xor_swap]
  congr 1
  rcases mod2 a with h | h <;> rcases mod2 b with g | g <;> rw [h, g] <;> simp
theorem step_lt (r : Nat) (h : r < 4294967296) : step r < 4294967296 := by
  unfold step
  have h1 : r / 2 < 2 ^ 32 := by omega
  have h2 : r % 2 * poly < 2 ^ 32 := by unfold poly; omega
  exact Nat.xor_lt_two_pow h1 h2
theorem xor_eq_zero (a b : Nat) (h : a ^^^ b = 0) : a = b := by
  have : a ^^^ b ^^^ b = b := by rw [h]; simp
  rwa [Nat.xor_assoc, Nat.xor_self, Nat.xor_zero] at this
theorem step_zero (r : Nat) (h : r < 4294967296) (h0 : step r = 0) : r = 0 := by
  have := xor_eq_zero _ _ h0
  unfold poly at this; omega
theorem step_0 : step 0 = 0 := rfl
theorem steps_0 (n : Nat) : steps n 0 = 0 := by
  induction n with
  | zero => rfl
  | succ n ih => rw [steps, step_0, ih]
theorem steps_xor (n : Nat) : ∀ a b : Nat, steps n (a ^^^ b) = steps n a ^^^ steps n b := by
  induction n with
  | zero => intros; rfl
  | succ n ih => intro a b; rw [steps, steps, steps, step_xor, ih]
theorem steps_lt (n : Nat) : ∀ r : Nat, r < 4294967296 → steps n r < 4294967296 := by
  induction n with
  | zero => intro r h; exact h
  | succ n ih => intro r h; exact ih _ (step_lt r h)
theorem steps_zero (n : Nat) : ∀ r : Nat, r < 4294967296 → steps n r = 0 → r = 0 := by
  induction n with
  | zero => intro r _ h; exact h
  | succ n ih => intro r h h0; exact step_zero r h (ih _ (step_lt r h) h0)
theorem steps_add (a : Nat) : ∀ b r : Nat, steps (a + b) r = steps b (steps a r) := by
  induction a with
  | zero => intro b r; simp [steps]
  | succ a ih => intro b r; rw [show a + 1 + b = (a + b) + 1 from by omega, steps, ih, steps]
theorem step_even (x : Nat) : step (2 * x) = x := by
  unfold step
  rw [Nat.mul_mod_right, Nat.zero_mul, Nat.xor_zero, Nat.mul_div_cancel_left x (by omega)]
/-- n bits that stand ahead of the register's end go out as they are -/
theorem steps_shift (n : Nat) : ∀ x : Nat, steps n (2 ^ n * x) = x := by
  induction n with
  | zero => intro x; simp [steps]
  | succ n ih => intro x; rw [steps, show 2 ^ (n + 1) * x = 2 * (2 ^ n * x) from by rw [Nat.pow_succ]; ac_rfl, step_even, ih]
theorem split_xor (n x : Nat) : x = (2 ^ n * (x / 2 ^ n)) ^^^ (x % 2 ^ n) := by
  have h := Nat.two_pow_add_eq_or_of_lt (Nat.mod_lt x (Nat.two_pow_pos n)) (x / 2 ^ n)
  have e : 2 ^ n * (x / 2 ^ n) + x % 2 ^ n = x := Nat.div_add_mod x (2 ^ n)
  apply Nat.eq_of_testBit_eq; intro i
  rw [Nat.testBit_xor, Nat.testBit_two_pow_mul, Nat.testBit_mod_two_pow, Nat.testBit_div_two_pow]
  by_cases hi : n ≤ i
  · have : ¬ i < n := by omega
    simp [hi, this]
  · have : i < n := by omega
    simp [hi, this]
/-- the table's turn: what leaves, and the table's row for the lowest bits -/
theorem steps_split (n r : Nat) : steps n r = r / 2 ^ n ^^^ steps n (r % 2 ^ n) := by
  have h := split_xor n r
  have e : steps n r = steps n ((2 ^ n * (r / 2 ^ n)) ^^^ (r % 2 ^ n)) := congrArg (steps n) h
  rw [e, steps_xor, steps_shift]

theorem xor_xor_swap (r a b : Nat) : r ^^^ (a ^^^ b) = (r ^^^ a) ^^^ b := (Nat.xor_assoc r a b).symm
theorem feed_xor (n : Nat) : ∀ r s x y : Nat, feed n (r ^^^ s) (x ^^^ y) = feed n r x ^^^ feed n s y := by
  induction n with
  | zero => intros; rfl
  | succ n ih => intro r s x y; rw [feed, feed, feed, ← ih, xor_div2, xor_mod2, xor_swap, step_xor]
theorem feed_0 (n : Nat) : ∀ r : Nat, feed n r 0 = steps n r := by
  induction n with
  | zero => intro r; rfl
  | succ n ih => intro r; rw [feed, steps]; simp [ih]
theorem step_in (r x : Nat) : step (r ^^^ x % 2) ^^^ x / 2 = step (r ^^^ x) := by
  rw [step_xor, step_xor r x, Nat.xor_assoc]
  congr 1
  unfold step
  have a : x % 2 / 2 = 0 := by omega
  have b : x % 2 % 2 = x % 2 := by omega
  rw [a, b, Nat.zero_xor, Nat.xor_comm]
/-- all bits of x at once -/
theorem feed_all (n : Nat) : ∀ r x : Nat, x < 2 ^ n → feed n r x = steps n (r ^^^ x) := by
  induction n with
  | zero => intro r x h; have : x = 0 := by simpa using h
            subst this; simp [feed, steps]
  | succ n ih => intro r x h; rw [feed, ih _ _ (by rw [Nat.pow_succ] at h; omega), step_in, steps]
theorem feed_add (a : Nat) : ∀ b r x : Nat, feed (a + b) r x = feed b (feed a r x) (x / 2 ^ a) := by
  induction a with
  | zero => intro b r x; simp [feed]
  | succ a ih =>
    intro b r x
    rw [show a + 1 + b = (a + b) + 1 from by omega, feed, ih, feed, Nat.div_div_eq_div_mul, Nat.pow_succ, Nat.mul_comm 2]
theorem feed_mod (n : Nat) : ∀ r x : Nat, feed n r (x % 2 ^ n) = feed n r x := by
  induction n with
  | zero => intro r x; rfl
  | succ n ih =>
    intro r x
    rw [feed, feed, ← ih _ (x / 2), ← ih _ (x % 2 ^ (n + 1) / 2)]
    have e1 : x % 2 ^ (n + 1) % 2 = x % 2 := by rw [Nat.pow_succ, Nat.mul_comm]; exact Nat.mod_mul_right_mod x 2 (2 ^ n)
    have e2 : x % 2 ^ (n + 1) / 2 % 2 ^ n = x / 2 % 2 ^ n := by
      rw [Nat.pow_succ, Nat.mul_comm, Nat.mod_mul_right_div_self, Nat.mod_mod]
    rw [e1, e2]
theorem feed_lt (n : Nat) : ∀ r x : Nat, r < 4294967296 → feed n r x < 4294967296 := by
  induction n with
  | zero => intro r x h; exact h
  | succ n ih =>
    intro r x h
    exact ih _ _ (step_lt _ (Nat.xor_lt_two_pow (n := 32) h (by omega)))

theorem num_lt (l : List UInt8) : num l < 2 ^ (8 * l.length) := by
  induction l with
  | nil => simp [num]
  | cons b l ih =>
    have hb := b.toNat_lt
    rw [num, List.length_cons, Nat.mul_add, Nat.pow_add]
    have : (2 : Nat) ^ (8 * 1) = 256 := by decide
    rw [this]; omega
theorem reg_feed (l : List UInt8) : ∀ r : Nat, reg r l = feed (8 * l.length) r (num l) := by
  induction l with
  | nil => intro r; rfl
  | cons b l ih =>
    intro r
    have hb := b.toNat_lt
    have e1 : num (b :: l) % 2 ^ 8 = b.toNat := by rw [num]; omega
    have e2 : num (b :: l) / 2 ^ 8 = num l := by rw [num]; omega
    rw [List.length_cons, show 8 * (l.length + 1) = 8 + 8 * l.length from by omega, feed_add, e2, ← feed_mod 8 r, e1, feed_all 8 r b.toNat (by omega), ← ih]
    rfl
theorem reg_lt (l : List UInt8) (r : Nat) (h : r < 4294967296) : reg r l < 4294967296 := by
  rw [reg_feed]; exact feed_lt _ _ _ h
theorem reg_append (r : Nat) (a b : List UInt8) : reg r (a ++ b) = reg (reg r a) b := by
  unfold reg; rw [List.foldl_append]
theorem ones_lt : ones < 4294967296 := by decide
theorem ones_xor (a : Nat) (h : a < 4294967296) : a ^^^ ones < 4294967296 := Nat.xor_lt_two_pow (n := 32) h ones_lt
theorem more_lt (s : Nat) (l : List UInt8) (h : s < 4294967296) : more s l < 4294967296 := ones_xor _ (reg_lt _ _ (ones_xor _ h))
theorem sum_lt (l : List UInt8) : sum l < 4294967296 := more_lt 0 l (by decide)
theorem ones_ones (a : Nat) : a ^^^ ones ^^^ ones = a := by rw [Nat.xor_assoc, Nat.xor_self, Nat.xor_zero]
/-- P2.1 -/
theorem more_append (s : Nat) (a b : List UInt8) : more s (a ++ b) = more (more s a) b := by
  unfold more; rw [ones_ones, reg_append]
theorem sum_append (a b : List UInt8) : sum (a ++ b) = more (sum a) b := more_append 0 a b
theorem more_nil (s : Nat) : more s [] = s := by unfold more; exact ones_ones s

theorem num_append (a b : List UInt8) : num (a ++ b) = num a + 2 ^ (8 * a.length) * num b := by
  induction a with
  | nil => simp [num]
  | cons x a ih =>
    rw [List.cons_append, num, num, ih, List.length_cons, Nat.mul_add 8, Nat.pow_add]
    have : (2 : Nat) ^ (8 * 1) = 256 := by decide
    rw [this, Nat.mul_add, Nat.add_assoc]
    congr 2
    ac_rfl
theorem num_inj : ∀ a b : List UInt8, a.length = b.length → num a = num b → a = b := by
  intro a
  induction a with
  | nil => intro b h _; cases b with
    | nil => rfl
    | cons _ _ => cases h
  | cons x a ih => intro b h e; cases b with
    | nil => cases h
    | cons y b =>
      rw [num, num] at e
      have hx := x.toNat_lt; have hy := y.toNat_lt
      have e1 : x.toNat = y.toNat := by omega
      have e2 : num a = num b := by omega
      rw [ih b (by simpa using h) e2, UInt8.toNat_inj.1 e1]

/-- two texts of one length that differ within 32 bits in a row have unlike registers -/
theorem reg_differ (r n at_ w x y : Nat) (hd : x ^^^ y = 2 ^ at_ * w) (hw0 : w ≠ 0) (hw : w < 4294967296) (hat : 2 ^ at_ * w < 2 ^ n) :
    feed n r x ≠ feed n r y := by
  intro e
  have h0 : feed n 0 (2 ^ at_ * w) = 0 := by
    have := feed_xor n r r x y
    rw [Nat.xor_self, hd, e, Nat.xor_self] at this
    exact this
  have hle : at_ < n := by
    apply Nat.lt_of_not_le; intro hge
    have h1 : 2 ^ n ≤ 2 ^ at_ := Nat.pow_le_pow_right (by omega) hge
    have h2 : 2 ^ at_ * 1 ≤ 2 ^ at_ * w := Nat.mul_le_mul_left _ (by omega)
    omega
  obtain ⟨m, rfl⟩ : ∃ m, n = at_ + m := ⟨n - at_, by omega⟩
  rw [feed_add, Nat.mul_div_cancel_left w (Nat.two_pow_pos _), ← feed_mod at_, Nat.mul_mod_right, feed_0, steps_0] at h0
  have hwm : w < 2 ^ m := by
    rw [Nat.pow_add] at hat
    exact Nat.lt_of_mul_lt_mul_left hat
  rw [feed_all _ _ _ hwm, Nat.zero_xor] at h0
  exact hw0 (steps_zero m w hw h0)

/-- P2.4 -/
theorem sum_three (n x y z : Nat) : (feed n ones x ^^^ ones) ^^^ (feed n ones y ^^^ ones) ^^^ (feed n ones z ^^^ ones) ^^^ (feed n ones (x ^^^ y ^^^ z) ^^^ ones) = 0 := by
  have h := feed_xor n 0 ones (x ^^^ y) z
  have g := feed_xor n ones ones x y
  rw [Nat.xor_self] at g
  rw [Nat.zero_xor, g] at h
  rw [h]
  generalize feed n ones x = a
  generalize feed n ones y = b
  generalize feed n ones z = c
  apply Nat.eq_of_testBit_eq; intro i
  simp only [Nat.testBit_xor, Nat.zero_testBit]
  cases a.testBit i <;> cases b.testBit i <;> cases c.testBit i <;> cases ones.testBit i <;> rfl

/-- P2.5: the register's bytes behind a text: one register -/
theorem behind (s : Nat) (l t : List UInt8) (ht : t.length = 4) (hn : num t = more s l) : more s (l ++ t) = 0x2144df1c := by
  have e : more s l = reg (s ^^^ ones) l ^^^ ones := rfl
  unfold more
  rw [reg_append, reg_feed t, ht, feed_all _ _ _ (by have := num_lt t; rw [ht] at this; exact this), hn, e, Nat.xor_comm (reg _ _) ones]
  generalize reg (s ^^^ ones) l = a
  rw [Nat.xor_comm ones a, ← Nat.xor_assoc, Nat.xor_self, Nat.zero_xor]
  decide +kernel

/-! where two texts differ: the lowest bit, the highest one, of those below n; -1: none -/
def loBit : Nat → Nat → Int
  | 0, _ => -1
  | n + 1, x => if 0 ≤ loBit n x then loBit n x else if x.testBit n then (n : Int) else -1
def hiBit : Nat → Nat → Int
  | 0, _ => -1
  | n + 1, x => if x.testBit n then (n : Int) else hiBit n x
theorem loBit_bd (n x : Nat) : -1 ≤ loBit n x ∧ loBit n x < n := by
  induction n with
  | zero => simp [loBit]
  | succ n ih => rw [loBit]; repeat' split
                 all_goals omega
theorem hiBit_bd (n x : Nat) : -1 ≤ hiBit n x ∧ hiBit n x < n := by
  induction n with
  | zero => simp [hiBit]
  | succ n ih => rw [hiBit]; split <;> omega
theorem lo_add (m j x : Nat) : loBit (m + j) x = if 0 ≤ loBit m x then loBit m x else if 0 ≤ loBit j (x / 2 ^ m) then m + loBit j (x / 2 ^ m) else -1 := by
  induction j with
  | zero => have := loBit_bd m x; simp [loBit]; omega
  | succ j ih =>
    rw [← Nat.add_assoc, loBit, ih, loBit, Nat.testBit_div_two_pow]
    have h1 := loBit_bd m x; have h2 := loBit_bd j (x / 2 ^ m)
    have e : m + j = j + m := Nat.add_comm _ _
    by_cases a : 0 ≤ loBit m x
    · simp [a]
    · by_cases b : 0 ≤ loBit j (x / 2 ^ m)
      · have : 0 ≤ (m : Int) + loBit j (x / 2 ^ m) := by omega
        simp [a, b, this]
      · rw [e]
        by_cases c : x.testBit (j + m) <;> simp [a, b, c]; omega
theorem hi_add (m j x : Nat) : hiBit (m + j) x = if 0 ≤ hiBit j (x / 2 ^ m) then m + hiBit j (x / 2 ^ m) else hiBit m x := by
  induction j with
  | zero => simp [hiBit]
  | succ j ih =>
    rw [← Nat.add_assoc, hiBit, ih, hiBit, Nat.testBit_div_two_pow, Nat.add_comm m j]
    by_cases c : x.testBit (j + m) <;> simp [c]
    omega
theorem lo_mod (n : Nat) : ∀ m x : Nat, n ≤ m → loBit n (x % 2 ^ m) = loBit n x := by
  induction n with
  | zero => intros; rfl
  | succ n ih =>
    intro m x h
    have : n < m := by omega
    rw [loBit, loBit, ih m x (by omega), Nat.testBit_mod_two_pow]
    simp [this]
theorem hi_mod (n : Nat) : ∀ m x : Nat, n ≤ m → hiBit n (x % 2 ^ m) = hiBit n x := by
  induction n with
  | zero => intros; rfl
  | succ n ih =>
    intro m x h
    have : n < m := by omega
    rw [hiBit, hiBit, ih m x (by omega), Nat.testBit_mod_two_pow]
    simp [this]
theorem lo_0 (n : Nat) : loBit n 0 = -1 := by
  induction n with
  | zero => rfl
  | succ n ih => rw [loBit, ih]; simp
theorem hi_0 (n : Nat) : hiBit n 0 = -1 := by
  induction n with
  | zero => rfl
  | succ n ih => rw [hiBit, ih]; simp
theorem lo_test (n x : Nat) (h : 0 ≤ loBit n x) : x.testBit (loBit n x).toNat = true := by
  induction n with
  | zero => simp [loBit] at h
  | succ n ih =>
    rw [loBit] at h ⊢
    by_cases a : 0 ≤ loBit n x
    · simp only [a, if_true] at h ⊢; exact ih a
    · by_cases c : x.testBit n
      · simp [a, c]
      · simp [a, c] at h
theorem lo_least (n x : Nat) : ∀ i : Nat, i < n → x.testBit i = true → 0 ≤ loBit n x ∧ loBit n x ≤ i := by
  induction n with
  | zero => intro i h; omega
  | succ n ih =>
    intro i hi ht
    rw [loBit]
    by_cases a : 0 ≤ loBit n x
    · simp only [a, if_true]
      by_cases hl : i < n
      · exact ⟨trivial, (ih i hl ht).2⟩
      · have := loBit_bd n x; exact ⟨trivial, by omega⟩
    · by_cases hl : i < n
      · exact absurd (ih i hl ht).1 a
      · have : i = n := by omega
        subst this
        simp [a, ht]
theorem hi_greatest (n x : Nat) : ∀ i : Nat, i < n → x.testBit i = true → (i : Int) ≤ hiBit n x := by
  induction n with
  | zero => intro i h; omega
  | succ n ih =>
    intro i hi ht
    rw [hiBit]
    by_cases c : x.testBit n
    · simp [c]; omega
    · by_cases hl : i < n
      · simp [c]; exact ih i hl ht
      · have : i = n := by omega
        subst this; exact absurd ht c
theorem hi_test (n x : Nat) (h : 0 ≤ hiBit n x) : x.testBit (hiBit n x).toNat = true := by
  induction n with
  | zero => simp [hiBit] at h
  | succ n ih =>
    rw [hiBit] at h ⊢
    by_cases c : x.testBit n
    · simp [c]
    · simp only [c] at h ⊢; exact ih h

/-- bits that are set lie within 32 in a row from 'at' on: so the lowest and the highest one -/
theorem within (n at_ w : Nat) (hw0 : w ≠ 0) (hw : w < 4294967296) (h : 2 ^ at_ * w < 2 ^ n) :
    (at_ : Int) ≤ loBit n (2 ^ at_ * w) ∧ hiBit n (2 ^ at_ * w) < at_ + 32 ∧ loBit n (2 ^ at_ * w) ≤ hiBit n (2 ^ at_ * w) := by
  have hx : 2 ^ at_ * w ≠ 0 := by
    intro e
    rcases Nat.mul_eq_zero.1 e with e | e
    · have := Nat.two_pow_pos at_; omega
    · exact hw0 e
  have hlog := Nat.log2_lt hx |>.2 h
  have ht : (2 ^ at_ * w).testBit (2 ^ at_ * w).log2 = true := Nat.testBit_log2 hx
  have l1 := lo_least n _ _ hlog ht
  have t1 := lo_test n _ l1.1
  have g1 := hi_greatest n _ _ hlog ht
  have l0 := l1.1
  have hh : 0 ≤ hiBit n (2 ^ at_ * w) := by omega
  have t2 := hi_test n _ hh
  generalize loBit n (2 ^ at_ * w) = lo at *
  generalize hiBit n (2 ^ at_ * w) = hi at *
  rw [Nat.testBit_two_pow_mul] at t1 t2
  simp only [Bool.and_eq_true, decide_eq_true_eq] at t1 t2
  refine ⟨by omega, ?_, by omega⟩
  have := Nat.lt_of_not_le (fun hge : 32 ≤ hi.toNat - at_ => by
    have := Nat.testBit_lt_two_pow (x := w) (i := hi.toNat - at_) (Nat.lt_of_lt_of_le hw (Nat.pow_le_pow_right (n := 2) (by omega) hge))
    rw [this] at t2; exact absurd t2.2 (by simp))
  omega

theorem num_bit : ∀ (l : List UInt8) (k : Nat) (h : k / 8 < l.length), num l / 2 ^ k % 2 = l[k / 8].toNat / 2 ^ (k % 8) % 2 := by
  intro l
  induction l with
  | nil => intro k h; simp at h
  | cons b l ih =>
    intro k h
    have hb := b.toNat_lt
    rw [num]
    by_cases hk : k < 8
    · have e : k / 8 = 0 := by omega
      have e2 : k % 8 = k := by omega
      simp only [e, e2, List.getElem_cons_zero]
      have h8 : k = 0 ∨ k = 1 ∨ k = 2 ∨ k = 3 ∨ k = 4 ∨ k = 5 ∨ k = 6 ∨ k = 7 := by omega
      rcases h8 with rfl | rfl | rfl | rfl | rfl | rfl | rfl | rfl <;> simp <;> omega
    · obtain ⟨j, rfl⟩ : ∃ j, k = 8 + j := ⟨k - 8, by omega⟩
      have hj : j / 8 < l.length := by simp at h; omega
      have e : (8 + j) / 8 = j / 8 + 1 := by omega
      have e2 : (8 + j) % 8 = j % 8 := by omega
      have e3 : (b.toNat + 256 * num l) / 2 ^ (8 + j) = num l / 2 ^ j := by
        rw [Nat.pow_add, ← Nat.div_div_eq_div_mul]; congr 1; omega
      have e4 : (b :: l)[(8 + j) / 8] = l[j / 8] := by simp only [e]; rfl
      rw [e3, e4, e2, ih j hj]
theorem num_byte : ∀ (l : List UInt8) (k : Nat) (h : k < l.length), num l / 2 ^ (8 * k) % 2 ^ 8 = l[k].toNat := by
  intro l
  induction l with
  | nil => intro k h; simp at h
  | cons b l ih =>
    intro k h
    have hb := b.toNat_lt
    rw [num]
    cases k with
    | zero => simp
    | succ k =>
      have e3 : (b.toNat + 256 * num l) / 2 ^ (8 * (k + 1)) = num l / 2 ^ (8 * k) := by
        rw [show 8 * (k + 1) = 8 + 8 * k from by omega, Nat.pow_add, ← Nat.div_div_eq_div_mul]; congr 1; omega
      rw [e3, ih k (by simpa using h)]; rfl
theorem xor_byte (a b : List UInt8) (k : Nat) (ha : k < a.length) (hb : k < b.length) : (num a ^^^ num b) / 2 ^ (8 * k) % 2 ^ 8 = a[k].toNat ^^^ b[k].toNat := by
  rw [Nat.xor_div_two_pow, Nat.xor_mod_two_pow, num_byte a k ha, num_byte b k hb]
theorem lo8 : ∀ x : Nat, x < 256 → x ≠ 0 → 0 ≤ loBit 8 x := by decide +kernel
theorem hi8 : ∀ x : Nat, x < 256 → x ≠ 0 → 0 ≤ hiBit 8 x := by decide +kernel
theorem lo_step (X k x : Nat) (hx : X / 2 ^ (8 * k) % 2 ^ 8 = x) :
    loBit (8 * (k + 1)) X = if 0 ≤ loBit (8 * k) X then loBit (8 * k) X else if x = 0 then -1 else 8 * (k : Int) + loBit 8 x := by
  have hlt : x < 256 := by rw [← hx]; exact Nat.mod_lt _ (by decide)
  rw [Nat.mul_add, Nat.mul_one, lo_add, ← lo_mod 8 8 (X / 2 ^ (8 * k)) (by omega), hx]
  by_cases h0 : x = 0
  · subst h0; rw [lo_0]; simp
  · have := lo8 x hlt h0
    simp [h0, this]
theorem hi_step (X k x : Nat) (hx : X / 2 ^ (8 * k) % 2 ^ 8 = x) : hiBit (8 * (k + 1)) X = if x = 0 then hiBit (8 * k) X else 8 * (k : Int) + hiBit 8 x := by
  have hlt : x < 256 := by rw [← hx]; exact Nat.mod_lt _ (by decide)
  rw [Nat.mul_add, Nat.mul_one, hi_add, ← hi_mod 8 8 (X / 2 ^ (8 * k)) (by omega), hx]
  by_cases h0 : x = 0
  · subst h0; rw [hi_0]; simp
  · have := hi8 x hlt h0
    simp [h0, this]
def tz8 (x : Nat) : Int := if x = 0 then 8 else loBit 8 x
def len8 (x : Nat) : Int := hiBit 8 x + 1
theorem tz8_bd (x : Nat) : 0 ≤ tz8 x + 1 ∧ tz8 x ≤ 8 := by unfold tz8; have := loBit_bd 8 x; split <;> omega
theorem xor_testBit (A B k x y : Nat) (hx : A / 2 ^ k % 2 = x) (hy : B / 2 ^ k % 2 = y) : (A ^^^ B).testBit k = decide (x ≠ y) := by
  rw [Nat.testBit_xor, Nat.testBit_eq_decide_div_mod_eq, Nat.testBit_eq_decide_div_mod_eq, hx, hy]
  rcases mod2 (A / 2 ^ k) with h | h <;> rcases mod2 (B / 2 ^ k) with g | g <;> rw [h] at hx <;> rw [g] at hy <;> subst hx <;> subst hy <;> rfl
theorem feed_snoc (n r x : Nat) : feed (n + 1) r x = step (feed n r x ^^^ (x / 2 ^ n % 2)) := by
  rw [feed_add n 1]; rfl
theorem sum_feed (l : List UInt8) : sum l = feed (8 * l.length) ones (num l) ^^^ ones := by
  unfold sum more; rw [reg_feed, Nat.zero_xor]
theorem xor_cancel (a b c : Nat) (h : b = a ^^^ c) : a ^^^ b = c := by rw [h, ← Nat.xor_assoc, Nat.xor_self, Nat.zero_xor]
/-- unlike sums -/
theorem sum_ne (a b : List UInt8) (hl : a.length = b.length) (k W : Nat) (h : num b = num a ^^^ 2 ^ k * W) (hW : W ≠ 0) (hW2 : W < 4294967296) (hlt : 2 ^ k * W < 2 ^ (8 * a.length)) : sum a ≠ sum b := by
  rw [sum_feed, sum_feed, ← hl]
  intro e
  have e2 : feed (8 * a.length) ones (num a) = feed (8 * a.length) ones (num b) := by
    have := congrArg (· ^^^ ones) e
    simpa [ones_ones] using this
  exact reg_differ ones _ k W _ _ (xor_cancel _ _ _ h) hW hW2 hlt e2
theorem num_zip : ∀ a b : List UInt8, a.length = b.length → num (List.zipWith (fun x y => x ^^^ y) a b) = num a ^^^ num b := by
  intro a
  induction a with
  | nil => intro b h; cases b with
    | nil => rfl
    | cons _ _ => cases h
  | cons x a ih => intro b h; cases b with
    | nil => cases h
    | cons y b =>
      have hx := x.toNat_lt; have hy := y.toNat_lt
      have hz : x.toNat ^^^ y.toNat < 256 := Nat.xor_lt_two_pow (n := 8) hx hy
      have e1 : ∀ m z, z < 256 → z + 256 * m = 2 ^ 8 * m ^^^ z := fun m z h => by
        have := split_xor 8 (z + 256 * m)
        have e1 : (z + 256 * m) / 2 ^ 8 = m := by omega
        have e2 : (z + 256 * m) % 2 ^ 8 = z := by omega
        rwa [e1, e2] at this
      rw [List.zipWith_cons_cons, num, num, num, ih b (by simpa using h), UInt8.toNat_xor, e1 _ _ hz, e1 _ _ hx, e1 _ _ hy]
      have e3 : 2 ^ 8 * (num a ^^^ num b) = 2 ^ 8 * num a ^^^ 2 ^ 8 * num b := by
        apply Nat.eq_of_testBit_eq; intro i
        simp only [Nat.testBit_xor, Nat.testBit_two_pow_mul]
        by_cases h : 8 ≤ i <;> simp [h]
      rw [e3, xor_swap]
theorem set_zeros (Z : List UInt8) (i : Nat) (h : i < Z.length) : (Z.take i ++ List.replicate (Z.length - i) 0).set i Z[i] = Z.take (i + 1) ++ List.replicate (Z.length - (i + 1)) 0 := by
  have e : Z.length - i = (Z.length - (i + 1)) + 1 := by omega
  have h0 : i - (Z.take i).length = 0 := by simp; omega
  rw [e, List.replicate_succ, List.set_append_right _ _ (by simp; omega), List.take_succ_eq_append_getElem h, h0, List.append_assoc]
  rfl
theorem three (a b c : List UInt8) (hab : a.length = b.length) (hac : a.length = c.length) :
    sum a ^^^ sum b ^^^ sum c ^^^ sum (List.zipWith (fun x y => x ^^^ y) (List.zipWith (fun x y => x ^^^ y) a b) c) = 0 := by
  have hl : (List.zipWith (fun x y => x ^^^ y) a b).length = a.length := by simp; omega
  rw [sum_feed, sum_feed, sum_feed, sum_feed, num_zip _ _ (by omega), num_zip _ _ hab, ← hab, ← hac]
  have : (List.zipWith (fun x y => x ^^^ y) (List.zipWith (fun x y => x ^^^ y) a b) c).length = a.length := by simp; omega
  rw [this]
  exact sum_three _ _ _ _
/- single bits of a text of 256 noughts -/
theorem no_turn : ∀ d : Nat, d < 256 → 0 < d → steps d 1 ≠ 1 := by decide +kernel
theorem steps_inj (n a b : Nat) (ha : a < 4294967296) (hb : b < 4294967296) (h : steps n a = steps n b) : a = b := by
  have h1 : steps n (a ^^^ b) = 0 := by rw [steps_xor, h, Nat.xor_self]
  exact xor_eq_zero _ _ (steps_zero n _ (Nat.xor_lt_two_pow (n := 32) ha hb) h1)
def one (i : Nat) : Nat := feed 256 ones (2 ^ i) ^^^ ones
theorem one_eq (i : Nat) (h : i < 256) : one i = (feed 256 ones 0 ^^^ ones) ^^^ steps (256 - i) 1 := by
  have e : feed 256 0 (2 ^ i) = steps (256 - i) 1 := by
    obtain ⟨m, hm⟩ : ∃ m, 256 = i + m := ⟨256 - i, by omega⟩
    rw [show 256 - i = m from by omega, hm, feed_add, Nat.div_self (Nat.two_pow_pos _), ← feed_mod i, Nat.mod_self, feed_0, steps_0, feed_all m 0 1 (Nat.one_lt_two_pow (by omega)), Nat.zero_xor]
  have h2 := feed_xor 256 ones 0 0 (2 ^ i)
  rw [Nat.xor_zero, Nat.zero_xor, e] at h2
  unfold one
  rw [h2, Nat.xor_assoc, Nat.xor_comm (steps _ _), ← Nat.xor_assoc]
theorem one_ne_none (i : Nat) (h : i < 256) : one i ≠ feed 256 ones 0 ^^^ ones := by
  rw [one_eq i h]
  intro e
  have h1 : steps (256 - i) 1 = 0 := by
    have := congrArg ((feed 256 ones 0 ^^^ ones) ^^^ ·) e
    simpa [← Nat.xor_assoc] using this
  have := steps_zero _ 1 (by decide) h1
  omega
theorem one_ne (i k : Nat) (h : i < 256) (hk : k < i) : one i ≠ one k := by
  rw [one_eq i h, one_eq k (by omega)]
  intro e
  have h1 : steps (256 - i) 1 = steps (256 - k) 1 := by
    have := congrArg ((feed 256 ones 0 ^^^ ones) ^^^ ·) e
    simpa [← Nat.xor_assoc] using this
  obtain ⟨d, hd⟩ : ∃ d, 256 - k = d + (256 - i) := ⟨i - k, by omega⟩
  rw [hd, steps_add] at h1
  have := steps_inj _ _ _ (by decide) (steps_lt d 1 (by decide)) h1
  exact no_turn d (by omega) (by omega) this.symm
theorem num_zeros (n : Nat) : num (List.replicate n 0) = 0 := by
  induction n with
  | zero => rfl
  | succ n ih => rw [List.replicate_succ, num, ih]; rfl
theorem mul_xor (n a b : Nat) : 2 ^ n * (a ^^^ b) = 2 ^ n * a ^^^ 2 ^ n * b := by
  apply Nat.eq_of_testBit_eq; intro i
  simp only [Nat.testBit_xor, Nat.testBit_two_pow_mul]
  by_cases h : n ≤ i <;> simp [h]
theorem join_xor (m y : Nat) (h : y < 256) : y + 256 * m = 2 ^ 8 * m ^^^ y := by
  have := split_xor 8 (y + 256 * m)
  have e1 : (y + 256 * m) / 2 ^ 8 = m := by omega
  have e2 : (y + 256 * m) % 2 ^ 8 = y := by omega
  rwa [e1, e2] at this
theorem num_flip : ∀ (L : List UInt8) (p : Nat) (h : p / 8 < L.length), num (L.set (p / 8) (UInt8.ofNat (L[p / 8].toNat ^^^ 2 ^ (p % 8)))) = num L ^^^ 2 ^ p := by
  intro L
  induction L with
  | nil => intro p h; simp at h
  | cons b l ih =>
    intro p h
    have hb := b.toNat_lt
    by_cases hp : p < 8
    · have e : p / 8 = 0 := by omega
      have e2 : p % 8 = p := by omega
      have hlt : b.toNat ^^^ 2 ^ p < 256 := Nat.xor_lt_two_pow (n := 8) hb (Nat.pow_lt_pow_right (by omega) hp)
      simp only [e, e2, List.getElem_cons_zero, List.set_cons_zero]
      rw [num, num, UInt8.toNat_ofNat_of_lt' hlt, join_xor _ _ hlt, join_xor _ _ hb, Nat.xor_assoc]
    · obtain ⟨j, rfl⟩ : ∃ j, p = 8 + j := ⟨p - 8, by omega⟩
      have hj : j / 8 < l.length := by simp at h; omega
      have e : (8 + j) / 8 = j / 8 + 1 := by omega
      have e2 : (8 + j) % 8 = j % 8 := by omega
      simp only [e, e2, List.getElem_cons_succ, List.set_cons_succ]
      rw [num, num, ih j hj, join_xor _ _ hb, join_xor _ _ hb, mul_xor, Nat.pow_add, Nat.xor_assoc, Nat.xor_assoc, Nat.xor_comm b.toNat]
theorem grow_bit (a k x : Nat) (h : x / 2 ^ k % 2 = 1) : 2 ^ a * (x % 2 ^ (k + 1)) = 2 ^ a * (x % 2 ^ k) ^^^ 2 ^ (a + k) := by
  have h1 := split_xor k (x % 2 ^ (k + 1))
  have e1 : x % 2 ^ (k + 1) / 2 ^ k = 1 := by rw [Nat.pow_succ, Nat.mod_mul_right_div_self, h]
  have e2 : x % 2 ^ (k + 1) % 2 ^ k = x % 2 ^ k := by rw [Nat.pow_succ]; exact Nat.mod_mul_right_mod x _ 2
  rw [e1, e2, Nat.mul_one] at h1
  rw [h1, mul_xor, Nat.pow_add, Nat.xor_comm]
theorem keep_bit (a k x : Nat) (h : x / 2 ^ k % 2 ≠ 1) : 2 ^ a * (x % 2 ^ (k + 1)) = 2 ^ a * (x % 2 ^ k) := by
  have h0 : x / 2 ^ k % 2 = 0 := by omega
  have h1 := split_xor k (x % 2 ^ (k + 1))
  have e1 : x % 2 ^ (k + 1) / 2 ^ k = 0 := by rw [Nat.pow_succ, Nat.mod_mul_right_div_self, h0]
  have e2 : x % 2 ^ (k + 1) % 2 ^ k = x % 2 ^ k := by rw [Nat.pow_succ]; exact Nat.mod_mul_right_mod x _ 2
  rw [e1, e2, Nat.mul_zero, Nat.zero_xor] at h1
  rw [h1]
end Go.Proofs.Ytaikcehdomaebaa.Crc
