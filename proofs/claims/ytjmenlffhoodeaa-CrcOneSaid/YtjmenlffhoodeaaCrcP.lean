/- The sum by divisions of bits: plain laws (no program in sight). -/
namespace Go.Proofs.Ytjmenlffhoodeaa.Crc

def poly : Nat := 3988292384
/-- One bit falls out. -/
def step (c : Nat) : Nat := if c % 2 = 1 then c / 2 ^^^ poly else c / 2
def steps : Nat → Nat → Nat
  | 0, c => c
  | n + 1, c => steps n (step c)
/-- What becomes of a word as eight bits fall out. -/
def S (c : Nat) : Nat := steps 8 c

theorem poly_lt : poly < 2 ^ 32 := by decide
theorem step_lt (c : Nat) (h : c < 2 ^ 32) : step c < 2 ^ 32 := by
  unfold step
  split
  · exact Nat.xor_lt_two_pow (by omega) poly_lt
  · omega
theorem steps_lt (n : Nat) : ∀ c, c < 2 ^ 32 → steps n c < 2 ^ 32 := by
  induction n with
  | zero => exact fun c h => h
  | succ n ih => exact fun c h => ih _ (step_lt c h)
theorem S_lt (c : Nat) (h : c < 2 ^ 32) : S c < 2 ^ 32 := steps_lt 8 c h
theorem steps_succ (n : Nat) : ∀ c, steps (n + 1) c = step (steps n c) := by
  induction n with
  | zero => exact fun c => rfl
  | succ n ih => exact fun c => ih (step c)

theorem xor_half (a b : Nat) : (a ^^^ b) / 2 = a / 2 ^^^ b / 2 := by
  have := Nat.shiftRight_xor_distrib (a := a) (b := b) (i := 1)
  simpa [Nat.shiftRight_eq_div_pow] using this
theorem xor_odd (a b : Nat) : (a ^^^ b) % 2 = (a + b) % 2 := by
  have := @Nat.xor_mod_two_eq_one a b
  by_cases h : (a ^^^ b) % 2 = 1
  · have h2 := this.1 h
    omega
  · have h2 := fun hh => h (this.2 hh)
    omega
theorem step_xor (a b : Nat) : step (a ^^^ b) = step a ^^^ step b := by
  unfold step
  rw [xor_half, xor_odd]
  rcases Nat.mod_two_eq_zero_or_one a with ha | ha <;> rcases Nat.mod_two_eq_zero_or_one b with hb | hb
  · rw [if_neg (by omega), if_neg (by omega), if_neg (by omega)]
  · rw [if_pos (by omega), if_neg (by omega), if_pos hb, Nat.xor_assoc]
  · rw [if_pos (by omega), if_pos ha, if_neg (by omega), Nat.xor_assoc, Nat.xor_comm (b / 2), Nat.xor_assoc]
  · rw [if_neg (by omega), if_pos ha, if_pos hb, Nat.xor_assoc, Nat.xor_comm (b / 2), ← Nat.xor_assoc poly, Nat.xor_self, Nat.zero_xor]
theorem steps_xor (n : Nat) : ∀ a b, steps n (a ^^^ b) = steps n a ^^^ steps n b := by
  induction n with
  | zero => exact fun a b => rfl
  | succ n ih => exact fun a b => by show steps n (step (a ^^^ b)) = _; rw [step_xor, ih]; rfl
theorem S_xor (a b : Nat) : S (a ^^^ b) = S a ^^^ S b := steps_xor 8 a b
theorem step_even (h : Nat) : step (2 * h) = h := by unfold step; rw [if_neg (by omega)]; omega
theorem S_high (h : Nat) : S (256 * h) = h := by
  have e : 256 * h = 2 * (2 * (2 * (2 * (2 * (2 * (2 * (2 * h))))))) := by omega
  show step (step (step (step (step (step (step (step (256 * h)))))))) = h
  rw [e]
  simp only [step_even]
/-- A word is its last byte and what is above. -/
theorem split8 (c : Nat) : c = 256 * (c / 256) ^^^ c % 256 := by
  apply Nat.eq_of_testBit_eq
  intro i
  rw [Nat.testBit_xor, show (256 : Nat) = 2 ^ 8 from rfl, Nat.testBit_two_pow_mul, Nat.testBit_mod_two_pow, Nat.testBit_div_two_pow]
  by_cases h : i < 8
  · have h2 : ¬ 8 ≤ i := by omega
    simp [h, h2]
  · have h2 : 8 ≤ i := by omega
    simp [h, h2]
/-- A word by a table of bytes. -/
theorem S_byte (c x : Nat) : S (c ^^^ x) = S (c % 256 ^^^ x) ^^^ c / 256 := by
  conv => lhs; rw [split8 c]
  rw [Nat.xor_assoc, S_xor, S_high, Nat.xor_comm]

theorem step_inj (a b : Nat) (ha : a < 2 ^ 32) (hb : b < 2 ^ 32) (h : step a = step b) : a = b := by
  have key : ∀ c, c < 2 ^ 32 → (step c).testBit 31 = decide (c % 2 = 1) := by
    intro c hc
    have hl : (c / 2).testBit 31 = false := Nat.testBit_lt_two_pow (by omega)
    unfold step
    split
    · rename_i h1
      rw [Nat.testBit_xor, hl, h1]
      decide
    · rename_i h1
      rw [hl]; simp [h1]
  have k := key a ha
  rw [h, key b hb] at k
  have hp : a % 2 = b % 2 := by
    by_cases h1 : a % 2 = 1 <;> by_cases h2 : b % 2 = 1 <;> simp [h1, h2] at k <;> omega
  have hh : a / 2 = b / 2 := by
    unfold step at h
    by_cases h1 : a % 2 = 1
    · rw [if_pos h1, if_pos (by omega)] at h
      have := congrArg (· ^^^ poly) h
      simpa [Nat.xor_assoc] using this
    · rw [if_neg h1, if_neg (by omega)] at h
      exact h
  omega
theorem steps_inj (n : Nat) : ∀ a b, a < 2 ^ 32 → b < 2 ^ 32 → steps n a = steps n b → a = b := by
  induction n with
  | zero => exact fun a b _ _ h => h
  | succ n ih => exact fun a b ha hb h => step_inj a b ha hb (ih _ _ (step_lt a ha) (step_lt b hb) h)
theorem S_inj (a b : Nat) (ha : a < 2 ^ 32) (hb : b < 2 ^ 32) (h : S a = S b) : a = b := steps_inj 8 a b ha hb h
theorem xor_cancel (a b c : Nat) (h : a ^^^ c = b ^^^ c) : a = b := by
  have := congrArg (· ^^^ c) h
  simpa [Nat.xor_assoc] using this
theorem xor_cancel_left (a b c : Nat) (h : c ^^^ a = c ^^^ b) : a = b := xor_cancel a b c (by rwa [Nat.xor_comm a, Nat.xor_comm b])

/-- A byte behind a row. -/
def nxt (c x : Nat) : Nat := S (c ^^^ x)
theorem nxt_lt (c x : Nat) (hc : c < 2 ^ 32) (hx : x < 256) : nxt c x < 2 ^ 32 := S_lt _ (Nat.xor_lt_two_pow hc (by omega))
/-- Bytes behind a row: those that f tells from o on. -/
def run (f : Nat → Nat) : (o n c : Nat) → Nat
  | _, 0, c => c
  | o, n + 1, c => run f (o + 1) n (nxt c (f o))
theorem run_lt (f : Nat → Nat) (hf : ∀ i, f i < 256) (n : Nat) : ∀ o c, c < 2 ^ 32 → run f o n c < 2 ^ 32 := by
  induction n with
  | zero => exact fun o c h => h
  | succ n ih => exact fun o c h => ih _ _ (nxt_lt c _ h (hf o))
theorem run_add (f : Nat → Nat) (n m : Nat) : ∀ o c, run f o (n + m) c = run f (o + n) m (run f o n c) := by
  induction n with
  | zero => intro o c; rw [Nat.zero_add]; rfl
  | succ n ih =>
    intro o c
    rw [show n + 1 + m = (n + m) + 1 from by omega, show o + (n + 1) = (o + 1) + n from by omega]
    exact ih (o + 1) _
theorem run_snoc (f : Nat → Nat) (n o c : Nat) : run f o (n + 1) c = nxt (run f o n c) (f (o + n)) := by
  rw [run_add]; rfl
theorem run_congr (f g : Nat → Nat) (n : Nat) : ∀ o p c, (∀ i, i < n → f (o + i) = g (p + i)) → run f o n c = run g p n c := by
  induction n with
  | zero => exact fun o p c _ => rfl
  | succ n ih =>
    intro o p c h
    show run f (o + 1) n (nxt c (f o)) = run g (p + 1) n (nxt c (g p))
    rw [show f o = g p from h 0 (by omega)]
    exact ih _ _ _ fun i hi => by
      have := h (i + 1) (by omega)
      rwa [show o + (i + 1) = o + 1 + i from by omega, show p + (i + 1) = p + 1 + i from by omega] at this
theorem run_inj (f : Nat → Nat) (hf : ∀ i, f i < 256) (n : Nat) : ∀ o c d, c < 2 ^ 32 → d < 2 ^ 32 → run f o n c = run f o n d → c = d := by
  induction n with
  | zero => exact fun o c d _ _ h => h
  | succ n ih =>
    intro o c d hc hd h
    have := ih (o + 1) _ _ (nxt_lt c _ hc (hf o)) (nxt_lt d _ hd (hf o)) h
    exact xor_cancel c d (f o) (S_inj _ _ (Nat.xor_lt_two_pow hc (by have := hf o; omega)) (Nat.xor_lt_two_pow hd (by have := hf o; omega)) this)
/-- Rows that differ at one place have different sums. -/
theorem run_one (f g : Nat → Nat) (hf : ∀ i, f i < 256) (hg : ∀ i, g i < 256) (k n c : Nat) (hk : k < n) (hc : c < 2 ^ 32) (hs : ∀ i, i ≠ k → f i = g i) (h : run f 0 n c = run g 0 n c) : f k = g k := by
  obtain ⟨m, rfl⟩ : ∃ m, n = k + 1 + m := ⟨n - k - 1, by omega⟩
  rw [run_add, run_add g, run_congr g f m (0 + (k + 1)) (0 + (k + 1)) _ (fun i _ => (hs _ (by omega)).symm)] at h
  have h1 := run_inj f hf m _ _ _ (run_lt f hf _ _ _ hc) (run_lt g hg _ _ _ hc) h
  rw [run_snoc, run_snoc, run_congr g f k 0 0 c (fun i hi => (hs _ (by omega)).symm)] at h1
  have hr := run_lt f hf k 0 c hc
  have := S_inj _ _ (Nat.xor_lt_two_pow hr (by have := hf (0 + k); omega)) (Nat.xor_lt_two_pow hr (by have := hg (0 + k); omega)) h1
  have := xor_cancel_left _ _ _ this
  rwa [Nat.zero_add] at this

/-! Four bytes at once. -/
/-- What becomes of a byte with k bytes 0 behind it. -/
def T : Nat → Nat → Nat
  | 0, c => S c
  | k + 1, c => S (T k c)
theorem T_lt (k : Nat) : ∀ c, c < 2 ^ 32 → T k c < 2 ^ 32 := by
  induction k with
  | zero => exact fun c h => S_lt c h
  | succ k ih => exact fun c h => S_lt _ (ih c h)
theorem T_xor (k : Nat) : ∀ a b, T k (a ^^^ b) = T k a ^^^ T k b := by
  induction k with
  | zero => exact S_xor
  | succ k ih => exact fun a b => by show S (T k (a ^^^ b)) = _; rw [ih, S_xor]; rfl
/-- How a table is made of the one ahead. -/
theorem T_next (k c : Nat) : T (k + 1) c = T 0 (T k c % 256) ^^^ T k c / 256 := by
  have := S_byte (T k c) 0
  rw [Nat.xor_zero, Nat.xor_zero] at this
  exact this
theorem T_comm (k : Nat) : ∀ c, T k (S c) = S (T k c) := by
  induction k with
  | zero => exact fun c => rfl
  | succ k ih => exact fun c => by show S (T k (S c)) = _; rw [ih]; rfl
theorem T_high (k h : Nat) : T (k + 1) (256 * h) = T k h := by
  show S (T k (256 * h)) = _
  rw [← T_comm, S_high]
/-- A word's four bytes. -/
theorem split32 (c : Nat) : c = c % 256 ^^^ (256 * (c / 256 % 256) ^^^ (65536 * (c / 65536 % 256) ^^^ 16777216 * (c / 16777216))) := by
  have e1 := split8 c
  have e2 := split8 (c / 256)
  have e3 := split8 (c / 256 / 256)
  rw [Nat.div_div_eq_div_mul] at e2 e3
  rw [Nat.div_div_eq_div_mul] at e3
  have m : ∀ a b : Nat, 256 * (a ^^^ b) = 256 * a ^^^ 256 * b := fun a b => by
    have := Nat.shiftLeft_xor_distrib (a := a) (b := b) (i := 8)
    simp only [Nat.shiftLeft_eq] at this
    rw [Nat.mul_comm 256, Nat.mul_comm 256, Nat.mul_comm 256]; exact this
  calc c = 256 * (c / 256) ^^^ c % 256 := e1
    _ = 256 * (256 * (256 * (c / 16777216) ^^^ c / 65536 % 256) ^^^ c / 256 % 256) ^^^ c % 256 := by rw [← e3, ← e2]
    _ = c % 256 ^^^ (256 * (c / 256 % 256) ^^^ (65536 * (c / 65536 % 256) ^^^ 16777216 * (c / 16777216))) := by
      rw [m, m, m, ← Nat.mul_assoc, ← Nat.mul_assoc, ← Nat.mul_assoc]
      show 256 * 256 * 256 * _ ^^^ 256 * 256 * _ ^^^ _ ^^^ _ = _
      rw [Nat.xor_comm, Nat.xor_comm (256 * 256 * 256 * _ ^^^ 256 * 256 * _), Nat.xor_comm (256 * 256 * 256 * _)]
theorem T_word (c : Nat) : T 3 c = T 3 (c % 256) ^^^ T 2 (c / 256 % 256) ^^^ T 1 (c / 65536 % 256) ^^^ T 0 (c / 16777216) := by
  conv => lhs; rw [split32 c]
  rw [T_xor, T_xor, T_xor, T_high 2, show 65536 * (c / 65536 % 256) = 256 * (256 * (c / 65536 % 256)) from by omega, T_high 2, T_high 1,
    show 16777216 * (c / 16777216) = 256 * (256 * (256 * (c / 16777216))) from by omega, T_high 2, T_high 1, T_high 0, Nat.xor_assoc, Nat.xor_assoc]
theorem four (c s0 s1 s2 s3 : Nat) : nxt (nxt (nxt (nxt c s0) s1) s2) s3 = T 3 (c ^^^ (s0 ^^^ (256 * s1 ^^^ (65536 * s2 ^^^ 16777216 * s3)))) := by
  have h1 : ∀ x, S (256 * x) = x := S_high
  have a1 : T 3 (256 * s1) = S (S (S s1)) := T_high 2 s1
  have a2 : T 3 (65536 * s2) = S (S s2) := by rw [show 65536 * s2 = 256 * (256 * s2) from by omega, T_high 2, T_high 1]; rfl
  have a3 : T 3 (16777216 * s3) = S s3 := by rw [show 16777216 * s3 = 256 * (256 * (256 * s3)) from by omega, T_high 2, T_high 1, T_high 0]; rfl
  rw [T_xor, T_xor, T_xor, T_xor, a1, a2, a3]
  simp only [nxt, S_xor]
  show _ = S (S (S (S c))) ^^^ (S (S (S (S s0))) ^^^ _)
  simp only [Nat.xor_assoc]
end Go.Proofs.Ytjmenlffhoodeaa.Crc
