/- Plain sums: the rolling sum of a part of a row, moved along; powers by squaring; the places of a pattern. -/
import Derived.Test.YtjmenlffhoodeabK
namespace Go.Proofs.Ytjmenlffhoodeab

/-- The sum of k bytes from o on, not reduced. -/
def hu (s : ByteArray) (o : Nat) : Nat → Int
  | 0 => 0
  | k + 1 => hu s o k * 257 + (byt s (o + k) + 1)
def hs (s : ByteArray) (o k : Nat) : Int := hu s o k % 2147483647
theorem hs_bd (s : ByteArray) (o k : Nat) : 0 ≤ hs s o k ∧ hs s o k < 2147483647 := by unfold hs; omega
theorem hs_succ (s : ByteArray) (o k : Nat) : hs s o (k + 1) = (hs s o k * 257 + byt s (o + k) + 1) % 2147483647 := by
  unfold hs; simp only [hu]; omega
theorem hu_left (s : ByteArray) (o k : Nat) : hu s o (k + 1) = (byt s o + 1) * 257 ^ k + hu s (o + 1) k := by
  induction k with
  | zero => simp [hu]
  | succ k ih =>
    have e : hu s o (k + 1 + 1) = hu s o (k + 1) * 257 + (byt s (o + (k + 1)) + 1) := rfl
    have e2 : hu s (o + 1) (k + 1) = hu s (o + 1) k * 257 + (byt s (o + 1 + k) + 1) := rfl
    rw [e, e2, ih, Int.pow_succ, show o + (k + 1) = o + 1 + k from by omega]
    grind
theorem hu_congr (s t : ByteArray) (o q k : Nat) (h : ∀ i, i < k → byt s (o + i) = byt t (q + i)) : hu s o k = hu t q k := by
  induction k with
  | zero => rfl
  | succ k ih => simp only [hu]; rw [ih (fun i hi => h i (by omega)), h k (by omega)]
theorem hs_congr (s t : ByteArray) (o q k : Nat) (h : ∀ i, i < k → byt s (o + i) = byt t (q + i)) : hs s o k = hs t q k := by
  unfold hs; rw [hu_congr s t o q k h]
theorem hs_extract (s : ByteArray) (o n : Nat) (hn : o + n ≤ s.size) : hs (s.extract o (o + n)) 0 n = hs s o n :=
  hs_congr _ _ _ _ _ fun i hi => by rw [Nat.zero_add, byt_extract s o n i hi hn]

def pw (n : Nat) : Int := 257 ^ n % 2147483647
theorem pw_bd (n : Nat) : 0 ≤ pw n ∧ pw n < 2147483647 := by unfold pw; omega
/-- One sum without its first byte, with one behind. -/
def rolledS (h out x p : Int) : Int := ((h * 257 + x + 1) % 2147483647 + 2147483647 - (out + 1) * p % 2147483647) % 2147483647
theorem rolledS_bd (h out x p : Int) : 0 ≤ rolledS h out x p ∧ rolledS h out x p < 2147483647 := by unfold rolledS; omega
theorem mulmod (x y : Int) : x * (y % 2147483647) % 2147483647 = x * y % 2147483647 := by
  rw [Int.mul_emod, Int.emod_emod, ← Int.mul_emod]
theorem rolled_hs (s : ByteArray) (o k : Nat) : rolledS (hs s o k) (byt s o) (byt s (o + k)) (pw k) = hs s (o + 1) k := by
  unfold rolledS pw
  rw [← hs_succ, mulmod]
  unfold hs
  rw [hu_left]
  generalize (byt s o + 1) * 257 ^ k = x
  generalize hu s (o + 1) k = y
  omega

theorem pow_mod (b : Int) (m : Nat) : (b % 2147483647) ^ m % 2147483647 = b ^ m % 2147483647 := by
  induction m with
  | zero => simp
  | succ m ih => rw [Int.pow_succ, Int.pow_succ, Int.mul_emod, ih, Int.emod_emod, ← Int.mul_emod]

/-- A round of the power by squaring. -/
theorem pow_odd (out x : Int) (n : Nat) (h : n % 2 = 1) : (out * x % 2147483647) * (x * x % 2147483647) ^ (n / 2) % 2147483647 = out * x ^ n % 2147483647 := by
  have e : n = 2 * (n / 2) + 1 := by omega
  have h1 : ∀ (a b : Int) (m : Nat), (a % 2147483647) * (b % 2147483647) ^ m % 2147483647 = a * b ^ m % 2147483647 := fun a b m => by
    rw [Int.mul_emod, Int.emod_emod, pow_mod, ← Int.mul_emod]
  rw [h1]
  conv => rhs; rw [e]
  rw [Int.pow_succ, Int.pow_mul, show x ^ 2 = x * x from by rw [Int.pow_succ, Int.pow_succ, Int.pow_zero, Int.one_mul]]
  congr 1
  grind
theorem pow_even (out x : Int) (n : Nat) (h : n % 2 = 0) : out * (x * x % 2147483647) ^ (n / 2) % 2147483647 = out * x ^ n % 2147483647 := by
  have e : n = 2 * (n / 2) := by omega
  have h1 : ∀ (a b : Int) (m : Nat), a * (b % 2147483647) ^ m % 2147483647 = a * b ^ m % 2147483647 := fun a b m => by
    rw [Int.mul_emod, pow_mod, ← Int.mul_emod]
  rw [h1]
  conv => rhs; rw [e]
  rw [Int.pow_mul, show x ^ 2 = x * x from by rw [Int.pow_succ, Int.pow_succ, Int.pow_zero, Int.one_mul]]
end Go.Proofs.Ytjmenlffhoodeab
