/- Plain sums: Adler's two sums over a row of bytes, not reduced; bounds; how they part. -/
import Derived.Test.YtjmenlffhoodeabK
namespace Go.Proofs.Ytjmenlffhoodeab

def sA (s : ByteArray) (a : Int) : Nat → Int
  | 0 => a
  | k + 1 => sA s a k + byt s k
def sB (s : ByteArray) (a b : Int) : Nat → Int
  | 0 => b
  | k + 1 => sB s a b k + sA s a (k + 1)
theorem sA_bd (s : ByteArray) (a : Int) (k : Nat) : a ≤ sA s a k ∧ sA s a k ≤ a + 255 * k := by
  induction k with
  | zero => simp [sA]
  | succ k ih => have := byt_bd s k; simp only [sA]; omega
def tri : Nat → Nat
  | 0 => 0
  | k + 1 => tri k + (k + 1)
theorem tri_two (k : Nat) : 2 * tri k = k * (k + 1) := by
  induction k with
  | zero => rfl
  | succ k ih => simp only [tri]; rw [Nat.mul_add, ih, ← Nat.add_mul, Nat.mul_comm, show k + 1 + 1 = k + 2 from rfl]
theorem tri_le (k : Nat) (h : k ≤ 5000) : tri k ≤ 12502500 := by
  have h1 := tri_two k
  have h2 : k * (k + 1) ≤ 5000 * 5001 := Nat.mul_le_mul h (by omega)
  omega
theorem sB_bd (s : ByteArray) (a b : Int) (h0 : 0 ≤ a) (k : Nat) : b ≤ sB s a b k ∧ sB s a b k ≤ b + a * k + 255 * tri k := by
  induction k with
  | zero => simp [sB, tri]
  | succ k ih =>
    have h := sA_bd s a (k + 1)
    simp only [sB, tri]
    have e : a * ((k + 1 : Nat) : Int) = a * k + a := by rw [Int.natCast_add, Int.mul_add]; simp
    rw [e]
    omega
/-- No sum of 5000 bytes passes 2^32. -/
theorem sums_fit (s : ByteArray) (a b : Int) (k : Nat) (h0 : 0 ≤ a) (h1 : a ≤ 65520) (h2 : 0 ≤ b) (h3 : b ≤ 65520) (hk : k ≤ 5000) :
    0 ≤ sA s a k ∧ sA s a k ≤ 1340520 ∧ 0 ≤ sB s a b k ∧ sB s a b k ≤ 3600000000 := by
  have h4 := sA_bd s a k
  have h5 := sB_bd s a b h0 k
  have h6 := tri_le k hk
  have h7 : a * (k : Int) ≤ 65520 * 5000 := by
    have : a * (k : Int) ≤ 65520 * (k : Int) := Int.mul_le_mul_of_nonneg_right h1 (by omega)
    omega
  omega
theorem sA_nonneg (s : ByteArray) (a : Int) (k : Nat) (h : 0 ≤ a) : 0 ≤ sA s a k := by have := sA_bd s a k; omega

theorem sA_part (s t : ByteArray) (o : Nat) (a a' : Int) (n : Nat) (ht : ∀ i, i < n → byt t i = byt s (o + i)) (ha : a' % 65521 = sA s a o % 65521) :
    sA t a' n % 65521 = sA s a (o + n) % 65521 := by
  induction n with
  | zero => simpa [sA] using ha
  | succ n ih =>
    have h := ih (fun i hi => ht i (by omega))
    have h2 := ht n (by omega)
    rw [show o + (n + 1) = (o + n) + 1 from by omega]
    simp only [sA]
    omega
theorem sB_part (s t : ByteArray) (o : Nat) (a b a' b' : Int) (n : Nat) (ht : ∀ i, i < n → byt t i = byt s (o + i)) (ha : a' % 65521 = sA s a o % 65521) (hb : b' % 65521 = sB s a b o % 65521) :
    sB t a' b' n % 65521 = sB s a b (o + n) % 65521 := by
  induction n with
  | zero => simpa [sB] using hb
  | succ n ih =>
    have h := ih (fun i hi => ht i (by omega))
    have h2 := sA_part s t o a a' (n + 1) ht ha
    rw [show o + (n + 1) = (o + n) + 1 from by omega] at h2 ⊢
    simp only [sB]
    omega

/-- The sum of a row behind a sum. -/
def loA (sum : Int) : Int := sum % 65536 % 65521
def hiA (sum : Int) : Int := sum / 65536 % 65521
def addS (sum : Int) (s : ByteArray) : Int := (sB s (loA sum) (hiA sum) s.size % 65521) * 65536 + sA s (loA sum) s.size % 65521
theorem addS_bd (sum : Int) (s : ByteArray) : 0 ≤ addS sum s ∧ addS sum s ≤ 4294967295 := by unfold addS; omega
theorem loA_bd (x : Int) : 0 ≤ loA x ∧ loA x ≤ 65520 := by unfold loA; omega
theorem hiA_bd (x : Int) : 0 ≤ hiA x ∧ hiA x ≤ 65520 := by unfold hiA; omega
theorem loA_addS (sum : Int) (s : ByteArray) : loA (addS sum s) = sA s (loA sum) s.size % 65521 := by
  unfold loA addS; unfold loA
  generalize sA s (sum % 65536 % 65521) s.size = x
  generalize sB s (sum % 65536 % 65521) (hiA sum) s.size = y
  omega
theorem hiA_addS (sum : Int) (s : ByteArray) : hiA (addS sum s) = sB s (loA sum) (hiA sum) s.size % 65521 := by
  unfold addS
  generalize sA s (loA sum) s.size = x
  generalize sB s (loA sum) (hiA sum) s.size = y
  unfold hiA
  omega
theorem sA_congr (s t : ByteArray) (a : Int) (n : Nat) (h : ∀ i, i < n → byt s i = byt t i) : sA s a n = sA t a n := by
  induction n with
  | zero => rfl
  | succ n ih => simp only [sA]; rw [ih (fun i hi => h i (by omega)), h n (by omega)]
theorem sB_congr (s t : ByteArray) (a b : Int) (n : Nat) (h : ∀ i, i < n → byt s i = byt t i) : sB s a b n = sB t a b n := by
  induction n with
  | zero => rfl
  | succ n ih => simp only [sB]; rw [ih (fun i hi => h i (by omega)), sA_congr s t a (n + 1) h]
/-- Behind the sum of a first row: the sum of both. -/
theorem addS_append (sum : Int) (s t : ByteArray) : addS (addS sum s) t = addS sum (s ++ t) := by
  have hz : (s ++ t).size = s.size + t.size := by simp
  have h1 := sA_part (s ++ t) t s.size (loA sum) (loA (addS sum s)) t.size (fun i _ => (byt_append_right s t i).symm)
    (by rw [loA_addS, sA_congr (s ++ t) s _ _ (fun i hi => byt_append_left s t i hi)]; omega)
  have h2 := sB_part (s ++ t) t s.size (loA sum) (hiA sum) (loA (addS sum s)) (hiA (addS sum s)) t.size (fun i _ => (byt_append_right s t i).symm)
    (by rw [loA_addS, sA_congr (s ++ t) s _ _ (fun i hi => byt_append_left s t i hi)]; omega)
    (by rw [hiA_addS, sB_congr (s ++ t) s _ _ _ (fun i hi => byt_append_left s t i hi)]; omega)
  have e : ∀ x : Int, addS x (s ++ t) = (sB (s ++ t) (loA x) (hiA x) (s.size + t.size) % 65521) * 65536 + sA (s ++ t) (loA x) (s.size + t.size) % 65521 := fun x => by
    unfold addS; rw [hz]
  rw [e, ← h1, ← h2]
  rfl

/-- Two sums, joined. -/
def joinS (a b n : Int) : Int := ((hiA a + hiA b + (max 0 n % 65521) * (loA a + 65520)) % 65521) * 65536 + (loA a + loA b + 65520) % 65521
theorem sA_shift (s : ByteArray) (a : Int) (n : Nat) : sA s a n = sA s 1 n + (a - 1) := by
  induction n with
  | zero => simp [sA]; omega
  | succ n ih => simp only [sA]; omega
theorem sB_shift (s : ByteArray) (a b : Int) (n : Nat) : sB s a b n = sB s 1 0 n + b + n * (a - 1) := by
  induction n with
  | zero => simp [sB]
  | succ n ih =>
    have h := sA_shift s a (n + 1)
    simp only [sB]
    have e : (((n + 1 : Nat) : Int)) * (a - 1) = n * (a - 1) + (a - 1) := by rw [Int.natCast_add, Int.add_mul]; simp
    rw [e, ih]
    omega
theorem mod_mul (x k m : Int) : (x + (k % 65521) * m) % 65521 = (x + k * m) % 65521 := by
  rw [Int.add_emod, Int.mul_emod, Int.emod_emod, ← Int.mul_emod, ← Int.add_emod]
theorem mod_mul' (x k m : Int) : (x + k * (m % 65521)) % 65521 = (x + k * m) % 65521 := by
  rw [Int.add_emod, Int.mul_emod, Int.emod_emod, ← Int.mul_emod, ← Int.add_emod]
theorem one_parts : loA 1 = 1 ∧ hiA 1 = 0 := by decide
theorem joinS_append (s t : ByteArray) : joinS (addS 1 s) (addS 1 t) t.size = addS 1 (s ++ t) := by
  rw [← addS_append 1 s t]
  have h1 := loA_addS 1 s
  have h2 := hiA_addS 1 s
  have h3 := loA_addS 1 t
  have h4 := hiA_addS 1 t
  rw [one_parts.1] at h1 h2 h3 h4
  rw [one_parts.2] at h2 h4
  generalize addS 1 s = X at *
  generalize addS 1 t = Y at *
  have ha := loA_bd X
  unfold joinS addS
  rw [h3, h4, sA_shift t (loA X), sB_shift t (loA X)]
  have hm : max 0 (t.size : Int) = t.size := by omega
  rw [hm]
  rw [mod_mul]
  have e1 : (hiA X + sB t 1 0 t.size % 65521 + (t.size : Int) * (loA X + 65520)) % 65521 = (sB t 1 0 t.size + hiA X + (t.size : Int) * (loA X - 1)) % 65521 := by
    have d : (t.size : Int) * (loA X + 65520) = (t.size : Int) * (loA X - 1) + t.size * 65521 := by
      rw [← Int.mul_add]; congr 1; omega
    rw [d]
    generalize (t.size : Int) * (loA X - 1) = z
    omega
  rw [e1]
  congr 1
  omega
end Go.Proofs.Ytjmenlffhoodeab
