/- A number cut down: the plain law. -/
import Derived.Test.YtjmenlffhoodeacWeightR
namespace Go.Proofs.Ytjmenlffhoodeac.Weight
open Ieee

/-- The word of 2^32. -/
def top : Nat := 4751297606875873280
theorem read_top : double.read top = .number false 4503599627370496 (-1074 + ((1054 : Nat) : Int)) := by decide
/-- Is it endless? (b: the bits of a number or of an infinity.) -/
def infB (b : Nat) : Bool := decide (b % 9223372036854775808 = 9218868437227405312)
theorem read_rung (b : Nat) : double.read b =
    (if b % 9223372036854775808 < 4503599627370496 then .number (b / 9223372036854775808 % 2 == 1) (b % 9223372036854775808) (-1074)
     else if b % 9223372036854775808 < 9218868437227405312 then .number (b / 9223372036854775808 % 2 == 1) (4503599627370496 + b % 9223372036854775808 % 4503599627370496) (-1074 + ((b % 9223372036854775808 / 4503599627370496 - 1 : Nat) : Int))
     else if b % 9223372036854775808 = 9218868437227405312 then .infinity (b / 9223372036854775808 % 2 == 1)
     else .nan (b / 9223372036854775808 % 2 == 1) (b % 9223372036854775808 - 9218868437227405312)) := by
  have e1 : double.signWeight = 9223372036854775808 := by decide
  have e2 : double.binade = 4503599627370496 := by decide
  have e3 : double.infRung = 9218868437227405312 := by decide
  have e4 : double.leastPlace = -1074 := by decide
  unfold Format.read
  simp only [e1, e2, e3, e4]
/-- What a number stands for: endless, or not. -/
theorem inf_form (b : Nat) (h : double.order b b = some .eq) :
    (infB b = true ∧ ∃ s, double.read b = .infinity s) ∨ (infB b = false ∧ ∃ (s : Bool) (m q : Nat), double.read b = .number s m (-1074 + (q : Int)) ∧ m ≤ 9007199254740991 ∧ q ≤ 2045) := by
  have hn := order_nan b h
  have e := read_rung b
  unfold infB
  have hr : b % 9223372036854775808 < 9223372036854775808 := Nat.mod_lt _ (by omega)
  generalize b % 9223372036854775808 = r at e hr
  by_cases h1 : r < 4503599627370496
  · rw [if_pos h1] at e
    exact .inr ⟨decide_eq_false (by omega), (b / 9223372036854775808 % 2 == 1), r, 0, by rw [e]; simp, by omega, by omega⟩
  · rw [if_neg h1] at e
    by_cases h2 : r < 9218868437227405312
    · rw [if_pos h2] at e
      exact .inr ⟨decide_eq_false (by omega), _, _, _, e, by omega, by omega⟩
    · rw [if_neg h2] at e
      by_cases h3 : r = 9218868437227405312
      · rw [if_pos h3] at e
        exact .inl ⟨decide_eq_true h3, _, e⟩
      · rw [if_neg h3] at e
        exact absurd e (hn _ _)
theorem read_most : double.read 9218868437227405311 = .number false 9007199254740991 (-1074 + ((2045 : Nat) : Int)) := by decide
theorem most_le (m q p : Nat) (hm : m ≤ 9007199254740991) (hq : q ≤ p) : m * 2 ^ q ≤ 9007199254740991 * 2 ^ p :=
  Nat.le_trans (Nat.mul_le_mul_right _ hm) (Nat.mul_le_mul_left _ (Nat.pow_le_pow_right (by omega) hq))
/-- The program's test for what is endless. -/
theorem inf_test (b : Nat) (h : double.order b b = some .eq) : (double.order (b % 9223372036854775808) 9218868437227405311 == some .gt) = infB b := by
  have hn := order_nan b h
  have e := read_rung (b % 9223372036854775808)
  have e0 := read_rung b
  have hr : b % 9223372036854775808 < 9223372036854775808 := Nat.mod_lt _ (by omega)
  unfold infB
  unfold Format.order
  rw [read_most, e]
  have hz : b % 9223372036854775808 / 9223372036854775808 % 2 = 0 := by omega
  have hz2 : b % 9223372036854775808 % 9223372036854775808 = b % 9223372036854775808 := by omega
  rw [hz, hz2]
  generalize b % 9223372036854775808 = r at e0 hr
  generalize hp : (2045 : Nat) = p
  have key : ∀ m q : Nat, m ≤ 9007199254740991 → q ≤ p → (Datum.order (.number false m (-1074 + (q : Int))) (.number false 9007199254740991 (-1074 + (p : Int))) == some Ordering.gt) = false := by
    intro m q hm hq
    rw [order_val, signedP, signedP]
    have := most_le m q p hm hq
    simp only [Bool.false_eq_true, if_false]
    rcases Nat.lt_or_ge (m * 2 ^ q) (9007199254740991 * 2 ^ p) with h | h
    · rw [Int.compare_eq_lt.2 (by omega)]; rfl
    · have he : m * 2 ^ q = 9007199254740991 * 2 ^ p := Nat.le_antisymm this h
      rw [he]; simp
  by_cases h1 : r < 4503599627370496
  · rw [if_pos h1]
    have := key r 0 (by omega) (by omega)
    rw [decide_eq_false (by omega)]
    simpa using this
  · rw [if_neg h1] at e0 ⊢
    by_cases h2 : r < 9218868437227405312
    · rw [if_pos h2, decide_eq_false (by omega)]
      exact key _ _ (by omega) (by omega)
    · rw [if_neg h2] at e0 ⊢
      by_cases h3 : r = 9218868437227405312
      · rw [if_pos h3, decide_eq_true h3]; rfl
      · rw [if_neg h3] at e0
        exact absurd e0 (hn _ _)
theorem shl_zero (z : Nat) (c : Nat) : (z <<< c) / 2 ^ c = z := by
  rw [shl]; exact Nat.mul_div_cancel _ (Nat.two_pow_pos _)
/-- What a number is, cut. -/
def cutZ (b : Nat) : Int := ((double.read b).toInt .zero).getD 0
/-- A number from 0 to below 2^32: cut down as the processor does it, and cut towards 0. -/
theorem whole_law (b c : Nat) (s : Bool) (m q : Nat) (hc : c = 1074) (e : double.read b = .number s m (-1074 + (q : Int))) (h0 : double.order b 0 ≠ some .lt) (h1 : double.order b top = some .lt) :
    ∃ r : Nat, double.write ((double.read b).integral .down) = r ∧ (double.read r).toInt .zero = some (cutZ b) ∧ (double.read b).toInt .zero = some (cutZ b) ∧ 0 ≤ cutZ b ∧ cutZ b ≤ 4294967295 := by
  unfold Format.order at h0 h1
  rw [read_null, e, order_val] at h0
  rw [read_top, e, order_val] at h1
  have v0 : signed false 0 0 = 0 := rfl
  have v1 : ∀ p, p = 1054 → signed false 4503599627370496 p = ((4294967296 * 2 ^ c : Nat) : Int) := by
    intro p hp
    rw [signedP]
    have e1 : (4503599627370496 : Nat) = 2 ^ 52 := by decide
    have e2 : (4294967296 : Nat) = 2 ^ 32 := by decide
    have e3 : 52 + p = 32 + c := by omega
    rw [e1, e2, ← Nat.pow_add, ← Nat.pow_add, e3]
    rfl
  rw [v0, signedP] at h0
  rw [v1 1054 rfl, signedP] at h1
  have h1' := Int.compare_eq_lt.1 (Option.some.inj h1)
  have hs : s = true → m = 0 := by
    intro hs
    subst hs
    rcases Nat.eq_zero_or_pos m with h | h
    · exact h
    · exfalso
      apply h0
      have : 0 < m * 2 ^ q := Nat.mul_pos h (Nat.two_pow_pos _)
      simp only [if_true]
      rw [Int.compare_eq_lt.2 (by omega)]
  have hlt : m * 2 ^ q < 4294967296 * 2 ^ c := by
    cases s
    · simp only [Bool.false_eq_true, if_false] at h1'; omega
    · rw [hs rfl, Nat.zero_mul]; exact Nat.mul_pos (by omega) (Nat.two_pow_pos _)
  clear h0 h1 h1' v1
  -- the quotient
  obtain ⟨z, hz⟩ : ∃ z, z = Toward.zero.cut s (m <<< ((-1074 : Int) + q).toNat) (-((-1074 : Int) + q)).toNat := ⟨_, rfl⟩
  have hz2 : z = (m <<< ((-1074 : Int) + q).toNat) / 2 ^ (-((-1074 : Int) + q)).toNat := by rw [hz, cut_zero]
  have hzm : m = 0 → z = 0 := by
    intro h
    rw [hz2, h, shl, Nat.zero_mul, Nat.zero_div]
  have hzl : z < 4294967296 := by
    rw [hz2, shl]
    refine Nat.div_lt_of_lt_mul ?_
    rcases Nat.lt_or_ge q c with hq | hq
    · have a1 : ((-1074 : Int) + q).toNat = 0 := by omega
      have a2 : (-((-1074 : Int) + q)).toNat = c - q := by omega
      rw [a1, a2, Nat.pow_zero, Nat.mul_one]
      refine Nat.lt_of_mul_lt_mul_right (a := 2 ^ q) ?_
      rw [Nat.mul_comm (2 ^ (c - q)), Nat.mul_assoc, ← Nat.pow_add, Nat.sub_add_cancel (Nat.le_of_lt hq)]
      exact hlt
    · have a1 : ((-1074 : Int) + q).toNat = q - c := by omega
      have a2 : (-((-1074 : Int) + q)).toNat = 0 := by omega
      rw [a1, a2, Nat.pow_zero, Nat.one_mul]
      refine Nat.lt_of_mul_lt_mul_right (a := 2 ^ c) ?_
      rw [Nat.mul_assoc, ← Nat.pow_add, Nat.sub_add_cancel hq]
      exact hlt
  have hd : Toward.down.cut s (m <<< ((-1074 : Int) + q).toNat) (-((-1074 : Int) + q)).toNat = z := by
    rw [hz]
    cases s
    · unfold Toward.cut; simp
    · rw [hs rfl]; unfold Toward.cut; simp
  have hci : (double.read b).toInt .zero = some (signed s z 0) := by
    rw [e]
    unfold Datum.toInt Datum.integral
    rw [hz]
  have hsz : signed s z 0 = (z : Int) := by
    rw [signed0]
    cases s
    · rfl
    · rw [hzm (hs rfl)]; rfl
  have hcz : cutZ b = (z : Int) := by
    unfold cutZ
    rw [hci, hsz]
    rfl
  obtain ⟨M, Q, r1, r2, r3⟩ := ofNat_read s z c hc (by have : (2 : Nat) ^ 32 = 4294967296 := by decide
                                                       omega)
  refine ⟨double.nearest s z 0, ?_, ?_, by rw [hci, hsz, hcz], by rw [hcz]; omega, by rw [hcz]; omega⟩
  · rw [e]
    unfold Datum.integral
    simp only [hd]
    rfl
  · rw [r1, hcz, ← hsz]
    unfold Datum.toInt Datum.integral
    simp only [cut_zero]
    have a1 : ((-1074 : Int) + Q).toNat = 0 := by omega
    have a2 : (-((-1074 : Int) + Q)).toNat = c - Q := by omega
    rw [a1, a2, Nat.shiftLeft_zero]
    have : M = z * 2 ^ (c - Q) := by
      refine Nat.eq_of_mul_eq_mul_right (Nat.two_pow_pos Q) ?_
      rw [r2, Nat.mul_assoc, ← Nat.pow_add, Nat.sub_add_cancel r3]
    rw [this, Nat.mul_div_cancel _ (Nat.two_pow_pos _)]
end Go.Proofs.Ytjmenlffhoodeac.Weight
