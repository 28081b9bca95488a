/- Rounding and cutting: the plain law of a product of a whole number and a weight. -/
import Derived.Laws.FloatArith
namespace Go.Proofs.Ytjmenlffhoodeac.Weight
open Ieee

theorem shl (a b : Nat) : a <<< b = a * 2 ^ b := Nat.shiftLeft_eq a b
/-- What is not above a whole number is not above it when it is rounded or cut. -/
theorem cut_le (neg : Bool) (n drop N : Nat) (h : n ≤ N * 2 ^ drop) : Toward.even.cut neg n drop ≤ N := by
  unfold Toward.cut
  simp only [shl, Nat.one_mul]
  have hl : n < 2 ^ (n.log2 + 1) := Nat.lt_log2_self
  by_cases hd : drop ≤ n.log2 + 2
  · rw [Nat.min_eq_left hd]
    have hp : 0 < 2 ^ drop := Nat.two_pow_pos _
    have hq : n / 2 ^ drop ≤ N := Nat.div_le_of_le_mul (by rw [Nat.mul_comm]; exact h)
    rcases Nat.lt_or_ge (n / 2 ^ drop) N with h1 | h1
    · have : (∀ b : Bool, b.toNat ≤ 1) := Bool.toNat_le
      have := this (decide (2 ^ drop < 2 * (n % 2 ^ drop)) || (2 ^ drop == 2 * (n % 2 ^ drop) && n / 2 ^ drop % 2 == 1))
      omega
    · have he : n / 2 ^ drop = N := by omega
      have hm := Nat.div_add_mod n (2 ^ drop)
      rw [he, Nat.mul_comm] at hm
      have h0 : n % 2 ^ drop = 0 := by omega
      rw [h0]
      have h3 : (2 ^ drop == 0) = false := beq_eq_false_iff_ne.2 (by omega)
      simp [he, h3]
  · rw [Nat.min_eq_right (by omega)]
    have e2 : 2 ^ (n.log2 + 2) = 2 * 2 ^ (n.log2 + 1) := by rw [Nat.pow_succ]; omega
    have hz : n / 2 ^ (n.log2 + 2) = 0 := Nat.div_eq_of_lt (by omega)
    have hmod : n % 2 ^ (n.log2 + 2) = n := Nat.mod_eq_of_lt (by omega)
    rw [hz, hmod]
    have h1 : decide (2 ^ (n.log2 + 2) < 2 * n) = false := decide_eq_false (by omega)
    have h2 : (2 ^ (n.log2 + 2) == 2 * n) = false := beq_eq_false_iff_ne.2 (by omega)
    simp [h1, h2]
/-- What is not below a whole number is not below it when it is rounded. -/
theorem le_cut (neg : Bool) (n drop N : Nat) (h : N * 2 ^ drop ≤ n) : N ≤ Toward.even.cut neg n drop := by
  unfold Toward.cut
  simp only [shl, Nat.one_mul]
  have hl : n < 2 ^ (n.log2 + 1) := Nat.lt_log2_self
  by_cases hd : drop ≤ n.log2 + 2
  · rw [Nat.min_eq_left hd]
    have hp : 0 < 2 ^ drop := Nat.two_pow_pos _
    have : N ≤ n / 2 ^ drop := (Nat.le_div_iff_mul_le hp).2 h
    omega
  · have hb : 2 ^ (n.log2 + 1) ≤ 2 ^ drop := Nat.pow_le_pow_right (by omega) (by omega)
    rcases Nat.eq_zero_or_pos N with rfl | hN
    · exact Nat.zero_le _
    · have : 1 * 2 ^ drop ≤ N * 2 ^ drop := Nat.mul_le_mul_right _ hN
      omega
/-- Cut towards zero: the plain quotient. -/
theorem cut_zero (neg : Bool) (n drop : Nat) : Toward.zero.cut neg n drop = n / 2 ^ drop := by
  unfold Toward.cut
  simp only [shl, Nat.one_mul, Bool.toNat_false, Nat.add_zero]
  have hl : n < 2 ^ (n.log2 + 1) := Nat.lt_log2_self
  by_cases hd : drop ≤ n.log2 + 2
  · rw [Nat.min_eq_left hd]
  · rw [Nat.min_eq_right (by omega)]
    have e2 : 2 ^ (n.log2 + 2) = 2 * 2 ^ (n.log2 + 1) := by rw [Nat.pow_succ]; omega
    have hb : 2 ^ (n.log2 + 1) ≤ 2 ^ drop := Nat.pow_le_pow_right (by omega) (by omega)
    rw [Nat.div_eq_of_lt (by omega), Nat.div_eq_of_lt (by omega)]
/-- A word of a sign and a rung that is no infinity, read. -/
theorem read_word (neg : Bool) (L kept : Nat) (hk : kept ≤ 2 ^ 53) (hn : L = 0 ∨ 2 ^ 52 ≤ kept) (hL : L < 2000) :
    ∃ M Q : Nat, double.read (double.word neg (L * 2 ^ 52 + kept)) = .number neg M (-1074 + Q) ∧ M * 2 ^ Q = kept * 2 ^ L ∧ Q ≤ L + 1 := by
  have e1 : double.signWeight = 9223372036854775808 := by decide
  have e2 : double.binade = 4503599627370496 := by decide
  have e3 : double.infRung = 9218868437227405312 := by decide
  have e4 : double.leastPlace = -1074 := by decide
  have p52 : (2 : Nat) ^ 52 = 4503599627370496 := by decide
  have p53 : (2 : Nat) ^ 53 = 9007199254740992 := by decide
  rw [p52] at hn ⊢
  rw [p53] at hk
  have hw : double.word neg (L * 4503599627370496 + kept) / 9223372036854775808 % 2 == 1 ↔ neg = true := by
    unfold Format.word
    rw [e1]
    cases neg
    · simp; omega
    · simp; omega
  have hr : double.word neg (L * 4503599627370496 + kept) % 9223372036854775808 = L * 4503599627370496 + kept := by
    unfold Format.word
    rw [e1]
    cases neg
    · simp; omega
    · simp; omega
  have hw2 : (double.word neg (L * 4503599627370496 + kept) / 9223372036854775808 % 2 == 1) = neg := by
    cases neg
    · exact Bool.eq_false_iff.2 (fun h => by have := hw.1 h; cases this)
    · exact hw.2 rfl
  unfold Format.read
  simp only [e1, e2, e3, e4, hr, hw2]
  by_cases c1 : L * 4503599627370496 + kept < 4503599627370496
  · rw [if_pos c1]
    obtain rfl : L = 0 := by omega
    exact ⟨kept, 0, by simp, by simp, by omega⟩
  · rw [if_neg c1, if_pos (by omega)]
    by_cases c2 : kept = 9007199254740992
    · subst c2
      refine ⟨4503599627370496, L + 1, ?_, ?_, by omega⟩
      · have a : 4503599627370496 + (L * 4503599627370496 + 9007199254740992) % 4503599627370496 = 4503599627370496 := by omega
        have b : (L * 4503599627370496 + 9007199254740992) / 4503599627370496 - 1 = L + 1 := by omega
        rw [a, b]
      · rw [Nat.pow_succ]; omega
    · refine ⟨kept, L, ?_, rfl, by omega⟩
      have a : 4503599627370496 + (L * 4503599627370496 + kept) % 4503599627370496 = kept := by omega
      have b : (L * 4503599627370496 + kept) / 4503599627370496 - 1 = L := by omega
      rw [a, b]
theorem pow_cancel {a b p q r : Nat} (h : a * 2 ^ p ≤ b * 2 ^ (q + p)) (e : r = q) : a ≤ b * 2 ^ r := by
  subst e
  rw [Nat.pow_add, ← Nat.mul_assoc] at h
  exact Nat.le_of_mul_le_mul_right h (Nat.two_pow_pos _)
theorem pow_cancel' {a b p q r : Nat} (h : b * 2 ^ (q + p) ≤ a * 2 ^ p) (e : r = q) : b * 2 ^ r ≤ a := by
  subst e
  rw [Nat.pow_add, ← Nat.mul_assoc] at h
  exact Nat.le_of_mul_le_mul_right h (Nat.two_pow_pos _)
theorem mul_pow_le {a b p q : Nat} (h : a * 2 ^ p ≤ b * 2 ^ q) (c : Nat) : a * 2 ^ (c + p) ≤ b * 2 ^ (c + q) := by
  rw [Nat.pow_add, Nat.pow_add, Nat.mul_left_comm, Nat.mul_left_comm b]
  exact Nat.mul_le_mul_left _ h
/-- A number below 2^51, written to the nearest word, read and cut: between the same whole numbers. -/
theorem nearest_toInt (neg : Bool) (mag : Nat) (place : Int) (h0 : 0 < mag) (hp : place + mag.log2 ≤ 50) :
    ∃ z : Nat, (double.read (double.nearest neg mag place)).toInt .zero = some (signed neg z 0) ∧
      ∀ (K p S : Nat), place = (p : Int) - S → (mag * 2 ^ p ≤ K * 2 ^ S → z ≤ K) ∧ (K * 2 ^ S ≤ mag * 2 ^ p → K ≤ z) := by
  have e4 : double.leastPlace = -1074 := by decide
  have e3 : double.infRung = 9218868437227405312 := by decide
  have e2 : double.binade = 2 ^ 52 := by decide
  have e5 : double.fractionBits = 52 := by decide
  have g1 : mag < 2 ^ (mag.log2 + 1) := Nat.lt_log2_self
  have g2 : 2 ^ mag.log2 ≤ mag := Nat.log2_self_le (by omega)
  unfold Format.nearest
  rw [if_neg (by omega)]
  simp only [e4, e3, e2, e5, shl]
  generalize hlast : max (place + (mag.log2 : Int) - ((52 : Nat) : Int)) (-1074) = last
  generalize hkept : Toward.even.cut neg (mag * 2 ^ (place - last).toNat) (last - place).toNat = kept
  obtain ⟨L, hL⟩ : ∃ L : Nat, last = (L : Int) - 1074 := ⟨(last + 1074).toNat, by omega⟩
  have hL2 : L ≤ 1072 := by omega
  have hLn : (last - -1074).toNat = L := by omega
  have hk : kept ≤ 2 ^ 53 := by
    rw [← hkept]
    refine cut_le _ _ _ _ ?_
    have a : mag * 2 ^ (place - last).toNat ≤ 2 ^ (mag.log2 + 1) * 2 ^ (place - last).toNat := Nat.mul_le_mul_right _ (by omega)
    refine Nat.le_trans a ?_
    rw [← Nat.pow_add, ← Nat.pow_add]
    exact Nat.pow_le_pow_right (by omega) (by omega)
  have hn : L = 0 ∨ 2 ^ 52 ≤ kept := by
    by_cases hl : L = 0
    · exact .inl hl
    · right
      rw [← hkept]
      refine le_cut _ _ _ _ ?_
      have a : 2 ^ mag.log2 * 2 ^ (place - last).toNat ≤ mag * 2 ^ (place - last).toNat := Nat.mul_le_mul_right _ g2
      refine Nat.le_trans ?_ a
      rw [← Nat.pow_add, ← Nat.pow_add]
      exact Nat.pow_le_pow_right (by omega) (by omega)
  obtain ⟨M, Q, r1, r2, r3⟩ := read_word neg L kept hk hn (by omega)
  have hmin : min (L * 2 ^ 52 + kept) 9218868437227405312 = L * 2 ^ 52 + kept := by
    rw [Nat.min_eq_left]
    have p52 : (2 : Nat) ^ 52 = 4503599627370496 := by decide
    have p53 : (2 : Nat) ^ 53 = 9007199254740992 := by decide
    rw [p52]; rw [p53] at hk
    omega
  rw [hLn, hmin, r1]
  unfold Datum.toInt Datum.integral
  simp only [cut_zero, shl]
  have q1 : (-1074 + (Q : Int)).toNat = 0 := by omega
  have q2 : (-(-1074 + (Q : Int))).toNat = 1074 - Q := by omega
  rw [q1, q2, Nat.pow_zero, Nat.mul_one]
  refine ⟨M / 2 ^ (1074 - Q), rfl, fun K p S hpl => ⟨fun hle => ?_, fun hle => ?_⟩⟩
  · have hkK : kept ≤ K * 2 ^ (1074 - L) := by
      rw [← hkept]
      refine cut_le _ _ _ _ ?_
      rw [Nat.mul_assoc, ← Nat.pow_add]
      have := mul_pow_le hle (place - last).toNat
      rw [Nat.pow_add, ← Nat.mul_assoc] at this
      refine pow_cancel (p := p) (q := 1074 - L + (last - place).toNat) ?_ rfl
      rw [show 1074 - L + (last - place).toNat + p = (place - last).toNat + S from by omega]
      exact this
    have h2 : M * 2 ^ Q ≤ K * 2 ^ (1074 - Q + Q) := by
      rw [r2, show 1074 - Q + Q = 1074 - L + L from by omega, Nat.pow_add, ← Nat.mul_assoc]
      exact Nat.mul_le_mul_right _ hkK
    have h3 := pow_cancel h2 rfl
    exact Nat.div_le_of_le_mul (by rw [Nat.mul_comm]; exact h3)
  · have hkK : K * 2 ^ (1074 - L) ≤ kept := by
      rw [← hkept]
      refine le_cut _ _ _ _ ?_
      rw [Nat.mul_assoc, ← Nat.pow_add]
      have := mul_pow_le hle (place - last).toNat
      rw [Nat.pow_add (2 : Nat) (place - last).toNat p, ← Nat.mul_assoc] at this
      refine pow_cancel' (p := p) (q := 1074 - L + (last - place).toNat) ?_ rfl
      rw [show 1074 - L + (last - place).toNat + p = (place - last).toNat + S from by omega]
      exact this
    have h2 : K * 2 ^ (1074 - Q + Q) ≤ M * 2 ^ Q := by
      rw [r2, show 1074 - Q + Q = 1074 - L + L from by omega, Nat.pow_add, ← Nat.mul_assoc]
      exact Nat.mul_le_mul_right _ hkK
    have h3 := pow_cancel' h2 rfl
    exact (Nat.le_div_iff_mul_le (Nat.two_pow_pos _)).2 h3
end Go.Proofs.Ytjmenlffhoodeac.Weight
