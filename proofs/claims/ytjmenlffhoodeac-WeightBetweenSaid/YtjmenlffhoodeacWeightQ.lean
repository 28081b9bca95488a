/- A difference of prices times a weight, cut: the plain law. -/
import Derived.Test.YtjmenlffhoodeacWeightP
namespace Go.Proofs.Ytjmenlffhoodeac.Weight
open Ieee

theorem cut_none (neg : Bool) (n : Nat) : Toward.even.cut neg n 0 = n := by
  have a := cut_le neg n 0 n (by simp)
  have b := le_cut neg n 0 n (by simp)
  omega
theorem read_zero (neg : Bool) : double.read (double.word neg 0) = .number neg 0 (-1074 + ((0 : Nat) : Int)) := by
  cases neg <;> decide
theorem toInt_none (neg : Bool) (i : Int) : Datum.toInt .zero (.number neg 0 i) = some (signed neg 0 0) := by
  unfold Datum.toInt Datum.integral
  simp [cut_zero]
theorem log2_le (n k : Nat) (h : n ≤ 2 ^ k) (h0 : 0 < n) : n.log2 ≤ k := by
  have g2 : 2 ^ n.log2 ≤ n := Nat.log2_self_le (by omega)
  exact (Nat.pow_le_pow_iff_right (by omega : 1 < 2)).1 (Nat.le_trans g2 h)
theorem pow_split (a b c : Nat) (h : a + b = c) : 2 ^ a * 2 ^ b = 2 ^ c := by rw [← h, Nat.pow_add]
/-- A whole number that is not great is a float, exactly. -/
theorem ofNat_read (neg : Bool) (k c : Nat) (hc : c = 1074) (hk : k ≤ 2 ^ 32) :
    ∃ M Q : Nat, double.read (double.nearest neg k 0) = .number neg M (-1074 + (Q : Int)) ∧ M * 2 ^ Q = k * 2 ^ c ∧ Q ≤ c := by
  have e4 : double.leastPlace = -1074 := by decide
  have e3 : double.infRung = 9218868437227405312 := by decide
  have e2 : double.binade = 2 ^ 52 := by decide
  have e5 : double.fractionBits = 52 := by decide
  by_cases h0 : k = 0
  · subst h0
    refine ⟨0, 0, ?_, by simp, Nat.zero_le _⟩
    unfold Format.nearest
    rw [if_pos rfl]
    exact read_zero neg
  · have g1 : k < 2 ^ (k.log2 + 1) := Nat.lt_log2_self
    have g2 : 2 ^ k.log2 ≤ k := Nat.log2_self_le (by omega)
    have g3 := log2_le k 32 hk (by omega)
    obtain ⟨L0, hL0⟩ : ∃ L0, L0 = 1022 + k.log2 := ⟨_, rfl⟩
    have hL2 : L0 < 2000 := by omega
    have hL3 : L0 + 1 ≤ c := by clear g1 g2 hk; omega
    have e00 : 52 - k.log2 + L0 = c := by clear g1 g2 hk; omega
    unfold Format.nearest
    rw [if_neg h0]
    simp only [e4, e3, e2, e5, shl]
    generalize hlast : max ((0 : Int) + (k.log2 : Int) - ((52 : Nat) : Int)) (-1074) = last
    have hl2 : last = (k.log2 : Int) - 52 := by omega
    have d0 : (last - 0).toNat = 0 := by omega
    have d1 : (0 - last).toNat = 52 - k.log2 := by omega
    have d2 : (last - -1074).toNat = L0 := by omega
    rw [d0, d1, d2, cut_none]
    have hkk : k * 2 ^ (52 - k.log2) ≤ 2 ^ 53 := by
      have a : k * 2 ^ (52 - k.log2) ≤ 2 ^ (k.log2 + 1) * 2 ^ (52 - k.log2) := Nat.mul_le_mul_right _ (by omega)
      refine Nat.le_trans a ?_
      rw [← Nat.pow_add]
      exact Nat.pow_le_pow_right (by omega) (by omega)
    have hnn : 2 ^ 52 ≤ k * 2 ^ (52 - k.log2) := by
      have a : 2 ^ k.log2 * 2 ^ (52 - k.log2) ≤ k * 2 ^ (52 - k.log2) := Nat.mul_le_mul_right _ g2
      refine Nat.le_trans ?_ a
      rw [← Nat.pow_add]
      exact Nat.pow_le_pow_right (by omega) (by omega)
    have hmin : min (L0 * 2 ^ 52 + k * 2 ^ (52 - k.log2)) 9218868437227405312 = L0 * 2 ^ 52 + k * 2 ^ (52 - k.log2) := by
      rw [Nat.min_eq_left]
      have p52 : (2 : Nat) ^ 52 = 4503599627370496 := by decide
      have p53 : (2 : Nat) ^ 53 = 9007199254740992 := by decide
      rw [p52]; rw [p53] at hkk
      omega
    have e0 : 52 - k.log2 + L0 = c := e00
    have e1 := pow_split (52 - k.log2) L0 c e0
    obtain ⟨M, Q, r1, r2, r3⟩ := read_word neg L0 (k * 2 ^ (52 - k.log2)) hkk (.inr hnn) hL2
    rw [hmin]
    exact ⟨M, Q, r1, r2.trans ((Nat.mul_assoc _ _ _).trans (congrArg (k * ·) e1)), Nat.le_trans r3 hL3⟩
/-- The product of a whole number and a weight between 0 and 1, cut to a whole number. -/
theorem mul_law (neg s : Bool) (k m q wb fb c : Nat) (hc : c = 1074) (hk : k ≤ 2 ^ 20) (hf : fb = double.nearest neg k 0) (hr : double.read wb = .number s m (-1074 + (q : Int))) (hw : m * 2 ^ q ≤ 2 ^ c) :
    ∃ r z : Nat, double.mul fb wb = some r ∧ (double.read r).toInt .zero = some (signed (neg ^^ s) z 0) ∧ z ≤ k ∧ (m = 0 → z = 0) ∧ (m * 2 ^ q = 2 ^ c → z = k) := by
  obtain ⟨M, Q, r1, r2, _⟩ := ofNat_read neg k c hc (Nat.le_trans hk (by decide))
  subst hf
  unfold Format.mul
  rw [r1, hr]
  unfold Datum.product
  simp only [Option.map_some]
  by_cases hz : M * m = 0
  · refine ⟨_, 0, rfl, ?_, by omega, fun _ => rfl, fun he => ?_⟩
    · show Datum.toInt .zero (double.read (double.nearest (neg ^^ s) (M * m) (-1074 + (Q : Int) + (-1074 + (q : Int))))) = _
      unfold Format.nearest
      rw [if_pos hz, read_zero]
      exact toInt_none _ _
    · rcases Nat.mul_eq_zero.1 hz with h | h
      · rw [h, Nat.zero_mul] at r2
        rcases Nat.mul_eq_zero.1 r2.symm with h | h
        · exact h.symm
        · exact absurd h (Nat.ne_of_gt (Nat.two_pow_pos _))
      · rw [h, Nat.zero_mul] at he
        exact absurd he.symm (Nat.ne_of_gt (Nat.two_pow_pos _))
  · have hpos : 0 < M * m := Nat.pos_of_ne_zero hz
    have hv : M * m * 2 ^ (Q + q) = k * 2 ^ c * (m * 2 ^ q) := by
      rw [← r2, Nat.pow_add]; ac_rfl
    have hle : M * m * 2 ^ (Q + q) ≤ k * 2 ^ (c + c) := by
      rw [hv, Nat.pow_add 2 c c, ← Nat.mul_assoc k (2 ^ c) (2 ^ c)]
      exact Nat.mul_le_mul_left _ hw
    have hlog : (M * m).log2 + (Q + q) ≤ 20 + (c + c) := by
      have g2 : 2 ^ (M * m).log2 ≤ M * m := Nat.log2_self_le (by omega)
      have a : 2 ^ ((M * m).log2 + (Q + q)) ≤ 2 ^ (20 + (c + c)) := by
        rw [Nat.pow_add]
        refine Nat.le_trans (Nat.mul_le_mul_right _ g2) (Nat.le_trans hle ?_)
        rw [Nat.pow_add 2 20 (c + c)]
        exact Nat.mul_le_mul_right _ hk
      exact (Nat.pow_le_pow_iff_right (by omega : 1 < 2)).1 a
    have hpl : (-1074 + (Q : Int)) + (-1074 + (q : Int)) = ((Q + q : Nat) : Int) - ((c + c : Nat) : Int) := by omega
    obtain ⟨z, hz1, hz2⟩ := nearest_toInt (neg ^^ s) (M * m) ((-1074 + (Q : Int)) + (-1074 + (q : Int))) hpos (by omega)
    refine ⟨_, z, rfl, hz1, (hz2 k (Q + q) (c + c) hpl).1 hle, fun hm => absurd (by rw [hm, Nat.mul_zero]) hz, fun he => ?_⟩
    have hge : k * 2 ^ (c + c) ≤ M * m * 2 ^ (Q + q) := by
      rw [hv, he, Nat.pow_add 2 c c, ← Nat.mul_assoc k (2 ^ c) (2 ^ c)]
      exact Nat.le_refl _
    exact Nat.le_antisymm ((hz2 k (Q + q) (c + c) hpl).1 hle) ((hz2 k (Q + q) (c + c) hpl).2 hge)
end Go.Proofs.Ytjmenlffhoodeac.Weight
