/- Weights between 0 and 1, and what a difference of prices times a weight is, cut. -/
import Derived.Test.YtjmenlffhoodeacWeightQ
import Derived.Laws.Cover2
namespace Go.Proofs.Ytjmenlffhoodeac.Weight
open Ieee

/-- The exponent of the least place, as a letter. -/
def ce : Nat := 1074
theorem ce_eq : ce = 1074 := rfl
/-- A difference times a weight, cut. -/
def part (wb : Nat) (d : Int) : Int := ((double.mul (FloatKind.f64.nearest d) wb).bind fun r => (double.read r).toInt .zero).getD 0
/-- The bits of a weight from 0 to 1. -/
def IsW (wb : Nat) : Prop := ∃ (s : Bool) (m q : Nat), double.read wb = .number s m (-1074 + (q : Int)) ∧ m * 2 ^ q ≤ 2 ^ ce ∧ (s = true → m = 0)
def IsZ (wb : Nat) : Prop := ∃ (s : Bool) (q : Nat), double.read wb = .number s 0 (-1074 + (q : Int))
def IsOne (wb : Nat) : Prop := ∃ (m q : Nat), double.read wb = .number false m (-1074 + (q : Int)) ∧ m * 2 ^ q = 2 ^ ce
theorem IsZ.w {wb : Nat} (h : IsZ wb) : IsW wb := by
  obtain ⟨s, q, h⟩ := h
  exact ⟨s, 0, q, h, by rw [Nat.zero_mul]; exact Nat.zero_le _, fun _ => rfl⟩
theorem IsOne.w {wb : Nat} (h : IsOne wb) : IsW wb := by
  obtain ⟨m, q, h, e⟩ := h
  exact ⟨false, m, q, h, Nat.le_of_eq e, fun h => by cases h⟩
theorem isZ_zero : IsZ 0 := ⟨false, 0, by decide⟩
/-- The word of 1. -/
def one : Nat := 4607182418800017408
theorem read_one : double.read one = .number false 4503599627370496 (-1074 + ((1022 : Nat) : Int)) := by decide
theorem one_pow : ∀ c, c = 1074 → 4503599627370496 * 2 ^ 1022 = 2 ^ c := by
  intro c hc
  have e : (4503599627370496 : Nat) = 2 ^ 52 := by decide
  rw [e]
  exact pow_split 52 1022 c hc.symm
theorem isOne_one : IsOne one := ⟨4503599627370496, 1022, read_one, one_pow ce rfl⟩
theorem signed0 (neg : Bool) (z : Nat) : signed neg z 0 = if neg then -(z : Int) else (z : Int) := by
  unfold signed
  rw [Nat.shiftLeft_zero]
theorem part_any (wb : Nat) (s : Bool) (m q : Nat) (hr : double.read wb = .number s m (-1074 + (q : Int))) (hw : m * 2 ^ q ≤ 2 ^ ce) (hs : s = true → m = 0) (d : Int) (hd : -1048576 ≤ d ∧ d ≤ 1048576) :
    ∃ r, double.mul (FloatKind.f64.nearest d) wb = some r ∧ (double.read r).toInt .zero = some (part wb d) ∧ (0 ≤ d → 0 ≤ part wb d ∧ part wb d ≤ d) ∧ (d ≤ 0 → d ≤ part wb d ∧ part wb d ≤ 0) ∧
      (m = 0 → part wb d = 0) ∧ (m * 2 ^ q = 2 ^ ce → part wb d = d) := by
  have hk : d.natAbs ≤ 2 ^ 20 := by
    have : (2 : Nat) ^ 20 = 1048576 := by decide
    omega
  obtain ⟨r, z, h1, h2, h3, h4, h5⟩ := mul_law (decide (d < 0)) s d.natAbs m q wb (FloatKind.f64.nearest d) ce ce_eq hk rfl hr hw
  have hp : part wb d = signed (decide (d < 0) ^^ s) z 0 := by
    unfold part
    rw [h1, Option.bind_some, h2]
    rfl
  have hv : part wb d = if d < 0 then -(z : Int) else (z : Int) := by
    rw [hp, signed0]
    cases s
    · simp
    · have hz := h4 (hs rfl)
      subst hz
      simp
  refine ⟨r, h1, by rw [h2, hp], ?_, ?_, ?_, ?_⟩
  · intro h0; rw [hv, if_neg (by omega)]; omega
  · intro h0; rw [hv]; split <;> omega
  · intro hm; rw [hv, h4 hm]; simp
  · intro hm
    have := h5 hm
    rw [hv]; split <;> omega
theorem part_w {wb : Nat} (h : IsW wb) (d : Int) (hd : -1048576 ≤ d ∧ d ≤ 1048576) :
    ∃ r, double.mul (FloatKind.f64.nearest d) wb = some r ∧ (double.read r).toInt .zero = some (part wb d) ∧ (0 ≤ d → 0 ≤ part wb d ∧ part wb d ≤ d) ∧ (d ≤ 0 → d ≤ part wb d ∧ part wb d ≤ 0) := by
  obtain ⟨s, m, q, hr, hw, hs⟩ := h
  obtain ⟨r, h1, h2, h3, h4, _⟩ := part_any wb s m q hr hw hs d hd
  exact ⟨r, h1, h2, h3, h4⟩
theorem part_z {wb : Nat} (h : IsZ wb) (d : Int) (hd : -1048576 ≤ d ∧ d ≤ 1048576) : part wb d = 0 := by
  obtain ⟨s, q, hr⟩ := h
  obtain ⟨r, h1, h2, h3, h4, h5, _⟩ := part_any wb s 0 q hr (by rw [Nat.zero_mul]; exact Nat.zero_le _) (fun _ => rfl) d hd
  exact h5 rfl
theorem part_one {wb : Nat} (h : IsOne wb) (d : Int) (hd : -1048576 ≤ d ∧ d ≤ 1048576) : part wb d = d := by
  obtain ⟨m, q, hr, he⟩ := h
  obtain ⟨r, h1, h2, h3, h4, _, h6⟩ := part_any wb false m q hr (Nat.le_of_eq he) (fun h => by cases h) d hd
  exact h6 he
/-- What any word stands for. -/
theorem read_form (b : Nat) : (∃ (s : Bool) (m q : Nat), double.read b = .number s m (-1074 + (q : Int))) ∨ (∃ s, double.read b = .infinity s) ∨ (∃ s f, double.read b = .nan s f) := by
  have e4 : double.leastPlace = -1074 := by decide
  unfold Format.read
  rw [e4]
  simp only
  split
  · exact .inl ⟨(b / double.signWeight % 2 == 1), b % double.signWeight, 0, by simp⟩
  · split
    · exact .inl ⟨_, _, _, rfl⟩
    · split
      · exact .inr (.inl ⟨_, rfl⟩)
      · exact .inr (.inr ⟨_, _, rfl⟩)
theorem signedP (s : Bool) (m q : Nat) : signed s m q = if s then -((m * 2 ^ q : Nat) : Int) else ((m * 2 ^ q : Nat) : Int) := by
  unfold signed
  rw [shl]
theorem order_num (s : Bool) (m q : Nat) (t : Bool) (n p : Nat) :
    Datum.order (.number s m (-1074 + (q : Int))) (.number t n (-1074 + (p : Int))) = some (compare (signed s m (q - min q p)) (signed t n (p - min q p))) := by
  unfold Datum.order
  have e : min (-1074 + (q : Int)) (-1074 + (p : Int)) = -1074 + ((min q p : Nat) : Int) := by omega
  simp only [e]
  have e1 : (-1074 + (q : Int) - (-1074 + ((min q p : Nat) : Int))).toNat = q - min q p := by omega
  have e2 : (-1074 + (p : Int) - (-1074 + ((min q p : Nat) : Int))).toNat = p - min q p := by omega
  rw [e1, e2]
theorem cmp_scale (a b : Int) (k : Nat) (hk : 0 < k) : compare (a * k) (b * k) = compare a b := by
  have hk' : (0 : Int) < (k : Int) := by omega
  rcases Int.lt_trichotomy a b with h | h | h
  · have h2 : a * k < b * k := Int.mul_lt_mul_of_pos_right h hk'
    rw [Int.compare_eq_lt.2 h, Int.compare_eq_lt.2 h2]
  · rw [h]; simp
  · have h2 : b * k < a * k := Int.mul_lt_mul_of_pos_right h hk'
    rw [Int.compare_eq_gt.2 h, Int.compare_eq_gt.2 h2]
theorem signed_up (s : Bool) (m q k : Nat) : signed s m q * ((2 ^ k : Nat) : Int) = signed s m (q + k) := by
  rw [signedP, signedP, Nat.pow_add, ← Nat.mul_assoc]
  cases s
  · simp
  · simp [Int.neg_mul]
/-- Numbers stand to each other as their values do. -/
theorem order_val (s : Bool) (m q : Nat) (t : Bool) (n p : Nat) :
    Datum.order (.number s m (-1074 + (q : Int))) (.number t n (-1074 + (p : Int))) = some (compare (signed s m q) (signed t n p)) := by
  rw [order_num, ← cmp_scale _ _ (2 ^ (min q p)) (Nat.two_pow_pos _), signed_up, signed_up]
  have e1 : q - min q p + min q p = q := by omega
  have e2 : p - min q p + min q p = p := by omega
  rw [e1, e2]
theorem read_null : double.read 0 = .number false 0 (-1074 + ((0 : Nat) : Int)) := by decide
theorem order_nan (b : Nat) (h : double.order b b = some .eq) : ∀ s f, double.read b ≠ .nan s f := by
  intro s f e
  unfold Format.order at h
  rw [e] at h
  cases h
/-- Where a word that is a number stands to 0 and to 1. -/
theorem clamps (b : Nat) (h : double.order b b = some .eq) :
    double.order b 0 = some .lt ∨
    (double.order b 0 = some .eq ∧ double.order b one = some .lt ∧ IsZ b) ∨
    (double.order b 0 = some .gt ∧ double.order b one = some .lt ∧ IsW b) ∨
    (double.order b 0 = some .gt ∧ double.order b one = some .eq ∧ IsOne b ∧ (double.read b).neg = false) ∨
    (double.order b 0 = some .gt ∧ double.order b one = some .gt) := by
  have hn := order_nan b h
  unfold Format.order
  rw [read_null, read_one]
  rcases read_form b with ⟨s, m, q, e⟩ | ⟨s, e⟩ | ⟨s, f, e⟩
  · rw [e, order_val, order_val]
    have v0 : signed false 0 0 = 0 := rfl
    have v1 : signed false 4503599627370496 1022 = ((2 ^ ce : Nat) : Int) := by
      rw [signedP, one_pow ce rfl]; rfl
    rw [v0, v1]
    have hm : m * 2 ^ q = 0 ↔ m = 0 := by
      constructor
      · intro h
        rcases Nat.mul_eq_zero.1 h with h | h
        · exact h
        · exact absurd h (Nat.ne_of_gt (Nat.two_pow_pos _))
      · intro h; rw [h, Nat.zero_mul]
    have hc : 0 < 2 ^ ce := Nat.two_pow_pos _
    rw [signedP]
    by_cases h0 : m = 0
    · have hmq := hm.2 h0
      right; left
      have hv : (if s = true then -((m * 2 ^ q : Nat) : Int) else ((m * 2 ^ q : Nat) : Int)) = 0 := by rw [hmq]; split <;> rfl
      rw [hv]
      refine ⟨by simp, ?_, s, q, by rw [e, h0]⟩
      rw [Int.compare_eq_lt.2 (by omega)]
    · have hmq : 0 < m * 2 ^ q := by
        have := fun h => h0 (hm.1 h)
        omega
      cases s
      · have hv : (if false = true then -((m * 2 ^ q : Nat) : Int) else ((m * 2 ^ q : Nat) : Int)) = ((m * 2 ^ q : Nat) : Int) := rfl
        rw [hv, Int.compare_eq_gt.2 (by omega : ((m * 2 ^ q : Nat) : Int) > 0)]
        rcases Nat.lt_trichotomy (m * 2 ^ q) (2 ^ ce) with h1 | h1 | h1
        · right; right; left
          refine ⟨rfl, ?_, false, m, q, e, Nat.le_of_lt h1, fun h => by cases h⟩
          rw [Int.compare_eq_lt.2 (by omega)]
        · right; right; right; left
          refine ⟨rfl, ?_, ⟨m, q, e, h1⟩, rfl⟩
          rw [h1]; simp
        · right; right; right; right
          refine ⟨rfl, ?_⟩
          rw [Int.compare_eq_gt.2 (by omega)]
      · left
        have hv : (if true = true then -((m * 2 ^ q : Nat) : Int) else ((m * 2 ^ q : Nat) : Int)) = -((m * 2 ^ q : Nat) : Int) := rfl
        rw [hv, Int.compare_eq_lt.2 (by omega)]
  · rw [e]
    cases s
    · right; right; right; right; exact ⟨rfl, rfl⟩
    · left; rfl
  · exact absurd e (hn s f)
/-- The reference's weight. -/
def wt (b : Nat) : Nat := if double.order b 0 = some .lt then 0 else if double.order b one = some .gt then one else b
theorem wt_w (b : Nat) (h : double.order b b = some .eq) : IsW (wt b) := by
  unfold wt
  rcases clamps b h with h | ⟨h0, h1, hw⟩ | ⟨h0, h1, hw⟩ | ⟨h0, h1, hw, _⟩ | ⟨h0, h1⟩
  · rw [if_pos h]; exact isZ_zero.w
  · rw [if_neg (by rw [h0]; simp), if_neg (by rw [h1]; simp)]; exact hw.w
  · rw [if_neg (by rw [h0]; simp), if_neg (by rw [h1]; simp)]; exact hw
  · rw [if_neg (by rw [h0]; simp), if_neg (by rw [h1]; simp)]; exact hw.w
  · rw [if_neg (by rw [h0]; simp), if_pos h1]; exact isOne_one.w
end Go.Proofs.Ytjmenlffhoodeac.Weight
