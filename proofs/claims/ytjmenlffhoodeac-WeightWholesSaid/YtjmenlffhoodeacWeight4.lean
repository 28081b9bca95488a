/- A number cut down: the functions of it, walked. -/
import Derived.Test.YtjmenlffhoodeacWeight2
import Derived.Test.YtjmenlffhoodeacWeightS
import Derived.Laws.Externs
import Derived.Laws.BitsAllLaws
namespace Go.Proofs.Ytjmenlffhoodeac
open Go.RowKit

theorem f44 (b : Nat) (w : World) : (callFunc 44 #[.float .f64 b]).run Try.prog w = .ok (.value (.int .u64 b)) w := by
  rw [run_callFunc_extern Try.func44 (by kernel_rfl) (by kernel_rfl) (by kernel_rfl) (e := Extern.MathFloatBits.float64bits) (by kernel_rfl)]
  rfl
theorem f43 (n : Int) (w : World) : (callFunc 43 #[.int .u64 n]).run Try.prog w = .ok (.value (.float .f64 n.toNat)) w := by
  rw [run_callFunc_extern Try.func43 (by kernel_rfl) (by kernel_rfl) (by kernel_rfl) (e := Extern.MathFloatBits.float64frombits) (by kernel_rfl)]
  rfl
theorem abs_bits (b : Nat) (hb : b < 18446744073709551616) : (bits .andNot .u64 (b : Int) 9223372036854775808).toNat = b % 9223372036854775808 := by
  have h := u64_andNot_nat b 9223372036854775808 hb (by omega)
  have e : ((9223372036854775808 : Nat) : Int) = 9223372036854775808 := rfl
  rw [e] at h
  rw [h, Int.toNat_natCast]
  have e2 : 18446744073709551615 - 9223372036854775808 = 2 ^ 63 - 1 := by decide
  rw [e2, Nat.and_two_pow_sub_one_eq_mod]
set_option maxRecDepth 100000 in
set_option maxHeartbeats 4000000 in
theorem abs_any (b : Nat) (hb : b < 18446744073709551616) (w : World) : Calls Try.prog 41 #[.float .f64 b] w fun e w' => e = .returned (.float .f64 (b % 9223372036854775808)) ∧ w' = w := by
  have h44 := f44
  have h43 := f43
  have ha := abs_bits b hb
  generalize b % 9223372036854775808 = r at ha ⊢
  clear hb
  go_enter Try.func41, Try.ntmps41
  go_wp2_with fail
  go_ret
  exact ⟨rfl, rfl⟩
set_option maxRecDepth 100000 in
set_option maxHeartbeats 4000000 in
theorem isInf_any (b : Nat) (hb : b < 18446744073709551616) (hn : nanB b = false) (w : World) : Calls Try.prog 38 #[.float .f64 b, .int .i64 0] w fun e w' => e = .returned (.bool (Weight.infB b)) ∧ w' = w := by
  have c41 := fun w => abs_any b hb w
  have ht : (FloatKind.f64.format.order (b % 9223372036854775808) 9218868437227405311 == some Ordering.gt) = Weight.infB b := Weight.inf_test b (Weight.nan_eq hn)
  generalize Weight.infB b = D at ht ⊢
  generalize b % 9223372036854775808 = r at ht c41
  have HB := Aside.mk hb
  clear hb hn
  go_enter Try.func38, Try.ntmps38
  go_wp2_with (first | (go_at_call 41; refine (c41 _).mono ?_; rintro e w ⟨rfl, rfl⟩))
  go_ret
  exact ⟨rfl, rfl⟩
/-- Why a number is none, as the program's interface. -/
def lookV (b : Nat) : Value :=
  if nanB b = true then .iface 67 (.agg #[]) else if Weight.infB b = true then .iface 68 (.agg #[])
  else if (Ieee.double.order b 0 == some .lt || (Ieee.double.order b Weight.top == some .gt || Ieee.double.order b Weight.top == some .eq)) = true then .iface 69 (.agg #[]) else .nilIface
set_option maxRecDepth 100000 in
set_option maxHeartbeats 4000000 in
theorem look_any (b : Nat) (hb : b < 18446744073709551616) (w : World) : Calls Try.prog 36 #[.float .f64 b] w fun e w' => e = .returned (lookV b) ∧ w' = w := by
  have c33 := fun w => isNaN_any b w
  have c38 := fun (hn : nanB b = false) w => isInf_any b hb hn w
  have HB := Aside.mk hb
  clear hb
  unfold lookV
  by_cases hn : nanB b = true
  · rw [if_pos hn]
    rw [hn] at c33
    clear c38 hn
    go_enter Try.func36, Try.ntmps36
    go_wp2_with (first | (go_at_call 33; refine (c33 _).mono ?_; rintro e w ⟨rfl, rfl⟩))
    go_ret
    exact ⟨rfl, rfl⟩
  · have hn' : nanB b = false := by simpa using hn
    rw [if_neg hn]
    rw [hn'] at c33
    replace c38 := c38 hn'
    by_cases hi : Weight.infB b = true
    · rw [if_pos hi]
      rw [hi] at c38
      clear hn hn' hi
      go_enter Try.func36, Try.ntmps36
      go_wp2_with (first | (go_at_call 33; refine (c33 _).mono ?_; rintro e w ⟨rfl, rfl⟩) | (go_at_call 38; refine (c38 _).mono ?_; rintro e w ⟨rfl, rfl⟩))
      go_ret
      exact ⟨rfl, rfl⟩
    · rw [if_neg hi]
      rw [show Weight.infB b = false by simpa using hi] at c38
      by_cases h0 : (Ieee.double.order b 0 == some .lt) = true
      · rw [if_pos (by rw [h0]; rfl)]
        have d : (FloatKind.f64.format.order b 0 == some Ordering.lt) = true := h0
        clear hn hn' hi h0
        go_enter Try.func36, Try.ntmps36
        go_wp2_with (first | (go_at_call 33; refine (c33 _).mono ?_; rintro e w ⟨rfl, rfl⟩) | (go_at_call 38; refine (c38 _).mono ?_; rintro e w ⟨rfl, rfl⟩))
        go_ret
        exact ⟨rfl, rfl⟩
      · have d : (FloatKind.f64.format.order b 0 == some Ordering.lt) = false := eq_false_of_ne_true h0
        by_cases h1 : (Ieee.double.order b Weight.top == some .gt || Ieee.double.order b Weight.top == some .eq) = true
        · rw [if_pos (by rw [h1]; simp)]
          have d1 : (FloatKind.f64.format.order b 4751297606875873280 == some Ordering.gt || FloatKind.f64.format.order b 4751297606875873280 == some Ordering.eq) = true := h1
          clear hn hn' hi h0 h1
          go_enter Try.func36, Try.ntmps36
          go_wp2_with (first | (go_at_call 33; refine (c33 _).mono ?_; rintro e w ⟨rfl, rfl⟩) | (go_at_call 38; refine (c38 _).mono ?_; rintro e w ⟨rfl, rfl⟩))
          go_ret
          exact ⟨rfl, rfl⟩
        · rw [if_neg (by rw [show (Ieee.double.order b 0 == some Ordering.lt) = false from d]; simpa using h1)]
          have d1 : (FloatKind.f64.format.order b 4751297606875873280 == some Ordering.gt || FloatKind.f64.format.order b 4751297606875873280 == some Ordering.eq) = false := by
            have : ¬ (FloatKind.f64.format.order b 4751297606875873280 == some Ordering.gt || FloatKind.f64.format.order b 4751297606875873280 == some Ordering.eq) = true := h1
            simpa using this
          clear hn hn' hi h0 h1
          go_enter Try.func36, Try.ntmps36
          go_wp2_with (first | (go_at_call 33; refine (c33 _).mono ?_; rintro e w ⟨rfl, rfl⟩) | (go_at_call 38; refine (c38 _).mono ?_; rintro e w ⟨rfl, rfl⟩))
          go_ret
          exact ⟨rfl, rfl⟩
end Go.Proofs.Ytjmenlffhoodeac
