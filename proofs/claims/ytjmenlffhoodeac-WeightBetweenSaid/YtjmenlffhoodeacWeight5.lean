/- Whole, and its reference, walked. -/
import Derived.Test.YtjmenlffhoodeacWeight4
namespace Go.Proofs.Ytjmenlffhoodeac
open Go.RowKit

namespace Weight
/-- Does it lie outside of what is told? -/
def outB (b : Nat) : Bool := Ieee.double.order b 0 == some .lt || (Ieee.double.order b top == some .gt || Ieee.double.order b top == some .eq)
/-- A number cut down, and the error. -/
def wholeV (b : Nat) : Int × Int := if nanB b = true then (0, 8) else if infB b = true then (0, 9) else if outB b = true then (0, 2) else (cutZ b, 0)
/-- A number that lies within. -/
theorem whole_in (b : Nat) (hn : nanB b = false) (hi : infB b = false) (ho : outB b = false) :
    ∃ r : Nat, FloatKind.f64.encode ((FloatKind.f64.decode b).integral .down) = r ∧ (∃ s m q, Ieee.double.read b = .number s m q) ∧ floatToIntVal .f64 r .i64 = some (cutZ b) ∧ floatToIntVal .f64 b .i64 = some (cutZ b) ∧ 0 ≤ cutZ b ∧ cutZ b ≤ 4294967295 := by
  rcases inf_form b (nan_eq hn) with ⟨h, _⟩ | ⟨_, s, m, q, e, _, _⟩
  · rw [hi] at h; cases h
  · unfold outB at ho
    simp only [Bool.or_eq_false_iff] at ho
    obtain ⟨o1, o2, o3⟩ := ho
    have o1' : Ieee.double.order b 0 ≠ some .lt := by simpa using o1
    have o2' : Ieee.double.order b top ≠ some .gt := by simpa using o2
    have o3' : Ieee.double.order b top ≠ some .eq := by simpa using o3
    have o4 : Ieee.double.order b top = some .lt := by
      unfold Ieee.Format.order at o2' o3' ⊢
      rw [e, read_top, order_val] at o2' o3' ⊢
      generalize compare (Ieee.signed s m q) (Ieee.signed false 4503599627370496 1054) = o at o2' o3' ⊢
      cases o
      · rfl
      · exact absurd rfl o3'
      · exact absurd rfl o2'
    obtain ⟨r, h1, h2, h3, h4, h5⟩ := whole_law b 1074 s m q rfl e o1' o4
    have emin : IntKind.i64.min = -9223372036854775808 := by decide
    have emax : IntKind.i64.max = 9223372036854775807 := by decide
    refine ⟨r, h1, ⟨s, m, _, e⟩, ?_, ?_, h4, h5⟩
    · unfold floatToIntVal
      rw [show (FloatKind.f64.decode r).toInt .zero = some (cutZ b) from h2]
      simp only
      rw [if_pos (by omega)]
    · unfold floatToIntVal
      rw [show (FloatKind.f64.decode b).toInt .zero = some (cutZ b) from h3]
      simp only
      rw [if_pos (by omega)]
end Weight
section
variable {P : Program} {w : World}
theorem assert_yes {t xT : TypeId} {v : Value} {fs : Array Field} (hu : P.underlying t = some (.struct fs)) : (Instr.typeAssert (.iface t v) xT t true).run P w = .ok (.tuple #[v, .bool true]) w := by
  simp [Instr.typeAssert, run_underlying hu]
theorem assert_no {t a xT : TypeId} {v z : Value} {fs : Array Field} (hu : P.underlying a = some (.struct fs)) (hne : t ≠ a) (hz : (P.info? a).map (·.zero) = some (some z)) : (Instr.typeAssert (.iface t v) xT a true).run P w = .ok (.tuple #[z, .bool false]) w := by
  obtain ⟨j, hj, hz'⟩ := Option.map_eq_some_iff.1 hz
  simp [Instr.typeAssert, run_underlying hu, hne, zeroValue, typeInfo, hj, hz']
theorem assert_nil {a xT : TypeId} {z : Value} {fs : Array Field} (hu : P.underlying a = some (.struct fs)) (hz : (P.info? a).map (·.zero) = some (some z)) : (Instr.typeAssert .nilIface xT a true).run P w = .ok (.tuple #[z, .bool false]) w := by
  obtain ⟨j, hj, hz'⟩ := Option.map_eq_some_iff.1 hz
  simp [Instr.typeAssert, run_underlying hu, zeroValue, typeInfo, hj, hz']
end
theorem z67 : (Try.prog.info? 67).map (·.zero) = some (some (.agg #[])) := by kernel_rfl
theorem z68 : (Try.prog.info? 68).map (·.zero) = some (some (.agg #[])) := by kernel_rfl
theorem z69 : (Try.prog.info? 69).map (·.zero) = some (some (.agg #[])) := by kernel_rfl
theorem floor_fin (b : Nat) (s : Bool) (m : Nat) (q : Int) (e : FloatKind.f64.decode b = .number s m q) :
    Extern.MathFloor.toIntegral "math.archFloor" .down #[.float .f64 b] = pure (.float .f64 (FloatKind.f64.encode ((FloatKind.f64.decode b).integral .down))) := by
  conv => lhs; whnf
  rw [e]
theorem f39 (b r : Nat) (h : FloatKind.f64.encode ((FloatKind.f64.decode b).integral .down) = r) (hn : ∃ s m q, Ieee.double.read b = .number s m q) (w : World) : (callFunc 39 #[.float .f64 b]).run Try.prog w = .ok (.value (.float .f64 r)) w := by
  rw [run_callFunc_extern Try.func39 (by kernel_rfl) (by kernel_rfl) (by kernel_rfl) (e := Extern.MathFloor.toIntegral "math.archFloor" .down) (by kernel_rfl)]
  obtain ⟨s, m, q, e⟩ := hn
  rw [floor_fin b s m q e, h]
  rfl
set_option maxRecDepth 100000 in
set_option maxHeartbeats 4000000 in
theorem floor_any (b r : Nat) (h : FloatKind.f64.encode ((FloatKind.f64.decode b).integral .down) = r) (hn : ∃ s m q, Ieee.double.read b = .number s m q) (w : World) : Calls Try.prog 37 #[.float .f64 b] w fun e w' => e = .returned (.float .f64 r) ∧ w' = w := by
  have h39 := f39 b r h hn
  clear h hn
  go_enter Try.func37, Try.ntmps37
  go_wp2_with fail
  go_ret
  exact ⟨rfl, rfl⟩
set_option maxRecDepth 100000 in
set_option maxHeartbeats 4000000 in
theorem whole_any (b : Nat) (hb : b < 18446744073709551616) (w : World) : Calls Try.prog 20 #[.float .f64 b] w fun e w' => e = .returned (.tuple #[.int .i64 (Weight.wholeV b).1, .int .i64 (Weight.wholeV b).2]) ∧ w' = w := by
  have c36 := fun w => look_any b hb w
  have HB := Aside.mk hb
  clear hb
  unfold Weight.wholeV
  unfold lookV at c36
  by_cases hn : nanB b = true
  · rw [if_pos hn]
    simp only [if_pos hn] at c36
    have a1 := fun w => assert_yes (P := Try.prog) (w := w) (xT := 64) (v := .agg #[]) Try.underlying67
    clear hn
    go_enter Try.func20, Try.ntmps20
    go_wp2_with (first | (go_at_call 36; refine (c36 _).mono ?_; rintro e w ⟨rfl, rfl⟩))
    go_ret2
    exact ⟨rfl, rfl⟩
  · rw [if_neg hn]
    simp only [if_neg hn] at c36
    by_cases hi : Weight.infB b = true
    · rw [if_pos hi]
      simp only [if_pos hi] at c36
      have a1 := fun w => assert_no (P := Try.prog) (w := w) (t := 68) (xT := 64) (v := .agg #[]) Try.underlying67 (by decide) z67
      have a2 := fun w => assert_yes (P := Try.prog) (w := w) (xT := 64) (v := .agg #[]) Try.underlying68
      clear hn hi
      go_enter Try.func20, Try.ntmps20
      go_wp2_with (first | (go_at_call 36; refine (c36 _).mono ?_; rintro e w ⟨rfl, rfl⟩))
      go_ret2
      exact ⟨rfl, rfl⟩
    · rw [if_neg hi]
      simp only [if_neg hi] at c36
      by_cases ho : Weight.outB b = true
      · rw [if_pos ho]
        simp only [show (Ieee.double.order b 0 == some .lt || (Ieee.double.order b Weight.top == some .gt || Ieee.double.order b Weight.top == some .eq)) = true from ho, if_true] at c36
        have a1 := fun w => assert_no (P := Try.prog) (w := w) (t := 69) (xT := 64) (v := .agg #[]) Try.underlying67 (by decide) z67
        have a2 := fun w => assert_no (P := Try.prog) (w := w) (t := 69) (xT := 64) (v := .agg #[]) Try.underlying68 (by decide) z68
        have a3 := fun w => assert_yes (P := Try.prog) (w := w) (xT := 64) (v := .agg #[]) Try.underlying69
        clear hn hi ho
        go_enter Try.func20, Try.ntmps20
        go_wp2_with (first | (go_at_call 36; refine (c36 _).mono ?_; rintro e w ⟨rfl, rfl⟩))
        go_ret2
        exact ⟨rfl, rfl⟩
      · rw [if_neg ho]
        simp only [show (Ieee.double.order b 0 == some .lt || (Ieee.double.order b Weight.top == some .gt || Ieee.double.order b Weight.top == some .eq)) = false from eq_false_of_ne_true ho, Bool.false_eq_true, if_false] at c36
        obtain ⟨r, h1, h2, h3, h4, h5, h6⟩ := Weight.whole_in b (eq_false_of_ne_true hn) (eq_false_of_ne_true hi) (eq_false_of_ne_true ho)
        have a1 := fun w => assert_nil (P := Try.prog) (w := w) (xT := 64) Try.underlying67 z67
        have a2 := fun w => assert_nil (P := Try.prog) (w := w) (xT := 64) Try.underlying68 z68
        have a3 := fun w => assert_nil (P := Try.prog) (w := w) (xT := 64) Try.underlying69 z69
        have c37 := fun w => floor_any b r h1 h2 w
        have hcv := fun w => run_convert_float_int (P := Try.prog) w 37 3 .f64 .i64 r (Weight.cutZ b) (by rw [Try.underlying37]; rfl) Try.underlying3 h3
        generalize Weight.cutZ b = z at hcv h5 h6 ⊢
        clear h1 h2 h3 h4 hn hi ho
        go_enter Try.func20, Try.ntmps20
        go_wp2_with (first | (go_at_call 36; refine (c36 _).mono ?_; rintro e w ⟨rfl, rfl⟩) | (go_at_call 37; refine (c37 _).mono ?_; rintro e w ⟨rfl, rfl⟩))
        go_ret2
        exact ⟨rfl, rfl⟩
/-- The bits of a number that is none, as the tape tells them. -/
theorem nan_bits (x y t : Nat) : (∃ s f, Ieee.double.read (Question.cut (.nanBits .f64 x y) t) = .nan s f) ∧ Question.cut (.nanBits .f64 x y) t < 18446744073709551616 := by
  unfold Question.cut
  simp only
  rw [Weight.read_rung]
  have h1 : (t / 2) % (2 ^ 52 - 1) < 4503599627370495 := Nat.lt_of_lt_of_le (Nat.mod_lt _ (by decide)) (by decide)
  generalize (t / 2) % (2 ^ 52 - 1) = u at h1
  have h2 : t % 2 < 2 := Nat.mod_lt _ (by omega)
  generalize t % 2 = v at h2
  rw [if_neg (by omega), if_neg (by omega), if_neg (by omega)]
  exact ⟨⟨_, _, rfl⟩, by omega⟩
theorem nan_is {r : Nat} (h : ∃ s f, Ieee.double.read r = .nan s f) (x : Nat) : FloatKind.f64.format.order r x = none := by
  obtain ⟨s, f, h⟩ := h
  show Ieee.Datum.order (Ieee.double.read r) (Ieee.double.read x) = none
  rw [h]
  cases Ieee.double.read x <;> rfl
/-- An operation without an answer. -/
theorem run_invalid {P : Program} (w : World) (op : BinOp) (ho : op = .sub ∨ op = .quo) (t : TypeId) (x y : Nat) (h : floatBits op .f64 x y = none) :
    ∃ r, (binOp op t (.float .f64 x) (.float .f64 y)).run P w = .ok (.float .f64 r) w.drew ∧ r < 18446744073709551616 ∧ ∀ z, FloatKind.f64.format.order r z = none := by
  obtain ⟨hn, hb⟩ := nan_bits x y (w.tape w.drawn (.nanBits .f64 x y))
  refine ⟨_, ?_, hb, nan_is hn⟩
  unfold floatBits at h
  rcases ho with rfl | rfl
  · simp only at h
    simp [binOp, Op.floatArith, h]
    exact fun hf => by cases hf
  · simp only at h
    simp [binOp, Op.floatArith, h]
    exact fun hf => by cases hf
theorem sub_inf (b : Nat) (h : ∃ s, Ieee.double.read b = .infinity s) : floatBits .sub .f64 b b = none := by
  obtain ⟨s, h⟩ := h
  show ((Ieee.double.read b).sum (Ieee.double.read b).opposite).map Ieee.double.write = none
  rw [h]
  cases s <;> rfl
theorem sub_fin (b : Nat) (h : ∃ s m q, Ieee.double.read b = .number s m q) : floatBits .sub .f64 b b = some 0 := by
  obtain ⟨s, m, q, h⟩ := h
  show ((Ieee.double.read b).sum (Ieee.double.read b).opposite).map Ieee.double.write = some 0
  rw [h]
  unfold Ieee.Datum.opposite Ieee.Datum.sum
  have e : Ieee.signed s m (q - min q q).toNat + Ieee.signed (!s) m (q - min q q).toNat = 0 := by
    unfold Ieee.signed
    cases s <;> simp <;> omega
  simp only [e]
  cases s <;> rfl
set_option maxRecDepth 100000 in
set_option maxHeartbeats 4000000 in
theorem refWhole_any (b : Nat) (w : World) : Calls Try.prog 21 #[.float .f64 b] w fun e w' => e = .returned (.tuple #[.int .i64 (Weight.wholeV b).1, .int .i64 (Weight.wholeV b).2]) ∧ Drawn w w' := by
  unfold Weight.wholeV
  by_cases hn : nanB b = true
  · rw [if_pos hn]
    have d0 : (FloatKind.f64.format.order b b != some Ordering.eq) = true := hn
    clear hn
    go_enter Try.func21, Try.ntmps21
    go_wp2_with fail
    go_ret2
    exact ⟨rfl, 0, rfl⟩
  · rw [if_neg hn]
    have hn' := eq_false_of_ne_true hn
    have d0 : (FloatKind.f64.format.order b b != some Ordering.eq) = false := hn'
    rcases Weight.inf_form b (Weight.nan_eq hn') with ⟨hi, hr⟩ | ⟨hi, s, m, q, hr, _, _⟩
    · rw [if_pos hi]
      obtain ⟨r, r1, _, r2⟩ := run_invalid (P := Try.prog) w .sub (.inl rfl) 37 b b (sub_inf b hr)
      have d1 : (FloatKind.f64.format.order r 0 != some Ordering.eq) = true := by rw [r2 0]; rfl
      clear hn hn' hi hr r2
      go_enter Try.func21, Try.ntmps21
      go_wp2_with fail
      go_ret2
      exact ⟨rfl, 1, rfl⟩
    · rw [if_neg (by rw [hi]; simp)]
      have r1 := fun w => run_float_arith (P := Try.prog) w .sub 37 .f64 b b 0 (sub_fin b ⟨s, m, _, hr⟩)
      by_cases ho : Weight.outB b = true
      · rw [if_pos ho]
        have ho' : (FloatKind.f64.format.order b 0 == some Ordering.lt || (FloatKind.f64.format.order b 4751297606875873280 == some Ordering.gt || FloatKind.f64.format.order b 4751297606875873280 == some Ordering.eq)) = true := ho
        by_cases h0 : (FloatKind.f64.format.order b 0 == some Ordering.lt) = true
        · clear hn hn' hi hr ho ho'
          go_enter Try.func21, Try.ntmps21
          go_wp2_with fail
          go_ret2
          exact ⟨rfl, 0, rfl⟩
        · have h0' := eq_false_of_ne_true h0
          rw [h0', Bool.false_or] at ho'
          clear hn hn' hi hr ho h0
          go_enter Try.func21, Try.ntmps21
          go_wp2_with fail
          go_ret2
          exact ⟨rfl, 0, rfl⟩
      · rw [if_neg ho]
        have ho1 := eq_false_of_ne_true ho
        obtain ⟨r, h1, h2, h3, h4, h5, h6⟩ := Weight.whole_in b hn' hi ho1
        have ho' : (FloatKind.f64.format.order b 0 == some Ordering.lt || (FloatKind.f64.format.order b 4751297606875873280 == some Ordering.gt || FloatKind.f64.format.order b 4751297606875873280 == some Ordering.eq)) = false := ho1
        rw [Bool.or_eq_false_iff] at ho'
        obtain ⟨o1, o2⟩ := ho'
        have hcv := fun w => run_convert_float_int (P := Try.prog) w 37 3 .f64 .i64 b (Weight.cutZ b) (by rw [Try.underlying37]; rfl) Try.underlying3 h4
        generalize Weight.cutZ b = z at hcv h5 h6 ⊢
        clear h1 h2 h3 h4 hn hn' hi hr ho ho1
        go_enter Try.func21, Try.ntmps21
        go_wp2_with fail
        go_ret2
        exact ⟨rfl, 0, rfl⟩
end Go.Proofs.Ytjmenlffhoodeac
