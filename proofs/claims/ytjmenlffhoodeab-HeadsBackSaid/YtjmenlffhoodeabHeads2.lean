/- What the reference's Low, Number, Put and both may's compute, walked. -/
import Derived.Test.YtjmenlffhoodeabHeads1
import Derived.Test.YtjmenlffhoodeabDelta
import Derived.Deep.RegionWith
namespace Go.Proofs.Ytjmenlffhoodeab
set_option linter.unusedSimpArgs false
open Go.RowKit

def loF (n : Int) (i : Nat) : Int := match i with | 0 => n % 256 | 1 => n / 256 % 256 | 2 => n / 65536 % 256 | 3 => n / 16777216 % 256 | _ => 0
set_option maxRecDepth 100000 in
set_option maxHeartbeats 1000000 in
theorem low_any (n : Int) (k : Nat) (w : World) (hk : k ≤ 4) :
    Calls Try.prog 73 #[.int .i64 n, .int .i64 k] w fun e w' => e = .returned (.string (tab (loF n) k)) ∧ Below w.heap.size w w' := by
  obtain ⟨i0, hi, hz0, hz1, hz2⟩ := info_parts info5
  go_enter Try.func73, Try.ntmps73
  go_wp2_with fail
  go_loopw [5, 6] (fun v i wr => ∃ j : Nat, j ≤ k ∧ i = .int .i64 j ∧ wr.ownsRow w.heap.size 5 1 v j (row8 (loF n) j) ∧ Below w.heap.size w wr) (fun _ i _ => k - (intOf i).toNat)
  case atStart => exact ⟨0, by omega, rfl, World.ownsRow_nil _ _ _ _, Below.refl _ _⟩
  case round =>
    obtain ⟨j, hj, rfl, hown, hb⟩ := hrel
    have HB := Aside.mk hb
    clear hb
    by_cases hlt : j < k
    · have D0 := Aside.mk (row8_succ (loF n) j)
      obtain rfl | rfl | rfl | rfl : j = 0 ∨ j = 1 ∨ j = 2 ∨ j = 3 := by omega
      · go_wp2_with (at_builtin; refine wpList_append_own _ rfl _ _ 86 rfl w.heap.size 5 i0 (.int .u8 0) 1 1 Try.underlying86 hi hz0 hz1 hz2 rfl (by decide) _ _ _ rfl (hown.alloc _) ⟨wr.heap.size, 0, none⟩ 1 1 [.int .u8 (n % 256)] rfl rfl ?c1 ?c2 ?c3 ?c4 ?c5 ?_)
        case c1 => exact cell_one_new _ _ _
        case c2 => simp [Value.oneCell']
        case c3 => unfold maxLen; omega
        case c4 => omega
        case c5 => have := HB.out.size; simp; omega
        intro v' w1 hown' hgrow _
        have HB1 := Aside.mk (below_grown (bl_alloc HB.out _) (hown.alloc _) hgrow)
        have ho : w1.ownsRow w.heap.size 5 1 v' (0 + 1) (row8 (loF n) (0 + 1)) := by rw [D0.out]; exact hown'
        clear hgrow hown hown'
        go_wp2
        exact ⟨⟨0 + 1, by omega, by go_num, ho, HB1.out⟩, by simp [intOf]; omega⟩
      · go_wp2_with (at_builtin; refine wpList_append_own _ rfl _ _ 86 rfl w.heap.size 5 i0 (.int .u8 0) 1 1 Try.underlying86 hi hz0 hz1 hz2 rfl (by decide) _ _ _ rfl (hown.alloc _) ⟨wr.heap.size, 0, none⟩ 1 1 [.int .u8 (n / 256 % 256)] rfl rfl ?c1 ?c2 ?c3 ?c4 ?c5 ?_)
        case c1 => exact cell_one_new _ _ _
        case c2 => simp [Value.oneCell']
        case c3 => unfold maxLen; omega
        case c4 => omega
        case c5 => have := HB.out.size; simp; omega
        intro v' w1 hown' hgrow _
        have HB1 := Aside.mk (below_grown (bl_alloc HB.out _) (hown.alloc _) hgrow)
        have ho : w1.ownsRow w.heap.size 5 1 v' (1 + 1) (row8 (loF n) (1 + 1)) := by rw [D0.out]; exact hown'
        clear hgrow hown hown'
        go_wp2
        exact ⟨⟨1 + 1, by omega, by go_num, ho, HB1.out⟩, by simp [intOf]; omega⟩
      · go_wp2_with (at_builtin; refine wpList_append_own _ rfl _ _ 86 rfl w.heap.size 5 i0 (.int .u8 0) 1 1 Try.underlying86 hi hz0 hz1 hz2 rfl (by decide) _ _ _ rfl (hown.alloc _) ⟨wr.heap.size, 0, none⟩ 1 1 [.int .u8 (n / 65536 % 256)] rfl rfl ?c1 ?c2 ?c3 ?c4 ?c5 ?_)
        case c1 => exact cell_one_new _ _ _
        case c2 => simp [Value.oneCell']
        case c3 => unfold maxLen; omega
        case c4 => omega
        case c5 => have := HB.out.size; simp; omega
        intro v' w1 hown' hgrow _
        have HB1 := Aside.mk (below_grown (bl_alloc HB.out _) (hown.alloc _) hgrow)
        have ho : w1.ownsRow w.heap.size 5 1 v' (2 + 1) (row8 (loF n) (2 + 1)) := by rw [D0.out]; exact hown'
        clear hgrow hown hown'
        go_wp2
        exact ⟨⟨2 + 1, by omega, by go_num, ho, HB1.out⟩, by simp [intOf]; omega⟩
      · go_wp2_with (at_builtin; refine wpList_append_own _ rfl _ _ 86 rfl w.heap.size 5 i0 (.int .u8 0) 1 1 Try.underlying86 hi hz0 hz1 hz2 rfl (by decide) _ _ _ rfl (hown.alloc _) ⟨wr.heap.size, 0, none⟩ 1 1 [.int .u8 (n / 16777216 % 256)] rfl rfl ?c1 ?c2 ?c3 ?c4 ?c5 ?_)
        case c1 => exact cell_one_new _ _ _
        case c2 => simp [Value.oneCell']
        case c3 => unfold maxLen; omega
        case c4 => omega
        case c5 => have := HB.out.size; simp; omega
        intro v' w1 hown' hgrow _
        have HB1 := Aside.mk (below_grown (bl_alloc HB.out _) (hown.alloc _) hgrow)
        have ho : w1.ownsRow w.heap.size 5 1 v' (3 + 1) (row8 (loF n) (3 + 1)) := by rw [D0.out]; exact hown'
        clear hgrow hown hown'
        go_wp2
        exact ⟨⟨3 + 1, by omega, by go_num, ho, HB1.out⟩, by simp [intOf]; omega⟩
    · obtain rfl : j = k := by omega
      have hcv := conv_own wr w.heap.size _ _ _ hown
      go_wp2
      go_ret
      exact ⟨rfl, HB.out⟩

def accN (s : ByteArray) : Nat → Int | 0 => 0 | m + 1 => accN s m * 256 + byt s (s.size - 1 - m)
theorem accN_bd (s : ByteArray) (m : Nat) : 0 ≤ accN s m ∧ accN s m < 256 ^ m := by
  induction m with
  | zero => simp [accN]
  | succ m ih =>
    have := byt_bd s (s.size - 1 - m)
    obtain ⟨h0, h1⟩ := ih
    generalize hp : (256 : Int) ^ m = p at *
    have e : (256 : Int) ^ (m + 1) = p * 256 := by rw [Int.pow_succ, hp]
    rw [e, accN]
    omega
set_option maxRecDepth 100000 in
set_option maxHeartbeats 1000000 in
theorem number_any (s : ByteArray) (w : World) (hs : s.size ≤ 4) :
    Calls Try.prog 76 #[.string s] w fun e w' => e = .returned (.int .i64 (accN s s.size)) ∧ w = w' := by
  go_enter Try.func76, Try.ntmps76
  go_wp2_with fail
  go_loop [3, 4] (fun n i => ∃ m : Nat, m ≤ s.size ∧ i = .int .i64 ((s.size : Int) - 1 - m) ∧ n = .int .i64 (accN s m)) (fun _ i => (intOf i + 1).toNat)
  case atStart => exact ⟨0, by omega, by go_num, rfl⟩
  case round =>
    obtain ⟨m, hm, rfl, rfl⟩ := hrel
    by_cases hlt : m < s.size
    · obtain ⟨b0, b1⟩ := accN_bd s m
      have b2 := byt_bd s (s.size - 1 - m)
      have b3 : accN s m < 16777216 := by
        obtain rfl | rfl | rfl | rfl : m = 0 ∨ m = 1 ∨ m = 2 ∨ m = 3 := by omega
        all_goals (simp at b1; omega)
      have g0 := run_idx (P := Try.prog) 9 s .i64 ((s.size : Int) - 1 - m) (s.size - 1 - m) (by omega) (by omega) Try.underlying9
      have HX : Aside (accN s m * 256 + byt s (s.size - 1 - m) = accN s (m + 1)) := ⟨rfl⟩
      clear b1
      go_wp2_with fail
      exact ⟨⟨m + 1, by omega, by go_num, congrArg _ HX.out⟩, by simp [intOf]; omega⟩
    · obtain rfl : m = s.size := by omega
      go_wp2_with fail
      go_ret
      exact ⟨rfl, rfl⟩

/-- May a block be so. -/
def mayS (k a b : Int) : Bool := decide ((k = 0 ∧ a = 0 ∧ b = 0) ∨ (k = 1 ∧ 1 ≤ a ∧ a ≤ 65536 ∧ b = a) ∨ (k = 2 ∧ a ≤ 65536 ∧ 1 ≤ b ∧ b < a))
set_option maxRecDepth 100000 in
set_option maxHeartbeats 1000000 in
theorem may_any (k a b : Int) (w : World) :
    Calls Try.prog 74 #[.agg #[.int .i64 k, .int .i64 a, .int .i64 b]] w fun e w' => e = .returned (.bool (mayS k a b)) ∧ Below w.heap.size w w' := by
  have HB := Aside.mk (bl_alloc (Below.refl w.heap.size w) (.cells #[.int .i64 k, .int .i64 a, .int .i64 b] 68))
  go_enter Try.func74, Try.ntmps74
  go_wp2_with fail
  all_goals (go_ret; refine ⟨ret_bool ?_, ?_⟩)
  all_goals first
    | exact HB.out
    | (rw [Bool.eq_iff_iff]; simp only [mayS, decide_eq_true_eq, beq_iff_eq, beq_eq_false_iff_ne, ne_eq, Bool.false_eq_true, true_iff, false_iff, Bool.and_eq_true] at *; omega)
    | (subst_vars; exact HB.out)
set_option maxRecDepth 100000 in
set_option maxHeartbeats 1000000 in
theorem refMay_any (k a b : Int) (w : World) :
    Calls Try.prog 75 #[.agg #[.int .i64 k, .int .i64 a, .int .i64 b]] w fun e w' => e = .returned (.bool (mayS k a b)) ∧ Below w.heap.size w w' := by
  have HB := Aside.mk (bl_alloc (Below.refl w.heap.size w) (.cells #[.int .i64 k, .int .i64 a, .int .i64 b] 68))
  go_enter Try.func75, Try.ntmps75
  go_wp2_with fail
  all_goals (go_ret; refine ⟨ret_bool ?_, ?_⟩)
  all_goals first
    | exact HB.out
    | (rw [Bool.eq_iff_iff]; simp only [mayS, decide_eq_true_eq, beq_iff_eq, beq_eq_false_iff_ne, ne_eq, Bool.false_eq_true, true_iff, false_iff, Bool.and_eq_true] at *; omega)
    | (subst_vars; exact HB.out)
end Go.Proofs.Ytjmenlffhoodeab
