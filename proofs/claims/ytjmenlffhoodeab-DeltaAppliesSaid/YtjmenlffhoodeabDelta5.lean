/- delta's awake and the two laws' walks. -/
import Derived.Test.YtjmenlffhoodeabDelta4
import Derived.Test.YtjmenlffhoodeabDelta2
namespace Go.Proofs.Ytjmenlffhoodeab
open Go.RowKit

/-- What comes out of any distance: the bytes, and the error. -/
def apS (s : ByteArray) (d : Int) : ByteArray := if 1 ≤ d ∧ d ≤ 256 then difS s d.toNat else ⟨#[]⟩
def baS (s : ByteArray) (d : Int) : ByteArray := if 1 ≤ d ∧ d ≤ 256 then smS s d.toNat else ⟨#[]⟩
def dErr (d : Int) : Int := if 1 ≤ d ∧ d ≤ 256 then 0 else 1
theorem apply_all (s : ByteArray) (d : Int) (w : World) (hs : s.size ≤ 1000000) :
    Calls Try.prog 16 #[.string s, .int .i64 d] w fun e w' => e = .returned (.tuple #[.string (apS s d), .int .i64 (dErr d)]) ∧ Below w.heap.size w w' := by
  by_cases h : 1 ≤ d ∧ d ≤ 256
  · simp only [apS, dErr, if_pos h]
    obtain ⟨D, rfl⟩ := Int.eq_ofNat_of_zero_le (show 0 ≤ d by omega)
    rw [Int.toNat_natCast]
    exact apply_in s D w (by omega) (by omega) hs
  · simp only [apS, dErr, if_neg h]
    exact apply_out s d w (by omega)
theorem back_all (s : ByteArray) (d : Int) (w : World) (hs : s.size ≤ 1000000) :
    Calls Try.prog 18 #[.string s, .int .i64 d] w fun e w' => e = .returned (.tuple #[.string (baS s d), .int .i64 (dErr d)]) ∧ Below w.heap.size w w' := by
  by_cases h : 1 ≤ d ∧ d ≤ 256
  · simp only [baS, dErr, if_pos h]
    obtain ⟨D, rfl⟩ := Int.eq_ofNat_of_zero_le (show 0 ≤ d by omega)
    rw [Int.toNat_natCast]
    exact back_in s D w (by omega) (by omega) hs
  · simp only [baS, dErr, if_neg h]
    exact back_out s d w (by omega)
theorem refApply_all (s : ByteArray) (d : Int) (w : World) (hs : s.size ≤ 1000000) :
    Calls Try.prog 17 #[.string s, .int .i64 d] w fun e w' => e = .returned (.tuple #[.string (apS s d), .int .i64 (dErr d)]) ∧ Below w.heap.size w w' := by
  by_cases h : 1 ≤ d ∧ d ≤ 256
  · simp only [apS, dErr, if_pos h]
    obtain ⟨D, rfl⟩ := Int.eq_ofNat_of_zero_le (show 0 ≤ d by omega)
    rw [Int.toNat_natCast]
    exact refApply_in s D w (by omega) (by omega) hs
  · simp only [apS, dErr, if_neg h]
    exact (refApply_out s d w (by omega)).mono fun e w' ⟨he, hw⟩ => ⟨he, by subst hw; exact Below.refl _ _⟩
theorem refBack_all (s : ByteArray) (d : Int) (w : World) (hs : s.size ≤ 1000000) :
    Calls Try.prog 19 #[.string s, .int .i64 d] w fun e w' => e = .returned (.tuple #[.string (baS s d), .int .i64 (dErr d)]) ∧ Below w.heap.size w w' := by
  by_cases h : 1 ≤ d ∧ d ≤ 256
  · simp only [baS, dErr, if_pos h]
    obtain ⟨D, rfl⟩ := Int.eq_ofNat_of_zero_le (show 0 ≤ d by omega)
    rw [Int.toNat_natCast]
    exact refBack_in s D w (by omega) (by omega) hs
  · simp only [baS, dErr, if_neg h]
    exact (refBack_out s d w (by omega)).mono fun e w' ⟨he, hw⟩ => ⟨he, by subst hw; exact Below.refl _ _⟩
theorem apply_val (s : ByteArray) (d : Int) (r : ByteArray) (x : Int) (w : World) (hs : s.size ≤ 1000000) (h1 : apS s d = r) (h2 : dErr d = x) :
    Calls Try.prog 16 #[.string s, .int .i64 d] w fun e w' => e = .returned (.tuple #[.string r, .int .i64 x]) ∧ Below w.heap.size w w' := by
  subst h1 h2; exact apply_all s d w hs
theorem back_val (s : ByteArray) (d : Int) (r : ByteArray) (x : Int) (w : World) (hs : s.size ≤ 1000000) (h1 : baS s d = r) (h2 : dErr d = x) :
    Calls Try.prog 18 #[.string s, .int .i64 d] w fun e w' => e = .returned (.tuple #[.string r, .int .i64 x]) ∧ Below w.heap.size w w' := by
  subst h1 h2; exact back_all s d w hs
theorem best_val (s : ByteArray) (most r : Int) (w : World) (hs : s.size ≤ 300) (h : (bD s (max 0 (min most 256)).toNat : Int) = r) :
    Calls Try.prog 20 #[.string s, .int .i64 most] w fun e w' => e = .returned (.int .i64 r) ∧ Below w.heap.size w w' := by
  subst h; exact best_any s most _ w hs (by omega)

set_option maxRecDepth 100000 in
set_option maxHeartbeats 1000000 in
theorem awake51 (w : World) : Calls Try.prog 15 #[] w fun e w' => e = .returned (.bool true) ∧ Below w.heap.size w w' := by
  have HB := Aside.mk (Below.refl w.heap.size w)
  go_enter Try.func15, Try.ntmps15
  go_wp2_with fail
  refine (apply_val ⟨#[1, 2, 3, 4]⟩ 1 ⟨#[1, 1, 1, 1]⟩ 0 _ (by decide) (by decide +kernel) (by decide)).mono ?_
  rintro e w1 ⟨rfl, hb⟩
  replace HB := Aside.mk (bl_step HB.out hb)
  clear hb
  go_wp2_with fail
  refine (back_val ⟨#[1, 1, 1, 1]⟩ 1 ⟨#[1, 2, 3, 4]⟩ 0 _ (by decide) (by decide +kernel) (by decide)).mono ?_
  rintro e w2 ⟨rfl, hb⟩
  replace HB := Aside.mk (bl_step HB.out hb)
  clear hb
  go_wp2_with fail
  refine (apply_val ⟨#[97]⟩ 0 ⟨#[]⟩ 1 _ (by decide) (by decide) (by decide)).mono ?_
  rintro e w3 ⟨rfl, hb⟩
  replace HB := Aside.mk (bl_step HB.out hb)
  clear hb
  go_wp2_with fail
  refine (back_val ⟨#[97]⟩ 257 ⟨#[]⟩ 1 _ (by decide) (by decide) (by decide)).mono ?_
  rintro e w4 ⟨rfl, hb⟩
  replace HB := Aside.mk (bl_step HB.out hb)
  clear hb
  go_wp2_with fail
  refine (best_val ⟨#[97, 98, 97, 98, 97, 98, 97, 98]⟩ 5 2 _ (by decide) (by decide +kernel)).mono ?_
  rintro e w5 ⟨rfl, hb⟩
  replace HB := Aside.mk (bl_step HB.out hb)
  clear hb
  go_wp2_with fail
  refine (best_val ⟨#[]⟩ 5 0 _ (by decide) (by decide +kernel)).mono ?_
  rintro e w6 ⟨rfl, hb⟩
  replace HB := Aside.mk (bl_step HB.out hb)
  clear hb
  go_wp2
  go_ret
  exact ⟨rfl, HB.out⟩

set_option maxRecDepth 100000 in
set_option maxHeartbeats 1000000 in
theorem deltaApplies_walk (s : ByteArray) (d most : Int) (w : World) (hs0 : s.size ≤ 140737488351232) (_w1 : (Lit.int .i64 d).wf = true) (_w2 : (Lit.int .i64 most).wf = true) :
    Calls Try.prog 3 #[.string s, .int .i64 d, .int .i64 most] w fun e w' => e = .returned (.bool true) ∧ Below w.heap.size w w' := by
  clear _w1 _w2
  by_cases h : 300 < s.size
  · go_enter Try.func3, Try.ntmps3
    go_wp2_with (go_at_call 15; refine (awake51 _).mono ?_; rintro e w' ⟨rfl, hb⟩)
    go_ret
    exact ⟨rfl, hb⟩
  · obtain ⟨M, hM⟩ : ∃ M : Nat, (M : Int) = max 0 (min most 256) := ⟨(max 0 (min most 256)).toNat, by omega⟩
    have HM := Aside.mk hM
    clear hM
    have HB := Aside.mk (Below.refl w.heap.size w)
    go_enter Try.func3, Try.ntmps3
    go_wp2_with (first
      | (go_at_call 16; refine (apply_all _ _ _ (by omega)).mono ?_; rintro e w' ⟨rfl, hb⟩; replace HB := Aside.mk (bl_step HB.out hb); clear hb)
      | (go_at_call 17; refine (refApply_all _ _ _ (by omega)).mono ?_; rintro e w' ⟨rfl, hb⟩; replace HB := Aside.mk (bl_step HB.out hb); clear hb)
      | (go_at_call 18; refine (back_all _ _ _ (by omega)).mono ?_; rintro e w' ⟨rfl, hb⟩; replace HB := Aside.mk (bl_step HB.out hb); clear hb)
      | (go_at_call 19; refine (refBack_all _ _ _ (by omega)).mono ?_; rintro e w' ⟨rfl, hb⟩; replace HB := Aside.mk (bl_step HB.out hb); clear hb)
      | (go_at_call 20; refine (best_any _ _ M _ (by omega) HM.out).mono ?_; rintro e w' ⟨rfl, hb⟩; replace HB := Aside.mk (bl_step HB.out hb); clear hb)
      | (go_at_call 21; refine (refBest_any _ _ M _ (by omega) HM.out).mono ?_; rintro e w' ⟨rfl, hb⟩; replace HB := Aside.mk (bl_step HB.out hb); clear hb)
      | (go_at_call 15; refine (awake51 _).mono ?_; rintro e w' ⟨rfl, hb⟩; replace HB := Aside.mk (bl_step HB.out hb); clear hb))
    go_ret
    exact ⟨rfl, HB.out⟩

theorem apS_in (s : ByteArray) (d : Int) (h0 : 1 ≤ d) (h1 : d ≤ 256) : apS s d = difS s d.toNat := by unfold apS; rw [if_pos ⟨h0, h1⟩]
theorem baS_in (s : ByteArray) (d : Int) (h0 : 1 ≤ d) (h1 : d ≤ 256) : baS s d = smS s d.toNat := by unfold baS; rw [if_pos ⟨h0, h1⟩]
set_option maxRecDepth 100000 in
set_option maxHeartbeats 1000000 in
theorem deltaBack_walk (s : ByteArray) (x : Int) (w : World) (hs0 : s.size ≤ 140737488351232) (w1 : (Lit.int .u8 x).wf = true) :
    Calls Try.prog 4 #[.string s, .int .u8 x] w fun e w' => e = .returned (.bool true) ∧ Below w.heap.size w w' := by
  obtain ⟨x0, x1⟩ := u8_bd w1
  clear w1
  by_cases h : 3000 < s.size
  · go_enter Try.func4, Try.ntmps4
    go_wp2_with (go_at_call 15; refine (awake51 _).mono ?_; rintro e w' ⟨rfl, hb⟩)
    go_ret
    exact ⟨rfl, hb⟩
  · have HB := Aside.mk (Below.refl w.heap.size w)
    have E0 : Aside (dErr (x + 1) = 0) := ⟨by unfold dErr; rw [if_pos ⟨by omega, by omega⟩]⟩
    have E1 : Aside (apS s (x + 1) = difS s (x + 1).toNat) := ⟨apS_in s _ (by omega) (by omega)⟩
    have E2 : Aside (baS s (x + 1) = smS s (x + 1).toNat) := ⟨baS_in s _ (by omega) (by omega)⟩
    have E3 : Aside (baS (difS s (x + 1).toNat) (x + 1) = s) := ⟨by rw [baS_in _ _ (by omega) (by omega)]; exact back_apply s _ (by omega)⟩
    have E4 : Aside (apS (smS s (x + 1).toNat) (x + 1) = s) := ⟨by rw [apS_in _ _ (by omega) (by omega)]; exact apply_back s _ (by omega)⟩
    have z1 := difS_size s (x + 1).toNat
    have z2 := smS_size s (x + 1).toNat
    generalize difS s (x + 1).toNat = A at *
    generalize smS s (x + 1).toNat = B at *
    have Z1 := Aside.mk z1
    have Z2 := Aside.mk z2
    clear z1 z2
    go_enter Try.func4, Try.ntmps4
    go_wp2_with fail
    refine (apply_val s _ A 0 _ (by omega) E1.out E0.out).mono ?_
    rintro e w1 ⟨rfl, hb⟩
    replace HB := Aside.mk (bl_step HB.out hb)
    clear hb
    go_wp2_with fail
    refine (back_val A _ s 0 _ (by rw [Z1.out]; omega) E3.out E0.out).mono ?_
    rintro e w2 ⟨rfl, hb⟩
    replace HB := Aside.mk (bl_step HB.out hb)
    clear hb
    go_wp2_with fail
    refine (back_val s _ B 0 _ (by omega) E2.out E0.out).mono ?_
    rintro e w3 ⟨rfl, hb⟩
    replace HB := Aside.mk (bl_step HB.out hb)
    clear hb
    go_wp2_with fail
    refine (apply_val B _ s 0 _ (by rw [Z2.out]; omega) E4.out E0.out).mono ?_
    rintro e w4 ⟨rfl, hb⟩
    replace HB := Aside.mk (bl_step HB.out hb)
    clear hb
    go_wp2_with (go_at_call 15; refine (awake51 _).mono ?_; rintro e w' ⟨rfl, hb⟩; replace HB := Aside.mk (bl_step HB.out hb); clear hb)
    go_ret
    exact ⟨rfl, HB.out⟩
end Go.Proofs.Ytjmenlffhoodeab
