/- The walk of LevelRises. -/
import Derived.Test.YtjmenlffhoodeabLevel3
namespace Go.Proofs.Ytjmenlffhoodeab
open Go.RowKit
theorem rises (n m : Int) (h0 : 0 ≤ n) (h1 : n ≤ m) (h2 : m ≤ 9) : wayS n ≤ wayS m ∧ (wayS n = wayS m → depS n ≤ depS m ∧ pasS n ≤ pasS m) ∧ ofE n = 0 ∧ ofE m = 0 := by
  have : ∀ a b : Fin 10, a ≤ b → wayS a.1 ≤ wayS b.1 ∧ (wayS a.1 = wayS b.1 → depS a.1 ≤ depS b.1 ∧ pasS a.1 ≤ pasS b.1) ∧ ofE a.1 = 0 ∧ ofE b.1 = 0 := by decide +kernel
  obtain ⟨a, rfl⟩ := Int.eq_ofNat_of_zero_le h0
  obtain ⟨b, rfl⟩ := Int.eq_ofNat_of_zero_le (show 0 ≤ m by omega)
  exact this ⟨a, by omega⟩ ⟨b, by omega⟩ (by simp [Fin.le_def]; omega)
theorem level_pair (n m : Int) (h0 : 0 ≤ n) (h1 : n ≤ m) (h2 : m ≤ 9) : ∃ x0 x1 x2 y0 y1 y2 : Int, x0 ≤ y0 ∧ (x0 = y0 → x1 ≤ y1 ∧ x2 ≤ y2) ∧
    (∀ w, Calls Try.prog 38 #[.int .i64 n] w fun e w' => e = .returned (.tuple #[.agg #[.int .i64 x0, .int .i64 x1, .int .i64 x2], .int .i64 0]) ∧ Below w.heap.size w w') ∧
    (∀ w, Calls Try.prog 38 #[.int .i64 m] w fun e w' => e = .returned (.tuple #[.agg #[.int .i64 y0, .int .i64 y1, .int .i64 y2], .int .i64 0]) ∧ Below w.heap.size w w') := by
  obtain ⟨k1, k2, k3, k4⟩ := rises n m h0 h1 h2
  exact ⟨_, _, _, _, _, _, k1, k2, fun w => by have := of_all n w; rwa [k3] at this, fun w => by have := of_all m w; rwa [k4] at this⟩

set_option maxRecDepth 100000 in
set_option maxHeartbeats 2000000 in
theorem rises_lt (a b : Int) (w : World) (a0 : 0 ≤ a) (a1 : a ≤ 255) (b0 : 0 ≤ b) (b1 : b ≤ 255) (h : a % 10 < b % 10)
    (hawake : ∀ w, Calls Try.prog 37 #[] w fun e w' => e = .returned (.bool true) ∧ Below w.heap.size w w') :
    Calls Try.prog 11 #[.int .u8 a, .int .u8 b] w fun e w' => e = .returned (.bool true) ∧ Below w.heap.size w w' := by
  have HB := Aside.mk (Below.refl w.heap.size w)
  obtain ⟨x0, x1, x2, y0, y1, y2, k1, k2, c1, c2⟩ := level_pair (a % 10) (b % 10) (by omega) (by omega) (by omega)
  go_enter Try.func11, Try.ntmps11
  go_wp2_with fail
  refine (c1 _).mono ?_
  rintro e w1 ⟨rfl, hb⟩
  replace HB := Aside.mk (bl_step HB.out hb)
  clear hb
  have S1 := Aside.mk (Blk.new w1 52 #[.int .i64 x0, .int .i64 x1, .int .i64 x2])
  replace HB := Aside.mk (bl_alloc HB.out (.cells #[.int .i64 x0, .int .i64 x1, .int .i64 x2] 52))
  go_wp2_with fail
  refine (c2 _).mono ?_
  rintro e w2 ⟨rfl, hb⟩
  replace HB := Aside.mk (bl_step HB.out hb)
  replace S1 := Aside.mk (S1.out.below hb (by simp))
  have z1 : w1.heap.size < w2.heap.size := by have := hb.size; simp at this; omega
  clear hb
  obtain ⟨d0, d1, d2, -⟩ := blk3 S1.out
  replace HB := Aside.mk (bl_alloc HB.out (.cells #[.int .i64 y0, .int .i64 y1, .int .i64 y2] 52))
  by_cases hq : x0 = y0
  · obtain ⟨k3, k4⟩ := k2 hq
    clear k2
    subst hq
    go_wp2_with fail
    refine (hawake _).mono ?_
    rintro e w3 ⟨rfl, hb⟩
    replace HB := Aside.mk (bl_step HB.out hb)
    clear hb
    go_wp2_with fail
    go_ret
    exact ⟨rfl, HB.out⟩
  · clear k2
    go_wp2_with fail
    refine (hawake _).mono ?_
    rintro e w3 ⟨rfl, hb⟩
    replace HB := Aside.mk (bl_step HB.out hb)
    clear hb
    go_wp2_with fail
    go_ret
    exact ⟨rfl, HB.out⟩
set_option maxRecDepth 100000 in
set_option maxHeartbeats 2000000 in
theorem rises_gt (a b : Int) (w : World) (a0 : 0 ≤ a) (a1 : a ≤ 255) (b0 : 0 ≤ b) (b1 : b ≤ 255) (h : b % 10 < a % 10)
    (hawake : ∀ w, Calls Try.prog 37 #[] w fun e w' => e = .returned (.bool true) ∧ Below w.heap.size w w') :
    Calls Try.prog 11 #[.int .u8 a, .int .u8 b] w fun e w' => e = .returned (.bool true) ∧ Below w.heap.size w w' := by
  have HB := Aside.mk (Below.refl w.heap.size w)
  obtain ⟨x0, x1, x2, y0, y1, y2, k1, k2, c1, c2⟩ := level_pair (b % 10) (a % 10) (by omega) (by omega) (by omega)
  go_enter Try.func11, Try.ntmps11
  go_wp2_with fail
  refine (c1 _).mono ?_
  rintro e w1 ⟨rfl, hb⟩
  replace HB := Aside.mk (bl_step HB.out hb)
  clear hb
  have S1 := Aside.mk (Blk.new w1 52 #[.int .i64 x0, .int .i64 x1, .int .i64 x2])
  replace HB := Aside.mk (bl_alloc HB.out (.cells #[.int .i64 x0, .int .i64 x1, .int .i64 x2] 52))
  go_wp2_with fail
  refine (c2 _).mono ?_
  rintro e w2 ⟨rfl, hb⟩
  replace HB := Aside.mk (bl_step HB.out hb)
  replace S1 := Aside.mk (S1.out.below hb (by simp))
  have z1 : w1.heap.size < w2.heap.size := by have := hb.size; simp at this; omega
  clear hb
  obtain ⟨d0, d1, d2, -⟩ := blk3 S1.out
  replace HB := Aside.mk (bl_alloc HB.out (.cells #[.int .i64 y0, .int .i64 y1, .int .i64 y2] 52))
  by_cases hq : x0 = y0
  · obtain ⟨k3, k4⟩ := k2 hq
    clear k2
    subst hq
    go_wp2_with fail
    refine (hawake _).mono ?_
    rintro e w3 ⟨rfl, hb⟩
    replace HB := Aside.mk (bl_step HB.out hb)
    clear hb
    go_wp2_with fail
    go_ret
    exact ⟨rfl, HB.out⟩
  · clear k2
    go_wp2_with fail
    refine (hawake _).mono ?_
    rintro e w3 ⟨rfl, hb⟩
    replace HB := Aside.mk (bl_step HB.out hb)
    clear hb
    go_wp2_with fail
    go_ret
    exact ⟨rfl, HB.out⟩
set_option maxRecDepth 100000 in
set_option maxHeartbeats 2000000 in
theorem rises_eq (a b : Int) (w : World) (a0 : 0 ≤ a) (a1 : a ≤ 255) (b0 : 0 ≤ b) (b1 : b ≤ 255) (h : a % 10 = b % 10)
    (hawake : ∀ w, Calls Try.prog 37 #[] w fun e w' => e = .returned (.bool true) ∧ Below w.heap.size w w') :
    Calls Try.prog 11 #[.int .u8 a, .int .u8 b] w fun e w' => e = .returned (.bool true) ∧ Below w.heap.size w w' := by
  have HB := Aside.mk (Below.refl w.heap.size w)
  obtain ⟨x0, x1, x2, y0, y1, y2, k1, k2, c1, c2⟩ := level_pair (b % 10) (b % 10) (by omega) (by omega) (by omega)
  go_enter Try.func11, Try.ntmps11
  go_wp2_with fail
  refine (c1 _).mono ?_
  rintro e w1 ⟨rfl, hb⟩
  replace HB := Aside.mk (bl_step HB.out hb)
  clear hb
  have S1 := Aside.mk (Blk.new w1 52 #[.int .i64 x0, .int .i64 x1, .int .i64 x2])
  replace HB := Aside.mk (bl_alloc HB.out (.cells #[.int .i64 x0, .int .i64 x1, .int .i64 x2] 52))
  go_wp2_with fail
  refine (c2 _).mono ?_
  rintro e w2 ⟨rfl, hb⟩
  replace HB := Aside.mk (bl_step HB.out hb)
  replace S1 := Aside.mk (S1.out.below hb (by simp))
  have z1 : w1.heap.size < w2.heap.size := by have := hb.size; simp at this; omega
  clear hb
  obtain ⟨d0, d1, d2, -⟩ := blk3 S1.out
  replace HB := Aside.mk (bl_alloc HB.out (.cells #[.int .i64 y0, .int .i64 y1, .int .i64 y2] 52))
  by_cases hq : x0 = y0
  · obtain ⟨k3, k4⟩ := k2 hq
    clear k2
    subst hq
    go_wp2_with fail
    refine (hawake _).mono ?_
    rintro e w3 ⟨rfl, hb⟩
    replace HB := Aside.mk (bl_step HB.out hb)
    clear hb
    go_wp2_with fail
    go_ret
    exact ⟨rfl, HB.out⟩
  · clear k2
    go_wp2_with fail
    refine (hawake _).mono ?_
    rintro e w3 ⟨rfl, hb⟩
    replace HB := Aside.mk (bl_step HB.out hb)
    clear hb
    go_wp2_with fail
    go_ret
    exact ⟨rfl, HB.out⟩

theorem levelRises_walk (a b : Int) (w : World) (ha : (Lit.int .u8 a).wf = true) (hb : (Lit.int .u8 b).wf = true) :
    Calls Try.prog 11 #[.int .u8 a, .int .u8 b] w fun e w' => e = .returned (.bool true) ∧ Below w.heap.size w w' := by
  obtain ⟨a0, a1⟩ := u8_bd ha
  obtain ⟨b0, b1⟩ := u8_bd hb
  rcases Int.lt_trichotomy (a % 10) (b % 10) with h | h | h
  · exact rises_lt a b w a0 a1 b0 b1 h awake32
  · exact rises_eq a b w a0 a1 b0 b1 h awake32
  · exact rises_gt a b w a0 a1 b0 b1 h awake32
end Go.Proofs.Ytjmenlffhoodeab
