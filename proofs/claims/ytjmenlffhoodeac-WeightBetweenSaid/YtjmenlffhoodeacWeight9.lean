/- The laws of weights, walked: WeightMixes. -/
import Derived.Test.YtjmenlffhoodeacWeight8
namespace Go.Proofs.Ytjmenlffhoodeac
open Go.RowKit

set_option maxRecDepth 100000 in
set_option maxHeartbeats 8000000 in
theorem weightMixes_walk (xs : List Int) (A : Option Addr) (cap : Nat) (ys : List Int) (A2 : Option Addr) (cap2 : Nat) (b : Nat) (w : World) (h : IntsG w w.heap.size A xs) (hl : xs.length ≤ cap) (hc : cap ≤ maxLen) (h2 : IntsG w w.heap.size A2 ys) (hl2 : ys.length ≤ cap2) (hc2 : cap2 ≤ maxLen) :
    Calls Try.prog 5 #[.slice A xs.length cap, .slice A2 ys.length cap2, .float .f64 b] w fun e w' => e = .returned (.bool true) ∧ Below w.heap.size w w' := by
  by_cases b1 : (300 : Int) < xs.length
  · clear h h2
    go_enter Try.func5, Try.ntmps5
    go_wp2_with fail
    refine (awake14 _).mono ?_
    rintro e w1 ⟨rfl, hb⟩
    go_wp2_with fail
    go_ret
    exact ⟨rfl, hb⟩
  · have b1' : decide ((300 : Int) < xs.length) = false := decide_eq_false b1
    by_cases b2 : (300 : Int) < ys.length
    · clear h h2 b1
      go_enter Try.func5, Try.ntmps5
      go_wp2_with fail
      refine (awake14 _).mono ?_
      rintro e w1 ⟨rfl, hb⟩
      go_wp2_with fail
      go_ret
      exact ⟨rfl, hb⟩
    · have b2' : decide ((300 : Int) < ys.length) = false := decide_eq_false b2
      have hx : xs.length ≤ 5000 := by omega
      have HX := Aside.mk h
      have HY := Aside.mk h2
      have HB := Aside.mk (Below.refl w.heap.size w)
      have c18 := fun wq (hq : IntsG wq w.heap.size A xs) (hq2 : IntsG wq w.heap.size A2 ys) (hz : w.heap.size ≤ wq.heap.size) => mix_any xs ys A A2 cap cap2 b w.heap.size wq hq hq2 hz hl hl2 hc hc2 hx
      have c19 := fun wq (hq : IntsG wq w.heap.size A xs) (hq2 : IntsG wq w.heap.size A2 ys) (hz : w.heap.size ≤ wq.heap.size) => refMix_any xs ys A A2 cap cap2 b w.heap.size wq hq hq2 hz hl hl2 hc hc2 hx
      generalize Weight.mixed xs ys b = D at c18 c19
      obtain ⟨D1, D2⟩ := D
      clear h h2 b1 b2 hx
      go_enter Try.func5, Try.ntmps5
      go_wp2_with fail
      refine (c18 _ HX.out HY.out (Nat.le_refl _)).mono ?_
      rintro e w1 ⟨r1, rfl, hi1, hb⟩
      replace HB := Aside.mk (bl_step HB.out hb)
      have HI := Aside.mk hi1
      clear hb hi1 c18
      go_wp2_with fail
      refine (c19 _ (HX.out.keep HB.out) (HY.out.keep HB.out) HB.out.size).mono ?_
      rintro e w2 ⟨r2, rfl, hi2, hb⟩
      replace HI := Aside.mk ((HI.out.keep hb).up hb.size)
      replace HB := Aside.mk (bl_step HB.out hb)
      have HJ := Aside.mk hi2
      clear hb hi2 c19
      go_wp2_with fail
      refine (ints_any D1 D1 r1 r2 _ _ HI.out HJ.out).mono ?_
      rintro e w3 ⟨rfl, hd⟩
      rw [decide_eq_true (rfl : D1 = D1)]
      replace HB := Aside.mk (bl_drawn HB.out hd)
      clear hd HI HJ
      have hee : (D2 == D2) = true := by simp
      go_wp2_with fail
      refine (awake14 _).mono ?_
      rintro e w4 ⟨rfl, hb⟩
      replace HB := Aside.mk (bl_step HB.out hb)
      clear hb
      go_wp2_with fail
      go_ret
      exact ⟨rfl, HB.out⟩
end Go.Proofs.Ytjmenlffhoodeac
