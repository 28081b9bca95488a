/- The law of what lies between, walked: WeightBetween. -/
import Derived.Test.YtjmenlffhoodeacWeight10
import Derived.Deep.RegionHeld3
import Derived.Lib.MinMax
namespace Go.Proofs.Ytjmenlffhoodeac
open Go.RowKit

set_option maxRecDepth 100000 in
set_option maxHeartbeats 8000000 in
theorem weightBetween_walk (xs : List Int) (A : Option Addr) (cap : Nat) (ys : List Int) (A2 : Option Addr) (cap2 : Nat) (b : Nat) (w : World) (h : IntsG w w.heap.size A xs) (hl : xs.length ≤ cap) (hc : cap ≤ maxLen) (h2 : IntsG w w.heap.size A2 ys) (hl2 : ys.length ≤ cap2) (hc2 : cap2 ≤ maxLen) :
    Calls Try.prog 6 #[.slice A xs.length cap, .slice A2 ys.length cap2, .float .f64 b] w fun e w' => e = .returned (.bool true) ∧ Below w.heap.size w w' := by
  by_cases b1 : (300 : Int) < xs.length
  · clear h h2
    go_enter Try.func6, Try.ntmps6
    go_wp2_with fail
    refine (awake14 _).mono ?_
    rintro e w1 ⟨rfl, hb⟩
    go_wp2_with fail
    go_ret
    exact ⟨rfl, hb⟩
  · have b1' : decide ((300 : Int) < xs.length) = false := decide_eq_false b1
    by_cases b2 : (300 : Int) < ys.length
    · clear h h2 b1
      go_enter Try.func6, Try.ntmps6
      go_wp2_with fail
      refine (awake14 _).mono ?_
      rintro e w1 ⟨rfl, hb⟩
      go_wp2_with fail
      go_ret
      exact ⟨rfl, hb⟩
    · have b2' : decide ((300 : Int) < ys.length) = false := decide_eq_false b2
      have hx : xs.length ≤ 5000 := by omega
      have hy : ys.length ≤ 5000 := by omega
      have HX := Aside.mk h
      have HY := Aside.mk h2
      have HB := Aside.mk (Below.refl w.heap.size w)
      have c18 := fun wq (hq : IntsG wq w.heap.size A xs) (hq2 : IntsG wq w.heap.size A2 ys) (hz : w.heap.size ≤ wq.heap.size) => mix_any xs ys A A2 cap cap2 b w.heap.size wq hq hq2 hz hl hl2 hc hc2 hx
      have c0 := fun wq (hq : IntsG wq w.heap.size A xs) (hq2 : IntsG wq w.heap.size A2 ys) (hz : w.heap.size ≤ wq.heap.size) => mix_any xs ys A A2 cap cap2 0 w.heap.size wq hq hq2 hz hl hl2 hc hc2 hx
      have c1 := fun wq (hq : IntsG wq w.heap.size A xs) (hq2 : IntsG wq w.heap.size A2 ys) (hz : w.heap.size ≤ wq.heap.size) => mix_any xs ys A A2 cap cap2 4607182418800017408 w.heap.size wq hq hq2 hz hl hl2 hc hc2 hx
      by_cases he : (Weight.mixed xs ys b).2 = 0
      · obtain ⟨m1, m2, m3, m4, m5⟩ := Weight.mixed_ok xs ys b he
        rw [he, m5] at c18
        rw [Weight.mixed_zero xs ys m2 m3 m4] at c0
        rw [Weight.mixed_one xs ys m2 m3 m4] at c1
        have HM := Aside.mk (Weight.mrow_between b m1 xs ys m2 m3 m4)
        have HN := Aside.mk (Weight.mrow_len (Weight.wt b) xs ys xs.length)
        have HXL := Aside.mk hx
        have HL := Aside.mk m2
        generalize Weight.mrow (Weight.wt b) xs ys xs.length = ms at c18 HM HN
        have HMX := Aside.mk (And.intro hc hc2)
        clear h h2 b1 b2 hx hy he m1 m2 m3 m4 m5 hc hc2
        go_enter Try.func6, Try.ntmps6
        go_wp2_with fail
        refine (c18 _ HX.out HY.out (Nat.le_refl _)).mono ?_
        rintro e w1 ⟨r1, rfl, hi1, hb⟩
        replace HB := Aside.mk (bl_step HB.out hb)
        have HI := Aside.mk hi1
        clear hb hi1 c18
        go_wp2_with fail
        refine (c0 _ (HX.out.keep HB.out) (HY.out.keep HB.out) HB.out.size).mono ?_
        rintro e w2 ⟨r2, rfl, hi2, hb⟩
        replace HI := Aside.mk ((HI.out.keep hb).up hb.size)
        replace HB := Aside.mk (bl_step HB.out hb)
        have HJ := Aside.mk hi2
        clear hb hi2 c0
        go_wp2_with fail
        refine (c1 _ (HX.out.keep HB.out) (HY.out.keep HB.out) HB.out.size).mono ?_
        rintro e w3 ⟨r3, rfl, hi3, hb⟩
        replace HI := Aside.mk ((HI.out.keep hb).up hb.size)
        replace HJ := Aside.mk ((HJ.out.keep hb).up hb.size)
        replace HB := Aside.mk (bl_step HB.out hb)
        have HK := Aside.mk hi3
        clear hb hi3 c1
        obtain ⟨Am, cm, rfl, q1, q2, hm⟩ := HI.out.toG
        have HG := Aside.mk hm
        have HQ := Aside.mk q2
        have hml := HN.out
        have hms : ms.length ≤ 5000 := by rw [hml]; exact HXL.out
        clear hm HI q2 hml
        go_wp2_with fail
        go_loopw [13] (fun iv wr => ∃ i : Nat, i ≤ ms.length ∧ iv = .int .i64 i ∧ ∃ n, wr = w3.drewN n) (fun iv _ => ms.length - (intOf iv).toNat)
        case atStart => exact ⟨0, by omega, rfl, 0, rfl⟩
        case round =>
          obtain ⟨i, hi, rfl, nd, rfl⟩ := hrel
          by_cases hlt : i < ms.length
          · have hlx : i < xs.length := by have := HN.out; omega
            obtain ⟨ad, rfl, hb0, e0⟩ := HG.out i hlt
            obtain ⟨ad1, rfl, hb1, e1⟩ := HX.out i hlx
            obtain ⟨ad2, rfl, hb2, e2⟩ := HY.out i (by have := HL.out; omega)
            have k0 : (w3.drewN nd).cell? (ad.add i) = _ := e0
            have k1 : (w3.drewN nd).cell? (ad1.add i) = _ := ((bl_drewN HB.out nd).cell (by rw [block_of_add]; omega)).trans e1
            have k2 : (w3.drewN nd).cell? (ad2.add i) = _ := ((bl_drewN HB.out nd).cell (by rw [block_of_add]; omega)).trans e2
            obtain ⟨p1, p2⟩ := HM.out i hlx
            have i1 : (0 : Int) ≤ i := by omega
            have i2 : (i : Int) < ms.length := by omega
            have i3 : (i : Int) < xs.length := by omega
            have i4 : (i : Int) < ys.length := by have := HL.out; omega
            clear e0 e1 e2
            generalize ms.getD i 0 = z at k0 p1 p2
            generalize xs.getD i 0 = x at k1 p1 p2
            generalize ys.getD i 0 = y at k2 p1 p2
            have d1 : decide (z < min x y) = false := decide_eq_false (by omega)
            have d2 : decide (max x y < z) = false := decide_eq_false (by omega)
            clear p1 p2
            generalize hwq : w3.drewN nd = wq at k0 k1 k2 ⊢
            have HWQ := Aside.mk hwq
            clear hwq
            go_wp2_with fail
            go_region_held3 (fun w' => w'.cell? (ad.add i) = some (.int .i64 z) ∧ w'.cell? (ad1.add i) = some (.int .i64 x) ∧ w'.cell? (ad2.add i) = some (.int .i64 y)) (go_keep) (fail)
            go_wp2_with fail
            exact ⟨⟨i + 1, by omega, by go_num, nd + 1, by rw [← HWQ.out]; rfl⟩, by simp [intOf]; omega⟩
          · obtain rfl : i = ms.length := by omega
            have d1 : ((ms.length : Int) == xs.length) = true := by rw [HN.out]; simp
            have HBq := Aside.mk (bl_drewN HB.out nd)
            have HJq := Aside.mk (HJ.out.keep (bl_drewN (Below.refl w3.heap.size w3) nd))
            have HKq := Aside.mk (HK.out.keep (bl_drewN (Below.refl w3.heap.size w3) nd))
            have hsz : (w3.drewN nd).heap.size = w3.heap.size := rfl
            generalize hwq : w3.drewN nd = wq at HBq HJq HKq hsz ⊢
            have HS := Aside.mk hsz
            obtain ⟨Aj, cj, rfl, j1, j2, hj⟩ := HJq.out.toG
            obtain ⟨Ak, ck, rfl, k1, k2, hk⟩ := HKq.out.toG
            have HJ3 := Aside.mk (And.intro j2 hj)
            have HK3 := Aside.mk (And.intro k2 hk)
            clear hwq HG HJ HK HB HJq HKq hsz j2 hj k2 hk
            go_wp2_with fail
            refine (ints_anyG xs xs Aj A cj cap w3.heap.size _ HJ3.out.2 ((HX.out.keep HBq.out).up (by have := HBq.out.size; have := HS.out; omega)) j1 HJ3.out.1 hl HMX.out.1).mono ?_
            rintro e w4 ⟨rfl, hd⟩
            rw [decide_eq_true (rfl : xs = xs)]
            have hb4 := bl_drawn (Below.refl wq.heap.size wq) hd
            replace HBq := Aside.mk (bl_drawn HBq.out hd)
            have hsz4 : w4.heap.size = wq.heap.size := by obtain ⟨_, rfl⟩ := hd; rfl
            have hk4 := HK3.out.2.keep (by have := HS.out; rw [← this]; exact hb4)
            have HK4 := Aside.mk hk4
            have HS4 := Aside.mk hsz4
            clear hd hb4 hk4 hsz4 HJ3
            go_wp2_with fail
            refine (ints_anyG ys ys Ak A2 ck cap2 w3.heap.size _ HK4.out ((HY.out.keep HBq.out).up (by have := HBq.out.size; have := HS.out; have := HS4.out; omega)) k1 HK3.out.1 hl2 HMX.out.2).mono ?_
            rintro e w5 ⟨rfl, hd⟩
            rw [decide_eq_true (rfl : ys = ys)]
            replace HBq := Aside.mk (bl_drawn HBq.out hd)
            clear hd HK4 HK3
            go_wp2_with fail
            refine (awake14 _).mono ?_
            rintro e w6 ⟨rfl, hb⟩
            replace HBq := Aside.mk (bl_step HBq.out hb)
            clear hb
            go_wp2_with fail
            go_ret
            exact ⟨rfl, HBq.out⟩
      · have hbad := Weight.mixed_bad xs ys b he
        have herr := Weight.mixed_err xs ys b
        rw [hbad] at c18
        generalize (Weight.mixed xs ys b).2 = E at c18 he herr
        have d0 : (E != 0) = true := by simpa using he
        clear h h2 b1 b2 hx hy he hbad c0 c1
        go_enter Try.func6, Try.ntmps6
        go_wp2_with fail
        refine (c18 _ HX.out HY.out (Nat.le_refl _)).mono ?_
        rintro e w1 ⟨r1, rfl, hi1, hb⟩
        obtain ⟨Am, cm, rfl, _, _, _⟩ := hi1.toG
        replace HB := Aside.mk (bl_step HB.out hb)
        clear hb hi1 c18
        go_wp2_with fail
        refine (awake14 _).mono ?_
        rintro e w2 ⟨rfl, hb⟩
        replace HB := Aside.mk (bl_step HB.out hb)
        clear hb
        go_wp2_with fail
        go_ret
        exact ⟨rfl, HB.out⟩
end Go.Proofs.Ytjmenlffhoodeac
