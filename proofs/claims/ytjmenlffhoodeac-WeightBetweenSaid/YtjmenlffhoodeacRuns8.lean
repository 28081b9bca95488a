/- The laws of runs, walked. -/
import Derived.Test.YtjmenlffhoodeacRuns7
namespace Go.Proofs.Ytjmenlffhoodeac
open Go.RowKit

set_option maxRecDepth 100000 in
set_option maxHeartbeats 8000000 in
theorem runsPacks_walk (xs : List Int) (A : Option Addr) (cap : Nat) (rs : List (Int × Int)) (v : Value) (n : Int) (w : World) (h : IntsG w w.heap.size A xs) (hl : xs.length ≤ cap) (hc : cap ≤ maxLen)
    (hp : PairsG w w.heap.size v rs) (hok : okRuns rs) : Calls Try.prog 3 #[.slice A xs.length cap, v, .int .i64 n] w fun e w' => e = .returned (.bool true) ∧ Below w.heap.size w w' := by
  have hp0 := hp
  obtain ⟨A2, cap2, rfl, q1, q2, _⟩ := hp0
  by_cases b1 : (1100 : Int) < xs.length
  · clear hp h
    go_enter Try.func3, Try.ntmps3
    go_wp2_with fail
    refine (awake12 _).mono ?_
    rintro e w1 ⟨rfl, hb⟩
    go_wp2_with fail
    go_ret
    exact ⟨rfl, hb⟩
  · by_cases b2 : (200 : Int) < rs.length
    · clear hp h
      have b1' : decide ((1100 : Int) < xs.length) = false := decide_eq_false b1
      clear b1
      go_enter Try.func3, Try.ntmps3
      go_wp2_with fail
      refine (awake12 _).mono ?_
      rintro e w1 ⟨rfl, hb⟩
      go_wp2_with fail
      go_ret
      exact ⟨rfl, hb⟩
    · have hx : xs.length ≤ 1100 := by omega
      have hr : rs.length ≤ 200 := by omega
      have H := Aside.mk h
      have HP := Aside.mk hp
      have HB := Aside.mk (Below.refl w.heap.size w)
      have HOK := Aside.mk hok
      clear h hp hok
      have c9 := fun wq (hq : PairsG wq w.heap.size (.slice A2 rs.length cap2) rs) (hz : w.heap.size ≤ wq.heap.size) => unpack_any rs (.slice A2 rs.length cap2) n w.heap.size wq hq hz HOK.out (by omega)
      have c10 := fun wq (hq : PairsG wq w.heap.size (.slice A2 rs.length cap2) rs) (hz : w.heap.size ≤ wq.heap.size) => refUnpack_any rs (.slice A2 rs.length cap2) n w.heap.size wq hq hz HOK.out (by omega)
      generalize Runs.unpack rs n = U at c9 c10
      obtain ⟨U1, U2⟩ := U
      go_enter Try.func3, Try.ntmps3
      go_wp2_with fail
      refine (c9 _ HP.out (Nat.le_refl _)).mono ?_
      rintro e w1 ⟨r1, rfl, hi1, hb⟩
      replace HB := Aside.mk (bl_step HB.out hb)
      have HI := Aside.mk hi1
      clear hb hi1 c9
      go_wp2_with fail
      refine (c10 _ (HP.out.keep HB.out) HB.out.size).mono ?_
      rintro e w2 ⟨r2, rfl, hi2, hb⟩
      replace HI := Aside.mk ((HI.out.keep hb).up hb.size)
      replace HB := Aside.mk (bl_step HB.out hb)
      have HJ := Aside.mk hi2
      clear hb hi2 c10
      have c12 := fun wq (hq : IntsG wq w.heap.size A xs) (hz : w.heap.size ≤ wq.heap.size) => pack_any xs A cap w.heap.size wq hq hz hl hc (by omega)
      have c13 := fun wq (hq : IntsG wq w.heap.size A xs) (hz : w.heap.size ≤ wq.heap.size) => refPack_any xs A cap w.heap.size wq hq hz hl hc (by omega)
      generalize Runs.pack xs = D at c12 c13
      go_wp2_with fail
      refine (c12 _ (H.out.keep HB.out) HB.out.size).mono ?_
      rintro e w3 ⟨v1, rfl, hp1, hb⟩
      replace HI := Aside.mk ((HI.out.keep hb).up hb.size)
      replace HJ := Aside.mk ((HJ.out.keep hb).up hb.size)
      replace HB := Aside.mk (bl_step HB.out hb)
      have HV := Aside.mk hp1
      clear hb hp1 c12
      go_wp2_with fail
      refine (c13 _ (H.out.keep HB.out) HB.out.size).mono ?_
      rintro e w4 ⟨v2, rfl, hp2, hb⟩
      replace HI := Aside.mk ((HI.out.keep hb).up hb.size)
      replace HJ := Aside.mk ((HJ.out.keep hb).up hb.size)
      replace HV := Aside.mk ((HV.out.keep hb).up hb.size)
      replace HB := Aside.mk (bl_step HB.out hb)
      have HW := Aside.mk hp2
      clear hb hp2 c13
      have c11 := fun wq (h1 : PairsAt wq w4.heap.size v1 D) (h2 : PairsAt wq w4.heap.size v2 D) => same_any D D v1 v2 w4.heap.size wq h1 h2
      rw [decide_eq_true (rfl : D = D)] at c11
      go_wp2_with fail
      refine (c11 _ HV.out HW.out).mono ?_
      rintro e w5 ⟨rfl, n5, rfl⟩
      replace HB := Aside.mk (bl_drewN HB.out n5)
      replace HI := Aside.mk (HI.out.keep (bl_drewN (Below.refl w4.heap.size w4) n5))
      replace HJ := Aside.mk (HJ.out.keep (bl_drewN (Below.refl w4.heap.size w4) n5))
      clear c11 HV HW
      have c14 := fun wq (h1 : IntsAt wq w4.heap.size r1 U1) (h2 : IntsAt wq w4.heap.size r2 U1) => ints_any U1 U1 r1 r2 w4.heap.size wq h1 h2
      rw [decide_eq_true (rfl : U1 = U1)] at c14
      go_wp2_with fail
      refine (c14 _ HI.out HJ.out).mono ?_
      rintro e w6 ⟨rfl, n6, rfl⟩
      replace HB := Aside.mk (bl_drewN HB.out n6)
      clear c14 HI HJ
      generalize (w4.drewN n5).drewN n6 = w7 at HB ⊢
      have c15 := fun wq => extra_any n wq
      have c16 := fun wq => refExtra_any n wq
      generalize ((Runs.extra n : Nat) : Int) = E at c15 c16
      go_wp2_with fail
      refine (c15 _).mono ?_
      rintro e w8 ⟨rfl, rfl⟩
      clear c15
      go_wp2_with fail
      refine (c16 _).mono ?_
      rintro e w9 ⟨rfl, rfl⟩
      clear c16
      go_wp2_with fail
      refine (awake12 _).mono ?_
      rintro e w10 ⟨rfl, hb⟩
      go_wp2_with fail
      go_ret
      exact ⟨rfl, bl_step HB.out hb⟩
end Go.Proofs.Ytjmenlffhoodeac
