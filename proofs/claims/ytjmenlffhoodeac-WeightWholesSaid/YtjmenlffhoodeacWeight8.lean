/- The known answers of weights, walked. -/
import Derived.Test.YtjmenlffhoodeacWeight7
namespace Go.Proofs.Ytjmenlffhoodeac
open Go.RowKit

theorem mix12 : Weight.mixed [10] [20] 4598175219545276416 = ([12], 0) := by decide +kernel
theorem mix20 : Weight.mixed [10] [20] 9218868437227405312 = ([20], 0) := by decide +kernel
theorem mixArg : Weight.mixed [] [1] 4607182418800017408 = ([], 1) := by decide +kernel
theorem quo00 : floatBits .quo .f64 0 0 = none := by decide +kernel
theorem quo10 : floatBits .quo .f64 4607182418800017408 0 = some 9218868437227405312 := by decide +kernel
theorem quo14 : floatBits .quo .f64 (floatOfInt .f64 1) (floatOfInt .f64 4) = some 4598175219545276416 := by decide +kernel
theorem wInf : Weight.wholeV 9218868437227405312 = (0, 9) := by decide +kernel
theorem wNeg : Weight.wholeV 13830554455654793216 = (0, 2) := by decide +kernel
theorem wZero : Weight.wholeV 9223372036854775808 = (0, 0) := by decide +kernel
theorem wTop : Weight.wholeV 4751297606874824704 = (4294967295, 0) := by decide +kernel
theorem wNan (r : Nat) (h : ∀ z, FloatKind.f64.format.order r z = none) : Weight.wholeV r = (0, 8) := by
  unfold Weight.wholeV
  rw [if_pos]
  unfold nanB
  rw [h]
  rfl
theorem neg0 : Op.negFloat .f64 0 = 9223372036854775808 := by decide +kernel
theorem lt_bits : (9218868437227405312 : Nat) < 18446744073709551616 ∧ (13830554455654793216 : Nat) < 18446744073709551616 ∧ (9223372036854775808 : Nat) < 18446744073709551616 ∧ (4751297606874824704 : Nat) < 18446744073709551616 := by omega
/-- Two rows of a call's own. -/
theorem lit_two (w : World) (xs ys : List Int) : IntsG ((w.alloc (.cells (xs.map (Value.int .i64)).toArray 3)).alloc (.cells (ys.map (Value.int .i64)).toArray 3)) (w.heap.size + 2) (some ⟨w.heap.size, 0, none⟩) xs ∧
    IntsG ((w.alloc (.cells (xs.map (Value.int .i64)).toArray 3)).alloc (.cells (ys.map (Value.int .i64)).toArray 3)) (w.heap.size + 2) (some ⟨w.heap.size + 1, 0, none⟩) ys := by
  have hs : (w.alloc (.cells (xs.map (Value.int .i64)).toArray 3)).heap.size = w.heap.size + 1 := by simp
  have h1 := ints_litG w 3 xs
  have h2 := ints_litG (w.alloc (.cells (xs.map (Value.int .i64)).toArray 3)) 3 ys
  rw [hs] at h2
  refine ⟨IntsG.up (IntsG.keep h1 ?_) (Nat.le_succ _), h2⟩
  have h3 := bl_alloc (Below.refl (w.alloc (.cells (xs.map (Value.int .i64)).toArray 3)).heap.size _) (.cells (ys.map (Value.int .i64)).toArray 3)
  rw [hs] at h3
  exact h3
set_option maxRecDepth 100000 in
set_option maxHeartbeats 8000000 in
theorem awake14 (w : World) : Calls Try.prog 17 #[] w fun e w' => e = .returned (.bool true) ∧ Below w.heap.size w w' := by
  have hnil : ∀ wq : World, IntsG wq wq.heap.size none [] := fun wq i hi => absurd hi (by simp)
  have cI := fun w => whole_any 9218868437227405312 lt_bits.1 w
  have cN := fun w => whole_any 13830554455654793216 lt_bits.2.1 w
  have cZ := fun w => whole_any 9223372036854775808 lt_bits.2.2.1 w
  have cT := fun w => whole_any 4751297606874824704 lt_bits.2.2.2 w
  rw [wInf] at cI
  rw [wNeg] at cN
  rw [wZero] at cZ
  rw [wTop] at cT
  have rneg : ∀ w, (Op.unary .neg (.float .f64 0)).run Try.prog w = .ok (.float .f64 9223372036854775808) w := fun w => by
    rw [← neg0]; rfl
  have q10 := fun w => run_float_arith (P := Try.prog) w .quo 37 .f64 4607182418800017408 0 9218868437227405312 quo10
  go_enter Try.func17, Try.ntmps17
  go_wp2_with fail
  refine (zero_nil _).mono ?_
  rintro e w1 ⟨rfl, hd⟩
  have HB := Aside.mk (bl_drawn (Below.refl w.heap.size w) hd)
  clear hd
  go_wp2_with fail
  obtain ⟨l1, l2⟩ := lit_two w1 [10] [20]
  refine (mix_any [10] [20] (some ⟨w1.heap.size, 0, none⟩) (some ⟨w1.heap.size + 1, 0, none⟩) 1 1 4598175219545276416 (w1.heap.size + 2) _ l1 l2 (by simp) (by decide) (by decide) (by decide) (by decide) (by decide)).mono ?_
  rw [mix12]
  rintro e w2 ⟨ra, rfl, ha, hb⟩
  replace HB := Aside.mk (bl_step HB.out (bl_step (bl_alloc (bl_alloc (Below.refl w1.heap.size w1) _) _) hb))
  have HA := Aside.mk ha
  clear ha hb l1 l2
  obtain ⟨rn, n1, n2, n3⟩ := run_invalid (P := Try.prog) w2 .quo (.inr rfl) 37 0 0 quo00
  have cA := fun w => whole_any rn n2 w
  rw [wNan rn n3] at cA
  clear n2 n3
  go_wp2_with fail
  refine (cA _).mono ?_
  rintro e w3 ⟨rfl, rfl⟩
  replace HA : Aside (IntsAt w2.drew w2.drew.heap.size ra [12]) := Aside.mk ((HA.out.keep (bl_drew (Below.refl w2.heap.size w2))).up (Nat.le_refl _))
  replace HB := Aside.mk (bl_drew HB.out)
  generalize hw3 : w2.drew = w3 at HA HB ⊢
  clear hw3 cA n1
  go_wp2_with (first | (with_reducible refine (cI _).mono ?_; rintro e w3 ⟨rfl, rfl⟩) | (with_reducible refine (cN _).mono ?_; rintro e w3 ⟨rfl, rfl⟩) | (with_reducible refine (cZ _).mono ?_; rintro e w3 ⟨rfl, rfl⟩) | (with_reducible refine (cT _).mono ?_; rintro e w3 ⟨rfl, rfl⟩))
  clear cI cN cZ cT rneg
  refine (mix_any [] [1] none (some ⟨w3.heap.size, 0, none⟩) 0 1 4607182418800017408 (w3.heap.size + 1) _ (fun i hi => absurd hi (by simp)) (ints_litG w3 3 [1]) (by simp) (by decide) (by decide) (by decide) (by decide) (by decide)).mono ?_
  rw [mixArg]
  rintro e w4 ⟨rb, rfl, _, hb⟩
  replace hb := bl_step (bl_alloc (Below.refl w3.heap.size w3) _) hb
  replace HA := Aside.mk ((HA.out.keep hb).up hb.size)
  replace HB := Aside.mk (bl_step HB.out hb)
  clear hb
  go_wp2_with fail
  obtain ⟨l1, l2⟩ := lit_two w4 [10] [20]
  refine (mix_any [10] [20] (some ⟨w4.heap.size, 0, none⟩) (some ⟨w4.heap.size + 1, 0, none⟩) 1 1 9218868437227405312 (w4.heap.size + 2) _ l1 l2 (by simp) (by decide) (by decide) (by decide) (by decide) (by decide)).mono ?_
  rw [mix20]
  rintro e w5 ⟨rc, rfl, hc, hb⟩
  replace hb := bl_step (bl_alloc (bl_alloc (Below.refl w4.heap.size w4) _) _) hb
  replace HA := Aside.mk ((HA.out.keep hb).up hb.size)
  replace HB := Aside.mk (bl_step HB.out hb)
  have HC := Aside.mk hc
  clear hc hb l1 l2 q10
  go_wp2_with fail
  have hb1 := bl_alloc (Below.refl w5.heap.size w5) (.cells #[.int .i64 12] 3)
  refine (ints_any [12] [12] ra _ (w5.heap.size + 1) _ ((HA.out.keep hb1).up (Nat.le_succ _)) (ints_litA w5 3 [12] (by decide))).mono ?_
  rintro e w6 ⟨rfl, hd⟩
  rw [decide_eq_true (rfl : [(12 : Int)] = [12])]
  have hb := bl_drawn hb1 hd
  replace HC := Aside.mk ((HC.out.keep hb).up hb.size)
  replace HB := Aside.mk (bl_step HB.out hb)
  clear hb hb1 hd HA
  go_wp2_with fail
  have hb1 := bl_alloc (Below.refl w6.heap.size w6) (.cells #[.int .i64 20] 3)
  refine (ints_any [20] [20] rc _ (w6.heap.size + 1) _ ((HC.out.keep hb1).up (Nat.le_succ _)) (ints_litA w6 3 [20] (by decide))).mono ?_
  rintro e w7 ⟨rfl, hd⟩
  rw [decide_eq_true (rfl : [(20 : Int)] = [20])]
  have hb := bl_drawn hb1 hd
  replace HB := Aside.mk (bl_step HB.out hb)
  clear hb hb1 hd HC
  go_wp2_with fail
  refine (ratio_any 1 4 _).mono ?_
  rintro e w8 ⟨r, rfl, hq, hd⟩
  have hr : r = 4598175219545276416 := by
    rcases hq with h | ⟨h, _⟩
    · rw [quo14] at h; exact (Option.some.inj h).symm
    · rw [quo14] at h; cases h
  have he : (FloatKind.f64.format.order 4598175219545276416 4598175219545276416 == some Ordering.eq) = true := by decide +kernel
  subst hr
  replace HB := Aside.mk (bl_drawn HB.out hd)
  clear hd hq
  go_wp2_with fail
  go_ret
  exact ⟨rfl, HB.out⟩
end Go.Proofs.Ytjmenlffhoodeac
