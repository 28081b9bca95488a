/- The third law of heads, walked. -/
import Derived.Test.YtjmenlffhoodeabHeads10
import Derived.Test.YtjmenlffhoodeabHeadsP
namespace Go.Proofs.Ytjmenlffhoodeab
open Go.RowKit

theorem putS_size (lg : Int) (has : Bool) (id : Int) : (putS lg has id).size ≤ 9 := by
  unfold putS
  split
  · rw [tab_size]; split <;> omega
  · exact Nat.zero_le _
theorem pbS_size (k a b : Int) : (pbS k a b).size ≤ 5 := by
  unfold pbS
  split
  · split
    · exact Nat.le_of_lt (show 1 < 5 by decide)
    · rw [tab_size]; exact Nat.le_refl _
  · exact Nat.zero_le _
theorem back_head (lg : Int) (has : Bool) (id : Int) (rest : ByteArray) (i0 : 0 ≤ id) (i1 : id ≤ 4294967295) :
    ∃ (r : ByteArray) (x X0 : Int) (X1 : Bool) (X2 : Int) (XR : ByteArray) (XE : Int), r.size ≤ 9 ∧
      (∀ w, Calls Try.prog 44 #[.agg #[.int .i64 lg, .bool has, .int .u32 id]] w fun e w' => e = .returned (.tuple #[.string r, .int .i64 x]) ∧ Below w.heap.size w w') ∧
      (∀ w, Calls Try.prog 49 #[.string (r ++ rest)] w fun e w' => e = .returned (.tuple #[.agg #[.int .i64 X0, .bool X1, .int .u32 X2], .string XR, .int .i64 XE]) ∧ Below w.heap.size w w') ∧
      (x = 0 ∧ X0 = lg ∧ X1 = has ∧ X2 = id ∧ XR = rest ∧ XE = 0 ∨ x ≠ 0) := by
  by_cases h : putOk lg has id = 0
  · exact ⟨_, 0, _, _, _, _, _, putS_size lg has id, fun w => put_val lg has id _ _ w rfl h, fun w => read_val _ lg has id rest 0 w (rd_put lg has id rest i0 i1 h), .inl ⟨rfl, rfl, rfl, rfl, rfl, rfl⟩⟩
  · exact ⟨_, _, _, _, _, _, _, putS_size lg has id, fun w => put_all lg has id w, fun w => read_all _ w, .inr h⟩
theorem back_block (k a b : Int) (rest : ByteArray) :
    ∃ (r : ByteArray) (x X0 X1 X2 : Int) (XR : ByteArray) (XE : Int), r.size ≤ 5 ∧
      (∀ w, Calls Try.prog 46 #[.agg #[.int .i64 k, .int .i64 a, .int .i64 b]] w fun e w' => e = .returned (.tuple #[.string r, .int .i64 x]) ∧ Below w.heap.size w w') ∧
      (∀ w, Calls Try.prog 51 #[.string (r ++ rest)] w fun e w' => e = .returned (.tuple #[.agg #[.int .i64 X0, .int .i64 X1, .int .i64 X2], .string XR, .int .i64 XE]) ∧ Below w.heap.size w w') ∧
      (x = 0 ∧ X0 = k ∧ X1 = a ∧ X2 = b ∧ XR = rest ∧ XE = 0 ∨ x ≠ 0) := by
  by_cases h : mayS k a b = true
  · exact ⟨_, 0, _, _, _, _, _, pbS_size k a b, fun w => putBlock_val k a b _ _ w rfl (by unfold pbOk; rw [if_pos h]), fun w => readBlock_val _ k a b rest 0 w (rb_put k a b rest h), .inl ⟨rfl, rfl, rfl, rfl, rfl, rfl⟩⟩
  · exact ⟨_, _, _, _, _, _, _, pbS_size k a b, fun w => putBlock_all k a b w, fun w => readBlock_all _ w, .inr (by unfold pbOk; rw [if_neg h]; decide)⟩

set_option maxRecDepth 100000 in
set_option maxHeartbeats 4000000 in
theorem headsBack_walk (lg : Int) (has : Bool) (id : Int) (k a b : Int) (s : ByteArray) (w : World) (wi : (Lit.int .u32 id).wf = true) (_hs : s.size ≤ 140737488351232) :
    Calls Try.prog 14 #[.agg #[.int .i64 lg, .bool has, .int .u32 id], .agg #[.int .i64 k, .int .i64 a, .int .i64 b], .string s] w fun e w' => e = .returned (.bool true) ∧ Below w.heap.size w w' := by
  have HB := Aside.mk (bl_alloc (bl_alloc (Below.refl w.heap.size w) (.cells #[.int .i64 lg, .bool has, .int .u32 id] 58)) (.cells #[.int .i64 k, .int .i64 a, .int .i64 b] 68))
  by_cases hsz : (500 : Int) < s.size
  · go_enter Try.func14, Try.ntmps14
    go_wp2_with fail
    refine (awake31 _).mono ?_
    rintro e w1 ⟨rfl, hb⟩
    replace HB := Aside.mk (bl_step HB.out hb)
    clear hb
    go_wp2_with fail
    go_ret
    exact ⟨rfl, HB.out⟩
  · obtain ⟨r1, x1, X0, X1, X2, XR, XE, q1, c1, c2, c5⟩ := back_head lg has id s (u32_bd wi).1 (u32_bd wi).2
    obtain ⟨r2, x2, Y0, Y1, Y2, YR, YE, q2, c3, c4, c6⟩ := back_block k a b s
    have n1 : (r1.size : Int) ≤ 9 := by omega
    have n2 : (r2.size : Int) ≤ 5 := by omega
    have S1 := Aside.mk ((Blk.new w 58 #[.int .i64 lg, .bool has, .int .u32 id]).alloc (.cells #[.int .i64 k, .int .i64 a, .int .i64 b] 68))
    have S2 := Aside.mk (blkS w (.cells #[.int .i64 lg, .bool has, .int .u32 id] 58) 68 #[.int .i64 k, .int .i64 a, .int .i64 b])
    clear wi q1 q2
    replace c1 := Aside.mk c1
    replace c2 := Aside.mk c2
    replace c3 := Aside.mk c3
    replace c4 := Aside.mk c4
    obtain ⟨rfl, rfl, rfl, rfl, rfl, rfl⟩ | h1 := c5 <;> obtain ⟨rfl, rfl, rfl, rfl, hYR, rfl⟩ | h2 := c6
    all_goals
      try subst hYR
      go_enter Try.func14, Try.ntmps14
      go_wp2_with fail
      refine (c1.out _).mono ?_
      rintro e w1 ⟨rfl, hb⟩
      replace HB := Aside.mk (bl_step HB.out hb)
      replace S1 := Aside.mk (S1.out.below hb S1.out.lt)
      replace S2 := Aside.mk (S2.out.below hb S2.out.lt)
      clear hb
      obtain ⟨b0, b1, b2⟩ := blkB S2.out
      go_wp2_with fail
      refine (c3.out _).mono ?_
      rintro e w2 ⟨rfl, hb⟩
      replace HB := Aside.mk (bl_step HB.out hb)
      replace S1 := Aside.mk (S1.out.below hb S1.out.lt)
      replace S2 := Aside.mk (S2.out.below hb S2.out.lt)
      clear hb b0 b1 b2
      go_wp2_with fail
      refine (c2.out _).mono ?_
      rintro e w3 ⟨rfl, hb⟩
      replace HB := Aside.mk (bl_step HB.out hb)
      replace S1 := Aside.mk (S1.out.below hb S1.out.lt)
      replace S2 := Aside.mk (S2.out.below hb S2.out.lt)
      clear hb
      have S3 := Aside.mk (Blk.new w3 58 #[.int .i64 X0, .bool X1, .int .u32 X2])
      replace S1 := Aside.mk (S1.out.alloc (.cells #[.int .i64 X0, .bool X1, .int .u32 X2] 58))
      replace S2 := Aside.mk (S2.out.alloc (.cells #[.int .i64 X0, .bool X1, .int .u32 X2] 58))
      replace HB := Aside.mk (bl_alloc HB.out (.cells #[.int .i64 X0, .bool X1, .int .u32 X2] 58))
      go_wp2_with fail
      refine (c4.out _).mono ?_
      rintro e w4 ⟨rfl, hb⟩
      replace HB := Aside.mk (bl_step HB.out hb)
      replace S1 := Aside.mk (S1.out.below hb S1.out.lt)
      replace S2 := Aside.mk (S2.out.below hb S2.out.lt)
      replace S3 := Aside.mk (S3.out.below hb S3.out.lt)
      clear hb
      obtain ⟨a0, a1, a2⟩ := blkB S1.out
      obtain ⟨b0, b1, b2⟩ := blkB S2.out
      obtain ⟨d0, d1, d2⟩ := blkB S3.out
      have z1 := S1.out.lt
      have z2 := S2.out.lt
      have z3 := S3.out.lt
      replace HB := Aside.mk (bl_alloc HB.out (.cells #[.int .i64 Y0, .int .i64 Y1, .int .i64 Y2] 68))
      go_wp2_with fail
      refine (awake31 _).mono ?_
      rintro e w5 ⟨rfl, hb⟩
      replace HB := Aside.mk (bl_step HB.out hb)
      clear hb
      go_wp2_with fail
      go_ret
      exact ⟨rfl, HB.out⟩
end Go.Proofs.Ytjmenlffhoodeab
