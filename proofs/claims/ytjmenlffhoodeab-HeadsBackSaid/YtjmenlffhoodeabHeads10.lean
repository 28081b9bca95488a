/- The three laws of heads, walked. -/
import Derived.Test.YtjmenlffhoodeabHeads9
import Derived.Test.YtjmenlffhoodeabHeads6
import Derived.Test.YtjmenlffhoodeabHeads8
namespace Go.Proofs.Ytjmenlffhoodeab
open Go.RowKit

set_option maxRecDepth 100000 in
set_option maxHeartbeats 4000000 in
theorem headsPuts_walk (lg : Int) (has : Bool) (id : Int) (k a b : Int) (w : World) (wi : (Lit.int .u32 id).wf = true) :
    Calls Try.prog 12 #[.agg #[.int .i64 lg, .bool has, .int .u32 id], .agg #[.int .i64 k, .int .i64 a, .int .i64 b]] w fun e w' => e = .returned (.bool true) ∧ Below w.heap.size w w' := by
  obtain ⟨r1, x1, r2, x2, c1, c2, c3, c4⟩ : ∃ (r1 : ByteArray) (x1 : Int) (r2 : ByteArray) (x2 : Int),
      (∀ w, Calls Try.prog 44 #[.agg #[.int .i64 lg, .bool has, .int .u32 id]] w fun e w' => e = .returned (.tuple #[.string r1, .int .i64 x1]) ∧ Below w.heap.size w w') ∧
      (∀ w, Calls Try.prog 45 #[.agg #[.int .i64 lg, .bool has, .int .u32 id]] w fun e w' => e = .returned (.tuple #[.string r1, .int .i64 x1]) ∧ Below w.heap.size w w') ∧
      (∀ w, Calls Try.prog 46 #[.agg #[.int .i64 k, .int .i64 a, .int .i64 b]] w fun e w' => e = .returned (.tuple #[.string r2, .int .i64 x2]) ∧ Below w.heap.size w w') ∧
      (∀ w, Calls Try.prog 47 #[.agg #[.int .i64 k, .int .i64 a, .int .i64 b]] w fun e w' => e = .returned (.tuple #[.string r2, .int .i64 x2]) ∧ Below w.heap.size w w') :=
    ⟨_, _, _, _, fun w => put_all lg has id w, fun w => refPut_all lg has id w (u32_bd wi).1 (u32_bd wi).2, fun w => putBlock_all k a b w, fun w => refPutBlock_all k a b w⟩
  have S1 := Aside.mk ((Blk.new w 58 #[.int .i64 lg, .bool has, .int .u32 id]).alloc (.cells #[.int .i64 k, .int .i64 a, .int .i64 b] 68))
  have S2 := Aside.mk (blkS w (.cells #[.int .i64 lg, .bool has, .int .u32 id] 58) 68 #[.int .i64 k, .int .i64 a, .int .i64 b])
  have HB := Aside.mk (bl_alloc (bl_alloc (Below.refl w.heap.size w) (.cells #[.int .i64 lg, .bool has, .int .u32 id] 58)) (.cells #[.int .i64 k, .int .i64 a, .int .i64 b] 68))
  go_enter Try.func12, Try.ntmps12
  go_wp2_with fail
  refine (c1 _).mono ?_
  rintro e w1 ⟨rfl, hb⟩
  replace HB := Aside.mk (bl_step HB.out hb)
  replace S1 := Aside.mk (S1.out.below hb S1.out.lt)
  replace S2 := Aside.mk (S2.out.below hb S2.out.lt)
  clear hb
  obtain ⟨a0, a1, a2⟩ := blkB S1.out
  obtain ⟨b0, b1, b2⟩ := blkB S2.out
  go_wp2_with fail
  refine (c2 _).mono ?_
  rintro e w2 ⟨rfl, hb⟩
  replace HB := Aside.mk (bl_step HB.out hb)
  replace S2 := Aside.mk (S2.out.below hb S2.out.lt)
  clear hb a0 a1 a2 b0 b1 b2 S1
  obtain ⟨b0, b1, b2⟩ := blkB S2.out
  go_wp2_with fail
  refine (c3 _).mono ?_
  rintro e w3 ⟨rfl, hb⟩
  replace HB := Aside.mk (bl_step HB.out hb)
  replace S2 := Aside.mk (S2.out.below hb S2.out.lt)
  clear hb b0 b1 b2
  obtain ⟨b0, b1, b2⟩ := blkB S2.out
  go_wp2_with fail
  refine (c4 _).mono ?_
  rintro e w4 ⟨rfl, hb⟩
  replace HB := Aside.mk (bl_step HB.out hb)
  clear hb b0 b1 b2
  go_wp2_with fail
  refine (awake31 _).mono ?_
  rintro e w5 ⟨rfl, hb⟩
  replace HB := Aside.mk (bl_step HB.out hb)
  clear hb
  go_wp2_with fail
  go_ret
  exact ⟨rfl, HB.out⟩

set_option maxRecDepth 100000 in
set_option maxHeartbeats 4000000 in
theorem headsReads_walk (s : ByteArray) (w : World) (_hs : s.size ≤ 140737488351232) :
    Calls Try.prog 13 #[.string s] w fun e w' => e = .returned (.bool true) ∧ Below w.heap.size w w' := by
  have HB := Aside.mk (Below.refl w.heap.size w)
  by_cases h : (1000 : Int) < s.size
  · go_enter Try.func13, Try.ntmps13
    go_wp2_with fail
    refine (awake31 _).mono ?_
    rintro e w1 ⟨rfl, hb⟩
    replace HB := Aside.mk (bl_step HB.out hb)
    clear hb
    go_wp2_with fail
    go_ret
    exact ⟨rfl, HB.out⟩
  · obtain ⟨x0, x1, x2, xr, xe, c1, c2⟩ : ∃ (x0 : Int) (x1 : Bool) (x2 : Int) (xr : ByteArray) (xe : Int),
        (∀ w, Calls Try.prog 49 #[.string s] w fun e w' => e = .returned (.tuple #[.agg #[.int .i64 x0, .bool x1, .int .u32 x2], .string xr, .int .i64 xe]) ∧ Below w.heap.size w w') ∧
        (∀ w, Calls Try.prog 50 #[.string s] w fun e w' => e = .returned (.tuple #[.agg #[.int .i64 x0, .bool x1, .int .u32 x2], .string xr, .int .i64 xe]) ∧ Below w.heap.size w w') :=
      ⟨_, _, _, _, _, fun w => read_all s w, fun w => refRead_all s w⟩
    obtain ⟨y0, y1, y2, yr, ye, c3, c4⟩ : ∃ (y0 y1 y2 : Int) (yr : ByteArray) (ye : Int),
        (∀ w, Calls Try.prog 51 #[.string s] w fun e w' => e = .returned (.tuple #[.agg #[.int .i64 y0, .int .i64 y1, .int .i64 y2], .string yr, .int .i64 ye]) ∧ Below w.heap.size w w') ∧
        (∀ w, Calls Try.prog 52 #[.string s] w fun e w' => e = .returned (.tuple #[.agg #[.int .i64 y0, .int .i64 y1, .int .i64 y2], .string yr, .int .i64 ye]) ∧ Below w.heap.size w w') :=
      ⟨_, _, _, _, _, fun w => readBlock_all s w, fun w => refReadBlock_all s w⟩
    go_enter Try.func13, Try.ntmps13
    go_wp2_with fail
    refine (c1 _).mono ?_
    rintro e w1 ⟨rfl, hb⟩
    replace HB := Aside.mk (bl_step HB.out hb)
    clear hb
    have S1 := Aside.mk (Blk.new w1 58 #[.int .i64 x0, .bool x1, .int .u32 x2])
    replace HB := Aside.mk (bl_alloc HB.out (.cells #[.int .i64 x0, .bool x1, .int .u32 x2] 58))
    go_wp2_with fail
    refine (c2 _).mono ?_
    rintro e w2 ⟨rfl, hb⟩
    replace HB := Aside.mk (bl_step HB.out hb)
    replace S1 := Aside.mk (S1.out.below hb S1.out.lt)
    clear hb
    replace S1 := Aside.mk (S1.out.alloc (.cells #[.int .i64 x0, .bool x1, .int .u32 x2] 58))
    have S2 := Aside.mk (Blk.new w2 58 #[.int .i64 x0, .bool x1, .int .u32 x2])
    replace HB := Aside.mk (bl_alloc HB.out (.cells #[.int .i64 x0, .bool x1, .int .u32 x2] 58))
    go_wp2_with fail
    refine (c3 _).mono ?_
    rintro e w3 ⟨rfl, hb⟩
    replace HB := Aside.mk (bl_step HB.out hb)
    replace S1 := Aside.mk (S1.out.below hb S1.out.lt)
    replace S2 := Aside.mk (S2.out.below hb S2.out.lt)
    clear hb
    replace S1 := Aside.mk (S1.out.alloc (.cells #[.int .i64 y0, .int .i64 y1, .int .i64 y2] 68))
    replace S2 := Aside.mk (S2.out.alloc (.cells #[.int .i64 y0, .int .i64 y1, .int .i64 y2] 68))
    have S3 := Aside.mk (Blk.new w3 68 #[.int .i64 y0, .int .i64 y1, .int .i64 y2])
    replace HB := Aside.mk (bl_alloc HB.out (.cells #[.int .i64 y0, .int .i64 y1, .int .i64 y2] 68))
    go_wp2_with fail
    refine (c4 _).mono ?_
    rintro e w4 ⟨rfl, hb⟩
    replace HB := Aside.mk (bl_step HB.out hb)
    replace S1 := Aside.mk (S1.out.below hb S1.out.lt)
    replace S2 := Aside.mk (S2.out.below hb S2.out.lt)
    replace S3 := Aside.mk (S3.out.below hb S3.out.lt)
    clear hb
    obtain ⟨a0, a1, a2⟩ := blkB S1.out
    obtain ⟨b0, b1, b2⟩ := blkB S2.out
    obtain ⟨d0, d1, d2⟩ := blkB S3.out
    have z1 := S1.out.lt
    have z2 := S2.out.lt
    have z3 := S3.out.lt
    replace HB := Aside.mk (bl_alloc HB.out (.cells #[.int .i64 y0, .int .i64 y1, .int .i64 y2] 68))
    go_wp2_with fail
    refine (awake31 _).mono ?_
    rintro e w5 ⟨rfl, hb⟩
    replace HB := Aside.mk (bl_step HB.out hb)
    clear hb
    go_wp2_with fail
    go_ret
    exact ⟨rfl, HB.out⟩
end Go.Proofs.Ytjmenlffhoodeab
