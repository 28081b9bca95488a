/- The awake of heads' law. -/
import Derived.Test.YtjmenlffhoodeabHeads3
import Derived.Test.YtjmenlffhoodeabHeads7
namespace Go.Proofs.Ytjmenlffhoodeab
open Go.RowKit

theorem put_val (lg : Int) (has : Bool) (id : Int) (r : ByteArray) (x : Int) (w : World) (h1 : putS lg has id = r) (h2 : putOk lg has id = x) :
    Calls Try.prog 44 #[.agg #[.int .i64 lg, .bool has, .int .u32 id]] w fun e w' => e = .returned (.tuple #[.string r, .int .i64 x]) ∧ Below w.heap.size w w' := by
  subst h1 h2; exact put_all lg has id w
theorem putBlock_val (k a b : Int) (r : ByteArray) (x : Int) (w : World) (h1 : pbS k a b = r) (h2 : pbOk k a b = x) :
    Calls Try.prog 46 #[.agg #[.int .i64 k, .int .i64 a, .int .i64 b]] w fun e w' => e = .returned (.tuple #[.string r, .int .i64 x]) ∧ Below w.heap.size w w' := by
  subst h1 h2; exact putBlock_all k a b w
theorem read_val (s : ByteArray) (a : Int) (b : Bool) (c : Int) (r : ByteArray) (x : Int) (w : World) (h : rd s = (a, b, c, r, x)) :
    Calls Try.prog 49 #[.string s] w fun e w' => e = .returned (.tuple #[.agg #[.int .i64 a, .bool b, .int .u32 c], .string r, .int .i64 x]) ∧ Below w.heap.size w w' := by
  have := read_all s w
  rw [h] at this; exact this
theorem readBlock_val (s : ByteArray) (a b c : Int) (r : ByteArray) (x : Int) (w : World) (h : rb s = (a, b, c, r, x)) :
    Calls Try.prog 51 #[.string s] w fun e w' => e = .returned (.tuple #[.agg #[.int .i64 a, .int .i64 b, .int .i64 c], .string r, .int .i64 x]) ∧ Below w.heap.size w w' := by
  have := readBlock_all s w
  rw [h] at this; exact this
set_option maxRecDepth 100000 in
set_option maxHeartbeats 4000000 in
theorem awake31 (w : World) : Calls Try.prog 48 #[] w fun e w' => e = .returned (.bool true) ∧ Below w.heap.size w w' := by
  have HB := Aside.mk (Below.refl w.heap.size w)
  go_enter Try.func48, Try.ntmps48
  go_wp2_with fail
  refine (put_val 15 false 0 ⟨#[71, 76, 68, 49, 15]⟩ 0 _ (by decide +kernel) (by decide +kernel)).mono ?_
  rintro e w1 ⟨rfl, hb⟩
  replace HB := Aside.mk (bl_step HB.out hb)
  clear hb
  go_wp2_with fail
  refine (put_val 26 true 258 ⟨#[71, 76, 68, 49, 58, 2, 1, 0, 0]⟩ 0 _ (by decide +kernel) (by decide +kernel)).mono ?_
  rintro e w2 ⟨rfl, hb⟩
  replace HB := Aside.mk (bl_step HB.out hb)
  clear hb
  go_wp2_with fail
  refine (put_val 14 false 0 ⟨#[]⟩ 12 _ (by decide +kernel) (by decide +kernel)).mono ?_
  rintro e w3 ⟨rfl, hb⟩
  replace HB := Aside.mk (bl_step HB.out hb)
  clear hb
  go_wp2_with fail
  refine (read_val _ 26 true 258 ⟨#[120]⟩ 0 _ (by decide +kernel)).mono ?_
  rintro e w4 ⟨rfl, hb⟩
  replace HB := Aside.mk (bl_step HB.out hb)
  clear hb
  have S7 := Aside.mk (Blk.new w4 58 #[.int .i64 26, .bool true, .int .u32 258])
  replace HB := Aside.mk (bl_alloc HB.out (.cells #[.int .i64 26, .bool true, .int .u32 258] 58))
  go_wp2_with fail
  refine (read_val _ 0 false 0 ⟨#[]⟩ 11 _ (by decide +kernel)).mono ?_
  rintro e w5 ⟨rfl, hb⟩
  replace HB := Aside.mk (bl_step HB.out hb)
  replace S7 := Aside.mk (S7.out.below hb S7.out.lt)
  clear hb
  replace S7 := Aside.mk (S7.out.alloc (.cells #[.int .i64 0, .bool false, .int .u32 0] 58))
  replace HB := Aside.mk (bl_alloc HB.out (.cells #[.int .i64 0, .bool false, .int .u32 0] 58))
  go_wp2_with fail
  refine (putBlock_val 2 65536 2 ⟨#[2, 255, 255, 1, 0]⟩ 0 _ (by decide +kernel) (by decide +kernel)).mono ?_
  rintro e w6 ⟨rfl, hb⟩
  replace HB := Aside.mk (bl_step HB.out hb)
  replace S7 := Aside.mk (S7.out.below hb S7.out.lt)
  clear hb
  go_wp2_with fail
  refine (readBlock_val _ 2 65536 2 ⟨#[121]⟩ 0 _ (by decide +kernel)).mono ?_
  rintro e w7 ⟨rfl, hb⟩
  replace HB := Aside.mk (bl_step HB.out hb)
  replace S7 := Aside.mk (S7.out.below hb S7.out.lt)
  clear hb
  replace S7 := Aside.mk (S7.out.alloc (.cells #[.int .i64 2, .int .i64 65536, .int .i64 2] 68))
  have S15 := Aside.mk (Blk.new w7 68 #[.int .i64 2, .int .i64 65536, .int .i64 2])
  replace HB := Aside.mk (bl_alloc HB.out (.cells #[.int .i64 2, .int .i64 65536, .int .i64 2] 68))
  go_wp2_with fail
  refine (readBlock_val _ 0 0 0 ⟨#[]⟩ 16 _ (by decide +kernel)).mono ?_
  rintro e w8 ⟨rfl, hb⟩
  replace HB := Aside.mk (bl_step HB.out hb)
  replace S7 := Aside.mk (S7.out.below hb S7.out.lt)
  replace S15 := Aside.mk (S15.out.below hb S15.out.lt)
  clear hb
  replace S7 := Aside.mk (S7.out.alloc (.cells #[.int .i64 0, .int .i64 0, .int .i64 0] 68))
  replace S15 := Aside.mk (S15.out.alloc (.cells #[.int .i64 0, .int .i64 0, .int .i64 0] 68))
  replace HB := Aside.mk (bl_alloc HB.out (.cells #[.int .i64 0, .int .i64 0, .int .i64 0] 68))
  go_wp2_with fail
  refine (readBlock_val _ 0 0 0 ⟨#[]⟩ 16 _ (by decide +kernel)).mono ?_
  rintro e w9 ⟨rfl, hb⟩
  replace HB := Aside.mk (bl_step HB.out hb)
  replace S7 := Aside.mk (S7.out.below hb S7.out.lt)
  replace S15 := Aside.mk (S15.out.below hb S15.out.lt)
  clear hb
  obtain ⟨a0, a1, a2⟩ := blkB S7.out
  obtain ⟨b0, b1, b2⟩ := blkB S15.out
  have z1 := S7.out.lt
  have z2 := S15.out.lt
  replace HB := Aside.mk (bl_alloc HB.out (.cells #[.int .i64 0, .int .i64 0, .int .i64 0] 68))
  go_wp2_with fail
  go_ret
  exact ⟨rfl, HB.out⟩
end Go.Proofs.Ytjmenlffhoodeab
