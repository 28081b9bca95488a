/- The frame's head from parameters, walked. -/
import Derived.Test.YtjmenlffhoodeabLevel1
import Derived.Deep.RegionWith
namespace Go.Proofs.Ytjmenlffhoodeab
open Go.RowKit

/-- What the head tells of parameters: log, whether there is a dictionary, its sum. -/
def hd0 (lv lg : Int) (s : ByteArray) : Int := if chk lv lg s.size = 0 then lg else 0
def hd1 (lv lg : Int) (s : ByteArray) : Bool := decide (chk lv lg s.size = 0 ∧ 0 < s.size)
def hd2 (lv lg : Int) (s : ByteArray) : Int := if chk lv lg s.size = 0 ∧ 0 < s.size then addS 1 s else 0
theorem nonempty_list (s : ByteArray) (h : 0 < s.size) : s.toList.isEmpty = false := by
  rw [ByteArray.toList_eq]
  have : s.data.size = s.size := rfl
  rw [List.isEmpty_eq_false_iff]
  intro e
  have h2 : s.data.toList.length = 0 := by rw [e]; rfl
  rw [Array.length_toList] at h2
  omega
theorem empty_of_size (s : ByteArray) (h : s.size = 0) : s = ⟨#[]⟩ := by
  apply ByteArray.ext
  exact Array.eq_empty_of_size_eq_zero h

theorem blk3 {w : World} {g : Nat} {t : TypeId} {a b c : Value} (h : Blk w g t #[a, b, c]) :
    w.cell? ⟨g, 0, none⟩ = some a ∧ w.cell? ⟨g, 1, none⟩ = some b ∧ w.cell? ⟨g, 2, none⟩ = some c ∧ w.frozen? ⟨g, 0, none⟩ = false ∧ w.frozen? ⟨g, 1, none⟩ = false ∧ w.frozen? ⟨g, 2, none⟩ = false :=
  ⟨by rw [h.cell 0]; rfl, by rw [h.cell 1]; rfl, by rw [h.cell 2]; rfl, h.frozen 0, h.frozen 1, h.frozen 2⟩
theorem blk_second (w : World) (o : Obj) (t : TypeId) (cs : Array Value) : Blk ((w.alloc o).alloc (.cells cs t)) (w.heap.size + 1) t cs := by
  have := Blk.new (w.alloc o) t cs
  rwa [show (w.alloc o).heap.size = w.heap.size + 1 from by simp] at this

set_option maxRecDepth 100000 in
set_option maxHeartbeats 1000000 in
theorem head_bad (lv lg : Int) (s : ByteArray) (w : World) (h : ¬ chk lv lg s.size = 0) :
    Calls Try.prog 40 #[.agg #[.int .i64 lv, .int .i64 lg, .string s]] w fun e w' => e = .returned (.tuple #[.agg #[.int .i64 0, .bool false, .int .u32 0], .int .i64 (chk lv lg s.size)]) ∧ Below w.heap.size w w' := by
  have hne : (chk lv lg s.size != 0) = true := by simpa using h
  clear h
  have HB := Aside.mk (bl_alloc (bl_alloc (Below.refl w.heap.size w) (.cells #[.int .i64 lv, .int .i64 lg, .string s] 50)) (.cells #[.int .i64 0, .bool false, .int .u32 0] 58))
  have K2 := Aside.mk (blk_second w (.cells #[.int .i64 lv, .int .i64 lg, .string s] 50) 58 #[.int .i64 0, .bool false, .int .u32 0])
  go_enter Try.func40, Try.ntmps40
  go_wp2_with fail
  refine (check_all _ _ _ _).mono ?_
  rintro e w1 ⟨rfl, hb⟩
  replace HB := Aside.mk (bl_step HB.out hb)
  have L2 := K2.out.below hb (by simp)
  obtain ⟨a0, a1, a2, a3, a4, a5⟩ := blk3 L2
  clear hb L2 K2
  go_wp2_with fail
  refine bodyPost_ret (v := .tuple #[.agg #[.int .i64 0, .bool false, .int .u32 0], .int .i64 (chk lv lg s.size)]) (by simp [results, Try.results40, go_sem, a0, a1, a2]) rfl ⟨rfl, ?_⟩
  exact bl_set (bl_set (bl_set HB.out (by simp) _) (by simp) _) (by simp) _

set_option maxRecDepth 100000 in
set_option maxHeartbeats 2000000 in
theorem head_none (lv lg : Int) (w : World) (h : chk lv lg 0 = 0) :
    Calls Try.prog 40 #[.agg #[.int .i64 lv, .int .i64 lg, .string ⟨#[]⟩]] w fun e w' => e = .returned (.tuple #[.agg #[.int .i64 lg, .bool false, .int .u32 0], .int .i64 0]) ∧ Below w.heap.size w w' := by
  have HB := Aside.mk (bl_alloc (bl_alloc (Below.refl w.heap.size w) (.cells #[.int .i64 lv, .int .i64 lg, .string ⟨#[]⟩] 50)) (.cells #[.int .i64 0, .bool false, .int .u32 0] 58))
  have K1 := Aside.mk ((Blk.new w 50 #[.int .i64 lv, .int .i64 lg, .string ⟨#[]⟩]).alloc (.cells #[.int .i64 0, .bool false, .int .u32 0] 58))
  have K2 := Aside.mk (blk_second w (.cells #[.int .i64 lv, .int .i64 lg, .string ⟨#[]⟩] 50) 58 #[.int .i64 0, .bool false, .int .u32 0])
  have H := Aside.mk h
  clear h
  go_enter Try.func40, Try.ntmps40
  go_wp2_with fail
  refine (check_all _ _ _ _).mono ?_
  rintro e w1 ⟨rfl, hb⟩
  rw [show ((⟨#[]⟩ : ByteArray).size : Int) = 0 from rfl, H.out]
  replace HB := Aside.mk (bl_step HB.out hb)
  obtain ⟨b0, b1, b2, b3, b4, b5⟩ := blk3 (K1.out.below hb (by simp; omega))
  obtain ⟨a0, a1, a2, a3, a4, a5⟩ := blk3 (K2.out.below hb (by simp))
  have hz : w.heap.size + 1 < w1.heap.size := by have := hb.size; simp at this; omega
  have hz2 : w.heap.size < w1.heap.size := by omega
  clear hb K1 K2
  go_wp2_with fail
  refine bodyPost_ret (v := .tuple #[.agg #[.int .i64 lg, .bool false, .int .u32 0], .int .i64 0]) (by simp [results, Try.results40, go_sem, a0, a1, a2, hz]) rfl ⟨rfl, ?_⟩
  exact (by repeat (first | exact HB.out | apply bl_alloc | apply bl_drewN | apply bl_drew | (refine bl_set ?_ (by first | omega | (simp; omega) | simp) _)))

set_option maxRecDepth 100000 in
set_option maxHeartbeats 2000000 in
theorem head_some (lv lg : Int) (s : ByteArray) (w : World) (h : chk lv lg s.size = 0) (hs0 : 0 < s.size) (hs : s.size ≤ 140737488351232) :
    Calls Try.prog 40 #[.agg #[.int .i64 lv, .int .i64 lg, .string s]] w fun e w' => e = .returned (.tuple #[.agg #[.int .i64 lg, .bool true, .int .u32 (addS 1 s)], .int .i64 0]) ∧ Below w.heap.size w w' := by
  have HB := Aside.mk (bl_alloc (bl_alloc (Below.refl w.heap.size w) (.cells #[.int .i64 lv, .int .i64 lg, .string s] 50)) (.cells #[.int .i64 0, .bool false, .int .u32 0] 58))
  have K1 := Aside.mk ((Blk.new w 50 #[.int .i64 lv, .int .i64 lg, .string s]).alloc (.cells #[.int .i64 0, .bool false, .int .u32 0] 58))
  have K2 := Aside.mk (blk_second w (.cells #[.int .i64 lv, .int .i64 lg, .string s] 50) 58 #[.int .i64 0, .bool false, .int .u32 0])
  have H := Aside.mk h
  have hne := nonempty_list s hs0
  clear h
  go_enter Try.func40, Try.ntmps40
  go_wp2_with fail
  refine (check_all _ _ _ _).mono ?_
  rintro e w1 ⟨rfl, hb⟩
  rw [H.out]
  replace HB := Aside.mk (bl_step HB.out hb)
  have L1 := Aside.mk (K1.out.below hb (by simp; omega))
  have L2 := Aside.mk (K2.out.below hb (by simp))
  obtain ⟨b0, b1, b2, b3, b4, b5⟩ := blk3 L1.out
  have hz : w.heap.size + 1 < w1.heap.size := by have := hb.size; simp at this; omega
  have hz2 : w.heap.size < w1.heap.size := by omega
  clear hb K1 K2
  go_wp2_with fail
  have M1 := Aside.mk (Blk.new w1 58 #[.int .i64 lg, .bool true, .int .u32 0])
  have M2 := Aside.mk (L2.out.alloc (.cells #[.int .i64 lg, .bool true, .int .u32 0] 58))
  clear b0 b1 b2 b3 b4 b5 L1 L2
  refine (sum_any _ _ hs).mono ?_
  rintro e w2 ⟨rfl, hb⟩
  replace HB := Aside.mk (bl_step (bl_alloc HB.out _) hb)
  obtain ⟨c0, c1, c2, c3, c4, c5⟩ := blk3 (M1.out.below hb (by simp))
  obtain ⟨d0, d1, d2, d3, d4, d5⟩ := blk3 (M2.out.below hb (by simp; omega))
  have hne2 : w1.heap.size ≠ w.heap.size + 1 := by omega
  have hne3 : w.heap.size + 1 ≠ w1.heap.size := by omega
  clear hb M1 M2
  go_wp2_with fail
  refine bodyPost_ret (v := .tuple #[.agg #[.int .i64 lg, .bool true, .int .u32 (addS 1 s)], .int .i64 0]) (by simp [results, Try.results40, go_sem, d0, d1, d2]) rfl ⟨rfl, ?_⟩
  exact (by repeat (first | exact HB.out | apply bl_alloc | apply bl_drewN | apply bl_drew | (refine bl_set ?_ (by first | omega | (simp; omega) | simp) _)))

set_option maxRecDepth 100000 in
set_option maxHeartbeats 1000000 in
theorem refHead_bad (lv lg : Int) (s : ByteArray) (w : World) (h : ¬ chk lv lg s.size = 0) :
    Calls Try.prog 41 #[.agg #[.int .i64 lv, .int .i64 lg, .string s]] w fun e w' => e = .returned (.tuple #[.agg #[.int .i64 0, .bool false, .int .u32 0], .int .i64 (chk lv lg s.size)]) ∧ Below w.heap.size w w' := by
  have hne : (chk lv lg s.size != 0) = true := by simpa using h
  clear h
  have HB := Aside.mk (bl_alloc (bl_alloc (Below.refl w.heap.size w) (.cells #[.int .i64 lv, .int .i64 lg, .string s] 50)) (.cells #[.int .i64 0, .bool false, .int .u32 0] 58))
  have K2 := Aside.mk (blk_second w (.cells #[.int .i64 lv, .int .i64 lg, .string s] 50) 58 #[.int .i64 0, .bool false, .int .u32 0])
  go_enter Try.func41, Try.ntmps41
  go_wp2_with fail
  refine (refCheck_all _ _ _ _).mono ?_
  rintro e w1 ⟨rfl, hb⟩
  replace HB := Aside.mk (bl_step HB.out hb)
  have L2 := K2.out.below hb (by simp)
  obtain ⟨a0, a1, a2, a3, a4, a5⟩ := blk3 L2
  clear hb L2 K2
  go_wp2_with fail
  refine bodyPost_ret (v := .tuple #[.agg #[.int .i64 0, .bool false, .int .u32 0], .int .i64 (chk lv lg s.size)]) (by simp [results, Try.results41, go_sem, a0, a1, a2]) rfl ⟨rfl, ?_⟩
  exact bl_set (bl_set (bl_set HB.out (by simp) _) (by simp) _) (by simp) _


set_option maxRecDepth 100000 in
set_option maxHeartbeats 2000000 in
theorem refHead_none (lv lg : Int) (w : World) (h : chk lv lg 0 = 0) :
    Calls Try.prog 41 #[.agg #[.int .i64 lv, .int .i64 lg, .string ⟨#[]⟩]] w fun e w' => e = .returned (.tuple #[.agg #[.int .i64 lg, .bool false, .int .u32 0], .int .i64 0]) ∧ Below w.heap.size w w' := by
  have HB := Aside.mk (bl_alloc (bl_alloc (Below.refl w.heap.size w) (.cells #[.int .i64 lv, .int .i64 lg, .string ⟨#[]⟩] 50)) (.cells #[.int .i64 0, .bool false, .int .u32 0] 58))
  have K1 := Aside.mk ((Blk.new w 50 #[.int .i64 lv, .int .i64 lg, .string ⟨#[]⟩]).alloc (.cells #[.int .i64 0, .bool false, .int .u32 0] 58))
  have K2 := Aside.mk (blk_second w (.cells #[.int .i64 lv, .int .i64 lg, .string ⟨#[]⟩] 50) 58 #[.int .i64 0, .bool false, .int .u32 0])
  have H := Aside.mk h
  clear h
  go_enter Try.func41, Try.ntmps41
  go_wp2_with fail
  refine (refCheck_all _ _ _ _).mono ?_
  rintro e w1 ⟨rfl, hb⟩
  rw [show ((⟨#[]⟩ : ByteArray).size : Int) = 0 from rfl, H.out]
  replace HB := Aside.mk (bl_step HB.out hb)
  obtain ⟨b0, b1, b2, b3, b4, b5⟩ := blk3 (K1.out.below hb (by simp; omega))
  obtain ⟨a0, a1, a2, a3, a4, a5⟩ := blk3 (K2.out.below hb (by simp))
  clear hb K1 K2
  go_wp2_with fail
  refine bodyPost_ret (v := .tuple #[.agg #[.int .i64 lg, .bool false, .int .u32 0], .int .i64 0]) (by simp [results, Try.results41, go_sem, a0, a1, a2]) rfl ⟨rfl, ?_⟩
  exact (by repeat (first | exact HB.out | apply bl_alloc | apply bl_drewN | apply bl_drew | (refine bl_set ?_ (by first | omega | (simp; omega) | simp) _)))

set_option maxRecDepth 100000 in
set_option maxHeartbeats 2000000 in
theorem refHead_some (lv lg : Int) (s : ByteArray) (w : World) (h : chk lv lg s.size = 0) (hs0 : 0 < s.size) (hs : s.size ≤ 140737488351232) :
    Calls Try.prog 41 #[.agg #[.int .i64 lv, .int .i64 lg, .string s]] w fun e w' => e = .returned (.tuple #[.agg #[.int .i64 lg, .bool true, .int .u32 (addS 1 s)], .int .i64 0]) ∧ Below w.heap.size w w' := by
  have HB := Aside.mk (bl_alloc (bl_alloc (Below.refl w.heap.size w) (.cells #[.int .i64 lv, .int .i64 lg, .string s] 50)) (.cells #[.int .i64 0, .bool false, .int .u32 0] 58))
  have K1 := Aside.mk ((Blk.new w 50 #[.int .i64 lv, .int .i64 lg, .string s]).alloc (.cells #[.int .i64 0, .bool false, .int .u32 0] 58))
  have K2 := Aside.mk (blk_second w (.cells #[.int .i64 lv, .int .i64 lg, .string s] 50) 58 #[.int .i64 0, .bool false, .int .u32 0])
  have H := Aside.mk h
  have hne := nonempty_list s hs0
  clear h
  go_enter Try.func41, Try.ntmps41
  go_wp2_with fail
  refine (refCheck_all _ _ _ _).mono ?_
  rintro e w1 ⟨rfl, hb⟩
  rw [H.out]
  replace HB := Aside.mk (bl_step HB.out hb)
  obtain ⟨b0, b1, b2, b3, b4, b5⟩ := blk3 (K1.out.below hb (by simp; omega))
  obtain ⟨a0, a1, a2, a3, a4, a5⟩ := blk3 (K2.out.below hb (by simp))
  clear hb K1 K2
  go_wp2_with fail
  go_region_with (go_at_call 72; refine (refSum_any _ _ hs).mono ?_; rintro e w' ⟨rfl, rfl⟩)
  all_goals (go_wp2_with fail; refine bodyPost_ret (v := .tuple #[.agg #[.int .i64 lg, .bool true, .int .u32 (addS 1 s)], .int .i64 0]) (by simp [results, Try.results41, go_sem, a0, a1, a2]) rfl ⟨rfl, ?_⟩; exact (by repeat (first | exact HB.out | apply bl_alloc | apply bl_drewN | apply bl_drew | (refine bl_set ?_ (by first | omega | (simp; omega) | simp) _))))

end Go.Proofs.Ytjmenlffhoodeab
