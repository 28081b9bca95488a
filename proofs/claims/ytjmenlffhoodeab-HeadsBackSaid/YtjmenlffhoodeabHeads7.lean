/- What heads' ReadBlock and the reference's compute, walked. -/
import Derived.Test.YtjmenlffhoodeabHeads5
import Derived.Deep.RegionWith
import Derived.StillTactics
namespace Go.Proofs.Ytjmenlffhoodeab
open Go.RowKit
set_option linter.unusedSimpArgs false

def aOf (s : ByteArray) : Int := byt s 1 + byt s 2 * 256 + 1
def bOf (s : ByteArray) : Int := byt s 3 + byt s 4 * 256 + 1
def rb (s : ByteArray) : Int × Int × Int × ByteArray × Int :=
  if s.size = 0 then (0, 0, 0, ⟨#[]⟩, 3) else if byt s 0 = 0 then (0, 0, 0, s.extract 1 s.size, 0)
  else if 2 < byt s 0 then (0, 0, 0, ⟨#[]⟩, 16) else if s.size < 5 then (0, 0, 0, ⟨#[]⟩, 3)
  else if mayS (byt s 0) (aOf s) (bOf s) = true then (byt s 0, aOf s, bOf s, s.extract 5 s.size, 0) else (0, 0, 0, ⟨#[]⟩, 16)
def rbV (t : Int × Int × Int × ByteArray × Int) : Value := .tuple #[.agg #[.int .i64 t.1, .int .i64 t.2.1, .int .i64 t.2.2.1], .string t.2.2.2.1, .int .i64 t.2.2.2.2]

set_option maxRecDepth 100000 in
set_option maxHeartbeats 2000000 in
theorem readBlock_short (s : ByteArray) (w : World) (h : s.size < 5 ∨ byt s 0 = 0 ∨ 2 < byt s 0) : Calls Try.prog 51 #[.string s] w fun e w' => e = .returned (rbV (rb s)) ∧ Below w.heap.size w w' := by
  have HB := Aside.mk (bl_alloc (Below.refl w.heap.size w) (.cells #[.int .i64 0, .int .i64 0, .int .i64 0] 68))
  obtain ⟨a0, a1, a2, a3, a4, a5⟩ := blk6 (Blk.new w 68 #[.int .i64 0, .int .i64 0, .int .i64 0])
  by_cases h0 : s.size = 0
  · have HE : Aside (rb s = (0, 0, 0, ⟨#[]⟩, 3)) := ⟨by unfold rb; rw [if_pos h0]⟩
    obtain rfl : s = ⟨#[]⟩ := by apply ByteArray.ext; apply Array.eq_empty_of_size_eq_zero; exact h0
    clear h
    go_enter Try.func51, Try.ntmps51
    go_wp2_with fail
    refine bodyPost_ret (v := rbV (0, 0, 0, ⟨#[]⟩, 3)) (by simp [results, Try.results51, go_sem, a0, a1, a2, rbV]) rfl ⟨by rw [HE.out], ?_⟩
    exact (by repeat (first | exact HB.out | apply bl_alloc | apply bl_drewN | apply bl_drew | (refine bl_set ?_ (by first | omega | (simp; omega) | simp) _)))
  · have g0 := run_idx (P := Try.prog) 9 s .i64 0 0 rfl (by omega) Try.underlying9
    have hne : ¬ s = ByteArray.empty := fun h => by rw [h] at h0; simp at h0
    have hs0 : (0 : Int) < s.size := by omega
    have hs1 : (1 : Int) ≤ s.size := by omega
    have c0 := byt_bd s 0
    by_cases hz : byt s 0 = 0
    · have HE : Aside (rb s = (0, 0, 0, s.extract 1 s.size, 0)) := ⟨by unfold rb; rw [if_neg h0, if_pos hz]⟩
      rw [hz] at g0
      clear h c0 hz
      go_enter Try.func51, Try.ntmps51
      go_wp2_with fail
      go_region
      go_wp2_with fail
      refine bodyPost_ret (v := rbV (0, 0, 0, s.extract 1 s.size, 0)) (by simp [results, Try.results51, go_sem, a0, a1, a2, rbV]) rfl ⟨by rw [HE.out], ?_⟩
      exact (by repeat (first | exact HB.out | apply bl_alloc | apply bl_drewN | apply bl_drew | (refine bl_set ?_ (by first | omega | (simp; omega) | simp) _)))
    · have hz2 : (byt s 0 == 0) = false := by simpa using hz
      by_cases h2 : 2 < byt s 0
      · have HE : Aside (rb s = (0, 0, 0, ⟨#[]⟩, 16)) := ⟨by unfold rb; rw [if_neg h0, if_neg hz, if_pos h2]⟩
        clear h hz
        go_enter Try.func51, Try.ntmps51
        go_wp2_with fail
        refine bodyPost_ret (v := rbV (0, 0, 0, ⟨#[]⟩, 16)) (by simp [results, Try.results51, go_sem, a0, a1, a2, rbV]) rfl ⟨by rw [HE.out], ?_⟩
        exact (by repeat (first | exact HB.out | apply bl_alloc | apply bl_drewN | apply bl_drew | (refine bl_set ?_ (by first | omega | (simp; omega) | simp) _)))
      · have h5 : s.size < 5 := by omega
        have HE : Aside (rb s = (0, 0, 0, ⟨#[]⟩, 3)) := ⟨by unfold rb; rw [if_neg h0, if_neg hz, if_neg h2, if_pos h5]⟩
        clear h hz
        go_enter Try.func51, Try.ntmps51
        go_wp2_with fail
        refine bodyPost_ret (v := rbV (0, 0, 0, ⟨#[]⟩, 3)) (by simp [results, Try.results51, go_sem, a0, a1, a2, rbV]) rfl ⟨by rw [HE.out], ?_⟩
        exact (by repeat (first | exact HB.out | apply bl_alloc | apply bl_drewN | apply bl_drew | (refine bl_set ?_ (by first | omega | (simp; omega) | simp) _)))

set_option maxRecDepth 100000 in
set_option maxHeartbeats 2000000 in
theorem refReadBlock_short (s : ByteArray) (w : World) (h : s.size < 5 ∨ byt s 0 = 0 ∨ 2 < byt s 0) : Calls Try.prog 52 #[.string s] w fun e w' => e = .returned (rbV (rb s)) ∧ Below w.heap.size w w' := by
  have HB := Aside.mk (bl_alloc (Below.refl w.heap.size w) (.cells #[.int .i64 0, .int .i64 0, .int .i64 0] 68))
  obtain ⟨a0, a1, a2, a3, a4, a5⟩ := blk6 (Blk.new w 68 #[.int .i64 0, .int .i64 0, .int .i64 0])
  by_cases h0 : s.size = 0
  · have HE : Aside (rb s = (0, 0, 0, ⟨#[]⟩, 3)) := ⟨by unfold rb; rw [if_pos h0]⟩
    obtain rfl : s = ⟨#[]⟩ := by apply ByteArray.ext; apply Array.eq_empty_of_size_eq_zero; exact h0
    clear h
    go_enter Try.func52, Try.ntmps52
    go_wp2_with fail
    refine bodyPost_ret (v := rbV (0, 0, 0, ⟨#[]⟩, 3)) (by simp [results, Try.results52, go_sem, a0, a1, a2, rbV]) rfl ⟨by rw [HE.out], ?_⟩
    exact (by repeat (first | exact HB.out | apply bl_alloc | apply bl_drewN | apply bl_drew | (refine bl_set ?_ (by first | omega | (simp; omega) | simp) _)))
  · have g0 := run_idx (P := Try.prog) 9 s .i64 0 0 rfl (by omega) Try.underlying9
    have hne : ¬ s = ByteArray.empty := fun h => by rw [h] at h0; simp at h0
    have hs0 : (0 : Int) < s.size := by omega
    have hs1 : (1 : Int) ≤ s.size := by omega
    have c0 := byt_bd s 0
    by_cases hz : byt s 0 = 0
    · have HE : Aside (rb s = (0, 0, 0, s.extract 1 s.size, 0)) := ⟨by unfold rb; rw [if_neg h0, if_pos hz]⟩
      rw [hz] at g0
      clear h c0 hz
      go_enter Try.func52, Try.ntmps52
      go_wp2_with fail
      go_region
      go_wp2_with fail
      refine bodyPost_ret (v := rbV (0, 0, 0, s.extract 1 s.size, 0)) (by simp [results, Try.results52, go_sem, a0, a1, a2, rbV]) rfl ⟨by rw [HE.out], ?_⟩
      exact (by repeat (first | exact HB.out | apply bl_alloc | apply bl_drewN | apply bl_drew | (refine bl_set ?_ (by first | omega | (simp; omega) | simp) _)))
    · have hz2 : (byt s 0 == 0) = false := by simpa using hz
      by_cases h2 : 2 < byt s 0
      · have HE : Aside (rb s = (0, 0, 0, ⟨#[]⟩, 16)) := ⟨by unfold rb; rw [if_neg h0, if_neg hz, if_pos h2]⟩
        clear h hz
        go_enter Try.func52, Try.ntmps52
        go_wp2_with fail
        refine bodyPost_ret (v := rbV (0, 0, 0, ⟨#[]⟩, 16)) (by simp [results, Try.results52, go_sem, a0, a1, a2, rbV]) rfl ⟨by rw [HE.out], ?_⟩
        exact (by repeat (first | exact HB.out | apply bl_alloc | apply bl_drewN | apply bl_drew | (refine bl_set ?_ (by first | omega | (simp; omega) | simp) _)))
      · have h5 : s.size < 5 := by omega
        have HE : Aside (rb s = (0, 0, 0, ⟨#[]⟩, 3)) := ⟨by unfold rb; rw [if_neg h0, if_neg hz, if_neg h2, if_pos h5]⟩
        clear h hz
        go_enter Try.func52, Try.ntmps52
        go_wp2_with fail
        refine bodyPost_ret (v := rbV (0, 0, 0, ⟨#[]⟩, 3)) (by simp [results, Try.results52, go_sem, a0, a1, a2, rbV]) rfl ⟨by rw [HE.out], ?_⟩
        exact (by repeat (first | exact HB.out | apply bl_alloc | apply bl_drewN | apply bl_drew | (refine bl_set ?_ (by first | omega | (simp; omega) | simp) _)))

theorem blkS (w : World) (o : Obj) (t : TypeId) (cs : Array Value) : Blk ((w.alloc o).alloc (.cells cs t)) (w.heap.size + 1) t cs := by
  have := Blk.new (w.alloc o) t cs
  simpa using this
theorem rb_or (s : ByteArray) : bits .or .i64 (byt s 1) (byt s 2 * 256) = byt s 1 + byt s 2 * 256 ∧ bits .or .i64 (byt s 3) (byt s 4 * 256) = byt s 3 + byt s 4 * 256 := by
  have h1 := byt_bd s 1
  have h2 := byt_bd s 2
  have h3 := byt_bd s 3
  have h4 := byt_bd s 4
  exact ⟨i64_or8 _ _ h1.1 (by omega) h2.1 (by omega), i64_or8 _ _ h3.1 (by omega) h4.1 (by omega)⟩
set_option maxRecDepth 100000 in
set_option maxHeartbeats 2000000 in
theorem readBlock_long (s : ByteArray) (w : World) (h5 : 5 ≤ s.size) (hz : byt s 0 ≠ 0) (h2 : byt s 0 ≤ 2) (m : Bool) (hm : mayS (byt s 0) (aOf s) (bOf s) = m) : Calls Try.prog 51 #[.string s] w fun e w' => e = .returned (rbV (rb s)) ∧ Below w.heap.size w w' := by
  have HB := Aside.mk (bl_alloc (Below.refl w.heap.size w) (.cells #[.int .i64 0, .int .i64 0, .int .i64 0] 68))
  have K1 := Aside.mk (Blk.new w 68 #[.int .i64 0, .int .i64 0, .int .i64 0])
  obtain ⟨p1, p2⟩ := rb_or s
  have HE : Aside (rb s = if m = true then (byt s 0, aOf s, bOf s, s.extract 5 s.size, 0) else (0, 0, 0, ⟨#[]⟩, 16)) := ⟨by unfold rb; rw [if_neg (by omega), if_neg hz, if_neg (by omega), if_neg (by omega), hm]⟩
  have HM := Aside.mk hm
  clear hm
  have g0 := run_idx (P := Try.prog) 9 s .i64 0 0 rfl (by omega) Try.underlying9
  have g1 := run_idx (P := Try.prog) 9 s .i64 1 1 rfl (by omega) Try.underlying9
  have g2 := run_idx (P := Try.prog) 9 s .i64 2 2 rfl (by omega) Try.underlying9
  have g3 := run_idx (P := Try.prog) 9 s .i64 3 3 rfl (by omega) Try.underlying9
  have g4 := run_idx (P := Try.prog) 9 s .i64 4 4 rfl (by omega) Try.underlying9
  have hne : ¬ s = ByteArray.empty := fun h => by rw [h] at h5; simp at h5
  have hs0 : (5 : Int) ≤ s.size := by omega
  have c0 := byt_bd s 0
  have c1 := byt_bd s 1
  have c2 := byt_bd s 2
  have c3 := byt_bd s 3
  have c4 := byt_bd s 4
  have hz2 : (byt s 0 == 0) = false := by simpa using hz
  go_enter Try.func51, Try.ntmps51
  go_wp2_with fail
  go_region
  have K2 := Aside.mk ((blkS w (.cells #[.int .i64 0, .int .i64 0, .int .i64 0] 68) 68 #[.int .i64 (byt s 0), .int .i64 (byt s 1 + byt s 2 * 256), .int .i64 (byt s 3 + byt s 4 * 256)]).drew)
  replace K1 := Aside.mk ((K1.out.alloc (.cells #[.int .i64 (byt s 0), .int .i64 (byt s 1 + byt s 2 * 256), .int .i64 (byt s 3 + byt s 4 * 256)] 68)).drew)
  replace HB := Aside.mk (bl_drew (bl_alloc HB.out (.cells #[.int .i64 (byt s 0), .int .i64 (byt s 1 + byt s 2 * 256), .int .i64 (byt s 3 + byt s 4 * 256)] 68)))
  generalize hW : World.drew _ = w2 at *
  clear hW
  obtain ⟨d0, d1, d2, d3, d4, d5⟩ := blk6 K2.out
  replace HB := Aside.mk (bl_set (bl_set HB.out (p := ⟨w.heap.size + 1, 1, none⟩) (by simp) (.int .i64 (byt s 1 + byt s 2 * 256 + 1))) (p := ⟨w.heap.size + 1, 2, none⟩) (by simp) (.int .i64 (byt s 3 + byt s 4 * 256 + 1)))
  replace K1 := Aside.mk ((K1.out.far (p := ⟨w.heap.size + 1, 1, none⟩) (by simp) (.int .i64 (byt s 1 + byt s 2 * 256 + 1))).far (p := ⟨w.heap.size + 1, 2, none⟩) (by simp) (.int .i64 (byt s 3 + byt s 4 * 256 + 1)))
  replace K2 := Aside.mk ((K2.out.set_ 1 (.int .i64 (byt s 1 + byt s 2 * 256 + 1))).set_ 2 (.int .i64 (byt s 3 + byt s 4 * 256 + 1)))
  go_wp2_with fail
  refine (may_any _ _ _ _).mono ?_
  rintro e w3 ⟨rfl, hb⟩
  rw [show mayS (byt s 0) (byt s 1 + byt s 2 * 256 + 1) (byt s 3 + byt s 4 * 256 + 1) = m from HM.out]
  replace HB := Aside.mk (bl_step HB.out hb)
  have L1 : Blk w3 w.heap.size 68 #[.int .i64 0, .int .i64 0, .int .i64 0] := K1.out.below hb K1.out.lt
  have L2 : Blk w3 (w.heap.size + 1) 68 #[.int .i64 (byt s 0), .int .i64 (byt s 1 + byt s 2 * 256 + 1), .int .i64 (byt s 3 + byt s 4 * 256 + 1)] := K2.out.below hb K2.out.lt
  clear hb d0 d1 d2 d3 d4 d5 K1 K2
  obtain ⟨a0, a1, a2, a3, a4, a5⟩ := blk6 L1
  obtain ⟨d0, d1, d2, d3, d4, d5⟩ := blk6 L2
  cases m
  · go_wp2_with fail
    refine bodyPost_ret (v := rbV (0, 0, 0, ⟨#[]⟩, 16)) (by simp [results, Try.results51, go_sem, a0, a1, a2, rbV, aOf, bOf]) rfl ⟨by rw [HE.out]; rfl, ?_⟩
    exact (by repeat (first | exact HB.out | apply bl_alloc | apply bl_drewN | apply bl_drew | (refine bl_set ?_ (by first | omega | (simp; omega) | simp) _)))
  · go_wp2_with fail
    go_region
    go_wp2_with fail
    refine bodyPost_ret (v := rbV (byt s 0, aOf s, bOf s, s.extract 5 s.size, 0)) (by simp [results, Try.results51, go_sem, a0, a1, a2, rbV, aOf, bOf]) rfl ⟨by rw [HE.out]; rfl, ?_⟩
    exact (by repeat (first | exact HB.out | apply bl_alloc | apply bl_drewN | apply bl_drew | (refine bl_set ?_ (by first | omega | (simp; omega) | simp) _)))

theorem readBlock_all (s : ByteArray) (w : World) : Calls Try.prog 51 #[.string s] w fun e w' => e = .returned (rbV (rb s)) ∧ Below w.heap.size w w' := by
  by_cases h : s.size < 5 ∨ byt s 0 = 0 ∨ 2 < byt s 0
  · exact readBlock_short s w h
  · exact readBlock_long s w (by omega) (by omega) (by omega) _ rfl
theorem accN_two (s : ByteArray) (o : Nat) (h : o + 2 ≤ s.size) : accN (s.extract o (o + 2)) (s.extract o (o + 2)).size = byt s o + byt s (o + 1) * 256 ∧ (s.extract o (o + 2)).size = 2 := by
  have z : (s.extract o (o + 2)).size = 2 := by simp; omega
  have e0 := byt_extract s o 2 0 (by omega) h
  have e1 := byt_extract s o 2 1 (by omega) h
  refine ⟨?_, z⟩
  rw [z]
  simp only [accN, z]
  simp at e0 e1
  simp only [e0, e1]
  omega
end Go.Proofs.Ytjmenlffhoodeab
