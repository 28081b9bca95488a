/- What the reference's ReadBlock computes, walked to its end. -/
import Derived.Test.YtjmenlffhoodeabHeads7
import Derived.Deep.RegionHeld3
namespace Go.Proofs.Ytjmenlffhoodeab
open Go.RowKit
set_option linter.unusedSimpArgs false

set_option maxRecDepth 100000 in
set_option maxHeartbeats 8000000 in
theorem refReadBlock_long (s : ByteArray) (w : World) (h5 : 5 ≤ s.size) (hz : byt s 0 ≠ 0) (h2 : byt s 0 ≤ 2) (m : Bool) (hm : mayS (byt s 0) (aOf s) (bOf s) = m) : Calls Try.prog 52 #[.string s] w fun e w' => e = .returned (rbV (rb s)) ∧ Below w.heap.size w w' := by
  have HB := Aside.mk (bl_alloc (Below.refl w.heap.size w) (.cells #[.int .i64 0, .int .i64 0, .int .i64 0] 68))
  have K1 := Aside.mk (Blk.new w 68 #[.int .i64 0, .int .i64 0, .int .i64 0])
  have HE : Aside (rb s = if m = true then (byt s 0, aOf s, bOf s, s.extract 5 s.size, 0) else (0, 0, 0, ⟨#[]⟩, 16)) := ⟨by unfold rb; rw [if_neg (by omega), if_neg hz, if_neg (by omega), if_neg (by omega), hm]⟩
  have HM := Aside.mk hm
  clear hm
  have g0 := run_idx (P := Try.prog) 9 s .i64 0 0 rfl (by omega) Try.underlying9
  have hne : ¬ s = ByteArray.empty := fun h => by rw [h] at h5; simp at h5
  have hs0 : (5 : Int) ≤ s.size := by omega
  have hs3 : (3 : Int) ≤ s.size := by omega
  have e0 : IntKind.i64.wrap (byt s 0) = byt s 0 := IntWalk.i64_in _ (by have := byt_bd s 0; omega)
  have e1 : IntKind.i64.wrap (byt s 1 + byt s 2 * 256 + 1) = byt s 1 + byt s 2 * 256 + 1 := IntWalk.i64_in _ (by have := byt_bd s 1; have := byt_bd s 2; omega)
  have e2 : IntKind.i64.wrap (byt s 3 + byt s 4 * 256 + 1) = byt s 3 + byt s 4 * 256 + 1 := IntWalk.i64_in _ (by have := byt_bd s 3; have := byt_bd s 4; omega)
  have c0 := byt_bd s 0
  have c1 := byt_bd s 1
  have c2 := byt_bd s 2
  have c3 := byt_bd s 3
  have c4 := byt_bd s 4
  have hz2 : (byt s 0 == 0) = false := by simpa using hz
  have q1 : ∀ w, Calls Try.prog 76 #[.string (s.extract 1 3)] w fun e w' => e = .returned (.int .i64 (byt s 1 + byt s 2 * 256)) ∧ w = w' := fun w => by
    have k := accN_two s 1 (by omega)
    have z := k.2; simp only [show 1 + 2 = 3 from rfl, show 1 + 1 = 2 from rfl, show 3 + 2 = 5 from rfl, show 3 + 1 = 4 from rfl] at k z; rw [← k.1]; exact number_any _ w (by omega)
  have q2 : ∀ w, Calls Try.prog 76 #[.string (s.extract 3 5)] w fun e w' => e = .returned (.int .i64 (byt s 3 + byt s 4 * 256)) ∧ w = w' := fun w => by
    have k := accN_two s 3 (by omega)
    have z := k.2; simp only [show 1 + 2 = 3 from rfl, show 1 + 1 = 2 from rfl, show 3 + 2 = 5 from rfl, show 3 + 1 = 4 from rfl] at k z; rw [← k.1]; exact number_any _ w (by omega)
  go_enter Try.func52, Try.ntmps52
  go_wp2_with fail
  go_region_with (first | (go_at_call 76; with_reducible refine (q1 _).mono ?_; rintro e w' ⟨rfl, rfl⟩) | (go_at_call 76; with_reducible refine (q2 _).mono ?_; rintro e w' ⟨rfl, rfl⟩))
  all_goals
    clear e0 e1 e2 q1 q2
    generalize hW : World.drew _ = w2
    have K2 := Aside.mk (show Blk w2 (w.heap.size + 1) 68 #[.int .i64 (byt s 0), .int .i64 (byt s 1 + byt s 2 * 256 + 1), .int .i64 (byt s 3 + byt s 4 * 256 + 1)] by rw [← hW]; repeat (first | exact blkS w _ 68 _ | apply Blk.drew))
    replace K1 := Aside.mk (show Blk w2 w.heap.size 68 #[.int .i64 0, .int .i64 0, .int .i64 0] by rw [← hW]; repeat (first | exact K1.out | apply Blk.drew | apply Blk.alloc))
    replace HB := Aside.mk (show Below w.heap.size w w2 by rw [← hW]; repeat (first | exact HB.out | apply bl_drew | apply bl_alloc))
    clear hW
    obtain ⟨d0, d1, d2, d3, d4, d5⟩ := blk6 K2.out
    go_wp2_with fail
    refine (refMay_any _ _ _ _).mono ?_
    rintro e w3 ⟨rfl, hb⟩
    rw [show mayS (byt s 0) (byt s 1 + byt s 2 * 256 + 1) (byt s 3 + byt s 4 * 256 + 1) = m from HM.out]
    replace HB := Aside.mk (bl_step HB.out hb)
    have L1 : Blk w3 w.heap.size 68 #[.int .i64 0, .int .i64 0, .int .i64 0] := K1.out.below hb K1.out.lt
    have L2 : Blk w3 (w.heap.size + 1) 68 #[.int .i64 (byt s 0), .int .i64 (byt s 1 + byt s 2 * 256 + 1), .int .i64 (byt s 3 + byt s 4 * 256 + 1)] := K2.out.below hb K2.out.lt
    clear hb d0 d1 d2 d3 d4 d5 K1 K2
    obtain ⟨a0, a1, a2, a3, a4, a5⟩ := blk6 L1
    obtain ⟨d0, d1, d2, d3, d4, d5⟩ := blk6 L2
    cases m
    · go_wp2_with fail
      refine bodyPost_ret (v := rbV (0, 0, 0, ⟨#[]⟩, 16)) (by simp [results, Try.results52, go_sem, a0, a1, a2, rbV, aOf, bOf]) rfl ⟨by rw [HE.out]; rfl, ?_⟩
      exact (by repeat (first | exact HB.out | apply bl_alloc | apply bl_drewN | apply bl_drew | (refine bl_set ?_ (by first | omega | (simp; omega) | simp) _)))
    · go_wp2_with fail
      go_region
      go_wp2_with fail
      refine bodyPost_ret (v := rbV (byt s 0, aOf s, bOf s, s.extract 5 s.size, 0)) (by simp [results, Try.results52, go_sem, a0, a1, a2, rbV, aOf, bOf]) rfl ⟨by rw [HE.out]; rfl, ?_⟩
      exact (by repeat (first | exact HB.out | apply bl_alloc | apply bl_drewN | apply bl_drew | (refine bl_set ?_ (by first | omega | (simp; omega) | simp) _)))
theorem refReadBlock_all (s : ByteArray) (w : World) : Calls Try.prog 52 #[.string s] w fun e w' => e = .returned (rbV (rb s)) ∧ Below w.heap.size w w' := by
  by_cases h : s.size < 5 ∨ byt s 0 = 0 ∨ 2 < byt s 0
  · exact refReadBlock_short s w h
  · exact refReadBlock_long s w (by omega) (by omega) (by omega) _ rfl
end Go.Proofs.Ytjmenlffhoodeab
