/- What the reference's Read computes, walked. -/
import Derived.Test.YtjmenlffhoodeabHeads5
import Derived.Deep.RegionWith
namespace Go.Proofs.Ytjmenlffhoodeab
open Go.RowKit
set_option linter.unusedSimpArgs false

theorem accN_id (s : ByteArray) (h : 9 ≤ s.size) : accN (s.extract 5 9) (s.extract 5 9).size = idS s 4 ∧ 0 ≤ idS s 4 ∧ idS s 4 ≤ 4294967295 ∧ (s.extract 5 9).size = 4 := by
  have z : (s.extract 5 9).size = 4 := by simp; omega
  have e : ∀ i, i < 4 → byt (s.extract 5 9) i = byt s (5 + i) := fun i hi => by
    have := byt_extract s 5 4 i hi (by omega)
    simpa using this
  have e0 := e 0 (by omega)
  have e1 := e 1 (by omega)
  have e2 := e 2 (by omega)
  have e3 := e 3 (by omega)
  have b0 := byt_bd s 5
  have b1 := byt_bd s 6
  have b2 := byt_bd s 7
  have b3 := byt_bd s 8
  rw [z]
  simp only [accN, idS, z]
  simp at e0 e1 e2 e3
  simp only [e0, e1, e2, e3]
  refine ⟨?_, ?_, ?_, trivial⟩ <;> omega

theorem wrap_u32_in (n : Int) (h0 : 0 ≤ n) (h1 : n ≤ 4294967295) : IntKind.u32.wrap n = n := by rw [IntKind.wrap_u32]; omega
def magFirst (s : ByteArray) (k : Nat) : Prop := (0 < k → byt s 0 = 71) ∧ (1 < k → byt s 1 = 76) ∧ (2 < k → byt s 2 = 68) ∧ (3 < k → byt s 3 = 49)

set_option maxRecDepth 100000 in
set_option maxHeartbeats 2000000 in
theorem refRead_all (s : ByteArray) (w : World) : Calls Try.prog 50 #[.string s] w fun e w' => e = .returned (rdV (rd s)) ∧ Below w.heap.size w w' := by
  have HB := Aside.mk (bl_alloc (Below.refl w.heap.size w) (.cells #[.int .i64 0, .bool false, .int .u32 0] 58))
  have K1 := Aside.mk (Blk.new w 58 #[.int .i64 0, .bool false, .int .u32 0])
  go_enter Try.func50, Try.ntmps50
  go_wp2_with fail
  go_loopw [5] (fun i wr => ∃ k : Nat, k ≤ 4 ∧ k ≤ s.size ∧ i = .int .i64 k ∧ Aside (magFirst s k) ∧ Blk wr w.heap.size 58 #[.int .i64 0, .bool false, .int .u32 0] ∧ Below w.heap.size w wr) (fun i _ => 4 - (intOf i).toNat)
  case atStart => exact ⟨0, by omega, by omega, rfl, ⟨by unfold magFirst; omega⟩, K1.out, HB.out⟩
  case round =>
    obtain ⟨k, hk, hk2, rfl, M0, L1, hb⟩ := hrel
    clear HB K1
    have HB := Aside.mk hb
    clear hb
    obtain ⟨a0, a1, a2, a3, a4, a5⟩ := blk6 L1
    by_cases hk4 : k < 4
    · by_cases hks : k < s.size
      · obtain rfl | rfl | rfl | rfl : k = 0 ∨ k = 1 ∨ k = 2 ∨ k = 3 := by omega
        · have hne : ¬ s = ByteArray.empty := fun h => by rw [h] at hks; simp at hks
          have g1 := run_idx (P := Try.prog) 9 s .i64 0 0 rfl hks Try.underlying9
          have g2 : ∀ w, (Instr.index 9 (.string ⟨#[71, 76, 68, 49]⟩) (.int .i64 0)).run Try.prog w = .ok (.int .u8 71) w := run_idx (P := Try.prog) 9 ⟨#[71, 76, 68, 49]⟩ .i64 0 0 rfl (by decide) Try.underlying9
          by_cases hq : byt s 0 = 71
          · have M1 : Aside (magFirst s (0 + 1)) := ⟨by have := M0.out; unfold magFirst at this ⊢; omega⟩
            clear M0
            rw [hq] at g1
            go_wp2_with fail
            go_quiet (fail)
            go_wp2_with fail
            exact ⟨⟨0 + 1, by omega, by omega, rfl, M1, L1.drewN _, bl_drewN HB.out _⟩, by simp [intOf]⟩
          · have HE : Aside (rd s = (0, false, 0, ⟨#[]⟩, 11)) := ⟨by unfold rd; rw [if_pos (fun hh => hq (by have := hh; unfold hitM at this; omega))]⟩
            clear M0
            have hq2 : (byt s 0 == 71) = false := by simpa using hq
            go_wp2_with fail
            go_quiet (fail)
            go_wp2_with fail
            refine bodyPost_ret (v := rdV (0, false, 0, ⟨#[]⟩, 11)) (by simp [results, Try.results50, go_sem, a0, a1, a2, rdV]) rfl ⟨by rw [HE.out], ?_⟩
            exact (by repeat (first | exact HB.out | apply bl_alloc | apply bl_drewN | apply bl_drew | (refine bl_set ?_ (by first | omega | (simp; omega) | simp) _)))
        · have g1 := run_idx (P := Try.prog) 9 s .i64 1 1 rfl hks Try.underlying9
          have g2 : ∀ w, (Instr.index 9 (.string ⟨#[71, 76, 68, 49]⟩) (.int .i64 1)).run Try.prog w = .ok (.int .u8 76) w := run_idx (P := Try.prog) 9 ⟨#[71, 76, 68, 49]⟩ .i64 1 1 rfl (by decide) Try.underlying9
          by_cases hq : byt s 1 = 76
          · have M1 : Aside (magFirst s (1 + 1)) := ⟨by have := M0.out; unfold magFirst at this ⊢; omega⟩
            clear M0
            rw [hq] at g1
            go_wp2_with fail
            go_quiet (fail)
            go_wp2_with fail
            exact ⟨⟨1 + 1, by omega, by omega, rfl, M1, L1.drewN _, bl_drewN HB.out _⟩, by simp [intOf]⟩
          · have HE : Aside (rd s = (0, false, 0, ⟨#[]⟩, 11)) := ⟨by unfold rd; rw [if_pos (fun hh => hq (by have := hh; unfold hitM at this; omega))]⟩
            clear M0
            have hq2 : (byt s 1 == 76) = false := by simpa using hq
            go_wp2_with fail
            go_quiet (fail)
            go_wp2_with fail
            refine bodyPost_ret (v := rdV (0, false, 0, ⟨#[]⟩, 11)) (by simp [results, Try.results50, go_sem, a0, a1, a2, rdV]) rfl ⟨by rw [HE.out], ?_⟩
            exact (by repeat (first | exact HB.out | apply bl_alloc | apply bl_drewN | apply bl_drew | (refine bl_set ?_ (by first | omega | (simp; omega) | simp) _)))
        · have g1 := run_idx (P := Try.prog) 9 s .i64 2 2 rfl hks Try.underlying9
          have g2 : ∀ w, (Instr.index 9 (.string ⟨#[71, 76, 68, 49]⟩) (.int .i64 2)).run Try.prog w = .ok (.int .u8 68) w := run_idx (P := Try.prog) 9 ⟨#[71, 76, 68, 49]⟩ .i64 2 2 rfl (by decide) Try.underlying9
          by_cases hq : byt s 2 = 68
          · have M1 : Aside (magFirst s (2 + 1)) := ⟨by have := M0.out; unfold magFirst at this ⊢; omega⟩
            clear M0
            rw [hq] at g1
            go_wp2_with fail
            go_quiet (fail)
            go_wp2_with fail
            exact ⟨⟨2 + 1, by omega, by omega, rfl, M1, L1.drewN _, bl_drewN HB.out _⟩, by simp [intOf]⟩
          · have HE : Aside (rd s = (0, false, 0, ⟨#[]⟩, 11)) := ⟨by unfold rd; rw [if_pos (fun hh => hq (by have := hh; unfold hitM at this; omega))]⟩
            clear M0
            have hq2 : (byt s 2 == 68) = false := by simpa using hq
            go_wp2_with fail
            go_quiet (fail)
            go_wp2_with fail
            refine bodyPost_ret (v := rdV (0, false, 0, ⟨#[]⟩, 11)) (by simp [results, Try.results50, go_sem, a0, a1, a2, rdV]) rfl ⟨by rw [HE.out], ?_⟩
            exact (by repeat (first | exact HB.out | apply bl_alloc | apply bl_drewN | apply bl_drew | (refine bl_set ?_ (by first | omega | (simp; omega) | simp) _)))
        · have g1 := run_idx (P := Try.prog) 9 s .i64 3 3 rfl hks Try.underlying9
          have g2 : ∀ w, (Instr.index 9 (.string ⟨#[71, 76, 68, 49]⟩) (.int .i64 3)).run Try.prog w = .ok (.int .u8 49) w := run_idx (P := Try.prog) 9 ⟨#[71, 76, 68, 49]⟩ .i64 3 3 rfl (by decide) Try.underlying9
          by_cases hq : byt s 3 = 49
          · have M1 : Aside (magFirst s (3 + 1)) := ⟨by have := M0.out; unfold magFirst at this ⊢; omega⟩
            clear M0
            rw [hq] at g1
            go_wp2_with fail
            go_quiet (fail)
            go_wp2_with fail
            exact ⟨⟨3 + 1, by omega, by omega, rfl, M1, L1.drewN _, bl_drewN HB.out _⟩, by simp [intOf]⟩
          · have HE : Aside (rd s = (0, false, 0, ⟨#[]⟩, 11)) := ⟨by unfold rd; rw [if_pos (fun hh => hq (by have := hh; unfold hitM at this; omega))]⟩
            clear M0
            have hq2 : (byt s 3 == 49) = false := by simpa using hq
            go_wp2_with fail
            go_quiet (fail)
            go_wp2_with fail
            refine bodyPost_ret (v := rdV (0, false, 0, ⟨#[]⟩, 11)) (by simp [results, Try.results50, go_sem, a0, a1, a2, rdV]) rfl ⟨by rw [HE.out], ?_⟩
            exact (by repeat (first | exact HB.out | apply bl_alloc | apply bl_drewN | apply bl_drew | (refine bl_set ?_ (by first | omega | (simp; omega) | simp) _)))
      · obtain rfl : k = s.size := by omega
        have HE : Aside (rd s = (0, false, 0, ⟨#[]⟩, 3)) := ⟨by unfold rd; rw [if_neg (by have := M0.out; unfold magFirst at this; simp only [Classical.not_not]; unfold hitM; exact this), if_pos (by omega)]⟩
        clear M0
        go_wp2_with fail
        refine bodyPost_ret (v := rdV (0, false, 0, ⟨#[]⟩, 3)) (by simp [results, Try.results50, go_sem, a0, a1, a2, rdV]) rfl ⟨by rw [HE.out], ?_⟩
        exact (by repeat (first | exact HB.out | apply bl_alloc | apply bl_drewN | apply bl_drew | (refine bl_set ?_ (by first | omega | (simp; omega) | simp) _)))
    · obtain rfl : k = 4 := by omega
      have HH : Aside (hitM s) := ⟨by have := M0.out; unfold magFirst at this; unfold hitM; omega⟩
      clear M0
      by_cases h5 : s.size < 5
      · have HE : Aside (rd s = (0, false, 0, ⟨#[]⟩, 3)) := ⟨by unfold rd; rw [if_neg (by simpa using HH.out), if_pos h5]⟩
        go_wp2_with fail
        refine bodyPost_ret (v := rdV (0, false, 0, ⟨#[]⟩, 3)) (by simp [results, Try.results50, go_sem, a0, a1, a2, rdV]) rfl ⟨by rw [HE.out], ?_⟩
        exact (by repeat (first | exact HB.out | apply bl_alloc | apply bl_drewN | apply bl_drew | (refine bl_set ?_ (by first | omega | (simp; omega) | simp) _)))
      · have g1 := run_idx (P := Try.prog) 9 s .i64 4 4 rfl (by omega) Try.underlying9
        obtain ⟨c0, c1⟩ := byt_bd s 4
        have h5' : 5 ≤ (s.size : Int) := by omega
        by_cases hl : lgC (byt s 4) < 15 ∨ 26 < lgC (byt s 4)
        · have HE : Aside (rd s = (0, false, 0, ⟨#[]⟩, 12)) := ⟨by unfold rd; rw [if_neg (by simpa using HH.out), if_neg h5, if_pos hl]⟩
          clear HH
          unfold lgC at hl
          by_cases h64 : 64 ≤ byt s 4
          · clear hl
            go_wp2_with fail
            refine bodyPost_ret (v := rdV (0, false, 0, ⟨#[]⟩, 12)) (by simp [results, Try.results50, go_sem, a0, a1, a2, rdV]) rfl ⟨by rw [HE.out], ?_⟩
            exact (by repeat (first | exact HB.out | apply bl_alloc | apply bl_drewN | apply bl_drew | (refine bl_set ?_ (by first | omega | (simp; omega) | simp) _)))
          · have e : (if 32 ≤ byt s 4 ∧ byt s 4 < 64 then byt s 4 - 32 else byt s 4) = byt s 4 % 32 := by split <;> omega
            rw [e] at hl
            clear e
            by_cases h15 : byt s 4 % 32 < 15
            · clear hl
              go_wp2_with fail
              refine bodyPost_ret (v := rdV (0, false, 0, ⟨#[]⟩, 12)) (by simp [results, Try.results50, go_sem, a0, a1, a2, rdV]) rfl ⟨by rw [HE.out], ?_⟩
              exact (by repeat (first | exact HB.out | apply bl_alloc | apply bl_drewN | apply bl_drew | (refine bl_set ?_ (by first | omega | (simp; omega) | simp) _)))
            · have h26 : 26 < byt s 4 % 32 := by omega
              clear hl
              go_wp2_with fail
              refine bodyPost_ret (v := rdV (0, false, 0, ⟨#[]⟩, 12)) (by simp [results, Try.results50, go_sem, a0, a1, a2, rdV]) rfl ⟨by rw [HE.out], ?_⟩
              exact (by repeat (first | exact HB.out | apply bl_alloc | apply bl_drewN | apply bl_drew | (refine bl_set ?_ (by first | omega | (simp; omega) | simp) _)))
        · have h64 : byt s 4 < 64 := by unfold lgC at hl; split at hl <;> omega
          have e : lgC (byt s 4) = byt s 4 % 32 := by unfold lgC; split <;> omega
          rw [e] at hl
          have h15 : 15 ≤ byt s 4 % 32 := by omega
          have h26 : byt s 4 % 32 ≤ 26 := by omega
          by_cases h32 : byt s 4 < 32
          · have HE : Aside (rd s = (byt s 4 % 32, false, 0, s.extract 5 s.size, 0)) := ⟨by unfold rd; rw [if_neg (by simpa using HH.out), if_neg h5, if_neg (by rw [e]; omega), if_pos h32, e]⟩
            clear HH e hl
            go_wp2_with fail
            go_region
            go_wp2_with fail
            refine bodyPost_ret (v := rdV (byt s 4 % 32, false, 0, s.extract 5 s.size, 0)) (by simp [results, Try.results50, go_sem, a0, a1, a2, rdV]) rfl ⟨by rw [HE.out], ?_⟩
            exact (by repeat (first | exact HB.out | apply bl_alloc | apply bl_drewN | apply bl_drew | (refine bl_set ?_ (by first | omega | (simp; omega) | simp) _)))
          · by_cases h9 : s.size < 9
            · have HE : Aside (rd s = (0, false, 0, ⟨#[]⟩, 3)) := ⟨by unfold rd; rw [if_neg (by simpa using HH.out), if_neg h5, if_neg (by rw [e]; omega), if_neg h32, if_pos h9]⟩
              clear HH e hl
              go_wp2_with fail
              refine bodyPost_ret (v := rdV (0, false, 0, ⟨#[]⟩, 3)) (by simp [results, Try.results50, go_sem, a0, a1, a2, rdV]) rfl ⟨by rw [HE.out], ?_⟩
              exact (by repeat (first | exact HB.out | apply bl_alloc | apply bl_drewN | apply bl_drew | (refine bl_set ?_ (by first | omega | (simp; omega) | simp) _)))
            · have HE : Aside (rd s = (byt s 4 % 32, true, idS s 4, s.extract 9 s.size, 0)) := ⟨by unfold rd; rw [if_neg (by simpa using HH.out), if_neg h5, if_neg (by rw [e]; omega), if_neg h32, if_neg h9, e]⟩
              clear HH e hl
              obtain ⟨n0, n1, n2, n3⟩ := accN_id s (by omega)
              have e2 := wrap_u32_in (idS s 4) n1 n2
              have c76 : ∀ w, Calls Try.prog 76 #[.string (s.extract 5 9)] w fun e w' => e = .returned (.int .i64 (idS s 4)) ∧ w = w' := fun w => by rw [← n0]; exact number_any _ w (by omega)
              clear n0 n1 n2 n3
              have h9' : 9 ≤ (s.size : Int) := by omega
              go_wp2_with fail
              go_region_with (go_at_call 76; with_reducible refine (c76 _).mono ?_; rintro e w' ⟨rfl, rfl⟩)
              all_goals (go_wp2_with fail; refine bodyPost_ret (v := rdV (byt s 4 % 32, true, idS s 4, s.extract 9 s.size, 0)) (by simp [results, Try.results50, go_sem, a0, a1, a2, rdV]) rfl ⟨by rw [HE.out], ?_⟩; exact (by repeat (first | exact HB.out | apply bl_alloc | apply bl_drewN | apply bl_drew | (refine bl_set ?_ (by first | omega | (simp; omega) | simp) _))))
end Go.Proofs.Ytjmenlffhoodeab
