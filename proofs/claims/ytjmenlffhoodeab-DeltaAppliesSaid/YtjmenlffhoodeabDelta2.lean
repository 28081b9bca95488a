/- The noughts and the best differences, the reference's and the program's, walked. -/
import Derived.Test.YtjmenlffhoodeabDelta
namespace Go.Proofs.Ytjmenlffhoodeab
open Go.RowKit

set_option maxRecDepth 100000 in
set_option maxHeartbeats 1000000 in
theorem refNoughts_any (s : ByteArray) (w : World) (hs : s.size ≤ 1000000) :
    Calls Try.prog 58 #[.string s] w fun e w' => e = .returned (.int .i64 (zs s s.size)) ∧ w = w' := by
  go_enter Try.func58, Try.ntmps58
  go_wp2_with fail
  go_loop [3, 4] (fun n i => ∃ k : Nat, k ≤ s.size ∧ i = .int .i64 k ∧ n = .int .i64 (zs s k)) (fun _ i => s.size - (intOf i).toNat)
  case atStart => exact ⟨0, by omega, rfl, rfl⟩
  case round =>
    obtain ⟨k, hk, rfl, rfl⟩ := hrel
    have hz := zs_le s k
    by_cases hlt : k < s.size
    · have g0 := run_idx (P := Try.prog) 9 s .i64 (k : Int) k rfl hlt Try.underlying9
      by_cases hb : byt s k = 0
      · have hb' : (byt s k == 0) = true := by simp [hb]
        have HE : Aside (zs s (k + 1) = zs s k + 1) := ⟨by simp [zs, hb]⟩
        clear hb
        go_wp2
        exact ⟨⟨k + 1, by omega, by go_num, congrArg _ (by rw [HE.out]; omega)⟩, by simp [intOf]; omega⟩
      · have hb' : (byt s k == 0) = false := by simp [hb]
        have HE : Aside (zs s (k + 1) = zs s k) := ⟨by simp [zs, hb]⟩
        clear hb
        go_wp2
        exact ⟨⟨k + 1, by omega, by go_num, congrArg _ (by rw [HE.out])⟩, by simp [intOf]; omega⟩
    · obtain rfl : k = s.size := by omega
      go_wp2
      go_ret
      exact ⟨rfl, rfl⟩

set_option maxRecDepth 100000 in
set_option maxHeartbeats 1000000 in
theorem noughts_any (s : ByteArray) (d : Nat) (w : World) (hs : s.size ≤ 1000000) (hd : d ≤ 1000000) :
    Calls Try.prog 57 #[.string s, .int .i64 d] w fun e w' => e = .returned (.int .i64 (nz s d s.size)) ∧ Drawn w w' := by
  go_enter Try.func57, Try.ntmps57
  go_wp2_with fail
  go_loopw [5, 9] (fun n i wr => ∃ k : Nat, k ≤ s.size ∧ i = .int .i64 k ∧ n = .int .i64 (nz s d k) ∧ ∃ m, wr = w.drewN m) (fun _ i _ => s.size - (intOf i).toNat)
  case atStart => exact ⟨0, by omega, rfl, rfl, 0, rfl⟩
  case round =>
    obtain ⟨k, hk, rfl, rfl, nd, rfl⟩ := hrel
    have hz := nz_le s d k
    by_cases hlt : k < s.size
    · have g0 := run_idx (P := Try.prog) 9 s .i64 (k : Int) k rfl hlt Try.underlying9
      by_cases hlo : k < d
      · have h1 : decide ((k : Int) < d) = true := decide_eq_true (by omega)
        have h2 : decide ((d : Int) ≤ k) = false := decide_eq_false (by omega)
        have h3 : decide (d ≤ k) = false := decide_eq_false (by omega)
        have h4 : decide (k < d) = true := decide_eq_true (by omega)
        by_cases hb : byt s k = 0
        · have hb' : (byt s k == 0) = true := by simp [hb]
          have HE : Aside (nz s d (k + 1) = nz s d k + 1) := ⟨by simp only [nz]; rw [isNought_lo s d k hlo, hb]; rfl⟩
          clear hb
          go_wp2_with fail
          go_quiet (fail)
          clear g0
          go_wp2
          exact ⟨⟨k + 1, by omega, by go_num, congrArg _ (by rw [HE.out]; omega), _, rfl⟩, by simp [intOf]; omega⟩
        · have hb' : (byt s k == 0) = false := by simp [hb]
          have HE : Aside (nz s d (k + 1) = nz s d k) := ⟨by simp only [nz]; rw [isNought_lo s d k hlo, decide_eq_false hb]; rfl⟩
          clear hb
          go_wp2_with fail
          go_quiet (fail)
          clear g0
          go_wp2
          exact ⟨⟨k + 1, by omega, by go_num, congrArg _ (by rw [HE.out]), _, rfl⟩, by simp [intOf]; omega⟩
      · have h1 : decide ((k : Int) < d) = false := decide_eq_false (by omega)
        have h2 : decide ((d : Int) ≤ k) = true := decide_eq_true (by omega)
        have h3 : decide (k < d) = false := decide_eq_false (by omega)
        have h4 : decide (d ≤ k) = true := decide_eq_true (by omega)
        have g1 := run_idx (P := Try.prog) 9 s .i64 ((k : Int) - d) (k - d) (by omega) (by omega) Try.underlying9
        have e1 : IntKind.i64.wrap ((k : Int) - d) = (k : Int) - d := IntWalk.i64_in _ (by omega)
        by_cases hb : byt s k = byt s (k - d)
        · have hb' : (byt s k == byt s (k - d)) = true := by simp [hb]
          have HE : Aside (nz s d (k + 1) = nz s d k + 1) := ⟨by simp only [nz]; rw [isNought_hi s d k (by omega), decide_eq_true hb]; rfl⟩
          clear hb
          go_wp2_with fail
          go_quiet (fail)
          clear g0 g1 e1
          go_wp2
          exact ⟨⟨k + 1, by omega, by go_num, congrArg _ (by rw [HE.out]; omega), _, rfl⟩, by simp [intOf]; omega⟩
        · have hb' : (byt s k == byt s (k - d)) = false := by simp [hb]
          have HE : Aside (nz s d (k + 1) = nz s d k) := ⟨by simp only [nz]; rw [isNought_hi s d k (by omega), decide_eq_false hb]; rfl⟩
          clear hb
          go_wp2_with fail
          go_quiet (fail)
          clear g0 g1 e1
          go_wp2
          exact ⟨⟨k + 1, by omega, by go_num, congrArg _ (by rw [HE.out]), _, rfl⟩, by simp [intOf]; omega⟩
    · obtain rfl : k = s.size := by omega
      go_wp2
      go_ret
      exact ⟨rfl, _, rfl⟩
/-! ### Best -/
set_option maxRecDepth 100000 in
set_option maxHeartbeats 2000000 in
theorem refBest_any (s : ByteArray) (most : Int) (M : Nat) (w : World) (hs : s.size ≤ 300) (hM : (M : Int) = max 0 (min most 256)) :
    Calls Try.prog 21 #[.string s, .int .i64 most] w fun e w' => e = .returned (.int .i64 (bD s M)) ∧ Below w.heap.size w w' := by
  have HM := Aside.mk hM
  have hM2 : M ≤ 256 := by omega
  clear hM
  have hz0 : zs s s.size = bN s 0 := zs_all s s.size (Nat.le_refl _)
  have HZ := Aside.mk hz0
  clear hz0
  go_enter Try.func21, Try.ntmps21
  go_wp2_with (go_at_call 58; refine (refNoughts_any _ _ (by omega)).mono ?_; rintro e w' ⟨rfl, rfl⟩)
  rw [HZ.out]
  go_loopw [5, 6, 7] (fun b n d wr => ∃ m : Nat, m ≤ M ∧ d = .int .i64 (m + 1 : Nat) ∧ b = .int .i64 (bD s m) ∧ n = .int .i64 (bN s m) ∧ Below w.heap.size w wr) (fun _ _ d _ => M + 1 - (intOf d).toNat)
  case atStart => exact ⟨0, by omega, rfl, rfl, rfl, Below.refl _ _⟩
  case round =>
    obtain ⟨m, hm, rfl, rfl, rfl, hb⟩ := hrel
    have HB := Aside.mk hb
    clear hb
    have hn := bN_le s m
    have hd := bD_le s m
    have hzz := nz_le s (m + 1) s.size
    by_cases hlt : m < M
    · have h1 : decide (((m + 1 : Nat) : Int) ≤ most) = true := decide_eq_true (by have := HM.out; omega)
      have h2 : ((m + 1 : Nat) : Int) ≤ most := by have := HM.out; omega
      have h3 : ((m + 1 : Nat) : Int) ≤ 256 := by omega
      have HN : Aside (zs (difS s (m + 1)) (difS s (m + 1)).size = nz s (m + 1) s.size) := ⟨by rw [difS_size]; exact zs_dif s (m + 1) s.size (Nat.le_refl _)⟩
      go_wp2_with fail
      refine (refApply_in s (m + 1) _ (by omega) (by omega) (by omega)).mono ?_
      rintro e w2 ⟨rfl, hb⟩
      replace HB := Aside.mk (bl_step HB.out hb)
      clear hb
      go_wp2_with fail
      refine (refNoughts_any _ _ (by rw [difS_size]; omega)).mono ?_
      rintro e w3 ⟨rfl, rfl⟩
      rw [HN.out]
      by_cases hgt : bN s m < nz s (m + 1) s.size
      · have E1 : Aside (bN s (m + 1) = nz s (m + 1) s.size) := ⟨by simp only [bN]; rw [if_pos hgt]⟩
        have E2 : Aside (bD s (m + 1) = m + 1) := ⟨by simp only [bD]; rw [if_pos hgt]⟩
        go_wp2
        exact ⟨⟨m + 1, by omega, by go_num, congrArg _ (by rw [E2.out]; omega), congrArg _ (by rw [E1.out]), HB.out⟩, by simp [intOf]; omega⟩
      · have E1 : Aside (bN s (m + 1) = bN s m) := ⟨by simp only [bN]; rw [if_neg hgt]⟩
        have E2 : Aside (bD s (m + 1) = bD s m) := ⟨by simp only [bD]; rw [if_neg hgt]⟩
        go_wp2
        exact ⟨⟨m + 1, by omega, by go_num, congrArg _ (by rw [E2.out]), congrArg _ (by rw [E1.out]), HB.out⟩, by simp [intOf]; omega⟩
    · obtain rfl : m = M := by omega
      have hor := HM.out
      by_cases hmo : most < ((m + 1 : Nat) : Int)
      · clear hor
        go_wp2
        go_ret
        exact ⟨rfl, HB.out⟩
      · have h256 : (256 : Int) < ((m + 1 : Nat) : Int) := by omega
        have h2 : ((m + 1 : Nat) : Int) ≤ most := by omega
        clear hor hmo
        go_wp2
        go_ret
        exact ⟨rfl, HB.out⟩

set_option maxRecDepth 100000 in
set_option maxHeartbeats 2000000 in
theorem best_any (s : ByteArray) (most : Int) (M : Nat) (w : World) (hs : s.size ≤ 300) (hM : (M : Int) = max 0 (min most 256)) :
    Calls Try.prog 20 #[.string s, .int .i64 most] w fun e w' => e = .returned (.int .i64 (bD s M)) ∧ Below w.heap.size w w' := by
  have HM := Aside.mk hM
  have hM2 : M ≤ 256 := by omega
  clear hM
  have HZ : Aside (nz s s.size s.size = bN s 0) := ⟨rfl⟩
  go_enter Try.func20, Try.ntmps20
  go_wp2_with fail
  refine (noughts_any s s.size _ (by omega) (by omega)).mono ?_
  rintro e w1 ⟨rfl, n1, rfl⟩
  rw [HZ.out]
  go_wp2_with fail
  go_loopw [5, 6, 7] (fun b n d wr => ∃ m : Nat, m ≤ M ∧ d = .int .i64 (m + 1 : Nat) ∧ b = .int .i64 (bD s m) ∧ n = .int .i64 (bN s m) ∧ ∃ q, wr = w.drewN q) (fun _ _ d _ => M + 1 - (intOf d).toNat)
  case atStart => exact ⟨0, by omega, rfl, rfl, rfl, _, rfl⟩
  case round =>
    obtain ⟨m, hm, rfl, rfl, rfl, q, rfl⟩ := hrel
    have hn := bN_le s m
    have hd := bD_le s m
    have hzz := nz_le s (m + 1) s.size
    by_cases hlt : m < M
    · have h2 : ((m + 1 : Nat) : Int) ≤ most := by have := HM.out; omega
      have h3 : ((m + 1 : Nat) : Int) ≤ 256 := by omega
      by_cases hbig : (256 : Int) < most
      all_goals
        go_wp2_with fail
        refine (noughts_any s (m + 1) _ (by omega) (by omega)).mono ?_
        rintro e w3 ⟨rfl, n3, rfl⟩
        by_cases hgt : bN s m < nz s (m + 1) s.size
        · have E1 : Aside (bN s (m + 1) = nz s (m + 1) s.size) := ⟨by simp only [bN]; rw [if_pos hgt]⟩
          have E2 : Aside (bD s (m + 1) = m + 1) := ⟨by simp only [bD]; rw [if_pos hgt]⟩
          go_wp2
          exact ⟨⟨m + 1, by omega, by go_num, congrArg _ (by rw [E2.out]; omega), congrArg _ (by rw [E1.out]), _, rfl⟩, by simp [intOf]; omega⟩
        · have E1 : Aside (bN s (m + 1) = bN s m) := ⟨by simp only [bN]; rw [if_neg hgt]⟩
          have E2 : Aside (bD s (m + 1) = bD s m) := ⟨by simp only [bD]; rw [if_neg hgt]⟩
          go_wp2
          exact ⟨⟨m + 1, by omega, by go_num, congrArg _ (by rw [E2.out]), congrArg _ (by rw [E1.out]), _, rfl⟩, by simp [intOf]; omega⟩
    · obtain rfl : m = M := by omega
      by_cases hbig : (256 : Int) < most
      · have h5 : (256 : Int) < ((m + 1 : Nat) : Int) := by have := HM.out; omega
        go_wp2
        go_ret
        exact ⟨rfl, bl_drewN (Below.refl _ _) _⟩
      · have h5 : most < ((m + 1 : Nat) : Int) := by have := HM.out; omega
        go_wp2
        go_ret
        exact ⟨rfl, bl_drewN (Below.refl _ _) _⟩
end Go.Proofs.Ytjmenlffhoodeab
