/- What the reference's slots compute, walked. -/
import Derived.Test.YtjmenlffhoodeabSlots
namespace Go.Proofs.Ytjmenlffhoodeab
open Go.RowKit

set_option maxHeartbeats 400000 in
theorem extra_len (k : Nat) (w : World) (hk : k ≤ 1000) :
    Calls Try.prog 65 #[.int .i64 k] w fun e w' => e = .returned (.int .i64 (lb k)) ∧ w = w' := by
  by_cases h1 : k < 8
  · go_enter Try.func65, Try.ntmps65
    go_wp2
    go_ret
    exact ⟨ret_int (by simp [lb, h1]), rfl⟩
  · by_cases h2 : k = 28
    · subst h2
      go_enter Try.func65, Try.ntmps65
      go_wp2
      go_ret
      exact ⟨ret_int (by simp [lb]), rfl⟩
    · have h2' : ((k : Int) == 28) = false := by simp; omega
      go_enter Try.func65, Try.ntmps65
      go_wp2
      go_ret
      exact ⟨ret_int (by simp [lb, h1, h2]; omega), rfl⟩

set_option maxHeartbeats 400000 in
theorem base_len (k : Nat) (w : World) (hk : k < 29) :
    Calls Try.prog 64 #[.int .i64 k] w fun e w' => e = .returned (.int .i64 (bas lb 2 k)) ∧ w = w' := by
  go_enter Try.func64, Try.ntmps64
  go_wp2_with fail
  go_loop [3, 4] (fun a i => ∃ m : Nat, m ≤ k ∧ i = .int .i64 m ∧ a = .int .i64 (bas lb 2 m)) (fun _ i => k - (intOf i).toNat)
  case atStart => exact ⟨0, by omega, rfl, rfl⟩
  case round =>
    obtain ⟨m, hm, rfl, rfl⟩ := hrel
    by_cases hlt : m < k
    · obtain ⟨p, hp, _, hs, p1, p2, p3⟩ := bas_step lb 2 m 29 (by omega) (by have := lb_le m (by omega); omega)
      have hx := lb_le m (by omega)
      rw [bas_len] at p3
      have HS := Aside.mk hs
      clear hs
      go_wp2_with (go_at_call 65; refine (extra_len _ _ (by omega)).mono ?_; rintro e w' ⟨rfl, rfl⟩)
      go_round
      case rel => exact ⟨m + 1, by omega, by go_num, congrArg _ HS.out.symm⟩
      case measure => simp [intOf]; omega
    · obtain rfl : m = k := by omega
      go_wp2
      go_ret
      exact ⟨rfl, rfl⟩

set_option maxHeartbeats 400000 in
theorem ref_len_in (n : Int) (w : World) (h0 : 2 ≤ n) (h1 : n < 259) :
    Calls Try.prog 29 #[.int .i64 n] w fun e w' => e = .returned (.tuple #[.int .i64 (slotS lb 2 n 28), .int .i64 (lb (slotS lb 2 n 28)), .int .i64 (n - bas lb 2 (slotS lb 2 n 28)), .int .i64 0]) ∧ w = w' := by
  go_enter Try.func29, Try.ntmps29
  go_wp2_with fail
  go_loop [6] (fun i => ∃ k : Nat, k ≤ 28 ∧ i = .int .i64 k ∧ Aside (n < bas lb 2 (k + 1))) (fun i => (intOf i).toNat)
  case atStart => exact ⟨28, by omega, rfl, ⟨by rw [bas_len]; omega⟩⟩
  case round =>
    obtain ⟨k, hk, rfl, HN⟩ := hrel
    have hmo := bas_mono lb 2 0 k (by omega)
    have htop := bas_mono lb 2 k 29 (by omega)
    rw [bas_len] at htop
    have HB0 := Aside.mk hmo
    clear hmo
    by_cases ht : n < bas lb 2 k
    · have hk0 : 0 < k := by
        rcases Nat.eq_zero_or_pos k with h | h
        · subst h; simp [bas] at ht; omega
        · exact h
      have HT := Aside.mk ht
      go_wp2_with (go_at_call 64; refine (base_len _ _ (by omega)).mono ?_; rintro e w' ⟨rfl, rfl⟩)
      exact ⟨⟨k - 1, by omega, congrArg _ (by omega), ⟨by rw [show k - 1 + 1 = k from by omega]; exact HT.out⟩⟩, by simp [intOf]; omega⟩
    · have HK : Aside (k = slotS lb 2 n 28) := ⟨slotS_eq lb 2 n 28 k h0 (by rw [bas_len]; omega) (by omega) HN.out⟩
      have h2 : 2 ≤ bas lb 2 k := HB0.out
      go_wp2_with (first
        | (go_at_call 64; refine (base_len _ _ (by omega)).mono ?_; rintro e w' ⟨rfl, rfl⟩)
        | (go_at_call 65; refine (extra_len _ _ (by omega)).mono ?_; rintro e w' ⟨rfl, rfl⟩))
      refine bodyPost_ret (results_four rfl _ _ _) rfl ?_
      exact ⟨by rw [← HK.out]; rfl, rfl⟩
set_option maxHeartbeats 400000 in
theorem ref_len_out (n : Int) (w : World) (h0 : n < 2 ∨ 259 ≤ n) :
    Calls Try.prog 29 #[.int .i64 n] w fun e w' => e = .returned (.tuple #[.int .i64 0, .int .i64 0, .int .i64 0, .int .i64 2]) ∧ w = w' := by
  rcases h0 with h | h
  · go_enter Try.func29, Try.ntmps29
    go_wp2
    refine bodyPost_ret (results_four rfl _ _ _) rfl ?_
    exact ⟨rfl, rfl⟩
  · go_enter Try.func29, Try.ntmps29
    go_wp2
    refine bodyPost_ret (results_four rfl _ _ _) rfl ?_
    exact ⟨rfl, rfl⟩

set_option maxHeartbeats 400000 in
theorem ref_lenOf_in (k : Nat) (m : Int) (w : World) (hk : k < 29) (h0 : 0 ≤ m) (h1 : m < 2 ^ lb k) :
    Calls Try.prog 34 #[.int .i64 k, .int .i64 m] w fun e w' => e = .returned (.tuple #[.int .i64 (bas lb 2 k + m), .int .i64 0]) ∧ w = w' := by
  obtain ⟨p, hp, hp2, hs, p1, p2, p3⟩ := bas_step lb 2 k 29 (by omega) (by have := lb_le k (by omega); omega)
  have hx := lb_le k (by omega)
  rw [bas_len] at p3
  rw [hp2] at h1
  clear hs
  go_enter Try.func34, Try.ntmps34
  go_wp2_with (first
    | (go_at_call 65; refine (extra_len _ _ (by omega)).mono ?_; rintro e w' ⟨rfl, rfl⟩)
    | (go_at_call 64; refine (base_len _ _ (by omega)).mono ?_; rintro e w' ⟨rfl, rfl⟩))
  go_ret2
  exact ⟨rfl, rfl⟩
set_option maxHeartbeats 400000 in
theorem ref_lenOf_big (k : Nat) (m : Int) (w : World) (hk : k < 29) (h0 : 0 ≤ m) (h1 : 2 ^ lb k ≤ m) :
    Calls Try.prog 34 #[.int .i64 k, .int .i64 m] w fun e w' => e = .returned (.tuple #[.int .i64 0, .int .i64 2]) ∧ w = w' := by
  obtain ⟨p, hp, hp2, hs, p1, p2, p3⟩ := bas_step lb 2 k 29 (by omega) (by have := lb_le k (by omega); omega)
  have hx := lb_le k (by omega)
  rw [bas_len] at p3
  rw [hp2] at h1
  clear hs
  go_enter Try.func34, Try.ntmps34
  go_wp2_with (go_at_call 65; refine (extra_len _ _ (by omega)).mono ?_; rintro e w' ⟨rfl, rfl⟩)
  go_ret2
  exact ⟨rfl, rfl⟩
set_option maxHeartbeats 400000 in
theorem ref_lenOf_out (s m : Int) (w : World) (h : s < 0 ∨ 29 ≤ s ∨ m < 0) :
    Calls Try.prog 34 #[.int .i64 s, .int .i64 m] w fun e w' => e = .returned (.tuple #[.int .i64 0, .int .i64 2]) ∧ w = w' := by
  by_cases h1 : s < 0
  · clear h
    go_enter Try.func34, Try.ntmps34
    go_wp2
    go_ret2
    exact ⟨rfl, rfl⟩
  · by_cases h2 : 29 ≤ s
    · clear h
      go_enter Try.func34, Try.ntmps34
      go_wp2
      go_ret2
      exact ⟨rfl, rfl⟩
    · have h3 : m < 0 := by omega
      clear h
      go_enter Try.func34, Try.ntmps34
      go_wp2
      go_ret2
      exact ⟨rfl, rfl⟩
set_option maxHeartbeats 400000 in
theorem extra_dist (k : Nat) (w : World) (hk : k ≤ 1000) :
    Calls Try.prog 68 #[.int .i64 k] w fun e w' => e = .returned (.int .i64 (db k)) ∧ w = w' := by
  by_cases h1 : k < 4
  · go_enter Try.func68, Try.ntmps68
    go_wp2
    go_ret
    exact ⟨ret_int (by simp [db, h1]), rfl⟩
  · go_enter Try.func68, Try.ntmps68
    go_wp2
    go_ret
    exact ⟨ret_int (by simp [db, h1]; omega), rfl⟩

set_option maxHeartbeats 400000 in
theorem base_dist (k : Nat) (w : World) (hk : k < 52) :
    Calls Try.prog 67 #[.int .i64 k] w fun e w' => e = .returned (.int .i64 (bas db 1 k)) ∧ w = w' := by
  go_enter Try.func67, Try.ntmps67
  go_wp2_with fail
  go_loop [3, 4] (fun a i => ∃ m : Nat, m ≤ k ∧ i = .int .i64 m ∧ a = .int .i64 (bas db 1 m)) (fun _ i => k - (intOf i).toNat)
  case atStart => exact ⟨0, by omega, rfl, rfl⟩
  case round =>
    obtain ⟨m, hm, rfl, rfl⟩ := hrel
    by_cases hlt : m < k
    · obtain ⟨p, hp, _, hs, p1, p2, p3⟩ := bas_step db 1 m 52 (by omega) (by have := db_le m (by omega); omega)
      have hx := db_le m (by omega)
      rw [bas_dist] at p3
      have HS := Aside.mk hs
      clear hs
      go_wp2_with (go_at_call 68; refine (extra_dist _ _ (by omega)).mono ?_; rintro e w' ⟨rfl, rfl⟩)
      go_round
      case rel => exact ⟨m + 1, by omega, by go_num, congrArg _ HS.out.symm⟩
      case measure => simp [intOf]; omega
    · obtain rfl : m = k := by omega
      go_wp2
      go_ret
      exact ⟨rfl, rfl⟩

set_option maxHeartbeats 400000 in
theorem ref_dist_in (n : Int) (w : World) (h0 : 1 ≤ n) (h1 : n < 67108865) :
    Calls Try.prog 31 #[.int .i64 n] w fun e w' => e = .returned (.tuple #[.int .i64 (slotS db 1 n 51), .int .i64 (db (slotS db 1 n 51)), .int .i64 (n - bas db 1 (slotS db 1 n 51)), .int .i64 0]) ∧ w = w' := by
  go_enter Try.func31, Try.ntmps31
  go_wp2_with fail
  go_loop [6] (fun i => ∃ k : Nat, k ≤ 51 ∧ i = .int .i64 k ∧ Aside (n < bas db 1 (k + 1))) (fun i => (intOf i).toNat)
  case atStart => exact ⟨51, by omega, rfl, ⟨by rw [bas_dist]; omega⟩⟩
  case round =>
    obtain ⟨k, hk, rfl, HN⟩ := hrel
    have hmo := bas_mono db 1 0 k (by omega)
    have htop := bas_mono db 1 k 52 (by omega)
    rw [bas_dist] at htop
    have HB0 := Aside.mk hmo
    clear hmo
    by_cases ht : n < bas db 1 k
    · have hk0 : 0 < k := by
        rcases Nat.eq_zero_or_pos k with h | h
        · subst h; simp [bas] at ht; omega
        · exact h
      have HT := Aside.mk ht
      go_wp2_with (go_at_call 67; refine (base_dist _ _ (by omega)).mono ?_; rintro e w' ⟨rfl, rfl⟩)
      exact ⟨⟨k - 1, by omega, congrArg _ (by omega), ⟨by rw [show k - 1 + 1 = k from by omega]; exact HT.out⟩⟩, by simp [intOf]; omega⟩
    · have HK : Aside (k = slotS db 1 n 51) := ⟨slotS_eq db 1 n 51 k h0 (by rw [bas_dist]; omega) (by omega) HN.out⟩
      have h2 : 1 ≤ bas db 1 k := HB0.out
      go_wp2_with (first
        | (go_at_call 67; refine (base_dist _ _ (by omega)).mono ?_; rintro e w' ⟨rfl, rfl⟩)
        | (go_at_call 68; refine (extra_dist _ _ (by omega)).mono ?_; rintro e w' ⟨rfl, rfl⟩))
      refine bodyPost_ret (results_four rfl _ _ _) rfl ?_
      exact ⟨by rw [← HK.out]; rfl, rfl⟩
set_option maxHeartbeats 400000 in
theorem ref_dist_out (n : Int) (w : World) (h0 : n < 1 ∨ 67108865 ≤ n) :
    Calls Try.prog 31 #[.int .i64 n] w fun e w' => e = .returned (.tuple #[.int .i64 0, .int .i64 0, .int .i64 0, .int .i64 2]) ∧ w = w' := by
  rcases h0 with h | h
  · go_enter Try.func31, Try.ntmps31
    go_wp2
    refine bodyPost_ret (results_four rfl _ _ _) rfl ?_
    exact ⟨rfl, rfl⟩
  · go_enter Try.func31, Try.ntmps31
    go_wp2
    refine bodyPost_ret (results_four rfl _ _ _) rfl ?_
    exact ⟨rfl, rfl⟩

set_option maxHeartbeats 400000 in
theorem ref_distOf_in (k : Nat) (m : Int) (w : World) (hk : k < 52) (h0 : 0 ≤ m) (h1 : m < 2 ^ db k) :
    Calls Try.prog 36 #[.int .i64 k, .int .i64 m] w fun e w' => e = .returned (.tuple #[.int .i64 (bas db 1 k + m), .int .i64 0]) ∧ w = w' := by
  obtain ⟨p, hp, hp2, hs, p1, p2, p3⟩ := bas_step db 1 k 52 (by omega) (by have := db_le k (by omega); omega)
  have hx := db_le k (by omega)
  rw [bas_dist] at p3
  rw [hp2] at h1
  clear hs
  go_enter Try.func36, Try.ntmps36
  go_wp2_with (first
    | (go_at_call 68; refine (extra_dist _ _ (by omega)).mono ?_; rintro e w' ⟨rfl, rfl⟩)
    | (go_at_call 67; refine (base_dist _ _ (by omega)).mono ?_; rintro e w' ⟨rfl, rfl⟩))
  go_ret2
  exact ⟨rfl, rfl⟩
set_option maxHeartbeats 400000 in
theorem ref_distOf_big (k : Nat) (m : Int) (w : World) (hk : k < 52) (h0 : 0 ≤ m) (h1 : 2 ^ db k ≤ m) :
    Calls Try.prog 36 #[.int .i64 k, .int .i64 m] w fun e w' => e = .returned (.tuple #[.int .i64 0, .int .i64 2]) ∧ w = w' := by
  obtain ⟨p, hp, hp2, hs, p1, p2, p3⟩ := bas_step db 1 k 52 (by omega) (by have := db_le k (by omega); omega)
  have hx := db_le k (by omega)
  rw [bas_dist] at p3
  rw [hp2] at h1
  clear hs
  go_enter Try.func36, Try.ntmps36
  go_wp2_with (go_at_call 68; refine (extra_dist _ _ (by omega)).mono ?_; rintro e w' ⟨rfl, rfl⟩)
  go_ret2
  exact ⟨rfl, rfl⟩
set_option maxHeartbeats 400000 in
theorem ref_distOf_out (s m : Int) (w : World) (h : s < 0 ∨ 52 ≤ s ∨ m < 0) :
    Calls Try.prog 36 #[.int .i64 s, .int .i64 m] w fun e w' => e = .returned (.tuple #[.int .i64 0, .int .i64 2]) ∧ w = w' := by
  by_cases h1 : s < 0
  · clear h
    go_enter Try.func36, Try.ntmps36
    go_wp2
    go_ret2
    exact ⟨rfl, rfl⟩
  · by_cases h2 : 52 ≤ s
    · clear h
      go_enter Try.func36, Try.ntmps36
      go_wp2
      go_ret2
      exact ⟨rfl, rfl⟩
    · have h3 : m < 0 := by omega
      clear h
      go_enter Try.func36, Try.ntmps36
      go_wp2
      go_ret2
      exact ⟨rfl, rfl⟩
end Go.Proofs.Ytjmenlffhoodeab
