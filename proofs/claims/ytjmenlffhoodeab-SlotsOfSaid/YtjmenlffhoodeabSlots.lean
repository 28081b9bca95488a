/- What slots' functions compute, walked. -/
import Derived.Test.YtjmenlffhoodeabProg
import Derived.Test.YtjmenlffhoodeabK
namespace Go.Proofs.Ytjmenlffhoodeab
open Go.RowKit

def lb (k : Nat) : Nat := if k < 8 ∨ k = 28 then 0 else (k - 8) / 4 + 1
def db (k : Nat) : Nat := if k < 4 then 0 else (k - 4) / 2 + 1

/-- The first number of a slot. -/
def bas (f : Nat → Nat) (b : Int) : Nat → Int
  | 0 => b
  | k + 1 => bas f b k + 2 ^ f k
theorem bas_mono (f : Nat → Nat) (b : Int) (k m : Nat) (h : k ≤ m) : bas f b k ≤ bas f b m := by
  induction m with
  | zero => obtain rfl : k = 0 := by omega
            exact Int.le_refl _
  | succ m ih =>
    rcases Nat.lt_or_ge m k with h1 | h1
    · obtain rfl : k = m + 1 := by omega
      exact Int.le_refl _
    · have h2 := ih h1
      have h3 : (0 : Int) < 2 ^ f m := Int.pow_pos (by decide)
      simp only [bas]
      omega
theorem bas_lt (f : Nat → Nat) (b : Int) (k m : Nat) (h : bas f b k < bas f b m) : k < m := by
  rcases Nat.lt_or_ge k m with h1 | h1
  · exact h1
  · have := bas_mono f b m k h1; omega
/-- What is between two slots' firsts, and how great it may be. -/
theorem bas_step (f : Nat → Nat) (b : Int) (k m : Nat) (h : k < m) (hf : f k ≤ 64) :
    ∃ p : Int, (2 : Int) ^ min (f k) 64 = p ∧ (2 : Int) ^ f k = p ∧ bas f b (k + 1) = bas f b k + p ∧ 1 ≤ p ∧ b ≤ bas f b k ∧ bas f b k + p ≤ bas f b m := by
  have h1 := bas_mono f b 0 k (by omega)
  have h2 := bas_mono f b (k + 1) m h
  have h3 : (0 : Int) < 2 ^ f k := Int.pow_pos (by decide)
  have h4 : min (f k) 64 = f k := by omega
  refine ⟨2 ^ f k, by rw [h4], rfl, rfl, by omega, by simpa [bas] using h1, by simpa [bas] using h2⟩
theorem lb_le (k : Nat) (h : k ≤ 60) : lb k ≤ 20 := by unfold lb; split <;> omega
theorem db_le (k : Nat) (h : k ≤ 60) : db k ≤ 40 := by unfold db; split <;> omega
theorem bas_len : bas lb 2 29 = 259 := by decide
theorem bas_dist : bas db 1 52 = 67108865 := by decide
/-- In which slot a number lies: just one. -/
theorem slot_one (f : Nat → Nat) (b n : Int) (k m : Nat) (h1 : bas f b k ≤ n) (h2 : n < bas f b (k + 1)) (h3 : bas f b m ≤ n) (h4 : n < bas f b (m + 1)) : k = m := by
  have := bas_lt f b k (m + 1) (by omega)
  have := bas_lt f b m (k + 1) (by omega)
  omega

/-- The slot of a number, the last one looked at first. -/
def slotS (f : Nat → Nat) (b n : Int) : Nat → Nat
  | 0 => 0
  | k + 1 => if bas f b (k + 1) ≤ n then k + 1 else slotS f b n k
theorem slotS_spec (f : Nat → Nat) (b n : Int) (m : Nat) (h0 : b ≤ n) (h1 : n < bas f b (m + 1)) : slotS f b n m ≤ m ∧ bas f b (slotS f b n m) ≤ n ∧ n < bas f b (slotS f b n m + 1) := by
  induction m with
  | zero => exact ⟨Nat.le_refl _, h0, h1⟩
  | succ m ih =>
    simp only [slotS]
    split
    · exact ⟨Nat.le_refl _, by assumption, h1⟩
    · have := ih (by omega)
      exact ⟨by omega, this.2⟩
theorem slotS_eq (f : Nat → Nat) (b n : Int) (m k : Nat) (h0 : b ≤ n) (h1 : n < bas f b (m + 1)) (h2 : bas f b k ≤ n) (h3 : n < bas f b (k + 1)) : k = slotS f b n m := by
  have := slotS_spec f b n m h0 h1
  exact slot_one f b n k _ h2 h3 this.2.1 this.2.2
theorem results_four {fn : Func} {t u v x : Tmp} (h : fn.results = #[.tmp t, .tmp u, .tmp v, .tmp x]) (tmps : Array Value) (P : Program) (w : World) :
    (results fn tmps).run P w = .ok (.tuple #[tmps.getD t undef, tmps.getD u undef, tmps.getD v undef, tmps.getD x undef]) w := by simp [results, h]

set_option maxHeartbeats 400000 in
theorem lenBits_any (k : Nat) (w : World) (hk : k ≤ 1000) :
    Calls Try.prog 63 #[.int .i64 k] w fun e w' => e = .returned (.int .i64 (lb k)) ∧ w = w' := by
  by_cases h1 : k < 8
  · go_enter Try.func63, Try.ntmps63
    go_wp2
    go_ret
    exact ⟨ret_int (by simp [lb, h1]), rfl⟩
  · by_cases h2 : k = 28
    · subst h2
      go_enter Try.func63, Try.ntmps63
      go_wp2
      go_ret
      exact ⟨ret_int (by simp [lb]), rfl⟩
    · have h2' : ((k : Int) == 28) = false := by simp; omega
      go_enter Try.func63, Try.ntmps63
      go_wp2
      go_ret
      exact ⟨ret_int (by simp [lb, h1, h2]; omega), rfl⟩

set_option maxHeartbeats 400000 in
theorem find_len (n : Int) (w : World) (h0 : 2 ≤ n) (h1 : n < 259) :
    Calls Try.prog 62 #[.int .i64 n, .int .i64 2, .int .i64 29, .func (.func 63) #[] #[]] w fun e w' => ∃ k : Nat, k < 29 ∧ bas lb 2 k ≤ n ∧ n < bas lb 2 (k + 1) ∧ e = .returned (.tuple #[.int .i64 k, .int .i64 (lb k), .int .i64 (n - bas lb 2 k)]) ∧ w = w' := by
  go_enter Try.func62, Try.ntmps62
  go_wp2_with fail
  go_loop [1, 14] (fun a i => ∃ k : Nat, k ≤ 29 ∧ i = .int .i64 k ∧ a = .int .i64 (bas lb 2 k) ∧ bas lb 2 k ≤ n) (fun _ i => 29 - (intOf i).toNat)
  case atStart => exact ⟨0, by omega, rfl, rfl, h0⟩
  case round =>
    obtain ⟨k, hk, rfl, rfl, hle⟩ := hrel
    obtain rfl | hlt : k = 29 ∨ k < 29 := by omega
    · rw [bas_len] at hle; omega
    · obtain ⟨p, hp, _, hs, p1, p2, p3⟩ := bas_step lb 2 k 29 hlt (by have := lb_le k (by omega); omega)
      rw [bas_len] at p3
      have HS := Aside.mk hs
      clear hs
      generalize hq : bas lb 2 k = q at *
      have HQ := Aside.mk hq
      clear hq
      by_cases ht : n < q + p
      · go_wp2_with (go_at_call 63; refine (lenBits_any _ _ (by omega)).mono ?_; rintro e w' ⟨rfl, rfl⟩)
        go_ret3
        exact ⟨k, hlt, by have := HQ.out; omega, by have := HS.out; omega, by rw [HQ.out]; rfl, rfl⟩
      · go_wp2_with (go_at_call 63; refine (lenBits_any _ _ (by omega)).mono ?_; rintro e w' ⟨rfl, rfl⟩)
        exact ⟨⟨k + 1, by omega, by go_num, congrArg _ HS.out.symm, by have := HS.out; omega⟩, by simp [intOf]; omega⟩

set_option maxHeartbeats 400000 in
theorem distBits_any (k : Nat) (w : World) (hk : k ≤ 1000) :
    Calls Try.prog 66 #[.int .i64 k] w fun e w' => e = .returned (.int .i64 (db k)) ∧ w = w' := by
  by_cases h1 : k < 4
  · go_enter Try.func66, Try.ntmps66
    go_wp2
    go_ret
    exact ⟨ret_int (by simp [db, h1]), rfl⟩
  · go_enter Try.func66, Try.ntmps66
    go_wp2
    go_ret
    exact ⟨ret_int (by simp [db, h1]; omega), rfl⟩

set_option maxHeartbeats 400000 in
theorem find_dist (n : Int) (w : World) (h0 : 1 ≤ n) (h1 : n < 67108865) :
    Calls Try.prog 62 #[.int .i64 n, .int .i64 1, .int .i64 52, .func (.func 66) #[] #[]] w fun e w' => ∃ k : Nat, k < 52 ∧ bas db 1 k ≤ n ∧ n < bas db 1 (k + 1) ∧ e = .returned (.tuple #[.int .i64 k, .int .i64 (db k), .int .i64 (n - bas db 1 k)]) ∧ w = w' := by
  go_enter Try.func62, Try.ntmps62
  go_wp2_with fail
  go_loop [1, 14] (fun a i => ∃ k : Nat, k ≤ 52 ∧ i = .int .i64 k ∧ a = .int .i64 (bas db 1 k) ∧ bas db 1 k ≤ n) (fun _ i => 52 - (intOf i).toNat)
  case atStart => exact ⟨0, by omega, rfl, rfl, h0⟩
  case round =>
    obtain ⟨k, hk, rfl, rfl, hle⟩ := hrel
    obtain rfl | hlt : k = 52 ∨ k < 52 := by omega
    · rw [bas_dist] at hle; omega
    · obtain ⟨p, hp, _, hs, p1, p2, p3⟩ := bas_step db 1 k 52 hlt (by have := db_le k (by omega); omega)
      rw [bas_dist] at p3
      have HS := Aside.mk hs
      clear hs
      generalize hq : bas db 1 k = q at *
      have HQ := Aside.mk hq
      clear hq
      by_cases ht : n < q + p
      · go_wp2_with (go_at_call 66; refine (distBits_any _ _ (by omega)).mono ?_; rintro e w' ⟨rfl, rfl⟩)
        go_ret3
        exact ⟨k, hlt, by have := HQ.out; omega, by have := HS.out; omega, by rw [HQ.out]; rfl, rfl⟩
      · go_wp2_with (go_at_call 66; refine (distBits_any _ _ (by omega)).mono ?_; rintro e w' ⟨rfl, rfl⟩)
        exact ⟨⟨k + 1, by omega, by go_num, congrArg _ HS.out.symm, by have := HS.out; omega⟩, by simp [intOf]; omega⟩


set_option maxHeartbeats 400000 in
theorem first_len (k : Nat) (w : World) (hk : k < 29) :
    Calls Try.prog 69 #[.int .i64 k, .int .i64 2, .func (.func 63) #[] #[]] w fun e w' => e = .returned (.int .i64 (bas lb 2 k)) ∧ w = w' := by
  go_enter Try.func69, Try.ntmps69
  go_wp2_with fail
  go_loop [1, 9] (fun a i => ∃ m : Nat, m ≤ k ∧ i = .int .i64 m ∧ a = .int .i64 (bas lb 2 m)) (fun _ i => k - (intOf i).toNat)
  case atStart => exact ⟨0, by omega, rfl, rfl⟩
  case round =>
    obtain ⟨m, hm, rfl, rfl⟩ := hrel
    by_cases hlt : m < k
    · obtain ⟨p, hp, _, hs, p1, p2, p3⟩ := bas_step lb 2 m 29 (by omega) (by have := lb_le m (by omega); omega)
      rw [bas_len] at p3
      have HS := Aside.mk hs
      clear hs
      go_wp2_with (go_at_call 63; refine (lenBits_any _ _ (by omega)).mono ?_; rintro e w' ⟨rfl, rfl⟩)
      go_round
      case rel => exact ⟨m + 1, by omega, by go_num, congrArg _ HS.out.symm⟩
      case measure => simp [intOf]; omega
    · obtain rfl : m = k := by omega
      go_wp2
      go_ret
      exact ⟨rfl, rfl⟩

set_option maxHeartbeats 400000 in
theorem len_in (n : Int) (w : World) (h0 : 2 ≤ n) (h1 : n < 259) :
    Calls Try.prog 28 #[.int .i64 n] w fun e w' => e = .returned (.tuple #[.int .i64 (slotS lb 2 n 28), .int .i64 (lb (slotS lb 2 n 28)), .int .i64 (n - bas lb 2 (slotS lb 2 n 28)), .int .i64 0]) ∧ w = w' := by
  go_enter Try.func28, Try.ntmps28
  go_wp2_with (go_at_call 62; refine (find_len _ _ (by omega) (by omega)).mono ?_; rintro e w' ⟨k, hk, h2, h3, rfl, rfl⟩; have HK := Aside.mk (slotS_eq lb 2 n 28 k h0 (by rw [bas_len]; omega) h2 h3); clear h2 h3)
  refine bodyPost_ret (results_four rfl _ _ _) rfl ?_
  exact ⟨by rw [← HK.out]; rfl, rfl⟩
set_option maxHeartbeats 400000 in
theorem len_out (n : Int) (w : World) (h0 : n < 2 ∨ 259 ≤ n) :
    Calls Try.prog 28 #[.int .i64 n] w fun e w' => e = .returned (.tuple #[.int .i64 0, .int .i64 0, .int .i64 0, .int .i64 2]) ∧ w = w' := by
  rcases h0 with h | h
  · go_enter Try.func28, Try.ntmps28
    go_wp2
    refine bodyPost_ret (results_four rfl _ _ _) rfl ?_
    exact ⟨rfl, rfl⟩
  · go_enter Try.func28, Try.ntmps28
    go_wp2
    refine bodyPost_ret (results_four rfl _ _ _) rfl ?_
    exact ⟨rfl, rfl⟩

set_option maxHeartbeats 400000 in
theorem lenOf_in (k : Nat) (m : Int) (w : World) (hk : k < 29) (h0 : 0 ≤ m) (h1 : m < 2 ^ lb k) :
    Calls Try.prog 33 #[.int .i64 k, .int .i64 m] w fun e w' => e = .returned (.tuple #[.int .i64 (bas lb 2 k + m), .int .i64 0]) ∧ w = w' := by
  obtain ⟨p, hp, hp2, hs, p1, p2, p3⟩ := bas_step lb 2 k 29 (by omega) (by have := lb_le k (by omega); omega)
  rw [bas_len] at p3
  rw [hp2] at h1
  have hd : (m / p != 0) = false := by rw [Int.ediv_eq_zero_of_lt h0 h1]; rfl
  clear hs hp2
  go_enter Try.func33, Try.ntmps33
  go_wp2_with (first
    | (go_at_call 63; refine (lenBits_any _ _ (by omega)).mono ?_; rintro e w' ⟨rfl, rfl⟩)
    | (go_at_call 69; refine (first_len _ _ (by omega)).mono ?_; rintro e w' ⟨rfl, rfl⟩))
  go_ret2
  exact ⟨rfl, rfl⟩
set_option maxHeartbeats 400000 in
theorem lenOf_big (k : Nat) (m : Int) (w : World) (hk : k < 29) (h0 : 0 ≤ m) (h1 : 2 ^ lb k ≤ m) (h2 : m ≤ 9223372036854775807) :
    Calls Try.prog 33 #[.int .i64 k, .int .i64 m] w fun e w' => e = .returned (.tuple #[.int .i64 0, .int .i64 2]) ∧ w = w' := by
  obtain ⟨p, hp, hp2, hs, p1, p2, p3⟩ := bas_step lb 2 k 29 (by omega) (by have := lb_le k (by omega); omega)
  rw [bas_len] at p3
  rw [hp2] at h1
  have hd : (m / p != 0) = true := by
    have : 1 ≤ m / p := (Int.le_ediv_iff_mul_le (by omega)).2 (by omega)
    rw [bne_iff_ne]; omega
  have H2 := Aside.mk h2
  clear hs hp2 h2
  go_enter Try.func33, Try.ntmps33
  go_wp2_with (go_at_call 63; refine (lenBits_any _ _ (by omega)).mono ?_; rintro e w' ⟨rfl, rfl⟩)
  go_ret2
  exact ⟨rfl, rfl⟩
set_option maxHeartbeats 400000 in
theorem lenOf_out (s m : Int) (w : World) (h : s < 0 ∨ 29 ≤ s ∨ m < 0) :
    Calls Try.prog 33 #[.int .i64 s, .int .i64 m] w fun e w' => e = .returned (.tuple #[.int .i64 0, .int .i64 2]) ∧ w = w' := by
  by_cases h1 : s < 0
  · clear h
    go_enter Try.func33, Try.ntmps33
    go_wp2
    go_ret2
    exact ⟨rfl, rfl⟩
  · by_cases h2 : 29 ≤ s
    · clear h
      go_enter Try.func33, Try.ntmps33
      go_wp2
      go_ret2
      exact ⟨rfl, rfl⟩
    · have h3 : m < 0 := by omega
      clear h
      go_enter Try.func33, Try.ntmps33
      go_wp2
      go_ret2
      exact ⟨rfl, rfl⟩

set_option maxHeartbeats 400000 in
theorem first_dist (k : Nat) (w : World) (hk : k < 52) :
    Calls Try.prog 69 #[.int .i64 k, .int .i64 1, .func (.func 66) #[] #[]] w fun e w' => e = .returned (.int .i64 (bas db 1 k)) ∧ w = w' := by
  go_enter Try.func69, Try.ntmps69
  go_wp2_with fail
  go_loop [1, 9] (fun a i => ∃ m : Nat, m ≤ k ∧ i = .int .i64 m ∧ a = .int .i64 (bas db 1 m)) (fun _ i => k - (intOf i).toNat)
  case atStart => exact ⟨0, by omega, rfl, rfl⟩
  case round =>
    obtain ⟨m, hm, rfl, rfl⟩ := hrel
    by_cases hlt : m < k
    · obtain ⟨p, hp, _, hs, p1, p2, p3⟩ := bas_step db 1 m 52 (by omega) (by have := db_le m (by omega); omega)
      rw [bas_dist] at p3
      have HS := Aside.mk hs
      clear hs
      go_wp2_with (go_at_call 66; refine (distBits_any _ _ (by omega)).mono ?_; rintro e w' ⟨rfl, rfl⟩)
      go_round
      case rel => exact ⟨m + 1, by omega, by go_num, congrArg _ HS.out.symm⟩
      case measure => simp [intOf]; omega
    · obtain rfl : m = k := by omega
      go_wp2
      go_ret
      exact ⟨rfl, rfl⟩

set_option maxHeartbeats 400000 in
theorem dist_in (n : Int) (w : World) (h0 : 1 ≤ n) (h1 : n < 67108865) :
    Calls Try.prog 30 #[.int .i64 n] w fun e w' => e = .returned (.tuple #[.int .i64 (slotS db 1 n 51), .int .i64 (db (slotS db 1 n 51)), .int .i64 (n - bas db 1 (slotS db 1 n 51)), .int .i64 0]) ∧ w = w' := by
  go_enter Try.func30, Try.ntmps30
  go_wp2_with (go_at_call 62; refine (find_dist _ _ (by omega) (by omega)).mono ?_; rintro e w' ⟨k, hk, h2, h3, rfl, rfl⟩; have HK := Aside.mk (slotS_eq db 1 n 51 k h0 (by rw [bas_dist]; omega) h2 h3); clear h2 h3)
  refine bodyPost_ret (results_four rfl _ _ _) rfl ?_
  exact ⟨by rw [← HK.out]; rfl, rfl⟩
set_option maxHeartbeats 400000 in
theorem dist_out (n : Int) (w : World) (h0 : n < 1 ∨ 67108865 ≤ n) :
    Calls Try.prog 30 #[.int .i64 n] w fun e w' => e = .returned (.tuple #[.int .i64 0, .int .i64 0, .int .i64 0, .int .i64 2]) ∧ w = w' := by
  rcases h0 with h | h
  · go_enter Try.func30, Try.ntmps30
    go_wp2
    refine bodyPost_ret (results_four rfl _ _ _) rfl ?_
    exact ⟨rfl, rfl⟩
  · go_enter Try.func30, Try.ntmps30
    go_wp2
    refine bodyPost_ret (results_four rfl _ _ _) rfl ?_
    exact ⟨rfl, rfl⟩

set_option maxHeartbeats 400000 in
theorem distOf_in (k : Nat) (m : Int) (w : World) (hk : k < 52) (h0 : 0 ≤ m) (h1 : m < 2 ^ db k) :
    Calls Try.prog 35 #[.int .i64 k, .int .i64 m] w fun e w' => e = .returned (.tuple #[.int .i64 (bas db 1 k + m), .int .i64 0]) ∧ w = w' := by
  obtain ⟨p, hp, hp2, hs, p1, p2, p3⟩ := bas_step db 1 k 52 (by omega) (by have := db_le k (by omega); omega)
  rw [bas_dist] at p3
  rw [hp2] at h1
  have hd : (m / p != 0) = false := by rw [Int.ediv_eq_zero_of_lt h0 h1]; rfl
  clear hs hp2
  go_enter Try.func35, Try.ntmps35
  go_wp2_with (first
    | (go_at_call 66; refine (distBits_any _ _ (by omega)).mono ?_; rintro e w' ⟨rfl, rfl⟩)
    | (go_at_call 69; refine (first_dist _ _ (by omega)).mono ?_; rintro e w' ⟨rfl, rfl⟩))
  go_ret2
  exact ⟨rfl, rfl⟩
set_option maxHeartbeats 400000 in
theorem distOf_big (k : Nat) (m : Int) (w : World) (hk : k < 52) (h0 : 0 ≤ m) (h1 : 2 ^ db k ≤ m) (h2 : m ≤ 9223372036854775807) :
    Calls Try.prog 35 #[.int .i64 k, .int .i64 m] w fun e w' => e = .returned (.tuple #[.int .i64 0, .int .i64 2]) ∧ w = w' := by
  obtain ⟨p, hp, hp2, hs, p1, p2, p3⟩ := bas_step db 1 k 52 (by omega) (by have := db_le k (by omega); omega)
  rw [bas_dist] at p3
  rw [hp2] at h1
  have hd : (m / p != 0) = true := by
    have : 1 ≤ m / p := (Int.le_ediv_iff_mul_le (by omega)).2 (by omega)
    rw [bne_iff_ne]; omega
  have H2 := Aside.mk h2
  clear hs hp2 h2
  go_enter Try.func35, Try.ntmps35
  go_wp2_with (go_at_call 66; refine (distBits_any _ _ (by omega)).mono ?_; rintro e w' ⟨rfl, rfl⟩)
  go_ret2
  exact ⟨rfl, rfl⟩
set_option maxHeartbeats 400000 in
theorem distOf_out (s m : Int) (w : World) (h : s < 0 ∨ 52 ≤ s ∨ m < 0) :
    Calls Try.prog 35 #[.int .i64 s, .int .i64 m] w fun e w' => e = .returned (.tuple #[.int .i64 0, .int .i64 2]) ∧ w = w' := by
  by_cases h1 : s < 0
  · clear h
    go_enter Try.func35, Try.ntmps35
    go_wp2
    go_ret2
    exact ⟨rfl, rfl⟩
  · by_cases h2 : 52 ≤ s
    · clear h
      go_enter Try.func35, Try.ntmps35
      go_wp2
      go_ret2
      exact ⟨rfl, rfl⟩
    · have h3 : m < 0 := by omega
      clear h
      go_enter Try.func35, Try.ntmps35
      go_wp2
      go_ret2
      exact ⟨rfl, rfl⟩
end Go.Proofs.Ytjmenlffhoodeab
