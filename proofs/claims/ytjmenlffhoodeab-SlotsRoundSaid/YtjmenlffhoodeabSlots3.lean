/- slots: what it tells of any number; awake; the three laws' walks. -/
import Derived.Test.YtjmenlffhoodeabSlots2
namespace Go.Proofs.Ytjmenlffhoodeab
open Go.RowKit

/-- What the table of slots tells of any number, and of any slot. -/
def len0 (n : Int) : Int := if 2 ≤ n ∧ n < 259 then (slotS lb 2 n 28 : Int) else 0
def len1 (n : Int) : Int := if 2 ≤ n ∧ n < 259 then (lb (slotS lb 2 n 28) : Int) else 0
def len2 (n : Int) : Int := if 2 ≤ n ∧ n < 259 then n - bas lb 2 (slotS lb 2 n 28) else 0
def len3 (n : Int) : Int := if 2 ≤ n ∧ n < 259 then 0 else 2
def lenOf0 (s m : Int) : Int := if 0 ≤ s ∧ s < 29 ∧ 0 ≤ m ∧ m < 2 ^ lb s.toNat then bas lb 2 s.toNat + m else 0
def lenOf1 (s m : Int) : Int := if 0 ≤ s ∧ s < 29 ∧ 0 ≤ m ∧ m < 2 ^ lb s.toNat then 0 else 2
theorem len_all (n : Int) (w : World) :
    Calls Try.prog 28 #[.int .i64 n] w fun e w' => e = .returned (.tuple #[.int .i64 (len0 n), .int .i64 (len1 n), .int .i64 (len2 n), .int .i64 (len3 n)]) ∧ w = w' := by
  by_cases h : 2 ≤ n ∧ n < 259
  · simp only [len0, len1, len2, len3, if_pos h]; exact len_in n w h.1 h.2
  · simp only [len0, len1, len2, len3, if_neg h]; exact len_out n w (by omega)
theorem ref_len_all (n : Int) (w : World) :
    Calls Try.prog 29 #[.int .i64 n] w fun e w' => e = .returned (.tuple #[.int .i64 (len0 n), .int .i64 (len1 n), .int .i64 (len2 n), .int .i64 (len3 n)]) ∧ w = w' := by
  by_cases h : 2 ≤ n ∧ n < 259
  · simp only [len0, len1, len2, len3, if_pos h]; exact ref_len_in n w h.1 h.2
  · simp only [len0, len1, len2, len3, if_neg h]; exact ref_len_out n w (by omega)
theorem lenOf_all (s m : Int) (w : World) (hm : m ≤ 9223372036854775807) :
    Calls Try.prog 33 #[.int .i64 s, .int .i64 m] w fun e w' => e = .returned (.tuple #[.int .i64 (lenOf0 s m), .int .i64 (lenOf1 s m)]) ∧ w = w' := by
  by_cases h : 0 ≤ s ∧ s < 29 ∧ 0 ≤ m ∧ m < 2 ^ lb s.toNat
  · simp only [lenOf0, lenOf1, if_pos h]
    obtain ⟨S, rfl⟩ := Int.eq_ofNat_of_zero_le h.1
    rw [Int.toNat_natCast] at h ⊢
    exact lenOf_in S m w (by omega) h.2.2.1 h.2.2.2
  · simp only [lenOf0, lenOf1, if_neg h]
    by_cases h2 : s < 0 ∨ 29 ≤ s ∨ m < 0
    · exact lenOf_out s m w h2
    · obtain ⟨S, rfl⟩ := Int.eq_ofNat_of_zero_le (show 0 ≤ s by omega)
      rw [Int.toNat_natCast] at h
      exact lenOf_big S m w (by omega) (by omega) (by
        rcases Int.lt_or_le m (2 ^ lb S) with h3 | h3
        · exact absurd ⟨by omega, by omega, by omega, h3⟩ h
        · exact h3) hm
theorem ref_lenOf_all (s m : Int) (w : World) :
    Calls Try.prog 34 #[.int .i64 s, .int .i64 m] w fun e w' => e = .returned (.tuple #[.int .i64 (lenOf0 s m), .int .i64 (lenOf1 s m)]) ∧ w = w' := by
  by_cases h : 0 ≤ s ∧ s < 29 ∧ 0 ≤ m ∧ m < 2 ^ lb s.toNat
  · simp only [lenOf0, lenOf1, if_pos h]
    obtain ⟨S, rfl⟩ := Int.eq_ofNat_of_zero_le h.1
    rw [Int.toNat_natCast] at h ⊢
    exact ref_lenOf_in S m w (by omega) h.2.2.1 h.2.2.2
  · simp only [lenOf0, lenOf1, if_neg h]
    by_cases h2 : s < 0 ∨ 29 ≤ s ∨ m < 0
    · exact ref_lenOf_out s m w h2
    · obtain ⟨S, rfl⟩ := Int.eq_ofNat_of_zero_le (show 0 ≤ s by omega)
      rw [Int.toNat_natCast] at h
      exact ref_lenOf_big S m w (by omega) (by omega) (by
        rcases Int.lt_or_le m (2 ^ lb S) with h3 | h3
        · exact absurd ⟨by omega, by omega, by omega, h3⟩ h
        · exact h3)
theorem len_ex (n : Int) (w : World) (h0 : 2 ≤ n) (h1 : n < 259) :
    Calls Try.prog 28 #[.int .i64 n] w fun e w' => ∃ k : Nat, k < 29 ∧ Aside (bas lb 2 k ≤ n ∧ n < bas lb 2 (k + 1)) ∧ e = .returned (.tuple #[.int .i64 k, .int .i64 (lb k), .int .i64 (n - bas lb 2 k), .int .i64 0]) ∧ w = w' :=
  (len_in n w h0 h1).mono fun e w' ⟨he, hw⟩ => by
    have h := slotS_spec lb 2 n 28 h0 (by rw [bas_len]; omega)
    exact ⟨_, by omega, ⟨h.2⟩, he, hw⟩
/-- What the table of slots tells of any number, and of any slot. -/
def dist0 (n : Int) : Int := if 1 ≤ n ∧ n < 67108865 then (slotS db 1 n 51 : Int) else 0
def dist1 (n : Int) : Int := if 1 ≤ n ∧ n < 67108865 then (db (slotS db 1 n 51) : Int) else 0
def dist2 (n : Int) : Int := if 1 ≤ n ∧ n < 67108865 then n - bas db 1 (slotS db 1 n 51) else 0
def dist3 (n : Int) : Int := if 1 ≤ n ∧ n < 67108865 then 0 else 2
def distOf0 (s m : Int) : Int := if 0 ≤ s ∧ s < 52 ∧ 0 ≤ m ∧ m < 2 ^ db s.toNat then bas db 1 s.toNat + m else 0
def distOf1 (s m : Int) : Int := if 0 ≤ s ∧ s < 52 ∧ 0 ≤ m ∧ m < 2 ^ db s.toNat then 0 else 2
theorem dist_all (n : Int) (w : World) :
    Calls Try.prog 30 #[.int .i64 n] w fun e w' => e = .returned (.tuple #[.int .i64 (dist0 n), .int .i64 (dist1 n), .int .i64 (dist2 n), .int .i64 (dist3 n)]) ∧ w = w' := by
  by_cases h : 1 ≤ n ∧ n < 67108865
  · simp only [dist0, dist1, dist2, dist3, if_pos h]; exact dist_in n w h.1 h.2
  · simp only [dist0, dist1, dist2, dist3, if_neg h]; exact dist_out n w (by omega)
theorem ref_dist_all (n : Int) (w : World) :
    Calls Try.prog 31 #[.int .i64 n] w fun e w' => e = .returned (.tuple #[.int .i64 (dist0 n), .int .i64 (dist1 n), .int .i64 (dist2 n), .int .i64 (dist3 n)]) ∧ w = w' := by
  by_cases h : 1 ≤ n ∧ n < 67108865
  · simp only [dist0, dist1, dist2, dist3, if_pos h]; exact ref_dist_in n w h.1 h.2
  · simp only [dist0, dist1, dist2, dist3, if_neg h]; exact ref_dist_out n w (by omega)
theorem distOf_all (s m : Int) (w : World) (hm : m ≤ 9223372036854775807) :
    Calls Try.prog 35 #[.int .i64 s, .int .i64 m] w fun e w' => e = .returned (.tuple #[.int .i64 (distOf0 s m), .int .i64 (distOf1 s m)]) ∧ w = w' := by
  by_cases h : 0 ≤ s ∧ s < 52 ∧ 0 ≤ m ∧ m < 2 ^ db s.toNat
  · simp only [distOf0, distOf1, if_pos h]
    obtain ⟨S, rfl⟩ := Int.eq_ofNat_of_zero_le h.1
    rw [Int.toNat_natCast] at h ⊢
    exact distOf_in S m w (by omega) h.2.2.1 h.2.2.2
  · simp only [distOf0, distOf1, if_neg h]
    by_cases h2 : s < 0 ∨ 52 ≤ s ∨ m < 0
    · exact distOf_out s m w h2
    · obtain ⟨S, rfl⟩ := Int.eq_ofNat_of_zero_le (show 0 ≤ s by omega)
      rw [Int.toNat_natCast] at h
      exact distOf_big S m w (by omega) (by omega) (by
        rcases Int.lt_or_le m (2 ^ db S) with h3 | h3
        · exact absurd ⟨by omega, by omega, by omega, h3⟩ h
        · exact h3) hm
theorem ref_distOf_all (s m : Int) (w : World) :
    Calls Try.prog 36 #[.int .i64 s, .int .i64 m] w fun e w' => e = .returned (.tuple #[.int .i64 (distOf0 s m), .int .i64 (distOf1 s m)]) ∧ w = w' := by
  by_cases h : 0 ≤ s ∧ s < 52 ∧ 0 ≤ m ∧ m < 2 ^ db s.toNat
  · simp only [distOf0, distOf1, if_pos h]
    obtain ⟨S, rfl⟩ := Int.eq_ofNat_of_zero_le h.1
    rw [Int.toNat_natCast] at h ⊢
    exact ref_distOf_in S m w (by omega) h.2.2.1 h.2.2.2
  · simp only [distOf0, distOf1, if_neg h]
    by_cases h2 : s < 0 ∨ 52 ≤ s ∨ m < 0
    · exact ref_distOf_out s m w h2
    · obtain ⟨S, rfl⟩ := Int.eq_ofNat_of_zero_le (show 0 ≤ s by omega)
      rw [Int.toNat_natCast] at h
      exact ref_distOf_big S m w (by omega) (by omega) (by
        rcases Int.lt_or_le m (2 ^ db S) with h3 | h3
        · exact absurd ⟨by omega, by omega, by omega, h3⟩ h
        · exact h3)
theorem dist_ex (n : Int) (w : World) (h0 : 1 ≤ n) (h1 : n < 67108865) :
    Calls Try.prog 30 #[.int .i64 n] w fun e w' => ∃ k : Nat, k < 52 ∧ Aside (bas db 1 k ≤ n ∧ n < bas db 1 (k + 1)) ∧ e = .returned (.tuple #[.int .i64 k, .int .i64 (db k), .int .i64 (n - bas db 1 k), .int .i64 0]) ∧ w = w' :=
  (dist_in n w h0 h1).mono fun e w' ⟨he, hw⟩ => by
    have h := slotS_spec db 1 n 51 h0 (by rw [bas_dist]; omega)
    exact ⟨_, by omega, ⟨h.2⟩, he, hw⟩

theorem len_val (n k l m r : Int) (w : World) (h0 : len0 n = k) (h1 : len1 n = l) (h2 : len2 n = m) (h3 : len3 n = r) :
    Calls Try.prog 28 #[.int .i64 n] w fun e w' => e = .returned (.tuple #[.int .i64 k, .int .i64 l, .int .i64 m, .int .i64 r]) ∧ w = w' := by
  subst h0 h1 h2 h3; exact len_all n w
theorem dist_val (n k l m r : Int) (w : World) (h0 : dist0 n = k) (h1 : dist1 n = l) (h2 : dist2 n = m) (h3 : dist3 n = r) :
    Calls Try.prog 30 #[.int .i64 n] w fun e w' => e = .returned (.tuple #[.int .i64 k, .int .i64 l, .int .i64 m, .int .i64 r]) ∧ w = w' := by
  subst h0 h1 h2 h3; exact dist_all n w
theorem lenOf_val (s m k r : Int) (w : World) (hm : m ≤ 9223372036854775807) (h0 : lenOf0 s m = k) (h1 : lenOf1 s m = r) :
    Calls Try.prog 33 #[.int .i64 s, .int .i64 m] w fun e w' => e = .returned (.tuple #[.int .i64 k, .int .i64 r]) ∧ w = w' := by
  subst h0 h1; exact lenOf_all s m w hm
theorem distOf_val (s m k r : Int) (w : World) (hm : m ≤ 9223372036854775807) (h0 : distOf0 s m = k) (h1 : distOf1 s m = r) :
    Calls Try.prog 35 #[.int .i64 s, .int .i64 m] w fun e w' => e = .returned (.tuple #[.int .i64 k, .int .i64 r]) ∧ w = w' := by
  subst h0 h1; exact distOf_all s m w hm

set_option maxRecDepth 100000 in
set_option maxHeartbeats 1000000 in
theorem awake15 (w : World) : Calls Try.prog 32 #[] w fun e w' => e = .returned (.bool true) ∧ w = w' := by
  go_enter Try.func32, Try.ntmps32
  go_wp2_with fail
  refine (len_val 11 8 1 1 0 _ (by decide) (by decide) (by decide) (by decide)).mono ?_
  rintro e w' ⟨rfl, rfl⟩
  go_wp2_with fail
  refine (dist_val 10 6 2 1 0 _ (by decide +kernel) (by decide +kernel) (by decide +kernel) (by decide +kernel)).mono ?_
  rintro e w' ⟨rfl, rfl⟩
  go_wp2_with fail
  refine (lenOf_val 27 31 257 0 _ (by decide) (by decide +kernel) (by decide +kernel)).mono ?_
  rintro e w' ⟨rfl, rfl⟩
  go_wp2_with fail
  refine (distOf_val 51 16777215 67108864 0 _ (by decide) (by decide +kernel) (by decide +kernel)).mono ?_
  rintro e w' ⟨rfl, rfl⟩
  go_wp2_with fail
  refine (lenOf_val 28 1 0 2 _ (by decide) (by decide +kernel) (by decide +kernel)).mono ?_
  rintro e w' ⟨rfl, rfl⟩
  go_wp2_with fail
  refine (len_val 1 0 0 0 2 _ (by decide) (by decide) (by decide) (by decide)).mono ?_
  rintro e w' ⟨rfl, rfl⟩
  go_wp2
  go_ret
  exact ⟨rfl, rfl⟩

set_option maxRecDepth 100000 in
set_option maxHeartbeats 1000000 in
theorem slotsOf_walk (n d : Int) (w : World) (_w0 : (Lit.int .i64 n).wf = true) (_w1 : (Lit.int .i64 d).wf = true) :
    Calls Try.prog 7 #[.int .i64 n, .int .i64 d] w fun e w' => e = .returned (.bool true) ∧ Below w.heap.size w w' := by
  clear _w0 _w1
  go_enter Try.func7, Try.ntmps7
  go_wp2_with (first
    | (go_at_call 28; refine (len_all _ _).mono ?_; rintro e w' ⟨rfl, rfl⟩)
    | (go_at_call 29; refine (ref_len_all _ _).mono ?_; rintro e w' ⟨rfl, rfl⟩)
    | (go_at_call 30; refine (dist_all _ _).mono ?_; rintro e w' ⟨rfl, rfl⟩)
    | (go_at_call 31; refine (ref_dist_all _ _).mono ?_; rintro e w' ⟨rfl, rfl⟩)
    | (go_at_call 32; refine (awake15 _).mono ?_; rintro e w' ⟨rfl, rfl⟩))
  go_ret
  exact ⟨rfl, Below.refl _ _⟩

set_option maxRecDepth 100000 in
set_option maxHeartbeats 1000000 in
theorem slotsBack_walk (n d : Int) (w : World) (_w0 : (Lit.int .i64 n).wf = true) (w1 : (Lit.int .i64 d).wf = true) :
    Calls Try.prog 8 #[.int .i64 n, .int .i64 d] w fun e w' => e = .returned (.bool true) ∧ Below w.heap.size w w' := by
  have HM := Aside.mk (i64_bd w1).2
  clear _w0 w1
  go_enter Try.func8, Try.ntmps8
  go_wp2_with (first
    | (go_at_call 33; refine (lenOf_all _ _ _ HM.out).mono ?_; rintro e w' ⟨rfl, rfl⟩)
    | (go_at_call 34; refine (ref_lenOf_all _ _ _).mono ?_; rintro e w' ⟨rfl, rfl⟩)
    | (go_at_call 35; refine (distOf_all _ _ _ HM.out).mono ?_; rintro e w' ⟨rfl, rfl⟩)
    | (go_at_call 36; refine (ref_distOf_all _ _ _).mono ?_; rintro e w' ⟨rfl, rfl⟩)
    | (go_at_call 32; refine (awake15 _).mono ?_; rintro e w' ⟨rfl, rfl⟩))
  go_ret
  exact ⟨rfl, Below.refl _ _⟩
theorem len_back (n : Int) (k : Nat) (hk : k < 29) (h : bas lb 2 k ≤ n ∧ n < bas lb 2 (k + 1)) :
    lenOf0 k (n - bas lb 2 k) = n ∧ lenOf1 k (n - bas lb 2 k) = 0 ∧ ∃ p : Int, (2 : Int) ^ min (lb k) 64 = p ∧ (2 : Int) ^ lb k = p ∧ ((n - bas lb 2 k) / p != 0) = false ∧ 2 ≤ bas lb 2 k ∧ bas lb 2 k ≤ 259 := by
  obtain ⟨p, hp, hp2, hs, p1, p2, p3⟩ := bas_step lb 2 k 29 hk (by have := lb_le k (by omega); omega)
  rw [bas_len] at p3
  rw [hs] at h
  have hc : 0 ≤ (k : Int) ∧ (k : Int) < 29 ∧ 0 ≤ n - bas lb 2 k ∧ n - bas lb 2 k < 2 ^ lb (k : Int).toNat := by
    rw [Int.toNat_natCast, hp2]; omega
  refine ⟨?_, ?_, p, hp, hp2, ?_, p2, by omega⟩
  · unfold lenOf0; rw [if_pos hc, Int.toNat_natCast]; omega
  · simp only [lenOf1, if_pos hc]
  · rw [Int.ediv_eq_zero_of_lt (by omega) (by omega)]; rfl
theorem len_next (n : Int) (k m : Nat) (h : bas lb 2 k ≤ n) (h2 : n + 1 < bas lb 2 (m + 1)) : k ≤ m := by
  have := bas_lt lb 2 k (m + 1) (by omega)
  omega
theorem dist_back (n : Int) (k : Nat) (hk : k < 52) (h : bas db 1 k ≤ n ∧ n < bas db 1 (k + 1)) :
    distOf0 k (n - bas db 1 k) = n ∧ distOf1 k (n - bas db 1 k) = 0 ∧ ∃ p : Int, (2 : Int) ^ min (db k) 64 = p ∧ (2 : Int) ^ db k = p ∧ ((n - bas db 1 k) / p != 0) = false ∧ 1 ≤ bas db 1 k ∧ bas db 1 k ≤ 67108865 := by
  obtain ⟨p, hp, hp2, hs, p1, p2, p3⟩ := bas_step db 1 k 52 hk (by have := db_le k (by omega); omega)
  rw [bas_dist] at p3
  rw [hs] at h
  have hc : 0 ≤ (k : Int) ∧ (k : Int) < 52 ∧ 0 ≤ n - bas db 1 k ∧ n - bas db 1 k < 2 ^ db (k : Int).toNat := by
    rw [Int.toNat_natCast, hp2]; omega
  refine ⟨?_, ?_, p, hp, hp2, ?_, p2, by omega⟩
  · unfold distOf0; rw [if_pos hc, Int.toNat_natCast]; omega
  · simp only [distOf1, if_pos hc]
  · rw [Int.ediv_eq_zero_of_lt (by omega) (by omega)]; rfl
theorem dist_next (n : Int) (k m : Nat) (h : bas db 1 k ≤ n) (h2 : n + 1 < bas db 1 (m + 1)) : k ≤ m := by
  have := bas_lt db 1 k (m + 1) (by omega)
  omega

set_option maxRecDepth 100000 in
set_option maxHeartbeats 2000000 in
theorem round_aa (x y n d : Int) (w : World) (x0 : 0 ≤ x) (x1 : x ≤ 4294967295) (y0 : 0 ≤ y) (y1 : y ≤ 4294967295) (hn : x % 257 + 2 = n) (hd : y % 67108864 + 1 = d) (n0 : 2 ≤ n) (n1 : n < 258) (d0 : 1 ≤ d) (d1 : d < 67108864) :
    Calls Try.prog 9 #[.int .u32 x, .int .u32 y] w fun e w' => e = .returned (.bool true) ∧ w = w' := by
  go_enter Try.func9, Try.ntmps9
  go_wp2_with fail
  clear hn
  refine (len_ex n _ n0 (by omega)).mono ?_
  rintro e w' ⟨k, hk, HK, rfl, rfl⟩
  go_wp2_with fail
  clear hd
  refine (dist_ex d _ d0 (by omega)).mono ?_
  rintro e w' ⟨j, hj, HJ, rfl, rfl⟩
  go_wp2_with fail
  obtain ⟨a1, a2, p, hp, hp2, hpd, q1, q2⟩ := len_back n k hk HK.out
  obtain ⟨b1, b2, r, hr, hr2, hrd, s1, s2⟩ := dist_back d j hj HJ.out
  have A1 := Aside.mk a1
  have A2 := Aside.mk a2
  have B1 := Aside.mk b1
  have B2 := Aside.mk b2
  clear a1 a2 b1 b2
  have hx := lb_le k (by omega)
  have hy := db_le j (by omega)
  refine (lenOf_val _ _ n 0 _ (by omega) A1.out A2.out).mono ?_
  rintro e w' ⟨rfl, rfl⟩
  go_wp2_with fail
  refine (distOf_val _ _ d 0 _ (by omega) B1.out B2.out).mono ?_
  rintro e w' ⟨rfl, rfl⟩
  go_wp2_with fail
  refine (len_ex _ _ (by omega) (by omega)).mono ?_
  rintro e w' ⟨k2, hk2, HK2, rfl, rfl⟩
  have hle := len_next n k k2 HK.out.1 HK2.out.2
  go_wp2_with fail
  refine (dist_ex _ _ (by omega) (by omega)).mono ?_
  rintro e w' ⟨j2, hj2, HJ2, rfl, rfl⟩
  have hle2 := dist_next d j j2 HJ.out.1 HJ2.out.2
  go_wp2_with fail
  refine (awake15 _).mono ?_
  rintro e w' ⟨rfl, rfl⟩
  go_wp2
  go_ret
  exact ⟨rfl, rfl⟩

set_option maxRecDepth 100000 in
set_option maxHeartbeats 2000000 in
theorem round_ab (x y n d : Int) (w : World) (x0 : 0 ≤ x) (x1 : x ≤ 4294967295) (y0 : 0 ≤ y) (y1 : y ≤ 4294967295) (hn : x % 257 + 2 = n) (hd : y % 67108864 + 1 = d) (n0 : 2 ≤ n) (n1 : n < 258) (d0 : 1 ≤ d) (d1 : 67108864 ≤ d) (d2 : d ≤ 67108864) :
    Calls Try.prog 9 #[.int .u32 x, .int .u32 y] w fun e w' => e = .returned (.bool true) ∧ w = w' := by
  go_enter Try.func9, Try.ntmps9
  go_wp2_with fail
  clear hn
  refine (len_ex n _ n0 (by omega)).mono ?_
  rintro e w' ⟨k, hk, HK, rfl, rfl⟩
  go_wp2_with fail
  clear hd
  refine (dist_ex d _ d0 (by omega)).mono ?_
  rintro e w' ⟨j, hj, HJ, rfl, rfl⟩
  go_wp2_with fail
  obtain ⟨a1, a2, p, hp, hp2, hpd, q1, q2⟩ := len_back n k hk HK.out
  obtain ⟨b1, b2, r, hr, hr2, hrd, s1, s2⟩ := dist_back d j hj HJ.out
  have A1 := Aside.mk a1
  have A2 := Aside.mk a2
  have B1 := Aside.mk b1
  have B2 := Aside.mk b2
  clear a1 a2 b1 b2
  have hx := lb_le k (by omega)
  have hy := db_le j (by omega)
  refine (lenOf_val _ _ n 0 _ (by omega) A1.out A2.out).mono ?_
  rintro e w' ⟨rfl, rfl⟩
  go_wp2_with fail
  refine (distOf_val _ _ d 0 _ (by omega) B1.out B2.out).mono ?_
  rintro e w' ⟨rfl, rfl⟩
  go_wp2_with fail
  refine (len_ex _ _ (by omega) (by omega)).mono ?_
  rintro e w' ⟨k2, hk2, HK2, rfl, rfl⟩
  have hle := len_next n k k2 HK.out.1 HK2.out.2
  go_wp2_with fail
  refine (dist_out _ _ (by omega)).mono ?_
  rintro e w' ⟨rfl, rfl⟩
  go_wp2_with fail
  refine (awake15 _).mono ?_
  rintro e w' ⟨rfl, rfl⟩
  go_wp2
  go_ret
  exact ⟨rfl, rfl⟩

set_option maxRecDepth 100000 in
set_option maxHeartbeats 2000000 in
theorem round_ba (x y n d : Int) (w : World) (x0 : 0 ≤ x) (x1 : x ≤ 4294967295) (y0 : 0 ≤ y) (y1 : y ≤ 4294967295) (hn : x % 257 + 2 = n) (hd : y % 67108864 + 1 = d) (n0 : 2 ≤ n) (n1 : 258 ≤ n) (n2 : n ≤ 258) (d0 : 1 ≤ d) (d1 : d < 67108864) :
    Calls Try.prog 9 #[.int .u32 x, .int .u32 y] w fun e w' => e = .returned (.bool true) ∧ w = w' := by
  go_enter Try.func9, Try.ntmps9
  go_wp2_with fail
  clear hn
  refine (len_ex n _ n0 (by omega)).mono ?_
  rintro e w' ⟨k, hk, HK, rfl, rfl⟩
  go_wp2_with fail
  clear hd
  refine (dist_ex d _ d0 (by omega)).mono ?_
  rintro e w' ⟨j, hj, HJ, rfl, rfl⟩
  go_wp2_with fail
  obtain ⟨a1, a2, p, hp, hp2, hpd, q1, q2⟩ := len_back n k hk HK.out
  obtain ⟨b1, b2, r, hr, hr2, hrd, s1, s2⟩ := dist_back d j hj HJ.out
  have A1 := Aside.mk a1
  have A2 := Aside.mk a2
  have B1 := Aside.mk b1
  have B2 := Aside.mk b2
  clear a1 a2 b1 b2
  have hx := lb_le k (by omega)
  have hy := db_le j (by omega)
  refine (lenOf_val _ _ n 0 _ (by omega) A1.out A2.out).mono ?_
  rintro e w' ⟨rfl, rfl⟩
  go_wp2_with fail
  refine (distOf_val _ _ d 0 _ (by omega) B1.out B2.out).mono ?_
  rintro e w' ⟨rfl, rfl⟩
  go_wp2_with fail
  refine (len_out _ _ (by omega)).mono ?_
  rintro e w' ⟨rfl, rfl⟩
  go_wp2_with fail
  refine (dist_ex _ _ (by omega) (by omega)).mono ?_
  rintro e w' ⟨j2, hj2, HJ2, rfl, rfl⟩
  have hle2 := dist_next d j j2 HJ.out.1 HJ2.out.2
  go_wp2_with fail
  refine (awake15 _).mono ?_
  rintro e w' ⟨rfl, rfl⟩
  go_wp2
  go_ret
  exact ⟨rfl, rfl⟩

set_option maxRecDepth 100000 in
set_option maxHeartbeats 2000000 in
theorem round_bb (x y n d : Int) (w : World) (x0 : 0 ≤ x) (x1 : x ≤ 4294967295) (y0 : 0 ≤ y) (y1 : y ≤ 4294967295) (hn : x % 257 + 2 = n) (hd : y % 67108864 + 1 = d) (n0 : 2 ≤ n) (n1 : 258 ≤ n) (n2 : n ≤ 258) (d0 : 1 ≤ d) (d1 : 67108864 ≤ d) (d2 : d ≤ 67108864) :
    Calls Try.prog 9 #[.int .u32 x, .int .u32 y] w fun e w' => e = .returned (.bool true) ∧ w = w' := by
  go_enter Try.func9, Try.ntmps9
  go_wp2_with fail
  clear hn
  refine (len_ex n _ n0 (by omega)).mono ?_
  rintro e w' ⟨k, hk, HK, rfl, rfl⟩
  go_wp2_with fail
  clear hd
  refine (dist_ex d _ d0 (by omega)).mono ?_
  rintro e w' ⟨j, hj, HJ, rfl, rfl⟩
  go_wp2_with fail
  obtain ⟨a1, a2, p, hp, hp2, hpd, q1, q2⟩ := len_back n k hk HK.out
  obtain ⟨b1, b2, r, hr, hr2, hrd, s1, s2⟩ := dist_back d j hj HJ.out
  have A1 := Aside.mk a1
  have A2 := Aside.mk a2
  have B1 := Aside.mk b1
  have B2 := Aside.mk b2
  clear a1 a2 b1 b2
  have hx := lb_le k (by omega)
  have hy := db_le j (by omega)
  refine (lenOf_val _ _ n 0 _ (by omega) A1.out A2.out).mono ?_
  rintro e w' ⟨rfl, rfl⟩
  go_wp2_with fail
  refine (distOf_val _ _ d 0 _ (by omega) B1.out B2.out).mono ?_
  rintro e w' ⟨rfl, rfl⟩
  go_wp2_with fail
  refine (len_out _ _ (by omega)).mono ?_
  rintro e w' ⟨rfl, rfl⟩
  go_wp2_with fail
  refine (dist_out _ _ (by omega)).mono ?_
  rintro e w' ⟨rfl, rfl⟩
  go_wp2_with fail
  refine (awake15 _).mono ?_
  rintro e w' ⟨rfl, rfl⟩
  go_wp2
  go_ret
  exact ⟨rfl, rfl⟩

theorem slotsRound_walk (x y : Int) (w : World) (w0 : (Lit.int .u32 x).wf = true) (w1 : (Lit.int .u32 y).wf = true) :
    Calls Try.prog 9 #[.int .u32 x, .int .u32 y] w fun e w' => e = .returned (.bool true) ∧ Below w.heap.size w w' := by
  obtain ⟨x0, x1⟩ := u32_bd w0
  obtain ⟨y0, y1⟩ := u32_bd w1
  have key : Calls Try.prog 9 #[.int .u32 x, .int .u32 y] w fun e w' => e = .returned (.bool true) ∧ w = w' := by
    by_cases h : x % 257 + 2 < 258 <;> by_cases g : y % 67108864 + 1 < 67108864
    · exact round_aa x y _ _ w x0 x1 y0 y1 rfl rfl (by omega) h (by omega) g
    · exact round_ab x y _ _ w x0 x1 y0 y1 rfl rfl (by omega) h (by omega) (by omega) (by omega)
    · exact round_ba x y _ _ w x0 x1 y0 y1 rfl rfl (by omega) (by omega) (by omega) (by omega) g
    · exact round_bb x y _ _ w x0 x1 y0 y1 rfl rfl (by omega) (by omega) (by omega) (by omega) (by omega) (by omega)
  exact key.mono fun e w' ⟨he, hw⟩ => ⟨he, by subst hw; exact Below.refl _ _⟩
end Go.Proofs.Ytjmenlffhoodeab
