/- adler.Sum, the reference's sums, both Joins, awake; the three laws' walks. -/
import Derived.Test.YtjmenlffhoodeaaProg
import Derived.Test.YtjmenlffhoodeaaK
import Derived.Test.YtjmenlffhoodeaaAdler
namespace Go.Proofs.Ytjmenlffhoodeaa
open Go.RowKit

theorem sum_any (s : ByteArray) (w : World) (hs : s.size ≤ 140737488351232) :
    Calls Try.prog 21 #[.string s] w fun e w' => e = .returned (.int .u32 (addS 1 s)) ∧ Below w.heap.size w w' := by
  go_enter Try.func21, Try.ntmps21
  go_wp2_with (go_at_call 23; refine (add_any _ _ _ (by omega) (by omega) (by omega)).mono ?_; rintro e w' ⟨rfl, hb⟩)
  go_ret
  exact ⟨rfl, hb⟩

set_option maxHeartbeats 400000 in
theorem refAdd_any (sum : Int) (s : ByteArray) (w : World) (h0 : 0 ≤ sum) (h1 : sum ≤ 4294967295) (hs : s.size ≤ 140737488351232) :
    Calls Try.prog 24 #[.int .u32 sum, .string s] w fun e w' => e = .returned (.int .u32 (addS sum s)) ∧ w = w' := by
  obtain ⟨a1, a2⟩ := loA_bd sum
  obtain ⟨b1, b2⟩ := hiA_bd sum
  go_enter Try.func24, Try.ntmps24
  go_wp2
  go_loop [5, 6, 7] (fun x y i => ∃ k : Nat, k ≤ s.size ∧ i = .int .i64 k ∧ x = .int .u32 (sA s (loA sum) k % 65521) ∧ y = .int .u32 (sB s (loA sum) (hiA sum) k % 65521)) (fun _ _ i => s.size - (intOf i).toNat)
  case atStart => exact ⟨0, by omega, rfl, congrArg _ (by simp only [sA]; unfold loA; omega), congrArg _ (by simp only [sB]; unfold hiA; omega)⟩
  case round =>
    obtain ⟨k, hk, rfl, rfl, rfl⟩ := hrel
    by_cases hlt : k < s.size
    · have g0 := run_idx (P := Try.prog) 9 s .i64 (k : Int) k rfl hlt Try.underlying9 w
      obtain ⟨p0, q0⟩ := byt_bd s k
      go_wp2
      clear g0
      go_round
      case rel => exact ⟨k + 1, by omega, by go_num, congrArg _ (by simp only [sA]; omega), congrArg _ (by simp only [sB, sA]; omega)⟩
      case measure => simp [intOf]; omega
    · obtain rfl : k = s.size := by omega
      go_wp2
      go_ret
      exact ⟨ret_int rfl, rfl⟩

theorem refSum_any (s : ByteArray) (w : World) (hs : s.size ≤ 140737488351232) :
    Calls Try.prog 22 #[.string s] w fun e w' => e = .returned (.int .u32 (addS 1 s)) ∧ w = w' := by
  go_enter Try.func22, Try.ntmps22
  go_wp2_with (go_at_call 24; refine (refAdd_any _ _ _ (by omega) (by omega) (by omega)).mono ?_; rintro e w' ⟨rfl, rfl⟩)
  go_ret
  exact ⟨rfl, rfl⟩

theorem prod_bd (x y : Int) (h0 : 0 ≤ x) (h1 : x ≤ 65520) (h2 : 0 ≤ y) (h3 : y ≤ 131040) : 0 ≤ x * y ∧ x * y ≤ 8600000000 := by
  refine ⟨Int.mul_nonneg h0 h2, ?_⟩
  have : x * y ≤ 65520 * y := Int.mul_le_mul_of_nonneg_right h1 h2
  omega
theorem u64_or_high (x y : Int) (h0 : 0 ≤ x) (h1 : x ≤ 65535) (h2 : 0 ≤ y) (h3 : y ≤ 65535) : bits .or .u64 (x * 65536) y = x * 65536 + y := by
  obtain ⟨X, rfl⟩ := Int.eq_ofNat_of_zero_le h0
  obtain ⟨Y, rfl⟩ := Int.eq_ofNat_of_zero_le h2
  rw [show (X : Int) * 65536 = ((X * 65536 : Nat) : Int) from by omega]
  have hX : (BitVec.ofInt 64 ((X * 65536 : Nat) : Int)).toNat = X * 65536 := by
    rw [BitVec.ofInt_natCast, BitVec.toNat_ofNat]; exact Nat.mod_eq_of_lt (by omega)
  have hY : (BitVec.ofInt 64 (Y : Int)).toNat = Y := by
    rw [BitVec.ofInt_natCast, BitVec.toNat_ofNat]; exact Nat.mod_eq_of_lt (by omega)
  show IntKind.u64.wrap ((BitVec.ofInt 64 ((X * 65536 : Nat) : Int) ||| BitVec.ofInt 64 (Y : Int)).toNat : Int) = _
  have e : X * 65536 ||| Y = X * 65536 + Y := by
    have := Nat.two_pow_add_eq_or_of_lt (i := 16) (b := Y) (by omega) X
    rw [Nat.mul_comm X 65536]
    exact this.symm
  rw [BitVec.toNat_or, hX, hY, e, IntKind.wrap_u64]
  omega

set_option maxHeartbeats 400000 in
theorem join_any (a b n : Int) (w : World) (a0 : 0 ≤ a) (a1 : a ≤ 4294967295) (b0 : 0 ≤ b) (b1 : b ≤ 4294967295) (n0 : -9223372036854775808 ≤ n) (n1 : n ≤ 9223372036854775807) :
    Calls Try.prog 25 #[.int .u32 a, .int .u32 b, .int .i64 n] w fun e w' => e = .returned (.int .u32 (joinS a b n)) ∧ w = w' := by
  obtain ⟨c1, c2⟩ := loA_bd a
  obtain ⟨c3, c4⟩ := hiA_bd a
  obtain ⟨d1, d2⟩ := loA_bd b
  obtain ⟨d3, d4⟩ := hiA_bd b
  by_cases hn : 0 < n
  · obtain ⟨m1, m2⟩ := prod_bd (n % 65521) ((loA a + 65521 - 1) % 65521) (by omega) (by omega) (by omega) (by omega)
    have ho := u64_or_high ((hiA a + hiA b + n % 65521 * ((loA a + 65521 - 1) % 65521)) % 65521) ((loA a + 65521 - 1 + loA b) % 65521) (by omega) (by omega) (by omega) (by omega)
    have hj : joinS a b n = ((hiA a + hiA b + n % 65521 * ((loA a + 65521 - 1) % 65521)) % 65521) * 65536 + (loA a + 65521 - 1 + loA b) % 65521 := by
      unfold joinS
      rw [mod_mul', show max 0 n = n from by omega, show loA a + 65521 - 1 = loA a + 65520 from by omega]
      omega
    have HJ := Aside.mk hj
    clear hj
    go_enter Try.func25, Try.ntmps25
    go_wp2_with (go_at_call 46; refine (parts_any _ _ (by omega) (by omega)).mono ?_; rintro e w' ⟨rfl, rfl⟩)
    go_ret
    exact ⟨ret_int (by rw [HJ.out]), rfl⟩
  · have ho := u64_or_high ((hiA a + hiA b) % 65521) ((loA a + 65521 - 1 + loA b) % 65521) (by omega) (by omega) (by omega) (by omega)
    have hj : joinS a b n = ((hiA a + hiA b) % 65521) * 65536 + (loA a + 65521 - 1 + loA b) % 65521 := by
      unfold joinS
      rw [show max 0 n = 0 from by omega]
      omega
    have HJ := Aside.mk hj
    clear hj
    go_enter Try.func25, Try.ntmps25
    go_wp2_with (go_at_call 46; refine (parts_any _ _ (by omega) (by omega)).mono ?_; rintro e w' ⟨rfl, rfl⟩)
    go_ret
    exact ⟨ret_int (by rw [HJ.out]), rfl⟩
set_option maxHeartbeats 400000 in
theorem refJoin_any (a b n : Int) (w : World) (a0 : 0 ≤ a) (a1 : a ≤ 4294967295) (b0 : 0 ≤ b) (b1 : b ≤ 4294967295) (n0 : -9223372036854775808 ≤ n) (n1 : n ≤ 9223372036854775807) :
    Calls Try.prog 26 #[.int .u32 a, .int .u32 b, .int .i64 n] w fun e w' => e = .returned (.int .u32 (joinS a b n)) ∧ w = w' := by
  by_cases hn : n < 0
  · go_enter Try.func26, Try.ntmps26
    go_wp2
    go_ret
    exact ⟨ret_int (by unfold joinS loA hiA; rw [show max 0 n = 0 from by omega]; omega), rfl⟩
  · obtain ⟨m1, m2⟩ := prod_bd (n % 65521) (a % 65536 % 65521 + 65520) (by omega) (by omega) (by omega) (by omega)
    go_enter Try.func26, Try.ntmps26
    go_wp2
    go_ret
    exact ⟨ret_int (by unfold joinS loA hiA; rw [show max 0 n = n from by omega]), rfl⟩

set_option maxHeartbeats 400000 in
theorem awake04 (w : World) : Calls Try.prog 20 #[] w fun e w' => e = .returned (.bool true) ∧ Below w.heap.size w w' := by
  have f1 : addS 1 ⟨#[]⟩ = 1 := by decide
  have f2 : addS 1 ⟨#[97]⟩ = 6422626 := by decide
  have f3 : joinS 1 6422626 1 = 6422626 := by decide
  have HB := Aside.mk (Below.refl w.heap.size w)
  go_enter Try.func20, Try.ntmps20
  go_wp2_with (first
    | (go_at_call 21; refine (sum_any _ _ (by first | omega | decide)).mono ?_; rintro e w' ⟨rfl, hb⟩; replace HB := Aside.mk (bl_step (by repeat (first | exact HB.out | apply bl_alloc | apply bl_drewN | apply bl_drew)) hb); clear hb)
    | (go_at_call 22; refine (refSum_any _ _ (by first | omega | decide)).mono ?_; rintro e w' ⟨rfl, rfl⟩)
    | (go_at_call 23; refine (add_any _ _ _ (by omega) (by omega) (by first | omega | decide)).mono ?_; rintro e w' ⟨rfl, hb⟩; replace HB := Aside.mk (bl_step (by repeat (first | exact HB.out | apply bl_alloc | apply bl_drewN | apply bl_drew)) hb); clear hb)
    | (go_at_call 24; refine (refAdd_any _ _ _ (by omega) (by omega) (by first | omega | decide)).mono ?_; rintro e w' ⟨rfl, rfl⟩)
    | (go_at_call 25; refine (join_any _ _ _ _ (by omega) (by omega) (by omega) (by omega) (by omega) (by omega)).mono ?_; rintro e w' ⟨rfl, rfl⟩)
    | (go_at_call 26; refine (refJoin_any _ _ _ _ (by omega) (by omega) (by omega) (by omega) (by omega) (by omega)).mono ?_; rintro e w' ⟨rfl, rfl⟩))
  go_ret
  exact ⟨rfl, HB.out⟩

set_option maxHeartbeats 400000 in
theorem adlerSums_walk (sum : Int) (s : ByteArray) (w : World) (w0 : (Lit.int .u32 sum).wf = true) (hs : s.size ≤ 140737488351232) :
    Calls Try.prog 5 #[.int .u32 sum, .string s] w fun e w' => e = .returned (.bool true) ∧ Below w.heap.size w w' := by
  obtain ⟨s0, s1⟩ := u32_bd w0
  clear w0
  have HB := Aside.mk (Below.refl w.heap.size w)
  by_cases hbig : 8000 < s.size
  all_goals
    go_enter Try.func5, Try.ntmps5
    go_wp2_with (first
    | (go_at_call 21; refine (sum_any _ _ (by first | omega | decide)).mono ?_; rintro e w' ⟨rfl, hb⟩; replace HB := Aside.mk (bl_step (by repeat (first | exact HB.out | apply bl_alloc | apply bl_drewN | apply bl_drew)) hb); clear hb)
    | (go_at_call 22; refine (refSum_any _ _ (by first | omega | decide)).mono ?_; rintro e w' ⟨rfl, rfl⟩)
    | (go_at_call 23; refine (add_any _ _ _ (by omega) (by omega) (by first | omega | decide)).mono ?_; rintro e w' ⟨rfl, hb⟩; replace HB := Aside.mk (bl_step (by repeat (first | exact HB.out | apply bl_alloc | apply bl_drewN | apply bl_drew)) hb); clear hb)
    | (go_at_call 24; refine (refAdd_any _ _ _ (by omega) (by omega) (by first | omega | decide)).mono ?_; rintro e w' ⟨rfl, rfl⟩)
    | (go_at_call 25; refine (join_any _ _ _ _ (by omega) (by omega) (by omega) (by omega) (by omega) (by omega)).mono ?_; rintro e w' ⟨rfl, rfl⟩)
    | (go_at_call 26; refine (refJoin_any _ _ _ _ (by omega) (by omega) (by omega) (by omega) (by omega) (by omega)).mono ?_; rintro e w' ⟨rfl, rfl⟩)
    | (go_at_call 20; refine (awake04 _).mono ?_; rintro e w' ⟨rfl, hb⟩; replace HB := Aside.mk (bl_step (by repeat (first | exact HB.out | apply bl_alloc | apply bl_drewN | apply bl_drew)) hb); clear hb))
    go_ret
    exact ⟨rfl, HB.out⟩

set_option maxHeartbeats 400000 in
theorem adlerJoins_walk (a b n : Int) (w : World) (w0 : (Lit.int .u32 a).wf = true) (w1 : (Lit.int .u32 b).wf = true) (w2 : (Lit.int .i64 n).wf = true) :
    Calls Try.prog 6 #[.int .u32 a, .int .u32 b, .int .i64 n] w fun e w' => e = .returned (.bool true) ∧ Below w.heap.size w w' := by
  obtain ⟨s0, s1⟩ := u32_bd w0
  obtain ⟨s2, s3⟩ := u32_bd w1
  obtain ⟨s4, s5⟩ := i64_bd w2
  clear w0 w1 w2
  have HB := Aside.mk (Below.refl w.heap.size w)
  go_enter Try.func6, Try.ntmps6
  go_wp2_with (first
    | (go_at_call 21; refine (sum_any _ _ (by first | omega | decide)).mono ?_; rintro e w' ⟨rfl, hb⟩; replace HB := Aside.mk (bl_step (by repeat (first | exact HB.out | apply bl_alloc | apply bl_drewN | apply bl_drew)) hb); clear hb)
    | (go_at_call 22; refine (refSum_any _ _ (by first | omega | decide)).mono ?_; rintro e w' ⟨rfl, rfl⟩)
    | (go_at_call 23; refine (add_any _ _ _ (by omega) (by omega) (by first | omega | decide)).mono ?_; rintro e w' ⟨rfl, hb⟩; replace HB := Aside.mk (bl_step (by repeat (first | exact HB.out | apply bl_alloc | apply bl_drewN | apply bl_drew)) hb); clear hb)
    | (go_at_call 24; refine (refAdd_any _ _ _ (by omega) (by omega) (by first | omega | decide)).mono ?_; rintro e w' ⟨rfl, rfl⟩)
    | (go_at_call 25; refine (join_any _ _ _ _ (by omega) (by omega) (by omega) (by omega) (by omega) (by omega)).mono ?_; rintro e w' ⟨rfl, rfl⟩)
    | (go_at_call 26; refine (refJoin_any _ _ _ _ (by omega) (by omega) (by omega) (by omega) (by omega) (by omega)).mono ?_; rintro e w' ⟨rfl, rfl⟩)
    | (go_at_call 20; refine (awake04 _).mono ?_; rintro e w' ⟨rfl, hb⟩; replace HB := Aside.mk (bl_step (by repeat (first | exact HB.out | apply bl_alloc | apply bl_drewN | apply bl_drew)) hb); clear hb))
  go_ret
  exact ⟨rfl, HB.out⟩

set_option maxHeartbeats 400000 in
theorem adlerParts_walk (s t : ByteArray) (w : World) (hs : s.size ≤ 140737488351232) (ht : t.size ≤ 140737488351232) :
    Calls Try.prog 7 #[.string s, .string t] w fun e w' => e = .returned (.bool true) ∧ Below w.heap.size w w' := by
  have HB := Aside.mk (Below.refl w.heap.size w)
  by_cases hbig : 4000 < s.size
  · go_enter Try.func7, Try.ntmps7
    go_wp2_with (first
    | (go_at_call 21; refine (sum_any _ _ (by first | omega | decide)).mono ?_; rintro e w' ⟨rfl, hb⟩; replace HB := Aside.mk (bl_step (by repeat (first | exact HB.out | apply bl_alloc | apply bl_drewN | apply bl_drew)) hb); clear hb)
    | (go_at_call 22; refine (refSum_any _ _ (by first | omega | decide)).mono ?_; rintro e w' ⟨rfl, rfl⟩)
    | (go_at_call 23; refine (add_any _ _ _ (by omega) (by omega) (by first | omega | decide)).mono ?_; rintro e w' ⟨rfl, hb⟩; replace HB := Aside.mk (bl_step (by repeat (first | exact HB.out | apply bl_alloc | apply bl_drewN | apply bl_drew)) hb); clear hb)
    | (go_at_call 24; refine (refAdd_any _ _ _ (by omega) (by omega) (by first | omega | decide)).mono ?_; rintro e w' ⟨rfl, rfl⟩)
    | (go_at_call 25; refine (join_any _ _ _ _ (by omega) (by omega) (by omega) (by omega) (by omega) (by omega)).mono ?_; rintro e w' ⟨rfl, rfl⟩)
    | (go_at_call 26; refine (refJoin_any _ _ _ _ (by omega) (by omega) (by omega) (by omega) (by omega) (by omega)).mono ?_; rintro e w' ⟨rfl, rfl⟩)
    | (go_at_call 20; refine (awake04 _).mono ?_; rintro e w' ⟨rfl, hb⟩; replace HB := Aside.mk (bl_step (by repeat (first | exact HB.out | apply bl_alloc | apply bl_drewN | apply bl_drew)) hb); clear hb))
    go_ret
    exact ⟨rfl, HB.out⟩
  · by_cases hbig2 : 4000 < t.size
    · go_enter Try.func7, Try.ntmps7
      go_wp2_with (first
    | (go_at_call 21; refine (sum_any _ _ (by first | omega | decide)).mono ?_; rintro e w' ⟨rfl, hb⟩; replace HB := Aside.mk (bl_step (by repeat (first | exact HB.out | apply bl_alloc | apply bl_drewN | apply bl_drew)) hb); clear hb)
    | (go_at_call 22; refine (refSum_any _ _ (by first | omega | decide)).mono ?_; rintro e w' ⟨rfl, rfl⟩)
    | (go_at_call 23; refine (add_any _ _ _ (by omega) (by omega) (by first | omega | decide)).mono ?_; rintro e w' ⟨rfl, hb⟩; replace HB := Aside.mk (bl_step (by repeat (first | exact HB.out | apply bl_alloc | apply bl_drewN | apply bl_drew)) hb); clear hb)
    | (go_at_call 24; refine (refAdd_any _ _ _ (by omega) (by omega) (by first | omega | decide)).mono ?_; rintro e w' ⟨rfl, rfl⟩)
    | (go_at_call 25; refine (join_any _ _ _ _ (by omega) (by omega) (by omega) (by omega) (by omega) (by omega)).mono ?_; rintro e w' ⟨rfl, rfl⟩)
    | (go_at_call 26; refine (refJoin_any _ _ _ _ (by omega) (by omega) (by omega) (by omega) (by omega) (by omega)).mono ?_; rintro e w' ⟨rfl, rfl⟩)
    | (go_at_call 20; refine (awake04 _).mono ?_; rintro e w' ⟨rfl, hb⟩; replace HB := Aside.mk (bl_step (by repeat (first | exact HB.out | apply bl_alloc | apply bl_drewN | apply bl_drew)) hb); clear hb))
      go_ret
      exact ⟨rfl, HB.out⟩
    · obtain ⟨s0, s1⟩ := addS_bd 1 s
      obtain ⟨t0, t1⟩ := addS_bd 1 t
      have e1 := addS_append 1 s t
      have e2 := joinS_append s t
      have hz : (s ++ t).size ≤ 140737488351232 := by simp; omega
      go_enter Try.func7, Try.ntmps7
      go_wp2_with (first
    | (go_at_call 21; refine (sum_any _ _ (by first | omega | decide)).mono ?_; rintro e w' ⟨rfl, hb⟩; replace HB := Aside.mk (bl_step (by repeat (first | exact HB.out | apply bl_alloc | apply bl_drewN | apply bl_drew)) hb); clear hb)
    | (go_at_call 22; refine (refSum_any _ _ (by first | omega | decide)).mono ?_; rintro e w' ⟨rfl, rfl⟩)
    | (go_at_call 23; refine (add_any _ _ _ (by omega) (by omega) (by first | omega | decide)).mono ?_; rintro e w' ⟨rfl, hb⟩; replace HB := Aside.mk (bl_step (by repeat (first | exact HB.out | apply bl_alloc | apply bl_drewN | apply bl_drew)) hb); clear hb)
    | (go_at_call 24; refine (refAdd_any _ _ _ (by omega) (by omega) (by first | omega | decide)).mono ?_; rintro e w' ⟨rfl, rfl⟩)
    | (go_at_call 25; refine (join_any _ _ _ _ (by omega) (by omega) (by omega) (by omega) (by omega) (by omega)).mono ?_; rintro e w' ⟨rfl, rfl⟩)
    | (go_at_call 26; refine (refJoin_any _ _ _ _ (by omega) (by omega) (by omega) (by omega) (by omega) (by omega)).mono ?_; rintro e w' ⟨rfl, rfl⟩)
    | (go_at_call 20; refine (awake04 _).mono ?_; rintro e w' ⟨rfl, hb⟩; replace HB := Aside.mk (bl_step (by repeat (first | exact HB.out | apply bl_alloc | apply bl_drewN | apply bl_drew)) hb); clear hb))
      go_ret
      exact ⟨rfl, HB.out⟩
end Go.Proofs.Ytjmenlffhoodeaa
