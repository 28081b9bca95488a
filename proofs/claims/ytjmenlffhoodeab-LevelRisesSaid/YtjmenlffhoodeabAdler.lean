/- What adler's functions compute, walked (seat a's text at this seat's numbers). -/
import Derived.Test.YtjmenlffhoodeabProg
import Derived.Test.YtjmenlffhoodeabK
import Derived.Test.YtjmenlffhoodeabAdlerP
namespace Go.Proofs.Ytjmenlffhoodeab
open Go.RowKit

theorem u32_and_low (x : Int) (h0 : 0 ≤ x) (h1 : x ≤ 4294967295) : bits .and .u32 x 65535 = x % 65536 := by
  obtain ⟨X, rfl⟩ := Int.eq_ofNat_of_zero_le h0
  rw [show (65535 : Int) = ((65535 : Nat) : Int) from rfl]
  show IntKind.u32.wrap ((BitVec.ofInt 32 (X : Int) &&& BitVec.ofInt 32 ((65535 : Nat) : Int)).toNat : Int) = _
  rw [BitVec.toNat_and, ofInt_u32 X (by omega), ofInt_u32 65535 (by omega), show 65535 = 2 ^ 16 - 1 from rfl, Nat.and_two_pow_sub_one_eq_mod, IntKind.wrap_u32']
  omega

set_option maxRecDepth 100000 in
set_option maxHeartbeats 400000 in
theorem parts_any (x : Int) (w : World) (h0 : 0 ≤ x) (h1 : x ≤ 4294967295) :
    Calls Try.prog 79 #[.int .u32 x] w fun e w' => e = .returned (.tuple #[.int .u32 (loA x), .int .u32 (hiA x)]) ∧ w = w' := by
  have hand := u32_and_low x h0 h1
  go_enter Try.func79, Try.ntmps79
  go_wp2
  go_ret2
  exact ⟨ret_two (by unfold loA; omega) (by unfold hiA; omega), rfl⟩

set_option maxRecDepth 100000 in
set_option maxHeartbeats 400000 in
theorem some_any (a b : Int) (s : ByteArray) (w : World) (h0 : 0 ≤ a) (h1 : a ≤ 65520) (h2 : 0 ≤ b) (h3 : b ≤ 65520) (hs : s.size ≤ 5000) :
    Calls Try.prog 80 #[.int .u32 a, .int .u32 b, .string s] w fun e w' => e = .returned (.tuple #[.int .u32 (sA s a s.size), .int .u32 (sB s a b s.size)]) ∧ Below w.heap.size w w' := by
  go_enter Try.func80, Try.ntmps80
  go_wp2
  go_loopw [0, 1, 21] (fun x y i wr => ∃ k : Nat, 4 * k ≤ s.size ∧ i = .int .i64 k ∧ x = .int .u32 (sA s a (4 * k)) ∧ y = .int .u32 (sB s a b (4 * k)) ∧ Drawn w wr) (fun _ _ i _ => (s.size / 4 : Nat) - (intOf i).toNat)
  case atStart => exact ⟨0, by omega, rfl, rfl, rfl, 0, rfl⟩
  case round =>
    obtain ⟨k, hk, rfl, rfl, rfl, nd, rfl⟩ := hrel
    by_cases hlt : k < s.size / 4
    · have b1 : (0 : Int) ≤ (k : Int) * 4 := by omega
      have b2 : (k : Int) * 4 + 3 < (s.size : Int) := by omega
      obtain ⟨f1, f2, f3, f4⟩ := sums_fit s a b (4 * k) h0 h1 h2 h3 (by omega)
      have e1 : IntKind.i64.wrap ((k : Int) * 4 + 1) = (k : Int) * 4 + 1 := IntWalk.i64_in _ (by omega)
      have e2 : IntKind.i64.wrap ((k : Int) * 4 + 2) = (k : Int) * 4 + 2 := IntWalk.i64_in _ (by omega)
      have e3 : IntKind.i64.wrap ((k : Int) * 4 + 3) = (k : Int) * 4 + 3 := IntWalk.i64_in _ (by omega)
      have g0 := run_idx (P := Try.prog) 9 s .i64 ((k : Int) * 4) (4 * k) (by omega) (by omega) Try.underlying9
      have g1 := run_idx (P := Try.prog) 9 s .i64 ((k : Int) * 4 + 1) (4 * k + 1) (by omega) (by omega) Try.underlying9
      have g2 := run_idx (P := Try.prog) 9 s .i64 ((k : Int) * 4 + 2) (4 * k + 2) (by omega) (by omega) Try.underlying9
      have g3 := run_idx (P := Try.prog) 9 s .i64 ((k : Int) * 4 + 3) (4 * k + 3) (by omega) (by omega) Try.underlying9
      go_wp2
      go_quiet (fail)
      clear e1 e2 e3 g0 g1 g2 g3
      go_wp2
      obtain ⟨p0, q0⟩ := byt_bd s (4 * k)
      obtain ⟨p1, q1⟩ := byt_bd s (4 * k + 1)
      obtain ⟨p2, q2⟩ := byt_bd s (4 * k + 2)
      obtain ⟨p3, q3⟩ := byt_bd s (4 * k + 3)
      obtain ⟨z1, z2, z3, z4⟩ := sums_fit s a b (4 * (k + 1)) h0 h1 h2 h3 (by omega)
      have eA : sA s a (4 * (k + 1)) = sA s a (4 * k) + byt s (4 * k) + byt s (4 * k + 1) + byt s (4 * k + 2) + byt s (4 * k + 3) := by
        show sA s a (4 * k + 4) = _
        simp only [sA]
      have eB : sB s a b (4 * (k + 1)) = sB s a b (4 * k) + 4 * sA s a (4 * k) + 4 * byt s (4 * k) + 3 * byt s (4 * k + 1) + 2 * byt s (4 * k + 2) + byt s (4 * k + 3) := by
        show sB s a b (4 * k + 4) = _
        simp only [sA, sB]
        omega
      exact ⟨⟨k + 1, by omega, congrArg _ (by omega), congrArg _ (by omega), congrArg _ (by omega), _, rfl⟩, by simp [intOf]; omega⟩
    · obtain rfl : k = s.size / 4 := by omega
      have hz : (s.extract (s.size / 4 * 4) s.size).size = s.size - s.size / 4 * 4 := by simp
      obtain ⟨cap, W, hconv, hcell, hbel⟩ := conv_bytes (P := Try.prog) (w.drewN nd) 9 86 5 (s.extract (s.size / 4 * 4) s.size) w.heap.size rfl Try.underlying9 Try.underlying86 Try.underlying5
      rw [hz] at hconv hcell
      have HB := Aside.mk (bl_step (bl_drewN (Below.refl w.heap.size w) nd) hbel)
      clear hbel
      have hbyt : ∀ j, j < s.size - s.size / 4 * 4 → byt (s.extract (s.size / 4 * 4) s.size) j = byt s (4 * (s.size / 4) + j) := fun j hj => by
        have := byt_extract s (s.size / 4 * 4) (s.size - s.size / 4 * 4) j hj (by omega)
        rw [show s.size / 4 * 4 + (s.size - s.size / 4 * 4) = s.size from by omega] at this
        rw [this]
        congr 1
        omega
      have HC : Aside (∀ j, j < s.size - s.size / 4 * 4 → W.cell? ⟨w.heap.size, j, none⟩ = some (.int .u8 (byt s (4 * (s.size / 4) + j)))) := ⟨fun j hj => by rw [hcell j hj, hbyt j hj]⟩
      clear hcell hbyt hz hlt
      go_wp2
      clear hconv
      go_loop [0, 1, 76] (fun x y i => ∃ k : Nat, k ≤ s.size - s.size / 4 * 4 ∧ i = .int .i64 k ∧ x = .int .u32 (sA s a (4 * (s.size / 4) + k)) ∧ y = .int .u32 (sB s a b (4 * (s.size / 4) + k))) (fun _ _ i => (s.size - s.size / 4 * 4) - (intOf i).toNat)
      case atStart => exact ⟨0, by omega, rfl, rfl, rfl⟩
      case round =>
        obtain ⟨k, hk2, rfl, rfl, rfl⟩ := hrel
        by_cases hlt : k < s.size - s.size / 4 * 4
        · have hc := HC.out k hlt
          obtain ⟨p0, q0⟩ := byt_bd s (4 * (s.size / 4) + k)
          obtain ⟨z1, z2, z3, z4⟩ := sums_fit s a b (4 * (s.size / 4) + k + 1) h0 h1 h2 h3 (by omega)
          have eA : sA s a (4 * (s.size / 4) + k + 1) = sA s a (4 * (s.size / 4) + k) + byt s (4 * (s.size / 4) + k) := rfl
          have eB : sB s a b (4 * (s.size / 4) + k + 1) = sB s a b (4 * (s.size / 4) + k) + (sA s a (4 * (s.size / 4) + k) + byt s (4 * (s.size / 4) + k)) := rfl
          rw [eA] at z1 z2
          rw [eB] at z3 z4
          have EA := Aside.mk eA
          have EB := Aside.mk eB
          clear eA eB
          obtain ⟨f1, f2, f3, f4⟩ := sums_fit s a b (4 * (s.size / 4) + k) h0 h1 h2 h3 (by omega)
          go_wp2
          go_round
          case rel => exact ⟨k + 1, by omega, by go_num, congrArg _ (by have := EA.out; rw [← Nat.add_assoc]; omega), congrArg _ (by have := EB.out; rw [← Nat.add_assoc]; omega)⟩
          case measure => simp [intOf]; omega
        · go_wp2
          go_ret2
          have e : 4 * (s.size / 4) + k = s.size := by omega
          exact ⟨ret_two (by rw [e]) (by rw [e]), HB.out⟩

theorem u32_or_high (x y : Int) (h0 : 0 ≤ x) (h1 : x ≤ 65535) (h2 : 0 ≤ y) (h3 : y ≤ 65535) : bits .or .u32 (x * 65536) y = x * 65536 + y := by
  obtain ⟨X, rfl⟩ := Int.eq_ofNat_of_zero_le h0
  obtain ⟨Y, rfl⟩ := Int.eq_ofNat_of_zero_le h2
  rw [show (X : Int) * 65536 = ((X * 65536 : Nat) : Int) from by omega]
  show IntKind.u32.wrap ((BitVec.ofInt 32 ((X * 65536 : Nat) : Int) ||| BitVec.ofInt 32 (Y : Int)).toNat : Int) = _
  rw [BitVec.toNat_or, ofInt_u32 _ (by omega), ofInt_u32 Y (by omega)]
  have e : X * 65536 ||| Y = X * 65536 + Y := by
    have := Nat.two_pow_add_eq_or_of_lt (i := 16) (b := Y) (by omega) X
    rw [Nat.mul_comm X 65536]
    exact this.symm
  rw [e, IntKind.wrap_u32']
  omega

theorem add_round (s t : ByteArray) (a b : Int) (off n : Nat) (hn : n ≤ t.size) (hn5 : n ≤ 5000) (hoff : off ≤ s.size) (HT : t.size = s.size - off) (HE : ∀ i, i < t.size → byt t i = byt s (off + i)) :
    (t.extract n t.size).size = s.size - (off + n) ∧ (∀ i, i < (t.extract n t.size).size → byt (t.extract n t.size) i = byt s (off + n + i)) ∧
    (sA (t.extract 0 n) (sA s a off % 65521) n).tmod 65521 = sA s a (off + n) % 65521 ∧
    (sB (t.extract 0 n) (sA s a off % 65521) (sB s a b off % 65521) n).tmod 65521 = sB s a b (off + n) % 65521 := by
  have z1 : (t.extract n t.size).size = t.size - n := by simp
  have z2 : ∀ i, i < n → byt (t.extract 0 n) i = byt s (off + i) := fun i hi => by
    have := byt_extract t 0 n i hi (by omega)
    rw [Nat.zero_add] at this
    rw [this, Nat.zero_add, HE i (by omega)]
  obtain ⟨f1, f2, f3, f4⟩ := sums_fit (t.extract 0 n) (sA s a off % 65521) (sB s a b off % 65521) n (by omega) (by omega) (by omega) (by omega) hn5
  refine ⟨by omega, fun i hi => ?_, ?_, ?_⟩
  · have := byt_extract t n (t.size - n) i (by omega) (by omega)
    rw [show n + (t.size - n) = t.size from by omega] at this
    rw [this, HE _ (by omega), Nat.add_assoc]
  · rw [Int.tmod_eq_emod_of_nonneg f1]
    exact sA_part s _ off a _ n z2 (by omega)
  · rw [Int.tmod_eq_emod_of_nonneg f3]
    exact sB_part s _ off a b _ _ n z2 (by omega) (by omega)

theorem add_last (s t : ByteArray) (a b : Int) (off : Nat) (hn5 : t.size ≤ 5000) (HE : ∀ i, i < t.size → byt t i = byt s (off + i)) :
    (sA t (sA s a off % 65521) t.size).tmod 65521 = sA s a (off + t.size) % 65521 ∧
    (sB t (sA s a off % 65521) (sB s a b off % 65521) t.size).tmod 65521 = sB s a b (off + t.size) % 65521 := by
  obtain ⟨f1, f2, f3, f4⟩ := sums_fit t (sA s a off % 65521) (sB s a b off % 65521) t.size (by omega) (by omega) (by omega) (by omega) hn5
  rw [Int.tmod_eq_emod_of_nonneg f1, Int.tmod_eq_emod_of_nonneg f3]
  exact ⟨sA_part s t off a _ _ HE (by omega), sB_part s t off a b _ _ _ HE (by omega) (by omega)⟩

set_option maxRecDepth 100000 in
set_option maxHeartbeats 400000 in
theorem add_any (sum : Int) (s : ByteArray) (w : World) (h0 : 0 ≤ sum) (h1 : sum ≤ 4294967295) (hs : s.size ≤ 140737488351232) :
    Calls Try.prog 77 #[.int .u32 sum, .string s] w fun e w' => e = .returned (.int .u32 (addS sum s)) ∧ Below w.heap.size w w' := by
  obtain ⟨a1, a2⟩ := loA_bd sum
  obtain ⟨b1, b2⟩ := hiA_bd sum
  go_enter Try.func77, Try.ntmps77
  go_wp2_with (go_at_call 79; refine (parts_any _ _ (by omega) (by omega)).mono ?_; rintro e w' ⟨rfl, rfl⟩)
  go_loopw [1, 5, 6] (fun sv x y wr => ∃ (t : ByteArray) (off : Nat), off ≤ s.size ∧ sv = .string t ∧ Aside (t.size = s.size - off) ∧ Aside (∀ i, i < t.size → byt t i = byt s (off + i)) ∧ x = .int .u32 (sA s (loA sum) off % 65521) ∧ y = .int .u32 (sB s (loA sum) (hiA sum) off % 65521) ∧ Below w.heap.size w wr)
    (fun sv _ _ _ => strSize sv)
  case atStart => exact ⟨s, 0, by omega, rfl, ⟨by simp⟩, ⟨fun i _ => by simp⟩, congrArg _ (by simp [sA]; omega), congrArg _ (by simp [sB]; omega), Below.refl _ _⟩
  case round =>
    obtain ⟨t, off, hoff, rfl, HT, HE, rfl, rfl, hb0⟩ := hrel
    have HB := Aside.mk hb0
    clear hb0
    have ht : t.size ≤ 140737488351232 := by have := HT.out; omega
    by_cases hbig : 5000 ≤ t.size
    · go_wp2_with (go_at_call 80; refine (some_any _ _ _ _ (by omega) (by omega) (by omega) (by omega) ?hsz).mono ?_; (case hsz => simp; omega); rintro e w' ⟨rfl, hb⟩; replace HB := Aside.mk (bl_step HB.out hb); clear hb)
      obtain ⟨k1, k2, k3, k4⟩ := add_round s t (loA sum) (hiA sum) off 5000 hbig (by omega) hoff HT.out HE.out
      rw [k3, k4]
      exact ⟨⟨_, off + 5000, by have := HT.out; omega, rfl, ⟨k1⟩, ⟨k2⟩, rfl, rfl, HB.out⟩, by have := HT.out; simp only [strSize]; omega⟩
    · by_cases hpos : 0 < t.size
      · have hsm : t.size < 5000 := by omega
        clear hbig
        go_wp2_with (go_at_call 80; refine (some_any _ _ _ _ (by omega) (by omega) (by omega) (by omega) ?hsz).mono ?_; (case hsz => omega); rintro e w' ⟨rfl, hb⟩; replace HB := Aside.mk (bl_step HB.out hb); clear hb)
        obtain ⟨k3, k4⟩ := add_last s t (loA sum) (hiA sum) off (by omega) HE.out
        have hT := HT.out
        rw [k3, k4]
        exact ⟨⟨_, off + t.size, by omega, rfl, ⟨by simp; omega⟩, ⟨fun i hi => absurd hi (by simp)⟩, rfl, rfl, HB.out⟩, by simp only [strSize]; simp; omega⟩
      · have hT := HT.out
        have e : s.size = off := by omega
        have hadd : addS sum s = sB s (loA sum) (hiA sum) off % 65521 * 65536 + sA s (loA sum) off % 65521 := by unfold addS; rw [e]
        have HA := Aside.mk hadd
        clear hadd e
        have ho := u32_or_high (sB s (loA sum) (hiA sum) off % 65521) (sA s (loA sum) off % 65521) (by omega) (by omega) (by omega) (by omega)
        clear hT
        go_wp2
        go_ret
        exact ⟨ret_int HA.out.symm, HB.out⟩
theorem sum_any (s : ByteArray) (w : World) (hs : s.size ≤ 140737488351232) :
    Calls Try.prog 71 #[.string s] w fun e w' => e = .returned (.int .u32 (addS 1 s)) ∧ Below w.heap.size w w' := by
  go_enter Try.func71, Try.ntmps71
  go_wp2_with (go_at_call 77; refine (add_any _ _ _ (by omega) (by omega) (by omega)).mono ?_; rintro e w' ⟨rfl, hb⟩)
  go_ret
  exact ⟨rfl, hb⟩

set_option maxRecDepth 100000 in
set_option maxHeartbeats 400000 in
theorem refAdd_any (sum : Int) (s : ByteArray) (w : World) (h0 : 0 ≤ sum) (h1 : sum ≤ 4294967295) (hs : s.size ≤ 140737488351232) :
    Calls Try.prog 78 #[.int .u32 sum, .string s] w fun e w' => e = .returned (.int .u32 (addS sum s)) ∧ w = w' := by
  obtain ⟨a1, a2⟩ := loA_bd sum
  obtain ⟨b1, b2⟩ := hiA_bd sum
  go_enter Try.func78, Try.ntmps78
  go_wp2
  go_loop [5, 6, 7] (fun x y i => ∃ k : Nat, k ≤ s.size ∧ i = .int .i64 k ∧ x = .int .u32 (sA s (loA sum) k % 65521) ∧ y = .int .u32 (sB s (loA sum) (hiA sum) k % 65521)) (fun _ _ i => s.size - (intOf i).toNat)
  case atStart => exact ⟨0, by omega, rfl, congrArg _ (by simp only [sA]; unfold loA; omega), congrArg _ (by simp only [sB]; unfold hiA; omega)⟩
  case round =>
    obtain ⟨k, hk, rfl, rfl, rfl⟩ := hrel
    by_cases hlt : k < s.size
    · have g0 := run_idx (P := Try.prog) 9 s .i64 (k : Int) k rfl hlt Try.underlying9 w
      obtain ⟨p0, q0⟩ := byt_bd s k
      go_wp2
      clear g0
      go_round
      case rel => exact ⟨k + 1, by omega, by go_num, congrArg _ (by simp only [sA]; omega), congrArg _ (by simp only [sB, sA]; omega)⟩
      case measure => simp [intOf]; omega
    · obtain rfl : k = s.size := by omega
      go_wp2
      go_ret
      exact ⟨ret_int rfl, rfl⟩

theorem refSum_any (s : ByteArray) (w : World) (hs : s.size ≤ 140737488351232) :
    Calls Try.prog 72 #[.string s] w fun e w' => e = .returned (.int .u32 (addS 1 s)) ∧ w = w' := by
  go_enter Try.func72, Try.ntmps72
  go_wp2_with (go_at_call 78; refine (refAdd_any _ _ _ (by omega) (by omega) (by omega)).mono ?_; rintro e w' ⟨rfl, rfl⟩)
  go_ret
  exact ⟨rfl, rfl⟩

end Go.Proofs.Ytjmenlffhoodeab
