/- What roll's functions compute, walked. -/
import Derived.Test.YtjmenlffhoodeabProg
import Derived.Test.YtjmenlffhoodeabK
import Derived.Test.YtjmenlffhoodeabRollP
import Derived.Deep.RegionWith
import Derived.WalkMore
namespace Go.Proofs.Ytjmenlffhoodeab
open Go.RowKit

set_option maxHeartbeats 400000 in
theorem next_any (h c : Int) (w : World) (h0 : 0 ≤ h) (h1 : h < 2147483647) (c0 : 0 ≤ c) (c1 : c ≤ 255) :
    Calls Try.prog 59 #[.int .i64 h, .int .u8 c] w fun e w' => e = .returned (.int .i64 ((h * 257 + c + 1) % 2147483647)) ∧ w = w' := by
  go_enter Try.func59, Try.ntmps59
  go_wp2
  go_ret
  exact ⟨rfl, rfl⟩

set_option maxHeartbeats 400000 in
theorem hash_any (s : ByteArray) (w : World) (hs0 : s.size ≤ 140737488351232) :
    Calls Try.prog 23 #[.string s] w fun e w' => e = .returned (.int .i64 (hs s 0 s.size)) ∧ Below w.heap.size w w' := by
  obtain ⟨cap, W, hconv, hcell, hbel⟩ := conv_bytes (P := Try.prog) w 9 86 5 s w.heap.size rfl Try.underlying9 Try.underlying86 Try.underlying5
  have HC := Aside.mk hcell
  have HB := Aside.mk hbel
  clear hcell hbel
  go_enter Try.func23, Try.ntmps23
  go_wp2
  clear hconv
  go_loop [3, 9] (fun x i => ∃ k : Nat, k ≤ s.size ∧ i = .int .i64 k ∧ x = .int .i64 (hs s 0 k)) (fun _ i => s.size - (intOf i).toNat)
  case atStart => exact ⟨0, by omega, rfl, congrArg _ rfl⟩
  case round =>
    obtain ⟨k, hk, rfl, rfl⟩ := hrel
    obtain ⟨f1, f2⟩ := hs_bd s 0 k
    by_cases hlt : k < s.size
    · have hc := HC.out k hlt
      obtain ⟨p0, q0⟩ := byt_bd s k
      go_wp2_with (go_at_call 59; refine (next_any _ _ _ (by omega) (by omega) (by omega) (by omega)).mono ?_; rintro e w' ⟨rfl, rfl⟩)
      go_round
      case rel => exact ⟨k + 1, by omega, by go_num, congrArg _ (by rw [hs_succ, Nat.zero_add])⟩
      case measure => simp [intOf]; omega
    · obtain rfl : k = s.size := by omega
      go_wp2
      go_ret
      exact ⟨rfl, HB.out⟩

theorem i64_and_one (x : Int) (h0 : 0 ≤ x) (h1 : x ≤ 9223372036854775807) : bits .and .i64 x 1 = x % 2 := by
  obtain ⟨X, rfl⟩ := Int.eq_ofNat_of_zero_le h0
  have hX : (BitVec.ofInt 64 (X : Int)).toNat = X := by
    rw [BitVec.ofInt_natCast, BitVec.toNat_ofNat]; exact Nat.mod_eq_of_lt (by omega)
  show IntKind.i64.wrap ((BitVec.ofInt 64 (X : Int) &&& BitVec.ofInt 64 1).toNat : Int) = _
  have h1' : (BitVec.ofInt 64 1).toNat = 2 ^ 1 - 1 := by decide
  rw [BitVec.toNat_and, hX, h1', Nat.and_two_pow_sub_one_eq_mod, IntKind.wrap_i64]
  omega

set_option maxHeartbeats 400000 in
theorem power_any (n : Nat) (w : World) (hn : n ≤ 140737488351232) :
    Calls Try.prog 61 #[.int .i64 n] w fun e w' => e = .returned (.int .i64 (pw n)) ∧ w = w' := by
  go_enter Try.func61, Try.ntmps61
  go_wp2
  go_loop [0, 3, 4] (fun nv ov xv => ∃ (m : Nat) (o x : Int), m ≤ n ∧ nv = .int .i64 m ∧ ov = .int .i64 o ∧ xv = .int .i64 x ∧ 0 ≤ o ∧ o < 2147483647 ∧ 0 ≤ x ∧ x < 2147483647 ∧ Aside (o * x ^ m % 2147483647 = pw n)) (fun nv _ _ => (intOf nv).toNat)
  case atStart => exact ⟨n, 1, 257, by omega, rfl, rfl, rfl, by omega, by omega, by omega, by omega, ⟨by rw [Int.one_mul]; rfl⟩⟩
  case round =>
    obtain ⟨m, o, x, hm, rfl, rfl, rfl, o0, o1, x0, x1, HP⟩ := hrel
    have hand := i64_and_one (m : Int) (by omega) (by omega)
    have m1 : 0 ≤ o * x := Int.mul_nonneg o0 x0
    have m2 : o * x ≤ 4611686014132420609 := by
      have h1 : o * x ≤ 2147483647 * x := Int.mul_le_mul_of_nonneg_right (by omega) x0
      omega
    have m3 : 0 ≤ x * x := Int.mul_nonneg x0 x0
    have m4 : x * x ≤ 4611686014132420609 := by
      have h1 : x * x ≤ 2147483647 * x := Int.mul_le_mul_of_nonneg_right (by omega) x0
      omega
    by_cases hz : m = 0
    · subst hz
      go_wp2
      go_ret
      exact ⟨ret_int (by have := HP.out; simp at this; omega), rfl⟩
    · by_cases hodd : m % 2 = 1
      · go_wp2
        exact ⟨⟨m / 2, _, _, by omega, congrArg _ (by omega), rfl, rfl, by omega, by omega, by omega, by omega, ⟨(pow_odd o x m hodd).trans HP.out⟩⟩, by simp [intOf]; omega⟩
      · go_wp2
        exact ⟨⟨m / 2, o, _, by omega, congrArg _ (by omega), rfl, rfl, by omega, by omega, by omega, by omega, ⟨(pow_even o x m (by omega)).trans HP.out⟩⟩, by simp [intOf]; omega⟩

set_option maxHeartbeats 400000 in
theorem rolled_any (h o x p : Int) (w : World) (h0 : 0 ≤ h) (h1 : h < 2147483647) (o0 : 0 ≤ o) (o1 : o ≤ 255) (x0 : 0 ≤ x) (x1 : x ≤ 255) (p0 : 0 ≤ p) (p1 : p < 2147483647) :
    Calls Try.prog 60 #[.int .i64 h, .int .u8 o, .int .u8 x, .int .i64 p] w fun e w' => e = .returned (.int .i64 (rolledS h o x p)) ∧ w = w' := by
  have m1 : 0 ≤ (o + 1) * p := Int.mul_nonneg (by omega) p0
  have m2 : (o + 1) * p ≤ 549755813888 := by
    have : (o + 1) * p ≤ 256 * p := Int.mul_le_mul_of_nonneg_right (by omega) p0
    omega
  go_enter Try.func60, Try.ntmps60
  go_wp2_with (go_at_call 59; refine (next_any _ _ _ (by omega) (by omega) (by omega) (by omega)).mono ?_; rintro e w' ⟨rfl, rfl⟩)
  go_ret
  exact ⟨ret_int (by unfold rolledS; rfl), rfl⟩

theorem power_int (n : Int) (w : World) (h0 : 0 ≤ n) (hn : n ≤ 140737488351232) :
    Calls Try.prog 61 #[.int .i64 n] w fun e w' => e = .returned (.int .i64 (pw n.toNat)) ∧ w = w' := by
  obtain ⟨N, rfl⟩ := Int.eq_ofNat_of_zero_le h0
  exact power_any N w (by omega)

set_option maxHeartbeats 400000 in
theorem roll_ok (h o x n : Int) (w : World) (h0 : 0 ≤ h) (h1 : h < 2147483647) (o0 : 0 ≤ o) (o1 : o ≤ 255) (x0 : 0 ≤ x) (x1 : x ≤ 255) (n0 : 1 ≤ n) (n1 : n ≤ 1048576) :
    Calls Try.prog 24 #[.int .i64 h, .int .u8 o, .int .u8 x, .int .i64 n] w fun e w' => e = .returned (.tuple #[.int .i64 (rolledS h o x (pw n.toNat)), .int .i64 0]) ∧ w = w' := by
  obtain ⟨p0, p1⟩ := pw_bd n.toNat
  have t1 : (decide (n < 1)) = false := decide_eq_false (by omega)
  have t2 : (decide (1048576 < n)) = false := decide_eq_false (by omega)
  have t3 : (decide (h < 0)) = false := decide_eq_false (by omega)
  have t4 : (decide (2147483647 ≤ h)) = false := decide_eq_false (by omega)
  go_enter Try.func24, Try.ntmps24
  go_wp2_with (first
    | (go_at_call 61; refine (power_int n _ (by omega) (by omega)).mono ?_; rintro e w' ⟨rfl, rfl⟩)
    | (go_at_call 60; refine (rolled_any _ _ _ _ _ (by omega) (by omega) (by omega) (by omega) (by omega) (by omega) (by omega) (by omega)).mono ?_; rintro e w' ⟨rfl, rfl⟩))
  go_ret2
  exact ⟨rfl, rfl⟩

set_option maxRecDepth 1000000 in
set_option maxHeartbeats 400000 in
theorem roll_bad (h o x n : Int) (w : World) (hh : h < 0) (n0 : 1 ≤ n) (n1 : n ≤ 1048576) :
    Calls Try.prog 24 #[.int .i64 h, .int .u8 o, .int .u8 x, .int .i64 n] w fun e w' => e = .returned (.tuple #[.int .i64 0, .int .i64 1]) ∧ w = w' := by
  go_enter Try.func24, Try.ntmps24
  go_wp2
  go_ret2
  exact ⟨rfl, rfl⟩

/-- The places of a pattern among the first k. -/
def hit (s p : ByteArray) (i : Nat) : Bool := (s.extract i (i + p.size)).toList == p.toList
def occ (s p : ByteArray) : Nat → List Int
  | 0 => []
  | k + 1 => occ s p k ++ if hit s p k then [(k : Int)] else []
theorem occ_len (s p : ByteArray) (k : Nat) : (occ s p k).length ≤ k := by
  induction k with
  | zero => simp [occ]
  | succ k ih => simp only [occ, List.length_append]; split <;> simp <;> omega

theorem info3 : (Try.prog.info? 3).map (fun i => (i.zero, i.size, i.bytes)) = some (some (.int .i64 0), 1, 8) := by kernel_rfl

set_option maxRecDepth 100000 in
set_option maxHeartbeats 400000 in
theorem refFind_any (s p : ByteArray) (w : World) (h1 : s.size ≤ 1000) (h2 : p.size ≤ 200) :
    Calls Try.prog 27 #[.string s, .string p] w fun e w' => ∃ v, e = .returned v ∧ w'.ownsRow w.heap.size 3 1 v (occ s p (s.size + 1 - p.size)).length ((occ s p (s.size + 1 - p.size)).map (Value.int .i64)) ∧ Below w.heap.size w w' := by
  obtain ⟨i0, hi, hz0, hz1, hz2⟩ := info_parts info3
  go_enter Try.func27, Try.ntmps27
  go_wp2
  go_loopw [5, 6] (fun v i wr => ∃ k : Nat, k ≤ s.size + 1 - p.size ∧ i = .int .i64 k ∧ wr.ownsRow w.heap.size 3 1 v (occ s p k).length ((occ s p k).map (Value.int .i64)) ∧ Below w.heap.size w wr) (fun _ i _ => (s.size + 1 - p.size) - (intOf i).toNat)
  case atStart => exact ⟨0, by omega, rfl, World.ownsRow_nil _ _ _ _, Below.refl _ _⟩
  case round =>
    obtain ⟨k, hk, rfl, hown, hb⟩ := hrel
    by_cases hlt : k + p.size ≤ s.size
    · have hl := occ_len s p k
      have HB := Aside.mk hb
      clear hb
      cases hh : hit s p k with
      | true =>
        have hh' : ((s.extract k (k + p.size)).toList == p.toList) = true := hh
        have HH := Aside.mk hh
        clear hh
        go_wp2_with (at_builtin; refine wpList_append_own _ rfl _ _ 35 rfl w.heap.size 3 i0 (.int .i64 0) 1 8 Try.underlying35 hi hz0 hz1 hz2 rfl (by decide) _ _ _ rfl (hown.alloc _) ⟨wr.heap.size, 0, none⟩ 1 1 [.int .i64 k] rfl rfl ?c1 ?c2 ?c3 ?c4 ?c5 ?_)
        case c1 => exact cell_one_new _ _ _
        case c2 => simp [Value.oneCell']
        case c3 => unfold maxLen; omega
        case c4 => omega
        case c5 => have := HB.out.size; simp; omega
        intro v' w1 hown' hgrow _
        have HB1 := Aside.mk (below_grown (bl_alloc HB.out _) (hown.alloc _) hgrow)
        clear hgrow hown
        go_wp2
        have e : occ s p (k + 1) = occ s p k ++ [(k : Int)] := by simp [occ, HH.out]
        exact ⟨⟨k + 1, by omega, by go_num, by rw [e]; simpa using hown', HB1.out⟩, by simp [intOf]; omega⟩
      | false =>
        have hh' : ((s.extract k (k + p.size)).toList == p.toList) = false := hh
        have HH := Aside.mk hh
        clear hh
        go_wp2
        have e : occ s p (k + 1) = occ s p k := by simp [occ, HH.out]
        exact ⟨⟨k + 1, by omega, by go_num, by rw [e]; exact hown, HB.out⟩, by simp [intOf]; omega⟩
    · obtain rfl : k = s.size + 1 - p.size := by omega
      go_wp2
      go_ret
      exact ⟨_, rfl, hown, hb⟩

theorem own_snoc {w1 : World} {B : Nat} {s p : ByteArray} {k : Nat} {v : Value} (he : occ s p (k + 1) = occ s p k ++ [(k : Int)]) (h : w1.ownsRow B 3 1 v ((occ s p k).length + 1) ((occ s p k).map (Value.int .i64) ++ [.int .i64 k])) :
    w1.ownsRow B 3 1 v (occ s p (k + 1)).length ((occ s p (k + 1)).map (Value.int .i64)) := by
  rw [he]; simpa using h
theorem quiet_left {P : Program} {f : FuncId} {args : Array Value} {w : World} {n : Nat} {v : Value}
    (h : Calls P f args (w.drewN n) fun e w' => e = .returned v ∧ w.drewN n = w') : Calls P f args (w.drewN n) fun e w'' => e = .returned v ∧ ∃ m, w'' = w.drewN m :=
  h.mono fun _ _ ⟨he, hm⟩ => ⟨he, n, hm.symm⟩
theorem toList_inj {a b : ByteArray} (h : a.toList = b.toList) : a = b := by
  rw [ByteArray.toList_eq, ByteArray.toList_eq] at h
  exact ByteArray.ext (Array.ext' h)
theorem hit_hash (s p : ByteArray) (i : Nat) (hi : i + p.size ≤ s.size) (h : hit s p i = true) : hs s i p.size = hs p 0 p.size := by
  have e : s.extract i (i + p.size) = p := by
    unfold hit at h
    have h2 : (s.extract i (i + p.size)).toList = p.toList := by simpa using h
    exact toList_inj h2
  rw [← hs_extract s i p.size hi, e]

set_option maxRecDepth 100000 in
set_option maxHeartbeats 400000 in
theorem find_none (s p : ByteArray) (w : World) (hlt : s.size < p.size) :
    Calls Try.prog 26 #[.string s, .string p] w fun e w' => e = .returned (.slice none 0 0) ∧ w = w' := by
  go_enter Try.func26, Try.ntmps26
  go_wp2
  go_step3
  go_wp2
  rw [Exit.noGoto_ret]
  go_ret
  exact ⟨rfl, rfl⟩

set_option maxRecDepth 100000 in
set_option maxHeartbeats 2000000 in
theorem find_any (s p : ByteArray) (w : World) (h1 : s.size ≤ 1000) (h2 : p.size ≤ 200) (hle : p.size ≤ s.size) :
    Calls Try.prog 26 #[.string s, .string p] w fun e w' => ∃ v, e = .returned v ∧ w'.ownsRow w.heap.size 3 1 v (occ s p (s.size + 1 - p.size)).length ((occ s p (s.size + 1 - p.size)).map (Value.int .i64)) ∧ Below w.heap.size w w' := by
  obtain ⟨i0, hi, hz0, hz1, hz2⟩ := info_parts info3
  have HB := Aside.mk (Below.refl w.heap.size w)
  go_enter Try.func26, Try.ntmps26
  go_wp2
  go_step3
  go_wp2
  go_region_with (first
    | (go_at_call 23; refine (hash_any _ _ ?hz).mono ?_; (case hz => first | omega | (simp; omega)); rintro e w' ⟨rfl, hb⟩; replace HB := Aside.mk (bl_step (by repeat (first | exact HB.out | apply bl_alloc | apply bl_drewN | apply bl_drew)) hb); clear hb)
    | (go_at_call 61; refine (power_any _ _ (by omega)).mono ?_; rintro e w' ⟨rfl, rfl⟩))
  go_wp2
  go_step3
  go_wp2
  have e0 : hs (s.extract 0 p.size) 0 p.size = hs s 0 p.size := by have := hs_extract s 0 p.size (by omega); rwa [Nat.zero_add] at this
  have E0 := Aside.mk e0
  clear e0
  go_loopw [7, 9, 10] (fun hv v i wr => ∃ k : Nat, k + p.size ≤ s.size ∧ i = .int .i64 k ∧ hv = .int .i64 (hs s k p.size) ∧ wr.ownsRow w.heap.size 3 1 v (occ s p k).length ((occ s p k).map (Value.int .i64)) ∧ Below w.heap.size w wr) (fun _ _ i _ => (s.size + 1 - p.size) - (intOf i).toNat)
  case atStart => exact ⟨0, by omega, rfl, congrArg _ E0.out, World.ownsRow_nil _ _ _ _, HB.out⟩
  case round =>
    obtain ⟨k, hk, rfl, rfl, hown, hb⟩ := hrel
    have hl := occ_len s p k
    clear HB
    have HB := Aside.mk hb
    clear hb E0
    have F1 := Aside.mk (hs_bd s k p.size)
    have F2 := Aside.mk (pw_bd p.size)
    cases hh : hit s p k with
    | true =>
      have hq : (hs s k p.size == hs p 0 p.size) = true := by rw [hit_hash s p k hk hh]; exact beq_self_eq_true _
      have hh' : ((s.extract k (k + p.size)).toList == p.toList) = true := hh
      have HE : Aside (occ s p (k + 1) = occ s p k ++ [(k : Int)]) := ⟨by simp [occ, hh]⟩
      clear hh
      by_cases hlast : k + p.size = s.size
      · have HL : Aside (k + p.size = s.size) := ⟨hlast⟩
        have hge : s.size ≤ k + p.size := by omega
        clear hlast
        go_wp2_with (at_builtin; refine wpList_append_own _ rfl _ _ 35 rfl w.heap.size 3 i0 (.int .i64 0) 1 8 Try.underlying35 hi hz0 hz1 hz2 rfl (by decide) _ _ _ rfl (hown.alloc _) ⟨wr.heap.size, 0, none⟩ 1 1 [.int .i64 k] rfl rfl ?c1 ?c2 ?c3 ?c4 ?c5 ?_)
        case c1 => exact cell_one_new _ _ _
        case c2 => simp [Value.oneCell']
        case c3 => unfold maxLen; omega
        case c4 => omega
        case c5 => have := HB.out.size; simp; omega
        intro v' w1 hown' hgrow _
        have HB1 := Aside.mk (below_grown (bl_alloc HB.out _) (hown.alloc _) hgrow)
        clear hgrow hown
        go_wp2
        rw [Exit.noGoto_ret]
        go_ret
        exact ⟨_, rfl, by rw [show s.size + 1 - p.size = k + 1 from by have := HL.out; omega, HE.out]; simpa using hown', HB1.out⟩
      · have hlt : k + p.size < s.size := by omega
        clear hlast
        go_wp2_with (at_builtin; refine wpList_append_own _ rfl _ _ 35 rfl w.heap.size 3 i0 (.int .i64 0) 1 8 Try.underlying35 hi hz0 hz1 hz2 rfl (by decide) _ _ _ rfl (hown.alloc _) ⟨wr.heap.size, 0, none⟩ 1 1 [.int .i64 k] rfl rfl ?c1 ?c2 ?c3 ?c4 ?c5 ?_)
        case c1 => exact cell_one_new _ _ _
        case c2 => simp [Value.oneCell']
        case c3 => unfold maxLen; omega
        case c4 => omega
        case c5 => have := HB.out.size; simp; omega
        intro v' w1 hown' hgrow _
        have HB1 := Aside.mk (below_grown (bl_alloc HB.out _) (hown.alloc _) hgrow)
        clear hgrow hown
        by_cases hp : 0 < p.size
        · go_wp2
          have g0 := run_idx (P := Try.prog) 9 s .i64 (k : Int) k rfl (by omega) Try.underlying9
          have g1 := run_idx (P := Try.prog) 9 s .i64 ((k : Int) + p.size) (k + p.size) (by omega) (by omega) Try.underlying9
          have e1 : IntKind.i64.wrap ((k : Int) + p.size) = (k : Int) + p.size := IntWalk.i64_in _ (by omega)
          go_quiet ((go_at_call 60; exact quiet_left (rolled_any _ _ _ _ _ F1.out.1 F1.out.2 (byt_bd _ _).1 (byt_bd _ _).2 (byt_bd _ _).1 (byt_bd _ _).2 F2.out.1 F2.out.2)))
          clear g0 g1 e1
          go_wp2
          exact ⟨⟨k + 1, by omega, by go_num, congrArg _ (rolled_hs s k p.size), own_snoc HE.out hown', bl_drewN HB1.out _⟩, by simp [intOf]; omega⟩
        · have hz : p.size = 0 := by omega
          have HZ := Aside.mk hz
          clear hz
          go_wp2
          exact ⟨⟨k + 1, by omega, by go_num, congrArg _ (by rw [HZ.out]; rfl), own_snoc HE.out hown', HB1.out⟩, by simp [intOf]; omega⟩
    | false =>
      have hh' : ((s.extract k (k + p.size)).toList == p.toList) = false := hh
      have HE : Aside (occ s p (k + 1) = occ s p k) := ⟨by simp [occ, hh]⟩
      clear hh
      cases hq : (hs s k p.size == hs p 0 p.size)
      all_goals
        by_cases hlast : k + p.size = s.size
        · have hge : s.size ≤ k + p.size := by omega
          have HL : Aside (k + p.size = s.size) := ⟨hlast⟩
          clear hlast
          go_wp2
          rw [Exit.noGoto_ret]
          go_ret
          exact ⟨_, rfl, by rw [show s.size + 1 - p.size = k + 1 from by have := HL.out; omega, HE.out]; exact hown, HB.out⟩
        · have hlt : k + p.size < s.size := by omega
          clear hlast
          by_cases hp : 0 < p.size
          · go_wp2
            have g0 := run_idx (P := Try.prog) 9 s .i64 (k : Int) k rfl (by omega) Try.underlying9
            have g1 := run_idx (P := Try.prog) 9 s .i64 ((k : Int) + p.size) (k + p.size) (by omega) (by omega) Try.underlying9
            have e1 : IntKind.i64.wrap ((k : Int) + p.size) = (k : Int) + p.size := IntWalk.i64_in _ (by omega)
            go_quiet ((go_at_call 60; exact quiet_left (rolled_any _ _ _ _ _ F1.out.1 F1.out.2 (byt_bd _ _).1 (byt_bd _ _).2 (byt_bd _ _).1 (byt_bd _ _).2 F2.out.1 F2.out.2)))
            clear g0 g1 e1
            go_wp2
            exact ⟨⟨k + 1, by omega, by go_num, congrArg _ (rolled_hs s k p.size), by rw [HE.out]; exact hown, bl_drewN HB.out _⟩, by simp [intOf]; omega⟩
          · have hz : p.size = 0 := by omega
            have HZ := Aside.mk hz
            clear hz
            go_wp2
            exact ⟨⟨k + 1, by omega, by go_num, congrArg _ (by rw [HZ.out]; rfl), by rw [HE.out]; exact hown, HB.out⟩, by simp [intOf]; omega⟩
end Go.Proofs.Ytjmenlffhoodeab
