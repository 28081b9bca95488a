/- roll's awake and the two laws' walks. -/
import Derived.Test.YtjmenlffhoodeabProg
import Derived.Test.YtjmenlffhoodeabRoll
import Derived.Test.YtjmenlffhoodeabInts
namespace Go.Proofs.Ytjmenlffhoodeab
open Go.RowKit

theorem hash_val (s : ByteArray) (v : Int) (w : World) (hz : s.size ≤ 140737488351232) (h : hs s 0 s.size = v) :
    Calls Try.prog 23 #[.string s] w fun e w' => e = .returned (.int .i64 v) ∧ Below w.heap.size w w' := by
  subst h; exact hash_any s w hz
theorem find_val (s p : ByteArray) (l : List Int) (w : World) (h1 : s.size ≤ 1000) (h2 : p.size ≤ 200) (h : occ s p (s.size + 1 - p.size) = l) :
    Calls Try.prog 26 #[.string s, .string p] w fun e w' => ∃ v, e = .returned v ∧ IntsAt w' w'.heap.size v l ∧ Below w.heap.size w w' := by
  subst h
  rcases Nat.lt_or_ge s.size p.size with hlt | hge
  · refine (find_none s p w hlt).mono ?_
    rintro e w' ⟨rfl, rfl⟩
    have e : occ s p (s.size + 1 - p.size) = [] := by rw [show s.size + 1 - p.size = 0 from by omega]; rfl
    exact ⟨_, rfl, .inl ⟨rfl, e⟩, Below.refl _ _⟩
  · refine (find_any s p w h1 h2 hge).mono ?_
    rintro e w' ⟨v, rfl, ho, hb⟩
    exact ⟨_, rfl, intsAt_own ho, hb⟩
theorem refFind_val (s p : ByteArray) (w : World) (h1 : s.size ≤ 1000) (h2 : p.size ≤ 200) :
    Calls Try.prog 27 #[.string s, .string p] w fun e w' => ∃ v, e = .returned v ∧ IntsAt w' w'.heap.size v (occ s p (s.size + 1 - p.size)) ∧ Below w.heap.size w w' :=
  (refFind_any s p w h1 h2).mono fun _ _ ⟨v, he, ho, hb⟩ => ⟨v, he, intsAt_own ho, hb⟩
theorem intsAt_pair (w : World) (a b : Int) : IntsAt (w.alloc (.cells #[.int .i64 a, .int .i64 b] 3)) (w.heap.size + 1) (.slice (some ⟨w.heap.size, 0, none⟩) 2 2) [a, b] := by
  refine .inr ⟨w.heap.size, 2, rfl, by omega, by simp, by simp [maxLen], fun i hi => ?_⟩
  match i, hi with
  | 0, _ => simp [go_sem]
  | 1, _ => simp [go_sem]
theorem ints_val (xs ys : List Int) (a b : Value) (r : Bool) (B : Nat) (w : World) (ha : IntsAt w B a xs) (hb : IntsAt w B b ys) (h : decide (xs = ys) = r) :
    Calls Try.prog 25 #[a, b] w fun e w' => e = .returned (.bool r) ∧ Below w.heap.size w w' := by
  subst h
  exact (ints_any xs ys a b B w ha hb).mono fun _ _ ⟨he, n, hw⟩ => ⟨he, by subst hw; exact bl_drewN (Below.refl _ _) n⟩

set_option maxRecDepth 100000 in
set_option maxHeartbeats 1000000 in
theorem awake42 (w : World) : Calls Try.prog 22 #[] w fun e w' => e = .returned (.bool true) ∧ Below w.heap.size w w' := by
  have f5 : rolledS 25285 97 99 (pw (2 : Int).toNat) = 25543 := by decide
  have HB := Aside.mk (Below.refl w.heap.size w)
  have F5 := Aside.mk f5
  clear f5
  go_enter Try.func22, Try.ntmps22
  go_wp2_with fail
  refine (hash_val ⟨#[97, 98]⟩ 25285 _ (by decide) (by decide)).mono ?_
  rintro e w1 ⟨rfl, hb⟩
  replace HB := Aside.mk (bl_step HB.out hb)
  clear hb
  go_wp2_with fail
  refine (roll_ok _ _ _ _ _ (by omega) (by omega) (by omega) (by omega) (by omega) (by omega) (by omega) (by omega)).mono ?_
  rintro e w2 ⟨rfl, rfl⟩
  rw [F5.out]
  go_wp2_with fail
  refine (roll_bad _ _ _ _ _ (by omega) (by omega) (by omega)).mono ?_
  rintro e w2 ⟨rfl, rfl⟩
  go_wp2_with fail
  refine (hash_val ⟨#[]⟩ 0 _ (by decide) (by decide)).mono ?_
  rintro e w2 ⟨rfl, hb⟩
  replace HB := Aside.mk (bl_step HB.out hb)
  clear hb
  go_wp2_with fail
  refine (hash_val ⟨#[97]⟩ 98 _ (by decide) (by decide)).mono ?_
  rintro e w3 ⟨rfl, hb⟩
  replace HB := Aside.mk (bl_step HB.out hb)
  clear hb
  go_wp2_with fail
  refine (hash_val ⟨#[98, 99]⟩ 25543 _ (by decide) (by decide)).mono ?_
  rintro e w4 ⟨rfl, hb⟩
  replace HB := Aside.mk (bl_step HB.out hb)
  clear hb
  go_wp2_with fail
  refine (find_val ⟨#[97, 97, 97]⟩ ⟨#[97, 97]⟩ [0, 1] _ (by decide) (by decide) (by decide +kernel)).mono ?_
  rintro e w5 ⟨v5, rfl, hv5, hb⟩
  replace HB := Aside.mk (bl_step HB.out hb)
  have HV := Aside.mk hv5
  clear hb hv5
  go_wp2_with fail
  refine (ints_val [0, 1] [0, 1] _ _ true (w5.heap.size + 1) _ ((HV.out.keep (bl_alloc (Below.refl _ _) _)).up (by omega)) (intsAt_pair _ _ _) (by decide)).mono ?_
  rintro e w6 ⟨rfl, hb⟩
  replace HB := Aside.mk (bl_step (bl_alloc HB.out _) hb)
  clear hb HV
  go_wp2_with fail
  refine (find_val ⟨#[97]⟩ ⟨#[]⟩ [0, 1] _ (by decide) (by decide) (by decide +kernel)).mono ?_
  rintro e w7 ⟨v7, rfl, hv7, hb⟩
  replace HB := Aside.mk (bl_step HB.out hb)
  have HV := Aside.mk hv7
  clear hb hv7
  go_wp2_with fail
  refine (ints_val [0, 1] [0, 1] _ _ true (w7.heap.size + 1) _ ((HV.out.keep (bl_alloc (Below.refl _ _) _)).up (by omega)) (intsAt_pair _ _ _) (by decide)).mono ?_
  rintro e w8 ⟨rfl, hb⟩
  replace HB := Aside.mk (bl_step (bl_alloc HB.out _) hb)
  clear hb HV
  go_wp2_with fail
  refine (find_none ⟨#[97]⟩ ⟨#[97, 98]⟩ _ (by decide)).mono ?_
  rintro e w9 ⟨rfl, rfl⟩
  go_wp2
  go_ret
  exact ⟨rfl, HB.out⟩

set_option maxRecDepth 100000 in
set_option maxHeartbeats 1000000 in
theorem rollFinds_walk (s p : ByteArray) (w : World) (hs0 : s.size ≤ 140737488351232) (hp0 : p.size ≤ 140737488351232) :
    Calls Try.prog 6 #[.string s, .string p] w fun e w' => e = .returned (.bool true) ∧ Below w.heap.size w w' := by
  have HB := Aside.mk (Below.refl w.heap.size w)
  by_cases h1 : 1000 < s.size
  · go_enter Try.func6, Try.ntmps6
    go_wp2_with (go_at_call 22; refine (awake42 _).mono ?_; rintro e w' ⟨rfl, hb⟩)
    go_ret
    exact ⟨rfl, hb⟩
  · by_cases h2 : 200 < p.size
    · go_enter Try.func6, Try.ntmps6
      go_wp2_with (go_at_call 22; refine (awake42 _).mono ?_; rintro e w' ⟨rfl, hb⟩)
      go_ret
      exact ⟨rfl, hb⟩
    · go_enter Try.func6, Try.ntmps6
      go_wp2_with fail
      refine (find_val s p _ _ (by omega) (by omega) rfl).mono ?_
      rintro e w1 ⟨v1, rfl, hv1, hb⟩
      replace HB := Aside.mk (bl_step HB.out hb)
      have HV := Aside.mk hv1
      clear hb hv1
      go_wp2_with fail
      refine (refFind_val s p _ (by omega) (by omega)).mono ?_
      rintro e w2 ⟨v2, rfl, hv2, hb⟩
      replace HB := Aside.mk (bl_step HB.out hb)
      have HV2 := Aside.mk ((HV.out.keep hb).up hb.size)
      have HV3 := Aside.mk hv2
      clear hb hv2 HV
      go_wp2_with fail
      refine (ints_val _ _ _ _ true _ _ HV2.out HV3.out (by simp)).mono ?_
      rintro e w3 ⟨rfl, hb⟩
      replace HB := Aside.mk (bl_step HB.out hb)
      clear hb
      go_wp2_with fail
      refine (awake42 _).mono ?_
      rintro e w4 ⟨rfl, hb⟩
      replace HB := Aside.mk (bl_step HB.out hb)
      go_wp2
      go_ret
      exact ⟨rfl, HB.out⟩

set_option maxRecDepth 100000 in
set_option maxHeartbeats 2000000 in
theorem moves_any (s : ByteArray) (n : Int) (K : Nat) (w : World) (n0 : 0 ≤ n) (n1 : n ≤ 255) (hK : n % 40 + 1 = (K : Int)) (h1 : s.size ≤ 500) (h2 : K ≤ s.size) :
    Calls Try.prog 5 #[.string s, .int .u8 n] w fun e w' => e = .returned (.bool true) ∧ Below w.heap.size w w' := by
  have k0 : 1 ≤ K := by omega
  have k1 : K ≤ 40 := by omega
  have HB := Aside.mk (Below.refl w.heap.size w)
  have e0 : Aside (hs (s.extract 0 K) 0 K = hs s 0 K) := ⟨by have := hs_extract s 0 K (by omega); rwa [Nat.zero_add] at this⟩
  have hz0 : Aside ((s.extract 0 K).size = K) := ⟨by simp; omega⟩
  go_enter Try.func5, Try.ntmps5
  go_wp2_with fail
  refine (hash_val (s.extract 0 K) (hs s 0 K) _ (by rw [hz0.out]; omega) (by rw [hz0.out, e0.out])).mono ?_
  rintro e w1 ⟨rfl, hb⟩
  replace HB := Aside.mk (bl_step HB.out hb)
  clear hb
  go_wp2_with fail
  go_loopw [6, 7] (fun hv i wr => ∃ k : Nat, k + K ≤ s.size ∧ i = .int .i64 k ∧ hv = .int .i64 (hs s k K) ∧ Below w.heap.size w wr) (fun _ i _ => s.size - (intOf i).toNat)
  case atStart => exact ⟨0, by omega, rfl, rfl, HB.out⟩
  case round =>
    obtain ⟨k, hk, rfl, rfl, hb⟩ := hrel
    clear HB
    have HB := Aside.mk hb
    clear hb
    have F1 := Aside.mk (hs_bd s k K)
    by_cases hlt : k + K < s.size
    · have g0 := run_idx (P := Try.prog) 9 s .i64 (k : Int) k rfl (by omega) Try.underlying9
      have g1 := run_idx (P := Try.prog) 9 s .i64 ((k : Int) + K) (k + K) (by omega) (by omega) Try.underlying9
      have e1 : IntKind.i64.wrap ((k : Int) + K) = (k : Int) + K := IntWalk.i64_in _ (by omega)
      have HR : Aside (rolledS (hs s k K) (byt s k) (byt s (k + K)) (pw (K : Int).toNat) = hs s (k + 1) K) := ⟨by rw [Int.toNat_natCast]; exact rolled_hs s k K⟩
      go_wp2_with fail
      go_quiet ((go_at_call 24; exact quiet_left (roll_ok _ _ _ _ _ F1.out.1 F1.out.2 (byt_bd _ _).1 (byt_bd _ _).2 (byt_bd _ _).1 (byt_bd _ _).2 (by omega) (by omega))))
      clear g0 g1 e1
      have HR2 : Aside (rolledS (hs s k K) (byt s k) (byt s (k + K)) (pw K) = hs s (k + 1) K) := ⟨rolled_hs s k K⟩
      rw [HR.out, HR2.out]
      have hz1 : Aside ((s.extract (k + 1) (k + 1 + K)).size = K) := ⟨by simp; omega⟩
      have e1 : Aside (hs (s.extract (k + 1) (k + 1 + K)) 0 K = hs s (k + 1) K) := ⟨hs_extract s (k + 1) K (by omega)⟩
      go_wp2_with fail
      refine (hash_val _ (hs s (k + 1) K) _ (by rw [hz1.out]; omega) (by rw [hz1.out, e1.out])).mono ?_
      rintro e w2 ⟨rfl, hb⟩
      replace HB := Aside.mk (bl_step (bl_drewN HB.out _) hb)
      clear hb
      go_wp2
      exact ⟨⟨k + 1, by omega, by go_num, rfl, HB.out⟩, by simp [intOf]; omega⟩
    · go_wp2_with (go_at_call 22; refine (awake42 _).mono ?_; rintro e w' ⟨rfl, hb⟩; replace HB := Aside.mk (bl_step HB.out hb); clear hb)
      go_ret
      exact ⟨rfl, HB.out⟩

set_option maxRecDepth 100000 in
set_option maxHeartbeats 1000000 in
theorem moves_out (s : ByteArray) (n : Int) (w : World) (n0 : 0 ≤ n) (n1 : n ≤ 255) (hs0 : s.size ≤ 140737488351232) (h : 500 < s.size ∨ (s.size : Int) < n % 40 + 1) :
    Calls Try.prog 5 #[.string s, .int .u8 n] w fun e w' => e = .returned (.bool true) ∧ Below w.heap.size w w' := by
  by_cases h1 : 500 < s.size
  · clear h
    go_enter Try.func5, Try.ntmps5
    go_wp2_with (go_at_call 22; refine (awake42 _).mono ?_; rintro e w' ⟨rfl, hb⟩)
    go_ret
    exact ⟨rfl, hb⟩
  · have h2 : (s.size : Int) < n % 40 + 1 := by omega
    clear h
    go_enter Try.func5, Try.ntmps5
    go_wp2_with (go_at_call 22; refine (awake42 _).mono ?_; rintro e w' ⟨rfl, hb⟩)
    go_ret
    exact ⟨rfl, hb⟩
theorem rollMoves_walk (s : ByteArray) (n : Int) (w : World) (hs0 : s.size ≤ 140737488351232) (wn : (Lit.int .u8 n).wf = true) :
    Calls Try.prog 5 #[.string s, .int .u8 n] w fun e w' => e = .returned (.bool true) ∧ Below w.heap.size w w' := by
  obtain ⟨n0, n1⟩ := u8_bd wn
  by_cases h : 500 < s.size ∨ (s.size : Int) < n % 40 + 1
  · exact moves_out s n w n0 n1 hs0 h
  · exact moves_any s n (n % 40 + 1).toNat w n0 n1 (by omega) (by omega) (by omega)
end Go.Proofs.Ytjmenlffhoodeab
