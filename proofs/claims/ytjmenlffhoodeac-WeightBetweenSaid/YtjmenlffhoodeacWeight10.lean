/- The laws of weights, walked: WeightBetween. -/
import Derived.Test.YtjmenlffhoodeacWeight9
import Derived.Test.YtjmenlffhoodeacRuns9
namespace Go.Proofs.Ytjmenlffhoodeac
open Go.RowKit

set_option maxRecDepth 100000 in
set_option maxHeartbeats 400000 in
/-- The comparison of two lists, wherever they lie. -/
theorem ints_anyG (xs ys : List Int) (A A' : Option Addr) (ca cb : Nat) (B : Nat) (w : World) (ha : IntsG w B A xs) (hb : IntsG w B A' ys) (a1 : xs.length ≤ ca) (a2 : ca ≤ maxLen) (_b1 : ys.length ≤ cb) (_b2 : cb ≤ maxLen) :
    Calls Try.prog 14 #[.slice A xs.length ca, .slice A' ys.length cb] w fun e w' => e = .returned (.bool (decide (xs = ys))) ∧ Drawn w w' := by
  unfold maxLen at a2
  have HA := Aside.mk ha
  have HC := Aside.mk hb
  clear ha hb
  by_cases hl : xs.length = ys.length
  · have ht : ((xs.length : Int) != ys.length) = false := by simp [hl]
    have HL := Aside.mk hl
    clear hl
    go_enter Try.func14, Try.ntmps14
    go_wp2
    go_loopw [5] (fun i wr => ∃ k : Nat, k ≤ xs.length ∧ i = .int .i64 k ∧ Aside (xs.take k = ys.take k) ∧ ∃ n, wr = w.drewN n) (fun i _ => xs.length - (intOf i).toNat)
    case atStart => exact ⟨0, by omega, rfl, ⟨by simp⟩, 0, rfl⟩
    case round =>
      obtain ⟨k, hk, rfl, HT, nd, rfl⟩ := hrel
      by_cases hlt : k < xs.length
      · obtain ⟨ad, hA, _, c1⟩ := HA.out k hlt
        obtain ⟨ad', hA', _, c2⟩ := HC.out k (by have := HL.out; omega)
        subst hA hA'
        have i1 : (0 : Int) ≤ k := by omega
        have i2 : (k : Int) < xs.length := by omega
        have i3 : (k : Int) < ys.length := by have := HL.out; omega
        have hlt2 : k < ys.length := by omega
        have T1 := Aside.mk (take_succ_getD xs k hlt)
        have T2 := Aside.mk (take_succ_getD ys k hlt2)
        have D1 : Aside (xs.getD k 0 ≠ ys.getD k 0 → xs ≠ ys) := ⟨fun h e => h (by rw [e])⟩
        generalize xs.getD k 0 = x at c1 T1 D1
        generalize ys.getD k 0 = y at c2 T2 D1
        clear HA HC
        by_cases he : x = y
        · have hne : (x != y) = false := by simp [he]
          have HE : Aside (xs.take (k + 1) = ys.take (k + 1)) := ⟨by rw [T1.out, T2.out, HT.out, he]⟩
          clear he
          go_wp2
          go_quiet (fail)
          go_wp2
          exact ⟨⟨k + 1, by omega, by go_num, HE, _, rfl⟩, by simp [intOf]; omega⟩
        · have hne : (x != y) = true := by simpa using he
          have HD : Aside (decide (xs = ys) = false) := ⟨decide_eq_false (D1.out he)⟩
          clear he
          go_wp2
          go_quiet (fail)
          go_wp2
          go_ret
          exact ⟨ret_bool HD.out.symm, nd + nq, by rw [World.drewN_drewN]⟩
      · have HD : Aside (decide (xs = ys) = true) := ⟨decide_eq_true (by
          have h := HT.out
          have := HL.out
          rwa [List.take_of_length_le (by omega), List.take_of_length_le (by omega)] at h)⟩
        clear HA HC
        go_wp2
        go_ret
        exact ⟨ret_bool HD.out.symm, _, rfl⟩
  · have ht : ((xs.length : Int) != ys.length) = true := by simp; omega
    have hd : decide (xs = ys) = false := decide_eq_false (fun h => hl (by rw [h]))
    rw [hd]
    clear hd hl
    go_enter Try.func14, Try.ntmps14
    go_wp2
    go_ret
    exact ⟨rfl, 0, rfl⟩
namespace Weight
/-- Where there is no error. -/
theorem mixed_ok (xs ys : List Int) (b : Nat) (h : (mixed xs ys b).2 = 0) : nanB b = false ∧ xs.length = ys.length ∧ fair xs = true ∧ fair ys = true ∧ (mixed xs ys b).1 = mrow (wt b) xs ys xs.length := by
  unfold mixed at h ⊢
  by_cases hn : nanB b = true
  · rw [if_pos hn] at h; cases h
  · rw [if_neg hn] at h ⊢
    by_cases hl : xs.length ≠ ys.length
    · rw [if_pos hl] at h; cases h
    · rw [if_neg hl] at h ⊢
      by_cases hf : (fair xs && fair ys) = false
      · rw [if_pos hf] at h; cases h
      · rw [if_neg hf] at h ⊢
        have hf2 : (fair xs && fair ys) = true := by simpa using hf
        rw [Bool.and_eq_true] at hf2
        exact ⟨eq_false_of_ne_true hn, by omega, hf2.1, hf2.2, rfl⟩
theorem mixed_bad (xs ys : List Int) (b : Nat) (h : (mixed xs ys b).2 ≠ 0) : (mixed xs ys b).1 = [] := by
  unfold mixed at h ⊢
  by_cases hn : nanB b = true
  · rw [if_pos hn]
  · rw [if_neg hn] at h ⊢
    by_cases hl : xs.length ≠ ys.length
    · rw [if_pos hl]
    · rw [if_neg hl] at h ⊢
      by_cases hf : (fair xs && fair ys) = false
      · rw [if_pos hf]
      · rw [if_neg hf] at h
        exact absurd rfl h
theorem mixed_err (xs ys : List Int) (b : Nat) : 0 ≤ (mixed xs ys b).2 ∧ (mixed xs ys b).2 ≤ 8 := by
  unfold mixed
  split
  · decide
  · split
    · decide
    · split
      · decide
      · simp
theorem mixed_fine (xs ys : List Int) (b : Nat) (h0 : nanB b = false) (h1 : xs.length = ys.length) (h2 : fair xs = true) (h3 : fair ys = true) : mixed xs ys b = (mrow (wt b) xs ys xs.length, 0) := by
  unfold mixed
  rw [if_neg (by rw [h0]; simp), if_neg (by omega), if_neg (by rw [h2, h3]; simp)]
theorem mrow_at (c : Nat) (xs ys : List Int) (n i : Nat) (h : i < n) : (mrow c xs ys n).getD i 0 = xs.getD i 0 + part c (ys.getD i 0 - xs.getD i 0) := by
  unfold mrow
  simp [List.getD, h]
theorem ext_getD (xs ys : List Int) (hl : xs.length = ys.length) (h : ∀ i, i < xs.length → xs.getD i 0 = ys.getD i 0) : xs = ys := by
  refine List.ext_getElem hl fun i h1 h2 => ?_
  have := h i h1
  simpa [List.getD, h1, h2] using this
theorem wt_zero : wt 0 = 0 := by decide +kernel
theorem wt_one : wt one = one := by decide +kernel
theorem nan_zero : nanB 0 = false := by decide +kernel
theorem nan_one : nanB one = false := by decide +kernel
theorem mixed_zero (xs ys : List Int) (h1 : xs.length = ys.length) (h2 : fair xs = true) (h3 : fair ys = true) : mixed xs ys 0 = (xs, 0) := by
  rw [mixed_fine xs ys 0 nan_zero h1 h2 h3, wt_zero]
  congr 1
  refine ext_getD _ _ (mrow_len _ _ _ _) fun i hi => ?_
  rw [mrow_len] at hi
  have b1 := fair_bd h2 i hi
  have b2 := fair_bd h3 i (by omega)
  rw [mrow_at _ _ _ _ _ hi, part_z isZ_zero _ (by omega), Int.add_zero]
theorem mixed_one (xs ys : List Int) (h1 : xs.length = ys.length) (h2 : fair xs = true) (h3 : fair ys = true) : mixed xs ys 4607182418800017408 = (ys, 0) := by
  have e := mixed_fine xs ys one nan_one h1 h2 h3
  rw [wt_one] at e
  show mixed xs ys one = _
  rw [e]
  congr 1
  refine ext_getD _ _ (by rw [mrow_len, h1]) fun i hi => ?_
  rw [mrow_len] at hi
  have b1 := fair_bd h2 i hi
  have b2 := fair_bd h3 i (by omega)
  rw [mrow_at _ _ _ _ _ hi, part_one isOne_one _ (by omega)]
  omega
theorem mrow_between (b : Nat) (hn : nanB b = false) (xs ys : List Int) (h1 : xs.length = ys.length) (h2 : fair xs = true) (h3 : fair ys = true) (i : Nat) (hi : i < xs.length) :
    min (xs.getD i 0) (ys.getD i 0) ≤ (mrow (wt b) xs ys xs.length).getD i 0 ∧ (mrow (wt b) xs ys xs.length).getD i 0 ≤ max (xs.getD i 0) (ys.getD i 0) := by
  rw [mrow_at _ _ _ _ _ hi]
  have b1 := fair_bd h2 i hi
  have b2 := fair_bd h3 i (by omega)
  obtain ⟨_, _, _, p1, p2⟩ := part_w (wt_w b (nan_eq hn)) (ys.getD i 0 - xs.getD i 0) (by omega)
  rcases Int.le_total 0 (ys.getD i 0 - xs.getD i 0) with h | h
  · have := p1 h; omega
  · have := p2 h; omega
end Weight
end Go.Proofs.Ytjmenlffhoodeac
