/- The reference's comparison of two lists of integers, walked. -/
import Derived.Test.YtjmenlffhoodeacProg
import Derived.Test.YtjmenlffhoodeacK
namespace Go.Proofs.Ytjmenlffhoodeac
open Go.RowKit

theorem IntsAt.form {w : World} {B : Nat} {v : Value} {xs : List Int} (h : IntsAt w B v xs) :
    ∃ A cap, v = .slice A xs.length cap ∧ xs.length ≤ cap ∧ cap ≤ maxLen ∧ ∀ i, i < xs.length → ∃ g, A = some ⟨g, 0, none⟩ ∧ w.cell? ⟨g, i, none⟩ = some (.int .i64 (xs.getD i 0)) := by
  rcases h with ⟨rfl, rfl⟩ | ⟨g, cap, hv, _, h1, h2, hc⟩
  · exact ⟨none, 0, rfl, by simp, by simp [maxLen], fun i hi => absurd hi (by simp)⟩
  · exact ⟨_, cap, hv, h1, h2, fun i hi => ⟨g, rfl, hc i hi⟩⟩
theorem take_succ_getD (xs : List Int) (k : Nat) (h : k < xs.length) : xs.take (k + 1) = xs.take k ++ [xs.getD k 0] := by
  rw [List.take_succ_eq_append_getElem h]
  simp [List.getD, List.getElem?_eq_getElem h]

set_option maxRecDepth 100000 in
set_option maxHeartbeats 400000 in
theorem ints_any (xs ys : List Int) (a b : Value) (B : Nat) (w : World) (ha : IntsAt w B a xs) (hb : IntsAt w B b ys) :
    Calls Try.prog 14 #[a, b] w fun e w' => e = .returned (.bool (decide (xs = ys))) ∧ Drawn w w' := by
  obtain ⟨A, ca, rfl, a1, a2, hca⟩ := ha.form
  obtain ⟨A', cb, rfl, b1, b2, hcb⟩ := hb.form
  unfold maxLen at a2 b2
  have HA := Aside.mk hca
  have HC := Aside.mk hcb
  clear hca hcb ha hb
  by_cases hl : xs.length = ys.length
  · have ht : ((xs.length : Int) != ys.length) = false := by simp [hl]
    have HL := Aside.mk hl
    clear hl
    go_enter Try.func14, Try.ntmps14
    go_wp2
    go_loopw [5] (fun i wr => ∃ k : Nat, k ≤ xs.length ∧ i = .int .i64 k ∧ Aside (xs.take k = ys.take k) ∧ ∃ n, wr = w.drewN n) (fun i _ => xs.length - (intOf i).toNat)
    case atStart => exact ⟨0, by omega, rfl, ⟨by simp⟩, 0, rfl⟩
    case round =>
      obtain ⟨k, hk, rfl, HT, nd, rfl⟩ := hrel
      by_cases hlt : k < xs.length
      · obtain ⟨g, hA, c1⟩ := HA.out k hlt
        obtain ⟨g', hA', c2⟩ := HC.out k (by have := HL.out; omega)
        subst hA hA'
        have i1 : (0 : Int) ≤ k := by omega
        have i2 : (k : Int) < xs.length := by omega
        have i3 : (k : Int) < ys.length := by have := HL.out; omega
        have hlt2 : k < ys.length := by omega
        have T1 := Aside.mk (take_succ_getD xs k hlt)
        have T2 := Aside.mk (take_succ_getD ys k hlt2)
        have D1 : Aside (xs.getD k 0 ≠ ys.getD k 0 → xs ≠ ys) := ⟨fun h e => h (by rw [e])⟩
        generalize xs.getD k 0 = x at c1 T1 D1
        generalize ys.getD k 0 = y at c2 T2 D1
        clear HA HC
        by_cases he : x = y
        · have hne : (x != y) = false := by simp [he]
          have HE : Aside (xs.take (k + 1) = ys.take (k + 1)) := ⟨by rw [T1.out, T2.out, HT.out, he]⟩
          clear he
          go_wp2
          go_quiet (fail)
          go_wp2
          exact ⟨⟨k + 1, by omega, by go_num, HE, _, rfl⟩, by simp [intOf]; omega⟩
        · have hne : (x != y) = true := by simpa using he
          have HD : Aside (decide (xs = ys) = false) := ⟨decide_eq_false (D1.out he)⟩
          clear he
          go_wp2
          go_quiet (fail)
          go_wp2
          go_ret
          exact ⟨ret_bool HD.out.symm, nd + nq, by rw [World.drewN_drewN]⟩
      · have HD : Aside (decide (xs = ys) = true) := ⟨decide_eq_true (by
          have h := HT.out
          have := HL.out
          rwa [List.take_of_length_le (by omega), List.take_of_length_le (by omega)] at h)⟩
        clear HA HC
        go_wp2
        go_ret
        exact ⟨ret_bool HD.out.symm, _, rfl⟩
  · have ht : ((xs.length : Int) != ys.length) = true := by simp; omega
    have hd : decide (xs = ys) = false := decide_eq_false (fun h => hl (by rw [h]))
    rw [hd]
    clear hd hl
    go_enter Try.func14, Try.ntmps14
    go_wp2
    go_ret
    exact ⟨rfl, 0, rfl⟩
end Go.Proofs.Ytjmenlffhoodeac
