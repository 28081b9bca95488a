/- Slices of pairs of integers that the call made, and the reference's comparison of two such, walked. -/
import Derived.Test.YtjmenlffhoodeacProg
import Derived.Test.YtjmenlffhoodeacMem
namespace Go.Proofs.Ytjmenlffhoodeac
open Go.RowKit

/-- A list of pairs as cells. -/
def cells2 (ms : List (Int × Int)) : List Value := ms.flatMap fun m => [.int .i64 m.1, .int .i64 m.2]
theorem cells2_length (ms : List (Int × Int)) : (cells2 ms).length = ms.length * 2 := by
  induction ms with
  | nil => rfl
  | cons m r ih => simp only [cells2, List.flatMap_cons, List.length_append, List.length_cons, List.length_nil] at ih ⊢; omega
theorem cells2_append (a b : List (Int × Int)) : cells2 (a ++ b) = cells2 a ++ cells2 b := by simp [cells2]
theorem cells2_at (ms : List (Int × Int)) : ∀ i, i < ms.length → (cells2 ms)[i * 2]? = some (.int .i64 (ms.getD i (0, 0)).1) ∧ (cells2 ms)[i * 2 + 1]? = some (.int .i64 (ms.getD i (0, 0)).2) := by
  induction ms with
  | nil => intro i hi; simp at hi
  | cons m r ih =>
    intro i hi
    cases i with
    | zero => exact ⟨rfl, rfl⟩
    | succ i =>
      have := ih i (by simpa using hi)
      simp only [cells2, List.flatMap_cons] at this ⊢
      rw [show (i + 1) * 2 = (i * 2) + 1 + 1 from by omega]
      exact this
/-- A slice value that reads as the pairs ms, below block number B (nil, or at the head of a block). -/
def PairsAt (w : World) (B : Nat) (v : Value) (ms : List (Int × Int)) : Prop :=
  (v = .slice none 0 0 ∧ ms = []) ∨
  ∃ g cap, v = .slice (some ⟨g, 0, none⟩) ms.length cap ∧ g < B ∧ ms.length ≤ cap ∧ cap ≤ maxLen ∧ ∀ i, i < ms.length → w.cell? ⟨g, i * 2, none⟩ = some (.int .i64 (ms.getD i (0, 0)).1) ∧ w.cell? ⟨g, i * 2 + 1, none⟩ = some (.int .i64 (ms.getD i (0, 0)).2)
theorem pairsAt_own {w : World} {base : Nat} {e : TypeId} {v : Value} {n : Nat} {ms : List (Int × Int)} (h : w.ownsRow base e 2 v n (cells2 ms)) : PairsAt w w.heap.size v ms := by
  have hl : ms.length = n := by have := h.1; rw [cells2_length] at this; omega
  have hlt := h.lt
  obtain ⟨_, ⟨rfl, hx⟩ | ⟨g, cap, cur, rfl, hb, hh, hn, hc, hs, ht⟩⟩ := h
  · left
    exact ⟨rfl, List.eq_nil_of_length_eq_zero (by omega)⟩
  · right
    have hcell : ∀ j u, (cells2 ms)[j]? = some u → w.cell? ⟨g, j, none⟩ = some u := fun j u hu => by
      rw [cell_of_row w g j cur e (0, 0) hh]
      rw [← ht, List.getElem?_take] at hu
      split at hu
      · rw [← Array.getElem?_toList]; exact hu
      · cases hu
    refine ⟨g, cap, by rw [hl], (hlt g rfl).2, by omega, hc, fun i hi => ?_⟩
    obtain ⟨c1, c2⟩ := cells2_at ms i hi
    exact ⟨hcell _ _ c1, hcell _ _ c2⟩
theorem PairsAt.keep {w w' : World} {B : Nat} {v : Value} {xs : List (Int × Int)} (h : PairsAt w B v xs) (hk : Below B w w') : PairsAt w' B v xs := by
  rcases h with h | ⟨g, cap, hv, hg, h1, h2, hc⟩
  · exact .inl h
  · exact .inr ⟨g, cap, hv, hg, h1, h2, fun i hi => by rw [hk.cell (p := ⟨g, i * 2, none⟩) hg, hk.cell (p := ⟨g, i * 2 + 1, none⟩) hg]; exact hc i hi⟩
theorem PairsAt.up {w : World} {B B' : Nat} {v : Value} {xs : List (Int × Int)} (h : PairsAt w B v xs) (hB : B ≤ B') : PairsAt w B' v xs := by
  rcases h with h | ⟨g, cap, hv, hg, h1⟩
  · exact .inl h
  · exact .inr ⟨g, cap, hv, by omega, h1⟩
theorem PairsAt.form {w : World} {B : Nat} {v : Value} {xs : List (Int × Int)} (h : PairsAt w B v xs) :
    ∃ A cap, v = .slice A xs.length cap ∧ xs.length ≤ cap ∧ cap ≤ maxLen ∧ ∀ i, i < xs.length → ∃ g, A = some ⟨g, 0, none⟩ ∧ w.cell? ⟨g, i * 2, none⟩ = some (.int .i64 (xs.getD i (0, 0)).1) ∧ w.cell? ⟨g, i * 2 + 1, none⟩ = some (.int .i64 (xs.getD i (0, 0)).2) := by
  rcases h with ⟨rfl, rfl⟩ | ⟨g, cap, hv, _, h1, h2, hc⟩
  · exact ⟨none, 0, rfl, by simp, by simp [maxLen], fun i hi => absurd hi (by simp)⟩
  · exact ⟨_, cap, hv, h1, h2, fun i hi => ⟨g, rfl, hc i hi⟩⟩
theorem take_succ_pair (xs : List (Int × Int)) (k : Nat) (h : k < xs.length) : xs.take (k + 1) = xs.take k ++ [xs.getD k (0, 0)] := by
  rw [List.take_succ_eq_append_getElem h]
  simp [List.getD, List.getElem?_eq_getElem h]

set_option maxRecDepth 100000 in
set_option maxHeartbeats 1000000 in
theorem same_any (xs ys : List (Int × Int)) (a b : Value) (B : Nat) (w : World) (ha : PairsAt w B a xs) (hb : PairsAt w B b ys) :
    Calls Try.prog 11 #[a, b] w fun e w' => e = .returned (.bool (decide (xs = ys))) ∧ Drawn w w' := by
  obtain ⟨A, ca, rfl, a1, a2, hca⟩ := ha.form
  obtain ⟨A', cb, rfl, b1, b2, hcb⟩ := hb.form
  unfold maxLen at a2 b2
  have HA := Aside.mk hca
  have HC := Aside.mk hcb
  clear hca hcb ha hb
  by_cases hl : xs.length = ys.length
  · have ht : ((xs.length : Int) != ys.length) = false := by simp [hl]
    have HL := Aside.mk hl
    clear hl
    go_enter Try.func11, Try.ntmps11
    go_wp2
    go_loopw [5] (fun i wr => ∃ k : Nat, k ≤ xs.length ∧ i = .int .i64 k ∧ Aside (xs.take k = ys.take k) ∧ ∃ n, wr = w.drewN n) (fun i _ => xs.length - (intOf i).toNat)
    case atStart => exact ⟨0, by omega, rfl, ⟨by simp⟩, 0, rfl⟩
    case round =>
      obtain ⟨k, hk, rfl, HT, nd, rfl⟩ := hrel
      by_cases hlt : k < xs.length
      · obtain ⟨g, hA, c1, c3⟩ := HA.out k hlt
        obtain ⟨g', hA', c2, c4⟩ := HC.out k (by have := HL.out; omega)
        subst hA hA'
        have i1 : (0 : Int) ≤ k := by omega
        have i2 : (k : Int) < xs.length := by omega
        have i3 : (k : Int) < ys.length := by have := HL.out; omega
        have hlt2 : k < ys.length := by omega
        have T1 := Aside.mk (take_succ_pair xs k hlt)
        have T2 := Aside.mk (take_succ_pair ys k hlt2)
        have D1 : Aside (xs.getD k (0, 0) ≠ ys.getD k (0, 0) → xs ≠ ys) := ⟨fun h e => h (by rw [e])⟩
        generalize xs.getD k (0, 0) = x at c1 c3 T1 D1
        generalize ys.getD k (0, 0) = y at c2 c4 T2 D1
        obtain ⟨x1, x2⟩ := x
        obtain ⟨y1, y2⟩ := y
        simp only at c1 c2 c3 c4
        clear HA HC
        by_cases he : x1 = y1 ∧ x2 = y2
        · obtain ⟨rfl, rfl⟩ := he
          have HE : Aside (xs.take (k + 1) = ys.take (k + 1)) := ⟨by rw [T1.out, T2.out, HT.out]⟩
          go_wp2
          go_quiet (fail)
          go_wp2
          exact ⟨⟨k + 1, by omega, by go_num, HE, _, rfl⟩, by simp [intOf]; omega⟩
        · have HD : Aside (decide (xs = ys) = false) := ⟨decide_eq_false (D1.out (fun h => he (by simpa using h)))⟩
          by_cases he1 : x1 = y1
          · subst he1
            have hne2 : (x2 == y2) = false := by simpa using he
            clear he
            go_wp2
            go_quiet (fail)
            go_wp2
            go_ret
            exact ⟨ret_bool HD.out.symm, nd + nq, by rw [World.drewN_drewN]⟩
          · have hne1 : (x1 == y1) = false := by simpa using he1
            clear he he1
            go_wp2
            go_quiet (fail)
            go_wp2
            go_ret
            exact ⟨ret_bool HD.out.symm, nd + nq, by rw [World.drewN_drewN]⟩
      · have HD : Aside (decide (xs = ys) = true) := ⟨decide_eq_true (by
          have h := HT.out
          have := HL.out
          rwa [List.take_of_length_le (by omega), List.take_of_length_le (by omega)] at h)⟩
        clear HA HC
        go_wp2
        go_ret
        exact ⟨ret_bool HD.out.symm, _, rfl⟩
  · have ht : ((xs.length : Int) != ys.length) = true := by simp; omega
    have hd : decide (xs = ys) = false := decide_eq_false (fun h => hl (by rw [h]))
    rw [hd]
    clear hd hl
    go_enter Try.func11, Try.ntmps11
    go_wp2
    go_ret
    exact ⟨rfl, 0, rfl⟩
end Go.Proofs.Ytjmenlffhoodeac
