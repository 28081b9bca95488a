/- What the reference's differences compute, walked. -/
import Derived.Test.YtjmenlffhoodeabProg
import Derived.Test.YtjmenlffhoodeabDeltaP
namespace Go.Proofs.Ytjmenlffhoodeab
open Go.RowKit

theorem info5 : (Try.prog.info? 5).map (fun i => (i.zero, i.size, i.bytes)) = some (some (.int .u8 0), 1, 1) := by kernel_rfl
/-- The cells of a row of bytes that a function tells. -/
def row8 (f : Nat → Int) (n : Nat) : List Value := (List.range n).map fun i => .int .u8 (f i)
theorem row8_len (f : Nat → Int) (n : Nat) : (row8 f n).length = n := by simp [row8]
theorem row8_succ (f : Nat → Int) (n : Nat) : row8 f (n + 1) = row8 f n ++ [.int .u8 (f n)] := by simp [row8, List.range_succ]
theorem row8_at (f : Nat → Int) (n j : Nat) (h : j < n) : (row8 f n)[j]? = some (.int .u8 (f j)) := by simp [row8, h]
/-- 'string(out)' of a row of the call's own, nil or not. -/
theorem conv_own (w : World) (base : Nat) (v : Value) (f : Nat → Int) (n : Nat) (h : w.ownsRow base 5 1 v n (row8 f n)) :
    (convert 86 9 v).run Try.prog w = .ok (.string (tab f n)) w := by
  rcases Nat.eq_zero_or_pos n with hz | hz
  · subst hz
    rcases h.2 with ⟨rfl, _⟩ | ⟨g, cap, cur, rfl, _⟩
    · exact run_convert_bytes_nil w 86 5 Try.underlying86 Try.underlying5 0 0 9 Try.underlying9
    · exact conv_string w 86 5 9 g 0 cap f Try.underlying86 Try.underlying5 Try.underlying9 (fun j hj => absurd hj (by omega))
  · obtain ⟨g, cap, rfl, _, _⟩ := h.form hz
    refine conv_string w 86 5 9 g n cap f Try.underlying86 Try.underlying5 Try.underlying9 (fun j hj => ?_)
    rw [h.cellAt j (by omega), row8_at f n j hj]

set_option maxRecDepth 100000 in
set_option maxHeartbeats 1000000 in
theorem refApply_in (s : ByteArray) (d : Nat) (w : World) (hd : 1 ≤ d) (hd2 : d ≤ 256) (hs : s.size ≤ 1000000) :
    Calls Try.prog 17 #[.string s, .int .i64 d] w fun e w' => e = .returned (.tuple #[.string (difS s d), .int .i64 0]) ∧ Below w.heap.size w w' := by
  obtain ⟨i0, hi, hz0, hz1, hz2⟩ := info_parts info5
  go_enter Try.func17, Try.ntmps17
  go_wp2_with fail
  go_loopw [6, 7] (fun v i wr => ∃ k : Nat, k ≤ s.size ∧ i = .int .i64 k ∧ wr.ownsRow w.heap.size 5 1 v k (row8 (dif s d) k) ∧ Below w.heap.size w wr) (fun _ i _ => s.size - (intOf i).toNat)
  case atStart => exact ⟨0, by omega, rfl, World.ownsRow_nil _ _ _ _, Below.refl _ _⟩
  case round =>
    obtain ⟨k, hk, rfl, hown, hb⟩ := hrel
    have HB := Aside.mk hb
    clear hb
    by_cases hlt : k < s.size
    · have g0 := run_idx (P := Try.prog) 9 s .i64 (k : Int) k rfl hlt Try.underlying9
      have D0 := Aside.mk (row8_succ (dif s d) k)
      have AP : Aside (∀ x, x = dif s d k → row8 (dif s d) k ++ [.int .u8 x] = row8 (dif s d) (k + 1)) := ⟨fun x hx => by rw [D0.out, hx]⟩
      by_cases hge : d ≤ k
      · have hdec : decide ((d : Int) ≤ k) = true := decide_eq_true (by omega)
        have g1 := run_idx (P := Try.prog) 9 s .i64 ((k : Int) - d) (k - d) (by omega) (by omega) Try.underlying9
        have HX : Aside ((byt s k - byt s (k - d)) % 256 = dif s d k) := ⟨by unfold dif; rw [if_neg (by omega)]⟩
        go_wp2_with (at_builtin; refine wpList_append_own _ rfl _ _ 86 rfl w.heap.size 5 i0 (.int .u8 0) 1 1 Try.underlying86 hi hz0 hz1 hz2 rfl (by decide) _ _ _ rfl (hown.alloc _) ⟨wr.heap.size, 0, none⟩ 1 1 [.int .u8 ((byt s k - byt s (k - d)) % 256)] rfl rfl ?c1 ?c2 ?c3 ?c4 ?c5 ?_)
        case c1 => exact cell_one_new _ _ _
        case c2 => simp [Value.oneCell']
        case c3 => unfold maxLen; omega
        case c4 => omega
        case c5 => have := HB.out.size; simp; omega
        intro v' w1 hown' hgrow _
        have HB1 := Aside.mk (below_grown (bl_alloc HB.out _) (hown.alloc _) hgrow)
        have ho : w1.ownsRow w.heap.size 5 1 v' (k + 1) (row8 (dif s d) (k + 1)) := by rw [← AP.out _ HX.out]; exact hown'
        clear hgrow hown hown'
        go_wp2
        exact ⟨⟨k + 1, by omega, by go_num, ho, HB1.out⟩, by simp [intOf]; omega⟩
      · have hdec : decide ((d : Int) ≤ k) = false := decide_eq_false (by omega)
        have HX : Aside (byt s k = dif s d k) := ⟨by unfold dif; rw [if_pos (by omega)]⟩
        go_wp2_with (at_builtin; refine wpList_append_own _ rfl _ _ 86 rfl w.heap.size 5 i0 (.int .u8 0) 1 1 Try.underlying86 hi hz0 hz1 hz2 rfl (by decide) _ _ _ rfl (hown.alloc _) ⟨wr.heap.size, 0, none⟩ 1 1 [.int .u8 (byt s k)] rfl rfl ?c1 ?c2 ?c3 ?c4 ?c5 ?_)
        case c1 => exact cell_one_new _ _ _
        case c2 => simp [Value.oneCell']
        case c3 => unfold maxLen; omega
        case c4 => omega
        case c5 => have := HB.out.size; simp; omega
        intro v' w1 hown' hgrow _
        have HB1 := Aside.mk (below_grown (bl_alloc HB.out _) (hown.alloc _) hgrow)
        have ho : w1.ownsRow w.heap.size 5 1 v' (k + 1) (row8 (dif s d) (k + 1)) := by rw [← AP.out _ HX.out]; exact hown'
        clear hgrow hown hown'
        go_wp2
        exact ⟨⟨k + 1, by omega, by go_num, ho, HB1.out⟩, by simp [intOf]; omega⟩
    · obtain rfl : k = s.size := by omega
      have hcv := conv_own wr w.heap.size _ _ _ hown
      go_wp2
      go_ret2
      exact ⟨rfl, HB.out⟩
set_option maxRecDepth 100000 in
set_option maxHeartbeats 400000 in
theorem refApply_out (s : ByteArray) (d : Int) (w : World) (h : d < 1 ∨ 256 < d) :
    Calls Try.prog 17 #[.string s, .int .i64 d] w fun e w' => e = .returned (.tuple #[.string ⟨#[]⟩, .int .i64 1]) ∧ w = w' := by
  rcases h with h | h
  · go_enter Try.func17, Try.ntmps17
    go_wp2
    go_ret2
    exact ⟨rfl, rfl⟩
  · go_enter Try.func17, Try.ntmps17
    go_wp2
    go_ret2
    exact ⟨rfl, rfl⟩

set_option maxRecDepth 100000 in
set_option maxHeartbeats 1000000 in
theorem refBack_in (s : ByteArray) (d : Nat) (w : World) (hd : 1 ≤ d) (hd2 : d ≤ 256) (hs : s.size ≤ 1000000) :
    Calls Try.prog 19 #[.string s, .int .i64 d] w fun e w' => e = .returned (.tuple #[.string (smS s d), .int .i64 0]) ∧ Below w.heap.size w w' := by
  obtain ⟨i0, hi, hz0, hz1, hz2⟩ := info_parts info5
  go_enter Try.func19, Try.ntmps19
  go_wp2_with fail
  go_loopw [6, 7] (fun v i wr => ∃ k : Nat, k ≤ s.size ∧ i = .int .i64 k ∧ wr.ownsRow w.heap.size 5 1 v k (row8 (sm s d) k) ∧ Below w.heap.size w wr) (fun _ i _ => s.size - (intOf i).toNat)
  case atStart => exact ⟨0, by omega, rfl, World.ownsRow_nil _ _ _ _, Below.refl _ _⟩
  case round =>
    obtain ⟨k, hk, rfl, hown, hb⟩ := hrel
    have HB := Aside.mk hb
    clear hb
    by_cases hlt : k < s.size
    · have g0 := run_idx (P := Try.prog) 9 s .i64 (k : Int) k rfl hlt Try.underlying9
      have D0 := Aside.mk (row8_succ (sm s d) k)
      have AP : Aside (∀ x, x = sm s d k → row8 (sm s d) k ++ [.int .u8 x] = row8 (sm s d) (k + 1)) := ⟨fun x hx => by rw [D0.out, hx]⟩
      by_cases hge : d ≤ k
      · have hdec : decide ((d : Int) ≤ k) = true := decide_eq_true (by omega)
        obtain ⟨g, cap, rfl, _, _⟩ := hown.form (by omega)
        have hcell : wr.cell? ⟨g, k - d, none⟩ = some (.int .u8 (sm s d (k - d))) := by rw [hown.cellAt (k - d) (by omega), row8_at _ _ _ (by omega)]
        have HX : Aside ((byt s k + sm s d (k - d)) % 256 = sm s d k) := ⟨by rw [sm_hi s d k hd hge, Int.add_comm]⟩
        go_wp2_with (at_builtin; refine wpList_append_own _ rfl _ _ 86 rfl w.heap.size 5 i0 (.int .u8 0) 1 1 Try.underlying86 hi hz0 hz1 hz2 rfl (by decide) _ _ _ rfl (hown.alloc _) ⟨wr.heap.size, 0, none⟩ 1 1 [.int .u8 ((byt s k + sm s d (k - d)) % 256)] rfl rfl ?c1 ?c2 ?c3 ?c4 ?c5 ?_)
        case c1 => exact cell_one_new _ _ _
        case c2 => simp [Value.oneCell']
        case c3 => unfold maxLen; omega
        case c4 => omega
        case c5 => have := HB.out.size; simp; omega
        intro v' w1 hown' hgrow _
        have HB1 := Aside.mk (below_grown (bl_alloc HB.out _) (hown.alloc _) hgrow)
        have ho : w1.ownsRow w.heap.size 5 1 v' (k + 1) (row8 (sm s d) (k + 1)) := by rw [← AP.out _ HX.out]; exact hown'
        clear hgrow hown hown'
        go_wp2
        exact ⟨⟨k + 1, by omega, by go_num, ho, HB1.out⟩, by simp [intOf]; omega⟩
      · have hdec : decide ((d : Int) ≤ k) = false := decide_eq_false (by omega)
        have HX : Aside (byt s k = sm s d k) := ⟨(sm_lo s d k (by omega)).symm⟩
        go_wp2_with (at_builtin; refine wpList_append_own _ rfl _ _ 86 rfl w.heap.size 5 i0 (.int .u8 0) 1 1 Try.underlying86 hi hz0 hz1 hz2 rfl (by decide) _ _ _ rfl (hown.alloc _) ⟨wr.heap.size, 0, none⟩ 1 1 [.int .u8 (byt s k)] rfl rfl ?c1 ?c2 ?c3 ?c4 ?c5 ?_)
        case c1 => exact cell_one_new _ _ _
        case c2 => simp [Value.oneCell']
        case c3 => unfold maxLen; omega
        case c4 => omega
        case c5 => have := HB.out.size; simp; omega
        intro v' w1 hown' hgrow _
        have HB1 := Aside.mk (below_grown (bl_alloc HB.out _) (hown.alloc _) hgrow)
        have ho : w1.ownsRow w.heap.size 5 1 v' (k + 1) (row8 (sm s d) (k + 1)) := by rw [← AP.out _ HX.out]; exact hown'
        clear hgrow hown hown'
        go_wp2
        exact ⟨⟨k + 1, by omega, by go_num, ho, HB1.out⟩, by simp [intOf]; omega⟩
    · obtain rfl : k = s.size := by omega
      have hcv := conv_own wr w.heap.size _ _ _ hown
      go_wp2
      go_ret2
      exact ⟨rfl, HB.out⟩
set_option maxRecDepth 100000 in
set_option maxHeartbeats 400000 in
theorem refBack_out (s : ByteArray) (d : Int) (w : World) (h : d < 1 ∨ 256 < d) :
    Calls Try.prog 19 #[.string s, .int .i64 d] w fun e w' => e = .returned (.tuple #[.string ⟨#[]⟩, .int .i64 1]) ∧ w = w' := by
  rcases h with h | h
  · go_enter Try.func19, Try.ntmps19
    go_wp2
    go_ret2
    exact ⟨rfl, rfl⟩
  · go_enter Try.func19, Try.ntmps19
    go_wp2
    go_ret2
    exact ⟨rfl, rfl⟩

end Go.Proofs.Ytjmenlffhoodeab
