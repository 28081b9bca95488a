/- The program's differences and sums by closures, walked. -/
import Derived.Test.YtjmenlffhoodeabDelta
namespace Go.Proofs.Ytjmenlffhoodeab
open Go.RowKit

theorem bad_no (d : Int) (w : World) (h0 : 1 ≤ d) (h1 : d ≤ 256) :
    Calls Try.prog 53 #[.int .i64 d] w fun e w' => e = .returned (.bool false) ∧ w = w' := by
  have t1 : decide (d < 1) = false := decide_eq_false (by omega)
  have t2 : decide (256 < d) = false := decide_eq_false (by omega)
  go_enter Try.func53, Try.ntmps53
  go_wp2
  go_ret
  exact ⟨rfl, rfl⟩
theorem bad_yes (d : Int) (w : World) (h : d < 1 ∨ 256 < d) :
    Calls Try.prog 53 #[.int .i64 d] w fun e w' => e = .returned (.bool true) ∧ w = w' := by
  rcases h with h | h
  · have t1 : decide (d < 1) = true := decide_eq_true (by omega)
    go_enter Try.func53, Try.ntmps53
    go_wp2
    go_ret
    exact ⟨rfl, rfl⟩
  · have t1 : decide (d < 1) = false := decide_eq_false (by omega)
    have t2 : decide (256 < d) = true := decide_eq_true (by omega)
    go_enter Try.func53, Try.ntmps53
    go_wp2
    go_ret
    exact ⟨rfl, rfl⟩

/-- 'less', called: the difference at a place. -/
theorem less_any (s : ByteArray) (d i : Nat) (pd ps : Addr) (w : World) (hi : i < s.size) (hd : d ≤ 256) (hs : s.size ≤ 1000000) (c1 : w.cell? pd = some (.int .i64 d)) (c2 : w.cell? ps = some (.string s)) :
    Calls Try.prog 54 #[.int .i64 i, .int .u8 (byt s i), .pointer (some pd), .pointer (some ps)] w fun e w' => e = .returned (.int .u8 (dif s d i)) ∧ w = w' := by
  by_cases h : i < d
  · have HX : Aside (byt s i = dif s d i) := ⟨by unfold dif; rw [if_pos h]⟩
    go_enter Try.func54, Try.ntmps54
    go_wp2
    go_ret
    exact ⟨ret_int HX.out, rfl⟩
  · have HX : Aside ((byt s i - byt s (i - d)) % 256 = dif s d i) := ⟨by unfold dif; rw [if_neg h]⟩
    have g1 := run_idx (P := Try.prog) 9 s .i64 ((i : Int) - d) (i - d) (by omega) (by omega) Try.underlying9
    go_enter Try.func54, Try.ntmps54
    go_wp2
    go_ret
    exact ⟨ret_int HX.out, rfl⟩

theorem mk_bytes (n : Nat) (hn : n ≤ 1000000) (W : World) : (Instr.makeSlice 86 (.int .i64 n) (.int .i64 n)).run Try.prog W = .ok (.slice (some ⟨W.heap.size, 0, none⟩) n n) (W.alloc (.cells (zrow n) 5)) := by
  obtain ⟨i0, hi, hz0, hz1, hz2⟩ := info_parts info5
  have := run_make (P := Try.prog) W 86 5 i0 (.int .u8 0) Try.underlying86 hi hz0 .i64 .i64 n n (by omega) (by omega) (by rw [hz2]; omega) (by omega)
  rw [this, hz1]
  simp [zrow, Value.cells]

set_option maxRecDepth 100000 in
set_option maxHeartbeats 1000000 in
theorem eachLess_any (s : ByteArray) (d : Nat) (pd ps : Addr) (w : World) (hd : d ≤ 256) (hs : s.size ≤ 1000000) (l1 : pd.block < w.heap.size) (l2 : ps.block < w.heap.size) (c1 : w.cell? pd = some (.int .i64 d)) (c2 : w.cell? ps = some (.string s)) :
    Calls Try.prog 55 #[.string s, .func (.func 54) #[] #[.pointer (some pd), .pointer (some ps)]] w fun e w' => ∃ g, e = .returned (.slice (some ⟨g, 0, none⟩) s.size s.size) ∧ Aside (∀ j, j < s.size → w'.cell? ⟨g, j, none⟩ = some (.int .u8 (dif s d j))) ∧ Below w.heap.size w w' := by
  have hmk := mk_bytes s.size hs
  have C1 := Aside.mk c1
  have C2 := Aside.mk c2
  go_enter Try.func55, Try.ntmps55
  go_wp2_with fail
  clear hmk c1 c2
  go_loopw [12] (fun i wr => ∃ (k : Nat) (cs : Array Value), k ≤ s.size ∧ i = .int .i64 k ∧ Blk wr w.heap.size 5 cs ∧ Aside (cs.size = s.size ∧ ∀ j, j < k → cs[j]? = some (.int .u8 (dif s d j))) ∧ Below w.heap.size w wr) (fun i _ => s.size - (intOf i).toNat)
  case atStart => exact ⟨0, _, by omega, rfl, Blk.new w 5 _, ⟨zrow_size _, fun j hj => absurd hj (by omega)⟩, bl_alloc (Below.refl _ _) _⟩
  case round =>
    obtain ⟨k, cs, hk, rfl, hblk, HC, hb⟩ := hrel
    have HB := Aside.mk hb
    by_cases hlt : k < s.size
    · have g0 := run_idx (P := Try.prog) 9 s .i64 (k : Int) k rfl hlt Try.underlying9
      have D1 : Aside (wr.cell? pd = some (.int .i64 d)) := ⟨by rw [hb.cell l1]; exact C1.out⟩
      have D2 : Aside (wr.cell? ps = some (.string s)) := ⟨by rw [hb.cell l2]; exact C2.out⟩
      have hlk : k < cs.size := by have := HC.out.1; omega
      have hf : wr.frozen? ⟨w.heap.size, k, none⟩ = false := hblk.frozen k
      have hcell : wr.cell? ⟨w.heap.size, k, none⟩ = some cs[k] := by rw [hblk.cell k]; exact Array.getElem?_eq_getElem hlk
      have HBL := Aside.mk hblk
      clear hb hblk
      go_wp2_with fail
      refine (less_any s d k pd ps _ hlt hd hs D1.out D2.out).mono ?_
      rintro e w1 ⟨rfl, rfl⟩
      go_wp2_with fail
      exact ⟨⟨k + 1, cs.setIfInBounds k (.int .u8 (dif s d k)), by omega, by go_num, HBL.out.set_ k _, ⟨by rw [Array.size_setIfInBounds]; exact HC.out.1, fun j hj => by
        rw [Array.getElem?_setIfInBounds]
        by_cases e : k = j
        · subst e; rw [if_pos rfl, if_pos hlk]
        · rw [if_neg e]; exact HC.out.2 j (by omega)⟩, bl_set HB.out (Nat.le_refl _) _⟩, by simp [intOf]; omega⟩
    · obtain rfl : k = s.size := by omega
      go_wp2_with fail
      go_ret
      exact ⟨_, rfl, ⟨fun j hj => by rw [hblk.cell j]; exact HC.out.2 j hj⟩, HB.out⟩

set_option maxRecDepth 100000 in
set_option maxHeartbeats 1000000 in
theorem apply_in (s : ByteArray) (d : Nat) (w : World) (hd : 1 ≤ d) (hd2 : d ≤ 256) (hs : s.size ≤ 1000000) :
    Calls Try.prog 16 #[.string s, .int .i64 d] w fun e w' => e = .returned (.tuple #[.string (difS s d), .int .i64 0]) ∧ Below w.heap.size w w' := by
  have hmf : ∀ (fn : Fn) (first cap : Array Value) (w : World), (Instr.makeFunc fn first cap).run Try.prog w = .ok (.func fn first cap) w := fun _ _ _ _ => rfl
  have HB := Aside.mk (bl_alloc (bl_alloc (Below.refl w.heap.size w) (.cells #[.string s] 9)) (.cells #[.int .i64 d] 3))
  go_enter Try.func16, Try.ntmps16
  go_wp2_with fail
  refine (bad_no _ _ (by omega) (by omega)).mono ?_
  rintro e w1 ⟨rfl, rfl⟩
  go_wp2_with fail
  refine (eachLess_any s d ⟨w.heap.size + 1, 0, none⟩ ⟨w.heap.size, 0, none⟩ _ hd2 hs ?_ ?_ ?_ ?_).mono ?_
  · simp
  · simp; omega
  · simp [go_sem]
  · simp [go_sem]
  rintro e w1 ⟨g, rfl, HC, hb⟩
  replace HB := Aside.mk (bl_step HB.out hb)
  have hcv := conv_string (P := Try.prog) w1 86 5 9 g s.size s.size (dif s d) Try.underlying86 Try.underlying5 Try.underlying9 HC.out
  go_wp2
  go_ret2
  exact ⟨rfl, HB.out⟩
set_option maxRecDepth 100000 in
set_option maxHeartbeats 1000000 in
theorem apply_out (s : ByteArray) (d : Int) (w : World) (h : d < 1 ∨ 256 < d) :
    Calls Try.prog 16 #[.string s, .int .i64 d] w fun e w' => e = .returned (.tuple #[.string ⟨#[]⟩, .int .i64 1]) ∧ Below w.heap.size w w' := by
  have HB := Aside.mk (bl_alloc (bl_alloc (Below.refl w.heap.size w) (.cells #[.string s] 9)) (.cells #[.int .i64 d] 3))
  have H := Aside.mk h
  clear h
  go_enter Try.func16, Try.ntmps16
  go_wp2_with fail
  refine (bad_yes _ _ H.out).mono ?_
  rintro e w1 ⟨rfl, rfl⟩
  go_wp2
  go_ret2
  exact ⟨rfl, HB.out⟩
end Go.Proofs.Ytjmenlffhoodeab
