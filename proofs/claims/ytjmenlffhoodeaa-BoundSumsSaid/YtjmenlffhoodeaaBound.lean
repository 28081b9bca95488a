/- What bound's functions compute, walked: Blocks, cut, sum of four, Frame, awake; and the two laws' walks. -/
import Derived.Test.YtjmenlffhoodeaaProg
import Derived.Test.YtjmenlffhoodeaaK
namespace Go.Proofs.Ytjmenlffhoodeaa
open Go.RowKit

def bblocks (n : Int) : Int := if n < 1 then 0 else (n - 1) / 65536 + 1
def bcut (n : Int) : Int := max 0 (min n 1152921504606846976)

set_option maxHeartbeats 400000 in
theorem blocks_any (n : Int) (w : World) (h1 : -9223372036854775808 ≤ n) (h2 : n ≤ 9223372036854775807) :
    Calls Try.prog 15 #[.int .i64 n] w fun e w' => e = .returned (.int .i64 (bblocks n)) ∧ w = w' := by
  by_cases hn : n < 1
  all_goals
    go_enter Try.func15, Try.ntmps15
    go_wp2
    go_ret
    exact ⟨ret_int (by unfold bblocks; split <;> omega), rfl⟩

set_option maxHeartbeats 400000 in
theorem refBlocks_any (n : Int) (w : World) (h1 : -9223372036854775808 ≤ n) (h2 : n ≤ 9223372036854775807) :
    Calls Try.prog 16 #[.int .i64 n] w fun e w' => e = .returned (.int .i64 (bblocks n)) ∧ w = w' := by
  by_cases hn : n < 1
  all_goals
    go_enter Try.func16, Try.ntmps16
    go_wp2
    go_ret
    exact ⟨ret_int (by unfold bblocks; split <;> omega), rfl⟩

set_option maxHeartbeats 400000 in
theorem cut_any (n : Int) (w : World) :
    Calls Try.prog 43 #[.int .i64 n] w fun e w' => e = .returned (.int .i64 (bcut n)) ∧ w = w' := by
  go_enter Try.func43, Try.ntmps43
  go_wp2
  all_goals
    go_ret
    exact ⟨ret_int (by unfold bcut; omega), rfl⟩

set_option maxHeartbeats 400000 in
theorem refCut_any (n : Int) (w : World) :
    Calls Try.prog 44 #[.int .i64 n] w fun e w' => e = .returned (.int .i64 (bcut n)) ∧ w = w' := by
  go_enter Try.func44, Try.ntmps44
  go_wp2
  all_goals
    go_ret
    exact ⟨ret_int (by unfold bcut; omega), rfl⟩

theorem bcut_bd (n : Int) : 0 ≤ bcut n ∧ bcut n ≤ 1152921504606846976 := by unfold bcut; omega
theorem bblocks_bd (n : Int) (h : n ≤ 1152921504606846976) : 0 ≤ bblocks n ∧ bblocks n ≤ 17592186044416 := by
  unfold bblocks; split <;> omega

def bframe (n f : Int) : Int := bcut n + 5 * bblocks (bcut n) + 5 * bcut f + 32

set_option maxHeartbeats 400000 in
theorem refFrame_any (n f : Int) (w : World) :
    Calls Try.prog 18 #[.int .i64 n, .int .i64 f] w fun e w' => e = .returned (.int .i64 (bframe n f)) ∧ w = w' := by
  obtain ⟨a1, a2⟩ := bcut_bd n
  obtain ⟨c1, c2⟩ := bcut_bd f
  obtain ⟨b1, b2⟩ := bblocks_bd (bcut n) a2
  go_enter Try.func18, Try.ntmps18
  go_wp2_with (first
    | (go_at_call 44; refine (refCut_any _ _).mono ?_; rintro e w' ⟨rfl, rfl⟩)
    | (go_at_call 16; refine (refBlocks_any _ _ (by omega) (by omega)).mono ?_; rintro e w' ⟨rfl, rfl⟩))
  go_ret
  exact ⟨ret_int (by unfold bframe; omega), rfl⟩

set_option maxHeartbeats 400000 in
theorem sum_four (a b c d : Int) (g : Nat) (w : World) (ha : 0 ≤ a) (hb : 0 ≤ b) (hc : 0 ≤ c) (hd : 0 ≤ d) (ha' : a ≤ 1152921504606846976) (hb' : b ≤ 1152921504606846976) (hc' : c ≤ 5764607523034234880) (hd' : d ≤ 1000)
    (k0 : w.cell? ⟨g, 0, none⟩ = some (.int .i64 a)) (k1 : w.cell? ⟨g, 1, none⟩ = some (.int .i64 b)) (k2 : w.cell? ⟨g, 2, none⟩ = some (.int .i64 c)) (k3 : w.cell? ⟨g, 3, none⟩ = some (.int .i64 d)) :
    Calls Try.prog 42 #[.slice (some ⟨g, 0, none⟩) 4 4] w fun e w' => e = .returned (.int .i64 (a + b + c + d)) ∧ w = w' := by
  go_enter Try.func42, Try.ntmps42
  go_wp2
  refine wp_loop_rounds 5 ?_
  iterate 5
    rw [rounds_succ]
    go_wp2
  go_ret
  exact ⟨ret_int (by omega), rfl⟩

set_option maxHeartbeats 400000 in
theorem frame_any (n f : Int) (w : World) :
    Calls Try.prog 17 #[.int .i64 n, .int .i64 f] w fun e w' => e = .returned (.int .i64 (bframe n f)) ∧ Below w.heap.size w w' := by
  obtain ⟨a1, a2⟩ := bcut_bd n
  obtain ⟨c1, c2⟩ := bcut_bd f
  obtain ⟨b1, b2⟩ := bblocks_bd (bcut n) a2
  go_enter Try.func17, Try.ntmps17
  go_wp2_with (first
    | (go_at_call 43; refine (cut_any _ _).mono ?_; rintro e w' ⟨rfl, rfl⟩)
    | (go_at_call 15; refine (blocks_any _ _ (by omega) (by omega)).mono ?_; rintro e w' ⟨rfl, rfl⟩)
    | (go_at_call 42; refine (sum_four (bcut n) (5 * bblocks (bcut n)) (5 * bcut f) 32 w.heap.size _ (by omega) (by omega) (by omega) (by omega) (by omega) (by omega) (by omega) (by omega) ?k0 ?k1 ?k2 ?k3).mono ?_; (case k0 => simp [go_sem]); (case k1 => simp [go_sem]); (case k2 => simp [go_sem]); (case k3 => simp [go_sem]); rintro e w' ⟨rfl, rfl⟩))
  go_ret
  exact ⟨ret_int (by unfold bframe; omega), (Below.refl _ _).alloc (Nat.le_refl _) _⟩

theorem head_any (w : World) : Calls Try.prog 45 #[] w fun e w' => e = .returned (.int .i64 32) ∧ w = w' := by
  go_enter Try.func45, Try.ntmps45
  go_wp2
  go_ret
  exact ⟨rfl, rfl⟩

set_option maxHeartbeats 400000 in
theorem awake38 (w : World) : Calls Try.prog 19 #[] w fun e w' => e = .returned (.bool true) ∧ Below w.heap.size w w' := by
  have f1 : bframe 1 0 = 38 := by decide
  have f2 : bframe 0 0 = 32 := by decide
  have f3 : bframe (-5) 2 = 42 := by decide
  have f4 : bblocks 65536 = 1 := by decide
  have f5 : bblocks 65537 = 2 := by decide
  have HB := Aside.mk (Below.refl w.heap.size w)
  go_enter Try.func19, Try.ntmps19
  go_wp2_with (first
    | (go_at_call 17; refine (frame_any _ _ _).mono ?_; rintro e w' ⟨rfl, hb⟩; replace HB := Aside.mk (bl_step (by repeat (first | exact HB.out | apply bl_alloc | apply bl_drewN | apply bl_drew)) hb); clear hb)
    | (go_at_call 15; refine (blocks_any _ _ (by omega) (by omega)).mono ?_; rintro e w' ⟨rfl, rfl⟩)
    | (go_at_call 45; refine (head_any _).mono ?_; rintro e w' ⟨rfl, rfl⟩))
  go_ret
  exact ⟨rfl, HB.out⟩

set_option maxHeartbeats 400000 in
theorem boundSums_walk (n f : Int) (w : World) (w0 : (Lit.int .i64 n).wf = true) (_w1 : (Lit.int .i64 f).wf = true) :
    Calls Try.prog 3 #[.int .i64 n, .int .i64 f] w fun e w' => e = .returned (.bool true) ∧ Below w.heap.size w w' := by
  obtain ⟨n1, n2⟩ : -9223372036854775808 ≤ n ∧ n ≤ 9223372036854775807 := by
    simp only [Lit.wf, Bool.and_eq_true, decide_eq_true_eq] at w0; exact w0
  clear w0 _w1
  have HB := Aside.mk (Below.refl w.heap.size w)
  go_enter Try.func3, Try.ntmps3
  go_wp2_with (first
    | (go_at_call 15; refine (blocks_any _ _ (by omega) (by omega)).mono ?_; rintro e w' ⟨rfl, rfl⟩)
    | (go_at_call 16; refine (refBlocks_any _ _ (by omega) (by omega)).mono ?_; rintro e w' ⟨rfl, rfl⟩)
    | (go_at_call 17; refine (frame_any _ _ _).mono ?_; rintro e w' ⟨rfl, hb⟩; replace HB := Aside.mk (bl_step (by repeat (first | exact HB.out | apply bl_alloc | apply bl_drewN | apply bl_drew)) hb); clear hb)
    | (go_at_call 18; refine (refFrame_any _ _ _).mono ?_; rintro e w' ⟨rfl, rfl⟩)
    | (go_at_call 19; refine (awake38 _).mono ?_; rintro e w' ⟨rfl, hb⟩; replace HB := Aside.mk (bl_step (by repeat (first | exact HB.out | apply bl_alloc | apply bl_drewN | apply bl_drew)) hb); clear hb))
  go_ret
  exact ⟨rfl, HB.out⟩

theorem bframe_mono (n m x y : Int) (h : n ≤ m) (h2 : x ≤ y) : bframe n x ≤ bframe m y := by
  have : bcut n ≤ bcut m := by unfold bcut; omega
  have : bblocks (bcut n) ≤ bblocks (bcut m) := by unfold bblocks; split <;> split <;> omega
  have : bcut x ≤ bcut y := by unfold bcut; omega
  unfold bframe; omega
theorem bframe_grow (n m : Int) (h0 : 0 ≤ n) (h : n ≤ m) (hm : m ≤ 4294967295) : m - n ≤ bframe m 0 - bframe n 0 := by
  have : bcut n = n := by unfold bcut; omega
  have : bcut m = m := by unfold bcut; omega
  have : bblocks (bcut n) ≤ bblocks (bcut m) := by unfold bblocks; split <;> split <;> omega
  unfold bframe; omega
theorem bframe_bd (n x : Int) : 0 ≤ bframe n x ∧ bframe n x ≤ 8000000000000000000 := by
  obtain ⟨a1, a2⟩ := bcut_bd n
  obtain ⟨c1, c2⟩ := bcut_bd x
  obtain ⟨b1, b2⟩ := bblocks_bd (bcut n) a2
  unfold bframe; omega

set_option maxHeartbeats 800000 in
theorem rises1 (a b x y : Int) (w : World) (a1 : 0 ≤ a) (a2 : a ≤ 4294967295) (b1 : 0 ≤ b) (b2 : b ≤ 4294967295) (_x1 : 0 ≤ x) (_x2 : x ≤ 65535) (_y1 : 0 ≤ y) (_y2 : y ≤ 65535) (hab : a < b) (hxy : x < y) :
    Calls Try.prog 4 #[.agg #[.int .u32 a, .int .u32 b], .agg #[.int .u16 x, .int .u16 y]] w fun e w' => e = .returned (.bool true) ∧ Below w.heap.size w w' := by
  have HB := Aside.mk (Below.refl w.heap.size w)
  obtain ⟨p1, p2⟩ := bframe_bd b 0
  obtain ⟨p3, p4⟩ := bframe_bd a 0
  have p5 := bframe_mono a b x y (by omega) (by omega)
  have p6 := bframe_grow a b (by omega) (by omega) (by omega)
  go_enter Try.func4, Try.ntmps4
  go_wp2
  go_quiet (fail)
  go_wp2
  go_quiet (fail)
  go_wp2_with (first
    | (go_at_call 17; refine (frame_any _ _ _).mono ?_; rintro e w' ⟨rfl, hb⟩; replace HB := Aside.mk (bl_step (by repeat (first | exact HB.out | apply bl_alloc | apply bl_drewN | apply bl_drew)) hb); clear hb)
    | (go_at_call 19; refine (awake38 _).mono ?_; rintro e w' ⟨rfl, hb⟩; replace HB := Aside.mk (bl_step (by repeat (first | exact HB.out | apply bl_alloc | apply bl_drewN | apply bl_drew)) hb); clear hb))
  go_ret
  exact ⟨rfl, HB.out⟩
set_option maxHeartbeats 800000 in
theorem rises2 (a b x y : Int) (w : World) (a1 : 0 ≤ a) (a2 : a ≤ 4294967295) (b1 : 0 ≤ b) (b2 : b ≤ 4294967295) (_x1 : 0 ≤ x) (_x2 : x ≤ 65535) (_y1 : 0 ≤ y) (_y2 : y ≤ 65535) (hab : a < b) (hxy : y < x) :
    Calls Try.prog 4 #[.agg #[.int .u32 a, .int .u32 b], .agg #[.int .u16 x, .int .u16 y]] w fun e w' => e = .returned (.bool true) ∧ Below w.heap.size w w' := by
  have HB := Aside.mk (Below.refl w.heap.size w)
  obtain ⟨p1, p2⟩ := bframe_bd b 0
  obtain ⟨p3, p4⟩ := bframe_bd a 0
  have p5 := bframe_mono a b y x (by omega) (by omega)
  have p6 := bframe_grow a b (by omega) (by omega) (by omega)
  go_enter Try.func4, Try.ntmps4
  go_wp2
  go_quiet (fail)
  go_wp2
  go_quiet (fail)
  go_wp2_with (first
    | (go_at_call 17; refine (frame_any _ _ _).mono ?_; rintro e w' ⟨rfl, hb⟩; replace HB := Aside.mk (bl_step (by repeat (first | exact HB.out | apply bl_alloc | apply bl_drewN | apply bl_drew)) hb); clear hb)
    | (go_at_call 19; refine (awake38 _).mono ?_; rintro e w' ⟨rfl, hb⟩; replace HB := Aside.mk (bl_step (by repeat (first | exact HB.out | apply bl_alloc | apply bl_drewN | apply bl_drew)) hb); clear hb))
  go_ret
  exact ⟨rfl, HB.out⟩
set_option maxHeartbeats 800000 in
theorem rises3 (a b x : Int) (w : World) (a1 : 0 ≤ a) (a2 : a ≤ 4294967295) (b1 : 0 ≤ b) (b2 : b ≤ 4294967295) (_x1 : 0 ≤ x) (_x2 : x ≤ 65535) (hab : a < b) :
    Calls Try.prog 4 #[.agg #[.int .u32 a, .int .u32 b], .agg #[.int .u16 x, .int .u16 x]] w fun e w' => e = .returned (.bool true) ∧ Below w.heap.size w w' := by
  have HB := Aside.mk (Below.refl w.heap.size w)
  obtain ⟨p1, p2⟩ := bframe_bd b 0
  obtain ⟨p3, p4⟩ := bframe_bd a 0
  have p5 := bframe_mono a b x x (by omega) (by omega)
  have p6 := bframe_grow a b (by omega) (by omega) (by omega)
  go_enter Try.func4, Try.ntmps4
  go_wp2
  go_quiet (fail)
  go_wp2
  go_quiet (fail)
  go_wp2_with (first
    | (go_at_call 17; refine (frame_any _ _ _).mono ?_; rintro e w' ⟨rfl, hb⟩; replace HB := Aside.mk (bl_step (by repeat (first | exact HB.out | apply bl_alloc | apply bl_drewN | apply bl_drew)) hb); clear hb)
    | (go_at_call 19; refine (awake38 _).mono ?_; rintro e w' ⟨rfl, hb⟩; replace HB := Aside.mk (bl_step (by repeat (first | exact HB.out | apply bl_alloc | apply bl_drewN | apply bl_drew)) hb); clear hb))
  go_ret
  exact ⟨rfl, HB.out⟩
set_option maxHeartbeats 800000 in
theorem rises4 (a b x y : Int) (w : World) (a1 : 0 ≤ a) (a2 : a ≤ 4294967295) (b1 : 0 ≤ b) (b2 : b ≤ 4294967295) (_x1 : 0 ≤ x) (_x2 : x ≤ 65535) (_y1 : 0 ≤ y) (_y2 : y ≤ 65535) (hab : b < a) (hxy : x < y) :
    Calls Try.prog 4 #[.agg #[.int .u32 a, .int .u32 b], .agg #[.int .u16 x, .int .u16 y]] w fun e w' => e = .returned (.bool true) ∧ Below w.heap.size w w' := by
  have HB := Aside.mk (Below.refl w.heap.size w)
  obtain ⟨p1, p2⟩ := bframe_bd a 0
  obtain ⟨p3, p4⟩ := bframe_bd b 0
  have p5 := bframe_mono b a x y (by omega) (by omega)
  have p6 := bframe_grow b a (by omega) (by omega) (by omega)
  go_enter Try.func4, Try.ntmps4
  go_wp2
  go_quiet (fail)
  go_wp2
  go_quiet (fail)
  go_wp2_with (first
    | (go_at_call 17; refine (frame_any _ _ _).mono ?_; rintro e w' ⟨rfl, hb⟩; replace HB := Aside.mk (bl_step (by repeat (first | exact HB.out | apply bl_alloc | apply bl_drewN | apply bl_drew)) hb); clear hb)
    | (go_at_call 19; refine (awake38 _).mono ?_; rintro e w' ⟨rfl, hb⟩; replace HB := Aside.mk (bl_step (by repeat (first | exact HB.out | apply bl_alloc | apply bl_drewN | apply bl_drew)) hb); clear hb))
  go_ret
  exact ⟨rfl, HB.out⟩
set_option maxHeartbeats 800000 in
theorem rises5 (a b x y : Int) (w : World) (a1 : 0 ≤ a) (a2 : a ≤ 4294967295) (b1 : 0 ≤ b) (b2 : b ≤ 4294967295) (_x1 : 0 ≤ x) (_x2 : x ≤ 65535) (_y1 : 0 ≤ y) (_y2 : y ≤ 65535) (hab : b < a) (hxy : y < x) :
    Calls Try.prog 4 #[.agg #[.int .u32 a, .int .u32 b], .agg #[.int .u16 x, .int .u16 y]] w fun e w' => e = .returned (.bool true) ∧ Below w.heap.size w w' := by
  have HB := Aside.mk (Below.refl w.heap.size w)
  obtain ⟨p1, p2⟩ := bframe_bd a 0
  obtain ⟨p3, p4⟩ := bframe_bd b 0
  have p5 := bframe_mono b a y x (by omega) (by omega)
  have p6 := bframe_grow b a (by omega) (by omega) (by omega)
  go_enter Try.func4, Try.ntmps4
  go_wp2
  go_quiet (fail)
  go_wp2
  go_quiet (fail)
  go_wp2_with (first
    | (go_at_call 17; refine (frame_any _ _ _).mono ?_; rintro e w' ⟨rfl, hb⟩; replace HB := Aside.mk (bl_step (by repeat (first | exact HB.out | apply bl_alloc | apply bl_drewN | apply bl_drew)) hb); clear hb)
    | (go_at_call 19; refine (awake38 _).mono ?_; rintro e w' ⟨rfl, hb⟩; replace HB := Aside.mk (bl_step (by repeat (first | exact HB.out | apply bl_alloc | apply bl_drewN | apply bl_drew)) hb); clear hb))
  go_ret
  exact ⟨rfl, HB.out⟩
set_option maxHeartbeats 800000 in
theorem rises6 (a b x : Int) (w : World) (a1 : 0 ≤ a) (a2 : a ≤ 4294967295) (b1 : 0 ≤ b) (b2 : b ≤ 4294967295) (_x1 : 0 ≤ x) (_x2 : x ≤ 65535) (hab : b < a) :
    Calls Try.prog 4 #[.agg #[.int .u32 a, .int .u32 b], .agg #[.int .u16 x, .int .u16 x]] w fun e w' => e = .returned (.bool true) ∧ Below w.heap.size w w' := by
  have HB := Aside.mk (Below.refl w.heap.size w)
  obtain ⟨p1, p2⟩ := bframe_bd a 0
  obtain ⟨p3, p4⟩ := bframe_bd b 0
  have p5 := bframe_mono b a x x (by omega) (by omega)
  have p6 := bframe_grow b a (by omega) (by omega) (by omega)
  go_enter Try.func4, Try.ntmps4
  go_wp2
  go_quiet (fail)
  go_wp2
  go_quiet (fail)
  go_wp2_with (first
    | (go_at_call 17; refine (frame_any _ _ _).mono ?_; rintro e w' ⟨rfl, hb⟩; replace HB := Aside.mk (bl_step (by repeat (first | exact HB.out | apply bl_alloc | apply bl_drewN | apply bl_drew)) hb); clear hb)
    | (go_at_call 19; refine (awake38 _).mono ?_; rintro e w' ⟨rfl, hb⟩; replace HB := Aside.mk (bl_step (by repeat (first | exact HB.out | apply bl_alloc | apply bl_drewN | apply bl_drew)) hb); clear hb))
  go_ret
  exact ⟨rfl, HB.out⟩
set_option maxHeartbeats 800000 in
theorem rises7 (a x y : Int) (w : World) (a1 : 0 ≤ a) (a2 : a ≤ 4294967295) (_x1 : 0 ≤ x) (_x2 : x ≤ 65535) (_y1 : 0 ≤ y) (_y2 : y ≤ 65535) (hxy : x < y) :
    Calls Try.prog 4 #[.agg #[.int .u32 a, .int .u32 a], .agg #[.int .u16 x, .int .u16 y]] w fun e w' => e = .returned (.bool true) ∧ Below w.heap.size w w' := by
  have HB := Aside.mk (Below.refl w.heap.size w)
  obtain ⟨p1, p2⟩ := bframe_bd a 0
  obtain ⟨p3, p4⟩ := bframe_bd a 0
  have p5 := bframe_mono a a x y (by omega) (by omega)
  have p6 := bframe_grow a a (by omega) (by omega) (by omega)
  go_enter Try.func4, Try.ntmps4
  go_wp2
  go_quiet (fail)
  go_wp2
  go_quiet (fail)
  go_wp2_with (first
    | (go_at_call 17; refine (frame_any _ _ _).mono ?_; rintro e w' ⟨rfl, hb⟩; replace HB := Aside.mk (bl_step (by repeat (first | exact HB.out | apply bl_alloc | apply bl_drewN | apply bl_drew)) hb); clear hb)
    | (go_at_call 19; refine (awake38 _).mono ?_; rintro e w' ⟨rfl, hb⟩; replace HB := Aside.mk (bl_step (by repeat (first | exact HB.out | apply bl_alloc | apply bl_drewN | apply bl_drew)) hb); clear hb))
  go_ret
  exact ⟨rfl, HB.out⟩
set_option maxHeartbeats 800000 in
theorem rises8 (a x y : Int) (w : World) (a1 : 0 ≤ a) (a2 : a ≤ 4294967295) (_x1 : 0 ≤ x) (_x2 : x ≤ 65535) (_y1 : 0 ≤ y) (_y2 : y ≤ 65535) (hxy : y < x) :
    Calls Try.prog 4 #[.agg #[.int .u32 a, .int .u32 a], .agg #[.int .u16 x, .int .u16 y]] w fun e w' => e = .returned (.bool true) ∧ Below w.heap.size w w' := by
  have HB := Aside.mk (Below.refl w.heap.size w)
  obtain ⟨p1, p2⟩ := bframe_bd a 0
  obtain ⟨p3, p4⟩ := bframe_bd a 0
  have p5 := bframe_mono a a y x (by omega) (by omega)
  have p6 := bframe_grow a a (by omega) (by omega) (by omega)
  go_enter Try.func4, Try.ntmps4
  go_wp2
  go_quiet (fail)
  go_wp2
  go_quiet (fail)
  go_wp2_with (first
    | (go_at_call 17; refine (frame_any _ _ _).mono ?_; rintro e w' ⟨rfl, hb⟩; replace HB := Aside.mk (bl_step (by repeat (first | exact HB.out | apply bl_alloc | apply bl_drewN | apply bl_drew)) hb); clear hb)
    | (go_at_call 19; refine (awake38 _).mono ?_; rintro e w' ⟨rfl, hb⟩; replace HB := Aside.mk (bl_step (by repeat (first | exact HB.out | apply bl_alloc | apply bl_drewN | apply bl_drew)) hb); clear hb))
  go_ret
  exact ⟨rfl, HB.out⟩
set_option maxHeartbeats 800000 in
theorem rises9 (a x : Int) (w : World) (a1 : 0 ≤ a) (a2 : a ≤ 4294967295) (_x1 : 0 ≤ x) (_x2 : x ≤ 65535) :
    Calls Try.prog 4 #[.agg #[.int .u32 a, .int .u32 a], .agg #[.int .u16 x, .int .u16 x]] w fun e w' => e = .returned (.bool true) ∧ Below w.heap.size w w' := by
  have HB := Aside.mk (Below.refl w.heap.size w)
  obtain ⟨p1, p2⟩ := bframe_bd a 0
  obtain ⟨p3, p4⟩ := bframe_bd a 0
  have p5 := bframe_mono a a x x (by omega) (by omega)
  have p6 := bframe_grow a a (by omega) (by omega) (by omega)
  go_enter Try.func4, Try.ntmps4
  go_wp2
  go_quiet (fail)
  go_wp2
  go_quiet (fail)
  go_wp2_with (first
    | (go_at_call 17; refine (frame_any _ _ _).mono ?_; rintro e w' ⟨rfl, hb⟩; replace HB := Aside.mk (bl_step (by repeat (first | exact HB.out | apply bl_alloc | apply bl_drewN | apply bl_drew)) hb); clear hb)
    | (go_at_call 19; refine (awake38 _).mono ?_; rintro e w' ⟨rfl, hb⟩; replace HB := Aside.mk (bl_step (by repeat (first | exact HB.out | apply bl_alloc | apply bl_drewN | apply bl_drew)) hb); clear hb))
  go_ret
  exact ⟨rfl, HB.out⟩

theorem boundRises_walk (a b x y : Int) (w : World) (wa : (Lit.int .u32 a).wf = true) (wb : (Lit.int .u32 b).wf = true) (wx : (Lit.int .u16 x).wf = true) (wy : (Lit.int .u16 y).wf = true) :
    Calls Try.prog 4 #[.agg #[.int .u32 a, .int .u32 b], .agg #[.int .u16 x, .int .u16 y]] w fun e w' => e = .returned (.bool true) ∧ Below w.heap.size w w' := by
  obtain ⟨a1, a2⟩ := u32_bd wa
  obtain ⟨b1, b2⟩ := u32_bd wb
  obtain ⟨x1, x2⟩ := u16_bd wx
  obtain ⟨y1, y2⟩ := u16_bd wy
  rcases Int.lt_trichotomy a b with h | h | h <;> rcases Int.lt_trichotomy x y with g | g | g
  · exact rises1 a b x y w a1 a2 b1 b2 x1 x2 y1 y2 h g
  · subst g; exact rises3 a b x w a1 a2 b1 b2 x1 x2 h
  · exact rises2 a b x y w a1 a2 b1 b2 x1 x2 y1 y2 h g
  · subst h; exact rises7 a x y w a1 a2 x1 x2 y1 y2 g
  · subst h; subst g; exact rises9 a x w a1 a2 x1 x2
  · subst h; exact rises8 a x y w a1 a2 x1 x2 y1 y2 g
  · exact rises4 a b x y w a1 a2 b1 b2 x1 x2 y1 y2 h g
  · subst g; exact rises6 a b x w a1 a2 b1 b2 x1 x2 h
  · exact rises5 a b x y w a1 a2 b1 b2 x1 x2 y1 y2 h g
end Go.Proofs.Ytjmenlffhoodeaa
