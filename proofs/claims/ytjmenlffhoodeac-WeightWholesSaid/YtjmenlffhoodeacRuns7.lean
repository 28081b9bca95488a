/- The known answers of runs, walked. -/
import Derived.Test.YtjmenlffhoodeacRuns6
namespace Go.Proofs.Ytjmenlffhoodeac
open Go.RowKit

theorem ints_litG (w : World) (t : TypeId) (xs : List Int) : IntsG (w.alloc (.cells (xs.map (Value.int .i64)).toArray t)) (w.heap.size + 1) (some ⟨w.heap.size, 0, none⟩) xs := fun i hi =>
  ⟨_, rfl, Nat.lt_succ_self _, by rw [addr_at, (Blk.new w t _).cell i]; simp [List.getD, hi]⟩
theorem ints_litA (w : World) (t : TypeId) (xs : List Int) (h : xs.length ≤ maxLen) : IntsAt (w.alloc (.cells (xs.map (Value.int .i64)).toArray t)) (w.heap.size + 1) (.slice (some ⟨w.heap.size, 0, none⟩) xs.length xs.length) xs :=
  .inr ⟨_, _, rfl, Nat.lt_succ_self _, Nat.le_refl _, h, fun i hi => by rw [(Blk.new w t _).cell i]; simp [List.getD, hi]⟩
theorem pairs_litA (w : World) (t : TypeId) (xs : List (Int × Int)) (h : xs.length ≤ maxLen) : PairsAt (w.alloc (.cells (cells2 xs).toArray t)) (w.heap.size + 1) (.slice (some ⟨w.heap.size, 0, none⟩) xs.length xs.length) xs :=
  .inr ⟨_, _, rfl, Nat.lt_succ_self _, Nat.le_refl _, h, fun i hi => by
    obtain ⟨a, b⟩ := cells2_at xs i hi
    rw [(Blk.new w t _).cell (i * 2), (Blk.new w t _).cell (i * 2 + 1)]; simp [a, b]⟩
theorem PairsAt.len0 {w : World} {B : Nat} {v : Value} (h : PairsAt w B v []) : ∃ A c, v = .slice A 0 c := by
  obtain ⟨A, c, e, _⟩ := h.form; exact ⟨A, c, e⟩
def lit7 : List Int := [5, 5, 5, 5, 0, 0, 0]
def lit3 : List (Int × Int) := [(5, 0), (16, 0), (17, 0)]
theorem pack7 : Runs.pack [5, 5, 5, 5, 0, 0, 0] = [(5, 0), (16, 0), (17, 0)] := by
  decide +kernel
theorem pack1 : Runs.pack [16] = [] := by decide +kernel
theorem unp7 : Runs.unpack [(5, 0), (16, 0), (17, 0)] 7 = ([5, 5, 5, 5, 0, 0, 0], 0) := by decide +kernel
theorem unp6 : (Runs.unpack [(5, 0), (16, 0), (17, 0)] 6).2 = 4 := by decide +kernel
theorem unp8 : (Runs.unpack [(5, 0), (16, 0), (17, 0)] 8).2 = 3 := by decide +kernel
theorem unp9 : (Runs.unpack [(16, 4)] 9).2 = 2 := by decide +kernel
theorem unp3 : Runs.unpack [(16, 0)] 3 = ([0, 0, 0], 0) := by decide +kernel
theorem ext18 : Runs.extra 18 = 7 := by decide

set_option maxRecDepth 100000 in
set_option maxHeartbeats 8000000 in
theorem awake12 (w : World) : Calls Try.prog 8 #[] w fun e w' => e = .returned (.bool true) ∧ Below w.heap.size w w' := by
  go_enter Try.func8, Try.ntmps8
  go_wp2_with fail
  refine (pack_any [5, 5, 5, 5, 0, 0, 0] (some ⟨w.heap.size, 0, none⟩) 7 (w.heap.size + 1) _ (ints_litG w 3 [5, 5, 5, 5, 0, 0, 0]) (by simp) (by decide) (by decide) (by decide)).mono ?_
  rintro e w1 ⟨v, rfl, hp, hb⟩
  rw [pack7] at hp
  have HB := Aside.mk (bl_step (bl_alloc (Below.refl w.heap.size w) (.cells #[.int .i64 5, .int .i64 5, .int .i64 5, .int .i64 5, .int .i64 0, .int .i64 0, .int .i64 0] 3)) hb)
  have HP := Aside.mk hp
  clear hp hb
  have u7 := fun wq (h : PairsG wq wq.heap.size v [(5, 0), (16, 0), (17, 0)]) => unpack_any [(5, 0), (16, 0), (17, 0)] v 7 wq.heap.size wq h (Nat.le_refl _) (by unfold okRuns; decide) (by decide)
  rw [unp7] at u7
  go_wp2_with fail
  refine (u7 _ HP.out.toG).mono ?_
  rintro e w2 ⟨r, rfl, hi, hb⟩
  replace HP := Aside.mk ((HP.out.keep hb).up hb.size)
  replace HB := Aside.mk (bl_step HB.out hb)
  have HI := Aside.mk hi
  clear hi hb u7
  have u6 := fun wq (h : PairsG wq wq.heap.size v [(5, 0), (16, 0), (17, 0)]) => unpack_any [(5, 0), (16, 0), (17, 0)] v 6 wq.heap.size wq h (Nat.le_refl _) (by unfold okRuns; decide) (by decide)
  rw [unp6] at u6
  go_wp2_with fail
  refine (u6 _ HP.out.toG).mono ?_
  rintro e w3 ⟨r2, rfl, _, hb⟩
  replace HP := Aside.mk ((HP.out.keep hb).up hb.size)
  replace HI := Aside.mk ((HI.out.keep hb).up hb.size)
  replace HB := Aside.mk (bl_step HB.out hb)
  clear hb u6
  have u8 := fun wq (h : PairsG wq wq.heap.size v [(5, 0), (16, 0), (17, 0)]) => unpack_any [(5, 0), (16, 0), (17, 0)] v 8 wq.heap.size wq h (Nat.le_refl _) (by unfold okRuns; decide) (by decide)
  rw [unp8] at u8
  go_wp2_with fail
  refine (u8 _ HP.out.toG).mono ?_
  rintro e w4 ⟨r3, rfl, _, hb⟩
  replace HP := Aside.mk ((HP.out.keep hb).up hb.size)
  replace HI := Aside.mk ((HI.out.keep hb).up hb.size)
  replace HB := Aside.mk (bl_step HB.out hb)
  clear hb u8
  have u9 := fun wq => unpack_any [(16, 4)] (.slice (some ⟨wq.heap.size, 0, none⟩) 1 1) 9 (wq.heap.size + 1) _ (pairs_litA wq 52 [(16, 4)] (by decide)).toG (by simp) (by unfold okRuns; decide) (by decide)
  rw [unp9] at u9
  go_wp2_with fail
  refine (u9 _).mono ?_
  rintro e w5 ⟨r4, rfl, _, hb⟩
  replace hb := bl_step (bl_alloc (Below.refl w4.heap.size w4) _) hb
  replace HP := Aside.mk ((HP.out.keep hb).up hb.size)
  replace HI := Aside.mk ((HI.out.keep hb).up hb.size)
  replace HB := Aside.mk (bl_step HB.out hb)
  clear hb u9
  have u3 := fun wq => unpack_any [(16, 0)] (.slice (some ⟨wq.heap.size, 0, none⟩) 1 1) 3 (wq.heap.size + 1) _ (pairs_litA wq 52 [(16, 0)] (by decide)).toG (by simp) (by unfold okRuns; decide) (by decide)
  rw [unp3] at u3
  go_wp2_with fail
  refine (u3 _).mono ?_
  rintro e w6 ⟨r5, rfl, hi5, hb⟩
  replace hb := bl_step (bl_alloc (Below.refl w5.heap.size w5) _) hb
  replace HP := Aside.mk ((HP.out.keep hb).up hb.size)
  replace HI := Aside.mk ((HI.out.keep hb).up hb.size)
  replace HB := Aside.mk (bl_step HB.out hb)
  have HJ := Aside.mk hi5
  clear hb u3 hi5
  go_wp2_with fail
  have hb1 := bl_alloc (Below.refl w6.heap.size w6) (.cells #[.int .i64 5, .int .i64 0, .int .i64 16, .int .i64 0, .int .i64 17, .int .i64 0] 52)
  refine (same_any [(5, 0), (16, 0), (17, 0)] [(5, 0), (16, 0), (17, 0)] v _ (w6.heap.size + 1) _ ((HP.out.keep hb1).up (Nat.le_succ _)) (pairs_litA w6 52 [(5, 0), (16, 0), (17, 0)] (by decide))).mono ?_
  rintro e w7 ⟨rfl, hd⟩
  rw [decide_eq_true (rfl : [((5 : Int), (0 : Int)), (16, 0), (17, 0)] = [(5, 0), (16, 0), (17, 0)])]
  have hb := bl_drawn hb1 hd
  replace HI := Aside.mk ((HI.out.keep hb).up hb.size)
  replace HJ := Aside.mk ((HJ.out.keep hb).up hb.size)
  replace HB := Aside.mk (bl_step HB.out hb)
  clear hb hb1 hd HP
  go_wp2_with fail
  have hb1 := bl_alloc (Below.refl w7.heap.size w7) (.cells #[.int .i64 5, .int .i64 5, .int .i64 5, .int .i64 5, .int .i64 0, .int .i64 0, .int .i64 0] 3)
  refine (ints_any [5, 5, 5, 5, 0, 0, 0] [5, 5, 5, 5, 0, 0, 0] r _ (w7.heap.size + 1) _ ((HI.out.keep hb1).up (Nat.le_succ _)) (ints_litA w7 3 [5, 5, 5, 5, 0, 0, 0] (by decide))).mono ?_
  rintro e w8 ⟨rfl, hd⟩
  rw [decide_eq_true (rfl : [(5 : Int), 5, 5, 5, 0, 0, 0] = [5, 5, 5, 5, 0, 0, 0])]
  have hb := bl_drawn hb1 hd
  replace HJ := Aside.mk ((HJ.out.keep hb).up hb.size)
  replace HB := Aside.mk (bl_step HB.out hb)
  clear hb hb1 hd HI
  go_wp2_with fail
  have hb1 := bl_alloc (Below.refl w8.heap.size w8) (.cells #[.int .i64 0, .int .i64 0, .int .i64 0] 3)
  refine (ints_any [0, 0, 0] [0, 0, 0] r5 _ (w8.heap.size + 1) _ ((HJ.out.keep hb1).up (Nat.le_succ _)) (ints_litA w8 3 [0, 0, 0] (by decide))).mono ?_
  rintro e w9 ⟨rfl, hd⟩
  rw [decide_eq_true (rfl : [(0 : Int), 0, 0] = [0, 0, 0])]
  have hb := bl_drawn hb1 hd
  replace HB := Aside.mk (bl_step HB.out hb)
  clear hb hb1 hd HJ
  have h18 := fun wq => extra_any 18 wq
  rw [ext18] at h18
  go_wp2_with fail
  refine (h18 _).mono ?_
  rintro e w10 ⟨rfl, rfl⟩
  clear h18
  go_wp2_with fail
  refine (pack_any [16] (some ⟨_, 0, none⟩) 1 _ _ (ints_litG w10 3 [16]) (by simp) (by decide) (by decide) (by decide)).mono ?_
  rintro e w11 ⟨v11, rfl, hp, hb⟩
  rw [pack1] at hp
  obtain ⟨A, c, rfl⟩ := hp.len0
  replace HB := Aside.mk (bl_step HB.out (bl_step (bl_alloc (Below.refl w10.heap.size w10) (.cells #[.int .i64 16] 3)) hb))
  clear hp hb
  go_wp2_with fail
  go_ret
  exact ⟨rfl, HB.out⟩

/-! ### The laws -/
theorem okRuns_pk (N : Nat) : ∀ (l : List Int) (last : Int), l.length ≤ N → (∀ x ∈ l, 0 ≤ x ∧ x ≤ 15) → okRuns (Runs.pk last l) := by
  induction N with
  | zero =>
    intro l last hl _
    obtain rfl : l = [] := List.eq_nil_of_length_eq_zero (by omega)
    rw [Runs.pk_nil]; intro r hr; simp at hr
  | succ N ih =>
    intro l last hl hx
    cases l with
    | nil => rw [Runs.pk_nil]; intro r hr; simp at hr
    | cons x t =>
      rw [Runs.pk_cons]
      have h1 := Runs.first_k x t last
      have h2 := Runs.first_ok x t last (hx x (by simp))
      intro r hr
      rcases List.mem_cons.1 hr with rfl | hr
      · have hf := h2.1
        unfold Runs.fine Runs.extra at hf
        have := of_decide_eq_true hf
        obtain ⟨_, _, a, b⟩ := this
        constructor
        · omega
        · have : (2 : Int) ^ (if (Runs.first (x :: t) last).1.1 = 16 then 2 else if (Runs.first (x :: t) last).1.1 = 17 then 3 else if (Runs.first (x :: t) last).1.1 = 18 then 7 else 0) ≤ 128 := by
            split
            · decide
            · split
              · decide
              · split <;> decide
          omega
      · exact ih _ _ (by rw [List.length_drop]; omega) (fun z hz => hx z (List.mem_of_mem_drop hz)) r hr
end Go.Proofs.Ytjmenlffhoodeac
