/- The small functions of runs, walked. -/
import Derived.Test.YtjmenlffhoodeacProg
import Derived.Test.YtjmenlffhoodeacMem
import Derived.Test.YtjmenlffhoodeacRunsP
import Derived.Outline
namespace Go.Proofs.Ytjmenlffhoodeac
open Go.RowKit

theorem blk2_alloc (w : World) (t : TypeId) (a b : Value) : (w.alloc (.cells #[a, b] t)).cell? ⟨w.heap.size, 0, none⟩ = some a ∧ (w.alloc (.cells #[a, b] t)).cell? ⟨w.heap.size, 1, none⟩ = some b :=
  ⟨(Blk.new w t #[a, b]).cell 0, (Blk.new w t #[a, b]).cell 1⟩
set_option maxRecDepth 100000 in
theorem extra_any (s : Int) (w : World) : Calls Try.prog 15 #[.int .i64 s] w fun e w' => e = .returned (.int .i64 (Runs.extra s : Nat)) ∧ w' = w := by
  unfold Runs.extra
  by_cases h1 : s = 16
  · subst h1
    go_enter Try.func15, Try.ntmps15
    go_wp2_with fail
    go_ret
    exact ⟨rfl, rfl⟩
  · rw [if_neg h1]
    have e1 : (s == 16) = false := beq_eq_false_iff_ne.2 h1
    by_cases h2 : s = 17
    · subst h2
      go_enter Try.func15, Try.ntmps15
      go_wp2_with fail
      go_ret
      exact ⟨rfl, rfl⟩
    · rw [if_neg h2]
      have e2 : (s == 17) = false := beq_eq_false_iff_ne.2 h2
      by_cases h3 : s = 18
      · subst h3
        go_enter Try.func15, Try.ntmps15
        go_wp2_with fail
        go_ret
        exact ⟨rfl, rfl⟩
      · rw [if_neg h3]
        have e3 : (s == 18) = false := beq_eq_false_iff_ne.2 h3
        clear h1 h2 h3
        go_enter Try.func15, Try.ntmps15
        go_wp2_with fail
        go_ret
        exact ⟨rfl, rfl⟩
theorem refExtra_any (s : Int) (w : World) : Calls Try.prog 16 #[.int .i64 s] w fun e w' => e = .returned (.int .i64 (Runs.extra s : Nat)) ∧ w' = w := by
  unfold Runs.extra
  by_cases h1 : s = 16
  · subst h1
    go_enter Try.func16, Try.ntmps16
    go_wp2_with fail
    go_ret
    exact ⟨rfl, rfl⟩
  · rw [if_neg h1]
    have e1 : (s == 16) = false := beq_eq_false_iff_ne.2 h1
    by_cases h2 : s = 17
    · subst h2
      go_enter Try.func16, Try.ntmps16
      go_wp2_with fail
      go_ret
      exact ⟨rfl, rfl⟩
    · rw [if_neg h2]
      have e2 : (s == 17) = false := beq_eq_false_iff_ne.2 h2
      by_cases h3 : s = 18
      · subst h3
        go_enter Try.func16, Try.ntmps16
        go_wp2_with fail
        go_ret
        exact ⟨rfl, rfl⟩
      · rw [if_neg h3]
        have e3 : (s == 18) = false := beq_eq_false_iff_ne.2 h3
        clear h1 h2 h3
        go_enter Try.func16, Try.ntmps16
        go_wp2_with fail
        go_ret
        exact ⟨rfl, rfl⟩
theorem extra_val (s : Int) (e : Int) (w : World) (h : (Runs.extra s : Int) = e) : Calls Try.prog 15 #[.int .i64 s] w fun q w' => q = .returned (.int .i64 e) ∧ w' = w := by
  subst h; exact extra_any s w
theorem refExtra_val (s : Int) (e : Int) (w : World) (h : (Runs.extra s : Int) = e) : Calls Try.prog 16 #[.int .i64 s] w fun q w' => q = .returned (.int .i64 e) ∧ w' = w := by
  subst h; exact refExtra_any s w
theorem extra_small (s : Int) (h : s ≤ 15) : (Runs.extra s : Int) = 0 := by unfold Runs.extra; rw [if_neg (by omega), if_neg (by omega), if_neg (by omega)]; rfl
theorem fine_iff (s m : Int) : Runs.fine s m = true ↔ 0 ≤ s ∧ s ≤ 18 ∧ 0 ≤ m ∧ m < 2 ^ Runs.extra s := by unfold Runs.fine; simp
theorem fine_16 (m : Int) : Runs.fine 16 m = true ↔ 0 ≤ m ∧ m < 4 := by rw [fine_iff]; simp [Runs.extra]
theorem fine_17 (m : Int) : Runs.fine 17 m = true ↔ 0 ≤ m ∧ m < 8 := by rw [fine_iff]; simp [Runs.extra]
theorem fine_18 (m : Int) : Runs.fine 18 m = true ↔ 0 ≤ m ∧ m < 128 := by rw [fine_iff]; simp [Runs.extra]
theorem fine_low (s m : Int) (h0 : 0 ≤ s) (h1 : s ≤ 15) : Runs.fine s m = true ↔ m = 0 := by
  rw [fine_iff]
  have : Runs.extra s = 0 := by unfold Runs.extra; rw [if_neg (by omega), if_neg (by omega), if_neg (by omega)]
  rw [this]
  constructor
  · intro h; omega
  · intro h; subst h; exact ⟨h0, by omega, by omega, by omega⟩
set_option maxRecDepth 100000 in
set_option maxHeartbeats 4000000 in
theorem size_any (s m : Int) (w : World) (hm : -9223372036854775808 ≤ m ∧ m ≤ 9223372036854775807) : Calls Try.prog 27 #[.agg #[.int .i64 s, .int .i64 m]] w fun e w' => e = .returned (.tuple #[.int .i64 (if Runs.fine s m then Runs.many s m else 0), .bool (Runs.fine s m)]) ∧ Below w.heap.size w w' := by
  obtain ⟨a0, a1⟩ := blk2_alloc w 52 (.int .i64 s) (.int .i64 m)
  have HB := Aside.mk (bl_alloc (Below.refl w.heap.size w) (.cells #[.int .i64 s, .int .i64 m] 52))
  have HM := Aside.mk hm
  clear hm
  by_cases h1 : s < 0
  · have hf : Runs.fine s m = false := by unfold Runs.fine; exact decide_eq_false (by omega)
    have d1 : decide (s < 0) = true := decide_eq_true h1
    rw [hf]
    go_enter Try.func27, Try.ntmps27
    go_wp2_with fail
    go_quiet (fail)
    go_wp2_with fail
    go_ret2
    exact ⟨rfl, bl_drewN HB.out _⟩
  · have d1 : decide (s < 0) = false := decide_eq_false h1
    by_cases h2 : 18 < s
    · have hf : Runs.fine s m = false := by unfold Runs.fine; exact decide_eq_false (by omega)
      have d2 : decide (18 < s) = true := decide_eq_true h2
      rw [hf]
      go_enter Try.func27, Try.ntmps27
      go_wp2_with fail
      go_quiet (fail)
      go_wp2_with fail
      go_ret2
      exact ⟨rfl, bl_drewN HB.out _⟩
    · have d2 : decide (18 < s) = false := decide_eq_false h2
      by_cases h3 : m < 0
      · have hf : Runs.fine s m = false := by unfold Runs.fine; exact decide_eq_false (by omega)
        have d3 : decide (m < 0) = true := decide_eq_true h3
        rw [hf]
        go_enter Try.func27, Try.ntmps27
        go_wp2_with fail
        go_quiet (fail)
        go_wp2_with fail
        go_ret2
        exact ⟨rfl, bl_drewN HB.out _⟩
      · have d3 : decide (m < 0) = false := decide_eq_false h3
        have m0 : 0 ≤ m := by omega
        have s0 : 0 ≤ s := by omega
        have s1 : s ≤ 18 := by omega
        clear h1 h2 h3
        by_cases hs : s = 16
        · subst hs
          by_cases hd : m < 4
          · have hf : Runs.fine 16 m = true := (fine_16 m).2 ⟨m0, hd⟩
            have d4 : (m / 4 != 0) = false := by simp; omega
            have em : Runs.many 16 m = 3 + m := rfl
            rw [hf, if_pos rfl, em]
            clear hf em
            go_enter Try.func27, Try.ntmps27
            go_wp2_with fail
            go_quiet ((go_at_call 15; exact Calls.quiet_of_same (extra_val _ 2 _ (by decide))))
            go_wp2_with fail
            go_ret2
            exact ⟨rfl, bl_drewN HB.out _⟩
          · have hf : Runs.fine 16 m = false := by rw [← Bool.not_eq_true]; exact fun h => hd ((fine_16 m).1 h).2
            have d4 : (m / 4 != 0) = true := by simp; omega
            rw [hf]
            go_enter Try.func27, Try.ntmps27
            go_wp2_with fail
            go_quiet ((go_at_call 15; exact Calls.quiet_of_same (extra_val _ 2 _ (by decide))))
            go_wp2_with fail
            go_ret2
            exact ⟨rfl, bl_drewN HB.out _⟩
        · have n16 := hs
          clear hs
          by_cases hs : s = 17
          · subst hs
            by_cases hd : m < 8
            · have hf : Runs.fine 17 m = true := (fine_17 m).2 ⟨m0, hd⟩
              have d4 : (m / 8 != 0) = false := by simp; omega
              have em : Runs.many 17 m = 3 + m := rfl
              rw [hf, if_pos rfl, em]
              clear hf em
              go_enter Try.func27, Try.ntmps27
              go_wp2_with fail
              go_quiet ((go_at_call 15; exact Calls.quiet_of_same (extra_val _ 3 _ (by decide))))
              go_wp2_with fail
              go_ret2
              exact ⟨rfl, bl_drewN HB.out _⟩
            · have hf : Runs.fine 17 m = false := by rw [← Bool.not_eq_true]; exact fun h => hd ((fine_17 m).1 h).2
              have d4 : (m / 8 != 0) = true := by simp; omega
              rw [hf]
              go_enter Try.func27, Try.ntmps27
              go_wp2_with fail
              go_quiet ((go_at_call 15; exact Calls.quiet_of_same (extra_val _ 3 _ (by decide))))
              go_wp2_with fail
              go_ret2
              exact ⟨rfl, bl_drewN HB.out _⟩
          · have n17 := hs
            clear hs
            by_cases hs : s = 18
            · subst hs
              by_cases hd : m < 128
              · have hf : Runs.fine 18 m = true := (fine_18 m).2 ⟨m0, hd⟩
                have d4 : (m / 128 != 0) = false := by simp; omega
                have em : Runs.many 18 m = 11 + m := rfl
                rw [hf, if_pos rfl, em]
                clear hf em
                go_enter Try.func27, Try.ntmps27
                go_wp2_with fail
                go_quiet ((go_at_call 15; exact Calls.quiet_of_same (extra_val _ 7 _ (by decide))))
                go_wp2_with fail
                go_ret2
                exact ⟨rfl, bl_drewN HB.out _⟩
              · have hf : Runs.fine 18 m = false := by rw [← Bool.not_eq_true]; exact fun h => hd ((fine_18 m).1 h).2
                have d4 : (m / 128 != 0) = true := by simp; omega
                rw [hf]
                go_enter Try.func27, Try.ntmps27
                go_wp2_with fail
                go_quiet ((go_at_call 15; exact Calls.quiet_of_same (extra_val _ 7 _ (by decide))))
                go_wp2_with fail
                go_ret2
                exact ⟨rfl, bl_drewN HB.out _⟩
            · have n18 := hs
              clear hs
              have hl : s ≤ 15 := by omega
              clear n16 n17 n18
              by_cases hd : m = 0
              · subst hd
                have hf : Runs.fine s 0 = true := (fine_low s 0 s0 hl).2 rfl
                have em : Runs.many s 0 = 1 := by unfold Runs.many; rw [if_neg (by omega), if_neg (by omega)]
                have g1 : (s == 16) = false := beq_eq_false_iff_ne.2 (by omega)
                have g2 : (s == 17) = false := beq_eq_false_iff_ne.2 (by omega)
                have g3 : (s == 18) = false := beq_eq_false_iff_ne.2 (by omega)
                rw [hf, if_pos rfl, em]
                clear hf em
                go_enter Try.func27, Try.ntmps27
                go_wp2_with fail
                go_quiet ((go_at_call 15; exact Calls.quiet_of_same (extra_val _ 0 _ (extra_small s hl))))
                go_wp2_with fail
                go_ret2
                exact ⟨rfl, bl_drewN HB.out _⟩
              · have hf : Runs.fine s m = false := by rw [← Bool.not_eq_true]; exact fun h => hd ((fine_low s m s0 hl).1 h)
                have d4 : (m != 0) = true := by simpa using hd
                clear hd
                rw [hf]
                go_enter Try.func27, Try.ntmps27
                go_wp2_with fail
                go_quiet ((go_at_call 15; exact Calls.quiet_of_same (extra_val _ 0 _ (extra_small s hl))))
                go_wp2_with fail
                go_ret2
                exact ⟨rfl, bl_drewN HB.out _⟩
set_option maxRecDepth 100000 in
set_option maxHeartbeats 4000000 in
theorem fine_any (s m : Int) (w : World) (hm : -9223372036854775808 ≤ m ∧ m ≤ 9223372036854775807) : Calls Try.prog 28 #[.agg #[.int .i64 s, .int .i64 m]] w fun e w' => e = .returned (.bool (Runs.fine s m)) ∧ Below w.heap.size w w' := by
  obtain ⟨a0, a1⟩ := blk2_alloc w 52 (.int .i64 s) (.int .i64 m)
  have HB := Aside.mk (bl_alloc (Below.refl w.heap.size w) (.cells #[.int .i64 s, .int .i64 m] 52))
  have HM := Aside.mk hm
  clear hm
  by_cases h1 : 0 ≤ s
  · have d1 : decide (0 ≤ s) = true := decide_eq_true h1
    by_cases h2 : s ≤ 18
    · have d2 : decide (s ≤ 18) = true := decide_eq_true h2
      by_cases h3 : 0 ≤ m
      · have d3 : decide (0 ≤ m) = true := decide_eq_true h3
        by_cases hs : s = 16
        · subst hs
          by_cases hd : m < 4
          · have hf : Runs.fine 16 m = true := (fine_16 m).2 ⟨h3, hd⟩
            have d4 : decide (m < 4) = true := decide_eq_true hd
            rw [hf]
            go_enter Try.func28, Try.ntmps28
            go_wp2_with fail
            go_quiet ((go_at_call 16; exact Calls.quiet_of_same (refExtra_val _ 2 _ (by decide))))
            go_wp2_with fail
            go_ret
            exact ⟨rfl, bl_drewN HB.out _⟩
          · have hf : Runs.fine 16 m = false := by rw [← Bool.not_eq_true]; exact fun h => hd ((fine_16 m).1 h).2
            have d4 : decide (m < 4) = false := decide_eq_false hd
            rw [hf]
            go_enter Try.func28, Try.ntmps28
            go_wp2_with fail
            go_quiet ((go_at_call 16; exact Calls.quiet_of_same (refExtra_val _ 2 _ (by decide))))
            go_wp2_with fail
            go_ret
            exact ⟨rfl, bl_drewN HB.out _⟩
        · have n16 := hs
          clear hs
          by_cases hs : s = 17
          · subst hs
            by_cases hd : m < 8
            · have hf : Runs.fine 17 m = true := (fine_17 m).2 ⟨h3, hd⟩
              have d4 : decide (m < 8) = true := decide_eq_true hd
              rw [hf]
              go_enter Try.func28, Try.ntmps28
              go_wp2_with fail
              go_quiet ((go_at_call 16; exact Calls.quiet_of_same (refExtra_val _ 3 _ (by decide))))
              go_wp2_with fail
              go_ret
              exact ⟨rfl, bl_drewN HB.out _⟩
            · have hf : Runs.fine 17 m = false := by rw [← Bool.not_eq_true]; exact fun h => hd ((fine_17 m).1 h).2
              have d4 : decide (m < 8) = false := decide_eq_false hd
              rw [hf]
              go_enter Try.func28, Try.ntmps28
              go_wp2_with fail
              go_quiet ((go_at_call 16; exact Calls.quiet_of_same (refExtra_val _ 3 _ (by decide))))
              go_wp2_with fail
              go_ret
              exact ⟨rfl, bl_drewN HB.out _⟩
          · have n17 := hs
            clear hs
            by_cases hs : s = 18
            · subst hs
              by_cases hd : m < 128
              · have hf : Runs.fine 18 m = true := (fine_18 m).2 ⟨h3, hd⟩
                have d4 : decide (m < 128) = true := decide_eq_true hd
                rw [hf]
                go_enter Try.func28, Try.ntmps28
                go_wp2_with fail
                go_quiet ((go_at_call 16; exact Calls.quiet_of_same (refExtra_val _ 7 _ (by decide))))
                go_wp2_with fail
                go_ret
                exact ⟨rfl, bl_drewN HB.out _⟩
              · have hf : Runs.fine 18 m = false := by rw [← Bool.not_eq_true]; exact fun h => hd ((fine_18 m).1 h).2
                have d4 : decide (m < 128) = false := decide_eq_false hd
                rw [hf]
                go_enter Try.func28, Try.ntmps28
                go_wp2_with fail
                go_quiet ((go_at_call 16; exact Calls.quiet_of_same (refExtra_val _ 7 _ (by decide))))
                go_wp2_with fail
                go_ret
                exact ⟨rfl, bl_drewN HB.out _⟩
            · have n18 := hs
              clear hs
              have hl : s ≤ 15 := by omega
              clear n16 n17 n18
              by_cases hd : m < 1
              · have hf : Runs.fine s m = true := (fine_low s m h1 hl).2 (by omega)
                have d4 : decide (m < 1) = true := decide_eq_true hd
                rw [hf]
                go_enter Try.func28, Try.ntmps28
                go_wp2_with fail
                go_quiet ((go_at_call 16; exact Calls.quiet_of_same (refExtra_val _ 0 _ (extra_small s hl))))
                go_wp2_with fail
                go_ret
                exact ⟨rfl, bl_drewN HB.out _⟩
              · have hf : Runs.fine s m = false := by rw [← Bool.not_eq_true]; exact fun h => hd (by have := (fine_low s m h1 hl).1 h; omega)
                have d4 : decide (m < 1) = false := decide_eq_false hd
                rw [hf]
                go_enter Try.func28, Try.ntmps28
                go_wp2_with fail
                go_quiet ((go_at_call 16; exact Calls.quiet_of_same (refExtra_val _ 0 _ (extra_small s hl))))
                go_wp2_with fail
                go_ret
                exact ⟨rfl, bl_drewN HB.out _⟩
      · have hf : Runs.fine s m = false := by unfold Runs.fine; exact decide_eq_false (by omega)
        have d3 : decide (0 ≤ m) = false := decide_eq_false h3
        rw [hf]
        go_enter Try.func28, Try.ntmps28
        go_wp2_with fail
        go_quiet (fail)
        go_wp2_with fail
        go_ret
        exact ⟨rfl, bl_drewN HB.out _⟩
    · have hf : Runs.fine s m = false := by unfold Runs.fine; exact decide_eq_false (by omega)
      have d2 : decide (s ≤ 18) = false := decide_eq_false h2
      rw [hf]
      go_enter Try.func28, Try.ntmps28
      go_wp2_with fail
      go_quiet (fail)
      go_wp2_with fail
      go_ret
      exact ⟨rfl, bl_drewN HB.out _⟩
  · have hf : Runs.fine s m = false := by unfold Runs.fine; exact decide_eq_false (by omega)
    have d1 : decide (0 ≤ s) = false := decide_eq_false h1
    rw [hf]
    go_enter Try.func28, Try.ntmps28
    go_wp2_with fail
    go_quiet (fail)
    go_wp2_with fail
    go_ret
    exact ⟨rfl, bl_drewN HB.out _⟩
set_option maxRecDepth 100000 in
theorem many_any (s m : Int) (w : World) (hm : 0 ≤ m) (hm2 : m ≤ 10000) : Calls Try.prog 29 #[.agg #[.int .i64 s, .int .i64 m]] w fun e w' => e = .returned (.int .i64 (Runs.many s m)) ∧ Below w.heap.size w w' := by
  obtain ⟨a0, a1⟩ := blk2_alloc w 52 (.int .i64 s) (.int .i64 m)
  have HB := Aside.mk (bl_alloc (Below.refl w.heap.size w) (.cells #[.int .i64 s, .int .i64 m] 52))
  unfold Runs.many
  by_cases h1 : s = 16
  · subst h1
    rw [if_pos (by omega)]
    go_enter Try.func29, Try.ntmps29
    go_wp2_with fail
    go_ret
    exact ⟨rfl, HB.out⟩
  · by_cases h2 : s = 17
    · subst h2
      rw [if_pos (by omega)]
      go_enter Try.func29, Try.ntmps29
      go_wp2_with fail
      go_ret
      exact ⟨rfl, HB.out⟩
    · rw [if_neg (by omega)]
      have g1 : (s == 16) = false := beq_eq_false_iff_ne.2 h1
      have g2 : (s == 17) = false := beq_eq_false_iff_ne.2 h2
      by_cases h3 : s = 18
      · subst h3
        rw [if_pos rfl]
        clear g1 g2
        go_enter Try.func29, Try.ntmps29
        go_wp2_with fail
        go_ret
        exact ⟨rfl, HB.out⟩
      · rw [if_neg h3]
        have g3 : (s == 18) = false := beq_eq_false_iff_ne.2 h3
        clear h1 h2 h3
        go_enter Try.func29, Try.ntmps29
        go_wp2_with fail
        go_ret
        exact ⟨rfl, HB.out⟩
end Go.Proofs.Ytjmenlffhoodeac
