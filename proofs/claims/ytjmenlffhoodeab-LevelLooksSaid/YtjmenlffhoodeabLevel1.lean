/- What level's functions and the reference's compute, walked. -/
import Derived.Test.YtjmenlffhoodeabProg
import Derived.Test.YtjmenlffhoodeabAdler
import Derived.Test.YtjmenlffhoodeabMem
namespace Go.Proofs.Ytjmenlffhoodeab
open Go.RowKit

def chk (lv lg n : Int) : Int := if lv < 0 ∨ 9 < lv then 2 else if lg < 15 ∨ 26 < lg then 12 else if 2 ^ lg.toNat < n then 13 else 0
theorem pow_log (lg : Int) (h0 : 15 ≤ lg) (h1 : lg ≤ 26) : ∃ p : Int, (2 : Int) ^ min lg.toNat 64 = p ∧ (2 : Int) ^ lg.toNat = p ∧ 32768 ≤ p ∧ p ≤ 67108864 := by
  obtain ⟨k, hk⟩ : ∃ k : Nat, lg.toNat = k := ⟨_, rfl⟩
  have k0 : 15 ≤ k := by omega
  have k1 : k ≤ 26 := by omega
  rw [hk, show min k 64 = k from by omega]
  have e : (2 : Int) ^ k = ((2 ^ k : Nat) : Int) := by simp
  have h2 : 2 ^ 15 ≤ 2 ^ k := Nat.pow_le_pow_right (by omega) k0
  have h3 : 2 ^ k ≤ 2 ^ 26 := Nat.pow_le_pow_right (by omega) k1
  refine ⟨2 ^ k, rfl, rfl, ?_, ?_⟩ <;> rw [e] <;> omega

set_option maxRecDepth 100000 in
set_option maxHeartbeats 1000000 in
theorem check_all (lv lg : Int) (s : ByteArray) (w : World) :
    Calls Try.prog 42 #[.agg #[.int .i64 lv, .int .i64 lg, .string s]] w fun e w' => e = .returned (.int .i64 (chk lv lg s.size)) ∧ Below w.heap.size w w' := by
  have HB := Aside.mk (bl_alloc (Below.refl w.heap.size w) (.cells #[.int .i64 lv, .int .i64 lg, .string s] 50))
  by_cases h1 : lv < 0
  · have HX : Aside (chk lv lg s.size = 2) := ⟨by unfold chk; rw [if_pos (by omega)]⟩
    go_enter Try.func42, Try.ntmps42
    go_wp2
    go_ret
    exact ⟨ret_int HX.out.symm, HB.out⟩
  · by_cases h2 : 9 < lv
    · have HX : Aside (chk lv lg s.size = 2) := ⟨by unfold chk; rw [if_pos (by omega)]⟩
      go_enter Try.func42, Try.ntmps42
      go_wp2
      go_ret
      exact ⟨ret_int HX.out.symm, HB.out⟩
    · by_cases h3 : lg < 15
      · have HX : Aside (chk lv lg s.size = 12) := ⟨by unfold chk; rw [if_neg (by omega), if_pos (by omega)]⟩
        go_enter Try.func42, Try.ntmps42
        go_wp2
        go_ret
        exact ⟨ret_int HX.out.symm, HB.out⟩
      · by_cases h4 : 26 < lg
        · have HX : Aside (chk lv lg s.size = 12) := ⟨by unfold chk; rw [if_neg (by omega), if_pos (by omega)]⟩
          go_enter Try.func42, Try.ntmps42
          go_wp2
          go_ret
          exact ⟨ret_int HX.out.symm, HB.out⟩
        · obtain ⟨p, p1, p2, p3, p4⟩ := pow_log lg (by omega) (by omega)
          have HX : Aside (chk lv lg s.size = if p < s.size then 13 else 0) := ⟨by unfold chk; rw [if_neg (by omega), if_neg (by omega), p2]⟩
          have e1 : IntKind.i64.wrap p = p := IntWalk.i64_in _ (by omega)
          have l0 : 0 ≤ lg := by omega
          by_cases h5 : p < (s.size : Int)
          · go_enter Try.func42, Try.ntmps42
            go_wp2
            go_quiet (fail)
            go_wp2
            go_ret
            exact ⟨ret_int (by rw [HX.out, if_pos h5]), bl_drewN HB.out _⟩
          · go_enter Try.func42, Try.ntmps42
            go_wp2
            go_quiet (fail)
            go_wp2
            go_ret
            exact ⟨ret_int (by rw [HX.out, if_neg (by omega)]), bl_drewN HB.out _⟩
set_option maxRecDepth 100000 in
set_option maxHeartbeats 1000000 in
theorem refCheck_all (lv lg : Int) (s : ByteArray) (w : World) :
    Calls Try.prog 43 #[.agg #[.int .i64 lv, .int .i64 lg, .string s]] w fun e w' => e = .returned (.int .i64 (chk lv lg s.size)) ∧ Below w.heap.size w w' := by
  have HB := Aside.mk (bl_alloc (Below.refl w.heap.size w) (.cells #[.int .i64 lv, .int .i64 lg, .string s] 50))
  by_cases h1 : lv < 0
  · have HX : Aside (chk lv lg s.size = 2) := ⟨by unfold chk; rw [if_pos (by omega)]⟩
    go_enter Try.func43, Try.ntmps43
    go_wp2
    go_ret
    exact ⟨ret_int HX.out.symm, HB.out⟩
  · by_cases h2 : 9 < lv
    · have HX : Aside (chk lv lg s.size = 2) := ⟨by unfold chk; rw [if_pos (by omega)]⟩
      go_enter Try.func43, Try.ntmps43
      go_wp2
      go_ret
      exact ⟨ret_int HX.out.symm, HB.out⟩
    · by_cases h3 : lg < 15
      · have HX : Aside (chk lv lg s.size = 12) := ⟨by unfold chk; rw [if_neg (by omega), if_pos (by omega)]⟩
        go_enter Try.func43, Try.ntmps43
        go_wp2
        go_ret
        exact ⟨ret_int HX.out.symm, HB.out⟩
      · by_cases h4 : 26 < lg
        · have HX : Aside (chk lv lg s.size = 12) := ⟨by unfold chk; rw [if_neg (by omega), if_pos (by omega)]⟩
          go_enter Try.func43, Try.ntmps43
          go_wp2
          go_ret
          exact ⟨ret_int HX.out.symm, HB.out⟩
        · obtain ⟨p, p1, p2, p3, p4⟩ := pow_log lg (by omega) (by omega)
          have HX : Aside (chk lv lg s.size = if p < s.size then 13 else 0) := ⟨by unfold chk; rw [if_neg (by omega), if_neg (by omega), p2]⟩
          have e1 : IntKind.i64.wrap p = p := IntWalk.i64_in _ (by omega)
          have l0 : 0 ≤ lg := by omega
          by_cases h5 : p < (s.size : Int)
          · go_enter Try.func43, Try.ntmps43
            go_wp2
            go_ret
            exact ⟨ret_int (by rw [HX.out, if_pos h5]), HB.out⟩
          · go_enter Try.func43, Try.ntmps43
            go_wp2
            go_ret
            exact ⟨ret_int (by rw [HX.out, if_neg (by omega)]), HB.out⟩

/-- What a level means: the way, how deep, how many passes. -/
def wayS (n : Int) : Int := if 0 ≤ n ∧ n ≤ 9 then (n + 2) / 3 else 0
def depS (n : Int) : Int := if n = 1 then 4 else if n = 2 ∨ n = 4 then 16 else if n = 3 ∨ n = 5 then 64 else if n = 6 then 256 else if n = 7 ∨ n = 8 ∨ n = 9 then 134217728 else 0
def pasS (n : Int) : Int := if n = 8 then 1 else if n = 9 then 2 else 0
def ofE (n : Int) : Int := if 0 ≤ n ∧ n ≤ 9 then 0 else 2
set_option maxRecDepth 100000 in
set_option maxHeartbeats 4000000 in
theorem of_all (n : Int) (w : World) :
    Calls Try.prog 38 #[.int .i64 n] w fun e w' => e = .returned (.tuple #[.agg #[.int .i64 (wayS n), .int .i64 (depS n), .int .i64 (pasS n)], .int .i64 (ofE n)]) ∧ Below w.heap.size w w' := by
  by_cases h1 : n < 0
  · have e1 : wayS n = 0 := by unfold wayS; rw [if_neg (by omega)]
    have e2 : depS n = 0 := by unfold depS; repeat rw [if_neg (by omega)]
    have e3 : pasS n = 0 := by unfold pasS; repeat rw [if_neg (by omega)]
    have e4 : ofE n = 2 := by unfold ofE; rw [if_neg (by omega)]
    rw [e1, e2, e3, e4]
    clear e1 e2 e3 e4
    go_enter Try.func38, Try.ntmps38
    go_wp2
    refine bodyPost_ret (v := .tuple #[.agg #[.int .i64 0, .int .i64 0, .int .i64 0], .int .i64 2]) (by simp [results, Try.results38, go_sem]) rfl ⟨rfl, ?_⟩
    exact bl_alloc (Below.refl _ _) _
  · by_cases h2 : 9 < n
    · have e1 : wayS n = 0 := by unfold wayS; rw [if_neg (by omega)]
      have e2 : depS n = 0 := by unfold depS; repeat rw [if_neg (by omega)]
      have e3 : pasS n = 0 := by unfold pasS; repeat rw [if_neg (by omega)]
      have e4 : ofE n = 2 := by unfold ofE; rw [if_neg (by omega)]
      rw [e1, e2, e3, e4]
      clear e1 e2 e3 e4
      go_enter Try.func38, Try.ntmps38
      go_wp2
      refine bodyPost_ret (v := .tuple #[.agg #[.int .i64 0, .int .i64 0, .int .i64 0], .int .i64 2]) (by simp [results, Try.results38, go_sem]) rfl ⟨rfl, ?_⟩
      exact bl_alloc (Below.refl _ _) _
    · have hn : n = 0 ∨ n = 1 ∨ n = 2 ∨ n = 3 ∨ n = 4 ∨ n = 5 ∨ n = 6 ∨ n = 7 ∨ n = 8 ∨ n = 9 := by omega
      clear h1 h2
      rcases hn with rfl | rfl | rfl | rfl | rfl | rfl | rfl | rfl | rfl | rfl
      · rw [show wayS 0 = 0 from by decide, show depS 0 = 0 from by decide, show pasS 0 = 0 from by decide, show ofE 0 = 0 from by decide]
        go_enter Try.func38, Try.ntmps38
        go_wp2
        refine bodyPost_ret (v := .tuple #[.agg #[.int .i64 0, .int .i64 0, .int .i64 0], .int .i64 0]) (by simp [results, Try.results38, go_sem]) rfl ⟨rfl, ?_⟩
        exact (by repeat (first | exact Below.refl _ _ | apply bl_alloc | apply bl_drewN | apply bl_drew | (refine bl_set ?_ (by simp) _)))
      · rw [show wayS 1 = 1 from by decide, show depS 1 = 4 from by decide, show pasS 1 = 0 from by decide, show ofE 1 = 0 from by decide]
        go_enter Try.func38, Try.ntmps38
        go_wp2
        refine bodyPost_ret (v := .tuple #[.agg #[.int .i64 1, .int .i64 4, .int .i64 0], .int .i64 0]) (by simp [results, Try.results38, go_sem]) rfl ⟨rfl, ?_⟩
        exact (by repeat (first | exact Below.refl _ _ | apply bl_alloc | apply bl_drewN | apply bl_drew | (refine bl_set ?_ (by simp) _)))
      · rw [show wayS 2 = 1 from by decide, show depS 2 = 16 from by decide, show pasS 2 = 0 from by decide, show ofE 2 = 0 from by decide]
        go_enter Try.func38, Try.ntmps38
        go_wp2
        refine bodyPost_ret (v := .tuple #[.agg #[.int .i64 1, .int .i64 16, .int .i64 0], .int .i64 0]) (by simp [results, Try.results38, go_sem]) rfl ⟨rfl, ?_⟩
        exact (by repeat (first | exact Below.refl _ _ | apply bl_alloc | apply bl_drewN | apply bl_drew | (refine bl_set ?_ (by simp) _)))
      · rw [show wayS 3 = 1 from by decide, show depS 3 = 64 from by decide, show pasS 3 = 0 from by decide, show ofE 3 = 0 from by decide]
        go_enter Try.func38, Try.ntmps38
        go_wp2
        refine bodyPost_ret (v := .tuple #[.agg #[.int .i64 1, .int .i64 64, .int .i64 0], .int .i64 0]) (by simp [results, Try.results38, go_sem]) rfl ⟨rfl, ?_⟩
        exact (by repeat (first | exact Below.refl _ _ | apply bl_alloc | apply bl_drewN | apply bl_drew | (refine bl_set ?_ (by simp) _)))
      · rw [show wayS 4 = 2 from by decide, show depS 4 = 16 from by decide, show pasS 4 = 0 from by decide, show ofE 4 = 0 from by decide]
        go_enter Try.func38, Try.ntmps38
        go_wp2
        refine bodyPost_ret (v := .tuple #[.agg #[.int .i64 2, .int .i64 16, .int .i64 0], .int .i64 0]) (by simp [results, Try.results38, go_sem]) rfl ⟨rfl, ?_⟩
        exact (by repeat (first | exact Below.refl _ _ | apply bl_alloc | apply bl_drewN | apply bl_drew | (refine bl_set ?_ (by simp) _)))
      · rw [show wayS 5 = 2 from by decide, show depS 5 = 64 from by decide, show pasS 5 = 0 from by decide, show ofE 5 = 0 from by decide]
        go_enter Try.func38, Try.ntmps38
        go_wp2
        refine bodyPost_ret (v := .tuple #[.agg #[.int .i64 2, .int .i64 64, .int .i64 0], .int .i64 0]) (by simp [results, Try.results38, go_sem]) rfl ⟨rfl, ?_⟩
        exact (by repeat (first | exact Below.refl _ _ | apply bl_alloc | apply bl_drewN | apply bl_drew | (refine bl_set ?_ (by simp) _)))
      · rw [show wayS 6 = 2 from by decide, show depS 6 = 256 from by decide, show pasS 6 = 0 from by decide, show ofE 6 = 0 from by decide]
        go_enter Try.func38, Try.ntmps38
        go_wp2
        refine bodyPost_ret (v := .tuple #[.agg #[.int .i64 2, .int .i64 256, .int .i64 0], .int .i64 0]) (by simp [results, Try.results38, go_sem]) rfl ⟨rfl, ?_⟩
        exact (by repeat (first | exact Below.refl _ _ | apply bl_alloc | apply bl_drewN | apply bl_drew | (refine bl_set ?_ (by simp) _)))
      · rw [show wayS 7 = 3 from by decide, show depS 7 = 134217728 from by decide, show pasS 7 = 0 from by decide, show ofE 7 = 0 from by decide]
        go_enter Try.func38, Try.ntmps38
        go_wp2
        refine bodyPost_ret (v := .tuple #[.agg #[.int .i64 3, .int .i64 134217728, .int .i64 0], .int .i64 0]) (by simp [results, Try.results38, go_sem]) rfl ⟨rfl, ?_⟩
        exact (by repeat (first | exact Below.refl _ _ | apply bl_alloc | apply bl_drewN | apply bl_drew | (refine bl_set ?_ (by simp) _)))
      · rw [show wayS 8 = 3 from by decide, show depS 8 = 134217728 from by decide, show pasS 8 = 1 from by decide, show ofE 8 = 0 from by decide]
        go_enter Try.func38, Try.ntmps38
        go_wp2
        refine bodyPost_ret (v := .tuple #[.agg #[.int .i64 3, .int .i64 134217728, .int .i64 1], .int .i64 0]) (by simp [results, Try.results38, go_sem]) rfl ⟨rfl, ?_⟩
        exact (by repeat (first | exact Below.refl _ _ | apply bl_alloc | apply bl_drewN | apply bl_drew | (refine bl_set ?_ (by simp) _)))
      · rw [show wayS 9 = 3 from by decide, show depS 9 = 134217728 from by decide, show pasS 9 = 2 from by decide, show ofE 9 = 0 from by decide]
        go_enter Try.func38, Try.ntmps38
        go_wp2
        refine bodyPost_ret (v := .tuple #[.agg #[.int .i64 3, .int .i64 134217728, .int .i64 2], .int .i64 0]) (by simp [results, Try.results38, go_sem]) rfl ⟨rfl, ?_⟩
        exact (by repeat (first | exact Below.refl _ _ | apply bl_alloc | apply bl_drewN | apply bl_drew | (refine bl_set ?_ (by simp) _)))
set_option maxRecDepth 100000 in
set_option maxHeartbeats 4000000 in
theorem refOf_all (n : Int) (w : World) :
    Calls Try.prog 39 #[.int .i64 n] w fun e w' => e = .returned (.tuple #[.agg #[.int .i64 (wayS n), .int .i64 (depS n), .int .i64 (pasS n)], .int .i64 (ofE n)]) ∧ Below w.heap.size w w' := by
  by_cases h1 : n < 0
  · have e1 : wayS n = 0 := by unfold wayS; rw [if_neg (by omega)]
    have e2 : depS n = 0 := by unfold depS; repeat rw [if_neg (by omega)]
    have e3 : pasS n = 0 := by unfold pasS; repeat rw [if_neg (by omega)]
    have e4 : ofE n = 2 := by unfold ofE; rw [if_neg (by omega)]
    rw [e1, e2, e3, e4]
    clear e1 e2 e3 e4
    go_enter Try.func39, Try.ntmps39
    go_wp2
    refine bodyPost_ret (v := .tuple #[.agg #[.int .i64 0, .int .i64 0, .int .i64 0], .int .i64 2]) (by simp [results, Try.results39, go_sem]) rfl ⟨rfl, ?_⟩
    exact bl_alloc (Below.refl _ _) _
  · by_cases h2 : 9 < n
    · have e1 : wayS n = 0 := by unfold wayS; rw [if_neg (by omega)]
      have e2 : depS n = 0 := by unfold depS; repeat rw [if_neg (by omega)]
      have e3 : pasS n = 0 := by unfold pasS; repeat rw [if_neg (by omega)]
      have e4 : ofE n = 2 := by unfold ofE; rw [if_neg (by omega)]
      rw [e1, e2, e3, e4]
      clear e1 e2 e3 e4
      go_enter Try.func39, Try.ntmps39
      go_wp2
      refine bodyPost_ret (v := .tuple #[.agg #[.int .i64 0, .int .i64 0, .int .i64 0], .int .i64 2]) (by simp [results, Try.results39, go_sem]) rfl ⟨rfl, ?_⟩
      exact bl_alloc (Below.refl _ _) _
    · have hn : n = 0 ∨ n = 1 ∨ n = 2 ∨ n = 3 ∨ n = 4 ∨ n = 5 ∨ n = 6 ∨ n = 7 ∨ n = 8 ∨ n = 9 := by omega
      clear h1 h2
      rcases hn with rfl | rfl | rfl | rfl | rfl | rfl | rfl | rfl | rfl | rfl
      · rw [show wayS 0 = 0 from by decide, show depS 0 = 0 from by decide, show pasS 0 = 0 from by decide, show ofE 0 = 0 from by decide]
        go_enter Try.func39, Try.ntmps39
        go_wp2
        refine bodyPost_ret (v := .tuple #[.agg #[.int .i64 0, .int .i64 0, .int .i64 0], .int .i64 0]) (by simp [results, Try.results39, go_sem]) rfl ⟨rfl, ?_⟩
        exact (by repeat (first | exact Below.refl _ _ | apply bl_alloc | apply bl_drewN | apply bl_drew | (refine bl_set ?_ (by simp) _)))
      · rw [show wayS 1 = 1 from by decide, show depS 1 = 4 from by decide, show pasS 1 = 0 from by decide, show ofE 1 = 0 from by decide]
        go_enter Try.func39, Try.ntmps39
        go_wp2
        refine bodyPost_ret (v := .tuple #[.agg #[.int .i64 1, .int .i64 4, .int .i64 0], .int .i64 0]) (by simp [results, Try.results39, go_sem]) rfl ⟨rfl, ?_⟩
        exact (by repeat (first | exact Below.refl _ _ | apply bl_alloc | apply bl_drewN | apply bl_drew | (refine bl_set ?_ (by simp) _)))
      · rw [show wayS 2 = 1 from by decide, show depS 2 = 16 from by decide, show pasS 2 = 0 from by decide, show ofE 2 = 0 from by decide]
        go_enter Try.func39, Try.ntmps39
        go_wp2
        refine bodyPost_ret (v := .tuple #[.agg #[.int .i64 1, .int .i64 16, .int .i64 0], .int .i64 0]) (by simp [results, Try.results39, go_sem]) rfl ⟨rfl, ?_⟩
        exact (by repeat (first | exact Below.refl _ _ | apply bl_alloc | apply bl_drewN | apply bl_drew | (refine bl_set ?_ (by simp) _)))
      · rw [show wayS 3 = 1 from by decide, show depS 3 = 64 from by decide, show pasS 3 = 0 from by decide, show ofE 3 = 0 from by decide]
        go_enter Try.func39, Try.ntmps39
        go_wp2
        refine bodyPost_ret (v := .tuple #[.agg #[.int .i64 1, .int .i64 64, .int .i64 0], .int .i64 0]) (by simp [results, Try.results39, go_sem]) rfl ⟨rfl, ?_⟩
        exact (by repeat (first | exact Below.refl _ _ | apply bl_alloc | apply bl_drewN | apply bl_drew | (refine bl_set ?_ (by simp) _)))
      · rw [show wayS 4 = 2 from by decide, show depS 4 = 16 from by decide, show pasS 4 = 0 from by decide, show ofE 4 = 0 from by decide]
        go_enter Try.func39, Try.ntmps39
        go_wp2
        refine bodyPost_ret (v := .tuple #[.agg #[.int .i64 2, .int .i64 16, .int .i64 0], .int .i64 0]) (by simp [results, Try.results39, go_sem]) rfl ⟨rfl, ?_⟩
        exact (by repeat (first | exact Below.refl _ _ | apply bl_alloc | apply bl_drewN | apply bl_drew | (refine bl_set ?_ (by simp) _)))
      · rw [show wayS 5 = 2 from by decide, show depS 5 = 64 from by decide, show pasS 5 = 0 from by decide, show ofE 5 = 0 from by decide]
        go_enter Try.func39, Try.ntmps39
        go_wp2
        refine bodyPost_ret (v := .tuple #[.agg #[.int .i64 2, .int .i64 64, .int .i64 0], .int .i64 0]) (by simp [results, Try.results39, go_sem]) rfl ⟨rfl, ?_⟩
        exact (by repeat (first | exact Below.refl _ _ | apply bl_alloc | apply bl_drewN | apply bl_drew | (refine bl_set ?_ (by simp) _)))
      · rw [show wayS 6 = 2 from by decide, show depS 6 = 256 from by decide, show pasS 6 = 0 from by decide, show ofE 6 = 0 from by decide]
        go_enter Try.func39, Try.ntmps39
        go_wp2
        refine bodyPost_ret (v := .tuple #[.agg #[.int .i64 2, .int .i64 256, .int .i64 0], .int .i64 0]) (by simp [results, Try.results39, go_sem]) rfl ⟨rfl, ?_⟩
        exact (by repeat (first | exact Below.refl _ _ | apply bl_alloc | apply bl_drewN | apply bl_drew | (refine bl_set ?_ (by simp) _)))
      · rw [show wayS 7 = 3 from by decide, show depS 7 = 134217728 from by decide, show pasS 7 = 0 from by decide, show ofE 7 = 0 from by decide]
        go_enter Try.func39, Try.ntmps39
        go_wp2
        refine bodyPost_ret (v := .tuple #[.agg #[.int .i64 3, .int .i64 134217728, .int .i64 0], .int .i64 0]) (by simp [results, Try.results39, go_sem]) rfl ⟨rfl, ?_⟩
        exact (by repeat (first | exact Below.refl _ _ | apply bl_alloc | apply bl_drewN | apply bl_drew | (refine bl_set ?_ (by simp) _)))
      · rw [show wayS 8 = 3 from by decide, show depS 8 = 134217728 from by decide, show pasS 8 = 1 from by decide, show ofE 8 = 0 from by decide]
        go_enter Try.func39, Try.ntmps39
        go_wp2
        refine bodyPost_ret (v := .tuple #[.agg #[.int .i64 3, .int .i64 134217728, .int .i64 1], .int .i64 0]) (by simp [results, Try.results39, go_sem]) rfl ⟨rfl, ?_⟩
        exact (by repeat (first | exact Below.refl _ _ | apply bl_alloc | apply bl_drewN | apply bl_drew | (refine bl_set ?_ (by simp) _)))
      · rw [show wayS 9 = 3 from by decide, show depS 9 = 134217728 from by decide, show pasS 9 = 2 from by decide, show ofE 9 = 0 from by decide]
        go_enter Try.func39, Try.ntmps39
        go_wp2
        refine bodyPost_ret (v := .tuple #[.agg #[.int .i64 3, .int .i64 134217728, .int .i64 2], .int .i64 0]) (by simp [results, Try.results39, go_sem]) rfl ⟨rfl, ?_⟩
        exact (by repeat (first | exact Below.refl _ _ | apply bl_alloc | apply bl_drewN | apply bl_drew | (refine bl_set ?_ (by simp) _)))
end Go.Proofs.Ytjmenlffhoodeab
