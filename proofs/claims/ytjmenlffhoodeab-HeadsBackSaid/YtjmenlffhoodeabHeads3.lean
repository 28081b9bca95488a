/- What the reference's Put and both PutBlock's compute, walked. -/
import Derived.Test.YtjmenlffhoodeabHeads2
import Derived.Deep.RegionHeld3
namespace Go.Proofs.Ytjmenlffhoodeab
open Go.RowKit

theorem mg5 (lg : Int) (h0 : 15 ≤ lg) (h1 : lg ≤ 26) : (⟨#[71, 76, 68, 49]⟩ : ByteArray) ++ tab (loF lg) 1 = tab (putF lg false 0) 5 := by
  apply ByteArray.ext
  simp [tab, strOfNums, putF, loF, List.range_succ, Int.emod_eq_of_lt (show 0 ≤ lg by omega) (show lg < 256 by omega)]
theorem mg9 (lg id : Int) (h0 : 15 ≤ lg) (h1 : lg ≤ 26) : (⟨#[71, 76, 68, 49]⟩ : ByteArray) ++ tab (loF (lg + 32)) 1 ++ tab (loF id) 4 = tab (putF lg true id) 9 := by
  apply ByteArray.ext
  simp [tab, strOfNums, putF, loF, List.range_succ, Int.emod_eq_of_lt (show 0 ≤ lg + 32 by omega) (show lg + 32 < 256 by omega)]

set_option maxRecDepth 100000 in
set_option maxHeartbeats 1000000 in
theorem refPut_bad (lg : Int) (has : Bool) (id : Int) (w : World) (h : lg < 15 ∨ 26 < lg) :
    Calls Try.prog 45 #[.agg #[.int .i64 lg, .bool has, .int .u32 id]] w fun e w' => e = .returned (.tuple #[.string ⟨#[]⟩, .int .i64 12]) ∧ Below w.heap.size w w' := by
  have HB := Aside.mk (bl_alloc (Below.refl w.heap.size w) (.cells #[.int .i64 lg, .bool has, .int .u32 id] 58))
  by_cases h1 : lg < 15
  · go_enter Try.func45, Try.ntmps45
    go_wp2_with fail
    go_ret2
    exact ⟨rfl, HB.out⟩
  · go_enter Try.func45, Try.ntmps45
    go_wp2_with fail
    go_ret2
    exact ⟨rfl, HB.out⟩
set_option maxRecDepth 100000 in
set_option maxHeartbeats 1000000 in
theorem refPut_id (lg : Int) (id : Int) (w : World) (h0 : 15 ≤ lg) (h1 : lg ≤ 26) (h2 : id ≠ 0) :
    Calls Try.prog 45 #[.agg #[.int .i64 lg, .bool false, .int .u32 id]] w fun e w' => e = .returned (.tuple #[.string ⟨#[]⟩, .int .i64 1]) ∧ Below w.heap.size w w' := by
  have HB := Aside.mk (bl_alloc (Below.refl w.heap.size w) (.cells #[.int .i64 lg, .bool false, .int .u32 id] 58))
  go_enter Try.func45, Try.ntmps45
  go_wp2_with fail
  go_ret2
  exact ⟨rfl, HB.out⟩
set_option maxRecDepth 100000 in
set_option maxHeartbeats 1000000 in
theorem refPut_plain (lg : Int) (w : World) (h0 : 15 ≤ lg) (h1 : lg ≤ 26) :
    Calls Try.prog 45 #[.agg #[.int .i64 lg, .bool false, .int .u32 0]] w fun e w' => e = .returned (.tuple #[.string (tab (putF lg false 0) 5), .int .i64 0]) ∧ Below w.heap.size w w' := by
  have HB := Aside.mk (bl_alloc (Below.refl w.heap.size w) (.cells #[.int .i64 lg, .bool false, .int .u32 0] 58))
  have HX := Aside.mk (mg5 lg h0 h1)
  go_enter Try.func45, Try.ntmps45
  go_wp2_with fail
  refine (low_any _ 1 _ (by omega)).mono ?_
  rintro e w1 ⟨rfl, hb⟩
  replace HB := Aside.mk (bl_step HB.out hb)
  clear hb
  go_wp2_with fail
  go_ret2
  exact ⟨by rw [HX.out]; rfl, HB.out⟩
set_option maxRecDepth 100000 in
set_option maxHeartbeats 1000000 in
theorem refPut_full (lg id : Int) (w : World) (h0 : 15 ≤ lg) (h1 : lg ≤ 26) (i0 : 0 ≤ id) (i1 : Aside (id ≤ 4294967295)) :
    Calls Try.prog 45 #[.agg #[.int .i64 lg, .bool true, .int .u32 id]] w fun e w' => e = .returned (.tuple #[.string (tab (putF lg true id) 9), .int .i64 0]) ∧ Below w.heap.size w w' := by
  have HB := Aside.mk (bl_alloc (Below.refl w.heap.size w) (.cells #[.int .i64 lg, .bool true, .int .u32 id] 58))
  have K1 := Aside.mk (Blk.new w 58 #[.int .i64 lg, .bool true, .int .u32 id])
  obtain ⟨T1, T2, z1, z2, c1, c2, HX⟩ : ∃ T1 T2 : ByteArray, T1.size = 1 ∧ T2.size = 4 ∧
      (∀ w, Calls Try.prog 73 #[.int .i64 (lg + 32), .int .i64 1] w fun e w' => e = .returned (.string T1) ∧ Below w.heap.size w w') ∧
      (∀ w, Calls Try.prog 73 #[.int .i64 id, .int .i64 4] w fun e w' => e = .returned (.string T2) ∧ Below w.heap.size w w') ∧
      Aside ((⟨#[71, 76, 68, 49]⟩ : ByteArray) ++ T1 ++ T2 = tab (putF lg true id) 9) :=
    ⟨_, _, tab_size _ _, tab_size _ _, fun w => low_any (lg + 32) 1 w (by omega), fun w => low_any id 4 w (by omega), ⟨mg9 lg id h0 h1⟩⟩
  have e1 : IntKind.i64.wrap (lg + 32) = lg + 32 := IntWalk.i64_in _ (by omega)
  have e2 : IntKind.i64.wrap id = id := IntWalk.i64_in _ (by have := i1.out; omega)
  go_enter Try.func45, Try.ntmps45
  go_wp2_with fail
  have hB := HB.out
  have hK := K1.out
  obtain ⟨a0, a1, a2⟩ := blkB hK
  clear HB K1
  generalize hW : w.alloc (.cells #[.int .i64 lg, .bool true, .int .u32 id] 58) = W at *
  clear hW
  go_region_held3 (fun w' => Below w.heap.size w w' ∧ Blk w' w.heap.size 58 #[.int .i64 lg, .bool true, .int .u32 id] ∧
      (w'.cell? ⟨w.heap.size, 0, none⟩ = some (.int .i64 lg) ∧ w'.cell? ⟨w.heap.size, 1, none⟩ = some (.bool true) ∧ w'.cell? ⟨w.heap.size, 2, none⟩ = some (.int .u32 id)))
    (exact ⟨by first | assumption | exact bl_drew (by assumption), by first | assumption | exact Blk.drew (by assumption), blkB (by first | assumption | exact Blk.drew (by assumption))⟩)
    (first
      | (go_at_call 73; with_reducible refine (c1 _).mono ?_; rintro e w' ⟨rfl, hb⟩; have hB2 := bl_step (by first | assumption | exact bl_drew (by assumption)) hb; have hF2 := Blk.below (g := w.heap.size) (by first | assumption | exact Blk.drew (by assumption)) hb (Blk.lt (by first | assumption | exact Blk.drew (by assumption))); clear hb)
      | (go_at_call 73; with_reducible refine (c2 _).mono ?_; rintro e w' ⟨rfl, hb⟩; have hB2 := bl_step (by first | assumption | exact bl_drew (by assumption)) hb; have hF2 := Blk.below (g := w.heap.size) (by first | assumption | exact Blk.drew (by assumption)) hb (Blk.lt (by first | assumption | exact Blk.drew (by assumption))); clear hb))
  all_goals (rw [HX.out]; go_wp2_with fail; go_ret2; exact ⟨rfl, by first | assumption | (apply bl_drew; assumption) | (apply bl_drewN; assumption)⟩)
theorem refPut_all (lg : Int) (has : Bool) (id : Int) (w : World) (i0 : 0 ≤ id) (i1 : id ≤ 4294967295) :
    Calls Try.prog 45 #[.agg #[.int .i64 lg, .bool has, .int .u32 id]] w fun e w' => e = .returned (.tuple #[.string (putS lg has id), .int .i64 (putOk lg has id)]) ∧ Below w.heap.size w w' := by
  by_cases h : lg < 15 ∨ 26 < lg
  · have := refPut_bad lg has id w h
    simpa [putS, putOk, h] using this
  · cases has
    · by_cases h2 : id = 0
      · subst h2
        have := refPut_plain lg w (by omega) (by omega)
        simpa [putS, putOk, h] using this
      · have := refPut_id lg id w (by omega) (by omega) h2
        simpa [putS, putOk, h, h2] using this
    · have := refPut_full lg id w (by omega) (by omega) i0 ⟨i1⟩
      simpa [putS, putOk, h] using this

/-- What a block's head is written as, and the error. -/
def pbF (k a b : Int) (i : Nat) : Int := match i with | 0 => k | 1 => (a - 1) % 256 | 2 => (a - 1) / 256 % 256 | 3 => (b - 1) % 256 | 4 => (b - 1) / 256 % 256 | _ => 0
def pbOk (k a b : Int) : Int := if mayS k a b = true then 0 else 16
def pbS (k a b : Int) : ByteArray := if mayS k a b = true then (if k = 0 then ⟨#[0]⟩ else tab (pbF k a b) 5) else ⟨#[]⟩
theorem pb5 (k a b : Int) (h0 : 0 ≤ k) (h1 : k ≤ 2) : tab (loF k) 1 ++ tab (loF (a - 1)) 2 ++ tab (loF (b - 1)) 2 = tab (pbF k a b) 5 := by
  apply ByteArray.ext
  simp [tab, strOfNums, pbF, loF, List.range_succ, Int.emod_eq_of_lt h0 (show k < 256 by omega)]
theorem may_in {k a b : Int} (h : mayS k a b = true) (hk : k ≠ 0) : (0 ≤ k ∧ k ≤ 2) ∧ 1 ≤ a ∧ a ≤ 65536 ∧ 1 ≤ b ∧ b ≤ 65536 := by
  simp only [mayS, decide_eq_true_eq] at h
  omega

set_option maxRecDepth 100000 in
set_option maxHeartbeats 1000000 in
theorem putBlock_bad (k a b : Int) (w : World) (h : mayS k a b = false) :
    Calls Try.prog 46 #[.agg #[.int .i64 k, .int .i64 a, .int .i64 b]] w fun e w' => e = .returned (.tuple #[.string ⟨#[]⟩, .int .i64 16]) ∧ Below w.heap.size w w' := by
  have HB := Aside.mk (bl_alloc (Below.refl w.heap.size w) (.cells #[.int .i64 k, .int .i64 a, .int .i64 b] 68))
  go_enter Try.func46, Try.ntmps46
  go_wp2_with fail
  refine (may_any _ _ _ _).mono ?_
  rintro e w1 ⟨rfl, hb⟩
  rw [h]
  replace HB := Aside.mk (bl_step HB.out hb)
  clear hb
  go_wp2_with fail
  go_ret2
  exact ⟨rfl, HB.out⟩
set_option maxRecDepth 100000 in
set_option maxHeartbeats 1000000 in
theorem putBlock_zero (a b : Int) (w : World) (h : mayS 0 a b = true) :
    Calls Try.prog 46 #[.agg #[.int .i64 0, .int .i64 a, .int .i64 b]] w fun e w' => e = .returned (.tuple #[.string ⟨#[0]⟩, .int .i64 0]) ∧ Below w.heap.size w w' := by
  have HB := Aside.mk (bl_alloc (Below.refl w.heap.size w) (.cells #[.int .i64 0, .int .i64 a, .int .i64 b] 68))
  have K1 := Aside.mk (Blk.new w 68 #[.int .i64 0, .int .i64 a, .int .i64 b])
  go_enter Try.func46, Try.ntmps46
  go_wp2_with fail
  refine (may_any _ _ _ _).mono ?_
  rintro e w1 ⟨rfl, hb⟩
  rw [h]
  replace HB := Aside.mk (bl_step HB.out hb)
  obtain ⟨a0, a1, a2⟩ := blkB (K1.out.below hb K1.out.lt)
  clear hb
  go_wp2_with fail
  go_ret2
  exact ⟨rfl, HB.out⟩
set_option maxRecDepth 100000 in
set_option maxHeartbeats 1000000 in
theorem putBlock_full (k a b : Int) (w : World) (h : mayS k a b = true) (hk : k ≠ 0) :
    Calls Try.prog 46 #[.agg #[.int .i64 k, .int .i64 a, .int .i64 b]] w fun e w' => e = .returned (.tuple #[.string (tab (pbF k a b) 5), .int .i64 0]) ∧ Below w.heap.size w w' := by
  have HB := Aside.mk (bl_alloc (Below.refl w.heap.size w) (.cells #[.int .i64 k, .int .i64 a, .int .i64 b] 68))
  have K1 := Aside.mk (Blk.new w 68 #[.int .i64 k, .int .i64 a, .int .i64 b])
  obtain ⟨⟨k0, k1⟩, a0, a1, b0, b1⟩ := may_in h hk
  have e1 : IntKind.i64.wrap (a - 1) = a - 1 := IntWalk.i64_in _ (by omega)
  have e2 : IntKind.i64.wrap (b - 1) = b - 1 := IntWalk.i64_in _ (by omega)
  go_enter Try.func46, Try.ntmps46
  go_wp2_with fail
  refine (may_any _ _ _ _).mono ?_
  rintro e w1 ⟨rfl, hb⟩
  rw [h]
  replace HB := Aside.mk (bl_step HB.out hb)
  obtain ⟨x0, x1, x2⟩ := blkB (K1.out.below hb K1.out.lt)
  clear hb
  go_wp2_with fail
  go_quiet (fail)
  obtain ⟨w2, hW⟩ : ∃ w2, w2 = w1.drewN nq := ⟨_, rfl⟩
  replace HB := Aside.mk (hW ▸ bl_drewN HB.out nq : Below w.heap.size w w2)
  replace x0 : w2.cell? ⟨w.heap.size, 0, none⟩ = some (.int .i64 k) := hW ▸ x0
  replace x1 : w2.cell? ⟨w.heap.size, 1, none⟩ = some (.int .i64 a) := hW ▸ x1
  replace x2 : w2.cell? ⟨w.heap.size, 2, none⟩ = some (.int .i64 b) := hW ▸ x2
  rw [← hW]
  clear hW e1 e2
  have hcv : (convert 86 9 (.slice (some ⟨w2.heap.size, 0, none⟩) 5 5)).run Try.prog (w2.alloc (.cells #[.int .u8 k, .int .u8 ((a - 1) % 256), .int .u8 ((a - 1) / 256), .int .u8 ((b - 1) % 256), .int .u8 ((b - 1) / 256)] 99)) =
      .ok (.string (tab (pbF k a b) 5)) (w2.alloc (.cells #[.int .u8 k, .int .u8 ((a - 1) % 256), .int .u8 ((a - 1) / 256), .int .u8 ((b - 1) % 256), .int .u8 ((b - 1) / 256)] 99)) :=
    conv_string _ 86 5 9 _ 5 5 _ Try.underlying86 Try.underlying5 Try.underlying9 (fun j hj => by
      have q1 : (a - 1) / 256 % 256 = (a - 1) / 256 := by omega
      have q2 : (b - 1) / 256 % 256 = (b - 1) / 256 := by omega
      rw [(Blk.new w2 99 _).cell j]
      match j, hj with
      | 0, _ => rfl | 1, _ => rfl | 2, _ => (simp [pbF, q1]) | 3, _ => rfl | 4, _ => (simp [pbF, q2]))
  go_wp2_with fail
  go_ret2
  exact ⟨rfl, bl_alloc HB.out _⟩
theorem putBlock_all (k a b : Int) (w : World) :
    Calls Try.prog 46 #[.agg #[.int .i64 k, .int .i64 a, .int .i64 b]] w fun e w' => e = .returned (.tuple #[.string (pbS k a b), .int .i64 (pbOk k a b)]) ∧ Below w.heap.size w w' := by
  unfold pbS pbOk
  cases h : mayS k a b
  · simpa using putBlock_bad k a b w h
  · by_cases hk : k = 0
    · subst hk
      simpa using putBlock_zero a b w h
    · simpa [hk] using putBlock_full k a b w h hk
set_option maxRecDepth 100000 in
set_option maxHeartbeats 1000000 in
theorem refPutBlock_bad (k a b : Int) (w : World) (h : mayS k a b = false) :
    Calls Try.prog 47 #[.agg #[.int .i64 k, .int .i64 a, .int .i64 b]] w fun e w' => e = .returned (.tuple #[.string ⟨#[]⟩, .int .i64 16]) ∧ Below w.heap.size w w' := by
  have HB := Aside.mk (bl_alloc (Below.refl w.heap.size w) (.cells #[.int .i64 k, .int .i64 a, .int .i64 b] 68))
  go_enter Try.func47, Try.ntmps47
  go_wp2_with fail
  refine (refMay_any _ _ _ _).mono ?_
  rintro e w1 ⟨rfl, hb⟩
  rw [h]
  replace HB := Aside.mk (bl_step HB.out hb)
  clear hb
  go_wp2_with fail
  go_ret2
  exact ⟨rfl, HB.out⟩
set_option maxRecDepth 100000 in
set_option maxHeartbeats 1000000 in
theorem refPutBlock_zero (a b : Int) (w : World) (h : mayS 0 a b = true) :
    Calls Try.prog 47 #[.agg #[.int .i64 0, .int .i64 a, .int .i64 b]] w fun e w' => e = .returned (.tuple #[.string ⟨#[0]⟩, .int .i64 0]) ∧ Below w.heap.size w w' := by
  have HB := Aside.mk (bl_alloc (Below.refl w.heap.size w) (.cells #[.int .i64 0, .int .i64 a, .int .i64 b] 68))
  have K1 := Aside.mk (Blk.new w 68 #[.int .i64 0, .int .i64 a, .int .i64 b])
  go_enter Try.func47, Try.ntmps47
  go_wp2_with fail
  refine (refMay_any _ _ _ _).mono ?_
  rintro e w1 ⟨rfl, hb⟩
  rw [h]
  replace HB := Aside.mk (bl_step HB.out hb)
  obtain ⟨a0, a1, a2⟩ := blkB (K1.out.below hb K1.out.lt)
  clear hb
  go_wp2_with fail
  go_ret2
  exact ⟨rfl, HB.out⟩
set_option maxRecDepth 100000 in
set_option maxHeartbeats 1000000 in
theorem refPutBlock_full (k a b : Int) (w : World) (h : mayS k a b = true) (hk : k ≠ 0) :
    Calls Try.prog 47 #[.agg #[.int .i64 k, .int .i64 a, .int .i64 b]] w fun e w' => e = .returned (.tuple #[.string (tab (pbF k a b) 5), .int .i64 0]) ∧ Below w.heap.size w w' := by
  have HB := Aside.mk (bl_alloc (Below.refl w.heap.size w) (.cells #[.int .i64 k, .int .i64 a, .int .i64 b] 68))
  have K1 := Aside.mk (Blk.new w 68 #[.int .i64 k, .int .i64 a, .int .i64 b])
  obtain ⟨⟨k0, k1⟩, a0, a1, b0, b1⟩ := may_in h hk
  have e1 : IntKind.i64.wrap (a - 1) = a - 1 := IntWalk.i64_in _ (by omega)
  have e2 : IntKind.i64.wrap (b - 1) = b - 1 := IntWalk.i64_in _ (by omega)
  obtain ⟨T1, T2, T3, z1, z2, z3, c1, c2, c3, HX⟩ : ∃ T1 T2 T3 : ByteArray, T1.size = 1 ∧ T2.size = 2 ∧ T3.size = 2 ∧
      (∀ w, Calls Try.prog 73 #[.int .i64 k, .int .i64 1] w fun e w' => e = .returned (.string T1) ∧ Below w.heap.size w w') ∧
      (∀ w, Calls Try.prog 73 #[.int .i64 (a - 1), .int .i64 2] w fun e w' => e = .returned (.string T2) ∧ Below w.heap.size w w') ∧
      (∀ w, Calls Try.prog 73 #[.int .i64 (b - 1), .int .i64 2] w fun e w' => e = .returned (.string T3) ∧ Below w.heap.size w w') ∧
      Aside (T1 ++ T2 ++ T3 = tab (pbF k a b) 5) :=
    ⟨_, _, _, tab_size _ _, tab_size _ _, tab_size _ _, fun w => low_any k 1 w (by omega), fun w => low_any (a - 1) 2 w (by omega), fun w => low_any (b - 1) 2 w (by omega), ⟨pb5 k a b k0 k1⟩⟩
  go_enter Try.func47, Try.ntmps47
  go_wp2_with fail
  refine (refMay_any _ _ _ _).mono ?_
  rintro e w1 ⟨rfl, hb⟩
  rw [h]
  have hB := bl_step HB.out hb
  have hK := K1.out.below hb K1.out.lt
  obtain ⟨x0, x1, x2⟩ := blkB hK
  clear hb HB K1
  go_wp2_with fail
  go_region_held3 (fun w' => Below w.heap.size w w' ∧ Blk w' w.heap.size 68 #[.int .i64 k, .int .i64 a, .int .i64 b] ∧
      (w'.cell? ⟨w.heap.size, 0, none⟩ = some (.int .i64 k) ∧ w'.cell? ⟨w.heap.size, 1, none⟩ = some (.int .i64 a) ∧ w'.cell? ⟨w.heap.size, 2, none⟩ = some (.int .i64 b)))
    (exact ⟨by first | assumption | exact bl_drew (by assumption), by first | assumption | exact Blk.drew (by assumption), blkB (by first | assumption | exact Blk.drew (by assumption))⟩)
    (first
      | (go_at_call 73; with_reducible refine (c1 _).mono ?_; rintro e w' ⟨rfl, hb⟩; have hB2 := bl_step (by first | assumption | exact bl_drew (by assumption)) hb; have hF2 := Blk.below (g := w.heap.size) (by first | assumption | exact Blk.drew (by assumption)) hb (Blk.lt (by first | assumption | exact Blk.drew (by assumption))); clear hb)
      | (go_at_call 73; with_reducible refine (c2 _).mono ?_; rintro e w' ⟨rfl, hb⟩; have hB2 := bl_step (by first | assumption | exact bl_drew (by assumption)) hb; have hF2 := Blk.below (g := w.heap.size) (by first | assumption | exact Blk.drew (by assumption)) hb (Blk.lt (by first | assumption | exact Blk.drew (by assumption))); clear hb)
      | (go_at_call 73; with_reducible refine (c3 _).mono ?_; rintro e w' ⟨rfl, hb⟩; have hB2 := bl_step (by first | assumption | exact bl_drew (by assumption)) hb; have hF2 := Blk.below (g := w.heap.size) (by first | assumption | exact Blk.drew (by assumption)) hb (Blk.lt (by first | assumption | exact Blk.drew (by assumption))); clear hb))
  all_goals (rw [HX.out]; go_wp2_with fail; go_ret2; exact ⟨rfl, by first | assumption | (apply bl_drew; assumption) | (apply bl_drewN; assumption)⟩)
theorem refPutBlock_all (k a b : Int) (w : World) :
    Calls Try.prog 47 #[.agg #[.int .i64 k, .int .i64 a, .int .i64 b]] w fun e w' => e = .returned (.tuple #[.string (pbS k a b), .int .i64 (pbOk k a b)]) ∧ Below w.heap.size w w' := by
  unfold pbS pbOk
  cases h : mayS k a b
  · simpa using refPutBlock_bad k a b w h
  · by_cases hk : k = 0
    · subst hk
      simpa using refPutBlock_zero a b w h
    · simpa [hk] using refPutBlock_full k a b w h hk
end Go.Proofs.Ytjmenlffhoodeab
