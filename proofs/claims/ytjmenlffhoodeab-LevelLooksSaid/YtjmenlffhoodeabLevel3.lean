/- The two laws of level: awake, and the walks. -/
import Derived.Test.YtjmenlffhoodeabLevel2
import Derived.Deep.RegionHeld3
namespace Go.Proofs.Ytjmenlffhoodeab
open Go.RowKit

theorem head_all (lv lg : Int) (s : ByteArray) (w : World) (hs : s.size ≤ 140737488351232) :
    Calls Try.prog 40 #[.agg #[.int .i64 lv, .int .i64 lg, .string s]] w fun e w' => e = .returned (.tuple #[.agg #[.int .i64 (hd0 lv lg s), .bool (hd1 lv lg s), .int .u32 (hd2 lv lg s)], .int .i64 (chk lv lg s.size)]) ∧ Below w.heap.size w w' := by
  by_cases h : chk lv lg s.size = 0
  · by_cases h0 : 0 < s.size
    · have := head_some lv lg s w h h0 hs
      simpa [hd0, hd1, hd2, h, h0] using this
    · obtain rfl := empty_of_size s (by omega)
      have := head_none lv lg w h
      simpa [hd0, hd1, hd2, h, h0] using this
  · have := head_bad lv lg s w h
    simpa [hd0, hd1, hd2, h] using this
theorem refHead_all (lv lg : Int) (s : ByteArray) (w : World) (hs : s.size ≤ 140737488351232) :
    Calls Try.prog 41 #[.agg #[.int .i64 lv, .int .i64 lg, .string s]] w fun e w' => e = .returned (.tuple #[.agg #[.int .i64 (hd0 lv lg s), .bool (hd1 lv lg s), .int .u32 (hd2 lv lg s)], .int .i64 (chk lv lg s.size)]) ∧ Below w.heap.size w w' := by
  by_cases h : chk lv lg s.size = 0
  · by_cases h0 : 0 < s.size
    · have := refHead_some lv lg s w h h0 hs
      simpa [hd0, hd1, hd2, h, h0] using this
    · obtain rfl := empty_of_size s (by omega)
      have := refHead_none lv lg w h
      simpa [hd0, hd1, hd2, h, h0] using this
  · have := refHead_bad lv lg s w h
    simpa [hd0, hd1, hd2, h] using this

/-- The five blocks of LevelLooks. -/
structure Five (w : World) (g1 g2 g3 g4 g5 : Nat) (a0 a1 : Int) (a2 : ByteArray) (x0 x1 x2 y0 : Int) (y1 : Bool) (y2 : Int) : Prop where
  one : Blk w g1 50 #[.int .i64 a0, .int .i64 a1, .string a2]
  two : Blk w g2 52 #[.int .i64 x0, .int .i64 x1, .int .i64 x2]
  three : Blk w g3 52 #[.int .i64 x0, .int .i64 x1, .int .i64 x2]
  four : Blk w g4 58 #[.int .i64 y0, .bool y1, .int .u32 y2]
  five : Blk w g5 58 #[.int .i64 y0, .bool y1, .int .u32 y2]
theorem Five.step {w w' : World} {g1 g2 g3 g4 g5 : Nat} {a0 a1 : Int} {a2 : ByteArray} {x0 x1 x2 y0 : Int} {y1 : Bool} {y2 : Int}
    (F : Five w g1 g2 g3 g4 g5 a0 a1 a2 x0 x1 x2 y0 y1 y2) (hb : Below w.heap.size w w') : Five w' g1 g2 g3 g4 g5 a0 a1 a2 x0 x1 x2 y0 y1 y2 :=
  ⟨F.one.below hb F.one.lt, F.two.below hb F.two.lt, F.three.below hb F.three.lt, F.four.below hb F.four.lt, F.five.below hb F.five.lt⟩
theorem Five.cells {w : World} {g1 g2 g3 g4 g5 : Nat} {a0 a1 : Int} {a2 : ByteArray} {x0 x1 x2 y0 : Int} {y1 : Bool} {y2 : Int}
    (F : Five w g1 g2 g3 g4 g5 a0 a1 a2 x0 x1 x2 y0 y1 y2) :
    (w.cell? ⟨g1, 0, none⟩ = some (.int .i64 a0) ∧ w.cell? ⟨g1, 1, none⟩ = some (.int .i64 a1) ∧ w.cell? ⟨g1, 2, none⟩ = some (.string a2)) ∧
    (w.cell? ⟨g2, 0, none⟩ = some (.int .i64 x0) ∧ w.cell? ⟨g2, 1, none⟩ = some (.int .i64 x1) ∧ w.cell? ⟨g2, 2, none⟩ = some (.int .i64 x2)) ∧
    (w.cell? ⟨g3, 0, none⟩ = some (.int .i64 x0) ∧ w.cell? ⟨g3, 1, none⟩ = some (.int .i64 x1) ∧ w.cell? ⟨g3, 2, none⟩ = some (.int .i64 x2)) ∧
    (w.cell? ⟨g4, 0, none⟩ = some (.int .i64 y0) ∧ w.cell? ⟨g4, 1, none⟩ = some (.bool y1) ∧ w.cell? ⟨g4, 2, none⟩ = some (.int .u32 y2)) ∧
    (w.cell? ⟨g5, 0, none⟩ = some (.int .i64 y0) ∧ w.cell? ⟨g5, 1, none⟩ = some (.bool y1) ∧ w.cell? ⟨g5, 2, none⟩ = some (.int .u32 y2)) :=
  ⟨⟨F.one.cell 0, F.one.cell 1, F.one.cell 2⟩, ⟨F.two.cell 0, F.two.cell 1, F.two.cell 2⟩, ⟨F.three.cell 0, F.three.cell 1, F.three.cell 2⟩, ⟨F.four.cell 0, F.four.cell 1, F.four.cell 2⟩, ⟨F.five.cell 0, F.five.cell 1, F.five.cell 2⟩⟩

theorem five_keep {a w : World} {g1 g2 g3 g4 g5 : Nat} {a0 a1 : Int} {a2 : ByteArray} {x0 x1 x2 y0 : Int} {y1 : Bool} {y2 : Int}
    (hb : Below a.heap.size a w) (F : Five w g1 g2 g3 g4 g5 a0 a1 a2 x0 x1 x2 y0 y1 y2) : Below a.heap.size a w ∧ Five w g1 g2 g3 g4 g5 a0 a1 a2 x0 x1 x2 y0 y1 y2 ∧
    (w.cell? ⟨g1, 0, none⟩ = some (.int .i64 a0) ∧ w.cell? ⟨g1, 1, none⟩ = some (.int .i64 a1) ∧ w.cell? ⟨g1, 2, none⟩ = some (.string a2)) ∧
    (w.cell? ⟨g2, 0, none⟩ = some (.int .i64 x0) ∧ w.cell? ⟨g2, 1, none⟩ = some (.int .i64 x1) ∧ w.cell? ⟨g2, 2, none⟩ = some (.int .i64 x2)) ∧
    (w.cell? ⟨g3, 0, none⟩ = some (.int .i64 x0) ∧ w.cell? ⟨g3, 1, none⟩ = some (.int .i64 x1) ∧ w.cell? ⟨g3, 2, none⟩ = some (.int .i64 x2)) ∧
    (w.cell? ⟨g4, 0, none⟩ = some (.int .i64 y0) ∧ w.cell? ⟨g4, 1, none⟩ = some (.bool y1) ∧ w.cell? ⟨g4, 2, none⟩ = some (.int .u32 y2)) ∧
    (w.cell? ⟨g5, 0, none⟩ = some (.int .i64 y0) ∧ w.cell? ⟨g5, 1, none⟩ = some (.bool y1) ∧ w.cell? ⟨g5, 2, none⟩ = some (.int .u32 y2)) := ⟨hb, F, F.cells⟩
theorem Five.drew {w : World} {g1 g2 g3 g4 g5 : Nat} {a0 a1 : Int} {a2 : ByteArray} {x0 x1 x2 y0 : Int} {y1 : Bool} {y2 : Int}
    (F : Five w g1 g2 g3 g4 g5 a0 a1 a2 x0 x1 x2 y0 y1 y2) : Five w.drew g1 g2 g3 g4 g5 a0 a1 a2 x0 x1 x2 y0 y1 y2 := ⟨F.one, F.two, F.three, F.four, F.five⟩

theorem of_val (n a b c e : Int) (w : World) (h1 : wayS n = a) (h2 : depS n = b) (h3 : pasS n = c) (h4 : ofE n = e) :
    Calls Try.prog 38 #[.int .i64 n] w fun x w' => x = .returned (.tuple #[.agg #[.int .i64 a, .int .i64 b, .int .i64 c], .int .i64 e]) ∧ Below w.heap.size w w' := by
  subst h1 h2 h3 h4; exact of_all n w
theorem head_val (lv lg : Int) (s : ByteArray) (a : Int) (b : Bool) (c e : Int) (w : World) (hs : s.size ≤ 140737488351232) (h1 : hd0 lv lg s = a) (h2 : hd1 lv lg s = b) (h3 : hd2 lv lg s = c) (h4 : chk lv lg s.size = e) :
    Calls Try.prog 40 #[.agg #[.int .i64 lv, .int .i64 lg, .string s]] w fun x w' => x = .returned (.tuple #[.agg #[.int .i64 a, .bool b, .int .u32 c], .int .i64 e]) ∧ Below w.heap.size w w' := by
  subst h1 h2 h3 h4; exact head_all lv lg s w hs
theorem check_val (lv lg : Int) (s : ByteArray) (e : Int) (w : World) (h : chk lv lg s.size = e) :
    Calls Try.prog 42 #[.agg #[.int .i64 lv, .int .i64 lg, .string s]] w fun x w' => x = .returned (.int .i64 e) ∧ Below w.heap.size w w' := by
  subst h; exact check_all lv lg s w

set_option maxRecDepth 100000 in
set_option maxHeartbeats 2000000 in
theorem awake32 (w : World) : Calls Try.prog 37 #[] w fun e w' => e = .returned (.bool true) ∧ Below w.heap.size w w' := by
  have HB := Aside.mk (Below.refl w.heap.size w)
  go_enter Try.func37, Try.ntmps37
  go_wp2_with fail
  refine (of_val 5 2 64 0 0 _ (by decide) (by decide) (by decide) (by decide)).mono ?_
  rintro e w1 ⟨rfl, hb⟩
  replace HB := Aside.mk (bl_step HB.out hb)
  clear hb
  have S1 := Aside.mk (Blk.new w1 52 #[.int .i64 2, .int .i64 64, .int .i64 0])
  replace HB := Aside.mk (bl_alloc HB.out (.cells #[.int .i64 2, .int .i64 64, .int .i64 0] 52))
  go_wp2_with fail
  refine (of_val 10 0 0 0 2 _ (by decide) (by decide) (by decide) (by decide)).mono ?_
  rintro e w2 ⟨rfl, hb⟩
  replace HB := Aside.mk (bl_step HB.out hb)
  replace S1 := Aside.mk (S1.out.below hb (by simp))
  have z1 : w1.heap.size < w2.heap.size := by have := hb.size; simp at this; omega
  clear hb
  replace S1 := Aside.mk (S1.out.alloc (.cells #[.int .i64 0, .int .i64 0, .int .i64 0] 52))
  replace HB := Aside.mk (bl_alloc HB.out (.cells #[.int .i64 0, .int .i64 0, .int .i64 0] 52))
  go_wp2_with fail
  refine (head_val 1 20 _ 20 true 6422626 0 _ (by decide) (by decide +kernel) (by decide +kernel) (by decide +kernel) (by decide +kernel)).mono ?_
  rintro e w3 ⟨rfl, hb⟩
  replace HB := Aside.mk (bl_step HB.out hb)
  replace S1 := Aside.mk (S1.out.below hb (by simp; omega))
  have z2 : w2.heap.size < w3.heap.size := by have := hb.size; simp at this; omega
  have z3 : w1.heap.size < w3.heap.size := by omega
  clear hb z1 z2
  obtain ⟨b0, b1, b2, b3, b4, b5⟩ := blk3 S1.out
  have S3 := Blk.new w3 58 #[.int .i64 20, .bool true, .int .u32 6422626]
  replace HB := Aside.mk (bl_alloc HB.out (.cells #[.int .i64 20, .bool true, .int .u32 6422626] 58))
  go_wp2_with fail
  refine (check_val 10 3 _ 2 _ (by decide)).mono ?_
  rintro e w4 ⟨rfl, hb⟩
  replace HB := Aside.mk (bl_step HB.out hb)
  clear hb
  go_wp2_with fail
  refine (check_val 0 27 _ 12 _ (by decide)).mono ?_
  rintro e w5 ⟨rfl, hb⟩
  replace HB := Aside.mk (bl_step HB.out hb)
  clear hb
  go_wp2_with fail
  go_ret
  exact ⟨rfl, HB.out⟩

set_option maxRecDepth 100000 in
set_option maxHeartbeats 2000000 in
theorem levelLooks_walk (lv lg : Int) (s : ByteArray) (n : Int) (w : World) (_wn : (Lit.int .i64 n).wf = true) :
    Calls Try.prog 10 #[.agg #[.int .i64 lv, .int .i64 lg, .string s], .int .i64 n] w fun e w' => e = .returned (.bool true) ∧ Below w.heap.size w w' := by
  have HB := Aside.mk (bl_alloc (Below.refl w.heap.size w) (.cells #[.int .i64 lv, .int .i64 lg, .string s] 50))
  have S1 := Aside.mk (Blk.new w 50 #[.int .i64 lv, .int .i64 lg, .string s])
  by_cases h : (100000 : Int) < s.size
  · clear S1
    go_enter Try.func10, Try.ntmps10
    go_wp2_with fail
    refine (awake32 _).mono ?_
    rintro e w1 ⟨rfl, hb⟩
    replace HB := Aside.mk (bl_step HB.out hb)
    clear hb
    go_wp2_with fail
    go_ret
    exact ⟨rfl, HB.out⟩
  · have hs : s.size ≤ 140737488351232 := by omega
    obtain ⟨x0, x1, x2, x3, cOf, cRef⟩ : ∃ x0 x1 x2 x3 : Int, (∀ w, Calls Try.prog 38 #[.int .i64 n] w fun e w' => e = .returned (.tuple #[.agg #[.int .i64 x0, .int .i64 x1, .int .i64 x2], .int .i64 x3]) ∧ Below w.heap.size w w') ∧
        (∀ w, Calls Try.prog 39 #[.int .i64 n] w fun e w' => e = .returned (.tuple #[.agg #[.int .i64 x0, .int .i64 x1, .int .i64 x2], .int .i64 x3]) ∧ Below w.heap.size w w') := ⟨_, _, _, _, of_all n, refOf_all n⟩
    obtain ⟨y0, y1, y2, y3, cHead, cRefHead, cCheck, cRefCheck⟩ : ∃ (y0 : Int) (y1 : Bool) (y2 y3 : Int),
        (∀ w, Calls Try.prog 40 #[.agg #[.int .i64 lv, .int .i64 lg, .string s]] w fun e w' => e = .returned (.tuple #[.agg #[.int .i64 y0, .bool y1, .int .u32 y2], .int .i64 y3]) ∧ Below w.heap.size w w') ∧
        (∀ w, Calls Try.prog 41 #[.agg #[.int .i64 lv, .int .i64 lg, .string s]] w fun e w' => e = .returned (.tuple #[.agg #[.int .i64 y0, .bool y1, .int .u32 y2], .int .i64 y3]) ∧ Below w.heap.size w w') ∧
        (∀ w, Calls Try.prog 42 #[.agg #[.int .i64 lv, .int .i64 lg, .string s]] w fun e w' => e = .returned (.int .i64 y3) ∧ Below w.heap.size w w') ∧
        (∀ w, Calls Try.prog 43 #[.agg #[.int .i64 lv, .int .i64 lg, .string s]] w fun e w' => e = .returned (.int .i64 y3) ∧ Below w.heap.size w w') :=
      ⟨_, _, _, _, fun w => head_all lv lg s w hs, fun w => refHead_all lv lg s w hs, fun w => check_all lv lg s w, fun w => refCheck_all lv lg s w⟩
    go_enter Try.func10, Try.ntmps10
    go_wp2_with fail
    refine (cOf _).mono ?_
    rintro e w1 ⟨rfl, hb⟩
    replace HB := Aside.mk (bl_step HB.out hb)
    replace S1 := Aside.mk (S1.out.below hb (by simp))
    have z1 : w.heap.size < w1.heap.size := by have := hb.size; simp at this; omega
    clear hb
    replace S1 := Aside.mk (S1.out.alloc (.cells #[.int .i64 x0, .int .i64 x1, .int .i64 x2] 52))
    have S2 := Aside.mk (Blk.new w1 52 #[.int .i64 x0, .int .i64 x1, .int .i64 x2])
    replace HB := Aside.mk (bl_alloc HB.out (.cells #[.int .i64 x0, .int .i64 x1, .int .i64 x2] 52))
    go_wp2_with fail
    refine (cRef _).mono ?_
    rintro e w2 ⟨rfl, hb⟩
    replace HB := Aside.mk (bl_step HB.out hb)
    replace S1 := Aside.mk (S1.out.below hb (by simp; omega))
    replace S2 := Aside.mk (S2.out.below hb (by simp))
    have z2 : w1.heap.size < w2.heap.size := by have := hb.size; simp at this; omega
    have z3 : w.heap.size < w2.heap.size := by omega
    clear hb
    obtain ⟨b0, b1, b2, b3, b4, b5⟩ := blk3 S1.out
    replace S1 := Aside.mk (S1.out.alloc (.cells #[.int .i64 x0, .int .i64 x1, .int .i64 x2] 52))
    replace S2 := Aside.mk (S2.out.alloc (.cells #[.int .i64 x0, .int .i64 x1, .int .i64 x2] 52))
    have S3 := Aside.mk (Blk.new w2 52 #[.int .i64 x0, .int .i64 x1, .int .i64 x2])
    replace HB := Aside.mk (bl_alloc HB.out (.cells #[.int .i64 x0, .int .i64 x1, .int .i64 x2] 52))
    go_wp2_with fail
    refine (cHead _).mono ?_
    rintro e w3 ⟨rfl, hb⟩
    replace HB := Aside.mk (bl_step HB.out hb)
    replace S1 := Aside.mk (S1.out.below hb (by simp; omega))
    replace S2 := Aside.mk (S2.out.below hb (by simp; omega))
    replace S3 := Aside.mk (S3.out.below hb (by simp))
    have z4 : w2.heap.size < w3.heap.size := by have := hb.size; simp at this; omega
    have z5 : w.heap.size < w3.heap.size := by omega
    have z6 : w1.heap.size < w3.heap.size := by omega
    clear hb b0 b1 b2 b3 b4 b5
    obtain ⟨b0, b1, b2, b3, b4, b5⟩ := blk3 S1.out
    replace S1 := Aside.mk (S1.out.alloc (.cells #[.int .i64 y0, .bool y1, .int .u32 y2] 58))
    replace S2 := Aside.mk (S2.out.alloc (.cells #[.int .i64 y0, .bool y1, .int .u32 y2] 58))
    replace S3 := Aside.mk (S3.out.alloc (.cells #[.int .i64 y0, .bool y1, .int .u32 y2] 58))
    have S4 := Aside.mk (Blk.new w3 58 #[.int .i64 y0, .bool y1, .int .u32 y2])
    replace HB := Aside.mk (bl_alloc HB.out (.cells #[.int .i64 y0, .bool y1, .int .u32 y2] 58))
    go_wp2_with fail
    refine (cRefHead _).mono ?_
    rintro e w4 ⟨rfl, hb⟩
    clear b0 b1 b2 b3 b4 b5 z1 z2 z3 z4 z5 z6
    replace HB := Aside.mk (bl_step HB.out hb)
    have F := Aside.mk (Five.step (g5 := w4.heap.size) (w := (w4.alloc (.cells #[.int .i64 y0, .bool y1, .int .u32 y2] 58))) ⟨(S1.out.below hb S1.out.lt).alloc _, (S2.out.below hb S2.out.lt).alloc _, (S3.out.below hb S3.out.lt).alloc _, (S4.out.below hb S4.out.lt).alloc _, Blk.new w4 58 #[.int .i64 y0, .bool y1, .int .u32 y2]⟩ (Below.refl _ _))
    replace HB := Aside.mk (bl_alloc HB.out (.cells #[.int .i64 y0, .bool y1, .int .u32 y2] 58))
    clear hb S1 S2 S3 S4
    go_wp2_with fail
    generalize hW : w4.alloc (.cells #[.int .i64 y0, .bool y1, .int .u32 y2] 58) = w5 at *
    generalize w1.heap.size = g1, w2.heap.size = g2, w3.heap.size = g3, w4.heap.size = g4 at *
    clear hW
    have hB := HB.out
    have hF := F.out
    have b := F.out.cells
    obtain ⟨⟨b0, b1, b2⟩, ⟨b3, b4, b5⟩, ⟨b6, b7, b8⟩, ⟨b9, b10, b11⟩, ⟨b12, b13, b14⟩⟩ := b
    clear F HB
    go_region_held3 (fun w' => Below w.heap.size w w' ∧ Five w' w.heap.size g1 g2 g3 g4 lv lg s x0 x1 x2 y0 y1 y2 ∧
        (w'.cell? ⟨w.heap.size, 0, none⟩ = some (.int .i64 lv) ∧ w'.cell? ⟨w.heap.size, 1, none⟩ = some (.int .i64 lg) ∧ w'.cell? ⟨w.heap.size, 2, none⟩ = some (.string s)) ∧
        (w'.cell? ⟨g1, 0, none⟩ = some (.int .i64 x0) ∧ w'.cell? ⟨g1, 1, none⟩ = some (.int .i64 x1) ∧ w'.cell? ⟨g1, 2, none⟩ = some (.int .i64 x2)) ∧
        (w'.cell? ⟨g2, 0, none⟩ = some (.int .i64 x0) ∧ w'.cell? ⟨g2, 1, none⟩ = some (.int .i64 x1) ∧ w'.cell? ⟨g2, 2, none⟩ = some (.int .i64 x2)) ∧
        (w'.cell? ⟨g3, 0, none⟩ = some (.int .i64 y0) ∧ w'.cell? ⟨g3, 1, none⟩ = some (.bool y1) ∧ w'.cell? ⟨g3, 2, none⟩ = some (.int .u32 y2)) ∧
        (w'.cell? ⟨g4, 0, none⟩ = some (.int .i64 y0) ∧ w'.cell? ⟨g4, 1, none⟩ = some (.bool y1) ∧ w'.cell? ⟨g4, 2, none⟩ = some (.int .u32 y2)))
      (exact five_keep (by first | assumption | (apply bl_drew; assumption)) (by first | assumption | (apply Five.drew; assumption)))
      (first
        | (go_at_call 42; refine (cCheck _).mono ?_; rintro e w' ⟨rfl, hb⟩; have hB2 := bl_step (by first | assumption | exact bl_drew (by assumption)) hb; have hF2 := Five.step (by first | assumption | exact Five.drew (by assumption)) hb; clear hb)
        | (go_at_call 43; refine (cRefCheck _).mono ?_; rintro e w' ⟨rfl, hb⟩; have hB2 := bl_step (by first | assumption | exact bl_drew (by assumption)) hb; have hF2 := Five.step (by first | assumption | exact Five.drew (by assumption)) hb; clear hb)
        | (go_at_call 37; refine (awake32 _).mono ?_; rintro e w' ⟨rfl, hb⟩; have hB2 := bl_step (by first | assumption | exact bl_drew (by assumption)) hb; have hF2 := Five.step (by first | assumption | exact Five.drew (by assumption)) hb; clear hb))
    all_goals (go_wp2_with fail; go_ret; exact ⟨rfl, by first | assumption | (apply bl_drew; assumption) | (apply bl_drewN; assumption)⟩)
end Go.Proofs.Ytjmenlffhoodeab
