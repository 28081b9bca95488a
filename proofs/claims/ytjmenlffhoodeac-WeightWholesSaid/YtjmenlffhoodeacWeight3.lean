/- Two lists mixed by a weight: the reference's Mix, walked. -/
import Derived.Test.YtjmenlffhoodeacWeight2
import Derived.Deep.RegionHeld3
namespace Go.Proofs.Ytjmenlffhoodeac
open Go.RowKit

set_option maxRecDepth 100000 in
set_option maxHeartbeats 4000000 in
theorem refMix_any (xs ys : List Int) (A A2 : Option Addr) (cap cap2 : Nat) (b : Nat) (B : Nat) (w : World) (h : IntsG w B A xs) (h2 : IntsG w B A2 ys) (hB : B ≤ w.heap.size) (hl : xs.length ≤ cap) (hl2 : ys.length ≤ cap2) (hc : cap ≤ maxLen) (hc2 : cap2 ≤ maxLen) (hx : xs.length ≤ 5000) :
    Calls Try.prog 19 #[.slice A xs.length cap, .slice A2 ys.length cap2, .float .f64 b] w fun e w' => ∃ r, e = .returned (.tuple #[r, .int .i64 (Weight.mixed xs ys b).2]) ∧ IntsAt w' w'.heap.size r (Weight.mixed xs ys b).1 ∧ Below w.heap.size w w' := by
  obtain ⟨i0, hi0, hz0, hz1, hz2⟩ := info_parts int_info
  have c34 := fun w (h : IntsG w B A xs) => refFair_any xs A cap B w h hl hc
  have c34b := fun w (h : IntsG w B A2 ys) => refFair_any ys A2 cap2 B w h hl2 hc2
  have HX := Aside.mk h
  have HY := Aside.mk h2
  have HC := Aside.mk (And.intro hc hc2)
  clear hc hc2 h h2
  unfold Weight.mixed
  by_cases hn : nanB b = true
  · rw [if_pos hn]
    have d0 : (FloatKind.f64.format.order b b != some Ordering.eq) = true := hn
    clear hn
    go_enter Try.func19, Try.ntmps19
    go_wp2_with fail
    go_ret2
    exact ⟨_, rfl, .inl ⟨rfl, rfl⟩, Below.refl _ _⟩
  · have hn' : nanB b = false := by simpa using hn
    rw [if_neg hn]
    have d0 : (FloatKind.f64.format.order b b != some Ordering.eq) = false := hn'
    by_cases hl3 : xs.length = ys.length
    · rw [if_neg (by simpa using hl3)]
      have HL := Aside.mk hl3
      have d1 : ((xs.length : Int) != ys.length) = false := by simp [hl3]
      clear hl3
      by_cases hf : (Weight.fair xs && Weight.fair ys) = false
      · rw [if_pos hf]
        by_cases hfx : Weight.fair xs = true
        · rw [hfx] at c34 hf
          have hfy : Weight.fair ys = false := by simpa using hf
          rw [hfy] at c34b
          clear hf hfx hfy hn hn'
          go_enter Try.func19, Try.ntmps19
          go_wp2_with (first | (go_at_call 35; with_reducible refine (c34 _ HX.out).mono ?_; rintro e w ⟨rfl, rfl⟩) | (go_at_call 35; with_reducible refine (c34b _ HY.out).mono ?_; rintro e w ⟨rfl, rfl⟩))
          go_ret2
          exact ⟨_, rfl, .inl ⟨rfl, rfl⟩, Below.refl _ _⟩
        · have hfx' : Weight.fair xs = false := by simpa using hfx
          rw [hfx'] at c34
          clear hf hfx hfx' hn hn'
          go_enter Try.func19, Try.ntmps19
          go_wp2_with (first | (go_at_call 35; with_reducible refine (c34 _ HX.out).mono ?_; rintro e w ⟨rfl, rfl⟩) | (go_at_call 35; with_reducible refine (c34b _ HY.out).mono ?_; rintro e w ⟨rfl, rfl⟩))
          go_ret2
          exact ⟨_, rfl, .inl ⟨rfl, rfl⟩, Below.refl _ _⟩
      · rw [if_neg hf]
        have hfx : Weight.fair xs = true := by revert hf; cases Weight.fair xs <;> simp
        have hfy : Weight.fair ys = true := by revert hf; cases Weight.fair ys <;> simp
        rw [hfx] at c34
        rw [hfy] at c34b
        have HFX := Aside.mk (Weight.fair_bd hfx)
        have HFY := Aside.mk (Weight.fair_bd hfy)
        have hw := Weight.wt_w b (Weight.nan_eq hn')
        unfold Weight.wt at hw ⊢
        have hG : (4294967296 : Nat) ≤ 4607182418800017408 := by decide
        clear hG hf hfx hfy hn hn'
        by_cases hg0 : Ieee.double.order b 0 = some .lt
        · rw [if_pos hg0] at hw ⊢
          have d2 : (FloatKind.f64.format.order b 0 == some Ordering.lt) = true := by rw [show FloatKind.f64.format.order b 0 = some .lt from hg0]; rfl
          have HW := Aside.mk hw
          clear hg0 hw
          go_enter Try.func19, Try.ntmps19
          go_wp2_with (first | (go_at_call 35; with_reducible refine (c34 _ HX.out).mono ?_; rintro e w ⟨rfl, rfl⟩) | (go_at_call 35; with_reducible refine (c34b _ HY.out).mono ?_; rintro e w ⟨rfl, rfl⟩))
          clear c34 c34b
          go_loopw [8, 9] (fun ov iv wr => ∃ i : Nat, i ≤ xs.length ∧ iv = .int .i64 i ∧ wr.ownsRow w.heap.size 3 1 ov (Weight.mrow 0 xs ys i).length ((Weight.mrow 0 xs ys i).map (Value.int .i64)) ∧ Aside (Below w.heap.size w wr)) (fun _ iv _ => xs.length - (intOf iv).toNat)
          case atStart => exact ⟨0, by omega, rfl, World.ownsRow_nil _ _ _ _, ⟨Below.refl _ _⟩⟩
          case round =>
            obtain ⟨i, hi, rfl, hown, HB⟩ := hrel
            have HN := Aside.mk (Weight.mrow_len 0 xs ys i)
            by_cases hlt : i < xs.length
            · obtain ⟨ad, rfl, hb, e1⟩ := HX.out i hlt
              obtain ⟨ad2, rfl, hb2, e2⟩ := HY.out i (by have := HL.out; omega)
              have HS : Aside (∀ w', Below w.heap.size w w' → Below w.heap.size w w' ∧ w'.cell? (ad.add i) = some (.int .i64 (xs.getD i 0)) ∧ w'.cell? (ad2.add i) = some (.int .i64 (ys.getD i 0))) :=
                ⟨fun w' hw => ⟨hw, (hw.cell (by rw [block_of_add]; omega)).trans e1, (hw.cell (by rw [block_of_add]; omega)).trans e2⟩⟩
              have b1 := HFX.out i hlt
              have b2 := HFY.out i (by have := HL.out; omega)
              obtain ⟨r, z, hop, hcv, hz, z1, z2, z3, z4⟩ := part_runs 0 HW.out (ys.getD i 0 - xs.getD i 0) (by omega)
              have HZ : Aside (xs.getD i 0 + Weight.part 0 (ys.getD i 0 - xs.getD i 0) = xs.getD i 0 + z) := ⟨by rw [hz]⟩
              have i1 : (0 : Int) ≤ i := by omega
              have i2 : (i : Int) < xs.length := by omega
              have i3 : (i : Int) < ys.length := by have := HL.out; omega
              obtain ⟨Ao, co, rfl⟩ := own_form hown
              clear e1 e2 hz z3 z4
              have HOWN := Aside.mk (fun v w' (h : World.ownsRow w' w.heap.size 3 1 v ((Weight.mrow 0 xs ys i).length + 1) ((Weight.mrow 0 xs ys i).map (Value.int .i64) ++ [.int .i64 (xs.getD i 0 + z)])) => own_mrow HZ.out h)
              generalize xs.getD i 0 = x at HS b1 hop HOWN
              generalize ys.getD i 0 = y at HS b2 hop
              clear HZ
              obtain ⟨x1, x2⟩ := b1
              obtain ⟨y1, y2⟩ := b2
              have v1 : IntKind.i64.wrap (y - x) = y - x := IntWalk.i64_in _ (by omega)
              have v2 : IntKind.i64.wrap (x + z) = x + z := IntWalk.i64_in _ (by omega)
              obtain ⟨_, k1, k2⟩ := HS.out _ HB.out
              have HR := HB.out
              go_wp2_with fail
              go_region_held3 (fun w' => Below w.heap.size w w' ∧ w'.cell? (ad.add i) = some (.int .i64 x) ∧ w'.cell? (ad2.add i) = some (.int .i64 y))
                (exact HS.out _ (by first | assumption | exact bl_drew (by assumption) | exact bl_alloc (by assumption) _ | exact bl_drew (bl_alloc (by assumption) _) | exact bl_alloc (bl_drew (by assumption)) _))
                ((refine step_append_lies _ (by rfl) _ _ _ (by rfl) w.heap.size 3 i0 _ 1 8 Try.underlying22 hi0 hz0 hz1 hz2 rfl (by omega) _ _ _ (by rfl) ((hown.alloc _).drew)
                    ⟨wr.heap.size, 0, none⟩ 1 1 [.int .i64 (x + z)] (by rfl) (by rfl) (World.news_of_block (cs := #[.int .i64 (x + z)]) (t := 3) (fr := (0, 0)) (heap_alloc_new wr _)) (by simp [Value.oneCell'])
                    (by omega) (by have := HN.out; unfold maxLen; omega) (by have := HN.out; omega) (by have := HB.out.size; simp; omega) (wr.heap.size + 1) (by simp) ?_; intro gg cg w1 hown1 hgrow hat hlt1; have HB1 := below_grown (bl_drew (bl_alloc HB.out _)) ((hown.alloc _).drew) hgrow))
              go_wp2_with fail
              exact ⟨⟨i + 1, by omega, by go_num, HOWN.out _ _ hown1, ⟨HB1⟩⟩, by simp [intOf]; omega⟩
            · obtain rfl : i = xs.length := by omega
              go_wp2_with fail
              go_ret2
              exact ⟨_, rfl, intsAt_own hown, HB.out⟩
        · rw [if_neg hg0] at hw ⊢
          have d2 : (FloatKind.f64.format.order b 0 == some Ordering.lt) = false := by rw [show FloatKind.f64.format.order b 0 = Ieee.double.order b 0 from rfl]; simpa using hg0
          by_cases hg1 : Ieee.double.order b Weight.one = some .gt
          · rw [if_pos hg1] at hw ⊢
            unfold Weight.one at hw ⊢
            have d3 : (FloatKind.f64.format.order b 4607182418800017408 == some Ordering.gt) = true := by rw [show FloatKind.f64.format.order b 4607182418800017408 = some .gt from hg1]; rfl
            have HW := Aside.mk hw
            clear hg0 hg1 hw
            go_enter Try.func19, Try.ntmps19
            go_wp2_with (first | (go_at_call 35; with_reducible refine (c34 _ HX.out).mono ?_; rintro e w ⟨rfl, rfl⟩) | (go_at_call 35; with_reducible refine (c34b _ HY.out).mono ?_; rintro e w ⟨rfl, rfl⟩))
            clear c34 c34b
            go_loopw [8, 9] (fun ov iv wr => ∃ i : Nat, i ≤ xs.length ∧ iv = .int .i64 i ∧ wr.ownsRow w.heap.size 3 1 ov (Weight.mrow 4607182418800017408 xs ys i).length ((Weight.mrow 4607182418800017408 xs ys i).map (Value.int .i64)) ∧ Aside (Below w.heap.size w wr)) (fun _ iv _ => xs.length - (intOf iv).toNat)
            case atStart => exact ⟨0, by omega, rfl, World.ownsRow_nil _ _ _ _, ⟨Below.refl _ _⟩⟩
            case round =>
              obtain ⟨i, hi, rfl, hown, HB⟩ := hrel
              have HN := Aside.mk (Weight.mrow_len 4607182418800017408 xs ys i)
              by_cases hlt : i < xs.length
              · obtain ⟨ad, rfl, hb, e1⟩ := HX.out i hlt
                obtain ⟨ad2, rfl, hb2, e2⟩ := HY.out i (by have := HL.out; omega)
                have HS : Aside (∀ w', Below w.heap.size w w' → Below w.heap.size w w' ∧ w'.cell? (ad.add i) = some (.int .i64 (xs.getD i 0)) ∧ w'.cell? (ad2.add i) = some (.int .i64 (ys.getD i 0))) :=
                  ⟨fun w' hw => ⟨hw, (hw.cell (by rw [block_of_add]; omega)).trans e1, (hw.cell (by rw [block_of_add]; omega)).trans e2⟩⟩
                have b1 := HFX.out i hlt
                have b2 := HFY.out i (by have := HL.out; omega)
                obtain ⟨r, z, hop, hcv, hz, z1, z2, z3, z4⟩ := part_runs 4607182418800017408 HW.out (ys.getD i 0 - xs.getD i 0) (by omega)
                have HZ : Aside (xs.getD i 0 + Weight.part 4607182418800017408 (ys.getD i 0 - xs.getD i 0) = xs.getD i 0 + z) := ⟨by rw [hz]⟩
                have i1 : (0 : Int) ≤ i := by omega
                have i2 : (i : Int) < xs.length := by omega
                have i3 : (i : Int) < ys.length := by have := HL.out; omega
                obtain ⟨Ao, co, rfl⟩ := own_form hown
                clear e1 e2 hz z3 z4
                have HOWN := Aside.mk (fun v w' (h : World.ownsRow w' w.heap.size 3 1 v ((Weight.mrow 4607182418800017408 xs ys i).length + 1) ((Weight.mrow 4607182418800017408 xs ys i).map (Value.int .i64) ++ [.int .i64 (xs.getD i 0 + z)])) => own_mrow HZ.out h)
                generalize xs.getD i 0 = x at HS b1 hop HOWN
                generalize ys.getD i 0 = y at HS b2 hop
                clear HZ
                obtain ⟨x1, x2⟩ := b1
                obtain ⟨y1, y2⟩ := b2
                have v1 : IntKind.i64.wrap (y - x) = y - x := IntWalk.i64_in _ (by omega)
                have v2 : IntKind.i64.wrap (x + z) = x + z := IntWalk.i64_in _ (by omega)
                obtain ⟨_, k1, k2⟩ := HS.out _ HB.out
                have HR := HB.out
                go_wp2_with fail
                go_region_held3 (fun w' => Below w.heap.size w w' ∧ w'.cell? (ad.add i) = some (.int .i64 x) ∧ w'.cell? (ad2.add i) = some (.int .i64 y))
                  (exact HS.out _ (by first | assumption | exact bl_drew (by assumption) | exact bl_alloc (by assumption) _ | exact bl_drew (bl_alloc (by assumption) _) | exact bl_alloc (bl_drew (by assumption)) _))
                  ((refine step_append_lies _ (by rfl) _ _ _ (by rfl) w.heap.size 3 i0 _ 1 8 Try.underlying22 hi0 hz0 hz1 hz2 rfl (by omega) _ _ _ (by rfl) ((hown.alloc _).drew)
                      ⟨wr.heap.size, 0, none⟩ 1 1 [.int .i64 (x + z)] (by rfl) (by rfl) (World.news_of_block (cs := #[.int .i64 (x + z)]) (t := 3) (fr := (0, 0)) (heap_alloc_new wr _)) (by simp [Value.oneCell'])
                      (by omega) (by have := HN.out; unfold maxLen; omega) (by have := HN.out; omega) (by have := HB.out.size; simp; omega) (wr.heap.size + 1) (by simp) ?_; intro gg cg w1 hown1 hgrow hat hlt1; have HB1 := below_grown (bl_drew (bl_alloc HB.out _)) ((hown.alloc _).drew) hgrow))
                go_wp2_with fail
                exact ⟨⟨i + 1, by omega, by go_num, HOWN.out _ _ hown1, ⟨HB1⟩⟩, by simp [intOf]; omega⟩
              · obtain rfl : i = xs.length := by omega
                go_wp2_with fail
                go_ret2
                exact ⟨_, rfl, intsAt_own hown, HB.out⟩
          · rw [if_neg hg1] at hw ⊢
            have d3 : (FloatKind.f64.format.order b 4607182418800017408 == some Ordering.gt) = false := by rw [show FloatKind.f64.format.order b 4607182418800017408 = Ieee.double.order b Weight.one from rfl]; simpa using hg1
            have HW := Aside.mk hw
            clear hg0 hg1 hw
            go_enter Try.func19, Try.ntmps19
            go_wp2_with (first | (go_at_call 35; with_reducible refine (c34 _ HX.out).mono ?_; rintro e w ⟨rfl, rfl⟩) | (go_at_call 35; with_reducible refine (c34b _ HY.out).mono ?_; rintro e w ⟨rfl, rfl⟩))
            clear c34 c34b
            go_loopw [8, 9] (fun ov iv wr => ∃ i : Nat, i ≤ xs.length ∧ iv = .int .i64 i ∧ wr.ownsRow w.heap.size 3 1 ov (Weight.mrow b xs ys i).length ((Weight.mrow b xs ys i).map (Value.int .i64)) ∧ Aside (Below w.heap.size w wr)) (fun _ iv _ => xs.length - (intOf iv).toNat)
            case atStart => exact ⟨0, by omega, rfl, World.ownsRow_nil _ _ _ _, ⟨Below.refl _ _⟩⟩
            case round =>
              obtain ⟨i, hi, rfl, hown, HB⟩ := hrel
              have HN := Aside.mk (Weight.mrow_len b xs ys i)
              by_cases hlt : i < xs.length
              · obtain ⟨ad, rfl, hb, e1⟩ := HX.out i hlt
                obtain ⟨ad2, rfl, hb2, e2⟩ := HY.out i (by have := HL.out; omega)
                have HS : Aside (∀ w', Below w.heap.size w w' → Below w.heap.size w w' ∧ w'.cell? (ad.add i) = some (.int .i64 (xs.getD i 0)) ∧ w'.cell? (ad2.add i) = some (.int .i64 (ys.getD i 0))) :=
                  ⟨fun w' hw => ⟨hw, (hw.cell (by rw [block_of_add]; omega)).trans e1, (hw.cell (by rw [block_of_add]; omega)).trans e2⟩⟩
                have b1 := HFX.out i hlt
                have b2 := HFY.out i (by have := HL.out; omega)
                obtain ⟨r, z, hop, hcv, hz, z1, z2, z3, z4⟩ := part_runs b HW.out (ys.getD i 0 - xs.getD i 0) (by omega)
                have HZ : Aside (xs.getD i 0 + Weight.part b (ys.getD i 0 - xs.getD i 0) = xs.getD i 0 + z) := ⟨by rw [hz]⟩
                have i1 : (0 : Int) ≤ i := by omega
                have i2 : (i : Int) < xs.length := by omega
                have i3 : (i : Int) < ys.length := by have := HL.out; omega
                obtain ⟨Ao, co, rfl⟩ := own_form hown
                clear e1 e2 hz z3 z4
                have HOWN := Aside.mk (fun v w' (h : World.ownsRow w' w.heap.size 3 1 v ((Weight.mrow b xs ys i).length + 1) ((Weight.mrow b xs ys i).map (Value.int .i64) ++ [.int .i64 (xs.getD i 0 + z)])) => own_mrow HZ.out h)
                generalize xs.getD i 0 = x at HS b1 hop HOWN
                generalize ys.getD i 0 = y at HS b2 hop
                clear HZ
                obtain ⟨x1, x2⟩ := b1
                obtain ⟨y1, y2⟩ := b2
                have v1 : IntKind.i64.wrap (y - x) = y - x := IntWalk.i64_in _ (by omega)
                have v2 : IntKind.i64.wrap (x + z) = x + z := IntWalk.i64_in _ (by omega)
                obtain ⟨_, k1, k2⟩ := HS.out _ HB.out
                have HR := HB.out
                go_wp2_with fail
                go_region_held3 (fun w' => Below w.heap.size w w' ∧ w'.cell? (ad.add i) = some (.int .i64 x) ∧ w'.cell? (ad2.add i) = some (.int .i64 y))
                  (exact HS.out _ (by first | assumption | exact bl_drew (by assumption) | exact bl_alloc (by assumption) _ | exact bl_drew (bl_alloc (by assumption) _) | exact bl_alloc (bl_drew (by assumption)) _))
                  ((refine step_append_lies _ (by rfl) _ _ _ (by rfl) w.heap.size 3 i0 _ 1 8 Try.underlying22 hi0 hz0 hz1 hz2 rfl (by omega) _ _ _ (by rfl) ((hown.alloc _).drew)
                      ⟨wr.heap.size, 0, none⟩ 1 1 [.int .i64 (x + z)] (by rfl) (by rfl) (World.news_of_block (cs := #[.int .i64 (x + z)]) (t := 3) (fr := (0, 0)) (heap_alloc_new wr _)) (by simp [Value.oneCell'])
                      (by omega) (by have := HN.out; unfold maxLen; omega) (by have := HN.out; omega) (by have := HB.out.size; simp; omega) (wr.heap.size + 1) (by simp) ?_; intro gg cg w1 hown1 hgrow hat hlt1; have HB1 := below_grown (bl_drew (bl_alloc HB.out _)) ((hown.alloc _).drew) hgrow))
                go_wp2_with fail
                exact ⟨⟨i + 1, by omega, by go_num, HOWN.out _ _ hown1, ⟨HB1⟩⟩, by simp [intOf]; omega⟩
              · obtain rfl : i = xs.length := by omega
                go_wp2_with fail
                go_ret2
                exact ⟨_, rfl, intsAt_own hown, HB.out⟩
    · rw [if_pos (by simpa using hl3)]
      have d1 : ((xs.length : Int) != ys.length) = true := by simp; omega
      clear hl3 hn hn'
      go_enter Try.func19, Try.ntmps19
      go_wp2_with fail
      go_ret2
      exact ⟨_, rfl, .inl ⟨rfl, rfl⟩, Below.refl _ _⟩
end Go.Proofs.Ytjmenlffhoodeac
