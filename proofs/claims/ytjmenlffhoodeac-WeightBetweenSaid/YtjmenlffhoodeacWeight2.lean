/- Two lists mixed by a weight: the program's Mix, walked. -/
import Derived.Test.YtjmenlffhoodeacWeight1
import Derived.Test.YtjmenlffhoodeacWeightR
namespace Go.Proofs.Ytjmenlffhoodeac
open Go.RowKit

namespace Weight
/-- The first n numbers of what is mixed. -/
def mrow (c : Nat) (xs ys : List Int) (n : Nat) : List Int := (List.range n).map fun i => xs.getD i 0 + part c (ys.getD i 0 - xs.getD i 0)
theorem mrow_len (c : Nat) (xs ys : List Int) (n : Nat) : (mrow c xs ys n).length = n := by simp [mrow]
theorem mrow_succ (c : Nat) (xs ys : List Int) (n : Nat) : mrow c xs ys (n + 1) = mrow c xs ys n ++ [xs.getD n 0 + part c (ys.getD n 0 - xs.getD n 0)] := by simp [mrow, List.range_succ]
/-- What is mixed, and the error. -/
def mixed (xs ys : List Int) (b : Nat) : List Int × Int :=
  if nanB b = true then ([], 8) else if xs.length ≠ ys.length then ([], 1) else if (fair xs && fair ys) = false then ([], 2) else (mrow (wt b) xs ys xs.length, 0)
theorem nan_eq {b : Nat} (h : nanB b = false) : Ieee.double.order b b = some .eq := by
  have : (Ieee.double.order b b != some Ordering.eq) = false := h
  simpa using this
theorem fair_bd {xs : List Int} (h : fair xs = true) (i : Nat) (hi : i < xs.length) : 0 ≤ xs.getD i 0 ∧ xs.getD i 0 ≤ 1048576 := (fair_iff xs).1 h _ (getD_mem xs i hi)
end Weight
/-- The step of a row, behind an append. -/
theorem own_mrow {w : World} {base : Nat} {v : Value} {c : Nat} {xs ys : List Int} {n : Nat} {z : Int} (hz : xs.getD n 0 + Weight.part c (ys.getD n 0 - xs.getD n 0) = z)
    (h : w.ownsRow base 3 1 v ((Weight.mrow c xs ys n).length + 1) ((Weight.mrow c xs ys n).map (Value.int .i64) ++ [.int .i64 z])) :
    w.ownsRow base 3 1 v (Weight.mrow c xs ys (n + 1)).length ((Weight.mrow c xs ys (n + 1)).map (Value.int .i64)) := by
  rw [Weight.mrow_succ, hz, List.length_append, List.map_append]
  exact h
/-- The clamp as the program does it. -/
theorem clamp_runs (b : Nat) (h : nanB b = false) : ∃ c1 c : Nat, (∀ (ts : Array TypeId) (t : TypeId) (w : World), (Builtin.max_ ts t #[.float .f64 b, .float .f64 0]).run Try.prog w = .ok (.float .f64 c1) w) ∧
    (∀ (ts : Array TypeId) (t : TypeId) (w : World), (Builtin.min_ ts t #[.float .f64 c1, .float .f64 4607182418800017408]).run Try.prog w = .ok (.float .f64 c) w) ∧ Weight.IsW c ∧
    ∀ d : Int, -1048576 ≤ d ∧ d ≤ 1048576 → Weight.part c d = Weight.part (Weight.wt b) d := by
  have zero_one : Ieee.double.order 0 4607182418800017408 = some .lt := by decide
  have hb := Weight.nan_eq h
  have kf : FloatKind.f64.format = Ieee.double := rfl
  unfold Weight.wt
  rcases Weight.clamps b hb with h | ⟨h0, h1, hw⟩ | ⟨h0, h1, hw⟩ | ⟨h0, h1, hw, hs⟩ | ⟨h0, h1⟩
  · refine ⟨0, 0, fun ts t w => ?_, fun ts t w => ?_, Weight.isZ_zero.w, fun d hd => ?_⟩
    · simp [Builtin.max_, Builtin.max2, kf, h]
    · simp [Builtin.min_, Builtin.min2, kf, zero_one]
    · rw [if_pos h]
  · have hn : Ieee.double.order b 0 ≠ some .lt := by rw [h0]; simp
    have hg : Ieee.double.order b Weight.one ≠ some .gt := by rw [h1]; simp
    have h1' : Ieee.double.order b 4607182418800017408 = some .lt := h1
    by_cases hs : (FloatKind.f64.decode b).neg = true
    · refine ⟨0, 0, fun ts t w => ?_, fun ts t w => ?_, Weight.isZ_zero.w, fun d hd => ?_⟩
      · simp [Builtin.max_, Builtin.max2, kf, h0, hs]
      · simp [Builtin.min_, Builtin.min2, kf, zero_one]
      · rw [if_neg hn, if_neg hg, Weight.part_z hw d hd, Weight.part_z Weight.isZ_zero d hd]
    · refine ⟨b, b, fun ts t w => ?_, fun ts t w => ?_, hw.w, fun d hd => ?_⟩
      · simp [Builtin.max_, Builtin.max2, kf, h0, hs]
      · simp [Builtin.min_, Builtin.min2, kf, h1']
      · rw [if_neg hn, if_neg hg]
  · have hn : Ieee.double.order b 0 ≠ some .lt := by rw [h0]; simp
    have hg : Ieee.double.order b Weight.one ≠ some .gt := by rw [h1]; simp
    have h1' : Ieee.double.order b 4607182418800017408 = some .lt := h1
    refine ⟨b, b, fun ts t w => ?_, fun ts t w => ?_, hw, fun d hd => ?_⟩
    · simp [Builtin.max_, Builtin.max2, kf, h0]
    · simp [Builtin.min_, Builtin.min2, kf, h1']
    · rw [if_neg hn, if_neg hg]
  · have hn : Ieee.double.order b 0 ≠ some .lt := by rw [h0]; simp
    have hg : Ieee.double.order b Weight.one ≠ some .gt := by rw [h1]; simp
    have h1' : Ieee.double.order b 4607182418800017408 = some .eq := h1
    have hs' : (FloatKind.f64.decode b).neg = false := hs
    refine ⟨b, Weight.one, fun ts t w => ?_, fun ts t w => ?_, Weight.isOne_one.w, fun d hd => ?_⟩
    · simp [Builtin.max_, Builtin.max2, kf, h0]
    · simp [Builtin.min_, Builtin.min2, kf, h1', hs', Weight.one]
    · rw [if_neg hn, if_neg hg, Weight.part_one hw d hd, Weight.part_one Weight.isOne_one d hd]
  · have hn : Ieee.double.order b 0 ≠ some .lt := by rw [h0]; simp
    have h1' : Ieee.double.order b 4607182418800017408 = some .gt := h1
    refine ⟨b, Weight.one, fun ts t w => ?_, fun ts t w => ?_, Weight.isOne_one.w, fun d hd => ?_⟩
    · simp [Builtin.max_, Builtin.max2, kf, h0]
    · simp [Builtin.min_, Builtin.min2, kf, h1', Weight.one]
    · rw [if_neg hn, if_pos h1]

/-- What one round does to a difference. -/
theorem part_runs (c : Nat) (hc : Weight.IsW c) (d : Int) (hd : -1048576 ≤ d ∧ d ≤ 1048576) : ∃ (r : Nat) (z : Int),
    (∀ (t : TypeId) (w : World), (binOp .mul t (.float .f64 (floatOfInt .f64 d)) (.float .f64 c)).run Try.prog w = .ok (.float .f64 r) w) ∧
    (∀ w : World, (convert 37 3 (.float .f64 r)).run Try.prog w = .ok (.int .i64 z) w) ∧ Weight.part c d = z ∧ -1048576 ≤ z ∧ z ≤ 1048576 ∧ (0 ≤ d → 0 ≤ z ∧ z ≤ d) ∧ (d ≤ 0 → d ≤ z ∧ z ≤ 0) := by
  obtain ⟨r, h1, h2, h3, h4⟩ := Weight.part_w hc d hd
  generalize Weight.part c d = z at h2 h3 h4
  have hz : -1048576 ≤ z ∧ z ≤ 1048576 := by
    rcases Int.le_total 0 d with h | h
    · have := h3 h; omega
    · have := h4 h; omega
  refine ⟨r, z, fun t w => run_float_arith w .mul t .f64 _ _ _ h1, fun w => run_convert_float_int w 37 3 .f64 .i64 r z (by rw [Try.underlying37]; rfl) Try.underlying3 ?_, rfl, hz.1, hz.2, h3, h4⟩
  unfold floatToIntVal
  have e : (FloatKind.f64.decode r).toInt .zero = some z := h2
  rw [e]
  have : IntKind.i64.min = -9223372036854775808 := by decide
  have : IntKind.i64.max = 9223372036854775807 := by decide
  simp only
  rw [if_pos (by omega)]
set_option maxRecDepth 100000 in
set_option maxHeartbeats 4000000 in
theorem mix_any (xs ys : List Int) (A A2 : Option Addr) (cap cap2 : Nat) (b : Nat) (B : Nat) (w : World) (h : IntsG w B A xs) (h2 : IntsG w B A2 ys) (hB : B ≤ w.heap.size) (hl : xs.length ≤ cap) (hl2 : ys.length ≤ cap2) (hc : cap ≤ maxLen) (hc2 : cap2 ≤ maxLen) (hx : xs.length ≤ 5000) :
    Calls Try.prog 18 #[.slice A xs.length cap, .slice A2 ys.length cap2, .float .f64 b] w fun e w' => ∃ r, e = .returned (.tuple #[r, .int .i64 (Weight.mixed xs ys b).2]) ∧ IntsAt w' w'.heap.size r (Weight.mixed xs ys b).1 ∧ Below w.heap.size w w' := by
  obtain ⟨i0, hi0, hz0, hz1, hz2⟩ := info_parts int_info
  have c33 := fun w => isNaN_any b w
  have c34 := fun w (h : IntsG w B A xs) => prices_any xs A cap B w h hl hc
  have c34b := fun w (h : IntsG w B A2 ys) => prices_any ys A2 cap2 B w h hl2 hc2
  have HX := Aside.mk h
  have HY := Aside.mk h2
  have HC := Aside.mk (And.intro hc hc2)
  clear hc hc2 h h2
  unfold Weight.mixed
  by_cases hn : nanB b = true
  · rw [if_pos hn]
    rw [hn] at c33
    go_enter Try.func18, Try.ntmps18
    go_wp2_with (first | (go_at_call 33; refine (c33 _).mono ?_; rintro e w ⟨rfl, rfl⟩))
    go_ret2
    exact ⟨_, rfl, .inl ⟨rfl, rfl⟩, Below.refl _ _⟩
  · have hn' : nanB b = false := by simpa using hn
    rw [if_neg hn]
    rw [hn'] at c33
    by_cases hl3 : xs.length = ys.length
    · rw [if_neg (by simpa using hl3)]
      have HL := Aside.mk hl3
      have d1 : ((xs.length : Int) != ys.length) = false := by simp [hl3]
      clear hl3
      by_cases hf : (Weight.fair xs && Weight.fair ys) = false
      · rw [if_pos hf]
        by_cases hfx : Weight.fair xs = true
        · rw [hfx] at c34 hf
          have hfy : Weight.fair ys = false := by simpa using hf
          rw [hfy] at c34b
          clear hf hfx hfy hn hn'
          go_enter Try.func18, Try.ntmps18
          go_wp2_with (first | (go_at_call 33; refine (c33 _).mono ?_; rintro e w ⟨rfl, rfl⟩) | (go_at_call 34; with_reducible refine (c34 _ HX.out).mono ?_; rintro e w ⟨rfl, rfl⟩) | (go_at_call 34; with_reducible refine (c34b _ HY.out).mono ?_; rintro e w ⟨rfl, rfl⟩))
          go_ret2
          exact ⟨_, rfl, .inl ⟨rfl, rfl⟩, Below.refl _ _⟩
        · have hfx' : Weight.fair xs = false := by simpa using hfx
          rw [hfx'] at c34
          clear hf hfx hfx' hn hn'
          go_enter Try.func18, Try.ntmps18
          go_wp2_with (first | (go_at_call 33; refine (c33 _).mono ?_; rintro e w ⟨rfl, rfl⟩) | (go_at_call 34; with_reducible refine (c34 _ HX.out).mono ?_; rintro e w ⟨rfl, rfl⟩) | (go_at_call 34; with_reducible refine (c34b _ HY.out).mono ?_; rintro e w ⟨rfl, rfl⟩))
          go_ret2
          exact ⟨_, rfl, .inl ⟨rfl, rfl⟩, Below.refl _ _⟩
      · rw [if_neg hf]
        have hfx : Weight.fair xs = true := by revert hf; cases Weight.fair xs <;> simp
        have hfy : Weight.fair ys = true := by revert hf; cases Weight.fair ys <;> simp
        rw [hfx] at c34
        rw [hfy] at c34b
        have HFX := Aside.mk (Weight.fair_bd hfx)
        have HFY := Aside.mk (Weight.fair_bd hfy)
        obtain ⟨c1, c, r1, r2, hw, hp⟩ := clamp_runs b hn'
        have HW := Aside.mk hw
        have HP := Aside.mk hp
        generalize Weight.wt b = wb at HP ⊢
        clear hf hfx hfy hn hn' hw hp
        go_enter Try.func18, Try.ntmps18
        go_wp2_with (first | (go_at_call 33; refine (c33 _).mono ?_; rintro e w ⟨rfl, rfl⟩) | (go_at_call 34; with_reducible refine (c34 _ HX.out).mono ?_; rintro e w ⟨rfl, rfl⟩) | (go_at_call 34; with_reducible refine (c34b _ HY.out).mono ?_; rintro e w ⟨rfl, rfl⟩))
        clear c33 c34 c34b r1 r2
        go_loopw [8, 9, 10, 11, 35] (fun ov _ _ _ iv wr => ∃ i : Nat, i ≤ xs.length ∧ iv = .int .i64 i ∧ wr.ownsRow w.heap.size 3 1 ov (Weight.mrow wb xs ys i).length ((Weight.mrow wb xs ys i).map (Value.int .i64)) ∧ Aside (Below w.heap.size w wr)) (fun _ _ _ _ iv _ => xs.length - (intOf iv).toNat)
        case atStart => exact ⟨0, by omega, rfl, World.ownsRow_nil _ _ _ _, ⟨Below.refl _ _⟩⟩
        case round =>
          obtain ⟨i, hi, rfl, hown, HB⟩ := hrel
          have HN := Aside.mk (Weight.mrow_len wb xs ys i)
          by_cases hlt : i < xs.length
          · obtain ⟨ad, rfl, hb, e1⟩ := HX.out i hlt
            obtain ⟨ad2, rfl, hb2, e2⟩ := HY.out i (by have := HL.out; omega)
            have k1 : wr.cell? (ad.add i) = _ := (HB.out.cell (by rw [block_of_add]; omega)).trans e1
            have k2 : wr.cell? (ad2.add i) = _ := (HB.out.cell (by rw [block_of_add]; omega)).trans e2
            have b1 := HFX.out i hlt
            have b2 := HFY.out i (by have := HL.out; omega)
            obtain ⟨r, z, hop, hcv, hz, z1, z2, _, _⟩ := part_runs c HW.out (ys.getD i 0 - xs.getD i 0) (by omega)
            have HZ : Aside (xs.getD i 0 + Weight.part wb (ys.getD i 0 - xs.getD i 0) = xs.getD i 0 + z) := ⟨by rw [← HP.out _ (by omega), hz]⟩
            have i1 : (0 : Int) ≤ i := by omega
            have i2 : (i : Int) < xs.length := by omega
            have i3 : (i : Int) < ys.length := by have := HL.out; omega
            obtain ⟨Ao, co, rfl⟩ := own_form hown
            clear e1 e2 hz
            have HOWN := Aside.mk (fun v w' (h : World.ownsRow w' w.heap.size 3 1 v ((Weight.mrow wb xs ys i).length + 1) ((Weight.mrow wb xs ys i).map (Value.int .i64) ++ [.int .i64 (xs.getD i 0 + z)])) => own_mrow HZ.out h)
            generalize xs.getD i 0 = x at k1 b1 hop HOWN
            generalize ys.getD i 0 = y at k2 b2 hop
            clear HZ
            obtain ⟨x1, x2⟩ := b1
            obtain ⟨y1, y2⟩ := b2
            go_wp2_with (at_builtin; refine wpList_append_own _ rfl _ _ 22 rfl w.heap.size 3 i0 (.int .i64 0) 1 8 Try.underlying22 hi0 hz0 hz1 hz2 rfl (by decide) _ _ _ rfl (hown.alloc _) ⟨_, 0, none⟩ 1 1 [.int .i64 (x + z)] rfl rfl ?c1 ?c2 ?c3 ?c4 ?c5 ?_)
            case c1 => exact cell_one_new _ _ _
            case c2 => simp [Value.oneCell']
            case c3 => have := HN.out; unfold maxLen; omega
            case c4 => have := HN.out; omega
            case c5 => have := HB.out.size; simp; omega
            intro v' w1 hown' hgrow _
            have HB1 := Aside.mk (below_grown (bl_alloc HB.out _) (hown.alloc _) hgrow)
            clear hgrow hown
            go_wp2_with fail
            exact ⟨⟨i + 1, by omega, by go_num, HOWN.out _ _ hown', HB1⟩, by simp [intOf]; omega⟩
          · obtain rfl : i = xs.length := by omega
            go_wp2_with fail
            go_ret2
            exact ⟨_, rfl, intsAt_own hown, HB.out⟩
    · rw [if_pos (by simpa using hl3)]
      have d1 : ((xs.length : Int) != ys.length) = true := by simp; omega
      clear hl3 hn hn'
      go_enter Try.func18, Try.ntmps18
      go_wp2_with (first | (go_at_call 33; refine (c33 _).mono ?_; rintro e w ⟨rfl, rfl⟩))
      go_ret2
      exact ⟨_, rfl, .inl ⟨rfl, rfl⟩, Below.refl _ _⟩
end Go.Proofs.Ytjmenlffhoodeac
