/- Ratios, their comparison, the nought, and the known answers of weights, walked. -/
import Derived.Test.YtjmenlffhoodeacWeight6
import Derived.Test.YtjmenlffhoodeacWeight3
import Derived.Test.YtjmenlffhoodeacRuns7
namespace Go.Proofs.Ytjmenlffhoodeac
open Go.RowKit

/-- r is x by y, or none, if that has no answer. -/
def Quo (x y r : Nat) : Prop := floatBits .quo .f64 x y = some r ∨ (floatBits .quo .f64 x y = none ∧ ∀ z, FloatKind.f64.format.order r z = none)
theorem run_quo {P : Program} (w : World) (t : TypeId) (x y : Nat) : ∃ r n, (binOp .quo t (.float .f64 x) (.float .f64 y)).run P w = .ok (.float .f64 r) (w.drewN n) ∧ Quo x y r := by
  cases h : floatBits .quo .f64 x y with
  | some r => exact ⟨r, 0, run_float_arith w .quo t .f64 x y r h, .inl h⟩
  | none =>
    obtain ⟨r, h1, _, h2⟩ := run_invalid (P := P) w .quo (.inr rfl) t x y h
    exact ⟨r, 1, h1, .inr ⟨h, h2⟩⟩
set_option maxRecDepth 100000 in
set_option maxHeartbeats 4000000 in
theorem ratio_any (a b : Int) (w : World) : Calls Try.prog 25 #[.int .i64 a, .int .i64 b] w fun e w' => ∃ r, e = .returned (.float .f64 r) ∧ Quo (floatOfInt .f64 a) (floatOfInt .f64 b) r ∧ Drawn w w' := by
  obtain ⟨r, n, hr, hq⟩ := run_quo (P := Try.prog) w 37 (floatOfInt .f64 a) (floatOfInt .f64 b)
  have HQ := Aside.mk hq
  clear hq
  go_enter Try.func25, Try.ntmps25
  go_wp2_with fail
  go_ret
  exact ⟨r, rfl, HQ.out, n, rfl⟩
set_option maxRecDepth 100000 in
set_option maxHeartbeats 4000000 in
theorem refRatio_any (a b : Int) (w : World) : Calls Try.prog 26 #[.int .i64 a, .int .i64 b] w fun e w' => ∃ r, e = .returned (.float .f64 r) ∧ Quo (floatOfInt .f64 a) (floatOfInt .f64 b) r ∧ Drawn w w' := by
  obtain ⟨r, n, hr, hq⟩ := run_quo (P := Try.prog) w 37 (floatOfInt .f64 a) (floatOfInt .f64 b)
  have HQ := Aside.mk hq
  clear hq
  go_enter Try.func26, Try.ntmps26
  go_wp2_with fail
  go_ret
  exact ⟨r, rfl, HQ.out, n, rfl⟩
/-- 1 by a nought is endless. -/
theorem one_by (r : Nat) (h0 : FloatKind.f64.format.order r r = some .eq) (hz : FloatKind.f64.format.order r 0 = some .eq) : ∃ v, floatBits .quo .f64 4607182418800017408 r = some v := by
  have h0' : Ieee.double.order r r = some .eq := h0
  have hz' : Ieee.double.order r 0 = some .eq := hz
  rcases Weight.clamps r h0' with h | ⟨_, _, s, q, e⟩ | ⟨h, _⟩ | ⟨h, _⟩ | ⟨h, _⟩
  · rw [hz'] at h; cases h
  · show ∃ v, ((Ieee.double.read Weight.one).quotient (Ieee.double.fractionBits + 2) (Ieee.double.read r)).map Ieee.double.write = some v
    rw [e, Weight.read_one]
    exact ⟨_, rfl⟩
  · rw [hz'] at h; cases h
  · rw [hz'] at h; cases h
  · rw [hz'] at h; cases h
set_option maxRecDepth 100000 in
set_option maxHeartbeats 4000000 in
theorem alike_any (x y r1 r2 : Nat) (h1 : Quo x y r1) (h2 : Quo x y r2) (w : World) : Calls Try.prog 24 #[.float .f64 r1, .float .f64 r2] w fun e w' => e = .returned (.bool true) ∧ w' = w := by
  have both : (∀ z, FloatKind.f64.format.order r1 z = none) ∧ (∀ z, FloatKind.f64.format.order r2 z = none) ∨ r1 = r2 := by
    rcases h1 with h1 | ⟨h1, n1⟩
    · rcases h2 with h2 | ⟨h2, n2⟩
      · rw [h1] at h2; exact .inr (Option.some.inj h2)
      · rw [h1] at h2; cases h2
    · rcases h2 with h2 | ⟨h2, n2⟩
      · rw [h1] at h2; cases h2
      · exact .inl ⟨n1, n2⟩
  clear h1 h2
  by_cases hn : (FloatKind.f64.format.order r1 r1 != some Ordering.eq) = true
  · have hn2 : (FloatKind.f64.format.order r2 r2 != some Ordering.eq) = true := by
      rcases both with ⟨_, n2⟩ | rfl
      · rw [n2]; rfl
      · exact hn
    clear both
    go_enter Try.func24, Try.ntmps24
    go_wp2_with fail
    go_ret
    exact ⟨rfl, rfl⟩
  · rcases both with ⟨n1, _⟩ | rfl
    · exact absurd (by rw [n1]; rfl) hn
    · have hn1 := eq_false_of_ne_true hn
      have he : FloatKind.f64.format.order r1 r1 = some .eq := by simpa using hn1
      have hn3 : (FloatKind.f64.format.order r1 r1 == some Ordering.eq) = true := by rw [he]; rfl
      by_cases hz : (FloatKind.f64.format.order r1 0 != some Ordering.eq) = true
      · clear hn he
        go_enter Try.func24, Try.ntmps24
        go_wp2_with fail
        go_ret
        exact ⟨rfl, rfl⟩
      · have hz1 := eq_false_of_ne_true hz
        obtain ⟨v, hv⟩ := one_by r1 he (by simpa using hz1)
        have rq := fun w => run_float_arith (P := Try.prog) w .quo 37 .f64 _ _ _ hv
        clear hn he hz hv
        generalize hD : (FloatKind.f64.format.order v 0 == some Ordering.gt) = D
        have hDD : (D == D) = true := by simp
        go_enter Try.func24, Try.ntmps24
        go_wp2_with fail
        go_ret
        exact ⟨rfl, rfl⟩
set_option maxRecDepth 100000 in
set_option maxHeartbeats 4000000 in
theorem zero_nil (w : World) : Calls Try.prog 32 #[.slice none 0 0] w fun e w' => e = .returned (.float .f64 0) ∧ Drawn w w' := by
  go_enter Try.func32, Try.ntmps32
  go_wp2_with fail
  go_quiet (fail)
  go_wp2_with fail
  go_ret
  exact ⟨rfl, _, rfl⟩
end Go.Proofs.Ytjmenlffhoodeac
