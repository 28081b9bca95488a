/- Weights: a float that is none, and the rows of prices, walked. -/
import Derived.Test.YtjmenlffhoodeacRuns8
namespace Go.Proofs.Ytjmenlffhoodeac
open Go.RowKit

/-- The bits are those of no number (as the program asks: it is not like itself). -/
def nanB (b : Nat) : Bool := FloatKind.f64.format.order b b != some Ordering.eq
set_option maxRecDepth 100000 in
set_option maxHeartbeats 4000000 in
theorem isNaN_any (b : Nat) (w : World) : Calls Try.prog 33 #[.float .f64 b] w fun e w' => e = .returned (.bool (nanB b)) ∧ w' = w := by
  unfold nanB
  go_enter Try.func33, Try.ntmps33
  go_wp2_with fail
  go_ret
  exact ⟨rfl, rfl⟩
namespace Weight
def fair (xs : List Int) : Bool := xs.all fun x => decide (0 ≤ x ∧ x ≤ 1048576)
end Weight
theorem fair_iff (xs : List Int) : Weight.fair xs = true ↔ ∀ x ∈ xs, 0 ≤ x ∧ x ≤ 1048576 := by unfold Weight.fair; simp
set_option maxRecDepth 100000 in
set_option maxHeartbeats 4000000 in
theorem prices_any (xs : List Int) (A : Option Addr) (cap : Nat) (B : Nat) (w : World) (h : IntsG w B A xs) (hl : xs.length ≤ cap) (hc : cap ≤ maxLen) :
    Calls Try.prog 34 #[.slice A xs.length cap] w fun e w' => e = .returned (.bool (Weight.fair xs)) ∧ w' = w := by
  have H := Aside.mk h
  have HG : Aside (Weight.fair xs = true ↔ ∀ x ∈ xs, 0 ≤ x ∧ x ≤ 1048576) := ⟨fair_iff xs⟩
  generalize Weight.fair xs = D at HG ⊢
  unfold maxLen at hc
  clear h
  go_enter Try.func34, Try.ntmps34
  go_wp2_with fail
  go_loop [4, 7] (fun _ q => ∃ i : Nat, i ≤ xs.length ∧ q = .int .i64 i ∧ Aside (∀ j, j < i → 0 ≤ xs.getD j 0 ∧ xs.getD j 0 ≤ 1048576)) (fun _ q => xs.length - (intOf q).toNat)
  case atStart => exact ⟨0, by omega, rfl, ⟨fun j hj => by omega⟩⟩
  case round =>
    obtain ⟨i, hi, rfl, HJ⟩ := hrel
    by_cases hlt : i < xs.length
    · obtain ⟨ad, rfl, hb, c⟩ := H.out i hlt
      have i1 : (0 : Int) ≤ i := by omega
      have i2 : (i : Int) < xs.length := by omega
      have hm := getD_mem xs i hlt
      by_cases hg : 0 ≤ xs.getD i 0 ∧ xs.getD i 0 ≤ 1048576
      · have HJ2 : Aside (∀ j, j < i + 1 → 0 ≤ xs.getD j 0 ∧ xs.getD j 0 ≤ 1048576) := ⟨fun j hj => by
          rcases Nat.lt_or_ge j i with h1 | h1
          · exact HJ.out j h1
          · rw [show j = i from by omega]; exact hg⟩
        clear hm
        generalize xs.getD i 0 = x at c hg
        obtain ⟨g1, g2⟩ := hg
        go_wp2_with fail
        exact ⟨⟨i + 1, by omega, by go_num, HJ2⟩, by simp [intOf]; omega⟩
      · have HE : Aside (D = false) := ⟨by
          cases hD : D
          · rfl
          · exact absurd (HG.out.1 hD _ hm) hg⟩
        clear hm
        generalize xs.getD i 0 = x at c hg
        by_cases g1 : x < 0
        · clear hg
          go_wp2_with fail
          go_ret
          exact ⟨by rw [HE.out]; rfl, rfl⟩
        · have g2 : (1048576 : Int) < x := by omega
          clear hg
          go_wp2_with fail
          go_ret
          exact ⟨by rw [HE.out]; rfl, rfl⟩
    · obtain rfl : i = xs.length := by omega
      have HE : Aside (D = true) := ⟨HG.out.2 fun x hx => by
        obtain ⟨j, hj, e⟩ := mem_getD xs x hx
        rw [← e]; exact HJ.out j hj⟩
      clear HG HJ hlt
      go_wp2_with fail
      go_ret
      exact ⟨by rw [HE.out]; rfl, rfl⟩
set_option maxRecDepth 100000 in
set_option maxHeartbeats 4000000 in
theorem refFair_any (xs : List Int) (A : Option Addr) (cap : Nat) (B : Nat) (w : World) (h : IntsG w B A xs) (hl : xs.length ≤ cap) (hc : cap ≤ maxLen) :
    Calls Try.prog 35 #[.slice A xs.length cap] w fun e w' => e = .returned (.bool (Weight.fair xs)) ∧ w' = w := by
  have H := Aside.mk h
  have HG : Aside (Weight.fair xs = true ↔ ∀ x ∈ xs, 0 ≤ x ∧ x ≤ 1048576) := ⟨fair_iff xs⟩
  generalize Weight.fair xs = D at HG ⊢
  unfold maxLen at hc
  clear h
  go_enter Try.func35, Try.ntmps35
  go_wp2_with fail
  go_loop [3] (fun q => ∃ i : Nat, i ≤ xs.length ∧ q = .int .i64 i ∧ Aside (∀ j, j < i → 0 ≤ xs.getD j 0 ∧ xs.getD j 0 ≤ 1048576)) (fun q => xs.length - (intOf q).toNat)
  case atStart => exact ⟨0, by omega, rfl, ⟨fun j hj => by omega⟩⟩
  case round =>
    obtain ⟨i, hi, rfl, HJ⟩ := hrel
    by_cases hlt : i < xs.length
    · obtain ⟨ad, rfl, hb, c⟩ := H.out i hlt
      have i1 : (0 : Int) ≤ i := by omega
      have i2 : (i : Int) < xs.length := by omega
      have hm := getD_mem xs i hlt
      by_cases hg : 0 ≤ xs.getD i 0 ∧ xs.getD i 0 ≤ 1048576
      · have HJ2 : Aside (∀ j, j < i + 1 → 0 ≤ xs.getD j 0 ∧ xs.getD j 0 ≤ 1048576) := ⟨fun j hj => by
          rcases Nat.lt_or_ge j i with h1 | h1
          · exact HJ.out j h1
          · rw [show j = i from by omega]; exact hg⟩
        clear hm
        generalize xs.getD i 0 = x at c hg
        obtain ⟨g1, g2⟩ := hg
        go_wp2_with fail
        exact ⟨⟨i + 1, by omega, by go_num, HJ2⟩, by simp [intOf]; omega⟩
      · have HE : Aside (D = false) := ⟨by
          cases hD : D
          · rfl
          · exact absurd (HG.out.1 hD _ hm) hg⟩
        clear hm
        generalize xs.getD i 0 = x at c hg
        by_cases g1 : x < 0
        · clear hg
          go_wp2_with fail
          go_ret
          exact ⟨by rw [HE.out]; rfl, rfl⟩
        · have g2 : (1048576 : Int) < x := by omega
          clear hg
          go_wp2_with fail
          go_ret
          exact ⟨by rw [HE.out]; rfl, rfl⟩
    · obtain rfl : i = xs.length := by omega
      have HE : Aside (D = true) := ⟨HG.out.2 fun x hx => by
        obtain ⟨j, hj, e⟩ := mem_getD xs x hx
        rw [← e]; exact HJ.out j hj⟩
      clear HG HJ hlt
      go_wp2_with fail
      go_ret
      exact ⟨by rw [HE.out]; rfl, rfl⟩
end Go.Proofs.Ytjmenlffhoodeac
