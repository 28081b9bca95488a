/- Sources by chains: plain laws (no program in sight). -/
import Derived.Test.YtjmenlffhoodeaaFindP
namespace Go.Proofs.Ytjmenlffhoodeaa.Find

/-- The last place below i with bytes x and y. -/
def last (f : Nat → Nat) (x y : Nat) : Nat → Option Nat
  | 0 => none
  | i + 1 => if f i = x ∧ f (i + 1) = y then some i else last f x y i
def optI : Option Nat → Int
  | none => -1
  | some k => k
/-- The place ahead with the same two bytes. -/
def prev (f : Nat → Nat) (p : Nat) : Int := optI (last f (f p) (f (p + 1)) p)
theorem last_lt (f : Nat → Nat) (x y : Nat) : ∀ i k, last f x y i = some k → k < i := by
  intro i
  induction i with
  | zero => intro k h; cases h
  | succ i ih =>
    intro k h
    unfold last at h
    split at h
    · injection h with h; omega
    · have := ih k h; omega
theorem prev_bd (f : Nat → Nat) (p : Nat) : -1 ≤ prev f p ∧ prev f p < p := by
  unfold prev
  cases h : last f (f p) (f (p + 1)) p with
  | none => exact ⟨by simp [optI], by simp only [optI]; omega⟩
  | some k => have := last_lt f _ _ p k h; exact ⟨by simp only [optI]; omega, by simp only [optI]; omega⟩
/-- The chain from k on, so deep at most. -/
def chainW (f : Nat → Nat) (N m win i : Nat) : Nat → Int → Nat → List (Int × Int)
  | 0, _, _ => []
  | t + 1, k, best => if k = -1 ∨ (win : Int) < i - k then [] else
      if best < min (lcp f N i k.toNat) m then (((min (lcp f N i k.toNat) m : Nat) : Int), (i : Int) - k) :: chainW f N m win i t (prev f k.toNat) (min (lcp f N i k.toNat) m)
      else chainW f N m win i t (prev f k.toNat) best
theorem chainW_succ (f : Nat → Nat) (N m win i t : Nat) (k : Int) (best : Nat) : chainW f N m win i (t + 1) k best = if k = -1 ∨ (win : Int) < i - k then [] else
      if best < min (lcp f N i k.toNat) m then (((min (lcp f N i k.toNat) m : Nat) : Int), (i : Int) - k) :: chainW f N m win i t (prev f k.toNat) (min (lcp f N i k.toNat) m)
      else chainW f N m win i t (prev f k.toNat) best := rfl
theorem chainW_none (f : Nat → Nat) (N m win i t best : Nat) : chainW f N m win i t (-1) best = [] := by
  cases t with
  | zero => rfl
  | succ t => unfold chainW; rw [if_pos (.inl rfl)]
theorem back_zero (i : Nat) : back i 0 = [] := rfl
theorem back_head (j : Nat) : ∀ c, c ≤ j → back (j + 1) (c + 1) = j :: back j c := by
  intro c
  induction c with
  | zero => intro _; rw [back_succ, back_zero, back_zero]; rfl
  | succ c ih =>
    intro h
    rw [back_succ, ih (by omega), back_succ j c, List.cons_append]
    congr 3
    omega
def sameB (f : Nat → Nat) (i k : Nat) : Bool := decide (f k = f i ∧ f (k + 1) = f (i + 1))
theorem chainW_recs (f : Nat → Nat) (N m win i : Nat) : ∀ j t best, j ≤ i → j ≤ t →
    chainW f N m win i t (optI (last f (f i) (f (i + 1)) j)) best = recs (fun k => min (lcp f N i k) m) i ((back j (j - (i - win))).filter (sameB f i)) best := by
  intro j
  induction j with
  | zero => intro t best _ _; rw [show optI (last f (f i) (f (i + 1)) 0) = -1 from rfl, chainW_none, Nat.zero_sub]; rfl
  | succ j ih =>
    intro t best hj ht
    by_cases hs : f j = f i ∧ f (j + 1) = f (i + 1)
    · rw [show last f (f i) (f (i + 1)) (j + 1) = some j from by unfold last; rw [if_pos hs]]
      obtain ⟨t, rfl⟩ : ∃ q, t = q + 1 := ⟨t - 1, by omega⟩
      rw [show optI (some j) = (j : Int) from rfl]
      unfold chainW
      by_cases hw : j < i - win
      · rw [if_pos (.inr (by omega)), show j + 1 - (i - win) = 0 from by omega, back_zero]; rfl
      · rw [if_neg (by omega), show j + 1 - (i - win) = (j - (i - win)) + 1 from by omega, back_head j _ (by omega),
          List.filter_cons_of_pos (by simp [sameB, hs]), recs_cons, Int.toNat_natCast]
        have hp : prev f j = optI (last f (f i) (f (i + 1)) j) := by unfold prev; rw [hs.1, hs.2]
        rw [hp, ih t _ (by omega) (by omega), ih t _ (by omega) (by omega), show ((i - j : Nat) : Int) = (i : Int) - j from by omega]
    · rw [show last f (f i) (f (i + 1)) (j + 1) = last f (f i) (f (i + 1)) j from by rw [last, if_neg hs], ih t best (by omega) (by omega)]
      by_cases hw : j < i - win
      · rw [show j + 1 - (i - win) = 0 from by omega, show j - (i - win) = 0 from by omega, back_zero, back_zero]
      · rw [show j + 1 - (i - win) = (j - (i - win)) + 1 from by omega, back_head j _ (by omega), List.filter_cons_of_neg (by simp [sameB]; intro h; exact fun h2 => hs ⟨h, h2⟩)]
/-- Ends that differ in their first two bytes share one at most. -/
theorem lcp_two (f : Nat → Nat) (N i k : Nat) (h : ¬ (f k = f i ∧ f (k + 1) = f (i + 1))) : lcp f N i k ≤ 1 := by
  rcases Nat.lt_or_ge 1 (lcp f N i k) with h1 | h1
  · have a := lcp_all f N i k 0 (by omega)
    have b := lcp_all f N i k 1 (by omega)
    unfold goes at a b
    have a := of_decide_eq_true a
    have b := of_decide_eq_true b
    simp only [Nat.add_zero] at a
    exact absurd ⟨a.2.2.symm, b.2.2.symm⟩ h
  · exact h1
theorem recs_none (g : Nat → Nat) (i : Nat) : ∀ (l : List Nat) (best : Nat), (∀ k ∈ l, g k ≤ best) → recs g i l best = [] := by
  intro l
  induction l with
  | nil => intro best _; rfl
  | cons x r ih =>
    intro best h
    rw [recs_cons, if_neg (by have := h x (by simp); omega)]
    exact ih best fun k hk => h k (by simp [hk])
theorem chain_near (f : Nat → Nat) (N m win i t : Nat) (ht : i ≤ t) : chainW f N m win i t (prev f i) 1 = near f N i win m := by
  unfold near
  have h1 := chainW_recs f N m win i i t 1 (Nat.le_refl _) ht
  rw [show optI (last f (f i) (f (i + 1)) i) = prev f i from rfl] at h1
  rw [h1, show i - (i - win) = min i win from by omega]
  refine recs_filter _ i (sameB f i) _ 1 fun a k b _ hk => .inl ?_
  have := lcp_two f N i k (by simpa [sameB] using hk)
  show min (lcp f N i k) m ≤ 1
  omega
theorem near_end (f : Nat → Nat) (N m win i : Nat) (hi : N ≤ i + 1) : near f N i win m = [] := by
  unfold near
  refine recs_none _ i _ 1 fun k _ => ?_
  have : lcp f N i k ≤ 1 := by
    rcases Nat.lt_or_ge 1 (lcp f N i k) with h1 | h1
    · have b := lcp_all f N i k 1 (by omega)
      unfold goes at b
      have b := of_decide_eq_true b
      omega
    · exact h1
  show min (lcp f N i k) m ≤ 1
  omega
end Go.Proofs.Ytjmenlffhoodeaa.Find
