/- Sources in a text: plain laws (no program in sight). -/
namespace Go.Proofs.Ytjmenlffhoodeaa.Find

/-- Do two ends share byte n? -/
def goes (f : Nat → Nat) (N i k n : Nat) : Bool := decide (i + n < N ∧ k + n < N ∧ f (i + n) = f (k + n))
def lcpF (f : Nat → Nat) (N i k : Nat) : Nat → Nat → Nat
  | 0, n => n
  | m + 1, n => if goes f N i k n then lcpF f N i k m (n + 1) else n
/-- How many bytes two ends share. -/
def lcp (f : Nat → Nat) (N i k : Nat) : Nat := lcpF f N i k (N + 1) 0

section
variable (f : Nat → Nat) (N i k : Nat)
theorem lcpF_all : ∀ m n, (∀ j, j < n → goes f N i k j = true) → ∀ j, j < lcpF f N i k m n → goes f N i k j = true := by
  intro m
  induction m with
  | zero => exact fun n h j hj => h j hj
  | succ m ih =>
    intro n h j hj
    unfold lcpF at hj
    by_cases hg : goes f N i k n = true
    · rw [if_pos hg] at hj
      exact ih (n + 1) (fun j hj => by
        rcases Nat.lt_or_ge j n with h1 | h1
        · exact h j h1
        · rw [show j = n from by omega]; exact hg) j hj
    · rw [if_neg hg] at hj
      exact h j hj
theorem lcpF_stop : ∀ m n, N < i + n + m → goes f N i k (lcpF f N i k m n) = false := by
  intro m
  induction m with
  | zero =>
    intro n h
    unfold lcpF goes
    exact decide_eq_false (by omega)
  | succ m ih =>
    intro n h
    unfold lcpF
    by_cases hg : goes f N i k n = true
    · rw [if_pos hg]; exact ih (n + 1) (by omega)
    · rw [if_neg hg]; simpa using hg
theorem lcp_all (j : Nat) (h : j < lcp f N i k) : goes f N i k j = true := lcpF_all f N i k _ 0 (fun j hj => absurd hj (by omega)) j h
theorem lcp_stop : goes f N i k (lcp f N i k) = false := lcpF_stop f N i k _ 0 (by omega)
theorem lcp_eq (n : Nat) (h : ∀ j, j < n → goes f N i k j = true) (hs : goes f N i k n = false) : n = lcp f N i k := by
  rcases Nat.lt_trichotomy n (lcp f N i k) with h1 | h1 | h1
  · have := lcp_all f N i k n h1; rw [hs] at this; cases this
  · exact h1
  · have := h _ h1; rw [lcp_stop] at this; cases this
theorem lcp_ge (n : Nat) (h : ∀ j, j < n → goes f N i k j = true) : n ≤ lcp f N i k := by
  rcases Nat.lt_or_ge (lcp f N i k) n with h1 | h1
  · have := h _ h1; rw [lcp_stop] at this; cases this
  · exact h1
theorem lcp_bd (hi : i ≤ N) : i + lcp f N i k ≤ N := by
  rcases Nat.eq_zero_or_pos (lcp f N i k) with h | h
  · omega
  · have := lcp_all f N i k (lcp f N i k - 1) (by omega)
    unfold goes at this
    have := of_decide_eq_true this
    omega
end

/-- Of places one by one: each whose length is greater than those ahead of it, and how far back it is. -/
def recs (g : Nat → Nat) (i : Nat) : List Nat → Nat → List (Int × Int)
  | [], _ => []
  | k :: r, best => if best < g k then ((g k : Int), ((i - k : Nat) : Int)) :: recs g i r (g k) else recs g i r best
theorem recs_cons (g : Nat → Nat) (i k : Nat) (r : List Nat) (best : Nat) : recs g i (k :: r) best = if best < g k then ((g k : Int), ((i - k : Nat) : Int)) :: recs g i r (g k) else recs g i r best := rfl
/-- Places that cannot be told may be left out. -/
theorem recs_filter (g : Nat → Nat) (i : Nat) (p : Nat → Bool) : ∀ (l : List Nat) (best : Nat),
    (∀ a k b, l = a ++ k :: b → p k = false → g k ≤ best ∨ ∃ q ∈ a, p q = true ∧ g k ≤ g q) → recs g i (l.filter p) best = recs g i l best := by
  intro l
  induction l with
  | nil => intro best _; rfl
  | cons x r ih =>
    intro best h
    by_cases hp : p x = true
    · rw [List.filter_cons_of_pos hp, recs_cons, recs_cons]
      have key : ∀ best', (best ≤ best' ∧ g x ≤ best') → recs g i (r.filter p) best' = recs g i r best' := fun best' hb => ih best' fun a k b he hk => by
        rcases h (x :: a) k b (by rw [he]; rfl) hk with h1 | ⟨q, hq, hpq, hgq⟩
        · exact .inl (by omega)
        · rcases List.mem_cons.1 hq with rfl | hq
          · exact .inl (by omega)
          · exact .inr ⟨q, hq, hpq, hgq⟩
      split
      · rw [key (g x) (by omega)]
      · exact key best (by omega)
    · rw [List.filter_cons_of_neg hp]
      have h0 : ¬ best < g x := by
        rcases h [] x r rfl (by simpa using hp) with h1 | ⟨q, hq, _⟩
        · omega
        · cases hq
      rw [recs_cons, if_neg h0]
      exact ih best fun a k b he hk => by
        rcases h (x :: a) k b (by rw [he]; rfl) hk with h1 | ⟨q, hq, hpq, hgq⟩
        · exact .inl h1
        · rcases List.mem_cons.1 hq with rfl | hq
          · rw [hpq] at hp; simp at hp
          · exact .inr ⟨q, hq, hpq, hgq⟩
/-- The n places ahead of i, the nearest first. -/
def back (i : Nat) : Nat → List Nat
  | 0 => []
  | n + 1 => back i n ++ [i - (n + 1)]
theorem back_succ (i n : Nat) : back i (n + 1) = back i n ++ [i - (n + 1)] := rfl
theorem recs_append (g : Nat → Nat) (i : Nat) : ∀ (a b : List Nat) (best : Nat), recs g i (a ++ b) best = recs g i a best ++ recs g i b (a.foldl (fun m k => max m (g k)) best) := by
  intro a
  induction a with
  | nil => intro b best; rfl
  | cons x r ih =>
    intro b best
    rw [List.cons_append, List.foldl_cons, recs_cons, recs_cons]
    split
    · rw [ih, List.cons_append, show max best (g x) = g x from by omega]
    · rw [ih, show max best (g x) = best from by omega]
/-- The nearest source of each length. -/
def near (f : Nat → Nat) (N i : Nat) (w m : Nat) : List (Int × Int) := recs (fun k => min (lcp f N i k) m) i (back i (min i w)) 1
def bestOf (g : Nat → Nat) (l : List Nat) : Nat := l.foldl (fun m k => max m (g k)) 1
theorem near_step (g : Nat → Nat) (i d : Nat) : recs g i (back i (d + 1)) 1 = recs g i (back i d) 1 ++ (if bestOf g (back i d) < g (i - (d + 1)) then [((g (i - (d + 1)) : Int), ((i - (i - (d + 1)) : Nat) : Int))] else []) := by
  rw [back_succ, recs_append, recs_cons]
  rfl
theorem best_step (g : Nat → Nat) (i d : Nat) : bestOf g (back i (d + 1)) = max (bestOf g (back i d)) (g (i - (d + 1))) := by
  unfold bestOf
  rw [back_succ, List.foldl_append]
  rfl
end Go.Proofs.Ytjmenlffhoodeaa.Find
