/- Sources by a tree of ends: plain laws (no program in sight). -/
import Derived.Test.YtjmenlffhoodeaaChainP
namespace Go.Proofs.Ytjmenlffhoodeaa.Find

/-! ### The order of ends -/
/-- Byte n of an end; behind the text stands what is greater than all bytes. -/
def at_ (f : Nat → Nat) (N p n : Nat) : Nat := if p + n < N then f (p + n) else 256
def lt (f : Nat → Nat) (N p q : Nat) : Prop := ∃ n, (∀ j, j < n → at_ f N p j = at_ f N q j) ∧ at_ f N p n < at_ f N q n
section
variable {f : Nat → Nat} {N : Nat}
theorem lt_asymm {p q : Nat} (h : lt f N p q) (k : lt f N q p) : False := by
  obtain ⟨n, h1, h2⟩ := h
  obtain ⟨m, k1, k2⟩ := k
  rcases Nat.lt_trichotomy n m with c | c | c
  · have := k1 n c; omega
  · subst c; omega
  · have := h1 m c; omega
theorem lt_trans {p q r : Nat} (h : lt f N p q) (k : lt f N q r) : lt f N p r := by
  obtain ⟨n, h1, h2⟩ := h
  obtain ⟨m, k1, k2⟩ := k
  rcases Nat.lt_trichotomy n m with c | c | c
  · exact ⟨n, fun j hj => (h1 j hj).trans (k1 j (by omega)), by rw [← k1 n c]; exact h2⟩
  · subst c; exact ⟨n, fun j hj => (h1 j hj).trans (k1 j hj), by omega⟩
  · exact ⟨m, fun j hj => (h1 j (by omega)).trans (k1 j hj), by rw [h1 m c]; exact k2⟩
theorem at_goes {i k j : Nat} (h : goes f N i k j = true) : at_ f N i j = at_ f N k j := by
  unfold goes at h
  obtain ⟨a, b, c⟩ := of_decide_eq_true h
  unfold at_
  rw [if_pos a, if_pos b, c]
theorem at_stop (hf : ∀ p, f p < 256) {i k : Nat} (hi : i < N) (hk : k < i) : at_ f N i (lcp f N i k) ≠ at_ f N k (lcp f N i k) := by
  have h := lcp_stop f N i k
  have hb := lcp_bd f N i k (by omega)
  unfold goes at h
  have h := of_decide_eq_false h
  unfold at_
  by_cases c : i + lcp f N i k < N
  · rw [if_pos c, if_pos (by omega)]
    intro e
    exact h ⟨c, by omega, e⟩
  · rw [if_neg c, if_pos (by omega)]
    have := hf (k + lcp f N i k)
    omega
/-- Does one go to the lesser side? -/
def up (f : Nat → Nat) (N i k : Nat) : Bool := decide (i + lcp f N i k < N ∧ f (i + lcp f N i k) < f (k + lcp f N i k))
theorem up_lt {i k : Nat} (hk : k < i) (h : up f N i k = true) : lt f N i k := by
  unfold up at h
  obtain ⟨a, b⟩ := of_decide_eq_true h
  refine ⟨lcp f N i k, fun j hj => at_goes (lcp_all f N i k j hj), ?_⟩
  unfold at_
  rw [if_pos a, if_pos (by omega)]
  exact b
theorem not_up_lt (hf : ∀ p, f p < 256) {i k : Nat} (hi : i < N) (hk : k < i) (h : up f N i k = false) : lt f N k i := by
  unfold up at h
  have h := of_decide_eq_false h
  refine ⟨lcp f N i k, fun j hj => (at_goes (lcp_all f N i k j hj)).symm, ?_⟩
  have hs := at_stop hf hi hk
  have hb := lcp_bd f N i k (by omega)
  unfold at_ at hs ⊢
  by_cases c : i + lcp f N i k < N
  · rw [if_pos c, if_pos (by omega)] at hs ⊢
    omega
  · rw [if_neg c, if_pos (by omega)]
    have := hf (k + lcp f N i k)
    omega
theorem between (hf : ∀ p, f p < 256) {i k j : Nat} (hi : i < N) (hk : k < i) (h : (lt f N i k ∧ lt f N k j) ∨ (lt f N k i ∧ lt f N j k)) : lcp f N i j ≤ lcp f N i k := by
  rcases Nat.lt_or_ge (lcp f N i k) (lcp f N i j) with c | c
  · exfalso
    have hs := at_stop hf hi hk
    have e1 : ∀ t, t < lcp f N i k → at_ f N i t = at_ f N k t := fun t ht => at_goes (lcp_all f N i k t ht)
    have e2 : ∀ t, t < lcp f N i j → at_ f N i t = at_ f N j t := fun t ht => at_goes (lcp_all f N i j t ht)
    rcases h with ⟨⟨n, a1, a2⟩, b⟩ | ⟨⟨n, a1, a2⟩, b⟩
    · have hn : n = lcp f N i k := by
        rcases Nat.lt_trichotomy n (lcp f N i k) with d | d | d
        · have := e1 n d; omega
        · exact d
        · exact absurd (a1 _ d) hs
      subst hn
      exact lt_asymm b ⟨lcp f N i k, fun t ht => ((e2 t (by omega)).symm.trans (e1 t ht)), by rw [← e2 _ c]; exact a2⟩
    · have hn : n = lcp f N i k := by
        rcases Nat.lt_trichotomy n (lcp f N i k) with d | d | d
        · have := e1 n d; omega
        · exact d
        · exact absurd (a1 _ d).symm hs
      subst hn
      exact lt_asymm b ⟨lcp f N i k, fun t ht => ((e1 t ht).symm.trans (e2 t (by omega))), by rw [← e2 _ c]; exact a2⟩
  · exact c
end

/-! ### Trees -/
inductive Tree where
  | nil
  | node (k : Nat) (l r : Tree)
def root : Tree → Int
  | .nil => -1
  | .node k _ _ => k
def nodes : Tree → List Nat
  | .nil => []
  | .node k l r => k :: (nodes l ++ nodes r)
/-- The links (at 2k what is less, at 2k+1 what is more) are a tree's. -/
def Rep (M : Nat → Int) : Tree → Prop
  | .nil => True
  | .node k l r => M (2 * k) = root l ∧ M (2 * k + 1) = root r ∧ Rep M l ∧ Rep M r
def Ord (f : Nat → Nat) (N : Nat) : Tree → Prop
  | .nil => True
  | .node k l r => (∀ p ∈ nodes l, lt f N p k ∧ p < k) ∧ (∀ p ∈ nodes r, lt f N k p ∧ p < k) ∧ Ord f N l ∧ Ord f N r
theorem rep_congr {M M' : Nat → Int} : ∀ t : Tree, (∀ c, c / 2 ∈ nodes t → M' c = M c) → Rep M t → Rep M' t := by
  intro t
  induction t with
  | nil => exact fun _ _ => trivial
  | node k l r ihl ihr =>
    intro h hr
    obtain ⟨h1, h2, h3, h4⟩ := hr
    refine ⟨?_, ?_, ihl (fun c hc => h c (by simp [nodes, hc])) h3, ihr (fun c hc => h c (by simp [nodes, hc])) h4⟩
    · rw [h (2 * k) (by rw [show 2 * k / 2 = k from by omega]; simp [nodes])]; exact h1
    · rw [h (2 * k + 1) (by rw [show (2 * k + 1) / 2 = k from by omega]; simp [nodes])]; exact h2

/-- What is met on the way down. -/
def vis (f : Nat → Nat) (N win i : Nat) : Tree → List Nat
  | .nil => []
  | .node k l r => if win < i - k then [] else if up f N i k then k :: vis f N win i l else k :: vis f N win i r
def splitT (f : Nat → Nat) (N win i : Nat) : Tree → Tree × Tree
  | .nil => (.nil, .nil)
  | .node k l r => if win < i - k then (.nil, .nil) else if up f N i k then ((splitT f N win i l).1, .node k (splitT f N win i l).2 r) else (.node k l (splitT f N win i r).1, (splitT f N win i r).2)
def setM (M : Nat → Int) (c : Nat) (v : Int) (d : Nat) : Int := if d = c then v else M d
/-- The way down in the links themselves; ha and hb are where what is less, and more, is to be hung. -/
def dsc (f : Nat → Nat) (N win m i : Nat) : Nat → (Nat → Int) → Int → Nat → Nat → Nat → List (Int × Int) × (Nat → Int)
  | 0, M, _, _, ha, hb => ([], setM (setM M ha (-1)) hb (-1))
  | t + 1, M, k, best, ha, hb =>
    if k = -1 ∨ (win : Int) < i - k then ([], setM (setM M ha (-1)) hb (-1)) else
      let n := min (lcp f N i k.toNat) m
      let b := if best < n then n else best
      let rest := if up f N i k.toNat then dsc f N win m i t (setM M hb k) (M (2 * k.toNat)) b ha (2 * k.toNat) else dsc f N win m i t (setM M ha k) (M (2 * k.toNat + 1)) b (2 * k.toNat + 1) hb
      (if best < n then ((n : Int), (i : Int) - k) :: rest.1 else rest.1, rest.2)
theorem dsc_stop (f : Nat → Nat) (N win m i : Nat) (t : Nat) (M : Nat → Int) (k : Int) (best ha hb : Nat) (h : k = -1 ∨ (win : Int) < i - k) : dsc f N win m i t M k best ha hb = ([], setM (setM M ha (-1)) hb (-1)) := by
  cases t with
  | zero => rfl
  | succ t => unfold dsc; rw [if_pos h]
theorem dsc_zero (f : Nat → Nat) (N win m i : Nat) (M : Nat → Int) (k : Int) (best ha hb : Nat) : dsc f N win m i 0 M k best ha hb = ([], setM (setM M ha (-1)) hb (-1)) := rfl
theorem dsc_step (f : Nat → Nat) (N win m i : Nat) (t : Nat) (M : Nat → Int) (k best ha hb : Nat) (h : ¬ (win : Int) < (i : Int) - k) :
    dsc f N win m i (t + 1) M k best ha hb =
      ((if best < min (lcp f N i k) m then (((min (lcp f N i k) m : Nat) : Int), (i : Int) - k) :: (if up f N i k then dsc f N win m i t (setM M hb k) (M (2 * k)) (if best < min (lcp f N i k) m then min (lcp f N i k) m else best) ha (2 * k) else dsc f N win m i t (setM M ha k) (M (2 * k + 1)) (if best < min (lcp f N i k) m then min (lcp f N i k) m else best) (2 * k + 1) hb).1
        else (if up f N i k then dsc f N win m i t (setM M hb k) (M (2 * k)) (if best < min (lcp f N i k) m then min (lcp f N i k) m else best) ha (2 * k) else dsc f N win m i t (setM M ha k) (M (2 * k + 1)) (if best < min (lcp f N i k) m then min (lcp f N i k) m else best) (2 * k + 1) hb).1),
       (if up f N i k then dsc f N win m i t (setM M hb k) (M (2 * k)) (if best < min (lcp f N i k) m then min (lcp f N i k) m else best) ha (2 * k) else dsc f N win m i t (setM M ha k) (M (2 * k + 1)) (if best < min (lcp f N i k) m then min (lcp f N i k) m else best) (2 * k + 1) hb).2) := by
  conv => lhs; unfold dsc
  rw [if_neg (by omega)]
  simp only [Int.toNat_natCast]
theorem split_nodes (f : Nat → Nat) (N win i : Nat) : ∀ t : Tree, (∀ p ∈ nodes (splitT f N win i t).1, p ∈ nodes t) ∧ (∀ p ∈ nodes (splitT f N win i t).2, p ∈ nodes t) := by
  intro t
  induction t with
  | nil => exact ⟨fun p h => h, fun p h => h⟩
  | node k l r ihl ihr =>
    unfold splitT
    split
    · exact ⟨fun p h => by simp [nodes] at h, fun p h => by simp [nodes] at h⟩
    · split
      · refine ⟨fun p h => by have := ihl.1 p h; simp [nodes, this], fun p h => ?_⟩
        simp only [nodes, List.mem_cons, List.mem_append] at h ⊢
        rcases h with h | h | h
        · exact .inl h
        · exact .inr (.inl (ihl.2 p h))
        · exact .inr (.inr h)
      · refine ⟨fun p h => ?_, fun p h => by have := ihr.2 p h; simp [nodes, this]⟩
        simp only [nodes, List.mem_cons, List.mem_append] at h ⊢
        rcases h with h | h | h
        · exact .inl h
        · exact .inr (.inl h)
        · exact .inr (.inr (ihr.1 p h))
/-- What becomes of the links. -/
theorem dsc_ok (f : Nat → Nat) (N win m i : Nat) : ∀ (t : Tree) (q : Nat) (M : Nat → Int) (best ha hb : Nat), Rep M t → (nodes t).Nodup → (∀ p ∈ nodes t, p < i) → ha / 2 ∉ nodes t → hb / 2 ∉ nodes t → ha ≠ hb → (vis f N win i t).length ≤ q →
    (dsc f N win m i q M (root t) best ha hb).1 = recs (fun k => min (lcp f N i k) m) i (vis f N win i t) best ∧
    (dsc f N win m i q M (root t) best ha hb).2 ha = root (splitT f N win i t).1 ∧ (dsc f N win m i q M (root t) best ha hb).2 hb = root (splitT f N win i t).2 ∧
    Rep (dsc f N win m i q M (root t) best ha hb).2 (splitT f N win i t).1 ∧ Rep (dsc f N win m i q M (root t) best ha hb).2 (splitT f N win i t).2 ∧
    ∀ c, c ≠ ha → c ≠ hb → c / 2 ∉ nodes t → (dsc f N win m i q M (root t) best ha hb).2 c = M c := by
  intro t
  induction t with
  | nil =>
    intro q M best ha hb _ _ _ _ _ hne _
    rw [show root Tree.nil = -1 from rfl, dsc_stop f N win m i q M _ best ha hb (.inl rfl)]
    refine ⟨rfl, ?_, ?_, trivial, trivial, fun c h1 h2 _ => ?_⟩
    · show setM (setM M ha (-1)) hb (-1) ha = -1
      unfold setM; rw [if_neg hne, if_pos rfl]
    · show setM (setM M ha (-1)) hb (-1) hb = -1
      unfold setM; rw [if_pos rfl]
    · show setM (setM M ha (-1)) hb (-1) c = M c
      unfold setM; rw [if_neg h2, if_neg h1]
  | node k l r ihl ihr =>
    intro q M best ha hb hrep hnd hlt hha hhb hne hq
    obtain ⟨r1, r2, r3, r4⟩ := hrep
    rw [show root (.node k l r) = (k : Int) from rfl]
    have hki : k < i := hlt k (by simp [nodes])
    by_cases hw : win < i - k
    · rw [dsc_stop f N win m i q M _ best ha hb (.inr (by omega))]
      unfold vis splitT
      rw [if_pos hw, if_pos hw]
      refine ⟨rfl, ?_, ?_, trivial, trivial, fun c h1 h2 _ => ?_⟩
      · show setM (setM M ha (-1)) hb (-1) ha = -1
        unfold setM; rw [if_neg hne, if_pos rfl]
      · show setM (setM M ha (-1)) hb (-1) hb = -1
        unfold setM; rw [if_pos rfl]
      · show setM (setM M ha (-1)) hb (-1) c = M c
        unfold setM; rw [if_neg h2, if_neg h1]
    · have hnd2 : k ∉ nodes l ∧ k ∉ nodes r ∧ (nodes l).Nodup ∧ (nodes r).Nodup ∧ ∀ p ∈ nodes l, p ∉ nodes r := by
        simp only [nodes, List.nodup_cons, List.mem_append, List.nodup_append] at hnd
        refine ⟨fun h => hnd.1 (.inl h), fun h => hnd.1 (.inr h), hnd.2.1, hnd.2.2.1, fun p h1 h2 => hnd.2.2.2 p h1 p h2 rfl⟩
      obtain ⟨n1, n2, n3, n4, n5⟩ := hnd2
      simp only [nodes, List.mem_cons, List.mem_append, not_or] at hha hhb
      have hvis : vis f N win i (.node k l r) = if up f N i k then k :: vis f N win i l else k :: vis f N win i r := by rw [vis, if_neg hw]
      have hspl : splitT f N win i (.node k l r) = if up f N i k then ((splitT f N win i l).1, .node k (splitT f N win i l).2 r) else (.node k l (splitT f N win i r).1, (splitT f N win i r).2) := by rw [splitT, if_neg hw]
      rw [hvis] at hq ⊢
      rw [hspl]
      obtain ⟨q, rfl⟩ : ∃ z, q = z + 1 := ⟨q - 1, by split at hq <;> simp at hq <;> omega⟩
      rw [dsc_step f N win m i q M k best ha hb (by omega)]
      by_cases hu : up f N i k = true
      · rw [if_pos hu] at hq
        simp only [hu, if_true]
        rw [r1]
        have hM1 : Rep (setM M hb k) l := rep_congr l (fun c hc => by unfold setM; rw [if_neg (fun e => by subst e; exact hhb.2.1 hc)]) r3
        obtain ⟨i1, i2, i3, i4, i5, i6⟩ := ihl q (setM M hb k) (if best < min (lcp f N i k) m then min (lcp f N i k) m else best) ha (2 * k) hM1 n3 (fun p hp => hlt p (by simp [nodes, hp])) hha.2.1 (by rw [show 2 * k / 2 = k from by omega]; exact n1) (fun e => hha.1 (by omega)) (by simpa using hq)
        generalize dsc f N win m i q (setM M hb k) (root l) (if best < min (lcp f N i k) m then min (lcp f N i k) m else best) ha (2 * k) = D at i1 i2 i3 i4 i5 i6
        have hhbk : hb ≠ 2 * k := fun e => hhb.1 (by omega)
        have o1 : D.2 (2 * k + 1) = root r := by
          rw [i6 (2 * k + 1) (fun e => hha.1 (by omega)) (by omega) (by rw [show (2 * k + 1) / 2 = k from by omega]; exact n1)]
          unfold setM; rw [if_neg (fun e => hhb.1 (by omega))]; exact r2
        have o2 : Rep D.2 r := rep_congr r (fun c hc => by
          have hck : c / 2 ≠ k := fun e => n2 (e ▸ hc)
          rw [i6 c (fun e => by subst e; exact hha.2.2 hc) (fun e => hck (by omega)) (fun h => n5 _ h hc)]
          unfold setM; rw [if_neg (fun e => by subst e; exact hhb.2.2 hc)]) r4
        refine ⟨?_, i2, ?_, i4, ⟨i3, o1, i5, o2⟩, fun c h1 h2 h3 => ?_⟩
        · show (if best < min (lcp f N i k) m then _ else _) = _
          rw [recs_cons, i1]
          split
          · rw [show ((i - k : Nat) : Int) = (i : Int) - k from by omega]
          · rfl
        · show D.2 hb = (k : Int)
          rw [i6 hb (fun e => hne e.symm) hhbk hhb.2.1]
          unfold setM; rw [if_pos rfl]
        · simp only [nodes, List.mem_cons, List.mem_append, not_or] at h3
          rw [i6 c h1 (fun e => h3.1 (by omega)) h3.2.1]
          unfold setM; rw [if_neg h2]
      · rw [if_neg hu] at hq
        simp only [hu, Bool.false_eq_true, if_false]
        rw [r2]
        have hM1 : Rep (setM M ha k) r := rep_congr r (fun c hc => by unfold setM; rw [if_neg (fun e => by subst e; exact hha.2.2 hc)]) r4
        obtain ⟨i1, i2, i3, i4, i5, i6⟩ := ihr q (setM M ha k) (if best < min (lcp f N i k) m then min (lcp f N i k) m else best) (2 * k + 1) hb hM1 n4 (fun p hp => hlt p (by simp [nodes, hp])) (by rw [show (2 * k + 1) / 2 = k from by omega]; exact n2) hhb.2.2 (fun e => hhb.1 (by omega)) (by simpa using hq)
        generalize dsc f N win m i q (setM M ha k) (root r) (if best < min (lcp f N i k) m then min (lcp f N i k) m else best) (2 * k + 1) hb = D at i1 i2 i3 i4 i5 i6
        have o1 : D.2 (2 * k) = root l := by
          rw [i6 (2 * k) (by omega) (fun e => hhb.1 (by omega)) (by rw [show 2 * k / 2 = k from by omega]; exact n2)]
          unfold setM; rw [if_neg (fun e => hha.1 (by omega))]; exact r1
        have o2 : Rep D.2 l := rep_congr l (fun c hc => by
          have hck : c / 2 ≠ k := fun e => n1 (e ▸ hc)
          rw [i6 c (fun e => hck (by omega)) (fun e => by subst e; exact hhb.2.1 hc) (fun h => n5 _ hc h)]
          unfold setM; rw [if_neg (fun e => by subst e; exact hha.2.1 hc)]) r3
        refine ⟨?_, ?_, i3, ⟨o1, i2, o2, i4⟩, i5, fun c h1 h2 h3 => ?_⟩
        · show (if best < min (lcp f N i k) m then _ else _) = _
          rw [recs_cons, i1]
          split
          · rw [show ((i - k : Nat) : Int) = (i : Int) - k from by omega]
          · rfl
        · show D.2 ha = (k : Int)
          rw [i6 ha (fun e => hha.1 (by omega)) hne hha.2.2]
          unfold setM; rw [if_pos rfl]
        · simp only [nodes, List.mem_cons, List.mem_append, not_or] at h3
          rw [i6 c (fun e => h3.1 (by omega)) h2 h3.2.2]
          unfold setM; rw [if_neg h1]

/-! ### The order of a tree, and what is met in it -/
section
variable {f : Nat → Nat} {N win i : Nat}
theorem ord_nodup : ∀ t : Tree, Ord f N t → (nodes t).Nodup := by
  intro t
  induction t with
  | nil => intro _; simp [nodes]
  | node k l r ihl ihr =>
    intro h
    obtain ⟨h1, h2, h3, h4⟩ := h
    simp only [nodes, List.nodup_cons, List.mem_append, List.nodup_append]
    refine ⟨fun h => ?_, ihl h3, ihr h4, fun p hp q hq e => ?_⟩
    · rcases h with h | h
      · have := (h1 k h).2; omega
      · have := (h2 k h).2; omega
    · subst e
      exact lt_asymm (h1 p hp).1 (h2 p hq).1
theorem split_ord (hf : ∀ p, f p < 256) (hi : i < N) : ∀ t : Tree, Ord f N t → (∀ p ∈ nodes t, p < i) →
    Ord f N (splitT f N win i t).1 ∧ Ord f N (splitT f N win i t).2 ∧ (∀ p ∈ nodes (splitT f N win i t).1, lt f N p i) ∧ (∀ p ∈ nodes (splitT f N win i t).2, lt f N i p) := by
  intro t
  induction t with
  | nil => intro _ _; exact ⟨trivial, trivial, fun p h => by simp [splitT, nodes] at h, fun p h => by simp [splitT, nodes] at h⟩
  | node k l r ihl ihr =>
    intro h hlt
    obtain ⟨h1, h2, h3, h4⟩ := h
    have hki : k < i := hlt k (by simp [nodes])
    obtain ⟨a1, a2, a3, a4⟩ := ihl h3 (fun p hp => hlt p (by simp [nodes, hp]))
    obtain ⟨b1, b2, b3, b4⟩ := ihr h4 (fun p hp => hlt p (by simp [nodes, hp]))
    have sl := split_nodes f N win i l
    have sr := split_nodes f N win i r
    unfold splitT
    split
    · exact ⟨trivial, trivial, fun p h => by simp [nodes] at h, fun p h => by simp [nodes] at h⟩
    · split
      · rename_i hu
        have hik := up_lt hki hu
        refine ⟨a1, ⟨fun p hp => h1 p (sl.2 p hp), h2, a2, h4⟩, a3, fun p hp => ?_⟩
        simp only [nodes, List.mem_cons, List.mem_append] at hp
        rcases hp with rfl | hp | hp
        · exact hik
        · exact a4 p hp
        · exact lt_trans hik (h2 p hp).1
      · rename_i hu
        have hki2 := not_up_lt hf hi hki (by simpa using hu)
        refine ⟨⟨h1, fun p hp => h2 p (sr.1 p hp), h3, b1⟩, b2, fun p hp => ?_, b4⟩
        simp only [nodes, List.mem_cons, List.mem_append] at hp
        rcases hp with rfl | hp | hp
        · exact hki2
        · exact lt_trans (h1 p hp).1 hki2
        · exact b3 p hp
theorem split_keeps : ∀ t : Tree, Ord f N t → (∀ p ∈ nodes t, p < i) → ∀ p ∈ nodes t, i - p ≤ win → p ∈ nodes (splitT f N win i t).1 ∨ p ∈ nodes (splitT f N win i t).2 := by
  intro t
  induction t with
  | nil => intro _ _ p h; simp [nodes] at h
  | node k l r ihl ihr =>
    intro h hlt p hp hw
    obtain ⟨h1, h2, h3, h4⟩ := h
    have hpk : p ≤ k := by
      simp only [nodes, List.mem_cons, List.mem_append] at hp
      rcases hp with rfl | hp | hp
      · exact Nat.le_refl _
      · exact Nat.le_of_lt (h1 p hp).2
      · exact Nat.le_of_lt (h2 p hp).2
    unfold splitT
    rw [if_neg (by omega)]
    simp only [nodes, List.mem_cons, List.mem_append] at hp
    split
    · simp only [nodes, List.mem_cons, List.mem_append]
      rcases hp with hp | hp | hp
      · exact .inr (.inl hp)
      · rcases ihl h3 (fun p hp => hlt p (by simp [nodes, hp])) p hp hw with h | h
        · exact .inl h
        · exact .inr (.inr (.inl h))
      · exact .inr (.inr (.inr hp))
    · simp only [nodes, List.mem_cons, List.mem_append]
      rcases hp with hp | hp | hp
      · exact .inl (.inl hp)
      · exact .inl (.inr (.inl hp))
      · rcases ihr h4 (fun p hp => hlt p (by simp [nodes, hp])) p hp hw with h | h
        · exact .inl (.inr (.inr h))
        · exact .inr h
/-- What is met: falling, of the tree, and within the window. -/
theorem vis_in : ∀ t : Tree, Ord f N t → (∀ p ∈ nodes t, p < i) → (vis f N win i t).Pairwise (fun a b => b < a) ∧ ∀ p ∈ vis f N win i t, p ∈ nodes t ∧ i - p ≤ win := by
  intro t
  induction t with
  | nil => intro _ _; exact ⟨List.Pairwise.nil, fun p h => by simp [vis] at h⟩
  | node k l r ihl ihr =>
    intro h hlt
    obtain ⟨h1, h2, h3, h4⟩ := h
    obtain ⟨a1, a2⟩ := ihl h3 (fun p hp => hlt p (by simp [nodes, hp]))
    obtain ⟨b1, b2⟩ := ihr h4 (fun p hp => hlt p (by simp [nodes, hp]))
    unfold vis
    split
    · exact ⟨List.Pairwise.nil, fun p h => by simp at h⟩
    · split
      · refine ⟨List.pairwise_cons.2 ⟨fun p hp => (h1 p (a2 p hp).1).2, a1⟩, fun p hp => ?_⟩
        rcases List.mem_cons.1 hp with rfl | hp
        · exact ⟨by simp [nodes], by omega⟩
        · exact ⟨by simp [nodes, (a2 p hp).1], (a2 p hp).2⟩
      · refine ⟨List.pairwise_cons.2 ⟨fun p hp => (h2 p (b2 p hp).1).2, b1⟩, fun p hp => ?_⟩
        rcases List.mem_cons.1 hp with rfl | hp
        · exact ⟨by simp [nodes], by omega⟩
        · exact ⟨by simp [nodes, (b2 p hp).1], (b2 p hp).2⟩
/-- What is not met is no longer than one that is met, and nearer. -/
theorem vis_covers (hf : ∀ p, f p < 256) (hi : i < N) : ∀ t : Tree, Ord f N t → (∀ p ∈ nodes t, p < i) → ∀ p ∈ nodes t, i - p ≤ win →
    p ∈ vis f N win i t ∨ ∃ q ∈ vis f N win i t, p < q ∧ lcp f N i p ≤ lcp f N i q := by
  intro t
  induction t with
  | nil => intro _ _ p h; simp [nodes] at h
  | node k l r ihl ihr =>
    intro h hlt p hp hw
    obtain ⟨h1, h2, h3, h4⟩ := h
    have hki : k < i := hlt k (by simp [nodes])
    have hpk : p ≤ k := by
      simp only [nodes, List.mem_cons, List.mem_append] at hp
      rcases hp with rfl | hp | hp
      · exact Nat.le_refl _
      · exact Nat.le_of_lt (h1 p hp).2
      · exact Nat.le_of_lt (h2 p hp).2
    unfold vis
    rw [if_neg (by omega)]
    simp only [nodes, List.mem_cons, List.mem_append] at hp
    split
    · rename_i hu
      rcases hp with hp | hp | hp
      · exact .inl (by simp [hp])
      · rcases ihl h3 (fun p hp => hlt p (by simp [nodes, hp])) p hp hw with h | ⟨q, hq, h⟩
        · exact .inl (by simp [h])
        · exact .inr ⟨q, by simp [hq], h⟩
      · exact .inr ⟨k, by simp, (h2 p hp).2, between hf hi hki (.inl ⟨up_lt hki hu, (h2 p hp).1⟩)⟩
    · rename_i hu
      rcases hp with hp | hp | hp
      · exact .inl (by simp [hp])
      · exact .inr ⟨k, by simp, (h1 p hp).2, between hf hi hki (.inr ⟨not_up_lt hf hi hki (by simpa using hu), (h1 p hp).1⟩)⟩
      · rcases ihr h4 (fun p hp => hlt p (by simp [nodes, hp])) p hp hw with h | ⟨q, hq, h⟩
        · exact .inl (by simp [h])
        · exact .inr ⟨q, by simp [hq], h⟩
end
theorem falling_eq : ∀ l1 l2 : List Nat, l1.Pairwise (fun a b => b < a) → l2.Pairwise (fun a b => b < a) → (∀ x, x ∈ l1 ↔ x ∈ l2) → l1 = l2 := by
  intro l1
  induction l1 with
  | nil =>
    intro l2 _ _ h
    cases l2 with
    | nil => rfl
    | cons x r => exact absurd ((h x).2 (by simp)) (by simp)
  | cons a r ih =>
    intro l2 h1 h2 h
    cases l2 with
    | nil => exact absurd ((h a).1 (by simp)) (by simp)
    | cons b r2 =>
      obtain ⟨p1, p2⟩ := List.pairwise_cons.1 h1
      obtain ⟨q1, q2⟩ := List.pairwise_cons.1 h2
      have hab : a = b := by
        have m1 := (h a).1 (by simp)
        have m2 := (h b).2 (by simp)
        rcases List.mem_cons.1 m1 with e | e
        · exact e
        · rcases List.mem_cons.1 m2 with e2 | e2
          · exact e2.symm
          · have := q1 a e; have := p1 b e2; omega
      subst hab
      congr 1
      refine ih r2 p2 q2 fun x => ?_
      have hx := h x
      constructor
      · intro hm
        rcases List.mem_cons.1 (hx.1 (by simp [hm])) with e | e
        · subst e; have := p1 x hm; omega
        · exact e
      · intro hm
        rcases List.mem_cons.1 (hx.2 (by simp [hm])) with e | e
        · subst e; have := q1 x hm; omega
        · exact e
theorem back_mem (i : Nat) : ∀ c, c ≤ i → ∀ x, x ∈ back i c ↔ i - c ≤ x ∧ x < i := by
  intro c
  induction c with
  | zero => intro _ x; rw [back_zero]; simp only [List.not_mem_nil, false_iff]; omega
  | succ c ih =>
    intro h x
    rw [back_succ, List.mem_append, ih (by omega)]
    simp
    omega
theorem back_falls (i : Nat) : ∀ c, c ≤ i → (back i c).Pairwise (fun a b => b < a) := by
  intro c
  induction c with
  | zero => intro _; exact List.Pairwise.nil
  | succ c ih =>
    intro h
    rw [back_succ, List.pairwise_append]
    refine ⟨ih (by omega), List.pairwise_singleton _ _, fun a ha b hb => ?_⟩
    rw [back_mem i c (by omega)] at ha
    simp at hb
    omega
theorem falls_split {l : List Nat} {a b : List Nat} {k q : Nat} (h : l.Pairwise (fun a b => b < a)) (e : l = a ++ k :: b) (hq : q ∈ l) (hk : k < q) : q ∈ a := by
  subst e
  rcases List.mem_append.1 hq with h1 | h1
  · exact h1
  · rw [List.pairwise_append] at h
    obtain ⟨_, h2, _⟩ := h
    rcases List.mem_cons.1 h1 with e | e
    · omega
    · have := (List.pairwise_cons.1 h2).1 q e; omega
/-- The matches on the way down are the nearest sources. -/
theorem vis_near (f : Nat → Nat) (N m win i : Nat) (hf : ∀ p, f p < 256) (hi : i < N) (t : Tree) (ho : Ord f N t) (hlt : ∀ p ∈ nodes t, p < i)
    (hall : ∀ p, p < i → f p = f i → f (p + 1) = f (i + 1) → i - p ≤ win → p ∈ nodes t) :
    recs (fun k => min (lcp f N i k) m) i (vis f N win i t) 1 = near f N i win m := by
  obtain ⟨v1, v2⟩ := vis_in (win := win) t ho hlt
  have hc : min i win ≤ i := by omega
  have e : vis f N win i t = (back i (min i win)).filter (fun k => decide (k ∈ vis f N win i t)) := by
    refine falling_eq _ _ v1 ((back_falls i _ hc).filter _) fun x => ?_
    rw [List.mem_filter, back_mem i _ hc]
    constructor
    · intro h
      have h2 := v2 x h
      have := hlt x h2.1
      exact ⟨by omega, by simpa using h⟩
    · intro h
      simpa using h.2
  unfold near
  rw [e]
  refine recs_filter _ i _ _ 1 fun a k b hab hk => ?_
  have hkm : k ∈ back i (min i win) := by rw [hab]; simp
  rw [back_mem i _ hc] at hkm
  have hkv : k ∉ vis f N win i t := by simpa using hk
  by_cases hs : f k = f i ∧ f (k + 1) = f (i + 1)
  · rcases vis_covers (win := win) hf hi t ho hlt k (hall k (by omega) hs.1 hs.2 (by omega)) (by omega) with h | ⟨q, hq, hkq, hl⟩
    · exact absurd h hkv
    · have h2 := v2 q hq
      have h3 := hlt q h2.1
      refine .inr ⟨q, falls_split (back_falls i _ hc) hab (by rw [back_mem i _ hc]; omega) hkq, by simpa using hq, ?_⟩
      show min (lcp f N i k) m ≤ min (lcp f N i q) m
      omega
  · have := lcp_two f N i k hs
    refine .inl ?_
    show min (lcp f N i k) m ≤ 1
    omega
theorem falls_len : ∀ (l : List Nat) (n : Nat), l.Pairwise (fun a b => b < a) → (∀ x ∈ l, x < n) → l.length ≤ n := by
  intro l
  induction l with
  | nil => intro n _ _; simp
  | cons a r ih =>
    intro n h hn
    obtain ⟨h1, h2⟩ := List.pairwise_cons.1 h
    have := ih a h2 h1
    have := hn a (by simp)
    simp only [List.length_cons]
    omega
/-- The links fall. -/
def Heap (M : Nat → Int) (i : Nat) : Prop := ∀ c, c / 2 < i → -1 ≤ M c ∧ M c < ((c / 2 : Nat) : Int)
theorem heap_set {M : Nat → Int} {i : Nat} (h : Heap M i) (c : Nat) (v : Int) (h1 : -1 ≤ v) (h2 : v < ((c / 2 : Nat) : Int)) : Heap (setM M c v) i := by
  intro d hd
  unfold setM
  by_cases e : d = c
  · subst e; rw [if_pos rfl]; exact ⟨h1, h2⟩
  · rw [if_neg e]; exact h d hd
theorem dsc_heap (f : Nat → Nat) (N win m i j : Nat) : ∀ (t : Nat) (M : Nat → Int) (k : Int) (best ha hb : Nat), Heap M j → -1 ≤ k → k < ((ha / 2 : Nat) : Int) → k < ((hb / 2 : Nat) : Int) → k < j →
    Heap (dsc f N win m i t M k best ha hb).2 j := by
  intro t
  induction t with
  | zero => intro M k best ha hb h h1 h2 h3 _; exact heap_set (heap_set h ha (-1) (by omega) (by omega)) hb (-1) (by omega) (by omega)
  | succ t ih =>
    intro M k best ha hb h h1 h2 h3 h4
    by_cases hs : k = -1 ∨ (win : Int) < i - k
    · rw [dsc_stop f N win m i (t + 1) M k best ha hb hs]
      exact heap_set (heap_set h ha (-1) (by omega) (by omega)) hb (-1) (by omega) (by omega)
    · obtain ⟨q, rfl⟩ : ∃ q : Nat, k = q := ⟨k.toNat, by omega⟩
      rw [dsc_step f N win m i t M q best ha hb (by omega)]
      have e1 : 2 * q / 2 = q := by omega
      have e2 : (2 * q + 1) / 2 = q := by omega
      have m1 := h (2 * q) (by omega)
      have m2 := h (2 * q + 1) (by omega)
      rw [e1] at m1
      rw [e2] at m2
      show Heap (if up f N i q then _ else _ : List (Int × Int) × (Nat → Int)).2 j
      split
      · exact ih _ _ _ _ _ (heap_set h hb _ (by omega) h3) m1.1 (by omega) (by rw [e1]; omega) (by omega)
      · exact ih _ _ _ _ _ (heap_set h ha _ (by omega) h2) m2.1 (by rw [e2]; omega) (by omega) (by omega)

/-- The trees of all pairs of bytes, so many places having been put in. -/
structure Forest (f : Nat → Nat) (N win i : Nat) (M : Nat → Int) (T : Nat → Nat → Tree) : Prop where
  top : ∀ x y, root (T x y) = optI (last f x y i)
  rep : ∀ x y, Rep M (T x y)
  ord : ∀ x y, Ord f N (T x y)
  mem : ∀ x y p, p ∈ nodes (T x y) → p < i ∧ f p = x ∧ f (p + 1) = y
  all : ∀ x y p, p < i → f p = x → f (p + 1) = y → i - p ≤ win → p ∈ nodes (T x y)
theorem forest_start (f : Nat → Nat) (N win : Nat) (M : Nat → Int) : Forest f N win 0 M (fun _ _ => .nil) :=
  ⟨fun _ _ => rfl, fun _ _ => trivial, fun _ _ => trivial, fun _ _ p h => by simp [nodes] at h, fun _ _ p h => by omega⟩
/-- A place's own links, cut off. -/
def cutM (M : Nat → Int) (i : Nat) : Nat → Int := setM (setM M (2 * i) (-1)) (2 * i + 1) (-1)
theorem heap_cut {M : Nat → Int} {i : Nat} (h : Heap M i) : Heap (cutM M i) (i + 1) := by
  intro c hc
  unfold cutM setM
  by_cases e1 : c = 2 * i + 1
  · rw [if_pos e1]; omega
  · rw [if_neg e1]
    by_cases e2 : c = 2 * i
    · rw [if_pos e2]; omega
    · rw [if_neg e2]; exact h c (by omega)
/-- What Next tells, and what becomes of the links. -/
def nextB (f : Nat → Nat) (N win m i dep : Nat) (M : Nat → Int) : List (Int × Int) × (Nat → Int) :=
  match last f (f i) (f (i + 1)) i with
  | none => ([], cutM M i)
  | some k => if (cutM M i (2 * k) = -1 ∧ cutM M i (2 * k + 1) = -1) ∧ win < i - k then ([], cutM M i) else dsc f N win m i dep (cutM M i) k 1 (2 * i) (2 * i + 1)
theorem nextB_some (f : Nat → Nat) (N win m i dep : Nat) (M : Nat → Int) (k : Nat) (h : last f (f i) (f (i + 1)) i = some k) : nextB f N win m i dep M =
    if (cutM M i (2 * k) = -1 ∧ cutM M i (2 * k + 1) = -1) ∧ win < i - k then ([], cutM M i) else dsc f N win m i dep (cutM M i) k 1 (2 * i) (2 * i + 1) := by unfold nextB; rw [h]
theorem nextB_none (f : Nat → Nat) (N win m i dep : Nat) (M : Nat → Int) (h : last f (f i) (f (i + 1)) i = none) : nextB f N win m i dep M = ([], cutM M i) := by unfold nextB; rw [h]
theorem root_nil {t : Tree} (h : root t = -1) : t = .nil := by
  cases t with
  | nil => rfl
  | node k l r => simp only [root] at h; omega
theorem root_node {t : Tree} {k : Nat} (h : root t = k) : ∃ l r, t = .node k l r := by
  cases t with
  | nil => simp only [root] at h; omega
  | node q l r => simp only [root] at h; exact ⟨l, r, by congr 1; omega⟩
theorem next_forest (f : Nat → Nat) (N win m i dep : Nat) (M : Nat → Int) (T : Nat → Nat → Tree) (hf : ∀ p, f p < 256) (hi : i < N) (hd : i ≤ dep) (F : Forest f N win i M T) :
    (nextB f N win m i dep M).1 = near f N i win m ∧ ∃ T', Forest f N win (i + 1) (nextB f N win m i dep M).2 T' := by
  have hlt : ∀ x y, ∀ p ∈ nodes (T x y), p < i := fun x y p hp => (F.mem x y p hp).1
  have hrep : ∀ x y, Rep (cutM M i) (T x y) := fun x y => rep_congr _ (fun c hc => by
    have := hlt x y _ hc
    unfold cutM setM
    rw [if_neg (by omega), if_neg (by omega)]) (F.rep x y)
  have hnear := vis_near f N m win i hf hi (T (f i) (f (i + 1))) (F.ord _ _) (hlt _ _) (fun p h1 h2 h3 h4 => F.all _ _ p h1 h2 h3 h4)
  -- a new tree at the place's own bytes, the other ones as they were
  have key : ∀ (M' : Nat → Int) (a b : Tree), (∀ c, c ≠ 2 * i → c ≠ 2 * i + 1 → c / 2 ∉ nodes (T (f i) (f (i + 1))) → M' c = cutM M i c) → M' (2 * i) = root a → M' (2 * i + 1) = root b → Rep M' a → Rep M' b →
      Ord f N a → Ord f N b → (∀ p ∈ nodes a, p ∈ nodes (T (f i) (f (i + 1))) ∧ lt f N p i) → (∀ p ∈ nodes b, p ∈ nodes (T (f i) (f (i + 1))) ∧ lt f N i p) →
      (∀ p ∈ nodes (T (f i) (f (i + 1))), i + 1 - p ≤ win → p ∈ nodes a ∨ p ∈ nodes b) → ∃ T', Forest f N win (i + 1) M' T' := by
    intro M' a b h1 h2 h3 h4 h5 h6 h7 h8 h9 h10
    refine ⟨fun x y => if x = f i ∧ y = f (i + 1) then .node i a b else T x y, ?_, ?_, ?_, ?_, ?_⟩
    · intro x y
      unfold last
      by_cases e : x = f i ∧ y = f (i + 1)
      · rw [if_pos e, if_pos ⟨e.1.symm, e.2.symm⟩]; rfl
      · rw [if_neg e, if_neg (fun h => e ⟨h.1.symm, h.2.symm⟩)]; exact F.top x y
    · intro x y
      by_cases e : x = f i ∧ y = f (i + 1)
      · rw [if_pos e]; exact ⟨h2, h3, h4, h5⟩
      · rw [if_neg e]
        refine rep_congr _ (fun c hc => ?_) (hrep x y)
        have hc2 := F.mem x y _ hc
        refine h1 c (by omega) (by omega) (fun hh => e ?_)
        have hc3 := F.mem _ _ _ hh
        exact ⟨hc2.2.1.symm.trans hc3.2.1, hc2.2.2.symm.trans hc3.2.2⟩
    · intro x y
      by_cases e : x = f i ∧ y = f (i + 1)
      · rw [if_pos e]; exact ⟨fun p hp => ⟨(h8 p hp).2, hlt _ _ p (h8 p hp).1⟩, fun p hp => ⟨(h9 p hp).2, hlt _ _ p (h9 p hp).1⟩, h6, h7⟩
      · rw [if_neg e]; exact F.ord x y
    · intro x y p hp
      by_cases e : x = f i ∧ y = f (i + 1)
      · rw [if_pos e] at hp
        simp only [nodes, List.mem_cons, List.mem_append] at hp
        rcases hp with rfl | hp | hp
        · exact ⟨by omega, e.1.symm, e.2.symm⟩
        · have := F.mem _ _ p (h8 p hp).1; exact ⟨by omega, by rw [e.1]; exact this.2.1, by rw [e.2]; exact this.2.2⟩
        · have := F.mem _ _ p (h9 p hp).1; exact ⟨by omega, by rw [e.1]; exact this.2.1, by rw [e.2]; exact this.2.2⟩
      · rw [if_neg e] at hp
        have := F.mem x y p hp
        exact ⟨by omega, this.2⟩
    · intro x y p hp hx hy hw
      by_cases e : x = f i ∧ y = f (i + 1)
      · rw [if_pos e]
        simp only [nodes, List.mem_cons, List.mem_append]
        by_cases hpi : p = i
        · exact .inl hpi
        · rcases h10 p (F.all _ _ p (by omega) (hx.trans e.1) (hy.trans e.2) (by omega)) hw with h | h
          · exact .inr (.inl h)
          · exact .inr (.inr h)
      · rw [if_neg e]
        have hpi : p ≠ i := fun h => by subst h; exact e ⟨hx.symm, hy.symm⟩
        exact F.all x y p (by omega) hx hy (by omega)
  have cut0 : cutM M i (2 * i) = -1 := by unfold cutM setM; rw [if_neg (by omega), if_pos rfl]
  have cut1 : cutM M i (2 * i + 1) = -1 := by unfold cutM setM; rw [if_pos rfl]
  have htop := F.top (f i) (f (i + 1))
  cases hl : last f (f i) (f (i + 1)) i with
  | none =>
    rw [nextB_none _ _ _ _ _ _ _ hl]
    rw [hl] at htop
    have ht := root_nil htop
    rw [ht] at hnear key
    refine ⟨hnear, key (cutM M i) .nil .nil (fun _ _ _ _ => rfl) cut0 cut1 trivial trivial trivial trivial (fun p h => by simp [nodes] at h) (fun p h => by simp [nodes] at h) (fun p h => by simp [nodes] at h)⟩
  | some k =>
    rw [hl] at htop
    obtain ⟨l, r, ht⟩ := root_node htop
    have ho := F.ord (f i) (f (i + 1))
    have hr := hrep (f i) (f (i + 1))
    have hm := hlt (f i) (f (i + 1))
    rw [ht] at ho hr hm hnear key
    have hki : k < i := hm k (by simp [nodes])
    rw [nextB_some _ _ _ _ _ _ _ k hl]
    by_cases hc : (cutM M i (2 * k) = -1 ∧ cutM M i (2 * k + 1) = -1) ∧ win < i - k
    · rw [if_pos hc]
      obtain ⟨⟨c1, c2⟩, hw⟩ := hc
      obtain ⟨r1, r2, _, _⟩ := hr
      have hl0 := root_nil (r1.symm.trans c1)
      have hr0 := root_nil (r2.symm.trans c2)
      subst hl0 hr0
      have hv : vis f N win i (.node k .nil .nil) = [] := by unfold vis; rw [if_pos hw]
      rw [hv] at hnear
      refine ⟨hnear, key (cutM M i) .nil .nil (fun _ _ _ _ => rfl) cut0 cut1 trivial trivial trivial trivial (fun p h => by simp [nodes] at h) (fun p h => by simp [nodes] at h) (fun p h hw2 => ?_)⟩
      simp only [nodes, List.mem_cons, List.append_nil, List.not_mem_nil, or_false] at h
      subst h
      omega
    · rw [if_neg hc]
      obtain ⟨v1, v2⟩ := vis_in (win := win) _ ho hm
      have hlen := falls_len _ i v1 (fun x hx => hm x (v2 x hx).1)
      have hd1 : (2 * i) / 2 ∉ nodes (.node k l r) := fun h => by have := hm _ h; omega
      have hd2 : (2 * i + 1) / 2 ∉ nodes (.node k l r) := fun h => by have := hm _ h; omega
      obtain ⟨d1, d2, d3, d4, d5, d6⟩ := dsc_ok f N win m i (.node k l r) dep (cutM M i) 1 (2 * i) (2 * i + 1) hr (ord_nodup _ ho) hm hd1 hd2 (by omega) (by omega)
      obtain ⟨o1, o2, o3, o4⟩ := split_ord (win := win) hf hi _ ho hm
      have sn := split_nodes f N win i (.node k l r)
      refine ⟨d1.trans hnear, key _ _ _ d6 d2 d3 d4 d5 o1 o2 (fun p hp => ⟨sn.1 p hp, o3 p hp⟩) (fun p hp => ⟨sn.2 p hp, o4 p hp⟩) (fun p hp hw => ?_)⟩
      exact split_keeps _ ho hm p hp (by omega)
theorem next_heap (f : Nat → Nat) (N win m i dep : Nat) (M : Nat → Int) (h : Heap M i) : Heap (nextB f N win m i dep M).2 (i + 1) := by
  cases hl : last f (f i) (f (i + 1)) i with
  | none => rw [nextB_none _ _ _ _ _ _ _ hl]; exact heap_cut h
  | some k =>
    have hk := last_lt _ _ _ _ _ hl
    rw [nextB_some _ _ _ _ _ _ _ k hl]
    split
    · exact heap_cut h
    · exact dsc_heap f N win m i (i + 1) dep _ _ _ _ _ (heap_cut h) (by omega) (by omega) (by omega) (by omega)
end Go.Proofs.Ytjmenlffhoodeaa.Find
