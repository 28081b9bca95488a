/- Runs of lengths: plain laws (no program in sight). -/
namespace Go.Proofs.Ytjmenlffhoodeac.Runs

def extra (s : Int) : Nat := if s = 16 then 2 else if s = 17 then 3 else if s = 18 then 7 else 0
def fine (s m : Int) : Bool := decide (0 ≤ s ∧ s ≤ 18 ∧ 0 ≤ m ∧ m < 2 ^ extra s)
def many (s m : Int) : Int := if s = 16 ∨ s = 17 then 3 + m else if s = 18 then 11 + m else 1
def lastOf (out : List Int) : Int := out.getLast?.getD 0
def sym (s : Int) (out : List Int) : Int := if s = 17 ∨ s = 18 then 0 else if s = 16 then lastOf out else s
def unp (n : Int) : List (Int × Int) → List Int → List Int × Int
  | [], out => if (out.length : Int) < n then ([], 3) else (out, 0)
  | (s, m) :: r, out => if fine s m = false then ([], 2) else if many s m > n - out.length then ([], 4) else unp n r (out ++ List.replicate (many s m).toNat (sym s out))
def unpack (l : List (Int × Int)) (n : Int) : List Int × Int := if n < 0 ∨ 1024 < n then ([], 1) else unp n l []

/-- How many of the same a list begins with. -/
def rowN (l : List Int) : Nat := (l.takeWhile (fun x => x = l.headD 0)).length
theorem rowN_le (l : List Int) : rowN l ≤ l.length := by
  unfold rowN
  exact (List.takeWhile_sublist _).length_le
theorem rowN_pos (x : Int) (l : List Int) : 1 ≤ rowN (x :: l) := by simp [rowN]
theorem rowN_at (l : List Int) (i : Nat) (h : i < rowN l) : l[i]? = some (l.headD 0) := by
  unfold rowN at h
  have hp := List.takeWhile_prefix (l := l) (fun x => x = l.headD 0)
  have h2 : (l.takeWhile (fun x => x = l.headD 0))[i]? = l[i]? := by
    obtain ⟨t, ht⟩ := hp
    conv => rhs; rw [← ht]
    rw [List.getElem?_append_left h]
  rw [← h2, List.getElem?_eq_getElem h]
  have := List.all_eq_true.1 (List.all_takeWhile (p := fun x => decide (x = l.headD 0)) (l := l)) _ (List.getElem_mem h)
  rw [of_decide_eq_true this]

theorem tw_stop (p : Int → Bool) : ∀ l : List Int, (l.takeWhile p).length < l.length → ∃ y, l[(l.takeWhile p).length]? = some y ∧ p y = false := by
  intro l
  induction l with
  | nil => intro h; simp at h
  | cons a r ih =>
    intro h
    by_cases ha : p a = true
    · rw [List.takeWhile_cons_of_pos ha] at h ⊢
      obtain ⟨y, h1, h2⟩ := ih (by simpa using h)
      exact ⟨y, by simpa using h1, h2⟩
    · rw [List.takeWhile_cons_of_neg ha]
      exact ⟨a, rfl, by simpa using ha⟩
/-- How many of the same: told by what stands there. -/
theorem rowN_eq (l : List Int) (k : Nat) (h1 : k ≤ l.length) (h2 : ∀ i, i < k → l.getD i 0 = l.headD 0) (h3 : k < l.length → l.getD k 0 ≠ l.headD 0) : k = rowN l := by
  rcases Nat.lt_trichotomy k (rowN l) with c | c | c
  · have := rowN_at l k c
    have hk : k < l.length := Nat.lt_of_lt_of_le c (rowN_le l)
    exact absurd (by simp only [List.getD, this, Option.getD_some]) (h3 hk)
  · exact c
  · obtain ⟨y, e1, e2⟩ := tw_stop (fun x => decide (x = l.headD 0)) l (Nat.lt_of_lt_of_le c h1)
    have := h2 (rowN l) c
    have e3 : l[rowN l]? = some y := e1
    simp only [List.getD, e3, Option.getD_some] at this
    have := of_decide_eq_false e2
    contradiction
/-- The run that a list begins with, and how many lengths it is. -/
def first (l : List Int) (last : Int) : (Int × Int) × Nat :=
  let x := l.headD 0
  let k := rowN l
  if x = 0 ∧ 11 ≤ k then ((18, (min k 138 : Nat) - 11), min k 138)
  else if x = 0 ∧ 3 ≤ k then ((17, (min k 10 : Nat) - 3), min k 10)
  else if x ≠ 0 ∧ x = last ∧ 3 ≤ k then ((16, (min k 6 : Nat) - 3), min k 6)
  else ((x, 0), 1)
theorem first_cons (x : Int) (t : List Int) (last : Int) : first (x :: t) last = if x = 0 ∧ 11 ≤ rowN (x :: t) then ((18, ((min (rowN (x :: t)) 138 : Nat) : Int) - 11), min (rowN (x :: t)) 138)
  else if x = 0 ∧ 3 ≤ rowN (x :: t) then ((17, ((min (rowN (x :: t)) 10 : Nat) : Int) - 3), min (rowN (x :: t)) 10)
  else if x ≠ 0 ∧ x = last ∧ 3 ≤ rowN (x :: t) then ((16, ((min (rowN (x :: t)) 6 : Nat) : Int) - 3), min (rowN (x :: t)) 6)
  else ((x, 0), 1) := rfl
theorem first_k (x : Int) (l : List Int) (last : Int) : 1 ≤ (first (x :: l) last).2 ∧ (first (x :: l) last).2 ≤ rowN (x :: l) := by
  have := rowN_pos x l
  unfold first
  dsimp only
  split
  · dsimp only; omega
  · split
    · dsimp only; omega
    · split
      · dsimp only; omega
      · exact ⟨Nat.le_refl _, this⟩
/-- The runs of lengths. -/
def pk (last : Int) (l : List Int) : List (Int × Int) :=
  match l with
  | [] => []
  | x :: t => (first (x :: t) last).1 :: pk x ((x :: t).drop (first (x :: t) last).2)
termination_by l.length
decreasing_by
  have := (first_k x t last).1
  simp only [List.length_drop, List.length_cons]
  omega
theorem pk_nil (last : Int) : pk last [] = [] := by rw [pk]
theorem pk_cons (last x : Int) (t : List Int) : pk last (x :: t) = (first (x :: t) last).1 :: pk x ((x :: t).drop (first (x :: t) last).2) := by rw [pk]
def good (l : List Int) : Bool := l.all fun x => decide (0 ≤ x ∧ x ≤ 15)
def pack (l : List Int) : List (Int × Int) := if good l then pk (-1) l else []

/-- What a first run stands for. -/
theorem first_ok (x : Int) (t : List Int) (last : Int) (hx : 0 ≤ x ∧ x ≤ 15) :
    fine (first (x :: t) last).1.1 (first (x :: t) last).1.2 = true ∧ many (first (x :: t) last).1.1 (first (x :: t) last).1.2 = (first (x :: t) last).2 ∧
    ((first (x :: t) last).1.1 = 17 ∨ (first (x :: t) last).1.1 = 18 → x = 0) ∧ ((first (x :: t) last).1.1 = 16 → x = last ∧ x ≠ 0) ∧
    ((first (x :: t) last).1.1 ≠ 16 → (first (x :: t) last).1.1 ≠ 17 → (first (x :: t) last).1.1 ≠ 18 → (first (x :: t) last).1.1 = x) := by
  have := rowN_pos x t
  rw [first_cons]
  generalize rowN (x :: t) = k at *
  by_cases c1 : x = 0 ∧ 11 ≤ k
  · rw [if_pos c1]
    refine ⟨?_, ?_, fun _ => c1.1, fun h2 => by simp at h2, fun _ _ h2 => by simp at h2⟩
    · simp [fine, extra]; omega
    · simp [many]; omega
  · rw [if_neg c1]
    by_cases c2 : x = 0 ∧ 3 ≤ k
    · rw [if_pos c2]
      refine ⟨?_, ?_, fun _ => c2.1, fun h2 => by simp at h2, fun _ h2 => by simp at h2⟩
      · simp [fine, extra]; omega
      · simp [many]; omega
    · rw [if_neg c2]
      by_cases c3 : x ≠ 0 ∧ x = last ∧ 3 ≤ k
      · rw [if_pos c3]
        refine ⟨?_, ?_, fun h2 => by simp at h2, fun _ => ⟨c3.2.1, c3.1⟩, fun h2 => by simp at h2⟩
        · simp [fine, extra]; omega
        · simp [many]; omega
      · rw [if_neg c3]
        refine ⟨?_, ?_, fun h2 => by simp at h2; omega, fun h2 => by simp at h2; omega, fun _ _ _ => rfl⟩
        · have e : extra x = 0 := by unfold extra; rw [if_neg (by omega), if_neg (by omega), if_neg (by omega)]
          simp [fine, e]; omega
        · unfold many; rw [if_neg (by simp; omega), if_neg (by simp; omega)]; rfl
theorem take_row (x : Int) (t : List Int) (k : Nat) (h : k ≤ rowN (x :: t)) : (x :: t).take k = List.replicate k x := by
  apply List.ext_getElem?
  intro i
  rw [List.getElem?_take, List.getElem?_replicate]
  split
  · rename_i hi
    have := rowN_at (x :: t) i (by omega)
    simpa using this
  · rfl
/-- What is packed is unpacked as it was. -/
theorem unp_pk (N : Nat) : ∀ (l out : List Int) (last : Int) (n : Int), l.length ≤ N → (∀ x ∈ l, 0 ≤ x ∧ x ≤ 15) → (out = [] → last = -1) → (out ≠ [] → lastOf out = last) → n = (out.length + l.length : Nat) →
    unp n (pk last l) out = (out ++ l, 0) := by
  induction N with
  | zero =>
    intro l out last n hl _ _ _ hn
    have : l = [] := List.eq_nil_of_length_eq_zero (by omega)
    subst this
    rw [pk_nil]
    unfold unp
    rw [if_neg (by simp at hn; omega), List.append_nil]
  | succ N ih =>
    intro l out last n hl hg h0 h1 hn
    cases l with
    | nil =>
      rw [pk_nil]
      unfold unp
      rw [if_neg (by simp at hn; omega), List.append_nil]
    | cons x t =>
      have hx := hg x (by simp)
      have hk := first_k x t last
      obtain ⟨f1, f2, f3, f4, f5⟩ := first_ok x t last hx
      have hr := rowN_le (x :: t)
      rw [pk_cons]
      have hs : sym (first (x :: t) last).1.1 out = x := by
        unfold sym
        by_cases c1 : (first (x :: t) last).1.1 = 17 ∨ (first (x :: t) last).1.1 = 18
        · rw [if_pos c1, f3 c1]
        · rw [if_neg c1]
          by_cases c2 : (first (x :: t) last).1.1 = 16
          · rw [if_pos c2]
            obtain ⟨e1, e2⟩ := f4 c2
            by_cases ho : out = []
            · have := h0 ho; omega
            · rw [h1 ho, e1]
          · rw [if_neg c2, f5 c2 (by omega) (by omega)]
      have ht := take_row x t _ hk.2
      generalize hF : first (x :: t) last = F at *
      obtain ⟨⟨s, m⟩, k⟩ := F
      simp only at hk f1 f2 hs ht ⊢
      unfold unp
      rw [if_neg (by rw [f1]; simp), if_neg (by rw [f2, hn]; omega), hs, f2, show (k : Int).toNat = k from by omega, ← ht]
      rw [ih ((x :: t).drop k) (out ++ (x :: t).take k) x n (by rw [List.length_drop]; simp only [List.length_cons] at hl ⊢; omega) (fun y hy => hg y (List.mem_of_mem_drop hy)) ?_ ?_ ?_]
      · rw [List.append_assoc, List.take_append_drop]
      · intro h
        rw [ht] at h
        have h2 := List.append_eq_nil_iff.1 h
        have := (List.replicate_eq_nil_iff x).1 h2.2
        omega
      · intro _
        rw [ht]
        unfold lastOf
        rw [List.getLast?_append, List.getLast?_replicate, if_neg (by omega)]
        rfl
      · rw [hn, List.length_append, List.length_take, List.length_drop]
        congr 1
        omega
theorem pk_length (N : Nat) : ∀ (l : List Int) (last : Int), l.length ≤ N → (pk last l).length ≤ l.length := by
  induction N with
  | zero =>
    intro l last hl
    have : l = [] := List.eq_nil_of_length_eq_zero (by omega)
    subst this
    rw [pk_nil]; exact Nat.le_refl _
  | succ N ih =>
    intro l last hl
    cases l with
    | nil => rw [pk_nil]; exact Nat.le_refl _
    | cons x t =>
      have hk := first_k x t last
      rw [pk_cons, List.length_cons]
      have := ih ((x :: t).drop (first (x :: t) last).2) x (by rw [List.length_drop]; simp only [List.length_cons] at hl ⊢; omega)
      rw [List.length_drop] at this
      simp only [List.length_cons] at this ⊢
      omega
end Go.Proofs.Ytjmenlffhoodeac.Runs
