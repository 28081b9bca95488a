/- Maps from two bytes to places, rows of integers, and what a call may have turned. -/
import Derived.Test.YtjmenlffhoodeaaFind1
import Derived.Maps.OwnOps
import Derived.Maps.Views
import Derived.WideKeyArr
namespace Go.Proofs.Ytjmenlffhoodeaa
open Go.RowKit

/-- A row of n integers that L tells. -/
def rowI (L : Nat → Int) (n : Nat) : Array Value := (Array.range n).map fun i => Value.int .i64 (L i)
theorem rowI_size (f : Nat → Int) (n : Nat) : (rowI f n).size = n := by simp [rowI]
theorem rowI_at (f : Nat → Int) (n i : Nat) (h : i < n) : (rowI f n)[i]? = some (.int .i64 (f i)) := by simp [rowI, h]
theorem rowI_congr (f g : Nat → Int) (n : Nat) (h : ∀ i, i < n → f i = g i) : rowI f n = rowI g n := by
  apply Array.ext_getElem?
  intro j
  by_cases hj : j < n
  · rw [rowI_at f n j hj, rowI_at g n j hj, h j hj]
  · rw [Array.getElem?_eq_none (by rw [rowI_size]; omega), Array.getElem?_eq_none (by rw [rowI_size]; omega)]
theorem rowI_set (f : Nat → Int) (n i : Nat) (x : Int) : (rowI f n).setIfInBounds i (.int .i64 x) = rowI (fun j => if j = i then x else f j) n := by
  apply Array.ext_getElem?
  intro j
  rw [Array.getElem?_setIfInBounds]
  by_cases hj : j < n
  · rw [rowI_at _ n j hj]
    by_cases e : i = j
    · subst e; rw [if_pos rfl, if_pos (by rw [rowI_size]; exact hj), rowI_at _ n i hj, if_pos rfl]
    · rw [if_neg e, rowI_at _ n j hj, if_neg (fun h => e h.symm)]
  · have hz : (rowI (fun j => if j = i then x else f j) n)[j]? = none := Array.getElem?_eq_none (by rw [rowI_size]; omega)
    rw [hz]
    by_cases e : i = j
    · subst e; rw [if_pos rfl, if_neg (by rw [rowI_size]; omega)]
    · rw [if_neg e]; exact Array.getElem?_eq_none (by rw [rowI_size]; omega)
theorem rowI_zero (n : Nat) : madeCells #[.int .i64 0] n = rowI (fun _ => 0) n := by
  apply Array.ext_getElem?
  intro j
  by_cases hj : j < n
  · rw [rowI_at _ n j hj, ← Array.getElem?_toList, toList_madeCells_one, List.getElem?_replicate, if_pos hj]
  · rw [Array.getElem?_eq_none (by rw [size_madeCells]; omega), Array.getElem?_eq_none (by rw [rowI_size]; omega)]

/-! ### The map -/
def key2 (x y : Nat) : Value := .agg #[.int .u8 (x : Int), .int .u8 (y : Int)]
theorem keys_arr : WideMaps.ArrKey Try.prog 69 5 2 := ⟨Try.underlying69, by kernel_rfl, by kernel_rfl, by kernel_rfl⟩
theorem keyed69 : Maps.Keyed Try.prog 69 := Maps.Keyed.of_law keys_arr.law
theorem types_size : Try.prog.types.size = 97 + 1 := by kernel_rfl
theorem cells69 : Try.prog.cellsOf 69 = 2 := by kernel_rfl
theorem cells5 : Try.prog.cellsOf 5 = 1 := by kernel_rfl
theorem lits5 (d x : Nat) (hx : x < 256) : Try.prog.keyLits (d + 1) 5 [.int .u8 (x : Int)] = some [.int .u8 (x : Int)] := by
  have : (Lit.int .u8 (x : Int)).wf = true := by simp [Lit.wf, IntKind.min, IntKind.max, IntKind.signed, IntKind.bits]; omega
  simp [Program.keyLits, Try.underlying5, this]
theorem key2_lit (x y : Nat) (hx : x < 256) (hy : y < 256) : ∃ l, keyOf Try.prog 69 (key2 x y) = some l := by
  unfold keyOf
  rw [Try.underlying69]
  have hk : Try.prog.keyType 69 = true := keys_arr.keyType ⟨97, types_size⟩
  have hf : (key2 x y).formed Try.prog 69 = true := by simp [Value.formed, key2, Try.underlying69, cells69]
  have hl : Try.prog.keyLits (Try.prog.types.size + 1) 69 (key2 x y).cells.toList = some [.int .u8 (x : Int), .int .u8 (y : Int)] := by
    rw [types_size]
    unfold Program.keyLits
    rw [Try.underlying69]
    simp [key2, Value.cells, cells69, cells5, List.range_succ, lits5 97 x hx, lits5 97 y hy]
  simp only [hk, hf, hl, Bool.and_self, if_true, Option.map_some]
  exact ⟨_, rfl⟩
theorem key2_inj {x y x' y' : Nat} (h : key2 x y = key2 x' y') : x = x' ∧ y = y' := by
  simp only [key2, Value.agg.injEq, Array.mk.injEq, List.cons.injEq, Value.int.injEq, true_and] at h
  omega
/-- Block b is a map of at most n entries that tells of two bytes what F tells. -/
def MapAt (w : World) (b n : Nat) (F : Nat → Nat → Option Nat) : Prop :=
  ∃ D : DataW Unit, w.ownsMap Try.prog 69 (plainElem Try.prog 3) b n D ∧ Maps.IsMap D ∧
    ∀ x y, x < 256 → y < 256 → ∀ l, keyOf Try.prog 69 (key2 x y) = some l → ∀ z, D.atKey l z = match F x y with | none => z | some v => .lit (.int .i64 (v : Int))
theorem MapAt.new (w : World) : MapAt (w.alloc (.map #[] 0)) w.heap.size 0 (fun _ _ => none) :=
  ⟨.map [], World.ownsMap_made w _ _ _, Maps.isMap_empty, fun _ _ _ _ _ _ _ => rfl⟩
theorem MapAt.lt {w : World} {b n : Nat} {F : Nat → Nat → Option Nat} (h : MapAt w b n F) : b < w.heap.size := by
  obtain ⟨D, h1, _⟩ := h
  exact h1.lt
theorem MapAt.of_heap {w w' : World} {b n : Nat} {F : Nat → Nat → Option Nat} (h : MapAt w b n F) (he : w'.heap[b]? = w.heap[b]?) : MapAt w' b n F := by
  obtain ⟨D, ⟨es, clock, h1, h2⟩, h3⟩ := h
  exact ⟨D, ⟨es, clock, he.trans h1, h2⟩, h3⟩
theorem MapAt.ne {w : World} {b n g : Nat} {t : TypeId} {cs : Array Value} {F : Nat → Nat → Option Nat} (h : MapAt w b n F) (hg : Blk w g t cs) : g ≠ b := by
  obtain ⟨D, ⟨es, clock, h1, _⟩, _⟩ := h
  rintro rfl
  unfold Blk at hg
  rw [h1] at hg
  cases hg
theorem MapAt.lookup {w : World} {b n : Nat} {F : Nat → Nat → Option Nat} (h : MapAt w b n F) (x y : Nat) (hx : x < 256) (hy : y < 256) (hz : (zeroValue 3).run Try.prog w = .ok (.int .i64 0) w) :
    (Instr.lookup 65 (.map (some b)) (key2 x y) true).run Try.prog w = .ok (.tuple #[.int .i64 (((F x y).getD 0 : Nat) : Int), .bool (F x y).isSome]) w := by
  obtain ⟨D, ⟨es, clock, h1, h2, _, rfl⟩, _, h4⟩ := h
  obtain ⟨l, hl⟩ := key2_lit x y hx hy
  have hat := h4 x y hx hy l hl
  rcases Maps.fit_look true keyed69 Try.underlying65 hz h1 h2 hl with ⟨hrun, _, hn⟩ | ⟨e0, q, _, _, hrun, hR, hn, _⟩
  · rw [hrun]
    cases hF : F x y with
    | none => rfl
    | some v =>
      rw [hF] at hat
      have a1 := (hn (.lit (.bool true))).symm.trans (hat (.lit (.bool true)))
      cases a1
  · rw [hrun]
    cases hF : F x y with
    | none =>
      rw [hF] at hat
      have a1 := (hn (.lit (.bool true))).symm.trans (hat (.lit (.bool true)))
      have a2 := (hn (.lit (.bool false))).symm.trans (hat (.lit (.bool false)))
      rw [a1] at a2
      cases a2
    | some v =>
      rw [hF] at hat
      have a1 := (hn (.lit (.bool true))).symm.trans (hat (.lit (.bool true)))
      obtain ⟨a, he, hq, _⟩ := plainElem_int_inv Try.underlying3 hR
      rw [hq] at a1
      simp only [DataW.lit.injEq, Lit.int.injEq, true_and] at a1
      rw [he, a1]
      rfl
theorem MapAt.put {w : World} {b n : Nat} {F : Nat → Nat → Option Nat} (h : MapAt w b n F) (hn : n < maxLen) (x y v : Nat) (hx : x < 256) (hy : y < 256) (hv : v ≤ 9223372036854775807) :
    ∃ w', (Instr.mapUpdate 65 (.map (some b)) (key2 x y) (.int .i64 (v : Int))).run Try.prog w = .ok () w' ∧ MapAt w' b (n + 1) (fun p q => if p = x ∧ q = y then some v else F p q) ∧ w.grownBy w' (some b) := by
  obtain ⟨D, h1, h3, h4⟩ := h
  obtain ⟨l, hl⟩ := key2_lit x y hx hy
  have hw : (Lit.int .i64 (v : Int)).wf = true := by simp [Lit.wf, IntKind.min, IntKind.max, IntKind.signed, IntKind.bits]; omega
  obtain ⟨w', hrun, hown, hg⟩ := h1.update keyed69 Try.underlying65 hn hl (plainElem_int Try.underlying3 hw)
  refine ⟨w', hrun, ⟨_, hown, h3.put _ _, fun p q hp hq l' hl' z => ?_⟩, hg⟩
  by_cases e : p = x ∧ q = y
  · obtain ⟨rfl, rfl⟩ := e
    rw [hl] at hl'
    cases hl'
    rw [show (fun p' q' => if p' = p ∧ q' = q then some v else F p' q') p q = some v from if_pos ⟨rfl, rfl⟩]
    exact Maps.atKey_put_same h3 (keyed69.key hl) _ _
  · rw [show (fun p q => if p = x ∧ q = y then some v else F p q) p q = F p q from if_neg e]
    have hne : l' ≠ l := fun he => by
      subst he
      exact e (key2_inj (keyed69.inj hl' hl))
    rw [Maps.atKey_put_other hne]
    exact h4 p q hp hq l' hl' z
end Go.Proofs.Ytjmenlffhoodeaa
