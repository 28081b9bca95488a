/- Small words of this seat's walks: a fact laid aside, and that new memory alone was made. -/
import Derived.WalkKit
import Derived.WalkSpells
import Derived.WalkLawsBesides
import Derived.Lib.Hide
import Derived.Deep.QuietTactic
import Derived.BigQuiet
import Derived.Deep.Draws
import Derived.ProofKit
import Derived.OpenShut
import Derived.Lib.ConvBytes
import Derived.Deep.AppendLies
import Derived.Maps.AppendAt
import Derived.Laws.OwnMore
import Derived.OwnWalk
namespace Go.Proofs.Ytjmenlffhoodeac
open Go.RowKit

/-- A fact laid aside: no rule of the walk. -/
structure Aside (p : Prop) : Prop where mk :: (out : p)

theorem ret_int {k : IntKind} {a b : Int} (h : a = b) : Ending.returned (.int k a) = .returned (.int k b) := by rw [h]
theorem ret_bool {a b : Bool} (h : a = b) : Ending.returned (.bool a) = .returned (.bool b) := by rw [h]
theorem ret_two {k l : IntKind} {a b c d : Int} (h : a = b) (h2 : c = d) : Ending.returned (.tuple #[.int k a, .int l c]) = .returned (.tuple #[.int k b, .int l d]) := by rw [h, h2]

theorem bl_refl (w : World) : Below w.heap.size w w := Below.refl _ _
theorem bl_alloc {a w : World} (h : Below a.heap.size a w) (o : Obj) : Below a.heap.size a (w.alloc o) := h.alloc h.size o
theorem bl_drew {a w : World} (h : Below a.heap.size a w) : Below a.heap.size a w.drew := h.drew
theorem bl_drewN {a w : World} (h : Below a.heap.size a w) (n : Nat) : Below a.heap.size a (w.drewN n) := ⟨h.os, h.tape, h.output, h.size, h.block⟩
theorem bl_set {a w : World} (h : Below a.heap.size a w) {p : Addr} (hp : a.heap.size ≤ p.block) (u : Value) : Below a.heap.size a (w.setCell p u) := h.setCell hp u
theorem bl_step {a w w2 : World} (h : Below a.heap.size a w) (h2 : Below w.heap.size w w2) : Below a.heap.size a w2 := h.trans (h2.mono h.size)
/-- The world of a call that only draws. -/
def Drawn (w w' : World) : Prop := ∃ n, w' = w.drewN n
theorem bl_drawn {a w w2 : World} (h : Below a.heap.size a w) (h2 : Drawn w w2) : Below a.heap.size a w2 := by
  obtain ⟨n, rfl⟩ := h2; exact bl_drewN h n

theorem i64_bd {n : Int} (w0 : (Lit.int .i64 n).wf = true) : -9223372036854775808 ≤ n ∧ n ≤ 9223372036854775807 := by
  simp only [Lit.wf, Bool.and_eq_true, decide_eq_true_eq] at w0; exact w0
theorem u32_bd {n : Int} (w0 : (Lit.int .u32 n).wf = true) : 0 ≤ n ∧ n ≤ 4294967295 := by
  simp only [Lit.wf, Bool.and_eq_true, decide_eq_true_eq] at w0; exact w0
theorem u16_bd {n : Int} (w0 : (Lit.int .u16 n).wf = true) : 0 ≤ n ∧ n ≤ 65535 := by
  simp only [Lit.wf, Bool.and_eq_true, decide_eq_true_eq] at w0; exact w0
theorem u8_bd {n : Int} (w0 : (Lit.int .u8 n).wf = true) : 0 ≤ n ∧ n ≤ 255 := by
  simp only [Lit.wf, Bool.and_eq_true, decide_eq_true_eq] at w0; exact w0

section
open Go.ChangeShapes Go.WideShapes Go.ChangeAt
theorem list2 {α : Type} (l : List α) (h : l.length = 2) : ∃ a b, l = [a, b] := by
  match l, h with
  | [a, b], _ => exact ⟨a, b, rfl⟩
/-- An array of two integers that came in by value: written out. -/
theorem open_arr2 {H : Type} {enc : TypeId × Value → H} {P : Program} {w : World} {base : Nat} {spare : Nat → Bool} {held : Bool} {r : Reach} {b0 : Nat} {t e : TypeId} {k : IntKind} {v : Value} {d : DataW H} {p : List MemPlace}
    (ht : P.underlying t = some (.array 2 e)) (he : P.underlying e = some (.int k)) (hce : P.cellsOf e = 1) (hct : P.cellsOf t = 2)
    (hv : Value.okWide P w r b0 t v) (h : DataW.Trod enc P w base spare held t v d p) :
    ∃ a b, v = .agg #[.int k a, .int k b] ∧ (Lit.int k a).wf = true ∧ (Lit.int k b).wf = true := by
  obtain ⟨cs, rfl, hsz, _⟩ : ∃ cs, v = .agg cs ∧ cs.size = P.cellsOf t ∧ Row.okWide P w r b0 t cs := by
    have := hv
    simpa [Value.okWide, ht] using this
  rw [hct] at hsz
  obtain ⟨l⟩ := cs
  obtain ⟨c0, c1, rfl⟩ := list2 l hsz
  obtain ⟨fuel, hf⟩ := h
  obtain ⟨xs, m, _, _, _, _, hxs⟩ := DataW.trod_array ht hf
  have h0 := hxs 0 (by omega)
  have h1 := hxs 1 (by omega)
  simp [Value.cells, hce] at h0 h1
  have g0 : ∃ y, DataW.trod enc P w base spare held m e [c0] = some y := by
    rw [h0]; exact ⟨_, List.getElem?_eq_getElem (by omega)⟩
  have g1 : ∃ y, DataW.trod enc P w base spare held m e [c1] = some y := by
    rw [h1]; exact ⟨_, List.getElem?_eq_getElem (by omega)⟩
  obtain ⟨y0, g0⟩ := g0
  obtain ⟨y1, g1⟩ := g1
  obtain ⟨x0, e0, _, w0⟩ := DataW.trod_int he g0
  obtain ⟨x1, e1, _, w1⟩ := DataW.trod_int he g1
  simp at e0 e1
  subst e0 e1
  exact ⟨x0, x1, rfl, w0, w1⟩
end

/-! ### Bytes -/
def byt (s : ByteArray) (i : Nat) : Int := ((s.data.getD i 0).toNat : Int)
theorem byt_bd (s : ByteArray) (i : Nat) : 0 ≤ byt s i ∧ byt s i ≤ 255 := by
  unfold byt
  have := (s.data.getD i 0).toNat_lt
  omega
/-- A part of a row: its bytes. -/
theorem byt_extract (s : ByteArray) (o n i : Nat) (h : i < n) (hn : o + n ≤ s.size) : byt (s.extract o (o + n)) i = byt s (o + i) := by
  unfold byt
  have h2 : n ≤ s.data.size - o := by have : s.data.size = s.size := rfl; omega
  have : (s.extract o (o + n)).data.getD i 0 = s.data.getD (o + i) 0 := by
    rw [ByteArray.data_extract]
    simp only [Array.getD_eq_getD_getElem?, Array.getElem?_extract]
    rw [if_pos (by simp; omega)]
  rw [this]

theorem byt_append_left (s t : ByteArray) (i : Nat) (h : i < s.size) : byt (s ++ t) i = byt s i := by
  unfold byt
  have : (s ++ t).data = s.data ++ t.data := by simp
  rw [this]
  simp only [Array.getD_eq_getD_getElem?]
  rw [Array.getElem?_append_left h]
theorem byt_append_right (s t : ByteArray) (i : Nat) : byt (s ++ t) (s.size + i) = byt t i := by
  unfold byt
  have : (s ++ t).data = s.data ++ t.data := by simp
  rw [this]
  simp only [Array.getD_eq_getD_getElem?]
  rw [Array.getElem?_append_right (by show s.data.size ≤ _; have : s.data.size = s.size := rfl; omega)]
  have e : s.size + i - s.data.size = i := by have : s.data.size = s.size := rfl; omega
  rw [e]
theorem run_idx {P : Program} (t : TypeId) (s : ByteArray) (k : IntKind) (i : Int) (q : Nat) (hi : i = q) (hq : q < s.size) (h : P.underlying t = some .string) :
    ∀ w, (Instr.index t (.string s) (.int k i)).run P w = .ok (.int .u8 (byt s q)) w := by
  intro w
  subst hi
  rw [run_index_string w t s k _ h]
  simp [hq, byt]
  rfl

theorem below_bytesWorld (w : World) (e : TypeId) (t : ByteArray) : Below w.heap.size w (Lib.bytesWorld w e t) :=
  ⟨rfl, rfl, rfl, by rw [Lib.bytesWorld_size]; omega, fun k hk => Lib.bytesWorld_at_old w e t k hk⟩
/-- '[]byte(t)': a new row that holds t's bytes. -/
theorem conv_bytes {P : Program} (w : World) (src dst e : TypeId) (t : ByteArray) (B : Nat) (hB : w.heap.size = B)
    (hs : P.underlying src = some .string) (hd : P.underlying dst = some (.slice e)) (he : P.underlying e = some (.int .u8)) :
    ∃ (cap : Nat) (W : World), (convert src dst (.string t)).run P w = .ok (.slice (some ⟨B, 0, none⟩) t.size cap) W ∧
      (∀ j, j < t.size → W.cell? ⟨B, j, none⟩ = some (.int .u8 (byt t j))) ∧ Below w.heap.size w W := by
  subst hB
  refine ⟨_, _, Lib.run_convert_string_bytes w src dst e t hs hd he, fun j hj => ?_, below_bytesWorld w e t⟩
  rw [Lib.bytesWorld_cell w e t j hj]
  simp [byt]

/-- The size of a string in a slot: a loop's measure. -/
def strSize : Value → Nat
  | .string t => t.size
  | _ => 0

/-! ### Slices of integers of the call's own -/
theorem below_grown {a w w1 : World} {e : TypeId} {sz n : Nat} {v : Value} {xs : List Value} (h : Below a.heap.size a w) (hown : w.ownsRow a.heap.size e sz v n xs) (hg : w.grownBy w1 v.ownBlock) : Below a.heap.size a w1 :=
  h.grown hg h.size (fun k hk => (hown.lt k hk).1)
/-- A slice value that reads as the integers xs, below block number B (nil, or at the head of a block). -/
def IntsAt (w : World) (B : Nat) (v : Value) (xs : List Int) : Prop :=
  (v = .slice none 0 0 ∧ xs = []) ∨
  ∃ g cap, v = .slice (some ⟨g, 0, none⟩) xs.length cap ∧ g < B ∧ xs.length ≤ cap ∧ cap ≤ maxLen ∧ ∀ i, i < xs.length → w.cell? ⟨g, i, none⟩ = some (.int .i64 (xs.getD i 0))
theorem intsAt_own {w : World} {base : Nat} {e : TypeId} {v : Value} {n : Nat} {xs : List Int} (h : w.ownsRow base e 1 v n (xs.map (Value.int .i64))) : IntsAt w w.heap.size v xs := by
  have hl : xs.length = n := by have := h.1; simpa using this
  have hlt := h.lt
  obtain ⟨_, ⟨rfl, rfl⟩ | ⟨g, cap, cur, rfl, hb, hh, hn, hc, hs, ht⟩⟩ := h
  · left; exact ⟨rfl, by simpa using hl⟩
  · right
    refine ⟨g, cap, by rw [hl], (hlt g rfl).2, by omega, hc, fun i hi => ?_⟩
    rw [cell_of_row w g i cur e (0, 0) hh]
    have h1 : (xs.map (Value.int .i64))[i]? = some (.int .i64 (xs.getD i 0)) := by
      rw [List.getElem?_map, List.getElem?_eq_getElem hi]
      simp [List.getD, List.getElem?_eq_getElem hi]
    rw [← ht, List.getElem?_take] at h1
    split at h1
    · rw [← Array.getElem?_toList]; exact h1
    · cases h1
theorem IntsAt.keep {w w' : World} {B : Nat} {v : Value} {xs : List Int} (h : IntsAt w B v xs) (hk : Below B w w') : IntsAt w' B v xs := by
  rcases h with h | ⟨g, cap, hv, hg, h1, h2, hc⟩
  · exact .inl h
  · exact .inr ⟨g, cap, hv, hg, h1, h2, fun i hi => by rw [hk.cell (p := ⟨g, i, none⟩) hg]; exact hc i hi⟩
theorem IntsAt.up {w : World} {B B' : Nat} {v : Value} {xs : List Int} (h : IntsAt w B v xs) (hB : B ≤ B') : IntsAt w B' v xs := by
  rcases h with h | ⟨g, cap, hv, hg, h1⟩
  · exact .inl h
  · exact .inr ⟨g, cap, hv, by omega, h1⟩
end Go.Proofs.Ytjmenlffhoodeac
