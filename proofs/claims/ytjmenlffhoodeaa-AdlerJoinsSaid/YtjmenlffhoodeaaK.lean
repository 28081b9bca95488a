/- Small words of this seat's walks: a fact laid aside, and that new memory alone was made. -/
import Derived.WalkKit
import Derived.WalkSpells
import Derived.WalkLawsBesides
import Derived.Lib.Hide
import Derived.Deep.QuietTactic
import Derived.BigQuiet
import Derived.Deep.Draws
import Derived.ProofKit
import Derived.OpenShut
namespace Go.Proofs.Ytjmenlffhoodeaa
open Go.RowKit

/-- A fact laid aside: no rule of the walk. -/
structure Aside (p : Prop) : Prop where mk :: (out : p)

theorem ret_int {k : IntKind} {a b : Int} (h : a = b) : Ending.returned (.int k a) = .returned (.int k b) := by rw [h]
theorem ret_bool {a b : Bool} (h : a = b) : Ending.returned (.bool a) = .returned (.bool b) := by rw [h]
theorem ret_two {k l : IntKind} {a b c d : Int} (h : a = b) (h2 : c = d) : Ending.returned (.tuple #[.int k a, .int l c]) = .returned (.tuple #[.int k b, .int l d]) := by rw [h, h2]

theorem bl_refl (w : World) : Below w.heap.size w w := Below.refl _ _
theorem bl_alloc {a w : World} (h : Below a.heap.size a w) (o : Obj) : Below a.heap.size a (w.alloc o) := h.alloc h.size o
theorem bl_drew {a w : World} (h : Below a.heap.size a w) : Below a.heap.size a w.drew := h.drew
theorem bl_drewN {a w : World} (h : Below a.heap.size a w) (n : Nat) : Below a.heap.size a (w.drewN n) := ⟨h.os, h.tape, h.output, h.size, h.block⟩
theorem bl_set {a w : World} (h : Below a.heap.size a w) {p : Addr} (hp : a.heap.size ≤ p.block) (u : Value) : Below a.heap.size a (w.setCell p u) := h.setCell hp u
theorem bl_step {a w w2 : World} (h : Below a.heap.size a w) (h2 : Below w.heap.size w w2) : Below a.heap.size a w2 := h.trans (h2.mono h.size)
/-- The world of a call that only draws. -/
def Drawn (w w' : World) : Prop := ∃ n, w' = w.drewN n
theorem bl_drawn {a w w2 : World} (h : Below a.heap.size a w) (h2 : Drawn w w2) : Below a.heap.size a w2 := by
  obtain ⟨n, rfl⟩ := h2; exact bl_drewN h n

theorem i64_bd {n : Int} (w0 : (Lit.int .i64 n).wf = true) : -9223372036854775808 ≤ n ∧ n ≤ 9223372036854775807 := by
  simp only [Lit.wf, Bool.and_eq_true, decide_eq_true_eq] at w0; exact w0
theorem u32_bd {n : Int} (w0 : (Lit.int .u32 n).wf = true) : 0 ≤ n ∧ n ≤ 4294967295 := by
  simp only [Lit.wf, Bool.and_eq_true, decide_eq_true_eq] at w0; exact w0
theorem u16_bd {n : Int} (w0 : (Lit.int .u16 n).wf = true) : 0 ≤ n ∧ n ≤ 65535 := by
  simp only [Lit.wf, Bool.and_eq_true, decide_eq_true_eq] at w0; exact w0
theorem u8_bd {n : Int} (w0 : (Lit.int .u8 n).wf = true) : 0 ≤ n ∧ n ≤ 255 := by
  simp only [Lit.wf, Bool.and_eq_true, decide_eq_true_eq] at w0; exact w0

section
open Go.ChangeShapes Go.WideShapes Go.ChangeAt
theorem list2 {α : Type} (l : List α) (h : l.length = 2) : ∃ a b, l = [a, b] := by
  match l, h with
  | [a, b], _ => exact ⟨a, b, rfl⟩
/-- An array of two integers that came in by value: written out. -/
theorem open_arr2 {H : Type} {enc : TypeId × Value → H} {P : Program} {w : World} {base : Nat} {spare : Nat → Bool} {held : Bool} {r : Reach} {b0 : Nat} {t e : TypeId} {k : IntKind} {v : Value} {d : DataW H} {p : List MemPlace}
    (ht : P.underlying t = some (.array 2 e)) (he : P.underlying e = some (.int k)) (hce : P.cellsOf e = 1) (hct : P.cellsOf t = 2)
    (hv : Value.okWide P w r b0 t v) (h : DataW.Trod enc P w base spare held t v d p) :
    ∃ a b, v = .agg #[.int k a, .int k b] ∧ (Lit.int k a).wf = true ∧ (Lit.int k b).wf = true := by
  obtain ⟨cs, rfl, hsz, _⟩ : ∃ cs, v = .agg cs ∧ cs.size = P.cellsOf t ∧ Row.okWide P w r b0 t cs := by
    have := hv
    simpa [Value.okWide, ht] using this
  rw [hct] at hsz
  obtain ⟨l⟩ := cs
  obtain ⟨c0, c1, rfl⟩ := list2 l hsz
  obtain ⟨fuel, hf⟩ := h
  obtain ⟨xs, m, _, _, _, _, hxs⟩ := DataW.trod_array ht hf
  have h0 := hxs 0 (by omega)
  have h1 := hxs 1 (by omega)
  simp [Value.cells, hce] at h0 h1
  have g0 : ∃ y, DataW.trod enc P w base spare held m e [c0] = some y := by
    rw [h0]; exact ⟨_, List.getElem?_eq_getElem (by omega)⟩
  have g1 : ∃ y, DataW.trod enc P w base spare held m e [c1] = some y := by
    rw [h1]; exact ⟨_, List.getElem?_eq_getElem (by omega)⟩
  obtain ⟨y0, g0⟩ := g0
  obtain ⟨y1, g1⟩ := g1
  obtain ⟨x0, e0, _, w0⟩ := DataW.trod_int he g0
  obtain ⟨x1, e1, _, w1⟩ := DataW.trod_int he g1
  simp at e0 e1
  subst e0 e1
  exact ⟨x0, x1, rfl, w0, w1⟩
end
end Go.Proofs.Ytjmenlffhoodeaa
