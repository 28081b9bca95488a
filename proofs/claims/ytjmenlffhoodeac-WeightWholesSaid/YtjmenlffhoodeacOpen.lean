/- Arguments that are slices of integers and of pairs, opened. -/
import Derived.Test.YtjmenlffhoodeacRuns8
import Derived.WalkKit
import Derived.ProofKit
import Derived.OpenShut
import Derived.Deep.SlicePairs
namespace Go.Proofs.Ytjmenlffhoodeac
open Go.RowKit Go.ChangeShapes Go.WideShapes Go.Deep

section
variable {H : Type} {enc : TypeId × Value → H} {P : Program} {w : World} {base : Nat} {spare : Nat → Bool} {held : Bool}
theorem openInts {r : Reach} {b0 : Nat} {t e : TypeId} {k : IntKind} {v : Value} {d : DataW H} {p : List MemPlace} (ht : P.underlying t = some (.slice e)) (he : P.underlying e = some (.int k)) (hc : P.cellsOf e = 1)
    (hv : Value.okWide P w r b0 t v) (h : DataW.Trod enc P w base spare held t v d p) :
    ∃ (A : Option Addr) (xs : List Int) (cap : Nat), v = .slice A xs.length cap ∧ xs.length ≤ cap ∧ cap ≤ maxLen ∧ (∀ i, i < xs.length → ∃ ad, A = some ad ∧ ad.block < w.heap.size ∧ w.cell? (ad.add i) = some (.int k (xs.getD i 0))) ∧ (∀ n ∈ xs, (Lit.int k n).wf = true) := by
  obtain ⟨A, len, cap, rfl⟩ := okWide_slice ht hv
  obtain ⟨fuel, hf⟩ := h
  rcases open_ints ht he hc hf with ⟨hcs, _⟩ | ⟨x, l, c, zs, hcs, _, hl, hm, hz, _, hcell, hwz⟩
  · simp [Value.cells] at hcs
    obtain ⟨rfl, rfl, rfl⟩ := hcs
    exact ⟨none, [], 0, rfl, by simp, by simp [maxLen], fun i hi => absurd hi (by simp), fun n hn => by simp at hn⟩
  · simp [Value.cells] at hcs
    obtain ⟨rfl, rfl, rfl⟩ := hcs
    have hlz : len ≤ zs.length := by rw [hz]; split <;> omega
    have hlt : (zs.take len).length = len := by rw [List.length_take]; omega
    refine ⟨some x, zs.take len, cap, by rw [hlt], by omega, hm, fun i hi => ?_, fun n hn => hwz n (List.mem_of_mem_take hn)⟩
    rw [hlt] at hi
    have hc1 := hcell i (by omega)
    refine ⟨x, rfl, ?_, ?_⟩
    · have := World.block_lt_of_cell? w _ hc1
      rwa [block_of_add] at this
    · rw [hc1]
      simp [List.getD, hi]
theorem openPairs {r : Reach} {b0 : Nat} {t e : TypeId} {f0 f1 : Field} {v : Value} {d : DataW H} {p : List MemPlace} (ht : P.underlying t = some (.slice e)) (he : P.underlying e = some (.struct #[f0, f1])) (ce : P.cellsOf e = 2) (o0 : f0.offset = 0) (o1 : f1.offset = 1)
    (h0 : P.underlying f0.type = some (.int .i64)) (h1 : P.underlying f1.type = some (.int .i64)) (c0 : P.cellsOf f0.type = 1) (c1 : P.cellsOf f1.type = 1)
    (hv : Value.okWide P w r b0 t v) (h : DataW.Trod enc P w base spare held t v d p) :
    ∃ rs : List (Int × Int), PairsG w w.heap.size v rs ∧ okRuns rs := by
  obtain ⟨A, len, cap, rfl⟩ := okWide_slice ht hv
  obtain ⟨fuel, hf⟩ := h
  rcases open_slice_pairs ht he ce o0 o1 c0 c1 hf with ⟨hcs, _⟩ | ⟨x, l, c, m, n, V0, V1, D0, D1, P0, P1, hcs, _, hl, hm, hmm, _, hi⟩
  · simp [Value.cells] at hcs
    obtain ⟨rfl, rfl, rfl⟩ := hcs
    exact ⟨[], ⟨none, 0, rfl, by simp, by simp [maxLen], fun i hi => absurd hi (by simp)⟩, fun r hr => by simp at hr⟩
  · simp [Value.cells] at hcs
    obtain ⟨rfl, rfl, rfl⟩ := hcs
    have hlm : len ≤ m := by rw [hmm]; split <;> omega
    have each : ∀ i, i < len → ∃ q : Int × Int, w.cell? (x.add (i * 2)) = some (.int .i64 q.1) ∧ w.cell? (x.add (i * 2 + 1)) = some (.int .i64 q.2) ∧ (-9223372036854775808 ≤ q.2 ∧ q.2 ≤ 9223372036854775807) := fun i hlt => by
      obtain ⟨a, b, ta, tb⟩ := hi i (by omega)
      obtain ⟨x0, e0, _, _⟩ := DataW.trod_int h0 ta
      obtain ⟨x1, e1, _, w1⟩ := DataW.trod_int h1 tb
      simp at e0 e1
      exact ⟨(x0, x1), by rw [a, e0], by rw [b, e1], i64_bd w1⟩
    have hq := fun i (hlt : i < len) => Classical.choose_spec (each i hlt)
    refine ⟨(List.range len).map fun i => if hlt : i < len then Classical.choose (each i hlt) else (0, 0), ⟨some x, cap, by simp, by simpa using hl, hm, fun i hlt => ?_⟩, fun r hr => ?_⟩
    · simp at hlt
      have := hq i hlt
      have hget : ((List.range len).map fun i => if hlt : i < len then Classical.choose (each i hlt) else (0, 0)).getD i (0, 0) = Classical.choose (each i hlt) := by
        simp [List.getD, hlt]
      rw [hget]
      refine ⟨x, rfl, ?_, this.1, this.2.1⟩
      have h := World.block_lt_of_cell? w _ this.1
      rwa [block_of_add] at h
    · obtain ⟨i, hir, e⟩ := List.mem_map.1 hr
      have hlt : i < len := List.mem_range.1 hir
      rw [dif_pos hlt] at e
      subst e
      exact (hq i hlt).2.2
end
theorem runsPacks_walk0 (xs : List Int) (A : Option Addr) (cap : Nat) (rs : List (Int × Int)) (v : Value) (n : Int) (w : World) (h : IntsG w w.heap.size A xs) (hl : xs.length ≤ cap) (hc : cap ≤ maxLen)
    (hp : PairsG w w.heap.size v rs) (hok : okRuns rs) (_hn : (Lit.int .i64 n).wf = true) : Calls Try.prog 3 #[.slice A xs.length cap, v, .int .i64 n] w fun e w' => e = .returned (.bool true) ∧ Below w.heap.size w w' := runsPacks_walk xs A cap rs v n w h hl hc hp hok
end Go.Proofs.Ytjmenlffhoodeac
