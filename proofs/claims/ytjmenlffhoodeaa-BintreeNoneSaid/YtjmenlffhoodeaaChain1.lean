/- chain's New and At, walked; the words for a finder's memory. -/
import Derived.Test.YtjmenlffhoodeaaFind2
import Derived.Test.YtjmenlffhoodeaaFind4
import Derived.Test.YtjmenlffhoodeaaChainP
import Derived.Laws.MakeOwn
import Derived.Lib.MinMax
namespace Go.Proofs.Ytjmenlffhoodeaa
open Go.RowKit

/-- What a call leaves but for the blocks of S. -/
structure But (w w' : World) (S : Nat → Prop) : Prop where
  os : w'.os = w.os
  tape : w'.tape = w.tape
  output : w'.output = w.output
  size : w.heap.size ≤ w'.heap.size
  block : ∀ i, i < w.heap.size → ¬ S i → w'.heap[i]? = w.heap[i]?
section
variable {a w w' w2 : World} {S : Nat → Prop}
theorem But.refl (w : World) (S : Nat → Prop) : But w w S := ⟨rfl, rfl, rfl, Nat.le_refl _, fun _ _ _ => rfl⟩
theorem But.trans (h : But a w S) (k : But w w2 S) : But a w2 S :=
  ⟨k.os.trans h.os, k.tape.trans h.tape, k.output.trans h.output, Nat.le_trans h.size k.size, fun i hi hs => (k.block i (Nat.lt_of_lt_of_le hi h.size) hs).trans (h.block i hi hs)⟩
theorem But.of_below (h : Below w.heap.size w w') (S : Nat → Prop) : But w w' S := ⟨h.os, h.tape, h.output, h.size, fun i hi _ => h.block i hi⟩
theorem But.step (h : But a w S) (k : Below w.heap.size w w2) : But a w2 S := h.trans (But.of_below k S)
theorem But.alloc (h : But a w S) (o : Obj) : But a (w.alloc o) S := h.step (bl_alloc (Below.refl _ _) o)
theorem But.drewN (h : But a w S) (n : Nat) : But a (w.drewN n) S := h.step (bl_drewN (Below.refl _ _) n)
theorem But.drew (h : But a w S) : But a w.drew S := h.step (bl_drew (Below.refl _ _))
theorem But.set_ (h : But a w S) {p : Addr} (hp : S p.block ∨ a.heap.size ≤ p.block) (u : Value) : But a (w.setCell p u) S :=
  ⟨h.os, h.tape, h.output, by simpa [World.setCell] using h.size, fun i hi hs => (Below.heap_setCell w p u i (by
    rintro rfl
    rcases hp with hp | hp
    · exact hs hp
    · omega)).trans (h.block i hi hs)⟩
theorem But.grown (h : But a w S) {row : Option Nat} (hg : w.grownBy w' row) (hr : ∀ g, row = some g → S g ∨ a.heap.size ≤ g) : But a w' S :=
  ⟨hg.os.trans h.os, hg.tape.trans h.tape, hg.output.trans h.output, Nat.le_trans h.size hg.size, fun i hi hs => (hg.block i (Nat.lt_of_lt_of_le hi h.size) (fun e => by
    rcases hr i e.symm with h1 | h1
    · exact hs h1
    · omega)).trans (h.block i hi hs)⟩
theorem But.below (h : But w w' S) (hS : ∀ i, S i → a.heap.size ≤ i) (k : Below a.heap.size a w) : Below a.heap.size a w' :=
  ⟨h.os.trans k.os, h.tape.trans k.tape, h.output.trans k.output, Nat.le_trans k.size h.size, fun i hi => (h.block i (Nat.lt_of_lt_of_le hi k.size) (fun hs => by have := hS i hs; omega)).trans (k.block i hi)⟩
theorem Blk.but {g : Nat} {t : TypeId} {cs : Array Value} (h : Blk w g t cs) (hb : But w w' S) (hg : ¬ S g) : Blk w' g t cs := (hb.block g h.lt hg).trans h
end
theorem PairsAt.but {w w' : World} {S : Nat → Prop} {B : Nat} {v : Value} {xs : List (Int × Int)} (h : PairsAt w B v xs) (hB : B ≤ w.heap.size) (hk : But w w' S) (hv : ∀ g, v.ownBlock = some g → ¬ S g) : PairsAt w' B v xs := by
  rcases h with h | ⟨g, cap, rfl, hg, h1, h2, hc⟩
  · exact .inl h
  · have he := hk.block g (by omega) (hv g rfl)
    refine .inr ⟨g, cap, rfl, hg, h1, h2, fun i hi => ?_⟩
    have e : ∀ j, w'.cell? ⟨g, j, none⟩ = w.cell? ⟨g, j, none⟩ := fun j => by simp only [World.cell?, he]
    rw [e, e]
    exact hc i hi

/-- A finder of chain: its own block, its map and its links; so many places have been put in. -/
def ChainAt (w : World) (gF gM gL : Nat) (s : ByteArray) (win dep at_ q : Nat) : Prop :=
  Blk w gF 68 #[.string s, .int .i64 (win : Int), .int .i64 (dep : Int), .int .i64 (at_ : Int), .map (some gM), .slice (some ⟨gL, 0, none⟩) s.size s.size] ∧
  MapAt w gM q (fun x y => Find.last (bytN s) x y q) ∧ Blk w gL 3 (rowI (fun p => if p < q then Find.prev (bytN s) p else 0) s.size)
def ofF (gF gM gL : Nat) (i : Nat) : Prop := i = gF ∨ i = gM ∨ i = gL
theorem int_info : (Try.prog.info? 3).map (fun i => (i.zero, i.size, i.bytes)) = some (some (.int .i64 0), 1, 8) := by kernel_rfl
def winN (a : Int) : Nat := (max 1 (min a 67108864)).toNat
theorem winN_bd (a : Int) : 1 ≤ winN a ∧ winN a ≤ 67108864 := by unfold winN; omega

theorem run_make_ints (n : Nat) (hn : n ≤ 65536) (w : World) : (Instr.makeSlice 66 (.int .i64 (n : Int)) (.int .i64 (n : Int))).run Try.prog w = .ok (.slice (some ⟨w.heap.size, 0, none⟩) n n) (w.alloc (.cells (rowI (fun _ => 0) n) 3)) := by
  obtain ⟨i0, hi0, hz0, hz1, hz2⟩ := info_parts int_info
  have hr := run_make (P := Try.prog) w 66 3 i0 (.int .i64 0) Try.underlying66 hi0 hz0 .i64 .i64 n n (by omega) (by omega) (by rw [hz2]; omega) (by omega)
  simp only [Int.toNat_natCast] at hr
  rw [hr, hz1, Nat.mul_one, ← rowI_zero]
  rfl
theorem chainAt_new (w : World) (s : ByteArray) (win dep : Nat) :
    ChainAt (((w.alloc (.map #[] 0)).alloc (.cells (rowI (fun _ => 0) s.size) 3)).alloc (.cells #[.string s, .int .i64 (win : Int), .int .i64 (dep : Int), .int .i64 0, .map (some w.heap.size), .slice (some ⟨w.heap.size + 1, 0, none⟩) s.size s.size] 68))
      (w.heap.size + 2) w.heap.size (w.heap.size + 1) s win dep 0 0 := by
  have h2 := Blk.new (w.alloc (.map #[] 0)) 3 (rowI (fun _ => 0) s.size)
  have h3 := Blk.new ((w.alloc (.map #[] 0)).alloc (.cells (rowI (fun _ => 0) s.size) 3)) 68 #[.string s, .int .i64 (win : Int), .int .i64 (dep : Int), .int .i64 0, .map (some w.heap.size), .slice (some ⟨w.heap.size + 1, 0, none⟩) s.size s.size]
  have z1 : (w.alloc (.map #[] 0)).heap.size = w.heap.size + 1 := by simp
  have z2 : ((w.alloc (.map #[] 0)).alloc (.cells (rowI (fun _ => 0) s.size) 3)).heap.size = w.heap.size + 2 := by simp
  rw [z1] at h2
  rw [z2] at h3
  refine ⟨h3, ((MapAt.new w).of_heap (Below.heap_alloc _ _ _ (by rw [z1]; omega))).of_heap (Below.heap_alloc _ _ _ (by rw [z2]; omega)), ?_⟩
  rw [rowI_congr _ (fun _ => 0) _ (fun i _ => if_neg (by omega))]
  exact h2.alloc _
theorem new3_below (w : World) (a b c : Obj) : Below w.heap.size w (((w.alloc a).alloc b).alloc c) := bl_alloc (bl_alloc (bl_alloc (Below.refl _ _) a) b) c
set_option maxRecDepth 100000 in
set_option maxHeartbeats 2000000 in
theorem chainNew_any (s : ByteArray) (a : Int) (dep : Nat) (w : World) (hs : s.size ≤ 4000) (hd : 1 ≤ dep) (hd2 : dep ≤ 65536) :
    Calls Try.prog 33 #[.string s, .int .i64 a, .int .i64 (dep : Int)] w fun e w' => ∃ gF gM gL, e = .returned (.pointer (some ⟨gF, 0, none⟩)) ∧ ChainAt w' gF gM gL s (winN a) dep 0 0 ∧ Below w.heap.size w w' ∧ w.heap.size ≤ gF ∧ w.heap.size ≤ gM ∧ w.heap.size ≤ gL := by
  have hmk := run_make_ints s.size (by omega)
  have hmm := @run_makeMap Try.prog
  have h1 : max 1 (min a 67108864) = ((winN a : Nat) : Int) := by unfold winN; omega
  have h2 : max 1 (dep : Int) = (dep : Int) := by omega
  generalize winN a = n at h1
  go_enter Try.func33, Try.ntmps33
  go_wp2_with fail
  go_ret
  exact ⟨_, _, _, rfl, chainAt_new w s n dep, new3_below w _ _ _, by omega, Nat.le_refl _, by omega⟩

theorem fin6 {w : World} {g : Nat} {t : TypeId} {a b c d e f : Value} (h : Blk w g t #[a, b, c, d, e, f]) :
    w.cell? ⟨g, 0, none⟩ = some a ∧ w.cell? ⟨g, 1, none⟩ = some b ∧ w.cell? ⟨g, 2, none⟩ = some c ∧ w.cell? ⟨g, 3, none⟩ = some d ∧ w.cell? ⟨g, 4, none⟩ = some e ∧ w.cell? ⟨g, 5, none⟩ = some f ∧ w.frozen? ⟨g, 3, none⟩ = false :=
  ⟨h.cell 0, h.cell 1, h.cell 2, h.cell 3, h.cell 4, h.cell 5, h.frozen 3⟩
set_option maxRecDepth 100000 in
theorem chainAt_any (w : World) (gF gM gL : Nat) (s : ByteArray) (win dep at_ q : Nat) (h : ChainAt w gF gM gL s win dep at_ q) :
    Calls Try.prog 37 #[.pointer (some ⟨gF, 0, none⟩)] w fun e w' => e = .returned (.int .i64 (at_ : Int)) ∧ w = w' := by
  obtain ⟨_, _, _, c3, _⟩ := fin6 h.1
  go_enter Try.func37, Try.ntmps37
  go_wp2_with fail
  go_ret
  exact ⟨rfl, rfl⟩
theorem chainAt_nil (w : World) : Calls Try.prog 37 #[.pointer none] w fun e w' => e = .returned (.int .i64 0) ∧ w = w' := by
  go_enter Try.func37, Try.ntmps37
  go_wp2_with fail
  go_ret
  exact ⟨rfl, rfl⟩
end Go.Proofs.Ytjmenlffhoodeaa
