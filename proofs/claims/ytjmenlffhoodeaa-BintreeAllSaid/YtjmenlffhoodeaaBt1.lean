/- bintree's New, At and hang, walked; the words for a finder's memory. -/
import Derived.Test.YtjmenlffhoodeaaChain4
import Derived.Test.YtjmenlffhoodeaaBtP
namespace Go.Proofs.Ytjmenlffhoodeaa
open Go.RowKit

theorem link_info : (Try.prog.info? 77).map (fun i => (i.zero, i.size, i.bytes)) = some (some (.agg #[.int .i64 0, .int .i64 0]), 2, 16) := by kernel_rfl
theorem rowI_zero2 (n : Nat) : madeCells #[.int .i64 0, .int .i64 0] n = rowI (fun _ => 0) n := by
  apply Array.ext_getElem?
  intro j
  by_cases hj : j < n
  · rw [rowI_at _ n j hj]
    have hs : j < (madeCells #[.int .i64 0, .int .i64 0] n).size := by rw [size_madeCells]; exact hj
    rw [Array.getElem?_eq_getElem hs]
    congr 1
    simp only [madeCells]
    simp
    rcases Nat.mod_two_eq_zero_or_one j with h | h <;> simp [h]
  · rw [Array.getElem?_eq_none (by rw [size_madeCells]; omega), Array.getElem?_eq_none (by rw [rowI_size]; omega)]
theorem run_make_links (n : Nat) (hn : n ≤ 65536) (w : World) : (Instr.makeSlice 73 (.int .i64 (n : Int)) (.int .i64 (n : Int))).run Try.prog w = .ok (.slice (some ⟨w.heap.size, 0, none⟩) n n) (w.alloc (.cells (rowI (fun _ => 0) (n * 2)) 77)) := by
  obtain ⟨i0, hi0, hz0, hz1, hz2⟩ := info_parts link_info
  have hr := run_make (P := Try.prog) w 73 77 i0 (.agg #[.int .i64 0, .int .i64 0]) Try.underlying73 hi0 hz0 .i64 .i64 n n (by omega) (by omega) (by rw [hz2]; omega) (by omega)
  simp only [Int.toNat_natCast] at hr
  rw [hr, hz1, ← rowI_zero2]
  rfl
def BtAt (w : World) (gF gM gL : Nat) (s : ByteArray) (win dep at_ q : Nat) (M : Nat → Int) : Prop :=
  Blk w gF 75 #[.string s, .int .i64 (win : Int), .int .i64 (dep : Int), .int .i64 (at_ : Int), .map (some gM), .slice (some ⟨gL, 0, none⟩) s.size s.size] ∧
  MapAt w gM q (fun x y => Find.last (bytN s) x y q) ∧ Blk w gL 77 (rowI M (s.size * 2))
section
variable {w w' : World} {gF gM gL : Nat} {s : ByteArray} {win dep at_ q : Nat} {M : Nat → Int}
theorem BtAt.gne (h : BtAt w gF gM gL s win dep at_ q M) : gF ≠ gM ∧ gF ≠ gL ∧ gL ≠ gM := by
  obtain ⟨h1, h2, h3⟩ := h
  refine ⟨h2.ne h1, fun e => ?_, h2.ne h3⟩
  subst e
  unfold Blk at h1 h3
  rw [h1] at h3
  injection h3 with h3
  injection h3 with _ h3
  cases h3
theorem BtAt.drewN (h : BtAt w gF gM gL s win dep at_ q M) (n : Nat) : BtAt (w.drewN n) gF gM gL s win dep at_ q M := ⟨h.1.drewN n, h.2.1.of_heap rfl, h.2.2.drewN n⟩
theorem BtAt.drew (h : BtAt w gF gM gL s win dep at_ q M) : BtAt w.drew gF gM gL s win dep at_ q M := ⟨h.1.drew, h.2.1.of_heap rfl, h.2.2.drew⟩
theorem BtAt.alloc (h : BtAt w gF gM gL s win dep at_ q M) (o : Obj) : BtAt (w.alloc o) gF gM gL s win dep at_ q M :=
  ⟨h.1.alloc o, h.2.1.of_heap (Below.heap_alloc _ _ _ h.2.1.lt), h.2.2.alloc o⟩
theorem BtAt.below (h : BtAt w gF gM gL s win dep at_ q M) (hb : Below w.heap.size w w') : BtAt w' gF gM gL s win dep at_ q M :=
  ⟨h.1.below hb h.1.lt, h.2.1.of_heap (hb.block _ h.2.1.lt), h.2.2.below hb h.2.2.lt⟩
theorem BtAt.grown {B : Nat} {row : Option Nat} (h : BtAt w gF gM gL s win dep at_ q M) (hg : w.grownBy w' row) (hr : ∀ g, row = some g → B ≤ g) (hB : gF < B ∧ gM < B ∧ gL < B) : BtAt w' gF gM gL s win dep at_ q M := by
  have hne : ∀ g, g < B → some g ≠ row := fun g hg e => by have := hr g e.symm; omega
  exact ⟨(hg.block gF h.1.lt (hne _ hB.1)).trans h.1, h.2.1.of_heap (hg.block gM h.2.1.lt (hne _ hB.2.1)), (hg.block gL h.2.2.lt (hne _ hB.2.2)).trans h.2.2⟩
theorem BtAt.bump (h : BtAt w gF gM gL s win dep at_ q M) : BtAt (w.setCell ⟨gF, 3, none⟩ (.int .i64 ((at_ : Int) + 1))) gF gM gL s win dep (at_ + 1) q M := by
  obtain ⟨n1, n2, n3⟩ := h.gne
  refine ⟨h.1.set_ 3 _, h.2.1.of_heap (Below.heap_setCell _ _ _ _ (by simpa using fun e => n1 e.symm)), h.2.2.far (by simpa using fun e => n2 e.symm) _⟩
theorem BtAt.link (h : BtAt w gF gM gL s win dep at_ q M) (c : Nat) (v : Int) : BtAt (w.setCell ⟨gL, c, none⟩ (.int .i64 v)) gF gM gL s win dep at_ q (Find.setM M c v) := by
  obtain ⟨n1, n2, n3⟩ := h.gne
  refine ⟨h.1.far (by simpa using n2) _, h.2.1.of_heap (Below.heap_setCell _ _ _ _ (by simpa using fun e => n3 e.symm)), ?_⟩
  have := h.2.2.set_ c (.int .i64 v)
  rw [rowI_set] at this
  exact this
theorem BtAt.put {i x y : Nat} (h : BtAt w gF gM gL s win dep at_ i M) (hM : MapAt w' gM (i + 1) (fun p q => if p = x ∧ q = y then some i else Find.last (bytN s) p q i))
    (hg : w.grownBy w' (some gM)) (hx : bytN s i = x) (hy : bytN s (i + 1) = y) : BtAt w' gF gM gL s win dep at_ (i + 1) M := by
  obtain ⟨n1, n2, n3⟩ := h.gne
  refine ⟨(hg.block gF h.1.lt (by simpa using n1)).trans h.1, ?_, (hg.block gL h.2.2.lt (by simpa using n3)).trans h.2.2⟩
  have e : (fun x y => Find.last (bytN s) x y (i + 1)) = (fun p q => if p = x ∧ q = y then some i else Find.last (bytN s) p q i) := by
    funext p q
    show (if bytN s i = p ∧ bytN s (i + 1) = q then some i else Find.last (bytN s) p q i) = _
    rw [hx, hy]
    by_cases c : x = p ∧ y = q
    · rw [if_pos c, if_pos ⟨c.1.symm, c.2.symm⟩]
    · rw [if_neg c, if_neg (fun h => c ⟨h.1.symm, h.2.symm⟩)]
  rw [e]
  exact hM
end
theorem btAt_new (w : World) (s : ByteArray) (win dep : Nat) :
    BtAt (((w.alloc (.map #[] 0)).alloc (.cells (rowI (fun _ => 0) (s.size * 2)) 77)).alloc (.cells #[.string s, .int .i64 (win : Int), .int .i64 (dep : Int), .int .i64 0, .map (some w.heap.size), .slice (some ⟨w.heap.size + 1, 0, none⟩) s.size s.size] 75))
      (w.heap.size + 2) w.heap.size (w.heap.size + 1) s win dep 0 0 (fun _ => 0) := by
  have h2 := Blk.new (w.alloc (.map #[] 0)) 77 (rowI (fun _ => 0) (s.size * 2))
  have h3 := Blk.new ((w.alloc (.map #[] 0)).alloc (.cells (rowI (fun _ => 0) (s.size * 2)) 77)) 75 #[.string s, .int .i64 (win : Int), .int .i64 (dep : Int), .int .i64 0, .map (some w.heap.size), .slice (some ⟨w.heap.size + 1, 0, none⟩) s.size s.size]
  have z1 : (w.alloc (.map #[] 0)).heap.size = w.heap.size + 1 := by simp
  have z2 : ((w.alloc (.map #[] 0)).alloc (.cells (rowI (fun _ => 0) (s.size * 2)) 77)).heap.size = w.heap.size + 2 := by simp
  rw [z1] at h2
  rw [z2] at h3
  exact ⟨h3, ((MapAt.new w).of_heap (Below.heap_alloc _ _ _ (by rw [z1]; omega))).of_heap (Below.heap_alloc _ _ _ (by rw [z2]; omega)), h2.alloc _⟩
set_option maxRecDepth 100000 in
set_option maxHeartbeats 2000000 in
theorem btNew_any (s : ByteArray) (a : Int) (dep : Nat) (w : World) (hs : s.size ≤ 4000) (hd : 1 ≤ dep) (hd2 : dep ≤ 65536) :
    Calls Try.prog 39 #[.string s, .int .i64 a, .int .i64 (dep : Int)] w fun e w' => ∃ gF gM gL, e = .returned (.pointer (some ⟨gF, 0, none⟩)) ∧ BtAt w' gF gM gL s (winN a) dep 0 0 (fun _ => 0) ∧ Below w.heap.size w w' ∧ w.heap.size ≤ gF ∧ w.heap.size ≤ gM ∧ w.heap.size ≤ gL := by
  have hmk := run_make_links s.size (by omega)
  have hmm := @run_makeMap Try.prog
  have h1 : max 1 (min a 67108864) = ((winN a : Nat) : Int) := by unfold winN; omega
  have h2 : max 1 (dep : Int) = (dep : Int) := by omega
  generalize winN a = n at h1
  go_enter Try.func39, Try.ntmps39
  go_wp2_with fail
  go_ret
  exact ⟨_, _, _, rfl, btAt_new w s n dep, new3_below w _ _ _, by omega, Nat.le_refl _, by omega⟩
set_option maxRecDepth 100000 in
theorem btAt_any (w : World) (gF gM gL : Nat) (s : ByteArray) (win dep at_ q : Nat) (M : Nat → Int) (h : BtAt w gF gM gL s win dep at_ q M) :
    Calls Try.prog 40 #[.pointer (some ⟨gF, 0, none⟩)] w fun e w' => e = .returned (.int .i64 (at_ : Int)) ∧ w = w' := by
  obtain ⟨_, _, _, c3, _⟩ := fin6 h.1
  go_enter Try.func40, Try.ntmps40
  go_wp2_with fail
  go_ret
  exact ⟨rfl, rfl⟩
theorem btAt_nil (w : World) : Calls Try.prog 40 #[.pointer none] w fun e w' => e = .returned (.int .i64 0) ∧ w = w' := by
  go_enter Try.func40, Try.ntmps40
  go_wp2_with fail
  go_ret
  exact ⟨rfl, rfl⟩
def side (to : Nat) (less : Bool) : Nat := to * 2 + if less then 0 else 1
set_option maxRecDepth 100000 in
set_option maxHeartbeats 2000000 in
theorem hang_any (w : World) (gF gM gL : Nat) (s : ByteArray) (win dep at_ q : Nat) (M : Nat → Int) (to : Nat) (what : Int) (less : Bool) (h : BtAt w gF gM gL s win dep at_ q M) (ht : to < s.size) :
    Calls Try.prog 58 #[.pointer (some ⟨gF, 0, none⟩), .int .i64 (to : Int), .int .i64 what, .bool less] w fun e w' => e = .returned (.tuple #[]) ∧ w' = w.setCell ⟨gL, side to less, none⟩ (.int .i64 what) := by
  obtain ⟨_, _, _, _, _, c5, _⟩ := fin6 h.1
  have hne : ((to : Int) == -1) = false := beq_eq_false_iff_ne.2 (by omega)
  have k0 := (h.2.2.cell (to * 2)).trans (rowI_at M _ _ (by omega))
  have k1 := (h.2.2.cell (to * 2 + 1)).trans (rowI_at M _ _ (by omega))
  have f0 := h.2.2.frozen (to * 2)
  have f1 := h.2.2.frozen (to * 2 + 1)
  cases less
  · go_enter Try.func58, Try.ntmps58
    go_wp2_with fail
    go_end0
    exact ⟨rfl, rfl⟩
  · go_enter Try.func58, Try.ntmps58
    go_wp2_with fail
    go_end0
    exact ⟨rfl, rfl⟩
end Go.Proofs.Ytjmenlffhoodeaa
