/- What crc's one computes, walked. -/
import Derived.Test.YtjmenlffhoodeaaProg
import Derived.Test.YtjmenlffhoodeaaMem
import Derived.Test.YtjmenlffhoodeaaCrcP
import Derived.Laws.BitsAllLaws
import Derived.Deep.WholeRow
import Derived.Deep.MidRow
import Derived.Outline
namespace Go.Proofs.Ytjmenlffhoodeaa
open Go.RowKit

set_option maxRecDepth 100000 in
set_option maxHeartbeats 1000000 in
theorem one_any (c : Nat) (w : World) (hc : c < 4294967296) :
    Calls Try.prog 55 #[.int .u32 (c : Int)] w fun e w' => e = .returned (.int .u32 (Crc.S c : Nat)) ∧ w = w' := by
  have HC := Aside.mk hc
  clear hc
  go_enter Try.func55, Try.ntmps55
  go_wp2_with fail
  go_loop [0, 3] (fun x i => ∃ k : Nat, k ≤ 8 ∧ i = .int .i64 k ∧ x = .int .u32 (Crc.steps k c : Nat)) (fun _ i => 8 - (intOf i).toNat)
  case atStart => exact ⟨0, by omega, rfl, rfl⟩
  case round =>
    obtain ⟨k, hk, rfl, rfl⟩ := hrel
    have hx := Crc.steps_lt k c HC.out
    have HS := Aside.mk (Crc.steps_succ k c)
    have HX := Aside.mk hx
    generalize hxe : Crc.steps k c = x at hx HX HS ⊢
    have HXE := Aside.mk hxe
    clear hx hxe
    by_cases hlt : k < 8
    · have h1 : bits .and .u32 (x : Int) 1 = ((x % 2 : Nat) : Int) := by
        have := u32_and_nat x 1 HX.out (by omega)
        rw [nat_mask1] at this
        exact this
      by_cases ho : x % 2 = 1
      · have hb : ((x : Int) % 2 == 1) = true := by simp; omega
        have h2 : bits .xor .u32 ((x : Int) / 2) 3988292384 = ((x / 2 ^^^ Crc.poly : Nat) : Int) := by
          have := u32_xor_nat (x / 2) Crc.poly (by have := HX.out; omega) (by decide)
          exact this
        have H2 : Aside ((x / 2 ^^^ Crc.poly : Nat) = Crc.steps (k + 1) c) := ⟨by rw [HS.out]; unfold Crc.step; rw [if_pos ho]⟩
        clear ho
        go_wp2_with fail
        exact ⟨⟨k + 1, by omega, by go_num, by rw [H2.out]⟩, by simp [intOf]; omega⟩
      · have hb : ((x : Int) % 2 == 1) = false := by simp; omega
        have H2 : Aside ((x / 2 : Nat) = Crc.steps (k + 1) c) := ⟨by rw [HS.out]; unfold Crc.step; rw [if_neg ho]⟩
        clear ho
        go_wp2_with fail
        exact ⟨⟨k + 1, by omega, by go_num, by rw [← H2.out]; rfl⟩, by simp [intOf]; omega⟩
    · obtain rfl : k = 8 := by omega
      go_wp2_with fail
      go_ret
      exact ⟨by rw [show Crc.S c = x from HXE.out]; rfl, rfl⟩

theorem blk_second (w : World) (o : Obj) (t : TypeId) (cs : Array Value) : Blk ((w.alloc o).alloc (.cells cs t)) (w.heap.size + 1) t cs := by
  have := Blk.new (w.alloc o) t cs
  simpa using this
theorem Blk.setRow {w : World} {g : Nat} {t : TypeId} {cs : Array Value} (h : Blk w g t cs) (cs' : Array Value) : Blk (w.setRow g cs') g t cs' := setRow_heap w g cs cs' t (0, 0) h
theorem Blk.setRow_far {w : World} {g k : Nat} {t : TypeId} {cs : Array Value} (h : Blk w k t cs) (hne : k ≠ g) (cs' : Array Value) : Blk (w.setRow g cs') k t cs := (setRow_other w g k cs' hne).trans h
theorem bl_setRow {a w : World} {g : Nat} (h : Below a.heap.size a w) (hg : a.heap.size ≤ g) (cs : Array Value) : Below a.heap.size a (w.setRow g cs) :=
  ⟨h.os, h.tape, h.output, by simpa using h.size, fun k hk => (setRow_other w g k cs (by omega)).trans (h.block k hk)⟩
/-- A row of n words that f tells. -/
def rowC (f : Nat → Nat) (n : Nat) : Array Value := (Array.range n).map fun i => Value.int .u32 (f i : Nat)
theorem rowC_size (f : Nat → Nat) (n : Nat) : (rowC f n).size = n := by simp [rowC]
theorem rowC_at (f : Nat → Nat) (n i : Nat) (h : i < n) : (rowC f n)[i]? = some (.int .u32 (f i : Nat)) := by
  simp [rowC, h]
theorem rowC_one (f : Nat → Nat) (n : Nat) : (rowC f n).all (·.oneCell') = true := by
  rw [Array.all_eq_true_iff_forall_mem]
  intro v hv
  simp only [rowC, Array.mem_map] at hv
  obtain ⟨a, _, rfl⟩ := hv
  rfl
theorem rowC_set (f : Nat → Nat) (n i x : Nat) : (rowC f n).setIfInBounds i (.int .u32 (x : Nat)) = rowC (fun j => if j = i then x else f j) n := by
  apply Array.ext_getElem?
  intro j
  rw [Array.getElem?_setIfInBounds]
  by_cases hj : j < n
  · rw [rowC_at _ n j hj]
    by_cases e : i = j
    · subst e; rw [if_pos rfl, if_pos (by rw [rowC_size]; exact hj), rowC_at _ n i hj, if_pos rfl]
    · rw [if_neg e, rowC_at _ n j hj, if_neg (fun h => e h.symm)]
  · have hz : (rowC (fun j => if j = i then x else f j) n)[j]? = none := Array.getElem?_eq_none (by rw [rowC_size]; omega)
    rw [hz]
    by_cases e : i = j
    · subst e; rw [if_pos rfl, if_neg (by rw [rowC_size]; omega)]
    · rw [if_neg e]; exact Array.getElem?_eq_none (by rw [rowC_size]; omega)
theorem rowC_congr (f g : Nat → Nat) (n : Nat) (h : ∀ i, i < n → f i = g i) : rowC f n = rowC g n := by
  apply Array.ext_getElem?
  intro j
  by_cases hj : j < n
  · rw [rowC_at f n j hj, rowC_at g n j hj, h j hj]
  · rw [Array.getElem?_eq_none (by rw [rowC_size]; omega), Array.getElem?_eq_none (by rw [rowC_size]; omega)]
theorem rowC_zero (n : Nat) : Array.replicate n (Value.int .u32 0) = rowC (fun _ => 0) n := by
  apply Array.ext_getElem?
  intro j
  by_cases hj : j < n
  · rw [rowC_at _ n j hj, Array.getElem?_replicate, if_pos hj]; rfl
  · rw [Array.getElem?_eq_none (by rw [Array.size_replicate]; omega), Array.getElem?_eq_none (by rw [rowC_size]; omega)]
theorem info59 : (Try.prog.info? 59).map (fun i => (i.zero, i.size)) = some (some (.agg (rowC (fun _ => 0) 256)), 256) := by rw [← rowC_zero]; kernel_rfl
theorem info80 : (Try.prog.info? 80).map (fun i => (i.zero, i.size)) = some (some (.agg (rowC (fun _ => 0) 1024)), 1024) := by rw [← rowC_zero]; kernel_rfl

set_option maxRecDepth 100000 in
set_option maxHeartbeats 1000000 in
theorem first_any (w : World) :
    Calls Try.prog 49 #[] w fun e w' => e = .returned (.agg (rowC (fun i => Crc.T 0 i) 256)) ∧ Below w.heap.size w w' := by
  have hz := (zero_of_info info59).1
  go_enter Try.func49, Try.ntmps49
  go_wp2_with fail
  have HB := Aside.mk (bl_alloc (bl_alloc (Below.refl w.heap.size w) (.cells (rowC (fun _ => 0) 256) 59)) (.cells (rowC (fun _ => 0) 256) 59))
  have S0 := Aside.mk ((Blk.new w 59 (rowC (fun _ => 0) 256)).alloc (.cells (rowC (fun _ => 0) 256) 59))
  have S1 := Aside.mk (blk_second w (.cells (rowC (fun _ => 0) 256) 59) 59 (rowC (fun _ => 0) 256))
  clear hz
  go_loopw [2, 3] (fun _ i wr => ∃ k : Nat, k ≤ 256 ∧ i = .int .i64 k ∧ Aside (Blk wr w.heap.size 59 (rowC (fun _ => 0) 256)) ∧
    Aside (Blk wr (w.heap.size + 1) 59 (rowC (fun j => if j < k then Crc.T 0 j else 0) 256)) ∧ Aside (Below w.heap.size w wr)) (fun _ i _ => 256 - (intOf i).toNat)
  case atStart => exact ⟨0, by omega, rfl, S0, ⟨by rw [rowC_congr (fun j => if j < 0 then Crc.T 0 j else 0) (fun _ => 0) 256 (fun i _ => if_neg (by omega))]; exact S1.out⟩, HB⟩
  case round =>
    clear HB S0 S1
    obtain ⟨k, hk, rfl, S0, S1, HB⟩ := hrel
    by_cases hlt : k < 256
    · have c1 := (S1.out.cell k).trans (rowC_at _ 256 k hlt)
      have f1 := S1.out.frozen k
      have z1 := S1.out.lt
      rw [show (if k < k then Crc.T 0 k else 0) = 0 from if_neg (by omega)] at c1
      go_wp2_with (go_at_call 55; with_reducible refine (one_any _ _ (by omega)).mono ?_; rintro e w' ⟨rfl, rfl⟩)
      refine ⟨⟨k + 1, by omega, by go_num, ⟨S0.out.far (by simp) _⟩, ⟨?_⟩, ⟨bl_set HB.out (by simp) _⟩⟩, by simp [intOf]; omega⟩
      have := S1.out.set_ k (.int .u32 (Crc.S k : Nat))
      rw [rowC_set] at this
      rw [rowC_congr _ (fun j => if j < k + 1 then Crc.T 0 j else 0) 256 (fun i _ => by
        by_cases e : i = k
        · subst e; rw [if_pos rfl, if_pos (by omega)]; rfl
        · rw [if_neg e]
          by_cases h : i < k
          · rw [if_pos h, if_pos (by omega)]
          · rw [if_neg h, if_neg (by omega)])] at this
      exact this
    · obtain rfl : k = 256 := by omega
      have S2 := Aside.mk (show Blk wr (w.heap.size + 1) 59 (rowC (fun i => Crc.T 0 i) 256) by
        rw [rowC_congr (fun i => Crc.T 0 i) (fun j => if j < 256 then Crc.T 0 j else 0) 256 (fun i hi => (if_pos hi).symm)]; exact S1.out)
      have i59 : (Try.prog.info? 59).map (·.size) = some (rowC (fun i => Crc.T 0 i) 256).size := by rw [rowC_size]; exact (zero_of_info info59).2
      have I59 := Aside.mk i59
      clear i59 S1
      go_wp2_with (first
        | (refine wpList_load_row rfl 59 (.tmp 1) rfl (w.heap.size + 1) rfl 59 _ (0, 0) _ S2.out Try.underlying59 rfl I59.out ?_)
        | (refine wpList_store_row rfl 59 (.tmp 0) (.tmp 12) rfl w.heap.size _ rfl rfl 59 _ S0.out I59.out (by rw [rowC_size, rowC_size]) (rowC_one _ _) ?_))
      refine bodyPost_ret (results_cell_row rfl _ _ w.heap.size 59 (rowC (fun i => Crc.T 0 i) 256) (0, 0) _ rfl ?_ Try.underlying59 rfl I59.out) rfl ⟨rfl, ?_⟩
      · exact S0.out.setRow _
      · exact bl_setRow HB.out (Nat.le_refl _) _
end Go.Proofs.Ytjmenlffhoodeaa
