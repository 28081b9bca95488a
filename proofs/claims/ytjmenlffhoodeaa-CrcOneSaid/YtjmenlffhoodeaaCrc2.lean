/- crc's tables, walked. -/
import Derived.Test.YtjmenlffhoodeaaCrc1
namespace Go.Proofs.Ytjmenlffhoodeaa
open Go.RowKit

theorem setCells_heap (g : Nat) (t : TypeId) : ∀ (vs : List Value) (o : Nat) (w : World) (cs : Array Value), Blk w g t cs → ∃ cs', Blk (w.setCells g o vs) g t cs' ∧ cs'.size = cs.size
  | [], _, _, cs, h => ⟨cs, h, rfl⟩
  | v :: r, o, w, cs, h => by
    obtain ⟨cs', h1, h2⟩ := setCells_heap g t r (o + 1) (w.setCell ⟨g, o, none⟩ v) _ (h.set_ o v)
    exact ⟨cs', h1, by rw [h2]; simp⟩
theorem setCells_far (g : Nat) {k : Nat} {t : TypeId} {cs : Array Value} (hne : k ≠ g) : ∀ (vs : List Value) (o : Nat) (w : World), Blk w k t cs → Blk (w.setCells g o vs) k t cs
  | [], _, _, h => h
  | v :: r, o, _, h => setCells_far g hne r (o + 1) _ (h.far (p := ⟨g, o, none⟩) hne v)
theorem setCells_below {a : World} (g : Nat) (hg : a.heap.size ≤ g) : ∀ (vs : List Value) (o : Nat) (w : World), Below a.heap.size a w → Below a.heap.size a (w.setCells g o vs)
  | [], _, _, h => h
  | v :: r, o, _, h => setCells_below g hg r (o + 1) _ (bl_set h (p := ⟨g, o, none⟩) hg v)
theorem there_row {w : World} {g : Nat} {t : TypeId} {f : Nat → Nat} {n : Nat} (h : Blk w g t (rowC f n)) (o m : Nat) (hm : o + m ≤ n) : w.there g o m := fun j hj =>
  ⟨by rw [h.cell (o + j), rowC_at f n _ (by omega)]; rfl, h.frozen _⟩
theorem range_row {w : World} {g : Nat} {t : TypeId} {f h : Nat → Nat} {n : Nat} (hb : Blk w g t (rowC f n)) (o m : Nat) (hm : o + m ≤ n) (he : ∀ j, j < m → f (o + j) = h j) : w.rangeAt g o (rowC h m).toList := fun j v hv => by
  rw [Array.getElem?_toList] at hv
  have hj : j < m := by
    rcases Nat.lt_or_ge j m with h1 | h1
    · exact h1
    · rw [Array.getElem?_eq_none (by rw [rowC_size]; exact h1)] at hv; cases hv
  rw [rowC_at h m j hj] at hv
  rw [hb.cell (o + j), rowC_at f n _ (by omega), he j hj, hv]
theorem Blk.setCells_row {w : World} {g : Nat} {t : TypeId} {f : Nat → Nat} {n : Nat} (hb : Blk w g t (rowC f n)) (o m : Nat) (h : Nat → Nat) (hm : o + m ≤ n) :
    Blk (w.setCells g o (rowC h m).toList) g t (rowC (fun i => if o ≤ i ∧ i < o + m then h (i - o) else f i) n) := by
  obtain ⟨cs', h1, h2⟩ := setCells_heap g t (rowC h m).toList o w _ hb
  have hl : (rowC h m).toList.length = m := by rw [Array.length_toList, rowC_size]
  have e : cs' = rowC (fun i => if o ≤ i ∧ i < o + m then h (i - o) else f i) n := by
    apply Array.ext_getElem?
    intro i
    by_cases hi : i < n
    · rw [rowC_at _ n i hi, ← h1.cell i]
      by_cases hin : o ≤ i ∧ i < o + m
      · rw [if_pos hin]
        have := World.cell?_setCells_in g (rowC h m).toList o w (fun j hj => (there_row hb o m hm j (by rw [hl] at hj; exact hj)).1) (i - o) (by rw [hl]; omega)
        rw [show o + (i - o) = i from by omega] at this
        rw [this]
        have := rowC_at h m (i - o) (by omega)
        rw [← Array.getElem?_toList] at this
        rw [← this]
        exact (List.getElem?_eq_getElem _).symm
      · rw [if_neg hin, World.cell?_setCells_out g _ o w ⟨g, i, none⟩ (fun _ _ => by rw [hl]; show i < o ∨ o + m ≤ i; omega), hb.cell i, rowC_at f n i hi]
    · rw [Array.getElem?_eq_none (by rw [h2, rowC_size]; omega), Array.getElem?_eq_none (by rw [rowC_size]; omega)]
  rw [← e]
  exact h1

theorem size26 : (Try.prog.info? 26).map (·.size) = some 1 := by kernel_rfl
theorem run_index_rowC (f : Nat → Nat) (i : Nat) (w : World) (h : i < 256) : (Instr.index 59 (.agg (rowC f 256)) (.int .i64 i)).run Try.prog w = .ok (.int .u32 (f i : Nat)) w := by
  have hs := size26
  cases hq : Try.prog.info? 26 with
  | none => rw [hq] at hs; cases hs
  | some j =>
    rw [hq] at hs
    have hj : j.size = 1 := by simpa using hs
    simp [Instr.index, asIntOf, run_underlying Try.underlying59, sizeOf, typeInfo, part, isAgg, hq, h, hj, rowC_at f 256 i h]
theorem wpList_load_rowC {ops : Array Oper} {rest : List Oper} {op : Oper} {a : Act} {w : World} {Q : Exit → Act → World → Prop} (hgd : op.guard = none) (x : Operand) (ho : op.op = .load 59 x)
    (b o : Nat) (hx : a.eval x = .pointer (some ⟨b, o, none⟩)) (f : Nat → Nat) (hc : w.rangeAt b o (rowC f 256).toList)
    (h : wpList Try.prog ops Q rest (a.put op.dst (.agg (rowC f 256))) w) : wpList Try.prog ops Q (op :: rest) a w := by
  refine wpList_load_mid hgd 59 x ho b o hx _ _ hc Try.underlying59 rfl (by rw [Array.length_toList, rowC_size]; exact (zero_of_info info59).2) ?_
  rw [Array.toArray_toList]
  exact h
/-- The tables so far: those ahead of k, and the first n words of table k. -/
def tabF (k n i : Nat) : Nat := if i < 256 * k + n then Crc.T (i / 256) (i % 256) else 0
theorem tabF_up (k : Nat) : rowC (tabF k 256) 1024 = rowC (tabF (k + 1) 0) 1024 := rowC_congr _ _ _ fun i _ => by unfold tabF; rw [show 256 * (k + 1) + 0 = 256 * k + 256 from by omega]
theorem tabF_step (k n : Nat) (hn : n < 256) : rowC (fun j => if j = 256 * k + n then Crc.T k n else tabF k n j) 1024 = rowC (tabF k (n + 1)) 1024 := rowC_congr _ _ _ fun i _ => by
  unfold tabF
  by_cases e : i = 256 * k + n
  · subst e
    rw [if_pos rfl, if_pos (by omega), show (256 * k + n) / 256 = k from by omega, show (256 * k + n) % 256 = n from by omega]
  · rw [if_neg e]
    by_cases h : i < 256 * k + n
    · rw [if_pos h, if_pos (by omega)]
    · rw [if_neg h, if_neg (by omega)]

set_option maxRecDepth 100000 in
set_option maxHeartbeats 2000000 in
theorem tables_any (w : World) :
    Calls Try.prog 56 #[] w fun e w' => e = .returned (.agg (rowC (fun i => Crc.T (i / 256) (i % 256)) 1024)) ∧ Below w.heap.size w w' := by
  have hz := (zero_of_info info80).1
  have i59 : (Try.prog.info? 59).map (·.size) = some (rowC (fun i => Crc.T 0 i) 256).size := by rw [rowC_size]; exact (zero_of_info info59).2
  have I59 := Aside.mk i59
  clear i59
  go_enter Try.func56, Try.ntmps56
  go_wp2_with fail
  have HB := Aside.mk (bl_alloc (bl_alloc (Below.refl w.heap.size w) (.cells (rowC (fun _ => 0) 1024) 80)) (.cells (rowC (fun _ => 0) 1024) 80))
  have S0 := Aside.mk ((Blk.new w 80 (rowC (fun _ => 0) 1024)).alloc (.cells (rowC (fun _ => 0) 1024) 80))
  have S1 := Aside.mk (blk_second w (.cells (rowC (fun _ => 0) 1024) 80) 80 (rowC (fun _ => 0) 1024))
  clear hz
  refine (first_any _).mono ?_
  rintro e w1 ⟨rfl, hb⟩
  replace HB := Aside.mk (bl_step HB.out hb)
  replace S0 := Aside.mk (S0.out.below hb S0.out.lt)
  replace S1 := Aside.mk (S1.out.below hb S1.out.lt)
  clear hb
  go_wp2_with (refine wpList_store_mid rfl 59 (.tmp 6) (.tmp 5) rfl (w.heap.size + 1) 0 _ rfl rfl (by rw [rowC_size]; exact there_row S1.out 0 256 (by omega)) I59.out (rowC_one _ _) ?_)
  replace HB := Aside.mk (setCells_below (w.heap.size + 1) (by omega) (rowC (fun i => Crc.T 0 i) 256).toList 0 _ HB.out)
  replace S0 := Aside.mk (setCells_far (w.heap.size + 1) (by omega) (rowC (fun i => Crc.T 0 i) 256).toList 0 _ S0.out)
  replace S1 := Aside.mk (S1.out.setCells_row 0 256 (fun i => Crc.T 0 i) (by omega))
  rw [rowC_congr _ (tabF 1 0) 1024 (fun i _ => by
    unfold tabF
    by_cases e : i < 256
    · rw [if_pos (by omega), if_pos (by omega), show i / 256 = 0 from by omega, show i % 256 = i - 0 from by omega]
    · rw [if_neg (by omega), if_neg (by omega)])] at S1
  generalize w1.setCells (w.heap.size + 1) 0 (rowC (fun i => Crc.T 0 i) 256).toList = w2 at S0 S1 HB ⊢
  go_loopw [2] (fun q wr => ∃ k : Nat, 1 ≤ k ∧ k ≤ 4 ∧ q = .int .i64 k ∧ Aside (Blk wr w.heap.size 80 (rowC (fun _ => 0) 1024)) ∧
    Aside (Blk wr (w.heap.size + 1) 80 (rowC (tabF k 0) 1024)) ∧ Aside (Below w.heap.size w wr)) (fun q _ => 4 - (intOf q).toNat)
  case atStart => exact ⟨1, by omega, by omega, rfl, S0, S1, HB⟩
  case round =>
    clear HB S0 S1 I59
    obtain ⟨k, hk1, hk, rfl, S0, S1, HB⟩ := hrel
    by_cases hlt : k < 4
    · have hr := range_row (h := fun i => Crc.T (k - 1) i) S1.out ((k - 1) * 256) 256 (by omega) (fun j hj => by
        unfold tabF
        rw [if_pos (by omega), show ((k - 1) * 256 + j) / 256 = k - 1 from by omega, show ((k - 1) * 256 + j) % 256 = j from by omega])
      have HR := Aside.mk hr
      clear hr
      go_wp2_with (refine wpList_load_rowC rfl (.tmp 13) rfl (w.heap.size + 1) ((k - 1) * 256) rfl _ HR.out ?_)
      clear HR
      go_loopw [3, 4, 15] (fun _ _ q wr => ∃ n : Nat, n ≤ 256 ∧ q = .int .i64 n ∧ Aside (Blk wr w.heap.size 80 (rowC (fun _ => 0) 1024)) ∧
        Aside (Blk wr (w.heap.size + 1) 80 (rowC (tabF k n) 1024)) ∧ Aside (Below w.heap.size w wr)) (fun _ _ q _ => 256 - (intOf q).toNat)
      case atStart => exact ⟨0, by omega, rfl, S0, S1, HB⟩
      case round =>
        clear HB S0 S1
        obtain ⟨n, hn, rfl, S0, S1, HB⟩ := hrel
        by_cases hlt2 : n < 256
        · have hx := run_index_rowC (fun i => Crc.T (k - 1) i) n
          have hx2 := fun w => hx w hlt2
          clear hx
          have hxl := Crc.T_lt (k - 1) n (by omega)
          have HT := Aside.mk (Crc.T_next (k - 1) n)
          rw [show k - 1 + 1 = k from by omega] at HT
          generalize Crc.T (k - 1) n = x at hx2 hxl HT
          have hx0 : (0 : Int) ≤ x := by omega
          have HX := Aside.mk hxl
          clear hxl
          have h2 : bits .xor .u32 ((Crc.T 0 (x % 256) : Nat) : Int) ((x : Int) / 256) = ((Crc.T 0 (x % 256) ^^^ x / 256 : Nat) : Int) :=
            u32_xor_nat (Crc.T 0 (x % 256)) (x / 256) (Crc.T_lt 0 _ (by omega)) (by have := HX.out; omega)
          have c1 : wr.cell? ⟨w.heap.size + 1, x % 256, none⟩ = some (.int .u32 (Crc.T 0 (x % 256) : Nat)) := by
            rw [S1.out.cell, rowC_at _ _ _ (by omega)]
            unfold tabF
            rw [if_pos (by omega), show x % 256 / 256 = 0 from by omega, show x % 256 % 256 = x % 256 from by omega]
          have c2 : wr.cell? ⟨w.heap.size + 1, k * 256 + n, none⟩ = some (.int .u32 0) := by
            rw [S1.out.cell, rowC_at _ _ _ (by omega)]
            unfold tabF
            rw [if_neg (by omega)]; rfl
          have f2 := S1.out.frozen (k * 256 + n)
          have z1 := S1.out.lt
          go_wp2_with fail
          go_region
          have S2 := Aside.mk (S1.out.set_ (k * 256 + n) (.int .u32 (Crc.T 0 (x % 256) ^^^ x / 256 : Nat)))
          rw [rowC_set, ← HT.out, rowC_congr _ (fun j => if j = 256 * k + n then Crc.T k n else tabF k n j) 1024 (fun i _ => by rw [Nat.mul_comm k 256]), tabF_step k n hlt2] at S2
          clear c1 c2 f2 h2 hx0
          go_wp2_with fail
          exact ⟨⟨n + 1, by omega, by go_num, ⟨S0.out.far (by simp) _⟩, ⟨by have := S2.out; rw [HT.out] at this; exact this⟩, ⟨bl_drew (bl_set HB.out (by simp) _)⟩⟩, by simp [intOf]; omega⟩
        · obtain rfl : n = 256 := by omega
          go_wp2_with fail
          exact ⟨⟨k + 1, by omega, by omega, by go_num, S0, ⟨by rw [← tabF_up]; exact S1.out⟩, HB⟩, by simp [intOf]; omega⟩
    · obtain rfl : k = 4 := by omega
      rw [rowC_congr (tabF 4 0) (fun i => Crc.T (i / 256) (i % 256)) 1024 (fun i hi => by unfold tabF; rw [if_pos (by omega)])] at S1
      have i80 : (Try.prog.info? 80).map (·.size) = some (rowC (fun i => Crc.T (i / 256) (i % 256)) 1024).size := by rw [rowC_size]; exact (zero_of_info info80).2
      have I80 := Aside.mk i80
      clear i80
      go_wp2_with (first
        | (refine wpList_load_row rfl 80 (.tmp 1) rfl (w.heap.size + 1) rfl 80 _ (0, 0) _ S1.out Try.underlying80 rfl I80.out ?_)
        | (refine wpList_store_row rfl 80 (.tmp 0) (.tmp 32) rfl w.heap.size _ rfl rfl 80 _ S0.out I80.out (by rw [rowC_size, rowC_size]) (rowC_one _ _) ?_))
      refine bodyPost_ret (results_cell_row rfl _ _ w.heap.size 80 (rowC (fun i => Crc.T (i / 256) (i % 256)) 1024) (0, 0) _ rfl (S0.out.setRow _) Try.underlying80 rfl I80.out) rfl ⟨rfl, ?_⟩
      exact bl_setRow HB.out (Nat.le_refl _) _
end Go.Proofs.Ytjmenlffhoodeaa
