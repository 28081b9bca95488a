/- What heads' Put and the reference's compute, walked. -/
import Derived.Test.YtjmenlffhoodeabProg
import Derived.Test.YtjmenlffhoodeabMem
import Derived.Lib.LazyBuf
namespace Go.Proofs.Ytjmenlffhoodeab
open Go.RowKit

theorem blk_second (w : World) (o : Obj) (t : TypeId) (cs : Array Value) : Blk ((w.alloc o).alloc (.cells cs t)) (w.heap.size + 1) t cs := by
  have := Blk.new (w.alloc o) t cs
  simpa using this
theorem blkB {w : World} {g : Nat} {t : TypeId} {a b c : Value} (h : Blk w g t #[a, b, c]) :
    w.cell? ⟨g, 0, none⟩ = some a ∧ w.cell? ⟨g, 1, none⟩ = some b ∧ w.cell? ⟨g, 2, none⟩ = some c := ⟨h.cell 0, h.cell 1, h.cell 2⟩

def zero9 : Array Value := #[.int .u8 0, .int .u8 0, .int .u8 0, .int .u8 0, .int .u8 0, .int .u8 0, .int .u8 0, .int .u8 0, .int .u8 0]
/-- The world behind 'copy(b[:], magic)'. -/
def magicked (W : World) (B : Nat) : World := (((W.setCell ⟨B, 0, none⟩ (.int .u8 71)).setCell ⟨B, 1, none⟩ (.int .u8 76)).setCell ⟨B, 2, none⟩ (.int .u8 68)).setCell ⟨B, 3, none⟩ (.int .u8 49)
theorem copy_magic (W : World) (B : Nat) (h : Blk W B 96 zero9) :
    (Builtin.copy_ #[86, 9] 3 #[.slice (some ⟨B, 0, none⟩) 9 9, .string ⟨#[71, 76, 68, 49]⟩]).run Try.prog W = .ok (goInt 4) (magicked W B) := by
  have := run_copy_string (P := Try.prog) W 86 9 3 5 B 0 9 9 ⟨#[71, 76, 68, 49]⟩ Try.underlying86 (by intro w; kernel_rfl) (by decide)
    (fun j hj => by rw [show (⟨B, 0 + j, none⟩ : Addr) = ⟨B, j, none⟩ from by rw [Nat.zero_add], h.cell j]; have : j < 4 := hj; simp [zero9]; omega)
    (fun j hj => by rw [show (⟨B, 0 + j, none⟩ : Addr) = ⟨B, j, none⟩ from by rw [Nat.zero_add]]; exact h.frozen j)
  exact this
def magic9 : Array Value := #[.int .u8 71, .int .u8 76, .int .u8 68, .int .u8 49, .int .u8 0, .int .u8 0, .int .u8 0, .int .u8 0, .int .u8 0]
theorem blk_magicked {W : World} {B : Nat} (h : Blk W B 96 zero9) : Blk (magicked W B) B 96 magic9 := (((h.set_ 0 _).set_ 1 _).set_ 2 _).set_ 3 _
theorem blk_magicked_far {W : World} {B g : Nat} {t : TypeId} {cs : Array Value} (h : Blk W g t cs) (hg : g ≠ B) : Blk (magicked W B) g t cs :=
  (((h.far (by simpa using hg) _).far (by simpa using hg) _).far (by simpa using hg) _).far (by simpa using hg) _
theorem bl_magicked {a W : World} {B : Nat} (h : Below a.heap.size a W) (hB : a.heap.size ≤ B) : Below a.heap.size a (magicked W B) :=
  bl_set (bl_set (bl_set (bl_set h (by simpa using hB) _) (by simpa using hB) _) (by simpa using hB) _) (by simpa using hB) _
theorem blk9 {w : World} {g : Nat} {t : TypeId} {a b c d e f x y z : Value} (h : Blk w g t #[a, b, c, d, e, f, x, y, z]) :
    (w.cell? ⟨g, 0, none⟩ = some a ∧ w.cell? ⟨g, 1, none⟩ = some b ∧ w.cell? ⟨g, 2, none⟩ = some c ∧ w.cell? ⟨g, 3, none⟩ = some d ∧ w.cell? ⟨g, 4, none⟩ = some e ∧ w.cell? ⟨g, 5, none⟩ = some f ∧ w.cell? ⟨g, 6, none⟩ = some x ∧ w.cell? ⟨g, 7, none⟩ = some y ∧ w.cell? ⟨g, 8, none⟩ = some z) ∧
    (w.frozen? ⟨g, 4, none⟩ = false) := ⟨⟨h.cell 0, h.cell 1, h.cell 2, h.cell 3, h.cell 4, h.cell 5, h.cell 6, h.cell 7, h.cell 8⟩, h.frozen 4⟩

/-- What a header is written as, and the error. -/
def putF (lg : Int) (has : Bool) (id : Int) (i : Nat) : Int :=
  match i with
  | 0 => 71 | 1 => 76 | 2 => 68 | 3 => 49
  | 4 => if has then lg + 32 else lg
  | 5 => id % 256 | 6 => id / 256 % 256 | 7 => id / 65536 % 256 | 8 => id / 16777216 % 256
  | _ => 0
def putOk (lg : Int) (has : Bool) (id : Int) : Int := if lg < 15 ∨ 26 < lg then 12 else if has = false ∧ id ≠ 0 then 1 else 0
def putS (lg : Int) (has : Bool) (id : Int) : ByteArray := if putOk lg has id = 0 then tab (putF lg has id) (if has then 9 else 5) else ⟨#[]⟩

set_option maxRecDepth 100000 in
set_option maxHeartbeats 1000000 in
theorem put_bad (lg : Int) (has : Bool) (id : Int) (w : World) (h : lg < 15 ∨ 26 < lg) :
    Calls Try.prog 44 #[.agg #[.int .i64 lg, .bool has, .int .u32 id]] w fun e w' => e = .returned (.tuple #[.string ⟨#[]⟩, .int .i64 12]) ∧ Below w.heap.size w w' := by
  have HB := Aside.mk (bl_alloc (Below.refl w.heap.size w) (.cells #[.int .i64 lg, .bool has, .int .u32 id] 58))
  by_cases h1 : lg < 15
  · go_enter Try.func44, Try.ntmps44
    go_wp2_with fail
    go_ret2
    exact ⟨rfl, HB.out⟩
  · go_enter Try.func44, Try.ntmps44
    go_wp2_with fail
    go_ret2
    exact ⟨rfl, HB.out⟩
set_option maxRecDepth 100000 in
set_option maxHeartbeats 1000000 in
theorem put_id (lg : Int) (id : Int) (w : World) (h0 : 15 ≤ lg) (h1 : lg ≤ 26) (h2 : id ≠ 0) :
    Calls Try.prog 44 #[.agg #[.int .i64 lg, .bool false, .int .u32 id]] w fun e w' => e = .returned (.tuple #[.string ⟨#[]⟩, .int .i64 1]) ∧ Below w.heap.size w w' := by
  have HB := Aside.mk (bl_alloc (Below.refl w.heap.size w) (.cells #[.int .i64 lg, .bool false, .int .u32 id] 58))
  go_enter Try.func44, Try.ntmps44
  go_wp2_with fail
  go_ret2
  exact ⟨rfl, HB.out⟩
set_option maxRecDepth 100000 in
set_option maxHeartbeats 1000000 in
theorem put_plain (lg : Int) (w : World) (h0 : 15 ≤ lg) (h1 : lg ≤ 26) :
    Calls Try.prog 44 #[.agg #[.int .i64 lg, .bool false, .int .u32 0]] w fun e w' => e = .returned (.tuple #[.string (tab (putF lg false 0) 5), .int .i64 0]) ∧ Below w.heap.size w w' := by
  have HB := Aside.mk (bl_alloc (Below.refl w.heap.size w) (.cells #[.int .i64 lg, .bool false, .int .u32 0] 58))
  go_enter Try.func44, Try.ntmps44
  go_wp2_with fail
  have K1 := blk_magicked_far ((Blk.new w 58 #[.int .i64 lg, .bool false, .int .u32 0]).alloc (.cells zero9 96)) (B := w.heap.size + 1) (by omega)
  have K2 := blk_magicked (blk_second w (.cells #[.int .i64 lg, .bool false, .int .u32 0] 58) 96 zero9)
  replace HB := Aside.mk (bl_magicked (B := w.heap.size + 1) (bl_alloc HB.out (.cells zero9 96)) (by omega))
  have hcp := copy_magic ((w.alloc (.cells #[.int .i64 lg, .bool false, .int .u32 0] 58)).alloc (.cells zero9 96)) (w.heap.size + 1) (blk_second w _ 96 zero9)
  simp only [zero9] at K1 K2 HB hcp
  rw [hcp]
  clear hcp
  generalize hW : magicked _ (w.heap.size + 1) = W at *
  clear hW
  obtain ⟨a0, a1, a2⟩ := blkB K1
  have K4 := blk9 K2
  obtain ⟨⟨-, -, -, -, c4, -⟩, f4⟩ := K4
  have K3 := K2.set_ 4 (.int .u8 lg)
  have hcv : (convert 86 9 (.slice (some ⟨w.heap.size + 1, 0, none⟩) 5 9)).run Try.prog (W.setCell ⟨w.heap.size + 1, 4, none⟩ (.int .u8 lg)) = .ok (.string (tab (putF lg false 0) 5)) (W.setCell ⟨w.heap.size + 1, 4, none⟩ (.int .u8 lg)) :=
    conv_string _ 86 5 9 _ 5 9 _ Try.underlying86 Try.underlying5 Try.underlying9 (fun j hj => by
      rw [K3.cell j]
      match j, hj with
      | 0, _ => rfl | 1, _ => rfl | 2, _ => rfl | 3, _ => rfl | 4, _ => rfl)
  clear K3
  go_wp2_with fail
  go_ret2
  exact ⟨rfl, bl_set HB.out (by simp) _⟩

def full4 (lg id : Int) (k : Nat) : Array Value := #[.int .u8 71, .int .u8 76, .int .u8 68, .int .u8 49, .int .u8 (lg + 32),
  .int .u8 (if 0 < k then id % 256 else 0), .int .u8 (if 1 < k then id / 256 % 256 else 0), .int .u8 (if 2 < k then id / 65536 % 256 else 0), .int .u8 (if 3 < k then id / 16777216 % 256 else 0)]
theorem blkT {w : World} {g : Nat} {t : TypeId} {a b c d e f x y z : Value} (h : Blk w g t #[a, b, c, d, e, f, x, y, z]) :
    w.cell? ⟨g, 5, none⟩ = some f ∧ w.cell? ⟨g, 6, none⟩ = some x ∧ w.cell? ⟨g, 7, none⟩ = some y ∧ w.cell? ⟨g, 8, none⟩ = some z ∧
    w.frozen? ⟨g, 5, none⟩ = false ∧ w.frozen? ⟨g, 6, none⟩ = false ∧ w.frozen? ⟨g, 7, none⟩ = false ∧ w.frozen? ⟨g, 8, none⟩ = false := ⟨h.cell 5, h.cell 6, h.cell 7, h.cell 8, h.frozen 5, h.frozen 6, h.frozen 7, h.frozen 8⟩
set_option maxRecDepth 100000 in
set_option maxHeartbeats 1000000 in
theorem put_full (lg id : Int) (w : World) (h0 : 15 ≤ lg) (h1 : lg ≤ 26) :
    Calls Try.prog 44 #[.agg #[.int .i64 lg, .bool true, .int .u32 id]] w fun e w' => e = .returned (.tuple #[.string (tab (putF lg true id) 9), .int .i64 0]) ∧ Below w.heap.size w w' := by
  have HB := Aside.mk (bl_alloc (Below.refl w.heap.size w) (.cells #[.int .i64 lg, .bool true, .int .u32 id] 58))
  go_enter Try.func44, Try.ntmps44
  go_wp2_with fail
  have K1 := blk_magicked_far ((Blk.new w 58 #[.int .i64 lg, .bool true, .int .u32 id]).alloc (.cells zero9 96)) (B := w.heap.size + 1) (by omega)
  have K2 := blk_magicked (blk_second w (.cells #[.int .i64 lg, .bool true, .int .u32 id] 58) 96 zero9)
  replace HB := Aside.mk (bl_magicked (B := w.heap.size + 1) (bl_alloc HB.out (.cells zero9 96)) (by omega))
  have hcp := copy_magic ((w.alloc (.cells #[.int .i64 lg, .bool true, .int .u32 id] 58)).alloc (.cells zero9 96)) (w.heap.size + 1) (blk_second w _ 96 zero9)
  simp only [zero9] at K1 K2 HB hcp
  rw [hcp]
  clear hcp
  generalize hW : magicked _ (w.heap.size + 1) = W at *
  clear hW
  obtain ⟨a0, a1, a2⟩ := blkB K1
  have K4 := blk9 K2
  obtain ⟨⟨-, -, -, -, c4, -⟩, f4⟩ := K4
  go_wp2_with fail
  go_loopw [39] (fun i wr => ∃ k : Nat, k ≤ 4 ∧ i = .int .i64 k ∧ Blk wr w.heap.size 58 #[.int .i64 lg, .bool true, .int .u32 id] ∧ Blk wr (w.heap.size + 1) 96 (full4 lg id k) ∧ Below w.heap.size w wr) (fun i _ => 4 - (intOf i).toNat)
  case atStart =>
    refine ⟨0, by omega, rfl, ?_, ?_, ?_⟩
    · exact (K1.far (by simp) _).far (by simp) _
    · exact (K2.set_ 4 _).set_ 4 _
    · exact bl_set (bl_set HB.out (by simp) _) (by simp) _
  case round =>
    obtain ⟨k, hk, rfl, L1, L2, hb⟩ := hrel
    clear a0 a1 a2 f4 c4 HB K1 K2
    have HB := Aside.mk hb
    clear hb
    obtain ⟨a0, a1, a2⟩ := blkB L1
    obtain ⟨c5, c6, c7, c8, f5, f6, f7, f8⟩ := blkT L2
    obtain rfl | rfl | rfl | rfl | rfl : k = 0 ∨ k = 1 ∨ k = 2 ∨ k = 3 ∨ k = 4 := by omega
    · go_wp2_with fail
      exact ⟨⟨1, by omega, rfl, L1.far (by simp) _, L2.set_ 5 (.int .u8 (id % 256)), bl_set HB.out (by simp) _⟩, by simp [intOf]⟩
    · go_wp2_with fail
      exact ⟨⟨2, by omega, rfl, L1.far (by simp) _, L2.set_ 6 (.int .u8 (id / 256 % 256)), bl_set HB.out (by simp) _⟩, by simp [intOf]⟩
    · go_wp2_with fail
      exact ⟨⟨3, by omega, rfl, L1.far (by simp) _, L2.set_ 7 (.int .u8 (id / 65536 % 256)), bl_set HB.out (by simp) _⟩, by simp [intOf]⟩
    · go_wp2_with fail
      exact ⟨⟨4, by omega, rfl, L1.far (by simp) _, L2.set_ 8 (.int .u8 (id / 16777216 % 256)), bl_set HB.out (by simp) _⟩, by simp [intOf]⟩
    · have hcv : (convert 86 9 (.slice (some ⟨w.heap.size + 1, 0, none⟩) 9 9)).run Try.prog wr = .ok (.string (tab (putF lg true id) 9)) wr :=
        conv_string _ 86 5 9 _ 9 9 _ Try.underlying86 Try.underlying5 Try.underlying9 (fun j hj => by
          rw [L2.cell j]
          match j, hj with
          | 0, _ => rfl | 1, _ => rfl | 2, _ => rfl | 3, _ => rfl | 4, _ => rfl | 5, _ => rfl | 6, _ => rfl | 7, _ => rfl | 8, _ => rfl)
      go_wp2_with fail
      go_ret2
      exact ⟨rfl, HB.out⟩

theorem put_all (lg : Int) (has : Bool) (id : Int) (w : World) :
    Calls Try.prog 44 #[.agg #[.int .i64 lg, .bool has, .int .u32 id]] w fun e w' => e = .returned (.tuple #[.string (putS lg has id), .int .i64 (putOk lg has id)]) ∧ Below w.heap.size w w' := by
  by_cases h : lg < 15 ∨ 26 < lg
  · have := put_bad lg has id w h
    simpa [putS, putOk, h] using this
  · cases has
    · by_cases h2 : id = 0
      · subst h2
        have := put_plain lg w (by omega) (by omega)
        simpa [putS, putOk, h] using this
      · have := put_id lg id w (by omega) (by omega) h2
        simpa [putS, putOk, h, h2] using this
    · have := put_full lg id w (by omega) (by omega)
      simpa [putS, putOk, h] using this
end Go.Proofs.Ytjmenlffhoodeab
