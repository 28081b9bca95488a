/- What heads' Read and the reference's compute, walked. -/
import Derived.Test.YtjmenlffhoodeabHeads2
import Derived.Laws.BitsLemmas
namespace Go.Proofs.Ytjmenlffhoodeab
open Go.RowKit
set_option linter.unusedSimpArgs false

theorem blk6 {w : World} {g : Nat} {t : TypeId} {a b c : Value} (h : Blk w g t #[a, b, c]) :
    w.cell? ⟨g, 0, none⟩ = some a ∧ w.cell? ⟨g, 1, none⟩ = some b ∧ w.cell? ⟨g, 2, none⟩ = some c ∧ w.frozen? ⟨g, 0, none⟩ = false ∧ w.frozen? ⟨g, 1, none⟩ = false ∧ w.frozen? ⟨g, 2, none⟩ = false :=
  ⟨h.cell 0, h.cell 1, h.cell 2, h.frozen 0, h.frozen 1, h.frozen 2⟩
theorem u32_or8 (x y : Int) (h0 : 0 ≤ x) (h1 : x < 256) (h2 : 0 ≤ y) (h3 : y < 256) : bits .or .u32 x (y * 256) = x + y * 256 := by
  obtain ⟨X, rfl⟩ := Int.eq_ofNat_of_zero_le h0
  obtain ⟨Y, rfl⟩ := Int.eq_ofNat_of_zero_le h2
  have hw : ∀ n : Int, 0 ≤ n → n < 2 ^ 32 → IntKind.u32.wrap n = n := fun n a b => by rw [IntKind.wrap_u32]; simp at b; omega
  have h := (bits_nat .u32 32 (by decide) hw X (Y * 256) (by omega) (by omega)).2
  have e : X ||| Y * 256 = X + Y * 256 := by
    have := Nat.two_pow_add_eq_or_of_lt (i := 8) (b := X) (by omega) Y
    rw [Nat.mul_comm Y 256, Nat.or_comm, Nat.add_comm]
    exact this.symm
  rw [e] at h
  simpa using h
theorem u32_or16 (x y : Int) (h0 : 0 ≤ x) (h1 : x < 65536) (h2 : 0 ≤ y) (h3 : y < 256) : bits .or .u32 x (y * 65536) = x + y * 65536 := by
  obtain ⟨X, rfl⟩ := Int.eq_ofNat_of_zero_le h0
  obtain ⟨Y, rfl⟩ := Int.eq_ofNat_of_zero_le h2
  have hw : ∀ n : Int, 0 ≤ n → n < 2 ^ 32 → IntKind.u32.wrap n = n := fun n a b => by rw [IntKind.wrap_u32]; simp at b; omega
  have h := (bits_nat .u32 32 (by decide) hw X (Y * 65536) (by omega) (by omega)).2
  have e : X ||| Y * 65536 = X + Y * 65536 := by
    have := Nat.two_pow_add_eq_or_of_lt (i := 16) (b := X) (by omega) Y
    rw [Nat.mul_comm Y 65536, Nat.or_comm, Nat.add_comm]
    exact this.symm
  rw [e] at h
  simpa using h
theorem u32_or24 (x y : Int) (h0 : 0 ≤ x) (h1 : x < 16777216) (h2 : 0 ≤ y) (h3 : y < 256) : bits .or .u32 x (y * 16777216) = x + y * 16777216 := by
  obtain ⟨X, rfl⟩ := Int.eq_ofNat_of_zero_le h0
  obtain ⟨Y, rfl⟩ := Int.eq_ofNat_of_zero_le h2
  have hw : ∀ n : Int, 0 ≤ n → n < 2 ^ 32 → IntKind.u32.wrap n = n := fun n a b => by rw [IntKind.wrap_u32]; simp at b; omega
  have h := (bits_nat .u32 32 (by decide) hw X (Y * 16777216) (by omega) (by omega)).2
  have e : X ||| Y * 16777216 = X + Y * 16777216 := by
    have := Nat.two_pow_add_eq_or_of_lt (i := 24) (b := X) (by omega) Y
    rw [Nat.mul_comm Y 16777216, Nat.or_comm, Nat.add_comm]
    exact this.symm
  rw [e] at h
  simpa using h
theorem i64_or8 (x y : Int) (h0 : 0 ≤ x) (h1 : x < 256) (h2 : 0 ≤ y) (h3 : y < 256) : bits .or .i64 x (y * 256) = x + y * 256 := by
  obtain ⟨X, rfl⟩ := Int.eq_ofNat_of_zero_le h0
  obtain ⟨Y, rfl⟩ := Int.eq_ofNat_of_zero_le h2
  have hw : ∀ n : Int, 0 ≤ n → n < 2 ^ 63 → IntKind.i64.wrap n = n := fun n a b => by rw [IntKind.wrap_i64]; simp at b; omega
  have h := (bits_nat .i64 63 (by decide) hw X (Y * 256) (by omega) (by omega)).2
  have e : X ||| Y * 256 = X + Y * 256 := by
    have := Nat.two_pow_add_eq_or_of_lt (i := 8) (b := X) (by omega) Y
    rw [Nat.mul_comm Y 256, Nat.or_comm, Nat.add_comm]
    exact this.symm
  rw [e] at h
  simpa using h
def idS (s : ByteArray) : Nat → Int
  | 0 => 0 | 1 => byt s 5 | 2 => byt s 5 + byt s 6 * 256 | 3 => byt s 5 + byt s 6 * 256 + byt s 7 * 65536 | _ => byt s 5 + byt s 6 * 256 + byt s 7 * 65536 + byt s 8 * 16777216
theorem idS_or (s : ByteArray) : bits .or .u32 (idS s 0) (byt s 5) = idS s 1 ∧ bits .or .u32 (idS s 1) (byt s 6 * 256) = idS s 2 ∧ bits .or .u32 (idS s 2) (byt s 7 * 65536) = idS s 3 ∧ bits .or .u32 (idS s 3) (byt s 8 * 16777216) = idS s 4 := by
  have h5 := byt_bd s 5
  have h6 := byt_bd s 6
  have h7 := byt_bd s 7
  have h8 := byt_bd s 8
  refine ⟨?_, ?_, ?_, ?_⟩
  · have hw : ∀ n : Int, 0 ≤ n → n < 2 ^ 32 → IntKind.u32.wrap n = n := fun n a b => by rw [IntKind.wrap_u32]; simp at b; omega
    obtain ⟨Y, hY⟩ := Int.eq_ofNat_of_zero_le h5.1
    have h := (bits_nat .u32 32 (by decide) hw 0 Y (by omega) (by omega)).2
    simpa [idS, hY] using h
  · exact u32_or8 _ _ h5.1 (by simp only [idS]; omega) h6.1 (by omega)
  · exact u32_or16 _ _ (by simp only [idS]; omega) (by simp only [idS]; omega) h7.1 (by omega)
  · exact u32_or24 _ _ (by simp only [idS]; omega) (by simp only [idS]; omega) h8.1 (by omega)

set_option maxRecDepth 100000 in
set_option maxHeartbeats 1000000 in
theorem read_short (s : ByteArray) (b : Bool) (w : World) (h4 : s.size ≤ 4) (hb : (s.toList == ((⟨#[71, 76, 68, 49]⟩ : ByteArray).extract 0 s.size).toList) = b) :
    Calls Try.prog 49 #[.string s] w fun e w' => e = .returned (.tuple #[.agg #[.int .i64 0, .bool false, .int .u32 0], .string ⟨#[]⟩, .int .i64 (if b then 3 else 11)]) ∧ Below w.heap.size w w' := by
  have HB := Aside.mk (bl_alloc (Below.refl w.heap.size w) (.cells #[.int .i64 0, .bool false, .int .u32 0] 58))
  have K1 := Aside.mk (Blk.new w 58 #[.int .i64 0, .bool false, .int .u32 0])
  have h5 : (s.size : Int) ≤ 4 := by omega
  have h6 : s.size < 5 := by omega
  cases b
  all_goals
    go_enter Try.func49, Try.ntmps49
    go_wp2_with fail
    go_quiet (fail)
    generalize hW : World.drewN _ nq = w2
    replace HB := Aside.mk (hW ▸ bl_drewN HB.out nq : Below w.heap.size w w2)
    replace K1 := Aside.mk (hW ▸ K1.out.drewN nq : Blk w2 w.heap.size 58 #[.int .i64 0, .bool false, .int .u32 0])
    clear hW
    obtain ⟨a0, a1, a2, a3, a4, a5⟩ := blk6 K1.out
    go_wp2_with fail
  · refine bodyPost_ret (v := .tuple #[.agg #[.int .i64 0, .bool false, .int .u32 0], .string ⟨#[]⟩, .int .i64 11]) (by simp [results, Try.results49, go_sem, a0, a1, a2]) rfl ⟨rfl, ?_⟩
    exact bl_set (bl_set (bl_set HB.out (by simp) _) (by simp) _) (by simp) _
  · refine bodyPost_ret (v := .tuple #[.agg #[.int .i64 0, .bool false, .int .u32 0], .string ⟨#[]⟩, .int .i64 3]) (by simp [results, Try.results49, go_sem, a0, a1, a2]) rfl ⟨rfl, ?_⟩
    exact bl_set (bl_set (bl_set HB.out (by simp) _) (by simp) _) (by simp) _

set_option maxRecDepth 100000 in
set_option maxHeartbeats 1000000 in
theorem read_mis (s : ByteArray) (w : World) (h4 : 5 ≤ s.size) (hb : ((s.extract 0 4).toList == ((⟨#[71, 76, 68, 49]⟩ : ByteArray).extract 0 4).toList) = false) :
    Calls Try.prog 49 #[.string s] w fun e w' => e = .returned (.tuple #[.agg #[.int .i64 0, .bool false, .int .u32 0], .string ⟨#[]⟩, .int .i64 11]) ∧ Below w.heap.size w w' := by
  have HB := Aside.mk (bl_alloc (Below.refl w.heap.size w) (.cells #[.int .i64 0, .bool false, .int .u32 0] 58))
  have K1 := Aside.mk (Blk.new w 58 #[.int .i64 0, .bool false, .int .u32 0])
  have h5 : 4 < (s.size : Int) := by omega
  go_enter Try.func49, Try.ntmps49
  go_wp2_with fail
  go_quiet (fail)
  generalize hW : World.drewN _ nq = w2
  replace HB := Aside.mk (hW ▸ bl_drewN HB.out nq : Below w.heap.size w w2)
  replace K1 := Aside.mk (hW ▸ K1.out.drewN nq : Blk w2 w.heap.size 58 #[.int .i64 0, .bool false, .int .u32 0])
  clear hW
  obtain ⟨a0, a1, a2, a3, a4, a5⟩ := blk6 K1.out
  go_wp2_with fail
  refine bodyPost_ret (v := .tuple #[.agg #[.int .i64 0, .bool false, .int .u32 0], .string ⟨#[]⟩, .int .i64 11]) (by simp [results, Try.results49, go_sem, a0, a1, a2]) rfl ⟨rfl, ?_⟩
  exact bl_set (bl_set (bl_set HB.out (by simp) _) (by simp) _) (by simp) _

set_option maxRecDepth 100000 in
set_option maxHeartbeats 1000000 in
theorem read_log (s : ByteArray) (c L M : Int) (w : World) (h4 : 5 ≤ s.size) (hb : ((s.extract 0 4).toList == ((⟨#[71, 76, 68, 49]⟩ : ByteArray).extract 0 4).toList) = true) (hc : byt s 4 = c)
    (hA : bits BinOp.andNot IntKind.i64 c 32 = L) (hM : bits BinOp.and IntKind.i64 c 32 = M) (hL : L < 15 ∨ 26 < L) :
    Calls Try.prog 49 #[.string s] w fun e w' => e = .returned (.tuple #[.agg #[.int .i64 0, .bool false, .int .u32 0], .string ⟨#[]⟩, .int .i64 12]) ∧ Below w.heap.size w w' := by
  have HB := Aside.mk (bl_alloc (Below.refl w.heap.size w) (.cells #[.int .i64 0, .bool false, .int .u32 0] 58))
  have K1 := Aside.mk (Blk.new w 58 #[.int .i64 0, .bool false, .int .u32 0])
  have h5 : 4 < (s.size : Int) := by omega
  have g0 := run_idx (P := Try.prog) 9 s .i64 4 4 (by omega) (by omega) Try.underlying9
  have c0 := byt_bd s 4
  rw [hc] at g0 c0
  obtain ⟨c0, c1⟩ := c0
  by_cases h7 : L < 15
  · go_enter Try.func49, Try.ntmps49
    go_wp2_with fail
    go_quiet (fail)
    generalize hW : World.drewN _ nq = w2
    replace HB := Aside.mk (hW ▸ bl_drewN HB.out nq : Below w.heap.size w w2)
    replace K1 := Aside.mk (hW ▸ K1.out.drewN nq : Blk w2 w.heap.size 58 #[.int .i64 0, .bool false, .int .u32 0])
    clear hW
    have hz : w.heap.size < w2.heap.size := K1.out.lt
    obtain ⟨a0, a1, a2, a3, a4, a5⟩ := blk6 K1.out
    go_wp2_with fail
    refine bodyPost_ret (v := .tuple #[.agg #[.int .i64 0, .bool false, .int .u32 0], .string ⟨#[]⟩, .int .i64 12]) (by simp [results, Try.results49, go_sem, a0, a1, a2, hz]) rfl ⟨rfl, ?_⟩
    exact (by repeat (first | exact HB.out | apply bl_alloc | apply bl_drewN | apply bl_drew | (refine bl_set ?_ (by first | omega | (simp; omega) | simp) _)))
  · have h8 : 26 < L := by omega
    go_enter Try.func49, Try.ntmps49
    go_wp2_with fail
    go_quiet (fail)
    generalize hW : World.drewN _ nq = w2
    replace HB := Aside.mk (hW ▸ bl_drewN HB.out nq : Below w.heap.size w w2)
    replace K1 := Aside.mk (hW ▸ K1.out.drewN nq : Blk w2 w.heap.size 58 #[.int .i64 0, .bool false, .int .u32 0])
    clear hW
    have hz : w.heap.size < w2.heap.size := K1.out.lt
    obtain ⟨a0, a1, a2, a3, a4, a5⟩ := blk6 K1.out
    go_wp2_with fail
    refine bodyPost_ret (v := .tuple #[.agg #[.int .i64 0, .bool false, .int .u32 0], .string ⟨#[]⟩, .int .i64 12]) (by simp [results, Try.results49, go_sem, a0, a1, a2, hz]) rfl ⟨rfl, ?_⟩
    exact (by repeat (first | exact HB.out | apply bl_alloc | apply bl_drewN | apply bl_drew | (refine bl_set ?_ (by first | omega | (simp; omega) | simp) _)))
set_option maxRecDepth 100000 in
set_option maxHeartbeats 1000000 in
theorem read_cut (s : ByteArray) (c L M : Int) (w : World) (h4 : 5 ≤ s.size) (hb : ((s.extract 0 4).toList == ((⟨#[71, 76, 68, 49]⟩ : ByteArray).extract 0 4).toList) = true) (hc : byt s 4 = c)
    (hA : bits BinOp.andNot IntKind.i64 c 32 = L) (hM : bits BinOp.and IntKind.i64 c 32 = M) (h0 : 15 ≤ L) (h1 : L ≤ 26) (hm : (M != 0) = true) (h9 : s.size < 9) :
    Calls Try.prog 49 #[.string s] w fun e w' => e = .returned (.tuple #[.agg #[.int .i64 0, .bool false, .int .u32 0], .string ⟨#[]⟩, .int .i64 3]) ∧ Below w.heap.size w w' := by
  have HB := Aside.mk (bl_alloc (Below.refl w.heap.size w) (.cells #[.int .i64 0, .bool false, .int .u32 0] 58))
  have K1 := Aside.mk (Blk.new w 58 #[.int .i64 0, .bool false, .int .u32 0])
  have h5 : 4 < (s.size : Int) := by omega
  have g0 := run_idx (P := Try.prog) 9 s .i64 4 4 (by omega) (by omega) Try.underlying9
  have c0 := byt_bd s 4
  rw [hc] at g0 c0
  obtain ⟨c0, c1⟩ := c0
  go_enter Try.func49, Try.ntmps49
  go_wp2_with fail
  go_quiet (fail)
  generalize hW : World.drewN _ nq = w2
  replace HB := Aside.mk (hW ▸ bl_drewN HB.out nq : Below w.heap.size w w2)
  replace K1 := Aside.mk (hW ▸ K1.out.drewN nq : Blk w2 w.heap.size 58 #[.int .i64 0, .bool false, .int .u32 0])
  clear hW
  have hz : w.heap.size < w2.heap.size := K1.out.lt
  obtain ⟨a0, a1, a2, a3, a4, a5⟩ := blk6 K1.out
  go_wp2_with fail
  refine bodyPost_ret (v := .tuple #[.agg #[.int .i64 0, .bool false, .int .u32 0], .string ⟨#[]⟩, .int .i64 3]) (by simp [results, Try.results49, go_sem, a0, a1, a2, hz]) rfl ⟨rfl, ?_⟩
  exact (by repeat (first | exact HB.out | apply bl_alloc | apply bl_drewN | apply bl_drew | (refine bl_set ?_ (by first | omega | (simp; omega) | simp) _)))
set_option maxRecDepth 100000 in
set_option maxHeartbeats 1000000 in
theorem read_plain (s : ByteArray) (c L M : Int) (w : World) (h4 : 5 ≤ s.size) (hb : ((s.extract 0 4).toList == ((⟨#[71, 76, 68, 49]⟩ : ByteArray).extract 0 4).toList) = true) (hc : byt s 4 = c)
    (hA : bits BinOp.andNot IntKind.i64 c 32 = L) (hM : bits BinOp.and IntKind.i64 c 32 = M) (h0 : 15 ≤ L) (h1 : L ≤ 26) (hm : (M != 0) = false) :
    Calls Try.prog 49 #[.string s] w fun e w' => e = .returned (.tuple #[.agg #[.int .i64 L, .bool false, .int .u32 0], .string (s.extract 5 s.size), .int .i64 0]) ∧ Below w.heap.size w w' := by
  have HB := Aside.mk (bl_alloc (Below.refl w.heap.size w) (.cells #[.int .i64 0, .bool false, .int .u32 0] 58))
  have K1 := Aside.mk (Blk.new w 58 #[.int .i64 0, .bool false, .int .u32 0])
  have h5 : 4 < (s.size : Int) := by omega
  have g0 := run_idx (P := Try.prog) 9 s .i64 4 4 (by omega) (by omega) Try.underlying9
  have c0 := byt_bd s 4
  rw [hc] at g0 c0
  obtain ⟨c0, c1⟩ := c0
  go_enter Try.func49, Try.ntmps49
  go_wp2_with fail
  go_quiet (fail)
  generalize hW : World.drewN _ nq = w2
  replace HB := Aside.mk (hW ▸ bl_drewN HB.out nq : Below w.heap.size w w2)
  replace K1 := Aside.mk (hW ▸ K1.out.drewN nq : Blk w2 w.heap.size 58 #[.int .i64 0, .bool false, .int .u32 0])
  clear hW
  have hz : w.heap.size < w2.heap.size := K1.out.lt
  obtain ⟨a0, a1, a2, a3, a4, a5⟩ := blk6 K1.out
  go_wp2_with fail
  have K2 := Aside.mk (Blk.new w2 58 #[.int .i64 L, .bool false, .int .u32 0])
  replace K1 := Aside.mk (K1.out.alloc (.cells #[.int .i64 L, .bool false, .int .u32 0] 58))
  replace HB := Aside.mk (bl_alloc HB.out (.cells #[.int .i64 L, .bool false, .int .u32 0] 58))
  have hgg : w2.heap.size ≠ w.heap.size := by omega
  generalize hW : w2.alloc (.cells #[.int .i64 L, .bool false, .int .u32 0] 58) = w3 at *
  generalize w2.heap.size = g2 at *
  clear hW a0 a1 a2 a3 a4 a5 hz
  obtain ⟨a0, a1, a2, a3, a4, a5⟩ := blk6 K1.out
  obtain ⟨d0, d1, d2, d3, d4, d5⟩ := blk6 K2.out
  go_region
  go_wp2_with fail
  refine bodyPost_ret (v := .tuple #[.agg #[.int .i64 L, .bool false, .int .u32 0], .string (s.extract 5 s.size), .int .i64 0]) (by simp [results, Try.results49, go_sem, a0, a1, a2]) rfl ⟨rfl, ?_⟩
  exact (by repeat (first | exact HB.out | apply bl_alloc | apply bl_drewN | apply bl_drew | (refine bl_set ?_ (by first | omega | (simp; omega) | simp) _)))

set_option maxRecDepth 100000 in
set_option maxHeartbeats 1000000 in
theorem read_full (s : ByteArray) (c L M : Int) (w : World) (_h4 : 5 ≤ s.size) (hb : ((s.extract 0 4).toList == ((⟨#[71, 76, 68, 49]⟩ : ByteArray).extract 0 4).toList) = true) (hc : byt s 4 = c)
    (hA : bits BinOp.andNot IntKind.i64 c 32 = L) (hM : bits BinOp.and IntKind.i64 c 32 = M) (h0 : 15 ≤ L) (h1 : L ≤ 26) (hm : (M != 0) = true) (h9 : 9 ≤ s.size)  :
    Calls Try.prog 49 #[.string s] w fun e w' => e = .returned (.tuple #[.agg #[.int .i64 L, .bool true, .int .u32 (idS s 4)], .string (s.extract 9 s.size), .int .i64 0]) ∧ Below w.heap.size w w' := by
  have HB := Aside.mk (bl_alloc (Below.refl w.heap.size w) (.cells #[.int .i64 0, .bool false, .int .u32 0] 58))
  have K1 := Aside.mk (Blk.new w 58 #[.int .i64 0, .bool false, .int .u32 0])
  have h5 : 8 < (s.size : Int) := by omega
  have g0 := run_idx (P := Try.prog) 9 s .i64 4 4 (by omega) (by omega) Try.underlying9
  have c0 := byt_bd s 4
  rw [hc] at g0 c0
  obtain ⟨c0, c1⟩ := c0
  go_enter Try.func49, Try.ntmps49
  go_wp2_with fail
  go_quiet (fail)
  generalize hW : World.drewN _ nq = w2
  replace HB := Aside.mk (hW ▸ bl_drewN HB.out nq : Below w.heap.size w w2)
  replace K1 := Aside.mk (hW ▸ K1.out.drewN nq : Blk w2 w.heap.size 58 #[.int .i64 0, .bool false, .int .u32 0])
  clear hW
  have hz : w.heap.size < w2.heap.size := K1.out.lt
  obtain ⟨a0, a1, a2, a3, a4, a5⟩ := blk6 K1.out
  go_wp2_with fail
  have K2 := Aside.mk (Blk.new w2 58 #[.int .i64 L, .bool true, .int .u32 0])
  replace K1 := Aside.mk (K1.out.alloc (.cells #[.int .i64 L, .bool true, .int .u32 0] 58))
  replace HB := Aside.mk (bl_alloc HB.out (.cells #[.int .i64 L, .bool true, .int .u32 0] 58))
  have hgg : w2.heap.size ≠ w.heap.size := by omega
  have hgl : w.heap.size ≤ w2.heap.size := by omega
  generalize hW : w2.alloc (.cells #[.int .i64 L, .bool true, .int .u32 0] 58) = w3 at *
  generalize w2.heap.size = g2 at *
  clear hW a0 a1 a2 a3 a4 a5 hz
  obtain ⟨p0, p1, p2, p3⟩ := idS_or s
  replace p0 := Aside.mk p0
  replace p1 := Aside.mk p1
  replace p2 := Aside.mk p2
  replace p3 := Aside.mk p3
  go_loopw [56] (fun i wr => ∃ k : Nat, k ≤ 4 ∧ i = .int .i64 k ∧ Blk wr w.heap.size 58 #[.int .i64 0, .bool false, .int .u32 0] ∧ Blk wr g2 58 #[.int .i64 L, .bool true, .int .u32 (idS s k)] ∧ Below w.heap.size w wr) (fun i _ => 4 - (intOf i).toNat)
  case atStart => exact ⟨0, by omega, rfl, K1.out, K2.out, HB.out⟩
  case round =>
    obtain ⟨k, hk, rfl, L1, L2, hb⟩ := hrel
    clear HB K1 K2
    have HB := Aside.mk hb
    clear hb
    obtain ⟨a0, a1, a2, a3, a4, a5⟩ := blk6 L1
    obtain ⟨d0, d1, d2, d3, d4, d5⟩ := blk6 L2
    by_cases hk4 : k < 4
    · obtain rfl | rfl | rfl | rfl : k = 0 ∨ k = 1 ∨ k = 2 ∨ k = 3 := by omega
      · have g1 := run_idx (P := Try.prog) 9 s .i64 5 5 (by omega) (by omega) Try.underlying9
        have hb5 := byt_bd s 5
        have q := p0.out
        go_wp2_with fail
        go_region
        go_wp2_with fail
        exact ⟨⟨1, by omega, rfl, (L1.far (by simpa using hgg.symm) _).drew, (L2.set_ 2 _).drew, bl_drew (bl_set HB.out (by simpa using hgl) _)⟩, by simp [intOf]⟩
      · have g1 := run_idx (P := Try.prog) 9 s .i64 6 6 (by omega) (by omega) Try.underlying9
        have hb5 := byt_bd s 6
        have q := p1.out
        go_wp2_with fail
        go_region
        go_wp2_with fail
        exact ⟨⟨2, by omega, rfl, (L1.far (by simpa using hgg.symm) _).drew, (L2.set_ 2 _).drew, bl_drew (bl_set HB.out (by simpa using hgl) _)⟩, by simp [intOf]⟩
      · have g1 := run_idx (P := Try.prog) 9 s .i64 7 7 (by omega) (by omega) Try.underlying9
        have hb5 := byt_bd s 7
        have q := p2.out
        go_wp2_with fail
        go_region
        go_wp2_with fail
        exact ⟨⟨3, by omega, rfl, (L1.far (by simpa using hgg.symm) _).drew, (L2.set_ 2 _).drew, bl_drew (bl_set HB.out (by simpa using hgl) _)⟩, by simp [intOf]⟩
      · have g1 := run_idx (P := Try.prog) 9 s .i64 8 8 (by omega) (by omega) Try.underlying9
        have hb5 := byt_bd s 8
        have q := p3.out
        go_wp2_with fail
        go_region
        go_wp2_with fail
        exact ⟨⟨4, by omega, rfl, (L1.far (by simpa using hgg.symm) _).drew, (L2.set_ 2 _).drew, bl_drew (bl_set HB.out (by simpa using hgl) _)⟩, by simp [intOf]⟩
    · obtain rfl : k = 4 := by omega
      go_wp2_with fail
      go_region
      go_wp2_with fail
      refine bodyPost_ret (v := .tuple #[.agg #[.int .i64 L, .bool true, .int .u32 (idS s 4)], .string (s.extract 9 s.size), .int .i64 0]) (by simp [results, Try.results49, go_sem, a0, a1, a2]) rfl ⟨rfl, ?_⟩
      exact (by repeat (first | exact HB.out | apply bl_alloc | apply bl_drewN | apply bl_drew | (refine bl_set ?_ (by first | omega | (simp; omega) | simp) _)))
end Go.Proofs.Ytjmenlffhoodeab
