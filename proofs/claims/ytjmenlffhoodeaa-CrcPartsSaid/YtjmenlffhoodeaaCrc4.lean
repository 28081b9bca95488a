/- crc's sum by fours, and the sums, walked. -/
import Derived.Test.YtjmenlffhoodeaaCrc3
namespace Go.Proofs.Ytjmenlffhoodeaa
open Go.RowKit

/-- Four bytes as a word. -/
def word4 (a b c d : Nat) : Nat := a + 256 * b + 65536 * c + 16777216 * d
theorem word4_lt {a b c d : Nat} (ha : a < 256) (hb : b < 256) (hc : c < 256) (hd : d < 256) : word4 a b c d < 4294967296 := by unfold word4; omega
theorem word4_xor {a b c d : Nat} (ha : a < 256) (hb : b < 256) (hc : c < 256) : word4 a b c d = a ^^^ (256 * b ^^^ (65536 * c ^^^ 16777216 * d)) := by
  have h := Crc.split32 (word4 a b c d)
  rw [h]
  unfold word4
  rw [show (a + 256 * b + 65536 * c + 16777216 * d) % 256 = a from by omega, show (a + 256 * b + 65536 * c + 16777216 * d) / 256 % 256 = b from by omega,
    show (a + 256 * b + 65536 * c + 16777216 * d) / 65536 % 256 = c from by omega, show (a + 256 * b + 65536 * c + 16777216 * d) / 16777216 = d from by omega]
theorem u32_or_add (x y i : Nat) (hx : x < 2 ^ i) (hy : y * 2 ^ i < 4294967296) (hx2 : x < 4294967296) : bits .or .u32 (x : Int) ((y * 2 ^ i : Nat) : Int) = ((x + y * 2 ^ i : Nat) : Int) := by
  rw [u32_or_nat x (y * 2 ^ i) hx2 hy, Nat.or_comm, nat_join i (y * 2 ^ i) x (by simp) hx, Nat.add_comm]
theorem or4 {a b c d : Nat} (ha : a < 256) (hb : b < 256) (hc : c < 256) (hd : d < 256) :
    bits .or .u32 (a : Int) ((b : Int) * 256) = (a : Int) + (b : Int) * 256 ∧ bits .or .u32 ((a : Int) + (b : Int) * 256) ((c : Int) * 65536) = (a : Int) + (b : Int) * 256 + (c : Int) * 65536 ∧
    bits .or .u32 ((a : Int) + (b : Int) * 256 + (c : Int) * 65536) ((d : Int) * 16777216) = ((word4 a b c d : Nat) : Int) := by
  refine ⟨?_, ?_, ?_⟩
  · have := u32_or_add a b 8 (by omega) (by omega) (by omega); simpa using this
  · have := u32_or_add (a + b * 256) c 16 (by omega) (by omega) (by omega); simpa using this
  · have := u32_or_add (a + b * 256 + c * 65536) d 24 (by omega) (by omega) (by omega)
    rw [show word4 a b c d = a + b * 256 + c * 65536 + d * 2 ^ 24 from by unfold word4; omega]
    simpa using this

theorem extract4 (s : ByteArray) (k : Nat) (h : 4 * k + 4 ≤ s.size) : (s.extract (4 * k) s.size).extract 4 (s.size - 4 * k) = s.extract (4 * (k + 1)) s.size := by
  have e1 : 4 + (s.size - 4 * k - 4) = s.size - 4 * k := by omega
  have e2 : 4 * (k + 1) + (s.size - 4 * k - 4) = s.size := by omega
  have e3 : 4 * k + (s.size - 4 * k) = s.size := by omega
  have hz : (s.extract (4 * k) s.size).size = s.size - 4 * k := by simp
  refine bytes_eq _ _ (by simp; omega) fun i hi => ?_
  have hi2 : i < s.size - 4 * k - 4 := by simp at hi; omega
  have h1 := byt_extract (s.extract (4 * k) s.size) 4 (s.size - 4 * k - 4) i hi2 (by omega)
  have h2 := byt_extract s (4 * k) (s.size - 4 * k) (4 + i) (by omega) (by omega)
  have h3 := byt_extract s (4 * (k + 1)) (s.size - 4 * k - 4) i hi2 (by omega)
  rw [e1] at h1
  rw [e3] at h2
  rw [e2] at h3
  rw [h1, h2, h3]
  congr 1
  omega
set_option maxRecDepth 100000 in
set_option maxHeartbeats 1000000 in
theorem byFours_any (c : Nat) (s : ByteArray) (w : World) (hc : c < 4294967296) (hs : s.size ≤ 65536) :
    Calls Try.prog 51 #[.int .u32 (c : Int), .string s] w fun e w' => e = .returned (.int .u32 (Crc.run (bytN s) 0 s.size c : Nat)) ∧ Below w.heap.size w w' := by
  have Hc := Aside.mk hc
  have hz := (zero_of_info info80).1
  have i80 : (Try.prog.info? 80).map (·.size) = some (rowC (fun i => Crc.T (i / 256) (i % 256)) 1024).size := by rw [rowC_size]; exact (zero_of_info info80).2
  have I80 := Aside.mk i80
  clear i80 hc
  go_enter Try.func51, Try.ntmps51
  go_wp2_with fail
  refine (tables_any _).mono ?_
  rintro e w1 ⟨rfl, hb⟩
  have hz1 := hb.size
  have HB := Aside.mk (bl_alloc hb (.cells (rowC (fun _ => 0) 1024) 80))
  have S0 := Aside.mk (Blk.new w1 80 (rowC (fun _ => 0) 1024))
  clear hb
  go_wp2_with (refine wpList_store_row rfl 80 (.tmp 5) (.tmp 6) rfl w1.heap.size _ rfl rfl 80 _ S0.out I80.out (by rw [rowC_size, rowC_size]) (rowC_one _ _) ?_)
  replace S0 := Aside.mk (S0.out.setRow (rowC (fun i => Crc.T (i / 256) (i % 256)) 1024))
  replace HB := Aside.mk (bl_setRow HB.out hz1 (rowC (fun i => Crc.T (i / 256) (i % 256)) 1024))
  clear hz
  generalize World.setRow _ w1.heap.size _ = w2 at S0 HB ⊢
  generalize w1.heap.size = g at S0 HB hz1 ⊢
  simp only [Act.put]
  go_loopw [0, 1] (fun x t wr => ∃ k : Nat, 4 * k ≤ s.size ∧ t = .string (s.extract (4 * k) s.size) ∧ x = .int .u32 (Crc.run (bytN s) 0 (4 * k) c : Nat) ∧ Aside (Blk wr g 80 (rowC (fun i => Crc.T (i / 256) (i % 256)) 1024)) ∧
    Aside (Below w.heap.size w wr)) (fun _ t _ => strSize t)
  case atStart => exact ⟨0, by omega, by simp, rfl, S0, HB⟩
  case round =>
    clear S0 HB
    obtain ⟨k, hk, rfl, rfl, S0, HB⟩ := hrel
    have hsz : (s.extract (4 * k) s.size).size = s.size - 4 * k := by simp
    by_cases hlt : 4 * k + 4 ≤ s.size
    · have hx := Crc.run_lt (bytN s) (bytN_lt s) (4 * k) 0 c Hc.out
      have q0 := run_idx (P := Try.prog) 9 (s.extract (4 * k) s.size) .i64 0 0 rfl (by omega) Try.underlying9
      have q1 := run_idx (P := Try.prog) 9 (s.extract (4 * k) s.size) .i64 1 1 rfl (by omega) Try.underlying9
      have q2 := run_idx (P := Try.prog) 9 (s.extract (4 * k) s.size) .i64 2 2 rfl (by omega) Try.underlying9
      have q3 := run_idx (P := Try.prog) 9 (s.extract (4 * k) s.size) .i64 3 3 rfl (by omega) Try.underlying9
      have hby : ∀ j, j < 4 → byt (s.extract (4 * k) s.size) j = (bytN s (4 * k + j) : Nat) := fun j hj => by
        have := byt_extract s (4 * k) (s.size - 4 * k) j (by omega) (by omega)
        rw [show 4 * k + (s.size - 4 * k) = s.size from by omega] at this
        rw [this]; rfl
      rw [hby 0 (by omega)] at q0
      rw [hby 1 (by omega)] at q1
      rw [hby 2 (by omega)] at q2
      rw [hby 3 (by omega)] at q3
      have l0 := bytN_lt s (4 * k + 0)
      have l1 := bytN_lt s (4 * k + 1)
      have l2 := bytN_lt s (4 * k + 2)
      have l3 := bytN_lt s (4 * k + 3)
      have hr4 : Crc.run (bytN s) 0 (4 * k + 4) c = Crc.T 3 (Crc.run (bytN s) 0 (4 * k) c ^^^ word4 (bytN s (4 * k + 0)) (bytN s (4 * k + 1)) (bytN s (4 * k + 2)) (bytN s (4 * k + 3))) := by
        rw [word4_xor l0 l1 l2, ← Crc.four, Crc.run_add, Nat.zero_add]; rfl
      have HR := Aside.mk hr4
      generalize Crc.run (bytN s) 0 (4 * k) c = x at hx HR ⊢
      generalize bytN s (4 * k + 0) = b0 at q0 l0 HR
      generalize bytN s (4 * k + 1) = b1 at q1 l1 HR
      generalize bytN s (4 * k + 2) = b2 at q2 l2 HR
      generalize bytN s (4 * k + 3) = b3 at q3 l3 HR
      have hx4 : x ^^^ word4 b0 b1 b2 b3 < 4294967296 := Nat.xor_lt_two_pow (n := 32) hx (word4_lt l0 l1 l2 l3)
      obtain ⟨o1, o2, o3⟩ := or4 l0 l1 l2 l3
      have ox : bits .xor .u32 (x : Int) ((word4 b0 b1 b2 b3 : Nat) : Int) = ((x ^^^ word4 b0 b1 b2 b3 : Nat) : Int) := u32_xor_nat x _ hx (word4_lt l0 l1 l2 l3)
      have v1 : IntKind.u32.wrap ((b1 : Int) * 256) = (b1 : Int) * 256 := by rw [IntKind.wrap_u32']; omega
      have v2 : IntKind.u32.wrap ((b2 : Int) * 65536) = (b2 : Int) * 65536 := by rw [IntKind.wrap_u32']; omega
      have v3 : IntKind.u32.wrap ((b3 : Int) * 16777216) = (b3 : Int) * 16777216 := by rw [IntKind.wrap_u32']; omega
      have d0 : (b0 : Int) ≤ 255 := by omega
      have d1 : (b1 : Int) ≤ 255 := by omega
      have d2 : (b2 : Int) ≤ 255 := by omega
      have d3 : (b3 : Int) ≤ 255 := by omega
      have hs4 : (4 : Int) ≤ (s.size - 4 * k : Nat) := by omega
      generalize hte : s.extract (4 * k) s.size = t at q0 q1 q2 q3 hsz ⊢
      have HTE := Aside.mk hte
      clear hte
      have HX := Aside.mk hx
      have HX4 := Aside.mk hx4
      clear hby hx hx4 hr4
      go_wp2_with fail
      go_quiet (fail)
      clear q0 q1 q2 q3 o1 o2 o3 ox v1 v2 v3 d0 d1 d2 d3
      have hT : ∀ j y, j < 4 → y < 256 → wr.cell? ⟨g, j * 256 + y, none⟩ = some (.int .u32 (Crc.T j y : Nat)) := fun j y hj hy => by
        rw [S0.out.cell, rowC_at _ _ _ (by omega), show (j * 256 + y) / 256 = j from by omega, show (j * 256 + y) % 256 = y from by omega]
      have HW := Aside.mk (Crc.T_word (x ^^^ word4 b0 b1 b2 b3))
      replace HR := HR.out
      generalize x ^^^ word4 b0 b1 b2 b3 = y at HX4 HR HW ⊢
      replace HR := Aside.mk HR
      have t3 := hT 3 (y % 256) (by omega) (by omega)
      have t2 := hT 2 (y / 256 % 256) (by omega) (by omega)
      have t1 := hT 1 (y / 65536 % 256) (by omega) (by omega)
      have t0 := hT 0 (y / 16777216) (by omega) (by have := HX4.out; omega)
      clear hT
      rw [show 3 * 256 = 768 from rfl] at t3
      rw [show 2 * 256 = 512 from rfl] at t2
      rw [show 1 * 256 = 256 from rfl] at t1
      rw [show 0 * 256 = 0 from rfl, Nat.zero_add] at t0
      have n0 : ((y : Int) % 256).toNat = y % 256 := by omega
      have n1 : ((y : Int) / 256 % 256).toNat = y / 256 % 256 := by omega
      have n2 : ((y : Int) / 65536 % 256).toNat = y / 65536 % 256 := by omega
      have n3 : ((y : Int) / 16777216).toNat = y / 16777216 := by omega
      have e1 : bits .xor .u32 ((Crc.T 3 (y % 256) : Nat) : Int) ((Crc.T 2 (y / 256 % 256) : Nat) : Int) = ((Crc.T 3 (y % 256) ^^^ Crc.T 2 (y / 256 % 256) : Nat) : Int) :=
        u32_xor_nat _ _ (Crc.T_lt 3 _ (by omega)) (Crc.T_lt 2 _ (by omega))
      have e2 : bits .xor .u32 ((Crc.T 3 (y % 256) ^^^ Crc.T 2 (y / 256 % 256) : Nat) : Int) ((Crc.T 1 (y / 65536 % 256) : Nat) : Int) = ((Crc.T 3 (y % 256) ^^^ Crc.T 2 (y / 256 % 256) ^^^ Crc.T 1 (y / 65536 % 256) : Nat) : Int) :=
        u32_xor_nat _ _ (Nat.xor_lt_two_pow (n := 32) (Crc.T_lt 3 _ (by omega)) (Crc.T_lt 2 _ (by omega))) (Crc.T_lt 1 _ (by omega))
      have e3 : bits .xor .u32 ((Crc.T 3 (y % 256) ^^^ Crc.T 2 (y / 256 % 256) ^^^ Crc.T 1 (y / 65536 % 256) : Nat) : Int) ((Crc.T 0 (y / 16777216) : Nat) : Int) = ((Crc.T 3 y : Nat) : Int) := by
        rw [HW.out]
        exact u32_xor_nat _ _ (Nat.xor_lt_two_pow (n := 32) (Nat.xor_lt_two_pow (n := 32) (Crc.T_lt 3 _ (by omega)) (Crc.T_lt 2 _ (by omega))) (Crc.T_lt 1 _ (by omega))) (Crc.T_lt 0 _ (by have := HX4.out; omega))
      have w0 : IntKind.u8.wrap (y : Int) = (y : Int) % 256 := IntKind.wrap_u8' _
      have w1 : IntKind.u8.wrap ((y : Int) / 256) = (y : Int) / 256 % 256 := IntKind.wrap_u8' _
      have w2 : IntKind.u8.wrap ((y : Int) / 65536) = (y : Int) / 65536 % 256 := IntKind.wrap_u8' _
      have w3 : IntKind.u8.wrap ((y : Int) / 16777216) = (y : Int) / 16777216 := by rw [IntKind.wrap_u8']; have := HX4.out; omega
      have p0 : (0 : Int) ≤ (y : Int) % 256 := by omega
      have p1 : (0 : Int) ≤ (y : Int) / 256 % 256 := by omega
      have p2 : (0 : Int) ≤ (y : Int) / 65536 % 256 := by omega
      have p3 : (0 : Int) ≤ (y : Int) / 16777216 := by omega
      have r0 : (y : Int) % 256 < 256 := by omega
      have r1 : (y : Int) / 256 % 256 < 256 := by omega
      have r2 : (y : Int) / 65536 % 256 < 256 := by omega
      have r3 : (y : Int) / 16777216 < 256 := by have := HX4.out; omega
      go_wp2_with fail
      go_quiet (fail)
      clear t3 t2 t1 t0 n0 n1 n2 n3 e1 e2 e3 w0 w1 w2 w3 p0 p1 p2 p3 r0 r1 r2 r3
      go_wp2_with fail
      refine ⟨⟨k + 1, by omega, ?_, ?_, ⟨S0.out⟩, ⟨bl_drewN HB.out _⟩⟩, ?_⟩
      · rw [← HTE.out]; simp
        exact extract4 s k hlt
      · rw [show 4 * (k + 1) = 4 * k + 4 from by omega, HR.out]
      · simp [strSize]; omega
    · have h2 : s.size - 4 * k < 4 := by omega
      have ht : ∀ i, i < 256 → wr.cell? ⟨g, i, none⟩ = some (.int .u32 (Crc.T 0 i : Nat)) := fun i hi => by
        rw [S0.out.cell, rowC_at _ _ _ (by omega), show i / 256 = 0 from by omega, show i % 256 = i from by omega]
      have HT := Aside.mk ht
      have hg := S0.out.lt
      have hx := Crc.run_lt (bytN s) (bytN_lt s) (4 * k) 0 c Hc.out
      have HRR : Aside (Crc.run (bytN (s.extract (4 * k) s.size)) 0 (s.extract (4 * k) s.size).size (Crc.run (bytN s) 0 (4 * k) c) = Crc.run (bytN s) 0 s.size c) := ⟨by
        rw [hsz]
        rw [show Crc.run (bytN s) 0 s.size c = Crc.run (bytN s) 0 (4 * k + (s.size - 4 * k)) c from by rw [show 4 * k + (s.size - 4 * k) = s.size from by omega], Crc.run_add]
        refine Crc.run_congr _ _ _ _ _ _ fun i hi => ?_
        have := byt_extract s (4 * k) (s.size - 4 * k) i hi (by omega)
        rw [show 4 * k + (s.size - 4 * k) = s.size from by omega] at this
        unfold byt at this
        unfold bytN
        rw [Nat.zero_add, Nat.zero_add]
        omega⟩
      have HX := Aside.mk hx
      clear ht hx
      go_wp2_with (go_at_call 50; refine (byBytes_any _ _ g _ HX.out (by rw [hsz]; omega) hg HT.out).mono ?_; rintro e w' ⟨rfl, hb⟩; rw [HRR.out])
      go_ret
      exact ⟨rfl, bl_step HB.out hb⟩

/-- All bits turned. -/
def not32 (c : Nat) : Nat := 4294967295 - c
theorem not32_lt (c : Nat) : not32 c < 4294967296 := by unfold not32; omega
theorem not32_not32 (c : Nat) (h : c < 4294967296) : not32 (not32 c) = c := by unfold not32; omega
theorem not32_inj {a b : Nat} (ha : a < 4294967296) (hb : b < 4294967296) (h : not32 a = not32 b) : a = b := by unfold not32 at h; omega
theorem run_not32 (c : Nat) (h : c < 4294967296) : bits .xor .u32 IntKind.u32.max (c : Int) = ((not32 c : Nat) : Int) := by
  have h1 : bits .xor .u32 ((4294967295 : Nat) : Int) (c : Int) = ((4294967295 ^^^ c : Nat) : Int) := u32_xor_nat 4294967295 c (by omega) h
  have h2 : 4294967295 ^^^ c = not32 c := by
    have e : BitVec.allOnes 32 ^^^ BitVec.ofNat 32 c = ~~~ (BitVec.ofNat 32 c) := BitVec.allOnes_xor
    have e2 := congrArg BitVec.toNat e
    rw [BitVec.toNat_xor, BitVec.toNat_not, BitVec.toNat_allOnes, BitVec.toNat_ofNat, Nat.mod_eq_of_lt (by omega)] at e2
    exact e2
  rw [h2] at h1
  exact h1
/-- The sum of a row with bytes behind. -/
def crcF (sum : Nat) (s : ByteArray) : Nat := not32 (Crc.run (bytN s) 0 s.size (not32 sum))
theorem crcF_lt (sum : Nat) (s : ByteArray) : crcF sum s < 4294967296 := not32_lt _

set_option maxRecDepth 100000 in
set_option maxHeartbeats 1000000 in
theorem add_any (c : Nat) (s : ByteArray) (w : World) (hc : c < 4294967296) (hs : s.size ≤ 65536) :
    Calls Try.prog 30 #[.int .u32 (c : Int), .string s] w fun e w' => e = .returned (.int .u32 (crcF c s : Nat)) ∧ Below w.heap.size w w' := by
  have n1 := run_not32 c hc
  have l1 := not32_lt c
  have n2 := run_not32 (Crc.run (bytN s) 0 s.size (not32 c)) (Crc.run_lt (bytN s) (bytN_lt s) _ _ _ l1)
  have L1 := Aside.mk l1
  clear l1 hc
  by_cases h1 : s.size < 64
  · have hh : (s.size : Int) < 64 := by omega
    go_enter Try.func30, Try.ntmps30
    go_wp2_with fail
    refine (byBits_any (not32 c) s _ L1.out hs).mono ?_
    rintro e w1 ⟨rfl, hb⟩
    go_wp2_with fail
    go_ret
    exact ⟨rfl, hb⟩
  · by_cases h2 : s.size < 4096
    · have hh : ¬ (s.size : Int) < 64 := by omega
      have hh2 : (s.size : Int) < 4096 := by omega
      have hz := (zero_of_info info59).1
      have i59 : (Try.prog.info? 59).map (·.size) = some (rowC (fun i => Crc.T 0 i) 256).size := by rw [rowC_size]; exact (zero_of_info info59).2
      have I59 := Aside.mk i59
      clear i59
      go_enter Try.func30, Try.ntmps30
      go_wp2_with fail
      refine (first_any _).mono ?_
      rintro e w1 ⟨rfl, hb⟩
      have hz1 := hb.size
      have HB := Aside.mk (bl_alloc hb (.cells (rowC (fun _ => 0) 256) 59))
      have S0 := Aside.mk (Blk.new w1 59 (rowC (fun _ => 0) 256))
      clear hb
      go_wp2_with (refine wpList_store_row rfl 59 (.tmp 6) (.tmp 23) rfl w1.heap.size _ rfl rfl 59 _ S0.out I59.out (by rw [rowC_size, rowC_size]) (rowC_one _ _) ?_)
      replace S0 := Aside.mk (S0.out.setRow (rowC (fun i => Crc.T 0 i) 256))
      replace HB := Aside.mk (bl_setRow HB.out hz1 (rowC (fun i => Crc.T 0 i) 256))
      clear hz
      generalize World.setRow _ w1.heap.size _ = w2 at S0 HB ⊢
      generalize w1.heap.size = g at S0 HB hz1 ⊢
      have hg := S0.out.lt
      have ht : ∀ i, i < 256 → w2.cell? ⟨g, i, none⟩ = some (.int .u32 (Crc.T 0 i : Nat)) := fun i hi => by
        rw [S0.out.cell, rowC_at _ _ _ hi]
      have HT := Aside.mk ht
      clear ht
      go_wp2_with fail
      refine (byBytes_any (not32 c) s g _ L1.out hs hg HT.out).mono ?_
      rintro e w3 ⟨rfl, hb⟩
      go_wp2_with fail
      go_ret
      exact ⟨rfl, bl_step HB.out hb⟩
    · have hh : ¬ (s.size : Int) < 64 := by omega
      have hh2 : ¬ (s.size : Int) < 4096 := by omega
      go_enter Try.func30, Try.ntmps30
      go_wp2_with fail
      refine (byFours_any (not32 c) s _ L1.out hs).mono ?_
      rintro e w1 ⟨rfl, hb⟩
      go_wp2_with fail
      go_ret
      exact ⟨rfl, hb⟩

set_option maxRecDepth 100000 in
set_option maxHeartbeats 1000000 in
theorem sum_any (s : ByteArray) (w : World) (hs : s.size ≤ 65536) :
    Calls Try.prog 28 #[.string s] w fun e w' => e = .returned (.int .u32 (crcF 0 s : Nat)) ∧ Below w.heap.size w w' := by
  go_enter Try.func28, Try.ntmps28
  go_wp2_with (go_at_call 30; refine (add_any 0 s _ (by omega) hs).mono ?_; rintro e w1 ⟨rfl, hb⟩)
  go_ret
  exact ⟨rfl, hb⟩

set_option maxRecDepth 100000 in
set_option maxHeartbeats 1000000 in
theorem refAdd_any (c : Nat) (s : ByteArray) (w : World) (hc : c < 4294967296) (hs : s.size ≤ 65536) :
    Calls Try.prog 31 #[.int .u32 (c : Int), .string s] w fun e w' => e = .returned (.int .u32 (crcF c s : Nat)) ∧ w = w' := by
  have n1 := run_not32 c hc
  have l1 := not32_lt c
  have n2 := run_not32 (Crc.run (bytN s) 0 s.size (not32 c)) (Crc.run_lt (bytN s) (bytN_lt s) _ _ _ l1)
  have L1 := Aside.mk l1
  have N2 := Aside.mk n2
  clear l1 hc n2
  go_enter Try.func31, Try.ntmps31
  go_wp2_with fail
  clear n1
  go_loop [5, 6] (fun x i => ∃ k : Nat, k ≤ s.size ∧ i = .int .i64 k ∧ x = .int .u32 (Crc.run (bytN s) 0 k (not32 c) : Nat)) (fun _ i => s.size - (intOf i).toNat)
  case atStart => exact ⟨0, by omega, rfl, rfl⟩
  case round =>
    obtain ⟨k, hk, rfl, rfl⟩ := hrel
    by_cases hlt : k < s.size
    · have hx := Crc.run_lt (bytN s) (bytN_lt s) k 0 _ L1.out
      have HN := Aside.mk (Crc.run_snoc (bytN s) k 0 (not32 c))
      rw [Nat.zero_add] at HN
      have q0 := run_idx (P := Try.prog) 9 s .i64 k k rfl hlt Try.underlying9
      rw [byt_N] at q0
      have hb := bytN_lt s k
      generalize Crc.run (bytN s) 0 k (not32 c) = x at hx HN ⊢
      generalize bytN s k = b at hb HN q0
      have h2 : bits .xor .u32 (x : Int) (b : Int) = ((x ^^^ b : Nat) : Int) := u32_xor_nat x b hx (by omega)
      have hy : x ^^^ b < 4294967296 := Nat.xor_lt_two_pow (n := 32) hx (by omega)
      have hb2 : (b : Int) ≤ 255 := by omega
      have HY := Aside.mk hy
      clear hx hy hb
      go_wp2_with fail
      clear h2 q0
      have HN2 : Aside (Crc.run (bytN s) 0 (k + 1) (not32 c) = Crc.S (x ^^^ b)) := HN
      clear HN
      generalize x ^^^ b = y at HY HN2 ⊢
      go_loop [5, 7, 8] (fun z j _ => ∃ m : Nat, m ≤ 8 ∧ j = .int .i64 m ∧ z = .int .u32 (Crc.steps m y : Nat)) (fun _ j _ => 8 - (intOf j).toNat)
      case atStart => exact ⟨0, by omega, rfl, rfl⟩
      case round =>
        obtain ⟨m, hm, rfl, rfl⟩ := hrel
        by_cases hlt2 : m < 8
        · have hz := Crc.steps_lt m y HY.out
          have HS := Aside.mk (Crc.steps_succ m y)
          generalize Crc.steps m y = z at hz HS ⊢
          have HZ := Aside.mk hz
          have hq : (z : Int) / 2 % 4294967296 = (z : Int) / 2 := by omega
          clear hz
          by_cases ho : z % 2 = 1
          · have hb : ((z : Int) % 2 == 1) = true := by simp; omega
            have h2 : bits .xor .u32 ((z : Int) / 2) 3988292384 = ((z / 2 ^^^ Crc.poly : Nat) : Int) := u32_xor_nat (z / 2) Crc.poly (by have := HZ.out; omega) (by decide)
            have H2 : Aside ((z / 2 ^^^ Crc.poly : Nat) = Crc.steps (m + 1) y) := ⟨by rw [HS.out]; unfold Crc.step; rw [if_pos ho]⟩
            clear ho
            go_wp2_with fail
            exact ⟨⟨m + 1, by omega, by go_num, by rw [H2.out]⟩, by simp [intOf]; omega⟩
          · have hb : ((z : Int) % 2 == 1) = false := by simp; omega
            have H2 : Aside ((z / 2 : Nat) = Crc.steps (m + 1) y) := ⟨by rw [HS.out]; unfold Crc.step; rw [if_neg ho]⟩
            clear ho
            go_wp2_with fail
            exact ⟨⟨m + 1, by omega, by go_num, by rw [← H2.out]; rfl⟩, by simp [intOf]; omega⟩
        · obtain rfl : m = 8 := by omega
          go_wp2_with fail
          exact ⟨⟨k + 1, by omega, by go_num, by rw [HN2.out]; rfl⟩, by simp [intOf]; omega⟩
    · obtain rfl : k = s.size := by omega
      have n2 := N2.out
      go_wp2_with fail
      go_ret
      exact ⟨rfl, rfl⟩
set_option maxRecDepth 100000 in
set_option maxHeartbeats 1000000 in
theorem refSum_any (s : ByteArray) (w : World) (hs : s.size ≤ 65536) :
    Calls Try.prog 29 #[.string s] w fun e w' => e = .returned (.int .u32 (crcF 0 s : Nat)) ∧ w = w' := by
  go_enter Try.func29, Try.ntmps29
  go_wp2_with (go_at_call 31; refine (refAdd_any 0 s _ (by omega) hs).mono ?_; rintro e w1 ⟨rfl, rfl⟩)
  go_ret
  exact ⟨rfl, rfl⟩
end Go.Proofs.Ytjmenlffhoodeaa
