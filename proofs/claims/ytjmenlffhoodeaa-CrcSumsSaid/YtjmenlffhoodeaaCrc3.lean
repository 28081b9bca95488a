/- crc's sums by bits and by bytes, walked. -/
import Derived.Test.YtjmenlffhoodeaaCrc2
namespace Go.Proofs.Ytjmenlffhoodeaa
open Go.RowKit

def bytN (s : ByteArray) (i : Nat) : Nat := (s.data.getD i 0).toNat
theorem bytN_lt (s : ByteArray) (i : Nat) : bytN s i < 256 := (s.data.getD i 0).toNat_lt
theorem byt_N (s : ByteArray) (i : Nat) : byt s i = (bytN s i : Nat) := rfl
theorem nxt_byte (x b : Nat) : Crc.S (x % 256 ^^^ b) ^^^ x / 256 = Crc.nxt x b := (Crc.S_byte x b).symm
theorem xor_byte (x b : Nat) (hb : b < 256) : x % 256 ^^^ b < 256 := Nat.xor_lt_two_pow (n := 8) (by omega) hb

set_option maxRecDepth 100000 in
set_option maxHeartbeats 1000000 in
theorem byBits_any (c : Nat) (s : ByteArray) (w : World) (hc : c < 4294967296) (hs : s.size ≤ 65536) :
    Calls Try.prog 48 #[.int .u32 (c : Int), .string s] w fun e w' => e = .returned (.int .u32 (Crc.run (bytN s) 0 s.size c : Nat)) ∧ Below w.heap.size w w' := by
  obtain ⟨cap, W, hconv, hcell, hbel⟩ := conv_bytes (P := Try.prog) w 9 37 5 s w.heap.size rfl Try.underlying9 Try.underlying37 Try.underlying5
  have HB := Aside.mk hbel
  have HC := Aside.mk hcell
  have Hc := Aside.mk hc
  clear hbel hcell hc
  go_enter Try.func48, Try.ntmps48
  go_wp2_with fail
  clear hconv
  go_loop [0, 10] (fun x i => ∃ k : Nat, k ≤ s.size ∧ i = .int .i64 k ∧ x = .int .u32 (Crc.run (bytN s) 0 k c : Nat)) (fun _ i => s.size - (intOf i).toNat)
  case atStart => exact ⟨0, by omega, rfl, rfl⟩
  case round =>
    obtain ⟨k, hk, rfl, rfl⟩ := hrel
    by_cases hlt : k < s.size
    · have hcl := HC.out k hlt
      rw [byt_N] at hcl
      have hx := Crc.run_lt (bytN s) (bytN_lt s) k 0 c Hc.out
      have hb := bytN_lt s k
      have HN := Aside.mk (Crc.run_snoc (bytN s) k 0 c)
      rw [Nat.zero_add] at HN
      generalize Crc.run (bytN s) 0 k c = x at hx HN ⊢
      generalize bytN s k = b at hcl hb HN
      have HX := Aside.mk hx
      clear hx
      have h1 : bits .and .u32 (x : Int) 255 = ((x % 256 : Nat) : Int) := by
        have := u32_and_nat x 255 HX.out (by omega)
        rw [nat_mask8] at this
        exact this
      have h2 : bits .xor .u32 ((x : Int) % 256) (b : Int) = ((x % 256 ^^^ b : Nat) : Int) := u32_xor_nat (x % 256) b (by omega) (by omega)
      have h3 : bits .xor .u32 ((Crc.S (x % 256 ^^^ b) : Nat) : Int) ((x : Int) / 256) = ((Crc.nxt x b : Nat) : Int) := by
        rw [← nxt_byte]
        exact u32_xor_nat (Crc.S (x % 256 ^^^ b)) (x / 256) (Crc.S_lt _ (Nat.lt_trans (xor_byte x b hb) (by decide))) (by have := HX.out; omega)
      have hb2 : (b : Int) ≤ 255 := by omega
      have HXB := Aside.mk (xor_byte x b hb)
      clear hb
      go_wp2_with (go_at_call 55; refine (one_any (x % 256 ^^^ b) _ (Nat.lt_trans HXB.out (by decide))).mono ?_; rintro e w' ⟨rfl, rfl⟩)
      exact ⟨⟨k + 1, by omega, by go_num, by rw [HN.out]⟩, by simp [intOf]; omega⟩
    · obtain rfl : k = s.size := by omega
      go_wp2_with fail
      go_ret
      exact ⟨rfl, HB.out⟩

set_option maxRecDepth 100000 in
set_option maxHeartbeats 1000000 in
theorem byBytes_any (c : Nat) (s : ByteArray) (g : Nat) (w : World) (hc : c < 4294967296) (hs : s.size ≤ 65536) (hg : g < w.heap.size) (ht : ∀ i, i < 256 → w.cell? ⟨g, i, none⟩ = some (.int .u32 (Crc.T 0 i : Nat))) :
    Calls Try.prog 50 #[.int .u32 (c : Int), .string s, .pointer (some ⟨g, 0, none⟩)] w fun e w' => e = .returned (.int .u32 (Crc.run (bytN s) 0 s.size c : Nat)) ∧ Below w.heap.size w w' := by
  obtain ⟨cap, W, hconv, hcell, hbel⟩ := conv_bytes (P := Try.prog) w 9 37 5 s w.heap.size rfl Try.underlying9 Try.underlying37 Try.underlying5
  have HT : Aside (∀ i, i < 256 → W.cell? ⟨g, i, none⟩ = some (.int .u32 (Crc.T 0 i : Nat))) := ⟨fun i hi => by rw [hbel.cell (p := ⟨g, i, none⟩) hg]; exact ht i hi⟩
  have HB := Aside.mk hbel
  have HC := Aside.mk hcell
  have Hc := Aside.mk hc
  clear hbel hcell hc ht
  go_enter Try.func50, Try.ntmps50
  go_wp2_with fail
  clear hconv
  go_loop [0, 12] (fun x i => ∃ k : Nat, k ≤ s.size ∧ i = .int .i64 k ∧ x = .int .u32 (Crc.run (bytN s) 0 k c : Nat)) (fun _ i => s.size - (intOf i).toNat)
  case atStart => exact ⟨0, by omega, rfl, rfl⟩
  case round =>
    obtain ⟨k, hk, rfl, rfl⟩ := hrel
    by_cases hlt : k < s.size
    · have hcl := HC.out k hlt
      rw [byt_N] at hcl
      have hx := Crc.run_lt (bytN s) (bytN_lt s) k 0 c Hc.out
      have hb := bytN_lt s k
      have HN := Aside.mk (Crc.run_snoc (bytN s) k 0 c)
      rw [Nat.zero_add] at HN
      generalize Crc.run (bytN s) 0 k c = x at hx HN ⊢
      generalize bytN s k = b at hcl hb HN
      have HX := Aside.mk hx
      clear hx
      have hxb := xor_byte x b hb
      have hcT := HT.out _ hxb
      have h2 : bits .xor .u8 ((x : Int) % 256) (b : Int) = ((x % 256 ^^^ b : Nat) : Int) := u8_xor_nat (x % 256) b (by omega) (by omega)
      have h3 : bits .xor .u32 ((Crc.T 0 (x % 256 ^^^ b) : Nat) : Int) ((x : Int) / 256) = ((Crc.nxt x b : Nat) : Int) := by
        rw [← nxt_byte]
        exact u32_xor_nat (Crc.S (x % 256 ^^^ b)) (x / 256) (Crc.S_lt _ (Nat.lt_trans (xor_byte x b hb) (by decide))) (by have := HX.out; omega)
      clear hb
      generalize x % 256 ^^^ b = y at hxb hcT h2 h3
      have hxb2 : (y : Int) < 256 := by omega
      go_wp2_with fail
      exact ⟨⟨k + 1, by omega, by go_num, by rw [HN.out]⟩, by simp [intOf]; omega⟩
    · obtain rfl : k = s.size := by omega
      go_wp2_with fail
      go_ret
      exact ⟨rfl, HB.out⟩
end Go.Proofs.Ytjmenlffhoodeaa
