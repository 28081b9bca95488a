/- What heads' Read and the reference's are, in one word; the reference's walked. -/
import Derived.Test.YtjmenlffhoodeabHeads4
namespace Go.Proofs.Ytjmenlffhoodeab
open Go.RowKit
set_option linter.unusedSimpArgs false

theorem toList_inj4 {a b : ByteArray} (h : a.toList = b.toList) : a = b := by
  rw [ByteArray.toList_eq, ByteArray.toList_eq] at h
  exact ByteArray.ext (Array.ext' h)
def magic : ByteArray := ⟨#[71, 76, 68, 49]⟩
def hitM (s : ByteArray) : Prop := (0 < s.size → byt s 0 = 71) ∧ (1 < s.size → byt s 1 = 76) ∧ (2 < s.size → byt s 2 = 68) ∧ (3 < s.size → byt s 3 = 49)
instance (s : ByteArray) : Decidable (hitM s) := by unfold hitM; infer_instance
/-- The log that byte 4 tells. -/
def lgC (c : Int) : Int := if 32 ≤ c ∧ c < 64 then c - 32 else c
def rd (s : ByteArray) : Int × Bool × Int × ByteArray × Int :=
  if ¬ hitM s then (0, false, 0, ⟨#[]⟩, 11) else if s.size < 5 then (0, false, 0, ⟨#[]⟩, 3)
  else if lgC (byt s 4) < 15 ∨ 26 < lgC (byt s 4) then (0, false, 0, ⟨#[]⟩, 12)
  else if byt s 4 < 32 then (lgC (byt s 4), false, 0, s.extract 5 s.size, 0)
  else if s.size < 9 then (0, false, 0, ⟨#[]⟩, 3) else (lgC (byt s 4), true, idS s 4, s.extract 9 s.size, 0)
def rdV (t : Int × Bool × Int × ByteArray × Int) : Value := .tuple #[.agg #[.int .i64 t.1, .bool t.2.1, .int .u32 t.2.2.1], .string t.2.2.2.1, .int .i64 t.2.2.2.2]

theorem bits_c (c : Int) (h0 : 0 ≤ c) (h1 : c ≤ 255) : (bits BinOp.andNot IntKind.i64 c 32 < 15 ∨ 26 < bits BinOp.andNot IntKind.i64 c 32 ↔ lgC c < 15 ∨ 26 < lgC c) ∧
    (¬ (lgC c < 15 ∨ 26 < lgC c) → bits BinOp.andNot IntKind.i64 c 32 = lgC c ∧ (bits BinOp.and IntKind.i64 c 32 != 0) = decide (32 ≤ c)) := by
  have key : ∀ n : Fin 256, (bits BinOp.andNot IntKind.i64 (n.1 : Int) 32 < 15 ∨ 26 < bits BinOp.andNot IntKind.i64 (n.1 : Int) 32 ↔ lgC n.1 < 15 ∨ 26 < lgC n.1) ∧
    (¬ (lgC n.1 < 15 ∨ 26 < lgC n.1) → bits BinOp.andNot IntKind.i64 (n.1 : Int) 32 = lgC n.1 ∧ (bits BinOp.and IntKind.i64 (n.1 : Int) 32 != 0) = decide (32 ≤ (n.1 : Int))) := by decide +kernel
  obtain ⟨n, rfl⟩ := Int.eq_ofNat_of_zero_le h0
  exact key ⟨n, by omega⟩

theorem magic_at (i : Nat) : byt magic i = match i with | 0 => 71 | 1 => 76 | 2 => 68 | 3 => 49 | _ => 0 := by
  match i with
  | 0 => rfl | 1 => rfl | 2 => rfl | 3 => rfl
  | n + 4 => rfl
theorem hit_eq (s : ByteArray) (n : Nat) (hn : n = min s.size 4) : ((s.extract 0 n).toList == (magic.extract 0 n).toList) = decide (hitM s) := by
  have hm : magic.size = 4 := rfl
  have z1 : (s.extract 0 n).size = n := by simp; omega
  have z2 : (magic.extract 0 n).size = n := by simp; omega
  have e1 : ∀ i, i < n → byt (s.extract 0 n) i = byt s i := fun i hi => by
    have := byt_extract s 0 n i hi (by omega)
    simpa using this
  have e2 : ∀ i, i < n → byt (magic.extract 0 n) i = byt magic i := fun i hi => by
    have := byt_extract magic 0 n i hi (by omega)
    simpa using this
  rw [Bool.eq_iff_iff, beq_iff_eq, decide_eq_true_eq]
  constructor
  · intro h
    have h := toList_inj4 h
    have key : ∀ i, i < n → byt s i = byt magic i := fun i hi => by rw [← e1 i hi, ← e2 i hi, h]
    refine ⟨fun h => key 0 (by omega), fun h => key 1 (by omega), fun h => key 2 (by omega), fun h => key 3 (by omega)⟩
  · rintro ⟨h0, h1, h2, h3⟩
    congr 1
    refine bytes_eq _ _ (by rw [z1, z2]) fun i hi => ?_
    rw [z1] at hi
    rw [e1 i hi, e2 i hi, magic_at]
    obtain rfl | rfl | rfl | rfl : i = 0 ∨ i = 1 ∨ i = 2 ∨ i = 3 := by omega
    · exact h0 (by omega)
    · exact h1 (by omega)
    · exact h2 (by omega)
    · exact h3 (by omega)

theorem read_all (s : ByteArray) (w : World) : Calls Try.prog 49 #[.string s] w fun e w' => e = .returned (rdV (rd s)) ∧ Below w.heap.size w w' := by
  by_cases h4 : s.size ≤ 4
  · have hq := hit_eq s s.size (by omega)
    rw [show s.extract 0 s.size = s from by simp] at hq
    have := read_short s _ w h4 hq
    by_cases hh : hitM s
    · have e : rd s = (0, false, 0, ⟨#[]⟩, 3) := by unfold rd; rw [if_neg (by simpa using hh), if_pos (by omega)]
      rw [e]; simpa [hh, rdV] using this
    · have e : rd s = (0, false, 0, ⟨#[]⟩, 11) := by unfold rd; rw [if_pos hh]
      rw [e]; simpa [hh, rdV] using this
  · have hq := hit_eq s 4 (by omega)
    obtain ⟨c0, c1⟩ := byt_bd s 4
    obtain ⟨k1, k2⟩ := bits_c (byt s 4) c0 c1
    by_cases hh : hitM s
    · rw [decide_eq_true hh] at hq
      by_cases hl : lgC (byt s 4) < 15 ∨ 26 < lgC (byt s 4)
      · have e : rd s = (0, false, 0, ⟨#[]⟩, 12) := by unfold rd; rw [if_neg (by simpa using hh), if_neg (by omega), if_pos hl]
        rw [e]; exact read_log s _ _ _ w (by omega) hq rfl rfl rfl (k1.2 hl)
      · obtain ⟨k3, k4⟩ := k2 hl
        by_cases h32 : byt s 4 < 32
        · have e : rd s = (lgC (byt s 4), false, 0, s.extract 5 s.size, 0) := by unfold rd; rw [if_neg (by simpa using hh), if_neg (by omega), if_neg hl, if_pos h32]
          rw [e]; exact read_plain s _ _ _ w (by omega) hq rfl k3 rfl (by omega) (by omega) (by rw [k4]; exact decide_eq_false (by omega))
        · by_cases h9 : s.size < 9
          · have e : rd s = (0, false, 0, ⟨#[]⟩, 3) := by unfold rd; rw [if_neg (by simpa using hh), if_neg (by omega), if_neg hl, if_neg h32, if_pos h9]
            rw [e]; exact read_cut s _ _ _ w (by omega) hq rfl k3 rfl (by omega) (by omega) (by rw [k4]; exact decide_eq_true (by omega)) h9
          · have e : rd s = (lgC (byt s 4), true, idS s 4, s.extract 9 s.size, 0) := by unfold rd; rw [if_neg (by simpa using hh), if_neg (by omega), if_neg hl, if_neg h32, if_neg h9]
            rw [e]; exact read_full s _ _ _ w (by omega) hq rfl k3 rfl (by omega) (by omega) (by rw [k4]; exact decide_eq_true (by omega)) (by omega)
    · rw [decide_eq_false hh] at hq
      have e : rd s = (0, false, 0, ⟨#[]⟩, 11) := by unfold rd; rw [if_pos hh]
      rw [e]; exact read_mis s w (by omega) hq
end Go.Proofs.Ytjmenlffhoodeab
