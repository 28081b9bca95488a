/- What is put is read back: plain laws. -/
import Derived.Test.YtjmenlffhoodeabHeads3
import Derived.Test.YtjmenlffhoodeabHeads7
namespace Go.Proofs.Ytjmenlffhoodeab
open Go.RowKit

theorem extract_tail (T rest : ByteArray) (n : Nat) (h : T.size = n) : (T ++ rest).extract n (T ++ rest).size = rest := by
  subst h
  refine bytes_eq _ _ (by simp) fun i hi => ?_
  have hi2 : i < rest.size := by simpa using hi
  have := byt_extract (T ++ rest) T.size rest.size i hi2 (by simp)
  rw [show (T ++ rest).size = T.size + rest.size from by simp, this, byt_append_right]

theorem rd_put (lg : Int) (has : Bool) (id : Int) (rest : ByteArray) (i0 : 0 ≤ id) (i1 : id ≤ 4294967295) (h : putOk lg has id = 0) : rd (putS lg has id ++ rest) = (lg, has, id, rest, 0) := by
  have hr : ¬ (lg < 15 ∨ 26 < lg) := fun hh => by unfold putOk at h; rw [if_pos hh] at h; cases h
  have hp : putS lg has id = tab (putF lg has id) (if has then 9 else 5) := by unfold putS; rw [if_pos h]
  cases has
  · have hid : id = 0 := by
      unfold putOk at h
      rw [if_neg hr] at h
      by_cases hz : id = 0
      · exact hz
      · rw [if_pos ⟨rfl, hz⟩] at h; cases h
    subst hid
    rw [hp]
    simp only [Bool.false_eq_true, if_false]
    have hz := tab_size (putF lg false 0) 5
    have e : ∀ i, i < 5 → byt (tab (putF lg false 0) 5 ++ rest) i = putF lg false 0 i := fun i hi => by
      rw [byt_append_left _ _ _ (by rw [hz]; exact hi), byt_tab _ _ _ hi] <;>
        (obtain rfl | rfl | rfl | rfl | rfl : i = 0 ∨ i = 1 ∨ i = 2 ∨ i = 3 ∨ i = 4 := by omega) <;> simp [putF] <;> omega
    have ext := extract_tail (tab (putF lg false 0) 5) rest 5 hz
    have hs : (tab (putF lg false 0) 5 ++ rest).size = 5 + rest.size := by rw [ByteArray.size_append, hz]
    generalize tab (putF lg false 0) 5 ++ rest = s at *
    have e0 : byt s 0 = 71 := e 0 (by omega)
    have e1 : byt s 1 = 76 := e 1 (by omega)
    have e2 : byt s 2 = 68 := e 2 (by omega)
    have e3 : byt s 3 = 49 := e 3 (by omega)
    have e4 : byt s 4 = lg := e 4 (by omega)
    have hl : lgC (byt s 4) = lg := by unfold lgC; rw [e4]; split <;> omega
    unfold rd
    rw [if_neg (by simp only [Classical.not_not]; exact ⟨fun _ => e0, fun _ => e1, fun _ => e2, fun _ => e3⟩), if_neg (by omega), if_neg (by rw [hl]; exact hr), if_pos (by omega), hl, ext]
  · rw [hp]
    simp only [if_true]
    have hz := tab_size (putF lg true id) 9
    have e : ∀ i, i < 9 → byt (tab (putF lg true id) 9 ++ rest) i = putF lg true id i := fun i hi => by
      rw [byt_append_left _ _ _ (by rw [hz]; exact hi), byt_tab _ _ _ hi] <;>
        (obtain rfl | rfl | rfl | rfl | rfl | rfl | rfl | rfl | rfl : i = 0 ∨ i = 1 ∨ i = 2 ∨ i = 3 ∨ i = 4 ∨ i = 5 ∨ i = 6 ∨ i = 7 ∨ i = 8 := by omega) <;> simp [putF] <;> omega
    have ext := extract_tail (tab (putF lg true id) 9) rest 9 hz
    have hs : (tab (putF lg true id) 9 ++ rest).size = 9 + rest.size := by rw [ByteArray.size_append, hz]
    generalize tab (putF lg true id) 9 ++ rest = s at *
    have e0 : byt s 0 = 71 := e 0 (by omega)
    have e1 : byt s 1 = 76 := e 1 (by omega)
    have e2 : byt s 2 = 68 := e 2 (by omega)
    have e3 : byt s 3 = 49 := e 3 (by omega)
    have e4 : byt s 4 = lg + 32 := e 4 (by omega)
    have e5 : byt s 5 = id % 256 := e 5 (by omega)
    have e6 : byt s 6 = id / 256 % 256 := e 6 (by omega)
    have e7 : byt s 7 = id / 65536 % 256 := e 7 (by omega)
    have e8 : byt s 8 = id / 16777216 % 256 := e 8 (by omega)
    have hl : lgC (byt s 4) = lg := by unfold lgC; rw [e4]; split <;> omega
    have hi : idS s 4 = id := by simp only [idS, e5, e6, e7, e8]; omega
    unfold rd
    rw [if_neg (by simp only [Classical.not_not]; exact ⟨fun _ => e0, fun _ => e1, fun _ => e2, fun _ => e3⟩), if_neg (by omega), if_neg (by rw [hl]; exact hr), if_neg (by omega), if_neg (by omega), hl, hi, ext]

theorem rb_put (k a b : Int) (rest : ByteArray) (h : mayS k a b = true) : rb (pbS k a b ++ rest) = (k, a, b, rest, 0) := by
  unfold pbS
  rw [if_pos h]
  by_cases hk : k = 0
  · subst hk
    have hab : a = 0 ∧ b = 0 := by simp only [mayS, decide_eq_true_eq] at h; omega
    obtain ⟨rfl, rfl⟩ := hab
    rw [if_pos rfl]
    have ext := extract_tail ⟨#[0]⟩ rest 1 rfl
    have hs : ((⟨#[0]⟩ : ByteArray) ++ rest).size = 1 + rest.size := by rw [ByteArray.size_append]; rfl
    have e0 : byt ((⟨#[0]⟩ : ByteArray) ++ rest) 0 = 0 := by rw [byt_append_left _ _ _ (by decide)]; rfl
    generalize (⟨#[0]⟩ : ByteArray) ++ rest = s at *
    unfold rb
    rw [if_neg (by omega), if_pos e0, ext]
  · rw [if_neg hk]
    obtain ⟨⟨k0, k1⟩, a0, a1, b0, b1⟩ := may_in h hk
    have hz := tab_size (pbF k a b) 5
    have e : ∀ i, i < 5 → byt (tab (pbF k a b) 5 ++ rest) i = pbF k a b i := fun i hi => by
      rw [byt_append_left _ _ _ (by rw [hz]; exact hi), byt_tab _ _ _ hi] <;>
        (obtain rfl | rfl | rfl | rfl | rfl : i = 0 ∨ i = 1 ∨ i = 2 ∨ i = 3 ∨ i = 4 := by omega) <;> simp [pbF] <;> omega
    have ext := extract_tail (tab (pbF k a b) 5) rest 5 hz
    have hs : (tab (pbF k a b) 5 ++ rest).size = 5 + rest.size := by rw [ByteArray.size_append, hz]
    generalize tab (pbF k a b) 5 ++ rest = s at *
    have e0 : byt s 0 = k := e 0 (by omega)
    have e1 : byt s 1 = (a - 1) % 256 := e 1 (by omega)
    have e2 : byt s 2 = (a - 1) / 256 % 256 := e 2 (by omega)
    have e3 : byt s 3 = (b - 1) % 256 := e 3 (by omega)
    have e4 : byt s 4 = (b - 1) / 256 % 256 := e 4 (by omega)
    have ha : aOf s = a := by unfold aOf; omega
    have hb : bOf s = b := by unfold bOf; omega
    unfold rb
    rw [if_neg (by omega), if_neg (by omega), if_neg (by omega), if_neg (by omega), e0, ha, hb, if_pos h, ext]
end Go.Proofs.Ytjmenlffhoodeab
