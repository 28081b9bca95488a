/- Plain: differences and sums of bytes, one the other's way back; which differences leave the most noughts. -/
import Derived.Test.YtjmenlffhoodeabMem
namespace Go.Proofs.Ytjmenlffhoodeab

def dif (s : ByteArray) (d i : Nat) : Int := if i < d then byt s i else (byt s i - byt s (i - d)) % 256
/-- The sums, by fuel: more fuel than the place tells the same. -/
def smF (s : ByteArray) (d : Nat) : Nat → Nat → Int
  | 0, _ => 0
  | k + 1, i => if i < d then byt s i else (smF s d k (i - d) + byt s i) % 256
def sm (s : ByteArray) (d i : Nat) : Int := smF s d (i + 1) i
theorem smF_more (s : ByteArray) (d : Nat) (hd : 1 ≤ d) (k : Nat) : ∀ i m, i < k → i < m → smF s d k i = smF s d m i := by
  induction k with
  | zero => intro i m h; omega
  | succ k ih =>
    intro i m h1 h2
    obtain ⟨m, rfl⟩ : ∃ q, m = q + 1 := ⟨m - 1, by omega⟩
    simp only [smF]
    split
    · rfl
    · rw [ih (i - d) m (by omega) (by omega)]
theorem sm_lo (s : ByteArray) (d i : Nat) (h : i < d) : sm s d i = byt s i := by
  unfold sm; simp only [smF]; rw [if_pos h]
theorem sm_hi (s : ByteArray) (d i : Nat) (hd : 1 ≤ d) (h : d ≤ i) : sm s d i = (sm s d (i - d) + byt s i) % 256 := by
  unfold sm
  rw [show smF s d (i + 1) i = (smF s d i (i - d) + byt s i) % 256 from by simp only [smF]; rw [if_neg (by omega)]]
  rw [smF_more s d hd i (i - d) (i - d + 1) (by omega) (by omega)]
theorem dif_bd (s : ByteArray) (d i : Nat) : 0 ≤ dif s d i ∧ dif s d i ≤ 255 := by
  have := byt_bd s i
  unfold dif; split <;> omega
theorem sm_bd (s : ByteArray) (d i : Nat) (hd : 1 ≤ d) : 0 ≤ sm s d i ∧ sm s d i ≤ 255 := by
  have := byt_bd s i
  rcases Nat.lt_or_ge i d with h | h
  · rw [sm_lo s d i h]; exact this
  · rw [sm_hi s d i hd h]; omega

def difS (s : ByteArray) (d : Nat) : ByteArray := tab (dif s d) s.size
def smS (s : ByteArray) (d : Nat) : ByteArray := tab (sm s d) s.size
theorem difS_size (s : ByteArray) (d : Nat) : (difS s d).size = s.size := tab_size _ _
theorem smS_size (s : ByteArray) (d : Nat) : (smS s d).size = s.size := tab_size _ _
theorem byt_difS (s : ByteArray) (d i : Nat) (h : i < s.size) : byt (difS s d) i = dif s d i :=
  byt_tab _ _ _ h (dif_bd s d i).1 (dif_bd s d i).2
theorem byt_smS (s : ByteArray) (d i : Nat) (hd : 1 ≤ d) (h : i < s.size) : byt (smS s d) i = sm s d i :=
  byt_tab _ _ _ h (sm_bd s d i hd).1 (sm_bd s d i hd).2
theorem sm_dif (s : ByteArray) (d : Nat) (hd : 1 ≤ d) (i : Nat) : i < s.size → sm (difS s d) d i = byt s i := by
  induction i using Nat.strongRecOn with
  | _ i ih =>
    intro hi
    have hb := byt_bd s i
    rcases Nat.lt_or_ge i d with h | h
    · rw [sm_lo _ d i h, byt_difS s d i hi]
      unfold dif; rw [if_pos h]
    · rw [sm_hi _ d i hd h, ih (i - d) (by omega) (by omega), byt_difS s d i hi]
      unfold dif; rw [if_neg (by omega)]
      omega
theorem back_apply (s : ByteArray) (d : Nat) (hd : 1 ≤ d) : smS (difS s d) d = s := by
  unfold smS
  rw [difS_size]
  exact tab_eq _ s fun i hi => sm_dif s d hd i hi
theorem apply_back (s : ByteArray) (d : Nat) (hd : 1 ≤ d) : difS (smS s d) d = s := by
  unfold difS
  rw [smS_size]
  refine tab_eq _ s fun i hi => ?_
  have hb := byt_bd s i
  unfold dif
  split
  · rename_i h
    rw [byt_smS s d i hd hi, sm_lo s d i h]
  · rename_i h
    rw [byt_smS s d i hd hi, byt_smS s d (i - d) hd (by omega), sm_hi s d i hd (by omega)]
    omega

/-- How many of the first n differences are 0. -/
def isNought (s : ByteArray) (d i : Nat) : Bool := decide (dif s d i = 0)
def nz (s : ByteArray) (d : Nat) : Nat → Nat
  | 0 => 0
  | n + 1 => nz s d n + if isNought s d n = true then 1 else 0
theorem nz_le (s : ByteArray) (d n : Nat) : nz s d n ≤ n := by
  induction n with
  | zero => exact Nat.le_refl _
  | succ n ih => simp only [nz]; split <;> omega
theorem isNought_lo (s : ByteArray) (d i : Nat) (h : i < d) : isNought s d i = decide (byt s i = 0) := by
  unfold isNought dif; rw [if_pos h]
theorem isNought_hi (s : ByteArray) (d i : Nat) (h : d ≤ i) : isNought s d i = decide (byt s i = byt s (i - d)) := by
  have h1 := byt_bd s i
  have h2 := byt_bd s (i - d)
  unfold isNought dif; rw [if_neg (by omega)]
  by_cases e : byt s i = byt s (i - d)
  · rw [decide_eq_true e]; exact decide_eq_true (by omega)
  · rw [decide_eq_false e]; exact decide_eq_false (by omega)
/-- The reference counts the noughts of a text. -/
def zs (s : ByteArray) : Nat → Nat
  | 0 => 0
  | n + 1 => zs s n + if decide (byt s n = 0) = true then 1 else 0
theorem zs_dif (s : ByteArray) (d n : Nat) (h : n ≤ s.size) : zs (difS s d) n = nz s d n := by
  induction n with
  | zero => rfl
  | succ n ih =>
    simp only [zs, nz]
    rw [ih (by omega), byt_difS s d n (by omega)]
    rfl
theorem zs_all (s : ByteArray) (n : Nat) (h : n ≤ s.size) : zs s n = nz s s.size n := by
  induction n with
  | zero => rfl
  | succ n ih =>
    simp only [zs, nz]
    rw [ih (by omega), isNought_lo s s.size n (by omega)]
theorem zs_le (s : ByteArray) (n : Nat) : zs s n ≤ n := by
  induction n with
  | zero => exact Nat.le_refl _
  | succ n ih => simp only [zs]; split <;> omega

/-- The best distance of the first m, and how many noughts it leaves. -/
def bN (s : ByteArray) : Nat → Nat
  | 0 => nz s s.size s.size
  | m + 1 => if bN s m < nz s (m + 1) s.size then nz s (m + 1) s.size else bN s m
def bD (s : ByteArray) : Nat → Nat
  | 0 => 0
  | m + 1 => if bN s m < nz s (m + 1) s.size then m + 1 else bD s m
theorem bN_le (s : ByteArray) (m : Nat) : bN s m ≤ s.size := by
  induction m with
  | zero => exact nz_le _ _ _
  | succ m ih => simp only [bN]; split <;> first | exact nz_le _ _ _ | exact ih
theorem bD_le (s : ByteArray) (m : Nat) : bD s m ≤ m := by
  induction m with
  | zero => exact Nat.le_refl _
  | succ m ih => simp only [bD]; split <;> omega
end Go.Proofs.Ytjmenlffhoodeab
