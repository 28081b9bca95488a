/- The program's sums: a row of last sums, one for each rest, walked. -/
import Derived.Test.YtjmenlffhoodeabDelta3
namespace Go.Proofs.Ytjmenlffhoodeab
open Go.RowKit

theorem drew_drewN (w : World) (n : Nat) : w.drew.drewN n = w.drewN (n + 1) := by
  rw [World.drewN_drew, Nat.add_comm]
section
variable {a w : World} {row : Option Nat}
theorem only_refl (a : World) (row : Option Nat) : a.grownBy a row := ⟨rfl, rfl, rfl, Nat.le_refl _, fun _ _ _ => rfl⟩
theorem only_drewN (h : a.grownBy w row) (n : Nat) : a.grownBy (w.drewN n) row := ⟨h.os, h.tape, h.output, h.size, h.block⟩
theorem only_alloc (h : a.grownBy w row) (o : Obj) : a.grownBy (w.alloc o) row :=
  ⟨h.os, h.tape, h.output, Nat.le_trans h.size (by simp), fun i hi hne => (Below.heap_alloc w o i (Nat.lt_of_lt_of_le hi h.size)).trans (h.block i hi hne)⟩
theorem only_setCell {g : Nat} (h : a.grownBy w (some g)) {p : Addr} (hp : p.block = g ∨ a.heap.size ≤ p.block) (u : Value) : a.grownBy (w.setCell p u) (some g) :=
  ⟨h.os, h.tape, h.output, by simpa [World.setCell] using h.size, fun i hi hne => (Below.heap_setCell w p u i (by
    rintro rfl
    rcases hp with hp | hp
    · exact hne (by rw [hp])
    · omega)).trans (h.block i hi hne)⟩
theorem cell_far {g : Nat} (h : a.grownBy w (some g)) {p : Addr} (hp : p.block < a.heap.size) (hne : p.block ≠ g) : w.cell? p = a.cell? p :=
  World.cell?_of_block (h.block p.block hp (fun e => hne (by injection e)))
end

/-- The last sum of each rest, ahead of place i. -/
def st (s : ByteArray) (d : Nat) : Nat → Nat → Int
  | 0, _ => 0
  | i + 1, j => if j = i % d then (st s d i j + byt s i) % 256 else st s d i j
theorem st_bd (s : ByteArray) (d i j : Nat) : 0 ≤ st s d i j ∧ st s d i j ≤ 255 := by
  induction i with
  | zero => simp [st]
  | succ i ih => simp only [st]; split <;> omega
theorem st_keep (s : ByteArray) (d a j n : Nat) (h : ∀ m, m < n → (a + m) % d ≠ j) : st s d (a + n) j = st s d a j := by
  induction n with
  | zero => rfl
  | succ n ih =>
    rw [show a + (n + 1) = (a + n) + 1 from by omega]
    simp only [st]
    rw [if_neg (fun e => h n (by omega) e.symm), ih (fun m hm => h m (by omega))]
theorem mod_ne (d a m : Nat) (hm : m + 1 < d) : (a + 1 + m) % d ≠ a % d := by
  intro h
  have h1 : (a + (m + 1)) % d = a % d := by rw [← h]; congr 1; omega
  have h2 : ((a % d) + (m + 1)) % d = a % d := by rw [Nat.mod_add_mod]; exact h1
  have h3 : a % d < d := Nat.mod_lt _ (by omega)
  rcases Nat.lt_or_ge (a % d + (m + 1)) d with h4 | h4
  · rw [Nat.mod_eq_of_lt h4] at h2; omega
  · rw [Nat.mod_eq_sub_mod h4, Nat.mod_eq_of_lt (by omega)] at h2; omega
theorem st_sm (s : ByteArray) (d : Nat) (hd : 1 ≤ d) (i : Nat) : st s d (i + 1) (i % d) = sm s d i := by
  induction i using Nat.strongRecOn with
  | _ i ih =>
    have hb := byt_bd s i
    have e : st s d (i + 1) (i % d) = (st s d i (i % d) + byt s i) % 256 := by simp only [st, if_true]
    rw [e]
    rcases Nat.lt_or_ge i d with h | h
    · have k := st_keep s d 0 (i % d) i (fun m hm => by
        rw [Nat.zero_add, Nat.mod_eq_of_lt (by omega : m < d), Nat.mod_eq_of_lt h]; omega)
      rw [Nat.zero_add] at k
      rw [k, sm_lo s d i h]
      simp only [st]; omega
    · have k := st_keep s d (i - d + 1) (i % d) (d - 1) (fun m hm => by
        rw [Nat.mod_eq_sub_mod h]
        exact mod_ne d (i - d) m (by omega))
      rw [show i - d + 1 + (d - 1) = i from by omega] at k
      rw [k, show i % d = (i - d) % d from Nat.mod_eq_sub_mod h, ih (i - d) (by omega), ← sm_hi s d i hd h]

set_option maxRecDepth 100000 in
set_option maxHeartbeats 1000000 in
theorem more_any (x c : Int) (d i h : Nat) (pS pd : Addr) (w : World) (hd : 1 ≤ d) (hd2 : d ≤ 256) (hi : i ≤ 1000000)
    (e1 : w.cell? pS = some (.slice (some ⟨h, 0, none⟩) d d)) (e2 : w.cell? pd = some (.int .i64 d)) (e3 : w.cell? ⟨h, i % d, none⟩ = some (.int .u8 x)) (e4 : w.frozen? ⟨h, i % d, none⟩ = false) (n1 : pS.block ≠ h) (n2 : pd.block ≠ h) :
    Calls Try.prog 56 #[.int .i64 i, .int .u8 c, .pointer (some pS), .pointer (some pd)] w fun e w' => e = .returned (.int .u8 ((x + c) % 256)) ∧ ∃ n, w' = (w.setCell ⟨h, i % d, none⟩ (.int .u8 ((x + c) % 256))).drewN n := by
  obtain ⟨r, hr⟩ : ∃ r : Nat, i % d = r := ⟨_, rfl⟩
  have hrd : r < d := by rw [← hr]; exact Nat.mod_lt _ (by omega)
  rw [hr] at e3 e4
  rw [hr]
  have m1 : (i : Int).tmod d = (r : Int) := by rw [Int.tmod_eq_emod_of_nonneg (by omega), ← Int.natCast_emod, hr]
  have m2 : (i : Int) % d = (r : Int) := by rw [← Int.natCast_emod, hr]
  have d0 : ¬ d = 0 := by omega
  have r0 : (0 : Int) ≤ r := by omega
  have r1 : (r : Int) < d := by omega
  clear hr
  go_enter Try.func56, Try.ntmps56
  go_wp2_with fail
  go_region
  obtain ⟨w2, hw2⟩ : ∃ w2, (w.setCell ⟨h, r, none⟩ (.int .u8 ((x + c) % 256))).drew = w2 := ⟨_, rfl⟩
  rw [hw2]
  have f1 : w2.cell? pS = some (.slice (some ⟨h, 0, none⟩) d d) := by
    rw [← hw2, ← e1]; exact World.cell?_setCell_other w _ pS _ (fun e => n1 (by rw [← e]))
  have f2 : w2.cell? pd = some (.int .i64 d) := by
    rw [← hw2, ← e2]; exact World.cell?_setCell_other w _ pd _ (fun e => n2 (by rw [← e]))
  have f3 : w2.cell? ⟨h, r, none⟩ = some (.int .u8 ((x + c) % 256)) := by
    rw [← hw2]
    obtain ⟨v, hv⟩ := cell?_setCell_some (w := w) (p := ⟨h, r, none⟩) (x := .int .u8 ((x + c) % 256)) (q := ⟨h, r, none⟩) (v := .int .u8 x) e3
    simp [go_sem, e3]
  have HW := Aside.mk hw2
  clear hw2 e1 e2 e3 e4
  go_wp2_with fail
  go_quiet (fail)
  go_wp2_with fail
  go_ret
  exact ⟨rfl, nq + 1, by rw [← HW.out, drew_drewN]⟩

set_option maxRecDepth 100000 in
set_option maxHeartbeats 1000000 in
theorem eachMore_any (s : ByteArray) (d h : Nat) (pS pd : Addr) (w : World) (hd : 1 ≤ d) (hd2 : d ≤ 256) (hs : s.size ≤ 1000000) (l1 : pS.block < w.heap.size) (l2 : pd.block < w.heap.size) (l3 : h < w.heap.size) (n1 : pS.block ≠ h) (n2 : pd.block ≠ h)
    (c1 : w.cell? pS = some (.slice (some ⟨h, 0, none⟩) d d)) (c2 : w.cell? pd = some (.int .i64 d)) (hb0 : Blk w h 5 (zrow d)) :
    Calls Try.prog 55 #[.string s, .func (.func 56) #[] #[.pointer (some pS), .pointer (some pd)]] w fun e w' => ∃ g, e = .returned (.slice (some ⟨g, 0, none⟩) s.size s.size) ∧ Aside (∀ j, j < s.size → w'.cell? ⟨g, j, none⟩ = some (.int .u8 (sm s d j))) ∧ w.grownBy w' (some h) := by
  have hmk := mk_bytes s.size hs
  have C1 := Aside.mk c1
  have C2 := Aside.mk c2
  have HB0 := Aside.mk hb0
  go_enter Try.func55, Try.ntmps55
  go_wp2_with fail
  clear hmk c1 c2 hb0
  go_loopw [12] (fun i wr => ∃ (k : Nat) (cs ss : Array Value), k ≤ s.size ∧ i = .int .i64 k ∧ Blk wr w.heap.size 5 cs ∧ Aside (cs.size = s.size ∧ ∀ j, j < k → cs[j]? = some (.int .u8 (sm s d j))) ∧ Blk wr h 5 ss ∧ Aside (ss.size = d ∧ ∀ j, j < d → ss[j]? = some (.int .u8 (st s d k j))) ∧ w.grownBy wr (some h)) (fun i _ => s.size - (intOf i).toNat)
  case atStart => exact ⟨0, _, _, by omega, rfl, Blk.new w 5 _, ⟨zrow_size _, fun j hj => absurd hj (by omega)⟩, HB0.out.alloc _, ⟨zrow_size _, fun j hj => zrow_at d j hj⟩, only_alloc (only_refl w _) _⟩
  case round =>
    obtain ⟨k, cs, ss, hk, rfl, hblk, HC, hsb, HS, hg⟩ := hrel
    have HG := Aside.mk hg
    have HBL := Aside.mk hblk
    have HSB := Aside.mk hsb
    by_cases hlt : k < s.size
    · have g0 := run_idx (P := Try.prog) 9 s .i64 (k : Int) k rfl hlt Try.underlying9
      have D1 : Aside (wr.cell? pS = some (.slice (some ⟨h, 0, none⟩) d d)) := ⟨by rw [cell_far hg l1 n1]; exact C1.out⟩
      have D2 : Aside (wr.cell? pd = some (.int .i64 d)) := ⟨by rw [cell_far hg l2 n2]; exact C2.out⟩
      have hr : k % d < d := Nat.mod_lt _ (by omega)
      have D3 : Aside (wr.cell? ⟨h, k % d, none⟩ = some (.int .u8 (st s d k (k % d)))) := ⟨by rw [hsb.cell]; exact HS.out.2 _ hr⟩
      have D4 : Aside (wr.frozen? ⟨h, k % d, none⟩ = false) := ⟨hsb.frozen _⟩
      have hlk : k < cs.size := by have := HC.out.1; omega
      have hlt3 : h ≠ w.heap.size := by omega
      have HE : Aside ((st s d k (k % d) + byt s k) % 256 = sm s d k) := ⟨by rw [← st_sm s d hd k]; simp only [st, if_true]⟩
      clear hg hblk hsb
      go_wp2_with fail
      refine (more_any _ _ d k h pS pd _ hd hd2 (by omega) D1.out D2.out D3.out D4.out n1 n2).mono ?_
      rintro e w1 ⟨rfl, n, hw1⟩
      rw [HE.out] at hw1 ⊢
      have hb1 : Blk w1 w.heap.size 5 cs := by rw [hw1]; exact (HBL.out.far (p := ⟨h, k % d, none⟩) (Ne.symm hlt3) _).drewN n
      have hs1 : Blk w1 h 5 (ss.setIfInBounds (k % d) (.int .u8 (sm s d k))) := by rw [hw1]; exact (HSB.out.set_ _ _).drewN n
      have hg1 : w.grownBy w1 (some h) := by rw [hw1]; exact only_drewN (only_setCell HG.out (.inl rfl) _) n
      have hf : w1.frozen? ⟨w.heap.size, k, none⟩ = false := hb1.frozen k
      have hcell : w1.cell? ⟨w.heap.size, k, none⟩ = some cs[k] := by rw [hb1.cell k]; exact Array.getElem?_eq_getElem hlk
      have HB1 := Aside.mk hb1
      have HS1 := Aside.mk hs1
      have HG1 := Aside.mk hg1
      clear hw1 hb1 hs1 hg1
      go_wp2_with fail
      exact ⟨⟨k + 1, cs.setIfInBounds k (.int .u8 (sm s d k)), ss.setIfInBounds (k % d) (.int .u8 (sm s d k)), by omega, by go_num, HB1.out.set_ k _, ⟨by rw [Array.size_setIfInBounds]; exact HC.out.1, fun j hj => by
        rw [Array.getElem?_setIfInBounds]
        by_cases e : k = j
        · subst e; rw [if_pos rfl, if_pos hlk]
        · rw [if_neg e]; exact HC.out.2 j (by omega)⟩, HS1.out.far (p := ⟨w.heap.size, k, none⟩) hlt3 _, ⟨by rw [Array.size_setIfInBounds]; exact HS.out.1, fun j hj => by
        rw [Array.getElem?_setIfInBounds]
        simp only [st]
        by_cases e : k % d = j
        · rw [if_pos e, if_pos (by have := HS.out.1; omega), if_pos e.symm, ← HE.out, e]
        · rw [if_neg e, if_neg (fun e2 => e e2.symm)]; exact HS.out.2 j hj⟩, only_setCell HG1.out (.inr (Nat.le_refl _)) _⟩, by simp [intOf]; omega⟩
    · obtain rfl : k = s.size := by omega
      go_wp2_with fail
      go_ret
      exact ⟨_, rfl, ⟨fun j hj => by rw [HBL.out.cell j]; exact HC.out.2 j hj⟩, HG.out⟩

set_option maxRecDepth 100000 in
set_option maxHeartbeats 1000000 in
theorem back_in (s : ByteArray) (d : Nat) (w : World) (hd : 1 ≤ d) (hd2 : d ≤ 256) (hs : s.size ≤ 1000000) :
    Calls Try.prog 18 #[.string s, .int .i64 d] w fun e w' => e = .returned (.tuple #[.string (smS s d), .int .i64 0]) ∧ Below w.heap.size w w' := by
  have hmf : ∀ (fn : Fn) (first cap : Array Value) (w : World), (Instr.makeFunc fn first cap).run Try.prog w = .ok (.func fn first cap) w := fun _ _ _ _ => rfl
  have hmk := mk_bytes d (by omega)
  go_enter Try.func18, Try.ntmps18
  go_wp2_with fail
  refine (bad_no _ _ (by omega) (by omega)).mono ?_
  rintro e w1 ⟨rfl, rfl⟩
  go_wp2_with fail
  clear hmk
  have HB := Aside.mk (bl_alloc (bl_alloc (bl_alloc (Below.refl w.heap.size w) (.cells #[.int .i64 d] 3)) (.cells (zrow d) 5)) (.cells #[.slice (some ⟨w.heap.size + 1, 0, none⟩) d d] 86))
  have K1 : Blk (((w.alloc (.cells #[.int .i64 d] 3)).alloc (.cells (zrow d) 5)).alloc (.cells #[.slice (some ⟨w.heap.size + 1, 0, none⟩) d d] 86)) (w.heap.size + 1) 5 (zrow d) := by
    have := Blk.new (w.alloc (.cells #[.int .i64 d] 3)) 5 (zrow d)
    rw [show (w.alloc (.cells #[.int .i64 d] 3)).heap.size = w.heap.size + 1 from by simp] at this
    exact this.alloc _
  have L1 := Aside.mk K1
  clear K1
  refine (eachMore_any s d (w.heap.size + 1) ⟨w.heap.size + 1 + 1, 0, none⟩ ⟨w.heap.size, 0, none⟩ _ hd hd2 hs ?_ ?_ ?_ ?_ ?_ ?_ ?_ L1.out).mono ?_
  · simp
  · simp; omega
  · simp
  · simp
  · simp
  · simp [go_sem]
  · simp [go_sem]
  rintro e w1 ⟨g, rfl, HC, hg⟩
  have HB1 : Aside (Below w.heap.size w w1) := ⟨HB.out.grown hg HB.out.size (fun k hk => by injection hk with hk; omega)⟩
  have hcv := conv_string (P := Try.prog) w1 86 5 9 g s.size s.size (sm s d) Try.underlying86 Try.underlying5 Try.underlying9 HC.out
  clear hg HB L1
  go_wp2
  go_ret2
  exact ⟨rfl, HB1.out⟩
set_option maxRecDepth 100000 in
set_option maxHeartbeats 1000000 in
theorem back_out (s : ByteArray) (d : Int) (w : World) (h : d < 1 ∨ 256 < d) :
    Calls Try.prog 18 #[.string s, .int .i64 d] w fun e w' => e = .returned (.tuple #[.string ⟨#[]⟩, .int .i64 1]) ∧ Below w.heap.size w w' := by
  have HB := Aside.mk (bl_alloc (Below.refl w.heap.size w) (.cells #[.int .i64 d] 3))
  have H := Aside.mk h
  clear h
  go_enter Try.func18, Try.ntmps18
  go_wp2_with fail
  refine (bad_yes _ _ H.out).mono ?_
  rintro e w1 ⟨rfl, rfl⟩
  go_wp2
  go_ret2
  exact ⟨rfl, HB.out⟩
end Go.Proofs.Ytjmenlffhoodeab
