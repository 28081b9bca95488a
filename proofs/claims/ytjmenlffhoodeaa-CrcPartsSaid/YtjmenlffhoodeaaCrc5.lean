/- crc's laws, walked. -/
import Derived.Test.YtjmenlffhoodeaaCrc4
namespace Go.Proofs.Ytjmenlffhoodeaa
open Go.RowKit

theorem sum_val (s : ByteArray) (x : Int) (w : World) (hs : s.size ≤ 65536) (h : (crcF 0 s : Int) = x) :
    Calls Try.prog 28 #[.string s] w fun e w' => e = .returned (.int .u32 x) ∧ Below w.heap.size w w' := by
  rw [← h]; exact sum_any s w hs
theorem add_val (c : Nat) (s : ByteArray) (x : Int) (w : World) (hc : c < 4294967296) (hs : s.size ≤ 65536) (h : (crcF c s : Int) = x) :
    Calls Try.prog 30 #[.int .u32 (c : Int), .string s] w fun e w' => e = .returned (.int .u32 x) ∧ Below w.heap.size w w' := by
  rw [← h]; exact add_any c s w hc hs
theorem w1234 : (crcF 0 ⟨#[49, 50, 51, 52]⟩ : Int) = 2615402659 := by decide +kernel
set_option maxRecDepth 100000 in
set_option maxHeartbeats 1000000 in
theorem awake05 (w : World) : Calls Try.prog 27 #[] w fun e w' => e = .returned (.bool true) ∧ Below w.heap.size w w' := by
  go_enter Try.func27, Try.ntmps27
  go_wp2_with fail
  refine (sum_val _ 3421780262 _ (by decide) (by decide +kernel)).mono ?_
  rintro e w1 ⟨rfl, h1⟩
  go_wp2_with fail
  refine (sum_val _ 0 _ (by decide) (by decide +kernel)).mono ?_
  rintro e w2 ⟨rfl, h2⟩
  go_wp2_with fail
  refine (sum_val _ 2615402659 _ (by decide) (by decide +kernel)).mono ?_
  rintro e w3 ⟨rfl, h3⟩
  go_wp2_with fail
  refine (add_val 2615402659 _ 3421780262 _ (by decide) (by decide) (by decide +kernel)).mono ?_
  rintro e w4 ⟨rfl, h4⟩
  go_wp2_with fail
  go_ret
  exact ⟨rfl, bl_step (bl_step (bl_step h1 h2) h3) h4⟩

set_option maxRecDepth 100000 in
set_option maxHeartbeats 1000000 in
theorem crcSums_walk (sum : Int) (s : ByteArray) (w : World) (ws : (Lit.int .u32 sum).wf = true) (_hs : s.size ≤ 140737488351232) :
    Calls Try.prog 8 #[.int .u32 sum, .string s] w fun e w' => e = .returned (.bool true) ∧ Below w.heap.size w w' := by
  obtain ⟨c, rfl⟩ : ∃ c : Nat, sum = c := ⟨sum.toNat, by have := (u32_bd ws).1; omega⟩
  have hc : c < 4294967296 := by have := (u32_bd ws).2; omega
  have HC := Aside.mk hc
  clear hc ws
  by_cases h : (8000 : Int) < s.size
  · go_enter Try.func8, Try.ntmps8
    go_wp2_with fail
    refine (awake05 _).mono ?_
    rintro e w1 ⟨rfl, hb⟩
    go_wp2_with fail
    go_ret
    exact ⟨rfl, hb⟩
  · have hs : s.size ≤ 65536 := by omega
    go_enter Try.func8, Try.ntmps8
    go_wp2_with fail
    refine (sum_any s _ hs).mono ?_
    rintro e w1 ⟨rfl, h1⟩
    go_wp2_with fail
    refine (refSum_any s _ hs).mono ?_
    rintro e w' ⟨rfl, rfl⟩
    go_wp2_with fail
    refine (add_any c s _ HC.out hs).mono ?_
    rintro e w2 ⟨rfl, h2⟩
    go_wp2_with fail
    refine (refAdd_any c s _ HC.out hs).mono ?_
    rintro e w' ⟨rfl, rfl⟩
    go_wp2_with fail
    refine (awake05 _).mono ?_
    rintro e w3 ⟨rfl, h3⟩
    go_wp2_with fail
    go_ret
    exact ⟨rfl, bl_step (bl_step h1 h2) h3⟩

theorem bytN_left (s t : ByteArray) (i : Nat) (h : i < s.size) : bytN (s ++ t) i = bytN s i := by
  have := byt_append_left s t i h
  unfold byt at this
  unfold bytN
  omega
theorem bytN_right (s t : ByteArray) (i : Nat) : bytN (s ++ t) (s.size + i) = bytN t i := by
  have := byt_append_right s t i
  unfold byt at this
  unfold bytN
  omega
theorem crcF_append (s t : ByteArray) : crcF (crcF 0 s) t = crcF 0 (s ++ t) := by
  unfold crcF
  rw [not32_not32 _ (Crc.run_lt (bytN s) (bytN_lt s) _ _ _ (not32_lt 0)), ByteArray.size_append, Crc.run_add, Nat.zero_add,
    Crc.run_congr (bytN (s ++ t)) (bytN s) s.size 0 0 _ (fun i hi => by rw [Nat.zero_add, bytN_left s t i hi]),
    Crc.run_congr (bytN (s ++ t)) (bytN t) t.size s.size 0 _ (fun i _ => by rw [Nat.zero_add, bytN_right])]

set_option maxRecDepth 100000 in
set_option maxHeartbeats 1000000 in
theorem crcParts_walk (s t : ByteArray) (w : World) (_hs : s.size ≤ 140737488351232) (_ht : t.size ≤ 140737488351232) :
    Calls Try.prog 9 #[.string s, .string t] w fun e w' => e = .returned (.bool true) ∧ Below w.heap.size w w' := by
  by_cases h : (4000 : Int) < s.size ∨ (4000 : Int) < t.size
  · obtain h | h := h
    · go_enter Try.func9, Try.ntmps9
      go_wp2_with fail
      refine (awake05 _).mono ?_
      rintro e w1 ⟨rfl, hb⟩
      go_wp2_with fail
      go_ret
      exact ⟨rfl, hb⟩
    · by_cases h0 : (4000 : Int) < s.size
      all_goals
        go_enter Try.func9, Try.ntmps9
        go_wp2_with fail
        refine (awake05 _).mono ?_
        rintro e w1 ⟨rfl, hb⟩
        go_wp2_with fail
        go_ret
        exact ⟨rfl, hb⟩
  · have h1 : ¬ (4000 : Int) < s.size := by omega
    have h2 : ¬ (4000 : Int) < t.size := by omega
    have q1 : s.size ≤ 65536 := by omega
    have q2 : t.size ≤ 65536 := by omega
    have q3 : (s ++ t).size ≤ 65536 := by rw [ByteArray.size_append]; omega
    have HA := Aside.mk (crcF_append s t)
    clear h
    go_enter Try.func9, Try.ntmps9
    go_wp2_with fail
    refine (sum_any s _ q1).mono ?_
    rintro e w1 ⟨rfl, b1⟩
    go_wp2_with fail
    refine (add_any (crcF 0 s) t _ (crcF_lt 0 s) q2).mono ?_
    rintro e w2 ⟨rfl, b2⟩
    rw [HA.out]
    go_wp2_with fail
    refine (sum_any (s ++ t) _ q3).mono ?_
    rintro e w3 ⟨rfl, b3⟩
    go_wp2_with fail
    refine (awake05 _).mono ?_
    rintro e w4 ⟨rfl, b4⟩
    go_wp2_with fail
    go_ret
    exact ⟨rfl, bl_step (bl_step (bl_step b1 b2) b3) b4⟩

/-- '[]byte(t)' that may be written. -/
theorem conv_bytes_w {P : Program} (w : World) (src dst e : TypeId) (t : ByteArray) (B : Nat) (hB : w.heap.size = B)
    (hs : P.underlying src = some .string) (hd : P.underlying dst = some (.slice e)) (he : P.underlying e = some (.int .u8)) :
    ∃ (cap : Nat) (W : World), (convert src dst (.string t)).run P w = .ok (.slice (some ⟨B, 0, none⟩) t.size cap) W ∧
      (∀ j, j < t.size → W.cell? ⟨B, j, none⟩ = some (.int .u8 (byt t j))) ∧ (∀ j, j < t.size → W.frozen? ⟨B, j, none⟩ = false) ∧ Below w.heap.size w W := by
  subst hB
  refine ⟨_, _, Lib.run_convert_string_bytes w src dst e t hs hd he, fun j hj => ?_, fun j hj => ?_, below_bytesWorld w e t⟩
  · rw [Lib.bytesWorld_cell w e t j hj]
    simp [byt]
  · have hc : j < (Lib.bytesCells w e t).size := by unfold Lib.bytesCells; simp; omega
    simp only [World.frozen?, Lib.bytesWorld_at_new]
    simp; omega

/-- The row with one byte put. -/
def putF (s : ByteArray) (k : Nat) (x : Int) (j : Nat) : Int := if j = k then x else byt s j
theorem crcOne_law (s : ByteArray) (k : Nat) (x : Nat) (hk : k < s.size) (hx : x < 256) :
    (crcF 0 (tab (putF s k x) s.size) = crcF 0 s) ↔ byt s k = x := by
  have hb : ∀ i, i < s.size → bytN (tab (putF s k x) s.size) i = if i = k then x else bytN s i := fun i hi => by
    have h1 := byt_tab (putF s k x) s.size i hi (by unfold putF; split; omega; exact (byt_bd s i).1) (by unfold putF; split; omega; exact (byt_bd s i).2)
    rw [byt_N] at h1
    by_cases e : i = k
    · rw [show putF s k x i = x from if_pos e] at h1
      rw [if_pos e]; omega
    · rw [show putF s k x i = byt s i from if_neg e, byt_N] at h1
      rw [if_neg e]; omega
  have hr : Crc.run (bytN (tab (putF s k x) s.size)) 0 s.size (not32 0) = Crc.run (fun i => if i = k then x else bytN s i) 0 s.size (not32 0) :=
    Crc.run_congr _ _ _ _ _ _ fun i hi => by rw [Nat.zero_add, hb i hi]
  have hf : ∀ i, (fun i => if i = k then x else bytN s i) i < 256 := fun i => by
    show (if i = k then x else bytN s i) < 256
    split
    · exact hx
    · exact bytN_lt s i
  constructor
  · intro h
    unfold crcF at h
    rw [tab_size, hr] at h
    have h2 := not32_inj (Crc.run_lt _ hf _ _ _ (not32_lt 0)) (Crc.run_lt _ (bytN_lt s) _ _ _ (not32_lt 0)) h
    have h3 := Crc.run_one _ _ hf (bytN_lt s) k s.size _ hk (not32_lt 0) (fun i hi => if_neg hi) h2
    simp at h3
    rw [byt_N]; omega
  · intro h
    have e : tab (putF s k x) s.size = s := tab_eq _ s fun i _ => by
      unfold putF
      split
      · rename_i e; rw [e, h]
      · rfl
    rw [e]

set_option maxRecDepth 100000 in
set_option maxHeartbeats 1000000 in
theorem crcOne_walk (s : ByteArray) (a : Int) (x : Int) (w : World) (_hs : s.size ≤ 140737488351232) (wa : (Lit.int .u16 a).wf = true) (wx : (Lit.int .u8 x).wf = true) :
    Calls Try.prog 10 #[.string s, .int .u16 a, .int .u8 x] w fun e w' => e = .returned (.bool true) ∧ Below w.heap.size w w' := by
  obtain ⟨A, rfl⟩ : ∃ c : Nat, a = c := ⟨a.toNat, by have := (u16_bd wa).1; omega⟩
  obtain ⟨X, rfl⟩ : ∃ c : Nat, x = c := ⟨x.toNat, by have := (u8_bd wx).1; omega⟩
  have hA : (A : Int) ≤ 65535 := (u16_bd wa).2
  have hX : (X : Int) ≤ 255 := (u8_bd wx).2
  clear wa wx
  by_cases h0 : s.size = 0
  · have e : s = ⟨#[]⟩ := bytes_eq _ _ h0 fun i hi => by omega
    subst e
    go_enter Try.func10, Try.ntmps10
    go_wp2_with fail
    refine (awake05 _).mono ?_
    rintro e w1 ⟨rfl, hb⟩
    go_wp2_with fail
    go_ret
    exact ⟨rfl, hb⟩
  · have hz : ((s.size : Int) == 0) = false := beq_eq_false_iff_ne.2 (by omega)
    by_cases h : (4000 : Int) < s.size
    · go_enter Try.func10, Try.ntmps10
      go_wp2_with fail
      refine (awake05 _).mono ?_
      rintro e w1 ⟨rfl, hb⟩
      go_wp2_with fail
      go_ret
      exact ⟨rfl, hb⟩
    · have hk : A % s.size < s.size := Nat.mod_lt _ (by omega)
      obtain ⟨cap, W, hconv, hcell, hfr, hbel⟩ := conv_bytes_w (P := Try.prog) w 9 37 5 s w.heap.size rfl Try.underlying9 Try.underlying37 Try.underlying5
      have c1 := hcell _ hk
      have f1 := hfr _ hk
      have HC := Aside.mk hcell
      have HB := Aside.mk hbel
      have p0 : (0 : Int) ≤ (A : Int) % (s.size : Int) := Int.emod_nonneg _ (by omega)
      have p1 : (A : Int) % (s.size : Int) < s.size := Int.emod_lt_of_pos _ (by omega)
      have n0 : ((A : Int) % (s.size : Int)).toNat = A % s.size := by rw [← Int.natCast_emod]; rfl
      have hcv : (convert 37 9 (.slice (some ⟨w.heap.size, 0, none⟩) s.size cap)).run Try.prog (W.setCell ⟨w.heap.size, A % s.size, none⟩ (.int .u8 (X : Int))) =
          .ok (.string (tab (putF s (A % s.size) X) s.size)) (W.setCell ⟨w.heap.size, A % s.size, none⟩ (.int .u8 (X : Int))) :=
        conv_string _ 37 5 9 _ s.size cap _ Try.underlying37 Try.underlying5 Try.underlying9 (fun j hj => by
          by_cases e : j = A % s.size
          · subst e
            rw [World.cell?_setCell_same _ _ _ c1, show putF s (A % s.size) X (A % s.size) = X from if_pos rfl]
          · rw [World.cell?_setCell_other _ _ _ _ (by first | (simp; done) | (simp; omega)), hcell j hj, show putF s (A % s.size) X j = byt s j from if_neg e])
      have hl := crcOne_law s (A % s.size) X hk (by omega)
      have HL := Aside.mk hl
      have hsz : (0 : Int) < s.size := by omega
      have hsz2 : (s.size : Int) ≤ 4000 := by omega
      clear hcell hfr hbel hl h0
      go_enter Try.func10, Try.ntmps10
      go_wp2_with fail
      clear hcv hconv c1 f1
      have q1 : (tab (putF s (A % s.size) X) s.size).size ≤ 65536 := by rw [tab_size]; omega
      have HQ : Aside (((crcF 0 (tab (putF s (A % s.size) X) s.size) : Int) == crcF 0 s) = (byt s (A % s.size) == (X : Int))) := ⟨by
        have := HL.out
        rw [Bool.eq_iff_iff]
        simp only [beq_iff_eq]
        rw [← this]
        omega⟩
      generalize tab (putF s (A % s.size) X) s.size = t at q1 HQ ⊢
      generalize byt s (A % s.size) = b at HQ ⊢
      refine (sum_any t _ q1).mono ?_
      rintro e w1 ⟨rfl, b1⟩
      go_wp2_with fail
      refine (sum_any s _ (by omega)).mono ?_
      rintro e w2 ⟨rfl, b2⟩
      generalize (b == (X : Int)) = r at HQ ⊢
      have hq := HQ.out
      go_wp2_with fail
      refine (awake05 _).mono ?_
      rintro e w3 ⟨rfl, b3⟩
      go_wp2_with fail
      go_ret
      exact ⟨rfl, bl_step (bl_step (bl_step (bl_set HB.out (by simp) _) b1) b2) b3⟩
end Go.Proofs.Ytjmenlffhoodeaa
