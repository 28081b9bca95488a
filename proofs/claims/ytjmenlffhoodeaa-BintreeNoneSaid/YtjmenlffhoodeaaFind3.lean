/- The reference's nearest sources, walked. -/
import Derived.Test.YtjmenlffhoodeaaFind1
namespace Go.Proofs.Ytjmenlffhoodeaa
open Go.RowKit

theorem match_info : (Try.prog.info? 64).map (fun i => (i.zero, i.size, i.bytes)) = some (some (.agg #[.int .i64 0, .int .i64 0]), 2, 16) := by kernel_rfl
theorem cell_two_new (w : World) (t : TypeId) (x y : Value) : ∀ j u, [x, y][j]? = some u → (w.alloc (.cells #[x, y] t)).cell? ((⟨w.heap.size, 0, none⟩ : Addr).add j) = some u := by
  intro j u hu
  match j, hu with
  | 0, hu => simp at hu; subst hu; exact (Blk.new w t #[x, y]).cell 0
  | 1, hu => simp at hu; subst hu; exact (Blk.new w t #[x, y]).cell 1
theorem own_snoc2 {w : World} {B : Nat} {v : Value} {ms : List (Int × Int)} {a b : Int} (h : w.ownsRow B 64 2 v (ms.length + 1) (cells2 ms ++ [.int .i64 a, .int .i64 b])) : w.ownsRow B 64 2 v (ms ++ [(a, b)]).length (cells2 (ms ++ [(a, b)])) := by
  rw [cells2_append, List.length_append]; exact h

def refG (s : ByteArray) (i m : Nat) (k : Nat) : Nat := min (Find.lcp (bytN s) s.size i k) m
theorem recs_len (g : Nat → Nat) (i : Nat) : ∀ (l : List Nat) (b : Nat), (Find.recs g i l b).length ≤ l.length := by
  intro l
  induction l with
  | nil => intro b; exact Nat.le_refl _
  | cons x r ih =>
    intro b
    rw [Find.recs_cons]
    split
    · have := ih (g x); simp only [List.length_cons]; omega
    · have := ih b; simp only [List.length_cons]; omega
theorem back_len (i n : Nat) : (Find.back i n).length = n := by
  induction n with
  | zero => rfl
  | succ n ih => rw [Find.back_succ, List.length_append, ih]; rfl

theorem of_back (s : ByteArray) (i d : Nat) (w : World) (hs : s.size ≤ 65536) (hi : i ≤ s.size) (hd : d ≤ i) :
    Calls Try.prog 53 #[.string s, .int .i64 (i : Int), .int .i64 ((i : Int) - (d : Int))] w fun e w' => e = .returned (.int .i64 (Find.lcp (bytN s) s.size i (i - d) : Nat)) ∧ Drawn w w' := by
  rw [show (i : Int) - (d : Int) = ((i - d : Nat) : Int) from by omega]
  exact of_any s i (i - d) w hs hi (by omega)
set_option maxRecDepth 100000 in
set_option maxHeartbeats 2000000 in
theorem refAt_any (s : ByteArray) (i win m : Nat) (w : World) (hs : s.size ≤ 4000) (hi : i < s.size) (hw : 1 ≤ win) (hw2 : win ≤ 67108864) (hm : 2 ≤ m) (hm2 : m ≤ 258) :
    Calls Try.prog 36 #[.string s, .int .i64 (i : Int), .int .i64 (win : Int), .int .i64 (m : Int)] w fun e w' => ∃ v, e = .returned v ∧ PairsAt w' w'.heap.size v (Find.near (bytN s) s.size i win m) ∧ Below w.heap.size w w' := by
  obtain ⟨i0, hi0, hz0, hz1, hz2⟩ := info_parts match_info
  have d1 : decide (s.size ≤ i) = false := decide_eq_false (by omega)
  go_enter Try.func36, Try.ntmps36
  go_wp2_with fail
  go_loopw [9, 10, 11] (fun v b q wr => ∃ d : Nat, d ≤ min i win ∧ q = .int .i64 ((d + 1 : Nat) : Int) ∧ b = .int .i64 (Find.bestOf (refG s i m) (Find.back i d) : Nat) ∧
    wr.ownsRow w.heap.size 64 2 v (Find.recs (refG s i m) i (Find.back i d) 1).length (cells2 (Find.recs (refG s i m) i (Find.back i d) 1)) ∧ Aside (Below w.heap.size w wr)) (fun _ _ q _ => min i win + 1 - (intOf q).toNat)
  case atStart => exact ⟨0, by omega, rfl, rfl, World.ownsRow_nil _ _ _ _, ⟨Below.refl _ _⟩⟩
  case round =>
    obtain ⟨d, hd, rfl, rfl, hown, HB⟩ := hrel
    by_cases hlt : d + 1 ≤ min i win
    · have q1 : d + 1 ≤ i := by omega
      have q2 : d + 1 ≤ win := by omega
      have h1 : (d : Int) + 1 ≤ i := by omega
      have h2 : (d : Int) + 1 ≤ win := by omega
      have HS := Aside.mk (Find.near_step (refG s i m) i d)
      have HT := Aside.mk (Find.best_step (refG s i m) i d)
      have hL := Find.lcp_bd (bytN s) s.size i (i - (d + 1)) (by omega)
      have hlen := recs_len (refG s i m) i (Find.back i d) 1
      rw [back_len] at hlen
      generalize Find.recs (refG s i m) i (Find.back i d) 1 = ms at hown HS hlen
      generalize Find.bestOf (refG s i m) (Find.back i d) = b at HS HT ⊢
      have hg : refG s i m (i - (d + 1)) = min (Find.lcp (bytN s) s.size i (i - (d + 1))) m := rfl
      rw [hg] at HS HT
      clear hg
      go_wp2_with fail
      refine (of_back s i (d + 1) _ (by omega) (by omega) q1).mono ?_
      rintro e w' ⟨rfl, nd, rfl⟩
      generalize Find.lcp (bytN s) s.size i (i - (d + 1)) = L at hL HS HT
      by_cases hmL : m < L
      · rw [show min L m = m from by omega] at HS HT
        by_cases hb : b < m
        · have hbi : (b : Int) < m := by omega
          have HS2 : Aside (Find.recs (refG s i m) i (Find.back i (d + 1)) 1 = ms ++ [((m : Int), ((d + 1 : Nat) : Int))]) := ⟨by rw [HS.out, if_pos hb, show i - (i - (d + 1)) = d + 1 from by omega]⟩
          have HT2 : Aside (Find.bestOf (refG s i m) (Find.back i (d + 1)) = m) := ⟨by rw [HT.out]; omega⟩
          clear HS HT hb
          go_wp2_with (at_builtin; refine wpList_append_own _ rfl _ _ 41 rfl w.heap.size 64 i0 (.agg #[.int .i64 0, .int .i64 0]) 2 16 Try.underlying41 hi0 hz0 hz1 hz2 rfl (by decide) _ _ _ rfl (hown.alloc _) ⟨wr.heap.size, 0, none⟩ 1 1 [.int .i64 m, .int .i64 ((d : Int) + 1)] rfl rfl ?c1 ?c2 ?c3 ?c4 ?c5 ?_)
          case c1 => exact cell_two_new _ _ _ _
          case c2 => simp [Value.oneCell']
          case c3 => unfold maxLen; omega
          case c4 => omega
          case c5 => have := HB.out.size; simp; omega
          intro v' w1 hown' hgrow _
          have HB1 := Aside.mk (below_grown (bl_alloc (bl_drewN HB.out nd) _) (hown.alloc _) hgrow)
          clear hgrow hown
          go_wp2_with fail
          exact ⟨⟨d + 1, by omega, by go_num, by rw [HT2.out], by rw [HS2.out]; exact own_snoc2 hown', HB1⟩, by simp [intOf]; omega⟩
        · have hbi : (m : Int) ≤ b := by omega
          have HS2 : Aside (Find.recs (refG s i m) i (Find.back i (d + 1)) 1 = ms) := ⟨by rw [HS.out, if_neg hb, List.append_nil]⟩
          have HT2 : Aside (Find.bestOf (refG s i m) (Find.back i (d + 1)) = b) := ⟨by rw [HT.out]; omega⟩
          clear HS HT hb
          go_wp2_with fail
          exact ⟨⟨d + 1, by omega, by go_num, by rw [HT2.out], by rw [HS2.out]; exact hown, ⟨bl_drewN HB.out nd⟩⟩, by simp [intOf]; omega⟩
      · rw [show min L m = L from by omega] at HS HT
        by_cases hb : b < L
        · have hbi : (b : Int) < L := by omega
          have HS2 : Aside (Find.recs (refG s i m) i (Find.back i (d + 1)) 1 = ms ++ [((L : Int), ((d + 1 : Nat) : Int))]) := ⟨by rw [HS.out, if_pos hb, show i - (i - (d + 1)) = d + 1 from by omega]⟩
          have HT2 : Aside (Find.bestOf (refG s i m) (Find.back i (d + 1)) = L) := ⟨by rw [HT.out]; omega⟩
          clear HS HT hb
          go_wp2_with (at_builtin; refine wpList_append_own _ rfl _ _ 41 rfl w.heap.size 64 i0 (.agg #[.int .i64 0, .int .i64 0]) 2 16 Try.underlying41 hi0 hz0 hz1 hz2 rfl (by decide) _ _ _ rfl (hown.alloc _) ⟨wr.heap.size, 0, none⟩ 1 1 [.int .i64 L, .int .i64 ((d : Int) + 1)] rfl rfl ?c1 ?c2 ?c3 ?c4 ?c5 ?_)
          case c1 => exact cell_two_new _ _ _ _
          case c2 => simp [Value.oneCell']
          case c3 => unfold maxLen; omega
          case c4 => omega
          case c5 => have := HB.out.size; simp; omega
          intro v' w1 hown' hgrow _
          have HB1 := Aside.mk (below_grown (bl_alloc (bl_drewN HB.out nd) _) (hown.alloc _) hgrow)
          clear hgrow hown
          go_wp2_with fail
          exact ⟨⟨d + 1, by omega, by go_num, by rw [HT2.out], by rw [HS2.out]; exact own_snoc2 hown', HB1⟩, by simp [intOf]; omega⟩
        · have hbi : (L : Int) ≤ b := by omega
          have HS2 : Aside (Find.recs (refG s i m) i (Find.back i (d + 1)) 1 = ms) := ⟨by rw [HS.out, if_neg hb, List.append_nil]⟩
          have HT2 : Aside (Find.bestOf (refG s i m) (Find.back i (d + 1)) = b) := ⟨by rw [HT.out]; omega⟩
          clear HS HT hb
          go_wp2_with fail
          exact ⟨⟨d + 1, by omega, by go_num, by rw [HT2.out], by rw [HS2.out]; exact hown, ⟨bl_drewN HB.out nd⟩⟩, by simp [intOf]; omega⟩
    · obtain rfl : d = min i win := by omega
      have HP := Aside.mk (pairsAt_own hown)
      by_cases hiw : i ≤ win
      · have hm3 : min i win = i := by omega
        rw [hm3] at HP ⊢
        have q : ¬ (i : Int) + 1 ≤ i := by omega
        clear hown
        go_wp2_with fail
        go_ret
        exact ⟨_, rfl, by unfold Find.near; rw [hm3]; exact HP.out, HB.out⟩
      · have hm3 : min i win = win := by omega
        rw [hm3] at HP ⊢
        have q0 : (win : Int) + 1 ≤ i := by omega
        have q : ¬ (win : Int) + 1 ≤ win := by omega
        clear hown
        go_wp2_with fail
        go_ret
        exact ⟨_, rfl, by unfold Find.near; rw [hm3]; exact HP.out, HB.out⟩
end Go.Proofs.Ytjmenlffhoodeaa
