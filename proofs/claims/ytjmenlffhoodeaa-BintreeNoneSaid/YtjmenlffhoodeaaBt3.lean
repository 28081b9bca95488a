/- bintree's Next, walked. (Printed by mkbt3.py, a small program of mine.) -/
import Derived.Test.YtjmenlffhoodeaaBt2
import Derived.StillTailTactics
namespace Go.Proofs.Ytjmenlffhoodeaa
open Go.RowKit

theorem cut_side (M : Nat → Int) (i : Nat) : Find.setM (Find.setM M (i * 2) (-1)) (i * 2 + 1) (-1) = Find.cutM M i := by unfold Find.cutM; rw [Nat.mul_comm]
set_option maxRecDepth 100000 in
set_option maxHeartbeats 2000000 in
theorem btNext_nil (m : Int) (w : World) : Calls Try.prog 41 #[.pointer none, .int .i64 m] w fun e w' => e = .returned (.tuple #[.slice none 0 0, .int .i64 (-1)]) ∧ Drawn w w' := by
  go_enter Try.func41, Try.ntmps41
  go_wp2_with fail
  go_quiet (fail)
  go_wp2_with fail
  go_ret2
  exact ⟨rfl, _, rfl⟩
set_option maxRecDepth 100000 in
set_option maxHeartbeats 2000000 in
theorem btNext_end (m : Int) (w : World) (gF gM gL : Nat) (s : ByteArray) (win dep at_ q : Nat) (M : Nat → Int) (h : BtAt w gF gM gL s win dep at_ q M) (ha : s.size ≤ at_) :
    Calls Try.prog 41 #[.pointer (some ⟨gF, 0, none⟩), .int .i64 m] w fun e w' => e = .returned (.tuple #[.slice none 0 0, .int .i64 (-1)]) ∧ Drawn w w' := by
  obtain ⟨c0, _, _, c3, _⟩ := fin6 h.1
  have d1 : decide (s.size ≤ at_) = true := decide_eq_true ha
  go_enter Try.func41, Try.ntmps41
  go_wp2_with fail
  go_quiet (fail)
  go_wp2_with fail
  go_ret2
  exact ⟨rfl, _, rfl⟩
set_option maxRecDepth 100000 in
set_option maxHeartbeats 2000000 in
theorem btNext_last (m : Int) (w : World) (gF gM gL : Nat) (s : ByteArray) (win dep at_ q : Nat) (M : Nat → Int) (h : BtAt w gF gM gL s win dep at_ q M) (ha : s.size = at_ + 1) (hz : at_ ≤ 65536) :
    Calls Try.prog 41 #[.pointer (some ⟨gF, 0, none⟩), .int .i64 m] w fun e w' => e = .returned (.tuple #[.slice none 0 0, .int .i64 (at_ : Int)]) ∧ BtAt w' gF gM gL s win dep (at_ + 1) q (Find.cutM M at_) ∧ But w w' (ofF gF gM gL) := by
  obtain ⟨c0, _, _, c3, _, c5, f3⟩ := fin6 h.1
  have k0 := (h.2.2.cell (at_ * 2)).trans (rowI_at M _ _ (by omega))
  have k1 := (h.2.2.cell (at_ * 2 + 1)).trans (rowI_at M _ _ (by omega))
  have f0 := h.2.2.frozen (at_ * 2)
  have f1 := h.2.2.frozen (at_ * 2 + 1)
  obtain ⟨n1, n2, n3⟩ := h.gne
  have n4 : gL ≠ gF := fun e => n2 e.symm
  have H := Aside.mk h
  have d1 : decide (s.size ≤ at_) = false := decide_eq_false (by omega)
  have hb : s.size ≤ at_ + 1 := by omega
  have hb2 : (at_ : Int) < s.size := by omega
  clear h ha n1 n3
  go_enter Try.func41, Try.ntmps41
  go_wp2_with fail
  go_quiet (fail)
  go_wp2_with fail
  go_ret2
  have h2 := ((H.out.drewN nq).bump.link (at_ * 2) (-1)).link (at_ * 2 + 1) (-1)
  rw [cut_side] at h2
  exact ⟨rfl, h2, ((((But.refl w _).drewN _).set_ (.inl (.inl rfl)) _).set_ (.inl (.inr (.inr rfl))) _).set_ (.inl (.inr (.inr rfl))) _⟩
set_option maxRecDepth 100000 in
set_option maxHeartbeats 16000000 in
theorem btNext_mid (a : Int) (m : Nat) (w : World) (gF gM gL : Nat) (s : ByteArray) (win dep i : Nat) (M : Nat → Int) (h : BtAt w gF gM gL s win dep i i M) (hi : i + 1 < s.size) (hs : s.size ≤ 200) (hmm : max 2 (min a 258) = (m : Int)) (hw : win ≤ 67108864) (hd : dep ≤ 65536) (hh : Find.Heap M i) :
    Calls Try.prog 41 #[.pointer (some ⟨gF, 0, none⟩), .int .i64 a] w fun e w' => ∃ v, e = .returned (.tuple #[v, .int .i64 (i : Int)]) ∧ PairsAt w' w'.heap.size v (Find.nextB (bytN s) s.size win m i dep M).1 ∧
      (∀ g, v.ownBlock = some g → w.heap.size ≤ g) ∧ BtAt w' gF gM gL s win dep (i + 1) (i + 1) (Find.nextB (bytN s) s.size win m i dep M).2 ∧ But w w' (ofF gF gM gL) := by
  obtain ⟨c0, c1, c2, c3, c4, c5, f3⟩ := fin6 h.1
  have k0 := (h.2.2.cell (i * 2)).trans (rowI_at M _ _ (by omega))
  have k1 := (h.2.2.cell (i * 2 + 1)).trans (rowI_at M _ _ (by omega))
  have f0 := h.2.2.frozen (i * 2)
  have f1 := h.2.2.frozen (i * 2 + 1)
  obtain ⟨n1, n2, n3⟩ := h.gne
  have n4 : gL ≠ gF := fun e => n2 e.symm
  have H := Aside.mk h
  have HH := Aside.mk (Find.heap_cut hh)
  have d1 : decide (s.size ≤ i) = false := decide_eq_false (by omega)
  have hb : (i : Int) + 1 < s.size := by omega
  have hb2 : (i : Int) < s.size := by omega
  have q0 := run_idx (P := Try.prog) 9 s .i64 (i : Int) i rfl (by omega) Try.underlying9
  have q1 := run_idx (P := Try.prog) 9 s .i64 ((i : Int) + 1) (i + 1) (by omega) (by omega) Try.underlying9
  rw [byt_N] at q0 q1
  have e1 : IntKind.i64.wrap ((i : Int) + 1) = (i : Int) + 1 := IntWalk.i64_in _ (by omega)
  clear h hh n1 n3
  have NN : Aside (Find.last (bytN s) (bytN s i) (bytN s (i + 1)) i = none → Find.nextB (bytN s) s.size win m i dep M = ([], Find.cutM M i)) := ⟨Find.nextB_none _ _ _ _ _ _ _⟩
  have NS : Aside (∀ k : Nat, Find.last (bytN s) (bytN s i) (bytN s (i + 1)) i = some k → Find.nextB (bytN s) s.size win m i dep M = if (Find.cutM M i (2 * k) = -1 ∧ Find.cutM M i (2 * k + 1) = -1) ∧ win < i - k then ([], Find.cutM M i) else Find.dsc (bytN s) s.size win m i dep (Find.cutM M i) k 1 (2 * i) (2 * i + 1)) :=
    ⟨fun k => Find.nextB_some _ _ _ _ _ _ _ k⟩
  generalize Find.nextB (bytN s) s.size win m i dep M = D at NN NS ⊢
  go_enter Try.func41, Try.ntmps41
  go_wp2_with fail
  go_quiet (fail)
  go_wp2_with fail
  clear c0 c1 c2 c3 c4 c5 f3 k0 k1 f0 f1 n2 n4
  have HB := Aside.mk (((((But.refl w (ofF gF gM gL)).drewN nq).set_ (p := ⟨gF, 3, none⟩) (.inl (.inl rfl)) (.int .i64 ((i : Int) + 1))).set_ (p := ⟨gL, i * 2, none⟩) (.inl (.inr (.inr rfl))) (.int .i64 (-1))).set_ (p := ⟨gL, i * 2 + 1, none⟩) (.inl (.inr (.inr rfl))) (.int .i64 (-1)))
  have h2 := ((H.out.drewN nq).bump.link (i * 2) (-1)).link (i * 2 + 1) (-1)
  rw [cut_side] at h2
  replace H := Aside.mk h2
  clear h2
  generalize hW : World.setCell _ _ _ = w2 at H HB ⊢
  clear hW
  obtain ⟨c0, c1, c2, c3, c4, c5, f3⟩ := fin6 H.out.1
  have zF := H.out.1.lt
  go_region
  have hx := bytN_lt s i
  have hy := bytN_lt s (i + 1)
  have HL : Aside ((Find.last (bytN s) (bytN s i) (bytN s (i + 1)) i = none) ∨ ∃ k : Nat, Find.last (bytN s) (bytN s i) (bytN s (i + 1)) i = some k ∧ k < i) := ⟨by
    cases hl : Find.last (bytN s) (bytN s i) (bytN s (i + 1)) i with
    | none => exact .inl rfl
    | some k => exact .inr ⟨k, rfl, Find.last_lt _ _ _ _ _ hl⟩⟩
  have hgK : w.heap.size ≤ w2.heap.size := HB.out.size
  have K1 := Aside.mk (Blk.new w2 69 #[.int .u8 ((bytN s i : Nat) : Int), .int .u8 ((bytN s (i + 1) : Nat) : Int)])
  replace HB := Aside.mk ((HB.out.alloc (.cells #[.int .u8 ((bytN s i : Nat) : Int), .int .u8 ((bytN s (i + 1) : Nat) : Int)] 69)).drew)
  replace H := Aside.mk (H.out.alloc (.cells #[.int .u8 ((bytN s i : Nat) : Int), .int .u8 ((bytN s (i + 1) : Nat) : Int)] 69)).drew
  clear c0 c1 c2 c3 c4 c5 f3 zF q0 q1
  generalize hx' : bytN s i = x at *
  generalize hy' : bytN s (i + 1) = y at *
  generalize hW : (w2.alloc (Obj.cells #[Value.int IntKind.u8 (x : Int), Value.int IntKind.u8 (y : Int)] 69)).drew = w3 at H HB ⊢
  replace K1 := Aside.mk (show Blk w3 w2.heap.size 69 #[.int .u8 (x : Int), .int .u8 (y : Int)] by rw [← hW]; exact K1.out)
  generalize w2.heap.size = gK at K1 hgK ⊢
  clear hW
  obtain ⟨c0, c1, c2, c3, c4, c5, f3⟩ := fin6 H.out.1
  have k0 := K1.out.cell 0
  have k1 := K1.out.cell 1
  have HXY := Aside.mk (And.intro hx' hy')
  clear hx' hy'
  generalize Find.cutM M i = M1 at H HH NN NS
  rcases HL.out with hl | ⟨k9, hl, hk9⟩
  · have hq : ∀ n, (Instr.lookup 65 (.map (some gM)) (.agg #[.int .u8 (x : Int), .int .u8 (y : Int)]) true).run Try.prog (w3.drewN n) = .ok (.tuple #[.int .i64 0, .bool false]) (w3.drewN n) := fun n => by
      have := ((H.out.drewN n).2.1).lookup x y hx hy (zero3 _)
      rw [hl] at this
      exact this
    have HP := Aside.mk (NN.out hl)
    clear hl
    go_wp2_with fail
    go_quiet (fail)
    clear hq
    replace HB := Aside.mk (HB.out.drewN nq)
    replace H := Aside.mk (H.out.drewN nq)
    replace K1 := Aside.mk (K1.out.drewN nq)
    clear c0 c1 c2 c3 c4 c5 f3 k0 k1
    generalize w3.drewN nq = w4 at H HB K1 ⊢
    obtain ⟨c0, c1, c2, c3, c4, c5, f3⟩ := fin6 H.out.1
    have k0 := K1.out.cell 0
    have k1 := K1.out.cell 1
    obtain ⟨w5, hput, hM, hgr⟩ := (H.out.drew.2.1).put (by unfold maxLen; omega) x y i hx hy (by omega)
    have hput2 : (Instr.mapUpdate 65 (.map (some gM)) (.agg #[.int .u8 (x : Int), .int .u8 (y : Int)]) (.int .i64 (i : Int))).run Try.prog w4.drew = .ok () w5 := hput
    clear hput
    have hg2 : w4.grownBy w5 (some gM) := (World.grownBy.refl w4 none).trans_drew hgr
    replace HB := Aside.mk (HB.out.grown hg2 (fun g hg => .inl (by cases hg; exact .inr (.inl rfl))))
    replace H := Aside.mk (H.out.put hM hg2 HXY.out.1 HXY.out.2)
    clear hM hgr hg2
    go_wp2_with fail
    go_still_tail 6, (by kernel_rfl)
    clear c0 c1 c2 c3 c4 c5 f3 k0 k1
    obtain ⟨c0, c1, c2, c3, c4, c5, f3⟩ := fin6 H.out.1
    go_wp2_with fail
    go_ret2
    exact ⟨_, rfl, by rw [HP.out]; exact .inl ⟨rfl, rfl⟩, (fun g hg => by cases hg), by rw [HP.out]; exact H.out, HB.out⟩
  · have hq : ∀ n, (Instr.lookup 65 (.map (some gM)) (.agg #[.int .u8 (x : Int), .int .u8 (y : Int)]) true).run Try.prog (w3.drewN n) = .ok (.tuple #[.int .i64 (k9 : Int), .bool true]) (w3.drewN n) := fun n => by
      have := ((H.out.drewN n).2.1).lookup x y hx hy (zero3 _)
      rw [hl] at this
      exact this
    have HP := Aside.mk (NS.out k9 hl)
    clear hl
    go_wp2_with fail
    go_quiet (fail)
    clear hq
    replace HB := Aside.mk (HB.out.drewN nq)
    replace H := Aside.mk (H.out.drewN nq)
    replace K1 := Aside.mk (K1.out.drewN nq)
    clear c0 c1 c2 c3 c4 c5 f3 k0 k1
    generalize w3.drewN nq = w4 at H HB K1 ⊢
    obtain ⟨c0, c1, c2, c3, c4, c5, f3⟩ := fin6 H.out.1
    have k0 := K1.out.cell 0
    have k1 := K1.out.cell 1
    obtain ⟨w5, hput, hM, hgr⟩ := (H.out.drew.2.1).put (by unfold maxLen; omega) x y i hx hy (by omega)
    have hput2 : (Instr.mapUpdate 65 (.map (some gM)) (.agg #[.int .u8 (x : Int), .int .u8 (y : Int)]) (.int .i64 (i : Int))).run Try.prog w4.drew = .ok () w5 := hput
    clear hput
    have hg2 : w4.grownBy w5 (some gM) := (World.grownBy.refl w4 none).trans_drew hgr
    replace HB := Aside.mk (HB.out.grown hg2 (fun g hg => .inl (by cases hg; exact .inr (.inl rfl))))
    replace H := Aside.mk (H.out.put hM hg2 HXY.out.1 HXY.out.2)
    clear hM hgr hg2
    go_wp2_with fail
    go_still_tail 6, (by kernel_rfl)
    clear c0 c1 c2 c3 c4 c5 f3 k0 k1
    obtain ⟨c0, c1, c2, c3, c4, c5, f3⟩ := fin6 H.out.1
    have cl := (H.out.2.2.cell (k9 * 2)).trans (rowI_at M1 _ _ (by omega))
    have cm := (H.out.2.2.cell (k9 * 2 + 1)).trans (rowI_at M1 _ _ (by omega))
    have HP1 := HP.out
    rw [show 2 * k9 = k9 * 2 from Nat.mul_comm _ _] at HP1
    generalize M1 (k9 * 2) = l0 at cl HP1
    generalize M1 (k9 * 2 + 1) = l1 at cm HP1
    replace HP := Aside.mk HP1
    clear HP1
    by_cases e0 : l0 = -1
    · subst e0
      by_cases e3 : l1 = -1
      · subst e3
        by_cases ew : win < i - k9
        · have hew : (win : Int) < (i : Int) - k9 := by omega
          have HP2 : Aside (D = ([], M1)) := ⟨by rw [HP.out, if_pos ⟨⟨rfl, rfl⟩, ew⟩]⟩
          clear HP ew
          go_wp2_with fail
          go_ret2
          exact ⟨_, rfl, by rw [HP2.out]; exact .inl ⟨rfl, rfl⟩, (fun g hg => by cases hg), by rw [HP2.out]; exact H.out, HB.out⟩
        · have hew : ¬ (win : Int) < (i : Int) - k9 := by omega
          have HP2 : Aside (D = Find.dsc (bytN s) s.size win m i dep M1 k9 1 (side i true) (side i false)) := ⟨by rw [side_true, side_false, HP.out, if_neg (fun h => ew h.2)]⟩
          clear HP ew
          go_wp2_with fail
          clear c0 c1 c2 c3 c4 c5 f3 cl cm
          refine (walk_any m w5 gF gM gL s win dep (i + 1) (i + 1) i k9 M1 H.out hk9 (by omega) hs hw hd HH.out).mono ?_
          rintro e w6 ⟨v, rfl, hp, hv, hbt, hbut⟩
          have hz := HB.out.size
          replace HB := Aside.mk (HB.out.trans hbut)
          have HV := Aside.mk hp
          have HT := Aside.mk hbt
          have HVV := Aside.mk hv
          clear hp hv hbt hbut H
          go_wp2_with fail
          go_ret2
          exact ⟨_, rfl, by rw [HP2.out]; exact HV.out, fun g hg => Nat.le_trans hz (HVV.out g hg), by rw [HP2.out]; exact HT.out, HB.out⟩
      · have e4 : (l1 == -1) = false := beq_eq_false_iff_ne.2 e3
        have HP2 : Aside (D = Find.dsc (bytN s) s.size win m i dep M1 k9 1 (side i true) (side i false)) := ⟨by rw [side_true, side_false, HP.out, if_neg (fun h => e3 h.1.2)]⟩
        clear HP e3
        go_wp2_with fail
        clear c0 c1 c2 c3 c4 c5 f3 cl cm
        refine (walk_any m w5 gF gM gL s win dep (i + 1) (i + 1) i k9 M1 H.out hk9 (by omega) hs hw hd HH.out).mono ?_
        rintro e w6 ⟨v, rfl, hp, hv, hbt, hbut⟩
        have hz := HB.out.size
        replace HB := Aside.mk (HB.out.trans hbut)
        have HV := Aside.mk hp
        have HT := Aside.mk hbt
        have HVV := Aside.mk hv
        clear hp hv hbt hbut H
        go_wp2_with fail
        go_ret2
        exact ⟨_, rfl, by rw [HP2.out]; exact HV.out, fun g hg => Nat.le_trans hz (HVV.out g hg), by rw [HP2.out]; exact HT.out, HB.out⟩
    · have e4 : (l0 == -1) = false := beq_eq_false_iff_ne.2 e0
      have HP2 : Aside (D = Find.dsc (bytN s) s.size win m i dep M1 k9 1 (side i true) (side i false)) := ⟨by rw [side_true, side_false, HP.out, if_neg (fun h => e0 h.1.1)]⟩
      clear HP e0
      go_wp2_with fail
      clear c0 c1 c2 c3 c4 c5 f3 cl cm
      refine (walk_any m w5 gF gM gL s win dep (i + 1) (i + 1) i k9 M1 H.out hk9 (by omega) hs hw hd HH.out).mono ?_
      rintro e w6 ⟨v, rfl, hp, hv, hbt, hbut⟩
      have hz := HB.out.size
      replace HB := Aside.mk (HB.out.trans hbut)
      have HV := Aside.mk hp
      have HT := Aside.mk hbt
      have HVV := Aside.mk hv
      clear hp hv hbt hbut H
      go_wp2_with fail
      go_ret2
      exact ⟨_, rfl, by rw [HP2.out]; exact HV.out, fun g hg => Nat.le_trans hz (HVV.out g hg), by rw [HP2.out]; exact HT.out, HB.out⟩
end Go.Proofs.Ytjmenlffhoodeaa
