/- bintree's walk, walked. (Printed by mkbt2.py, a small program of mine.) -/
import Derived.Test.YtjmenlffhoodeaaBt1
namespace Go.Proofs.Ytjmenlffhoodeaa
open Go.RowKit

theorem own_keep {w w' : World} {base sz n : Nat} {e : TypeId} {v : Value} {xs : List Value} (h : w.ownsRow base e sz v n xs) (hk : ∀ g, v.ownBlock = some g → w'.heap[g]? = w.heap[g]?) : w'.ownsRow base e sz v n xs := by
  obtain ⟨h1, h2 | ⟨g, cap, cur, rfl, hb, hh, h3⟩⟩ := h
  · exact ⟨h1, .inl h2⟩
  · exact ⟨h1, .inr ⟨g, cap, cur, rfl, hb, (hk g rfl).trans hh, h3⟩⟩
theorem side_true (k : Nat) : side k true = 2 * k := by unfold side; simp; omega
theorem side_false (k : Nat) : side k false = 2 * k + 1 := by unfold side; simp; omega
theorem side_half (k : Nat) (b : Bool) : side k b / 2 = k := by unfold side; cases b <;> simp <;> omega
theorem up_iff (s : ByteArray) (i k : Nat) : Find.up (bytN s) s.size i k = true ↔ i + Find.lcp (bytN s) s.size i k < s.size ∧ bytN s (i + Find.lcp (bytN s) s.size i k) < bytN s (k + Find.lcp (bytN s) s.size i k) := by
  unfold Find.up; simp
theorem PairsAt.two {w : World} {gL : Nat} {v : Value} {xs : List (Int × Int)} (h : PairsAt w w.heap.size v xs) (hv : v.ownBlock ≠ some gL) (c d : Nat) (x y : Value) :
    PairsAt ((w.setCell ⟨gL, c, none⟩ x).setCell ⟨gL, d, none⟩ y) ((w.setCell ⟨gL, c, none⟩ x).setCell ⟨gL, d, none⟩ y).heap.size v xs := by
  have ez : ((w.setCell ⟨gL, c, none⟩ x).setCell ⟨gL, d, none⟩ y).heap.size = w.heap.size := by simp [World.setCell]
  rw [ez]
  rcases h with h | ⟨g, cap, rfl, hg, h1, h2, hc⟩
  · exact .inl h
  · have hne : g ≠ gL := fun e => hv (by rw [e]; rfl)
    have e : ∀ j, ((w.setCell ⟨gL, c, none⟩ x).setCell ⟨gL, d, none⟩ y).cell? ⟨g, j, none⟩ = w.cell? ⟨g, j, none⟩ := fun j => by
      rw [World.cell?_setCell_other _ _ _ _ (by intro e; injection e with e; exact hne e.symm), World.cell?_setCell_other _ _ _ _ (by intro e; injection e with e; exact hne e.symm)]
    exact .inr ⟨g, cap, rfl, hg, h1, h2, fun i hi => by rw [e, e]; exact hc i hi⟩
set_option maxRecDepth 100000 in
set_option maxHeartbeats 16000000 in
theorem walk_any (m : Nat) (w : World) (gF gM gL : Nat) (s : ByteArray) (win dep a_ q_ i k0 : Nat) (M : Nat → Int) (h : BtAt w gF gM gL s win dep a_ q_ M) (hk0 : k0 < i) (hi : i < s.size) (hs : s.size ≤ 200) (hw : win ≤ 67108864) (hd : dep ≤ 65536) (hh : Find.Heap M (i + 1)) :
    Calls Try.prog 54 #[.pointer (some ⟨gF, 0, none⟩), .int .i64 (i : Int), .int .i64 (k0 : Int), .int .i64 (m : Int)] w fun e w' => ∃ v, e = .returned v ∧ PairsAt w' w'.heap.size v (Find.dsc (bytN s) s.size win m i dep M k0 1 (side i true) (side i false)).1 ∧
      (∀ g, v.ownBlock = some g → w.heap.size ≤ g) ∧ BtAt w' gF gM gL s win dep a_ q_ (Find.dsc (bytN s) s.size win m i dep M k0 1 (side i true) (side i false)).2 ∧ But w w' (ofF gF gM gL) := by
  obtain ⟨j0, hj0, hjz0, hjz1, hjz2⟩ := info_parts match_info
  have hFL := Aside.mk (And.intro h.1.lt (And.intro h.2.1.lt h.2.2.lt))
  have H := Aside.mk h
  have HH := Aside.mk hh
  clear h hh
  generalize hD : Find.dsc (bytN s) s.size win m i dep M k0 1 (side i true) (side i false) = D
  have HD := Aside.mk hD
  clear hD
  go_enter Try.func54, Try.ntmps54
  go_wp2_with fail
  go_loopw [9, 10, 11, 12, 13, 14, 15, 16, 17, 18, 19] (fun ov bv lav lsv mav msv kv tv _ _ _ wr => ∃ (t : Nat) (k : Int) (la ma b : Nat) (ls ms : Bool) (os : List (Int × Int)) (N : Nat → Int), t ≤ dep ∧ tv = .int .i64 t ∧ kv = .int .i64 k ∧ (-1 ≤ k ∧ k < i) ∧ lav = .int .i64 la ∧ lsv = .bool ls ∧ mav = .int .i64 ma ∧ msv = .bool ms ∧ bv = .int .i64 b ∧
    Aside (la ≤ i ∧ ma ≤ i ∧ k < la ∧ k < ma) ∧ Aside (Find.Heap N (i + 1)) ∧
    Aside ((os ++ (Find.dsc (bytN s) s.size win m i (dep - t) N k b (side la ls) (side ma ms)).1, (Find.dsc (bytN s) s.size win m i (dep - t) N k b (side la ls) (side ma ms)).2) = D) ∧
    wr.ownsRow w.heap.size 64 2 ov os.length (cells2 os) ∧ os.length ≤ t ∧ Aside (BtAt wr gF gM gL s win dep a_ q_ N) ∧ Aside (But w wr (ofF gF gM gL))) (fun _ _ _ _ _ _ _ tv _ _ _ _ => dep - (intOf tv).toNat)
  case atStart => exact ⟨0, _, _, _, _, _, _, [], M, by omega, rfl, rfl, by omega, rfl, rfl, rfl, rfl, rfl, ⟨by omega⟩, HH, ⟨by rw [← HD.out]; rfl⟩, World.ownsRow_nil _ _ _ _, by simp, H, ⟨But.refl _ _⟩⟩
  case round =>
    clear H HH HD
    obtain ⟨t, k, la, ma, b, ls, ms, os, N, ht, rfl, rfl, hkb, rfl, rfl, rfl, rfl, rfl, HA, HH, HM, hown, hlen, H, HB⟩ := hrel
    obtain ⟨c0, c1, c2, c3, c4, c5, f3⟩ := fin6 H.out.1
    have hla : la < s.size := by have := HA.out.1; omega
    have hma : ma < s.size := by have := HA.out.2.1; omega
    by_cases hk1 : k = -1
    · subst hk1
      have HE : Aside ((os, Find.setM (Find.setM N (side la ls) (-1)) (side ma ms) (-1)) = D) := ⟨by have := HM.out; rwa [Find.dsc_stop _ _ _ _ _ _ _ _ _ _ _ (.inl rfl), List.append_nil] at this⟩
      clear HM
      have hO : ∀ g, _ = some g → w.heap.size ≤ g := fun g hg => (hown.lt g hg).1
      have HP := Aside.mk (pairsAt_own hown)
      have HS := Aside.mk (Nat.le_refl wr.heap.size)
      have HO := Aside.mk hO
      clear hown hO
      go_wp2_with fail
      clear c0 c1 c2 c3 c4 c5 f3
      refine (hang_any _ gF gM gL s win dep a_ q_ N la (-1) ls H.out hla).mono ?_
      rintro e w1 ⟨rfl, rfl⟩
      have H1 := Aside.mk (H.out.link (side la ls) (-1))
      have HB1 := Aside.mk (HB.out.set_ (p := ⟨gL, side la ls, none⟩) (.inl (.inr (.inr rfl))) (.int .i64 (-1)))
      clear H HB
      go_wp2_with fail
      refine (hang_any _ gF gM gL s win dep a_ q_ _ ma (-1) ms H1.out hma).mono ?_
      rintro e w2 ⟨rfl, rfl⟩
      have H2 := Aside.mk (H1.out.link (side ma ms) (-1))
      have HB2 := Aside.mk (HB1.out.set_ (p := ⟨gL, side ma ms, none⟩) (.inl (.inr (.inr rfl))) (.int .i64 (-1)))
      clear H1 HB1
      go_wp2_with fail
      go_ret
      refine ⟨_, rfl, ?_, HO.out, by rw [← HE.out]; exact H2.out, HB2.out⟩
      rw [← HE.out]
      refine HP.out.two (gL := gL) (fun e => ?_) _ _ _ _
      have h1 := HO.out gL e
      have h2 := hFL.out.2.2
      omega
    · obtain ⟨kk, rfl⟩ : ∃ kk : Nat, k = kk := ⟨k.toNat, by omega⟩
      have hkk : kk < i := by omega
      have hne : ((kk : Int) != -1) = true := by simp
      clear hk1
      by_cases hwin : win < i - kk
      · have hwi : ¬ (i : Int) - kk ≤ win := by omega
        have hwi2 : (win : Int) < (i : Int) - kk := by omega
        have HE : Aside ((os, Find.setM (Find.setM N (side la ls) (-1)) (side ma ms) (-1)) = D) := ⟨by have := HM.out; rwa [Find.dsc_stop _ _ _ _ _ _ _ _ _ _ _ (.inr hwi2), List.append_nil] at this⟩
        clear HM
        have hO : ∀ g, _ = some g → w.heap.size ≤ g := fun g hg => (hown.lt g hg).1
        have HP := Aside.mk (pairsAt_own hown)
        have HS := Aside.mk (Nat.le_refl wr.heap.size)
        have HO := Aside.mk hO
        clear hown hO
        go_wp2_with fail
        clear c0 c1 c2 c3 c4 c5 f3
        refine (hang_any _ gF gM gL s win dep a_ q_ N la (-1) ls H.out hla).mono ?_
        rintro e w1 ⟨rfl, rfl⟩
        have H1 := Aside.mk (H.out.link (side la ls) (-1))
        have HB1 := Aside.mk (HB.out.set_ (p := ⟨gL, side la ls, none⟩) (.inl (.inr (.inr rfl))) (.int .i64 (-1)))
        clear H HB
        go_wp2_with fail
        refine (hang_any _ gF gM gL s win dep a_ q_ _ ma (-1) ms H1.out hma).mono ?_
        rintro e w2 ⟨rfl, rfl⟩
        have H2 := Aside.mk (H1.out.link (side ma ms) (-1))
        have HB2 := Aside.mk (HB1.out.set_ (p := ⟨gL, side ma ms, none⟩) (.inl (.inr (.inr rfl))) (.int .i64 (-1)))
        clear H1 HB1
        go_wp2_with fail
        go_ret
        refine ⟨_, rfl, ?_, HO.out, by rw [← HE.out]; exact H2.out, HB2.out⟩
        rw [← HE.out]
        refine HP.out.two (gL := gL) (fun e => ?_) _ _ _ _
        have h1 := HO.out gL e
        have h2 := hFL.out.2.2
        omega
      · have hwi : (i : Int) - kk ≤ win := by omega
        by_cases ht2 : t < dep
        · have ht3 : (t : Int) < dep := by omega
          have hl0 := HH.out (2 * kk) (by omega)
          have hm0 := HH.out (2 * kk + 1) (by omega)
          rw [show 2 * kk / 2 = kk from by omega] at hl0
          rw [show (2 * kk + 1) / 2 = kk from by omega] at hm0
          have hM := HM.out
          rw [show dep - t = (dep - (t + 1)) + 1 from by omega, Find.dsc_step _ _ _ _ _ _ _ _ _ _ _ (by omega)] at hM
          have hlb := Find.lcp_bd (bytN s) s.size i kk (by omega)
          have hsh := fun wq (hc : World.cell? wq ⟨gF, 0, none⟩ = some (.string s)) => shared57_any s gF i kk wq (by omega) (by omega) hkk hc
          rw [show min (Find.lcp (bytN s) s.size i kk) 258 = Find.lcp (bytN s) s.size i kk from by omega] at hsh
          have HU := Aside.mk (up_iff s i kk)
          generalize Find.up (bytN s) s.size i kk = uu at hM HU
          generalize Find.lcp (bytN s) s.size i kk = n at hM hsh hlb HU
          have hn2 : ((n : Int) == 258) = false := beq_eq_false_iff_ne.2 (by omega)
          have hmin : min (n : Int) (m : Int) = ((min n m : Nat) : Int) := by omega
          generalize min n m = p at hM hmin
          have HM3 := Aside.mk hM
          clear HM hM hwin
          go_wp2_with fail
          refine (hsh _ c0).mono ?_
          rintro e w' ⟨rfl, nd, rfl⟩
          clear hsh c0 c1 c2 c3 c4 c5 f3
          by_cases hb : b < p
          · have hbi : (b : Int) < p := by omega
            have hM := HM3.out
            simp only [if_pos hb] at hM
            have HM := Aside.mk hM
            clear hM HM3 hb
            go_wp2_with (at_builtin; refine wpList_append_own _ rfl _ _ 41 rfl w.heap.size 64 j0 (.agg #[.int .i64 0, .int .i64 0]) 2 16 Try.underlying41 hj0 hjz0 hjz1 hjz2 rfl (by decide) _ _ _ rfl (hown.alloc _) ⟨wr.heap.size, 0, none⟩ 1 1 [.int .i64 (p : Int), .int .i64 ((i : Int) - kk)] rfl rfl ?c1 ?c2 ?c3 ?c4 ?c5 ?_)
            case c1 => exact cell_two_new _ _ _ _
            case c2 => simp [Value.oneCell']
            case c3 => unfold maxLen; omega
            case c4 => omega
            case c5 => have := HB.out.size; simp; omega
            intro v' w1 hown' hgrow _
            have hgA : ∀ g, _ = some g → w.heap.size ≤ g := fun g hg => (hown.lt g hg).1
            have HB1 := Aside.mk (((HB.out.drewN nd).alloc _).grown hgrow (fun g hg => .inr (hgA g hg)))
            have H1 := Aside.mk (((H.out.drewN nd).alloc _).grown hgrow (fun g hg => hgA g hg) hFL.out)
            have hown1 : w1.ownsRow w.heap.size 64 2 v' (os ++ [((p : Int), (i : Int) - kk)]).length (cells2 (os ++ [((p : Int), (i : Int) - kk)])) := own_snoc2 hown'
            clear hgrow hown hown' hgA H HB hmin
            have z1 := H1.out.2.2.lt
            obtain ⟨n1, n2, n3⟩ := H1.out.gne
            obtain ⟨c0, c1, c2, c3, c4, c5, f3⟩ := fin6 H1.out.1
            have cl := (H1.out.2.2.cell (kk * 2)).trans (rowI_at N _ _ (by omega))
            have cm := (H1.out.2.2.cell (kk * 2 + 1)).trans (rowI_at N _ _ (by omega))
            rw [show N (kk * 2) = N (2 * kk) from by rw [Nat.mul_comm]] at cl
            rw [show N (kk * 2 + 1) = N (2 * kk + 1) from by rw [Nat.mul_comm]] at cm
            go_wp2_with fail
            clear c0 c1 c2 c3 c4 c5 f3 cl cm
            have K1 := Aside.mk (Blk.new w1 77 #[.int .i64 (N (2 * kk)), .int .i64 (N (2 * kk + 1))])
            replace H1 := Aside.mk (H1.out.alloc (.cells #[.int .i64 (N (2 * kk)), .int .i64 (N (2 * kk + 1))] 77))
            replace HB1 := Aside.mk (HB1.out.alloc (.cells #[.int .i64 (N (2 * kk)), .int .i64 (N (2 * kk + 1))] 77))
            have HW := Aside.mk (hown1.alloc (.cells #[.int .i64 (N (2 * kk)), .int .i64 (N (2 * kk + 1))] 77))
            clear hown1
            generalize w1.alloc (.cells #[.int .i64 (N (2 * kk)), .int .i64 (N (2 * kk + 1))] 77) = w2 at K1 H1 HB1 HW ⊢
            generalize w1.heap.size = gN at K1 z1 ⊢
            clear n1 n2 n3
            obtain ⟨c0, c1, c2, c3, c4, c5, f3⟩ := fin6 H1.out.1
            have p1 : (0 : Int) ≤ (i : Int) + (n : Int) := by omega
            have e1 : IntKind.i64.wrap ((i : Int) + (n : Int)) = (i : Int) + (n : Int) := IntWalk.i64_in _ (by omega)
            have e2 : IntKind.i64.wrap ((kk : Int) + (n : Int)) = (kk : Int) + (n : Int) := IntWalk.i64_in _ (by omega)
            have p2 : (0 : Int) ≤ (kk : Int) + (n : Int) := by omega
            by_cases c1n : i + n < s.size
            · have b1 : (i : Int) + (n : Int) < s.size := by omega
              have b2 : (kk : Int) + (n : Int) < s.size := by omega
              have q1 := run_idx (P := Try.prog) 9 s .i64 ((i : Int) + (n : Int)) (i + n) (by omega) c1n Try.underlying9
              have q2 := run_idx (P := Try.prog) 9 s .i64 ((kk : Int) + (n : Int)) (kk + n) (by omega) (by omega) Try.underlying9
              rw [byt_N] at q1 q2
              have HU2 := HU.out
              generalize bytN s (i + n) = y at q1 HU2
              generalize bytN s (kk + n) = x at q2 HU2
              by_cases cxy : y < x
              · have hxy : decide (y < x) = true := decide_eq_true cxy
                have hM2 := HM.out
                rw [if_pos (HU2.2 ⟨c1n, cxy⟩)] at hM2
                have HM2 := Aside.mk hM2
                clear HU2 hM2 cxy
                go_wp2_with fail
                go_quiet (fail)
                clear c0 c1 c2 c3 c4 c5 f3 p1 p2 e1 e2 b1 q1 q2 b2 hxy
                replace K1 := Aside.mk (K1.out.drewN nq)
                replace H1 := Aside.mk (H1.out.drewN nq)
                replace HB1 := Aside.mk (HB1.out.drewN nq)
                replace HW := Aside.mk (own_keep (w' := w2.drewN nq) HW.out (fun _ _ => rfl))
                generalize w2.drewN nq = w3 at K1 H1 HB1 HW ⊢
                go_wp2_with fail
                refine (hang_any w3 gF gM gL s win dep a_ q_ N ma (kk : Int) ms H1.out hma).mono ?_
                rintro e w4 ⟨rfl, rfl⟩
                replace H1 := Aside.mk (H1.out.link (side ma ms) (kk : Int))
                replace HB1 := Aside.mk (HB1.out.set_ (p := ⟨gL, side ma ms, none⟩) (.inl (.inr (.inr rfl))) (.int .i64 (kk : Int)))
                replace K1 := Aside.mk (K1.out.far (p := ⟨gL, side ma ms, none⟩) (by simp; omega) (.int .i64 (kk : Int)))
                replace HW := Aside.mk (own_keep (w' := w3.setCell ⟨gL, side ma ms, none⟩ (.int .i64 (kk : Int))) HW.out (fun g hg => Below.heap_setCell _ _ _ _ (by
                  have h1 := (HW.out.lt g hg).1
                  have h2 := hFL.out.2.2
                  show g ≠ gL
                  omega)))
                generalize w3.setCell ⟨gL, side ma ms, none⟩ (.int .i64 (kk : Int)) = w5 at K1 H1 HB1 HW ⊢
                have k0c := K1.out.cell 0
                have k1c := K1.out.cell 1
                go_wp2_with fail
                have hown := HW.out
                exact ⟨⟨t + 1, N (2 * kk), la, kk, p, ls, true, (os ++ [((p : Int), (i : Int) - kk)]), Find.setM N (side ma ms) kk, by omega, by go_num, rfl, by omega, rfl, rfl, rfl, rfl, rfl, ⟨by have := HA.out; omega⟩, ⟨Find.heap_set HH.out _ _ (by omega) (by rw [side_half]; have := HA.out; omega)⟩, ⟨by rw [side_true]; rw [List.append_assoc]; exact HM2.out⟩, hown, by rw [List.length_append]; exact Nat.succ_le_succ hlen, H1, HB1⟩, by simp [intOf]; omega⟩
              · have hxy : decide (y < x) = false := decide_eq_false cxy
                have hM2 := HM.out
                rw [if_neg (fun h => cxy (HU2.1 h).2)] at hM2
                have HM2 := Aside.mk hM2
                clear HU2 hM2 cxy
                go_wp2_with fail
                go_quiet (fail)
                clear c0 c1 c2 c3 c4 c5 f3 p1 p2 e1 e2 b1 q1 q2 b2 hxy
                replace K1 := Aside.mk (K1.out.drewN nq)
                replace H1 := Aside.mk (H1.out.drewN nq)
                replace HB1 := Aside.mk (HB1.out.drewN nq)
                replace HW := Aside.mk (own_keep (w' := w2.drewN nq) HW.out (fun _ _ => rfl))
                generalize w2.drewN nq = w3 at K1 H1 HB1 HW ⊢
                go_wp2_with fail
                refine (hang_any w3 gF gM gL s win dep a_ q_ N la (kk : Int) ls H1.out hla).mono ?_
                rintro e w4 ⟨rfl, rfl⟩
                replace H1 := Aside.mk (H1.out.link (side la ls) (kk : Int))
                replace HB1 := Aside.mk (HB1.out.set_ (p := ⟨gL, side la ls, none⟩) (.inl (.inr (.inr rfl))) (.int .i64 (kk : Int)))
                replace K1 := Aside.mk (K1.out.far (p := ⟨gL, side la ls, none⟩) (by simp; omega) (.int .i64 (kk : Int)))
                replace HW := Aside.mk (own_keep (w' := w3.setCell ⟨gL, side la ls, none⟩ (.int .i64 (kk : Int))) HW.out (fun g hg => Below.heap_setCell _ _ _ _ (by
                  have h1 := (HW.out.lt g hg).1
                  have h2 := hFL.out.2.2
                  show g ≠ gL
                  omega)))
                generalize w3.setCell ⟨gL, side la ls, none⟩ (.int .i64 (kk : Int)) = w5 at K1 H1 HB1 HW ⊢
                have k0c := K1.out.cell 0
                have k1c := K1.out.cell 1
                go_wp2_with fail
                have hown := HW.out
                exact ⟨⟨t + 1, N (2 * kk + 1), kk, ma, p, false, ms, (os ++ [((p : Int), (i : Int) - kk)]), Find.setM N (side la ls) kk, by omega, by go_num, rfl, by omega, rfl, rfl, rfl, rfl, rfl, ⟨by have := HA.out; omega⟩, ⟨Find.heap_set HH.out _ _ (by omega) (by rw [side_half]; have := HA.out; omega)⟩, ⟨by rw [side_false]; rw [List.append_assoc]; exact HM2.out⟩, hown, by rw [List.length_append]; exact Nat.succ_le_succ hlen, H1, HB1⟩, by simp [intOf]; omega⟩
            · have b1 : decide ((i : Int) + (n : Int) < s.size) = false := decide_eq_false (by omega)
              have hM2 := HM.out
              rw [if_neg (fun h => c1n (HU.out.1 h).1)] at hM2
              have HM2 := Aside.mk hM2
              clear hM2
              go_wp2_with fail
              go_quiet (fail)
              clear c0 c1 c2 c3 c4 c5 f3 p1 p2 e1 e2 b1 
              replace K1 := Aside.mk (K1.out.drewN nq)
              replace H1 := Aside.mk (H1.out.drewN nq)
              replace HB1 := Aside.mk (HB1.out.drewN nq)
              replace HW := Aside.mk (own_keep (w' := w2.drewN nq) HW.out (fun _ _ => rfl))
              generalize w2.drewN nq = w3 at K1 H1 HB1 HW ⊢
              go_wp2_with fail
              refine (hang_any w3 gF gM gL s win dep a_ q_ N la (kk : Int) ls H1.out hla).mono ?_
              rintro e w4 ⟨rfl, rfl⟩
              replace H1 := Aside.mk (H1.out.link (side la ls) (kk : Int))
              replace HB1 := Aside.mk (HB1.out.set_ (p := ⟨gL, side la ls, none⟩) (.inl (.inr (.inr rfl))) (.int .i64 (kk : Int)))
              replace K1 := Aside.mk (K1.out.far (p := ⟨gL, side la ls, none⟩) (by simp; omega) (.int .i64 (kk : Int)))
              replace HW := Aside.mk (own_keep (w' := w3.setCell ⟨gL, side la ls, none⟩ (.int .i64 (kk : Int))) HW.out (fun g hg => Below.heap_setCell _ _ _ _ (by
                have h1 := (HW.out.lt g hg).1
                have h2 := hFL.out.2.2
                show g ≠ gL
                omega)))
              generalize w3.setCell ⟨gL, side la ls, none⟩ (.int .i64 (kk : Int)) = w5 at K1 H1 HB1 HW ⊢
              have k0c := K1.out.cell 0
              have k1c := K1.out.cell 1
              go_wp2_with fail
              have hown := HW.out
              exact ⟨⟨t + 1, N (2 * kk + 1), kk, ma, p, false, ms, (os ++ [((p : Int), (i : Int) - kk)]), Find.setM N (side la ls) kk, by omega, by go_num, rfl, by omega, rfl, rfl, rfl, rfl, rfl, ⟨by have := HA.out; omega⟩, ⟨Find.heap_set HH.out _ _ (by omega) (by rw [side_half]; have := HA.out; omega)⟩, ⟨by rw [side_false]; rw [List.append_assoc]; exact HM2.out⟩, hown, by rw [List.length_append]; exact Nat.succ_le_succ hlen, H1, HB1⟩, by simp [intOf]; omega⟩
          · have hbi : (p : Int) ≤ b := by omega
            have hM := HM3.out
            simp only [if_neg hb] at hM
            have HM := Aside.mk hM
            clear hM HM3 hb
            have HB1 := Aside.mk (HB.out.drewN nd)
            have H1 := Aside.mk (H.out.drewN nd)
            have hown1 : (wr.drewN nd).ownsRow w.heap.size 64 2 _ os.length (cells2 os) := hown
            clear hown H HB
            generalize wr.drewN nd = w1 at H1 HB1 hown1 ⊢
            have z1 := H1.out.2.2.lt
            obtain ⟨n1, n2, n3⟩ := H1.out.gne
            obtain ⟨c0, c1, c2, c3, c4, c5, f3⟩ := fin6 H1.out.1
            have cl := (H1.out.2.2.cell (kk * 2)).trans (rowI_at N _ _ (by omega))
            have cm := (H1.out.2.2.cell (kk * 2 + 1)).trans (rowI_at N _ _ (by omega))
            rw [show N (kk * 2) = N (2 * kk) from by rw [Nat.mul_comm]] at cl
            rw [show N (kk * 2 + 1) = N (2 * kk + 1) from by rw [Nat.mul_comm]] at cm
            go_wp2_with fail
            clear c0 c1 c2 c3 c4 c5 f3 cl cm
            have K1 := Aside.mk (Blk.new w1 77 #[.int .i64 (N (2 * kk)), .int .i64 (N (2 * kk + 1))])
            replace H1 := Aside.mk (H1.out.alloc (.cells #[.int .i64 (N (2 * kk)), .int .i64 (N (2 * kk + 1))] 77))
            replace HB1 := Aside.mk (HB1.out.alloc (.cells #[.int .i64 (N (2 * kk)), .int .i64 (N (2 * kk + 1))] 77))
            have HW := Aside.mk (hown1.alloc (.cells #[.int .i64 (N (2 * kk)), .int .i64 (N (2 * kk + 1))] 77))
            clear hown1
            generalize w1.alloc (.cells #[.int .i64 (N (2 * kk)), .int .i64 (N (2 * kk + 1))] 77) = w2 at K1 H1 HB1 HW ⊢
            generalize w1.heap.size = gN at K1 z1 ⊢
            clear n1 n2 n3
            obtain ⟨c0, c1, c2, c3, c4, c5, f3⟩ := fin6 H1.out.1
            have p1 : (0 : Int) ≤ (i : Int) + (n : Int) := by omega
            have e1 : IntKind.i64.wrap ((i : Int) + (n : Int)) = (i : Int) + (n : Int) := IntWalk.i64_in _ (by omega)
            have e2 : IntKind.i64.wrap ((kk : Int) + (n : Int)) = (kk : Int) + (n : Int) := IntWalk.i64_in _ (by omega)
            have p2 : (0 : Int) ≤ (kk : Int) + (n : Int) := by omega
            by_cases c1n : i + n < s.size
            · have b1 : (i : Int) + (n : Int) < s.size := by omega
              have b2 : (kk : Int) + (n : Int) < s.size := by omega
              have q1 := run_idx (P := Try.prog) 9 s .i64 ((i : Int) + (n : Int)) (i + n) (by omega) c1n Try.underlying9
              have q2 := run_idx (P := Try.prog) 9 s .i64 ((kk : Int) + (n : Int)) (kk + n) (by omega) (by omega) Try.underlying9
              rw [byt_N] at q1 q2
              have HU2 := HU.out
              generalize bytN s (i + n) = y at q1 HU2
              generalize bytN s (kk + n) = x at q2 HU2
              by_cases cxy : y < x
              · have hxy : decide (y < x) = true := decide_eq_true cxy
                have hM2 := HM.out
                rw [if_pos (HU2.2 ⟨c1n, cxy⟩)] at hM2
                have HM2 := Aside.mk hM2
                clear HU2 hM2 cxy
                go_wp2_with fail
                go_quiet (fail)
                clear c0 c1 c2 c3 c4 c5 f3 p1 p2 e1 e2 b1 q1 q2 b2 hxy
                replace K1 := Aside.mk (K1.out.drewN nq)
                replace H1 := Aside.mk (H1.out.drewN nq)
                replace HB1 := Aside.mk (HB1.out.drewN nq)
                replace HW := Aside.mk (own_keep (w' := w2.drewN nq) HW.out (fun _ _ => rfl))
                generalize w2.drewN nq = w3 at K1 H1 HB1 HW ⊢
                go_wp2_with fail
                refine (hang_any w3 gF gM gL s win dep a_ q_ N ma (kk : Int) ms H1.out hma).mono ?_
                rintro e w4 ⟨rfl, rfl⟩
                replace H1 := Aside.mk (H1.out.link (side ma ms) (kk : Int))
                replace HB1 := Aside.mk (HB1.out.set_ (p := ⟨gL, side ma ms, none⟩) (.inl (.inr (.inr rfl))) (.int .i64 (kk : Int)))
                replace K1 := Aside.mk (K1.out.far (p := ⟨gL, side ma ms, none⟩) (by simp; omega) (.int .i64 (kk : Int)))
                replace HW := Aside.mk (own_keep (w' := w3.setCell ⟨gL, side ma ms, none⟩ (.int .i64 (kk : Int))) HW.out (fun g hg => Below.heap_setCell _ _ _ _ (by
                  have h1 := (HW.out.lt g hg).1
                  have h2 := hFL.out.2.2
                  show g ≠ gL
                  omega)))
                generalize w3.setCell ⟨gL, side ma ms, none⟩ (.int .i64 (kk : Int)) = w5 at K1 H1 HB1 HW ⊢
                have k0c := K1.out.cell 0
                have k1c := K1.out.cell 1
                go_wp2_with fail
                have hown := HW.out
                exact ⟨⟨t + 1, N (2 * kk), la, kk, b, ls, true, os, Find.setM N (side ma ms) kk, by omega, by go_num, rfl, by omega, rfl, rfl, rfl, rfl, rfl, ⟨by have := HA.out; omega⟩, ⟨Find.heap_set HH.out _ _ (by omega) (by rw [side_half]; have := HA.out; omega)⟩, ⟨by rw [side_true]; exact HM2.out⟩, hown, by omega, H1, HB1⟩, by simp [intOf]; omega⟩
              · have hxy : decide (y < x) = false := decide_eq_false cxy
                have hM2 := HM.out
                rw [if_neg (fun h => cxy (HU2.1 h).2)] at hM2
                have HM2 := Aside.mk hM2
                clear HU2 hM2 cxy
                go_wp2_with fail
                go_quiet (fail)
                clear c0 c1 c2 c3 c4 c5 f3 p1 p2 e1 e2 b1 q1 q2 b2 hxy
                replace K1 := Aside.mk (K1.out.drewN nq)
                replace H1 := Aside.mk (H1.out.drewN nq)
                replace HB1 := Aside.mk (HB1.out.drewN nq)
                replace HW := Aside.mk (own_keep (w' := w2.drewN nq) HW.out (fun _ _ => rfl))
                generalize w2.drewN nq = w3 at K1 H1 HB1 HW ⊢
                go_wp2_with fail
                refine (hang_any w3 gF gM gL s win dep a_ q_ N la (kk : Int) ls H1.out hla).mono ?_
                rintro e w4 ⟨rfl, rfl⟩
                replace H1 := Aside.mk (H1.out.link (side la ls) (kk : Int))
                replace HB1 := Aside.mk (HB1.out.set_ (p := ⟨gL, side la ls, none⟩) (.inl (.inr (.inr rfl))) (.int .i64 (kk : Int)))
                replace K1 := Aside.mk (K1.out.far (p := ⟨gL, side la ls, none⟩) (by simp; omega) (.int .i64 (kk : Int)))
                replace HW := Aside.mk (own_keep (w' := w3.setCell ⟨gL, side la ls, none⟩ (.int .i64 (kk : Int))) HW.out (fun g hg => Below.heap_setCell _ _ _ _ (by
                  have h1 := (HW.out.lt g hg).1
                  have h2 := hFL.out.2.2
                  show g ≠ gL
                  omega)))
                generalize w3.setCell ⟨gL, side la ls, none⟩ (.int .i64 (kk : Int)) = w5 at K1 H1 HB1 HW ⊢
                have k0c := K1.out.cell 0
                have k1c := K1.out.cell 1
                go_wp2_with fail
                have hown := HW.out
                exact ⟨⟨t + 1, N (2 * kk + 1), kk, ma, b, false, ms, os, Find.setM N (side la ls) kk, by omega, by go_num, rfl, by omega, rfl, rfl, rfl, rfl, rfl, ⟨by have := HA.out; omega⟩, ⟨Find.heap_set HH.out _ _ (by omega) (by rw [side_half]; have := HA.out; omega)⟩, ⟨by rw [side_false]; exact HM2.out⟩, hown, by omega, H1, HB1⟩, by simp [intOf]; omega⟩
            · have b1 : decide ((i : Int) + (n : Int) < s.size) = false := decide_eq_false (by omega)
              have hM2 := HM.out
              rw [if_neg (fun h => c1n (HU.out.1 h).1)] at hM2
              have HM2 := Aside.mk hM2
              clear hM2
              go_wp2_with fail
              go_quiet (fail)
              clear c0 c1 c2 c3 c4 c5 f3 p1 p2 e1 e2 b1 
              replace K1 := Aside.mk (K1.out.drewN nq)
              replace H1 := Aside.mk (H1.out.drewN nq)
              replace HB1 := Aside.mk (HB1.out.drewN nq)
              replace HW := Aside.mk (own_keep (w' := w2.drewN nq) HW.out (fun _ _ => rfl))
              generalize w2.drewN nq = w3 at K1 H1 HB1 HW ⊢
              go_wp2_with fail
              refine (hang_any w3 gF gM gL s win dep a_ q_ N la (kk : Int) ls H1.out hla).mono ?_
              rintro e w4 ⟨rfl, rfl⟩
              replace H1 := Aside.mk (H1.out.link (side la ls) (kk : Int))
              replace HB1 := Aside.mk (HB1.out.set_ (p := ⟨gL, side la ls, none⟩) (.inl (.inr (.inr rfl))) (.int .i64 (kk : Int)))
              replace K1 := Aside.mk (K1.out.far (p := ⟨gL, side la ls, none⟩) (by simp; omega) (.int .i64 (kk : Int)))
              replace HW := Aside.mk (own_keep (w' := w3.setCell ⟨gL, side la ls, none⟩ (.int .i64 (kk : Int))) HW.out (fun g hg => Below.heap_setCell _ _ _ _ (by
                have h1 := (HW.out.lt g hg).1
                have h2 := hFL.out.2.2
                show g ≠ gL
                omega)))
              generalize w3.setCell ⟨gL, side la ls, none⟩ (.int .i64 (kk : Int)) = w5 at K1 H1 HB1 HW ⊢
              have k0c := K1.out.cell 0
              have k1c := K1.out.cell 1
              go_wp2_with fail
              have hown := HW.out
              exact ⟨⟨t + 1, N (2 * kk + 1), kk, ma, b, false, ms, os, Find.setM N (side la ls) kk, by omega, by go_num, rfl, by omega, rfl, rfl, rfl, rfl, rfl, ⟨by have := HA.out; omega⟩, ⟨Find.heap_set HH.out _ _ (by omega) (by rw [side_half]; have := HA.out; omega)⟩, ⟨by rw [side_false]; exact HM2.out⟩, hown, by omega, H1, HB1⟩, by simp [intOf]; omega⟩
        · have ht3 : ¬ (t : Int) < dep := by omega
          have HE : Aside ((os, Find.setM (Find.setM N (side la ls) (-1)) (side ma ms) (-1)) = D) := ⟨by have := HM.out; rwa [show dep - t = 0 from by omega, Find.dsc_zero, List.append_nil] at this⟩
          clear HM
          have hO : ∀ g, _ = some g → w.heap.size ≤ g := fun g hg => (hown.lt g hg).1
          have HP := Aside.mk (pairsAt_own hown)
          have HS := Aside.mk (Nat.le_refl wr.heap.size)
          have HO := Aside.mk hO
          clear hown hO
          go_wp2_with fail
          clear c0 c1 c2 c3 c4 c5 f3
          refine (hang_any _ gF gM gL s win dep a_ q_ N la (-1) ls H.out hla).mono ?_
          rintro e w1 ⟨rfl, rfl⟩
          have H1 := Aside.mk (H.out.link (side la ls) (-1))
          have HB1 := Aside.mk (HB.out.set_ (p := ⟨gL, side la ls, none⟩) (.inl (.inr (.inr rfl))) (.int .i64 (-1)))
          clear H HB
          go_wp2_with fail
          refine (hang_any _ gF gM gL s win dep a_ q_ _ ma (-1) ms H1.out hma).mono ?_
          rintro e w2 ⟨rfl, rfl⟩
          have H2 := Aside.mk (H1.out.link (side ma ms) (-1))
          have HB2 := Aside.mk (HB1.out.set_ (p := ⟨gL, side ma ms, none⟩) (.inl (.inr (.inr rfl))) (.int .i64 (-1)))
          clear H1 HB1
          go_wp2_with fail
          go_ret
          refine ⟨_, rfl, ?_, HO.out, by rw [← HE.out]; exact H2.out, HB2.out⟩
          rw [← HE.out]
          refine HP.out.two (gL := gL) (fun e => ?_) _ _ _ _
          have h1 := HO.out gL e
          have h2 := hFL.out.2.2
          omega
end Go.Proofs.Ytjmenlffhoodeaa
