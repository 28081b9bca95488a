/- chain's Next in the midst of a text, walked. -/
import Derived.Test.YtjmenlffhoodeaaChain2
import Derived.StillTailTactics
namespace Go.Proofs.Ytjmenlffhoodeaa
open Go.RowKit

theorem zero3 : ∀ w, (zeroValue 3).run Try.prog w = .ok (.int .i64 0) w := by
  obtain ⟨i0, hi0, hz0, _⟩ := info_parts int_info
  intro w
  simp [zeroValue, typeInfo, hi0, hz0]
theorem ChainAt.alloc {w : World} {gF gM gL : Nat} {s : ByteArray} {win dep at_ q : Nat} (h : ChainAt w gF gM gL s win dep at_ q) (o : Obj) : ChainAt (w.alloc o) gF gM gL s win dep at_ q :=
  ⟨h.1.alloc o, h.2.1.of_heap (Below.heap_alloc _ _ _ h.2.1.lt), h.2.2.alloc o⟩
theorem ChainAt.drew {w : World} {gF gM gL : Nat} {s : ByteArray} {win dep at_ q : Nat} (h : ChainAt w gF gM gL s win dep at_ q) : ChainAt w.drew gF gM gL s win dep at_ q :=
  ⟨h.1.drew, h.2.1.of_heap rfl, h.2.2.drew⟩
theorem _root_.Go.World.grownBy.trans_drew {w w' : World} {r : Option Nat} (_h : w.grownBy w none) (k : w.drew.grownBy w' r) : w.grownBy w' r := ⟨k.os, k.tape, k.output, k.size, k.block⟩
theorem ChainAt.put {w w' : World} {gF gM gL : Nat} {s : ByteArray} {win dep at_ i x y : Nat} {K0 : Int} (h : ChainAt w gF gM gL s win dep at_ i) (hM : MapAt w' gM (i + 1) (fun p q => if p = x ∧ q = y then some i else Find.last (bytN s) p q i))
    (hg : w.grownBy w' (some gM)) (hx : bytN s i = x) (hy : bytN s (i + 1) = y) (hp : Find.prev (bytN s) i = K0) : ChainAt (w'.setCell ⟨gL, i, none⟩ (.int .i64 K0)) gF gM gL s win dep at_ (i + 1) := by
  obtain ⟨n1, n2, n3⟩ := h.gne
  have b1 : Blk w' gF 68 _ := (hg.block gF h.1.lt (by simpa using n1)).trans h.1
  have b3 : Blk w' gL 3 _ := (hg.block gL h.2.2.lt (by simpa using n3)).trans h.2.2
  refine ⟨b1.far (by simpa using n2) _, ?_, ?_⟩
  · have e : (fun x y => Find.last (bytN s) x y (i + 1)) = (fun p q => if p = x ∧ q = y then some i else Find.last (bytN s) p q i) := by
      funext p q
      show (if bytN s i = p ∧ bytN s (i + 1) = q then some i else Find.last (bytN s) p q i) = _
      rw [hx, hy]
      by_cases c : x = p ∧ y = q
      · rw [if_pos c, if_pos ⟨c.1.symm, c.2.symm⟩]
      · rw [if_neg c, if_neg (fun h => c ⟨h.1.symm, h.2.symm⟩)]
    rw [e]
    exact hM.of_heap (Below.heap_setCell _ _ _ _ (by simpa using fun e => n3 e.symm))
  · have := b3.set_ i (.int .i64 K0)
    rw [rowI_set] at this
    rw [rowI_congr _ (fun j => if j = i then K0 else if j < i then Find.prev (bytN s) j else 0) _ (fun j _ => by
      by_cases e : j = i
      · subst e; rw [if_pos rfl, if_pos (by omega), hp]
      · rw [if_neg e]
        by_cases c : j < i
        · rw [if_pos c, if_pos (by omega)]
        · rw [if_neg c, if_neg (by omega)])]
    exact this
theorem ChainAt.grown {w w' : World} {B : Nat} {gF gM gL : Nat} {s : ByteArray} {win dep at_ q : Nat} {row : Option Nat} (h : ChainAt w gF gM gL s win dep at_ q) (hg : w.grownBy w' row) (hr : ∀ g, row = some g → B ≤ g)
    (hB : gF < B ∧ gM < B ∧ gL < B) : ChainAt w' gF gM gL s win dep at_ q := by
  have hne : ∀ g, g < B → some g ≠ row := fun g hg e => by have := hr g e.symm; omega
  exact ⟨(hg.block gF h.1.lt (hne _ hB.1)).trans h.1, h.2.1.of_heap (hg.block gM h.2.1.lt (hne _ hB.2.1)), (hg.block gL h.2.2.lt (hne _ hB.2.2)).trans h.2.2⟩
set_option maxRecDepth 100000 in
set_option maxHeartbeats 4000000 in
theorem chainNext_mid (m : Nat) (w : World) (gF gM gL : Nat) (s : ByteArray) (win dep i : Nat) (h : ChainAt w gF gM gL s win dep i i) (hi : i + 1 < s.size) (hs : s.size ≤ 4000) (hm : 2 ≤ m) (hm2 : m ≤ 258) (hw : win ≤ 67108864) (hd : dep ≤ 65536) :
    Calls Try.prog 34 #[.pointer (some ⟨gF, 0, none⟩), .int .i64 (m : Int)] w fun e w' => ∃ v, e = .returned (.tuple #[v, .int .i64 (i : Int)]) ∧ PairsAt w' w'.heap.size v (Find.chainW (bytN s) s.size m win i dep (Find.prev (bytN s) i) 1) ∧
      (∀ g, v.ownBlock = some g → w.heap.size ≤ g) ∧ ChainAt w' gF gM gL s win dep (i + 1) (i + 1) ∧ But w w' (ofF gF gM gL) := by
  obtain ⟨c0, c1, c2, c3, c4, c5, f3⟩ := fin6 h.1
  have H := Aside.mk h
  obtain ⟨j0, hj0, hjz0, hjz1, hjz2⟩ := info_parts match_info
  have hFL := Aside.mk (And.intro h.1.lt (And.intro h.2.1.lt h.2.2.lt))
  have d1 : decide (s.size ≤ i) = false := decide_eq_false (by omega)
  have hb : (i : Int) + 1 < s.size := by omega
  have q0 := run_idx (P := Try.prog) 9 s .i64 (i : Int) i rfl (by omega) Try.underlying9
  have q1 := run_idx (P := Try.prog) 9 s .i64 ((i : Int) + 1) (i + 1) (by omega) (by omega) Try.underlying9
  rw [byt_N] at q0 q1
  have e1 : IntKind.i64.wrap ((i : Int) + 1) = (i : Int) + 1 := IntWalk.i64_in _ (by omega)
  have hmm : max 2 (min (m : Int) 258) = (m : Int) := by omega
  clear h
  go_enter Try.func34, Try.ntmps34
  go_wp2_with fail
  go_quiet (fail)
  go_wp2_with fail
  clear c0 c1 c2 c3 c4 c5 f3
  have HB := Aside.mk (((But.refl w (ofF gF gM gL)).drewN nq).set_ (p := ⟨gF, 3, none⟩) (.inl (.inl rfl)) (.int .i64 ((i : Int) + 1)))
  replace H := Aside.mk (H.out.drewN nq).bump
  generalize hW : (w.drewN nq).setCell ⟨gF, 3, none⟩ (.int .i64 ((i : Int) + 1)) = w2 at H HB ⊢
  clear hW
  obtain ⟨c0, c1, c2, c3, c4, c5, f3⟩ := fin6 H.out.1
  have zF := H.out.1.lt
  go_region
  have hx := bytN_lt s i
  have hy := bytN_lt s (i + 1)
  have HL : Aside ((Find.last (bytN s) (bytN s i) (bytN s (i + 1)) i = none ∧ Find.prev (bytN s) i = -1) ∨ ∃ k : Nat, Find.last (bytN s) (bytN s i) (bytN s (i + 1)) i = some k ∧ Find.prev (bytN s) i = k ∧ k < i) := ⟨by
    cases hl : Find.last (bytN s) (bytN s i) (bytN s (i + 1)) i with
    | none => exact .inl ⟨rfl, by unfold Find.prev; rw [hl]; rfl⟩
    | some k => exact .inr ⟨k, rfl, by unfold Find.prev; rw [hl]; rfl, Find.last_lt _ _ _ _ _ hl⟩⟩
  have hgK : w.heap.size ≤ w2.heap.size := HB.out.size
  have K1 := Aside.mk (Blk.new w2 69 #[.int .u8 ((bytN s i : Nat) : Int), .int .u8 ((bytN s (i + 1) : Nat) : Int)])
  replace HB := Aside.mk ((HB.out.alloc (.cells #[.int .u8 ((bytN s i : Nat) : Int), .int .u8 ((bytN s (i + 1) : Nat) : Int)] 69)).drew)
  replace H := Aside.mk (H.out.alloc (.cells #[.int .u8 ((bytN s i : Nat) : Int), .int .u8 ((bytN s (i + 1) : Nat) : Int)] 69)).drew
  clear c0 c1 c2 c3 c4 c5 f3 zF q0 q1
  generalize hx' : bytN s i = x at *
  generalize hy' : bytN s (i + 1) = y at *
  generalize hW : (w2.alloc (Obj.cells #[Value.int IntKind.u8 (x : Int), Value.int IntKind.u8 (y : Int)] 69)).drew = w3 at H HB ⊢
  replace K1 := Aside.mk (show Blk w3 w2.heap.size 69 #[.int .u8 (x : Int), .int .u8 (y : Int)] by rw [← hW]; exact K1.out)
  generalize w2.heap.size = gK at K1 hgK ⊢
  clear hW
  obtain ⟨c0, c1, c2, c3, c4, c5, f3⟩ := fin6 H.out.1
  have k0 := K1.out.cell 0
  have k1 := K1.out.cell 1
  have HXY := Aside.mk (And.intro hx' hy')
  clear hx' hy'
  rcases HL.out with ⟨hl, hp⟩ | ⟨k9, hl, hp, hk9⟩
  · have hq : ∀ n, (Instr.lookup 65 (.map (some gM)) (.agg #[.int .u8 (x : Int), .int .u8 (y : Int)]) true).run Try.prog (w3.drewN n) = .ok (.tuple #[.int .i64 0, .bool false]) (w3.drewN n) := fun n => by
      have := ((H.out.drewN n).2.1).lookup x y hx hy (zero3 _)
      rw [hl] at this
      exact this
    have HP := Aside.mk hp
    clear hl hp
    go_wp2_with fail
    go_quiet (fail)
    clear hq
    go_wp2_with fail
    replace HB := Aside.mk (HB.out.drewN nq)
    replace H := Aside.mk (H.out.drewN nq)
    replace K1 := Aside.mk (K1.out.drewN nq)
    clear c0 c1 c2 c3 c4 c5 f3 k0 k1
    generalize w3.drewN nq = w4 at H HB K1 ⊢
    obtain ⟨c0, c1, c2, c3, c4, c5, f3⟩ := fin6 H.out.1
    have k0 := K1.out.cell 0
    have k1 := K1.out.cell 1
    obtain ⟨w5, hput, hM, hgr⟩ := (H.out.drew.2.1).put (by unfold maxLen; omega) x y i hx hy (by omega)
    have hput2 : (Instr.mapUpdate 65 (.map (some gM)) (.agg #[.int .u8 (x : Int), .int .u8 (y : Int)]) (.int .i64 (i : Int))).run Try.prog w4.drew = .ok () w5 := hput
    clear hput
    have hg2 : w4.grownBy w5 (some gM) := (World.grownBy.refl w4 none).trans_drew hgr
    obtain ⟨n1, n2, n3⟩ := H.out.gne
    have b1 : Blk w5 gF 68 _ := (hg2.block gF H.out.1.lt (by simpa using n1)).trans H.out.1
    have b3 : Blk w5 gL 3 _ := (hg2.block gL H.out.2.2.lt (by simpa using n3)).trans H.out.2.2
    obtain ⟨_, _, x2, _, _, x5, _⟩ := fin6 b1
    have y5 := (b3.cell i).trans (rowI_at _ _ i (by omega))
    have z5 := b3.frozen i
    replace HB := Aside.mk ((HB.out.grown hg2 (fun g hg => .inl (by cases hg; exact .inr (.inl rfl)))).set_ (p := ⟨gL, i, none⟩) (.inl (.inr (.inr rfl))) (.int .i64 (-1)))
    replace H := Aside.mk (H.out.put hM hg2 HXY.out.1 HXY.out.2 HP.out)
    clear hM hgr hg2 b1 b3 n1 n3
    go_still_tail 6, (by kernel_rfl)
    go_wp2_with fail
    clear hput2 x2 x5 y5 z5 c0 c1 c2 c3 c4 c5 f3 k0 k1 n2 hmm e1 d1 hb K1
    generalize w5.setCell ⟨gL, i, none⟩ (.int .i64 (-1)) = w6 at H HB ⊢
    go_loopw [8, 10, 11, 12, 92] (fun kv v bv _ tv wr => ∃ (t : Nat) (k : Int) (b : Nat) (ms : List (Int × Int)), t ≤ dep ∧ tv = .int .i64 t ∧ kv = .int .i64 k ∧ (-1 ≤ k ∧ k < i) ∧ bv = .int .i64 b ∧
      Aside (ms ++ Find.chainW (bytN s) s.size m win i (dep - t) k b = Find.chainW (bytN s) s.size m win i dep (Find.prev (bytN s) i) 1) ∧
      wr.ownsRow w.heap.size 64 2 v ms.length (cells2 ms) ∧ ms.length ≤ t ∧ Aside (ChainAt wr gF gM gL s win dep (i + 1) (i + 1)) ∧ Aside (But w wr (ofF gF gM gL))) (fun _ _ _ _ tv _ => dep - (intOf tv).toNat)
    case atStart => exact ⟨0, _, _, [], by omega, rfl, rfl, by omega, rfl, ⟨by rw [HP.out]; rfl⟩, World.ownsRow_nil _ _ _ _, by simp, H, HB⟩
    case round =>
      clear H HB HP HXY HL
      obtain ⟨t, k, b, ms, ht, rfl, rfl, hkb, rfl, HM, hown, hlen, H, HB⟩ := hrel
      by_cases ht2 : t < dep
      · have htd : dep - t = (dep - (t + 1)) + 1 := by omega
        by_cases hk1 : k = -1
        · subst hk1
          have HE : Aside (ms = Find.chainW (bytN s) s.size m win i dep (Find.prev (bytN s) i) 1) := ⟨by have := HM.out; rwa [Find.chainW_none, List.append_nil] at this⟩
          clear HM
          have HP := Aside.mk (pairsAt_own hown)
          have HO : Aside (∀ g, _ = some g → w.heap.size ≤ g) := ⟨fun g hg => (hown.lt g hg).1⟩
          clear hown
          go_wp2_with fail
          go_ret2
          exact ⟨_, rfl, by rw [← HE.out]; exact HP.out, HO.out, H.out, HB.out⟩
        · obtain ⟨kk, rfl⟩ : ∃ kk : Nat, k = kk := ⟨k.toNat, by omega⟩
          have hkk : kk < i := by omega
          have hne : ((kk : Int) == -1) = false := beq_eq_false_iff_ne.2 hk1
          obtain ⟨c0, c1, c2, c3, c4, c5, f3⟩ := fin6 H.out.1
          clear hk1
          by_cases hwin : win < i - kk
          · have hwi : (win : Int) < (i : Int) - kk := by omega
            have HE : Aside (ms = Find.chainW (bytN s) s.size m win i dep (Find.prev (bytN s) i) 1) := ⟨by
              have := HM.out
              rw [htd] at this
              rw [Find.chainW_succ] at this
              rwa [if_pos (.inr hwi), List.append_nil] at this⟩
            clear HM hwin
            have HP := Aside.mk (pairsAt_own hown)
            have HO : Aside (∀ g, _ = some g → w.heap.size ≤ g) := ⟨fun g hg => (hown.lt g hg).1⟩
            clear hown
            go_wp2_with fail
            go_ret2
            exact ⟨_, rfl, by rw [← HE.out]; exact HP.out, HO.out, H.out, HB.out⟩
          · have hwi : ¬ (win : Int) < (i : Int) - kk := by omega
            have hM2 := HM.out
            rw [htd] at hM2
            rw [Find.chainW_succ] at hM2
            rw [if_neg (by omega), Int.toNat_natCast] at hM2
            have cL := (H.out.2.2.cell kk).trans (rowI_at _ _ kk (by omega))
            rw [if_pos (show kk < i + 1 by omega)] at cL
            have pb := Find.prev_bd (bytN s) kk
            have hsh := fun wq (hc : World.cell? wq ⟨gF, 0, none⟩ = some (.string s)) => shared_any s gF i kk m wq (by omega) (by omega) hkk (by omega) hc
            generalize hpk : Find.prev (bytN s) kk = pk at cL pb hM2
            have HPK := Aside.mk hpk
            clear hpk
            generalize min (Find.lcp (bytN s) s.size i kk) m = n at hM2 hsh
            have zF := H.out.1.lt
            have zL := H.out.2.2.lt
            obtain ⟨n1, n2, n3⟩ := H.out.gne
            clear HM hwin htd
            go_wp2_with fail
            refine (hsh _ c0).mono ?_
            rintro e w' ⟨rfl, nd, rfl⟩
            have hnM := Aside.mk hM2
            clear hM2 hsh
            by_cases hb : b < n
            · have hbi : (b : Int) < n := by omega
              have HE : Aside ((ms ++ [((n : Int), (i : Int) - kk)]) ++ Find.chainW (bytN s) s.size m win i (dep - (t + 1)) pk n = Find.chainW (bytN s) s.size m win i dep (Find.prev (bytN s) i) 1) := ⟨by
                have := hnM.out
                rw [if_pos hb] at this
                rw [List.append_assoc]
                exact this⟩
              clear hnM hb
              go_wp2_with (at_builtin; refine wpList_append_own _ rfl _ _ 41 rfl w.heap.size 64 j0 (.agg #[.int .i64 0, .int .i64 0]) 2 16 Try.underlying41 hj0 hjz0 hjz1 hjz2 rfl (by decide) _ _ _ rfl (hown.alloc _) ⟨wr.heap.size, 0, none⟩ 1 1 [.int .i64 (n : Int), .int .i64 ((i : Int) - kk)] rfl rfl ?c1 ?c2 ?c3 ?c4 ?c5 ?_)
              case c1 => exact cell_two_new _ _ _ _
              case c2 => simp [Value.oneCell']
              case c3 => unfold maxLen; omega
              case c4 => omega
              case c5 => have := HB.out.size; simp; omega
              intro v' w1 hown' hgrow _
              have hgA : ∀ g, _ = some g → w.heap.size ≤ g := fun g hg => (hown.lt g hg).1
              have HB1 := Aside.mk (((HB.out.drewN nd).alloc _).grown hgrow (fun g hg => .inr (hgA g hg)))
              have H1 := Aside.mk (((H.out.drewN nd).alloc _).grown hgrow (fun g hg => hgA g hg) hFL.out)
              clear hgrow hown c0 c1 c2 c3 c4 c5 f3 cL
              obtain ⟨c0, c1, c2, c3, c4, c5, f3⟩ := fin6 H1.out.1
              have cL := (H1.out.2.2.cell kk).trans (rowI_at _ _ kk (by omega))
              rw [if_pos (show kk < i + 1 by omega), HPK.out] at cL
              go_wp2_with fail
              exact ⟨⟨t + 1, pk, n, ms ++ [((n : Int), (i : Int) - kk)], by omega, by go_num, rfl, by omega, rfl, HE, own_snoc2 hown', by rw [List.length_append]; exact Nat.succ_le_succ hlen, H1, HB1⟩, by simp [intOf]; omega⟩
            · have hbi : (n : Int) ≤ b := by omega
              have HE : Aside (ms ++ Find.chainW (bytN s) s.size m win i (dep - (t + 1)) pk b = Find.chainW (bytN s) s.size m win i dep (Find.prev (bytN s) i) 1) := ⟨by
                have := hnM.out
                rwa [if_neg hb] at this⟩
              clear hnM hb
              go_wp2_with fail
              exact ⟨⟨t + 1, pk, b, ms, by omega, by go_num, rfl, by omega, rfl, HE, hown, by omega, ⟨H.out.drewN nd⟩, ⟨HB.out.drewN nd⟩⟩, by simp [intOf]; omega⟩
      · obtain rfl : t = dep := by omega
        have HE : Aside (ms = Find.chainW (bytN s) s.size m win i t (Find.prev (bytN s) i) 1) := ⟨by
          have := HM.out
          rw [Nat.sub_self] at this
          rwa [show Find.chainW (bytN s) s.size m win i 0 k b = [] from rfl, List.append_nil] at this⟩
        clear HM
        have HP := Aside.mk (pairsAt_own hown)
        have HO : Aside (∀ g, _ = some g → w.heap.size ≤ g) := ⟨fun g hg => (hown.lt g hg).1⟩
        clear hown
        go_wp2_with fail
        go_ret2
        exact ⟨_, rfl, by rw [← HE.out]; exact HP.out, HO.out, H.out, HB.out⟩
  · have hq : ∀ n, (Instr.lookup 65 (.map (some gM)) (.agg #[.int .u8 (x : Int), .int .u8 (y : Int)]) true).run Try.prog (w3.drewN n) = .ok (.tuple #[.int .i64 (k9 : Int), .bool true]) (w3.drewN n) := fun n => by
      have := ((H.out.drewN n).2.1).lookup x y hx hy (zero3 _)
      rw [hl] at this
      exact this
    have HP := Aside.mk hp
    clear hl hp
    go_wp2_with fail
    go_quiet (fail)
    clear hq
    go_wp2_with fail
    replace HB := Aside.mk (HB.out.drewN nq)
    replace H := Aside.mk (H.out.drewN nq)
    replace K1 := Aside.mk (K1.out.drewN nq)
    clear c0 c1 c2 c3 c4 c5 f3 k0 k1
    generalize w3.drewN nq = w4 at H HB K1 ⊢
    obtain ⟨c0, c1, c2, c3, c4, c5, f3⟩ := fin6 H.out.1
    have k0 := K1.out.cell 0
    have k1 := K1.out.cell 1
    obtain ⟨w5, hput, hM, hgr⟩ := (H.out.drew.2.1).put (by unfold maxLen; omega) x y i hx hy (by omega)
    have hput2 : (Instr.mapUpdate 65 (.map (some gM)) (.agg #[.int .u8 (x : Int), .int .u8 (y : Int)]) (.int .i64 (i : Int))).run Try.prog w4.drew = .ok () w5 := hput
    clear hput
    have hg2 : w4.grownBy w5 (some gM) := (World.grownBy.refl w4 none).trans_drew hgr
    obtain ⟨n1, n2, n3⟩ := H.out.gne
    have b1 : Blk w5 gF 68 _ := (hg2.block gF H.out.1.lt (by simpa using n1)).trans H.out.1
    have b3 : Blk w5 gL 3 _ := (hg2.block gL H.out.2.2.lt (by simpa using n3)).trans H.out.2.2
    obtain ⟨_, _, x2, _, _, x5, _⟩ := fin6 b1
    have y5 := (b3.cell i).trans (rowI_at _ _ i (by omega))
    have z5 := b3.frozen i
    replace HB := Aside.mk ((HB.out.grown hg2 (fun g hg => .inl (by cases hg; exact .inr (.inl rfl)))).set_ (p := ⟨gL, i, none⟩) (.inl (.inr (.inr rfl))) (.int .i64 (k9 : Int)))
    replace H := Aside.mk (H.out.put hM hg2 HXY.out.1 HXY.out.2 HP.out)
    clear hM hgr hg2 b1 b3 n1 n3
    go_still_tail 6, (by kernel_rfl)
    go_wp2_with fail
    clear hput2 x2 x5 y5 z5 c0 c1 c2 c3 c4 c5 f3 k0 k1 n2 hmm e1 d1 hb K1
    generalize w5.setCell ⟨gL, i, none⟩ (.int .i64 (k9 : Int)) = w6 at H HB ⊢
    go_loopw [8, 10, 11, 12, 92] (fun kv v bv _ tv wr => ∃ (t : Nat) (k : Int) (b : Nat) (ms : List (Int × Int)), t ≤ dep ∧ tv = .int .i64 t ∧ kv = .int .i64 k ∧ (-1 ≤ k ∧ k < i) ∧ bv = .int .i64 b ∧
      Aside (ms ++ Find.chainW (bytN s) s.size m win i (dep - t) k b = Find.chainW (bytN s) s.size m win i dep (Find.prev (bytN s) i) 1) ∧
      wr.ownsRow w.heap.size 64 2 v ms.length (cells2 ms) ∧ ms.length ≤ t ∧ Aside (ChainAt wr gF gM gL s win dep (i + 1) (i + 1)) ∧ Aside (But w wr (ofF gF gM gL))) (fun _ _ _ _ tv _ => dep - (intOf tv).toNat)
    case atStart => exact ⟨0, _, _, [], by omega, rfl, rfl, by omega, rfl, ⟨by rw [HP.out]; rfl⟩, World.ownsRow_nil _ _ _ _, by simp, H, HB⟩
    case round =>
      clear H HB HP HXY HL
      obtain ⟨t, k, b, ms, ht, rfl, rfl, hkb, rfl, HM, hown, hlen, H, HB⟩ := hrel
      by_cases ht2 : t < dep
      · have htd : dep - t = (dep - (t + 1)) + 1 := by omega
        by_cases hk1 : k = -1
        · subst hk1
          have HE : Aside (ms = Find.chainW (bytN s) s.size m win i dep (Find.prev (bytN s) i) 1) := ⟨by have := HM.out; rwa [Find.chainW_none, List.append_nil] at this⟩
          clear HM
          have HP := Aside.mk (pairsAt_own hown)
          have HO : Aside (∀ g, _ = some g → w.heap.size ≤ g) := ⟨fun g hg => (hown.lt g hg).1⟩
          clear hown
          go_wp2_with fail
          go_ret2
          exact ⟨_, rfl, by rw [← HE.out]; exact HP.out, HO.out, H.out, HB.out⟩
        · obtain ⟨kk, rfl⟩ : ∃ kk : Nat, k = kk := ⟨k.toNat, by omega⟩
          have hkk : kk < i := by omega
          have hne : ((kk : Int) == -1) = false := beq_eq_false_iff_ne.2 hk1
          obtain ⟨c0, c1, c2, c3, c4, c5, f3⟩ := fin6 H.out.1
          clear hk1
          by_cases hwin : win < i - kk
          · have hwi : (win : Int) < (i : Int) - kk := by omega
            have HE : Aside (ms = Find.chainW (bytN s) s.size m win i dep (Find.prev (bytN s) i) 1) := ⟨by
              have := HM.out
              rw [htd] at this
              rw [Find.chainW_succ] at this
              rwa [if_pos (.inr hwi), List.append_nil] at this⟩
            clear HM hwin
            have HP := Aside.mk (pairsAt_own hown)
            have HO : Aside (∀ g, _ = some g → w.heap.size ≤ g) := ⟨fun g hg => (hown.lt g hg).1⟩
            clear hown
            go_wp2_with fail
            go_ret2
            exact ⟨_, rfl, by rw [← HE.out]; exact HP.out, HO.out, H.out, HB.out⟩
          · have hwi : ¬ (win : Int) < (i : Int) - kk := by omega
            have hM2 := HM.out
            rw [htd] at hM2
            rw [Find.chainW_succ] at hM2
            rw [if_neg (by omega), Int.toNat_natCast] at hM2
            have cL := (H.out.2.2.cell kk).trans (rowI_at _ _ kk (by omega))
            rw [if_pos (show kk < i + 1 by omega)] at cL
            have pb := Find.prev_bd (bytN s) kk
            have hsh := fun wq (hc : World.cell? wq ⟨gF, 0, none⟩ = some (.string s)) => shared_any s gF i kk m wq (by omega) (by omega) hkk (by omega) hc
            generalize hpk : Find.prev (bytN s) kk = pk at cL pb hM2
            have HPK := Aside.mk hpk
            clear hpk
            generalize min (Find.lcp (bytN s) s.size i kk) m = n at hM2 hsh
            have zF := H.out.1.lt
            have zL := H.out.2.2.lt
            obtain ⟨n1, n2, n3⟩ := H.out.gne
            clear HM hwin htd
            go_wp2_with fail
            refine (hsh _ c0).mono ?_
            rintro e w' ⟨rfl, nd, rfl⟩
            have hnM := Aside.mk hM2
            clear hM2 hsh
            by_cases hb : b < n
            · have hbi : (b : Int) < n := by omega
              have HE : Aside ((ms ++ [((n : Int), (i : Int) - kk)]) ++ Find.chainW (bytN s) s.size m win i (dep - (t + 1)) pk n = Find.chainW (bytN s) s.size m win i dep (Find.prev (bytN s) i) 1) := ⟨by
                have := hnM.out
                rw [if_pos hb] at this
                rw [List.append_assoc]
                exact this⟩
              clear hnM hb
              go_wp2_with (at_builtin; refine wpList_append_own _ rfl _ _ 41 rfl w.heap.size 64 j0 (.agg #[.int .i64 0, .int .i64 0]) 2 16 Try.underlying41 hj0 hjz0 hjz1 hjz2 rfl (by decide) _ _ _ rfl (hown.alloc _) ⟨wr.heap.size, 0, none⟩ 1 1 [.int .i64 (n : Int), .int .i64 ((i : Int) - kk)] rfl rfl ?c1 ?c2 ?c3 ?c4 ?c5 ?_)
              case c1 => exact cell_two_new _ _ _ _
              case c2 => simp [Value.oneCell']
              case c3 => unfold maxLen; omega
              case c4 => omega
              case c5 => have := HB.out.size; simp; omega
              intro v' w1 hown' hgrow _
              have hgA : ∀ g, _ = some g → w.heap.size ≤ g := fun g hg => (hown.lt g hg).1
              have HB1 := Aside.mk (((HB.out.drewN nd).alloc _).grown hgrow (fun g hg => .inr (hgA g hg)))
              have H1 := Aside.mk (((H.out.drewN nd).alloc _).grown hgrow (fun g hg => hgA g hg) hFL.out)
              clear hgrow hown c0 c1 c2 c3 c4 c5 f3 cL
              obtain ⟨c0, c1, c2, c3, c4, c5, f3⟩ := fin6 H1.out.1
              have cL := (H1.out.2.2.cell kk).trans (rowI_at _ _ kk (by omega))
              rw [if_pos (show kk < i + 1 by omega), HPK.out] at cL
              go_wp2_with fail
              exact ⟨⟨t + 1, pk, n, ms ++ [((n : Int), (i : Int) - kk)], by omega, by go_num, rfl, by omega, rfl, HE, own_snoc2 hown', by rw [List.length_append]; exact Nat.succ_le_succ hlen, H1, HB1⟩, by simp [intOf]; omega⟩
            · have hbi : (n : Int) ≤ b := by omega
              have HE : Aside (ms ++ Find.chainW (bytN s) s.size m win i (dep - (t + 1)) pk b = Find.chainW (bytN s) s.size m win i dep (Find.prev (bytN s) i) 1) := ⟨by
                have := hnM.out
                rwa [if_neg hb] at this⟩
              clear hnM hb
              go_wp2_with fail
              exact ⟨⟨t + 1, pk, b, ms, by omega, by go_num, rfl, by omega, rfl, HE, hown, by omega, ⟨H.out.drewN nd⟩, ⟨HB.out.drewN nd⟩⟩, by simp [intOf]; omega⟩
      · obtain rfl : t = dep := by omega
        have HE : Aside (ms = Find.chainW (bytN s) s.size m win i t (Find.prev (bytN s) i) 1) := ⟨by
          have := HM.out
          rw [Nat.sub_self] at this
          rwa [show Find.chainW (bytN s) s.size m win i 0 k b = [] from rfl, List.append_nil] at this⟩
        clear HM
        have HP := Aside.mk (pairsAt_own hown)
        have HO : Aside (∀ g, _ = some g → w.heap.size ≤ g) := ⟨fun g hg => (hown.lt g hg).1⟩
        clear hown
        go_wp2_with fail
        go_ret2
        exact ⟨_, rfl, by rw [← HE.out]; exact HP.out, HO.out, H.out, HB.out⟩
end Go.Proofs.Ytjmenlffhoodeaa
