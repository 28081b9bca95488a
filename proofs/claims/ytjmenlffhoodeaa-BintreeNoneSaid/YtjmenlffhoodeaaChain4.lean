/- chain's laws, walked. -/
import Derived.Test.YtjmenlffhoodeaaChain3
namespace Go.Proofs.Ytjmenlffhoodeaa
open Go.RowKit

def aaaa : ByteArray := ⟨#[97, 97, 97, 97]⟩
theorem PairsAt.len0 {w : World} {B : Nat} {v : Value} (h : PairsAt w B v []) : ∃ A c, v = .slice A 0 c := by
  obtain ⟨A, c, rfl, _⟩ := h.form
  exact ⟨A, c, rfl⟩
theorem pairs_lit (w : World) (t : TypeId) (a b : Int) : PairsAt (w.alloc (.cells #[.int .i64 a, .int .i64 b] t)) (w.heap.size + 1) (.slice (some ⟨w.heap.size, 0, none⟩) 1 1) [(a, b)] := by
  refine .inr ⟨w.heap.size, 1, rfl, by omega, Nat.le_refl _, by simp [maxLen], fun i hi => ?_⟩
  have : i = 0 := by simpa using hi
  subst this
  exact ⟨(Blk.new w t #[.int .i64 a, .int .i64 b]).cell 0, (Blk.new w t #[.int .i64 a, .int .i64 b]).cell 1⟩
theorem chain_aaaa0 : Find.chainW (bytN aaaa) aaaa.size 9 (winN 9) 0 9 (Find.prev (bytN aaaa) 0) 1 = [] := by decide +kernel
theorem chain_aaaa1 : Find.chainW (bytN aaaa) aaaa.size 9 (winN 9) 1 9 (Find.prev (bytN aaaa) 1) 1 = [(3, 1)] := by decide +kernel

set_option maxRecDepth 100000 in
set_option maxHeartbeats 4000000 in
theorem awake41 (w : World) : Calls Try.prog 32 #[] w fun e w' => e = .returned (.bool true) ∧ Below w.heap.size w w' := by
  go_enter Try.func32, Try.ntmps32
  go_wp2_with fail
  refine (chainNew_any aaaa 9 9 _ (by decide) (by decide) (by decide)).mono ?_
  rintro e w1 ⟨gF, gM, gL, rfl, H, hb, z1, z2, z3⟩
  replace H := Aside.mk H
  have HB := Aside.mk hb
  have HZ := Aside.mk (And.intro z1 (And.intro z2 z3))
  clear hb z1 z2 z3
  go_wp2_with fail
  refine (chainNext_mid 9 _ gF gM gL aaaa (winN 9) 9 0 H.out (by decide) (by decide) (by decide) (by decide) (by decide) (by decide)).mono ?_
  rintro e w2 ⟨va, rfl, hpa, _, h2, k2⟩
  rw [chain_aaaa0] at hpa
  obtain ⟨A1, ca, rfl⟩ := hpa.len0
  replace H := Aside.mk h2
  have HK := Aside.mk k2
  clear hpa h2 k2
  go_wp2_with fail
  refine (chainNext_mid 9 _ gF gM gL aaaa (winN 9) 9 1 H.out (by decide) (by decide) (by decide) (by decide) (by decide) (by decide)).mono ?_
  rintro e w3 ⟨vb, rfl, hpb, hbl, h3, k3⟩
  rw [chain_aaaa1] at hpb
  have hnS : ∀ g, vb.ownBlock = some g → ¬ ofF gF gM gL g := fun g hg hS => by
    have h1 := hbl g hg
    have h2 := H.out.1.lt
    have h3 := H.out.2.1.lt
    have h4 := H.out.2.2.lt
    rcases hS with rfl | rfl | rfl <;> omega
  have HP := Aside.mk hpb
  have HN := Aside.mk hnS
  replace H := Aside.mk h3
  replace HK := Aside.mk (HK.out.trans k3)
  clear hpb hbl hnS h3 k3
  go_wp2_with fail
  refine (chainNext_mid 9 _ gF gM gL aaaa (winN 9) 9 2 H.out (by decide) (by decide) (by decide) (by decide) (by decide) (by decide)).mono ?_
  rintro e w4 ⟨vx, rfl, _, _, h4, k4⟩
  replace HP := Aside.mk (HP.out.but (Nat.le_refl _) k4 HN.out)
  have HS := Aside.mk k4.size
  replace H := Aside.mk h4
  replace HK := Aside.mk (HK.out.trans k4)
  clear h4 k4
  go_wp2_with fail
  refine (chainNext_last 9 _ gF gM gL aaaa (winN 9) 9 3 3 H.out (by decide) (by decide)).mono ?_
  rintro e w5 ⟨rfl, h5, k5⟩
  replace HP := Aside.mk (HP.out.but HS.out k5 HN.out)
  replace HS := Aside.mk (Nat.le_trans HS.out k5.size)
  replace H := Aside.mk h5
  replace HK := Aside.mk (HK.out.trans k5)
  clear h5 k5
  go_wp2_with fail
  refine (chainNext_end 9 _ gF gM gL aaaa (winN 9) 9 4 3 H.out (by decide) (by decide)).mono ?_
  rintro e w6 ⟨rfl, nd, rfl⟩
  go_wp2_with fail
  have hpl := pairs_lit (w5.drewN nd) 64 3 1
  have hpv : PairsAt ((w5.drewN nd).alloc (.cells #[.int .i64 3, .int .i64 1] 64)) ((w5.drewN nd).heap.size + 1) vb [(3, 1)] := by
    have h1 := HP.out.up (B' := w5.heap.size) HS.out
    have h2 : PairsAt ((w5.drewN nd).alloc (.cells #[.int .i64 3, .int .i64 1] 64)) w5.heap.size vb [(3, 1)] := h1.keep (bl_alloc (bl_drewN (Below.refl w5.heap.size w5) nd) _)
    exact h2.up (Nat.le_succ _)
  refine (same_any [(3, 1)] [(3, 1)] vb _ _ _ hpv hpl).mono ?_
  rintro e w7 ⟨rfl, n7, rfl⟩
  replace H := Aside.mk (((H.out.drewN nd).alloc (.cells #[.int .i64 3, .int .i64 1] 64)).drewN n7)
  replace HK := Aside.mk (((HK.out.drewN nd).alloc (.cells #[.int .i64 3, .int .i64 1] 64)).drewN n7)
  clear hpl hpv
  go_wp2_with fail
  refine (chainAt_any _ gF gM gL aaaa (winN 9) 9 4 3 H.out).mono ?_
  rintro e w8 ⟨rfl, rfl⟩
  go_wp2_with fail
  go_ret
  refine ⟨rfl, HK.out.below (fun i hi => ?_) HB.out⟩
  have h1 := HZ.out
  rcases hi with rfl | rfl | rfl
  · exact h1.1
  · exact h1.2.1
  · exact h1.2.2
set_option maxRecDepth 100000 in
set_option maxHeartbeats 4000000 in
theorem chainNone_walk (m : Int) (w : World) : Calls Try.prog 12 #[.int .i64 m] w fun e w' => e = .returned (.bool true) ∧ Below w.heap.size w w' := by
  go_enter Try.func12, Try.ntmps12
  go_wp2_with fail
  refine (chainNext_nil m _).mono ?_
  rintro e w1 ⟨rfl, n1, rfl⟩
  go_wp2_with fail
  refine (chainAt_nil _).mono ?_
  rintro e w2 ⟨rfl, rfl⟩
  go_wp2_with fail
  refine (awake41 _).mono ?_
  rintro e w3 ⟨rfl, hb⟩
  go_wp2_with fail
  go_ret
  exact ⟨rfl, bl_step (bl_drewN (Below.refl _ _) n1) hb⟩
theorem ChainAt.below {w w' : World} {gF gM gL : Nat} {s : ByteArray} {win dep at_ q : Nat} (h : ChainAt w gF gM gL s win dep at_ q) (hb : Below w.heap.size w w') : ChainAt w' gF gM gL s win dep at_ q :=
  ⟨h.1.below hb h.1.lt, h.2.1.of_heap (hb.block _ h.2.1.lt), h.2.2.below hb h.2.2.lt⟩
/-- Next, wherever it stands: the nearest sources. -/
theorem chainNext_near (w : World) (gF gM gL : Nat) (s : ByteArray) (win i : Nat) (h : ChainAt w gF gM gL s win (s.size + 1) i i) (hi : i < s.size) (hs : s.size ≤ 4000) (hw : win ≤ 67108864) :
    Calls Try.prog 34 #[.pointer (some ⟨gF, 0, none⟩), .int .i64 258] w fun e w' => ∃ v, e = .returned (.tuple #[v, .int .i64 (i : Int)]) ∧ PairsAt w' w'.heap.size v (Find.near (bytN s) s.size i win 258) ∧
      (i + 1 < s.size → ChainAt w' gF gM gL s win (s.size + 1) (i + 1) (i + 1)) ∧ But w w' (ofF gF gM gL) := by
  by_cases c : i + 1 < s.size
  · refine (chainNext_mid 258 w gF gM gL s win (s.size + 1) i h c hs (by omega) (by omega) hw (by omega)).mono ?_
    rintro e w' ⟨v, h1, h2, _, h3, h4⟩
    rw [Find.chain_near _ _ _ _ _ _ (by omega)] at h2
    exact ⟨v, h1, h2, fun _ => h3, h4⟩
  · refine (chainNext_last 258 w gF gM gL s win (s.size + 1) i i h (by omega) (by omega)).mono ?_
    rintro e w' ⟨h1, _, h3⟩
    refine ⟨_, h1, .inl ⟨rfl, Find.near_end _ _ _ _ _ (by omega)⟩, fun h => absurd h c, h3⟩
set_option maxRecDepth 100000 in
set_option maxHeartbeats 4000000 in
theorem chainAll_walk (s : ByteArray) (a : Int) (w : World) (_hs : s.size ≤ 140737488351232) (_ha : (Lit.int .i64 a).wf = true) : Calls Try.prog 11 #[.string s, .int .i64 a] w fun e w' => e = .returned (.bool true) ∧ Below w.heap.size w w' := by
  by_cases hbig : (150 : Int) < s.size
  · go_enter Try.func11, Try.ntmps11
    go_wp2_with fail
    refine (awake41 _).mono ?_
    rintro e w1 ⟨rfl, hb⟩
    go_wp2_with fail
    go_ret
    exact ⟨rfl, hb⟩
  · have hs : s.size ≤ 150 := by omega
    have h1 : max 1 (min a 67108864) = ((winN a : Nat) : Int) := by unfold winN; omega
    have hwb := Aside.mk (winN_bd a)
    have hN : (s.size : Int) + 1 = ((s.size + 1 : Nat) : Int) := by omega
    have cN := fun w => chainNew_any s a (s.size + 1) w (by omega) (by omega) (by omega)
    rw [← hN] at cN
    clear hN
    go_enter Try.func11, Try.ntmps11
    go_wp2_with fail
    refine (cN _).mono ?_
    rintro e w1 ⟨gF, gM, gL, rfl, H, hb, z1, z2, z3⟩
    replace H := Aside.mk H
    have HB := Aside.mk hb
    have HZ := Aside.mk (And.intro z1 (And.intro z2 z3))
    clear hb z1 z2 z3 cN
    generalize winN a = win at h1 hwb H ⊢
    go_wp2_with fail
    clear h1
    go_loopw [7, 8, 9] (fun q _ _ wr => ∃ i : Nat, i ≤ s.size ∧ q = .int .i64 i ∧ Aside (i < s.size → ChainAt wr gF gM gL s win (s.size + 1) i i) ∧ Aside (Below w.heap.size w wr)) (fun q _ _ _ => s.size - (intOf q).toNat)
    case atStart => exact ⟨0, by omega, rfl, ⟨fun _ => H.out⟩, HB⟩
    case round =>
      clear H HB
      obtain ⟨i, hi, rfl, H, HB⟩ := hrel
      by_cases hlt : i < s.size
      · go_wp2_with fail
        refine (chainNext_near _ gF gM gL s win i (H.out hlt) hlt (by omega) hwb.out.2).mono ?_
        rintro e w2 ⟨v, rfl, hp, h3, k3⟩
        replace H := Aside.mk h3
        replace HB := Aside.mk (k3.below (fun j hj => by
          have h1 := HZ.out
          rcases hj with rfl | rfl | rfl
          · exact h1.1
          · exact h1.2.1
          · exact h1.2.2) HB.out)
        have HP := Aside.mk hp
        clear hp h3 k3
        go_wp2_with fail
        refine (refAt_any s i win 258 _ (by omega) hlt hwb.out.1 hwb.out.2 (by omega) (by omega)).mono ?_
        rintro e w3 ⟨v2, rfl, hp2, hb2⟩
        have hp1 := (HP.out.keep hb2).up hb2.size
        have H2 : Aside (i + 1 < s.size → ChainAt w3 gF gM gL s win (s.size + 1) (i + 1) (i + 1)) := ⟨fun h => (H.out h).below hb2⟩
        replace HB := Aside.mk (bl_step HB.out hb2)
        clear hb2 H HP
        have hsm := fun wq => same_any (Find.near (bytN s) s.size i win 258) (Find.near (bytN s) s.size i win 258) v v2 w3.heap.size wq
        rw [decide_eq_true (rfl : Find.near (bytN s) s.size i win 258 = Find.near (bytN s) s.size i win 258)] at hsm
        go_wp2_with fail
        refine (hsm _ hp1 hp2).mono ?_
        rintro e w4 ⟨rfl, n4, rfl⟩
        clear hsm hp1 hp2
        go_wp2_with fail
        exact ⟨⟨i + 1, by omega, by go_num, ⟨fun h => (H2.out h).drewN n4⟩, ⟨bl_drewN HB.out n4⟩⟩, by simp [intOf]; omega⟩
      · obtain rfl : i = s.size := by omega
        go_wp2_with fail
        refine (awake41 _).mono ?_
        rintro e w2 ⟨rfl, hb⟩
        go_wp2_with fail
        go_ret
        exact ⟨rfl, bl_step HB.out hb⟩
end Go.Proofs.Ytjmenlffhoodeaa
