/- bintree's laws, walked. -/
import Derived.Test.YtjmenlffhoodeaaBt3
namespace Go.Proofs.Ytjmenlffhoodeaa
open Go.RowKit

/-- A finder at place i, whose trees are those of the places ahead. -/
def StB (w : World) (gF gM gL : Nat) (s : ByteArray) (win dep i : Nat) : Prop :=
  ∃ q M, BtAt w gF gM gL s win dep i q M ∧ (i < s.size → q = i ∧ Find.Heap M i ∧ ∃ T, Find.Forest (bytN s) s.size win i M T)
theorem StB.below {w w' : World} {gF gM gL : Nat} {s : ByteArray} {win dep i : Nat} (h : StB w gF gM gL s win dep i) (hb : Below w.heap.size w w') : StB w' gF gM gL s win dep i := by
  obtain ⟨q, M, h1, h2⟩ := h
  exact ⟨q, M, h1.below hb, h2⟩
theorem StB.drewN {w : World} {gF gM gL : Nat} {s : ByteArray} {win dep i : Nat} (h : StB w gF gM gL s win dep i) (n : Nat) : StB (w.drewN n) gF gM gL s win dep i := by
  obtain ⟨q, M, h1, h2⟩ := h
  exact ⟨q, M, h1.drewN n, h2⟩
theorem StB.alloc {w : World} {gF gM gL : Nat} {s : ByteArray} {win dep i : Nat} (h : StB w gF gM gL s win dep i) (o : Obj) : StB (w.alloc o) gF gM gL s win dep i := by
  obtain ⟨q, M, h1, h2⟩ := h
  exact ⟨q, M, h1.alloc o, h2⟩
theorem StB.lt {w : World} {gF gM gL : Nat} {s : ByteArray} {win dep i : Nat} (h : StB w gF gM gL s win dep i) : gF < w.heap.size ∧ gM < w.heap.size ∧ gL < w.heap.size := by
  obtain ⟨q, M, h1, _⟩ := h
  exact ⟨h1.1.lt, h1.2.1.lt, h1.2.2.lt⟩
theorem StB.at_ {w : World} {gF gM gL : Nat} {s : ByteArray} {win dep i : Nat} (h : StB w gF gM gL s win dep i) :
    Calls Try.prog 40 #[.pointer (some ⟨gF, 0, none⟩)] w fun e w' => e = .returned (.int .i64 (i : Int)) ∧ w = w' := by
  obtain ⟨q, M, h1, _⟩ := h
  exact btAt_any w gF gM gL s win dep i q M h1
theorem StB.end_ {w : World} {gF gM gL : Nat} {s : ByteArray} {win dep : Nat} (a : Int) (h : StB w gF gM gL s win dep s.size) :
    Calls Try.prog 41 #[.pointer (some ⟨gF, 0, none⟩), .int .i64 a] w fun e w' => e = .returned (.tuple #[.slice none 0 0, .int .i64 (-1)]) ∧ Drawn w w' := by
  obtain ⟨q, M, h1, _⟩ := h
  exact btNext_end a w gF gM gL s win dep s.size q M h1 (Nat.le_refl _)
theorem StB.next {w : World} {gF gM gL : Nat} {s : ByteArray} {win dep i : Nat} (a : Int) (m : Nat) (h : StB w gF gM gL s win dep i) (hi : i < s.size) (hs : s.size ≤ 200) (hmm : max 2 (min a 258) = (m : Int)) (hw : win ≤ 67108864) (hd : dep ≤ 65536) (hd2 : i ≤ dep) :
    Calls Try.prog 41 #[.pointer (some ⟨gF, 0, none⟩), .int .i64 a] w fun e w' => ∃ v, e = .returned (.tuple #[v, .int .i64 (i : Int)]) ∧ PairsAt w' w'.heap.size v (Find.near (bytN s) s.size i win m) ∧
      (∀ g, v.ownBlock = some g → w.heap.size ≤ g) ∧ StB w' gF gM gL s win dep (i + 1) ∧ But w w' (ofF gF gM gL) := by
  obtain ⟨q, M, h1, h2⟩ := h
  obtain ⟨rfl, hh, T, hT⟩ := h2 hi
  by_cases c : q + 1 < s.size
  · refine (btNext_mid a m w gF gM gL s win dep q M h1 c hs hmm hw hd hh).mono ?_
    rintro e w' ⟨v, k1, k2, k3, k4, k5⟩
    obtain ⟨f1, T', f2⟩ := Find.next_forest (bytN s) s.size win m q dep M T (bytN_lt s) hi hd2 hT
    rw [f1] at k2
    exact ⟨v, k1, k2, k3, ⟨_, _, k4, fun _ => ⟨rfl, Find.next_heap _ _ _ _ _ _ _ hh, T', f2⟩⟩, k5⟩
  · refine (btNext_last a w gF gM gL s win dep q q M h1 (by omega) (by omega)).mono ?_
    rintro e w' ⟨k1, k2, k3⟩
    exact ⟨_, k1, .inl ⟨rfl, Find.near_end _ _ _ _ _ (by omega)⟩, (fun g hg => by cases hg), ⟨_, _, k2, fun h => by omega⟩, k3⟩
theorem StB.start {w : World} {gF gM gL : Nat} {s : ByteArray} {win dep : Nat} (h : BtAt w gF gM gL s win dep 0 0 (fun _ => 0)) : StB w gF gM gL s win dep 0 :=
  ⟨0, _, h, fun _ => ⟨rfl, fun c hc => by omega, _, Find.forest_start _ _ _ _⟩⟩
theorem near_aaaa0 : Find.near (bytN aaaa) aaaa.size 0 (winN 9) 9 = [] := by decide +kernel
theorem near_aaaa1 : Find.near (bytN aaaa) aaaa.size 1 (winN 9) 9 = [(3, 1)] := by decide +kernel

set_option maxRecDepth 100000 in
set_option maxHeartbeats 4000000 in
theorem awake22 (w : World) : Calls Try.prog 38 #[] w fun e w' => e = .returned (.bool true) ∧ Below w.heap.size w w' := by
  go_enter Try.func38, Try.ntmps38
  go_wp2_with fail
  refine (btNew_any aaaa 9 9 _ (by decide) (by decide) (by decide)).mono ?_
  rintro e w1 ⟨gF, gM, gL, rfl, H, hb, z1, z2, z3⟩
  replace H := Aside.mk (StB.start H)
  have HB := Aside.mk hb
  have HZ := Aside.mk (And.intro z1 (And.intro z2 z3))
  clear hb z1 z2 z3
  go_wp2_with fail
  refine (H.out.next 9 9 (by decide) (by decide) (by decide) (by decide) (by decide) (by decide)).mono ?_
  rintro e w2 ⟨va, rfl, hpa, _, h2, k2⟩
  rw [near_aaaa0] at hpa
  obtain ⟨A1, ca, rfl⟩ := hpa.len0
  replace H := Aside.mk h2
  have HK := Aside.mk k2
  clear hpa h2 k2
  go_wp2_with fail
  refine (H.out.next 9 9 (by decide) (by decide) (by decide) (by decide) (by decide) (by decide)).mono ?_
  rintro e w3 ⟨vb, rfl, hpb, hbl, h3, k3⟩
  rw [near_aaaa1] at hpb
  have hnS : ∀ g, vb.ownBlock = some g → ¬ ofF gF gM gL g := fun g hg hS => by
    have h1 := hbl g hg
    have h2 := H.out.lt
    rcases hS with rfl | rfl | rfl <;> omega
  have HP := Aside.mk hpb
  have HN := Aside.mk hnS
  replace H := Aside.mk h3
  replace HK := Aside.mk (HK.out.trans k3)
  clear hpb hbl hnS h3 k3
  go_wp2_with fail
  refine (H.out.next 9 9 (by decide) (by decide) (by decide) (by decide) (by decide) (by decide)).mono ?_
  rintro e w4 ⟨vx, rfl, _, _, h4, k4⟩
  replace HP := Aside.mk (HP.out.but (Nat.le_refl _) k4 HN.out)
  have HS := Aside.mk k4.size
  replace H := Aside.mk h4
  replace HK := Aside.mk (HK.out.trans k4)
  clear h4 k4
  go_wp2_with fail
  refine (H.out.next 9 9 (by decide) (by decide) (by decide) (by decide) (by decide) (by decide)).mono ?_
  rintro e w5 ⟨vy, rfl, _, _, h5, k5⟩
  replace HP := Aside.mk (HP.out.but HS.out k5 HN.out)
  replace HS := Aside.mk (Nat.le_trans HS.out k5.size)
  replace H := Aside.mk h5
  replace HK := Aside.mk (HK.out.trans k5)
  clear h5 k5
  go_wp2_with fail
  refine (StB.end_ (s := aaaa) 9 H.out).mono ?_
  rintro e w6 ⟨rfl, nd, rfl⟩
  go_wp2_with fail
  have hpl := pairs_lit (w5.drewN nd) 64 3 1
  have hpv : PairsAt ((w5.drewN nd).alloc (.cells #[.int .i64 3, .int .i64 1] 64)) ((w5.drewN nd).heap.size + 1) vb [(3, 1)] := by
    have h1 := HP.out.up (B' := w5.heap.size) HS.out
    have h2 : PairsAt ((w5.drewN nd).alloc (.cells #[.int .i64 3, .int .i64 1] 64)) w5.heap.size vb [(3, 1)] := h1.keep (bl_alloc (bl_drewN (Below.refl w5.heap.size w5) nd) _)
    exact h2.up (Nat.le_succ _)
  refine (same_any [(3, 1)] [(3, 1)] vb _ _ _ hpv hpl).mono ?_
  rintro e w7 ⟨rfl, n7, rfl⟩
  replace H := Aside.mk (((H.out.drewN nd).alloc (.cells #[.int .i64 3, .int .i64 1] 64)).drewN n7)
  replace HK := Aside.mk (((HK.out.drewN nd).alloc (.cells #[.int .i64 3, .int .i64 1] 64)).drewN n7)
  clear hpl hpv
  go_wp2_with fail
  refine (H.out.at_).mono ?_
  rintro e w8 ⟨rfl, rfl⟩
  go_wp2_with fail
  go_ret
  refine ⟨rfl, HK.out.below (fun i hi => ?_) HB.out⟩
  have h1 := HZ.out
  rcases hi with rfl | rfl | rfl
  · exact h1.1
  · exact h1.2.1
  · exact h1.2.2
set_option maxRecDepth 100000 in
set_option maxHeartbeats 4000000 in
theorem bintreeNone_walk (m : Int) (w : World) (_h : (Lit.int .i64 m).wf = true) : Calls Try.prog 14 #[.int .i64 m] w fun e w' => e = .returned (.bool true) ∧ Below w.heap.size w w' := by
  go_enter Try.func14, Try.ntmps14
  go_wp2_with fail
  refine (btNext_nil m _).mono ?_
  rintro e w1 ⟨rfl, n1, rfl⟩
  go_wp2_with fail
  refine (btAt_nil _).mono ?_
  rintro e w2 ⟨rfl, rfl⟩
  go_wp2_with fail
  refine (awake22 _).mono ?_
  rintro e w3 ⟨rfl, hb⟩
  go_wp2_with fail
  go_ret
  exact ⟨rfl, bl_step (bl_drewN (Below.refl _ _) n1) hb⟩
set_option maxRecDepth 100000 in
set_option maxHeartbeats 4000000 in
theorem bintreeAll_walk (s : ByteArray) (a b : Int) (w : World) (_hs : s.size ≤ 140737488351232) (_ha : (Lit.int .i64 a).wf = true) (_hb : (Lit.int .i64 b).wf = true) : Calls Try.prog 13 #[.string s, .int .i64 a, .int .i64 b] w fun e w' => e = .returned (.bool true) ∧ Below w.heap.size w w' := by
  clear _ha _hb
  by_cases hbig : (120 : Int) < s.size
  · go_enter Try.func13, Try.ntmps13
    go_wp2_with fail
    refine (awake22 _).mono ?_
    rintro e w1 ⟨rfl, hb⟩
    go_wp2_with fail
    go_ret
    exact ⟨rfl, hb⟩
  · have hs : s.size ≤ 120 := by omega
    have h1 : max 1 (min a 67108864) = ((winN a : Nat) : Int) := by unfold winN; omega
    have hwb := Aside.mk (winN_bd a)
    obtain ⟨m, hmm⟩ : ∃ m : Nat, max 2 (min b 258) = (m : Int) := ⟨(max 2 (min b 258)).toNat, by omega⟩
    have hmb : 2 ≤ m ∧ m ≤ 258 := by omega
    have HMM := Aside.mk hmm
    have hN : (s.size : Int) + 1 = ((s.size + 1 : Nat) : Int) := by omega
    have cN := fun w => btNew_any s a (s.size + 1) w (by omega) (by omega) (by omega)
    rw [← hN] at cN
    clear hN
    go_enter Try.func13, Try.ntmps13
    go_wp2_with fail
    refine (cN _).mono ?_
    rintro e w1 ⟨gF, gM, gL, rfl, H, hb, z1, z2, z3⟩
    replace H := Aside.mk (StB.start H)
    have HB := Aside.mk hb
    have HZ := Aside.mk (And.intro z1 (And.intro z2 z3))
    clear hb z1 z2 z3 cN
    generalize winN a = win at h1 hwb H ⊢
    go_wp2_with fail
    clear h1 hmm
    go_loopw [10, 11, 12] (fun q _ _ wr => ∃ i : Nat, i ≤ s.size ∧ q = .int .i64 i ∧ Aside (StB wr gF gM gL s win (s.size + 1) i) ∧ Aside (Below w.heap.size w wr)) (fun q _ _ _ => s.size - (intOf q).toNat)
    case atStart => exact ⟨0, by omega, rfl, H, HB⟩
    case round =>
      clear H HB
      obtain ⟨i, hi, rfl, H, HB⟩ := hrel
      by_cases hlt : i < s.size
      · go_wp2_with fail
        refine (H.out.at_).mono ?_
        rintro e w2 ⟨rfl, rfl⟩
        go_wp2_with fail
        refine (H.out.next b m hlt (by omega) HMM.out hwb.out.2 (by omega) (by omega)).mono ?_
        rintro e w2 ⟨v, rfl, hp, _, h3, k3⟩
        replace H := Aside.mk h3
        replace HB := Aside.mk (k3.below (fun j hj => by
          have h1 := HZ.out
          rcases hj with rfl | rfl | rfl
          · exact h1.1
          · exact h1.2.1
          · exact h1.2.2) HB.out)
        have HP := Aside.mk hp
        clear hp h3 k3
        go_wp2_with fail
        refine (refAt_any s i win m _ (by omega) hlt hwb.out.1 hwb.out.2 hmb.1 hmb.2).mono ?_
        rintro e w3 ⟨v2, rfl, hp2, hb2⟩
        have hp1 := (HP.out.keep hb2).up hb2.size
        have H2 := Aside.mk (H.out.below hb2)
        replace HB := Aside.mk (bl_step HB.out hb2)
        clear hb2 H HP
        have hsm := fun wq => same_any (Find.near (bytN s) s.size i win m) (Find.near (bytN s) s.size i win m) v v2 w3.heap.size wq
        rw [decide_eq_true (rfl : Find.near (bytN s) s.size i win m = Find.near (bytN s) s.size i win m)] at hsm
        go_wp2_with fail
        refine (hsm _ hp1 hp2).mono ?_
        rintro e w4 ⟨rfl, n4, rfl⟩
        clear hsm hp1 hp2
        go_wp2_with fail
        exact ⟨⟨i + 1, by omega, by go_num, ⟨H2.out.drewN n4⟩, ⟨bl_drewN HB.out n4⟩⟩, by simp [intOf]; omega⟩
      · obtain rfl : i = s.size := by omega
        go_wp2_with fail
        refine (StB.end_ b H.out).mono ?_
        rintro e w2 ⟨rfl, n2, rfl⟩
        go_wp2_with fail
        refine (awake22 _).mono ?_
        rintro e w3 ⟨rfl, hb⟩
        go_wp2_with fail
        go_ret
        exact ⟨rfl, bl_step (bl_drewN HB.out n2) hb⟩
end Go.Proofs.Ytjmenlffhoodeaa
