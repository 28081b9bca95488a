/- The reference's Pack, walked. (Printed by mkruns6.py, a small program of mine.) -/
import Derived.Test.YtjmenlffhoodeacRuns5
namespace Go.Proofs.Ytjmenlffhoodeac
open Go.RowKit

namespace Runs
def lastAt (xs : List Int) (at_ : Nat) : Int := if at_ = 0 then -1 else xs.getD (at_ - 1) 0
theorem pk_step (xs : List Int) (at_ : Nat) (h : at_ < xs.length) (hy : ∀ x ∈ xs, 0 ≤ x ∧ x ≤ 15) :
    pk (lastAt xs at_) (xs.drop at_) = (first (xs.drop at_) (lastAt xs at_)).1 :: pk (lastAt xs (at_ + (first (xs.drop at_) (lastAt xs at_)).2)) (xs.drop (at_ + (first (xs.drop at_) (lastAt xs at_)).2)) ∧
    1 ≤ (first (xs.drop at_) (lastAt xs at_)).2 ∧ at_ + (first (xs.drop at_) (lastAt xs at_)).2 ≤ xs.length ∧
    many (first (xs.drop at_) (lastAt xs at_)).1.1 (first (xs.drop at_) (lastAt xs at_)).1.2 = (first (xs.drop at_) (lastAt xs at_)).2 ∧
    first (xs.drop at_) (lastAt xs at_) = (if xs.getD at_ 0 = 0 ∧ 11 ≤ rowN (xs.drop at_) then ((18, ((min (rowN (xs.drop at_)) 138 : Nat) : Int) - 11), min (rowN (xs.drop at_)) 138)
      else if xs.getD at_ 0 = 0 ∧ 3 ≤ rowN (xs.drop at_) then ((17, ((min (rowN (xs.drop at_)) 10 : Nat) : Int) - 3), min (rowN (xs.drop at_)) 10)
      else if xs.getD at_ 0 ≠ 0 ∧ xs.getD at_ 0 = lastAt xs at_ ∧ 3 ≤ rowN (xs.drop at_) then ((16, ((min (rowN (xs.drop at_)) 6 : Nat) : Int) - 3), min (rowN (xs.drop at_)) 6)
      else ((xs.getD at_ 0, 0), 1)) := by
  have hd : xs.drop at_ = xs.getD at_ 0 :: xs.drop (at_ + 1) := by
    rw [List.drop_eq_getElem_cons h]; simp [List.getD, List.getElem?_eq_getElem h]
  have hm := getD_mem xs at_ h
  have hl : (xs.drop at_).length = xs.length - at_ := List.length_drop
  generalize lastAt xs at_ = L
  have h1 := first_k (xs.getD at_ 0) (xs.drop (at_ + 1)) L
  have h2 := first_ok (xs.getD at_ 0) (xs.drop (at_ + 1)) L (hy _ hm)
  have h3 := pk_cons L (xs.getD at_ 0) (xs.drop (at_ + 1))
  have h4 := first_cons (xs.getD at_ 0) (xs.drop (at_ + 1)) L
  rw [← hd] at h1 h2 h3 h4
  have hR := rowN_le (xs.drop at_)
  have hat := rowN_at (xs.drop at_) ((first (xs.drop at_) L).2 - 1) (by omega)
  rw [show (xs.drop at_).headD 0 = xs.getD at_ 0 from by rw [hd]; rfl, List.getElem?_drop] at hat
  refine ⟨?_, h1.1, by omega, h2.2.1, h4⟩
  rw [h3, List.drop_drop]
  generalize (first (xs.drop at_) L).2 = k at *
  have : lastAt xs (at_ + k) = xs.getD at_ 0 := by
    unfold lastAt
    rw [if_neg (by omega)]
    rw [List.getD_eq_getElem?_getD, show at_ + k - 1 = at_ + (k - 1) from by omega, hat]; rfl
  rw [this]
end Runs

theorem own_drewN {w : World} {base sz n : Nat} {e : TypeId} {v : Value} {xs : List Value} (h : w.ownsRow base e sz v n xs) (k : Nat) : (w.drewN k).ownsRow base e sz v n xs := own_below h (bl_drewN (Below.refl _ _) k)
theorem cell_two_at (w : World) (g : Nat) (hg : w.heap.size = g) (t : TypeId) (x y : Value) : ∀ j u, [x, y][j]? = some u → (w.alloc (.cells #[x, y] t)).cell? ((⟨g, 0, none⟩ : Addr).add j) = some u := by
  subst hg; exact cell_two_new w t x y
set_option maxRecDepth 100000 in
set_option maxHeartbeats 16000000 in
theorem refPack_any (xs : List Int) (A : Option Addr) (cap : Nat) (B : Nat) (w : World) (h : IntsG w B A xs) (hB : B ≤ w.heap.size) (hl : xs.length ≤ cap) (hc : cap ≤ maxLen) (hx : xs.length ≤ 5000) :
    Calls Try.prog 13 #[.slice A xs.length cap] w fun e w' => ∃ v, e = .returned v ∧ PairsAt w' w'.heap.size v (Runs.pack xs) ∧ Below w.heap.size w w' := by
  obtain ⟨i0, hi0, hz0, hz1, hz2⟩ := info_parts run_info
  have H := Aside.mk h
  have HG : Aside (Runs.pack xs = if Runs.good xs then Runs.pk (-1) xs else []) := ⟨rfl⟩
  generalize Runs.pack xs = D at HG ⊢
  unfold maxLen at hc
  clear h
  go_enter Try.func13, Try.ntmps13
  go_wp2_with fail
  go_loop [3] (fun q => ∃ i : Nat, i ≤ xs.length ∧ q = .int .i64 i ∧ Aside (∀ j, j < i → 0 ≤ xs.getD j 0 ∧ xs.getD j 0 ≤ 15)) (fun q => xs.length - (intOf q).toNat)
  case atStart => exact ⟨0, by omega, rfl, ⟨fun j hj => by omega⟩⟩
  case round =>
    obtain ⟨i, hi, rfl, HJ⟩ := hrel
    by_cases hlt : i < xs.length
    · obtain ⟨ad, rfl, hb, c⟩ := H.out i hlt
      have i1 : (0 : Int) ≤ i := by omega
      have i2 : (i : Int) < xs.length := by omega
      have hm := getD_mem xs i hlt
      by_cases hg : 0 ≤ xs.getD i 0 ∧ xs.getD i 0 ≤ 15
      · have HJ2 : Aside (∀ j, j < i + 1 → 0 ≤ xs.getD j 0 ∧ xs.getD j 0 ≤ 15) := ⟨fun j hj => by
          rcases Nat.lt_or_ge j i with h1 | h1
          · exact HJ.out j h1
          · rw [show j = i from by omega]; exact hg⟩
        clear hm
        generalize xs.getD i 0 = x at c hg
        obtain ⟨g1, g2⟩ := hg
        go_wp2_with fail
        exact ⟨⟨i + 1, by omega, by go_num, HJ2⟩, by simp [intOf]; omega⟩
      · have HE : Aside (D = []) := ⟨by rw [HG.out, if_neg (fun h => hg ((good_iff xs).1 h _ hm))]⟩
        clear hm
        generalize xs.getD i 0 = x at c hg
        by_cases g1 : x < 0
        · clear hg
          go_wp2_with fail
          go_ret
          exact ⟨_, rfl, by rw [HE.out]; exact .inl ⟨rfl, rfl⟩, Below.refl _ _⟩
        · have g2 : (15 : Int) < x := by omega
          clear hg
          go_wp2_with fail
          go_ret
          exact ⟨_, rfl, by rw [HE.out]; exact .inl ⟨rfl, rfl⟩, Below.refl _ _⟩
    · obtain rfl : i = xs.length := by omega
      have hgood : Runs.good xs = true := (good_iff xs).2 fun x hx => by
        obtain ⟨j, hj, e⟩ := mem_getD xs x hx
        rw [← e]; exact HJ.out j hj
      have HE : Aside (Runs.pk (-1) xs = D) := ⟨by rw [HG.out, if_pos hgood]⟩
      have HY := Aside.mk ((good_iff xs).1 hgood)
      clear HG HJ hgood hlt
      go_wp2_with fail
      go_loopw [4, 5, 6, 7] (fun ov av _ _ wr => ∃ (at_ : Nat) (ms : List (Int × Int)), av = .int .i64 at_ ∧ at_ ≤ xs.length ∧ ms.length ≤ at_ ∧ wr.ownsRow w.heap.size 52 2 ov ms.length (cells2 ms) ∧
        Aside (ms ++ Runs.pk (Runs.lastAt xs at_) (xs.drop at_) = D) ∧ Aside (Below w.heap.size w wr)) (fun _ av _ _ _ => xs.length - (intOf av).toNat)
      case atStart => exact ⟨(0 : Nat), [], rfl, by omega, by simp, World.ownsRow_nil _ _ _ _, ⟨HE.out⟩, ⟨Below.refl _ _⟩⟩
      case round =>
        clear HE
        obtain ⟨at_, ms, rfl, y1, y2, hown, HM, HB⟩ := hrel
        by_cases hlt : at_ < xs.length
        · obtain ⟨ad, rfl, hb0, ca0⟩ := H.out at_ hlt
          have i1 : (0 : Int) ≤ at_ := by omega
          have i2 : (at_ : Int) < xs.length := by omega
          have hst := Runs.pk_step xs at_ hlt HY.out
          have hx15 := HY.out _ (getD_mem xs at_ hlt)
          obtain ⟨hM, hk1, hk2, hmany, hf⟩ := hst
          have hMD : ms ++ (Runs.first (xs.drop at_) (Runs.lastAt xs at_)).1 :: Runs.pk (Runs.lastAt xs (at_ + (Runs.first (xs.drop at_) (Runs.lastAt xs at_)).2)) (xs.drop (at_ + (Runs.first (xs.drop at_) (Runs.lastAt xs at_)).2)) = D := by rw [← hM]; exact HM.out
          have hrow := fun wq (hq : IntsG wq B (some ad) xs) => row_any xs (some ad) cap at_ B wq hq hlt hl (by unfold maxLen; omega)
          have hrp : 1 ≤ Runs.rowN (xs.drop at_) ∧ Runs.rowN (xs.drop at_) ≤ 5000 := by
            have a := Runs.first_k (xs.getD at_ 0) (xs.drop (at_ + 1)) 0
            rw [← show xs.drop at_ = xs.getD at_ 0 :: xs.drop (at_ + 1) from by rw [List.drop_eq_getElem_cons hlt]; simp [List.getD, List.getElem?_eq_getElem hlt]] at a
            have b := Runs.rowN_le (xs.drop at_)
            have c : (xs.drop at_).length = xs.length - at_ := List.length_drop
            omega
          clear hM HM
          generalize Runs.first (xs.drop at_) (Runs.lastAt xs at_) = F at hMD hk1 hk2 hmany hf
          generalize Runs.rowN (xs.drop at_) = R at hf hrow hrp
          have hprev : Aside (0 < at_ → ∃ y, y = Runs.lastAt xs at_ ∧ y = xs.getD (at_ - 1) 0 ∧ (ad.add (at_ - 1)).block < B ∧ ∀ wq, Below w.heap.size w wq → wq.cell? (ad.add (at_ - 1)) = some (.int .i64 y)) := ⟨fun h0 => by
            obtain ⟨ad', e, hb', c'⟩ := H.out (at_ - 1) (by omega)
            cases e
            exact ⟨xs.getD (at_ - 1) 0, by unfold Runs.lastAt; rw [if_neg (by omega)], rfl, by rw [block_of_add]; exact hb', fun wq hq => (hq.cell (by rw [block_of_add]; omega)).trans c'⟩⟩
          have hl0 : at_ = 0 → Runs.lastAt xs at_ = -1 := fun h => by unfold Runs.lastAt; rw [if_pos h]
          generalize Runs.lastAt xs at_ = L at hf hprev hl0
          generalize xs.getD at_ 0 = x at ca0 hf hx15
          obtain ⟨⟨sy, mo⟩, k⟩ := F
          simp only at hmany hk1 hk2 hMD
          by_cases a1 : x = 0 ∧ 11 ≤ R
          · rw [if_pos a1] at hf
            obtain ⟨rfl, a2⟩ := a1
            have a3 : (11 : Int) ≤ R := by omega
            by_cases hmx : 138 < R
            · have hmi : (138 : Int) < R := by omega
              rw [show min R 138 = 138 from by omega] at hf
              simp only [Prod.mk.injEq] at hf
              obtain ⟨⟨rfl, e2⟩, rfl⟩ := hf
              obtain rfl : mo = 127 := by omega
              clear e2
              clear a2 hmx
              have HMA := Aside.mk hmany
              have HMD := Aside.mk hMD
              have HK12 := Aside.mk (And.intro hk1 hk2)
              clear hmany hMD hlt hk1 hk2
              go_wp2_with fail
              refine (hrow _ (H.out.keep (HB.out.mono hB))).mono ?_
              rintro e w2 ⟨rfl, n2, rfl⟩
              have hst2 := bl_drewN (Below.refl wr.heap.size wr) n2
              replace HB := Aside.mk (bl_drewN HB.out n2)
              have hown2 := own_below hown hst2
              generalize wr.drewN n2 = wn at hst2 HB hown2 ⊢
              clear hst2 hown
              have cN : wn.cell? (ad.add at_) = some (.int .i64 0) := (HB.out.cell (by rw [block_of_add]; omega)).trans ca0
              have cB : (ad.add at_).block < wn.heap.size := by have := HB.out.size; rw [block_of_add]; omega
              obtain ⟨k0c, k1c, f0c, f1c⟩ := blkP (Blk.new wn 52 #[.int .i64 0, .int .i64 0])
              have hog := fun k e => (hown2.lt k e).2
              go_wp2_with (at_builtin; refine wpList_append_own _ rfl _ _ 23 rfl w.heap.size 52 i0 (.agg #[.int .i64 0, .int .i64 0]) 2 16 Try.underlying23 hi0 hz0 hz1 hz2 rfl (by decide) _ _ _ rfl ((hown2.alloc (.cells #[.int .i64 18, .int .i64 127] 52)).alloc (.cells #[.int .i64 18, .int .i64 127] 52)) ⟨wn.heap.size + 1, 0, none⟩ 1 1 [.int .i64 18, .int .i64 127] rfl rfl ?c1 ?c2 ?c3 ?c4 ?c5 ?_)
              case c1 => exact cell_two_at _ _ (by simp) _ _ _
              case c2 => simp [Value.oneCell']
              case c3 => unfold maxLen; omega
              case c4 => omega
              case c5 => have := HB.out.size; simp; omega
              intro v' w1 hown' hgrow _
              have HB1 := Aside.mk (below_grown (bl_alloc (bl_alloc HB.out (.cells #[.int .i64 18, .int .i64 127] 52)) (.cells #[.int .i64 18, .int .i64 127] 52)) ((hown2.alloc (.cells #[.int .i64 18, .int .i64 127] 52)).alloc (.cells #[.int .i64 18, .int .i64 127] 52)) hgrow)
              have K2 : Blk w1 wn.heap.size 52 #[.int .i64 18, .int .i64 127] := (hgrow.block wn.heap.size (by simp; omega) (fun e => Nat.lt_irrefl _ (hog _ e.symm))).trans ((Blk.new wn 52 #[.int .i64 18, .int .i64 127]).alloc _)
              clear k0c k1c f0c f1c hgrow cN cB hown2
              obtain ⟨k0c, k1c, f0c, f1c⟩ := blkP K2
              have hmy := fun wq => many_any 18 127 wq (by omega) (by omega)
              rw [HMA.out] at hmy
              clear hrow
              go_wp2_with fail
              refine (hmy _).mono ?_
              rintro e w3 ⟨rfl, hb3⟩
              have hown4 := own_below hown' hb3
              replace HB := Aside.mk (bl_step HB1.out hb3)
              clear k0c k1c f0c f1c K2 hmy hb3 hown'
              go_wp2_with fail
              obtain ⟨hk1, hk2⟩ := HK12.out
              exact ⟨⟨at_ + 138, ms ++ [(18, 127)], by go_num, by omega, by rw [List.length_append]; simp only [List.length_cons, List.length_nil]; omega, own_snoc2 hown4, ⟨by rw [List.append_assoc]; exact HMD.out⟩, HB⟩, by simp [intOf]; omega⟩
            · have hmi : (R : Int) ≤ 138 := by omega
              rw [show min R 138 = R from by omega] at hf
              simp only [Prod.mk.injEq] at hf
              obtain ⟨⟨rfl, rfl⟩, rfl⟩ := hf
              clear a2 hmx
              have HMA := Aside.mk hmany
              have HMD := Aside.mk hMD
              have HK12 := Aside.mk (And.intro hk1 hk2)
              clear hmany hMD hlt hk1 hk2
              go_wp2_with fail
              refine (hrow _ (H.out.keep (HB.out.mono hB))).mono ?_
              rintro e w2 ⟨rfl, n2, rfl⟩
              have hst2 := bl_drewN (Below.refl wr.heap.size wr) n2
              replace HB := Aside.mk (bl_drewN HB.out n2)
              have hown2 := own_below hown hst2
              generalize wr.drewN n2 = wn at hst2 HB hown2 ⊢
              clear hst2 hown
              have cN : wn.cell? (ad.add at_) = some (.int .i64 0) := (HB.out.cell (by rw [block_of_add]; omega)).trans ca0
              have cB : (ad.add at_).block < wn.heap.size := by have := HB.out.size; rw [block_of_add]; omega
              obtain ⟨k0c, k1c, f0c, f1c⟩ := blkP (Blk.new wn 52 #[.int .i64 0, .int .i64 0])
              have hog := fun k e => (hown2.lt k e).2
              go_wp2_with (at_builtin; refine wpList_append_own _ rfl _ _ 23 rfl w.heap.size 52 i0 (.agg #[.int .i64 0, .int .i64 0]) 2 16 Try.underlying23 hi0 hz0 hz1 hz2 rfl (by decide) _ _ _ rfl ((hown2.alloc (.cells #[.int .i64 18, .int .i64 ((k : Int) - 11)] 52)).alloc (.cells #[.int .i64 18, .int .i64 ((k : Int) - 11)] 52)) ⟨wn.heap.size + 1, 0, none⟩ 1 1 [.int .i64 18, .int .i64 ((k : Int) - 11)] rfl rfl ?c1 ?c2 ?c3 ?c4 ?c5 ?_)
              case c1 => exact cell_two_at _ _ (by simp) _ _ _
              case c2 => simp [Value.oneCell']
              case c3 => unfold maxLen; omega
              case c4 => omega
              case c5 => have := HB.out.size; simp; omega
              intro v' w1 hown' hgrow _
              have HB1 := Aside.mk (below_grown (bl_alloc (bl_alloc HB.out (.cells #[.int .i64 18, .int .i64 ((k : Int) - 11)] 52)) (.cells #[.int .i64 18, .int .i64 ((k : Int) - 11)] 52)) ((hown2.alloc (.cells #[.int .i64 18, .int .i64 ((k : Int) - 11)] 52)).alloc (.cells #[.int .i64 18, .int .i64 ((k : Int) - 11)] 52)) hgrow)
              have K2 : Blk w1 wn.heap.size 52 #[.int .i64 18, .int .i64 ((k : Int) - 11)] := (hgrow.block wn.heap.size (by simp; omega) (fun e => Nat.lt_irrefl _ (hog _ e.symm))).trans ((Blk.new wn 52 #[.int .i64 18, .int .i64 ((k : Int) - 11)]).alloc _)
              clear k0c k1c f0c f1c hgrow cN cB hown2
              obtain ⟨k0c, k1c, f0c, f1c⟩ := blkP K2
              have hmy := fun wq => many_any 18 ((k : Int) - 11) wq (by omega) (by omega)
              rw [HMA.out] at hmy
              clear hrow
              go_wp2_with fail
              refine (hmy _).mono ?_
              rintro e w3 ⟨rfl, hb3⟩
              have hown4 := own_below hown' hb3
              replace HB := Aside.mk (bl_step HB1.out hb3)
              clear k0c k1c f0c f1c K2 hmy hb3 hown'
              go_wp2_with fail
              obtain ⟨hk1, hk2⟩ := HK12.out
              exact ⟨⟨at_ + k, ms ++ [(18, ((k : Int) - 11))], by go_num, by omega, by rw [List.length_append]; simp only [List.length_cons, List.length_nil]; omega, own_snoc2 hown4, ⟨by rw [List.append_assoc]; exact HMD.out⟩, HB⟩, by simp [intOf]; omega⟩
          · rw [if_neg a1] at hf
            by_cases a2 : x = 0 ∧ 3 ≤ R
            · rw [if_pos a2] at hf
              obtain ⟨rfl, a3⟩ := a2
              have a4 : decide ((11 : Int) ≤ R) = false := decide_eq_false (by omega)
              have a5 : (3 : Int) ≤ R := by omega
              have a6 : R ≤ 10 := by omega
              rw [show min R 10 = R from by omega] at hf
              have a7 : (R : Int) ≤ 10 := by omega
              simp only [Prod.mk.injEq] at hf
              obtain ⟨⟨rfl, rfl⟩, rfl⟩ := hf
              clear a1 a3
              have HMA := Aside.mk hmany
              have HMD := Aside.mk hMD
              have HK12 := Aside.mk (And.intro hk1 hk2)
              clear hmany hMD hlt hk1 hk2
              go_wp2_with fail
              refine (hrow _ (H.out.keep (HB.out.mono hB))).mono ?_
              rintro e w2 ⟨rfl, n2, rfl⟩
              have hst2 := bl_drewN (Below.refl wr.heap.size wr) n2
              replace HB := Aside.mk (bl_drewN HB.out n2)
              have hown2 := own_below hown hst2
              generalize wr.drewN n2 = wn at hst2 HB hown2 ⊢
              clear hst2 hown
              have cN : wn.cell? (ad.add at_) = some (.int .i64 0) := (HB.out.cell (by rw [block_of_add]; omega)).trans ca0
              have cB : (ad.add at_).block < wn.heap.size := by have := HB.out.size; rw [block_of_add]; omega
              obtain ⟨k0c, k1c, f0c, f1c⟩ := blkP (Blk.new wn 52 #[.int .i64 0, .int .i64 0])
              have hog := fun k e => (hown2.lt k e).2
              go_wp2_with (at_builtin; refine wpList_append_own _ rfl _ _ 23 rfl w.heap.size 52 i0 (.agg #[.int .i64 0, .int .i64 0]) 2 16 Try.underlying23 hi0 hz0 hz1 hz2 rfl (by decide) _ _ _ rfl ((hown2.alloc (.cells #[.int .i64 17, .int .i64 ((k : Int) - 3)] 52)).alloc (.cells #[.int .i64 17, .int .i64 ((k : Int) - 3)] 52)) ⟨wn.heap.size + 1, 0, none⟩ 1 1 [.int .i64 17, .int .i64 ((k : Int) - 3)] rfl rfl ?c1 ?c2 ?c3 ?c4 ?c5 ?_)
              case c1 => exact cell_two_at _ _ (by simp) _ _ _
              case c2 => simp [Value.oneCell']
              case c3 => unfold maxLen; omega
              case c4 => omega
              case c5 => have := HB.out.size; simp; omega
              intro v' w1 hown' hgrow _
              have HB1 := Aside.mk (below_grown (bl_alloc (bl_alloc HB.out (.cells #[.int .i64 17, .int .i64 ((k : Int) - 3)] 52)) (.cells #[.int .i64 17, .int .i64 ((k : Int) - 3)] 52)) ((hown2.alloc (.cells #[.int .i64 17, .int .i64 ((k : Int) - 3)] 52)).alloc (.cells #[.int .i64 17, .int .i64 ((k : Int) - 3)] 52)) hgrow)
              have K2 : Blk w1 wn.heap.size 52 #[.int .i64 17, .int .i64 ((k : Int) - 3)] := (hgrow.block wn.heap.size (by simp; omega) (fun e => Nat.lt_irrefl _ (hog _ e.symm))).trans ((Blk.new wn 52 #[.int .i64 17, .int .i64 ((k : Int) - 3)]).alloc _)
              clear k0c k1c f0c f1c hgrow cN cB hown2
              obtain ⟨k0c, k1c, f0c, f1c⟩ := blkP K2
              have hmy := fun wq => many_any 17 ((k : Int) - 3) wq (by omega) (by omega)
              rw [HMA.out] at hmy
              clear hrow
              go_wp2_with fail
              refine (hmy _).mono ?_
              rintro e w3 ⟨rfl, hb3⟩
              have hown4 := own_below hown' hb3
              replace HB := Aside.mk (bl_step HB1.out hb3)
              clear k0c k1c f0c f1c K2 hmy hb3 hown'
              go_wp2_with fail
              obtain ⟨hk1, hk2⟩ := HK12.out
              exact ⟨⟨at_ + k, ms ++ [(17, ((k : Int) - 3))], by go_num, by omega, by rw [List.length_append]; simp only [List.length_cons, List.length_nil]; omega, own_snoc2 hown4, ⟨by rw [List.append_assoc]; exact HMD.out⟩, HB⟩, by simp [intOf]; omega⟩
            · rw [if_neg a2] at hf
              by_cases a3 : x ≠ 0 ∧ x = L ∧ 3 ≤ R
              · rw [if_pos a3] at hf
                obtain ⟨b1, b2, b3⟩ := a3
                have hat0 : 0 < at_ := by
                  rcases Nat.eq_zero_or_pos at_ with h0 | h0
                  · have := hl0 h0; omega
                  · exact h0
                obtain ⟨y, e1, -, hyb, cy⟩ := hprev.out hat0
                obtain rfl : y = x := by omega
                have g0 : (y == 0) = false := beq_eq_false_iff_ne.2 b1
                have g1 : (y != 0) = true := by simpa using b1
                have g3 : (3 : Int) ≤ R := by omega
                obtain ⟨m, rfl⟩ : ∃ m, at_ = m + 1 := ⟨at_ - 1, by omega⟩
                rw [Nat.add_sub_cancel] at hyb cy
                have p1 : (0 : Int) < ((m + 1 : Nat) : Int) := by omega
                have p2 : ((m + 1 : Nat) : Int) - 1 = (m : Int) := by omega
                have p3 : (0 : Int) ≤ (m : Int) := by omega
                have p4 : (m : Int) < xs.length := by omega
                clear hprev hl0 b1 b2 e1 a1 a2
                by_cases hmx : 6 < R
                · have hmi : (6 : Int) < R := by omega
                  rw [show min R 6 = 6 from by omega] at hf
                  simp only [Prod.mk.injEq] at hf
                  obtain ⟨⟨rfl, e2⟩, rfl⟩ := hf
                  obtain rfl : mo = 3 := by omega
                  clear e2
                  generalize hatm : m + 1 = at_ at *
                  clear b3 hmx
                  have HMI := Aside.mk hmi
                  clear hmi
                  have HMA := Aside.mk hmany
                  have HMD := Aside.mk hMD
                  have HK12 := Aside.mk (And.intro hk1 hk2)
                  clear hmany hMD hlt hk1 hk2
                  go_wp2_with fail
                  refine (hrow _ (H.out.keep (HB.out.mono hB))).mono ?_
                  rintro e w2 ⟨rfl, n2, rfl⟩
                  have hst2 := bl_drewN (Below.refl wr.heap.size wr) n2
                  replace HB := Aside.mk (bl_drewN HB.out n2)
                  have hown2 := own_below hown hst2
                  generalize wr.drewN n2 = wn at hst2 HB hown2 ⊢
                  clear hst2 hown
                  have cN : wn.cell? (ad.add at_) = some (.int .i64 y) := (HB.out.cell (by rw [block_of_add]; omega)).trans ca0
                  have cB : (ad.add at_).block < wn.heap.size := by have := HB.out.size; rw [block_of_add]; omega
                  obtain ⟨k0c, k1c, f0c, f1c⟩ := blkP (Blk.new wn 52 #[.int .i64 0, .int .i64 0])
                  have hog := fun k e => (hown2.lt k e).2
                  go_wp2_with fail
                  have K1 := Blk.new wn 52 #[.int .i64 y, .int .i64 0]
                  have HGE := Aside.mk HB.out.size
                  replace HB := Aside.mk (bl_alloc HB.out (.cells #[.int .i64 y, .int .i64 0] 52))
                  have hown3 := hown2.alloc (.cells #[.int .i64 y, .int .i64 0] 52)
                  have cNA : (wn.alloc (.cells #[.int .i64 y, .int .i64 0] 52)).cell? (ad.add at_) = some (.int .i64 y) := (World.cell?_alloc_lt _ _ _ cB).trans cN
                  have cYA := cy _ HB.out
                  have hzz : (wn.alloc (.cells #[.int .i64 y, .int .i64 0] 52)).heap.size = wn.heap.size + 1 := by simp
                  clear k0c k1c f0c f1c cN cB hown2
                  generalize wn.alloc (.cells #[.int .i64 y, .int .i64 0] 52) = wm at K1 HB hown3 cNA hzz cYA ⊢
                  go_quiet (fail)
                  replace K1 := K1.drewN nq
                  replace HB := Aside.mk (bl_drewN HB.out nq)
                  replace hown3 := own_drewN hown3 nq
                  replace hzz : (wm.drewN nq).heap.size = wn.heap.size + 1 := hzz
                  clear cNA cYA
                  generalize wm.drewN nq = wq at K1 HB hown3 hzz ⊢
                  obtain ⟨k0c, k1c, f0c, f1c⟩ := blkP K1
                  have hge := HB.out.size
                  have hmi := HMI.out
                  have hgn : w.heap.size ≤ wn.heap.size := HGE.out
                  go_wp2_with (at_builtin; refine wpList_append_own _ rfl _ _ 23 rfl w.heap.size 52 i0 (.agg #[.int .i64 0, .int .i64 0]) 2 16 Try.underlying23 hi0 hz0 hz1 hz2 rfl (by decide) _ _ _ rfl ((ownsRow_setCell_other (ownsRow_setCell_other hown3 (a := ⟨wn.heap.size, 0, none⟩) (fun e => Nat.lt_irrefl _ (hog _ e)) (.int .i64 16)) (a := ⟨wn.heap.size, 1, none⟩) (fun e => Nat.lt_irrefl _ (hog _ e)) (.int .i64 3)).alloc (.cells #[.int .i64 16, .int .i64 3] 52)) ⟨wn.heap.size + 1, 0, none⟩ 1 1 [.int .i64 16, .int .i64 3] rfl rfl ?c1 ?c2 ?c3 ?c4 ?c5 ?_)
                  case c1 => exact cell_two_at _ _ (by simp [hzz]) _ _ _
                  case c2 => simp [Value.oneCell']
                  case c3 => unfold maxLen; omega
                  case c4 => omega
                  case c5 => have := HB.out.size; simp [hzz]; omega
                  intro v' w1 hown' hgrow _
                  have HB1 := Aside.mk (below_grown (bl_alloc (bl_set (bl_set HB.out (p := ⟨wn.heap.size, 0, none⟩) hgn (.int .i64 16)) (p := ⟨wn.heap.size, 1, none⟩) hgn (.int .i64 3)) (.cells #[.int .i64 16, .int .i64 3] 52)) ((ownsRow_setCell_other (ownsRow_setCell_other hown3 (a := ⟨wn.heap.size, 0, none⟩) (fun e => Nat.lt_irrefl _ (hog _ e)) (.int .i64 16)) (a := ⟨wn.heap.size, 1, none⟩) (fun e => Nat.lt_irrefl _ (hog _ e)) (.int .i64 3)).alloc (.cells #[.int .i64 16, .int .i64 3] 52)) hgrow)
                  have K2 : Blk w1 wn.heap.size 52 #[.int .i64 16, .int .i64 3] := (hgrow.block wn.heap.size (by simp [hzz]; omega) (fun e => Nat.lt_irrefl _ (hog _ e.symm))).trans (((K1.set_ 0 (.int .i64 16)).set_ 1 (.int .i64 3)).alloc _)
                  clear k0c k1c f0c f1c hgrow hown3
                  obtain ⟨k0c, k1c, f0c, f1c⟩ := blkP K2
                  have hmy := fun wq => many_any 16 3 wq (by omega) (by omega)
                  rw [HMA.out] at hmy
                  clear hrow
                  go_wp2_with fail
                  refine (hmy _).mono ?_
                  rintro e w3 ⟨rfl, hb3⟩
                  have hown4 := own_below hown' hb3
                  replace HB := Aside.mk (bl_step HB1.out hb3)
                  clear k0c k1c f0c f1c K2 hmy hb3 hown'
                  go_wp2_with fail
                  obtain ⟨hk1, hk2⟩ := HK12.out
                  exact ⟨⟨at_ + 6, ms ++ [(16, 3)], by go_num, by omega, by rw [List.length_append]; simp only [List.length_cons, List.length_nil]; omega, own_snoc2 hown4, ⟨by rw [List.append_assoc]; exact HMD.out⟩, HB⟩, by simp [intOf]; omega⟩
                · have hmi : (R : Int) ≤ 6 := by omega
                  rw [show min R 6 = R from by omega] at hf
                  simp only [Prod.mk.injEq] at hf
                  obtain ⟨⟨rfl, rfl⟩, rfl⟩ := hf
                  generalize hatm : m + 1 = at_ at *
                  clear b3 hmx
                  have HMA := Aside.mk hmany
                  have HMD := Aside.mk hMD
                  have HK12 := Aside.mk (And.intro hk1 hk2)
                  clear hmany hMD hlt hk1 hk2
                  go_wp2_with fail
                  refine (hrow _ (H.out.keep (HB.out.mono hB))).mono ?_
                  rintro e w2 ⟨rfl, n2, rfl⟩
                  have hst2 := bl_drewN (Below.refl wr.heap.size wr) n2
                  replace HB := Aside.mk (bl_drewN HB.out n2)
                  have hown2 := own_below hown hst2
                  generalize wr.drewN n2 = wn at hst2 HB hown2 ⊢
                  clear hst2 hown
                  have cN : wn.cell? (ad.add at_) = some (.int .i64 y) := (HB.out.cell (by rw [block_of_add]; omega)).trans ca0
                  have cB : (ad.add at_).block < wn.heap.size := by have := HB.out.size; rw [block_of_add]; omega
                  obtain ⟨k0c, k1c, f0c, f1c⟩ := blkP (Blk.new wn 52 #[.int .i64 0, .int .i64 0])
                  have hog := fun k e => (hown2.lt k e).2
                  go_wp2_with fail
                  have K1 := Blk.new wn 52 #[.int .i64 y, .int .i64 0]
                  have HGE := Aside.mk HB.out.size
                  replace HB := Aside.mk (bl_alloc HB.out (.cells #[.int .i64 y, .int .i64 0] 52))
                  have hown3 := hown2.alloc (.cells #[.int .i64 y, .int .i64 0] 52)
                  have cNA : (wn.alloc (.cells #[.int .i64 y, .int .i64 0] 52)).cell? (ad.add at_) = some (.int .i64 y) := (World.cell?_alloc_lt _ _ _ cB).trans cN
                  have cYA := cy _ HB.out
                  have hzz : (wn.alloc (.cells #[.int .i64 y, .int .i64 0] 52)).heap.size = wn.heap.size + 1 := by simp
                  clear k0c k1c f0c f1c cN cB hown2
                  generalize wn.alloc (.cells #[.int .i64 y, .int .i64 0] 52) = wm at K1 HB hown3 cNA hzz cYA ⊢
                  go_quiet (fail)
                  replace K1 := K1.drewN nq
                  replace HB := Aside.mk (bl_drewN HB.out nq)
                  replace hown3 := own_drewN hown3 nq
                  replace hzz : (wm.drewN nq).heap.size = wn.heap.size + 1 := hzz
                  clear cNA cYA
                  generalize wm.drewN nq = wq at K1 HB hown3 hzz ⊢
                  obtain ⟨k0c, k1c, f0c, f1c⟩ := blkP K1
                  have hge := HB.out.size
                  have hgn : w.heap.size ≤ wn.heap.size := HGE.out
                  go_wp2_with (at_builtin; refine wpList_append_own _ rfl _ _ 23 rfl w.heap.size 52 i0 (.agg #[.int .i64 0, .int .i64 0]) 2 16 Try.underlying23 hi0 hz0 hz1 hz2 rfl (by decide) _ _ _ rfl ((ownsRow_setCell_other (ownsRow_setCell_other hown3 (a := ⟨wn.heap.size, 0, none⟩) (fun e => Nat.lt_irrefl _ (hog _ e)) (.int .i64 16)) (a := ⟨wn.heap.size, 1, none⟩) (fun e => Nat.lt_irrefl _ (hog _ e)) (.int .i64 ((k : Int) - 3))).alloc (.cells #[.int .i64 16, .int .i64 ((k : Int) - 3)] 52)) ⟨wn.heap.size + 1, 0, none⟩ 1 1 [.int .i64 16, .int .i64 ((k : Int) - 3)] rfl rfl ?c1 ?c2 ?c3 ?c4 ?c5 ?_)
                  case c1 => exact cell_two_at _ _ (by simp [hzz]) _ _ _
                  case c2 => simp [Value.oneCell']
                  case c3 => unfold maxLen; omega
                  case c4 => omega
                  case c5 => have := HB.out.size; simp [hzz]; omega
                  intro v' w1 hown' hgrow _
                  have HB1 := Aside.mk (below_grown (bl_alloc (bl_set (bl_set HB.out (p := ⟨wn.heap.size, 0, none⟩) hgn (.int .i64 16)) (p := ⟨wn.heap.size, 1, none⟩) hgn (.int .i64 ((k : Int) - 3))) (.cells #[.int .i64 16, .int .i64 ((k : Int) - 3)] 52)) ((ownsRow_setCell_other (ownsRow_setCell_other hown3 (a := ⟨wn.heap.size, 0, none⟩) (fun e => Nat.lt_irrefl _ (hog _ e)) (.int .i64 16)) (a := ⟨wn.heap.size, 1, none⟩) (fun e => Nat.lt_irrefl _ (hog _ e)) (.int .i64 ((k : Int) - 3))).alloc (.cells #[.int .i64 16, .int .i64 ((k : Int) - 3)] 52)) hgrow)
                  have K2 : Blk w1 wn.heap.size 52 #[.int .i64 16, .int .i64 ((k : Int) - 3)] := (hgrow.block wn.heap.size (by simp [hzz]; omega) (fun e => Nat.lt_irrefl _ (hog _ e.symm))).trans (((K1.set_ 0 (.int .i64 16)).set_ 1 (.int .i64 ((k : Int) - 3))).alloc _)
                  clear k0c k1c f0c f1c hgrow hown3
                  obtain ⟨k0c, k1c, f0c, f1c⟩ := blkP K2
                  have hmy := fun wq => many_any 16 ((k : Int) - 3) wq (by omega) (by omega)
                  rw [HMA.out] at hmy
                  clear hrow
                  go_wp2_with fail
                  refine (hmy _).mono ?_
                  rintro e w3 ⟨rfl, hb3⟩
                  have hown4 := own_below hown' hb3
                  replace HB := Aside.mk (bl_step HB1.out hb3)
                  clear k0c k1c f0c f1c K2 hmy hb3 hown'
                  go_wp2_with fail
                  obtain ⟨hk1, hk2⟩ := HK12.out
                  exact ⟨⟨at_ + k, ms ++ [(16, ((k : Int) - 3))], by go_num, by omega, by rw [List.length_append]; simp only [List.length_cons, List.length_nil]; omega, own_snoc2 hown4, ⟨by rw [List.append_assoc]; exact HMD.out⟩, HB⟩, by simp [intOf]; omega⟩
              · rw [if_neg a3] at hf
                simp only [Prod.mk.injEq] at hf
                obtain ⟨⟨rfl, rfl⟩, rfl⟩ := hf
                by_cases b1 : sy = 0
                · subst b1
                  have d1 : decide ((11 : Int) ≤ R) = false := decide_eq_false (by omega)
                  have d2 : decide ((3 : Int) ≤ R) = false := decide_eq_false (by omega)
                  clear a1 a2 a3
                  have HMA := Aside.mk hmany
                  have HMD := Aside.mk hMD
                  have HK12 := Aside.mk (And.intro hk1 hk2)
                  clear hmany hMD hlt hk1 hk2
                  go_wp2_with fail
                  refine (hrow _ (H.out.keep (HB.out.mono hB))).mono ?_
                  rintro e w2 ⟨rfl, n2, rfl⟩
                  have hst2 := bl_drewN (Below.refl wr.heap.size wr) n2
                  replace HB := Aside.mk (bl_drewN HB.out n2)
                  have hown2 := own_below hown hst2
                  generalize wr.drewN n2 = wn at hst2 HB hown2 ⊢
                  clear hst2 hown
                  have cN : wn.cell? (ad.add at_) = some (.int .i64 0) := (HB.out.cell (by rw [block_of_add]; omega)).trans ca0
                  have cB : (ad.add at_).block < wn.heap.size := by have := HB.out.size; rw [block_of_add]; omega
                  obtain ⟨k0c, k1c, f0c, f1c⟩ := blkP (Blk.new wn 52 #[.int .i64 0, .int .i64 0])
                  have hog := fun k e => (hown2.lt k e).2
                  go_wp2_with fail
                  have K1 := Blk.new wn 52 #[.int .i64 0, .int .i64 0]
                  have HGE := Aside.mk HB.out.size
                  replace HB := Aside.mk (bl_alloc HB.out (.cells #[.int .i64 0, .int .i64 0] 52))
                  have hown3 := hown2.alloc (.cells #[.int .i64 0, .int .i64 0] 52)
                  have cNA : (wn.alloc (.cells #[.int .i64 0, .int .i64 0] 52)).cell? (ad.add at_) = some (.int .i64 0) := (World.cell?_alloc_lt _ _ _ cB).trans cN
                  have hzz : (wn.alloc (.cells #[.int .i64 0, .int .i64 0] 52)).heap.size = wn.heap.size + 1 := by simp
                  clear k0c k1c f0c f1c cN cB hown2
                  generalize wn.alloc (.cells #[.int .i64 0, .int .i64 0] 52) = wm at K1 HB hown3 cNA hzz ⊢
                  go_quiet (fail)
                  replace K1 := K1.drewN nq
                  replace HB := Aside.mk (bl_drewN HB.out nq)
                  replace hown3 := own_drewN hown3 nq
                  replace hzz : (wm.drewN nq).heap.size = wn.heap.size + 1 := hzz
                  clear cNA 
                  generalize wm.drewN nq = wq at K1 HB hown3 hzz ⊢
                  obtain ⟨k0c, k1c, f0c, f1c⟩ := blkP K1
                  have hge := HB.out.size
                  have hgn : w.heap.size ≤ wn.heap.size := HGE.out
                  go_wp2_with (at_builtin; refine wpList_append_own _ rfl _ _ 23 rfl w.heap.size 52 i0 (.agg #[.int .i64 0, .int .i64 0]) 2 16 Try.underlying23 hi0 hz0 hz1 hz2 rfl (by decide) _ _ _ rfl (hown3.alloc (.cells #[.int .i64 0, .int .i64 0] 52)) ⟨wn.heap.size + 1, 0, none⟩ 1 1 [.int .i64 0, .int .i64 0] rfl rfl ?c1 ?c2 ?c3 ?c4 ?c5 ?_)
                  case c1 => exact cell_two_at _ _ (by simp [hzz]) _ _ _
                  case c2 => simp [Value.oneCell']
                  case c3 => unfold maxLen; omega
                  case c4 => omega
                  case c5 => have := HB.out.size; simp [hzz]; omega
                  intro v' w1 hown' hgrow _
                  have HB1 := Aside.mk (below_grown (bl_alloc HB.out (.cells #[.int .i64 0, .int .i64 0] 52)) (hown3.alloc (.cells #[.int .i64 0, .int .i64 0] 52)) hgrow)
                  have K2 : Blk w1 wn.heap.size 52 #[.int .i64 0, .int .i64 0] := (hgrow.block wn.heap.size (by simp [hzz]; omega) (fun e => Nat.lt_irrefl _ (hog _ e.symm))).trans (K1.alloc _)
                  clear k0c k1c f0c f1c hgrow hown3
                  obtain ⟨k0c, k1c, f0c, f1c⟩ := blkP K2
                  have hmy := fun wq => many_any 0 0 wq (by omega) (by omega)
                  rw [HMA.out] at hmy
                  clear hrow
                  go_wp2_with fail
                  refine (hmy _).mono ?_
                  rintro e w3 ⟨rfl, hb3⟩
                  have hown4 := own_below hown' hb3
                  replace HB := Aside.mk (bl_step HB1.out hb3)
                  clear k0c k1c f0c f1c K2 hmy hb3 hown'
                  go_wp2_with fail
                  obtain ⟨hk1, hk2⟩ := HK12.out
                  exact ⟨⟨at_ + 1, ms ++ [(0, 0)], by go_num, by omega, by rw [List.length_append]; simp only [List.length_cons, List.length_nil]; omega, own_snoc2 hown4, ⟨by rw [List.append_assoc]; exact HMD.out⟩, HB⟩, by simp [intOf]; omega⟩
                · have g0 : (sy == 0) = false := beq_eq_false_iff_ne.2 b1
                  have g1 : (sy != 0) = true := by simpa using b1
                  by_cases b2 : 3 ≤ R
                  · have d2 : (3 : Int) ≤ R := by omega
                    rcases Nat.eq_zero_or_pos at_ with h0 | h0
                    · subst h0
                      clear a1 a2 a3 b1
                      have HMA := Aside.mk hmany
                      have HMD := Aside.mk hMD
                      have HK12 := Aside.mk (And.intro hk1 hk2)
                      clear hmany hMD hlt hk1 hk2
                      go_wp2_with fail
                      refine (hrow _ (H.out.keep (HB.out.mono hB))).mono ?_
                      rintro e w2 ⟨rfl, n2, rfl⟩
                      have hst2 := bl_drewN (Below.refl wr.heap.size wr) n2
                      replace HB := Aside.mk (bl_drewN HB.out n2)
                      have hown2 := own_below hown hst2
                      generalize wr.drewN n2 = wn at hst2 HB hown2 ⊢
                      clear hst2 hown
                      have cN : wn.cell? ad = some (.int .i64 sy) := (HB.out.cell (by omega)).trans ca0
                      have cB : ad.block < wn.heap.size := by have := HB.out.size; omega
                      obtain ⟨k0c, k1c, f0c, f1c⟩ := blkP (Blk.new wn 52 #[.int .i64 0, .int .i64 0])
                      have hog := fun k e => (hown2.lt k e).2
                      go_wp2_with fail
                      have K1 := Blk.new wn 52 #[.int .i64 sy, .int .i64 0]
                      have HGE := Aside.mk HB.out.size
                      replace HB := Aside.mk (bl_alloc HB.out (.cells #[.int .i64 sy, .int .i64 0] 52))
                      have hown3 := hown2.alloc (.cells #[.int .i64 sy, .int .i64 0] 52)
                      have cNA : (wn.alloc (.cells #[.int .i64 sy, .int .i64 0] 52)).cell? ad = some (.int .i64 sy) := (World.cell?_alloc_lt _ _ _ cB).trans cN
                      have hzz : (wn.alloc (.cells #[.int .i64 sy, .int .i64 0] 52)).heap.size = wn.heap.size + 1 := by simp
                      clear k0c k1c f0c f1c cN cB hown2
                      generalize wn.alloc (.cells #[.int .i64 sy, .int .i64 0] 52) = wm at K1 HB hown3 cNA hzz ⊢
                      go_quiet (fail)
                      replace K1 := K1.drewN nq
                      replace HB := Aside.mk (bl_drewN HB.out nq)
                      replace hown3 := own_drewN hown3 nq
                      replace hzz : (wm.drewN nq).heap.size = wn.heap.size + 1 := hzz
                      clear cNA 
                      generalize wm.drewN nq = wq at K1 HB hown3 hzz ⊢
                      obtain ⟨k0c, k1c, f0c, f1c⟩ := blkP K1
                      have hge := HB.out.size
                      have hgn : w.heap.size ≤ wn.heap.size := HGE.out
                      go_wp2_with (at_builtin; refine wpList_append_own _ rfl _ _ 23 rfl w.heap.size 52 i0 (.agg #[.int .i64 0, .int .i64 0]) 2 16 Try.underlying23 hi0 hz0 hz1 hz2 rfl (by decide) _ _ _ rfl (hown3.alloc (.cells #[.int .i64 sy, .int .i64 0] 52)) ⟨wn.heap.size + 1, 0, none⟩ 1 1 [.int .i64 sy, .int .i64 0] rfl rfl ?c1 ?c2 ?c3 ?c4 ?c5 ?_)
                      case c1 => exact cell_two_at _ _ (by simp [hzz]) _ _ _
                      case c2 => simp [Value.oneCell']
                      case c3 => unfold maxLen; omega
                      case c4 => omega
                      case c5 => have := HB.out.size; simp [hzz]; omega
                      intro v' w1 hown' hgrow _
                      have HB1 := Aside.mk (below_grown (bl_alloc HB.out (.cells #[.int .i64 sy, .int .i64 0] 52)) (hown3.alloc (.cells #[.int .i64 sy, .int .i64 0] 52)) hgrow)
                      have K2 : Blk w1 wn.heap.size 52 #[.int .i64 sy, .int .i64 0] := (hgrow.block wn.heap.size (by simp [hzz]; omega) (fun e => Nat.lt_irrefl _ (hog _ e.symm))).trans (K1.alloc _)
                      clear k0c k1c f0c f1c hgrow hown3
                      obtain ⟨k0c, k1c, f0c, f1c⟩ := blkP K2
                      have hmy := fun wq => many_any sy 0 wq (by omega) (by omega)
                      rw [HMA.out] at hmy
                      clear hrow
                      go_wp2_with fail
                      refine (hmy _).mono ?_
                      rintro e w3 ⟨rfl, hb3⟩
                      have hown4 := own_below hown' hb3
                      replace HB := Aside.mk (bl_step HB1.out hb3)
                      clear k0c k1c f0c f1c K2 hmy hb3 hown'
                      go_wp2_with fail
                      obtain ⟨hk1, hk2⟩ := HK12.out
                      exact ⟨⟨0 + 1, ms ++ [(sy, 0)], by go_num, by omega, by rw [List.length_append]; simp only [List.length_cons, List.length_nil]; omega, own_snoc2 hown4, ⟨by rw [List.append_assoc]; exact HMD.out⟩, HB⟩, by simp [intOf]; omega⟩
                    · obtain ⟨y, e1, -, hyb, cy⟩ := hprev.out h0
                      have g4 : (y == sy) = false := beq_eq_false_iff_ne.2 (by omega)
                      obtain ⟨m, rfl⟩ : ∃ m, at_ = m + 1 := ⟨at_ - 1, by omega⟩
                      rw [Nat.add_sub_cancel] at hyb cy
                      have p1 : (0 : Int) < ((m + 1 : Nat) : Int) := by omega
                      have p2 : ((m + 1 : Nat) : Int) - 1 = (m : Int) := by omega
                      have p3 : (0 : Int) ≤ (m : Int) := by omega
                      have p4 : (m : Int) < xs.length := by omega
                      clear hprev hl0 e1 a1 a2 a3
                      generalize hatm : m + 1 = at_ at *
                      clear b1
                      have HMA := Aside.mk hmany
                      have HMD := Aside.mk hMD
                      have HK12 := Aside.mk (And.intro hk1 hk2)
                      clear hmany hMD hlt hk1 hk2
                      go_wp2_with fail
                      refine (hrow _ (H.out.keep (HB.out.mono hB))).mono ?_
                      rintro e w2 ⟨rfl, n2, rfl⟩
                      have hst2 := bl_drewN (Below.refl wr.heap.size wr) n2
                      replace HB := Aside.mk (bl_drewN HB.out n2)
                      have hown2 := own_below hown hst2
                      generalize wr.drewN n2 = wn at hst2 HB hown2 ⊢
                      clear hst2 hown
                      have cN : wn.cell? (ad.add at_) = some (.int .i64 sy) := (HB.out.cell (by rw [block_of_add]; omega)).trans ca0
                      have cB : (ad.add at_).block < wn.heap.size := by have := HB.out.size; rw [block_of_add]; omega
                      obtain ⟨k0c, k1c, f0c, f1c⟩ := blkP (Blk.new wn 52 #[.int .i64 0, .int .i64 0])
                      have hog := fun k e => (hown2.lt k e).2
                      go_wp2_with fail
                      have K1 := Blk.new wn 52 #[.int .i64 sy, .int .i64 0]
                      have HGE := Aside.mk HB.out.size
                      replace HB := Aside.mk (bl_alloc HB.out (.cells #[.int .i64 sy, .int .i64 0] 52))
                      have hown3 := hown2.alloc (.cells #[.int .i64 sy, .int .i64 0] 52)
                      have cNA : (wn.alloc (.cells #[.int .i64 sy, .int .i64 0] 52)).cell? (ad.add at_) = some (.int .i64 sy) := (World.cell?_alloc_lt _ _ _ cB).trans cN
                      have cYA := cy _ HB.out
                      have hzz : (wn.alloc (.cells #[.int .i64 sy, .int .i64 0] 52)).heap.size = wn.heap.size + 1 := by simp
                      clear k0c k1c f0c f1c cN cB hown2
                      generalize wn.alloc (.cells #[.int .i64 sy, .int .i64 0] 52) = wm at K1 HB hown3 cNA hzz cYA ⊢
                      go_quiet (fail)
                      replace K1 := K1.drewN nq
                      replace HB := Aside.mk (bl_drewN HB.out nq)
                      replace hown3 := own_drewN hown3 nq
                      replace hzz : (wm.drewN nq).heap.size = wn.heap.size + 1 := hzz
                      clear cNA cYA
                      generalize wm.drewN nq = wq at K1 HB hown3 hzz ⊢
                      obtain ⟨k0c, k1c, f0c, f1c⟩ := blkP K1
                      have hge := HB.out.size
                      have hgn : w.heap.size ≤ wn.heap.size := HGE.out
                      go_wp2_with (at_builtin; refine wpList_append_own _ rfl _ _ 23 rfl w.heap.size 52 i0 (.agg #[.int .i64 0, .int .i64 0]) 2 16 Try.underlying23 hi0 hz0 hz1 hz2 rfl (by decide) _ _ _ rfl (hown3.alloc (.cells #[.int .i64 sy, .int .i64 0] 52)) ⟨wn.heap.size + 1, 0, none⟩ 1 1 [.int .i64 sy, .int .i64 0] rfl rfl ?c1 ?c2 ?c3 ?c4 ?c5 ?_)
                      case c1 => exact cell_two_at _ _ (by simp [hzz]) _ _ _
                      case c2 => simp [Value.oneCell']
                      case c3 => unfold maxLen; omega
                      case c4 => omega
                      case c5 => have := HB.out.size; simp [hzz]; omega
                      intro v' w1 hown' hgrow _
                      have HB1 := Aside.mk (below_grown (bl_alloc HB.out (.cells #[.int .i64 sy, .int .i64 0] 52)) (hown3.alloc (.cells #[.int .i64 sy, .int .i64 0] 52)) hgrow)
                      have K2 : Blk w1 wn.heap.size 52 #[.int .i64 sy, .int .i64 0] := (hgrow.block wn.heap.size (by simp [hzz]; omega) (fun e => Nat.lt_irrefl _ (hog _ e.symm))).trans (K1.alloc _)
                      clear k0c k1c f0c f1c hgrow hown3
                      obtain ⟨k0c, k1c, f0c, f1c⟩ := blkP K2
                      have hmy := fun wq => many_any sy 0 wq (by omega) (by omega)
                      rw [HMA.out] at hmy
                      clear hrow
                      go_wp2_with fail
                      refine (hmy _).mono ?_
                      rintro e w3 ⟨rfl, hb3⟩
                      have hown4 := own_below hown' hb3
                      replace HB := Aside.mk (bl_step HB1.out hb3)
                      clear k0c k1c f0c f1c K2 hmy hb3 hown'
                      go_wp2_with fail
                      obtain ⟨hk1, hk2⟩ := HK12.out
                      exact ⟨⟨at_ + 1, ms ++ [(sy, 0)], by go_num, by omega, by rw [List.length_append]; simp only [List.length_cons, List.length_nil]; omega, own_snoc2 hown4, ⟨by rw [List.append_assoc]; exact HMD.out⟩, HB⟩, by simp [intOf]; omega⟩
                  · have d2 : decide ((3 : Int) ≤ R) = false := decide_eq_false (by omega)
                    clear a1 a2 a3 b1
                    have HMA := Aside.mk hmany
                    have HMD := Aside.mk hMD
                    have HK12 := Aside.mk (And.intro hk1 hk2)
                    clear hmany hMD hlt hk1 hk2
                    go_wp2_with fail
                    refine (hrow _ (H.out.keep (HB.out.mono hB))).mono ?_
                    rintro e w2 ⟨rfl, n2, rfl⟩
                    have hst2 := bl_drewN (Below.refl wr.heap.size wr) n2
                    replace HB := Aside.mk (bl_drewN HB.out n2)
                    have hown2 := own_below hown hst2
                    generalize wr.drewN n2 = wn at hst2 HB hown2 ⊢
                    clear hst2 hown
                    have cN : wn.cell? (ad.add at_) = some (.int .i64 sy) := (HB.out.cell (by rw [block_of_add]; omega)).trans ca0
                    have cB : (ad.add at_).block < wn.heap.size := by have := HB.out.size; rw [block_of_add]; omega
                    obtain ⟨k0c, k1c, f0c, f1c⟩ := blkP (Blk.new wn 52 #[.int .i64 0, .int .i64 0])
                    have hog := fun k e => (hown2.lt k e).2
                    go_wp2_with fail
                    have K1 := Blk.new wn 52 #[.int .i64 sy, .int .i64 0]
                    have HGE := Aside.mk HB.out.size
                    replace HB := Aside.mk (bl_alloc HB.out (.cells #[.int .i64 sy, .int .i64 0] 52))
                    have hown3 := hown2.alloc (.cells #[.int .i64 sy, .int .i64 0] 52)
                    have cNA : (wn.alloc (.cells #[.int .i64 sy, .int .i64 0] 52)).cell? (ad.add at_) = some (.int .i64 sy) := (World.cell?_alloc_lt _ _ _ cB).trans cN
                    have hzz : (wn.alloc (.cells #[.int .i64 sy, .int .i64 0] 52)).heap.size = wn.heap.size + 1 := by simp
                    clear k0c k1c f0c f1c cN cB hown2
                    generalize wn.alloc (.cells #[.int .i64 sy, .int .i64 0] 52) = wm at K1 HB hown3 cNA hzz ⊢
                    go_quiet (fail)
                    replace K1 := K1.drewN nq
                    replace HB := Aside.mk (bl_drewN HB.out nq)
                    replace hown3 := own_drewN hown3 nq
                    replace hzz : (wm.drewN nq).heap.size = wn.heap.size + 1 := hzz
                    clear cNA 
                    generalize wm.drewN nq = wq at K1 HB hown3 hzz ⊢
                    obtain ⟨k0c, k1c, f0c, f1c⟩ := blkP K1
                    have hge := HB.out.size
                    have hgn : w.heap.size ≤ wn.heap.size := HGE.out
                    go_wp2_with (at_builtin; refine wpList_append_own _ rfl _ _ 23 rfl w.heap.size 52 i0 (.agg #[.int .i64 0, .int .i64 0]) 2 16 Try.underlying23 hi0 hz0 hz1 hz2 rfl (by decide) _ _ _ rfl (hown3.alloc (.cells #[.int .i64 sy, .int .i64 0] 52)) ⟨wn.heap.size + 1, 0, none⟩ 1 1 [.int .i64 sy, .int .i64 0] rfl rfl ?c1 ?c2 ?c3 ?c4 ?c5 ?_)
                    case c1 => exact cell_two_at _ _ (by simp [hzz]) _ _ _
                    case c2 => simp [Value.oneCell']
                    case c3 => unfold maxLen; omega
                    case c4 => omega
                    case c5 => have := HB.out.size; simp [hzz]; omega
                    intro v' w1 hown' hgrow _
                    have HB1 := Aside.mk (below_grown (bl_alloc HB.out (.cells #[.int .i64 sy, .int .i64 0] 52)) (hown3.alloc (.cells #[.int .i64 sy, .int .i64 0] 52)) hgrow)
                    have K2 : Blk w1 wn.heap.size 52 #[.int .i64 sy, .int .i64 0] := (hgrow.block wn.heap.size (by simp [hzz]; omega) (fun e => Nat.lt_irrefl _ (hog _ e.symm))).trans (K1.alloc _)
                    clear k0c k1c f0c f1c hgrow hown3
                    obtain ⟨k0c, k1c, f0c, f1c⟩ := blkP K2
                    have hmy := fun wq => many_any sy 0 wq (by omega) (by omega)
                    rw [HMA.out] at hmy
                    clear hrow
                    go_wp2_with fail
                    refine (hmy _).mono ?_
                    rintro e w3 ⟨rfl, hb3⟩
                    have hown4 := own_below hown' hb3
                    replace HB := Aside.mk (bl_step HB1.out hb3)
                    clear k0c k1c f0c f1c K2 hmy hb3 hown'
                    go_wp2_with fail
                    obtain ⟨hk1, hk2⟩ := HK12.out
                    exact ⟨⟨at_ + 1, ms ++ [(sy, 0)], by go_num, by omega, by rw [List.length_append]; simp only [List.length_cons, List.length_nil]; omega, own_snoc2 hown4, ⟨by rw [List.append_assoc]; exact HMD.out⟩, HB⟩, by simp [intOf]; omega⟩
        · obtain rfl : at_ = xs.length := by omega
          have HE : Aside (ms = D) := ⟨by have := HM.out; rwa [List.drop_length, Runs.pk_nil, List.append_nil] at this⟩
          have HP := Aside.mk (pairsAt_own hown)
          clear hown
          go_wp2_with fail
          go_ret
          exact ⟨_, rfl, by rw [← HE.out]; exact HP.out, HB.out⟩
end Go.Proofs.Ytjmenlffhoodeac
