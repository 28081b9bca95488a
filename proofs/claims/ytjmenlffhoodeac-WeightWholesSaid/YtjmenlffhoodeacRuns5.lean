/- runs.Pack, walked. -/
import Derived.Test.YtjmenlffhoodeacRuns4
namespace Go.Proofs.Ytjmenlffhoodeac
open Go.RowKit

theorem run_info : (Try.prog.info? 52).map (fun i => (i.zero, i.size, i.bytes)) = some (some (.agg #[.int .i64 0, .int .i64 0]), 2, 16) := by kernel_rfl
theorem cell_two_new (w : World) (t : TypeId) (x y : Value) : ∀ j u, [x, y][j]? = some u → (w.alloc (.cells #[x, y] t)).cell? ((⟨w.heap.size, 0, none⟩ : Addr).add j) = some u := by
  intro j u hu
  match j, hu with
  | 0, hu => simp at hu; subst hu; exact (Blk.new w t #[x, y]).cell 0
  | 1, hu => simp at hu; subst hu; exact (Blk.new w t #[x, y]).cell 1
theorem own_snoc2 {w : World} {B : Nat} {v : Value} {ms : List (Int × Int)} {a b : Int} (h : w.ownsRow B 52 2 v (ms.length + 1) (cells2 ms ++ [.int .i64 a, .int .i64 b])) : w.ownsRow B 52 2 v (ms ++ [(a, b)]).length (cells2 (ms ++ [(a, b)])) := by
  rw [cells2_append, List.length_append]; exact h
theorem IntsG.cut {w : World} {B : Nat} {A : Option Addr} {xs : List Int} (h : IntsG w B A xs) (k cap : Nat) (hc : xs.length ≤ cap) : IntsG w B (if cap = k then A else A.map (·.add k)) (xs.drop k) := fun i hi => by
  rw [List.length_drop] at hi
  obtain ⟨ad, rfl, hb, c⟩ := h (k + i) (by omega)
  rw [if_neg (by omega)]
  exact ⟨ad.add k, rfl, by rw [block_of_add]; exact hb, by rw [add_of_add, c]; simp [List.getD]⟩
theorem IntsG.via {w wr w1 : World} {B : Nat} {A : Option Addr} {xs : List Int} (h : IntsG wr B A xs) (h1 : Below w.heap.size w wr) (h2 : Below w.heap.size w w1) (hB : B ≤ w.heap.size) : IntsG w1 B A xs := fun i hi => by
  obtain ⟨ad, e, hb, c⟩ := h i hi
  exact ⟨ad, e, hb, (h2.cell (by rw [block_of_add]; omega)).trans ((h1.cell (by rw [block_of_add]; omega)).symm.trans c)⟩
def sliceLen : Value → Nat
  | .slice _ n _ => n
  | _ => 0
theorem good_iff (xs : List Int) : Runs.good xs = true ↔ ∀ x ∈ xs, 0 ≤ x ∧ x ≤ 15 := by unfold Runs.good; simp
theorem getD_mem (xs : List Int) (i : Nat) (h : i < xs.length) : xs.getD i 0 ∈ xs := by simp [List.getD, List.getElem?_eq_getElem h]
theorem mem_getD (xs : List Int) (x : Int) (h : x ∈ xs) : ∃ i, i < xs.length ∧ xs.getD i 0 = x := by
  obtain ⟨i, hi, e⟩ := List.getElem_of_mem h
  exact ⟨i, hi, by simp [List.getD, List.getElem?_eq_getElem hi, e]⟩

set_option maxRecDepth 100000 in
set_option maxHeartbeats 8000000 in
theorem pack_any (xs : List Int) (A : Option Addr) (cap : Nat) (B : Nat) (w : World) (h : IntsG w B A xs) (hB : B ≤ w.heap.size) (hl : xs.length ≤ cap) (_hc : cap ≤ maxLen) (hx : xs.length ≤ 5000) :
    Calls Try.prog 12 #[.slice A xs.length cap] w fun e w' => ∃ v, e = .returned v ∧ PairsAt w' w'.heap.size v (Runs.pack xs) ∧ Below w.heap.size w w' := by
  obtain ⟨i0, hi0, hz0, hz1, hz2⟩ := info_parts run_info
  have H := Aside.mk h
  have HG : Aside (Runs.pack xs = if Runs.good xs then Runs.pk (-1) xs else []) := ⟨rfl⟩
  generalize Runs.pack xs = D at HG ⊢
  unfold maxLen at _hc
  clear h
  go_enter Try.func12, Try.ntmps12
  go_wp2_with fail
  go_loop [4, 11] (fun _ q => ∃ i : Nat, i ≤ xs.length ∧ q = .int .i64 i ∧ Aside (∀ j, j < i → 0 ≤ xs.getD j 0 ∧ xs.getD j 0 ≤ 15)) (fun _ q => xs.length - (intOf q).toNat)
  case atStart => exact ⟨0, by omega, rfl, ⟨fun j hj => by omega⟩⟩
  case round =>
    obtain ⟨i, hi, rfl, HJ⟩ := hrel
    by_cases hlt : i < xs.length
    · obtain ⟨ad, rfl, hb, c⟩ := H.out i hlt
      have i1 : (0 : Int) ≤ i := by omega
      have i2 : (i : Int) < xs.length := by omega
      have hm := getD_mem xs i hlt
      by_cases hg : 0 ≤ xs.getD i 0 ∧ xs.getD i 0 ≤ 15
      · have HJ2 : Aside (∀ j, j < i + 1 → 0 ≤ xs.getD j 0 ∧ xs.getD j 0 ≤ 15) := ⟨fun j hj => by
          rcases Nat.lt_or_ge j i with h1 | h1
          · exact HJ.out j h1
          · rw [show j = i from by omega]; exact hg⟩
        clear hm
        generalize xs.getD i 0 = x at c hg
        obtain ⟨g1, g2⟩ := hg
        go_wp2_with fail
        exact ⟨⟨i + 1, by omega, by go_num, HJ2⟩, by simp [intOf]; omega⟩
      · have HE : Aside (D = []) := ⟨by rw [HG.out, if_neg (fun h => hg ((good_iff xs).1 h _ hm))]⟩
        clear hm
        generalize xs.getD i 0 = x at c hg
        by_cases g1 : x < 0
        · clear hg
          go_wp2_with fail
          go_ret
          exact ⟨_, rfl, by rw [HE.out]; exact .inl ⟨rfl, rfl⟩, Below.refl _ _⟩
        · have g2 : (15 : Int) < x := by omega
          clear hg
          go_wp2_with fail
          go_ret
          exact ⟨_, rfl, by rw [HE.out]; exact .inl ⟨rfl, rfl⟩, Below.refl _ _⟩
    · obtain rfl : i = xs.length := by omega
      have hgood : Runs.good xs = true := (good_iff xs).2 fun x hx => by
        obtain ⟨j, hj, e⟩ := mem_getD xs x hx
        rw [← e]; exact HJ.out j hj
      have HE : Aside (Runs.pk (-1) xs = D) := ⟨by rw [HG.out, if_pos hgood]⟩
      have HY := Aside.mk ((good_iff xs).1 hgood)
      clear HG HJ hgood hlt
      go_wp2_with fail
      go_loopw [0, 5, 6, 7, 8] (fun sv ov lv _ _ wr => ∃ (ys : List Int) (A2 : Option Addr) (cap2 : Nat) (last : Int) (ms : List (Int × Int)), sv = .slice A2 ys.length cap2 ∧ ys.length ≤ cap2 ∧ cap2 ≤ cap ∧ ys.length ≤ 5000 ∧ lv = .int .i64 last ∧
        Aside (IntsG wr B A2 ys) ∧ Aside (∀ x ∈ ys, 0 ≤ x ∧ x ≤ 15) ∧ wr.ownsRow w.heap.size 52 2 ov ms.length (cells2 ms) ∧ ms.length + ys.length ≤ 5000 ∧ Aside (ms ++ Runs.pk last ys = D) ∧ Aside (Below w.heap.size w wr)) (fun sv _ _ _ _ _ => sliceLen sv)
      case atStart => exact ⟨xs, A, cap, -1, [], rfl, hl, Nat.le_refl _, hx, rfl, H, HY, World.ownsRow_nil _ _ _ _, by simp; exact hx, ⟨HE.out⟩, ⟨Below.refl _ _⟩⟩
      case round =>
        clear H HY HE
        obtain ⟨ys, A2, cap2, last, ms, rfl, y1, y2, y3, rfl, H, HY, hown, hlen, HM, HB⟩ := hrel
        cases ys with
        | nil =>
          have HE : Aside (ms = D) := ⟨by have := HM.out; rwa [Runs.pk_nil, List.append_nil] at this⟩
          have HP := Aside.mk (pairsAt_own hown)
          clear hown
          go_wp2_with fail
          go_ret
          exact ⟨_, rfl, by rw [← HE.out]; exact HP.out, HB.out⟩
        | cons x t =>
          have hp : (0 : Int) < (x :: t).length := by simp
          have hrun := fun wq (hq : IntsG wq B A2 (x :: t)) (hz : B ≤ wq.heap.size) => run_any x t A2 cap2 last B wq hq hz y3
          have hM := HM.out
          rw [Runs.pk_cons] at hM
          have hk := Runs.first_k x t last
          have hrl := Runs.rowN_le (x :: t)
          have hB2 : B ≤ wr.heap.size := Nat.le_trans hB HB.out.size
          have HCUT := Aside.mk (fun wq (hq : IntsG wq B A2 (x :: t)) => hq.cut (Runs.first (x :: t) last).2 cap2 y1)
          have HYD : Aside (∀ z ∈ (x :: t).drop (Runs.first (x :: t) last).2, 0 ≤ z ∧ z ≤ 15) := ⟨fun z hz => HY.out z (List.mem_of_mem_drop hz)⟩
          have hdl : ((x :: t).drop (Runs.first (x :: t) last).2).length = (x :: t).length - (Runs.first (x :: t) last).2 := List.length_drop
          obtain ⟨ad0, hA2, hb0, ca0⟩ := H.out 0 (by simp)
          rw [show (x :: t).getD 0 0 = x from rfl, add_zero_] at ca0
          generalize Runs.first (x :: t) last = F at hM hk HCUT HYD hdl hrun
          generalize (x :: t).drop F.2 = zs at hM HCUT HYD hdl
          obtain ⟨⟨sy, mo⟩, k⟩ := F
          simp only at hk hdl hrun HCUT
          have HM2 := Aside.mk hM
          generalize hxt : (x :: t).length = n at *
          subst hA2
          clear hM HM
          go_wp2_with fail
          refine (hrun _ H.out hB2).mono ?_
          rintro e w2 ⟨rfl, hb2⟩
          have hown2 := own_below hown hb2
          have HBr := HB
          have ca2 : w2.cell? ad0 = some (.int .i64 x) := (hb2.cell (by omega)).trans ca0
          replace HB := Aside.mk (bl_step HB.out hb2)
          have HCA := Aside.mk ca0
          clear hown hb2 ca0
          go_wp2_with (at_builtin; refine wpList_append_own _ rfl _ _ 23 rfl w.heap.size 52 i0 (.agg #[.int .i64 0, .int .i64 0]) 2 16 Try.underlying23 hi0 hz0 hz1 hz2 rfl (by decide) _ _ _ rfl ((hown2.alloc (.cells #[.int .i64 sy, .int .i64 mo] 52)).alloc (.cells #[.int .i64 sy, .int .i64 mo] 52)) ⟨w2.heap.size + 1, 0, none⟩ 1 1 [.int .i64 sy, .int .i64 mo] rfl rfl ?c1 ?c2 ?c3 ?c4 ?c5 ?_)
          case c1 =>
            have := cell_two_new (w2.alloc (.cells #[.int .i64 sy, .int .i64 mo] 52)) 52 (.int .i64 sy) (.int .i64 mo)
            simpa using this
          case c2 => simp [Value.oneCell']
          case c3 => unfold maxLen; omega
          case c4 => omega
          case c5 => have := HB.out.size; simp; omega
          intro v' w1 hown' hgrow _
          have HB1 := Aside.mk (below_grown (bl_alloc (bl_alloc HB.out (.cells #[.int .i64 sy, .int .i64 mo] 52)) (.cells #[.int .i64 sy, .int .i64 mo] 52)) ((hown2.alloc (.cells #[.int .i64 sy, .int .i64 mo] 52)).alloc (.cells #[.int .i64 sy, .int .i64 mo] 52)) hgrow)
          have H1 := H.out.via HBr.out HB1.out hB
          have ca1 : w1.cell? ad0 = some (.int .i64 x) := (HB1.out.cell (by omega)).trans ((HBr.out.cell (by omega)).symm.trans HCA.out)
          have HC2 := Aside.mk (HCUT.out _ H1)
          have kb : (k : Int) ≤ n := by omega
          have kb0 : (0 : Int) ≤ k := by omega
          clear hgrow hown2 ca2 HCUT H1 H HCA hrun
          go_wp2_with fail
          exact ⟨⟨zs, (if cap2 = k then some ad0 else some (ad0.add k)), cap2 - k, x, ms ++ [(sy, mo)], by rw [hdl], by omega, by omega, by omega, rfl, HC2, HYD, own_snoc2 hown', by simp; omega, ⟨by rw [List.append_assoc]; exact HM2.out⟩, HB1⟩, by simp [sliceLen]; omega⟩
end Go.Proofs.Ytjmenlffhoodeac
