/- Slices that came in, and runs' Unpack, walked. -/
import Derived.Test.YtjmenlffhoodeacRuns1
import Derived.Test.YtjmenlffhoodeacPairs
import Derived.Test.YtjmenlffhoodeacInts
namespace Go.Proofs.Ytjmenlffhoodeac
open Go.RowKit

theorem add_of_add (a : Addr) (i j : Nat) : (a.add i).add j = a.add (i + j) := by
  unfold Addr.add
  by_cases hi : i = 0 <;> by_cases hj : j = 0 <;> simp [hi, hj, Nat.add_assoc]
theorem block_of_add (a : Addr) (n : Nat) : (a.add n).block = a.block := by unfold Addr.add; split <;> rfl
/-- A slice of pairs, wherever it begins. -/
def PairsG (w : World) (B : Nat) (v : Value) (rs : List (Int × Int)) : Prop :=
  ∃ A cap, v = .slice A rs.length cap ∧ rs.length ≤ cap ∧ cap ≤ maxLen ∧ ∀ i, i < rs.length → ∃ ad, A = some ad ∧ ad.block < B ∧ w.cell? (ad.add (i * 2)) = some (.int .i64 (rs.getD i (0, 0)).1) ∧ w.cell? (ad.add (i * 2 + 1)) = some (.int .i64 (rs.getD i (0, 0)).2)
theorem addr_at (g j : Nat) : (⟨g, 0, none⟩ : Addr).add j = ⟨g, j, none⟩ := by unfold Addr.add; split <;> simp_all
theorem PairsAt.toG {w : World} {B : Nat} {v : Value} {xs : List (Int × Int)} (h : PairsAt w B v xs) : PairsG w B v xs := by
  rcases h with ⟨rfl, rfl⟩ | ⟨g, cap, hv, hg, h1, h2, hc⟩
  · exact ⟨none, 0, rfl, by simp, by simp [maxLen], fun i hi => absurd hi (by simp)⟩
  · exact ⟨_, cap, hv, h1, h2, fun i hi => ⟨_, rfl, hg, by rw [addr_at]; exact (hc i hi).1, by rw [addr_at]; exact (hc i hi).2⟩⟩
theorem PairsG.keep {w w' : World} {B : Nat} {v : Value} {xs : List (Int × Int)} (h : PairsG w B v xs) (hk : Below B w w') : PairsG w' B v xs := by
  obtain ⟨A, cap, hv, h1, h2, hc⟩ := h
  refine ⟨A, cap, hv, h1, h2, fun i hi => ?_⟩
  obtain ⟨ad, e, hb, c1, c2⟩ := hc i hi
  exact ⟨ad, e, hb, by rw [hk.cell (by rw [block_of_add]; exact hb)]; exact c1, by rw [hk.cell (by rw [block_of_add]; exact hb)]; exact c2⟩
theorem PairsG.up {w : World} {B B' : Nat} {v : Value} {xs : List (Int × Int)} (h : PairsG w B v xs) (hB : B ≤ B') : PairsG w B' v xs := by
  obtain ⟨A, cap, hv, h1, h2, hc⟩ := h
  refine ⟨A, cap, hv, h1, h2, fun i hi => ?_⟩
  obtain ⟨ad, e, hb, c⟩ := hc i hi
  exact ⟨ad, e, by omega, c⟩
def okRuns (rs : List (Int × Int)) : Prop := ∀ r ∈ rs, -9223372036854775808 ≤ r.2 ∧ r.2 ≤ 9223372036854775807
theorem drop_pair (rs : List (Int × Int)) (i : Nat) (h : i < rs.length) : rs.drop i = rs.getD i (0, 0) :: rs.drop (i + 1) := by
  rw [List.drop_eq_getElem_cons h]
  simp [List.getD, List.getElem?_eq_getElem h]
theorem int_info : (Try.prog.info? 3).map (fun i => (i.zero, i.size, i.bytes)) = some (some (.int .i64 0), 1, 8) := by kernel_rfl

theorem own_keep {w w' : World} {base sz n : Nat} {e : TypeId} {v : Value} {xs : List Value} (h : w.ownsRow base e sz v n xs) (hk : ∀ g, v.ownBlock = some g → w'.heap[g]? = w.heap[g]?) : w'.ownsRow base e sz v n xs := by
  obtain ⟨h1, h2 | ⟨g, cap, cur, rfl, hb, hh, h3⟩⟩ := h
  · exact ⟨h1, .inl h2⟩
  · exact ⟨h1, .inr ⟨g, cap, cur, rfl, hb, (hk g rfl).trans hh, h3⟩⟩
theorem own_form {w : World} {base sz n : Nat} {e : TypeId} {v : Value} {xs : List Value} (h : w.ownsRow base e sz v n xs) : ∃ A c, v = .slice A n c := by
  obtain ⟨_, ⟨rfl, rfl⟩ | ⟨g, cap, cur, rfl, _⟩⟩ := h
  · exact ⟨_, _, rfl⟩
  · exact ⟨_, _, rfl⟩
theorem own_rep {w : World} {B j : Nat} {v : Value} {xs : List Int} {x : Int} (h : w.ownsRow B 3 1 v (xs.length + j + 1) (xs.map (Value.int .i64) ++ (List.replicate j (Value.int .i64 x) ++ [.int .i64 x]))) :
    w.ownsRow B 3 1 v (xs ++ List.replicate (j + 1) x).length ((xs ++ List.replicate (j + 1) x).map (Value.int .i64)) := by
  rw [List.length_append, List.length_replicate, List.map_append, List.map_replicate, List.replicate_succ']
  exact h
theorem lastOf_rep (xs : List Int) (j : Nat) (x : Int) (h : 1 ≤ j) : Runs.lastOf (xs ++ List.replicate j x) = x := by
  unfold Runs.lastOf
  rw [List.getLast?_append, List.getLast?_replicate, if_neg (by omega)]
  rfl
theorem many_bd (s m : Int) (h : Runs.fine s m = true) : 1 ≤ Runs.many s m ∧ Runs.many s m ≤ 138 := by
  unfold Runs.many
  by_cases h1 : s = 16
  · subst h1; have := (fine_16 m).1 h; rw [if_pos (by omega)]; omega
  · by_cases h2 : s = 17
    · subst h2; have := (fine_17 m).1 h; rw [if_pos (by omega)]; omega
    · rw [if_neg (by omega)]
      by_cases h3 : s = 18
      · subst h3; have := (fine_18 m).1 h; rw [if_pos rfl]; omega
      · rw [if_neg h3]; omega
set_option maxRecDepth 100000 in
set_option maxHeartbeats 8000000 in
theorem unpack_any (rs : List (Int × Int)) (v : Value) (n : Int) (B : Nat) (w : World) (h : PairsG w B v rs) (hB : B ≤ w.heap.size) (hok : okRuns rs) (hlen : rs.length ≤ 100000) :
    Calls Try.prog 9 #[v, .int .i64 n] w fun e w' => ∃ r, e = .returned (.tuple #[r, .int .i64 (Runs.unpack rs n).2]) ∧ IntsAt w' w'.heap.size r (Runs.unpack rs n).1 ∧ Below w.heap.size w w' := by
  obtain ⟨i0, hi0, hz0, hz1, hz2⟩ := info_parts int_info
  by_cases h1 : n < 0
  · have e : Runs.unpack rs n = ([], 1) := by unfold Runs.unpack; rw [if_pos (by omega)]
    rw [e]
    obtain ⟨A, cap, rfl, _⟩ := h
    have d1 : decide (n < 0) = true := decide_eq_true h1
    go_enter Try.func9, Try.ntmps9
    go_wp2_with fail
    go_ret2
    exact ⟨_, rfl, .inl ⟨rfl, rfl⟩, Below.refl _ _⟩
  · by_cases h2 : 1024 < n
    · have e : Runs.unpack rs n = ([], 1) := by unfold Runs.unpack; rw [if_pos (by omega)]
      rw [e]
      obtain ⟨A, cap, rfl, _⟩ := h
      have d1 : decide (n < 0) = false := decide_eq_false h1
      have d2 : decide (1024 < n) = true := decide_eq_true h2
      go_enter Try.func9, Try.ntmps9
      go_wp2_with fail
      go_ret2
      exact ⟨_, rfl, .inl ⟨rfl, rfl⟩, Below.refl _ _⟩
    · have e : Runs.unpack rs n = Runs.unp n rs [] := by unfold Runs.unpack; rw [if_neg (by omega)]
      rw [e]
      obtain ⟨N, rfl⟩ : ∃ N : Nat, n = N := ⟨n.toNat, by omega⟩
      have hN : N ≤ 1024 := by omega
      have d1 : decide ((N : Int) < 0) = false := decide_eq_false h1
      have d2 : decide ((1024 : Int) < N) = false := decide_eq_false h2
      have HP := Aside.mk h
      have HK := Aside.mk hok
      obtain ⟨A, cap, rfl, l1, l2, hc⟩ := h
      have HC := Aside.mk hc
      clear hc h1 h2 e
      generalize hD : Runs.unp (N : Int) rs [] = D
      have HD := Aside.mk hD
      unfold maxLen at l2
      clear hD hok
      go_enter Try.func9, Try.ntmps9
      go_wp2_with fail
      go_loopw [6, 7, 9, 10, 11, 20] (fun ov lv _ _ _ iv wr => ∃ (i : Nat) (xs : List Int), i ≤ rs.length ∧ iv = .int .i64 i ∧ xs.length ≤ N ∧ lv = .int .i64 (Runs.lastOf xs) ∧ wr.ownsRow w.heap.size 3 1 ov xs.length (xs.map (Value.int .i64)) ∧
        Aside (Runs.unp (N : Int) (rs.drop i) xs = D) ∧ Aside (Below w.heap.size w wr)) (fun _ _ _ _ _ iv _ => rs.length - (intOf iv).toNat)
      case atStart => exact ⟨0, [], by omega, rfl, by simp, rfl, World.ownsRow_nil _ _ _ _, ⟨HD.out⟩, ⟨Below.refl _ _⟩⟩
      case round =>
        obtain ⟨i, xs, hi, rfl, hxs, rfl, hown, HM, HB⟩ := hrel
        obtain ⟨Ao, co, rfl⟩ := own_form hown
        by_cases hlt : i < rs.length
        · obtain ⟨ad, rfl, hb, c1, c2⟩ := HC.out i hlt
          have k1 : wr.cell? (ad.add (i * 2)) = _ := (HB.out.cell (by rw [block_of_add]; omega)).trans c1
          have k2 : wr.cell? (ad.add (i * 2 + 1)) = _ := (HB.out.cell (by rw [block_of_add]; omega)).trans c2
          have k3 : wr.cell? ⟨(ad.add (i * 2)).block, (ad.add (i * 2)).off + 1, none⟩ = some (.int .i64 (rs.getD i (0, 0)).2) := by
            have := k2
            rw [← add_of_add] at this
            exact this
          have hmem : rs.getD i (0, 0) ∈ rs := by simp [List.getD, List.getElem?_eq_getElem hlt]
          have hbd := HK.out _ hmem
          have HDR := Aside.mk (drop_pair rs i hlt)
          generalize rs.getD i (0, 0) = sm at k1 k2 k3 hbd HDR
          obtain ⟨sy, mo⟩ := sm
          have HBD := Aside.mk hbd
          clear hmem hbd
          simp only at k1 k2 k3
          have i1 : (0 : Int) ≤ i := by omega
          have i2 : (i : Int) < rs.length := by omega
          clear c1 c2
          -- the round's middle
          go_wp2_with fail
          refine (size_any sy mo _ HBD.out).mono ?_
          rintro e w2 ⟨rfl, hb2⟩
          have hM := HM.out
          rw [HDR.out] at hM
          unfold Runs.unp at hM
          have K1 := Aside.mk ((Blk.new wr 52 #[.int .i64 sy, .int .i64 mo]).below hb2 (by simp))
          have HO := Aside.mk (own_keep (w' := w2) (hown.alloc (.cells #[.int .i64 sy, .int .i64 mo] 52)) (fun g hg => hb2.block g ((hown.alloc _).lt g hg).2))
          replace HB := Aside.mk (bl_step (bl_alloc HB.out (.cells #[.int .i64 sy, .int .i64 mo] 52)) hb2)
          clear k1 k2 k3 hown hb2 hb
          generalize wr.heap.size = gN at K1 ⊢
          cases hf : Runs.fine sy mo with
          | false =>
            have HE : Aside (D = ([], 2)) := ⟨by rw [if_pos hf] at hM; exact hM.symm⟩
            clear hM
            simp only [Bool.false_eq_true, if_false]
            go_wp2_with fail
            go_ret2
            exact ⟨_, by rw [HE.out]; rfl, by rw [HE.out]; exact .inl ⟨rfl, rfl⟩, HB.out⟩
          | true =>
            rw [if_neg (by rw [hf]; simp)] at hM
            simp only [if_true]
            have hmb := many_bd sy mo hf
            by_cases hbig : Runs.many sy mo > (N : Int) - xs.length
            · have HE : Aside (D = ([], 4)) := ⟨by rw [if_pos hbig] at hM; exact hM.symm⟩
              have hbg : (N : Int) - xs.length < Runs.many sy mo := hbig
              clear hM hbig
              generalize Runs.many sy mo = k at hmb hbg ⊢
              go_wp2_with fail
              go_ret2
              exact ⟨_, by rw [HE.out]; rfl, by rw [HE.out]; exact .inl ⟨rfl, rfl⟩, HB.out⟩
            · rw [if_neg hbig] at hM
              have hbg : ¬ (N : Int) - xs.length < Runs.many sy mo := hbig
              clear hbig
              obtain ⟨K, hK⟩ : ∃ K : Nat, Runs.many sy mo = K := ⟨(Runs.many sy mo).toNat, by omega⟩
              rw [hK] at hM hmb hbg ⊢
              rw [Int.toNat_natCast] at hM
              have hK1 : 1 ≤ K := by omega
              have HKN : xs.length + K ≤ N := by omega
              have hK2 : (K : Int) ≤ N - xs.length := by omega
              clear hK hbg
              have k0c := K1.out.cell 0
              have HZ := trivial
              by_cases h17 : sy = 17
              · subst h17
                have HN : Aside (Runs.unp (N : Int) (rs.drop (i + 1)) (xs ++ List.replicate K 0) = D) := ⟨hM⟩
                clear hM
                clear HZ
                go_wp2_with fail
                go_loopw [6, 50] (fun ov jv wq => ∃ j : Nat, j ≤ K ∧ jv = .int .i64 j ∧ wq.ownsRow w.heap.size 3 1 ov (xs ++ List.replicate j 0).length ((xs ++ List.replicate j 0).map (Value.int .i64)) ∧ Aside (Below w.heap.size w wq)) (fun _ jv _ => K - (intOf jv).toNat)
                case atStart => exact ⟨0, by omega, rfl, by simpa using HO.out, HB⟩
                case round =>
                  clear HB HO
                  obtain ⟨j, hj, rfl, hown, HB⟩ := hrel
                  by_cases hjk : j < K
                  · go_wp2_with (at_builtin; refine wpList_append_own _ rfl _ _ 22 rfl w.heap.size 3 i0 (.int .i64 0) 1 8 Try.underlying22 hi0 hz0 hz1 hz2 rfl (by decide) _ _ _ rfl (hown.alloc _) ⟨_, 0, none⟩ 1 1 [.int .i64 0] rfl rfl ?c1 ?c2 ?c3 ?c4 ?c5 ?_)
                    case c1 => exact cell_one_new _ _ _
                    case c2 => simp [Value.oneCell']
                    case c3 => rw [List.length_append, List.length_replicate]; unfold maxLen; omega
                    case c4 => rw [List.length_append, List.length_replicate]; omega
                    case c5 => have := HB.out.size; simp; omega
                    intro v' w1 hown' hgrow _
                    have HB1 := Aside.mk (below_grown (bl_alloc HB.out _) (hown.alloc _) hgrow)
                    clear hgrow hown
                    go_wp2_with fail
                    exact ⟨⟨j + 1, by omega, by go_num, own_rep hown', HB1⟩, by simp [intOf]; omega⟩
                  · obtain rfl : j = K := by omega
                    go_wp2_with fail
                    exact ⟨⟨i + 1, xs ++ List.replicate j 0, by omega, by go_num, by rw [List.length_append, List.length_replicate]; omega, congrArg _ (by rw [lastOf_rep _ _ _ hK1]), hown, HN, HB⟩, by simp [intOf]; omega⟩
              · by_cases h18 : sy = 18
                · subst h18
                  have HN : Aside (Runs.unp (N : Int) (rs.drop (i + 1)) (xs ++ List.replicate K 0) = D) := ⟨hM⟩
                  clear hM
                  clear HZ
                  go_wp2_with fail
                  go_loopw [6, 50] (fun ov jv wq => ∃ j : Nat, j ≤ K ∧ jv = .int .i64 j ∧ wq.ownsRow w.heap.size 3 1 ov (xs ++ List.replicate j 0).length ((xs ++ List.replicate j 0).map (Value.int .i64)) ∧ Aside (Below w.heap.size w wq)) (fun _ jv _ => K - (intOf jv).toNat)
                  case atStart => exact ⟨0, by omega, rfl, by simpa using HO.out, HB⟩
                  case round =>
                    clear HB HO
                    obtain ⟨j, hj, rfl, hown, HB⟩ := hrel
                    by_cases hjk : j < K
                    · go_wp2_with (at_builtin; refine wpList_append_own _ rfl _ _ 22 rfl w.heap.size 3 i0 (.int .i64 0) 1 8 Try.underlying22 hi0 hz0 hz1 hz2 rfl (by decide) _ _ _ rfl (hown.alloc _) ⟨_, 0, none⟩ 1 1 [.int .i64 0] rfl rfl ?c1 ?c2 ?c3 ?c4 ?c5 ?_)
                      case c1 => exact cell_one_new _ _ _
                      case c2 => simp [Value.oneCell']
                      case c3 => rw [List.length_append, List.length_replicate]; unfold maxLen; omega
                      case c4 => rw [List.length_append, List.length_replicate]; omega
                      case c5 => have := HB.out.size; simp; omega
                      intro v' w1 hown' hgrow _
                      have HB1 := Aside.mk (below_grown (bl_alloc HB.out _) (hown.alloc _) hgrow)
                      clear hgrow hown
                      go_wp2_with fail
                      exact ⟨⟨j + 1, by omega, by go_num, own_rep hown', HB1⟩, by simp [intOf]; omega⟩
                    · obtain rfl : j = K := by omega
                      go_wp2_with fail
                      exact ⟨⟨i + 1, xs ++ List.replicate j 0, by omega, by go_num, by rw [List.length_append, List.length_replicate]; omega, congrArg _ (by rw [lastOf_rep _ _ _ hK1]), hown, HN, HB⟩, by simp [intOf]; omega⟩
                · have g17 : (sy == 17) = false := beq_eq_false_iff_ne.2 h17
                  have g18 : (sy == 18) = false := beq_eq_false_iff_ne.2 h18
                  by_cases h16 : sy = 16
                  · subst h16
                    have HN : Aside (Runs.unp (N : Int) (rs.drop (i + 1)) (xs ++ List.replicate K (Runs.lastOf xs)) = D) := ⟨hM⟩
                    clear hM g17 g18
                    clear HZ
                    go_wp2_with fail
                    go_loopw [6, 50] (fun ov jv wq => ∃ j : Nat, j ≤ K ∧ jv = .int .i64 j ∧ wq.ownsRow w.heap.size 3 1 ov (xs ++ List.replicate j (Runs.lastOf xs)).length ((xs ++ List.replicate j (Runs.lastOf xs)).map (Value.int .i64)) ∧ Aside (Below w.heap.size w wq)) (fun _ jv _ => K - (intOf jv).toNat)
                    case atStart => exact ⟨0, by omega, rfl, by simpa using HO.out, HB⟩
                    case round =>
                      clear HB HO
                      obtain ⟨j, hj, rfl, hown, HB⟩ := hrel
                      by_cases hjk : j < K
                      · go_wp2_with (at_builtin; refine wpList_append_own _ rfl _ _ 22 rfl w.heap.size 3 i0 (.int .i64 0) 1 8 Try.underlying22 hi0 hz0 hz1 hz2 rfl (by decide) _ _ _ rfl (hown.alloc _) ⟨_, 0, none⟩ 1 1 [.int .i64 (Runs.lastOf xs)] rfl rfl ?c1 ?c2 ?c3 ?c4 ?c5 ?_)
                        case c1 => exact cell_one_new _ _ _
                        case c2 => simp [Value.oneCell']
                        case c3 => rw [List.length_append, List.length_replicate]; unfold maxLen; omega
                        case c4 => rw [List.length_append, List.length_replicate]; omega
                        case c5 => have := HB.out.size; simp; omega
                        intro v' w1 hown' hgrow _
                        have HB1 := Aside.mk (below_grown (bl_alloc HB.out _) (hown.alloc _) hgrow)
                        clear hgrow hown
                        go_wp2_with fail
                        exact ⟨⟨j + 1, by omega, by go_num, own_rep hown', HB1⟩, by simp [intOf]; omega⟩
                      · obtain rfl : j = K := by omega
                        go_wp2_with fail
                        exact ⟨⟨i + 1, xs ++ List.replicate j (Runs.lastOf xs), by omega, by go_num, by rw [List.length_append, List.length_replicate]; omega, congrArg _ (by rw [lastOf_rep _ _ _ hK1]), hown, HN, HB⟩, by simp [intOf]; omega⟩
                  · have g16 : (sy == 16) = false := beq_eq_false_iff_ne.2 h16
                    have HN : Aside (Runs.unp (N : Int) (rs.drop (i + 1)) (xs ++ List.replicate K sy) = D) := ⟨by
                      have e : Runs.sym sy xs = sy := by unfold Runs.sym; rw [if_neg (by omega), if_neg h16]
                      rw [e] at hM; exact hM⟩
                    clear hM h16 h17 h18
                    clear HZ
                    go_wp2_with fail
                    go_loopw [6, 50] (fun ov jv wq => ∃ j : Nat, j ≤ K ∧ jv = .int .i64 j ∧ wq.ownsRow w.heap.size 3 1 ov (xs ++ List.replicate j sy).length ((xs ++ List.replicate j sy).map (Value.int .i64)) ∧ Aside (Below w.heap.size w wq)) (fun _ jv _ => K - (intOf jv).toNat)
                    case atStart => exact ⟨0, by omega, rfl, by simpa using HO.out, HB⟩
                    case round =>
                      clear HB HO
                      obtain ⟨j, hj, rfl, hown, HB⟩ := hrel
                      by_cases hjk : j < K
                      · go_wp2_with (at_builtin; refine wpList_append_own _ rfl _ _ 22 rfl w.heap.size 3 i0 (.int .i64 0) 1 8 Try.underlying22 hi0 hz0 hz1 hz2 rfl (by decide) _ _ _ rfl (hown.alloc _) ⟨_, 0, none⟩ 1 1 [.int .i64 sy] rfl rfl ?c1 ?c2 ?c3 ?c4 ?c5 ?_)
                        case c1 => exact cell_one_new _ _ _
                        case c2 => simp [Value.oneCell']
                        case c3 => rw [List.length_append, List.length_replicate]; unfold maxLen; omega
                        case c4 => rw [List.length_append, List.length_replicate]; omega
                        case c5 => have := HB.out.size; simp; omega
                        intro v' w1 hown' hgrow _
                        have HB1 := Aside.mk (below_grown (bl_alloc HB.out _) (hown.alloc _) hgrow)
                        clear hgrow hown
                        go_wp2_with fail
                        exact ⟨⟨j + 1, by omega, by go_num, own_rep hown', HB1⟩, by simp [intOf]; omega⟩
                      · obtain rfl : j = K := by omega
                        go_wp2_with fail
                        exact ⟨⟨i + 1, xs ++ List.replicate j sy, by omega, by go_num, by rw [List.length_append, List.length_replicate]; omega, congrArg _ (by rw [lastOf_rep _ _ _ hK1]), hown, HN, HB⟩, by simp [intOf]; omega⟩
        · obtain rfl : i = rs.length := by omega
          have hM := HM.out
          rw [List.drop_length] at hM
          unfold Runs.unp at hM
          by_cases hsh : xs.length < N
          · have HE : Aside (D = ([], 3)) := ⟨by rw [if_pos (by omega)] at hM; exact hM.symm⟩
            clear hM hown
            go_wp2_with fail
            go_ret2
            exact ⟨_, by rw [HE.out]; rfl, by rw [HE.out]; exact .inl ⟨rfl, rfl⟩, HB.out⟩
          · have HE : Aside (D = (xs, 0)) := ⟨by rw [if_neg (by omega)] at hM; exact hM.symm⟩
            have HI := Aside.mk (intsAt_own hown)
            clear hM hown
            go_wp2_with fail
            go_ret2
            exact ⟨_, by rw [HE.out]; rfl, by rw [HE.out]; exact HI.out, HB.out⟩
end Go.Proofs.Ytjmenlffhoodeac
