/- The reference's Unpack, walked. (Printed by mkruns3.py, a small program of mine.) -/
import Derived.Test.YtjmenlffhoodeacRuns2
namespace Go.Proofs.Ytjmenlffhoodeac
open Go.RowKit

theorem own_below {w w' : World} {base sz n : Nat} {e : TypeId} {v : Value} {xs : List Value} (h : w.ownsRow base e sz v n xs) (hb : Below w.heap.size w w') : w'.ownsRow base e sz v n xs := own_keep h (fun g hg => hb.block g (h.lt g hg).2)
theorem fine_val (s m : Int) (b : Bool) (w : World) (hm : -9223372036854775808 ≤ m ∧ m ≤ 9223372036854775807) (h : Runs.fine s m = b) : Calls Try.prog 28 #[.agg #[.int .i64 s, .int .i64 m]] w fun e w' => e = .returned (.bool b) ∧ Below w.heap.size w w' := by
  subst h; exact fine_any s m w hm
theorem many_val (s m : Int) (k : Int) (w : World) (hm : 0 ≤ m) (hm2 : m ≤ 10000) (h : Runs.many s m = k) : Calls Try.prog 29 #[.agg #[.int .i64 s, .int .i64 m]] w fun e w' => e = .returned (.int .i64 k) ∧ Below w.heap.size w w' := by
  subst h; exact many_any s m w hm hm2
theorem fine_more (s m : Int) (h : Runs.fine s m = true) : 0 ≤ m ∧ m ≤ 10000 := by
  have hb := many_bd s m h
  have h2 := (fine_iff s m).1 h
  refine ⟨h2.2.2.1, ?_⟩
  by_cases h1 : s = 16
  · subst h1; have := (fine_16 m).1 h; omega
  · by_cases h2 : s = 17
    · subst h2; have := (fine_17 m).1 h; omega
    · by_cases h3 : s = 18
      · subst h3; have := (fine_18 m).1 h; omega
      · have := (fine_low s m (by omega) (by omega)).1 h; omega
theorem lastOf_getD (xs : List Int) (_h : xs ≠ []) : xs.getD (xs.length - 1) 0 = Runs.lastOf xs := by
  unfold Runs.lastOf
  rw [List.getLast?_eq_getElem?]
  simp [List.getD]
set_option maxRecDepth 100000 in
set_option maxHeartbeats 16000000 in
theorem refUnpack_any (rs : List (Int × Int)) (v : Value) (n : Int) (B : Nat) (w : World) (h : PairsG w B v rs) (hB : B ≤ w.heap.size) (hok : okRuns rs) (hlen : rs.length ≤ 100000) :
    Calls Try.prog 10 #[v, .int .i64 n] w fun e w' => ∃ r, e = .returned (.tuple #[r, .int .i64 (Runs.unpack rs n).2]) ∧ IntsAt w' w'.heap.size r (Runs.unpack rs n).1 ∧ Below w.heap.size w w' := by
  obtain ⟨i0, hi0, hz0, hz1, hz2⟩ := info_parts int_info
  by_cases h1 : n < 0
  · have e : Runs.unpack rs n = ([], 1) := by unfold Runs.unpack; rw [if_pos (by omega)]
    rw [e]
    obtain ⟨A, cap, rfl, _⟩ := h
    have d1 : decide (n < 0) = true := decide_eq_true h1
    go_enter Try.func10, Try.ntmps10
    go_wp2_with fail
    go_ret2
    exact ⟨_, rfl, .inl ⟨rfl, rfl⟩, Below.refl _ _⟩
  · by_cases h2 : 1024 < n
    · have e : Runs.unpack rs n = ([], 1) := by unfold Runs.unpack; rw [if_pos (by omega)]
      rw [e]
      obtain ⟨A, cap, rfl, _⟩ := h
      have d1 : decide (n < 0) = false := decide_eq_false h1
      have d2 : decide (1024 < n) = true := decide_eq_true h2
      go_enter Try.func10, Try.ntmps10
      go_wp2_with fail
      go_ret2
      exact ⟨_, rfl, .inl ⟨rfl, rfl⟩, Below.refl _ _⟩
    · have e : Runs.unpack rs n = Runs.unp n rs [] := by unfold Runs.unpack; rw [if_neg (by omega)]
      rw [e]
      obtain ⟨N, rfl⟩ : ∃ N : Nat, n = N := ⟨n.toNat, by omega⟩
      have hN : N ≤ 1024 := by omega
      have d1 : decide ((N : Int) < 0) = false := decide_eq_false h1
      have d2 : decide ((1024 : Int) < N) = false := decide_eq_false h2
      have HK := Aside.mk hok
      obtain ⟨A, cap, rfl, l1, l2, hc⟩ := h
      have HC := Aside.mk hc
      clear hc h1 h2 e
      generalize hD : Runs.unp (N : Int) rs [] = D
      have HD := Aside.mk hD
      unfold maxLen at l2
      clear hD hok
      go_enter Try.func10, Try.ntmps10
      go_wp2_with fail
      go_loopw [6, 7, 8, 9] (fun ov iv _ _ wr => ∃ (i : Nat) (xs : List Int), i ≤ rs.length ∧ iv = .int .i64 i ∧ xs.length ≤ N ∧ wr.ownsRow w.heap.size 3 1 ov xs.length (xs.map (Value.int .i64)) ∧
        Aside (Runs.unp (N : Int) (rs.drop i) xs = D) ∧ Aside (Below w.heap.size w wr)) (fun _ iv _ _ _ => rs.length - (intOf iv).toNat)
      case atStart => exact ⟨0, [], by omega, rfl, by simp, World.ownsRow_nil _ _ _ _, ⟨HD.out⟩, ⟨Below.refl _ _⟩⟩
      case round =>
        obtain ⟨i, xs, hi, rfl, hxs, hown, HM, HB⟩ := hrel
        obtain ⟨Ao, co, rfl⟩ := own_form hown
        by_cases hlt : i < rs.length
        · obtain ⟨ad, rfl, hb, c1, c2⟩ := HC.out i hlt
          have i1 : (0 : Int) ≤ i := by omega
          have i2 : (i : Int) < rs.length := by omega
          have hmem : rs.getD i (0, 0) ∈ rs := by simp [List.getD, List.getElem?_eq_getElem hlt]
          have hbd := HK.out _ hmem
          have HDR := Aside.mk (drop_pair rs i hlt)
          generalize rs.getD i (0, 0) = sm at c1 c2 hbd HDR
          obtain ⟨sy, mo⟩ := sm
          have HBD := Aside.mk hbd
          have HX : Aside (∀ wq, Below w.heap.size w wq → wq.cell? (ad.add (i * 2)) = some (.int .i64 sy) ∧ wq.cell? ⟨(ad.add (i * 2)).block, (ad.add (i * 2)).off + 1, none⟩ = some (.int .i64 mo)) := ⟨fun wq hq => by
            refine ⟨(hq.cell (by rw [block_of_add]; omega)).trans c1, ?_⟩
            have := (hq.cell (p := ad.add (i * 2 + 1)) (by rw [block_of_add]; omega)).trans c2
            rw [← add_of_add] at this
            exact this⟩
          clear hmem hbd c1 c2 hb
          obtain ⟨k1, k2⟩ := HX.out _ HB.out
          have hM := HM.out
          rw [HDR.out] at hM
          unfold Runs.unp at hM
          go_wp2_with fail
          cases hf : Runs.fine sy mo with
          | false =>
            have HE : Aside (D = ([], 2)) := ⟨by rw [if_pos hf] at hM; exact hM.symm⟩
            clear hM
            refine (fine_val sy mo false _ HBD.out hf).mono ?_
            rintro e w2 ⟨rfl, hb2⟩
            replace HB := Aside.mk (bl_step HB.out hb2)
            clear hown k1 k2 hb2
            go_wp2_with fail
            go_ret2
            exact ⟨_, by rw [HE.out]; rfl, by rw [HE.out]; exact .inl ⟨rfl, rfl⟩, HB.out⟩
          | true =>
            rw [if_neg (by rw [hf]; simp)] at hM
            refine (fine_val sy mo true _ HBD.out hf).mono ?_
            rintro e w2 ⟨rfl, hb2⟩
            have hown2 := own_below hown hb2
            replace HB := Aside.mk (bl_step HB.out hb2)
            have HFM := Aside.mk (fine_more sy mo hf)
            have hmb := many_bd sy mo hf
            obtain ⟨K, hK⟩ : ∃ K : Nat, Runs.many sy mo = K := ⟨(Runs.many sy mo).toNat, by omega⟩
            have HMV := Aside.mk (fun wq => many_val sy mo K wq HFM.out.1 HFM.out.2 hK)
            rw [hK] at hM hmb
            rw [Int.toNat_natCast] at hM
            have hK1 : 1 ≤ K := by omega
            clear k1 k2 hb2 hown hK hf
            obtain ⟨k1, k2⟩ := HX.out _ HB.out
            by_cases h17 : sy = 17
            · subst h17
              go_wp2_with fail
              refine (HMV.out _).mono ?_
              rintro e w3 ⟨rfl, hb3⟩
              have HO := Aside.mk (own_below hown2 hb3)
              replace HB := Aside.mk (bl_step HB.out hb3)
              clear hown2 hb3 k1 k2 
              by_cases hbig : (K : Int) > (N : Int) - xs.length
              · have HE : Aside (D = ([], 4)) := ⟨by rw [if_pos hbig] at hM; exact hM.symm⟩
                have hbg : (N : Int) - xs.length < K := hbig
                clear hM hbig HO
                go_wp2_with fail
                go_ret2
                exact ⟨_, by rw [HE.out]; rfl, by rw [HE.out]; exact .inl ⟨rfl, rfl⟩, HB.out⟩
              · rw [if_neg hbig] at hM
                have HN : Aside (Runs.unp (N : Int) (rs.drop (i + 1)) (xs ++ List.replicate K 0) = D) := ⟨hM⟩
                have hKN : xs.length + K ≤ N := by omega
                have hK2 : (K : Int) ≤ N - xs.length := by omega
                clear hbig hM
                go_wp2_with fail
                go_loopw [6, 9] (fun ov jv wq => ∃ j : Nat, j ≤ K ∧ jv = .int .i64 j ∧ wq.ownsRow w.heap.size 3 1 ov (xs ++ List.replicate j 0).length ((xs ++ List.replicate j 0).map (Value.int .i64)) ∧ Aside (Below w.heap.size w wq)) (fun _ jv _ => K - (intOf jv).toNat)
                case atStart => exact ⟨0, by omega, rfl, by simpa using HO.out, HB⟩
                case round =>
                  clear HB HO
                  obtain ⟨j, hj, rfl, hown, HB⟩ := hrel
                  obtain ⟨k1, k2⟩ := HX.out _ HB.out
                  by_cases hjk : j < K
                  · go_wp2_with fail
                    refine (HMV.out _).mono ?_
                    rintro e w4 ⟨rfl, hb4⟩
                    have hown4 := own_below hown hb4
                    replace HB := Aside.mk (bl_step HB.out hb4)
                    clear hown hb4 k1 k2
                    go_wp2_with (at_builtin; refine wpList_append_own _ rfl _ _ 22 rfl w.heap.size 3 i0 (.int .i64 0) 1 8 Try.underlying22 hi0 hz0 hz1 hz2 rfl (by decide) _ _ _ rfl (hown4.alloc _) ⟨w4.heap.size, 0, none⟩ 1 1 [.int .i64 0] rfl rfl ?c1 ?c2 ?c3 ?c4 ?c5 ?_)
                    case c1 => exact cell_one_new _ _ _
                    case c2 => simp [Value.oneCell']
                    case c3 => rw [List.length_append, List.length_replicate]; unfold maxLen; omega
                    case c4 => rw [List.length_append, List.length_replicate]; omega
                    case c5 => have := HB.out.size; simp; omega
                    intro v' w1 hown' hgrow _
                    have HB1 := Aside.mk (below_grown (bl_alloc HB.out _) (hown4.alloc _) hgrow)
                    clear hgrow hown4
                    go_wp2_with fail
                    exact ⟨⟨j + 1, by omega, by go_num, own_rep hown', HB1⟩, by simp [intOf]; omega⟩
                  · obtain rfl : j = K := by omega
                    go_wp2_with fail
                    refine (HMV.out _).mono ?_
                    rintro e w4 ⟨rfl, hb4⟩
                    have hown4 := own_below hown hb4
                    replace HB := Aside.mk (bl_step HB.out hb4)
                    clear hown hb4 k1 k2
                    go_wp2_with fail
                    exact ⟨⟨i + 1, xs ++ List.replicate j 0, by omega, by go_num, by rw [List.length_append, List.length_replicate]; omega, hown4, HN, HB⟩, by simp [intOf]; omega⟩
            · by_cases h18 : sy = 18
              · subst h18
                go_wp2_with fail
                refine (HMV.out _).mono ?_
                rintro e w3 ⟨rfl, hb3⟩
                have HO := Aside.mk (own_below hown2 hb3)
                replace HB := Aside.mk (bl_step HB.out hb3)
                clear hown2 hb3 k1 k2 
                by_cases hbig : (K : Int) > (N : Int) - xs.length
                · have HE : Aside (D = ([], 4)) := ⟨by rw [if_pos hbig] at hM; exact hM.symm⟩
                  have hbg : (N : Int) - xs.length < K := hbig
                  clear hM hbig HO
                  go_wp2_with fail
                  go_ret2
                  exact ⟨_, by rw [HE.out]; rfl, by rw [HE.out]; exact .inl ⟨rfl, rfl⟩, HB.out⟩
                · rw [if_neg hbig] at hM
                  have HN : Aside (Runs.unp (N : Int) (rs.drop (i + 1)) (xs ++ List.replicate K 0) = D) := ⟨hM⟩
                  have hKN : xs.length + K ≤ N := by omega
                  have hK2 : (K : Int) ≤ N - xs.length := by omega
                  clear hbig hM
                  go_wp2_with fail
                  go_loopw [6, 9] (fun ov jv wq => ∃ j : Nat, j ≤ K ∧ jv = .int .i64 j ∧ wq.ownsRow w.heap.size 3 1 ov (xs ++ List.replicate j 0).length ((xs ++ List.replicate j 0).map (Value.int .i64)) ∧ Aside (Below w.heap.size w wq)) (fun _ jv _ => K - (intOf jv).toNat)
                  case atStart => exact ⟨0, by omega, rfl, by simpa using HO.out, HB⟩
                  case round =>
                    clear HB HO
                    obtain ⟨j, hj, rfl, hown, HB⟩ := hrel
                    obtain ⟨k1, k2⟩ := HX.out _ HB.out
                    by_cases hjk : j < K
                    · go_wp2_with fail
                      refine (HMV.out _).mono ?_
                      rintro e w4 ⟨rfl, hb4⟩
                      have hown4 := own_below hown hb4
                      replace HB := Aside.mk (bl_step HB.out hb4)
                      clear hown hb4 k1 k2
                      go_wp2_with (at_builtin; refine wpList_append_own _ rfl _ _ 22 rfl w.heap.size 3 i0 (.int .i64 0) 1 8 Try.underlying22 hi0 hz0 hz1 hz2 rfl (by decide) _ _ _ rfl (hown4.alloc _) ⟨w4.heap.size, 0, none⟩ 1 1 [.int .i64 0] rfl rfl ?c1 ?c2 ?c3 ?c4 ?c5 ?_)
                      case c1 => exact cell_one_new _ _ _
                      case c2 => simp [Value.oneCell']
                      case c3 => rw [List.length_append, List.length_replicate]; unfold maxLen; omega
                      case c4 => rw [List.length_append, List.length_replicate]; omega
                      case c5 => have := HB.out.size; simp; omega
                      intro v' w1 hown' hgrow _
                      have HB1 := Aside.mk (below_grown (bl_alloc HB.out _) (hown4.alloc _) hgrow)
                      clear hgrow hown4
                      go_wp2_with fail
                      exact ⟨⟨j + 1, by omega, by go_num, own_rep hown', HB1⟩, by simp [intOf]; omega⟩
                    · obtain rfl : j = K := by omega
                      go_wp2_with fail
                      refine (HMV.out _).mono ?_
                      rintro e w4 ⟨rfl, hb4⟩
                      have hown4 := own_below hown hb4
                      replace HB := Aside.mk (bl_step HB.out hb4)
                      clear hown hb4 k1 k2
                      go_wp2_with fail
                      exact ⟨⟨i + 1, xs ++ List.replicate j 0, by omega, by go_num, by rw [List.length_append, List.length_replicate]; omega, hown4, HN, HB⟩, by simp [intOf]; omega⟩
              · have g17 : (sy == 17) = false := beq_eq_false_iff_ne.2 h17
                have g18 : (sy == 18) = false := beq_eq_false_iff_ne.2 h18
                by_cases h16 : sy = 16
                · subst h16
                  clear g17 g18
                  by_cases hne : xs = []
                  · have hs0 : Runs.sym 16 xs = 0 := by rw [hne]; rfl
                    have hz0' : ((xs.length : Int) == 0) = true := by rw [hne]; rfl
                    rw [hs0] at hM
                    clear hne hs0
                    go_wp2_with fail
                    refine (HMV.out _).mono ?_
                    rintro e w3 ⟨rfl, hb3⟩
                    have HO := Aside.mk (own_below hown2 hb3)
                    replace HB := Aside.mk (bl_step HB.out hb3)
                    clear hown2 hb3 k1 k2 hz0'
                    by_cases hbig : (K : Int) > (N : Int) - xs.length
                    · have HE : Aside (D = ([], 4)) := ⟨by rw [if_pos hbig] at hM; exact hM.symm⟩
                      have hbg : (N : Int) - xs.length < K := hbig
                      clear hM hbig HO
                      go_wp2_with fail
                      go_ret2
                      exact ⟨_, by rw [HE.out]; rfl, by rw [HE.out]; exact .inl ⟨rfl, rfl⟩, HB.out⟩
                    · rw [if_neg hbig] at hM
                      have HN : Aside (Runs.unp (N : Int) (rs.drop (i + 1)) (xs ++ List.replicate K 0) = D) := ⟨hM⟩
                      have hKN : xs.length + K ≤ N := by omega
                      have hK2 : (K : Int) ≤ N - xs.length := by omega
                      clear hbig hM
                      go_wp2_with fail
                      go_loopw [6, 9] (fun ov jv wq => ∃ j : Nat, j ≤ K ∧ jv = .int .i64 j ∧ wq.ownsRow w.heap.size 3 1 ov (xs ++ List.replicate j 0).length ((xs ++ List.replicate j 0).map (Value.int .i64)) ∧ Aside (Below w.heap.size w wq)) (fun _ jv _ => K - (intOf jv).toNat)
                      case atStart => exact ⟨0, by omega, rfl, by simpa using HO.out, HB⟩
                      case round =>
                        clear HB HO
                        obtain ⟨j, hj, rfl, hown, HB⟩ := hrel
                        obtain ⟨k1, k2⟩ := HX.out _ HB.out
                        by_cases hjk : j < K
                        · go_wp2_with fail
                          refine (HMV.out _).mono ?_
                          rintro e w4 ⟨rfl, hb4⟩
                          have hown4 := own_below hown hb4
                          replace HB := Aside.mk (bl_step HB.out hb4)
                          clear hown hb4 k1 k2
                          go_wp2_with (at_builtin; refine wpList_append_own _ rfl _ _ 22 rfl w.heap.size 3 i0 (.int .i64 0) 1 8 Try.underlying22 hi0 hz0 hz1 hz2 rfl (by decide) _ _ _ rfl (hown4.alloc _) ⟨w4.heap.size, 0, none⟩ 1 1 [.int .i64 0] rfl rfl ?c1 ?c2 ?c3 ?c4 ?c5 ?_)
                          case c1 => exact cell_one_new _ _ _
                          case c2 => simp [Value.oneCell']
                          case c3 => rw [List.length_append, List.length_replicate]; unfold maxLen; omega
                          case c4 => rw [List.length_append, List.length_replicate]; omega
                          case c5 => have := HB.out.size; simp; omega
                          intro v' w1 hown' hgrow _
                          have HB1 := Aside.mk (below_grown (bl_alloc HB.out _) (hown4.alloc _) hgrow)
                          clear hgrow hown4
                          go_wp2_with fail
                          exact ⟨⟨j + 1, by omega, by go_num, own_rep hown', HB1⟩, by simp [intOf]; omega⟩
                        · obtain rfl : j = K := by omega
                          go_wp2_with fail
                          refine (HMV.out _).mono ?_
                          rintro e w4 ⟨rfl, hb4⟩
                          have hown4 := own_below hown hb4
                          replace HB := Aside.mk (bl_step HB.out hb4)
                          clear hown hb4 k1 k2
                          go_wp2_with fail
                          exact ⟨⟨i + 1, xs ++ List.replicate j 0, by omega, by go_num, by rw [List.length_append, List.length_replicate]; omega, hown4, HN, HB⟩, by simp [intOf]; omega⟩
                  · have hl0 : 1 ≤ xs.length := by
                      cases xs with
                      | nil => exact absurd rfl hne
                      | cons _ _ => simp
                    obtain ⟨A2, c2', hv2, _, _, hcl⟩ := (intsAt_own hown2).form
                    obtain ⟨g, hA2, hcg⟩ := hcl (xs.length - 1) (by omega)
                    rw [lastOf_getD xs hne] at hcg
                    injection hv2 with hv3 _ hv5
                    subst hv3
                    subst hv5
                    subst hA2
                    have hz1' : ((xs.length : Int) == 0) = false := beq_eq_false_iff_ne.2 (by omega)
                    have p1 : (0 : Int) ≤ (xs.length : Int) - 1 := by omega
                    have p2 : (xs.length : Int) - 1 < xs.length := by omega
                    have p3 : ((xs.length : Int) - 1).toNat = xs.length - 1 := by omega
                    clear hcl hne
                    go_wp2_with fail
                    refine (HMV.out _).mono ?_
                    rintro e w3 ⟨rfl, hb3⟩
                    have HO := Aside.mk (own_below hown2 hb3)
                    replace HB := Aside.mk (bl_step HB.out hb3)
                    clear hown2 hb3 k1 k2 hcg p1 p2 p3 hz1'
                    by_cases hbig : (K : Int) > (N : Int) - xs.length
                    · have HE : Aside (D = ([], 4)) := ⟨by rw [if_pos hbig] at hM; exact hM.symm⟩
                      have hbg : (N : Int) - xs.length < K := hbig
                      clear hM hbig HO
                      go_wp2_with fail
                      go_ret2
                      exact ⟨_, by rw [HE.out]; rfl, by rw [HE.out]; exact .inl ⟨rfl, rfl⟩, HB.out⟩
                    · rw [if_neg hbig] at hM
                      have HN : Aside (Runs.unp (N : Int) (rs.drop (i + 1)) (xs ++ List.replicate K (Runs.lastOf xs)) = D) := ⟨hM⟩
                      have hKN : xs.length + K ≤ N := by omega
                      have hK2 : (K : Int) ≤ N - xs.length := by omega
                      clear hbig hM
                      go_wp2_with fail
                      go_loopw [6, 9] (fun ov jv wq => ∃ j : Nat, j ≤ K ∧ jv = .int .i64 j ∧ wq.ownsRow w.heap.size 3 1 ov (xs ++ List.replicate j (Runs.lastOf xs)).length ((xs ++ List.replicate j (Runs.lastOf xs)).map (Value.int .i64)) ∧ Aside (Below w.heap.size w wq)) (fun _ jv _ => K - (intOf jv).toNat)
                      case atStart => exact ⟨0, by omega, rfl, by simpa using HO.out, HB⟩
                      case round =>
                        clear HB HO
                        obtain ⟨j, hj, rfl, hown, HB⟩ := hrel
                        obtain ⟨k1, k2⟩ := HX.out _ HB.out
                        by_cases hjk : j < K
                        · go_wp2_with fail
                          refine (HMV.out _).mono ?_
                          rintro e w4 ⟨rfl, hb4⟩
                          have hown4 := own_below hown hb4
                          replace HB := Aside.mk (bl_step HB.out hb4)
                          clear hown hb4 k1 k2
                          go_wp2_with (at_builtin; refine wpList_append_own _ rfl _ _ 22 rfl w.heap.size 3 i0 (.int .i64 0) 1 8 Try.underlying22 hi0 hz0 hz1 hz2 rfl (by decide) _ _ _ rfl (hown4.alloc _) ⟨w4.heap.size, 0, none⟩ 1 1 [.int .i64 (Runs.lastOf xs)] rfl rfl ?c1 ?c2 ?c3 ?c4 ?c5 ?_)
                          case c1 => exact cell_one_new _ _ _
                          case c2 => simp [Value.oneCell']
                          case c3 => rw [List.length_append, List.length_replicate]; unfold maxLen; omega
                          case c4 => rw [List.length_append, List.length_replicate]; omega
                          case c5 => have := HB.out.size; simp; omega
                          intro v' w1 hown' hgrow _
                          have HB1 := Aside.mk (below_grown (bl_alloc HB.out _) (hown4.alloc _) hgrow)
                          clear hgrow hown4
                          go_wp2_with fail
                          exact ⟨⟨j + 1, by omega, by go_num, own_rep hown', HB1⟩, by simp [intOf]; omega⟩
                        · obtain rfl : j = K := by omega
                          go_wp2_with fail
                          refine (HMV.out _).mono ?_
                          rintro e w4 ⟨rfl, hb4⟩
                          have hown4 := own_below hown hb4
                          replace HB := Aside.mk (bl_step HB.out hb4)
                          clear hown hb4 k1 k2
                          go_wp2_with fail
                          exact ⟨⟨i + 1, xs ++ List.replicate j (Runs.lastOf xs), by omega, by go_num, by rw [List.length_append, List.length_replicate]; omega, hown4, HN, HB⟩, by simp [intOf]; omega⟩
                · have g16 : (sy == 16) = false := beq_eq_false_iff_ne.2 h16
                  have hsy : Runs.sym sy xs = sy := by unfold Runs.sym; rw [if_neg (by omega), if_neg h16]
                  rw [hsy] at hM
                  clear hsy h16 h17 h18
                  go_wp2_with fail
                  refine (HMV.out _).mono ?_
                  rintro e w3 ⟨rfl, hb3⟩
                  have HO := Aside.mk (own_below hown2 hb3)
                  replace HB := Aside.mk (bl_step HB.out hb3)
                  clear hown2 hb3 k1 k2 
                  by_cases hbig : (K : Int) > (N : Int) - xs.length
                  · have HE : Aside (D = ([], 4)) := ⟨by rw [if_pos hbig] at hM; exact hM.symm⟩
                    have hbg : (N : Int) - xs.length < K := hbig
                    clear hM hbig HO
                    go_wp2_with fail
                    go_ret2
                    exact ⟨_, by rw [HE.out]; rfl, by rw [HE.out]; exact .inl ⟨rfl, rfl⟩, HB.out⟩
                  · rw [if_neg hbig] at hM
                    have HN : Aside (Runs.unp (N : Int) (rs.drop (i + 1)) (xs ++ List.replicate K sy) = D) := ⟨hM⟩
                    have hKN : xs.length + K ≤ N := by omega
                    have hK2 : (K : Int) ≤ N - xs.length := by omega
                    clear hbig hM
                    go_wp2_with fail
                    go_loopw [6, 9] (fun ov jv wq => ∃ j : Nat, j ≤ K ∧ jv = .int .i64 j ∧ wq.ownsRow w.heap.size 3 1 ov (xs ++ List.replicate j sy).length ((xs ++ List.replicate j sy).map (Value.int .i64)) ∧ Aside (Below w.heap.size w wq)) (fun _ jv _ => K - (intOf jv).toNat)
                    case atStart => exact ⟨0, by omega, rfl, by simpa using HO.out, HB⟩
                    case round =>
                      clear HB HO
                      obtain ⟨j, hj, rfl, hown, HB⟩ := hrel
                      obtain ⟨k1, k2⟩ := HX.out _ HB.out
                      by_cases hjk : j < K
                      · go_wp2_with fail
                        refine (HMV.out _).mono ?_
                        rintro e w4 ⟨rfl, hb4⟩
                        have hown4 := own_below hown hb4
                        replace HB := Aside.mk (bl_step HB.out hb4)
                        clear hown hb4 k1 k2
                        go_wp2_with (at_builtin; refine wpList_append_own _ rfl _ _ 22 rfl w.heap.size 3 i0 (.int .i64 0) 1 8 Try.underlying22 hi0 hz0 hz1 hz2 rfl (by decide) _ _ _ rfl (hown4.alloc _) ⟨w4.heap.size, 0, none⟩ 1 1 [.int .i64 sy] rfl rfl ?c1 ?c2 ?c3 ?c4 ?c5 ?_)
                        case c1 => exact cell_one_new _ _ _
                        case c2 => simp [Value.oneCell']
                        case c3 => rw [List.length_append, List.length_replicate]; unfold maxLen; omega
                        case c4 => rw [List.length_append, List.length_replicate]; omega
                        case c5 => have := HB.out.size; simp; omega
                        intro v' w1 hown' hgrow _
                        have HB1 := Aside.mk (below_grown (bl_alloc HB.out _) (hown4.alloc _) hgrow)
                        clear hgrow hown4
                        go_wp2_with fail
                        exact ⟨⟨j + 1, by omega, by go_num, own_rep hown', HB1⟩, by simp [intOf]; omega⟩
                      · obtain rfl : j = K := by omega
                        go_wp2_with fail
                        refine (HMV.out _).mono ?_
                        rintro e w4 ⟨rfl, hb4⟩
                        have hown4 := own_below hown hb4
                        replace HB := Aside.mk (bl_step HB.out hb4)
                        clear hown hb4 k1 k2
                        go_wp2_with fail
                        exact ⟨⟨i + 1, xs ++ List.replicate j sy, by omega, by go_num, by rw [List.length_append, List.length_replicate]; omega, hown4, HN, HB⟩, by simp [intOf]; omega⟩
        · obtain rfl : i = rs.length := by omega
          have hM := HM.out
          rw [List.drop_length] at hM
          unfold Runs.unp at hM
          by_cases hsh : xs.length < N
          · have HE : Aside (D = ([], 3)) := ⟨by rw [if_pos (by omega)] at hM; exact hM.symm⟩
            clear hM hown
            go_wp2_with fail
            go_ret2
            exact ⟨_, by rw [HE.out]; rfl, by rw [HE.out]; exact .inl ⟨rfl, rfl⟩, HB.out⟩
          · have HE : Aside (D = (xs, 0)) := ⟨by rw [if_neg (by omega)] at hM; exact hM.symm⟩
            have HI := Aside.mk (intsAt_own hown)
            clear hM hown
            go_wp2_with fail
            go_ret2
            exact ⟨_, by rw [HE.out]; rfl, by rw [HE.out]; exact HI.out, HB.out⟩
end Go.Proofs.Ytjmenlffhoodeac
