/- Back what was packed, walked. -/
import Derived.Test.YtjmenlffhoodeacOpen
namespace Go.Proofs.Ytjmenlffhoodeac
open Go.RowKit

theorem IntsAt.toG {w : World} {B : Nat} {v : Value} {xs : List Int} (h : IntsAt w B v xs) : ∃ A cap, v = .slice A xs.length cap ∧ xs.length ≤ cap ∧ cap ≤ maxLen ∧ IntsG w B A xs := by
  rcases h with ⟨rfl, rfl⟩ | ⟨g, cap, hv, hg, h1, h2, hc⟩
  · exact ⟨none, 0, rfl, by simp, by simp [maxLen], fun i hi => absurd hi (by simp)⟩
  · exact ⟨_, cap, hv, h1, h2, fun i hi => ⟨_, rfl, hg, by rw [addr_at]; exact hc i hi⟩⟩
/-- What a packed row gives back. -/
theorem unpack_pack (xs : List Int) (hx : ∀ x ∈ xs, 0 ≤ x ∧ x ≤ 15) (h : xs.length ≤ 1024) : Runs.unpack (Runs.pack xs) (xs.length : Int) = (xs, 0) := by
  have hg : Runs.good xs = true := (good_iff xs).2 hx
  unfold Runs.pack Runs.unpack
  rw [if_pos hg, if_neg (by omega)]
  have := Runs.unp_pk xs.length xs [] (-1) (xs.length : Int) (Nat.le_refl _) hx (fun _ => rfl) (fun h => absurd rfl h) (by simp)
  rw [this]; rfl
def mod16 (xs : List Int) : List Int := xs.map (· % 16)

set_option maxRecDepth 100000 in
set_option maxHeartbeats 8000000 in
theorem runsBack_walk (xs : List Int) (A : Option Addr) (cap : Nat) (w : World) (h : ∀ i, i < xs.length → ∃ ad, A = some ad ∧ ad.block < w.heap.size ∧ w.cell? (ad.add i) = some (.int .u8 (xs.getD i 0))) (_hl : xs.length ≤ cap) (_hc : cap ≤ maxLen)
    (hw : ∀ n ∈ xs, (Lit.int .u8 n).wf = true) : Calls Try.prog 4 #[.slice A xs.length cap] w fun e w' => e = .returned (.bool true) ∧ Below w.heap.size w w' := by
  by_cases b1 : (1024 : Int) < xs.length
  · clear h
    go_enter Try.func4, Try.ntmps4
    go_wp2_with fail
    refine (awake12 _).mono ?_
    rintro e w1 ⟨rfl, hb⟩
    go_wp2_with fail
    go_ret
    exact ⟨rfl, hb⟩
  · have hx : xs.length ≤ 1024 := by omega
    obtain ⟨i0, hi0, hz0, hz1, hz2⟩ := info_parts int_info
    have H := Aside.mk h
    have HW := Aside.mk hw
    clear h hw b1
    have b2 : (xs.length : Int) ≤ 1024 := by omega
    go_enter Try.func4, Try.ntmps4
    go_wp2_with fail
    go_loopw [3, 4] (fun ov iv wr => ∃ i : Nat, i ≤ xs.length ∧ iv = .int .i64 i ∧ wr.ownsRow w.heap.size 3 1 ov (mod16 (xs.take i)).length ((mod16 (xs.take i)).map (Value.int .i64)) ∧ Aside (Below w.heap.size w wr)) (fun _ iv _ => xs.length - (intOf iv).toNat)
    case atStart => exact ⟨(0 : Nat), by omega, rfl, World.ownsRow_nil _ _ _ _, ⟨Below.refl _ _⟩⟩
    case round =>
      obtain ⟨i, hi, rfl, hown, HB⟩ := hrel
      by_cases hlt : i < xs.length
      · obtain ⟨ad, rfl, hb, c⟩ := H.out i hlt
        have i1 : (0 : Int) ≤ i := by omega
        have i2 : (i : Int) < xs.length := by omega
        have htk : Aside (mod16 (xs.take (i + 1)) = mod16 (xs.take i) ++ [xs.getD i 0 % 16]) := ⟨by unfold mod16; rw [take_succ_getD xs i hlt]; simp⟩
        have hbd := u8_bd (HW.out _ (getD_mem xs i hlt))
        have hle : (mod16 (xs.take i)).length = i := by unfold mod16; simp; omega
        have c' : wr.cell? (ad.add i) = some (.int .u8 (xs.getD i 0)) := (HB.out.cell (by rw [block_of_add]; exact hb)).trans c
        have hzB := HB.out.size
        generalize xs.getD i 0 = y at htk hbd c'
        generalize mod16 (xs.take i) = ys at htk hown hle
        clear c hlt
        go_wp2_with (at_builtin; refine wpList_append_own _ rfl _ _ 22 rfl w.heap.size 3 i0 (.int .i64 0) 1 8 Try.underlying22 hi0 hz0 hz1 hz2 rfl (by decide) _ _ _ rfl (hown.alloc _) ⟨_, 0, none⟩ 1 1 [.int .i64 (y % 16)] rfl rfl ?c1 ?c2 ?c3 ?c4 ?c5 ?_)
        case c1 => exact cell_one_new _ _ _
        case c2 => simp [Value.oneCell']
        case c3 => unfold maxLen; omega
        case c4 => omega
        case c5 => simp; omega
        intro v' w1 hown' hgrow _
        have HB1 := Aside.mk (below_grown (bl_alloc HB.out _) (hown.alloc _) hgrow)
        clear hgrow hown
        go_wp2_with fail
        exact ⟨⟨i + 1, by omega, by go_num, by rw [htk.out, List.length_append, List.map_append, hle]; exact hown', HB1⟩, by simp [intOf]; omega⟩
      · obtain rfl : i = xs.length := by omega
        rw [List.take_length] at hown
        have hlen : (mod16 xs).length = xs.length := by unfold mod16; simp
        have hin : ∀ x ∈ mod16 xs, 0 ≤ x ∧ x ≤ 15 := fun x hx => by
          unfold mod16 at hx
          obtain ⟨y, _, rfl⟩ := List.mem_map.1 hx
          omega
        obtain ⟨A3, c3, rfl, l3, m3, g3⟩ := (intsAt_own hown).toG
        have HI := Aside.mk (intsAt_own hown)
        generalize mod16 xs = ys at hown hlen hin l3 g3 HI
        have hy : ys.length ≤ 1024 := by omega
        clear hlen
        have hpl : Aside ((Runs.pack ys).length ≤ ys.length) := ⟨by
          unfold Runs.pack
          rw [if_pos ((good_iff ys).2 hin)]
          exact Runs.pk_length ys.length ys (-1) (Nat.le_refl _)⟩
        have hok : Aside (okRuns (Runs.pack ys)) := ⟨by
          unfold Runs.pack
          rw [if_pos ((good_iff ys).2 hin)]
          exact okRuns_pk ys.length ys (-1) (Nat.le_refl _) hin⟩
        have hup := Aside.mk (unpack_pack ys hin (by omega))
        have c12 := fun wq (hq : IntsG wq wr.heap.size A3 ys) (hz : wr.heap.size ≤ wq.heap.size) => pack_any ys A3 c3 wr.heap.size wq hq hz l3 m3 (by omega)
        have HG := Aside.mk g3
        generalize Runs.pack ys = D at hpl hok hup c12
        clear hown hlt hin g3
        go_wp2_with fail
        refine (c12 _ HG.out (Nat.le_refl _)).mono ?_
        rintro e w2 ⟨v2, rfl, hp, hb⟩
        obtain ⟨A4, c4, rfl, l4, m4, _⟩ := hp.form
        have HP := Aside.mk hp
        replace HI := Aside.mk ((HI.out.keep hb).up hb.size)
        replace HB := Aside.mk (bl_step HB.out hb)
        have hpl2 := hpl.out
        have c9 := unpack_any D (.slice A4 D.length c4) (ys.length : Int) w2.heap.size w2 hp.toG (Nat.le_refl _) hok.out (by omega)
        rw [hup.out] at c9
        clear hb hp c12
        go_wp2_with fail
        refine c9.mono ?_
        rintro e w3 ⟨r, rfl, hi3, hb⟩
        replace HI := Aside.mk ((HI.out.keep hb).up hb.size)
        replace HB := Aside.mk (bl_step HB.out hb)
        have HJ := Aside.mk hi3
        clear c9 hi3 hb
        have c14 := fun wq (h1 : IntsAt wq w3.heap.size r ys) (h2 : IntsAt wq w3.heap.size (.slice A3 ys.length c3) ys) => ints_any ys ys r (.slice A3 ys.length c3) w3.heap.size wq h1 h2
        rw [decide_eq_true (rfl : ys = ys)] at c14
        have hd : (D.length : Int) ≤ ys.length := by omega
        go_wp2_with fail
        refine (c14 _ HJ.out HI.out).mono ?_
        rintro e w6 ⟨rfl, n6, rfl⟩
        replace HB := Aside.mk (bl_drewN HB.out n6)
        clear c14 HI HJ
        go_wp2_with fail
        refine (awake12 _).mono ?_
        rintro e w10 ⟨rfl, hb⟩
        go_wp2_with fail
        go_ret
        exact ⟨rfl, bl_step HB.out hb⟩
end Go.Proofs.Ytjmenlffhoodeac
