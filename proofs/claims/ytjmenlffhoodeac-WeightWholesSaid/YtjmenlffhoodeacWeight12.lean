/- The law of whole numbers, walked: WeightWholes; and a parameter that is a slice of floats, opened. -/
import Derived.Test.YtjmenlffhoodeacWeight8
import Derived.Test.YtjmenlffhoodeacOpen
import Derived.Deep.Slices
namespace Go.Proofs.Ytjmenlffhoodeac
open Go.RowKit Go.ChangeShapes Go.WideShapes Go.Deep

section
variable {H : Type} {enc : TypeId × Value → H} {P : Program} {w : World} {base : Nat} {spare : Nat → Bool} {held : Bool}
theorem trod_float64 {fuel : Nat} {t : TypeId} {cs : List Value} {x : DataW H × List MemPlace} (ht : P.underlying t = some (.float .f64)) (h : DataW.trod enc P w base spare held fuel t cs = some x) : ∃ b, cs = [.float .f64 b] ∧ (Lit.float .f64 b).wf = true := by
  cases fuel with
  | zero => simp [DataW.trod] at h
  | succ n =>
    unfold DataW.trod at h
    rw [ht] at h
    split at h <;> simp_all
theorem openFloats {r : Reach} {b0 : Nat} {t e : TypeId} {v : Value} {d : DataW H} {p : List MemPlace} (ht : P.underlying t = some (.slice e)) (he : P.underlying e = some (.float .f64)) (hc : P.cellsOf e = 1)
    (hv : Value.okWide P w r b0 t v) (h : DataW.Trod enc P w base spare held t v d p) :
    ∃ (A : Option Addr) (xs : List Nat) (cap : Nat), v = .slice A xs.length cap ∧ xs.length ≤ cap ∧ cap ≤ maxLen ∧ FloatsG w w.heap.size A xs ∧ (∀ i, i < xs.length → xs.getD i 0 < 18446744073709551616) := by
  obtain ⟨A, len, cap, rfl⟩ := okWide_slice ht hv
  obtain ⟨fuel, hf⟩ := h
  rcases open_slice ht hf with ⟨hcs, _⟩ | ⟨x, l, c, m, n, D, Pl, hcs, _, hl, hm, hmm, _, hx⟩
  · simp [Value.cells] at hcs
    obtain ⟨rfl, rfl, rfl⟩ := hcs
    exact ⟨none, [], 0, rfl, by simp, by simp [maxLen], fun i hi => absurd hi (by simp), fun i hi => absurd hi (by simp)⟩
  · simp [Value.cells] at hcs
    obtain ⟨rfl, rfl, rfl⟩ := hcs
    have hlm : len ≤ m := by rw [hmm]; split <;> omega
    have each : ∀ i, i < len → ∃ b : Nat, w.cell? (x.add i) = some (.float .f64 b) ∧ b < 18446744073709551616 := by
      intro i hi
      obtain ⟨cs', h1, h2⟩ := hx i (by omega)
      obtain ⟨b, rfl, hwf⟩ := trod_float64 he h2
      rw [hc] at h1
      obtain ⟨_, hlen, hcell⟩ := World.cells?_some h1
      have h0 := hcell 0 (by omega)
      rw [Nat.mul_one, add_of_add, Nat.add_zero] at h0
      refine ⟨b, by simpa using h0, ?_⟩
      have : b < 2 ^ 64 := by simpa [Lit.wf] using hwf
      omega
    have hq := fun i (hlt : i < len) => Classical.choose_spec (each i hlt)
    have hget : ∀ i (hlt : i < len), ((List.range len).map fun i => if hlt : i < len then Classical.choose (each i hlt) else 0).getD i 0 = Classical.choose (each i hlt) := fun i hlt => by simp [List.getD, hlt]
    refine ⟨some x, (List.range len).map fun i => if hlt : i < len then Classical.choose (each i hlt) else 0, cap, by simp, by simpa using hl, hm, fun i hi => ?_, fun i hi => ?_⟩
    · simp at hi
      rw [hget i hi]
      refine ⟨x, rfl, ?_, (hq i hi).1⟩
      have h := World.block_lt_of_cell? w _ (hq i hi).1
      rwa [block_of_add] at h
    · simp at hi
      rw [hget i hi]
      exact (hq i hi).2
end
set_option maxRecDepth 100000 in
set_option maxHeartbeats 8000000 in
theorem weightWholes_walk (xs : List Nat) (A : Option Addr) (cap : Nat) (a b : Int) (w : World) (h : FloatsG w w.heap.size A xs) (hl : xs.length ≤ cap) (hc : cap ≤ maxLen) (hf : ∀ i, i < xs.length → xs.getD i 0 < 18446744073709551616) (_ha : (Lit.int .i64 a).wf = true) (_hb : (Lit.int .i64 b).wf = true) :
    Calls Try.prog 7 #[.slice A xs.length cap, .int .i64 a, .int .i64 b] w fun e w' => e = .returned (.bool true) ∧ Below w.heap.size w w' := by
  clear _ha _hb
  by_cases b1 : (300 : Int) < xs.length
  · clear h hf
    go_enter Try.func7, Try.ntmps7
    go_wp2_with fail
    refine (awake14 _).mono ?_
    rintro e w1 ⟨rfl, hb⟩
    go_wp2_with fail
    go_ret
    exact ⟨rfl, hb⟩
  · have b1' : decide ((300 : Int) < xs.length) = false := decide_eq_false b1
    have hx : xs.length ≤ 5000 := by omega
    have HX := Aside.mk h
    have HF := Aside.mk hf
    have c22 := fun wq (hq : FloatsG wq w.heap.size A xs) (hz : w.heap.size ≤ wq.heap.size) => freqs_any xs A cap w.heap.size wq hq hz hl hc hx hf
    have c23 := fun wq (hq : FloatsG wq w.heap.size A xs) (hz : w.heap.size ≤ wq.heap.size) => refFreqs_any xs A cap w.heap.size wq hq hz hl hc hx
    generalize Weight.freqs xs = D at c22 c23
    obtain ⟨D1, D2⟩ := D
    have HC := Aside.mk hc
    clear h hf b1 hc
    go_enter Try.func7, Try.ntmps7
    go_wp2_with fail
    go_loopw [7, 8, 9, 10, 11] (fun iv _ _ _ _ wr => ∃ i : Nat, i ≤ xs.length ∧ iv = .int .i64 i ∧ Drawn w wr) (fun iv _ _ _ _ _ => xs.length - (intOf iv).toNat)
    case atStart => exact ⟨0, by omega, rfl, 0, rfl⟩
    case round =>
      obtain ⟨i, hi, rfl, hd⟩ := hrel
      have HD := Aside.mk hd
      clear hd
      by_cases hlt : i < xs.length
      · obtain ⟨ad, rfl, hb, e1⟩ := HX.out i hlt
        have k1 : wr.cell? (ad.add i) = some (.float .f64 (xs.getD i 0)) := by obtain ⟨_, rfl⟩ := HD.out; exact e1
        have c20 := fun w => whole_any _ (HF.out i hlt) w
        have c21 := fun w => refWhole_any (xs.getD i 0) w
        have i1 : (0 : Int) ≤ i := by omega
        have i2 : (i : Int) < xs.length := by omega
        generalize Weight.wholeV (xs.getD i 0) = V at c20 c21
        generalize xs.getD i 0 = x at k1 c20 c21
        obtain ⟨V1, V2⟩ := V
        have hv1 : (V1 != V1) = false := by simp
        have hv2 : (V2 != V2) = false := by simp
        clear e1 c22 c23
        go_wp2_with (first | (go_at_call 20; refine (c20 _).mono ?_; rintro e wr ⟨rfl, rfl⟩))
        refine (c21 _).mono ?_
        rintro e w2 ⟨rfl, hd2⟩
        have HD2 : Aside (Drawn w w2) := ⟨by
          obtain ⟨p, rfl⟩ := HD.out
          obtain ⟨q, rfl⟩ := hd2
          exact ⟨p + q, by rw [World.drewN_drewN]⟩⟩
        clear hd2 k1
        go_wp2_with fail
        exact ⟨⟨i + 1, by omega, by go_num, HD2.out⟩, by simp [intOf]; omega⟩
      · obtain rfl : i = xs.length := by omega
        have HB := Aside.mk (bl_drawn (Below.refl w.heap.size w) HD.out)
        go_wp2_with fail
        refine (c22 _ (HX.out.keep HB.out) HB.out.size).mono ?_
        rintro e w1 ⟨r1, rfl, hi1, hb⟩
        replace HB := Aside.mk (bl_step HB.out hb)
        have HI := Aside.mk hi1
        clear hb hi1 c22
        go_wp2_with fail
        refine (c23 _ (HX.out.keep HB.out) HB.out.size).mono ?_
        rintro e w2 ⟨r2, rfl, hi2, hb⟩
        replace HI := Aside.mk ((HI.out.keep hb).up hb.size)
        replace HB := Aside.mk (bl_step HB.out hb)
        have HJ := Aside.mk hi2
        clear hb hi2 c23
        go_wp2_with fail
        refine (ints_any D1 D1 r1 r2 _ _ HI.out HJ.out).mono ?_
        rintro e w3 ⟨rfl, hd⟩
        rw [decide_eq_true (rfl : D1 = D1)]
        replace HB := Aside.mk (bl_drawn HB.out hd)
        clear hd HI HJ
        have hee : (D2 == D2) = true := by simp
        go_wp2_with fail
        refine (ratio_any a b _).mono ?_
        rintro e w4 ⟨q1, rfl, hq1, hd⟩
        replace HB := Aside.mk (bl_drawn HB.out hd)
        have HQ1 := Aside.mk hq1
        clear hd hq1
        go_wp2_with fail
        refine (refRatio_any a b _).mono ?_
        rintro e w5 ⟨q2, rfl, hq2, hd⟩
        replace HB := Aside.mk (bl_drawn HB.out hd)
        have c24 := fun w => alike_any _ _ q1 q2 HQ1.out hq2 w
        clear hd hq2
        go_wp2_with (first | (go_at_call 24; refine (c24 _).mono ?_; rintro e w5 ⟨rfl, rfl⟩))
        refine (awake14 _).mono ?_
        rintro e w6 ⟨rfl, hb⟩
        replace HB := Aside.mk (bl_step HB.out hb)
        clear hb
        go_wp2_with fail
        go_ret
        exact ⟨rfl, HB.out⟩
end Go.Proofs.Ytjmenlffhoodeac
