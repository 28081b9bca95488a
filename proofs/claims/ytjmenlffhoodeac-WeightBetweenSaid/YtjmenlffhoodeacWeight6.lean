/- Rows of numbers cut down: Freqs, and its reference, walked. -/
import Derived.Test.YtjmenlffhoodeacWeight5
namespace Go.Proofs.Ytjmenlffhoodeac
open Go.RowKit

/-- A row of floats, below block number B. -/
def FloatsG (w : World) (B : Nat) (A : Option Addr) (xs : List Nat) : Prop := ∀ i, i < xs.length → ∃ ad, A = some ad ∧ ad.block < B ∧ w.cell? (ad.add i) = some (.float .f64 (xs.getD i 0))
theorem FloatsG.keep {w w' : World} {B : Nat} {A : Option Addr} {xs : List Nat} (h : FloatsG w B A xs) (hk : Below B w w') : FloatsG w' B A xs := fun i hi => by
  obtain ⟨ad, h1, h2, h3⟩ := h i hi
  exact ⟨ad, h1, h2, (hk.cell (by rw [block_of_add]; exact h2)).trans h3⟩
namespace Weight
def fq : List Nat → List Int → List Int × Int
  | [], acc => (acc, 0)
  | b :: t, acc => if (wholeV b).2 = 0 then fq t (acc ++ [(wholeV b).1]) else ([], (wholeV b).2)
def freqs (xs : List Nat) : List Int × Int := fq xs []
theorem fq_end (xs : List Nat) (acc : List Int) : fq (xs.drop xs.length) acc = (acc, 0) := by rw [List.drop_length]; rfl
theorem drop_get (xs : List Nat) (i : Nat) (h : i < xs.length) : xs.drop i = xs.getD i 0 :: xs.drop (i + 1) := by
  rw [List.drop_eq_getElem_cons h]
  simp [List.getD, h]
theorem fq_on (xs : List Nat) (acc : List Int) (i : Nat) (h : i < xs.length) (he : (wholeV (xs.getD i 0)).2 = 0) : fq (xs.drop i) acc = fq (xs.drop (i + 1)) (acc ++ [(wholeV (xs.getD i 0)).1]) := by
  rw [drop_get xs i h, fq, if_pos he]
theorem fq_bad (xs : List Nat) (acc : List Int) (i : Nat) (h : i < xs.length) (he : (wholeV (xs.getD i 0)).2 ≠ 0) : fq (xs.drop i) acc = ([], (wholeV (xs.getD i 0)).2) := by
  rw [drop_get xs i h, fq, if_neg he]
theorem wholeV_bd (b : Nat) : 0 ≤ (wholeV b).2 ∧ (wholeV b).2 ≤ 9 := by
  unfold wholeV
  split
  · decide
  · split
    · decide
    · split
      · simp
      · simp
end Weight
theorem own_more {w : World} {base : Nat} {v : Value} {xs : List Int} {z : Int} (h : w.ownsRow base 3 1 v (xs.length + 1) (xs.map (Value.int .i64) ++ [.int .i64 z])) :
    w.ownsRow base 3 1 v (xs ++ [z]).length ((xs ++ [z]).map (Value.int .i64)) := by
  rw [List.length_append, List.map_append]
  exact h
set_option maxRecDepth 100000 in
set_option maxHeartbeats 4000000 in
theorem freqs_any (xs : List Nat) (A : Option Addr) (cap : Nat) (B : Nat) (w : World) (h : FloatsG w B A xs) (hB : B ≤ w.heap.size) (_hl : xs.length ≤ cap) (hc : cap ≤ maxLen) (hx : xs.length ≤ 5000) (hf : ∀ i, i < xs.length → xs.getD i 0 < 18446744073709551616) :
    Calls Try.prog 22 #[.slice A xs.length cap] w fun e w' => ∃ r, e = .returned (.tuple #[r, .int .i64 (Weight.freqs xs).2]) ∧ IntsAt w' w'.heap.size r (Weight.freqs xs).1 ∧ Below w.heap.size w w' := by
  obtain ⟨i0, hi0, hz0, hz1, hz2⟩ := info_parts int_info
  have HX := Aside.mk h
  have HC := Aside.mk hc
  have HF := Aside.mk hf
  have HD := Aside.mk (show Weight.fq (xs.drop 0) [] = Weight.freqs xs from rfl)
  generalize Weight.freqs xs = D at HD ⊢
  clear hc h hf
  go_enter Try.func22, Try.ntmps22
  go_wp2_with fail
  go_loopw [4, 6, 7, 8, 11] (fun ov _ _ _ iv wr => ∃ (i : Nat) (acc : List Int), i ≤ xs.length ∧ iv = .int .i64 i ∧ wr.ownsRow w.heap.size 3 1 ov acc.length (acc.map (Value.int .i64)) ∧ acc.length ≤ i ∧ Aside (Weight.fq (xs.drop i) acc = D) ∧ Aside (Below w.heap.size w wr)) (fun _ _ _ _ iv _ => xs.length - (intOf iv).toNat)
  case atStart => exact ⟨0, [], by omega, rfl, World.ownsRow_nil _ _ _ _, by simp, HD, ⟨Below.refl _ _⟩⟩
  case round =>
    obtain ⟨i, acc, hi, rfl, hown, hacc, HM, HB⟩ := hrel
    by_cases hlt : i < xs.length
    · obtain ⟨ad, rfl, hb, e1⟩ := HX.out i hlt
      have k1 : wr.cell? (ad.add i) = _ := (HB.out.cell (by rw [block_of_add]; omega)).trans e1
      have c20 := fun w => whole_any _ (HF.out i hlt) w
      have i1 : (0 : Int) ≤ i := by omega
      have i2 : (i : Int) < xs.length := by omega
      obtain ⟨Ao, co, rfl⟩ := own_form hown
      by_cases he : (Weight.wholeV (xs.getD i 0)).2 = 0
      · have HN := Aside.mk ((Weight.fq_on xs acc i hlt he).symm.trans HM.out)
        generalize (Weight.wholeV (xs.getD i 0)).1 = z at c20 HN
        rw [he] at c20
        generalize xs.getD i 0 = x at k1 c20
        clear e1 HM
        go_wp2_with (first | (go_at_call 20; refine (c20 _).mono ?_; rintro e wr ⟨rfl, rfl⟩) | (at_builtin; refine wpList_append_own _ rfl _ _ 22 rfl w.heap.size 3 i0 (.int .i64 0) 1 8 Try.underlying22 hi0 hz0 hz1 hz2 rfl (by decide) _ _ _ rfl (hown.alloc _) ⟨_, 0, none⟩ 1 1 [.int .i64 z] rfl rfl ?c1 ?c2 ?c3 ?c4 ?c5 ?_))
        case c1 => exact cell_one_new _ _ _
        case c2 => simp [Value.oneCell']
        case c3 => unfold maxLen; omega
        case c4 => omega
        case c5 => have := HB.out.size; simp; omega
        intro v' w1 hown' hgrow _
        have HB1 := Aside.mk (below_grown (bl_alloc HB.out _) (hown.alloc _) hgrow)
        clear hgrow hown
        go_wp2_with fail
        exact ⟨⟨i + 1, acc ++ [z], by omega, by go_num, own_more hown', by rw [List.length_append]; simp; omega, HN, HB1⟩, by simp [intOf]; omega⟩
      · have HN := Aside.mk ((Weight.fq_bad xs acc i hlt he).symm.trans HM.out)
        have hbd := Weight.wholeV_bd (xs.getD i 0)
        generalize (Weight.wholeV (xs.getD i 0)).1 = z at c20 HN
        generalize (Weight.wholeV (xs.getD i 0)).2 = y at c20 HN he hbd
        have d1 : (y != 0) = true := by simpa using he
        generalize xs.getD i 0 = x at k1 c20
        clear e1 HM he
        go_wp2_with (first | (go_at_call 20; refine (c20 _).mono ?_; rintro e wr ⟨rfl, rfl⟩))
        go_ret2
        exact ⟨_, by rw [← HN.out]; rfl, .inl ⟨rfl, by rw [← HN.out]⟩, HB.out⟩
    · obtain rfl : i = xs.length := by omega
      have HE := Aside.mk ((Weight.fq_end xs acc).symm.trans HM.out)
      clear HM
      go_wp2_with fail
      go_ret2
      exact ⟨_, by rw [← HE.out]; rfl, by rw [← HE.out]; exact intsAt_own hown, HB.out⟩
set_option maxRecDepth 100000 in
set_option maxHeartbeats 4000000 in
theorem refFreqs_any (xs : List Nat) (A : Option Addr) (cap : Nat) (B : Nat) (w : World) (h : FloatsG w B A xs) (hB : B ≤ w.heap.size) (_hl : xs.length ≤ cap) (hc : cap ≤ maxLen) (hx : xs.length ≤ 5000) :
    Calls Try.prog 23 #[.slice A xs.length cap] w fun e w' => ∃ r, e = .returned (.tuple #[r, .int .i64 (Weight.freqs xs).2]) ∧ IntsAt w' w'.heap.size r (Weight.freqs xs).1 ∧ Below w.heap.size w w' := by
  obtain ⟨i0, hi0, hz0, hz1, hz2⟩ := info_parts int_info
  have HX := Aside.mk h
  have HC := Aside.mk hc
  have HD := Aside.mk (show Weight.fq (xs.drop 0) [] = Weight.freqs xs from rfl)
  generalize Weight.freqs xs = D at HD ⊢
  clear hc h
  go_enter Try.func23, Try.ntmps23
  go_wp2_with fail
  go_loopw [4, 5, 6, 7] (fun ov iv _ _ wr => ∃ (i : Nat) (acc : List Int), i ≤ xs.length ∧ iv = .int .i64 i ∧ wr.ownsRow w.heap.size 3 1 ov acc.length (acc.map (Value.int .i64)) ∧ acc.length ≤ i ∧ Aside (Weight.fq (xs.drop i) acc = D) ∧ Aside (Below w.heap.size w wr)) (fun _ iv _ _ _ => xs.length - (intOf iv).toNat)
  case atStart => exact ⟨0, [], by omega, rfl, World.ownsRow_nil _ _ _ _, by simp, HD, ⟨Below.refl _ _⟩⟩
  case round =>
    obtain ⟨i, acc, hi, rfl, hown, hacc, HM, HB⟩ := hrel
    by_cases hlt : i < xs.length
    · obtain ⟨ad, rfl, hb, e1⟩ := HX.out i hlt
      have k1 : wr.cell? (ad.add i) = _ := (HB.out.cell (by rw [block_of_add]; omega)).trans e1
      have c21 := fun w => refWhole_any (xs.getD i 0) w
      have i1 : (0 : Int) ≤ i := by omega
      have i2 : (i : Int) < xs.length := by omega
      obtain ⟨Ao, co, rfl⟩ := own_form hown
      by_cases he : (Weight.wholeV (xs.getD i 0)).2 = 0
      · have HN := Aside.mk ((Weight.fq_on xs acc i hlt he).symm.trans HM.out)
        generalize (Weight.wholeV (xs.getD i 0)).1 = z at c21 HN
        rw [he] at c21
        generalize xs.getD i 0 = x at k1 c21
        clear e1 HM
        go_wp2_with fail
        refine (c21 _).mono ?_
        rintro e w2 ⟨rfl, hd⟩
        have hown2 := own_below hown (bl_drawn (bl_refl _) hd)
        have HB2 := Aside.mk (bl_drawn HB.out hd)
        clear hd hown HB k1
        go_wp2_with (at_builtin; refine wpList_append_own _ rfl _ _ 22 rfl w.heap.size 3 i0 (.int .i64 0) 1 8 Try.underlying22 hi0 hz0 hz1 hz2 rfl (by decide) _ _ _ rfl (hown2.alloc _) ⟨_, 0, none⟩ 1 1 [.int .i64 z] rfl rfl ?c1 ?c2 ?c3 ?c4 ?c5 ?_)
        case c1 => exact cell_one_new _ _ _
        case c2 => simp [Value.oneCell']
        case c3 => unfold maxLen; omega
        case c4 => omega
        case c5 => have := HB2.out.size; simp; omega
        intro v' w1 hown' hgrow _
        have HB1 := Aside.mk (below_grown (bl_alloc HB2.out _) (hown2.alloc _) hgrow)
        clear hgrow hown2
        go_wp2_with fail
        exact ⟨⟨i + 1, acc ++ [z], by omega, by go_num, own_more hown', by rw [List.length_append]; simp; omega, HN, HB1⟩, by simp [intOf]; omega⟩
      · have HN := Aside.mk ((Weight.fq_bad xs acc i hlt he).symm.trans HM.out)
        generalize (Weight.wholeV (xs.getD i 0)).1 = z at c21 HN
        generalize (Weight.wholeV (xs.getD i 0)).2 = y at c21 HN he
        have d1 : (y != 0) = true := by simpa using he
        generalize xs.getD i 0 = x at k1 c21
        clear e1 HM he
        go_wp2_with fail
        refine (c21 _).mono ?_
        rintro e w2 ⟨rfl, hd⟩
        have HB2 := Aside.mk (bl_drawn HB.out hd)
        clear hd hown HB k1
        go_wp2_with fail
        go_ret2
        exact ⟨_, by rw [← HN.out]; rfl, .inl ⟨rfl, by rw [← HN.out]⟩, HB2.out⟩
    · obtain rfl : i = xs.length := by omega
      have HE := Aside.mk ((Weight.fq_end xs acc).symm.trans HM.out)
      clear HM
      go_wp2_with fail
      go_ret2
      exact ⟨_, by rw [← HE.out]; rfl, by rw [← HE.out]; exact intsAt_own hown, HB.out⟩
end Go.Proofs.Ytjmenlffhoodeac
