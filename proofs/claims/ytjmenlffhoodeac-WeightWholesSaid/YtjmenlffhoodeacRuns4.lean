/- runs.run and the reference's row, walked. (Printed by mkruns4.py, a small program of mine.) -/
import Derived.Test.YtjmenlffhoodeacRuns3
namespace Go.Proofs.Ytjmenlffhoodeac
open Go.RowKit

/-- A slice of integers, wherever it begins. -/
def IntsG (w : World) (B : Nat) (A : Option Addr) (xs : List Int) : Prop :=
  ∀ i, i < xs.length → ∃ ad, A = some ad ∧ ad.block < B ∧ w.cell? (ad.add i) = some (.int .i64 (xs.getD i 0))
theorem IntsG.keep {w w' : World} {B : Nat} {A : Option Addr} {xs : List Int} (h : IntsG w B A xs) (hk : Below B w w') : IntsG w' B A xs := fun i hi => by
  obtain ⟨ad, e, hb, c⟩ := h i hi
  exact ⟨ad, e, hb, (hk.cell (by rw [block_of_add]; exact hb)).trans c⟩
theorem IntsG.up {w : World} {B B' : Nat} {A : Option Addr} {xs : List Int} (h : IntsG w B A xs) (hB : B ≤ B') : IntsG w B' A xs := fun i hi => by
  obtain ⟨ad, e, hb, c⟩ := h i hi
  exact ⟨ad, e, by omega, c⟩
theorem add_zero_ (a : Addr) : a.add 0 = a := rfl
theorem headD_getD (xs : List Int) : xs.headD 0 = xs.getD 0 0 := by cases xs <;> rfl

set_option maxRecDepth 100000 in
set_option maxHeartbeats 8000000 in
theorem row_any (xs : List Int) (A : Option Addr) (cap at_ : Nat) (B : Nat) (w : World) (h : IntsG w B A xs) (ha : at_ < xs.length) (hl : xs.length ≤ cap) (hc : cap ≤ maxLen) :
    Calls Try.prog 31 #[.slice A xs.length cap, .int .i64 (at_ : Int)] w fun e w' => e = .returned (.int .i64 (Runs.rowN (xs.drop at_) : Nat)) ∧ Drawn w w' := by
  obtain ⟨ad, rfl, hb, ca⟩ := h at_ ha
  have H := Aside.mk h
  have hhd : (xs.drop at_).headD 0 = xs.getD at_ 0 := by
    rw [headD_getD]; simp [List.getD]
  have HR : Aside (∀ k, at_ + k ≤ xs.length → (∀ i, i < k → xs.getD (at_ + i) 0 = xs.getD at_ 0) → (at_ + k < xs.length → xs.getD (at_ + k) 0 ≠ xs.getD at_ 0) → k = Runs.rowN (xs.drop at_)) := ⟨fun k h1 h2 h3 => by
    refine Runs.rowN_eq _ k (by rw [List.length_drop]; omega) (fun i hi => ?_) (fun hk => ?_)
    · rw [hhd, ← h2 i hi]; simp [List.getD]
    · rw [hhd]
      have := h3 (by rw [List.length_drop] at hk; omega)
      simpa [List.getD] using this⟩
  generalize Runs.rowN (xs.drop at_) = R at HR ⊢
  generalize hz : xs.getD at_ 0 = z at ca HR
  unfold maxLen at hc
  clear h hhd hz
  go_enter Try.func31, Try.ntmps31
  go_wp2_with fail
  go_loopw [5] (fun q wr => ∃ k : Nat, at_ + k ≤ xs.length ∧ q = .int .i64 k ∧ Aside (∀ i, i < k → xs.getD (at_ + i) 0 = z) ∧ ∃ n, wr = w.drewN n) (fun q _ => xs.length - (intOf q).toNat)
  case atStart => exact ⟨0, by omega, rfl, ⟨fun i hi => by omega⟩, 0, rfl⟩
  case round =>
    obtain ⟨k, hk, rfl, HG, nd, rfl⟩ := hrel
    have e1 : IntKind.i64.wrap ((at_ : Int) + (k : Int)) = (at_ : Int) + (k : Int) := IntWalk.i64_in _ (by omega)
    have p1 : (0 : Int) ≤ (at_ : Int) + (k : Int) := by omega
    have p3 : ((at_ : Int) + (k : Int)).toNat = at_ + k := by omega
    have p4 : (0 : Int) ≤ at_ := by omega
    have p5 : (at_ : Int) < xs.length := by omega
    by_cases c1 : at_ + k < xs.length
    · obtain ⟨ad2, h2, _, c2⟩ := H.out (at_ + k) c1
      cases h2
      have b1 : (at_ : Int) + (k : Int) < xs.length := by omega
      by_cases c3 : xs.getD (at_ + k) 0 = z
      · have HJ : Aside (∀ i, i < k + 1 → xs.getD (at_ + i) 0 = z) := ⟨fun i hi => by
          rcases Nat.lt_or_ge i k with h1 | h1
          · exact HG.out i h1
          · rw [show i = k from by omega]; exact c3⟩
        rw [c3] at c2
        clear c3 c1
        go_wp2_with fail
        go_quiet (fail)
        clear e1 p1 p3 c2
        go_wp2_with fail
        exact ⟨⟨k + 1, by omega, by go_num, HJ, _, rfl⟩, by simp [intOf]; omega⟩
      · have HE : Aside (k = R) := ⟨HR.out k hk HG.out (fun _ => c3)⟩
        have hne : (xs.getD (at_ + k) 0 == z) = false := beq_eq_false_iff_ne.2 c3
        generalize xs.getD (at_ + k) 0 = y at c2 hne
        clear c3 c1
        go_wp2_with fail
        go_quiet (fail)
        clear e1 p1 p3 c2
        go_wp2_with fail
        go_ret
        exact ⟨ret_int (by rw [HE.out]), _, by rw [World.drewN_drewN]⟩
    · have HE : Aside (k = R) := ⟨HR.out k hk HG.out (fun h => absurd h c1)⟩
      have b1 : decide ((at_ : Int) + (k : Int) < xs.length) = false := decide_eq_false (by omega)
      clear c1
      go_wp2_with fail
      go_quiet (fail)
      clear e1 p1 p3
      go_wp2_with fail
      go_ret
      exact ⟨ret_int (by rw [HE.out]), _, by rw [World.drewN_drewN]⟩
theorem blkP {w : World} {g : Nat} {t : TypeId} {a b : Value} (h : Blk w g t #[a, b]) : w.cell? ⟨g, 0, none⟩ = some a ∧ w.cell? ⟨g, 1, none⟩ = some b ∧ w.frozen? ⟨g, 0, none⟩ = false ∧ w.frozen? ⟨g, 1, none⟩ = false := ⟨h.cell 0, h.cell 1, h.frozen 0, h.frozen 1⟩
set_option maxRecDepth 100000 in
set_option maxHeartbeats 8000000 in
theorem run_any (x : Int) (t : List Int) (A : Option Addr) (cap : Nat) (last : Int) (B : Nat) (w : World) (h : IntsG w B A (x :: t)) (hB : B ≤ w.heap.size) (hx : (x :: t).length ≤ 5000) :
    Calls Try.prog 30 #[.slice A (x :: t).length cap, .int .i64 last] w fun e w' => e = .returned (.tuple #[.agg #[.int .i64 (Runs.first (x :: t) last).1.1, .int .i64 (Runs.first (x :: t) last).1.2], .int .i64 (Runs.first (x :: t) last).2]) ∧ Below w.heap.size w w' := by
  obtain ⟨ad, rfl, hb, ca⟩ := h 0 (by simp)
  have H := Aside.mk h
  rw [show (x :: t).getD 0 0 = x from rfl] at ca
  have HR : Aside (∀ k, k ≤ (x :: t).length → (∀ i, i < k → (x :: t).getD i 0 = x) → (k < (x :: t).length → (x :: t).getD k 0 ≠ x) → k = Runs.rowN (x :: t)) := ⟨fun k h1 h2 h3 => Runs.rowN_eq _ k h1 h2 h3⟩
  have hf := Runs.first_cons x t last
  have hrp := Runs.rowN_pos x t
  have hrl := Runs.rowN_le (x :: t)
  have hln : 1 ≤ (x :: t).length := by simp
  generalize Runs.first (x :: t) last = F at hf ⊢
  generalize Runs.rowN (x :: t) = R at HR hf hrp hrl
  have hx0 : (x :: t).getD 0 0 = x := rfl
  generalize hxs : x :: t = xs at *
  have HF := Aside.mk hf
  have zB : ad.block < w.heap.size := by omega
  clear h hf hxs
  rw [add_zero_] at ca
  go_enter Try.func30, Try.ntmps30
  go_wp2_with fail
  have HB := Aside.mk (bl_alloc (Below.refl w.heap.size w) (.cells #[.int .i64 0, .int .i64 0] 52))
  have K1 := Aside.mk (Blk.new w 52 #[.int .i64 0, .int .i64 0])
  go_loopw [6] (fun q wr => ∃ k : Nat, 1 ≤ k ∧ k ≤ xs.length ∧ q = .int .i64 k ∧ Aside (∀ i, i < k → xs.getD i 0 = x) ∧ ∃ n, wr = (w.alloc (.cells #[.int .i64 0, .int .i64 0] 52)).drewN n) (fun q _ => xs.length - (intOf q).toNat)
  case atStart => exact ⟨1, by omega, by omega, rfl, ⟨fun i hi => by rw [show i = 0 from by omega]; exact hx0⟩, 0, rfl⟩
  case round =>
    obtain ⟨k, hk0, hk, rfl, HG, nd, rfl⟩ := hrel
    have p1 : (0 : Int) ≤ (k : Int) := by omega
    have p4 : (0 : Int) < xs.length := by omega
    by_cases c1 : k < xs.length
    · obtain ⟨ad2, h2, _, c2⟩ := H.out k c1
      cases h2
      have zB2 : (ad.add k).block < w.heap.size := by rw [block_of_add]; omega
      have b1 : (k : Int) < xs.length := by omega
      by_cases c3 : xs.getD k 0 = x
      · have HJ : Aside (∀ i, i < k + 1 → xs.getD i 0 = x) := ⟨fun i hi => by
          rcases Nat.lt_or_ge i k with h1 | h1
          · exact HG.out i h1
          · rw [show i = k from by omega]; exact c3⟩
        rw [c3] at c2
        clear c3 c1
        go_wp2_with fail
        go_quiet (fail)
        clear p1 c2
        go_wp2_with fail
        exact ⟨⟨k + 1, by omega, by omega, by go_num, HJ, _, rfl⟩, by simp [intOf]; omega⟩
      · have HE : Aside (k = R) := ⟨HR.out k hk HG.out (fun _ => c3)⟩
        have hne : (xs.getD k 0 == x) = false := beq_eq_false_iff_ne.2 c3
        generalize xs.getD k 0 = y at c2 hne
        clear c3 c1
        go_wp2_with fail
        go_quiet (fail)
        clear p1 c2 hne b1
        replace K1 := Aside.mk ((K1.out.drewN nd).drewN nq)
        replace HB := Aside.mk (bl_drewN (bl_drewN HB.out nd) nq)
        have cW : World.cell? (((w.alloc (.cells #[.int .i64 0, .int .i64 0] 52)).drewN nd).drewN nq) ad = some (.int .i64 x) := (World.cell?_alloc_lt w _ ad zB).trans ca
        have HRR := HE.out
        subst HRR
        have hff := HF.out
        clear HF HE ca
        generalize ((w.alloc (.cells #[.int .i64 0, .int .i64 0] 52)).drewN nd).drewN nq = w2 at K1 HB cW ⊢
        generalize hgN : w.heap.size = gN at K1 ⊢
        have HGN := Aside.mk hgN
        clear hgN
        obtain ⟨k0c, k1c, f0c, f1c⟩ := blkP K1.out
        by_cases a1 : x = 0 ∧ 11 ≤ k
        · rw [if_pos a1] at hff
          obtain ⟨rfl, a2⟩ := a1
          have HFF := Aside.mk hff
          clear hff
          have a3 : (11 : Int) ≤ k := by omega
          clear a2
          by_cases hmx : 138 < k
          · have hmi : (138 : Int) < k := by omega
            rw [show min k 138 = 138 from by omega] at HFF
            go_wp2_with fail
            refine bodyPost_ret (v := .tuple #[.agg #[.int .i64 18, .int .i64 127], .int .i64 138]) (by simp [results, Try.results30, go_sem, k0c, k1c]) rfl ⟨by rw [HFF.out] <;> rfl, ?_⟩
            exact bl_set (bl_set HB.out (by rw [← HGN.out]; exact Nat.le_refl _) _) (by rw [← HGN.out]; exact Nat.le_refl _) _
          · have hmi : (k : Int) ≤ 138 := by omega
            rw [show min k 138 = k from by omega] at HFF
            go_wp2_with fail
            refine bodyPost_ret (v := .tuple #[.agg #[.int .i64 18, .int .i64 ((k : Int) - 11)], .int .i64 k]) (by simp [results, Try.results30, go_sem, k0c, k1c]) rfl ⟨by rw [HFF.out] <;> rfl, ?_⟩
            exact bl_set (bl_set HB.out (by rw [← HGN.out]; exact Nat.le_refl _) _) (by rw [← HGN.out]; exact Nat.le_refl _) _
        · rw [if_neg a1] at hff
          by_cases a2 : x = 0 ∧ 3 ≤ k
          · rw [if_pos a2] at hff
            obtain ⟨rfl, a3⟩ := a2
            have HFF := Aside.mk hff
            clear hff
            have a4 : decide ((11 : Int) ≤ k) = false := decide_eq_false (by omega)
            have a5 : (3 : Int) ≤ k := by omega
            clear a1 a3
            by_cases hmx : 10 < k
            · have hmi : (10 : Int) < k := by omega
              rw [show min k 10 = 10 from by omega] at HFF
              go_wp2_with fail
              refine bodyPost_ret (v := .tuple #[.agg #[.int .i64 17, .int .i64 7], .int .i64 10]) (by simp [results, Try.results30, go_sem, k0c, k1c]) rfl ⟨by rw [HFF.out] <;> rfl, ?_⟩
              exact bl_set (bl_set HB.out (by rw [← HGN.out]; exact Nat.le_refl _) _) (by rw [← HGN.out]; exact Nat.le_refl _) _
            · have hmi : (k : Int) ≤ 10 := by omega
              rw [show min k 10 = k from by omega] at HFF
              go_wp2_with fail
              refine bodyPost_ret (v := .tuple #[.agg #[.int .i64 17, .int .i64 ((k : Int) - 3)], .int .i64 k]) (by simp [results, Try.results30, go_sem, k0c, k1c]) rfl ⟨by rw [HFF.out] <;> rfl, ?_⟩
              exact bl_set (bl_set HB.out (by rw [← HGN.out]; exact Nat.le_refl _) _) (by rw [← HGN.out]; exact Nat.le_refl _) _
          · rw [if_neg a2] at hff
            by_cases a3 : x ≠ 0 ∧ x = last ∧ 3 ≤ k
            · rw [if_pos a3] at hff
              obtain ⟨b1, rfl, b2⟩ := a3
              have HFF := Aside.mk hff
              clear hff
              have g0 : (x == 0) = false := beq_eq_false_iff_ne.2 b1
              have g1 : (x != 0) = true := by simpa using b1
              have a5 : (3 : Int) ≤ k := by omega
              clear a1 a2 b1 b2
              by_cases hmx : 6 < k
              · have hmi : (6 : Int) < k := by omega
                rw [show min k 6 = 6 from by omega] at HFF
                go_wp2_with fail
                refine bodyPost_ret (v := .tuple #[.agg #[.int .i64 16, .int .i64 3], .int .i64 6]) (by simp [results, Try.results30, go_sem, k0c, k1c]) rfl ⟨by rw [HFF.out] <;> rfl, ?_⟩
                exact bl_set (bl_set HB.out (by rw [← HGN.out]; exact Nat.le_refl _) _) (by rw [← HGN.out]; exact Nat.le_refl _) _
              · have hmi : (k : Int) ≤ 6 := by omega
                rw [show min k 6 = k from by omega] at HFF
                go_wp2_with fail
                refine bodyPost_ret (v := .tuple #[.agg #[.int .i64 16, .int .i64 ((k : Int) - 3)], .int .i64 k]) (by simp [results, Try.results30, go_sem, k0c, k1c]) rfl ⟨by rw [HFF.out] <;> rfl, ?_⟩
                exact bl_set (bl_set HB.out (by rw [← HGN.out]; exact Nat.le_refl _) _) (by rw [← HGN.out]; exact Nat.le_refl _) _
            · rw [if_neg a3] at hff
              have HFF := Aside.mk hff
              clear hff
              by_cases e0 : x = 0
              · subst e0
                have q1 : decide ((3 : Int) ≤ k) = false := decide_eq_false (by omega)
                have q2 : decide ((11 : Int) ≤ k) = false := decide_eq_false (by omega)
                clear a1 a2 a3
                go_wp2_with fail
                refine bodyPost_ret (v := .tuple #[.agg #[.int .i64 0, .int .i64 0], .int .i64 1]) (by simp [results, Try.results30, go_sem, k0c, k1c]) rfl ⟨by rw [HFF.out] <;> rfl, ?_⟩
                exact bl_set (bl_set HB.out (by rw [← HGN.out]; exact Nat.le_refl _) _) (by rw [← HGN.out]; exact Nat.le_refl _) _
              · have g0 : (x == 0) = false := beq_eq_false_iff_ne.2 e0
                have g1 : (x != 0) = true := by simpa using e0
                by_cases el : x = last
                · subst el
                  have q1 : decide ((3 : Int) ≤ k) = false := decide_eq_false (by omega)
                  clear a1 a2 a3 e0
                  go_wp2_with fail
                  refine bodyPost_ret (v := .tuple #[.agg #[.int .i64 x, .int .i64 0], .int .i64 1]) (by simp [results, Try.results30, go_sem, k0c, k1c]) rfl ⟨by rw [HFF.out] <;> rfl, ?_⟩
                  exact bl_set (bl_set HB.out (by rw [← HGN.out]; exact Nat.le_refl _) _) (by rw [← HGN.out]; exact Nat.le_refl _) _
                · have g2 : (x == last) = false := beq_eq_false_iff_ne.2 el
                  clear a1 a2 a3 e0 el
                  go_wp2_with fail
                  refine bodyPost_ret (v := .tuple #[.agg #[.int .i64 x, .int .i64 0], .int .i64 1]) (by simp [results, Try.results30, go_sem, k0c, k1c]) rfl ⟨by rw [HFF.out] <;> rfl, ?_⟩
                  exact bl_set (bl_set HB.out (by rw [← HGN.out]; exact Nat.le_refl _) _) (by rw [← HGN.out]; exact Nat.le_refl _) _
    · have HE : Aside (k = R) := ⟨HR.out k hk HG.out (fun h => absurd h c1)⟩
      have b1 : decide (k < xs.length) = false := decide_eq_false c1
      clear c1
      go_wp2_with fail
      go_quiet (fail)
      clear p1 b1
      replace K1 := Aside.mk ((K1.out.drewN nd).drewN nq)
      replace HB := Aside.mk (bl_drewN (bl_drewN HB.out nd) nq)
      have cW : World.cell? (((w.alloc (.cells #[.int .i64 0, .int .i64 0] 52)).drewN nd).drewN nq) ad = some (.int .i64 x) := (World.cell?_alloc_lt w _ ad zB).trans ca
      have HRR := HE.out
      subst HRR
      have hff := HF.out
      clear HF HE ca
      generalize ((w.alloc (.cells #[.int .i64 0, .int .i64 0] 52)).drewN nd).drewN nq = w2 at K1 HB cW ⊢
      generalize hgN : w.heap.size = gN at K1 ⊢
      have HGN := Aside.mk hgN
      clear hgN
      obtain ⟨k0c, k1c, f0c, f1c⟩ := blkP K1.out
      by_cases a1 : x = 0 ∧ 11 ≤ k
      · rw [if_pos a1] at hff
        obtain ⟨rfl, a2⟩ := a1
        have HFF := Aside.mk hff
        clear hff
        have a3 : (11 : Int) ≤ k := by omega
        clear a2
        by_cases hmx : 138 < k
        · have hmi : (138 : Int) < k := by omega
          rw [show min k 138 = 138 from by omega] at HFF
          go_wp2_with fail
          refine bodyPost_ret (v := .tuple #[.agg #[.int .i64 18, .int .i64 127], .int .i64 138]) (by simp [results, Try.results30, go_sem, k0c, k1c]) rfl ⟨by rw [HFF.out] <;> rfl, ?_⟩
          exact bl_set (bl_set HB.out (by rw [← HGN.out]; exact Nat.le_refl _) _) (by rw [← HGN.out]; exact Nat.le_refl _) _
        · have hmi : (k : Int) ≤ 138 := by omega
          rw [show min k 138 = k from by omega] at HFF
          go_wp2_with fail
          refine bodyPost_ret (v := .tuple #[.agg #[.int .i64 18, .int .i64 ((k : Int) - 11)], .int .i64 k]) (by simp [results, Try.results30, go_sem, k0c, k1c]) rfl ⟨by rw [HFF.out] <;> rfl, ?_⟩
          exact bl_set (bl_set HB.out (by rw [← HGN.out]; exact Nat.le_refl _) _) (by rw [← HGN.out]; exact Nat.le_refl _) _
      · rw [if_neg a1] at hff
        by_cases a2 : x = 0 ∧ 3 ≤ k
        · rw [if_pos a2] at hff
          obtain ⟨rfl, a3⟩ := a2
          have HFF := Aside.mk hff
          clear hff
          have a4 : decide ((11 : Int) ≤ k) = false := decide_eq_false (by omega)
          have a5 : (3 : Int) ≤ k := by omega
          clear a1 a3
          by_cases hmx : 10 < k
          · have hmi : (10 : Int) < k := by omega
            rw [show min k 10 = 10 from by omega] at HFF
            go_wp2_with fail
            refine bodyPost_ret (v := .tuple #[.agg #[.int .i64 17, .int .i64 7], .int .i64 10]) (by simp [results, Try.results30, go_sem, k0c, k1c]) rfl ⟨by rw [HFF.out] <;> rfl, ?_⟩
            exact bl_set (bl_set HB.out (by rw [← HGN.out]; exact Nat.le_refl _) _) (by rw [← HGN.out]; exact Nat.le_refl _) _
          · have hmi : (k : Int) ≤ 10 := by omega
            rw [show min k 10 = k from by omega] at HFF
            go_wp2_with fail
            refine bodyPost_ret (v := .tuple #[.agg #[.int .i64 17, .int .i64 ((k : Int) - 3)], .int .i64 k]) (by simp [results, Try.results30, go_sem, k0c, k1c]) rfl ⟨by rw [HFF.out] <;> rfl, ?_⟩
            exact bl_set (bl_set HB.out (by rw [← HGN.out]; exact Nat.le_refl _) _) (by rw [← HGN.out]; exact Nat.le_refl _) _
        · rw [if_neg a2] at hff
          by_cases a3 : x ≠ 0 ∧ x = last ∧ 3 ≤ k
          · rw [if_pos a3] at hff
            obtain ⟨b1, rfl, b2⟩ := a3
            have HFF := Aside.mk hff
            clear hff
            have g0 : (x == 0) = false := beq_eq_false_iff_ne.2 b1
            have g1 : (x != 0) = true := by simpa using b1
            have a5 : (3 : Int) ≤ k := by omega
            clear a1 a2 b1 b2
            by_cases hmx : 6 < k
            · have hmi : (6 : Int) < k := by omega
              rw [show min k 6 = 6 from by omega] at HFF
              go_wp2_with fail
              refine bodyPost_ret (v := .tuple #[.agg #[.int .i64 16, .int .i64 3], .int .i64 6]) (by simp [results, Try.results30, go_sem, k0c, k1c]) rfl ⟨by rw [HFF.out] <;> rfl, ?_⟩
              exact bl_set (bl_set HB.out (by rw [← HGN.out]; exact Nat.le_refl _) _) (by rw [← HGN.out]; exact Nat.le_refl _) _
            · have hmi : (k : Int) ≤ 6 := by omega
              rw [show min k 6 = k from by omega] at HFF
              go_wp2_with fail
              refine bodyPost_ret (v := .tuple #[.agg #[.int .i64 16, .int .i64 ((k : Int) - 3)], .int .i64 k]) (by simp [results, Try.results30, go_sem, k0c, k1c]) rfl ⟨by rw [HFF.out] <;> rfl, ?_⟩
              exact bl_set (bl_set HB.out (by rw [← HGN.out]; exact Nat.le_refl _) _) (by rw [← HGN.out]; exact Nat.le_refl _) _
          · rw [if_neg a3] at hff
            have HFF := Aside.mk hff
            clear hff
            by_cases e0 : x = 0
            · subst e0
              have q1 : decide ((3 : Int) ≤ k) = false := decide_eq_false (by omega)
              have q2 : decide ((11 : Int) ≤ k) = false := decide_eq_false (by omega)
              clear a1 a2 a3
              go_wp2_with fail
              refine bodyPost_ret (v := .tuple #[.agg #[.int .i64 0, .int .i64 0], .int .i64 1]) (by simp [results, Try.results30, go_sem, k0c, k1c]) rfl ⟨by rw [HFF.out] <;> rfl, ?_⟩
              exact bl_set (bl_set HB.out (by rw [← HGN.out]; exact Nat.le_refl _) _) (by rw [← HGN.out]; exact Nat.le_refl _) _
            · have g0 : (x == 0) = false := beq_eq_false_iff_ne.2 e0
              have g1 : (x != 0) = true := by simpa using e0
              by_cases el : x = last
              · subst el
                have q1 : decide ((3 : Int) ≤ k) = false := decide_eq_false (by omega)
                clear a1 a2 a3 e0
                go_wp2_with fail
                refine bodyPost_ret (v := .tuple #[.agg #[.int .i64 x, .int .i64 0], .int .i64 1]) (by simp [results, Try.results30, go_sem, k0c, k1c]) rfl ⟨by rw [HFF.out] <;> rfl, ?_⟩
                exact bl_set (bl_set HB.out (by rw [← HGN.out]; exact Nat.le_refl _) _) (by rw [← HGN.out]; exact Nat.le_refl _) _
              · have g2 : (x == last) = false := beq_eq_false_iff_ne.2 el
                clear a1 a2 a3 e0 el
                go_wp2_with fail
                refine bodyPost_ret (v := .tuple #[.agg #[.int .i64 x, .int .i64 0], .int .i64 1]) (by simp [results, Try.results30, go_sem, k0c, k1c]) rfl ⟨by rw [HFF.out] <;> rfl, ?_⟩
                exact bl_set (bl_set HB.out (by rw [← HGN.out]; exact Nat.le_refl _) _) (by rw [← HGN.out]; exact Nat.le_refl _) _
end Go.Proofs.Ytjmenlffhoodeac
