/- chain's and bintree's shared, walked. -/
import Derived.Test.YtjmenlffhoodeaaFind1
namespace Go.Proofs.Ytjmenlffhoodeaa
open Go.RowKit

set_option maxRecDepth 100000 in
set_option maxHeartbeats 2000000 in
theorem shared_any (s : ByteArray) (g i k m : Nat) (w : World) (hs : s.size ≤ 65536) (hi : i ≤ s.size) (hk : k < i) (hm : m ≤ 65536) (hc : w.cell? ⟨g, 0, none⟩ = some (.string s)) :
    Calls Try.prog 52 #[.pointer (some ⟨g, 0, none⟩), .int .i64 (i : Int), .int .i64 (k : Int), .int .i64 (m : Int)] w fun e w' => e = .returned (.int .i64 (min (Find.lcp (bytN s) s.size i k) m : Nat)) ∧ Drawn w w' := by
  go_enter Try.func52, Try.ntmps52
  go_wp2_with fail
  go_loopw [9] (fun q wr => ∃ n : Nat, n ≤ m ∧ i + n ≤ s.size ∧ q = .int .i64 n ∧ Aside (∀ j, j < n → Find.goes (bytN s) s.size i k j = true) ∧ ∃ z, wr = w.drewN z) (fun q _ => (s.size - i) - (intOf q).toNat)
  case atStart => exact ⟨0, by omega, by omega, rfl, ⟨fun j hj => absurd hj (by omega)⟩, 0, rfl⟩
  case round =>
    obtain ⟨n, hnm, hn, rfl, HG, z, rfl⟩ := hrel
    have e1 : IntKind.i64.wrap ((i : Int) + (n : Int)) = (i : Int) + (n : Int) := IntWalk.i64_in _ (by omega)
    have p1 : (0 : Int) ≤ (i : Int) + (n : Int) := by omega
    have HI := Aside.mk (goes_iff s i k n)
    by_cases c0 : n < m
    · have b0 : decide (n < m) = true := decide_eq_true c0
      by_cases c1 : i + n < s.size
      · have b1 : (i : Int) + (n : Int) < s.size := by omega
        have e2 : IntKind.i64.wrap ((k : Int) + (n : Int)) = (k : Int) + (n : Int) := IntWalk.i64_in _ (by omega)
        have p2 : (0 : Int) ≤ (k : Int) + (n : Int) := by omega
        have c2 : k + n < s.size := by omega
        have b2 : (k : Int) + (n : Int) < s.size := by omega
        have q1 := run_idx (P := Try.prog) 9 s .i64 ((i : Int) + (n : Int)) (i + n) (by omega) c1 Try.underlying9
        have q2 := run_idx (P := Try.prog) 9 s .i64 ((k : Int) + (n : Int)) (k + n) (by omega) c2 Try.underlying9
        rw [byt_N] at q1 q2
        by_cases c3 : bytN s (i + n) = bytN s (k + n)
        · have HJ : Aside (∀ j, j < n + 1 → Find.goes (bytN s) s.size i k j = true) := ⟨fun j hj => by
            rcases Nat.lt_or_ge j n with h1 | h1
            · exact HG.out j h1
            · rw [show j = n from by omega]; exact HI.out.2 ⟨c1, c2, c3⟩⟩
          rw [← c3] at q2
          clear c3
          generalize bytN s (i + n) = x at q1 q2
          go_wp2_with fail
          go_quiet (fail)
          clear q1 q2 e1 e2
          go_wp2_with fail
          exact ⟨⟨n + 1, by omega, by omega, by go_num, HJ, _, rfl⟩, by simp [intOf]; omega⟩
        · have HE : Aside (n = min (Find.lcp (bytN s) s.size i k) m) := ⟨by
            have := Find.lcp_eq _ _ _ _ n HG.out (by
              have := HI.out
              rw [← Bool.not_eq_true]
              exact fun h => c3 (this.1 h).2.2)
            omega⟩
          have hne : ((bytN s (i + n) : Int) == (bytN s (k + n) : Int)) = false := beq_eq_false_iff_ne.2 (by omega)
          clear c3
          generalize bytN s (i + n) = x at q1 hne
          generalize bytN s (k + n) = y at q2 hne
          go_wp2_with fail
          go_quiet (fail)
          clear q1 q2 e1 e2
          go_wp2_with fail
          go_ret
          exact ⟨ret_int (by rw [← HE.out]), _, by rw [World.drewN_drewN]⟩
      · have HE : Aside (n = min (Find.lcp (bytN s) s.size i k) m) := ⟨by
          have := Find.lcp_eq _ _ _ _ n HG.out (by
            have := HI.out
            rw [← Bool.not_eq_true]
            exact fun h => c1 (this.1 h).1)
          omega⟩
        have b1 : decide ((i : Int) + (n : Int) < s.size) = false := decide_eq_false (by omega)
        go_wp2_with fail
        go_quiet (fail)
        clear e1
        go_wp2_with fail
        go_ret
        exact ⟨ret_int (by rw [← HE.out]), _, by rw [World.drewN_drewN]⟩
    · have HE : Aside (n = min (Find.lcp (bytN s) s.size i k) m) := ⟨by
        have := Find.lcp_ge _ _ _ _ n HG.out
        omega⟩
      have b0 : decide (n < m) = false := decide_eq_false c0
      go_wp2_with fail
      go_quiet (fail)
      clear e1
      go_wp2_with fail
      go_ret
      exact ⟨ret_int (by rw [← HE.out]), _, by rw [World.drewN_drewN]⟩
set_option maxRecDepth 100000 in
set_option maxHeartbeats 2000000 in
theorem shared57_any (s : ByteArray) (g i k : Nat) (w : World) (hs : s.size ≤ 65536) (hi : i ≤ s.size) (hk : k < i) (hc : w.cell? ⟨g, 0, none⟩ = some (.string s)) :
    Calls Try.prog 57 #[.pointer (some ⟨g, 0, none⟩), .int .i64 (i : Int), .int .i64 (k : Int)] w fun e w' => e = .returned (.int .i64 (min (Find.lcp (bytN s) s.size i k) 258 : Nat)) ∧ Drawn w w' := by
  go_enter Try.func57, Try.ntmps57
  go_wp2_with fail
  go_loopw [7] (fun q wr => ∃ n : Nat, n ≤ 258 ∧ i + n ≤ s.size ∧ q = .int .i64 n ∧ Aside (∀ j, j < n → Find.goes (bytN s) s.size i k j = true) ∧ ∃ z, wr = w.drewN z) (fun q _ => (s.size - i) - (intOf q).toNat)
  case atStart => exact ⟨0, by omega, by omega, rfl, ⟨fun j hj => absurd hj (by omega)⟩, 0, rfl⟩
  case round =>
    obtain ⟨n, hnm, hn, rfl, HG, z, rfl⟩ := hrel
    have e1 : IntKind.i64.wrap ((i : Int) + (n : Int)) = (i : Int) + (n : Int) := IntWalk.i64_in _ (by omega)
    have p1 : (0 : Int) ≤ (i : Int) + (n : Int) := by omega
    have HI := Aside.mk (goes_iff s i k n)
    by_cases c0 : n < 258
    · have b0 : (n : Int) < 258 := by omega
      by_cases c1 : i + n < s.size
      · have b1 : (i : Int) + (n : Int) < s.size := by omega
        have e2 : IntKind.i64.wrap ((k : Int) + (n : Int)) = (k : Int) + (n : Int) := IntWalk.i64_in _ (by omega)
        have p2 : (0 : Int) ≤ (k : Int) + (n : Int) := by omega
        have c2 : k + n < s.size := by omega
        have b2 : (k : Int) + (n : Int) < s.size := by omega
        have q1 := run_idx (P := Try.prog) 9 s .i64 ((i : Int) + (n : Int)) (i + n) (by omega) c1 Try.underlying9
        have q2 := run_idx (P := Try.prog) 9 s .i64 ((k : Int) + (n : Int)) (k + n) (by omega) c2 Try.underlying9
        rw [byt_N] at q1 q2
        by_cases c3 : bytN s (i + n) = bytN s (k + n)
        · have HJ : Aside (∀ j, j < n + 1 → Find.goes (bytN s) s.size i k j = true) := ⟨fun j hj => by
            rcases Nat.lt_or_ge j n with h1 | h1
            · exact HG.out j h1
            · rw [show j = n from by omega]; exact HI.out.2 ⟨c1, c2, c3⟩⟩
          rw [← c3] at q2
          clear c3
          generalize bytN s (i + n) = x at q1 q2
          go_wp2_with fail
          go_quiet (fail)
          clear q1 q2 e1 e2
          go_wp2_with fail
          exact ⟨⟨n + 1, by omega, by omega, by go_num, HJ, _, rfl⟩, by simp [intOf]; omega⟩
        · have HE : Aside (n = min (Find.lcp (bytN s) s.size i k) 258) := ⟨by
            have := Find.lcp_eq _ _ _ _ n HG.out (by
              have := HI.out
              rw [← Bool.not_eq_true]
              exact fun h => c3 (this.1 h).2.2)
            omega⟩
          have hne : ((bytN s (i + n) : Int) == (bytN s (k + n) : Int)) = false := beq_eq_false_iff_ne.2 (by omega)
          clear c3
          generalize bytN s (i + n) = x at q1 hne
          generalize bytN s (k + n) = y at q2 hne
          go_wp2_with fail
          go_quiet (fail)
          clear q1 q2 e1 e2
          go_wp2_with fail
          go_ret
          exact ⟨ret_int (by rw [← HE.out]), _, by rw [World.drewN_drewN]⟩
      · have HE : Aside (n = min (Find.lcp (bytN s) s.size i k) 258) := ⟨by
          have := Find.lcp_eq _ _ _ _ n HG.out (by
            have := HI.out
            rw [← Bool.not_eq_true]
            exact fun h => c1 (this.1 h).1)
          omega⟩
        have b1 : decide ((i : Int) + (n : Int) < s.size) = false := decide_eq_false (by omega)
        go_wp2_with fail
        go_quiet (fail)
        clear e1
        go_wp2_with fail
        go_ret
        exact ⟨ret_int (by rw [← HE.out]), _, by rw [World.drewN_drewN]⟩
    · have HE : Aside (n = min (Find.lcp (bytN s) s.size i k) 258) := ⟨by
        have := Find.lcp_ge _ _ _ _ n HG.out
        omega⟩
      have b0 : decide ((n : Int) < 258) = false := decide_eq_false (by omega)
      go_wp2_with fail
      go_quiet (fail)
      clear e1
      go_wp2_with fail
      go_ret
      exact ⟨ret_int (by rw [← HE.out]), _, by rw [World.drewN_drewN]⟩
end Go.Proofs.Ytjmenlffhoodeaa
