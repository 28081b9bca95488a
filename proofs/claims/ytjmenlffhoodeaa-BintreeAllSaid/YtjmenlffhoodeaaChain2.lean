/- chain's Next, walked. -/
import Derived.Test.YtjmenlffhoodeaaChain1
import Derived.Test.YtjmenlffhoodeaaFind3
namespace Go.Proofs.Ytjmenlffhoodeaa
open Go.RowKit

theorem ChainAt.gne {w : World} {gF gM gL : Nat} {s : ByteArray} {win dep at_ q : Nat} (h : ChainAt w gF gM gL s win dep at_ q) : gF ≠ gM ∧ gF ≠ gL ∧ gL ≠ gM := by
  obtain ⟨h1, h2, h3⟩ := h
  refine ⟨h2.ne h1, fun e => ?_, h2.ne h3⟩
  subst e
  unfold Blk at h1 h3
  rw [h1] at h3
  injection h3 with h3
  injection h3 with _ h3
  cases h3
theorem ChainAt.drewN {w : World} {gF gM gL : Nat} {s : ByteArray} {win dep at_ q : Nat} (h : ChainAt w gF gM gL s win dep at_ q) (n : Nat) : ChainAt (w.drewN n) gF gM gL s win dep at_ q :=
  ⟨h.1.drewN n, h.2.1.of_heap rfl, h.2.2.drewN n⟩
theorem ChainAt.bump {w : World} {gF gM gL : Nat} {s : ByteArray} {win dep at_ q : Nat} (h : ChainAt w gF gM gL s win dep at_ q) : ChainAt (w.setCell ⟨gF, 3, none⟩ (.int .i64 ((at_ : Int) + 1))) gF gM gL s win dep (at_ + 1) q := by
  obtain ⟨n1, n2, n3⟩ := h.gne
  refine ⟨h.1.set_ 3 _, h.2.1.of_heap (Below.heap_setCell _ _ _ _ (by simpa using fun e => n1 e.symm)), h.2.2.far (by simpa using fun e => n2 e.symm) _⟩
set_option maxRecDepth 100000 in
set_option maxHeartbeats 2000000 in
theorem chainNext_nil (m : Int) (w : World) : Calls Try.prog 34 #[.pointer none, .int .i64 m] w fun e w' => e = .returned (.tuple #[.slice none 0 0, .int .i64 (-1)]) ∧ Drawn w w' := by
  go_enter Try.func34, Try.ntmps34
  go_wp2_with fail
  go_quiet (fail)
  go_wp2_with fail
  go_ret2
  exact ⟨rfl, _, rfl⟩
set_option maxRecDepth 100000 in
set_option maxHeartbeats 2000000 in
theorem chainNext_end (m : Int) (w : World) (gF gM gL : Nat) (s : ByteArray) (win dep at_ q : Nat) (h : ChainAt w gF gM gL s win dep at_ q) (ha : s.size ≤ at_) (_hz : at_ ≤ 65536) :
    Calls Try.prog 34 #[.pointer (some ⟨gF, 0, none⟩), .int .i64 m] w fun e w' => e = .returned (.tuple #[.slice none 0 0, .int .i64 (-1)]) ∧ Drawn w w' := by
  obtain ⟨c0, _, _, c3, _⟩ := fin6 h.1
  have d1 : decide (s.size ≤ at_) = true := decide_eq_true ha
  go_enter Try.func34, Try.ntmps34
  go_wp2_with fail
  go_quiet (fail)
  go_wp2_with fail
  go_ret2
  exact ⟨rfl, _, rfl⟩
set_option maxRecDepth 100000 in
set_option maxHeartbeats 2000000 in
theorem chainNext_last (m : Int) (w : World) (gF gM gL : Nat) (s : ByteArray) (win dep at_ q : Nat) (h : ChainAt w gF gM gL s win dep at_ q) (ha : s.size = at_ + 1) (hz : at_ ≤ 65536) :
    Calls Try.prog 34 #[.pointer (some ⟨gF, 0, none⟩), .int .i64 m] w fun e w' => e = .returned (.tuple #[.slice none 0 0, .int .i64 (at_ : Int)]) ∧ ChainAt w' gF gM gL s win dep (at_ + 1) q ∧ But w w' (ofF gF gM gL) := by
  obtain ⟨c0, _, _, c3, _, _, f3⟩ := fin6 h.1
  have H := Aside.mk h
  have d1 : decide (s.size ≤ at_) = false := decide_eq_false (by omega)
  have hb : s.size ≤ at_ + 1 := by omega
  clear h ha
  go_enter Try.func34, Try.ntmps34
  go_wp2_with fail
  go_quiet (fail)
  go_wp2_with fail
  go_ret2
  exact ⟨rfl, (H.out.drewN _).bump, ((But.refl w _).drewN _).set_ (.inl (.inl rfl)) _⟩
end Go.Proofs.Ytjmenlffhoodeaa
