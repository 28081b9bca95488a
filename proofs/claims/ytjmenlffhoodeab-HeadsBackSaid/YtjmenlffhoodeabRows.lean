/-
  No cell of these rows narrows 'for every input' (looked for: loops, veiled, ifaces, maps, wideKeys, modest, calm, conditions, laid).
  DERIVED. THE GIVEN ROWS OF THIS SEAT. 12 by the template 'for every input the law returns true; each argument reads behind the call as it read before'; 0 by the template 'total and deterministic' (their statements: YtjmenlffhoodeabTotals.lean).
  GIVEN WITH THE SEED: the statements are not yours to turn. If you find one false, say at which input.
  Laid BY PROGRAM, IN A SANDBOX (cutbox-rows.mjs): the forced cells as the released guide's own fill.sh prints them over the translation 96e5a4bcd2e8bb09… (all of the seat's roots in one cut). By AI agents, Wed Nov 11 2026. No macro, syntax, notation, axiom, sorry.
-/
import Derived.Test.YtjmenlffhoodeabChecked
import GoSem.Claim
import GoSem.ClaimJoined
import GoSem.ClaimMapViews
import Derived.JoinedTies
import Derived.KernelRfl
namespace Go.Proofs.Ytjmenlffhoodeab
/- THE CELL 'sum', in the pinned program and in every row, IS THE sha256 OF THE DUMP (.gsa) THAT YtjmenlffhoodeabProg.lean LOADS. Nothing in Lean hashes anything: it is a label: what it is worth is what the hold of that sum in a sandbox is worth. -/
noncomputable def Try.pinned : Pinned := { name := "ytjmenlffhoodeab", sum := "96e5a4bcd2e8bb0958d0befcb4a8ea309fe1d8699b4524f5a267a4d57e702501", checked := Try.checked }
namespace Rows
def none {H : Type} : Left H := { results := [], args := [] }

/-- 'gladstonelaw51.DeltaApplies': WHATEVER THE INPUT: true; the input reads as it did. -/
def deltaAppliesSpec : ChangeSpec := { name := "deltaApplies", fn := fun _ => fun
  | [d1, d2, d3] => { results := [.lit (.bool true)], args := [d1, d2, d3] }
  | _ => none }
def deltaAppliesRow : OpenClaim := { program := "ytjmenlffhoodeab", sum := "96e5a4bcd2e8bb0958d0befcb4a8ea309fe1d8699b4524f5a267a4d57e702501", func := "gladstone/gladstonelaw51.DeltaApplies", spec := "deltaApplies", unfollowed := true, recurses := true, apart := false }
def DeltaAppliesSaid : Prop := deltaAppliesRow.holds Try.pinned (OpenSpec.ofChange deltaAppliesSpec)

/-- ITS FALSE NEIGHBOUR: 'it returns false'. Refute it at one input. -/
def deltaAppliesWrong : ChangeSpec := { name := "deltaApplies", fn := fun _ => fun
  | [d1, d2, d3] => { results := [.lit (.bool false)], args := [d1, d2, d3] }
  | _ => none }
def DeltaAppliesWrongFalsely : Prop := deltaAppliesRow.holds Try.pinned (OpenSpec.ofChange deltaAppliesWrong)

/-- 'gladstonelaw51.DeltaBack': WHATEVER THE INPUT: true; the input reads as it did. -/
def deltaBackSpec : ChangeSpec := { name := "deltaBack", fn := fun _ => fun
  | [d1, d2] => { results := [.lit (.bool true)], args := [d1, d2] }
  | _ => none }
def deltaBackRow : OpenClaim := { program := "ytjmenlffhoodeab", sum := "96e5a4bcd2e8bb0958d0befcb4a8ea309fe1d8699b4524f5a267a4d57e702501", func := "gladstone/gladstonelaw51.DeltaBack", spec := "deltaBack", unfollowed := true, recurses := true, apart := false }
def DeltaBackSaid : Prop := deltaBackRow.holds Try.pinned (OpenSpec.ofChange deltaBackSpec)

/-- ITS FALSE NEIGHBOUR: 'it returns false'. Refute it at one input. -/
def deltaBackWrong : ChangeSpec := { name := "deltaBack", fn := fun _ => fun
  | [d1, d2] => { results := [.lit (.bool false)], args := [d1, d2] }
  | _ => none }
def DeltaBackWrongFalsely : Prop := deltaBackRow.holds Try.pinned (OpenSpec.ofChange deltaBackWrong)

/-- 'gladstonelaw42.RollMoves': WHATEVER THE INPUT: true; the input reads as it did. -/
def rollMovesSpec : ChangeSpec := { name := "rollMoves", fn := fun _ => fun
  | [d1, d2] => { results := [.lit (.bool true)], args := [d1, d2] }
  | _ => none }
def rollMovesRow : OpenClaim := { program := "ytjmenlffhoodeab", sum := "96e5a4bcd2e8bb0958d0befcb4a8ea309fe1d8699b4524f5a267a4d57e702501", func := "gladstone/gladstonelaw42.RollMoves", spec := "rollMoves", apart := false }
def RollMovesSaid : Prop := rollMovesRow.holds Try.pinned (OpenSpec.ofChange rollMovesSpec)

/-- ITS FALSE NEIGHBOUR: 'it returns false'. Refute it at one input. -/
def rollMovesWrong : ChangeSpec := { name := "rollMoves", fn := fun _ => fun
  | [d1, d2] => { results := [.lit (.bool false)], args := [d1, d2] }
  | _ => none }
def RollMovesWrongFalsely : Prop := rollMovesRow.holds Try.pinned (OpenSpec.ofChange rollMovesWrong)

/-- 'gladstonelaw42.RollFinds': WHATEVER THE INPUT: true; the input reads as it did. -/
def rollFindsSpec : ChangeSpec := { name := "rollFinds", fn := fun _ => fun
  | [d1, d2] => { results := [.lit (.bool true)], args := [d1, d2] }
  | _ => none }
def rollFindsRow : OpenClaim := { program := "ytjmenlffhoodeab", sum := "96e5a4bcd2e8bb0958d0befcb4a8ea309fe1d8699b4524f5a267a4d57e702501", func := "gladstone/gladstonelaw42.RollFinds", spec := "rollFinds", apart := false }
def RollFindsSaid : Prop := rollFindsRow.holds Try.pinned (OpenSpec.ofChange rollFindsSpec)

/-- ITS FALSE NEIGHBOUR: 'it returns false'. Refute it at one input. -/
def rollFindsWrong : ChangeSpec := { name := "rollFinds", fn := fun _ => fun
  | [d1, d2] => { results := [.lit (.bool false)], args := [d1, d2] }
  | _ => none }
def RollFindsWrongFalsely : Prop := rollFindsRow.holds Try.pinned (OpenSpec.ofChange rollFindsWrong)

/-- 'gladstonelaw15.SlotsOf': WHATEVER THE INPUT: true; the input reads as it did. -/
def slotsOfSpec : ChangeSpec := { name := "slotsOf", fn := fun _ => fun
  | [d1, d2] => { results := [.lit (.bool true)], args := [d1, d2] }
  | _ => none }
def slotsOfRow : OpenClaim := { program := "ytjmenlffhoodeab", sum := "96e5a4bcd2e8bb0958d0befcb4a8ea309fe1d8699b4524f5a267a4d57e702501", func := "gladstone/gladstonelaw15.SlotsOf", spec := "slotsOf", unfollowed := true, recurses := true, apart := false }
def SlotsOfSaid : Prop := slotsOfRow.holds Try.pinned (OpenSpec.ofChange slotsOfSpec)

/-- ITS FALSE NEIGHBOUR: 'it returns false'. Refute it at one input. -/
def slotsOfWrong : ChangeSpec := { name := "slotsOf", fn := fun _ => fun
  | [d1, d2] => { results := [.lit (.bool false)], args := [d1, d2] }
  | _ => none }
def SlotsOfWrongFalsely : Prop := slotsOfRow.holds Try.pinned (OpenSpec.ofChange slotsOfWrong)

/-- 'gladstonelaw15.SlotsBack': WHATEVER THE INPUT: true; the input reads as it did. -/
def slotsBackSpec : ChangeSpec := { name := "slotsBack", fn := fun _ => fun
  | [d1, d2] => { results := [.lit (.bool true)], args := [d1, d2] }
  | _ => none }
def slotsBackRow : OpenClaim := { program := "ytjmenlffhoodeab", sum := "96e5a4bcd2e8bb0958d0befcb4a8ea309fe1d8699b4524f5a267a4d57e702501", func := "gladstone/gladstonelaw15.SlotsBack", spec := "slotsBack", unfollowed := true, recurses := true, apart := false }
def SlotsBackSaid : Prop := slotsBackRow.holds Try.pinned (OpenSpec.ofChange slotsBackSpec)

/-- ITS FALSE NEIGHBOUR: 'it returns false'. Refute it at one input. -/
def slotsBackWrong : ChangeSpec := { name := "slotsBack", fn := fun _ => fun
  | [d1, d2] => { results := [.lit (.bool false)], args := [d1, d2] }
  | _ => none }
def SlotsBackWrongFalsely : Prop := slotsBackRow.holds Try.pinned (OpenSpec.ofChange slotsBackWrong)

/-- 'gladstonelaw15.SlotsRound': WHATEVER THE INPUT: true; the input reads as it did. -/
def slotsRoundSpec : ChangeSpec := { name := "slotsRound", fn := fun _ => fun
  | [d1, d2] => { results := [.lit (.bool true)], args := [d1, d2] }
  | _ => none }
def slotsRoundRow : OpenClaim := { program := "ytjmenlffhoodeab", sum := "96e5a4bcd2e8bb0958d0befcb4a8ea309fe1d8699b4524f5a267a4d57e702501", func := "gladstone/gladstonelaw15.SlotsRound", spec := "slotsRound", unfollowed := true, recurses := true, apart := false }
def SlotsRoundSaid : Prop := slotsRoundRow.holds Try.pinned (OpenSpec.ofChange slotsRoundSpec)

/-- ITS FALSE NEIGHBOUR: 'it returns false'. Refute it at one input. -/
def slotsRoundWrong : ChangeSpec := { name := "slotsRound", fn := fun _ => fun
  | [d1, d2] => { results := [.lit (.bool false)], args := [d1, d2] }
  | _ => none }
def SlotsRoundWrongFalsely : Prop := slotsRoundRow.holds Try.pinned (OpenSpec.ofChange slotsRoundWrong)

/-- 'gladstonelaw32.LevelLooks': WHATEVER THE INPUT: true; the input reads as it did. -/
def levelLooksSpec : ChangeSpec := { name := "levelLooks", fn := fun _ => fun
  | [d1, d2] => { results := [.lit (.bool true)], args := [d1, d2] }
  | _ => none }
def levelLooksRow : OpenClaim := { program := "ytjmenlffhoodeab", sum := "96e5a4bcd2e8bb0958d0befcb4a8ea309fe1d8699b4524f5a267a4d57e702501", func := "gladstone/gladstonelaw32.LevelLooks", spec := "levelLooks", apart := false }
def LevelLooksSaid : Prop := levelLooksRow.holds Try.pinned (OpenSpec.ofChange levelLooksSpec)

/-- ITS FALSE NEIGHBOUR: 'it returns false'. Refute it at one input. -/
def levelLooksWrong : ChangeSpec := { name := "levelLooks", fn := fun _ => fun
  | [d1, d2] => { results := [.lit (.bool false)], args := [d1, d2] }
  | _ => none }
def LevelLooksWrongFalsely : Prop := levelLooksRow.holds Try.pinned (OpenSpec.ofChange levelLooksWrong)

/-- 'gladstonelaw32.LevelRises': WHATEVER THE INPUT: true; the input reads as it did. -/
def levelRisesSpec : ChangeSpec := { name := "levelRises", fn := fun _ => fun
  | [d1, d2] => { results := [.lit (.bool true)], args := [d1, d2] }
  | _ => none }
def levelRisesRow : OpenClaim := { program := "ytjmenlffhoodeab", sum := "96e5a4bcd2e8bb0958d0befcb4a8ea309fe1d8699b4524f5a267a4d57e702501", func := "gladstone/gladstonelaw32.LevelRises", spec := "levelRises", apart := false }
def LevelRisesSaid : Prop := levelRisesRow.holds Try.pinned (OpenSpec.ofChange levelRisesSpec)

/-- ITS FALSE NEIGHBOUR: 'it returns false'. Refute it at one input. -/
def levelRisesWrong : ChangeSpec := { name := "levelRises", fn := fun _ => fun
  | [d1, d2] => { results := [.lit (.bool false)], args := [d1, d2] }
  | _ => none }
def LevelRisesWrongFalsely : Prop := levelRisesRow.holds Try.pinned (OpenSpec.ofChange levelRisesWrong)

/-- 'gladstonelaw31.HeadsPuts': WHATEVER THE INPUT: true; the input reads as it did. -/
def headsPutsSpec : ChangeSpec := { name := "headsPuts", fn := fun _ => fun
  | [d1, d2] => { results := [.lit (.bool true)], args := [d1, d2] }
  | _ => none }
def headsPutsRow : OpenClaim := { program := "ytjmenlffhoodeab", sum := "96e5a4bcd2e8bb0958d0befcb4a8ea309fe1d8699b4524f5a267a4d57e702501", func := "gladstone/gladstonelaw31.HeadsPuts", spec := "headsPuts", apart := false }
def HeadsPutsSaid : Prop := headsPutsRow.holds Try.pinned (OpenSpec.ofChange headsPutsSpec)

/-- ITS FALSE NEIGHBOUR: 'it returns false'. Refute it at one input. -/
def headsPutsWrong : ChangeSpec := { name := "headsPuts", fn := fun _ => fun
  | [d1, d2] => { results := [.lit (.bool false)], args := [d1, d2] }
  | _ => none }
def HeadsPutsWrongFalsely : Prop := headsPutsRow.holds Try.pinned (OpenSpec.ofChange headsPutsWrong)

/-- 'gladstonelaw31.HeadsReads': WHATEVER THE INPUT: true; the input reads as it did. -/
def headsReadsSpec : ChangeSpec := { name := "headsReads", fn := fun _ => fun
  | [d] => { results := [.lit (.bool true)], args := [d] }
  | _ => none }
def headsReadsRow : OpenClaim := { program := "ytjmenlffhoodeab", sum := "96e5a4bcd2e8bb0958d0befcb4a8ea309fe1d8699b4524f5a267a4d57e702501", func := "gladstone/gladstonelaw31.HeadsReads", spec := "headsReads", apart := false }
def HeadsReadsSaid : Prop := headsReadsRow.holds Try.pinned (OpenSpec.ofChange headsReadsSpec)

/-- ITS FALSE NEIGHBOUR: 'it returns false'. Refute it at one input. -/
def headsReadsWrong : ChangeSpec := { name := "headsReads", fn := fun _ => fun
  | [d] => { results := [.lit (.bool false)], args := [d] }
  | _ => none }
def HeadsReadsWrongFalsely : Prop := headsReadsRow.holds Try.pinned (OpenSpec.ofChange headsReadsWrong)

/-- 'gladstonelaw31.HeadsBack': WHATEVER THE INPUT: true; the input reads as it did. -/
def headsBackSpec : ChangeSpec := { name := "headsBack", fn := fun _ => fun
  | [d1, d2, d3] => { results := [.lit (.bool true)], args := [d1, d2, d3] }
  | _ => none }
def headsBackRow : OpenClaim := { program := "ytjmenlffhoodeab", sum := "96e5a4bcd2e8bb0958d0befcb4a8ea309fe1d8699b4524f5a267a4d57e702501", func := "gladstone/gladstonelaw31.HeadsBack", spec := "headsBack", apart := false }
def HeadsBackSaid : Prop := headsBackRow.holds Try.pinned (OpenSpec.ofChange headsBackSpec)

/-- ITS FALSE NEIGHBOUR: 'it returns false'. Refute it at one input. -/
def headsBackWrong : ChangeSpec := { name := "headsBack", fn := fun _ => fun
  | [d1, d2, d3] => { results := [.lit (.bool false)], args := [d1, d2, d3] }
  | _ => none }
def HeadsBackWrongFalsely : Prop := headsBackRow.holds Try.pinned (OpenSpec.ofChange headsBackWrong)

/- THE SECOND FORM. 'bulk': how many values and letters a reading holds, each counted each time it is reached (what is shared counts as often as it is met; a slice's spare places count too). A statement '..UptoSaid' is the law's where the arguments, and the package variables that the reading takes, are together of bulk at most 1048576: NARROWER than '..Said'. Prove '..Said' where nothing that the law and all that it calls make is longer than what came in: it says more and counts as full. Else prove '..UptoSaid'. A law counts once. -/
mutual
def uptoBulk {H : Type} : DataW H → Nat
  | .lit (.string bytes) => bytes.length + 1
  | .lit _ => 1
  | .nil => 1
  | .ptr d => uptoBulk d + 1
  | .slice elems spare => uptoBulkAll elems + uptoBulkAll spare + 1
  | .agg parts => uptoBulkAll parts + 1
  | .iface _ d => uptoBulk d + 1
  | .map entries => uptoBulkEntries entries + 1
  | .held _ => 1
def uptoBulkAll {H : Type} : List (DataW H) → Nat
  | [] => 0
  | d :: r => uptoBulk d + uptoBulkAll r
def uptoBulkEntries {H : Type} : List (Lit × DataW H) → Nat
  | [] => 0
  | x :: r => uptoBulkEntry x + uptoBulkEntries r
def uptoBulkEntry {H : Type} : Lit × DataW H → Nat
  | (.string bytes, d) => bytes.length + uptoBulk d + 1
  | (_, d) => uptoBulk d + 1
 end
def uptoSmall : (H : Type) → List (DataW H) → Bool := fun _ ds => decide (uptoBulkAll ds ≤ 1048576)
def OpenSpec.upto (s : _root_.Go.ChangeSpec) : _root_.Go.OpenSpec := { _root_.Go.OpenSpec.ofChange s with cond := some uptoSmall }

/-- 'gladstonelaw51.DeltaApplies', WHERE WHAT IT READS IS OF BULK AT MOST 1048576: true; the input reads as it did. -/
def deltaAppliesUptoRow : OpenClaim := { program := "ytjmenlffhoodeab", sum := "96e5a4bcd2e8bb0958d0befcb4a8ea309fe1d8699b4524f5a267a4d57e702501", func := "gladstone/gladstonelaw51.DeltaApplies", spec := "deltaApplies", unfollowed := true, recurses := true, apart := false, narrowed := true }
def DeltaAppliesUptoSaid : Prop := deltaAppliesUptoRow.holds Try.pinned (OpenSpec.upto deltaAppliesSpec)

/-- 'gladstonelaw51.DeltaBack', WHERE WHAT IT READS IS OF BULK AT MOST 1048576: true; the input reads as it did. -/
def deltaBackUptoRow : OpenClaim := { program := "ytjmenlffhoodeab", sum := "96e5a4bcd2e8bb0958d0befcb4a8ea309fe1d8699b4524f5a267a4d57e702501", func := "gladstone/gladstonelaw51.DeltaBack", spec := "deltaBack", unfollowed := true, recurses := true, apart := false, narrowed := true }
def DeltaBackUptoSaid : Prop := deltaBackUptoRow.holds Try.pinned (OpenSpec.upto deltaBackSpec)

/-- 'gladstonelaw42.RollMoves', WHERE WHAT IT READS IS OF BULK AT MOST 1048576: true; the input reads as it did. -/
def rollMovesUptoRow : OpenClaim := { program := "ytjmenlffhoodeab", sum := "96e5a4bcd2e8bb0958d0befcb4a8ea309fe1d8699b4524f5a267a4d57e702501", func := "gladstone/gladstonelaw42.RollMoves", spec := "rollMoves", apart := false, narrowed := true }
def RollMovesUptoSaid : Prop := rollMovesUptoRow.holds Try.pinned (OpenSpec.upto rollMovesSpec)

/-- 'gladstonelaw42.RollFinds', WHERE WHAT IT READS IS OF BULK AT MOST 1048576: true; the input reads as it did. -/
def rollFindsUptoRow : OpenClaim := { program := "ytjmenlffhoodeab", sum := "96e5a4bcd2e8bb0958d0befcb4a8ea309fe1d8699b4524f5a267a4d57e702501", func := "gladstone/gladstonelaw42.RollFinds", spec := "rollFinds", apart := false, narrowed := true }
def RollFindsUptoSaid : Prop := rollFindsUptoRow.holds Try.pinned (OpenSpec.upto rollFindsSpec)

/-- 'gladstonelaw15.SlotsOf', WHERE WHAT IT READS IS OF BULK AT MOST 1048576: true; the input reads as it did. -/
def slotsOfUptoRow : OpenClaim := { program := "ytjmenlffhoodeab", sum := "96e5a4bcd2e8bb0958d0befcb4a8ea309fe1d8699b4524f5a267a4d57e702501", func := "gladstone/gladstonelaw15.SlotsOf", spec := "slotsOf", unfollowed := true, recurses := true, apart := false, narrowed := true }
def SlotsOfUptoSaid : Prop := slotsOfUptoRow.holds Try.pinned (OpenSpec.upto slotsOfSpec)

/-- 'gladstonelaw15.SlotsBack', WHERE WHAT IT READS IS OF BULK AT MOST 1048576: true; the input reads as it did. -/
def slotsBackUptoRow : OpenClaim := { program := "ytjmenlffhoodeab", sum := "96e5a4bcd2e8bb0958d0befcb4a8ea309fe1d8699b4524f5a267a4d57e702501", func := "gladstone/gladstonelaw15.SlotsBack", spec := "slotsBack", unfollowed := true, recurses := true, apart := false, narrowed := true }
def SlotsBackUptoSaid : Prop := slotsBackUptoRow.holds Try.pinned (OpenSpec.upto slotsBackSpec)

/-- 'gladstonelaw15.SlotsRound', WHERE WHAT IT READS IS OF BULK AT MOST 1048576: true; the input reads as it did. -/
def slotsRoundUptoRow : OpenClaim := { program := "ytjmenlffhoodeab", sum := "96e5a4bcd2e8bb0958d0befcb4a8ea309fe1d8699b4524f5a267a4d57e702501", func := "gladstone/gladstonelaw15.SlotsRound", spec := "slotsRound", unfollowed := true, recurses := true, apart := false, narrowed := true }
def SlotsRoundUptoSaid : Prop := slotsRoundUptoRow.holds Try.pinned (OpenSpec.upto slotsRoundSpec)

/-- 'gladstonelaw32.LevelLooks', WHERE WHAT IT READS IS OF BULK AT MOST 1048576: true; the input reads as it did. -/
def levelLooksUptoRow : OpenClaim := { program := "ytjmenlffhoodeab", sum := "96e5a4bcd2e8bb0958d0befcb4a8ea309fe1d8699b4524f5a267a4d57e702501", func := "gladstone/gladstonelaw32.LevelLooks", spec := "levelLooks", apart := false, narrowed := true }
def LevelLooksUptoSaid : Prop := levelLooksUptoRow.holds Try.pinned (OpenSpec.upto levelLooksSpec)

/-- 'gladstonelaw32.LevelRises', WHERE WHAT IT READS IS OF BULK AT MOST 1048576: true; the input reads as it did. -/
def levelRisesUptoRow : OpenClaim := { program := "ytjmenlffhoodeab", sum := "96e5a4bcd2e8bb0958d0befcb4a8ea309fe1d8699b4524f5a267a4d57e702501", func := "gladstone/gladstonelaw32.LevelRises", spec := "levelRises", apart := false, narrowed := true }
def LevelRisesUptoSaid : Prop := levelRisesUptoRow.holds Try.pinned (OpenSpec.upto levelRisesSpec)

/-- 'gladstonelaw31.HeadsPuts', WHERE WHAT IT READS IS OF BULK AT MOST 1048576: true; the input reads as it did. -/
def headsPutsUptoRow : OpenClaim := { program := "ytjmenlffhoodeab", sum := "96e5a4bcd2e8bb0958d0befcb4a8ea309fe1d8699b4524f5a267a4d57e702501", func := "gladstone/gladstonelaw31.HeadsPuts", spec := "headsPuts", apart := false, narrowed := true }
def HeadsPutsUptoSaid : Prop := headsPutsUptoRow.holds Try.pinned (OpenSpec.upto headsPutsSpec)

/-- 'gladstonelaw31.HeadsReads', WHERE WHAT IT READS IS OF BULK AT MOST 1048576: true; the input reads as it did. -/
def headsReadsUptoRow : OpenClaim := { program := "ytjmenlffhoodeab", sum := "96e5a4bcd2e8bb0958d0befcb4a8ea309fe1d8699b4524f5a267a4d57e702501", func := "gladstone/gladstonelaw31.HeadsReads", spec := "headsReads", apart := false, narrowed := true }
def HeadsReadsUptoSaid : Prop := headsReadsUptoRow.holds Try.pinned (OpenSpec.upto headsReadsSpec)

/-- 'gladstonelaw31.HeadsBack', WHERE WHAT IT READS IS OF BULK AT MOST 1048576: true; the input reads as it did. -/
def headsBackUptoRow : OpenClaim := { program := "ytjmenlffhoodeab", sum := "96e5a4bcd2e8bb0958d0befcb4a8ea309fe1d8699b4524f5a267a4d57e702501", func := "gladstone/gladstonelaw31.HeadsBack", spec := "headsBack", apart := false, narrowed := true }
def HeadsBackUptoSaid : Prop := headsBackUptoRow.holds Try.pinned (OpenSpec.upto headsBackSpec)

end Rows
end Go.Proofs.Ytjmenlffhoodeab
