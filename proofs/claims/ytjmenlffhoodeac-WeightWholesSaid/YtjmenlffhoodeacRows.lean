/-
  No cell of these rows narrows 'for every input' (looked for: loops, veiled, ifaces, maps, wideKeys, modest, calm, conditions, laid).
  DERIVED. THE GIVEN ROWS OF THIS SEAT. 5 by the template 'for every input the law returns true; each argument reads behind the call as it read before'; 0 by the template 'total and deterministic' (their statements: YtjmenlffhoodeacTotals.lean).
  GIVEN WITH THE SEED: the statements are not yours to turn. If you find one false, say at which input.
  Laid BY PROGRAM, IN A SANDBOX (cutbox-rows.mjs): the forced cells as the released guide's own fill.sh prints them over the translation 6981064d23e8bbac… (all of the seat's roots in one cut). By AI agents, Wed Nov 11 2026. No macro, syntax, notation, axiom, sorry.
-/
import Derived.Test.YtjmenlffhoodeacChecked
import GoSem.Claim
import GoSem.ClaimJoined
import GoSem.ClaimMapViews
import Derived.JoinedTies
import Derived.KernelRfl
namespace Go.Proofs.Ytjmenlffhoodeac
/- THE CELL 'sum', in the pinned program and in every row, IS THE sha256 OF THE DUMP (.gsa) THAT YtjmenlffhoodeacProg.lean LOADS. Nothing in Lean hashes anything: it is a label: what it is worth is what the hold of that sum in a sandbox is worth. -/
noncomputable def Try.pinned : Pinned := { name := "ytjmenlffhoodeac", sum := "6981064d23e8bbaccc9480ed6811afecc68d9aca24a225c5d04649e5e886cbaa", checked := Try.checked }
namespace Rows
def none {H : Type} : Left H := { results := [], args := [] }

/-- 'gladstonelaw12.RunsPacks': WHATEVER THE INPUT: true; the input reads as it did. -/
def runsPacksSpec : ChangeSpec := { name := "runsPacks", fn := fun _ => fun
  | [d1, d2, d3] => { results := [.lit (.bool true)], args := [d1, d2, d3] }
  | _ => none }
def runsPacksRow : OpenClaim := { program := "ytjmenlffhoodeac", sum := "6981064d23e8bbaccc9480ed6811afecc68d9aca24a225c5d04649e5e886cbaa", func := "gladstone/gladstonelaw12.RunsPacks", spec := "runsPacks", apart := false }
def RunsPacksSaid : Prop := runsPacksRow.holds Try.pinned (OpenSpec.ofChange runsPacksSpec)

/-- ITS FALSE NEIGHBOUR: 'it returns false'. Refute it at one input. -/
def runsPacksWrong : ChangeSpec := { name := "runsPacks", fn := fun _ => fun
  | [d1, d2, d3] => { results := [.lit (.bool false)], args := [d1, d2, d3] }
  | _ => none }
def RunsPacksWrongFalsely : Prop := runsPacksRow.holds Try.pinned (OpenSpec.ofChange runsPacksWrong)

/-- 'gladstonelaw12.RunsBack': WHATEVER THE INPUT: true; the input reads as it did. -/
def runsBackSpec : ChangeSpec := { name := "runsBack", fn := fun _ => fun
  | [d] => { results := [.lit (.bool true)], args := [d] }
  | _ => none }
def runsBackRow : OpenClaim := { program := "ytjmenlffhoodeac", sum := "6981064d23e8bbaccc9480ed6811afecc68d9aca24a225c5d04649e5e886cbaa", func := "gladstone/gladstonelaw12.RunsBack", spec := "runsBack", apart := false }
def RunsBackSaid : Prop := runsBackRow.holds Try.pinned (OpenSpec.ofChange runsBackSpec)

/-- ITS FALSE NEIGHBOUR: 'it returns false'. Refute it at one input. -/
def runsBackWrong : ChangeSpec := { name := "runsBack", fn := fun _ => fun
  | [d] => { results := [.lit (.bool false)], args := [d] }
  | _ => none }
def RunsBackWrongFalsely : Prop := runsBackRow.holds Try.pinned (OpenSpec.ofChange runsBackWrong)

/-- 'gladstonelaw14.WeightMixes': WHATEVER THE INPUT: true; the input reads as it did. -/
def weightMixesSpec : ChangeSpec := { name := "weightMixes", fn := fun _ => fun
  | [d1, d2, d3] => { results := [.lit (.bool true)], args := [d1, d2, d3] }
  | _ => none }
def weightMixesRow : OpenClaim := { program := "ytjmenlffhoodeac", sum := "6981064d23e8bbaccc9480ed6811afecc68d9aca24a225c5d04649e5e886cbaa", func := "gladstone/gladstonelaw14.WeightMixes", spec := "weightMixes", inPlace := ["math.Float64bits", "math.Float64frombits", "math.archFloor", "math.archTrunc"], apart := false }
def WeightMixesSaid : Prop := weightMixesRow.holds Try.pinned (OpenSpec.ofChange weightMixesSpec)

/-- ITS FALSE NEIGHBOUR: 'it returns false'. Refute it at one input. -/
def weightMixesWrong : ChangeSpec := { name := "weightMixes", fn := fun _ => fun
  | [d1, d2, d3] => { results := [.lit (.bool false)], args := [d1, d2, d3] }
  | _ => none }
def WeightMixesWrongFalsely : Prop := weightMixesRow.holds Try.pinned (OpenSpec.ofChange weightMixesWrong)

/-- 'gladstonelaw14.WeightBetween': WHATEVER THE INPUT: true; the input reads as it did. -/
def weightBetweenSpec : ChangeSpec := { name := "weightBetween", fn := fun _ => fun
  | [d1, d2, d3] => { results := [.lit (.bool true)], args := [d1, d2, d3] }
  | _ => none }
def weightBetweenRow : OpenClaim := { program := "ytjmenlffhoodeac", sum := "6981064d23e8bbaccc9480ed6811afecc68d9aca24a225c5d04649e5e886cbaa", func := "gladstone/gladstonelaw14.WeightBetween", spec := "weightBetween", inPlace := ["math.Float64bits", "math.Float64frombits", "math.archFloor", "math.archTrunc"], apart := false }
def WeightBetweenSaid : Prop := weightBetweenRow.holds Try.pinned (OpenSpec.ofChange weightBetweenSpec)

/-- ITS FALSE NEIGHBOUR: 'it returns false'. Refute it at one input. -/
def weightBetweenWrong : ChangeSpec := { name := "weightBetween", fn := fun _ => fun
  | [d1, d2, d3] => { results := [.lit (.bool false)], args := [d1, d2, d3] }
  | _ => none }
def WeightBetweenWrongFalsely : Prop := weightBetweenRow.holds Try.pinned (OpenSpec.ofChange weightBetweenWrong)

/-- 'gladstonelaw14.WeightWholes': WHATEVER THE INPUT: true; the input reads as it did. -/
def weightWholesSpec : ChangeSpec := { name := "weightWholes", fn := fun _ => fun
  | [d1, d2, d3] => { results := [.lit (.bool true)], args := [d1, d2, d3] }
  | _ => none }
def weightWholesRow : OpenClaim := { program := "ytjmenlffhoodeac", sum := "6981064d23e8bbaccc9480ed6811afecc68d9aca24a225c5d04649e5e886cbaa", func := "gladstone/gladstonelaw14.WeightWholes", spec := "weightWholes", inPlace := ["math.Float64bits", "math.Float64frombits", "math.archFloor", "math.archTrunc"], apart := false }
def WeightWholesSaid : Prop := weightWholesRow.holds Try.pinned (OpenSpec.ofChange weightWholesSpec)

/-- ITS FALSE NEIGHBOUR: 'it returns false'. Refute it at one input. -/
def weightWholesWrong : ChangeSpec := { name := "weightWholes", fn := fun _ => fun
  | [d1, d2, d3] => { results := [.lit (.bool false)], args := [d1, d2, d3] }
  | _ => none }
def WeightWholesWrongFalsely : Prop := weightWholesRow.holds Try.pinned (OpenSpec.ofChange weightWholesWrong)

/- THE SECOND FORM. 'bulk': how many values and letters a reading holds, each counted each time it is reached (what is shared counts as often as it is met; a slice's spare places count too). A statement '..UptoSaid' is the law's where the arguments, and the package variables that the reading takes, are together of bulk at most 1048576: NARROWER than '..Said'. Prove '..Said' where nothing that the law and all that it calls make is longer than what came in: it says more and counts as full. Else prove '..UptoSaid'. A law counts once. -/
mutual
def uptoBulk {H : Type} : DataW H → Nat
  | .lit (.string bytes) => bytes.length + 1
  | .lit _ => 1
  | .nil => 1
  | .ptr d => uptoBulk d + 1
  | .slice elems spare => uptoBulkAll elems + uptoBulkAll spare + 1
  | .agg parts => uptoBulkAll parts + 1
  | .iface _ d => uptoBulk d + 1
  | .map entries => uptoBulkEntries entries + 1
  | .held _ => 1
def uptoBulkAll {H : Type} : List (DataW H) → Nat
  | [] => 0
  | d :: r => uptoBulk d + uptoBulkAll r
def uptoBulkEntries {H : Type} : List (Lit × DataW H) → Nat
  | [] => 0
  | x :: r => uptoBulkEntry x + uptoBulkEntries r
def uptoBulkEntry {H : Type} : Lit × DataW H → Nat
  | (.string bytes, d) => bytes.length + uptoBulk d + 1
  | (_, d) => uptoBulk d + 1
 end
def uptoSmall : (H : Type) → List (DataW H) → Bool := fun _ ds => decide (uptoBulkAll ds ≤ 1048576)
def OpenSpec.upto (s : _root_.Go.ChangeSpec) : _root_.Go.OpenSpec := { _root_.Go.OpenSpec.ofChange s with cond := some uptoSmall }

/-- 'gladstonelaw12.RunsPacks', WHERE WHAT IT READS IS OF BULK AT MOST 1048576: true; the input reads as it did. -/
def runsPacksUptoRow : OpenClaim := { program := "ytjmenlffhoodeac", sum := "6981064d23e8bbaccc9480ed6811afecc68d9aca24a225c5d04649e5e886cbaa", func := "gladstone/gladstonelaw12.RunsPacks", spec := "runsPacks", apart := false, narrowed := true }
def RunsPacksUptoSaid : Prop := runsPacksUptoRow.holds Try.pinned (OpenSpec.upto runsPacksSpec)

/-- 'gladstonelaw12.RunsBack', WHERE WHAT IT READS IS OF BULK AT MOST 1048576: true; the input reads as it did. -/
def runsBackUptoRow : OpenClaim := { program := "ytjmenlffhoodeac", sum := "6981064d23e8bbaccc9480ed6811afecc68d9aca24a225c5d04649e5e886cbaa", func := "gladstone/gladstonelaw12.RunsBack", spec := "runsBack", apart := false, narrowed := true }
def RunsBackUptoSaid : Prop := runsBackUptoRow.holds Try.pinned (OpenSpec.upto runsBackSpec)

/-- 'gladstonelaw14.WeightMixes', WHERE WHAT IT READS IS OF BULK AT MOST 1048576: true; the input reads as it did. -/
def weightMixesUptoRow : OpenClaim := { program := "ytjmenlffhoodeac", sum := "6981064d23e8bbaccc9480ed6811afecc68d9aca24a225c5d04649e5e886cbaa", func := "gladstone/gladstonelaw14.WeightMixes", spec := "weightMixes", inPlace := ["math.Float64bits", "math.Float64frombits", "math.archFloor", "math.archTrunc"], apart := false, narrowed := true }
def WeightMixesUptoSaid : Prop := weightMixesUptoRow.holds Try.pinned (OpenSpec.upto weightMixesSpec)

/-- 'gladstonelaw14.WeightBetween', WHERE WHAT IT READS IS OF BULK AT MOST 1048576: true; the input reads as it did. -/
def weightBetweenUptoRow : OpenClaim := { program := "ytjmenlffhoodeac", sum := "6981064d23e8bbaccc9480ed6811afecc68d9aca24a225c5d04649e5e886cbaa", func := "gladstone/gladstonelaw14.WeightBetween", spec := "weightBetween", inPlace := ["math.Float64bits", "math.Float64frombits", "math.archFloor", "math.archTrunc"], apart := false, narrowed := true }
def WeightBetweenUptoSaid : Prop := weightBetweenUptoRow.holds Try.pinned (OpenSpec.upto weightBetweenSpec)

/-- 'gladstonelaw14.WeightWholes', WHERE WHAT IT READS IS OF BULK AT MOST 1048576: true; the input reads as it did. -/
def weightWholesUptoRow : OpenClaim := { program := "ytjmenlffhoodeac", sum := "6981064d23e8bbaccc9480ed6811afecc68d9aca24a225c5d04649e5e886cbaa", func := "gladstone/gladstonelaw14.WeightWholes", spec := "weightWholes", inPlace := ["math.Float64bits", "math.Float64frombits", "math.archFloor", "math.archTrunc"], apart := false, narrowed := true }
def WeightWholesUptoSaid : Prop := weightWholesUptoRow.holds Try.pinned (OpenSpec.upto weightWholesSpec)

end Rows
end Go.Proofs.Ytjmenlffhoodeac
