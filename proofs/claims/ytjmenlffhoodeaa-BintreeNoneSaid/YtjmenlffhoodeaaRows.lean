/-
  No cell of these rows narrows 'for every input' (looked for: loops, veiled, ifaces, maps, wideKeys, modest, calm, conditions, laid).
  DERIVED. THE GIVEN ROWS OF THIS SEAT. 12 by the template 'for every input the law returns true; each argument reads behind the call as it read before'; 0 by the template 'total and deterministic' (their statements: YtjmenlffhoodeaaTotals.lean).
  GIVEN WITH THE SEED: the statements are not yours to turn. If you find one false, say at which input.
  Laid BY PROGRAM, IN A SANDBOX (cutbox-rows.mjs): the forced cells as the released guide's own fill.sh prints them over the translation 8cc9e7282bb50350… (all of the seat's roots in one cut). By AI agents, Wed Nov 11 2026. No macro, syntax, notation, axiom, sorry.
-/
import Derived.Test.YtjmenlffhoodeaaChecked
import GoSem.Claim
import GoSem.ClaimJoined
import GoSem.ClaimMapViews
import Derived.JoinedTies
import Derived.KernelRfl
namespace Go.Proofs.Ytjmenlffhoodeaa
/- THE CELL 'sum', in the pinned program and in every row, IS THE sha256 OF THE DUMP (.gsa) THAT YtjmenlffhoodeaaProg.lean LOADS. Nothing in Lean hashes anything: it is a label: what it is worth is what the hold of that sum in a sandbox is worth. -/
noncomputable def Try.pinned : Pinned := { name := "ytjmenlffhoodeaa", sum := "8cc9e7282bb503500b4c37ce6389470cb21d9b09c3bab5de9f6beda4df4d0aef", checked := Try.checked }
namespace Rows
def none {H : Type} : Left H := { results := [], args := [] }

/-- 'gladstonelaw38.BoundSums': WHATEVER THE INPUT: true; the input reads as it did. -/
def boundSumsSpec : ChangeSpec := { name := "boundSums", fn := fun _ => fun
  | [d1, d2] => { results := [.lit (.bool true)], args := [d1, d2] }
  | _ => none }
def boundSumsRow : OpenClaim := { program := "ytjmenlffhoodeaa", sum := "8cc9e7282bb503500b4c37ce6389470cb21d9b09c3bab5de9f6beda4df4d0aef", func := "gladstone/gladstonelaw38.BoundSums", spec := "boundSums", plainKeys := false, apart := false }
def BoundSumsSaid : Prop := boundSumsRow.holds Try.pinned (OpenSpec.ofChange boundSumsSpec)

/-- ITS FALSE NEIGHBOUR: 'it returns false'. Refute it at one input. -/
def boundSumsWrong : ChangeSpec := { name := "boundSums", fn := fun _ => fun
  | [d1, d2] => { results := [.lit (.bool false)], args := [d1, d2] }
  | _ => none }
def BoundSumsWrongFalsely : Prop := boundSumsRow.holds Try.pinned (OpenSpec.ofChange boundSumsWrong)

/-- 'gladstonelaw38.BoundRises': WHATEVER THE INPUT: true; the input reads as it did. -/
def boundRisesSpec : ChangeSpec := { name := "boundRises", fn := fun _ => fun
  | [d1, d2] => { results := [.lit (.bool true)], args := [d1, d2] }
  | _ => none }
def boundRisesRow : OpenClaim := { program := "ytjmenlffhoodeaa", sum := "8cc9e7282bb503500b4c37ce6389470cb21d9b09c3bab5de9f6beda4df4d0aef", func := "gladstone/gladstonelaw38.BoundRises", spec := "boundRises", plainKeys := false, apart := false }
def BoundRisesSaid : Prop := boundRisesRow.holds Try.pinned (OpenSpec.ofChange boundRisesSpec)

/-- ITS FALSE NEIGHBOUR: 'it returns false'. Refute it at one input. -/
def boundRisesWrong : ChangeSpec := { name := "boundRises", fn := fun _ => fun
  | [d1, d2] => { results := [.lit (.bool false)], args := [d1, d2] }
  | _ => none }
def BoundRisesWrongFalsely : Prop := boundRisesRow.holds Try.pinned (OpenSpec.ofChange boundRisesWrong)

/-- 'gladstonelaw04.AdlerSums': WHATEVER THE INPUT: true; the input reads as it did. -/
def adlerSumsSpec : ChangeSpec := { name := "adlerSums", fn := fun _ => fun
  | [d1, d2] => { results := [.lit (.bool true)], args := [d1, d2] }
  | _ => none }
def adlerSumsRow : OpenClaim := { program := "ytjmenlffhoodeaa", sum := "8cc9e7282bb503500b4c37ce6389470cb21d9b09c3bab5de9f6beda4df4d0aef", func := "gladstone/gladstonelaw04.AdlerSums", spec := "adlerSums", plainKeys := false, apart := false }
def AdlerSumsSaid : Prop := adlerSumsRow.holds Try.pinned (OpenSpec.ofChange adlerSumsSpec)

/-- ITS FALSE NEIGHBOUR: 'it returns false'. Refute it at one input. -/
def adlerSumsWrong : ChangeSpec := { name := "adlerSums", fn := fun _ => fun
  | [d1, d2] => { results := [.lit (.bool false)], args := [d1, d2] }
  | _ => none }
def AdlerSumsWrongFalsely : Prop := adlerSumsRow.holds Try.pinned (OpenSpec.ofChange adlerSumsWrong)

/-- 'gladstonelaw04.AdlerJoins': WHATEVER THE INPUT: true; the input reads as it did. -/
def adlerJoinsSpec : ChangeSpec := { name := "adlerJoins", fn := fun _ => fun
  | [d1, d2, d3] => { results := [.lit (.bool true)], args := [d1, d2, d3] }
  | _ => none }
def adlerJoinsRow : OpenClaim := { program := "ytjmenlffhoodeaa", sum := "8cc9e7282bb503500b4c37ce6389470cb21d9b09c3bab5de9f6beda4df4d0aef", func := "gladstone/gladstonelaw04.AdlerJoins", spec := "adlerJoins", plainKeys := false, apart := false }
def AdlerJoinsSaid : Prop := adlerJoinsRow.holds Try.pinned (OpenSpec.ofChange adlerJoinsSpec)

/-- ITS FALSE NEIGHBOUR: 'it returns false'. Refute it at one input. -/
def adlerJoinsWrong : ChangeSpec := { name := "adlerJoins", fn := fun _ => fun
  | [d1, d2, d3] => { results := [.lit (.bool false)], args := [d1, d2, d3] }
  | _ => none }
def AdlerJoinsWrongFalsely : Prop := adlerJoinsRow.holds Try.pinned (OpenSpec.ofChange adlerJoinsWrong)

/-- 'gladstonelaw04.AdlerParts': WHATEVER THE INPUT: true; the input reads as it did. -/
def adlerPartsSpec : ChangeSpec := { name := "adlerParts", fn := fun _ => fun
  | [d1, d2] => { results := [.lit (.bool true)], args := [d1, d2] }
  | _ => none }
def adlerPartsRow : OpenClaim := { program := "ytjmenlffhoodeaa", sum := "8cc9e7282bb503500b4c37ce6389470cb21d9b09c3bab5de9f6beda4df4d0aef", func := "gladstone/gladstonelaw04.AdlerParts", spec := "adlerParts", plainKeys := false, apart := false }
def AdlerPartsSaid : Prop := adlerPartsRow.holds Try.pinned (OpenSpec.ofChange adlerPartsSpec)

/-- ITS FALSE NEIGHBOUR: 'it returns false'. Refute it at one input. -/
def adlerPartsWrong : ChangeSpec := { name := "adlerParts", fn := fun _ => fun
  | [d1, d2] => { results := [.lit (.bool false)], args := [d1, d2] }
  | _ => none }
def AdlerPartsWrongFalsely : Prop := adlerPartsRow.holds Try.pinned (OpenSpec.ofChange adlerPartsWrong)

/-- 'gladstonelaw05.CrcSums': WHATEVER THE INPUT: true; the input reads as it did. -/
def crcSumsSpec : ChangeSpec := { name := "crcSums", fn := fun _ => fun
  | [d1, d2] => { results := [.lit (.bool true)], args := [d1, d2] }
  | _ => none }
def crcSumsRow : OpenClaim := { program := "ytjmenlffhoodeaa", sum := "8cc9e7282bb503500b4c37ce6389470cb21d9b09c3bab5de9f6beda4df4d0aef", func := "gladstone/gladstonelaw05.CrcSums", spec := "crcSums", plainKeys := false, apart := false }
def CrcSumsSaid : Prop := crcSumsRow.holds Try.pinned (OpenSpec.ofChange crcSumsSpec)

/-- ITS FALSE NEIGHBOUR: 'it returns false'. Refute it at one input. -/
def crcSumsWrong : ChangeSpec := { name := "crcSums", fn := fun _ => fun
  | [d1, d2] => { results := [.lit (.bool false)], args := [d1, d2] }
  | _ => none }
def CrcSumsWrongFalsely : Prop := crcSumsRow.holds Try.pinned (OpenSpec.ofChange crcSumsWrong)

/-- 'gladstonelaw05.CrcParts': WHATEVER THE INPUT: true; the input reads as it did. -/
def crcPartsSpec : ChangeSpec := { name := "crcParts", fn := fun _ => fun
  | [d1, d2] => { results := [.lit (.bool true)], args := [d1, d2] }
  | _ => none }
def crcPartsRow : OpenClaim := { program := "ytjmenlffhoodeaa", sum := "8cc9e7282bb503500b4c37ce6389470cb21d9b09c3bab5de9f6beda4df4d0aef", func := "gladstone/gladstonelaw05.CrcParts", spec := "crcParts", plainKeys := false, apart := false }
def CrcPartsSaid : Prop := crcPartsRow.holds Try.pinned (OpenSpec.ofChange crcPartsSpec)

/-- ITS FALSE NEIGHBOUR: 'it returns false'. Refute it at one input. -/
def crcPartsWrong : ChangeSpec := { name := "crcParts", fn := fun _ => fun
  | [d1, d2] => { results := [.lit (.bool false)], args := [d1, d2] }
  | _ => none }
def CrcPartsWrongFalsely : Prop := crcPartsRow.holds Try.pinned (OpenSpec.ofChange crcPartsWrong)

/-- 'gladstonelaw05.CrcOne': WHATEVER THE INPUT: true; the input reads as it did. -/
def crcOneSpec : ChangeSpec := { name := "crcOne", fn := fun _ => fun
  | [d1, d2, d3] => { results := [.lit (.bool true)], args := [d1, d2, d3] }
  | _ => none }
def crcOneRow : OpenClaim := { program := "ytjmenlffhoodeaa", sum := "8cc9e7282bb503500b4c37ce6389470cb21d9b09c3bab5de9f6beda4df4d0aef", func := "gladstone/gladstonelaw05.CrcOne", spec := "crcOne", plainKeys := false, apart := false }
def CrcOneSaid : Prop := crcOneRow.holds Try.pinned (OpenSpec.ofChange crcOneSpec)

/-- ITS FALSE NEIGHBOUR: 'it returns false'. Refute it at one input. -/
def crcOneWrong : ChangeSpec := { name := "crcOne", fn := fun _ => fun
  | [d1, d2, d3] => { results := [.lit (.bool false)], args := [d1, d2, d3] }
  | _ => none }
def CrcOneWrongFalsely : Prop := crcOneRow.holds Try.pinned (OpenSpec.ofChange crcOneWrong)

/-- 'gladstonelaw41.ChainAll': WHATEVER THE INPUT: true; the input reads as it did. -/
def chainAllSpec : ChangeSpec := { name := "chainAll", fn := fun _ => fun
  | [d1, d2] => { results := [.lit (.bool true)], args := [d1, d2] }
  | _ => none }
def chainAllRow : OpenClaim := { program := "ytjmenlffhoodeaa", sum := "8cc9e7282bb503500b4c37ce6389470cb21d9b09c3bab5de9f6beda4df4d0aef", func := "gladstone/gladstonelaw41.ChainAll", spec := "chainAll", plainKeys := false, apart := false }
def ChainAllSaid : Prop := chainAllRow.holds Try.pinned (OpenSpec.ofChange chainAllSpec)

/-- ITS FALSE NEIGHBOUR: 'it returns false'. Refute it at one input. -/
def chainAllWrong : ChangeSpec := { name := "chainAll", fn := fun _ => fun
  | [d1, d2] => { results := [.lit (.bool false)], args := [d1, d2] }
  | _ => none }
def ChainAllWrongFalsely : Prop := chainAllRow.holds Try.pinned (OpenSpec.ofChange chainAllWrong)

/-- 'gladstonelaw41.ChainNone': WHATEVER THE INPUT: true; the input reads as it did. -/
def chainNoneSpec : ChangeSpec := { name := "chainNone", fn := fun _ => fun
  | [d] => { results := [.lit (.bool true)], args := [d] }
  | _ => none }
def chainNoneRow : OpenClaim := { program := "ytjmenlffhoodeaa", sum := "8cc9e7282bb503500b4c37ce6389470cb21d9b09c3bab5de9f6beda4df4d0aef", func := "gladstone/gladstonelaw41.ChainNone", spec := "chainNone", plainKeys := false, apart := false }
def ChainNoneSaid : Prop := chainNoneRow.holds Try.pinned (OpenSpec.ofChange chainNoneSpec)

/-- ITS FALSE NEIGHBOUR: 'it returns false'. Refute it at one input. -/
def chainNoneWrong : ChangeSpec := { name := "chainNone", fn := fun _ => fun
  | [d] => { results := [.lit (.bool false)], args := [d] }
  | _ => none }
def ChainNoneWrongFalsely : Prop := chainNoneRow.holds Try.pinned (OpenSpec.ofChange chainNoneWrong)

/-- 'gladstonelaw22.BintreeAll': WHATEVER THE INPUT: true; the input reads as it did. -/
def bintreeAllSpec : ChangeSpec := { name := "bintreeAll", fn := fun _ => fun
  | [d1, d2, d3] => { results := [.lit (.bool true)], args := [d1, d2, d3] }
  | _ => none }
def bintreeAllRow : OpenClaim := { program := "ytjmenlffhoodeaa", sum := "8cc9e7282bb503500b4c37ce6389470cb21d9b09c3bab5de9f6beda4df4d0aef", func := "gladstone/gladstonelaw22.BintreeAll", spec := "bintreeAll", plainKeys := false, apart := false }
def BintreeAllSaid : Prop := bintreeAllRow.holds Try.pinned (OpenSpec.ofChange bintreeAllSpec)

/-- ITS FALSE NEIGHBOUR: 'it returns false'. Refute it at one input. -/
def bintreeAllWrong : ChangeSpec := { name := "bintreeAll", fn := fun _ => fun
  | [d1, d2, d3] => { results := [.lit (.bool false)], args := [d1, d2, d3] }
  | _ => none }
def BintreeAllWrongFalsely : Prop := bintreeAllRow.holds Try.pinned (OpenSpec.ofChange bintreeAllWrong)

/-- 'gladstonelaw22.BintreeNone': WHATEVER THE INPUT: true; the input reads as it did. -/
def bintreeNoneSpec : ChangeSpec := { name := "bintreeNone", fn := fun _ => fun
  | [d] => { results := [.lit (.bool true)], args := [d] }
  | _ => none }
def bintreeNoneRow : OpenClaim := { program := "ytjmenlffhoodeaa", sum := "8cc9e7282bb503500b4c37ce6389470cb21d9b09c3bab5de9f6beda4df4d0aef", func := "gladstone/gladstonelaw22.BintreeNone", spec := "bintreeNone", plainKeys := false, apart := false }
def BintreeNoneSaid : Prop := bintreeNoneRow.holds Try.pinned (OpenSpec.ofChange bintreeNoneSpec)

/-- ITS FALSE NEIGHBOUR: 'it returns false'. Refute it at one input. -/
def bintreeNoneWrong : ChangeSpec := { name := "bintreeNone", fn := fun _ => fun
  | [d] => { results := [.lit (.bool false)], args := [d] }
  | _ => none }
def BintreeNoneWrongFalsely : Prop := bintreeNoneRow.holds Try.pinned (OpenSpec.ofChange bintreeNoneWrong)

/- THE SECOND FORM. 'bulk': how many values and letters a reading holds, each counted each time it is reached (what is shared counts as often as it is met; a slice's spare places count too). A statement '..UptoSaid' is the law's where the arguments, and the package variables that the reading takes, are together of bulk at most 1048576: NARROWER than '..Said'. Prove '..Said' where nothing that the law and all that it calls make is longer than what came in: it says more and counts as full. Else prove '..UptoSaid'. A law counts once. -/
mutual
def uptoBulk {H : Type} : DataW H → Nat
  | .lit (.string bytes) => bytes.length + 1
  | .lit _ => 1
  | .nil => 1
  | .ptr d => uptoBulk d + 1
  | .slice elems spare => uptoBulkAll elems + uptoBulkAll spare + 1
  | .agg parts => uptoBulkAll parts + 1
  | .iface _ d => uptoBulk d + 1
  | .map entries => uptoBulkEntries entries + 1
  | .held _ => 1
def uptoBulkAll {H : Type} : List (DataW H) → Nat
  | [] => 0
  | d :: r => uptoBulk d + uptoBulkAll r
def uptoBulkEntries {H : Type} : List (Lit × DataW H) → Nat
  | [] => 0
  | x :: r => uptoBulkEntry x + uptoBulkEntries r
def uptoBulkEntry {H : Type} : Lit × DataW H → Nat
  | (.string bytes, d) => bytes.length + uptoBulk d + 1
  | (_, d) => uptoBulk d + 1
 end
def uptoSmall : (H : Type) → List (DataW H) → Bool := fun _ ds => decide (uptoBulkAll ds ≤ 1048576)
def OpenSpec.upto (s : _root_.Go.ChangeSpec) : _root_.Go.OpenSpec := { _root_.Go.OpenSpec.ofChange s with cond := some uptoSmall }

/-- 'gladstonelaw38.BoundSums', WHERE WHAT IT READS IS OF BULK AT MOST 1048576: true; the input reads as it did. -/
def boundSumsUptoRow : OpenClaim := { program := "ytjmenlffhoodeaa", sum := "8cc9e7282bb503500b4c37ce6389470cb21d9b09c3bab5de9f6beda4df4d0aef", func := "gladstone/gladstonelaw38.BoundSums", spec := "boundSums", plainKeys := false, apart := false, narrowed := true }
def BoundSumsUptoSaid : Prop := boundSumsUptoRow.holds Try.pinned (OpenSpec.upto boundSumsSpec)

/-- 'gladstonelaw38.BoundRises', WHERE WHAT IT READS IS OF BULK AT MOST 1048576: true; the input reads as it did. -/
def boundRisesUptoRow : OpenClaim := { program := "ytjmenlffhoodeaa", sum := "8cc9e7282bb503500b4c37ce6389470cb21d9b09c3bab5de9f6beda4df4d0aef", func := "gladstone/gladstonelaw38.BoundRises", spec := "boundRises", plainKeys := false, apart := false, narrowed := true }
def BoundRisesUptoSaid : Prop := boundRisesUptoRow.holds Try.pinned (OpenSpec.upto boundRisesSpec)

/-- 'gladstonelaw04.AdlerSums', WHERE WHAT IT READS IS OF BULK AT MOST 1048576: true; the input reads as it did. -/
def adlerSumsUptoRow : OpenClaim := { program := "ytjmenlffhoodeaa", sum := "8cc9e7282bb503500b4c37ce6389470cb21d9b09c3bab5de9f6beda4df4d0aef", func := "gladstone/gladstonelaw04.AdlerSums", spec := "adlerSums", plainKeys := false, apart := false, narrowed := true }
def AdlerSumsUptoSaid : Prop := adlerSumsUptoRow.holds Try.pinned (OpenSpec.upto adlerSumsSpec)

/-- 'gladstonelaw04.AdlerJoins', WHERE WHAT IT READS IS OF BULK AT MOST 1048576: true; the input reads as it did. -/
def adlerJoinsUptoRow : OpenClaim := { program := "ytjmenlffhoodeaa", sum := "8cc9e7282bb503500b4c37ce6389470cb21d9b09c3bab5de9f6beda4df4d0aef", func := "gladstone/gladstonelaw04.AdlerJoins", spec := "adlerJoins", plainKeys := false, apart := false, narrowed := true }
def AdlerJoinsUptoSaid : Prop := adlerJoinsUptoRow.holds Try.pinned (OpenSpec.upto adlerJoinsSpec)

/-- 'gladstonelaw04.AdlerParts', WHERE WHAT IT READS IS OF BULK AT MOST 1048576: true; the input reads as it did. -/
def adlerPartsUptoRow : OpenClaim := { program := "ytjmenlffhoodeaa", sum := "8cc9e7282bb503500b4c37ce6389470cb21d9b09c3bab5de9f6beda4df4d0aef", func := "gladstone/gladstonelaw04.AdlerParts", spec := "adlerParts", plainKeys := false, apart := false, narrowed := true }
def AdlerPartsUptoSaid : Prop := adlerPartsUptoRow.holds Try.pinned (OpenSpec.upto adlerPartsSpec)

/-- 'gladstonelaw05.CrcSums', WHERE WHAT IT READS IS OF BULK AT MOST 1048576: true; the input reads as it did. -/
def crcSumsUptoRow : OpenClaim := { program := "ytjmenlffhoodeaa", sum := "8cc9e7282bb503500b4c37ce6389470cb21d9b09c3bab5de9f6beda4df4d0aef", func := "gladstone/gladstonelaw05.CrcSums", spec := "crcSums", plainKeys := false, apart := false, narrowed := true }
def CrcSumsUptoSaid : Prop := crcSumsUptoRow.holds Try.pinned (OpenSpec.upto crcSumsSpec)

/-- 'gladstonelaw05.CrcParts', WHERE WHAT IT READS IS OF BULK AT MOST 1048576: true; the input reads as it did. -/
def crcPartsUptoRow : OpenClaim := { program := "ytjmenlffhoodeaa", sum := "8cc9e7282bb503500b4c37ce6389470cb21d9b09c3bab5de9f6beda4df4d0aef", func := "gladstone/gladstonelaw05.CrcParts", spec := "crcParts", plainKeys := false, apart := false, narrowed := true }
def CrcPartsUptoSaid : Prop := crcPartsUptoRow.holds Try.pinned (OpenSpec.upto crcPartsSpec)

/-- 'gladstonelaw05.CrcOne', WHERE WHAT IT READS IS OF BULK AT MOST 1048576: true; the input reads as it did. -/
def crcOneUptoRow : OpenClaim := { program := "ytjmenlffhoodeaa", sum := "8cc9e7282bb503500b4c37ce6389470cb21d9b09c3bab5de9f6beda4df4d0aef", func := "gladstone/gladstonelaw05.CrcOne", spec := "crcOne", plainKeys := false, apart := false, narrowed := true }
def CrcOneUptoSaid : Prop := crcOneUptoRow.holds Try.pinned (OpenSpec.upto crcOneSpec)

/-- 'gladstonelaw41.ChainAll', WHERE WHAT IT READS IS OF BULK AT MOST 1048576: true; the input reads as it did. -/
def chainAllUptoRow : OpenClaim := { program := "ytjmenlffhoodeaa", sum := "8cc9e7282bb503500b4c37ce6389470cb21d9b09c3bab5de9f6beda4df4d0aef", func := "gladstone/gladstonelaw41.ChainAll", spec := "chainAll", plainKeys := false, apart := false, narrowed := true }
def ChainAllUptoSaid : Prop := chainAllUptoRow.holds Try.pinned (OpenSpec.upto chainAllSpec)

/-- 'gladstonelaw41.ChainNone', WHERE WHAT IT READS IS OF BULK AT MOST 1048576: true; the input reads as it did. -/
def chainNoneUptoRow : OpenClaim := { program := "ytjmenlffhoodeaa", sum := "8cc9e7282bb503500b4c37ce6389470cb21d9b09c3bab5de9f6beda4df4d0aef", func := "gladstone/gladstonelaw41.ChainNone", spec := "chainNone", plainKeys := false, apart := false, narrowed := true }
def ChainNoneUptoSaid : Prop := chainNoneUptoRow.holds Try.pinned (OpenSpec.upto chainNoneSpec)

/-- 'gladstonelaw22.BintreeAll', WHERE WHAT IT READS IS OF BULK AT MOST 1048576: true; the input reads as it did. -/
def bintreeAllUptoRow : OpenClaim := { program := "ytjmenlffhoodeaa", sum := "8cc9e7282bb503500b4c37ce6389470cb21d9b09c3bab5de9f6beda4df4d0aef", func := "gladstone/gladstonelaw22.BintreeAll", spec := "bintreeAll", plainKeys := false, apart := false, narrowed := true }
def BintreeAllUptoSaid : Prop := bintreeAllUptoRow.holds Try.pinned (OpenSpec.upto bintreeAllSpec)

/-- 'gladstonelaw22.BintreeNone', WHERE WHAT IT READS IS OF BULK AT MOST 1048576: true; the input reads as it did. -/
def bintreeNoneUptoRow : OpenClaim := { program := "ytjmenlffhoodeaa", sum := "8cc9e7282bb503500b4c37ce6389470cb21d9b09c3bab5de9f6beda4df4d0aef", func := "gladstone/gladstonelaw22.BintreeNone", spec := "bintreeNone", plainKeys := false, apart := false, narrowed := true }
def BintreeNoneUptoSaid : Prop := bintreeNoneUptoRow.holds Try.pinned (OpenSpec.upto bintreeNoneSpec)

end Rows
end Go.Proofs.Ytjmenlffhoodeaa
