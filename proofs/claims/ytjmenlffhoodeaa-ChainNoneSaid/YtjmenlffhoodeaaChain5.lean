/- ChainNone's walk, as its row asks it. -/
import Derived.Test.YtjmenlffhoodeaaChain4
namespace Go.Proofs.Ytjmenlffhoodeaa
open Go.RowKit
theorem chainNone_walk0 (m : Int) (w : World) (_h : (Lit.int .i64 m).wf = true) : Calls Try.prog 12 #[.int .i64 m] w fun e w' => e = .returned (.bool true) ∧ Below w.heap.size w w' := chainNone_walk m w
end Go.Proofs.Ytjmenlffhoodeaa
