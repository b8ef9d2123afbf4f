-- Words that print.sh laid for this seat, less the theorems that this claim's texts never name (wip/slim.py). Lean checks them.
import Derived.Test.YtdpgdelimffjpaaVWords
import Derived.Laws.StructEq
/-! ### 53. '==' of structs as_ one Bool -/
namespace Go.Proofs.YtdpgdelimffjpaaW.PrintWords
open Go.RowKit
section
variable {P : Program} {d : Nat} {xs ys : Array Value} {f : Field} {fs : List Field} {a b : Value} {r s : Bool} {w : World}
end
end Go.Proofs.YtdpgdelimffjpaaW.PrintWords
