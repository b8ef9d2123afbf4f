-- Words that print.sh laid for this seat, less the theorems that this claim's texts never name (wip/slim.py). Lean checks them.
import Derived.Test.YtdpgdelimffjpaaVTab
/-! ### 56. Four, five, six operations that may come up next, in any order -/
namespace Go.Proofs.YtdpgdelimffjpaaW.PrintLast
section
variable {P : Program} {ops : Array Oper} {Q : Exit → Act → World → Prop} {md : Region.Mode} {S : World → Prop} {ds : List Nat} {T : Bool × List (List Nat × List Nat)}
end
end Go.Proofs.YtdpgdelimffjpaaW.PrintLast
