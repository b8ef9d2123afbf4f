-- Words that print.sh laid for this seat, less the theorems that this claim's texts never name (wip/slim.py). Lean checks them.
import Derived.Test.YtdpgdelimffjpaaVInv
import Derived.Test.YtdpgdelimffjpaaVFootNe
namespace Go.Proofs.YtdpgdelimffjpaaW.PrintWords
open Go.RowKit
end Go.Proofs.YtdpgdelimffjpaaW.PrintWords
namespace Go.Proofs.YtdpgdelimffjpaaW.PrintLast
section
variable {ops : Array Oper} {a : Act} {o og : Oper} {g : Nat} {t : Tmp} {u : Bool}
end
end Go.Proofs.YtdpgdelimffjpaaW.PrintLast
