/- NumNears: of the print's words those that this claim needs. Laid by wip/claimpack.py out of the words that the kit's print laid. -/
import Derived.Test.YtakcdoahpbeckaaKNumNearsWInv
import Derived.Test.YtakcdoahpbeckaaKNumNearsWFootNe
namespace Go.Proofs.YtakcdoahpbeckaaW.PrintWords
open Go.RowKit
end Go.Proofs.YtakcdoahpbeckaaW.PrintWords
namespace Go.Proofs.YtakcdoahpbeckaaW.PrintLast
section
variable {ops : Array Oper} {a : Act} {o og : Oper} {g : Nat} {t : Tmp} {u : Bool}
end
end Go.Proofs.YtakcdoahpbeckaaW.PrintLast
