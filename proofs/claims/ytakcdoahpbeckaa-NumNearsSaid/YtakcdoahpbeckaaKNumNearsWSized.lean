/- NumNears: of the print's words those that this claim needs. Laid by wip/claimpack.py out of the words that the kit's print laid. -/
import Derived.SizedLaws
import Derived.ChangeSlices
namespace Go.Proofs.YtakcdoahpbeckaaW.PrintWords
open Go.ChangeShapes Go.WideShapes
end Go.Proofs.YtakcdoahpbeckaaW.PrintWords
