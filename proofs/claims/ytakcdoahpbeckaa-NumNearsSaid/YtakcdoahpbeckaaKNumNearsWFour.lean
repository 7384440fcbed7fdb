/- NumNears: of the print's words those that this claim needs. Laid by wip/claimpack.py out of the words that the kit's print laid. -/
import Derived.Test.YtakcdoahpbeckaaKNumNearsWTab
namespace Go.Proofs.YtakcdoahpbeckaaW.PrintLast
section
variable {P : Program} {ops : Array Oper} {Q : Exit → Act → World → Prop} {md : Region.Mode} {S : World → Prop} {ds : List Nat} {T : Bool × List (List Nat × List Nat)}
end
end Go.Proofs.YtakcdoahpbeckaaW.PrintLast
