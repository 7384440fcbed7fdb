/- NumNears: of the print's words those that this claim needs. Laid by wip/claimpack.py out of the words that the kit's print laid. -/
import Derived.Test.YtakcdoahpbeckaaKNumNearsWN
namespace Go.Proofs.YtakcdoahpbeckaaW.PrintWords
open Go.RowKit
namespace Kd
section
variable {α : Type} {d : Kd α} {W : World} {g n : Nat} {S ok : Nat → Prop} {A : Option Addr} {ad : Addr} {xs : List α}
end
end Kd
end Go.Proofs.YtakcdoahpbeckaaW.PrintWords
