/- NumNears: of the print's words those that this claim needs. Laid by wip/claimpack.py out of the words that the kit's print laid. -/
import Derived.Test.YtakcdoahpbeckaaKNumNearsWApart
import Derived.Test.YtakcdoahpbeckaaKNumNearsWArr
namespace Go.Proofs.YtakcdoahpbeckaaW.PrintWords
open Go.RowKit
section
variable {P : Program}
end
namespace Kd
section
variable {P : Program} {ops : Array Oper} {rest : List Oper} {o : Oper} {a : Act} {Q : Exit → Act → World → Prop} {Kc : Act → World → Prop} {α : Type}
end
section
variable {α : Type} {d : Kd α} {e : Nat} {w : World} {base : Nat} {ok : Nat → Prop} {v : Value} {xs : List α}
end
section
variable {P : Program} {ops : Array Oper} {rest : List Oper} {o : Oper} {a : Act} {Q : Exit → Act → World → Prop} {Kc : Act → World → Prop} {α : Type}
end
end Kd
end Go.Proofs.YtakcdoahpbeckaaW.PrintWords
