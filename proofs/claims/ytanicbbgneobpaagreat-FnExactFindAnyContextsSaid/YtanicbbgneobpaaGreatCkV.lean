/- CheckContexts (reference). -/
import Derived.Test.YtanicbbgneobpaaGreatCkU
namespace Go.Proofs.YtanicbbgneobpaaGreat
open Go.RowKit
set_option linter.unusedVariables false
set_option linter.unusedSimpArgs false
/-- What CheckContexts answers. -/
def chkA (s t : Int) (rs : List Rul) (k : Int) (ns : List Int) (ws : List (List Int)) : Bool := okM s t rs && okP k ns ws && chkR s t rs k ns ws
end Go.Proofs.YtanicbbgneobpaaGreat
