/- CheckContexts (program): fits. Written by mk_ckj.py. -/
import Derived.Test.YtanicbbgneobpaaGreatCkI
namespace Go.Proofs.YtanicbbgneobpaaGreat
open Go.RowKit
set_option linter.unusedVariables false
set_option linter.unusedSimpArgs false
def fitsB (m s t : Int) (ls ws xs : List (List Int)) : Bool := ls.all (lenB m (s - 1)) && ws.all (lenB m (s - 1)) && xs.all (fitW s t)
end Go.Proofs.YtanicbbgneobpaaGreat
