/- The contracts of the laws' own helpers on Instr and on slices of it. -/
import Derived.Test.YtgnboemmlohahaaGA
namespace Go.Proofs.Ytgnboemmlohahaa
open Go.RowKit
end Go.Proofs.Ytgnboemmlohahaa
