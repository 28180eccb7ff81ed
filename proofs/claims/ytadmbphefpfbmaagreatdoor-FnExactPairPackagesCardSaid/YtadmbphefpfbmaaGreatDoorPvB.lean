/- l24Make of any valid commands (reference). -/
import Derived.Test.YtadmbphefpfbmaaGreatDoorPvA
import Derived.Test.YtadmbphefpfbmaaGreatDoorGK
namespace Go.Proofs.YtadmbphefpfbmaaGreatDoor
open Go.RowKit
set_option linter.unusedVariables false
set_option linter.unusedSimpArgs false
theorem makeOk_any (w : World) (A : Option Addr) (n c : Nat) (cs : List Cmd) (hr : RdC w A n cs) (hn : n ≤ 1000000) (hok : okC cs = true) (A1 : Option Addr) (n1 c1 : Nat) (d : Tr) (hd : Rd w A1 n1 (bools d.bits)) (hdn : d.nodes ≤ 900000) :
    Calls Tryz.prog 45 #[.slice A n c, .slice A1 n1 c1] w (RetSI w 4 (bools (pkP cs d).1) (pkP cs d).2) := by
  by_cases h80 : cs.length ≤ 80
  · exact l24Make_any w A n c _ hr (by omega) (by simp [isW, hok, h80]) A1 n1 c1 d hd hdn
  · rw [pk_long h80]
    exact l24Make_no w A n c _ hr (by omega) (by simp [isW, h80]) _
end Go.Proofs.YtadmbphefpfbmaaGreatDoor
