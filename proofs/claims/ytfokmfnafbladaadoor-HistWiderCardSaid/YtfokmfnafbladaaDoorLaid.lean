/- A world in which the listed tables lie. -/
import Derived.Test.YtfokmfnafbladaaDoorRows
import Derived.LaidLaws
import Derived.LaidHandle
import Derived.ChangeVars
import Derived.ProofKit
namespace Go.Proofs.YtfokmfnafbladaaDoor
open Go.ChangeShapes Go.WideShapes Go.RowKit

theorem Tryd.ownK : ownKnob Tryd.prog.godebug = none := by kernel_rfl
theorem Tryd.laidOutK : laidOutB Tryd.prog = true := by kernel_rfl
/-- The cells of a table's datum. -/
def datCells1 : DataW Unit → List Value
  | .lit (.int k n) => [.int k n]
  | _ => []
def datCells2 : DataW Unit → List Value
  | .agg xs => xs.flatMap datCells1
  | d => datCells1 d
def datCells3 : DataW Unit → List Value
  | .agg xs => xs.flatMap datCells2
  | d => datCells1 d
/-- A variable laid. -/
noncomputable def layVar (x : String × DataW Unit) (h : Array Obj) : Array Obj :=
  match Tryd.prog.globalNamed x.1 with
  | some g => h.modify g fun
    | .cells _ t frozen => .cells (datCells3 x.2).toArray t frozen
    | o => o
  | none => h
noncomputable def laidWorld (l : List (String × DataW Unit)) (os : Os) : World :=
  let w0 := World.holding Tryd.prog os ⟨#[], #[], []⟩
  { w0 with heap := l.foldr layVar w0.heap }
theorem laid5_met (os : Os) (args : Array Value) : laidMetH Tryd.prog Rows.histPartsRow.laid ((laidWorld Rows.histPartsRow.laid os).forCall (fun _ _ => 0) ⟨#[], args, []⟩).memory :=
  laidMetH_of_parts (laidMet_of_run' 8 (by kernel_rfl) (by kernel_rfl)) (by kernel_rfl)

end Go.Proofs.YtfokmfnafbladaaDoor
