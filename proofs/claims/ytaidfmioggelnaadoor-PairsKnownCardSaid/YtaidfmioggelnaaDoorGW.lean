/- What the listed table of brackets holds, as a condition on a world; it stays where nothing that lay is turned. No condition. -/
import Derived.Test.YtaidfmioggelnaaDoorProg
import Derived.Below
import Derived.WalkKit
import Derived.Test.YtaidfmioggelnaaDoorWWords
namespace Go.Proofs.YtaidfmioggelnaaDoor.Q
set_option linter.unusedVariables false
set_option linter.unusedSimpArgs false
open Go.RowKit Go.Proofs.YtaidfmioggelnaaDoorW.PrintWords

/-- The brackets, as the program's table has them. -/
def bkT : List (Int × Int) := [(40, 41), (91, 93), (123, 125), (8261, 8262), (8317, 8318), (8333, 8334), (8968, 8969), (8970, 8971), (9001, 9002), (10214, 10215), (10216, 10217), (10218, 10219), (10220, 10221), (10222, 10223), (12296, 12297), (12298, 12299), (12300, 12301), (12302, 12303), (12304, 12305), (12308, 12309), (12310, 12311), (12312, 12313), (12314, 12315)]
def bkAt (i : Nat) : Int × Int := bkT.getD i (0, 0)
theorem bkT_length : bkT.length = 23 := rfl
structure GW (w : World) : Prop where
  bk0 : ∀ i, i < 23 → w.cell? ⟨0, i * 2, none⟩ = some (.int .i32 (bkAt i).1)
  bk1 : ∀ i, i < 23 → w.cell? ⟨0, i * 2 + 1, none⟩ = some (.int .i32 (bkAt i).2)
theorem GW_below {w w' : World} (h : GW w) (hb : Below w.heap.size w w') : GW w' :=
  ⟨fun i hi => pw_cell_below hb (h.bk0 i hi), fun i hi => pw_cell_below hb (h.bk1 i hi)⟩
theorem GW_drew {w : World} (h : GW w) (n : Nat) : GW (w.drewN n) := GW_below h (pw_below_drewN (Below.refl _ _) n)
end Go.Proofs.YtaidfmioggelnaaDoor.Q
