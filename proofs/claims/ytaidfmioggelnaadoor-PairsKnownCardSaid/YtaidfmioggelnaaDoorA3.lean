/- (Pair).compare as the sort asks it: for places below 2^20. No condition. -/
import Derived.Test.YtaidfmioggelnaaDoorSort
import Derived.Test.YtaidfmioggelnaaDoorA1
import Derived.Test.YtaidfmioggelnaaDoorA5
namespace Go.Proofs.YtaidfmioggelnaaDoor.Q
set_option linter.unusedVariables false
set_option linter.unusedSimpArgs false
open Go.Shelf Go.RowKit Go.Lib Go.Sort

def cfPr (x y : Pr) : Int := (x.1.1 : Int) - y.1.1
theorem ltPr (x y : Pr) : ltOf cfPr x y = decide (x.1.1 < y.1.1) := by
  unfold ltOf cfPr
  rw [decide_eq_decide]
  omega
theorem swoPr : SWO (ltOf cfPr) where
  irrefl x := by rw [ltPr]; simp
  trans x y z h1 h2 := by rw [ltPr] at *; simp at *; omega
  ntrans x y z h1 h2 := by rw [ltPr] at *; simp at *; omega
theorem compare_any (x y : Pr) (w : World) : Calls Tryd.prog 20 #[.agg (encPr x).toArray, .agg (encPr y).toArray] w fun e w' => e = .returned (.int .i64 (cfPr x y)) ∧ ∃ n os, w' = grow (w.drewN n) os := by
  obtain ⟨⟨a, ha⟩, b⟩ := x
  obtain ⟨⟨c, hc⟩, d⟩ := y
  unfold encPr cfPr
  simp only
  go_enter Tryd.func20, Tryd.ntmps20
  go_wp2
  go_ret
  refine ⟨?_, 0, _, by rw [alloc_eq_grow, alloc_eq_grow, grow_grow]; rfl⟩
  first | rfl | (congr 2; first | rfl | omega | go_num)
theorem cmpPr (blk off size : Nat) (w : World) : CmpLays Tryd.prog 20 #[] encPr 2 cfPr blk off size w := fun _ _ _ _ x y => compare_any x y _
end Go.Proofs.YtaidfmioggelnaaDoor.Q
