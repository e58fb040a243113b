/- pairs.side. No condition. -/
import Derived.Test.YtaidfmioggelnaaDoorA1
namespace Go.Proofs.YtaidfmioggelnaaDoor.Q
set_option linter.unusedVariables false
set_option linter.unusedSimpArgs false
open Go.RowKit Go.Proofs.YtaidfmioggelnaaDoorW.PrintWords

/-- The side of a class; 0: of none. -/
def sideF (c : Int) : Int := if c = 1 then 1 else if c = 2 ∨ c = 4 ∨ c = 7 then 2 else 0
set_option maxHeartbeats 1000000 in
theorem side_any (c : Int) (w : World) : Calls Tryd.prog 24 #[.int .u8 c] w fun e w' => e = .returned (.int .u8 (sideF c)) ∧ w = w' := by
  have key : ∀ x y z t : Bool, (c == 1) = x → (c == 2) = y → (c == 4) = z → (c == 7) = t → Calls Tryd.prog 24 #[.int .u8 c] w fun e w' => e = .returned (.int .u8 (if x then c else if y then c else if z then 2 else if t then 2 else 0)) ∧ w = w' := by
    intro x y z t h1 h2 h3 h4
    cases x <;> cases y <;> cases z <;> cases t <;> (go_enter Tryd.func24, Tryd.ntmps24; go_wp2; go_ret; exact ⟨rfl, rfl⟩)
  refine (key _ _ _ _ rfl rfl rfl rfl).mono ?_
  rintro e w' ⟨rfl, rfl⟩
  refine ⟨?_, rfl⟩
  congr 2
  unfold sideF
  simp only [beq_iff_eq]
  repeat' split
  all_goals omega
end Go.Proofs.YtaidfmioggelnaaDoor.Q
