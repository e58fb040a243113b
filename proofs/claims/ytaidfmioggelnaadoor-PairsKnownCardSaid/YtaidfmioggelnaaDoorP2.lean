/- What the program's loop collects, and what the document marks, are the same pairs. Plain Lean. No condition. -/
import Derived.Test.YtaidfmioggelnaaDoorP1
namespace Go.Proofs.YtaidfmioggelnaaDoor.Q
set_option linter.unusedVariables false
set_option linter.unusedSimpArgs false
open Go.RowKit Go.Proofs.YtaidfmioggelnaaDoorW.PrintWords

/-- The marks' pairs, by their places: those of outL are ascending. -/
theorem outL_ge (cl : List Int) : ∀ (f i : Nat), ∀ x ∈ outL cl f i, (i : Int) ≤ x.f0 ∧ x.f0 < ((i + f : Nat) : Int) ∧ x.f1 = rd cl x.f0 ∧ x.f1 > 0
  | 0, i, x, h => by cases h
  | f + 1, i, x, h => by
    rw [outL] at h
    rcases List.mem_append.1 h with h | h
    · split at h
      · rw [List.mem_singleton.1 h]
        rename_i hc
        exact ⟨Int.le_refl _, by simp only; omega, rfl, hc⟩
      · cases h
    · have := outL_ge cl f (i + 1) x h
      exact ⟨by omega, by omega, this.2.2⟩
theorem outL_sorted (cl : List Int) : ∀ (f i : Nat), (outL cl f i).Pairwise (fun x y => x.f0 < y.f0)
  | 0, i => List.Pairwise.nil
  | f + 1, i => by
    rw [outL]
    refine List.pairwise_append.2 ⟨?_, outL_sorted cl f (i + 1), fun x hx y hy => ?_⟩
    · split
      · exact List.pairwise_singleton _ _
      · exact List.Pairwise.nil
    · split at hx
      · rw [List.mem_singleton.1 hx]
        have := outL_ge cl f (i + 1) y hy
        simp only
        omega
      · cases hx
theorem outL_mem (cl : List Int) : ∀ (f i k : Nat), i ≤ k → k < i + f → rd cl k > 0 → (⟨k, rd cl k⟩ : S31) ∈ outL cl f i
  | 0, i, k, h1, h2, h3 => by omega
  | f + 1, i, k, h1, h2, h3 => by
    rw [outL]
    by_cases h : i = k
    · rw [h, if_pos h3]; exact List.mem_append_left _ (by simp)
    · exact List.mem_append_right _ (outL_mem cl f (i + 1) k (by omega) (by omega) h3)
end Go.Proofs.YtaidfmioggelnaaDoor.Q
