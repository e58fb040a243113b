/- The search by halves in the table of names, as slices.BinarySearchFunc goes: what it hands back. Condition: the world's table of names. -/
import Derived.Test.YtablhjobjmmpnaaDoorA1
import Derived.Test.YtablhjobjmmpnaaDoorShelf
namespace Go.Proofs.YtablhjobjmmpnaaDoor.Q
set_option linter.unusedVariables false
set_option linter.unusedSimpArgs false
open Go.RowKit Go.Proofs.YtablhjobjmmpnaaDoorW.PrintWords

/-- strings.Compare of a name and a word. -/
def cmpN (i : Nat) (t : ByteArray) : Int := Lib.compareBytes (nmAt i).1.data.toList t.data.toList

set_option maxHeartbeats 400000 in
theorem closure_any (i : Nat) (t : ByteArray) (w : World) : Calls Tryd.prog 30 #[.agg #[.string (nmAt i).1, .int .i32 (nmAt i).2.1, .bool (nmAt i).2.2], .string t] w fun e w' => e = .returned (.int .i64 (cmpN i t)) ∧ w' = w.alloc (.cells #[.string (nmAt i).1, .int .i32 (nmAt i).2.1, .bool (nmAt i).2.2] 61) := by
  go_enter Tryd.func30, Tryd.ntmps30
  go_wp2_with (go_at_call 31; refine (Tryd.strings_Compare _ _ _).mono ?_; rintro e w' ⟨rfl, rfl⟩)
  go_ret
  exact ⟨rfl, rfl⟩

def halves (t : ByteArray) : Nat → Nat → Nat → Nat
  | 0, i, _ => i
  | f + 1, i, j => if i < j then (if cmpN ((i + j) / 2) t < 0 then halves t f ((i + j) / 2 + 1) j else halves t f i ((i + j) / 2)) else i

set_option maxHeartbeats 4000000 in
theorem search_any (t : ByteArray) (w : World) (hG : GW w) : Calls Tryd.prog 29 #[.slice (some ⟨0, 0, none⟩) 59 59, .string t, .func (.func 30) #[] #[]] w fun e w' => e = .returned (.tuple #[.int .i64 (halves t 59 0 59), .bool (decide (halves t 59 0 59 < 59 ∧ cmpN (halves t 59 0 59) t = 0))]) ∧ Below w.heap.size w w' := by
  go_enter Tryd.func29, Tryd.ntmps29
  go_wp2_with fail
  go_loopg [9, 10] 59 (fun k v9 v10 w' => ∃ i j : Nat, v9 = .int .i64 i ∧ v10 = .int .i64 j ∧ i ≤ j ∧ j ≤ 59 ∧ j ≤ i + k ∧ Aside0 (halves t k i j = halves t 59 0 59) ∧ Aside0 (GW w') ∧ Aside0 (Below w.heap.size w w'))
  case atStart => exact ⟨0, 59, rfl, rfl, by omega, by omega, by omega, ⟨rfl⟩, ⟨hG⟩, ⟨Below.refl _ _⟩⟩
  case round =>
    obtain ⟨i, j, rfl, rfl, hij, hj, hk, HA, HG, HB⟩ := hrel
    by_cases hlt : i < j
    · have c0 := HG.out.nm0 ((i + j) / 2) (by omega)
      have c1 := HG.out.nm1 ((i + j) / 2) (by omega)
      have c2 := HG.out.nm2 ((i + j) / 2) (by omega)
      obtain ⟨k', rfl⟩ : ∃ m, gk = m + 1 := ⟨gk - 1, by omega⟩
      obtain ⟨h, hh⟩ : ∃ h, h = (i + j) / 2 := ⟨_, rfl⟩
      by_cases hc : cmpN ((i + j) / 2) t < 0
      · have HS := Aside0.mk (show halves t k' ((i + j) / 2 + 1) j = halves t 59 0 59 by rw [← HA.out, halves, if_pos hlt, if_pos hc])
        clear HA
        go_wp2_with (go_at_call 30; (with_reducible refine (closure_any _ _ _).mono ?_); rintro e w' ⟨rfl, rfl⟩)
        go_roundg k'
        case measure => omega
        case rel => exact ⟨(i + j) / 2 + 1, j, by go_num, rfl, by omega, hj, by omega, HS, ⟨GW_below HG.out (below_alloc (Below.refl _ _) _)⟩, ⟨below_alloc HB.out _⟩⟩
      · have HS := Aside0.mk (show halves t k' i ((i + j) / 2) = halves t 59 0 59 by rw [← HA.out, halves, if_pos hlt, if_neg hc])
        clear HA
        go_wp2_with (go_at_call 30; (with_reducible refine (closure_any _ _ _).mono ?_); rintro e w' ⟨rfl, rfl⟩)
        go_roundg k'
        case measure => omega
        case rel => exact ⟨i, (i + j) / 2, rfl, by go_num, by omega, by omega, by omega, HS, ⟨GW_below HG.out (below_alloc (Below.refl _ _) _)⟩, ⟨below_alloc HB.out _⟩⟩
    · have HS := Aside0.mk (show halves t 59 0 59 = i by rw [← HA.out]; cases gk with | zero => rfl | succ k => rw [halves, if_neg hlt])
      obtain rfl : i = j := by omega
      clear HA
      by_cases hi : i < 59
      · have c0 := HG.out.nm0 i hi
        have c1 := HG.out.nm1 i hi
        have c2 := HG.out.nm2 i hi
        go_wp2_with (go_at_call 30; (with_reducible refine (closure_any _ _ _).mono ?_); rintro e w' ⟨rfl, rfl⟩)
        go_ret2
        refine ⟨?_, below_alloc HB.out _⟩
        rw [HS.out, show (cmpN i t == 0) = decide (i < 59 ∧ cmpN i t = 0) by rw [Bool.eq_iff_iff]; simp [hi]]
        rfl
      · go_wp2_with (go_at_call 30; (with_reducible refine (closure_any _ _ _).mono ?_); rintro e w' ⟨rfl, rfl⟩)
        go_ret2
        refine ⟨?_, HB.out⟩
        rw [HS.out]
        simp [hi]

end Go.Proofs.YtablhjobjmmpnaaDoor.Q
