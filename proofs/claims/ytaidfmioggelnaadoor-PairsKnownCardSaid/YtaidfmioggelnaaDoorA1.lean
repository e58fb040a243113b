/- props.Bracket: what it hands back. Condition: the world's table. -/
import Derived.Test.YtaidfmioggelnaaDoorGW
import Derived.Test.YtaidfmioggelnaaDoorChecked
import Derived.Test.YtaidfmioggelnaaDoorWMore
import Derived.Lib.ReflectliteSwap
import Derived.LoopTactic
import Derived.RegionTactic
import Derived.BigQuiet
import Derived.Deep.QuietTactic
namespace Go.Proofs.YtaidfmioggelnaaDoor.Q
set_option linter.unusedVariables false
set_option linter.unusedSimpArgs false
open Go.RowKit Go.Proofs.YtaidfmioggelnaaDoorW.PrintWords

def bkL (r : Int) : List (Int × Int) → Int × Bool × Bool
  | [] => (0, false, false)
  | x :: l => if r ≠ x.1 ∧ r ≠ x.2 then bkL r l else if x.2 = 9002 then (12297, decide (r = x.1), true) else (x.2, decide (r = x.1), true)
def bkF (r : Int) : Int × Bool × Bool := bkL r bkT
def bkC : List Value := bkT.flatMap fun x => [.int .i32 x.1, .int .i32 x.2]
theorem bk_cells : ∀ k, k < 46 → bkC[k]? = some (.int .i32 (if k % 2 = 0 then (bkAt (k / 2)).1 else (bkAt (k / 2)).2))
  | 0, _ => by kernel_rfl
  | 1, _ => by kernel_rfl
  | 2, _ => by kernel_rfl
  | 3, _ => by kernel_rfl
  | 4, _ => by kernel_rfl
  | 5, _ => by kernel_rfl
  | 6, _ => by kernel_rfl
  | 7, _ => by kernel_rfl
  | 8, _ => by kernel_rfl
  | 9, _ => by kernel_rfl
  | 10, _ => by kernel_rfl
  | 11, _ => by kernel_rfl
  | 12, _ => by kernel_rfl
  | 13, _ => by kernel_rfl
  | 14, _ => by kernel_rfl
  | 15, _ => by kernel_rfl
  | 16, _ => by kernel_rfl
  | 17, _ => by kernel_rfl
  | 18, _ => by kernel_rfl
  | 19, _ => by kernel_rfl
  | 20, _ => by kernel_rfl
  | 21, _ => by kernel_rfl
  | 22, _ => by kernel_rfl
  | 23, _ => by kernel_rfl
  | 24, _ => by kernel_rfl
  | 25, _ => by kernel_rfl
  | 26, _ => by kernel_rfl
  | 27, _ => by kernel_rfl
  | 28, _ => by kernel_rfl
  | 29, _ => by kernel_rfl
  | 30, _ => by kernel_rfl
  | 31, _ => by kernel_rfl
  | 32, _ => by kernel_rfl
  | 33, _ => by kernel_rfl
  | 34, _ => by kernel_rfl
  | 35, _ => by kernel_rfl
  | 36, _ => by kernel_rfl
  | 37, _ => by kernel_rfl
  | 38, _ => by kernel_rfl
  | 39, _ => by kernel_rfl
  | 40, _ => by kernel_rfl
  | 41, _ => by kernel_rfl
  | 42, _ => by kernel_rfl
  | 43, _ => by kernel_rfl
  | 44, _ => by kernel_rfl
  | 45, _ => by kernel_rfl
  | k + 46, h => by omega
theorem bk_len : bkC.length = 46 := by kernel_rfl
theorem bk_load {w : World} (hG : GW w) : (loadVar 68 ⟨0, 0, none⟩).run Tryd.prog w = .ok (.agg bkC.toArray) w := by
  have hie : (Tryd.prog.info? 68).map (·.size) = some 46 := by kernel_rfl
  obtain ⟨ie, h1, h2⟩ := Option.map_eq_some_iff.1 hie
  refine Lib.rl_loadVar_cells (P := Tryd.prog) 68 ie h1 (fun w => by kernel_rfl) 0 0 bkC (by rw [bk_len, h2]) w (fun k v h => ?_)
  have hk : k < 46 := by
    have := (List.getElem?_eq_some_iff.1 h).1
    rwa [bk_len] at this
  have hc := bk_cells k hk
  rw [h] at hc
  rw [Option.some.inj hc, Nat.zero_add]
  by_cases he : k % 2 = 0
  · rw [if_pos he]
    have := hG.bk0 (k / 2) (by omega)
    rwa [show k / 2 * 2 = k by omega] at this
  · rw [if_neg he]
    have := hG.bk1 (k / 2) (by omega)
    rwa [show k / 2 * 2 + 1 = k by omega] at this
theorem bk_index (w : World) : ∀ i : Nat, i < 23 → (Instr.index 68 (.agg bkC.toArray) (.int .i64 i)).run Tryd.prog w = .ok (.agg #[.int .i32 (bkAt i).1, .int .i32 (bkAt i).2]) w
  | 0, _ => by kernel_rfl
  | 1, _ => by kernel_rfl
  | 2, _ => by kernel_rfl
  | 3, _ => by kernel_rfl
  | 4, _ => by kernel_rfl
  | 5, _ => by kernel_rfl
  | 6, _ => by kernel_rfl
  | 7, _ => by kernel_rfl
  | 8, _ => by kernel_rfl
  | 9, _ => by kernel_rfl
  | 10, _ => by kernel_rfl
  | 11, _ => by kernel_rfl
  | 12, _ => by kernel_rfl
  | 13, _ => by kernel_rfl
  | 14, _ => by kernel_rfl
  | 15, _ => by kernel_rfl
  | 16, _ => by kernel_rfl
  | 17, _ => by kernel_rfl
  | 18, _ => by kernel_rfl
  | 19, _ => by kernel_rfl
  | 20, _ => by kernel_rfl
  | 21, _ => by kernel_rfl
  | 22, _ => by kernel_rfl
  | k + 23, h => by omega
section
variable {ops : Array Oper} {rest : List Oper} {o : Oper} {a : Act} {Q : Exit → Act → World → Prop}
theorem load_step {W : World} (hgd : o.guard = none) (hop : o.op = .load 68 (.global 0)) (hG : GW W) (h : wpList Tryd.prog ops Q rest (a.put o.dst (.agg bkC.toArray)) W) : wpList Tryd.prog ops Q (o :: rest) a W := by
  refine wpList_plain hgd fun K hK => ?_
  have hl := bk_load hG
  unfold Oper.wp execOp
  simp only [hop, Act.eval]
  simp [asAddr, Instr.loadAt, Instr.sureAddr, hl, Result.andThen]
  exact hK _ _ h
theorem index_step {W : World} {x y : Operand} {i : Nat} (hgd : o.guard = none) (hop : o.op = .index 68 x y) (hx : a.eval x = .agg bkC.toArray) (hy : a.eval y = .int .i64 i) (hi : i < 23) (h : wpList Tryd.prog ops Q rest (a.put o.dst (.agg #[.int .i32 (bkAt i).1, .int .i32 (bkAt i).2])) W) : wpList Tryd.prog ops Q (o :: rest) a W := by
  refine wpList_plain hgd fun K hK => ?_
  have hl := bk_index W i hi
  unfold Oper.wp execOp
  simp only [hop, hx, hy]
  simp [hl, Result.andThen]
  exact hK _ _ h
end
set_option maxHeartbeats 4000000 in
set_option maxRecDepth 100000 in
theorem bracket_any (r : Int) (w : World) (hG : GW w) : Calls Tryd.prog 18 #[.int .i32 r] w fun e w' => e = .returned (.tuple #[.int .i32 (bkF r).1, .bool (bkF r).2.1, .bool (bkF r).2.2]) ∧ Below w.heap.size w w' := by
  have hix := @index_step
  generalize hA : bkC.toArray = A at hix
  go_enter Tryd.func18, Tryd.ntmps18
  go_wp2_with (first | ((with_reducible refine gate_dst (N := 7) rfl ?_); refine load_step rfl rfl hG ?_; rw [hA]))
  go_loopg [8] 23 (fun k v8 w' => ∃ i : Nat, v8 = .int .i64 i ∧ i + k = 23 ∧ Aside0 (bkL r (bkT.drop i) = bkF r) ∧ Aside0 (Below w.heap.size w w'))
  case atStart => exact ⟨0, rfl, rfl, ⟨rfl⟩, ⟨Below.refl _ _⟩⟩
  case round =>
    obtain ⟨i, rfl, hik, HA, HB⟩ := hrel
    by_cases hlt : i < 23
    · obtain ⟨k', rfl⟩ : ∃ m, gk = m + 1 := ⟨gk - 1, by omega⟩
      have hd : bkT.drop i = bkAt i :: bkT.drop (i + 1) := by
        have hi : i < bkT.length := by rw [bkT_length]; exact hlt
        rw [List.drop_eq_getElem_cons hi]
        congr 1
        unfold bkAt
        rw [List.getD_eq_getElem?_getD, List.getElem?_eq_getElem hi]; rfl
      have HE := HA.out
      rw [hd, bkL] at HE
      clear HA hd
      obtain ⟨⟨xa, xb⟩, hx⟩ : ∃ x, bkAt i = x := ⟨_, rfl⟩
      rw [hx] at HE
      have HX := Aside0.mk hx
      clear hx
      simp only at HE
      by_cases hne : r ≠ xa ∧ r ≠ xb
      · rw [if_pos hne] at HE
        have e1 : (r != xa) = true := by simpa using hne.1
        have e2 : (r != xb) = true := by simpa using hne.2
        have HE := Aside0.mk HE
        clear hne
        go_wp2_with (first | ((with_reducible refine gate_dst (N := 10) rfl ?_); refine hix rfl rfl rfl rfl hlt ?_; rw [HX.out]))
        go_roundg k'
        case measure => omega
        case rel => exact ⟨i + 1, by go_num, by omega, HE, ⟨below_alloc HB.out _⟩⟩
      · rw [if_neg hne] at HE
        have hor : r = xa ∨ (r ≠ xa ∧ r = xb) := by omega
        by_cases h92 : xb = 9002
        · rw [if_pos h92] at HE
          have e3 : (xb == 9002) = true := by simpa using h92
          clear hne h92
          rcases hor with h | ⟨h1, h2⟩
          · have e1 : (r != xa) = false := by simpa using h
            have e4 : (r == xa) = true := by simpa using h
            have HD := Aside0.mk (show decide (r = xa) = true by simpa using h)
            clear h
            rw [HD.out] at HE
            have HE := Aside0.mk HE
            go_wp2_with (first | ((with_reducible refine gate_dst (N := 10) rfl ?_); refine hix rfl rfl rfl rfl hlt ?_; rw [HX.out]))
            go_quiet (fail)
            go_wp2_with fail
            go_ret3
            exact ⟨by rw [← HE.out]; rfl, pw_below_drewN (below_alloc HB.out _) _⟩
          · have e1 : (r != xa) = true := by simpa using h1
            have e2 : (r != xb) = false := by simpa using h2
            have e4 : (r == xa) = false := by simpa using h1
            have HD := Aside0.mk (show decide (r = xa) = false by simpa using h1)
            clear h1 h2
            rw [HD.out] at HE
            have HE := Aside0.mk HE
            go_wp2_with (first | ((with_reducible refine gate_dst (N := 10) rfl ?_); refine hix rfl rfl rfl rfl hlt ?_; rw [HX.out]))
            go_quiet (fail)
            go_wp2_with fail
            go_ret3
            exact ⟨by rw [← HE.out]; rfl, pw_below_drewN (below_alloc HB.out _) _⟩
        · rw [if_neg h92] at HE
          have e3 : (xb == 9002) = false := by simpa using h92
          clear hne h92
          rcases hor with h | ⟨h1, h2⟩
          · have e1 : (r != xa) = false := by simpa using h
            have e4 : (r == xa) = true := by simpa using h
            have HD := Aside0.mk (show decide (r = xa) = true by simpa using h)
            clear h
            rw [HD.out] at HE
            have HE := Aside0.mk HE
            go_wp2_with (first | ((with_reducible refine gate_dst (N := 10) rfl ?_); refine hix rfl rfl rfl rfl hlt ?_; rw [HX.out]))
            go_quiet (fail)
            go_wp2_with fail
            go_ret3
            exact ⟨by rw [← HE.out]; rfl, pw_below_drewN (below_alloc HB.out _) _⟩
          · have e1 : (r != xa) = true := by simpa using h1
            have e2 : (r != xb) = false := by simpa using h2
            have e4 : (r == xa) = false := by simpa using h1
            have HD := Aside0.mk (show decide (r = xa) = false by simpa using h1)
            clear h1 h2
            rw [HD.out] at HE
            have HE := Aside0.mk HE
            go_wp2_with (first | ((with_reducible refine gate_dst (N := 10) rfl ?_); refine hix rfl rfl rfl rfl hlt ?_; rw [HX.out]))
            go_quiet (fail)
            go_wp2_with fail
            go_ret3
            exact ⟨by rw [← HE.out]; rfl, pw_below_drewN (below_alloc HB.out _) _⟩
    · have HE : bkF r = (0, false, false) := by
        rw [← HA.out, List.drop_eq_nil_of_le (by rw [bkT_length]; omega)]; rfl
      have HE := Aside0.mk HE
      clear HA
      go_wp2_with fail
      go_ret3
      exact ⟨by rw [HE.out]; rfl, HB.out⟩
end Go.Proofs.YtaidfmioggelnaaDoor.Q
