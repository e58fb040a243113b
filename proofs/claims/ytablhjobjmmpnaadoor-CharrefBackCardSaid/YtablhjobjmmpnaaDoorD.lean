/- The listed variables' data give the walks their cells; the world that the door leaves meets the condition. No condition. -/
import Derived.Test.YtablhjobjmmpnaaDoorRows
import Derived.Test.YtablhjobjmmpnaaDoorGW
import Derived.ProofKit
import Derived.LaidMore
import Derived.OpenShut
import Derived.Deep.Strs
namespace Go.Proofs.YtablhjobjmmpnaaDoor.Q
set_option linter.unusedVariables false
set_option linter.unusedSimpArgs false
open Go Go.ChangeShapes Go.WideShapes Go.ChangeAt Go.WideMaps Go.WideElems Go.RowKit

abbrev laid : List (String × DataW Unit) := [("selvedge/charref.names", Rows.laid_selvedge_charref_names), ("selvedge/charref.others", Rows.laid_selvedge_charref_others)]
theorem g0N : Tryd.prog.globalNamed "selvedge/charref.names" = some 0 := by kernel_rfl
theorem g1N : Tryd.prog.globalNamed "selvedge/charref.others" = some 1 := by kernel_rfl
theorem t0N : (Tryd.prog.globals[0]?).map (·.type) = some 62 := by kernel_rfl
theorem t1N : (Tryd.prog.globals[1]?).map (·.type) = some 73 := by kernel_rfl
set_option maxRecDepth 100000 in
theorem door_met (os : Os) (args : Array Value) : laidMetH Tryd.prog laid ((World.doorLaid Tryd.prog 400 os).forCall (fun _ _ => 0) ⟨#[], args, []⟩).memory :=
  laidMetH_of_parts3 (fuel := 8) (laidMet_of_run' 8 (by kernel_rfl) (by kernel_rfl)) (by kernel_rfl) (by kernel_rfl)
theorem nm_data : Rows.laid_selvedge_charref_names (H := Unit) = .agg (nmT.map fun t => .agg [.lit (.string t.1.data.toList), .lit (.int .i32 t.2.1), .lit (.bool t.2.2)]) := by kernel_rfl
theorem ot_data : Rows.laid_selvedge_charref_others (H := Unit) = .agg (otT.map fun t => .lit (.int .i32 t)) := by kernel_rfl
theorem drop_take_get {α : Type} (l : List α) (a n i : Nat) (r : List α) (h : (l.drop a).take n = r) (hi : i < r.length) : l[a + i]? = some r[i] := by
  subst h
  simp at hi
  rw [List.getElem_take, List.getElem_drop, List.getElem?_eq_getElem]
set_option maxRecDepth 100000 in
theorem of_laid {W : World} (h : laidMetH Tryd.prog laid W) : GW W := by
  rw [MakeChecks.laidMetH_plain _ _ _ (by kernel_rfl)] at h
  obtain ⟨ps, ⟨g0, t0, cs0, f0, p0, q0, hg0, ht0, hv0, hd0, ⟨g1, t1, cs1, f1, p1, q1, hg1, ht1, hv1, hd1, _, _⟩, _⟩, _, _⟩ := h
  obtain rfl := Option.some.inj (g0N.symm.trans hg0)
  obtain rfl := Option.some.inj (g1N.symm.trans hg1)
  obtain rfl := Option.some.inj (t0N.symm.trans ht0)
  obtain rfl := Option.some.inj (t1N.symm.trans ht1)
  have c0 := World.var?_cell hg0 hv0
  have c1 := World.var?_cell hg1 hv1
  obtain ⟨l0⟩ := cs0
  obtain ⟨l1⟩ := cs1
  simp only [List.getElem?_toArray] at c0 c1
  rw [nm_data] at hd0
  rw [ot_data] at hd1
  have names : ∀ i, i < 59 → l0[i * 3]? = some (.string (nmAt i).1) ∧ l0[i * 3 + 1]? = some (.int .i32 (nmAt i).2.1) ∧ l0[i * 3 + 2]? = some (.bool (nmAt i).2.2) := by
    intro i hi
    obtain ⟨xs, m, rfl, hx, hlen, hn, hel⟩ := DataW.trod_array Tryd.underlying62 hd0
    have c35 : Tryd.prog.cellsOf 61 = 3 := by kernel_rfl
    have hi' := hel i (by omega)
    rw [c35] at hi'
    simp only [Prod.mk.injEq, DataW.agg.injEq] at hx
    have e : (xs[i]?).map (·.1) = some (.agg [.lit (.string (nmAt i).1.data.toList), .lit (.int .i32 (nmAt i).2.1), .lit (.bool (nmAt i).2.2)]) := by
      rw [← List.getElem?_map, ← hx.1, List.getElem?_map]
      have hnt : i < nmT.length := by rw [nmT_length]; exact hi
      unfold nmAt
      rw [List.getD_eq_getElem?_getD, List.getElem?_eq_getElem hnt]
      rfl
    cases hxi : xs[i]? with
    | none => rw [hxi] at e; cases e
    | some x =>
      rw [hxi] at e hi'
      obtain ⟨y0, y1, y2, n, rfl, hl, h0, h1, h2⟩ := Deep.trod_struct3 Tryd.underlying61 hi'
      simp only [Option.map_some, Option.some.injEq, DataW.agg.injEq, List.cons.injEq, and_true] at e
      obtain ⟨s, e0, rfl, _⟩ := DataW.trod_string Tryd.underlying9 h0
      obtain ⟨r, e1, rfl, _⟩ := DataW.trod_int Tryd.underlying21 h1
      obtain ⟨b, e2, rfl⟩ := DataW.trod_bool Tryd.underlying4 h2
      simp only [DataW.lit.injEq, Lit.string.injEq, Lit.int.injEq, true_and, Lit.bool.injEq] at e
      have k9 : Tryd.prog.cellsOf 9 = 1 := by kernel_rfl
      have k21 : Tryd.prog.cellsOf 21 = 1 := by kernel_rfl
      have k4 : Tryd.prog.cellsOf 4 = 1 := by kernel_rfl
      have hs : s = (nmAt i).1 := ByteArray.ext (Array.ext' e.1)
      have hl3 : ((l0.drop (i * 3)).take 3).length = 3 := by rw [hl, c35]
      simp only [k9, k21, k4] at e0 e1 e2
      generalize hg : (l0.drop (i * 3)).take 3 = g at *
      match g, hl3 with
      | [a, b', c], _ =>
        simp at e0 e1 e2
        subst e0; subst e1; subst e2
        refine ⟨?_, ?_, ?_⟩
        · have := drop_take_get l0 (i * 3) 3 0 _ hg (by simp)
          simpa [hs] using this
        · have := drop_take_get l0 (i * 3) 3 1 _ hg (by simp)
          simpa [e.2.1] using this
        · have := drop_take_get l0 (i * 3) 3 2 _ hg (by simp)
          simpa [e.2.2] using this
  have others : ∀ i, i < 32 → l1[i]? = some (.int .i32 (otT.getD i 0)) := by
    intro i hi
    obtain ⟨xs, m, rfl, hx, hlen, hn, hel⟩ := DataW.trod_array Tryd.underlying73 hd1
    have c21 : Tryd.prog.cellsOf 21 = 1 := by kernel_rfl
    have hi' := hel i (by omega)
    rw [c21] at hi'
    simp only [Prod.mk.injEq, DataW.agg.injEq] at hx
    have e : (xs[i]?).map (·.1) = some (.lit (.int .i32 (otT.getD i 0))) := by
      rw [← List.getElem?_map, ← hx.1, List.getElem?_map]
      have hnt : i < otT.length := by rw [otT_length]; exact hi
      rw [List.getD_eq_getElem?_getD, List.getElem?_eq_getElem hnt]
      rfl
    cases hxi : xs[i]? with
    | none => rw [hxi] at e; cases e
    | some x =>
      rw [hxi] at e hi'
      obtain ⟨r, e1, rfl, _⟩ := DataW.trod_int Tryd.underlying21 hi'
      simp only [Option.map_some, Option.some.injEq, DataW.lit.injEq, Lit.int.injEq, true_and] at e
      have := drop_take_get l1 (i * 1) 1 0 _ e1 (by simp)
      simpa [e] using this
  exact ⟨fun i hi => by rw [c0]; exact (names i hi).1, fun i hi => by rw [c0]; exact (names i hi).2.1, fun i hi => by rw [c0]; exact (names i hi).2.2, fun i hi => by rw [c1]; exact others i hi⟩
end Go.Proofs.YtablhjobjmmpnaaDoor.Q
