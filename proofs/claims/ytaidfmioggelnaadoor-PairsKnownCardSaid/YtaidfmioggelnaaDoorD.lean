/- The listed table's data give the walks their cells; the world that the door leaves meets the condition. No condition. -/
import Derived.Test.YtaidfmioggelnaaDoorRows
import Derived.Test.YtaidfmioggelnaaDoorGW
import Derived.ProofKit
import Derived.LaidMore
import Derived.OpenShut
import Derived.ChangeSame
import Derived.Deep.Strs
namespace Go.Proofs.YtaidfmioggelnaaDoor.Q
set_option linter.unusedVariables false
set_option linter.unusedSimpArgs false
open Go Go.ChangeShapes Go.WideShapes Go.ChangeAt Go.WideMaps Go.WideElems Go.RowKit Go.Proofs.YtaidfmioggelnaaDoorW.PrintWords

abbrev laid : List (String × DataW Unit) := [("selvedge/props.brackets", Rows.laid_selvedge_props_brackets)]
theorem g0N : Tryd.prog.globalNamed "selvedge/props.brackets" = some 0 := by kernel_rfl
theorem t0N : (Tryd.prog.globals[0]?).map (·.type) = some 68 := by kernel_rfl
set_option maxRecDepth 100000 in
theorem door_met (os : Os) (args : Array Value) : laidMetH Tryd.prog laid ((World.doorLaid Tryd.prog 400 os).forCall (fun _ _ => 0) ⟨#[], args, []⟩).memory :=
  laidMetH_of_parts3 (fuel := 8) (laidMet_of_run' 8 (by kernel_rfl) (by kernel_rfl)) (by kernel_rfl) (by kernel_rfl)
theorem bk_data : Rows.laid_selvedge_props_brackets (H := Unit) = .agg (bkT.map fun t => .agg [.lit (.int .i32 t.1), .lit (.int .i32 t.2)]) := by kernel_rfl
theorem drop_take_get {α : Type} (l : List α) (a n i : Nat) (r : List α) (h : (l.drop a).take n = r) (hi : i < r.length) : l[a + i]? = some r[i] := by
  subst h
  simp at hi
  rw [List.getElem_take, List.getElem_drop, List.getElem?_eq_getElem]
set_option maxRecDepth 100000 in
theorem of_laid {W : World} (h : laidMetH Tryd.prog laid W) : GW W := by
  rw [MakeChecks.laidMetH_plain _ _ _ (by kernel_rfl)] at h
  obtain ⟨ps, ⟨g0, t0, cs0, f0, p0, q0, hg0, ht0, hv0, hd0, _, _⟩, _, _⟩ := h
  obtain rfl := Option.some.inj (g0N.symm.trans hg0)
  obtain rfl := Option.some.inj (t0N.symm.trans ht0)
  have c0 := World.var?_cell hg0 hv0
  obtain ⟨l0⟩ := cs0
  simp only [List.getElem?_toArray] at c0
  rw [bk_data] at hd0
  have rows : ∀ i, i < 23 → l0[i * 2]? = some (.int .i32 (bkAt i).1) ∧ l0[i * 2 + 1]? = some (.int .i32 (bkAt i).2) := by
    intro i hi
    obtain ⟨xs, m, rfl, hx, hlen, hn, hel⟩ := DataW.trod_array Tryd.underlying68 hd0
    have c67 : Tryd.prog.cellsOf 67 = 2 := by kernel_rfl
    have hi' := hel i (by omega)
    rw [c67] at hi'
    simp only [Prod.mk.injEq, DataW.agg.injEq] at hx
    have e : (xs[i]?).map (·.1) = some (.agg [.lit (.int .i32 (bkAt i).1), .lit (.int .i32 (bkAt i).2)]) := by
      rw [← List.getElem?_map, ← hx.1, List.getElem?_map]
      have hnt : i < bkT.length := by rw [bkT_length]; exact hi
      unfold bkAt
      rw [List.getD_eq_getElem?_getD, List.getElem?_eq_getElem hnt]
      rfl
    cases hxi : xs[i]? with
    | none => rw [hxi] at e; cases e
    | some x =>
      rw [hxi] at e hi'
      obtain ⟨y0, y1, n, rfl, hl, h0, h1⟩ := trod_struct2 Tryd.underlying67 hi'
      simp only [Option.map_some, Option.some.injEq, DataW.agg.injEq, List.cons.injEq, and_true] at e
      obtain ⟨r, e0, rfl, _⟩ := DataW.trod_int Tryd.underlying21 h0
      obtain ⟨b, e1, rfl, _⟩ := DataW.trod_int Tryd.underlying21 h1
      simp only [DataW.lit.injEq, Lit.string.injEq, Lit.int.injEq, true_and, Lit.bool.injEq] at e
      have k21 : Tryd.prog.cellsOf 21 = 1 := by kernel_rfl
      have hl2 : ((l0.drop (i * 2)).take 2).length = 2 := by rw [hl, c67]
      simp only [k21] at e0 e1
      generalize hg : (l0.drop (i * 2)).take 2 = g at *
      match g, hl2 with
      | [a, b'], _ =>
        simp at e0 e1
        subst e0; subst e1
        refine ⟨?_, ?_⟩
        · have := drop_take_get l0 (i * 2) 2 0 _ hg (by simp)
          simpa [e.1] using this
        · have := drop_take_get l0 (i * 2) 2 1 _ hg (by simp)
          simpa [e.2] using this
  exact ⟨fun i hi => by rw [c0]; exact (rows i hi).1, fun i hi => by rw [c0]; exact (rows i hi).2⟩
def IsRow (k : IntKind) (w : World) (a : Option Addr) (len cap : Nat) (zs : List Int) : Prop :=
  (a = none ∧ len = 0 ∧ cap = 0 ∧ zs = []) ∨
  ∃ x, a = some x ∧ len ≤ cap ∧ cap ≤ maxLen ∧ zs.length = cap ∧ (∀ i, i < zs.length → w.cell? (x.add i) = some (.int k (zs.getD i 0))) ∧ ∀ n ∈ zs, (Lit.int k n).wf = true
theorem row_len {k : IntKind} {w : World} {a : Option Addr} {len cap : Nat} {zs : List Int} (h : IsRow k w a len cap zs) : (zs.take len).length = len ∧ len ≤ cap := by
  rcases h with ⟨_, rfl, rfl, rfl⟩ | ⟨x, _, h1, _, h2, _⟩
  · exact ⟨rfl, Nat.le_refl _⟩
  · exact ⟨by rw [List.length_take]; omega, h1⟩
theorem row_wf {k : IntKind} {w : World} {a : Option Addr} {len cap : Nat} {zs : List Int} (h : IsRow k w a len cap zs) : ∀ n ∈ zs.take len, (Lit.int k n).wf = true := by
  intro n hn
  have := List.mem_of_mem_take hn
  rcases h with ⟨_, _, _, rfl⟩ | ⟨x, _, _, _, _, _, h6⟩
  · cases this
  · exact h6 n this
theorem row_C {k : IntKind} {w : World} {a : Option Addr} {len cap : Nat} {zs : List Int} (h : IsRow k w a len cap zs) : Kd.C (Kd.int k) w a (zs.take len).length (zs.take len) := by
  refine Kd.C_of_reads (d := 0) (h1 := fun _ => rfl) ⟨rfl, ?_, fun hp => ?_⟩
  · rcases h with ⟨_, rfl, rfl, rfl⟩ | ⟨x, _, h1, h3, h2, _⟩
    · simp
    · rw [List.length_take]
      have : maxLen = 9223372036854775807 := rfl
      omega
  · rcases h with ⟨_, rfl, rfl, rfl⟩ | ⟨x, rfl, h1, h3, h2, h4, _⟩
    · simp at hp
    · refine ⟨x, rfl, fun j hj => ?_⟩
      rw [List.length_take] at hj
      rw [h4 j (by omega), List.getD_eq_getElem?_getD, List.getD_eq_getElem?_getD, List.getElem?_take, if_pos (by omega)]
end Go.Proofs.YtaidfmioggelnaaDoor.Q
