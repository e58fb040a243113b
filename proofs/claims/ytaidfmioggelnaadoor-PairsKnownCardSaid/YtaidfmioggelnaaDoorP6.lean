/- The statements' short call returns true; PairsPairs and PairsResolve hold. Condition: none but what the types say. -/
import Derived.Test.YtaidfmioggelnaaDoorQ5
import Derived.KernelRfl
namespace Go.Proofs.YtaidfmioggelnaaDoor.Q
set_option linter.unusedVariables false
set_option linter.unusedSimpArgs false
open Go.RowKit Go.Proofs.YtaidfmioggelnaaDoorW.PrintWords

set_option maxRecDepth 100000 in
theorem works_one : selvedgelaw17_works.f 600 = some true := by kernel_rfl
theorem works_ev : Ev (fun k => selvedgelaw17_works.f k) true := Ev.of (selvedgelaw17_works.mono) works_one
theorem is_loop (a b : List Int) (hl : a.length ≤ 1048576) (h : a = b) : ∀ (f i : Nat), i + f = a.length → Ev (fun k => selvedgelaw17_is.l0 k a b i) true
  | 0, i, hi => Ev.step (fun k => by rw [selvedgelaw17_is.l0]) (Ev.neg (by omega) (Ev.now _))
  | f + 1, i, hi => by
    subst h
    refine Ev.step (fun k => by rw [selvedgelaw17_is.l0]) (Ev.pos (by omega) (Ev.pos (by omega) (Ev.pos (by omega) (Ev.pos rfl ?_))))
    rw [wrap64_nat i (by omega)]
    exact is_loop a a hl rfl f (i + 1) (by omega)
theorem is_ev (a b : List Int) (hl : a.length ≤ 1048576) (h : a = b) : Ev (fun k => selvedgelaw17_is.f k a b) true := by
  unfold selvedgelaw17_is.f
  subst h
  exact Ev.pos rfl (is_loop a a hl rfl a.length 0 (by omega))
/-! ### PairsPairs -/
theorem pp_loop (ps : List S31) (hl : ps.length ≤ 1048576) : ∀ (f i : Nat), i + f = ps.length → Ev (fun k => selvedgelaw17_PairsPairs.l0 k (ps.map to30) ps i) true
  | 0, i, hi => Ev.step (fun k => by rw [selvedgelaw17_PairsPairs.l0]) (Ev.neg (by rw [List.length_map]; omega) (Ev.bind works_ev (Ev.now _)))
  | f + 1, i, hi => by
    have hlt : i < ps.length := by omega
    have h1 : rd_T31 ps i = ps[i] := by unfold rd_T31; simp [List.getD_eq_getElem?_getD, hlt]
    have h2 : rd_T30 (ps.map to30) i = to30 ps[i] := by unfold rd_T30; simp [List.getD_eq_getElem?_getD, hlt]
    refine Ev.step (fun k => by rw [selvedgelaw17_PairsPairs.l0]) (Ev.pos (by rw [List.length_map]; omega) (Ev.pos (by omega) (Ev.pos (by omega) ?_)))
    rw [h1, h2]
    refine Ev.pos rfl (Ev.pos rfl ?_)
    rw [wrap64_nat i (by omega)]
    exact pp_loop ps hl f (i + 1) (by omega)
theorem pairsPairs_pure (l now : List Int) (h0 : ∀ n ∈ l, (Lit.int .i32 n).wf = true) (h1 : ∀ n ∈ now, (Lit.int .u8 n).wf = true) : ∃ k, selvedgelaw17_PairsPairs.f k l now = some true := by
  refine Ev.rounds ?_
  unfold selvedgelaw17_PairsPairs.f
  have long : Ev (fun k => selvedgelaw17_PairsPairs.j0 k l now true) true := Ev.step (fun k => by rw [selvedgelaw17_PairsPairs.j0]) (Ev.pos rfl (Ev.bind works_ev (Ev.now _)))
  by_cases c1 : (l.length : Int) > 800
  · exact Ev.pos c1 long
  · refine Ev.neg c1 ?_
    by_cases c2 : (now.length : Int) > 800
    · rw [decide_eq_true c2]; exact long
    · rw [decide_eq_false c2]
      refine Ev.step (fun k => by rw [selvedgelaw17_PairsPairs.j0]) (Ev.neg (by simp) ?_)
      have hl : l.length ≤ 1048576 := by omega
      have e1 : Ev (fun k => pairs_Pairs.f k l now) ((refP l now).map to30) := by unfold pairs_Pairs.f; exact Ev.pos hl (Ev.now _)
      refine Ev.bind e1 (Ev.bind (rpairs_ev l now hl) (Ev.pos (by rw [List.length_map]) ?_))
      exact pp_loop (refP l now) (by have := refP_len l now; omega) (refP l now).length 0 (by omega)
/-! ### PairsResolve -/
theorem resF_len (l first now : List Int) (level sos : Int) (h : l.length ≤ 800) : (resF l first now level sos).1.length ≤ 1048576 := by
  unfold resF
  split
  · simp
  · split
    · simp
    · simp only; rw [foldF_len]; omega
theorem pairsResolve_pure (l first now : List Int) (a3 a4 : Int) (h0 : ∀ n ∈ l, (Lit.int .i32 n).wf = true) (h1 : ∀ n ∈ first, (Lit.int .u8 n).wf = true) (h2 : ∀ n ∈ now, (Lit.int .u8 n).wf = true) (h3 : (Lit.int .u8 a3).wf = true) (h4 : (Lit.int .u8 a4).wf = true) : ∃ k, selvedgelaw17_PairsResolve.f k l first now a3 a4 = some true := by
  refine Ev.rounds ?_
  unfold selvedgelaw17_PairsResolve.f
  have hb : 0 ≤ a3 ∧ a3 ≤ 255 := by
    have := h3
    have e1 : IntKind.u8.min = 0 := rfl
    have e2 : IntKind.u8.max = 255 := rfl
    simp [Lit.wf, e1, e2] at this
    omega
  have long : Ev (fun k => selvedgelaw17_PairsResolve.j0 k l first now a3 a4 true) true := Ev.step (fun k => by rw [selvedgelaw17_PairsResolve.j0]) (Ev.pos rfl (Ev.bind works_ev (Ev.now _)))
  by_cases c1 : (l.length : Int) > 800
  · exact Ev.pos c1 long
  · refine Ev.neg c1 ?_
    by_cases c2 : (first.length : Int) > 800
    · exact Ev.pos c2 long
    · refine Ev.neg c2 ?_
      by_cases c3 : (now.length : Int) > 800
      · rw [decide_eq_true c3]; exact long
      · rw [decide_eq_false c3]
        refine Ev.step (fun k => by rw [selvedgelaw17_PairsResolve.j0]) (Ev.neg (by simp) (Ev.pos (by simp; omega) ?_))
        simp only [Option.bind_some, List.nil_append]
        refine Ev.pos (by simp; omega) ?_
        have e1 : Ev (fun k => pairs_Resolve.f k l first now a3 a4) (resF l first now a3 a4) := by unfold pairs_Resolve.f; exact Ev.pos hb (Ev.now _)
        refine Ev.bind e1 (Ev.bind (rres_ev l first now a3 a4 hb.1) (Ev.bind (is_ev _ _ (resF_len _ _ _ _ _ (by omega)) rfl) (Ev.pos rfl (Ev.pos rfl ?_))))
        exact Ev.bind (is_ev _ _ (by omega) rfl) (Ev.pos rfl (Ev.bind (is_ev _ _ (by omega) rfl) (Ev.pos rfl (Ev.bind works_ev (Ev.now _)))))
end Go.Proofs.YtaidfmioggelnaaDoor.Q
