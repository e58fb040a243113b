/- PairsPlain holds: a row without brackets, or without any class of a side, is as it was. Condition: none but what the types say. -/
import Derived.Test.YtaidfmioggelnaaDoorP6
import Derived.Test.YtaidfmioggelnaaDoorQ7
namespace Go.Proofs.YtaidfmioggelnaaDoor.Q
set_option linter.unusedVariables false
set_option linter.unusedSimpArgs false
open Go.RowKit Go.Proofs.YtaidfmioggelnaaDoorW.PrintWords

theorem refP_none (l now : List Int) (h : ∀ i : Nat, i < l.length → (bkF (rd l i)).2.2 = false) : refP l now = [] := by
  cases he : refP l now with
  | nil => rfl
  | cons z r =>
    have hz := refP_ok l now z (by rw [he]; simp)
    obtain ⟨h0, h1, h2, _, _, _, c, hb, _⟩ := hz
    have := h z.f0.toNat (by omega)
    rw [Int.toNat_of_nonneg h0, hb] at this
    cases this
theorem anyF_none (seg : List Int) (s : Int) (hs : s ≠ 0) (h : ∀ c ∈ seg, sideF c = 0) : anyF seg s = false := by
  unfold anyF
  rw [List.any_eq_false]
  intro c hc
  rw [h c hc]
  simpa using fun e => hs (Eq.symm e)
theorem foldF_none (first : List Int) (mine other sos : Int) (hmo : mine ≠ other) (hm : mine ≠ 0) (ho : other ≠ 0) : ∀ (ps : List S31) (out : List Int), (∀ c ∈ out, sideF c = 0) → foldF first mine other sos ps out = out
  | [], out, _ => rfl
  | p :: r, out, h => by
    have hseg : ∀ c ∈ (out.take p.f1.toNat).drop (p.f0.toNat + 1), sideF c = 0 := fun c hc => h c (List.mem_of_mem_take (List.mem_of_mem_drop hc))
    have hf := findF_eq mine other hmo ((out.take p.f1.toNat).drop (p.f0.toNat + 1)) 0 (Ne.symm hm)
    rw [anyF_none _ _ hm hseg, anyF_none _ _ ho hseg, if_neg (by simp), if_neg (by simp)] at hf
    have hb : becF mine other sos out p = 0 := by
      unfold becF
      simp only
      rw [hf, if_neg (Ne.symm hm), if_pos rfl]
    have hs : stepF first mine other sos out p = out := by
      unfold stepF
      simp only
      rw [hb, if_pos rfl]
    rw [foldF, hs]
    exact foldF_none first mine other sos hmo hm ho r out h
def plF (x : Int) : Int := if (bkF x).2.2 = true then 97 else x
def noF (c : Int) : Int := if sideF c = 0 then c else 13
theorem rd_nat (xs : List Int) (i : Nat) (h : i < xs.length) : rd xs i = xs[i] := by
  unfold rd; simp [List.getD_eq_getElem?_getD, h]
theorem plain_end (l first now : List Int) (a3 a4 : Int) (h3 : 0 ≤ a3 ∧ a3 ≤ 255) (hl : l.length ≤ 800) (hf : first.length = l.length) (hn : now.length = l.length) :
    resF (l.map plF) first now a3 a4 = (now, 0) ∧ resF l first (now.map noF) a3 a4 = (now.map noF, 0) ∧ refP (l.map plF) now = [] := by
  have hnone : refP (l.map plF) now = [] := by
    refine refP_none _ _ (fun i hi => ?_)
    rw [List.length_map] at hi
    rw [rd_nat _ i (by rw [List.length_map]; exact hi), List.getElem_map]
    unfold plF
    split
    · rfl
    · rename_i h; simpa using h
  obtain ⟨hmo, hm, ho, _⟩ := mine_other a3
  refine ⟨?_, ?_, hnone⟩
  · unfold resF
    rw [if_neg (by rw [List.length_map]; omega), if_neg (by rw [List.length_map]; omega), hnone]
    rfl
  · unfold resF
    rw [if_neg (by omega), if_neg (by rw [List.length_map]; omega), foldF_none first _ _ a4 hmo hm ho]
    intro c hc
    obtain ⟨x, hx, rfl⟩ := List.mem_map.1 hc
    unfold noF
    split
    · assumption
    · rfl
theorem pl_loop (l first now : List Int) (a3 a4 : Int) (h3 : 0 ≤ a3 ∧ a3 ≤ 255) (hl : l.length ≤ 800) (hf : first.length = l.length) (hn : now.length = l.length) : ∀ (f i : Nat), i + f = l.length →
    Ev (fun k => selvedgelaw17_PairsPlain.l0 k l first now a3 a4 ((l.take i).map plF) ((now.take i).map noF) i) true
  | 0, i, hi => by
    have hi' : i = l.length := by omega
    subst hi'
    rw [List.take_length, List.take_of_length_le (Nat.le_of_eq hn)]
    obtain ⟨e1, e2, e3⟩ := plain_end l first now a3 a4 h3 hl hf hn
    have r1 : Ev (fun k => pairs_Resolve.f k (l.map plF) first now a3 a4) (now, 0) := by unfold pairs_Resolve.f; rw [e1]; exact Ev.pos h3 (Ev.now _)
    have r2 : Ev (fun k => pairs_Resolve.f k l first (now.map noF) a3 a4) (now.map noF, 0) := by unfold pairs_Resolve.f; rw [e2]; exact Ev.pos h3 (Ev.now _)
    have r3 : Ev (fun k => pairs_Pairs.f k (l.map plF) now) [] := by unfold pairs_Pairs.f; rw [e3]; exact Ev.pos (by rw [List.length_map]; omega) (Ev.now _)
    refine Ev.step (fun k => by rw [selvedgelaw17_PairsPlain.l0]) (Ev.neg (by omega) (Ev.bind r1 (Ev.bind r2 (Ev.pos rfl (Ev.pos rfl ?_)))))
    refine Ev.bind (is_ev _ _ (show now.length ≤ 1048576 by omega) rfl) (Ev.pos rfl (Ev.bind (is_ev _ _ (show (now.map noF).length ≤ 1048576 by rw [List.length_map]; omega) rfl) (Ev.pos rfl (Ev.bind r3 (Ev.pos rfl (Ev.bind works_ev (Ev.now _)))))))
  | f + 1, i, hi => by
    have hlt : i < l.length := by omega
    have hln : i < now.length := by omega
    have IH := pl_loop l first now a3 a4 h3 hl hf hn f (i + 1) (by omega)
    rw [List.take_succ_eq_append_getElem hlt, List.take_succ_eq_append_getElem hln, List.map_append, List.map_append, List.map_singleton, List.map_singleton] at IH
    refine Ev.step (fun k => by rw [selvedgelaw17_PairsPlain.l0]) (Ev.pos (by omega) (Ev.pos (by omega) (Ev.bind (rbr_ev _) ?_)))
    rw [rd_nat l i hlt, rd_nat now i hln, wrap64_nat i (by omega), rside_ev]
    have e1 : plF l[i] = if (bkF l[i]).2.2 = true then 97 else l[i] := rfl
    have e2 : noF now[i] = if sideF now[i] = 0 then now[i] else 13 := rfl
    have len1 : ((l.take i).map plF).length < 35184372088832 := by rw [List.length_map, List.length_take]; omega
    have len2 : ((now.take i).map noF).length < 140737488355328 := by rw [List.length_map, List.length_take]; omega
    by_cases hb : (bkF l[i]).2.2 = true
    · rw [if_pos hb] at e1
      rw [e1] at IH
      refine Ev.pos hb (Ev.pos len1 ?_)
      simp only [Option.bind_some]
      refine Ev.pos (by omega) ?_
      by_cases hs : sideF now[i] = 0
      · rw [if_pos hs] at e2
        rw [e2] at IH
        exact Ev.pos hs (Ev.pos len2 IH)
      · rw [if_neg hs] at e2
        rw [e2] at IH
        exact Ev.neg hs (Ev.pos len2 IH)
    · rw [if_neg hb] at e1
      rw [e1] at IH
      refine Ev.neg hb (Ev.pos len1 ?_)
      simp only [Option.bind_some]
      refine Ev.pos (by omega) ?_
      by_cases hs : sideF now[i] = 0
      · rw [if_pos hs] at e2
        rw [e2] at IH
        exact Ev.pos hs (Ev.pos len2 IH)
      · rw [if_neg hs] at e2
        rw [e2] at IH
        exact Ev.neg hs (Ev.pos len2 IH)
theorem wf_u8 {n : Int} (h : (Lit.int .u8 n).wf = true) : 0 ≤ n ∧ n ≤ 255 := by
  have e1 : IntKind.u8.min = 0 := rfl
  have e2 : IntKind.u8.max = 255 := rfl
  simp [Lit.wf, e1, e2] at h
  omega
theorem pairsPlain_pure (l first now : List Int) (a3 a4 : Int) (h0 : ∀ n ∈ l, (Lit.int .i32 n).wf = true) (h1 : ∀ n ∈ first, (Lit.int .u8 n).wf = true) (h2 : ∀ n ∈ now, (Lit.int .u8 n).wf = true) (h3 : (Lit.int .u8 a3).wf = true) (h4 : (Lit.int .u8 a4).wf = true) : ∃ k, selvedgelaw17_PairsPlain.f k l first now a3 a4 = some true := by
  refine Ev.rounds ?_
  unfold selvedgelaw17_PairsPlain.f
  have long : Ev (fun k => selvedgelaw17_PairsPlain.j0 k l first now a3 a4 true) true := Ev.step (fun k => by rw [selvedgelaw17_PairsPlain.j0]) (Ev.pos rfl (Ev.bind works_ev (Ev.now _)))
  by_cases c1 : (l.length : Int) > 800
  · exact Ev.pos c1 long
  · refine Ev.neg c1 ?_
    by_cases c2 : (first.length : Int) = (l.length : Int)
    · refine Ev.pos c2 ?_
      by_cases c3 : now.length = l.length
      · have : ((now.length : Int) != (l.length : Int)) = false := by simp; omega
        simp only [this]
        have hp : Ev (fun k => selvedgelaw17_PairsPlain.l0 k l first now a3 a4 [] [] 0) true := pl_loop l first now a3 a4 (wf_u8 h3) (by omega) (by omega) c3 l.length 0 (by omega)
        exact Ev.step (fun k => by rw [selvedgelaw17_PairsPlain.j0]) (Ev.neg (by simp) hp)
      · have : ((now.length : Int) != (l.length : Int)) = true := by simp; omega
        simp only [this]
        exact long
    · exact Ev.neg c2 long
end Go.Proofs.YtaidfmioggelnaaDoor.Q
