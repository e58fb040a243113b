/- What a row becomes by its pairs, and that the document's Resolve says so. Plain Lean. No condition but the rows' lengths. -/
import Derived.Test.YtaidfmioggelnaaDoorP5
import Derived.Test.YtaidfmioggelnaaDoorA4
import Derived.Test.YtaidfmioggelnaaDoorQ4
namespace Go.Proofs.YtaidfmioggelnaaDoor.Q
set_option linter.unusedVariables false
set_option linter.unusedSimpArgs false
open Go.RowKit Go.Proofs.YtaidfmioggelnaaDoorW.PrintWords Go.Proofs.YtaidfmioggelnaaDoorW.PrintLast Go.Proofs.YtaidfmioggelnaaDoorW.PrintMore

/-- The marks behind a bracket. -/
def setL (first : List Int) (c : Int) : Nat → Nat → List Int → List Int
  | 0, _, out => out
  | f + 1, i, out => if rd out i = 10 ∨ rd first i = 9 then setL first c f (i + 1) (if rd out i = 10 then out else out.set i c) else out
def setF (first : List Int) (c : Int) (at_ : Nat) (out : List Int) : List Int := setL first c (out.length - (at_ + 1)) (at_ + 1) (out.set at_ c)
theorem setL_len (first : List Int) (c : Int) : ∀ f i out, (setL first c f i out).length = out.length
  | 0, _, _ => rfl
  | f + 1, i, out => by
    rw [setL]
    split
    · rw [setL_len first c f]; split <;> simp
    · rfl
theorem setF_len (first : List Int) (c : Int) (at_ : Nat) (out : List Int) : (setF first c at_ out).length = out.length := by
  unfold setF; rw [setL_len]; simp
/-- The side of the nearest one ahead of place n. -/
def aheadF (out : List Int) (sos : Int) : Nat → Int
  | 0 => if sos = 2 then 2 else 1
  | n + 1 => if sideF (rd out n) = 0 then aheadF out sos n else sideF (rd out n)
theorem aheadF_take (out : List Int) (sos : Int) (m : Nat) : ∀ n, n ≤ m → aheadF (out.take m) sos n = aheadF out sos n
  | 0, _ => rfl
  | n + 1, h => by
    have : rd (out.take m) n = rd out n := by
      unfold rd
      rw [Int.toNat_natCast, List.getD_eq_getElem?_getD, List.getD_eq_getElem?_getD, List.getElem?_take, if_pos (by omega)]
    rw [aheadF, aheadF, this, aheadF_take out sos m n (by omega)]
theorem sideF_cases (c : Int) : sideF c = 0 ∨ sideF c = 1 ∨ sideF c = 2 := by
  unfold sideF
  split
  · exact .inr (.inl rfl)
  · split
    · exact .inr (.inr rfl)
    · exact .inl rfl
theorem aheadF_cases (out : List Int) (sos : Int) : ∀ n, aheadF out sos n = 1 ∨ aheadF out sos n = 2
  | 0 => by
    rw [aheadF]
    split
    · exact .inr rfl
    · exact .inl rfl
  | n + 1 => by
    rw [aheadF]
    split
    · exact aheadF_cases out sos n
    · rename_i h
      rcases sideF_cases (rd out n) with e | e | e
      · exact absurd e h
      · exact .inl e
      · exact .inr e
/-- What is between the brackets says. -/
def findF (mine other : Int) : List Int → Int → Int
  | [], found => found
  | c :: r, found => if sideF c = mine then mine else if sideF c = other then findF mine other r other else findF mine other r found
def anyF (seg : List Int) (s : Int) : Bool := seg.any (fun c => sideF c == s)
theorem findF_eq (mine other : Int) (hmo : mine ≠ other) : ∀ (seg : List Int) (found : Int), found ≠ mine → findF mine other seg found = if anyF seg mine = true then mine else if anyF seg other = true then other else found
  | [], found, _ => rfl
  | c :: r, found, h => by
    rw [findF]
    have e1 : ∀ s, anyF (c :: r) s = (sideF c == s || anyF r s) := fun s => rfl
    rw [e1, e1]
    by_cases hm : sideF c = mine
    · rw [if_pos hm, if_pos (by simp [hm])]
    · rw [if_neg hm]
      have hm' : (sideF c == mine) = false := by simpa using hm
      rw [hm', Bool.false_or]
      by_cases ho : sideF c = other
      · rw [if_pos ho, findF_eq mine other hmo r other (Ne.symm hmo)]
        have ho' : (sideF c == other) = true := by simpa using ho
        rw [ho', Bool.true_or, if_pos (rfl : true = true)]
        split <;> simp
      · rw [if_neg ho, findF_eq mine other hmo r found h]
        have ho' : (sideF c == other) = false := by simpa using ho
        rw [ho', Bool.false_or]
def mineF (level : Int) : Int := if level % 2 = 1 then 2 else 1
def otherF (level : Int) : Int := if level % 2 = 1 then 1 else 2
theorem mine_other (level : Int) : mineF level ≠ otherF level ∧ mineF level ≠ 0 ∧ otherF level ≠ 0 ∧ (∀ x : Int, x = 1 ∨ x = 2 → x ≠ otherF level → x = mineF level) := by
  unfold mineF otherF
  split <;> refine ⟨by omega, by omega, by omega, fun x h h2 => by omega⟩
/-- What a pair's brackets become; 0: nothing. -/
def becF (mine other sos : Int) (out : List Int) (p : S31) : Int :=
  let r := findF mine other ((out.take p.f1.toNat).drop (p.f0.toNat + 1)) 0
  if r = mine then mine else if r = 0 then 0 else aheadF out sos p.f0.toNat
def stepF (first : List Int) (mine other sos : Int) (out : List Int) (p : S31) : List Int :=
  let b := becF mine other sos out p
  if b = 0 then out else setF first b p.f1.toNat (setF first b p.f0.toNat out)
theorem stepF_len (first : List Int) (mine other sos : Int) (out : List Int) (p : S31) : (stepF first mine other sos out p).length = out.length := by
  unfold stepF
  simp only
  split
  · rfl
  · rw [setF_len, setF_len]
def foldF (first : List Int) (mine other sos : Int) : List S31 → List Int → List Int
  | [], out => out
  | p :: r, out => foldF first mine other sos r (stepF first mine other sos out p)
theorem foldF_len (first : List Int) (mine other sos : Int) : ∀ (ps : List S31) (out : List Int), (foldF first mine other sos ps out).length = out.length
  | [], _ => rfl
  | p :: r, out => by rw [foldF, foldF_len, stepF_len]
def resF (l first now : List Int) (level sos : Int) : List Int × Int :=
  if l.length > 65536 then ([], 3) else if first.length ≠ l.length ∨ now.length ≠ l.length then ([], 2)
  else (foldF first (mineF level) (otherF level) sos (refP l now) now, 0)

/-! ### the document's -/
theorem rside_ev (c : Int) : selvedgeref17_Side.f c = some (sideF c) := by
  unfold selvedgeref17_Side.f sideF
  by_cases h1 : c = 1
  · rw [if_pos h1, if_pos h1]
  · rw [if_neg h1, if_neg h1]
    by_cases h2 : c = 2
    · rw [if_pos h2, if_pos (.inl h2)]
    · rw [if_neg h2]
      by_cases h4 : c = 4
      · rw [if_pos h4, if_pos (.inr (.inl h4))]
      · rw [if_neg h4]
        by_cases h7 : c = 7
        · rw [if_pos h7, if_pos (.inr (.inr h7))]
        · rw [if_neg h7, if_neg (by omega)]
theorem ramong_ev (seg : List Int) (s : Int) (hl : seg.length ≤ 1048576) : ∀ f i : Nat, i + f = seg.length → Ev (fun k => selvedgeref17_among.l0 k seg s i) (anyF (seg.drop i) s)
  | 0, i, h => by
    rw [List.drop_eq_nil_of_le (by omega)]
    show Ev _ false
    exact Ev.step (fun k => by rw [selvedgeref17_among.l0]) (Ev.neg (by omega) (Ev.now _))
  | f + 1, i, h => by
    have hlt : i < seg.length := by omega
    rw [List.drop_eq_getElem_cons hlt]
    have hrd : rd seg i = seg[i] := by unfold rd; simp [List.getD_eq_getElem?_getD, hlt]
    refine Ev.step (fun k => by rw [selvedgeref17_among.l0]) (Ev.pos (by omega) (Ev.pos (by omega) ?_))
    rw [rside_ev, hrd]
    simp only [Option.bind_some]
    show Ev _ (sideF seg[i] == s || anyF (seg.drop (i + 1)) s)
    by_cases hs : sideF seg[i] = s
    · have : (sideF seg[i] == s) = true := by simpa using hs
      rw [this]
      exact Ev.pos hs (Ev.now _)
    · have : (sideF seg[i] == s) = false := by simpa using hs
      rw [this, Bool.false_or]
      refine Ev.neg hs ?_
      rw [wrap64_nat i (by omega)]
      exact ramong_ev seg s hl f (i + 1) (by omega)
theorem rahead_ev (out : List Int) (sos : Int) (hl : out.length ≤ 1048576) : ∀ n : Nat, n ≤ out.length → Ev (fun k => selvedgeref17_ahead.l0 k out sos ((n : Int) - 1)) (aheadF out sos n)
  | 0, h => by
    refine Ev.step (fun k => by rw [selvedgeref17_ahead.l0]) (Ev.neg (by omega) ?_)
    rw [aheadF]
    by_cases c : sos = 2
    · simp only [if_pos c]; exact Ev.now _
    · simp only [if_neg c]; exact Ev.now _
  | n + 1, h => by
    rw [show ((n + 1 : Nat) : Int) - 1 = (n : Int) by omega, aheadF]
    refine Ev.step (fun k => by rw [selvedgeref17_ahead.l0]) (Ev.pos (by omega) (Ev.pos (by omega) (Ev.pos (by omega) ?_)))
    rw [rside_ev]
    simp only [Option.bind_some]
    by_cases c : sideF (rd out n) = 0
    · rw [if_pos c]
      refine Ev.pos c ?_
      rw [show wrap64 ((n : Int) - 1) = (n : Int) - 1 by unfold wrap64; omega]
      exact rahead_ev out sos hl n (by omega)
    · rw [if_neg c]
      exact Ev.neg c (Ev.now _)
theorem rset_ev (first : List Int) (c : Int) : ∀ (f i : Nat) (out : List Int), i + f = out.length → out.length = first.length → out.length ≤ 1048576 → Ev (fun k => selvedgeref17_set.l0 k out first c i) (setL first c f i out)
  | 0, i, out, h, hf, hl => by
    rw [setL]
    exact Ev.step (fun k => by rw [selvedgeref17_set.l0]) (Ev.neg (by omega) (Ev.step (fun k => by rw [selvedgeref17_set.j1]) (Ev.neg (by simp) (Ev.now _))))
  | f + 1, i, out, h, hf, hl => by
    rw [setL]
    refine Ev.step (fun k => by rw [selvedgeref17_set.l0]) (Ev.pos (by omega) (Ev.pos (by omega) ?_))
    by_cases c10 : rd out i = 10
    · rw [if_pos (.inl c10), if_pos c10]
      refine Ev.pos c10 (Ev.step (fun k => by rw [selvedgeref17_set.j1]) (Ev.pos rfl (Ev.pos (by omega) (Ev.pos (by omega) (Ev.pos c10 ?_)))))
      rw [wrap64_nat i (by omega)]
      exact rset_ev first c f (i + 1) out (by omega) hf hl
    · refine Ev.neg c10 (Ev.pos (by omega) ?_)
      by_cases c9 : rd first i = 9
      · rw [if_pos (.inr c9), if_neg c10]
        have : (rd first i == 9) = true := by simpa using c9
        simp only [this]
        refine Ev.step (fun k => by rw [selvedgeref17_set.j1]) (Ev.pos rfl (Ev.pos (by omega) (Ev.pos (by omega) (Ev.neg c10 ?_))))
        rw [wrap64_nat i (by omega), Int.toNat_natCast]
        exact rset_ev first c f (i + 1) _ (by rw [List.length_set]; omega) (by rw [List.length_set]; exact hf) (by rw [List.length_set]; exact hl)
      · rw [if_neg (by omega)]
        have : (rd first i == 9) = false := by simpa using c9
        simp only [this]
        exact Ev.step (fun k => by rw [selvedgeref17_set.j1]) (Ev.neg (by simp) (Ev.now _))
theorem rsetf_ev (first out : List Int) (c : Int) (p : Int) (h0 : 0 ≤ p) (hp : p < out.length) (hf : out.length = first.length) (hl : out.length ≤ 1048576) : Ev (fun k => selvedgeref17_set.f k out first p c) (setF first c p.toNat out) := by
  unfold selvedgeref17_set.f setF
  refine Ev.pos h0 (Ev.pos hp ?_)
  have := rset_ev first c (out.length - (p.toNat + 1)) (p.toNat + 1) (out.set p.toNat c) (by rw [List.length_set]; omega) (by rw [List.length_set]; exact hf) (by rw [List.length_set]; exact hl)
  rw [show wrap64 (p + 1) = ((p.toNat + 1 : Nat) : Int) by unfold wrap64; omega]
  exact this
theorem rres_loop (first : List Int) (level sos : Int) (ps : List S31) (n : Nat) (hn : first.length = n) (hl : n ≤ 65536) (hps : ∀ z ∈ ps, 0 ≤ z.f0 ∧ z.f0 < z.f1 ∧ z.f1 < n) (hpl : ps.length ≤ 65536) : ∀ (f i : Nat) (out : List Int), i + f = ps.length → out.length = n →
    Ev (fun k => selvedgeref17_Resolve.l0 k first sos out (mineF level) (otherF level) ps i) (foldF first (mineF level) (otherF level) sos (ps.drop i) out, (0 : Int))
  | 0, i, out, h, ho => by
    rw [List.drop_eq_nil_of_le (by omega), foldF]
    exact Ev.step (fun k => by rw [selvedgeref17_Resolve.l0]) (Ev.neg (by omega) (Ev.now _))
  | f + 1, i, out, h, ho => by
    have hlt : i < ps.length := by omega
    have hpz := hps ps[i] (List.getElem_mem _)
    have hrd : rd_T31 ps i = ps[i] := by unfold rd_T31; simp [List.getD_eq_getElem?_getD, hlt]
    rw [List.drop_eq_getElem_cons hlt, foldF]
    obtain ⟨hmo, hm0, ho0, hmx⟩ := mine_other level
    generalize hmm : mineF level = mine at *
    generalize hoo : otherF level = other at *
    have IH := rres_loop first level sos ps n hn hl hps hpl f (i + 1)
    rw [hmm, hoo] at IH
    refine Ev.step (fun k => by rw [selvedgeref17_Resolve.l0]) (Ev.pos (by omega) (Ev.pos (by omega) ?_))
    rw [hrd]
    generalize ps[i] = p at *
    have hw : wrap64 (p.f0 + 1) = p.f0 + 1 := by unfold wrap64; omega
    have hwt : (p.f0 + 1).toNat = p.f0.toNat + 1 := by omega
    rw [hw, wrap64_nat i (by omega), hwt]
    refine Ev.pos (by omega) (Ev.pos (by omega) (Ev.pos (by omega) ?_))
    simp only [Option.bind_some]
    have hseg : ((out.take p.f1.toNat).drop (p.f0.toNat + 1)).length ≤ 1048576 := by rw [List.length_drop, List.length_take]; omega
    have put : ∀ c : Int, c ≠ 0 → becF mine other sos out p = c → Ev (fun k => (selvedgeref17_set.f k out first p.f0 c).bind fun t179 => (selvedgeref17_set.f k t179 first p.f1 c).bind fun t180 => selvedgeref17_Resolve.l0 k first sos t180 mine other ps ((i + 1 : Nat) : Int)) (foldF first mine other sos (ps.drop (i + 1)) (stepF first mine other sos out p), (0 : Int)) := by
      intro c hc hb
      unfold stepF
      simp only
      rw [hb, if_neg hc]
      refine Ev.bind (rsetf_ev first out c p.f0 hpz.1 (by omega) (by omega) (by omega)) ?_
      refine Ev.bind (rsetf_ev first _ c p.f1 (by omega) (by rw [setF_len]; omega) (by rw [setF_len]; omega) (by rw [setF_len]; omega)) ?_
      exact IH _ (by omega) (by rw [setF_len, setF_len]; exact ho)
    have hfe := findF_eq mine other hmo ((out.take p.f1.toNat).drop (p.f0.toNat + 1)) 0 (Ne.symm hm0)
    have hbe : becF mine other sos out p = if findF mine other ((out.take p.f1.toNat).drop (p.f0.toNat + 1)) 0 = mine then mine else if findF mine other ((out.take p.f1.toNat).drop (p.f0.toNat + 1)) 0 = 0 then 0 else aheadF out sos p.f0.toNat := rfl
    rw [hfe] at hbe
    have hA := ramong_ev ((out.take p.f1.toNat).drop (p.f0.toNat + 1)) mine hseg _ 0 (Nat.zero_add _)
    have hB := ramong_ev ((out.take p.f1.toNat).drop (p.f0.toNat + 1)) other hseg _ 0 (Nat.zero_add _)
    generalize (out.take p.f1.toNat).drop (p.f0.toNat + 1) = seg at *
    rw [List.drop_zero] at hA hB
    refine Ev.bind hA ?_
    by_cases ha : anyF seg mine = true
    · rw [if_pos ha] at hbe
      refine Ev.pos ha ?_
      exact put mine hm0 (by rw [hbe, if_pos rfl])
    · rw [if_neg ha] at hbe
      refine Ev.neg ha (Ev.bind hB ?_)
      by_cases hb : anyF seg other = true
      · rw [if_pos hb, if_neg (Ne.symm hmo), if_neg ho0] at hbe
        refine Ev.pos hb (Ev.pos hpz.1 (Ev.pos (by omega) ?_))
        have hah : Ev (fun k => selvedgeref17_ahead.f k (out.take p.f0.toNat) sos) (aheadF out sos p.f0.toNat) := by
          unfold selvedgeref17_ahead.f
          have hlen : (out.take p.f0.toNat).length = p.f0.toNat := by rw [List.length_take]; omega
          rw [hlen, show wrap64 ((p.f0.toNat : Int) - 1) = (p.f0.toNat : Int) - 1 by unfold wrap64; omega]
          have := rahead_ev (out.take p.f0.toNat) sos (by omega) p.f0.toNat (by omega)
          rw [aheadF_take _ _ _ _ (Nat.le_refl _)] at this
          exact this
        refine Ev.bind hah ?_
        by_cases he : aheadF out sos p.f0.toNat = other
        · exact Ev.pos he (put other ho0 (by rw [hbe, he]))
        · exact Ev.neg he (put mine hm0 (by rw [hbe]; exact hmx _ (aheadF_cases _ _ _) he))
      · rw [if_neg hb, if_neg (Ne.symm hm0), if_pos rfl] at hbe
        refine Ev.neg hb ?_
        have : stepF first mine other sos out p = out := by unfold stepF; simp only; rw [hbe, if_pos rfl]
        rw [this]
        exact IH out (by omega) ho
theorem rres_ev (l first now : List Int) (level sos : Int) (h0 : 0 ≤ level) : Ev (fun k => selvedgeref17_Resolve.f k l first now level sos) (resF l first now level sos) := by
  unfold selvedgeref17_Resolve.f resF
  by_cases h1 : l.length > 65536
  · rw [if_pos h1]; exact Ev.pos (by omega) (Ev.now _)
  · rw [if_neg h1]
    refine Ev.neg (by omega) ?_
    by_cases h2 : first.length = l.length
    · refine Ev.pos (by omega) ?_
      by_cases h3 : now.length = l.length
      · rw [if_neg (by omega)]
        have : ((now.length : Int) != (l.length : Int)) = false := by simp; omega
        rw [this]
        refine Ev.step (fun k => by rw [selvedgeref17_Resolve.j0]) (Ev.neg (by simp) (Ev.pos (by simp; omega) ?_))
        simp only [Option.bind_some, List.nil_append]
        have main : ∀ m o : Int, m = mineF level → o = otherF level → Ev (fun k => selvedgeref17_Resolve.j1 k l first now sos now m o) (foldF first (mineF level) (otherF level) sos (refP l now) now, (0 : Int)) := by
          rintro _ _ rfl rfl
          refine Ev.step (fun k => by rw [selvedgeref17_Resolve.j1]) (Ev.bind (rpairs_ev l now (by omega)) ?_)
          have := rres_loop first level sos (refP l now) l.length h2 (by omega) (fun z hz => by have := refP_ok l now z hz; omega) (by have := refP_len l now; omega) (refP l now).length 0 now (by omega) h3
          exact this
        have htm : Int.tmod level 2 = level % 2 := Int.tmod_eq_emod_of_nonneg h0
        rw [htm]
        by_cases hL : level % 2 = 1
        · exact Ev.pos hL (main 2 1 (by unfold mineF; rw [if_pos hL]) (by unfold otherF; rw [if_pos hL]))
        · exact Ev.neg hL (main 1 2 (by unfold mineF; rw [if_neg hL]) (by unfold otherF; rw [if_neg hL]))
      · rw [if_pos (.inr h3)]
        have : ((now.length : Int) != (l.length : Int)) = true := by simp; omega
        rw [this]
        exact Ev.step (fun k => by rw [selvedgeref17_Resolve.j0]) (Ev.pos rfl (Ev.now _))
    · rw [if_pos (.inl h2)]
      exact Ev.neg (by omega) (Ev.step (fun k => by rw [selvedgeref17_Resolve.j0]) (Ev.pos rfl (Ev.now _)))
end Go.Proofs.YtaidfmioggelnaaDoor.Q
