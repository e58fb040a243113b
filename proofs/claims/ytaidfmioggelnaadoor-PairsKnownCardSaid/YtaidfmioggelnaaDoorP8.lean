/- What PairsNest asks of a row, its pairs and what it becomes. Plain Lean. No condition but the rows' lengths. -/
import Derived.Test.YtaidfmioggelnaaDoorP6
namespace Go.Proofs.YtaidfmioggelnaaDoor.Q
set_option linter.unusedVariables false
set_option linter.unusedSimpArgs false
open Go.RowKit Go.Proofs.YtaidfmioggelnaaDoorW.PrintWords

theorem rd_setn (xs : List Int) (i j : Nat) (v : Int) (h : i ≠ j) : rd (xs.set i v) j = rd xs j := by
  unfold rd
  rw [Int.toNat_natCast, List.getD_eq_getElem?_getD, List.getD_eq_getElem?_getD, List.getElem?_set_ne h]
theorem rd_sets (xs : List Int) (i : Nat) (v : Int) (h : i < xs.length) : rd (xs.set i v) i = v := by
  unfold rd
  rw [Int.toNat_natCast, List.getD_eq_getElem?_getD, List.getElem?_set_self h]; rfl
/-- The marks behind change marks alone, and to c. -/
theorem setL_rd (first : List Int) (c : Int) : ∀ (f i : Nat) (out : List Int) (j : Nat), i + f ≤ out.length → (j < i → rd (setL first c f i out) j = rd out j) ∧ (rd (setL first c f i out) j = rd out j ∨ (rd first j = 9 ∧ rd (setL first c f i out) j = c))
  | 0, i, out, j, _ => ⟨fun _ => rfl, .inl rfl⟩
  | f + 1, i, out, j, h => by
    rw [setL]
    by_cases hc : rd out i = 10 ∨ rd first i = 9
    · rw [if_pos hc]
      by_cases h10 : rd out i = 10
      · rw [if_pos h10]
        have := setL_rd first c f (i + 1) out j (by omega)
        exact ⟨fun hj => this.1 (by omega), this.2⟩
      · rw [if_neg h10]
        have h9 : rd first i = 9 := hc.resolve_left h10
        have := setL_rd first c f (i + 1) (out.set i c) j (by rw [List.length_set]; omega)
        refine ⟨fun hj => (this.1 (by omega)).trans (rd_setn _ _ _ _ (by omega)), ?_⟩
        by_cases hij : i = j
        · subst hij
          rw [this.1 (by omega), rd_sets _ _ _ (by omega)]
          exact .inr ⟨h9, rfl⟩
        · rcases this.2 with e | e
          · exact .inl (e.trans (rd_setn _ _ _ _ hij))
          · exact .inr e
    · rw [if_neg hc]
      exact ⟨fun _ => rfl, .inl rfl⟩
theorem setF_at (first : List Int) (c : Int) (p : Nat) (out : List Int) (h : p < out.length) : rd (setF first c p out) p = c := by
  unfold setF
  rw [(setL_rd first c _ _ _ p (by rw [List.length_set]; omega)).1 (by omega), rd_sets _ _ _ h]
theorem setF_ne (first : List Int) (c : Int) (p : Nat) (out : List Int) (h : p < out.length) (j : Nat) (hj : j ≠ p) : rd (setF first c p out) j = rd out j ∨ (rd first j = 9 ∧ rd (setF first c p out) j = c) := by
  unfold setF
  rcases (setL_rd first c (out.length - (p + 1)) (p + 1) (out.set p c) j (by rw [List.length_set]; omega)).2 with e | e
  · exact .inl (e.trans (rd_setn _ _ _ _ (Ne.symm hj)))
  · exact .inr e
theorem mineF_cases (level : Int) : (mineF level = 1 ∨ mineF level = 2) ∧ (otherF level = 1 ∨ otherF level = 2) := by
  unfold mineF otherF
  split <;> simp
theorem becF_cases (mine other sos : Int) (hm : mine = 1 ∨ mine = 2) (out : List Int) (p : S31) : becF mine other sos out p = 0 ∨ becF mine other sos out p = 1 ∨ becF mine other sos out p = 2 := by
  unfold becF
  simp only
  split
  · exact .inr hm
  · split
    · exact .inl rfl
    · exact .inr (aheadF_cases _ _ _)
/-- One pair's step: its brackets are alike then; else only marks change. -/
theorem stepF_rd (first : List Int) (mine other sos : Int) (hm : mine = 1 ∨ mine = 2) (out : List Int) (p : S31) (n : Nat) (hn : out.length = n) (h0 : 0 ≤ p.f0) (h1 : p.f0 < p.f1) (h2 : p.f1 < n) :
    (stepF first mine other sos out p = out) ∨ ∃ b : Int, (b = 1 ∨ b = 2) ∧ rd (stepF first mine other sos out p) p.f0.toNat = b ∧ rd (stepF first mine other sos out p) p.f1.toNat = b ∧ ∀ j : Nat, j ≠ p.f0.toNat → j ≠ p.f1.toNat → rd (stepF first mine other sos out p) j = rd out j ∨ (rd first j = 9 ∧ rd (stepF first mine other sos out p) j = b) := by
  have hb := becF_cases mine other sos hm out p
  have he : stepF first mine other sos out p = if becF mine other sos out p = 0 then out else setF first (becF mine other sos out p) p.f1.toNat (setF first (becF mine other sos out p) p.f0.toNat out) := rfl
  generalize becF mine other sos out p = b at hb he
  by_cases hb0 : b = 0
  · rw [if_pos hb0] at he
    exact .inl he
  · rw [if_neg hb0] at he
    rw [he]
    have hl0 : p.f0.toNat < out.length := by omega
    have hl1 : p.f1.toNat < (setF first b p.f0.toNat out).length := by rw [setF_len]; omega
    have a0 := setF_at first b p.f0.toNat out hl0
    refine .inr ⟨b, hb.resolve_left hb0, ?_, setF_at first b p.f1.toNat _ hl1, fun j hj0 hj1 => ?_⟩
    · rcases setF_ne first b p.f1.toNat _ hl1 p.f0.toNat (by omega) with e | e
      · exact e.trans a0
      · exact e.2
    · rcases setF_ne first b p.f1.toNat _ hl1 j hj1 with e | e
      · rcases setF_ne first b p.f0.toNat out hl0 j hj0 with e' | e'
        · exact .inl (e.trans e')
        · exact .inr ⟨e'.1, e.trans e'.2⟩
      · exact .inr e
/-- What stays so, pair after pair. -/
structure FInv (first now : List Int) (ps : List S31) (n : Nat) (out : List Int) : Prop where
  len : out.length = n
  alike : ∀ p ∈ ps, rd out p.f0 = rd out p.f1 ∨ rd first p.f0 = 9 ∨ rd first p.f1 = 9
  kept : ∀ j : Nat, rd out j = rd now j ∨ (((∃ p ∈ ps, (j : Int) = p.f0 ∨ (j : Int) = p.f1) ∨ rd first j = 9) ∧ (rd out j = 1 ∨ rd out j = 2))
theorem FInv.step {first now : List Int} {ps : List S31} {n : Nat} {out : List Int} (h : FInv first now ps n out) (mine other sos : Int) (hm : mine = 1 ∨ mine = 2)
    (hps : ∀ p ∈ ps, 0 ≤ p.f0 ∧ p.f0 < p.f1 ∧ p.f1 < n) (hd : ∀ p ∈ ps, ∀ q ∈ ps, p ≠ q → p.f0 ≠ q.f0 ∧ p.f0 ≠ q.f1 ∧ p.f1 ≠ q.f0 ∧ p.f1 ≠ q.f1) (q : S31) (hq : q ∈ ps) : FInv first now ps n (stepF first mine other sos out q) := by
  have hqb := hps q hq
  rcases stepF_rd first mine other sos hm out q n h.len hqb.1 hqb.2.1 hqb.2.2 with e | ⟨b, hb, e0, e1, eo⟩
  · rw [e]; exact h
  · refine ⟨by rw [stepF_len]; exact h.len, fun p hp => ?_, fun j => ?_⟩
    · have hpb := hps p hp
      have c0 : (p.f0.toNat : Int) = p.f0 := Int.toNat_of_nonneg hpb.1
      have c1 : (p.f1.toNat : Int) = p.f1 := Int.toNat_of_nonneg (by omega)
      by_cases hpq : p = q
      · subst hpq
        rw [c0] at e0
        rw [c1] at e1
        exact .inl (e0.trans e1.symm)
      · obtain ⟨d1, d2, d3, d4⟩ := hd p hp q hq hpq
        have r0 := eo p.f0.toNat (by omega) (by omega)
        have r1 := eo p.f1.toNat (by omega) (by omega)
        rw [c0] at r0
        rw [c1] at r1
        rcases r0 with r0 | r0
        · rcases r1 with r1 | r1
          · rw [r0, r1]; exact h.alike p hp
          · exact .inr (.inr r1.1)
        · exact .inr (.inl r0.1)
    · by_cases hj0 : j = q.f0.toNat
      · refine .inr ⟨.inl ⟨q, hq, .inl (by omega)⟩, ?_⟩
        rw [hj0, e0]; exact hb
      · by_cases hj1 : j = q.f1.toNat
        · refine .inr ⟨.inl ⟨q, hq, .inr (by omega)⟩, ?_⟩
          rw [hj1, e1]; exact hb
        · rcases eo j hj0 hj1 with e | e
          · rw [e]; exact h.kept j
          · refine .inr ⟨.inr e.1, ?_⟩
            rw [e.2]; exact hb
theorem FInv.fold {first now : List Int} {ps : List S31} {n : Nat} (mine other sos : Int) (hm : mine = 1 ∨ mine = 2)
    (hps : ∀ p ∈ ps, 0 ≤ p.f0 ∧ p.f0 < p.f1 ∧ p.f1 < n) (hd : ∀ p ∈ ps, ∀ q ∈ ps, p ≠ q → p.f0 ≠ q.f0 ∧ p.f0 ≠ q.f1 ∧ p.f1 ≠ q.f0 ∧ p.f1 ≠ q.f1) : ∀ (qs : List S31) (out : List Int), (∀ q ∈ qs, q ∈ ps) → FInv first now ps n out → FInv first now ps n (foldF first mine other sos qs out)
  | [], out, _, h => h
  | q :: r, out, hq, h => by
    rw [foldF]
    exact FInv.fold mine other sos hm hps hd r _ (fun z hz => hq z (List.mem_cons_of_mem _ hz)) (h.step mine other sos hm hps hd q (hq q (by simp)))
/-- No two pairs share a place. -/
theorem refP_apart (l now : List Int) : ∀ p ∈ refP l now, ∀ q ∈ refP l now, p ≠ q → p.f0 ≠ q.f0 ∧ p.f0 ≠ q.f1 ∧ p.f1 ≠ q.f0 ∧ p.f1 ≠ q.f1 := by
  intro p hp q hq hne
  have h1 := refP_ok l now p hp
  have h2 := refP_ok l now q hq
  obtain ⟨_, _, _, _, _, _, c, b0, b1⟩ := h1
  obtain ⟨_, _, _, _, _, _, d, d0, d1⟩ := h2
  refine ⟨fun e => ?_, fun e => ?_, fun e => ?_, fun e => hne (refP_closes l now p hp q hq e)⟩
  · rcases pairwise_or (refP_asc l now) hp hq with h | h | h
    · exact hne h
    · omega
    · omega
  · rw [e, d1] at b0
    simp at b0
  · rw [e, d0] at b1
    simp at b1
/-- The marks of brackets. -/
def brkF (n : Nat) (qs : List S31) : List Bool := qs.foldl (fun b p => (b.set p.f0.toNat true).set p.f1.toNat true) (List.replicate n false)
theorem brkF_snoc (n : Nat) (qs : List S31) (p : S31) : brkF n (qs ++ [p]) = ((brkF n qs).set p.f0.toNat true).set p.f1.toNat true := by
  unfold brkF; rw [List.foldl_append]; rfl
theorem brk_fold_len (qs : List S31) : ∀ b : List Bool, (qs.foldl (fun b p => (b.set p.f0.toNat true).set p.f1.toNat true) b).length = b.length := by
  induction qs with
  | nil => intro b; rfl
  | cons q r ih => intro b; rw [List.foldl_cons, ih]; simp
theorem brkF_len (n : Nat) (qs : List S31) : (brkF n qs).length = n := by
  unfold brkF; rw [brk_fold_len]; simp
theorem brk_fold_rd (qs : List S31) : ∀ (b : List Bool) (j : Nat), j < b.length → ((qs.foldl (fun b p => (b.set p.f0.toNat true).set p.f1.toNat true) b)[j]? = some true ↔ b[j]? = some true ∨ ∃ p ∈ qs, j = p.f0.toNat ∨ j = p.f1.toNat) := by
  induction qs with
  | nil => intro b j hj; simp
  | cons q r ih =>
    intro b j hj
    rw [List.foldl_cons, ih _ j (by simpa using hj)]
    have : ((b.set q.f0.toNat true).set q.f1.toNat true)[j]? = some true ↔ (j = q.f0.toNat ∨ j = q.f1.toNat) ∨ b[j]? = some true := by
      by_cases e1 : q.f1.toNat = j
      · subst e1
        rw [List.getElem?_set_self (by simpa using hj)]
        simp
      · rw [List.getElem?_set_ne e1]
        by_cases e0 : q.f0.toNat = j
        · subst e0
          rw [List.getElem?_set_self hj]
          simp
        · rw [List.getElem?_set_ne e0]
          constructor
          · exact .inr
          · rintro ((h | h) | h)
            · exact absurd h.symm e0
            · exact absurd h.symm e1
            · exact h
    rw [this]
    constructor
    · rintro ((h | h) | ⟨p, hp, h⟩)
      · exact .inr ⟨q, by simp, h⟩
      · exact .inl h
      · exact .inr ⟨p, List.mem_cons_of_mem _ hp, h⟩
    · rintro (h | ⟨p, hp, h⟩)
      · exact .inl (.inr h)
      · rcases List.mem_cons.1 hp with rfl | hp
        · exact .inl (.inl h)
        · exact .inr ⟨p, hp, h⟩
theorem brkF_rd (n : Nat) (qs : List S31) (j : Nat) (hj : j < n) : rdOf false (brkF n qs) (j : Int) = true ↔ ∃ p ∈ qs, j = p.f0.toNat ∨ j = p.f1.toNat := by
  have h := brk_fold_rd qs (List.replicate n false) j (by simpa using hj)
  have hl : j < (brkF n qs).length := by rw [brkF_len]; exact hj
  unfold rdOf
  rw [Int.toNat_natCast, List.getD_eq_getElem?_getD, List.getElem?_eq_getElem hl, Option.getD_some]
  have h' : (brkF n qs)[j]? = some true ↔ _ := h
  rw [List.getElem?_eq_getElem hl, List.getElem?_replicate, if_pos hj] at h'
  simpa using h'
/-- All that PairsNest asks. -/
theorem nest_all (l first now : List Int) (level sos : Int) (hl : l.length ≤ 65536) (hf : first.length = l.length) (hn : now.length = l.length) :
    ∃ out, resF l first now level sos = (out, 0) ∧ out.length = l.length ∧ FInv first now (refP l now) l.length out := by
  refine ⟨foldF first (mineF level) (otherF level) sos (refP l now) now, ?_, by rw [foldF_len]; exact hn, ?_⟩
  · unfold resF
    rw [if_neg (by omega), if_neg (by omega)]
  · refine FInv.fold _ _ _ (mineF_cases level).1 (fun p hp => ?_) (refP_apart l now) (refP l now) now (fun _ h => h) ⟨hn, fun p hp => ?_, fun j => .inl rfl⟩
    · have := refP_ok l now p hp; exact ⟨this.1, this.2.1, this.2.2.1⟩
    · have := refP_ok l now p hp; exact .inl (this.2.2.2.2.1.trans this.2.2.2.2.2.1.symm)
/-- .. of pair i, its marks not yet set. -/
theorem nest_at (l now : List Int) (i : Nat) (hi : i < (refP l now).length) : ∀ p, (refP l now)[i] = p →
    rdOf false (brkF l.length ((refP l now).take i)) p.f0 = false ∧ rdOf false (brkF l.length ((refP l now).take i)) p.f1 = false ∧ ∀ (k : Nat) (hk : k < i), ((refP l now)[k]).f0 < p.f0 ∧ ¬ (((refP l now)[k]).f1 > p.f0 ∧ ((refP l now)[k]).f1 < p.f1) := by
  rintro p rfl
  have hp := List.getElem_mem hi
  have hok := refP_ok l now _ hp
  have hasc := List.pairwise_iff_getElem.1 (refP_asc l now)
  have key : ∀ j : Nat, j < l.length → ((j : Int) = ((refP l now)[i]).f0 ∨ (j : Int) = ((refP l now)[i]).f1) → rdOf false (brkF l.length ((refP l now).take i)) (j : Int) = false := by
    intro j hj he
    cases hb : rdOf false (brkF l.length ((refP l now).take i)) (j : Int) with
    | false => rfl
    | true =>
      obtain ⟨q, hq, hjq⟩ := (brkF_rd _ _ j hj).1 hb
      obtain ⟨k, hk, rfl⟩ := List.mem_iff_getElem.1 hq
      rw [List.length_take] at hk
      rw [List.getElem_take] at hjq
      have hkq := List.getElem_mem (show k < (refP l now).length by omega)
      have hok2 := refP_ok l now _ hkq
      have hlt := hasc k i (by omega) hi (by omega)
      have hne : (refP l now)[i] ≠ (refP l now)[k] := fun e => by rw [e] at hlt; omega
      obtain ⟨d1, d2, d3, d4⟩ := refP_apart l now _ hp _ hkq hne
      omega
  have b0 := key ((refP l now)[i]).f0.toNat (by omega) (.inl (by omega))
  have b1 := key ((refP l now)[i]).f1.toNat (by omega) (.inr (by omega))
  rw [Int.toNat_of_nonneg hok.1] at b0
  rw [Int.toNat_of_nonneg (by omega)] at b1
  refine ⟨b0, b1, fun k hk => ?_⟩
  have hlt := hasc k i (by omega) hi hk
  refine ⟨hlt, fun ⟨h1, h2⟩ => refP_nest l now _ (List.getElem_mem (show k < (refP l now).length by omega)) _ hp ⟨hlt, h1, h2⟩⟩
theorem nest_at' (l now : List Int) : ∀ ps, refP l now = ps → ∀ (i : Nat) (hi : i < ps.length), rdOf false (brkF l.length (ps.take i)) (ps[i]).f0 = false ∧ rdOf false (brkF l.length (ps.take i)) (ps[i]).f1 = false ∧ ∀ (k : Nat) (hk : k < i), (ps[k]).f0 < (ps[i]).f0 ∧ ¬ ((ps[k]).f1 > (ps[i]).f0 ∧ (ps[k]).f1 < (ps[i]).f1) := by
  rintro _ rfl i hi
  exact nest_at l now i hi _ rfl
end Go.Proofs.YtaidfmioggelnaaDoor.Q
