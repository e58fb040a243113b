/- The document's Bracket and Pairs, as plain Lean tells them. Condition: a row of at most 2^20 characters. -/
import Derived.Test.YtaidfmioggelnaaDoorA1
import Derived.Test.YtaidfmioggelnaaDoorQ2
namespace Go.Proofs.YtaidfmioggelnaaDoor.Q
set_option linter.unusedVariables false
set_option linter.unusedSimpArgs false
open Go.RowKit Go.Proofs.YtaidfmioggelnaaDoorW.PrintWords Go.Proofs.YtaidfmioggelnaaDoorW.PrintLast Go.Proofs.YtaidfmioggelnaaDoorW.PrintMore

theorem Ev.pos {α : Type} {c : Prop} [Decidable c] {g f : Nat → Option α} {r : α} (h : c) (k : Ev g r) : Ev (fun n => if c then g n else f n) r := k.imp fun K hK n hn => by show (if c then g n else f n) = some r; rw [if_pos h]; exact hK n hn
theorem Ev.neg {α : Type} {c : Prop} [Decidable c] {g f : Nat → Option α} {r : α} (h : ¬ c) (k : Ev f r) : Ev (fun n => if c then g n else f n) r := k.imp fun K hK n hn => by show (if c then g n else f n) = some r; rw [if_neg h]; exact hK n hn
theorem wrap64_nat (n : Nat) (h : n ≤ 4611686018427387904) : wrap64 ((n : Int) + 1) = ((n + 1 : Nat) : Int) := by unfold wrap64; omega
theorem wrap64_pred (n : Nat) (h : n ≤ 4611686018427387904) : wrap64 (((n + 1 : Nat) : Int) - 1) = (n : Int) := by unfold wrap64; omega
/-! ### Bracket -/
def bkS : List S64 := bkT.map fun x => ⟨x.1, x.2⟩
theorem bkS_eq : selvedgeref01_Brackets.f = some bkS := rfl
theorem bkS_len : bkS.length = 23 := rfl
theorem rbr_loop (r : Int) (l : List (Int × Int)) (hl : l.length ≤ 1000) : ∀ (f i : Nat), i + f = l.length →
    Ev (fun k => selvedgeref01_Bracket.l0 k r (l.map fun x => (⟨x.1, x.2⟩ : S64)) i) (bkL r (l.drop i)) := by
  intro f
  induction f with
  | zero =>
    intro i hi
    have hlen : (l.map fun x => (⟨x.1, x.2⟩ : S64)).length = l.length := by simp
    rw [List.drop_eq_nil_of_le (by omega), bkL]
    exact Ev.step (fun k => by rw [selvedgeref01_Bracket.l0]) (Ev.neg (by omega) (Ev.now _))
  | succ f ih =>
    intro i hi
    have hlt : i < l.length := by omega
    have hg : l.drop i = l[i] :: l.drop (i + 1) := List.drop_eq_getElem_cons hlt
    have hrd : rd_T64 (l.map fun x => (⟨x.1, x.2⟩ : S64)) i = ⟨l[i].1, l[i].2⟩ := by unfold rd_T64; simp [List.getD_eq_getElem?_getD, hlt]
    have hlen : (l.map fun x => (⟨x.1, x.2⟩ : S64)).length = l.length := by simp
    rw [hg, bkL]
    refine Ev.step (fun k => by rw [selvedgeref01_Bracket.l0]) (Ev.pos (by omega) (Ev.pos (by omega) ?_))
    rw [hrd]
    have stay : r = l[i].1 ∨ r = l[i].2 → Ev (fun k => selvedgeref01_Bracket.j1 k r (l.map fun x => (⟨x.1, x.2⟩ : S64)) i false) (if r ≠ l[i].1 ∧ r ≠ l[i].2 then bkL r (l.drop (i + 1)) else if l[i].2 = 9002 then (12297, decide (r = l[i].1), true) else (l[i].2, decide (r = l[i].1), true)) := fun h => by
      rw [if_neg (by omega)]
      refine Ev.step (fun k => by rw [selvedgeref01_Bracket.j1]) (Ev.neg (by simp) (Ev.pos (by omega) (Ev.pos (by omega) ?_)))
      rw [hrd]
      have hb : (r == l[i].1) = decide (r = l[i].1) := by rw [Bool.eq_iff_iff, beq_iff_eq, decide_eq_true_eq]
      simp only [hb]
      by_cases c : l[i].2 = 9002
      · simp only [if_pos c]; exact Ev.now _
      · simp only [if_neg c]; exact Ev.now _
    by_cases c1 : r = l[i].1
    · exact Ev.pos c1 (stay (.inl c1))
    · refine Ev.neg c1 ?_
      by_cases c2 : r = l[i].2
      · have : (r != l[i].2) = false := by simpa using c2
        simp only [this]
        exact stay (.inr c2)
      · have : (r != l[i].2) = true := by simpa using c2
        simp only [this]
        rw [if_pos ⟨c1, c2⟩]
        refine Ev.step (fun k => by rw [selvedgeref01_Bracket.j1]) (Ev.pos rfl ?_)
        rw [wrap64_nat i (by omega)]
        exact ih (i + 1) (by omega)
theorem rbr_ev (r : Int) : Ev (fun k => selvedgeref01_Bracket.f k r) (bkF r) := by
  unfold selvedgeref01_Bracket.f
  exact Ev.bind (g := fun _ => selvedgeref01_Brackets.f) (Ev.now bkS) (rbr_loop r bkT (by decide) 23 0 rfl)

/-! ### Pairs -/
/-- The nearest to the top, below n, that closes with c. -/
def topF (c : Int) (st : List S54) : Nat → Option Nat
  | 0 => none
  | k + 1 => if (rd_T54 st k).f0 = c then some k else topF c st k
theorem topF_lt (c : Int) (st : List S54) : ∀ n k, topF c st n = some k → k < n
  | 0, k, h => by cases h
  | n + 1, k, h => by
    rw [topF] at h
    split at h
    · have := Option.some.inj h; omega
    · have := topF_lt c st n k h; omega
def refL (l now : List Int) : Nat → Nat → List Int → List S54 → List Int
  | 0, _, cl, _ => cl
  | f + 1, i, cl, st =>
    if i < l.length ∧ i < now.length then
      if (bkF (rd l i)).2.2 = false ∨ rd now i ≠ 14 then refL l now f (i + 1) cl st
      else if (bkF (rd l i)).2.1 = true then (if st.length = 63 then cl else refL l now f (i + 1) cl (st ++ [⟨(bkF (rd l i)).1, i⟩]))
      else match topF (bkF (rd l i)).1 st st.length with
        | some k => refL l now f (i + 1) (cl.set (rd_T54 st k).f1.toNat i) (st.take k)
        | none => refL l now f (i + 1) cl st
    else cl
def outL (cl : List Int) : Nat → Nat → List S31
  | 0, _ => []
  | f + 1, i => (if rd cl i > 0 then [⟨i, rd cl i⟩] else []) ++ outL cl f (i + 1)
def refP (l now : List Int) : List S31 := outL (refL l now l.length 0 (List.replicate l.length 0) []) l.length 0
theorem rp_out (l cl : List Int) (hc : cl.length = l.length) (hl : l.length ≤ 1048576) : ∀ (f i : Nat) (out : List S31), i + f = l.length → out.length ≤ i →
    Ev (fun k => selvedgeref17_Pairs.l2 k l cl out i) (out ++ outL cl f i)
  | 0, i, out, h, ho => by
    rw [outL, List.append_nil]
    exact Ev.step (fun k => by rw [selvedgeref17_Pairs.l2]) (Ev.neg (by omega) (Ev.now _))
  | f + 1, i, out, h, ho => by
    refine Ev.step (fun k => by rw [selvedgeref17_Pairs.l2]) (Ev.pos (by omega) (Ev.pos (by omega) (Ev.pos (by omega) ?_)))
    rw [wrap64_nat i (by omega), outL, ← List.append_assoc]
    by_cases c : rd cl i > 0
    · rw [if_pos c]
      exact Ev.pos c (Ev.pos (by omega) (rp_out l cl hc hl f (i + 1) _ (by omega) (by simp; omega)))
    · rw [if_neg c, List.append_nil]
      exact Ev.neg c (rp_out l cl hc hl f (i + 1) _ (by omega) (by omega))
/-- What is on the stack: places of the row. -/
def StOk (n : Nat) (st : List S54) : Prop := st.length ≤ 63 ∧ ∀ k, k < st.length → 0 ≤ (rd_T54 st k).f1 ∧ (rd_T54 st k).f1 < n
theorem rd_take (st : List S54) (n k : Nat) (h : k < n) : rd_T54 (st.take n) k = rd_T54 st k := by
  unfold rd_T54
  rw [Int.toNat_natCast, List.getD_eq_getElem?_getD, List.getD_eq_getElem?_getD, List.getElem?_take, if_pos h]
theorem rd_app (st : List S54) (x : S54) (k : Nat) (h : k < st.length) : rd_T54 (st ++ [x]) k = rd_T54 st k := by
  unfold rd_T54
  rw [Int.toNat_natCast, List.getD_eq_getElem?_getD, List.getD_eq_getElem?_getD, List.getElem?_append_left h]
theorem rd_top (st : List S54) (x : S54) : rd_T54 (st ++ [x]) st.length = x := by
  unfold rd_T54
  rw [Int.toNat_natCast, List.getD_eq_getElem?_getD, List.getElem?_append_right (Nat.le_refl _), Nat.sub_self]; rfl
theorem StOk.take {n : Nat} {st : List S54} (h : StOk n st) (k : Nat) : StOk n (st.take k) := by
  refine ⟨by rw [List.length_take]; have := h.1; omega, fun j hj => ?_⟩
  rw [List.length_take] at hj
  rw [rd_take st k j (by omega)]
  exact h.2 j (by omega)
theorem StOk.push {n : Nat} {st : List S54} (h : StOk n st) (c : Int) (i : Nat) (hi : i < n) (h63 : st.length ≠ 63) : StOk n (st ++ [⟨c, i⟩]) := by
  refine ⟨by rw [List.length_append, List.length_singleton]; have := h.1; omega, fun j hj => ?_⟩
  rw [List.length_append, List.length_singleton] at hj
  by_cases hjl : j < st.length
  · rw [rd_app st _ j hjl]; exact h.2 j hjl
  · obtain rfl : j = st.length := by omega
    rw [rd_top]; simp only; omega
theorem rp_loop (l now : List Int) (hl : l.length ≤ 1048576) : ∀ (f i : Nat) (cl : List Int) (st : List S54), i + f = l.length → cl.length = l.length → StOk l.length st →
    Ev (fun k => selvedgeref17_Pairs.l0 k l now cl st i) (outL (refL l now f i cl st) l.length 0) := by
  have fin : ∀ cl : List Int, cl.length = l.length → Ev (fun k => selvedgeref17_Pairs.j4 k l cl) (outL cl l.length 0) := fun cl hc =>
    Ev.step (fun k => by rw [selvedgeref17_Pairs.j4]) (by have := rp_out l cl hc hl l.length 0 [] (by omega) (Nat.le_refl _); simpa using this)
  intro f
  induction f with
  | zero =>
    intro i cl st hi hc hst
    rw [refL]
    exact Ev.step (fun k => by rw [selvedgeref17_Pairs.l0]) (Ev.neg (by omega) (Ev.step (fun k => by rw [selvedgeref17_Pairs.j1]) (Ev.neg (by simp) (fin cl hc))))
  | succ f ih =>
    intro i cl st hi hc hst
    rw [refL]
    refine Ev.step (fun k => by rw [selvedgeref17_Pairs.l0]) (Ev.pos (by omega) ?_)
    by_cases hn : i < now.length
    · rw [if_pos ⟨by omega, hn⟩, decide_eq_true (show (i : Int) < (now.length : Int) by omega)]
      refine Ev.step (fun k => by rw [selvedgeref17_Pairs.j1]) (Ev.pos rfl (Ev.pos (by omega) (Ev.pos (by omega) (Ev.bind (rbr_ev _) ?_))))
      generalize bkF (rd l i) = b
      obtain ⟨c, op, ok⟩ := b
      simp only
      have next := ih (i + 1) cl st (by omega) hc hst
      have skip : Ev (fun k => selvedgeref17_Pairs.j2 k l now cl st i c op true) (outL (refL l now f (i + 1) cl st) l.length 0) :=
        Ev.step (fun k => by rw [selvedgeref17_Pairs.j2]) (Ev.pos rfl (by rw [wrap64_nat i (by omega)]; exact next))
      cases ok with
      | false => rw [if_pos (.inl rfl)]; exact Ev.neg (by simp) skip
      | true =>
        refine Ev.pos rfl (Ev.pos (by omega) ?_)
        by_cases h14 : rd now i ≠ 14
        · have : (rd now i != 14) = true := by simpa using h14
          simp only [this]
          rw [if_pos (.inr h14)]; exact skip
        · have : (rd now i != 14) = false := by simpa using h14
          simp only [this]
          rw [if_neg (fun h => h.elim (by simp) h14)]
          refine Ev.step (fun k => by rw [selvedgeref17_Pairs.j2]) (Ev.neg (by simp) ?_)
          rw [wrap64_nat i (by omega)]
          cases op with
          | true =>
            rw [if_pos rfl]
            refine Ev.pos rfl ?_
            by_cases h63 : st.length = 63
            · rw [if_pos h63]; exact Ev.pos (by omega) (fin cl hc)
            · rw [if_neg h63]
              exact Ev.neg (by omega) (Ev.pos (by have := hst.1; omega) (ih (i + 1) cl _ (by omega) hc (hst.push c i (by omega) h63)))
          | false =>
            rw [if_neg (by simp)]
            refine Ev.neg (by simp) ?_
            have inner : ∀ n, n ≤ st.length → Ev (fun k => selvedgeref17_Pairs.l1 k l now cl st i c ((n : Int) - 1)) (outL (match topF c st n with | some k => refL l now f (i + 1) (cl.set (rd_T54 st k).f1.toNat i) (st.take k) | none => refL l now f (i + 1) cl st) l.length 0) := by
              intro n
              induction n with
              | zero =>
                intro _
                exact Ev.step (fun k => by rw [selvedgeref17_Pairs.l1]) (Ev.neg (by omega) (by rw [wrap64_nat i (by omega)]; exact next))
              | succ n ihn =>
                intro hnl
                rw [show ((n + 1 : Nat) : Int) - 1 = (n : Int) by omega]
                have hp := hst.2 n (by omega)
                refine Ev.step (fun k => by rw [selvedgeref17_Pairs.l1]) (Ev.pos (by omega) (Ev.pos (by omega) (Ev.pos (by omega) ?_)))
                rw [topF]
                by_cases hcl : (rd_T54 st n).f0 = c
                · rw [if_pos hcl]
                  refine Ev.pos hcl (Ev.pos hp.1 (Ev.pos (by omega) (Ev.pos (by omega) ?_)))
                  rw [wrap64_nat i (by omega), Int.toNat_natCast]
                  exact ih (i + 1) _ _ (by omega) (by rw [List.length_set]; exact hc) (hst.take n)
                · rw [if_neg hcl]
                  refine Ev.neg hcl ?_
                  rw [show wrap64 ((n : Int) - 1) = (n : Int) - 1 by unfold wrap64; have := hst.1; omega]
                  exact ihn (by omega)
            have hw : wrap64 ((st.length : Int) - 1) = (st.length : Int) - 1 := by unfold wrap64; have := hst.1; omega
            rw [hw]
            exact inner st.length (Nat.le_refl _)
    · rw [if_neg (fun h => hn h.2), decide_eq_false (by omega)]
      exact Ev.step (fun k => by rw [selvedgeref17_Pairs.j1]) (Ev.neg (by simp) (fin cl hc))
theorem rpairs_ev (l now : List Int) (hl : l.length ≤ 1048576) : Ev (fun k => selvedgeref17_Pairs.f k l now) (refP l now) := by
  unfold selvedgeref17_Pairs.f
  refine Ev.pos (by omega) (Ev.pos (by omega) ?_)
  rw [Int.toNat_natCast]
  exact rp_loop l now hl l.length 0 _ _ (by omega) (by simp) ⟨by simp, fun k hk => by simp at hk⟩
end Go.Proofs.YtaidfmioggelnaaDoor.Q
