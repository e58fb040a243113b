/- What the program's loop of pairs hands to its sort holds the pairs that the document marks: sorted, they are the document's. Plain Lean. No condition. -/
import Derived.Test.YtaidfmioggelnaaDoorP2
namespace Go.Proofs.YtaidfmioggelnaaDoor.Q
set_option linter.unusedVariables false
set_option linter.unusedSimpArgs false
open Go.RowKit Go.Proofs.YtaidfmioggelnaaDoorW.PrintWords

/-- What the program's loop hands to its sort. -/
def proL (l now : List Int) : Nat → Nat → List S54 → List S30 → List S30
  | 0, _, _, out => out
  | f + 1, i, st, out =>
    if i < l.length ∧ i < now.length then
      if (bkF (rd l i)).2.2 = false ∨ rd now i ≠ 14 then proL l now f (i + 1) st out
      else if (bkF (rd l i)).2.1 = true then (if st.length = 63 then out else proL l now f (i + 1) (st ++ [⟨(bkF (rd l i)).1, i⟩]) out)
      else match topF (bkF (rd l i)).1 st st.length with
        | some k => proL l now f (i + 1) (st.take k) (out ++ [⟨(rd_T54 st k).f1, i⟩])
        | none => proL l now f (i + 1) st out
    else out
/-- The loop's state. -/
structure PInv (n i : Nat) (cl : List Int) (st : List S54) (out : List S30) : Prop where
  len : cl.length = n
  pl : ∀ k, k < st.length → 0 ≤ (rd_T54 st k).f1 ∧ (rd_T54 st k).f1 < i ∧ rd cl (rd_T54 st k).f1 = 0
  up : ∀ j k, j < k → k < st.length → (rd_T54 st j).f1 < (rd_T54 st k).f1
  dist : out.Pairwise (fun x y => x.f0 ≠ y.f0)
  mark : ∀ x ∈ out, 0 ≤ x.f0 ∧ x.f0 < n ∧ x.f1 = rd cl x.f0 ∧ x.f1 > 0
  all : ∀ p : Nat, p < n → rd cl p > 0 → (⟨p, rd cl p⟩ : S30) ∈ out
theorem rd_set_self {cl : List Int} {p v : Int} (h0 : 0 ≤ p) (h : p < cl.length) : rd (cl.set p.toNat v) p = v := by
  unfold rd
  rw [List.getD_eq_getElem?_getD, List.getElem?_set_self (by omega)]; rfl
theorem rd_set_ne {cl : List Int} {p q v : Int} (h0 : 0 ≤ p) (hq : 0 ≤ q) (h : p ≠ q) : rd (cl.set p.toNat v) q = rd cl q := by
  unfold rd
  rw [List.getD_eq_getElem?_getD, List.getD_eq_getElem?_getD, List.getElem?_set_ne (by omega)]
theorem PInv.mono {n i : Nat} {cl : List Int} {st : List S54} {out : List S30} (h : PInv n i cl st out) : PInv n (i + 1) cl st out :=
  ⟨h.len, fun k hk => by have := h.pl k hk; omega, h.up, h.dist, h.mark, h.all⟩
theorem PInv.push {n i : Nat} {cl : List Int} {st : List S54} {out : List S30} (h : PInv n i cl st out) (c : Int) (h0 : rd cl i = 0) : PInv n (i + 1) cl (st ++ [⟨c, i⟩]) out := by
  refine ⟨h.len, fun k hk => ?_, fun j k hjk hk => ?_, h.dist, h.mark, h.all⟩
  · rw [List.length_append, List.length_singleton] at hk
    by_cases hkl : k < st.length
    · rw [rd_app st _ k hkl]; have := h.pl k hkl; omega
    · obtain rfl : k = st.length := by omega
      rw [rd_top]; simp only; omega
  · rw [List.length_append, List.length_singleton] at hk
    rw [rd_app st _ j (by omega)]
    by_cases hkl : k < st.length
    · rw [rd_app st _ k hkl]; exact h.up j k hjk hkl
    · obtain rfl : k = st.length := by omega
      rw [rd_top]; simp only; have := h.pl j (by omega); omega
theorem PInv.pop {n i : Nat} {cl : List Int} {st : List S54} {out : List S30} (h : PInv n i cl st out) (hi : i < n) (k : Nat) (hk : k < st.length) :
    PInv n (i + 1) (cl.set (rd_T54 st k).f1.toNat i) (st.take k) (out ++ [⟨(rd_T54 st k).f1, i⟩]) := by
  obtain ⟨hp0, hpi, hpc⟩ := h.pl k hk
  have hup := h.up
  generalize hpe : (rd_T54 st k).f1 = p at *
  have hin : p < cl.length := by rw [h.len]; omega
  refine ⟨by rw [List.length_set]; exact h.len, fun j hj => ?_, fun j q hjq hq => ?_, ?_, fun x hx => ?_, fun q hq hc => ?_⟩
  · rw [List.length_take] at hj
    rw [rd_take st k j (by omega)]
    have h1 := h.pl j (by omega)
    have h2 := hup j k (by omega) hk
    rw [hpe] at h2
    rw [rd_set_ne hp0 h1.1 (by omega)]
    omega
  · rw [List.length_take] at hq
    rw [rd_take st k j (by omega), rd_take st k q (by omega)]
    exact hup j q hjq (by omega)
  · refine List.pairwise_append.2 ⟨h.dist, List.pairwise_singleton _ _, fun x hx y hy he => ?_⟩
    rw [List.mem_singleton.1 hy] at he
    have h1 := h.mark x hx
    simp only at he
    rw [he, hpc] at h1
    omega
  · rcases List.mem_append.1 hx with hx | hx
    · have h1 := h.mark x hx
      have : p ≠ x.f0 := by
        rintro rfl
        rw [hpc] at h1
        omega
      rw [rd_set_ne hp0 h1.1 this]
      exact h1
    · rw [List.mem_singleton.1 hx]
      simp only
      rw [rd_set_self hp0 hin]
      omega
  · by_cases hqp : p = (q : Int)
    · refine List.mem_append_right _ ?_
      rw [← hqp, rd_set_self hp0 hin]
      simp
    · rw [rd_set_ne hp0 (by omega) hqp] at hc ⊢
      exact List.mem_append_left _ (h.all q hq hc)
theorem PInv.later {n i : Nat} {cl : List Int} {st : List S54} {out : List S30} (h : PInv n i cl st out) {c : Nat} (hz : ∀ q : Nat, c ≤ q → rd cl q = 0) (k : Nat) (hk : k < st.length) (hci : i ≤ c) : ∀ q : Nat, c + 1 ≤ q → rd (cl.set (rd_T54 st k).f1.toNat i) q = 0 := by
  intro q hq
  have := h.pl k hk
  rw [rd_set_ne this.1 (by omega) (by omega)]
  exact hz q (by omega)
/-- Both loops, in step. -/
theorem pro_ref (l now : List Int) : ∀ (g f i : Nat) (cl : List Int) (st : List S54) (out : List S30), i + g = min l.length now.length → i + f = l.length → PInv l.length i cl st out → (∀ q : Nat, i ≤ q → rd cl q = 0) →
    ∃ st' i', PInv l.length i' (refL l now f i cl st) st' (proL l now g i st out)
  | 0, f, i, cl, st, out, hg, hf, h, hz => by
    refine ⟨st, i, ?_⟩
    have : refL l now f i cl st = cl := by
      cases f with
      | zero => rfl
      | succ f => rw [refL, if_neg (by omega)]
    rw [this]
    exact h
  | g + 1, f, i, cl, st, out, hg, hf, h, hz => by
    obtain ⟨f, rfl⟩ : ∃ q, f = q + 1 := ⟨f - 1, by omega⟩
    have hz' : ∀ q : Nat, i + 1 ≤ q → rd cl q = 0 := fun q hq => hz q (by omega)
    have hc : i < l.length ∧ i < now.length := ⟨by omega, by omega⟩
    rw [refL, proL, if_pos hc, if_pos hc]
    by_cases hs : (bkF (rd l i)).2.2 = false ∨ rd now i ≠ 14
    · rw [if_pos hs, if_pos hs]
      exact pro_ref l now g f (i + 1) cl st out (by omega) (by omega) h.mono hz'
    · rw [if_neg hs, if_neg hs]
      by_cases ho : (bkF (rd l i)).2.1 = true
      · rw [if_pos ho, if_pos ho]
        by_cases h63 : st.length = 63
        · rw [if_pos h63, if_pos h63]
          exact ⟨st, i, h⟩
        · rw [if_neg h63, if_neg h63]
          exact pro_ref l now g f (i + 1) cl _ out (by omega) (by omega) (h.push _ (hz i (Nat.le_refl _))) hz'
      · rw [if_neg ho, if_neg ho]
        cases ht : topF (bkF (rd l i)).1 st st.length with
        | none => exact pro_ref l now g f (i + 1) cl st out (by omega) (by omega) h.mono hz'
        | some k =>
          have hk := topF_lt _ _ _ _ ht
          exact pro_ref l now g f (i + 1) _ _ _ (by omega) (by omega) (h.pop (by omega) k hk) (h.later hz k hk (Nat.le_refl _))
theorem PInv.start (l : List Int) : PInv l.length 0 (List.replicate l.length 0) [] [] := by
  have hz : ∀ p : Nat, rd (List.replicate l.length 0) p = 0 := fun p => by
    unfold rd
    rw [List.getD_eq_getElem?_getD, List.getElem?_replicate]
    split <;> rfl
  exact ⟨by simp, fun k hk => by simp at hk, fun j k _ hk => by simp at hk, List.Pairwise.nil, fun x hx => (by cases hx), fun p _ h => by rw [hz] at h; omega⟩
theorem pro_inv (l now : List Int) : ∃ st' i', PInv l.length i' (refL l now l.length 0 (List.replicate l.length 0) []) st' (proL l now (min l.length now.length) 0 [] []) :=
  pro_ref l now _ _ 0 _ [] [] (by omega) (by omega) (PInv.start l) (fun p _ => by
    unfold rd
    rw [List.getD_eq_getElem?_getD, List.getElem?_replicate]
    split <;> rfl)
/-- Two rows that ascend and have the same members. -/
theorem asc_eq {α : Type} (f : α → Int) : ∀ (a b : List α), a.Pairwise (fun x y => f x < f y) → b.Pairwise (fun x y => f x < f y) → (∀ x, x ∈ a ↔ x ∈ b) → a = b
  | [], [], _, _, _ => rfl
  | [], y :: b, _, _, h => by have := (h y).2 (by simp); cases this
  | x :: a, [], _, _, h => by have := (h x).1 (by simp); cases this
  | x :: a, y :: b, ha, hb, h => by
    obtain ⟨ha1, ha2⟩ := List.pairwise_cons.1 ha
    obtain ⟨hb1, hb2⟩ := List.pairwise_cons.1 hb
    obtain rfl : x = y := by
      rcases List.mem_cons.1 ((h x).1 (by simp)) with e | e
      · exact e
      · rcases List.mem_cons.1 ((h y).2 (by simp)) with e' | e'
        · exact e'.symm
        · have := ha1 y e'; have := hb1 x e; omega
    rw [asc_eq f a b ha2 hb2 (fun z => ?_)]
    constructor
    · intro hz
      rcases List.mem_cons.1 ((h z).1 (List.mem_cons_of_mem _ hz)) with e | e
      · have := ha1 z hz; rw [e] at this; omega
      · exact e
    · intro hz
      rcases List.mem_cons.1 ((h z).2 (List.mem_cons_of_mem _ hz)) with e | e
      · have := hb1 z hz; rw [e] at this; omega
      · exact e
def to31 (x : S30) : S31 := ⟨x.f0, x.f1⟩
/-- Sorted, they are the document's pairs. -/
theorem sorted_ref (l now : List Int) (s : List S30) (hp : s.Perm (proL l now (min l.length now.length) 0 [] [])) (hs : s.Pairwise (fun x y => x.f0 ≤ y.f0)) : s.map to31 = refP l now := by
  obtain ⟨st, i, h⟩ := pro_inv l now
  unfold refP
  generalize refL l now l.length 0 (List.replicate l.length 0) [] = cl at *
  generalize proL l now (min l.length now.length) 0 [] [] = out at *
  have hd : s.Pairwise (fun x y => x.f0 ≠ y.f0) := (hp.pairwise_iff (fun h => Ne.symm h)).2 h.dist
  refine asc_eq S31.f0 _ _ ?_ (outL_sorted _ _ _) (fun z => ?_)
  · rw [List.pairwise_map]
    exact (hs.and hd).imp (fun h => by have h1 := h.1; have h2 := h.2; show _ < _; unfold to31; simp only; omega)
  · constructor
    · intro hz
      obtain ⟨x, hx, rfl⟩ := List.mem_map.1 hz
      have hm := h.mark x (hp.mem_iff.1 hx)
      have := outL_mem cl l.length 0 x.f0.toNat (by omega) (by omega) (by rw [Int.toNat_of_nonneg hm.1]; omega)
      rw [Int.toNat_of_nonneg hm.1, ← hm.2.2.1] at this
      exact this
    · intro hz
      have hm := outL_ge cl _ _ z hz
      have := h.all z.f0.toNat (by omega) (by rw [Int.toNat_of_nonneg (by omega)]; omega)
      rw [Int.toNat_of_nonneg (by omega), ← hm.2.2.1] at this
      exact List.mem_map.2 ⟨_, hp.mem_iff.2 this, rfl⟩
theorem pro_ok (l now : List Int) : ∀ x ∈ proL l now (min l.length now.length) 0 [] [], 0 ≤ x.f0 ∧ x.f0 < l.length ∧ 0 < x.f1 := by
  obtain ⟨st, i, h⟩ := pro_inv l now
  intro x hx
  have := h.mark x hx
  exact ⟨this.1, this.2.1, this.2.2.2⟩
theorem outL_len (cl : List Int) : ∀ f i, (outL cl f i).length ≤ f
  | 0, _ => Nat.le_refl _
  | f + 1, i => by
    rw [outL, List.length_append]
    have := outL_len cl f (i + 1)
    split <;> simp <;> omega
theorem refP_len (l now : List Int) : (refP l now).length ≤ l.length := outL_len _ _ _
def to30 (x : S31) : S30 := ⟨x.f0, x.f1⟩
theorem pro_len (l now : List Int) : ∀ (f i : Nat) (st : List S54) (out : List S30), (proL l now f i st out).length ≤ out.length + f
  | 0, _, _, _ => Nat.le_refl _
  | f + 1, i, st, out => by
    rw [proL]
    split
    · split
      · have := pro_len l now f (i + 1) st out; omega
      · split
        · split
          · omega
          · exact Nat.le_trans (pro_len l now f (i + 1) _ out) (by omega)
        · split
          · refine Nat.le_trans (pro_len l now f (i + 1) _ _) ?_
            rw [List.length_append, List.length_singleton]; omega
          · have := pro_len l now f (i + 1) st out; omega
    · omega
end Go.Proofs.YtaidfmioggelnaaDoor.Q
