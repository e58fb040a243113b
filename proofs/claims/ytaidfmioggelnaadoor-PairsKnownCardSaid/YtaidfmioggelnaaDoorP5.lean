/- The pairs: in one another or beside each other, of one kind, of brackets that stand as ON. Plain Lean. No condition. -/
import Derived.Test.YtaidfmioggelnaaDoorP3
namespace Go.Proofs.YtaidfmioggelnaaDoor.Q
set_option linter.unusedVariables false
set_option linter.unusedSimpArgs false
open Go.RowKit Go.Proofs.YtaidfmioggelnaaDoorW.PrintWords

structure NInv (l now : List Int) (i : Nat) (st : List S54) (out : List S30) : Prop where
  pl : ∀ k, k < st.length → 0 ≤ (rd_T54 st k).f1 ∧ (rd_T54 st k).f1 < i ∧ bkF (rd l (rd_T54 st k).f1) = ((rd_T54 st k).f0, true, true) ∧ rd now (rd_T54 st k).f1 = 14
  up : ∀ j k, j < k → k < st.length → (rd_T54 st j).f1 < (rd_T54 st k).f1
  mark : ∀ x ∈ out, 0 ≤ x.f0 ∧ x.f0 < x.f1 ∧ x.f1 < i ∧ rd now x.f0 = 14 ∧ rd now x.f1 = 14 ∧ ∃ c, bkF (rd l x.f0) = (c, true, true) ∧ bkF (rd l x.f1) = (c, false, true)
  asc : out.Pairwise (fun x y => x.f1 < y.f1)
  apart : ∀ x ∈ out, ∀ k, k < st.length → (rd_T54 st k).f1 < x.f0 ∨ x.f1 < (rd_T54 st k).f1
  nest : ∀ x ∈ out, ∀ y ∈ out, ¬ (x.f0 < y.f0 ∧ y.f0 < x.f1 ∧ x.f1 < y.f1)
theorem NInv.mono {l now : List Int} {i : Nat} {st : List S54} {out : List S30} (h : NInv l now i st out) : NInv l now (i + 1) st out :=
  ⟨fun k hk => by have := h.pl k hk; exact ⟨this.1, by omega, this.2.2⟩, h.up, fun x hx => by have := h.mark x hx; exact ⟨this.1, this.2.1, by omega, this.2.2.2⟩, h.asc, h.apart, h.nest⟩
theorem NInv.push {l now : List Int} {i : Nat} {st : List S54} {out : List S30} (h : NInv l now i st out) (c : Int) (hb : bkF (rd l i) = (c, true, true)) (hn : rd now i = 14) : NInv l now (i + 1) (st ++ [⟨c, i⟩]) out := by
  refine ⟨fun k hk => ?_, fun j k hjk hk => ?_, h.mono.mark, h.asc, fun x hx k hk => ?_, h.nest⟩
  · rw [List.length_append, List.length_singleton] at hk
    by_cases hkl : k < st.length
    · rw [rd_app st _ k hkl]; exact h.mono.pl k hkl
    · obtain rfl : k = st.length := by omega
      rw [rd_top]; exact ⟨Int.natCast_nonneg _, by simp only; omega, hb, hn⟩
  · rw [List.length_append, List.length_singleton] at hk
    rw [rd_app st _ j (by omega)]
    by_cases hkl : k < st.length
    · rw [rd_app st _ k hkl]; exact h.up j k hjk hkl
    · obtain rfl : k = st.length := by omega
      rw [rd_top]; simp only; have := h.pl j (by omega); omega
  · rw [List.length_append, List.length_singleton] at hk
    by_cases hkl : k < st.length
    · rw [rd_app st _ k hkl]; exact h.apart x hx k hkl
    · obtain rfl : k = st.length := by omega
      rw [rd_top]; simp only; have := h.mark x hx; omega
theorem NInv.pop {l now : List Int} {i : Nat} {st : List S54} {out : List S30} (h : NInv l now i st out) (k : Nat) (hk : k < st.length) (hb : bkF (rd l i) = ((rd_T54 st k).f0, false, true)) (hn : rd now i = 14) :
    NInv l now (i + 1) (st.take k) (out ++ [⟨(rd_T54 st k).f1, i⟩]) := by
  have hpl := h.pl k hk
  have hup := h.up
  have hap := h.apart
  refine ⟨fun j hj => ?_, fun j q hjq hq => ?_, fun x hx => ?_, ?_, fun x hx j hj => ?_, fun x hx y hy => ?_⟩
  · rw [List.length_take] at hj
    rw [rd_take st k j (by omega)]
    exact h.mono.pl j (by omega)
  · rw [List.length_take] at hq
    rw [rd_take st k j (by omega), rd_take st k q (by omega)]
    exact hup j q hjq (by omega)
  · rcases List.mem_append.1 hx with hx | hx
    · exact h.mono.mark x hx
    · rw [List.mem_singleton.1 hx]
      exact ⟨hpl.1, hpl.2.1, by simp only; omega, hpl.2.2.2, hn, _, hpl.2.2.1, hb⟩
  · refine List.pairwise_append.2 ⟨h.asc, List.pairwise_singleton _ _, fun x hx y hy => ?_⟩
    rw [List.mem_singleton.1 hy]
    exact (h.mark x hx).2.2.1
  · rw [List.length_take] at hj
    rw [rd_take st k j (by omega)]
    rcases List.mem_append.1 hx with hx | hx
    · exact hap x hx j (by omega)
    · rw [List.mem_singleton.1 hx]
      exact .inl (hup j k (by omega) hk)
  · rcases List.mem_append.1 hx with hx | hx
    · rcases List.mem_append.1 hy with hy | hy
      · exact h.nest x hx y hy
      · rw [List.mem_singleton.1 hy]
        have := hap x hx k hk
        simp only
        omega
    · rw [List.mem_singleton.1 hx]
      rcases List.mem_append.1 hy with hy | hy
      · have := h.mark y hy
        simp only
        omega
      · rw [List.mem_singleton.1 hy]
        simp only
        omega
theorem topF_eq (c : Int) (st : List S54) : ∀ n k, topF c st n = some k → (rd_T54 st k).f0 = c
  | 0, k, h => by cases h
  | n + 1, k, h => by
    rw [topF] at h
    split at h
    · rw [← Option.some.inj h]; assumption
    · exact topF_eq c st n k h
theorem pro_nest (l now : List Int) : ∀ (g i : Nat) (st : List S54) (out : List S30), i + g = min l.length now.length → NInv l now i st out →
    ∃ st' i', i' ≤ min l.length now.length ∧ NInv l now i' st' (proL l now g i st out)
  | 0, i, st, out, hg, h => ⟨st, i, by omega, h⟩
  | g + 1, i, st, out, hg, h => by
    have hc : i < l.length ∧ i < now.length := ⟨by omega, by omega⟩
    rw [proL, if_pos hc]
    by_cases hs : (bkF (rd l i)).2.2 = false ∨ rd now i ≠ 14
    · rw [if_pos hs]
      exact pro_nest l now g (i + 1) st out (by omega) h.mono
    · rw [if_neg hs]
      have hn : rd now i = 14 := by
        by_cases e : rd now i = 14
        · exact e
        · exact absurd (.inr e) hs
      obtain ⟨⟨c, op, ok⟩, hb⟩ : ∃ b, bkF (rd l i) = b := ⟨_, rfl⟩
      rw [hb] at hs ⊢
      obtain rfl : ok = true := by cases ok <;> simp at hs ⊢
      simp only
      cases op with
      | true =>
        rw [if_pos rfl]
        by_cases h63 : st.length = 63
        · rw [if_pos h63]
          exact ⟨st, i, by omega, h⟩
        · rw [if_neg h63]
          exact pro_nest l now g (i + 1) _ out (by omega) (h.push c hb hn)
      | false =>
        rw [if_neg (by simp)]
        cases ht : topF c st st.length with
        | none => exact pro_nest l now g (i + 1) st out (by omega) h.mono
        | some k =>
          have hk := topF_lt _ _ _ _ ht
          have he := topF_eq _ _ _ _ ht
          exact pro_nest l now g (i + 1) _ _ (by omega) (h.pop k hk (by rw [he]; exact hb) hn)
theorem pro_ninv (l now : List Int) : ∃ st' i', i' ≤ min l.length now.length ∧ NInv l now i' st' (proL l now (min l.length now.length) 0 [] []) :=
  pro_nest l now _ 0 [] [] (by omega) ⟨fun k hk => by simp at hk, fun j k _ hk => by simp at hk, fun x hx => (by cases hx), List.Pairwise.nil, fun x hx => (by cases hx), fun x hx => (by cases hx)⟩
theorem refP_mem (l now : List Int) : ∀ z ∈ refP l now, to30 z ∈ proL l now (min l.length now.length) 0 [] [] := by
  obtain ⟨st, i, h⟩ := pro_inv l now
  unfold refP
  generalize refL l now l.length 0 (List.replicate l.length 0) [] = cl at *
  intro z hz
  have hm := outL_ge cl _ _ z hz
  have := h.all z.f0.toNat (by omega) (by rw [Int.toNat_of_nonneg (by omega)]; omega)
  rw [Int.toNat_of_nonneg (by omega), ← hm.2.2.1] at this
  exact this
/-- What is told of each pair, and of each two. -/
theorem refP_ok (l now : List Int) : ∀ z ∈ refP l now, 0 ≤ z.f0 ∧ z.f0 < z.f1 ∧ z.f1 < l.length ∧ z.f1 < now.length ∧ rd now z.f0 = 14 ∧ rd now z.f1 = 14 ∧ ∃ c, bkF (rd l z.f0) = (c, true, true) ∧ bkF (rd l z.f1) = (c, false, true) := by
  obtain ⟨st, i, hi, h⟩ := pro_ninv l now
  intro z hz
  have := h.mark _ (refP_mem l now z hz)
  unfold to30 at this
  simp only at this
  exact ⟨this.1, this.2.1, by omega, by omega, this.2.2.2⟩
theorem refP_asc (l now : List Int) : (refP l now).Pairwise (fun x y => x.f0 < y.f0) := outL_sorted _ _ _
theorem refP_nest (l now : List Int) : ∀ x ∈ refP l now, ∀ y ∈ refP l now, ¬ (x.f0 < y.f0 ∧ y.f0 < x.f1 ∧ x.f1 < y.f1) := by
  obtain ⟨st, i, hi, h⟩ := pro_ninv l now
  intro x hx y hy
  exact h.nest _ (refP_mem l now x hx) _ (refP_mem l now y hy)
theorem pairwise_or {α : Type} {R : α → α → Prop} : ∀ {l : List α} {x y : α}, l.Pairwise R → x ∈ l → y ∈ l → x = y ∨ R x y ∨ R y x
  | a :: l, x, y, h, hx, hy => by
    obtain ⟨h1, h2⟩ := List.pairwise_cons.1 h
    rcases List.mem_cons.1 hx with e1 | hx1
    · rcases List.mem_cons.1 hy with e2 | hy1
      · exact .inl (e1.trans e2.symm)
      · exact .inr (.inl (e1 ▸ h1 _ hy1))
    · rcases List.mem_cons.1 hy with e2 | hy1
      · exact .inr (.inr (e2 ▸ h1 _ hx1))
      · exact pairwise_or h2 hx1 hy1
/-- No two close at one place. -/
theorem refP_closes (l now : List Int) : ∀ x ∈ refP l now, ∀ y ∈ refP l now, x.f1 = y.f1 → x = y := by
  obtain ⟨st, i, hi, h⟩ := pro_ninv l now
  intro x hx y hy he
  have := pairwise_or h.asc (refP_mem l now x hx) (refP_mem l now y hy)
  obtain ⟨x0, x1⟩ := x
  obtain ⟨y0, y1⟩ := y
  unfold to30 at this
  simp only [S30.mk.injEq] at this he
  rcases this with ⟨h1, h2⟩ | h1 | h1
  · rw [h1, h2]
  · omega
  · omega
end Go.Proofs.YtaidfmioggelnaaDoor.Q
