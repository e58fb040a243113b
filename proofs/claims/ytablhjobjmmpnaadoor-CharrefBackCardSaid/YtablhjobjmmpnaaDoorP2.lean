/- The search by halves tells just whether a word is one of the names; a reference by name is the longest. Plain Lean. No condition. -/
import Derived.Test.YtablhjobjmmpnaaDoorP1
namespace Go.Proofs.YtablhjobjmmpnaaDoor.Q
set_option linter.unusedVariables false
set_option linter.unusedSimpArgs false
open Go.RowKit Go.Proofs.YtablhjobjmmpnaaDoorW.PrintWords Go.Proofs.YtablhjobjmmpnaaDoorW.PrintLast Go.Proofs.YtablhjobjmmpnaaDoorW.PrintMore

/-! ### the order of bytes -/
theorem cmp_self : ∀ a : List UInt8, Lib.compareBytes a a = 0
  | [] => rfl
  | x :: a => by simp [Lib.compareBytes, cmp_self a]
theorem cmp_zero : ∀ a b : List UInt8, Lib.compareBytes a b = 0 → a = b
  | [], [], _ => rfl
  | [], _ :: _, h => by simp [Lib.compareBytes] at h
  | _ :: _, [], h => by simp [Lib.compareBytes] at h
  | x :: a, y :: b, h => by
    unfold Lib.compareBytes at h
    split at h
    · cases h
    · split at h
      · cases h
      · rename_i h1 h2
        have : x = y := by
          have h1' : ¬ x.toNat < y.toNat := fun h => h1 (UInt8.lt_iff_toNat_lt.2 h)
          have h2' : ¬ y.toNat < x.toNat := fun h => h2 (UInt8.lt_iff_toNat_lt.2 h)
          exact UInt8.toNat_inj.1 (by omega)
        rw [this, cmp_zero a b h]
theorem cmp_trans : ∀ a b c : List UInt8, Lib.compareBytes a b < 0 → Lib.compareBytes b c < 0 → Lib.compareBytes a c < 0
  | [], [], c, h, _ => by simp [Lib.compareBytes] at h
  | [], y :: b, [], _, h => by simp [Lib.compareBytes] at h
  | [], y :: b, z :: c, _, _ => by simp [Lib.compareBytes]
  | x :: a, [], c, h, _ => by simp [Lib.compareBytes] at h
  | x :: a, y :: b, [], _, h => by simp [Lib.compareBytes] at h
  | x :: a, y :: b, z :: c, h1, h2 => by
    unfold Lib.compareBytes at *
    simp only [UInt8.lt_iff_toNat_lt] at *
    by_cases c1 : x.toNat < y.toNat
    · by_cases c2 : y.toNat < z.toNat
      · rw [if_pos (by omega)]; decide
      · rw [if_neg c2] at h2
        by_cases c3 : z.toNat < y.toNat
        · rw [if_pos c3] at h2; omega
        · rw [if_pos (by omega)]; decide
    · rw [if_neg c1] at h1
      by_cases c2 : y.toNat < x.toNat
      · rw [if_pos c2] at h1; omega
      · rw [if_neg c2] at h1
        by_cases c3 : y.toNat < z.toNat
        · rw [if_pos (by omega)]; decide
        · rw [if_neg c3] at h2
          by_cases c4 : z.toNat < y.toNat
          · rw [if_pos c4] at h2; omega
          · rw [if_neg c4] at h2
            rw [if_neg (by omega), if_neg (by omega)]
            exact cmp_trans a b c h1 h2

/-! ### the table -/
def nmB (i : Nat) : List UInt8 := (nmAt i).1.data.toList
theorem nm_next : ∀ i : Fin 58, Lib.compareBytes (nmB i.1) (nmB (i.1 + 1)) < 0 := by decide +kernel
theorem nm_lt (i : Nat) : ∀ d, i + d + 1 < 59 → Lib.compareBytes (nmB i) (nmB (i + d + 1)) < 0
  | 0, h => nm_next ⟨i, by omega⟩
  | d + 1, h => cmp_trans _ _ _ (nm_lt i d (by omega)) (nm_next ⟨i + d + 1, by omega⟩)
theorem nm_inj (i j : Nat) (hi : i < 59) (hj : j < 59) (h : nmB i = nmB j) : i = j := by
  rcases Nat.lt_trichotomy i j with hl | rfl | hl
  · have := nm_lt i (j - i - 1) (by omega)
    rw [show i + (j - i - 1) + 1 = j by omega, h, cmp_self] at this
    omega
  · rfl
  · have := nm_lt j (i - j - 1) (by omega)
    rw [show j + (i - j - 1) + 1 = i by omega, h, cmp_self] at this
    omega
theorem cmpN_down (t : ByteArray) (i j : Nat) (hij : i < j) (hj : j < 59) (h : cmpN j t < 0) : cmpN i t < 0 := by
  have := nm_lt i (j - i - 1) (by omega)
  rw [show i + (j - i - 1) + 1 = j by omega] at this
  exact cmp_trans _ _ _ this h
theorem halves_spec (t : ByteArray) : ∀ f i j, i ≤ j → j ≤ 59 → j ≤ i + f → (∀ q, q < i → cmpN q t < 0) → (∀ q, j ≤ q → q < 59 → ¬ cmpN q t < 0) →
    halves t f i j ≤ 59 ∧ (∀ q, q < halves t f i j → cmpN q t < 0) ∧ (∀ q, halves t f i j ≤ q → q < 59 → ¬ cmpN q t < 0)
  | 0, i, j, h1, h2, h3, h4, h5 => by
    obtain rfl : i = j := by omega
    exact ⟨h2, h4, h5⟩
  | f + 1, i, j, h1, h2, h3, h4, h5 => by
    rw [halves]
    by_cases hlt : i < j
    · rw [if_pos hlt]
      split
      · rename_i hc
        refine halves_spec t f _ _ (by omega) h2 (by omega) (fun q hq => ?_) h5
        rcases Nat.lt_or_ge q ((i + j) / 2) with h | h
        · exact cmpN_down t q _ h (by omega) hc
        · obtain rfl : q = (i + j) / 2 := by omega
          exact hc
      · rename_i hc
        refine halves_spec t f _ _ (by omega) (by omega) (by omega) h4 (fun q hq hq2 hcq => ?_)
        rcases Nat.lt_or_ge ((i + j) / 2) q with h | h
        · exact hc (cmpN_down t _ q h hq2 hcq)
        · obtain rfl : q = (i + j) / 2 := by omega
          exact hc hcq
    · rw [if_neg hlt]
      obtain rfl : i = j := by omega
      exact ⟨h2, h4, h5⟩
theorem halves_found (t : ByteArray) (h : halves t 59 0 59 < 59 ∧ cmpN (halves t 59 0 59) t = 0) : nmB (halves t 59 0 59) = t.data.toList := cmp_zero _ _ h.2
theorem halves_is (t : ByteArray) (q : Nat) (hq : q < 59) (h : nmB q = t.data.toList) : halves t 59 0 59 = q ∧ cmpN q t = 0 := by
  obtain ⟨h1, h2, h3⟩ := halves_spec t 59 0 59 (by omega) (by omega) (by omega) (fun q hq => by omega) (fun q h1 h2 => by omega)
  have h0 : cmpN q t = 0 := by unfold cmpN; rw [show (nmAt q).1.data.toList = nmB q from rfl, h, cmp_self]
  refine ⟨?_, h0⟩
  rcases Nat.lt_trichotomy q (halves t 59 0 59) with hl | he | hl
  · have := h2 q hl; omega
  · exact he.symm
  · have hp := cmpN_down
    have := nm_lt (halves t 59 0 59) (q - halves t 59 0 59 - 1) (by omega)
    rw [show halves t 59 0 59 + (q - halves t 59 0 59 - 1) + 1 = q by omega, h] at this
    exact absurd this (h3 _ (Nat.le_refl _) (by omega))
theorem nm_alnum : ∀ i : Fin 59, (nmB i.1).all (fun c => alnumB c.toNat) = true := by decide +kernel
theorem nm_pos : ∀ i : Fin 59, 0 < (nmB i.1).length := by decide +kernel
theorem nm_len : ∀ i : Fin 59, (nmB i.1).length ≤ 100 := by decide +kernel
theorem nm_of : ∀ x ∈ nmL, ∃ p : Fin 59, nmB p.1 = x.f0.data.toList ∧ (nmAt p.1).2.1 = x.f1 ∧ (nmAt p.1).2.2 = x.f2 := by decide +kernel
theorem nm_to : ∀ p : Fin 59, ∃ x ∈ nmL, nmB p.1 = x.f0.data.toList ∧ (nmAt p.1).2.1 = x.f1 ∧ (nmAt p.1).2.2 = x.f2 := by decide +kernel
end Go.Proofs.YtablhjobjmmpnaaDoor.Q
