/- The document's Find and Decode answer as the program's. Plain Lean over the printed functions. Condition: a text of at most 2^40 bytes. -/
import Derived.Test.YtablhjobjmmpnaaDoorP3
import Derived.Test.YtablhjobjmmpnaaDoorQ5
namespace Go.Proofs.YtablhjobjmmpnaaDoor.Q
set_option linter.unusedVariables false
set_option linter.unusedSimpArgs false
open Go.RowKit Go.Proofs.YtablhjobjmmpnaaDoorW.PrintWords Go.Proofs.YtablhjobjmmpnaaDoorW.PrintLast Go.Proofs.YtablhjobjmmpnaaDoorW.PrintMore

theorem alnum_dec : ∀ c : Fin 256, selvedgeref03_alnum.f (c.1 : Int) = some (alnumB c.1) := by decide +kernel
theorem alnum_eq (s : ByteArray) (i : Int) : selvedgeref03_alnum.f (bt s i) = some (alnumB (bt s i)) := by
  obtain ⟨c, hc⟩ := byte_fin s i
  rw [hc]; exact alnum_dec c
theorem nmL_len : ∀ x ∈ nmL, x.f0.size ≤ 100 := by decide +kernel
/-- lo: the longest so far, as the document keeps it. -/
def Lo (lo : ByteArray) (b : Best) : Prop := lo.size = b.len ∧ (0 < b.len → (bt lo ((b.len : Int) - 1) = 59 ↔ b.semi = true))
theorem bt_last (a : ByteArray) (c : UInt8) (n : Nat) (h : a.size = n) : bt (a ++ ⟨#[c]⟩) (n : Int) = c.toNat := by
  have h1 : ((n : Int)).toNat < (a ++ ⟨#[c]⟩).size := by rw [Int.toNat_natCast, ByteArray.size_append, h]; show n < n + 1; omega
  rw [← bt_at _ (n : Int) h1]
  have : (a ++ ⟨#[c]⟩)[((n : Int)).toNat] = (a ++ ⟨#[c]⟩).data.toList[n]'(by
    have h2 : (a ++ (⟨#[c]⟩ : ByteArray)).data.toList.length = a.size + 1 := by simp [ByteArray.data_append]
    omega) := rfl
  rw [this]
  have hl : a.data.toList.length = n := by simpa using h
  simp [ByteArray.data_append, ← hl]
theorem find_end (s : ByteArray) (attr : Bool) (lo : ByteArray) (b : Best) (hlo : Lo lo b) (hls : lo.size ≤ 1000) (hs : s.size ≤ 1099511627776) :
    Ev (fun k => (if (lo.size : Int) = 0 then (some (0, 0, false)) else (if attr = true then (if 0 ≤ (wrap64 ((lo.size : Int) - 1)) then (if (wrap64 ((lo.size : Int) - 1)) < (lo.size : Int) then (if (bt lo (wrap64 ((lo.size : Int) - 1))) = 59 then (some (b.r, (lo.size : Int), true)) else (if (lo.size : Int) < (s.size : Int) then (if 0 ≤ (lo.size : Int) then (if (bt s (lo.size : Int)) = 61 then (some (0, 0, false)) else ((selvedgeref03_alnum.f (bt s (lo.size : Int))).bind fun t121 => (if t121 = true then (some (0, 0, false)) else (some (b.r, (lo.size : Int), true))))) else (none)) else (some (b.r, (lo.size : Int), true)))) else (none)) else (none)) else (some (b.r, (lo.size : Int), true))))) (finB s attr b) := by
  obtain ⟨h1, hq⟩ := hlo
  have fin : ∀ {c d : Int × Int × Bool}, (b.len ≠ 0) → (attr = true ∧ b.semi = false ∧ b.len < s.size ∧ (bt s (b.len : Nat) = 61 ∨ alnumB (bt s (b.len : Nat)) = true)) → finB s attr b = (0, 0, false) := fun h h' => by unfold finB; rw [if_neg h, if_pos h']
  have fout : (b.len ≠ 0) → ¬ (attr = true ∧ b.semi = false ∧ b.len < s.size ∧ (bt s (b.len : Nat) = 61 ∨ alnumB (bt s (b.len : Nat)) = true)) → finB s attr b = (b.r, (b.len : Int), true) := fun h h' => by unfold finB; rw [if_neg h, if_neg h']
  have fin := @fin (0, 0, false) (0, 0, false)
  rw [h1]
  by_cases h0 : b.len = 0
  · rw [show finB s attr b = (0, 0, false) by unfold finB; rw [if_pos h0]]; exact Ev.pos (by omega) (Ev.now _)
  refine Ev.neg (by omega) ?_
  cases attr with
  | false => rw [fout h0 (by simp)]; exact Ev.neg (by simp) (Ev.now _)
  | true =>
    have hw : wrap64 ((b.len : Int) - 1) = (b.len : Int) - 1 := by unfold wrap64; omega
    rw [hw]
    refine Ev.pos rfl (Ev.pos (by omega) (Ev.pos (by omega) ?_))
    have hq := hq (by omega)
    by_cases hse : b.semi = true
    · rw [fout h0 (fun h => by rw [hse] at h; cases h.2.1)]
      exact Ev.pos (hq.2 hse) (Ev.now _)
    · refine Ev.neg (fun h => hse (hq.1 h)) ?_
      have hse' : b.semi = false := by simpa using hse
      by_cases hl : b.len < s.size
      · refine Ev.pos (by omega) (Ev.pos (by omega) ?_)
        by_cases h61 : bt s (b.len : Int) = 61
        · rw [fin h0 ⟨rfl, hse', hl, .inl h61⟩]; exact Ev.pos h61 (Ev.now _)
        · refine Ev.neg h61 ?_
          rw [alnum_eq]
          refine Ev.bind (Ev.now _) ?_
          cases ha : alnumB (bt s (b.len : Int)) with
          | true => rw [fin h0 ⟨rfl, hse', hl, .inr ha⟩]; exact Ev.pos rfl (Ev.now _)
          | false => rw [fout h0 (fun h => h.2.2.2.elim h61 (by rw [ha]; simp))]; exact Ev.neg (by simp) (Ev.now _)
      · rw [fout h0 (fun h => hl h.2.2.1)]; exact Ev.neg (by omega) (Ev.now _)
section
variable {s : ByteArray} {M : List UInt8} (hM : s.data.toList = 38 :: M)
include hM
theorem pre_amp (x : ByteArray) : Lib.hasPrefix s.data.toList ((⟨#[38]⟩ : ByteArray) ++ x).data.toList = decide (x.data.toList <+: M) := by
  rw [Bool.eq_iff_iff]
  unfold Lib.hasPrefix
  rw [hM]
  simp [ByteArray.data_append, List.isPrefixOf_iff_prefix]
theorem pre_semi (x : ByteArray) (h : x.data.toList <+: M) : Lib.hasPrefix s.data.toList (((⟨#[38]⟩ : ByteArray) ++ x) ++ (⟨#[59]⟩ : ByteArray)).data.toList = decide (M[x.size]? = some 59) := by
  rw [Bool.eq_iff_iff]
  unfold Lib.hasPrefix
  rw [hM]
  obtain ⟨r, hr⟩ := h
  have hl : x.data.toList.length = x.size := by simp
  rw [← hr, ← hl]
  simp only [ByteArray.data_append, Array.toList_append, List.isPrefixOf_iff_prefix, List.append_assoc, List.cons_append, List.nil_append, List.cons_prefix_cons, true_and, List.prefix_append_right_inj, decide_eq_true_eq]
  rw [List.getElem?_append_right (Nat.le_refl _)]
  cases r with
  | nil => simp
  | cons a r => simp [List.cons_prefix_cons]; exact eq_comm
theorem find_loop (attr : Bool) (hs : s.size ≤ 1099511627776) : ∀ (f i : Nat) (lo : ByteArray) (b : Best), i + f = nmL.length → Lo lo b → lo.size ≤ 1000 →
    Ev (fun k => selvedgeref03_Find.l0 k s attr nmL lo b.r i) (finB s attr ((nmL.drop i).foldl (stepB M) b)) := by
  intro f
  induction f with
  | zero =>
    intro i lo b hi hlo hls
    rw [List.drop_eq_nil_of_le (by omega)]
    refine Ev.step (fun k => by rw [selvedgeref03_Find.l0]) (Ev.neg (by omega) ?_)
    exact find_end s attr lo b hlo hls hs
  | succ f ih =>
    intro i lo b hi hlo hls
    have hlen : nmL.length = 59 := rfl
    have hg : nmL.drop i = nmL[i] :: nmL.drop (i + 1) := List.drop_eq_getElem_cons (by omega)
    have hrd : rd_T35 nmL i = nmL[i] := by unfold rd_T35; simp [List.getD_eq_getElem?_getD, show i < nmL.length by omega]
    have hx := nmL_len nmL[i] (List.getElem_mem _)
    have hsz1 : ((⟨#[38]⟩ : ByteArray) ++ nmL[i].f0).size = 1 + nmL[i].f0.size := by rw [ByteArray.size_append]; rfl
    have hsz2 : (((⟨#[38]⟩ : ByteArray) ++ nmL[i].f0) ++ (⟨#[59]⟩ : ByteArray)).size = nmL[i].f0.size + 2 := by rw [ByteArray.size_append, hsz1]; show _ + 1 = _; omega
    rw [hg, List.foldl_cons]
    refine Ev.step (fun k => by rw [selvedgeref03_Find.l0]) (Ev.pos (by omega) (Ev.pos (by omega) ?_))
    rw [hrd]
    refine Ev.pos (by omega) ?_
    rw [begins_eq, begins_eq, pre_amp hM]
    refine Ev.bind (Ev.now _) ?_
    have hnx : wrap64 ((i : Int) + 1) = ((i + 1 : Nat) : Int) := wrap64_nat i (by omega)
    rw [hnx]
    have hsame : stepB M b nmL[i] = b → Ev (fun k => selvedgeref03_Find.l0 k s attr nmL lo b.r ((i + 1 : Nat) : Int)) (finB s attr ((nmL.drop (i + 1)).foldl (stepB M) (stepB M b nmL[i]))) := fun h => by
      rw [h]; exact ih (i + 1) lo b (by omega) hlo hls
    unfold stepB at hsame ⊢
    by_cases hp : nmL[i].f0.data.toList <+: M
    · refine Ev.pos (decide_eq_true hp) (Ev.pos (by rw [hsz1]; omega) ?_)
      rw [pre_semi hM _ hp]
      refine Ev.bind (Ev.now _) ?_
      rw [if_pos hp] at hsame ⊢
      by_cases h59 : M[nmL[i].f0.size]? = some 59
      · refine Ev.pos (decide_eq_true h59) ?_
        rw [if_pos h59] at hsame ⊢
        by_cases hgt : b.len < nmL[i].f0.size + 2
        · rw [if_pos hgt] at hsame ⊢
          refine Ev.pos (by rw [hsz2, hlo.1]; omega) ?_
          refine ih (i + 1) _ ⟨nmL[i].f0.size + 2, true, nmL[i].f1⟩ (by omega) ⟨hsz2, fun _ => ?_⟩ (by omega)
          have := bt_last ((⟨#[38]⟩ : ByteArray) ++ nmL[i].f0) 59 (nmL[i].f0.size + 1) (by omega)
          simp only [show ((nmL[i].f0.size + 2 : Nat) : Int) - 1 = ((nmL[i].f0.size + 1 : Nat) : Int) by omega, this]
          simp
        · rw [if_neg hgt] at hsame ⊢
          exact Ev.neg (by rw [hsz2, hlo.1]; omega) (hsame rfl)
      · refine Ev.neg (by simpa using h59) ?_
        rw [if_neg h59] at hsame ⊢
        by_cases ha : nmL[i].f2 = true
        · refine Ev.pos ha ?_
          rw [if_pos ha] at hsame ⊢
          by_cases hgt : b.len < nmL[i].f0.size + 1
          · rw [if_pos hgt] at hsame ⊢
            refine Ev.pos (by rw [hsz1, hlo.1]; omega) ?_
            refine ih (i + 1) _ ⟨nmL[i].f0.size + 1, false, nmL[i].f1⟩ (by omega) ⟨by rw [hsz1]; show _ = nmL[i].f0.size + 1; omega, fun _ => ?_⟩ (by omega)
            obtain ⟨p, hb, _, _⟩ := nm_of nmL[i] (List.getElem_mem _)
            have hal := nm_alnum p
            have hlen2 : (nmB p.1).length = nmL[i].f0.size := by rw [hb]; simp
            have hpos := nm_pos p
            rw [hlen2] at hpos
            have h1 : (((nmL[i].f0.size + 1 : Nat) : Int) - 1).toNat < ((⟨#[38]⟩ : ByteArray) ++ nmL[i].f0).size := by omega
            rw [← bt_at _ _ h1]
            have hge : ((⟨#[38]⟩ : ByteArray) ++ nmL[i].f0)[(((nmL[i].f0.size + 1 : Nat) : Int) - 1).toNat] = (nmB p.1)[nmL[i].f0.size - 1]'(by omega) := by
              have : ((⟨#[38]⟩ : ByteArray) ++ nmL[i].f0)[(((nmL[i].f0.size + 1 : Nat) : Int) - 1).toNat] = ((⟨#[38]⟩ : ByteArray) ++ nmL[i].f0).data.toList[(((nmL[i].f0.size + 1 : Nat) : Int) - 1).toNat]'(by simp [ByteArray.data_append]) := rfl
              rw [this]
              simp only [ByteArray.data_append, Array.toList_append]
              rw [List.getElem_append_right (by simp; omega)]
              simp only [hb]
              congr 1
              simp
            rw [hge]
            have := List.all_eq_true.1 hal _ (List.getElem_mem (l := nmB p.1) (n := nmL[i].f0.size - 1) (by omega))
            constructor
            · intro h
              rw [h] at this
              exact absurd this (by decide)
            · intro h; cases h
          · rw [if_neg hgt] at hsame ⊢
            exact Ev.neg (by rw [hsz1, hlo.1]; omega) (hsame rfl)
        · rw [if_neg ha] at hsame ⊢
          exact Ev.neg ha (hsame rfl)
    · rw [if_neg hp] at hsame ⊢
      exact Ev.neg (by simpa using hp) (hsame rfl)
end
end Go.Proofs.YtablhjobjmmpnaaDoor.Q
