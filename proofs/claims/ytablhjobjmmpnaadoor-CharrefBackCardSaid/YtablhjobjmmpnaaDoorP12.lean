/- CharrefBack as plain Lean: a text in which each & is &amp; is decoded as the text, so is one without any &. No condition. -/
import Derived.Test.YtablhjobjmmpnaaDoorP8
import Derived.Test.YtablhjobjmmpnaaDoorQB1
namespace Go.Proofs.YtablhjobjmmpnaaDoor.Q
set_option linter.unusedVariables false
set_option linter.unusedSimpArgs false
open Go.RowKit Go.Proofs.YtablhjobjmmpnaaDoorW.PrintWords Go.Proofs.YtablhjobjmmpnaaDoorW.PrintLast Go.Proofs.YtablhjobjmmpnaaDoorW.PrintMore

def esc : List UInt8 → List UInt8
  | [] => []
  | c :: l => (if c = 38 then [38, 97, 109, 112, 59] else [c]) ++ esc l
def wo : List UInt8 → List UInt8
  | [] => []
  | c :: l => (if c = 38 then [] else [c]) ++ wo l
theorem esc_append : ∀ a b, esc (a ++ b) = esc a ++ esc b
  | [], b => rfl
  | c :: a, b => by rw [List.cons_append, esc, esc, esc_append a b, List.append_assoc]
theorem wo_append : ∀ a b, wo (a ++ b) = wo a ++ wo b
  | [], b => rfl
  | c :: a, b => by rw [List.cons_append, wo, wo, wo_append a b, List.append_assoc]
theorem esc_len : ∀ a, (esc a).length ≤ 5 * a.length ∧ (wo a).length ≤ a.length
  | [] => ⟨Nat.le_refl _, Nat.le_refl _⟩
  | c :: a => by
    have := esc_len a
    rw [esc, wo, List.length_append, List.length_append, List.length_cons]
    split <;> simp only [List.length_cons, List.length_nil] <;> omega
theorem wo_no : ∀ a, ∀ c ∈ wo a, c ≠ 38
  | [], c, h => by cases h
  | d :: a, c, h => by
    rw [wo] at h
    rcases List.mem_append.1 h with h | h
    · by_cases hd : d = 38
      · rw [if_pos hd] at h; cases h
      · rw [if_neg hd] at h; rw [List.mem_singleton.1 h]; exact hd
    · exact wo_no a c h
theorem amp_mem : (⟨(⟨#[97, 109, 112]⟩ : ByteArray), 38, true⟩ : S35) ∈ nmL := by unfold nmL; exact List.mem_cons_self
theorem dec_amp (attr : Bool) (rest : List UInt8) : dec attr (38 :: 97 :: 109 :: 112 :: 59 :: rest) = 38 :: dec attr rest := dec_semi attr _ amp_mem rest
theorem dec_esc (attr : Bool) : ∀ a, dec attr (esc a) = a
  | [] => rfl
  | c :: a => by
    rw [esc]
    by_cases hc : c = 38
    · rw [if_pos hc, hc]
      show dec attr (38 :: 97 :: 109 :: 112 :: 59 :: esc a) = _
      rw [dec_amp, dec_esc attr a]
    · rw [if_neg hc, dec_plain attr [c] _ (fun d hd => by rw [List.mem_singleton.1 hd]; exact hc), dec_esc attr a]; rfl
theorem amp_bytes : bytesOf (⟨#[38, 97, 109, 112, 59]⟩ : ByteArray) = byteInts [38, 97, 109, 112, 59] := by decide +kernel
theorem byteInts_append (a b : List UInt8) : byteInts a ++ byteInts b = byteInts (a ++ b) := by simp [byteInts]
theorem byteInts_len (a : List UInt8) : (byteInts a).length = a.length := by simp [byteInts]
theorem back_loop (s : ByteArray) (attr : Bool) (hs : s.size ≤ 5000) : ∀ (f : Nat) (p q : List UInt8), s.data.toList = p ++ q → q.length ≤ f →
    Ev (fun k => QB.selvedgelaw03_CharrefBack.l0 k s attr (byteInts (esc p)) (byteInts (wo p)) p.length) true := by
  have hl : s.data.toList.length = s.size := by simp
  have atEnd : Ev (fun k => QB.selvedgelaw03_CharrefBack.l0 k s attr (byteInts (esc s.data.toList)) (byteInts (wo s.data.toList)) (s.data.toList.length : Nat)) true := by
    have he := esc_len s.data.toList
    have sz : ∀ x : List UInt8, (⟨x.toArray⟩ : ByteArray).size = x.length := fun x => by simp [ByteArray.size]
    refine Ev.step (fun k => by rw [QB.selvedgelaw03_CharrefBack.l0]) (Ev.neg (by omega) ?_)
    rw [strOfNums_byteInts, strOfNums_byteInts]
    refine Ev.bind (decode_ev _ _ (by rw [sz]; omega)) (Ev.pos ?_ (Ev.bind (decode_ev _ _ (by rw [sz]; omega)) (Ev.pos ?_ works_ev')))
    · rw [decB_list, ByteArray.toList_eq]; exact dec_esc attr _
    · rw [decB_list, ByteArray.toList_eq]; exact dec_none attr _ (wo_no _)
  intro f
  induction f with
  | zero =>
    intro p q h hf
    obtain rfl := List.length_eq_zero_iff.1 (Nat.le_zero.1 hf)
    rw [List.append_nil] at h
    rw [← h]; exact atEnd
  | succ f ih =>
    intro p q h hf
    cases q with
    | nil =>
      rw [List.append_nil] at h
      rw [← h]; exact atEnd
    | cons c q =>
      have hlt : p.length < s.size := by rw [← hl, h]; simp
      have hb := bt_list s p c q h
      have he := esc_len p
      have next := ih (p ++ [c]) q (by rw [h]; simp) (by simpa using hf)
      rw [esc_append, wo_append, List.length_append, List.length_singleton] at next
      refine Ev.step (fun k => by rw [QB.selvedgelaw03_CharrefBack.l0]) (Ev.pos (by omega) (Ev.pos (by omega) ?_))
      rw [hb, wrap64_nat _ (by omega), amp_bytes, byteInts_append, show ([(c.toNat : Int)] : List Int) = byteInts [c] from rfl, byteInts_append, byteInts_append, byteInts_len, byteInts_len]
      by_cases hc : c = 38
      · refine Ev.pos (by rw [hc]; rfl) (Ev.pos (by omega) ?_)
        rw [show esc [c] = [38, 97, 109, 112, 59] by rw [esc, if_pos hc]; rfl, show wo [c] = [] by rw [wo, if_pos hc]; rfl, List.append_nil] at next
        exact next
      · refine Ev.neg (fun e => hc (UInt8.toNat_inj.1 (show c.toNat = (38 : UInt8).toNat by exact_mod_cast e))) (Ev.pos (by omega) (Ev.pos (by omega) ?_))
        rw [show esc [c] = [c] by rw [esc, if_neg hc]; rfl, show wo [c] = [c] by rw [wo, if_neg hc]; rfl] at next
        exact next
theorem back_ev (s : ByteArray) (attr : Bool) : Ev (fun k => QB.selvedgelaw03_CharrefBack.f k s attr) true := by
  unfold QB.selvedgelaw03_CharrefBack.f
  by_cases h : (s.size : Int) > 5000
  · exact Ev.pos h works_ev'
  · exact Ev.neg h (back_loop s attr (by omega) s.data.toList.length [] s.data.toList rfl (Nat.le_refl _))
theorem pureCharrefBack (s : ByteArray) (attr : Bool) : ∃ k, QB.selvedgelaw03_CharrefBack.f k s attr = some true := (back_ev s attr).rounds
end Go.Proofs.YtablhjobjmmpnaaDoor.Q
