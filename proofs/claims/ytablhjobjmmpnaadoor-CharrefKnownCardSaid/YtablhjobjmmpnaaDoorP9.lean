/- What a number is written as, and what it is read as; CharrefNumbers as plain Lean. Conditions: the numbers are of their types. -/
import Derived.Test.YtablhjobjmmpnaaDoorP8
namespace Go.Proofs.YtablhjobjmmpnaaDoor.Q
set_option linter.unusedVariables false
set_option linter.unusedSimpArgs false
open Go.RowKit Go.Proofs.YtablhjobjmmpnaaDoorW.PrintWords Go.Proofs.YtablhjobjmmpnaaDoorW.PrintLast Go.Proofs.YtablhjobjmmpnaaDoorW.PrintMore

def vstep (base : Int) (n : Int) (c : UInt8) : Int := n * base + dg c.toNat
theorem vstep_ge (base : Int) (hb : 1 ≤ base) : ∀ (l : List UInt8) (v : Int), 0 ≤ v → 0 ≤ l.foldl (vstep base) v
  | [], v, h => h
  | c :: l, v, h => by
    have hd := dg_range (c.toNat : Int)
    refine vstep_ge base hb l _ ?_
    have : 0 ≤ v * base := Int.mul_nonneg h (by omega)
    unfold vstep; omega
theorem dstep_min (base : Int) (hb : base = 10 ∨ base = 16) : ∀ (l : List UInt8) (v : Int), 0 ≤ v → l.foldl (dstep base) (min v 1114112) = min (l.foldl (vstep base) v) 1114112
  | [], v, _ => rfl
  | c :: l, v, h => by
    have hd := dg_range (c.toNat : Int)
    rw [List.foldl_cons, List.foldl_cons]
    have e : dstep base (min v 1114112) c = min (vstep base v c) 1114112 := by
      unfold dstep vstep
      rcases hb with rfl | rfl <;> omega
    rw [e]
    exact dstep_min base hb l _ (by unfold vstep; rcases hb with rfl | rfl <;> omega)
/-- Digits, and none behind. -/
theorem numD_at (base : Int) (hb : base = 10 ∨ base = 16) (D R : List UInt8) (h1 : D ≠ []) (h2 : ∀ c ∈ D, dp base c = true) (h3 : ∀ c, R.head? = some c → dp base c = false) :
    numD base (D ++ R) = (numC (min (D.foldl (vstep base) 0) 1114112), (D.length : Int) + (if R.head? = some 59 then 1 else 0), true) := by
  have ht : (D ++ R).takeWhile (dp base) = D := by
    rw [List.takeWhile_append_of_pos h2]
    cases R with
    | nil => simp
    | cons c R => rw [List.takeWhile_cons_of_neg (by rw [h3 c rfl]; simp), List.append_nil]
  have hm := dstep_min base hb D 0 (by omega)
  rw [show min (0 : Int) 1114112 = 0 by omega] at hm
  unfold numD
  rw [ht, if_neg (by simpa using h1), hm, List.drop_left]
theorem isX_digit : ∀ c : Fin 256, dp 10 (UInt8.ofNat c.1) = true → isX (UInt8.ofNat c.1) = false := by decide +kernel
theorem isX_dp (c : UInt8) (h : dp 10 c = true) : isX c = false := by
  have := isX_digit ⟨c.toNat, c.toNat_lt⟩
  simp only [UInt8.ofNat_toNat] at this
  exact this h
theorem isX120 : isX 120 = true := by decide +kernel
/-- &#, digits, what follows. -/
theorem dec_dec (attr : Bool) (D R : List UInt8) (h1 : D ≠ []) (h2 : ∀ c ∈ D, dp 10 c = true) (h3 : ∀ c, R.head? = some c → dp 10 c = false) :
    dec attr (38 :: 35 :: (D ++ R)) = Lib.encodeRune (numC (min (D.foldl (vstep 10) 0) 1114112)) ++ dec attr (R.drop (if R.head? = some 59 then 1 else 0)) := by
  have hX : numX (D ++ R) = numD 10 (D ++ R) := by
    cases D with
    | nil => exact absurd rfl h1
    | cons c D =>
      show (if isX c = true then up1 (numD 16 (D ++ R)) else numD 10 (c :: (D ++ R))) = _
      rw [isX_dp c (h2 c (by simp)), if_neg (by simp)]; rfl
  have hf : fd attr (38 :: 35 :: (D ++ R)) = (numC (min (D.foldl (vstep 10) 0) 1114112), (D.length : Int) + (if R.head? = some 59 then 1 else 0) + 2, true) := by
    rw [fd_num, hX, numD_at 10 (.inl rfl) D R h1 h2 h3]; rfl
  have hd : List.drop ((D.length : Int) + (if R.head? = some 59 then 1 else 0) + 2).toNat (38 :: 35 :: (D ++ R)) = R.drop (if R.head? = some 59 then 1 else 0) := by
    by_cases c : R.head? = some 59
    · simp only [c, if_true]
      rw [show ((D.length : Int) + 1 + 2).toNat = (D.length + 1) + 1 + 1 by omega, List.drop_succ_cons, List.drop_succ_cons, List.drop_append, List.drop_eq_nil_of_le (by omega), show D.length + 1 - D.length = 1 by omega]; rfl
    · simp only [c, if_false]
      rw [show ((D.length : Int) + 0 + 2).toNat = D.length + 1 + 1 by omega, List.drop_succ_cons, List.drop_succ_cons, List.drop_left]; rfl
  rw [dec_cons, hf, if_pos rfl]
  show Lib.encodeRune (numC (min (D.foldl (vstep 10) 0) 1114112)) ++ dec attr (List.drop ((D.length : Int) + (if R.head? = some 59 then 1 else 0) + 2).toNat (38 :: 35 :: (D ++ R))) = _
  rw [hd]
/-- &#x, digits, what follows. -/
theorem dec_hex (attr : Bool) (D R : List UInt8) (h1 : D ≠ []) (h2 : ∀ c ∈ D, dp 16 c = true) (h3 : ∀ c, R.head? = some c → dp 16 c = false) :
    dec attr (38 :: 35 :: 120 :: (D ++ R)) = Lib.encodeRune (numC (min (D.foldl (vstep 16) 0) 1114112)) ++ dec attr (R.drop (if R.head? = some 59 then 1 else 0)) := by
  have hf : fd attr (38 :: 35 :: 120 :: (D ++ R)) = (numC (min (D.foldl (vstep 16) 0) 1114112), (D.length : Int) + (if R.head? = some 59 then 1 else 0) + 1 + 2, true) := by
    rw [fd_num]
    show up2 (if isX 120 = true then up1 (numD 16 (D ++ R)) else numD 10 (120 :: (D ++ R))) = _
    rw [isX120, if_pos rfl, numD_at 16 (.inr rfl) D R h1 h2 h3]; rfl
  have hd : List.drop ((D.length : Int) + (if R.head? = some 59 then 1 else 0) + 1 + 2).toNat (38 :: 35 :: 120 :: (D ++ R)) = R.drop (if R.head? = some 59 then 1 else 0) := by
    by_cases c : R.head? = some 59
    · simp only [c, if_true]
      rw [show ((D.length : Int) + 1 + 1 + 2).toNat = (D.length + 1) + 1 + 1 + 1 by omega, List.drop_succ_cons, List.drop_succ_cons, List.drop_succ_cons, List.drop_append, List.drop_eq_nil_of_le (by omega), show D.length + 1 - D.length = 1 by omega]; rfl
    · simp only [c, if_false]
      rw [show ((D.length : Int) + 0 + 1 + 2).toNat = D.length + 1 + 1 + 1 by omega, List.drop_succ_cons, List.drop_succ_cons, List.drop_succ_cons, List.drop_left]; rfl
  rw [dec_cons, hf, if_pos rfl]
  show Lib.encodeRune (numC (min (D.foldl (vstep 16) 0) 1114112)) ++ dec attr (List.drop ((D.length : Int) + (if R.head? = some 59 then 1 else 0) + 1 + 2).toNat (38 :: 35 :: 120 :: (D ++ R))) = _
  rw [hd]
/-! ### digits -/
def dchr (r : Nat) : UInt8 := ([48, 49, 50, 51, 52, 53, 54, 55, 56, 57, 97, 66, 99, 68, 101, 70] : List UInt8).getD r 0
theorem dchr_dg : ∀ r : Fin 16, dg ((dchr r.1).toNat : Int) = r.1 := by decide +kernel
theorem dchr_ext : ∀ r : Fin 16, (⟨#[48, 49, 50, 51, 52, 53, 54, 55, 56, 57, 97, 66, 99, 68, 101, 70]⟩ : ByteArray).extract ((r.1 : Int)).toNat ((r.1 : Int) + 1).toNat = ⟨#[dchr r.1]⟩ := by decide +kernel
def IsDig (base n : Int) (D : List UInt8) : Prop := D ≠ [] ∧ (∀ c ∈ D, dp base c = true) ∧ D.foldl (vstep base) 0 = n
theorem digits_zero (base : Int) (hb : base = 10 ∨ base = 16) (z : Int) (h0 : 0 ≤ z) (h1 : z ≤ 255) (n : Int) : ∀ (f i : Nat) (D : ByteArray), (i : Int) + f = z % 9 → D.size ≤ 60 + i → IsDig base n D.data.toList →
    ∃ E : ByteArray, Ev (fun k => selvedgelaw03_digits.l1 k z D i) E ∧ E.size ≤ 80 ∧ IsDig base n E.data.toList
  | 0, i, D, hf, hs, hD => by
    refine ⟨D, Ev.step (fun k => by rw [selvedgelaw03_digits.l1]) (Ev.neg (by rw [Int.tmod_eq_emod_of_nonneg h0]; omega) (Ev.now _)), by omega, hD⟩
  | f + 1, i, D, hf, hs, hD => by
    have z1 : (⟨#[48]⟩ : ByteArray).size = 1 := rfl
    have hsz : ((⟨#[48]⟩ : ByteArray) ++ D).size = 1 + D.size := by rw [ByteArray.size_append, z1]
    obtain ⟨E, e1, e2, e3⟩ := digits_zero base hb z h0 h1 n f (i + 1) ((⟨#[48]⟩ : ByteArray) ++ D) (by omega) (by omega) (by
      have hl : ((⟨#[48]⟩ : ByteArray) ++ D).data.toList = 48 :: D.data.toList := by simp [ByteArray.data_append]
      rw [hl]
      have h48 : dg ((48 : UInt8).toNat : Int) = 0 := by decide +kernel
      refine ⟨by simp, fun c hc => ?_, ?_⟩
      · rcases List.mem_cons.1 hc with rfl | hc
        · unfold dp; rw [h48]; rcases hb with rfl | rfl <;> rfl
        · exact hD.2.1 c hc
      · rw [List.foldl_cons, show vstep base 0 48 = 0 by unfold vstep; rw [h48]; omega]; exact hD.2.2)
    refine ⟨E, Ev.step (fun k => by rw [selvedgelaw03_digits.l1]) (Ev.pos (by rw [Int.tmod_eq_emod_of_nonneg h0]; omega) (Ev.pos (by omega) ?_)), e2, e3⟩
    rw [show ((i : Int) + 1) % 256 = ((i + 1 : Nat) : Int) by omega]
    exact e1
theorem digits_loop (base : Int) (hb : base = 10 ∨ base = 16) (z : Int) (h0 : 0 ≤ z) (h1 : z ≤ 255) (N : Int) : ∀ (f : Nat) (n : Int) (D : ByteArray), 0 ≤ n → n < 4294967296 → n < 2 ^ f → D.size + f ≤ 50 → (∀ c ∈ D.data.toList, dp base c = true) → D.data.toList.foldl (vstep base) n = N →
    (f = 0 → D.data.toList ≠ []) →
    ∃ E : ByteArray, Ev (fun k => selvedgelaw03_digits.l0 k n base z D) E ∧ E.size ≤ 80 ∧ IsDig base N E.data.toList := by
  intro f
  induction f with
  | zero =>
    intro n D hn0 hn1 hn2 hs hD hv hne
    obtain rfl : n = 0 := by simp at hn2; omega
    obtain ⟨E, e1, e2, e3⟩ := digits_zero base hb z h0 h1 N (z % 9).toNat 0 D (by omega) (by omega) ⟨hne rfl, hD, hv⟩
    replace e1 : Ev (fun k => selvedgelaw03_digits.l1 k z D 0) E := e1
    refine ⟨E, Ev.step (fun k => by rw [selvedgelaw03_digits.l0]) (Ev.neg (by omega) (Ev.neg (by rw [ByteArray.toList_eq]; exact hne rfl) e1)), e2, e3⟩
  | succ f ih =>
    intro n D hn0 hn1 hn2 hs hD hv hne
    have hmod : Int.tmod n base = n % base := Int.tmod_eq_emod_of_nonneg hn0
    have hdiv : Int.tdiv n base = n / base := Int.tdiv_eq_ediv_of_nonneg hn0
    have hr0 : 0 ≤ n % base := by rcases hb with rfl | rfl <;> omega
    have hr1 : n % base < base := by rcases hb with rfl | rfl <;> omega
    have hb16 : base ≤ 16 := by rcases hb with rfl | rfl <;> omega
    obtain ⟨r, hr⟩ : ∃ r : Nat, n % base = r := ⟨(n % base).toNat, by omega⟩
    have hx := dchr_ext ⟨r, by omega⟩
    have hg := dchr_dg ⟨r, by omega⟩
    simp only at hx hg
    have z1 : (⟨#[dchr r]⟩ : ByteArray).size = 1 := rfl
    have hsz : ((⟨#[dchr r]⟩ : ByteArray) ++ D).size = 1 + D.size := by rw [ByteArray.size_append, z1]
    have hl : ((⟨#[dchr r]⟩ : ByteArray) ++ D).data.toList = dchr r :: D.data.toList := by simp [ByteArray.data_append]
    have hq : n / base * base + r = n := by rw [← hr]; rcases hb with rfl | rfl <;> omega
    have hdig : dp base (dchr r) = true := by unfold dp; rw [hg]; simp; omega
    have go : ∃ E : ByteArray, Ev (fun k => selvedgelaw03_digits.l0 k (n / base) base z ((⟨#[dchr r]⟩ : ByteArray) ++ D)) E ∧ E.size ≤ 80 ∧ IsDig base N E.data.toList := by
      refine ih (n / base) _ (by rcases hb with rfl | rfl <;> omega) (by rcases hb with rfl | rfl <;> omega) (by have : (2 : Int) ^ (f + 1) = 2 ^ f * 2 := by rw [Int.pow_succ]
                                                                                                                 rcases hb with rfl | rfl <;> omega) (by omega) ?_ ?_ (fun _ => by rw [hl]; simp)
      · rw [hl]
        intro c hc
        rcases List.mem_cons.1 hc with rfl | hc
        · exact hdig
        · exact hD c hc
      · rw [hl, List.foldl_cons, show vstep base (n / base) (dchr r) = n by unfold vstep; rw [hg]; exact hq]; exact hv
    obtain ⟨E, e1, e2, e3⟩ := go
    have step : Ev (fun k => if base = 0 then none else (if 0 ≤ (Int.tmod n base) then (if (Int.tmod n base) ≤ (((Int.tmod n base) + 1) % 4294967296) then (if (((Int.tmod n base) + 1) % 4294967296) ≤ 16 then (if ((⟨#[48, 49, 50, 51, 52, 53, 54, 55, 56, 57, 97, 66, 99, 68, 101, 70]⟩ : ByteArray).extract ((Int.tmod n base) : Int).toNat ((((Int.tmod n base) + 1) % 4294967296) : Int).toNat).size + D.size ≤ 9223372036854775807 then (selvedgelaw03_digits.l0 k ((Int.tdiv n base) % 4294967296) base z (((⟨#[48, 49, 50, 51, 52, 53, 54, 55, 56, 57, 97, 66, 99, 68, 101, 70]⟩ : ByteArray).extract ((Int.tmod n base) : Int).toNat ((((Int.tmod n base) + 1) % 4294967296) : Int).toNat) ++ D)) else (none)) else (none)) else (none)) else (none))) E := by
      rw [hmod, hdiv, hr, show ((r : Int) + 1) % 4294967296 = (r : Int) + 1 by omega, hx, z1, show n / base % 4294967296 = n / base by rcases hb with rfl | rfl <;> omega]
      exact Ev.neg (by rcases hb with rfl | rfl <;> omega) (Ev.pos (by omega) (Ev.pos (by omega) (Ev.pos (by omega) (Ev.pos (by omega) e1))))
    by_cases hn : n > 0
    · exact ⟨E, Ev.step (fun k => by rw [selvedgelaw03_digits.l0]) (Ev.pos hn step), e2, e3⟩
    · by_cases hz : D.data.toList = []
      · exact ⟨E, Ev.step (fun k => by rw [selvedgelaw03_digits.l0]) (Ev.neg hn (Ev.pos (by rw [ByteArray.toList_eq]; exact hz) step)), e2, e3⟩
      · obtain rfl : n = 0 := by omega
        obtain ⟨E, e1, e2, e3⟩ := digits_zero base hb z h0 h1 N (z % 9).toNat 0 D (by omega) (by omega) ⟨hz, hD, hv⟩
        replace e1 : Ev (fun k => selvedgelaw03_digits.l1 k z D 0) E := e1
        exact ⟨E, Ev.step (fun k => by rw [selvedgelaw03_digits.l0]) (Ev.neg hn (Ev.neg (by rw [ByteArray.toList_eq]; exact hz) e1)), e2, e3⟩
theorem digits_ev (n base z : Int) (hb : base = 10 ∨ base = 16) (hn0 : 0 ≤ n) (hn1 : n < 4294967296) (h0 : 0 ≤ z) (h1 : z ≤ 255) :
    ∃ E : ByteArray, Ev (fun k => selvedgelaw03_digits.f k n base z) E ∧ E.size ≤ 80 ∧ IsDig base n E.data.toList := by
  unfold selvedgelaw03_digits.f
  exact digits_loop base hb z h0 h1 n 32 n ⟨#[]⟩ hn0 hn1 (by simpa using hn1) (by decide) (fun c hc => by cases hc) rfl (fun h => by cases h)
/-- The character of a number that is none of the old ones. -/
theorem rune_num (r : Int) (h0 : 0 < r) (h1 : ¬ (128 ≤ r ∧ r ≤ 159)) : Lib.encodeRune (numC (min r 1114112)) = Lib.encodeRune r := by
  unfold numC
  by_cases hv : validB r = true
  · have hr : r ≤ 1114111 := by simp [validB] at hv; omega
    rw [show min r 1114112 = r by omega, if_neg (by rw [hv]; simp; omega), if_neg (by omega)]
  · have hb : r < 0 ∨ (55296 ≤ r ∧ r ≤ 57343) ∨ 1114111 < r := by simp [validB] at hv; omega
    have hm : min r 1114112 = 0 ∨ validB (min r 1114112) = false := by
      right
      simp [validB] at hv ⊢
      omega
    rw [if_pos hm]
    unfold Lib.encodeRune
    rw [Lib.encodeRuneZ_bad hb, show Lib.encodeRuneZ 65533 = [239, 191, 189] by decide]
end Go.Proofs.YtablhjobjmmpnaaDoor.Q
