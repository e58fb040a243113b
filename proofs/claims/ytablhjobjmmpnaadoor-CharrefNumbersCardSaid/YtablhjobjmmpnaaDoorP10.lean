/- CharrefNumbers as plain Lean. Conditions: the numbers are of their types. -/
import Derived.Test.YtablhjobjmmpnaaDoorP9
namespace Go.Proofs.YtablhjobjmmpnaaDoor.Q
set_option linter.unusedVariables false
set_option linter.unusedSimpArgs false
open Go.RowKit Go.Proofs.YtablhjobjmmpnaaDoorW.PrintWords Go.Proofs.YtablhjobjmmpnaaDoorW.PrintLast Go.Proofs.YtablhjobjmmpnaaDoorW.PrintMore

theorem dp_59 : dp 10 59 = false ∧ dp 16 59 = false ∧ dp 10 33 = false ∧ dp 16 32 = false := by decide +kernel
theorem dec_digits (attr : Bool) (r : Int) (h0 : 0 < r) (h1 : ¬ (128 ≤ r ∧ r ≤ 159)) (D R : List UInt8) (hD : IsDig 10 r D) (h3 : ∀ c, R.head? = some c → dp 10 c = false) :
    dec attr (38 :: 35 :: (D ++ R)) = Lib.encodeRune r ++ dec attr (R.drop (if R.head? = some 59 then 1 else 0)) := by
  rw [dec_dec attr D R hD.1 hD.2.1 h3, hD.2.2, rune_num r h0 h1]
theorem dec_hexes (attr : Bool) (r : Int) (h0 : 0 < r) (h1 : ¬ (128 ≤ r ∧ r ≤ 159)) (D R : List UInt8) (hD : IsDig 16 r D) (h3 : ∀ c, R.head? = some c → dp 16 c = false) :
    dec attr (38 :: 35 :: 120 :: (D ++ R)) = Lib.encodeRune r ++ dec attr (R.drop (if R.head? = some 59 then 1 else 0)) := by
  rw [dec_hex attr D R hD.1 hD.2.1 h3, hD.2.2, rune_num r h0 h1]
theorem dec_text1 (r : Int) (h0 : 0 < r) (h1 : ¬ (128 ≤ r ∧ r ≤ 159)) (D H : List UInt8) (hD : IsDig 10 r D) (hH : IsDig 16 r H) :
    dec false (38 :: 35 :: (D ++ 59 :: 38 :: 35 :: 120 :: (H ++ [59]))) = Lib.encodeRune r ++ Lib.encodeRune r := by
  rw [dec_digits false r h0 h1 D _ hD (fun c hc => by have : c = 59 := by simpa using hc.symm
                                                      rw [this]; exact dp_59.1)]
  simp only [List.head?_cons, if_true, List.drop_succ_cons, List.drop_zero]
  rw [dec_hexes false r h0 h1 H [59] hH (fun c hc => by have : c = 59 := by simpa using hc.symm
                                                        rw [this]; exact dp_59.2.1)]
  simp [dec_nil]
theorem dec_text2 (r : Int) (h0 : 0 < r) (h1 : ¬ (128 ≤ r ∧ r ≤ 159)) (D H : List UInt8) (hD : IsDig 10 r D) (hH : IsDig 16 r H) :
    dec true (38 :: 35 :: (D ++ 33 :: 38 :: 35 :: 120 :: (H ++ 32 :: 38 :: 35 :: 120 :: H))) = Lib.encodeRune r ++ 33 :: (Lib.encodeRune r ++ 32 :: Lib.encodeRune r) := by
  have e33 : ¬ (some (33 : UInt8) = some 59) := by decide
  have e32 : ¬ (some (32 : UInt8) = some 59) := by decide
  rw [dec_digits true r h0 h1 D _ hD (fun c hc => by have : c = 33 := by simpa using hc.symm
                                                     rw [this]; exact dp_59.2.2.1)]
  simp only [List.head?_cons, e33, if_false, List.drop_zero]
  rw [dec_cons, fd_not true 33 _ (by decide), if_neg (by simp)]
  rw [dec_hexes true r h0 h1 H (32 :: _) hH (fun c hc => by have : c = 32 := by simpa using hc.symm
                                                            rw [this]; exact dp_59.2.2.2)]
  simp only [List.head?_cons, e32, if_false, List.drop_zero]
  rw [dec_cons, fd_not true 32 _ (by decide), if_neg (by simp)]
  have e := dec_hexes true r h0 h1 H [] hH (fun c hc => by cases hc)
  rw [List.append_nil] at e
  rw [e]
  simp [dec_nil]
theorem numbers_main (r z : Int) (hr1 : 0 < r) (hr2 : r ≤ 2147483647) (hr3 : ¬ (128 ≤ r ∧ r ≤ 159)) (h0 : 0 ≤ z) (h1 : z ≤ 255) :
    Ev (fun k => selvedgelaw03_CharrefNumbers.j0 k r z ⟨(Lib.encodeRune r).toArray⟩ false) true := by
  obtain ⟨D, d1, d2, d3⟩ := digits_ev r 10 z (.inl rfl) (by omega) (by omega) h0 h1
  obtain ⟨H, g1, g2, g3⟩ := digits_ev r 16 z (.inr rfl) (by omega) (by omega) h0 h1
  have hm : r % 4294967296 = r := by omega
  have v4 := rune_size r
  refine Ev.step (fun k => by rw [selvedgelaw03_CharrefNumbers.j0]) (Ev.neg (by simp) ?_)
  rw [hm]
  have t1 := dec_text1 r hr1 hr3 _ _ d3 g3
  have t2 := dec_text2 r hr1 hr3 _ _ d3 g3
  generalize hV : (⟨(Lib.encodeRune r).toArray⟩ : ByteArray) = V at *
  have hVl : V.data.toList = Lib.encodeRune r := by rw [← hV]
  have z2 : (⟨#[38, 35]⟩ : ByteArray).size = 2 := rfl
  have z3 : (⟨#[38, 35, 120]⟩ : ByteArray).size = 3 := rfl
  have z59 : (⟨#[59]⟩ : ByteArray).size = 1 := rfl
  have z33 : (⟨#[33]⟩ : ByteArray).size = 1 := rfl
  have z32 : (⟨#[32]⟩ : ByteArray).size = 1 := rfl
  refine Ev.bind d1 (Ev.pos (by omega) (Ev.bind g1 (Ev.pos (by omega) ?_)))
  refine Ev.pos (by (try simp only [ByteArray.size_append, z2, z3, z59, z33, z32]); omega) (Ev.pos (by (try simp only [ByteArray.size_append, z2, z3, z59, z33, z32]); omega) (Ev.pos (by (try simp only [ByteArray.size_append, z2, z3, z59, z33, z32]); omega) ?_))
  refine Ev.bind (decode_ev _ _ (by (try simp only [ByteArray.size_append, z2, z3, z59, z33, z32]); omega)) (Ev.pos (by omega) (Ev.pos ?_ ?_))
  · rw [decB_list, ByteArray.toList_eq]
    simp only [ByteArray.data_append, Array.toList_append, List.append_assoc, List.cons_append, List.nil_append, hVl]
    exact t1
  refine Ev.pos (by (try simp only [ByteArray.size_append, z2, z3, z59, z33, z32]); omega) (Ev.pos (by (try simp only [ByteArray.size_append, z2, z3, z59, z33, z32]); omega) (Ev.pos (by (try simp only [ByteArray.size_append, z2, z3, z59, z33, z32]); omega) ?_))
  refine Ev.bind (decode_ev _ _ (by (try simp only [ByteArray.size_append, z2, z3, z59, z33, z32]); omega)) ?_
  refine Ev.pos (by (try simp only [ByteArray.size_append, z2, z3, z59, z33, z32]); omega) (Ev.pos (by (try simp only [ByteArray.size_append, z2, z3, z59, z33, z32]); omega) (Ev.pos (by (try simp only [ByteArray.size_append, z2, z3, z59, z33, z32]); omega) (Ev.pos (by (try simp only [ByteArray.size_append, z2, z3, z59, z33, z32]); omega) (Ev.pos ?_ works_ev'))))
  rw [decB_list, ByteArray.toList_eq]
  simp only [ByteArray.data_append, Array.toList_append, List.append_assoc, List.cons_append, List.nil_append, hVl]
  exact t2
theorem numbers_ev (r z : Int) (hr1 : -2147483648 ≤ r) (hr2 : r ≤ 2147483647) (h0 : 0 ≤ z) (h1 : z ≤ 255) : Ev (fun k => selvedgelaw03_CharrefNumbers.f k r z) true := by
  unfold selvedgelaw03_CharrefNumbers.f
  refine Ev.bind (string_one r) ?_
  have yes : Ev (fun k => selvedgelaw03_CharrefNumbers.j0 k r z ⟨(Lib.encodeRune r).toArray⟩ true) true := Ev.step (fun k => by rw [selvedgelaw03_CharrefNumbers.j0]) (Ev.pos rfl works_ev')
  by_cases c1 : r ≤ 0
  · exact Ev.pos c1 yes
  refine Ev.neg c1 ?_
  by_cases c2 : r ≥ 128
  · refine Ev.pos c2 ?_
    by_cases c3 : r ≤ 159
    · rw [decide_eq_true c3]; exact yes
    · rw [decide_eq_false c3]; exact numbers_main r z (by omega) hr2 (by omega) h0 h1
  · exact Ev.neg c2 (numbers_main r z (by omega) hr2 (by omega) h0 h1)
theorem pureCharrefNumbers (r z : Int) (hr : (Lit.int .i32 r).wf = true) (hz : (Lit.int .u8 z).wf = true) : ∃ k, selvedgelaw03_CharrefNumbers.f k r z = some true := by
  have b1 := bounds_i32 hr
  have b2 := bounds_u8 hz
  exact (numbers_ev r z b1.1 b1.2 b2.1 b2.2).rounds
end Go.Proofs.YtablhjobjmmpnaaDoor.Q
