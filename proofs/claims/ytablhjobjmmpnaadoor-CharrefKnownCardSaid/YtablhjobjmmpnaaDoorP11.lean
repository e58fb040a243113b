/- CharrefKnown (and CharrefFinds, which it calls) as plain Lean. No condition. -/
import Derived.Test.YtablhjobjmmpnaaDoorP9
import Derived.Test.YtablhjobjmmpnaaDoorQ8
import Derived.Test.YtablhjobjmmpnaaDoorQ9
namespace Go.Proofs.YtablhjobjmmpnaaDoor.Q
set_option linter.unusedVariables false
set_option linter.unusedSimpArgs false
open Go.RowKit Go.Proofs.YtablhjobjmmpnaaDoorW.PrintWords Go.Proofs.YtablhjobjmmpnaaDoorW.PrintLast Go.Proofs.YtablhjobjmmpnaaDoorW.PrintMore

theorem pfind_ev (s : ByteArray) (attr : Bool) (hs : s.size ≤ 1099511627776) : Ev (fun k => charref_Find.f k s attr) (findF s attr) := ⟨0, fun k _ => if_pos hs⟩
theorem rdOf_at (xs : List ByteArray) (i : Nat) (h : i < xs.length) : rdOf ByteArray.empty xs (i : Int) = xs[i] := by
  unfold rdOf
  rw [Int.toNat_natCast, List.getD_eq_getElem?_getD, List.getElem?_eq_getElem h]; rfl
theorem finds_loop (attr : Bool) (xs : List ByteArray) (hl : xs.length ≤ 100) (hx : ∀ x ∈ xs, x.size ≤ 1099511627776) : ∀ (f i : Nat), i + f = xs.length →
    Ev (fun k => selvedgelaw03_CharrefFinds.l0 k attr xs (xs.length : Int) i) true
  | 0, i, h => Ev.step (fun k => by rw [selvedgelaw03_CharrefFinds.l0]) (Ev.neg (by omega) works_ev')
  | f + 1, i, h => by
    have hi : i < xs.length := by omega
    refine Ev.step (fun k => by rw [selvedgelaw03_CharrefFinds.l0]) (Ev.pos (by omega) (Ev.pos (by omega) (Ev.pos (by omega) ?_)))
    rw [rdOf_at xs i hi, wrap64_nat i (by omega)]
    have hs := hx xs[i] (List.getElem_mem _)
    exact Ev.bind (pfind_ev _ _ hs) (Ev.bind (find_ev _ _ hs) (Ev.pos rfl (Ev.pos rfl (Ev.neg (by simp) (finds_loop attr xs hl hx f (i + 1) (by omega))))))
theorem finds_ev (s : ByteArray) (n : Int) (b : ByteArray) (attr : Bool) (h0 : 0 ≤ n) (h1 : n ≤ 255) : Ev (fun k => selvedgelaw03_CharrefFinds.f k s n b attr) true := by
  unfold selvedgelaw03_CharrefFinds.f
  have yes : Ev (fun k => selvedgelaw03_CharrefFinds.j0 k s n b attr true) true := Ev.step (fun k => by rw [selvedgelaw03_CharrefFinds.j0]) (Ev.pos rfl works_ev')
  by_cases c1 : (s.size : Int) > 5000
  · exact Ev.pos c1 yes
  refine Ev.neg c1 ?_
  by_cases c2 : (b.size : Int) > 5000
  · rw [decide_eq_true c2]; exact yes
  rw [decide_eq_false c2]
  refine Ev.step (fun k => by rw [selvedgelaw03_CharrefFinds.j0]) (Ev.neg (by simp) (Ev.bind (g := fun k => selvedgeref03_Names.f k) (Ev.now nmL) ?_))
  have hlen : (nmL.length : Int) = 59 := rfl
  have hw : wrap64 n = n := by unfold wrap64; omega
  have ht : Int.tmod n 59 = n % 59 := Int.tmod_eq_emod_of_nonneg h0
  rw [hlen, hw, ht]
  have hm0 : 0 ≤ n % 59 := by omega
  have hm1 : n % 59 < 59 := by omega
  have hx := rd_mem _ hm0 hm1
  generalize rd_T35 nmL (n % 59) = x at *
  have hxs := nmL_len x hx
  have z38 : (⟨#[38]⟩ : ByteArray).size = 1 := rfl
  have z2 : (⟨#[38, 35]⟩ : ByteArray).size = 2 := rfl
  have z3 : (⟨#[38, 35, 120]⟩ : ByteArray).size = 3 := rfl
  have s1 : (⟨#[38]⟩ ++ x.f0 : ByteArray).size = 1 + x.f0.size := by rw [ByteArray.size_append, z38]
  refine Ev.neg (by omega) (Ev.pos hm0 (Ev.pos hm1 (Ev.pos (by omega) (Ev.pos (by omega) (Ev.pos (by omega) (Ev.pos (by omega) (Ev.bind (Ev.now _) ?_)))))))
  refine finds_loop attr _ (by simp) ?_ _ 0 (Nat.zero_add _)
  intro y hy
  simp only [List.mem_cons, List.not_mem_nil, or_false] at hy
  rcases hy with rfl | rfl | rfl | rfl
  · omega
  · rw [ByteArray.size_append, s1]; omega
  · rw [ByteArray.size_append, z2]; omega
  · rw [ByteArray.size_append, z3]; omega

/-! ### the examples -/
def exL : List ByteArray := [(⟨#[38, 97, 109, 112, 59, 108, 116, 59, 32, 38, 108, 116, 32, 38, 110, 111, 116, 105, 110, 59, 32, 38, 110, 111, 116, 105, 110, 32, 38, 110, 111, 116, 105]⟩ : ByteArray), (⟨#[38, 108, 116, 59, 32, 60, 32, 226, 136, 137, 32, 194, 172, 105, 110, 32, 194, 172, 105]⟩ : ByteArray), (⟨#[38, 99, 111, 112, 121, 61, 49, 32, 38, 99, 111, 112, 121, 59, 61, 49, 32, 38, 99, 111, 112, 121, 120]⟩ : ByteArray), (⟨#[194, 169, 61, 49, 32, 194, 169, 61, 49, 32, 194, 169, 120]⟩ : ByteArray), (⟨#[38, 35, 54, 53, 59, 32, 38, 35, 120, 52, 49, 59, 32, 38, 35, 88, 52, 49, 32, 38, 35, 54, 53, 120, 32, 38, 35, 59, 32, 38, 35, 120, 59, 32, 38, 35]⟩ : ByteArray), (⟨#[65, 32, 65, 32, 65, 32, 65, 120, 32, 38, 35, 59, 32, 38, 35, 120, 59, 32, 38, 35]⟩ : ByteArray), (⟨#[38, 35, 48, 59, 32, 38, 35, 120, 68, 56, 48, 48, 59, 32, 38, 35, 49, 49, 49, 52, 49, 49, 50, 59, 32, 38, 35, 49, 50, 56, 59, 32, 38, 35, 49, 50, 57, 59]⟩ : ByteArray), (⟨#[239, 191, 189, 32, 239, 191, 189, 32, 239, 191, 189, 32, 226, 130, 172, 32, 194, 129]⟩ : ByteArray), (⟨#[38, 117, 110, 107, 110, 111, 119, 110, 59, 32, 38, 32, 38, 59, 32, 38, 65, 77, 80, 32, 38, 65, 109, 112, 59]⟩ : ByteArray), (⟨#[38, 117, 110, 107, 110, 111, 119, 110, 59, 32, 38, 32, 38, 59, 32, 38, 32, 38, 65, 109, 112, 59]⟩ : ByteArray), (⟨#[38, 35, 57, 57, 57, 57, 57, 57, 57, 57, 57, 57, 57, 57, 57, 57, 57, 57, 57, 57, 57, 57, 57, 57, 57, 59, 38, 35, 120, 48, 48, 48, 48, 48, 48, 48, 48, 48, 48, 48, 48, 48, 48, 52, 49, 59, 38, 35, 49, 51, 59]⟩ : ByteArray), (⟨#[239, 191, 189, 65, 13]⟩ : ByteArray), (⟨#[38, 38, 97, 109, 112, 59, 38]⟩ : ByteArray), (⟨#[38, 38, 38]⟩ : ByteArray), (⟨#[]⟩ : ByteArray), (⟨#[]⟩ : ByteArray)]
theorem exL_len : exL.length = 16 := rfl
theorem ex_ok : ∀ i : Fin 8, dec false (exL.getD (2 * i.1) ByteArray.empty).data.toList = (exL.getD (2 * i.1 + 1) ByteArray.empty).data.toList ∧ (exL.getD (2 * i.1) ByteArray.empty).size ≤ 100 := by decide +kernel
theorem name_ok : ∀ x ∈ nmL, decide (dec false (38 :: x.f0.data.toList) = Lib.encodeRune x.f1) = x.f2 ∨ x.f0.data.toList = [110, 111, 116, 105, 110] ∨ x.f0.data.toList = [105, 110] := by decide +kernel
theorem last_ok : dec true [38, 110, 111, 116, 105, 110, 32, 38, 110, 111, 116, 105] = [38, 110, 111, 116, 105, 110, 32, 38, 110, 111, 116, 105] := by decide +kernel
theorem known_l3 : ∀ (f r : Nat), r + f = 176 → Ev (fun k => selvedgelaw03_CharrefKnown.l3 k r) true
  | 0, r, h => by
    refine Ev.step (fun k => by rw [selvedgelaw03_CharrefKnown.l3]) (Ev.neg (by omega) (Ev.bind (decode_ev _ _ (by decide)) ?_))
    rw [decB_list]
    exact Ev.pos last_ok works_ev'
  | f + 1, r, h => by
    obtain ⟨E, e1, e2, _⟩ := digits_ev r 10 0 (.inl rfl) (by omega) (by omega) (by omega) (by omega)
    have z2 : (⟨#[38, 35]⟩ : ByteArray).size = 2 := rfl
    refine Ev.step (fun k => by rw [selvedgelaw03_CharrefKnown.l3]) (Ev.pos (by omega) ?_)
    rw [show ((r : Int)) % 4294967296 = r by omega, show wrap32 ((r : Int) + 1) = ((r + 1 : Nat) : Int) by unfold wrap32; omega]
    exact Ev.bind e1 (Ev.pos (by omega) (Ev.pos (by rw [ByteArray.size_append, z2]; omega) (Ev.bind (decodes_ev _ _) (Ev.pos rfl (known_l3 f (r + 1) (by omega))))))
def rests : List ByteArray := [(⟨#[]⟩ : ByteArray), (⟨#[59]⟩ : ByteArray), (⟨#[61]⟩ : ByteArray), (⟨#[120]⟩ : ByteArray), (⟨#[32]⟩ : ByteArray), (⟨#[59, 59]⟩ : ByteArray), (⟨#[38]⟩ : ByteArray)]
theorem rests_len : ∀ x ∈ rests, x.size ≤ 10 := by decide
theorem known_l2 (i : Nat) (hi : i < 59) (x : S35) (hx : x ∈ nmL) (hr : rd_T35 nmL i = x) (next : Ev (fun k => selvedgelaw03_CharrefKnown.l1 k nmL ((i + 1 : Nat) : Int)) true) : ∀ (f j : Nat), j + f = 7 →
    Ev (fun k => selvedgelaw03_CharrefKnown.l2 k nmL i ((⟨#[38]⟩ : ByteArray) ++ x.f0) rests (rests.length : Int) j) true
  | 0, j, h => by
    have hlen : (rests.length : Int) = 7 := rfl
    have hnl : (nmL.length : Int) = 59 := rfl
    have hxs := nmL_len x hx
    have z38 : (⟨#[38]⟩ : ByteArray).size = 1 := rfl
    have z59 : (⟨#[59]⟩ : ByteArray).size = 1 := rfl
    have s1 : (⟨#[38]⟩ ++ x.f0 : ByteArray).size = 1 + x.f0.size := by rw [ByteArray.size_append, z38]
    have s2 : ((⟨#[38]⟩ ++ x.f0) ++ ⟨#[59]⟩ : ByteArray).size = 1 + x.f0.size + 1 := by rw [ByteArray.size_append, s1, z59]
    refine Ev.step (fun k => by rw [selvedgelaw03_CharrefKnown.l2]) (Ev.neg (by omega) (Ev.pos (by omega) (Ev.pos (by omega) ?_)))
    rw [hr]
    refine Ev.bind (string_one _) (Ev.pos (by omega) (Ev.bind (decode_ev _ _ (by omega)) (Ev.pos ?_ (Ev.bind (decode_ev _ _ (by omega)) ?_))))
    · rw [decB_list, ByteArray.toList_eq]
      simp only [ByteArray.data_append, Array.toList_append, List.append_assoc, List.cons_append, List.nil_append]
      have := dec_semi true x hx []
      rw [dec_nil, List.append_nil] at this
      exact this
    · rw [wrap64_nat i (by omega)]
      have hd : ((decB (⟨#[38]⟩ ++ x.f0) false).toList == (⟨(Lib.encodeRune x.f1).toArray⟩ : ByteArray).toList) = decide (dec false (38 :: x.f0.data.toList) = Lib.encodeRune x.f1) := by
        rw [decB_list, ByteArray.toList_eq]
        simp only [ByteArray.data_append, Array.toList_append, List.cons_append, List.nil_append]
        rw [Bool.eq_iff_iff, beq_iff_eq, decide_eq_true_eq]
      rw [hd]
      rcases name_ok x hx with h1 | h1 | h1
      · rw [h1]; exact Ev.neg (by simp) next
      · by_cases c : (decide (dec false (38 :: x.f0.data.toList) = Lib.encodeRune x.f1) != x.f2) = true
        · exact Ev.pos c (Ev.pos (by rw [ByteArray.toList_eq]; exact h1) next)
        · exact Ev.neg c next
      · by_cases c : (decide (dec false (38 :: x.f0.data.toList) = Lib.encodeRune x.f1) != x.f2) = true
        · refine Ev.pos c (Ev.neg ?_ (Ev.pos (by rw [ByteArray.toList_eq]; exact h1) next))
          rw [ByteArray.toList_eq, h1]; decide
        · exact Ev.neg c next
  | f + 1, j, h => by
    have hlen : (rests.length : Int) = 7 := rfl
    have hj : j < rests.length := by rw [show rests.length = 7 from rfl]; omega
    have hxs := nmL_len x hx
    have z38 : (⟨#[38]⟩ : ByteArray).size = 1 := rfl
    have s1 : (⟨#[38]⟩ ++ x.f0 : ByteArray).size = 1 + x.f0.size := by rw [ByteArray.size_append, z38]
    have hs := rests_len rests[j] (List.getElem_mem _)
    refine Ev.step (fun k => by rw [selvedgelaw03_CharrefKnown.l2]) (Ev.pos (by omega) (Ev.pos (by omega) (Ev.pos (by omega) ?_)))
    rw [rdOf_at rests j hj, wrap64_nat j (by omega)]
    exact Ev.pos (by omega) (Ev.bind (finds_ev _ _ _ _ (by omega) (by omega)) (Ev.pos rfl (Ev.bind (finds_ev _ _ _ _ (by omega) (by omega)) (Ev.pos rfl (known_l2 i hi x hx hr next f (j + 1) (by omega))))))
theorem known_l1 : ∀ (f i : Nat), i + f = 59 → Ev (fun k => selvedgelaw03_CharrefKnown.l1 k nmL i) true
  | 0, i, h => by
    have hnl : (nmL.length : Int) = 59 := rfl
    refine Ev.step (fun k => by rw [selvedgelaw03_CharrefKnown.l1]) (Ev.neg (by omega) ?_)
    exact known_l3 64 112 rfl
  | f + 1, i, h => by
    have hnl : (nmL.length : Int) = 59 := rfl
    have hx := rd_mem (i : Int) (by omega) (by omega)
    have hxs := nmL_len _ hx
    refine Ev.step (fun k => by rw [selvedgelaw03_CharrefKnown.l1]) (Ev.pos (by omega) (Ev.pos (by omega) (Ev.pos (by omega) (Ev.bind (Ev.now _) ?_))))
    exact known_l2 i (by omega) _ hx rfl (known_l1 f (i + 1) (by omega)) 7 0 rfl
theorem known_l0 : ∀ (f i : Nat), i + f = 8 → Ev (fun k => selvedgelaw03_CharrefKnown.l0 k exL ((2 * i : Nat) : Int)) true
  | 0, i, h => by
    have hl : (exL.length : Int) = 16 := rfl
    refine Ev.step (fun k => by rw [selvedgelaw03_CharrefKnown.l0]) (Ev.neg (by omega) (Ev.bind (g := fun k => selvedgeref03_Names.f k) (Ev.now nmL) ?_))
    exact known_l1 59 0 rfl
  | f + 1, i, h => by
    have hl : (exL.length : Int) = 16 := rfl
    have hi := ex_ok ⟨i, by omega⟩
    simp only at hi
    have w1 : wrap64 (((2 * i : Nat) : Int) + 1) = ((2 * i + 1 : Nat) : Int) := by unfold wrap64; omega
    have w2 : wrap64 (((2 * i : Nat) : Int) + 2) = ((2 * (i + 1) : Nat) : Int) := by unfold wrap64; omega
    have r0 : rdOf ByteArray.empty exL ((2 * i : Nat) : Int) = exL.getD (2 * i) ByteArray.empty := by unfold rdOf; rw [Int.toNat_natCast]
    have r1 : rdOf ByteArray.empty exL ((2 * i + 1 : Nat) : Int) = exL.getD (2 * i + 1) ByteArray.empty := by unfold rdOf; rw [Int.toNat_natCast]
    refine Ev.step (fun k => by rw [selvedgelaw03_CharrefKnown.l0]) (Ev.pos (by omega) (Ev.pos (by omega) ?_))
    rw [w1, w2, r0, r1]
    refine Ev.bind (decode_ev _ _ (by omega)) (Ev.pos (by omega) (Ev.pos (by omega) (Ev.pos ?_ (known_l0 f (i + 1) (by omega)))))
    rw [decB_list, ByteArray.toList_eq]
    exact hi.1
theorem known_ev : Ev (fun k => selvedgelaw03_CharrefKnown.f k) true := by
  unfold selvedgelaw03_CharrefKnown.f
  exact known_l0 8 0 rfl
theorem pureCharrefKnown : ∃ k, selvedgelaw03_CharrefKnown.f k = some true := known_ev.rounds
end Go.Proofs.YtablhjobjmmpnaaDoor.Q
