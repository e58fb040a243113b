/- A name with its ; is its character; CharrefNames as plain Lean. Condition: the number is a byte's. -/
import Derived.Test.YtablhjobjmmpnaaDoorP7
import Derived.Test.YtablhjobjmmpnaaDoorQ7
import Derived.OpenShut
namespace Go.Proofs.YtablhjobjmmpnaaDoor.Q
set_option linter.unusedVariables false
set_option linter.unusedSimpArgs false
open Go.RowKit Go.Proofs.YtablhjobjmmpnaaDoorW.PrintWords Go.Proofs.YtablhjobjmmpnaaDoorW.PrintLast Go.Proofs.YtablhjobjmmpnaaDoorW.PrintMore

theorem nm_one (x y : S35) (hx : x ∈ nmL) (hy : y ∈ nmL) (h : y.f0.data.toList = x.f0.data.toList) : y.f1 = x.f1 := by
  obtain ⟨p, p1, p2, _⟩ := nm_of x hx
  obtain ⟨q, q1, q2, _⟩ := nm_of y hy
  have : q.1 = p.1 := nm_inj _ _ q.2 p.2 (by rw [q1, p1, h])
  rw [← q2, ← p2, this]
theorem bestB_semi (x : S35) (hx : x ∈ nmL) (rest : List UInt8) : (bestB (x.f0.data.toList ++ 59 :: rest)).len = x.f0.size + 2 ∧ (bestB (x.f0.data.toList ++ 59 :: rest)).semi = true ∧ (bestB (x.f0.data.toList ++ 59 :: rest)).r = x.f1 := by
  obtain ⟨h1, h2⟩ := bestB_ok (x.f0.data.toList ++ 59 :: rest)
  have h59 : (x.f0.data.toList ++ 59 :: rest)[x.f0.size]? = some 59 := by
    rw [← nm_size x, List.getElem?_append_right (Nat.le_refl _), Nat.sub_self]; rfl
  have hl := (h2 x hx (List.prefix_append _ _)).1 h59
  rcases h1 with ⟨h, _, _⟩ | ⟨y, hy, hp, hr, ht⟩
  · omega
  · have hp' := name_cut y hy x.f0.data.toList 59 rest (by decide +kernel) hp
    have hle := hp'.length_le
    rw [nm_size, nm_size] at hle
    rcases ht with ⟨_, hl2, hs⟩ | ⟨_, _, hl2, _⟩
    · have hsz : y.f0.size = x.f0.size := by omega
      have he : y.f0.data.toList = x.f0.data.toList := hp'.eq_of_length (by rw [nm_size, nm_size, hsz])
      exact ⟨by omega, hs, by rw [hr]; exact nm_one x y hx hy he⟩
    · omega
theorem nm_head (x : S35) (hx : x ∈ nmL) (r : List UInt8) : (x.f0.data.toList ++ r).head? ≠ some 35 ∧ x.f0.data.toList ≠ [] := by
  obtain ⟨p, p1, _, _⟩ := nm_of x hx
  have hpos := nm_pos p
  have hal := nm_mem x hx
  rw [p1] at hpos
  cases h : x.f0.data.toList with
  | nil => rw [h] at hpos; simp at hpos
  | cons c l =>
    refine ⟨fun e => ?_, by simp⟩
    have : c = 35 := by simpa using e
    have h2 := hal c (by rw [h]; simp)
    rw [this] at h2
    exact absurd h2 (by decide +kernel)
theorem fd_semi (attr : Bool) (x : S35) (hx : x ∈ nmL) (rest : List UInt8) : fd attr (38 :: (x.f0.data.toList ++ 59 :: rest)) = (x.f1, ((x.f0.size + 2 : Nat) : Int), true) := by
  obtain ⟨h1, h2, h3⟩ := bestB_semi x hx rest
  rw [fd_name attr _ (nm_head x hx _).1]
  unfold finB
  rw [if_neg (by omega), if_neg (by rw [h2]; simp), h1, h3]
theorem dec_semi (attr : Bool) (x : S35) (hx : x ∈ nmL) (rest : List UInt8) : dec attr (38 :: (x.f0.data.toList ++ 59 :: rest)) = Lib.encodeRune x.f1 ++ dec attr rest := by
  rw [dec_cons, fd_semi attr x hx rest, if_pos rfl]
  simp only [Int.toNat_natCast]
  rw [show x.f0.size + 2 = (x.f0.size + 1) + 1 by omega, List.drop_succ_cons, List.drop_append, List.drop_eq_nil_of_le (by rw [nm_size]; omega), nm_size, show x.f0.size + 1 - x.f0.size = 1 by omega]
  rfl
theorem string_one (r : Int) : Ev (fun k => selvedgeref02_String.f k [r]) ⟨(Lib.encodeRune r).toArray⟩ := by
  unfold selvedgeref02_String.f
  have hl := Lib.encodeRuneZ_length r
  have hlen : (([r] : List Int).length : Int) = 1 := rfl
  have hr : rd [r] 0 = r := rfl
  have hw : wrap64 (0 + 1) = 1 := by unfold wrap64; omega
  refine Ev.step (fun k => by rw [selvedgeref02_String.l0]) (Ev.pos (by rw [hlen]; decide) (Ev.pos (by decide) ?_))
  rw [hr, hw]
  refine Ev.bind (one_ev _) (Ev.pos (by simp only [List.length_nil]; omega) ?_)
  refine Ev.step (fun k => by rw [selvedgeref02_String.l0]) (Ev.neg (by rw [hlen]; decide) ?_)
  rw [List.nil_append, ← byteInts_rune, strOfNums_byteInts]
  exact Ev.now _
theorem toList_bytes (l : List UInt8) : (⟨l.toArray⟩ : ByteArray).data.toList = l := rfl
theorem rune_size (r : Int) : (⟨(Lib.encodeRune r).toArray⟩ : ByteArray).size ≤ 4 := by
  have := Lib.encodeRuneZ_length r
  simp [ByteArray.size, Lib.encodeRune]; omega
theorem rd_mem (i : Int) (h0 : 0 ≤ i) (h1 : i < 59) : rd_T35 nmL i ∈ nmL := by
  unfold rd_T35
  have h : i.toNat < nmL.length := by rw [show nmL.length = 59 from rfl]; omega
  rw [List.getD_eq_getElem?_getD, List.getElem?_eq_getElem h]
  exact List.getElem_mem _
theorem names_loop (n : Int) (a b : ByteArray) (attr : Bool) (h0 : 0 ≤ n) (h1 : n ≤ 255) (ha : a.size ≤ 2000) (hb : b.size ≤ 2000) : ∀ (f : Nat) (p q : List UInt8), a.data.toList = p ++ q → q.length ≤ f → (∀ c ∈ p, c ≠ 38) →
    Ev (fun k => selvedgelaw03_CharrefNames.l0 k n a b attr p.length) true := by
  have hal : a.data.toList.length = a.size := by simp
  have atEnd : (∀ c ∈ a.data.toList, c ≠ 38) → Ev (fun k => selvedgelaw03_CharrefNames.l0 k n a b attr (a.data.toList.length : Nat)) true := by
    intro hno
    refine Ev.step (fun k => by rw [selvedgelaw03_CharrefNames.l0]) (Ev.neg (by omega) (Ev.bind (g := fun k => selvedgeref03_Names.f k) (Ev.now nmL) ?_))
    have hlen : (nmL.length : Int) = 59 := rfl
    have hw : wrap64 n = n := by unfold wrap64; omega
    rw [hlen, hw]
    have ht : Int.tmod n 59 = n % 59 := Int.tmod_eq_emod_of_nonneg h0
    rw [ht]
    have hm0 : 0 ≤ n % 59 := by omega
    have hm1 : n % 59 < 59 := by omega
    have hx := rd_mem _ hm0 hm1
    generalize rd_T35 nmL (n % 59) = x at *
    have hxs := nmL_len x hx
    have z38 : (⟨#[38]⟩ : ByteArray).size = 1 := rfl
    have z59 : (⟨#[59]⟩ : ByteArray).size = 1 := rfl
    have s1 : (a ++ ⟨#[38]⟩ : ByteArray).size = a.size + 1 := by rw [ByteArray.size_append, z38]
    have s2 : ((a ++ ⟨#[38]⟩ : ByteArray) ++ x.f0).size = a.size + 1 + x.f0.size := by rw [ByteArray.size_append, s1]
    have s3 : (((a ++ ⟨#[38]⟩ : ByteArray) ++ x.f0) ++ ⟨#[59]⟩).size = a.size + 1 + x.f0.size + 1 := by rw [ByteArray.size_append, s2, z59]
    have s4 : ((((a ++ ⟨#[38]⟩ : ByteArray) ++ x.f0) ++ ⟨#[59]⟩) ++ b).size = a.size + 1 + x.f0.size + 1 + b.size := by rw [ByteArray.size_append, s3]
    refine Ev.neg (by omega) (Ev.pos hm0 (Ev.pos hm1 (Ev.pos (by omega) (Ev.pos (by omega) (Ev.pos (by omega) (Ev.pos (by omega) (Ev.bind (decode_ev _ _ (by omega)) (Ev.bind (string_one _) ?_))))))))
    have r4 := rune_size x.f1
    have d4 := decB_size b attr
    have s5 : (a ++ ⟨(Lib.encodeRune x.f1).toArray⟩ : ByteArray).size = a.size + (⟨(Lib.encodeRune x.f1).toArray⟩ : ByteArray).size := ByteArray.size_append
    refine Ev.pos (by omega) (Ev.bind (decode_ev _ _ (by omega)) (Ev.pos (by omega) (Ev.pos ?_ works_ev')))
    rw [decB_list, ByteArray.toList_eq]
    simp only [ByteArray.data_append, Array.toList_append, List.append_assoc, List.cons_append, List.nil_append, decB_dec]
    rw [dec_plain attr _ _ hno]
    have := dec_semi attr x hx b.data.toList
    simp only [this]
  intro f
  induction f with
  | zero =>
    intro p q h hf hp
    obtain rfl := List.length_eq_zero_iff.1 (Nat.le_zero.1 hf)
    rw [List.append_nil] at h
    rw [← h] at hp ⊢
    exact atEnd hp
  | succ f ih =>
    intro p q h hf hp
    cases q with
    | nil =>
      rw [List.append_nil] at h
      rw [← h] at hp ⊢
      exact atEnd hp
    | cons c q =>
      have hlt : p.length < a.size := by rw [← hal, h]; simp
      have hb := bt_list a p c q h
      refine Ev.step (fun k => by rw [selvedgelaw03_CharrefNames.l0]) (Ev.pos (by omega) (Ev.pos (by omega) ?_))
      rw [hb]
      by_cases hc : c = 38
      · exact Ev.pos (by rw [hc]; rfl) works_ev'
      · refine Ev.neg (fun e => hc (UInt8.toNat_inj.1 (show c.toNat = (38 : UInt8).toNat by exact_mod_cast e))) ?_
        rw [wrap64_nat _ (by omega)]
        have := ih (p ++ [c]) q (by rw [h]; simp) (by simpa using hf) (fun d hd => by
          rcases List.mem_append.1 hd with hd | hd
          · exact hp d hd
          · rw [List.mem_singleton.1 hd]; exact hc)
        rw [List.length_append, List.length_singleton] at this
        exact this
theorem names_ev (n : Int) (a b : ByteArray) (attr : Bool) (h0 : 0 ≤ n) (h1 : n ≤ 255) : Ev (fun k => selvedgelaw03_CharrefNames.f k n a b attr) true := by
  unfold selvedgelaw03_CharrefNames.f
  have yes : Ev (fun k => selvedgelaw03_CharrefNames.j0 k n a b attr true) true := Ev.step (fun k => by rw [selvedgelaw03_CharrefNames.j0]) (Ev.pos rfl works_ev')
  by_cases c1 : (a.size : Int) > 2000
  · exact Ev.pos c1 yes
  refine Ev.neg c1 ?_
  by_cases c2 : (b.size : Int) > 2000
  · rw [decide_eq_true c2]; exact yes
  rw [decide_eq_false c2]
  refine Ev.step (fun k => by rw [selvedgelaw03_CharrefNames.j0]) (Ev.neg (by simp) ?_)
  exact names_loop n a b attr h0 h1 (by omega) (by omega) a.data.toList.length [] a.data.toList rfl (Nat.le_refl _) (fun c hc => by cases hc)
theorem pureCharrefNames (n : Int) (a b : ByteArray) (attr : Bool) (h : (Lit.int .u8 n).wf = true) : ∃ k, selvedgelaw03_CharrefNames.f k n a b attr = some true := by
  have hb := bounds_u8 h
  exact (names_ev n a b attr hb.1 hb.2).rounds
end Go.Proofs.YtablhjobjmmpnaaDoor.Q
