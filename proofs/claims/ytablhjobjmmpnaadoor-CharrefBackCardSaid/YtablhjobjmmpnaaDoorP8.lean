/- A name with its ; is its character. Plain Lean. No condition. -/
import Derived.Test.YtablhjobjmmpnaaDoorP7
import Derived.OpenShut
namespace Go.Proofs.YtablhjobjmmpnaaDoor.Q
set_option linter.unusedVariables false
set_option linter.unusedSimpArgs false
open Go.RowKit Go.Proofs.YtablhjobjmmpnaaDoorW.PrintWords Go.Proofs.YtablhjobjmmpnaaDoorW.PrintLast Go.Proofs.YtablhjobjmmpnaaDoorW.PrintMore

theorem nm_one (x y : S35) (hx : x ∈ nmL) (hy : y ∈ nmL) (h : y.f0.data.toList = x.f0.data.toList) : y.f1 = x.f1 := by
  obtain ⟨p, p1, p2, _⟩ := nm_of x hx
  obtain ⟨q, q1, q2, _⟩ := nm_of y hy
  have : q.1 = p.1 := nm_inj _ _ q.2 p.2 (by rw [q1, p1, h])
  rw [← q2, ← p2, this]
theorem bestB_semi (x : S35) (hx : x ∈ nmL) (rest : List UInt8) : (bestB (x.f0.data.toList ++ 59 :: rest)).len = x.f0.size + 2 ∧ (bestB (x.f0.data.toList ++ 59 :: rest)).semi = true ∧ (bestB (x.f0.data.toList ++ 59 :: rest)).r = x.f1 := by
  obtain ⟨h1, h2⟩ := bestB_ok (x.f0.data.toList ++ 59 :: rest)
  have h59 : (x.f0.data.toList ++ 59 :: rest)[x.f0.size]? = some 59 := by
    rw [← nm_size x, List.getElem?_append_right (Nat.le_refl _), Nat.sub_self]; rfl
  have hl := (h2 x hx (List.prefix_append _ _)).1 h59
  rcases h1 with ⟨h, _, _⟩ | ⟨y, hy, hp, hr, ht⟩
  · omega
  · have hp' := name_cut y hy x.f0.data.toList 59 rest (by decide +kernel) hp
    have hle := hp'.length_le
    rw [nm_size, nm_size] at hle
    rcases ht with ⟨_, hl2, hs⟩ | ⟨_, _, hl2, _⟩
    · have hsz : y.f0.size = x.f0.size := by omega
      have he : y.f0.data.toList = x.f0.data.toList := hp'.eq_of_length (by rw [nm_size, nm_size, hsz])
      exact ⟨by omega, hs, by rw [hr]; exact nm_one x y hx hy he⟩
    · omega
theorem nm_head (x : S35) (hx : x ∈ nmL) (r : List UInt8) : (x.f0.data.toList ++ r).head? ≠ some 35 ∧ x.f0.data.toList ≠ [] := by
  obtain ⟨p, p1, _, _⟩ := nm_of x hx
  have hpos := nm_pos p
  have hal := nm_mem x hx
  rw [p1] at hpos
  cases h : x.f0.data.toList with
  | nil => rw [h] at hpos; simp at hpos
  | cons c l =>
    refine ⟨fun e => ?_, by simp⟩
    have : c = 35 := by simpa using e
    have h2 := hal c (by rw [h]; simp)
    rw [this] at h2
    exact absurd h2 (by decide +kernel)
theorem fd_semi (attr : Bool) (x : S35) (hx : x ∈ nmL) (rest : List UInt8) : fd attr (38 :: (x.f0.data.toList ++ 59 :: rest)) = (x.f1, ((x.f0.size + 2 : Nat) : Int), true) := by
  obtain ⟨h1, h2, h3⟩ := bestB_semi x hx rest
  rw [fd_name attr _ (nm_head x hx _).1]
  unfold finB
  rw [if_neg (by omega), if_neg (by rw [h2]; simp), h1, h3]
theorem dec_semi (attr : Bool) (x : S35) (hx : x ∈ nmL) (rest : List UInt8) : dec attr (38 :: (x.f0.data.toList ++ 59 :: rest)) = Lib.encodeRune x.f1 ++ dec attr rest := by
  rw [dec_cons, fd_semi attr x hx rest, if_pos rfl]
  simp only [Int.toNat_natCast]
  rw [show x.f0.size + 2 = (x.f0.size + 1) + 1 by omega, List.drop_succ_cons, List.drop_append, List.drop_eq_nil_of_le (by rw [nm_size]; omega), nm_size, show x.f0.size + 1 - x.f0.size = 1 by omega]
  rfl
theorem string_one (r : Int) : Ev (fun k => selvedgeref02_String.f k [r]) ⟨(Lib.encodeRune r).toArray⟩ := by
  unfold selvedgeref02_String.f
  have hl := Lib.encodeRuneZ_length r
  have hlen : (([r] : List Int).length : Int) = 1 := rfl
  have hr : rd [r] 0 = r := rfl
  have hw : wrap64 (0 + 1) = 1 := by unfold wrap64; omega
  refine Ev.step (fun k => by rw [selvedgeref02_String.l0]) (Ev.pos (by rw [hlen]; decide) (Ev.pos (by decide) ?_))
  rw [hr, hw]
  refine Ev.bind (one_ev _) (Ev.pos (by simp only [List.length_nil]; omega) ?_)
  refine Ev.step (fun k => by rw [selvedgeref02_String.l0]) (Ev.neg (by rw [hlen]; decide) ?_)
  rw [List.nil_append, ← byteInts_rune, strOfNums_byteInts]
  exact Ev.now _
theorem toList_bytes (l : List UInt8) : (⟨l.toArray⟩ : ByteArray).data.toList = l := rfl
theorem rune_size (r : Int) : (⟨(Lib.encodeRune r).toArray⟩ : ByteArray).size ≤ 4 := by
  have := Lib.encodeRuneZ_length r
  simp [ByteArray.size, Lib.encodeRune]; omega
theorem rd_mem (i : Int) (h0 : 0 ≤ i) (h1 : i < 59) : rd_T35 nmL i ∈ nmL := by
  unfold rd_T35
  have h : i.toNat < nmL.length := by rw [show nmL.length = 59 from rfl]; omega
  rw [List.getD_eq_getElem?_getD, List.getElem?_eq_getElem h]
  exact List.getElem_mem _
end Go.Proofs.YtablhjobjmmpnaaDoor.Q
