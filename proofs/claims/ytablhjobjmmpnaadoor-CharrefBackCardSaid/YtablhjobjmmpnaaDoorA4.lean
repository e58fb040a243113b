/- charref.Decode: what it hands back. Conditions: the world's tables; a text of at most 2^40 bytes. -/
import Derived.Test.YtablhjobjmmpnaaDoorA3
import Derived.Test.YtablhjobjmmpnaaDoorB
namespace Go.Proofs.YtablhjobjmmpnaaDoor.Q
set_option linter.unusedVariables false
set_option linter.unusedSimpArgs false
open Go.RowKit Go.Proofs.YtablhjobjmmpnaaDoorW.PrintWords

theorem IsBuilderF_below {T e : TypeId} {B b : Nat} {bs : List Value} {W W1 : World} (h : Lib.IsBuilderF T e B b bs W) (hb : Below W.heap.size W W1) : Lib.IsBuilderF T e B b bs W1 := by
  have key : ∀ p, Lib.BuilderAtF T e B b p bs W → Lib.BuilderAtF T e B b p bs W1 := by
    rintro p ⟨hB, v, hbk, hown, hne⟩
    refine ⟨hB, v, ?_, hown.kept (grown_of_below hb none) (by cases v.ownBlock <;> simp), hne⟩
    rw [hb.block b ((Array.getElem?_eq_some_iff.1 hbk).1)]
    exact hbk
  rcases h with h | h
  · exact .inl (key _ h)
  · exact .inr (key _ h)

def decL (attr : Bool) : Nat → ByteArray → List UInt8
  | 0, _ => []
  | f + 1, s =>
    if Lib.indexByte s.data.toList 38 < 0 then s.data.toList else
    s.data.toList.take (Lib.indexByte s.data.toList 38).toNat ++
      (if (findF (s.extract (Lib.indexByte s.data.toList 38).toNat s.size) attr).2.2 = true then Lib.encodeRune (findF (s.extract (Lib.indexByte s.data.toList 38).toNat s.size) attr).1 ++ decL attr f (s.extract (Lib.indexByte s.data.toList 38 + (findF (s.extract (Lib.indexByte s.data.toList 38).toNat s.size) attr).2.1).toNat s.size)
      else 38 :: decL attr f (s.extract (Lib.indexByte s.data.toList 38 + 1).toNat s.size))
theorem nmAt_range (p : Nat) (h : p < 59) : 0 ≤ (nmAt p).2.1 ∧ (nmAt p).2.1 ≤ 1114111 := by
  have : ∀ q : Fin 59, 0 ≤ (nmAt q.1).2.1 ∧ (nmAt q.1).2.1 ≤ 1114111 := by decide
  exact this ⟨p, h⟩
theorem otT_range (i : Nat) : 0 ≤ otT.getD i 0 ∧ otT.getD i 0 ≤ 1114111 := by
  by_cases h : i < 32
  · have : ∀ q : Fin 32, 0 ≤ otT.getD q.1 0 ∧ otT.getD q.1 0 ≤ 1114111 := by decide
    exact this ⟨i, h⟩
  · rw [List.getD_eq_getElem?_getD, List.getElem?_eq_none (by rw [otT_length]; omega)]; simp
theorem numC_range (n : Int) : 0 ≤ numC n ∧ numC n ≤ 1114111 := by
  unfold numC
  have := otT_range (n - 128).toNat
  split
  · omega
  · split
    · omega
    · rename_i h _
      have hv : validB n = true := by cases hv : validB n with | true => rfl | false => exact absurd (Or.inr hv) h
      simp [validB] at hv
      omega
theorem numL_le (s : ByteArray) (base : Int) : ∀ f i n, i ≤ s.size → (numL s base f i n).1 ≤ s.size
  | 0, i, n, h => h
  | f + 1, i, n, h => by
    rw [numL]
    split
    · rename_i h'; exact numL_le s base f _ _ (by omega)
    · exact h
theorem numF_ok (s : ByteArray) (h : (numF s).2.2 = true) : (0 ≤ (numF s).1 ∧ (numF s).1 ≤ 1114111) := by
  unfold numF at *
  simp only at *
  split
  · rename_i h'; rw [if_pos h'] at h; cases h
  · exact numC_range _
def OkR (n : Nat) (r : Int × Int × Bool) : Prop := r.2.2 = true → (1 ≤ r.2.1 ∧ r.2.1 ≤ n) ∧ (0 ≤ r.1 ∧ r.1 ≤ 1114111)
theorem OkR.ite {n : Nat} {c : Prop} [Decidable c] {a b : Int × Int × Bool} (h1 : c → OkR n a) (h2 : ¬ c → OkR n b) : OkR n (if c then a else b) := by
  split
  · exact h1 ‹_›
  · exact h2 ‹_›
theorem OkR.no (n : Nat) : OkR n (0, 0, false) := fun h => by cases h
theorem OkR.mk {n : Nat} {a b : Int} (h1 : 1 ≤ b ∧ b ≤ n) (h2 : 0 ≤ a ∧ a ≤ 1114111) : OkR n (a, b, true) := fun _ => ⟨h1, h2⟩
theorem findL_ok (s : ByteArray) (attr : Bool) : ∀ e, e ≤ s.size → OkR s.size (findL s attr e)
  | 0, _ => OkR.no _
  | e + 1, he => by
    by_cases h1 : e + 1 ≤ 1
    · rw [findL_one _ _ _ h1]; exact OkR.no _
    · rw [findL_next _ _ _ (by omega)]
      refine OkR.ite (fun _ => findL_ok s attr e (by omega)) (fun c => ?_)
      have hp := nmAt_range _ (Classical.not_not.1 c).1
      refine OkR.ite (fun d => OkR.mk ⟨by omega, by omega⟩ hp) (fun _ => OkR.ite (fun _ => findL_ok s attr e (by omega)) (fun _ => OkR.ite (fun _ => OkR.no _) (fun _ => OkR.mk ⟨by omega, by omega⟩ hp)))
theorem findF_ok (s : ByteArray) (attr : Bool) : OkR s.size (findF s attr) := by
  unfold findF
  refine OkR.ite (fun _ => OkR.no _) (fun c => OkR.ite (fun d => ?_) (fun d => ?_))
  · refine OkR.ite (fun g => ?_) (fun _ => OkR.no _)
    have h1 := numF_range (s.extract 2 s.size)
    have h2 := prefix_size s _ d
    rw [ByteArray.size_extract] at h1
    simp only [List.length_cons, List.length_nil] at h2
    exact OkR.mk ⟨by omega, by omega⟩ (numF_ok _ g)
  · have hz : ¬ s.size = 0 := fun h' => c (.inl h')
    exact findL_ok s attr _ ((alnumEnd_ge s s.size 1).2 (by omega))
theorem indexByte_lt (c : UInt8) : ∀ l : List UInt8, 0 ≤ Lib.indexByte l c → Lib.indexByte l c < l.length
  | [], h => by simp [Lib.indexByte] at h
  | b :: l, h => by
    unfold Lib.indexByte at *
    rw [List.length_cons]
    split
    · omega
    · rename_i h1
      rw [if_neg h1] at h
      split
      · omega
      · rename_i h2
        rw [if_neg h2] at h
        have := Lib.indexByte_ge l c
        have h3 : Lib.indexByte l c ≠ -1 := fun e => h2 (by rw [e]; rfl)
        have := indexByte_lt c l (by omega)
        omega
theorem decL_len (attr : Bool) : ∀ f s, (decL attr f s).length ≤ 4 * s.size
  | 0, s => by simp [decL]
  | f + 1, s => by
    have hl : s.data.toList.length = s.size := by simp
    rw [decL]
    split
    · omega
    · rename_i hi
      have hok := findF_ok (s.extract (Lib.indexByte s.data.toList 38).toNat s.size) attr
      have hlt : Lib.indexByte s.data.toList 38 < s.size := by
        rw [← hl]; exact indexByte_lt _ _ (by omega)
      rw [List.length_append, List.length_take, hl]
      generalize Lib.indexByte s.data.toList 38 = i at *
      generalize hF : findF (s.extract i.toNat s.size) attr = F at *
      split
      · rename_i h
        have h1 := (hok h).1
        rw [ByteArray.size_extract] at h1
        have h2 := Lib.encodeRuneZ_length F.1
        have h3 := decL_len attr f (s.extract (i + F.2.1).toNat s.size)
        rw [ByteArray.size_extract] at h3
        rw [List.length_append, ← Lib.runeCells_length, Lib.runeCells, List.length_map]
        omega
      · have h3 := decL_len attr f (s.extract (i + 1).toNat s.size)
        rw [ByteArray.size_extract] at h3
        rw [List.length_cons]
        omega

def decB (s : ByteArray) (attr : Bool) : ByteArray := ⟨(decL attr (s.size + 1) s).toArray⟩
set_option maxHeartbeats 4000000 in
set_option maxRecDepth 100000 in
theorem decode_any (s : ByteArray) (attr : Bool) (w : World) (hs : s.size ≤ 1099511627776) (hG : GW w) : Calls Tryd.prog 10 #[.string s, .bool attr] w fun e w' => e = .returned (.string (decB s attr)) ∧ Below w.heap.size w w' := by
  have HD := Aside0.mk (show decB s attr = ⟨(decL attr (s.size + 1) s).toArray⟩ from rfl)
  generalize decB s attr = R at HD ⊢
  go_enter Tryd.func10, Tryd.ntmps10
  go_wp2_with fail
  go_loopg [0] (s.size + 1) (fun k v0 w' => ∃ (t : ByteArray) (acc : List UInt8), v0 = .string t ∧ t.size < k ∧ acc.length + 4 * t.size ≤ 4398046511104 ∧ Aside0 (R = ⟨(acc ++ decL attr k t).toArray⟩) ∧ Aside0 (Lib.IsBuilderF 41 5 w.heap.size w.heap.size (Lib.byteCells acc) w') ∧ Aside0 (Below w.heap.size w w'))
  case atStart => exact ⟨s, [], rfl, by omega, by simp; omega, ⟨by simpa using HD.out⟩, ⟨Lib.IsBuilderF.of (Lib.fresh_isBuilder 41 5 w)⟩, ⟨below_alloc (Below.refl _ _) _⟩⟩
  case round =>
    clear HD
    obtain ⟨t, acc, rfl, htk, hal, HA, HI, HB⟩ := hrel
    obtain ⟨k', rfl⟩ : ∃ m, gk = m + 1 := ⟨gk - 1, by omega⟩
    have hz := HB.out.size
    have hbl : (Lib.byteCells acc).length = acc.length := Lib.byteCells_length acc
    have HX := Aside0.mk (show (38 : Int).toNat.toUInt8 = 38 from rfl)
    have hts : t.data.toList.length = t.size := by simp
    have hilt := indexByte_lt 38 t.data.toList
    have hige := Lib.indexByte_ge t.data.toList 38
    rw [hts] at hilt
    obtain ⟨ix, hix⟩ : ∃ ix, Lib.indexByte t.data.toList 38 = ix := ⟨_, rfl⟩
    rw [hix] at hilt hige
    have HIx := Aside0.mk hix
    by_cases hi : ix < 0
    · have HE := Aside0.mk (show R = ⟨(acc ++ t.data.toList).toArray⟩ by rw [HA.out, decL, if_pos (by rw [hix]; exact hi)])
      clear HA hix hts hbl
      go_wp2_with fail
      refine (Tryd.strings_IndexByte _ _ _).mono ?_
      rw [HX.out, HIx.out]
      rintro e wr ⟨rfl, rfl⟩
      go_wp2_with fail
      refine (WriteString_k w.heap.size w.heap.size _ _ _ HI.out (by rw [Lib.byteCells_length]; omega) hz).mono ?_
      rintro e w1 ⟨rfl, h1, b1, k1⟩
      rw [Lib.strCells_eq, ← Lib.byteCells_append] at h1
      go_wp2_with fail
      refine (Tryd.Builder_String_any_k w.heap.size w.heap.size (acc ++ t.data.toList) _ (.inr h1) (Nat.le_trans hz b1.size)).mono ?_
      rintro e w2 ⟨rfl, h2, b2, k2⟩
      go_wp2_with fail
      go_ret
      rw [HE.out]
      exact ⟨rfl, (HB.out.trans b1).trans b2⟩
    · obtain ⟨i, rfl⟩ : ∃ i : Nat, ix = i := ⟨ix.toNat, by omega⟩
      replace hilt : i < t.size := by have := hilt (by omega); omega
      have HE := HA.out
      rw [decL, if_neg (by rw [hix]; exact hi)] at HE
      rw [hix, Int.toNat_natCast] at HE
      clear HA hix hts hbl hige hi
      obtain ⟨⟨r, n, ok⟩, hF⟩ : ∃ F, findF (t.extract i t.size) attr = F := ⟨_, rfl⟩
      have hok := findF_ok (t.extract i t.size) attr
      rw [hF] at HE hok
      have HF := Aside0.mk hF
      clear hF
      have htk' : (t.extract 0 i).data.toList = t.data.toList.take i := by rw [Lib.extract_data]; simp
      cases ok with
      | true =>
        obtain ⟨⟨hn1, hn2⟩, hr1, hr2⟩ := hok rfl
        clear hok
        rw [ByteArray.size_extract] at hn2
        simp only [if_true] at HE hn1 hn2 hr1 hr2
        obtain ⟨n, rfl⟩ : ∃ m : Nat, n = m := ⟨n.toNat, by omega⟩
        rw [show (i : Int) + (n : Int) = ((i + n : Nat) : Int) by omega, Int.toNat_natCast] at HE
        replace hn1 : 1 ≤ n := by omega
        replace hn2 : n ≤ t.size - i := by omega
        have HE := Aside0.mk HE
        go_wp2_with fail
        refine (Tryd.strings_IndexByte _ _ _).mono ?_
        rw [HX.out, HIx.out]
        rintro e wr ⟨rfl, rfl⟩
        go_wp2_with fail
        refine (WriteString_k w.heap.size w.heap.size _ _ _ HI.out (by rw [Lib.byteCells_length]; simp; omega) hz).mono ?_
        rintro e w1 ⟨rfl, h1, b1, k1⟩
        rw [Lib.strCells_eq, htk', ← Lib.byteCells_append] at h1
        have B1 := Aside0.mk (HB.out.trans b1)
        have z1 := Nat.le_trans hz b1.size
        have H1 := Aside0.mk h1
        clear b1 h1 k1
        go_wp2_with fail
        refine (find_any (t.extract i t.size) attr _ (by simp; omega) (GW_below hG B1.out)).mono ?_
        rw [HF.out]
        rintro e w2 ⟨rfl, b2⟩
        have B2 := Aside0.mk (below_step B1.out b2)
        have z2 := Nat.le_trans z1 b2.size
        have H2 := Aside0.mk (IsBuilderF_below (.inr H1.out) b2)
        clear b2
        go_wp2_with fail
        refine (WriteRune_k w.heap.size w.heap.size _ r (by omega) (by omega) _ H2.out (by rw [Lib.byteCells_length]; simp; omega) z2).mono ?_
        rintro e w3 ⟨rfl, h3, b3, k3⟩
        rw [← Lib.byteCells_encodeRune, ← Lib.byteCells_append] at h3
        have H3 := Aside0.mk h3
        have B3 := Aside0.mk (B2.out.trans b3)
        clear h3 b3 k3
        have hl := Lib.encodeRuneZ_length r
        go_wp2_with fail
        go_roundg k'
        case measure => omega
        case rel => exact ⟨t.extract (i + n) t.size, acc ++ t.data.toList.take i ++ Lib.encodeRune r, rfl, by simp; omega, by simp only [List.length_append, List.length_take, ← Lib.runeCells_length, ByteArray.size_extract]; simp only [Lib.runeCells, List.length_map]; omega, ⟨by rw [HE.out]; simp [List.append_assoc]⟩, ⟨.inr H3.out⟩, B3⟩
      | false =>
        clear hok
        simp only at HE
        have HE := Aside0.mk HE
        go_wp2_with fail
        refine (Tryd.strings_IndexByte _ _ _).mono ?_
        rw [HX.out, HIx.out]
        rintro e wr ⟨rfl, rfl⟩
        go_wp2_with fail
        refine (WriteString_k w.heap.size w.heap.size _ _ _ HI.out (by rw [Lib.byteCells_length]; simp; omega) hz).mono ?_
        rintro e w1 ⟨rfl, h1, b1, k1⟩
        rw [Lib.strCells_eq, htk', ← Lib.byteCells_append] at h1
        have B1 := Aside0.mk (HB.out.trans b1)
        have z1 := Nat.le_trans hz b1.size
        have H1 := Aside0.mk h1
        clear b1 h1 k1
        go_wp2_with fail
        refine (find_any (t.extract i t.size) attr _ (by simp; omega) (GW_below hG B1.out)).mono ?_
        rw [HF.out]
        rintro e w2 ⟨rfl, b2⟩
        have B2 := Aside0.mk (below_step B1.out b2)
        have z2 := Nat.le_trans z1 b2.size
        have H2 := Aside0.mk (IsBuilderF_below (.inr H1.out) b2)
        clear b2
        go_wp2_with fail
        refine (WriteByte_k w.heap.size w.heap.size _ 38 _ H2.out (by rw [Lib.byteCells_length]; simp; omega) z2).mono ?_
        rintro e w3 ⟨rfl, h3, b3, k3⟩
        have H3 := Aside0.mk h3
        have B3 := Aside0.mk (B2.out.trans b3)
        clear h3 b3 k3
        go_wp2_with fail
        go_roundg k'
        case measure => omega
        case rel => exact ⟨t.extract (i + 1) t.size, acc ++ t.data.toList.take i ++ [38], rfl, by simp; omega, by simp only [List.length_append, List.length_take, List.length_singleton, ByteArray.size_extract]; omega, ⟨by rw [HE.out]; simp [List.append_assoc]⟩, ⟨.inr (by rw [Lib.byteCells_append]; exact H3.out)⟩, B3⟩
end Go.Proofs.YtablhjobjmmpnaaDoor.Q
