/- The document's Find and Decode answer as the program's; the program's Decode goes character by character. Plain Lean over the printed functions. Condition: a text of at most 2^40 bytes. -/
import Derived.Test.YtablhjobjmmpnaaDoorP4
import Derived.Test.YtablhjobjmmpnaaDoorStub
namespace Go.Proofs.YtablhjobjmmpnaaDoor.Q
set_option linter.unusedVariables false
set_option linter.unusedSimpArgs false
open Go.RowKit Go.Proofs.YtablhjobjmmpnaaDoorW.PrintWords Go.Proofs.YtablhjobjmmpnaaDoorW.PrintLast Go.Proofs.YtablhjobjmmpnaaDoorW.PrintMore

/-! ### the bytes of a character -/
theorem or192 : ∀ y : Fin 32, Go.bits .or .u8 192 (y.1 : Int) = 192 + y.1 := by decide +kernel
theorem or224 : ∀ y : Fin 16, Go.bits .or .u8 224 (y.1 : Int) = 224 + y.1 := by decide +kernel
theorem or240 : ∀ y : Fin 8, Go.bits .or .u8 240 (y.1 : Int) = 240 + y.1 := by decide +kernel
theorem or128 : ∀ y : Fin 64, Go.bits .or .u8 128 (y.1 : Int) = 128 + y.1 := by decide +kernel
theorem or192' {y : Int} (h0 : 0 ≤ y) (h1 : y < 32) : Go.bits .or .u8 192 y = 192 + y := by
  have := or192 ⟨y.toNat, by omega⟩; rwa [show ((y.toNat : Nat) : Int) = y by omega] at this
theorem or224' {y : Int} (h0 : 0 ≤ y) (h1 : y < 16) : Go.bits .or .u8 224 y = 224 + y := by
  have := or224 ⟨y.toNat, by omega⟩; rwa [show ((y.toNat : Nat) : Int) = y by omega] at this
theorem or240' {y : Int} (h0 : 0 ≤ y) (h1 : y < 8) : Go.bits .or .u8 240 y = 240 + y := by
  have := or240 ⟨y.toNat, by omega⟩; rwa [show ((y.toNat : Nat) : Int) = y by omega] at this
theorem or128' {y : Int} (h0 : 0 ≤ y) (h1 : y < 64) : Go.bits .or .u8 128 y = 128 + y := by
  have := or128 ⟨y.toNat, by omega⟩; rwa [show ((y.toNat : Nat) : Int) = y by omega] at this
theorem and63 (x : Int) (h0 : 0 ≤ x) (h1 : x < 2147483648) : Go.bits .and .i32 x 63 % 256 = x % 64 := by
  have : Go.bits .and .i32 x 63 = x % 64 := Go.bits_mask .i32 31 (by decide) Go.wraps_i32 6 (by decide) x h0 h1
  rw [this]; omega
theorem one_ev (r : Int) : Ev (fun k => selvedgeref02_One.f k r) (Lib.encodeRuneZ r) := by
  have yes : r < 0 ∨ 1114111 < r ∨ (55296 ≤ r ∧ r ≤ 57343) → Ev (fun k => selvedgeref02_One.j0 k r true) (Lib.encodeRuneZ r) := fun h =>
    Ev.step (fun k => by rw [selvedgeref02_One.j0]) (by rw [Lib.encodeRuneZ_bad (by omega)]; exact Ev.pos rfl (Ev.now _))
  have no : ¬ (r < 0 ∨ 1114111 < r ∨ (55296 ≤ r ∧ r ≤ 57343)) → Ev (fun k => selvedgeref02_One.j0 k r false) (Lib.encodeRuneZ r) := fun h => by
    refine Ev.step (fun k => by rw [selvedgeref02_One.j0]) (Ev.neg (by simp) ?_)
    by_cases c1 : r < 128
    · rw [Lib.encodeRuneZ_one (by omega) (by omega)]
      refine Ev.pos c1 ?_
      rw [show r % 256 = r by omega]; exact Ev.now _
    refine Ev.neg c1 ?_
    by_cases c2 : r < 2048
    · rw [Lib.encodeRuneZ_two (by omega) (by omega)]
      refine Ev.pos c2 ?_
      rw [and63 r (by omega) (by omega), or128' (by omega) (by omega), or192' (by omega) (by omega), show r / 64 % 256 = r / 64 by omega]
      exact Ev.now _
    refine Ev.neg c2 ?_
    by_cases c3 : r < 65536
    · rw [Lib.encodeRuneZ_three (by omega)]
      refine Ev.pos c3 ?_
      rw [and63 r (by omega) (by omega), and63 (r / 64) (by omega) (by omega), or128' (by omega) (by omega), or128' (by omega) (by omega), or224' (by omega) (by omega), show r / 4096 % 256 = r / 4096 by omega]
      exact Ev.now _
    refine Ev.neg c3 ?_
    rw [Lib.encodeRuneZ_four (by omega) (by omega)]
    rw [and63 r (by omega) (by omega), and63 (r / 64) (by omega) (by omega), and63 (r / 4096) (by omega) (by omega), or128' (by omega) (by omega), or128' (by omega) (by omega), or128' (by omega) (by omega), or240' (by omega) (by omega), show r / 262144 % 256 = r / 262144 by omega]
    exact Ev.now _
  unfold selvedgeref02_One.f
  by_cases c1 : r < 0
  · exact Ev.pos c1 (yes (.inl c1))
  refine Ev.neg c1 ?_
  by_cases c2 : r > 1114111
  · exact Ev.pos c2 (yes (.inr (.inl c2)))
  refine Ev.neg c2 ?_
  by_cases c3 : r ≥ 55296
  · refine Ev.pos c3 ?_
    by_cases c4 : r ≤ 57343
    · rw [decide_eq_true c4]; exact yes (.inr (.inr ⟨c3, c4⟩))
    · rw [decide_eq_false c4]; exact no (by omega)
  · exact Ev.neg c3 (no (by omega))

/-! ### Find -/
theorem find_ev (s : ByteArray) (attr : Bool) (hs : s.size ≤ 1099511627776) : Ev (fun k => selvedgeref03_Find.f k s attr) (findF s attr) := by
  unfold selvedgeref03_Find.f
  rw [begins_eq, begins_eq]
  have p38 : Lib.hasPrefix s.data.toList (⟨#[38]⟩ : ByteArray).data.toList = decide (0 < s.size ∧ bt s 0 = 38) := pre1 s 38
  rw [p38]
  refine Ev.bind (Ev.now _) ?_
  by_cases h0 : 0 < s.size ∧ bt s 0 = 38
  · refine Ev.pos (decide_eq_true h0) (Ev.bind (Ev.now _) ?_)
    unfold findF
    rw [if_neg (by omega)]
    by_cases hx : Lib.hasPrefix s.data.toList [38, 35] = true
    · rw [if_pos hx]
      have h2 := prefix_size s _ hx
      simp only [List.length_cons, List.length_nil] at h2
      refine Ev.pos hx (Ev.pos (by omega) (Ev.bind (rnum _ (by simp; omega)) ?_))
      have hr := numF_range (s.extract 2 s.size)
      rw [ByteArray.size_extract] at hr
      have hw : wrap64 ((numF (s.extract 2 s.size)).2.1 + 2) = (numF (s.extract 2 s.size)).2.1 + 2 := by unfold wrap64; omega
      rw [hw]
      by_cases hok : (numF (s.extract 2 s.size)).2.2 = true
      · simp only [hok, if_true]; exact Ev.now _
      · simp only [hok, if_false, Bool.false_eq_true]; exact Ev.now _
    · rw [if_neg hx]
      refine Ev.neg hx (Ev.bind (g := fun k => selvedgeref03_Names.f k) (Ev.now nmL) ?_)
      obtain ⟨M, hM⟩ : ∃ M, s.data.toList = 38 :: M := by
        have hl : s.data.toList.length = s.size := by simp
        cases hd : s.data.toList with
        | nil => rw [hd] at hl; simp at hl; omega
        | cons a r =>
          have h1 : (0 : Int).toNat < s.size := by simpa using h0.1
          have := bt_at s 0 h1
          have e : s[(0 : Int).toNat] = s.data.toList[0]'(by rw [hl]; exact h0.1) := rfl
          rw [e] at this
          simp only [hd, List.getElem_cons_zero] at this
          rw [h0.2] at this
          exact ⟨r, by rw [UInt8.toNat_inj.1 (show a.toNat = (38 : UInt8).toNat by exact_mod_cast this)]⟩
      rw [findL_best hM]
      have := find_loop hM attr hs nmL.length 0 ByteArray.empty ⟨0, false, 0⟩ (by simp) ⟨rfl, fun h => absurd h (by simp)⟩ (by decide)
      exact this
  · refine Ev.neg (by simpa using h0) ?_
    unfold findF
    rw [if_pos (by omega)]
    exact Ev.now _

/-! ### character by character -/
def fd (attr : Bool) (l : List UInt8) : Int × Int × Bool := findF ⟨l.toArray⟩ attr
def decR (attr : Bool) : Nat → List UInt8 → List UInt8
  | 0, _ => []
  | f + 1, [] => []
  | f + 1, c :: l => if (fd attr (c :: l)).2.2 = true then Lib.encodeRune (fd attr (c :: l)).1 ++ decR attr f ((c :: l).drop (fd attr (c :: l)).2.1.toNat) else c :: decR attr f l
theorem fd_ok (attr : Bool) (l : List UInt8) : OkR l.length (fd attr l) := by
  have := findF_ok ⟨l.toArray⟩ attr
  simpa [fd, ByteArray.size] using this
theorem decR_nil (attr : Bool) : ∀ f, decR attr f [] = []
  | 0 => rfl
  | f + 1 => rfl
theorem fd_not (attr : Bool) (c : UInt8) (l : List UInt8) (h : c ≠ 38) : fd attr (c :: l) = (0, 0, false) := by
  unfold fd findF
  refine if_pos (.inr ?_)
  intro h2
  have h1 : (0 : Int).toNat < (⟨(c :: l).toArray⟩ : ByteArray).size := by simp [ByteArray.size]
  have := bt_at (⟨(c :: l).toArray⟩ : ByteArray) 0 h1
  rw [h2] at this
  have e : (⟨(c :: l).toArray⟩ : ByteArray)[(0 : Int).toNat] = c := rfl
  rw [e] at this
  exact h (UInt8.toNat_inj.1 (show c.toNat = (38 : UInt8).toNat by exact_mod_cast this))
/-- Fuel: enough is enough. -/
theorem decR_fuel (attr : Bool) : ∀ f g l, l.length ≤ f → l.length ≤ g → decR attr f l = decR attr g l
  | 0, g, l, h1, h2 => by obtain rfl := List.length_eq_zero_iff.1 (Nat.le_zero.1 h1); rw [decR_nil, decR_nil]
  | f + 1, 0, l, h1, h2 => by obtain rfl := List.length_eq_zero_iff.1 (Nat.le_zero.1 h2); rw [decR_nil, decR_nil]
  | f + 1, g + 1, [], _, _ => rfl
  | f + 1, g + 1, c :: l, h1, h2 => by
    have hok := fd_ok attr (c :: l)
    simp only [List.length_cons] at h1 h2
    rw [decR, decR]
    split
    · rename_i h
      have := (hok h).1
      simp only [List.length_cons] at this
      rw [decR_fuel attr f g _ (by simp; omega) (by simp; omega)]
    · rw [decR_fuel attr f g l (by omega) (by omega)]
/-- The text, decoded. -/
def dec (attr : Bool) (l : List UInt8) : List UInt8 := decR attr l.length l
theorem dec_nil (attr : Bool) : dec attr [] = [] := rfl
theorem dec_cons (attr : Bool) (c : UInt8) (l : List UInt8) : dec attr (c :: l) = if (fd attr (c :: l)).2.2 = true then Lib.encodeRune (fd attr (c :: l)).1 ++ dec attr ((c :: l).drop (fd attr (c :: l)).2.1.toNat) else c :: dec attr l := by
  unfold dec
  have hok := fd_ok attr (c :: l)
  rw [List.length_cons, decR]
  split
  · rename_i h
    have := (hok h).1
    simp only [List.length_cons] at this
    rw [decR_fuel attr l.length _ _ (by simp; omega) (Nat.le_refl _)]
  · rfl
theorem dec_plain (attr : Bool) : ∀ a b : List UInt8, (∀ c ∈ a, c ≠ 38) → dec attr (a ++ b) = a ++ dec attr b
  | [], b, _ => rfl
  | c :: a, b, h => by
    rw [List.cons_append, dec_cons, fd_not attr c _ (h c (by simp)), if_neg (by simp), dec_plain attr a b (fun c hc => h c (by simp [hc]))]
    rfl
theorem index_split (c : UInt8) : ∀ l : List UInt8, (Lib.indexByte l c = -1 ∧ ∀ x ∈ l, x ≠ c) ∨ ∃ a b, l = a ++ c :: b ∧ Lib.indexByte l c = a.length ∧ ∀ x ∈ a, x ≠ c
  | [] => .inl ⟨rfl, fun x hx => by cases hx⟩
  | x :: l => by
    by_cases h : x = c
    · exact .inr ⟨[], l, by rw [h]; rfl, by simp [Lib.indexByte, h], fun x hx => by cases hx⟩
    · have hx : ¬ ((x == c) = true) := by simpa using h
      rcases index_split c l with ⟨h1, h2⟩ | ⟨a, b, h1, h2, h3⟩
      · refine .inl ⟨by simp [Lib.indexByte, h, h1], fun y hy => ?_⟩
        rcases List.mem_cons.1 hy with rfl | hy
        · exact h
        · exact h2 y hy
      · refine .inr ⟨x :: a, b, by rw [h1]; rfl, ?_, fun y hy => ?_⟩
        · have : ¬ ((Lib.indexByte l c == -1) = true) := by rw [h2]; simp
          rw [Lib.indexByte, if_neg hx, if_neg this, h2, List.length_cons]; rfl
        · rcases List.mem_cons.1 hy with rfl | hy
          · exact h
          · exact h3 y hy
theorem dec_none (attr : Bool) (l : List UInt8) (h : ∀ c ∈ l, c ≠ 38) : dec attr l = l := by
  have := dec_plain attr l [] h
  simpa [dec_nil] using this
theorem fd_extract (attr : Bool) (s : ByteArray) (a : List UInt8) (b : List UInt8) (h : s.data.toList = a ++ b) : findF (s.extract a.length s.size) attr = fd attr b := by
  unfold fd
  congr 1
  apply ByteArray.ext
  apply Array.ext'
  rw [Lib.extract_data, h]
  have hl : s.data.toList.length = s.size := by simp
  rw [h] at hl
  simp only [List.length_append] at hl
  simp [← hl, List.take_of_length_le]
theorem extract_list (s : ByteArray) (a : List UInt8) (b : List UInt8) (n : Nat) (h : s.data.toList = a ++ b) : (s.extract (a.length + n) s.size).data.toList = b.drop n := by
  rw [Lib.extract_data, h]
  have hl : s.data.toList.length = s.size := by simp
  rw [h] at hl
  simp only [List.length_append] at hl
  rw [List.take_of_length_le (by simp; omega), List.drop_append]
  simp
theorem decL_dec (attr : Bool) : ∀ f s, s.size < f → decL attr f s = dec attr s.data.toList
  | 0, s, h => by omega
  | f + 1, s, h => by
    rw [decL]
    have hl : s.data.toList.length = s.size := by simp
    rcases index_split 38 s.data.toList with ⟨h1, h2⟩ | ⟨a, b, h1, h2, h3⟩
    · rw [if_pos (by rw [h1]; decide), dec_none attr _ h2]
    · rw [h2, if_neg (by omega), Int.toNat_natCast, fd_extract attr s a (38 :: b) h1]
      have hok := fd_ok attr (38 :: b)
      have hs : s.size = a.length + (b.length + 1) := by rw [← hl, h1]; simp
      simp only [List.length_cons] at hok
      rw [show s.data.toList.take a.length = a by rw [h1]; simp]
      conv => rhs; rw [h1, dec_plain attr a _ h3, dec_cons]
      congr 1
      split
      · rename_i hc
        have hn := (hok hc).1
        have e : ((a.length : Int) + (fd attr (38 :: b)).2.1).toNat = a.length + (fd attr (38 :: b)).2.1.toNat := by omega
        rw [e, decL_dec attr f _ (by rw [ByteArray.size_extract]; omega), extract_list s a (38 :: b) _ h1]
      · rw [show ((a.length : Int) + 1).toNat = a.length + 1 by omega, decL_dec attr f _ (by rw [ByteArray.size_extract]; omega), extract_list s a (38 :: b) _ h1]
        rfl
theorem decB_dec (s : ByteArray) (attr : Bool) : (decB s attr).data.toList = dec attr s.data.toList := by
  unfold decB
  rw [decL_dec attr _ _ (by omega)]
theorem decB_eq (s : ByteArray) (attr : Bool) : decB s attr = ⟨(dec attr s.data.toList).toArray⟩ := by
  unfold decB
  rw [decL_dec attr _ _ (by omega)]
theorem dec_len (attr : Bool) (l : List UInt8) : (dec attr l).length ≤ 4 * l.length := by
  have h := decL_len attr (l.length + 1) ⟨l.toArray⟩
  rw [decL_dec attr _ _ (by simp [ByteArray.size])] at h
  simpa [ByteArray.size] using h
/-! ### the document's Decode -/
def byteInts (l : List UInt8) : List Int := l.map fun c => (c.toNat : Int)
theorem byteInts_rune (r : Int) : byteInts (Lib.encodeRune r) = Lib.encodeRuneZ r := by
  unfold byteInts Lib.encodeRune
  rw [List.map_map]
  refine (List.map_congr_left fun x hx => ?_).trans (List.map_id _)
  have := Lib.encodeRuneZ_byte r x hx
  simp only [Function.comp, id_eq]
  have h2 : x.toNat.toUInt8.toNat = x.toNat := by rw [Nat.toUInt8_eq, UInt8.toNat_ofNat']; omega
  rw [h2]; omega
theorem strOfNums_byteInts (l : List UInt8) : strOfNums (byteInts l) = ⟨l.toArray⟩ := by
  unfold strOfNums byteInts
  rw [List.map_map]
  congr 2
  refine (List.map_congr_left fun x hx => ?_).trans (List.map_id _)
  simp
theorem rdec_loop (s : ByteArray) (attr : Bool) (hs : s.size ≤ 1099511627776) : ∀ (f : Nat) (a b acc : List UInt8), s.data.toList = a ++ b → b.length ≤ f → acc.length + 4 * b.length ≤ 4398046511104 + 100 →
    Ev (fun k => selvedgeref03_Decode.l0 k s attr (byteInts acc) a.length) ⟨(acc ++ dec attr b).toArray⟩ := by
  intro f
  induction f with
  | zero =>
    intro a b acc h1 h2 h3
    have hl : s.data.toList.length = s.size := by simp
    rw [h1, List.length_append] at hl
    obtain rfl := List.length_eq_zero_iff.1 (Nat.le_zero.1 h2)
    refine Ev.step (fun k => by rw [selvedgeref03_Decode.l0]) (Ev.neg (by simp at hl; omega) ?_)
    rw [strOfNums_byteInts, dec_nil, List.append_nil]
    exact Ev.now _
  | succ f ih =>
    intro a b acc h1 h2 h3
    have hl : s.data.toList.length = s.size := by simp
    rw [h1, List.length_append] at hl
    cases b with
    | nil =>
      refine Ev.step (fun k => by rw [selvedgeref03_Decode.l0]) (Ev.neg (by simp at hl; omega) ?_)
      rw [strOfNums_byteInts, dec_nil, List.append_nil]
      exact Ev.now _
    | cons c b =>
      simp only [List.length_cons] at hl h2 h3
      have hbl : (byteInts acc).length = acc.length := by simp [byteInts]
      refine Ev.step (fun k => by rw [selvedgeref03_Decode.l0]) (Ev.pos (by omega) (Ev.pos (by omega) (Ev.pos (by omega) (Ev.bind (find_ev _ _ (by simp; omega)) ?_))))
      rw [Int.toNat_natCast, fd_extract attr s a (c :: b) h1, dec_cons]
      have hok := fd_ok attr (c :: b)
      simp only [List.length_cons] at hok
      by_cases hc : (fd attr (c :: b)).2.2 = true
      · rw [if_pos hc]
        have hn := (hok hc).1
        refine Ev.pos hc (Ev.bind (one_ev _) ?_)
        have hrl := Lib.encodeRuneZ_length (fd attr (c :: b)).1
        refine Ev.pos (by omega) ?_
        rw [← byteInts_rune, show byteInts acc ++ byteInts (Lib.encodeRune (fd attr (c :: b)).1) = byteInts (acc ++ Lib.encodeRune (fd attr (c :: b)).1) by simp [byteInts], ← List.append_assoc]
        have hrl2 : (Lib.encodeRune (fd attr (c :: b)).1).length = (Lib.encodeRuneZ (fd attr (c :: b)).1).length := by simp [Lib.encodeRune]
        have := ih (a ++ (c :: b).take (fd attr (c :: b)).2.1.toNat) ((c :: b).drop (fd attr (c :: b)).2.1.toNat) (acc ++ Lib.encodeRune (fd attr (c :: b)).1) (by rw [h1, List.append_assoc, List.take_append_drop]) (by simp; omega) (by simp only [List.length_append, List.length_drop, List.length_cons]; omega)
        have e : wrap64 ((a.length : Int) + (fd attr (c :: b)).2.1) = ((a ++ (c :: b).take (fd attr (c :: b)).2.1.toNat).length : Nat) := by
          simp only [List.length_append, List.length_take, List.length_cons]; unfold wrap64; omega
        rw [e]
        exact this
      · rw [if_neg hc]
        refine Ev.neg hc (Ev.pos (by omega) ?_)
        have hb : bt s (a.length : Int) = (c.toNat : Int) := by
          have hlt : ((a.length : Int)).toNat < s.size := by omega
          rw [← bt_at s _ hlt]
          have e : s[((a.length : Int)).toNat] = s.data.toList[a.length]'(by rw [h1]; simp) := rfl
          rw [e]
          simp [h1]
        rw [hb, show byteInts acc ++ [(c.toNat : Int)] = byteInts (acc ++ [c]) by simp [byteInts]]
        have := ih (a ++ [c]) b (acc ++ [c]) (by rw [h1]; simp) (by omega) (by simp only [List.length_append, List.length_singleton]; omega)
        have e : wrap64 ((a.length : Int) + 1) = ((a ++ [c]).length : Nat) := by
          rw [List.length_append, List.length_singleton]; exact wrap64_nat _ (by omega)
        rw [e]
        simpa using this
theorem rdec_ev (s : ByteArray) (attr : Bool) (hs : s.size ≤ 1099511627776) : Ev (fun k => selvedgeref03_Decode.f k s attr) (decB s attr) := by
  have hl : s.data.toList.length = s.size := by simp
  have := rdec_loop s attr hs s.data.toList.length [] s.data.toList [] rfl (Nat.le_refl _) (by simp only [List.length_nil]; omega)
  rw [decB_eq]
  exact this
end Go.Proofs.YtablhjobjmmpnaaDoor.Q
