/- The document's references by number are those of the program's: plain Lean over the printed functions. No condition but a text of at most 2^40 bytes. -/
import Derived.Test.YtablhjobjmmpnaaDoorQ4
import Derived.Test.YtablhjobjmmpnaaDoorStub
namespace Go.Proofs.YtablhjobjmmpnaaDoor.Q
set_option linter.unusedVariables false
set_option linter.unusedSimpArgs false
open Go.RowKit Go.Proofs.YtablhjobjmmpnaaDoorW.PrintWords Go.Proofs.YtablhjobjmmpnaaDoorW.PrintLast Go.Proofs.YtablhjobjmmpnaaDoorW.PrintMore

theorem Ev.pos {α : Type} {c : Prop} [Decidable c] {g f : Nat → Option α} {r : α} (h : c) (k : Ev g r) : Ev (fun n => if c then g n else f n) r := k.imp fun K hK n hn => by show (if c then g n else f n) = some r; rw [if_pos h]; exact hK n hn
theorem Ev.neg {α : Type} {c : Prop} [Decidable c] {g f : Nat → Option α} {r : α} (h : ¬ c) (k : Ev f r) : Ev (fun n => if c then g n else f n) r := k.imp fun K hK n hn => by show (if c then g n else f n) = some r; rw [if_neg h]; exact hK n hn
theorem Ev.const {α : Type} {a : Option α} {r : α} (h : a = some r) : Ev (fun _ => a) r := ⟨0, fun _ _ => h⟩

theorem begins_eq (a b : ByteArray) : selvedgeref03_begins.f a b = some (Lib.hasPrefix a.data.toList b.data.toList) := by
  unfold selvedgeref03_begins.f
  rw [← Lib.hasPrefix_raw]
  split
  · rename_i h
    have : b.size ≤ a.size := by omega
    simp [this]
  · rename_i h
    have : ¬ b.size ≤ a.size := by omega
    simp [this]
theorem pre1 (s : ByteArray) (c : UInt8) : Lib.hasPrefix s.data.toList [c] = decide (0 < s.size ∧ bt s 0 = c.toNat) := by
  rw [Bool.eq_iff_iff]
  have hl : s.data.toList.length = s.size := by simp
  unfold Lib.hasPrefix bt
  cases hs : s.data.toList with
  | nil => rw [hs] at hl; simp at hl; simp [← hl]
  | cons a r =>
    rw [hs] at hl
    have hp : 0 < s.size := by rw [← hl]; simp
    have h0 : s[0] = a := by
      have : s[0] = s.data.toList[0]'(by rw [hs]; simp) := rfl
      rw [this]; simp [hs]
    simp [hp, h0]
    constructor
    · intro h; rw [h]
    · intro h; exact (UInt8.toNat_inj.1 (by exact_mod_cast h)).symm

def dgR (c : Int) : Int := if dg c = 16 then -1 else dg c
theorem digit_dec : ∀ c : Fin 256, selvedgeref03_digit.f 3 (c.1 : Int) = some (dgR c.1) := by decide +kernel
theorem byte_fin (s : ByteArray) (i : Int) : ∃ c : Fin 256, bt s i = (c.1 : Int) := by
  have := bt_range s i
  exact ⟨⟨(bt s i).toNat, by omega⟩, by simp only; omega⟩
theorem digit_ev (s : ByteArray) (i : Int) : Ev (fun k => selvedgeref03_digit.f k (bt s i)) (dgR (bt s i)) := by
  obtain ⟨c, hc⟩ := byte_fin s i
  rw [hc]
  exact Ev.of (fun k => selvedgeref03_digit.mono _ k) (digit_dec c)
theorem xX_dec : ∀ c : Fin 256, (decide ((c.1 : Int) = 120) || decide ((c.1 : Int) = 88)) = decide (Go.bits .or .u8 (c.1 : Int) 32 = 120) := by decide +kernel

theorem bt_extract (s : ByteArray) (off : Nat) (i : Nat) : bt (s.extract off s.size) (i : Int) = bt s ((off + i : Nat) : Int) := by
  unfold bt
  simp only [Int.toNat_natCast, ByteArray.size_extract]
  by_cases h : i < s.size - off
  · rw [dif_pos (by omega), dif_pos (by omega)]
    congr 2
    simp [ByteArray.getElem_extract]
  · rw [dif_neg (by omega), dif_neg (by omega)]
theorem wrap64_nat (n : Nat) (h : n ≤ 4611686018427387904) : wrap64 ((n : Int) + 1) = ((n + 1 : Nat) : Int) := by unfold wrap64; omega
theorem wrap32_in {x : Int} (h0 : 0 ≤ x) (h1 : x ≤ 2147483647) : wrap32 x = x := by unfold wrap32; omega
theorem dgR_iff (c base : Int) (hb : base = 10 ∨ base = 16) : (0 ≤ dgR c ∧ dgR c < base) ↔ dg c < base := by
  have := dg_range c
  unfold dgR
  split <;> omega
theorem dgR_dg (c base : Int) (hb : base = 10 ∨ base = 16) (h : dg c < base) : dgR c = dg c := by
  unfold dgR
  rw [if_neg (by omega)]
theorem rnum_loop (s : ByteArray) (base : Int) (hb : base = 10 ∨ base = 16) (off : Nat) (hs : s.size ≤ 1099511627776) (r : Int × Int × Bool) : ∀ (f at_ : Nat) (n : Int), at_ + f = s.size → off ≤ at_ → 0 ≤ n → n ≤ 1114112 →
    Ev (fun k => selvedgeref03_number.j3 k s (((numL (s.extract off s.size) base f (at_ - off) n).1 + off : Nat) : Int) off (numL (s.extract off s.size) base f (at_ - off) n).2) r →
    Ev (fun k => selvedgeref03_number.l0 k s base at_ off n) r := by
  intro f
  induction f with
  | zero =>
    intro at_ n hf ho h0 h1 h
    rw [numL] at h
    refine Ev.step (fun k => by rw [selvedgeref03_number.l0]) (Ev.neg (by omega) ?_)
    simpa only [show at_ - off + off = at_ by omega] using h
  | succ f ih =>
    intro at_ n hf ho h0 h1 h
    have hbt : bt (s.extract off s.size) ((at_ - off : Nat) : Int) = bt s (at_ : Int) := by rw [bt_extract]; congr 2; omega
    have hsz : (s.extract off s.size).size = s.size - off := by simp
    have hr := dg_range (bt s at_)
    refine Ev.step (fun k => by rw [selvedgeref03_number.l0]) (Ev.pos (by omega) (Ev.pos (by omega) ?_))
    refine Ev.bind (digit_ev s at_) ?_
    rw [numL, hbt, hsz] at h
    by_cases hd : dg (bt s at_) < base
    · have hR := dgR_dg _ _ hb hd
      rw [if_pos ⟨by omega, hd⟩] at h
      refine Ev.pos (by rw [hR]; omega) (Ev.bind (digit_ev s at_) (Ev.pos (by rw [hR]; exact hd) (Ev.bind (digit_ev s at_) ?_)))
      rw [hR, wrap64_nat at_ (by omega)]
      have e1 : wrap32 (n * base) = n * base := wrap32_in (by rcases hb with rfl | rfl <;> omega) (by rcases hb with rfl | rfl <;> omega)
      have e2 : wrap32 (n * base + dg (bt s at_)) = n * base + dg (bt s at_) := wrap32_in (by rcases hb with rfl | rfl <;> omega) (by rcases hb with rfl | rfl <;> omega)
      have e3 : mn (n * base + dg (bt s at_)) 1114112 = min (n * base + dg (bt s at_)) 1114112 := by unfold mn; omega
      rw [e1, e2, e3]
      refine ih (at_ + 1) _ (by omega) (by omega) (by rcases hb with rfl | rfl <;> omega) (by omega) ?_
      rw [show at_ + 1 - off = at_ - off + 1 by omega]
      exact h
    · rw [if_neg (fun h => hd h.2)] at h
      simp only [show at_ - off + off = at_ by omega] at h
      have hn : ¬ (0 ≤ dgR (bt s at_) ∧ dgR (bt s at_) < base) := fun h => hd ((dgR_iff _ _ hb).1 h)
      by_cases hg : dgR (bt s at_) ≥ 0
      · exact Ev.pos hg (Ev.bind (digit_ev s at_) (Ev.neg (fun h => hn ⟨hg, h⟩) h))
      · exact Ev.neg hg h
def lookR (n : Int) : Int := ((rpL.find? fun x => decide (x.f0 = n)).map (·.f1)).getD n
theorem rnum_look (n a : Int) (l : List S77) : ∀ (f i : Nat), i + f = l.length → l.length ≤ 1000 →
    Ev (fun k => selvedgeref03_number.l1 k a n l i) (((((l.drop i).find? fun x => decide (x.f0 = n)).map (·.f1)).getD n), a, true) := by
  intro f
  induction f with
  | zero =>
    intro i hi hl
    refine Ev.step (fun k => by rw [selvedgeref03_number.l1]) (Ev.neg (by omega) ?_)
    rw [List.drop_eq_nil_of_le (by omega)]
    exact Ev.now _
  | succ f ih =>
    intro i hi hl
    have hg : l.drop i = l[i] :: l.drop (i + 1) := List.drop_eq_getElem_cons (by omega)
    have hrd : rd_T77 l i = l[i] := by unfold rd_T77; simp [List.getD_eq_getElem?_getD, show i < l.length by omega]
    refine Ev.step (fun k => by rw [selvedgeref03_number.l1]) (Ev.pos (by omega) (Ev.pos (by omega) ?_))
    rw [hrd, hg, List.find?_cons]
    by_cases he : l[i].f0 = n
    · refine Ev.pos he ?_
      rw [decide_eq_true he]
      exact Ev.now _
    · refine Ev.neg he ?_
      rw [decide_eq_false he, wrap64_nat i (by omega)]
      exact ih (i + 1) (by omega) hl

theorem rpL_keys : ∀ x ∈ rpL, 128 ≤ x.f0 ∧ x.f0 ≤ 159 := by decide
theorem lookR_dec : ∀ i : Fin 32, lookR (128 + i.1 : Int) = (if otT.getD i.1 0 ≠ 0 then otT.getD i.1 0 else 128 + i.1) := by decide +kernel
theorem lookR_out (n : Int) (h : n < 128 ∨ 159 < n) : lookR n = n := by
  unfold lookR
  rw [List.find?_eq_none.2 (fun x hx => by have := rpL_keys x hx; simp; omega)]
  rfl
theorem lookR_numC (n : Int) (h0 : 0 ≤ n) (h1 : n ≤ 1114112) : lookR (if n = 0 ∨ n > 1114111 ∨ (n ≥ 55296 ∧ n ≤ 57343) then 65533 else n) = numC n := by
  unfold numC
  have hv : validB n = false ↔ n > 1114111 ∨ (n ≥ 55296 ∧ n ≤ 57343) := by
    cases hv : validB n with
    | true => simp [validB] at hv; simp; omega
    | false => simp [validB] at hv; simp; omega
  by_cases hc : n = 0 ∨ n > 1114111 ∨ (n ≥ 55296 ∧ n ≤ 57343)
  · rw [if_pos hc, if_pos (by rw [hv]; exact hc), lookR_out _ (by omega)]
  · rw [if_neg hc, if_neg (by rw [hv]; exact hc)]
    by_cases hr : 128 ≤ n ∧ n ≤ 159
    · obtain ⟨i, rfl⟩ : ∃ i : Nat, n = 128 + i := ⟨(n - 128).toNat, by omega⟩
      have := lookR_dec ⟨i, by omega⟩
      simp only at this
      rw [this, show ((128 + (i : Int) - 128).toNat) = i by omega]
      by_cases ho : otT.getD i 0 ≠ 0
      · rw [if_pos ho, if_pos ⟨by omega, by omega, ho⟩]
      · rw [if_neg ho, if_neg (fun h => ho h.2.2)]
    · rw [lookR_out _ (by omega), if_neg (fun h => hr ⟨h.1, h.2.1⟩)]
theorem rnum_j7 (a n : Int) : Ev (fun k => selvedgeref03_number.j7 k a n) (lookR n, a, true) := by
  have h := rnum_look n a rpL rpL.length 0 (by simp) (by decide)
  refine Ev.step (f := fun k => (selvedgeref03_replaced.f k).bind fun t => selvedgeref03_number.l1 k a n t 0) (fun k => by rw [selvedgeref03_number.j7]) (Ev.bind (g := fun k => selvedgeref03_replaced.f k) (Ev.now rpL) ?_)
  simpa [lookR] using h
theorem rnum_j5 (a n : Int) (h0 : 0 ≤ n) (h1 : n ≤ 1114112) : Ev (fun k => selvedgeref03_number.j5 k a n) (numC n, a, true) := by
  rw [← lookR_numC n h0 h1]
  have yes : n = 0 ∨ n > 1114111 ∨ (n ≥ 55296 ∧ n ≤ 57343) → Ev (fun k => selvedgeref03_number.j6 k a n true) (lookR (if n = 0 ∨ n > 1114111 ∨ (n ≥ 55296 ∧ n ≤ 57343) then 65533 else n), a, true) := fun h => by
    rw [if_pos h]
    exact Ev.step (fun k => by rw [selvedgeref03_number.j6]) (Ev.pos rfl (rnum_j7 _ _))
  have no : ¬ (n = 0 ∨ n > 1114111 ∨ (n ≥ 55296 ∧ n ≤ 57343)) → Ev (fun k => selvedgeref03_number.j6 k a n false) (lookR (if n = 0 ∨ n > 1114111 ∨ (n ≥ 55296 ∧ n ≤ 57343) then 65533 else n), a, true) := fun h => by
    rw [if_neg h]
    exact Ev.step (fun k => by rw [selvedgeref03_number.j6]) (Ev.neg (by simp) (rnum_j7 _ _))
  refine Ev.step (fun k => by rw [selvedgeref03_number.j5]) ?_
  by_cases c1 : n = 0
  · exact Ev.pos c1 (yes (.inl c1))
  refine Ev.neg c1 ?_
  by_cases c2 : n > 1114111
  · exact Ev.pos c2 (yes (.inr (.inl c2)))
  refine Ev.neg c2 ?_
  by_cases c3 : n ≥ 55296
  · refine Ev.pos c3 ?_
    by_cases c4 : n ≤ 57343
    · rw [decide_eq_true c4]; exact yes (.inr (.inr ⟨c3, c4⟩))
    · rw [decide_eq_false c4]; exact no (by omega)
  · exact Ev.neg c3 (no (by omega))
theorem rnum_tail (s : ByteArray) (off at_ : Nat) (n : Int) (hs : s.size ≤ 1099511627776) (ha : at_ ≤ s.size) (h0 : 0 ≤ n) (h1 : n ≤ 1114112) :
    Ev (fun k => selvedgeref03_number.j3 k s at_ off n) (if at_ = off then (0, 0, false) else (numC n, ((at_ + (if at_ < s.size ∧ bt s at_ = 59 then 1 else 0) : Nat) : Int), true)) := by
  refine Ev.step (fun k => by rw [selvedgeref03_number.j3]) ?_
  by_cases c1 : at_ = off
  · rw [if_pos c1]
    exact Ev.pos (by omega) (Ev.now _)
  rw [if_neg c1]
  refine Ev.neg (by omega) ?_
  by_cases c2 : at_ < s.size
  · refine Ev.pos (by omega) (Ev.pos (by omega) (Ev.step (fun k => by rw [selvedgeref03_number.j4]) ?_))
    by_cases c3 : bt s at_ = 59
    · rw [if_pos ⟨c2, c3⟩]
      refine Ev.pos (by rw [c3]; rfl) ?_
      rw [wrap64_nat _ (by omega)]
      exact rnum_j5 _ _ h0 h1
    · rw [if_neg (fun h => c3 h.2)]
      exact Ev.neg (by simpa using c3) (rnum_j5 _ _ h0 h1)
  · rw [if_neg (fun h => c2 h.1)]
    refine Ev.neg (by omega) (Ev.step (fun k => by rw [selvedgeref03_number.j4]) ?_)
    exact Ev.neg (by simp) (rnum_j5 _ _ h0 h1)
theorem cutF_extract (s : ByteArray) (a : Nat) (ha : a ≤ s.size) : (cutF (s.extract a s.size)).size = s.size - (a + if a < s.size ∧ bt s a = 59 then 1 else 0) := by
  unfold cutF
  have hb : bt (s.extract a s.size) 0 = bt s a := by
    have := bt_extract s a 0
    simpa using this
  rw [hb, ByteArray.size_extract]
  by_cases c : a < s.size ∧ bt s a = 59
  · rw [if_pos ⟨by omega, c.2⟩, if_pos c]; simp; omega
  · rw [if_neg (fun h => c ⟨by omega, h.2⟩), if_neg c]; simp
theorem numL_range (s : ByteArray) (base : Int) (hb : base = 10 ∨ base = 16) : ∀ f i n, 0 ≤ n → n ≤ 1114112 → 0 ≤ (numL s base f i n).2 ∧ (numL s base f i n).2 ≤ 1114112
  | 0, i, n, h0, h1 => ⟨h0, h1⟩
  | f + 1, i, n, h0, h1 => by
    rw [numL]
    have := dg_range (bt s i)
    split
    · exact numL_range s base hb f _ _ (by rcases hb with rfl | rfl <;> omega) (by omega)
    · exact ⟨h0, h1⟩
/-- The document's number from behind its sign on. -/
theorem rnum_from (s : ByteArray) (base : Int) (off : Nat) (hb : base = 10 ∨ base = 16) (ho : off ≤ s.size) (hs : s.size ≤ 1099511627776) (hR : numR s = (s.extract off s.size, base)) :
    Ev (fun k => selvedgeref03_number.j1 k s base off) (numF s) := by
  refine Ev.step (fun k => by rw [selvedgeref03_number.j1]) ?_
  have hsz : (s.extract off s.size).size = s.size - off := by simp
  have hF := numF_of s (s.extract off s.size) base (numL (s.extract off s.size) base (s.extract off s.size).size 0 0).1 (numL (s.extract off s.size) base (s.extract off s.size).size 0 0).2 hR rfl
  have h1 := numL_range (s.extract off s.size) base hb (s.extract off s.size).size 0 0 (by omega) (by omega)
  have h2 := numL_le (s.extract off s.size) base (s.extract off s.size).size 0 0 (by omega)
  rw [hF]
  refine rnum_loop s base hb off hs _ (s.size - off) off 0 (by omega) (by omega) (by omega) (by omega) ?_
  rw [Nat.sub_self, ← hsz]
  generalize numL (s.extract off s.size) base (s.extract off s.size).size 0 0 = d at *
  obtain ⟨i, n⟩ := d
  simp only at h1 h2 ⊢
  rw [hsz] at h2
  have := rnum_tail s off (i + off) n hs (by omega) h1.1 h1.2
  unfold numE
  have e : (s.extract off s.size).extract i (s.extract off s.size).size = s.extract (i + off) s.size := by
    rw [hsz, ByteArray.extract_extract]
    congr 1 <;> omega
  rw [e, cutF_extract s (i + off) (by omega)]
  by_cases c : i = 0
  · rw [if_pos c]; rw [if_pos (by omega)] at this; exact this
  · rw [if_neg c]; rw [if_neg (by omega)] at this
    have e2 : ((i + off + (if i + off < s.size ∧ bt s ((i + off : Nat) : Int) = 59 then 1 else 0) : Nat) : Int) = (s.size : Int) - ((s.size - (i + off + if i + off < s.size ∧ bt s ((i + off : Nat) : Int) = 59 then 1 else 0) : Nat) : Int) := by
      split <;> omega
    rw [e2] at this
    exact this
theorem rnum (s : ByteArray) (hs : s.size ≤ 1099511627776) : Ev (fun k => selvedgeref03_number.f k s) (numF s) := by
  unfold selvedgeref03_number.f
  rw [begins_eq, begins_eq]
  have p120 : Lib.hasPrefix s.data.toList (⟨#[120]⟩ : ByteArray).data.toList = decide (0 < s.size ∧ bt s 0 = 120) := pre1 s 120
  have p88 : Lib.hasPrefix s.data.toList (⟨#[88]⟩ : ByteArray).data.toList = decide (0 < s.size ∧ bt s 0 = 88) := pre1 s 88
  rw [p120, p88]
  have hz := xX_dec
  obtain ⟨c, hc⟩ := byte_fin s 0
  have hx := hz c
  rw [← hc] at hx
  have yes : 0 < s.size ∧ Go.bits .or .u8 (bt s 0) 32 = 120 → Ev (fun k => selvedgeref03_number.j0 k s 10 0 true) (numF s) := fun h => by
    refine Ev.step (fun k => by rw [selvedgeref03_number.j0]) (Ev.pos rfl ?_)
    exact rnum_from s 16 1 (.inr rfl) h.1 hs (by unfold numR; rw [if_neg (by omega), if_pos h.2])
  have no : ¬ (0 < s.size ∧ Go.bits .or .u8 (bt s 0) 32 = 120) → Ev (fun k => selvedgeref03_number.j0 k s 10 0 false) (numF s) := fun h => by
    refine Ev.step (fun k => by rw [selvedgeref03_number.j0]) (Ev.neg (by simp) ?_)
    have e : s.extract 0 s.size = s := by simp
    refine rnum_from s 10 0 (.inl rfl) (by omega) hs ?_
    rw [e]
    unfold numR
    split
    · rfl
    · rename_i h'; rw [if_neg (fun h2 => h ⟨by omega, h2⟩)]
  refine Ev.bind (Ev.now _) ?_
  by_cases hp : 0 < s.size
  · simp only [hp, true_and] at *
    by_cases c1 : bt s 0 = 120
    · exact Ev.pos (decide_eq_true c1) (yes (by simpa [c1] using hx))
    · refine Ev.neg (by simpa using c1) (Ev.bind (Ev.now _) ?_)
      by_cases c2 : bt s 0 = 88
      · rw [decide_eq_true c2]; exact yes (by simpa [c2] using hx)
      · rw [decide_eq_false c2]; exact no (by simpa [c1, c2] using hx)
  · simp only [hp, false_and, decide_false] at *
    exact Ev.neg (by simp) (Ev.bind (Ev.now _) (no (by simp)))
end Go.Proofs.YtablhjobjmmpnaaDoor.Q
