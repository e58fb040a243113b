/- References as lists tell them; texts with a blank between. Plain Lean. No condition. -/
import Derived.Test.YtablhjobjmmpnaaDoorP6
namespace Go.Proofs.YtablhjobjmmpnaaDoor.Q
set_option linter.unusedVariables false
set_option linter.unusedSimpArgs false
open Go.RowKit Go.Proofs.YtablhjobjmmpnaaDoorW.PrintWords Go.Proofs.YtablhjobjmmpnaaDoorW.PrintLast Go.Proofs.YtablhjobjmmpnaaDoorW.PrintMore

def dp (base : Int) (c : UInt8) : Bool := decide (dg c.toNat < base)
def dstep (base : Int) (n : Int) (c : UInt8) : Int := min (n * base + dg c.toNat) 1114112
/-- A number's digits, and what is behind them. -/
def numD (base : Int) (l : List UInt8) : Int × Int × Bool :=
  if (l.takeWhile (dp base)).length = 0 then (0, 0, false)
  else (numC ((l.takeWhile (dp base)).foldl (dstep base) 0), ((l.takeWhile (dp base)).length : Int) + (if (l.drop (l.takeWhile (dp base)).length).head? = some 59 then 1 else 0), true)
def isX (c : UInt8) : Bool := decide (Go.bits .or .u8 (c.toNat : Int) 32 = 120)
def up1 (r : Int × Int × Bool) : Int × Int × Bool := if r.2.2 = true then (r.1, r.2.1 + 1, true) else (0, 0, false)
def numX : List UInt8 → Int × Int × Bool
  | [] => (0, 0, false)
  | c :: l => if isX c = true then up1 (numD 16 l) else numD 10 (c :: l)
theorem bt_list (s : ByteArray) (a : List UInt8) (c : UInt8) (b : List UInt8) (h : s.data.toList = a ++ c :: b) : bt s (a.length : Int) = (c.toNat : Int) := by
  have hl : s.data.toList.length = s.size := by simp
  rw [h] at hl
  simp only [List.length_append, List.length_cons] at hl
  have hlt : ((a.length : Int)).toNat < s.size := by omega
  rw [← bt_at s _ hlt]
  have e : s[((a.length : Int)).toNat] = s.data.toList[a.length]'(by rw [h]; simp) := rfl
  rw [e]
  simp [h]
theorem numL_list (s : ByteArray) (base : Int) : ∀ (f : Nat) (a b : List UInt8) (n : Int), s.data.toList = a ++ b → b.length ≤ f →
    numL s base f a.length n = (a.length + (b.takeWhile (dp base)).length, (b.takeWhile (dp base)).foldl (dstep base) n)
  | 0, a, b, n, h, hf => by obtain rfl := List.length_eq_zero_iff.1 (Nat.le_zero.1 hf); rfl
  | f + 1, a, [], n, h, hf => by
    have hl : s.data.toList.length = s.size := by simp
    rw [h] at hl
    simp only [List.append_nil] at hl
    rw [numL, if_neg (by omega)]; rfl
  | f + 1, a, c :: b, n, h, hf => by
    have hl : s.data.toList.length = s.size := by simp
    rw [h] at hl
    simp only [List.length_append, List.length_cons] at hl hf
    have hb := bt_list s a c b h
    rw [numL, hb]
    by_cases hd : dg (c.toNat : Int) < base
    · rw [if_pos ⟨by omega, hd⟩]
      have := numL_list s base f (a ++ [c]) b (min (n * base + dg c.toNat) 1114112) (by rw [h]; simp) (by omega)
      rw [List.length_append, List.length_singleton] at this
      rw [this, List.takeWhile_cons_of_pos (by simp [dp, hd])]
      simp only [List.length_cons, List.foldl_cons, Prod.mk.injEq]
      exact ⟨by omega, rfl⟩
    · rw [if_neg (fun h => hd h.2), List.takeWhile_cons_of_neg (by simp [dp, hd])]
      rfl
theorem numE_list (s rest : ByteArray) (base : Int) (l : List UInt8) (h : rest.data.toList = l) :
    numE s rest (l.takeWhile (dp base)).length ((l.takeWhile (dp base)).foldl (dstep base) 0) =
      if (numD base l).2.2 = true then ((numD base l).1, (s.size : Int) - rest.size + (numD base l).2.1, true) else (0, 0, false) := by
  have hl : l.length = rest.size := by rw [← h]; simp
  have hle : (l.takeWhile (dp base)).length ≤ l.length := (List.takeWhile_prefix _).length_le
  unfold numE numD
  by_cases c : (l.takeWhile (dp base)).length = 0
  · rw [if_pos c, if_pos c]; rfl
  · rw [if_neg c, if_neg c, cutF_extract _ _ (by omega)]
    simp only [if_true, Prod.mk.injEq, and_true, true_and]
    have hiff : ((l.takeWhile (dp base)).length < rest.size ∧ bt rest ((l.takeWhile (dp base)).length : Nat) = 59) ↔ (l.drop (l.takeWhile (dp base)).length).head? = some 59 := by
      generalize hk : (l.takeWhile (dp base)).length = k at *
      rw [List.head?_drop]
      by_cases hlt : k < rest.size
      · have e : l = l.take k ++ l[k]'(by omega) :: l.drop (k + 1) := by rw [← List.drop_eq_getElem_cons, List.take_append_drop]
        have hb := bt_list rest (l.take k) (l[k]'(by omega)) (l.drop (k + 1)) (by rw [h]; exact e)
        rw [List.length_take, Nat.min_eq_left (by omega)] at hb
        rw [hb, List.getElem?_eq_getElem (by omega)]
        constructor
        · intro h; rw [UInt8.toNat_inj.1 (show (l[k]'(by omega)).toNat = (59 : UInt8).toNat by exact_mod_cast h.2)]
        · intro h; rw [Option.some.inj h]; exact ⟨hlt, rfl⟩
      · rw [List.getElem?_eq_none (by omega)]; simp; omega
    by_cases c2 : (l.drop (l.takeWhile (dp base)).length).head? = some 59
    · rw [if_pos c2, if_pos (hiff.2 c2)]
      have := (hiff.2 c2).1
      omega
    · rw [if_neg c2, if_neg (fun h => c2 (hiff.1 h))]; omega
theorem numF_list (l : List UInt8) (s : ByteArray) (h : s.data.toList = l) : numF s = numX l := by
  have hl : l.length = s.size := by rw [← h]; simp
  have key : ∀ (rest : ByteArray) (base : Int), numR s = (rest, base) → numF s = if (numD base rest.data.toList).2.2 = true then ((numD base rest.data.toList).1, (s.size : Int) - rest.size + (numD base rest.data.toList).2.1, true) else (0, 0, false) := by
    intro rest base hR
    have hn := numL_list rest base rest.size [] rest.data.toList 0 rfl (by simp)
    simp only [List.length_nil, Nat.zero_add] at hn
    rw [numF_of s rest base _ _ hR hn.symm, numE_list s rest base _ rfl]
  have hD : ∀ base l, (if (numD base l).2.2 = true then ((numD base l).1, (numD base l).2.1, true) else ((0 : Int), (0 : Int), false)) = numD base l := by
    intro base l
    unfold numD
    split
    · rfl
    · rfl
  cases l with
  | nil =>
    rw [key s 10 (by unfold numR; rw [if_pos (by simpa using hl.symm)]), h]
    rfl
  | cons c l =>
    have hb : bt s 0 = c.toNat := bt_list s [] c l h
    have hne : ¬ s.size = 0 := by rw [← hl]; simp
    rw [show numX (c :: l) = if isX c = true then up1 (numD 16 l) else numD 10 (c :: l) from rfl]
    by_cases hx : isX c = true
    · rw [if_pos hx]
      have hx' : Go.bits .or .u8 (c.toNat : Int) 32 = 120 := by simpa [isX] using hx
      have hE : (s.extract 1 s.size).data.toList = l := by
        have := extract_list s [c] l 0 (by rw [h]; rfl)
        simpa using this
      rw [key (s.extract 1 s.size) 16 (by unfold numR; rw [if_neg hne, hb, if_pos hx']), hE]
      unfold up1
      rw [ByteArray.size_extract]
      split
      · simp only [Prod.mk.injEq, true_and, and_true]; omega
      · rfl
    · rw [if_neg hx]
      have hx' : ¬ Go.bits .or .u8 (c.toNat : Int) 32 = 120 := by simpa [isX] using hx
      rw [key s 10 (by unfold numR; rw [if_neg hne, hb, if_neg hx']), h, Int.sub_self]
      simp only [Int.zero_add]
      exact hD 10 _

/-! ### what begins with & -/
def up2 (r : Int × Int × Bool) : Int × Int × Bool := if r.2.2 = true then (r.1, r.2.1 + 2, true) else (0, 0, false)
theorem bt_of (l : List UInt8) (c : UInt8) (b : List UInt8) (h : l = c :: b) : bt ⟨l.toArray⟩ 0 = (c.toNat : Int) := bt_list ⟨l.toArray⟩ [] c b (by rw [← h]; rfl)
theorem fd_num (attr : Bool) (l : List UInt8) : fd attr (38 :: 35 :: l) = up2 (numX l) := by
  unfold fd findF up2
  have hb := bt_of (38 :: 35 :: l) 38 (35 :: l) rfl
  rw [if_neg (by rw [hb]; simp [ByteArray.size]), if_pos (by simp [Lib.hasPrefix])]
  have hE := extract_list ⟨(38 :: 35 :: l).toArray⟩ [38, 35] l 0 rfl
  simp only [List.length_cons, List.length_nil, List.drop_zero, Nat.add_zero, Nat.zero_add] at hE
  rw [numF_list l _ hE]
theorem fd_name (attr : Bool) (M : List UInt8) (h : M.head? ≠ some 35) : fd attr (38 :: M) = finB ⟨(38 :: M).toArray⟩ attr (bestB M) := by
  unfold fd findF
  have hb := bt_of (38 :: M) 38 M rfl
  have hp : ¬ Lib.hasPrefix (⟨(38 :: M).toArray⟩ : ByteArray).data.toList [38, 35] = true := by
    cases M with
    | nil => simp [Lib.hasPrefix]
    | cons a M =>
      intro e
      simp [Lib.hasPrefix] at e
      exact h (by rw [← e]; rfl)
  rw [if_neg (by rw [hb]; simp [ByteArray.size]), if_neg hp, findL_best (M := M) rfl]
theorem fd_nil (attr : Bool) : fd attr [] = (0, 0, false) := by unfold fd findF; exact if_pos (.inl rfl)

/-! ### a blank behind -/
theorem take_blank {p : UInt8 → Bool} (hp : p 32 = false) (l b : List UInt8) : (l ++ 32 :: b).takeWhile p = l.takeWhile p := by
  rw [List.takeWhile_append]
  split
  · rename_i h
    rw [List.takeWhile_cons_of_neg (by simp [hp]), List.append_nil]
    exact ((List.takeWhile_prefix p).eq_of_length h).symm
  · rfl
theorem numD_blank (base : Int) (hb : base ≤ 16) (l b : List UInt8) : numD base (l ++ 32 :: b) = numD base l := by
  have hp : dp base 32 = false := by
    have : dg 32 = 16 := by decide
    simp [dp, this]; omega
  unfold numD
  rw [take_blank hp]
  have hle : (l.takeWhile (dp base)).length ≤ l.length := (List.takeWhile_prefix _).length_le
  have : ((l ++ 32 :: b).drop (l.takeWhile (dp base)).length).head? = some 59 ↔ (l.drop (l.takeWhile (dp base)).length).head? = some 59 := by
    rw [List.drop_append_of_le_length hle]
    cases hd : l.drop (l.takeWhile (dp base)).length with
    | nil => simp
    | cons a r => simp
  simp only [this]
theorem isX32 : isX 32 = false := by decide +kernel
theorem numX_blank (l b : List UInt8) : numX (l ++ 32 :: b) = numX l := by
  cases l with
  | nil =>
    show (if isX 32 = true then up1 (numD 16 b) else numD 10 (32 :: b)) = (0, 0, false)
    rw [isX32, if_neg (by simp)]
    exact numD_blank 10 (by decide) [] b
  | cons c l =>
    show (if isX c = true then up1 (numD 16 (l ++ 32 :: b)) else numD 10 ((c :: l) ++ 32 :: b)) = (if isX c = true then up1 (numD 16 l) else numD 10 (c :: l))
    rw [numD_blank 16 (by decide), numD_blank 10 (by decide)]
theorem nm_mem (y : S35) (hy : y ∈ nmL) : ∀ c ∈ y.f0.data.toList, alnumB (c.toNat : Int) = true := by
  obtain ⟨p, hb, _, _⟩ := nm_of y hy
  intro c hc
  rw [← hb] at hc
  exact List.all_eq_true.1 (nm_alnum p) c hc
theorem nm_size (y : S35) : y.f0.data.toList.length = y.f0.size := by simp
/-- A name is no longer than what is alnum. -/
theorem name_cut (y : S35) (hy : y ∈ nmL) (l : List UInt8) (c : UInt8) (b : List UInt8) (hc : alnumB (c.toNat : Int) = false) (h : y.f0.data.toList <+: l ++ c :: b) : y.f0.data.toList <+: l := by
  by_cases hle : y.f0.data.toList.length ≤ l.length
  · exact List.prefix_of_prefix_length_le h (List.prefix_append _ _) hle
  · exfalso
    have hmem : c ∈ y.f0.data.toList := by
      have e := List.prefix_iff_eq_take.1 h
      rw [e]
      rw [List.take_append]
      refine List.mem_append_right _ ?_
      obtain ⟨k, hk⟩ : ∃ k, y.f0.data.toList.length - l.length = k + 1 := ⟨y.f0.data.toList.length - l.length - 1, by omega⟩
      rw [hk, List.take_succ_cons]
      exact List.mem_cons_self
    rw [nm_mem y hy c hmem] at hc
    cases hc
theorem stepB_blank (M b : List UInt8) (B : Best) (y : S35) (hy : y ∈ nmL) : stepB (M ++ 32 :: b) B y = stepB M B y := by
  unfold stepB
  by_cases hp : y.f0.data.toList <+: M
  · have hp' : y.f0.data.toList <+: M ++ 32 :: b := hp.trans (List.prefix_append _ _)
    have hle := hp.length_le
    rw [nm_size] at hle
    have h59 : (M ++ 32 :: b)[y.f0.size]? = some 59 ↔ M[y.f0.size]? = some 59 := by
      rcases Nat.lt_or_ge y.f0.size M.length with h | h
      · rw [List.getElem?_append_left h]
      · have e : y.f0.size = M.length := by omega
        rw [e, List.getElem?_append_right (Nat.le_refl _), List.getElem?_eq_none (Nat.le_refl _)]
        simp
    rw [if_pos hp, if_pos hp']
    simp only [h59]
  · rw [if_neg hp, if_neg (fun h => hp (name_cut y hy M 32 b (by decide +kernel) h))]
theorem foldl_cong {α β : Type} {f g : β → α → β} : ∀ (l : List α) (b : β), (∀ b, ∀ x ∈ l, f b x = g b x) → l.foldl f b = l.foldl g b
  | [], b, h => rfl
  | x :: l, b, h => by
    rw [List.foldl_cons, List.foldl_cons, h b x (by simp)]
    exact foldl_cong l _ (fun b y hy => h b y (by simp [hy]))
theorem bestB_blank (M b : List UInt8) : bestB (M ++ 32 :: b) = bestB M := foldl_cong nmL _ (fun B y hy => stepB_blank M b B y hy)
theorem bestB_len (M : List UInt8) : (bestB M).len ≤ M.length + 1 := by
  rcases (bestB_ok M).1 with ⟨h, _, _⟩ | ⟨y, hy, hp, _, ht⟩
  · omega
  · have hle := hp.length_le
    rw [nm_size] at hle
    rcases ht with ⟨h59, hl, _⟩ | ⟨_, _, hl, _⟩
    · obtain ⟨hlt, _⟩ := List.getElem?_eq_some_iff.1 h59
      omega
    · omega
theorem fd_blank (attr : Bool) (c : UInt8) (l b : List UInt8) : fd attr ((c :: l) ++ 32 :: b) = fd attr (c :: l) := by
  by_cases hc : c = 38
  · subst hc
    cases l with
    | nil =>
      show fd attr (38 :: ([] ++ 32 :: b)) = _
      rw [fd_name attr _ (by simp), fd_name attr [] (by simp), bestB_blank]
      have h0 : (bestB []).len = 0 := by decide +kernel
      unfold finB
      rw [if_pos h0, if_pos h0]
    | cons d l =>
      by_cases hd : d = 35
      · subst hd
        show fd attr (38 :: 35 :: (l ++ 32 :: b)) = _
        rw [fd_num, fd_num, numX_blank]
      · show fd attr (38 :: ((d :: l) ++ 32 :: b)) = _
        rw [fd_name attr _ (by simpa using hd), fd_name attr (d :: l) (by simpa using hd), bestB_blank]
        have hlen := bestB_len (d :: l)
        unfold finB
        split
        · rfl
        · have hs : ∀ x : List UInt8, (⟨x.toArray⟩ : ByteArray).size = x.length := fun x => by simp [ByteArray.size]
          rw [hs, hs]
          congr 1
          refine propext (and_congr_right fun _ => and_congr_right fun _ => ?_)
          generalize (bestB (d :: l)).len = n at *
          simp only [List.length_cons, List.length_append] at hlen ⊢
          rcases Nat.lt_or_ge n (l.length + 2) with h | h
          · have e : ∀ r : List UInt8, bt ⟨(38 :: ((d :: l) ++ r)).toArray⟩ (n : Int) = ((38 :: d :: l)[n]'(by simp; omega)).toNat := fun r => by
              have := bt_list ⟨(38 :: ((d :: l) ++ r)).toArray⟩ ((38 :: d :: l).take n) ((38 :: d :: l)[n]'(by simp; omega)) ((38 :: d :: l).drop (n + 1) ++ r) (by
                show 38 :: ((d :: l) ++ r) = _
                have e0 : (38 :: d :: l : List UInt8) = (38 :: d :: l).take n ++ (38 :: d :: l)[n]'(by simp; omega) :: (38 :: d :: l).drop (n + 1) := by rw [← List.drop_eq_getElem_cons, List.take_append_drop]
                calc (38 :: d :: l) ++ r = ((38 :: d :: l).take n ++ (38 :: d :: l)[n]'(by simp; omega) :: (38 :: d :: l).drop (n + 1)) ++ r := congrArg (· ++ r) e0
                  _ = _ := by simp only [List.append_assoc, List.cons_append])
              rwa [List.length_take, Nat.min_eq_left (by simp; omega)] at this
            have e1 := e (32 :: b)
            have e2 := e []
            rw [List.append_nil] at e2
            rw [e1, e2]
            constructor
            · intro h'; exact ⟨by omega, h'.2⟩
            · intro h'; exact ⟨by omega, h'.2⟩
          · obtain rfl : n = l.length + 2 := by omega
            constructor
            · intro h'
              have := bt_list ⟨(38 :: ((d :: l) ++ 32 :: b)).toArray⟩ (38 :: d :: l) 32 b rfl
              simp only [List.length_cons] at this
              rw [this] at h'
              rcases h'.2 with h' | h'
              · exact absurd h' (by decide)
              · exact absurd h' (by decide +kernel)
            · intro h'; omega
  · rw [fd_not attr c l hc]
    show fd attr (c :: (l ++ 32 :: b)) = _
    rw [fd_not attr c _ hc]
theorem dec_blank (attr : Bool) : ∀ (f : Nat) (a b : List UInt8), a.length ≤ f → dec attr (a ++ 32 :: b) = dec attr a ++ 32 :: dec attr b
  | f, [], b, _ => by
    show dec attr (32 :: b) = _
    rw [dec_cons, fd_not attr 32 b (by decide), if_neg (by simp)]; rfl
  | 0, c :: a, b, h => by simp at h
  | f + 1, c :: a, b, h => by
    have hok := fd_ok attr (c :: a)
    simp only [List.length_cons] at hok h
    rw [dec_cons attr c a]
    show dec attr (c :: (a ++ 32 :: b)) = _
    rw [dec_cons]
    have e := fd_blank attr c a b
    rw [List.cons_append] at e
    rw [e]
    split
    · rename_i hc
      have hn := (hok hc).1
      rw [← List.cons_append, List.drop_append_of_le_length (by simp only [List.length_cons]; omega), dec_blank attr f _ b (by simp; omega), List.append_assoc]
    · rw [dec_blank attr f a b (by omega)]; rfl
theorem decB_blank (a b : ByteArray) (attr : Bool) : decB ((a ++ ⟨#[32]⟩) ++ b) attr = (decB a attr ++ ⟨#[32]⟩) ++ decB b attr := by
  apply ByteArray.ext
  apply Array.ext'
  rw [decB_dec]
  simp only [ByteArray.data_append, Array.toList_append, decB_dec, List.append_assoc, List.cons_append, List.nil_append]
  exact dec_blank attr _ _ _ (Nat.le_refl _)
theorem decB_size (s : ByteArray) (attr : Bool) : (decB s attr).size ≤ 4 * s.size := by
  have h := dec_len attr s.data.toList
  rw [← decB_dec] at h
  simpa using h
theorem pieces_ev (a b : ByteArray) (attr : Bool) : Ev (fun k => selvedgelaw03_CharrefPieces.f k a b attr) true := by
  unfold selvedgelaw03_CharrefPieces.f
  have yes : Ev (fun k => selvedgelaw03_CharrefPieces.j0 k a b attr true) true := Ev.step (fun k => by rw [selvedgelaw03_CharrefPieces.j0]) (Ev.pos rfl works_ev')
  by_cases c1 : (a.size : Int) > 2000
  · exact Ev.pos c1 yes
  refine Ev.neg c1 ?_
  by_cases c2 : (b.size : Int) > 2000
  · rw [decide_eq_true c2]; exact yes
  rw [decide_eq_false c2]
  have z32 : (⟨#[32]⟩ : ByteArray).size = 1 := rfl
  have s1 : ((a ++ ⟨#[32]⟩ : ByteArray)).size = a.size + 1 := by rw [ByteArray.size_append, z32]
  have s2 : (((a ++ ⟨#[32]⟩ : ByteArray)) ++ b).size = a.size + 1 + b.size := by rw [ByteArray.size_append, s1]
  have d1 := decB_size a attr
  have d2 := decB_size b attr
  have s3 : ((decB a attr ++ ⟨#[32]⟩ : ByteArray)).size = (decB a attr).size + 1 := by rw [ByteArray.size_append, z32]
  refine Ev.step (fun k => by rw [selvedgelaw03_CharrefPieces.j0]) (Ev.neg (by simp) (Ev.pos (by omega) (Ev.pos (by omega) ?_)))
  refine Ev.bind (decode_ev _ _ (by omega)) (Ev.bind (decode_ev _ _ (by omega)) (Ev.pos (by omega) (Ev.bind (decode_ev _ _ (by omega)) (Ev.pos (by omega) (Ev.pos ?_ works_ev')))))
  rw [decB_blank]
theorem pureCharrefPieces (a b : ByteArray) (attr : Bool) : ∃ k, selvedgelaw03_CharrefPieces.f k a b attr = some true := (pieces_ev a b attr).rounds
end Go.Proofs.YtablhjobjmmpnaaDoor.Q
