/- A reference by name: the program's (the longest word that is a name, from behind) is the document's (the longest of all names). Plain Lean. Condition: a text of at most 2^40 bytes. -/
import Derived.Test.YtablhjobjmmpnaaDoorP2

namespace Go.Proofs.YtablhjobjmmpnaaDoor.Q
set_option linter.unusedVariables false
set_option linter.unusedSimpArgs false
open Go.RowKit Go.Proofs.YtablhjobjmmpnaaDoorW.PrintWords Go.Proofs.YtablhjobjmmpnaaDoorW.PrintLast Go.Proofs.YtablhjobjmmpnaaDoorW.PrintMore

/-- M: what is behind the &. A name stands there, and with ; or alone. -/
def Hit (M : List UInt8) (p m : Nat) : Prop := p < 59 ∧ nmB p <+: M ∧ m = (nmB p).length ∧ (M[m]? = some 59 ∨ (nmAt p).2.2 = true)
/-- What the document's loop holds: how long, with ;, its character. -/
structure Best where
  len : Nat
  semi : Bool
  r : Int
def stepB (M : List UInt8) (b : Best) (x : S35) : Best :=
  if x.f0.data.toList <+: M then
    if M[x.f0.size]? = some 59 then (if b.len < x.f0.size + 2 then ⟨x.f0.size + 2, true, x.f1⟩ else b)
    else if x.f2 = true then (if b.len < x.f0.size + 1 then ⟨x.f0.size + 1, false, x.f1⟩ else b) else b
  else b
/-- x is told by b. -/
def Told (M : List UInt8) (x : S35) (b : Best) : Prop := x.f0.data.toList <+: M ∧ b.r = x.f1 ∧ ((M[x.f0.size]? = some 59 ∧ b.len = x.f0.size + 2 ∧ b.semi = true) ∨ (M[x.f0.size]? ≠ some 59 ∧ x.f2 = true ∧ b.len = x.f0.size + 1 ∧ b.semi = false))
def Least (M : List UInt8) (x : S35) (n : Nat) : Prop := x.f0.data.toList <+: M → (M[x.f0.size]? = some 59 → x.f0.size + 2 ≤ n) ∧ (M[x.f0.size]? ≠ some 59 → x.f2 = true → x.f0.size + 1 ≤ n)
theorem stepB_ok (M : List UInt8) (b : Best) (x : S35) (l : List S35) (h1 : (b.len = 0 ∧ b.semi = false ∧ b.r = 0) ∨ ∃ y ∈ l, Told M y b) (h2 : ∀ y ∈ l, Least M y b.len) :
    (((stepB M b x).len = 0 ∧ (stepB M b x).semi = false ∧ (stepB M b x).r = 0) ∨ ∃ y ∈ l ++ [x], Told M y (stepB M b x)) ∧ (∀ y ∈ l ++ [x], Least M y (stepB M b x).len) := by
  have keep : ∀ n, b.len ≤ n → ∀ y ∈ l, Least M y n := fun n hn y hy hp => ⟨fun h => by have := (h2 y hy hp).1 h; omega, fun h h' => by have := (h2 y hy hp).2 h h'; omega⟩
  have same : Least M x b.len → (((b.len = 0 ∧ b.semi = false ∧ b.r = 0) ∨ ∃ y ∈ l ++ [x], Told M y b) ∧ (∀ y ∈ l ++ [x], Least M y b.len)) := fun hx => ⟨h1.imp id (fun ⟨y, hy, ht⟩ => ⟨y, List.mem_append_left _ hy, ht⟩), fun y hy => by
    rcases List.mem_append.1 hy with hy | hy
    · exact h2 y hy
    · rw [List.mem_singleton.1 hy]; exact hx⟩
  have turn : ∀ b' : Best, b.len < b'.len → Told M x b' → Least M x b'.len → (((b'.len = 0 ∧ b'.semi = false ∧ b'.r = 0) ∨ ∃ y ∈ l ++ [x], Told M y b') ∧ (∀ y ∈ l ++ [x], Least M y b'.len)) := fun b' hl ht hx => ⟨.inr ⟨x, by simp, ht⟩, fun y hy => by
    rcases List.mem_append.1 hy with hy | hy
    · exact keep _ (by omega) y hy
    · rw [List.mem_singleton.1 hy]; exact hx⟩
  unfold stepB
  split
  · rename_i hp
    split
    · rename_i hs
      split
      · rename_i hl
        exact turn _ hl ⟨hp, rfl, .inl ⟨hs, rfl, rfl⟩⟩ (fun _ => ⟨fun _ => Nat.le_refl _, fun h => absurd hs h⟩)
      · rename_i hl
        exact same (fun _ => ⟨fun _ => by omega, fun h => absurd hs h⟩)
    · rename_i hs
      split
      · rename_i ha
        split
        · rename_i hl
          exact turn _ hl ⟨hp, rfl, .inr ⟨hs, ha, rfl, rfl⟩⟩ (fun _ => ⟨fun h => absurd h hs, fun _ _ => Nat.le_refl _⟩)
        · rename_i hl
          exact same (fun _ => ⟨fun h => absurd h hs, fun _ _ => by omega⟩)
      · rename_i ha
        exact same (fun _ => ⟨fun h => absurd h hs, fun _ h => absurd h ha⟩)
  · rename_i hp
    exact same (fun h => absurd h hp)
theorem foldB_ok (M : List UInt8) : ∀ (l2 l1 : List S35) (b : Best), ((b.len = 0 ∧ b.semi = false ∧ b.r = 0) ∨ ∃ y ∈ l1, Told M y b) → (∀ y ∈ l1, Least M y b.len) →
    (((l2.foldl (stepB M) b).len = 0 ∧ (l2.foldl (stepB M) b).semi = false ∧ (l2.foldl (stepB M) b).r = 0) ∨ ∃ y ∈ l1 ++ l2, Told M y (l2.foldl (stepB M) b)) ∧ (∀ y ∈ l1 ++ l2, Least M y (l2.foldl (stepB M) b).len)
  | [], l1, b, h1, h2 => by simpa using ⟨h1, h2⟩
  | x :: l2, l1, b, h1, h2 => by
    obtain ⟨g1, g2⟩ := stepB_ok M b x l1 h1 h2
    have := foldB_ok M l2 (l1 ++ [x]) (stepB M b x) g1 g2
    simpa using this
def bestB (M : List UInt8) : Best := nmL.foldl (stepB M) ⟨0, false, 0⟩
theorem bestB_ok (M : List UInt8) : (((bestB M).len = 0 ∧ (bestB M).semi = false ∧ (bestB M).r = 0) ∨ ∃ y ∈ nmL, Told M y (bestB M)) ∧ (∀ y ∈ nmL, Least M y (bestB M).len) := by
  have := foldB_ok M nmL [] ⟨0, false, 0⟩ (.inl ⟨rfl, rfl, rfl⟩) (fun y hy => by cases hy)
  simpa [bestB] using this
/-- What the document answers, of the longest. -/
def finB (s : ByteArray) (attr : Bool) (b : Best) : Int × Int × Bool :=
  if b.len = 0 then (0, 0, false) else if attr = true ∧ b.semi = false ∧ b.len < s.size ∧ (bt s (b.len : Nat) = 61 ∨ alnumB (bt s (b.len : Nat)) = true) then (0, 0, false) else (b.r, (b.len : Int), true)

section
variable {s : ByteArray} {M : List UInt8} (hM : s.data.toList = 38 :: M)
include hM
theorem hM_size : s.size = M.length + 1 := by
  have : s.data.toList.length = s.size := by simp
  rw [← this, hM]; simp
theorem hM_word (e : Nat) (he : 1 ≤ e) : (s.extract 1 e).data.toList = M.take (e - 1) := by
  rw [Lib.extract_data, hM]; simp
theorem hM_bt (m : Nat) : ∀ h : m < M.length, bt s ((m + 1 : Nat) : Int) = M[m].toNat := by
  intro h
  have hs := hM_size hM
  have h1 : (((m + 1 : Nat) : Int)).toNat < s.size := by rw [Int.toNat_natCast]; omega
  rw [← bt_at s ((m + 1 : Nat) : Int) h1]
  have : s[(((m + 1 : Nat) : Int)).toNat] = s.data.toList[m + 1]'(by rw [hM]; simp; omega) := rfl
  rw [this]
  simp [hM]
theorem hM_semi (m : Nat) : M[m]? = some 59 ↔ m + 1 < s.size ∧ bt s ((m + 1 : Nat) : Int) = 59 := by
  have hs := hM_size hM
  by_cases h : m < M.length
  · rw [List.getElem?_eq_getElem h, hM_bt hM m h]
    constructor
    · intro e; have := Option.some.inj e; rw [this]; exact ⟨by omega, rfl⟩
    · intro e; rw [UInt8.toNat_inj.1 (show M[m].toNat = (59 : UInt8).toNat by exact_mod_cast e.2)]
  · rw [List.getElem?_eq_none (by omega)]
    constructor
    · intro e; cases e
    · intro e; omega
theorem hM_alnum (f : Nat) : ∀ m i, m ≤ M.length → (∀ c ∈ M.take m, alnumB (c.toNat : Int) = true) → i ≤ m → m ≤ i + f → m + 1 ≤ alnumEnd s f (i + 1) := by
  have hs := hM_size hM
  induction f with
  | zero => intro m i h1 h2 h3 h4; rw [alnumEnd]; omega
  | succ f ih =>
    intro m i h1 h2 h3 h4
    rw [alnumEnd]
    by_cases hi : i < m
    · have h5 : alnumB (bt s ((i + 1 : Nat) : Int)) = true := by
        rw [hM_bt hM i (by omega)]
        exact h2 _ (List.mem_take_iff_getElem.2 ⟨i, by omega, rfl⟩)
      rw [if_pos ⟨by omega, h5⟩]
      exact ih m (i + 1) h1 h2 (by omega) (by omega)
    · split
      · have := (alnumEnd_ge s f (i + 1 + 1)).1; omega
      · omega
theorem findL_skip (attr : Bool) (e : Nat) : ∀ d, e + d ≤ s.size → (∀ e', e < e' → e' ≤ e + d → 2 ≤ e' → ∀ p, p < 59 → nmB p = M.take (e' - 1) → M[e' - 1]? ≠ some 59 ∧ (nmAt p).2.2 = false) → findL s attr (e + d) = findL s attr e
  | 0, _, _ => rfl
  | d + 1, hd, h => by
    rw [← findL_skip attr e d (by omega) (fun e' h1 h2 => h e' h1 (by omega))]
    by_cases h1 : e + (d + 1) ≤ 1
    · rw [findL_one _ _ _ h1, findL_one _ _ _ (by omega)]
    · rw [show e + (d + 1) = (e + d) + 1 by omega, findL_next _ _ _ (by omega)]
      split
      · rfl
      · rename_i c
        have c := Classical.not_not.1 c
        have hf := halves_found _ c
        rw [hM_word hM _ (by omega)] at hf
        have := h (e + d + 1) (by omega) (by omega) (by omega) _ c.1 hf
        rw [if_neg (fun g => this.1 ((hM_semi hM (e + d)).2 (by simpa using g))), if_pos this.2]
/-- THE TWO ARE ONE. -/
theorem findL_best (attr : Bool) : findL s attr (alnumEnd s s.size 1) = finB s attr (bestB M) := by
  have hs := hM_size hM
  have hae := (alnumEnd_ge s s.size 1).2 (by omega)
  have hag := (alnumEnd_ge s s.size 1).1
  obtain ⟨h1, h2⟩ := bestB_ok M
  have noHit : ∀ e', 2 ≤ e' → e' ≤ s.size → ∀ p, p < 59 → nmB p = M.take (e' - 1) → ∃ y ∈ nmL, y.f0.data.toList <+: M ∧ y.f0.size = e' - 1 ∧ y.f2 = (nmAt p).2.2 ∧ Least M y (bestB M).len := fun e' h3 h4 p hp hn => by
    obtain ⟨y, hy, hb, hr, ha⟩ := nm_to ⟨p, hp⟩
    simp only at hb hr ha
    refine ⟨y, hy, by rw [← hb, hn]; exact List.take_prefix _ _, ?_, ha.symm, h2 y hy⟩
    have : y.f0.data.toList.length = y.f0.size := by simp
    rw [← this, ← hb, hn, List.length_take]; omega
  rcases h1 with ⟨hz, _, _⟩ | ⟨y, hy, hp, hr, ht⟩
  · unfold finB
    rw [if_pos hz]
    have := findL_skip hM attr 1 (alnumEnd s s.size 1 - 1) (by omega) (fun e' h3 h4 h5 p hp hn => by
      obtain ⟨y, hy, g1, g2, g3, g4⟩ := noHit e' h5 (by omega) p hp hn
      rw [hz] at g4
      rw [← g2]
      constructor
      · intro h; have := (g4 g1).1 h; omega
      · cases hA : (nmAt p).2.2 with
        | false => rfl
        | true =>
          by_cases hc : M[y.f0.size]? = some 59
          · have := (g4 g1).1 hc; omega
          · have := (g4 g1).2 hc (by rw [g3, hA]); omega)
    rw [show 1 + (alnumEnd s s.size 1 - 1) = alnumEnd s s.size 1 by omega] at this
    rw [this, findL_one _ _ _ (Nat.le_refl _)]
  · obtain ⟨p, hb, hpr, hpa⟩ := nm_of y hy
    have hlen : (nmB p.1).length = y.f0.size := by rw [hb]; simp
    have hpos := nm_pos p
    rw [hlen] at hpos
    have hle : y.f0.size ≤ M.length := by have := hp.length_le; rwa [← hb, hlen] at this
    have htake : nmB p.1 = M.take y.f0.size := by
      have := List.prefix_iff_eq_take.1 hp
      rw [← hb, hlen] at this
      exact this
    have hal : y.f0.size + 1 ≤ alnumEnd s s.size 1 := by
      refine hM_alnum hM s.size y.f0.size 0 hle (fun c hc => ?_) (by omega) (by omega)
      rw [← htake] at hc
      exact List.all_eq_true.1 (nm_alnum p) c hc
    have hsk := findL_skip hM attr (y.f0.size + 1) (alnumEnd s s.size 1 - (y.f0.size + 1)) (by omega) (fun e' h3 h4 h5 q hq hn => by
      obtain ⟨z, hz, g1, g2, g3, g4⟩ := noHit e' h5 (by omega) q hq hn
      rw [← g2]
      have hlt : y.f0.size < z.f0.size := by omega
      constructor
      · intro h
        have := (g4 g1).1 h
        rcases ht with ⟨_, hl, _⟩ | ⟨_, _, hl, _⟩ <;> omega
      · cases hA : (nmAt q).2.2 with
        | false => rfl
        | true =>
          by_cases hc : M[z.f0.size]? = some 59
          · have := (g4 g1).1 hc
            rcases ht with ⟨_, hl, _⟩ | ⟨_, _, hl, _⟩ <;> omega
          · have := (g4 g1).2 hc (by rw [g3, hA])
            rcases ht with ⟨h59, hl, _⟩ | ⟨_, _, hl, _⟩
            · exfalso
              have hzs : z.f0.size = y.f0.size + 1 := by omega
              have hmem : (59 : UInt8) ∈ nmB q := by
                rw [hn, ← g2, hzs]
                obtain ⟨hlt', he⟩ := List.getElem?_eq_some_iff.1 h59
                exact List.mem_take_iff_getElem.2 ⟨y.f0.size, by omega, he⟩
              have := List.all_eq_true.1 (nm_alnum ⟨q, hq⟩) _ hmem
              exact absurd this (by decide)
            · omega)
    rw [show y.f0.size + 1 + (alnumEnd s s.size 1 - (y.f0.size + 1)) = alnumEnd s s.size 1 by omega] at hsk
    rw [hsk, findL_next _ _ _ (by omega)]
    have hw : nmB p.1 = (s.extract 1 (y.f0.size + 1)).data.toList := by rw [hM_word hM _ (by omega)]; simpa using htake
    obtain ⟨hh, hc0⟩ := halves_is _ p.1 p.2 hw
    rw [hh, if_neg (not_not_intro ⟨p.2, hc0⟩)]
    have hlen0 : (bestB M).len ≠ 0 := by rcases ht with ⟨_, hl, _⟩ | ⟨_, _, hl, _⟩ <;> omega
    unfold finB
    rw [if_neg hlen0, hr, hpr, hpa]
    rcases ht with ⟨h59, hl, hse⟩ | ⟨h59, ha, hl, hse⟩
    · rw [if_pos ((hM_semi hM _).1 h59), if_neg (fun h => by rw [hse] at h; cases h.2.1), hl]
      simp only [Prod.mk.injEq, true_and, and_true]; omega
    · rw [if_neg (fun h => h59 ((hM_semi hM _).2 h)), if_neg (by rw [ha]; simp), hl, hse]
      simp only [true_and]
end
end Go.Proofs.YtablhjobjmmpnaaDoor.Q
