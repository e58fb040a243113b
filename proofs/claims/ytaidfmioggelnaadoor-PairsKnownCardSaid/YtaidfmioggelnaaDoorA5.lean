/- A row of pairs of the call's own, as the sort takes it and leaves it. No condition. -/
import Derived.Shelf.GgSortFunc.InsertionK
import Derived.Test.YtaidfmioggelnaaDoorP3
namespace Go.Proofs.YtaidfmioggelnaaDoor.Q
set_option linter.unusedVariables false
set_option linter.unusedSimpArgs false
open Go.Shelf Go.RowKit Go.Lib Go.Sort Go.Proofs.YtaidfmioggelnaaDoorW.PrintWords

/-- A pair by its places, the opening one below 2^20. -/
abbrev Pr := Fin 1048576 × Int
def encPr (x : Pr) : List Value := [.int .i64 x.1.1, .int .i64 x.2]
def toPr (x : S30) : Pr := (⟨x.f0.toNat % 1048576, by omega⟩, x.f1)
def ofPr (x : Pr) : S30 := ⟨x.1.1, x.2⟩
theorem of_to (x : S30) (h : 0 ≤ x.f0 ∧ x.f0 < 1048576) : ofPr (toPr x) = x := by
  obtain ⟨a, b⟩ := x
  unfold ofPr toPr
  simp only at h ⊢
  congr 1
  omega
theorem flat_at (d : Array Pr) (i : Nat) (hi : i < d.size) : (flatK encPr 2 d)[2 * i]! = .int .i64 d[i]!.1.1 ∧ (flatK encPr 2 d)[2 * i + 1]! = .int .i64 d[i]!.2 := by
  rw [get_flatK _ _ _ _ (by omega), get_flatK _ _ _ _ (by omega), show 2 * i / 2 = i by omega, show (2 * i + 1) / 2 = i by omega, show 2 * i % 2 = 0 by omega, show (2 * i + 1) % 2 = 1 by omega]
  exact ⟨rfl, rfl⟩
theorem R_holds {w : World} {base : Nat} {v : Value} {xs : List S30} (h : Kd.R k30 30 w base (fun _ => True) v xs) (hp : 0 < xs.length) (hx : ∀ x ∈ xs, 0 ≤ x.f0 ∧ x.f0 < 1048576) :
    ∃ g cap, v = .slice (some ⟨g, 0, none⟩) xs.length cap ∧ base ≤ g ∧ g < w.heap.size ∧ HoldsK encPr 2 w g 0 (xs.map toPr).toArray := by
  obtain ⟨A, c, hv, hl, hC⟩ := Kd.R_reads h
  obtain ⟨_, inner, ho, hr⟩ := h
  obtain ⟨ho1, ho2⟩ := ho
  rcases ho2 with ⟨rfl, h0⟩ | ⟨g, cap, cur, rfl, hg, hh, r⟩
  · simp at hv
    omega
  · refine ⟨g, cap, rfl, hg, blk_lt hh, fun j hj => ?_⟩
    injection hv with hA _ _
    subst hA
    rw [size_flatK] at hj
    simp only [List.size_toArray, List.length_map] at hj
    refine ⟨?_, blk_frozen hh _⟩
    obtain ⟨ad, e, h1, h2⟩ := at_T30 hC (j / 2 : Nat) (by omega) (by omega)
    injection e with e
    subst e
    rw [Int.toNat_natCast, add_at] at h1 h2
    simp only at h2
    have hi : j / 2 < (xs.map toPr).toArray.size := by simp; omega
    have hf := flat_at (xs.map toPr).toArray (j / 2) hi
    have hd : ((xs.map toPr).toArray)[j / 2]! = toPr (rd_T30 xs (j / 2 : Nat)) := by
      rw [getElem!_pos ((xs.map toPr).toArray) (j / 2) hi]
      unfold rd_T30
      rw [Int.toNat_natCast]
      simp [List.getD_eq_getElem?_getD, List.getElem?_eq_getElem (show j / 2 < xs.length by omega)]
    have hm : rd_T30 xs (j / 2 : Nat) ∈ xs := by
      unfold rd_T30
      rw [Int.toNat_natCast, List.getD_eq_getElem?_getD, List.getElem?_eq_getElem (show j / 2 < xs.length by omega)]
      exact List.getElem_mem _
    have hb := hx _ hm
    rw [hd] at hf
    generalize rd_T30 xs (j / 2 : Nat) = x at *
    have e1 : (toPr x).1.1 = x.f0 := by unfold toPr; simp only; omega
    rw [e1] at hf
    show w.cell? ⟨g, 0 + j, none⟩ = some ((flatK encPr 2 (xs.map toPr).toArray)[j]!)
    rcases Nat.mod_two_eq_zero_or_one j with hj2 | hj2
    · rw [show (flatK encPr 2 (xs.map toPr).toArray)[j]! = (flatK encPr 2 (xs.map toPr).toArray)[2 * (j / 2)]! by congr 1; omega, hf.1, ← h1]
      congr 2
      omega
    · rw [show (flatK encPr 2 (xs.map toPr).toArray)[j]! = (flatK encPr 2 (xs.map toPr).toArray)[2 * (j / 2) + 1]! by congr 1; omega, hf.2]
      rw [show (toPr x).2 = x.f1 from rfl, ← h2]
      congr 2
      omega
theorem sort_heap {w : World} {g : Nat} {cur : Array Value} (hh : w.heap[g]? = some (.cells cur 30 (0, 0))) (n : Nat) (d : Array Pr) (os : Array Obj) :
    (sortWorldK encPr 2 w g 0 n d os).heap[g]? = some (.cells (putCells id 0 (flatK encPr 2 d) cur) 30 (0, 0)) ∧ ∀ k, k < w.heap.size → k ≠ g → (sortWorldK encPr 2 w g 0 n d os).heap[k]? = w.heap[k]? := by
  have hg := blk_lt hh
  unfold sortWorldK putRowK putRow mapBlock grow Go.Sort.ahead
  simp only
  refine ⟨?_, fun k hk hne => ?_⟩
  · rw [Array.getElem?_append_left (by simpa using hg), Array.getElem?_modify, if_pos rfl, hh]
    rfl
  · rw [Array.getElem?_append_left (by simpa using hk), Array.getElem?_modify, if_neg (Ne.symm hne)]
theorem sort_size {w : World} {g : Nat} (n : Nat) (d : Array Pr) (os : Array Obj) : w.heap.size ≤ (sortWorldK encPr 2 w g 0 n d os).heap.size := by
  unfold sortWorldK putRowK putRow mapBlock grow Go.Sort.ahead
  simp
theorem sort_below {w : World} {g base : Nat} {cur : Array Value} (hh : w.heap[g]? = some (.cells cur 30 (0, 0))) (hb : base ≤ g) (n : Nat) (d : Array Pr) (os : Array Obj) (hbs : base ≤ w.heap.size) : Below base w (sortWorldK encPr 2 w g 0 n d os) :=
  ⟨rfl, rfl, rfl, sort_size n d os, fun k hk => (sort_heap hh n d os).2 k (by omega) (by omega)⟩
theorem R_sorted {w : World} {base g cap : Nat} {xs : List S30} (h : Kd.R k30 30 w base (fun _ => True) (.slice (some ⟨g, 0, none⟩) xs.length cap) xs) (hbs : base ≤ w.heap.size) (n : Nat) (d : Array Pr) (os : Array Obj) (hd : d.size = xs.length) :
    Kd.R k30 30 (sortWorldK encPr 2 w g 0 n d os) base (fun _ => True) (.slice (some ⟨g, 0, none⟩) xs.length cap) (d.toList.map ofPr) ∧ Below base w (sortWorldK encPr 2 w g 0 n d os) := by
  obtain ⟨_, inner, ho, hr⟩ := h
  obtain ⟨ho1, ho2⟩ := ho
  rcases ho2 with ⟨hv, h0⟩ | ⟨g', cap', cur, hv, hg, hh, h1, h2, h3, h4⟩
  · injection hv with hv; cases hv
  injection hv with ha _ hc
  injection ha with ha
  injection ha with ha
  subst ha; subst hc
  have hF : (flatK encPr 2 d).size = xs.length * 2 := by rw [size_flatK, hd]
  have hh' := (sort_heap hh n d os).1
  refine ⟨⟨fun _ _ => trivial, (flatK encPr 2 d).toList, ⟨?_, .inr ⟨g, cap, _, ?_, hg, hh', ?_, h2, ?_, ?_⟩⟩, ?_⟩, sort_below hh hg n d os hbs⟩
  · have : (flatK encPr 2 d).toList.length = (d.toList.map ofPr).length * 2 := by simp [hd]
    exact this
  · simp [hd]
  · rw [List.length_map, Array.length_toList, hd]; exact h1
  · unfold putCells; rw [Array.size_mapIdx]; exact h3
  · rw [List.length_map, Array.length_toList, hd]
    have h3' : cur.size = cap * 2 := h3
    apply List.ext_getElem?
    intro j
    rw [List.getElem?_take]
    by_cases hj : j < xs.length * 2
    · rw [if_pos (show j < xs.length * k30.sz from hj), Array.getElem?_toList, Array.getElem?_toList]
      unfold putCells
      rw [Array.getElem?_mapIdx, Array.getElem?_eq_getElem (show j < cur.size by omega), Array.getElem?_eq_getElem (show j < (flatK encPr 2 d).size by omega)]
      rw [Option.map_some, if_pos (by omega), Nat.sub_zero, getElem!_pos _ j (by omega)]
      rfl
    · rw [if_neg (show ¬ j < xs.length * k30.sz from hj), List.getElem?_eq_none (by rw [Array.length_toList]; omega)]
  · refine ⟨show (flatK encPr 2 d).toList.length = (d.toList.map ofPr).length * 2 by simp [hd], fun j p hp => ?_⟩
    rw [List.getElem?_map, Array.getElem?_toList] at hp
    obtain ⟨x, hx, rfl⟩ := Option.map_eq_some_iff.1 hp
    have hj : j < d.size := (Array.getElem?_eq_some_iff.1 hx).1
    have hxe : d[j]! = x := by rw [getElem!_pos _ j hj]; exact (Array.getElem?_eq_some_iff.1 hx).2
    have hf := flat_at d j hj
    have hcs : ((flatK encPr 2 d).toList.drop (j * k30.sz)).take k30.sz = [.int .i64 (ofPr x).f0, .int .i64 (ofPr x).f1] := by
      show ((flatK encPr 2 d).toList.drop (j * 2)).take 2 = _
      apply List.ext_getElem?
      intro q
      rw [List.getElem?_take, List.getElem?_drop, Array.getElem?_toList]
      rw [hxe] at hf
      match q with
      | 0 =>
        rw [if_pos (by omega), Array.getElem?_eq_getElem (by omega), ← getElem!_pos (flatK encPr 2 d) (j * 2 + 0) (by omega), show j * 2 + 0 = 2 * j by omega, hf.1]
        rfl
      | 1 =>
        rw [if_pos (by omega), Array.getElem?_eq_getElem (by omega), ← getElem!_pos (flatK encPr 2 d) (j * 2 + 1) (by omega), show j * 2 + 1 = 2 * j + 1 by omega, hf.2]
        rfl
      | q + 2 => rw [if_neg (by omega)]; rfl
    rw [hcs]
    exact k30_mkM _ _ _ (ofPr x)
/-- What the sort says of its arrays, of lists. -/
theorem perm_of {xs : List S30} (hx : ∀ x ∈ xs, 0 ≤ x.f0 ∧ x.f0 < 1048576) {d : Array Pr} (h : PermIn 0 (xs.map toPr).toArray.size (xs.map toPr).toArray d) : d.size = xs.length ∧ (d.toList.map ofPr).Perm xs := by
  obtain ⟨h1, _, h3⟩ := h
  have hs : d.size = xs.length := by simpa using h1
  refine ⟨hs, ?_⟩
  rw [show d.extract 0 (xs.map toPr).toArray.size = d by rw [← h1]; simp, show (xs.map toPr).toArray.extract 0 (xs.map toPr).toArray.size = (xs.map toPr).toArray from Array.extract_size] at h3
  have h4 := h3.map ofPr
  rw [List.map_map] at h4
  rw [show List.map (ofPr ∘ toPr) xs = xs from by
    conv => rhs; rw [← List.map_id xs]
    exact List.map_congr_left (fun x hm => of_to x (hx x hm))] at h4
  exact h4
end Go.Proofs.YtaidfmioggelnaaDoor.Q
