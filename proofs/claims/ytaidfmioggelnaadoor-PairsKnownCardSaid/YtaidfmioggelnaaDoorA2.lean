/- pairs.Pairs, to its sort. Condition: the world's table. -/
import Derived.Test.YtaidfmioggelnaaDoorP3
import Derived.WalkMore
namespace Go.Proofs.YtaidfmioggelnaaDoor.Q
set_option linter.unusedVariables false
set_option linter.unusedSimpArgs false
open Go.RowKit Go.Proofs.YtaidfmioggelnaaDoorW.PrintWords Go.Proofs.YtaidfmioggelnaaDoorW.PrintLast Go.Proofs.YtaidfmioggelnaaDoorW.PrintMore

/-- The stack in memory: a block of its own, whose first cells hold it. -/
def StC (w : World) (g : Nat) (st : List S54) : Prop := ∃ cs : Array Value, w.heap[g]? = some (.cells cs 47 (0, 0)) ∧ cs.size = 126 ∧ ∀ k, k < st.length → cs[k * 2]? = some (.int .i32 (rd_T54 st k).f0) ∧ cs[k * 2 + 1]? = some (.int .i64 (rd_T54 st k).f1)
theorem StC_below {w w' : World} {g : Nat} {st : List S54} (h : StC w g st) (hb : Below w.heap.size w w') : StC w' g st := by
  obtain ⟨cs, h1, h2⟩ := h
  exact ⟨cs, blk_below h1 hb, h2⟩
theorem StC_get {w : World} {g : Nat} {st : List S54} (h : StC w g st) (k : Nat) (hk : k < st.length) : w.cell? ⟨g, k * 2, none⟩ = some (.int .i32 (rd_T54 st k).f0) ∧ w.cell? ⟨g, k * 2 + 1, none⟩ = some (.int .i64 (rd_T54 st k).f1) := by
  obtain ⟨cs, h1, h2, h3⟩ := h
  exact ⟨(blk_cell h1 _).trans (h3 k hk).1, (blk_cell h1 _).trans (h3 k hk).2⟩
theorem StC_take {w : World} {g : Nat} {st : List S54} (h : StC w g st) (k : Nat) : StC w g (st.take k) := by
  obtain ⟨cs, h1, h2, h3⟩ := h
  refine ⟨cs, h1, h2, fun j hj => ?_⟩
  rw [List.length_take] at hj
  rw [rd_take st k j (by omega)]
  exact h3 j (by omega)
theorem StC_slots {w : World} {g : Nat} {st : List S54} (h : StC w g st) (n : Nat) (hn : n < 63) : ∃ v0 v1, w.cell? ⟨g, n * 2, none⟩ = some v0 ∧ (∀ u, (w.setCell ⟨g, n * 2, none⟩ u).cell? ⟨g, n * 2 + 1, none⟩ = some v1) ∧ w.frozen? ⟨g, n * 2, none⟩ = false ∧ (∀ u, (w.setCell ⟨g, n * 2, none⟩ u).frozen? ⟨g, n * 2 + 1, none⟩ = false) := by
  obtain ⟨cs, h1, h2, h3⟩ := h
  refine ⟨cs[n * 2], cs[n * 2 + 1], (blk_cell h1 _).trans (Array.getElem?_eq_getElem (by omega)), fun u => (blk_cell (blk_set h1 _ u) _).trans ?_, blk_frozen h1 _, fun u => blk_frozen (blk_set h1 _ u) _⟩
  rw [Array.getElem?_setIfInBounds_ne (by omega)]
  exact Array.getElem?_eq_getElem (by omega)
theorem StC_push {w : World} {g : Nat} {st : List S54} (h : StC w g st) (c : Int) (i : Int) (hn : st.length < 63) : StC ((w.setCell ⟨g, st.length * 2, none⟩ (.int .i32 c)).setCell ⟨g, st.length * 2 + 1, none⟩ (.int .i64 i)) g (st ++ [⟨c, i⟩]) := by
  obtain ⟨cs, h1, h2, h3⟩ := h
  refine ⟨_, blk_set (blk_set h1 _ _) _ _, by simp [h2], fun k hk => ?_⟩
  rw [List.length_append, List.length_singleton] at hk
  by_cases hkl : k < st.length
  · rw [rd_app st _ k hkl]
    have := h3 k hkl
    constructor
    · rw [Array.getElem?_setIfInBounds_ne (by omega), Array.getElem?_setIfInBounds_ne (by omega)]; exact this.1
    · rw [Array.getElem?_setIfInBounds_ne (by omega), Array.getElem?_setIfInBounds_ne (by omega)]; exact this.2
  · obtain rfl : k = st.length := by omega
    rw [rd_top]
    constructor
    · rw [Array.getElem?_setIfInBounds_ne (by omega), Array.getElem?_setIfInBounds_self_of_lt (by omega)]
    · rw [Array.getElem?_setIfInBounds_self_of_lt (by rw [Array.size_setIfInBounds]; omega)]
theorem info30 : (Tryd.prog.info? 30).map (fun i => (i.zero, i.size, i.bytes)) = some (some (.agg #[(.int .i64 0), (.int .i64 0)]), 2, 16) := by kernel_rfl
theorem StC_grown {w w' : World} {g base : Nat} {ok : Nat → Prop} {st : List S54} {v : Value} {xs : List S30} (h : StC w g st) (hR : Kd.R k30 30 w base ok v xs) (hg : w.grownBy w' v.ownBlock) : StC w' g st := by
  obtain ⟨cs, h1, h2⟩ := h
  exact ⟨cs, blk_grown h1 hg (Kd.R_ne hR h1 (by decide)), h2⟩
theorem R_push {w : World} {g base : Nat} {ok : Nat → Prop} {st : List S54} {v : Value} {xs : List S30} (hR : Kd.R k30 30 w base ok v xs) (h : StC w g st) (n : Nat) (u u' : Value) : Kd.R k30 30 ((w.setCell ⟨g, n * 2, none⟩ u).setCell ⟨g, n * 2 + 1, none⟩ u') base ok v xs := by
  obtain ⟨cs, h1, h2, h3⟩ := h
  exact Kd.R_set (Kd.R_set hR h1 (by decide) _ _) (blk_set h1 _ _) (by decide) _ _
/-- What is asked of the sort. -/
abbrev SortsP : Prop := ∀ (base : Nat) (w : World) (v : Value) (xs : List S30), base ≤ w.heap.size → Kd.R k30 30 w base (fun _ => True) v xs → (∀ x ∈ xs, 0 ≤ x.f0 ∧ x.f0 < 1048576) → xs.length < 4611686018427387904 →
    Calls Tryd.prog 19 #[v, .func (.func 20) #[] #[]] w fun e w' => e = .returned (.tuple #[]) ∧ ∃ xs', Kd.R k30 30 w' base (fun _ => True) v xs' ∧ Below base w w' ∧ xs'.Perm xs ∧ xs'.Pairwise (fun x y => x.f0 ≤ y.f0)
def zcL : List Value := (List.replicate 63 [Value.int .i32 0, Value.int .i64 0]).flatten
theorem zc_zero (w : World) : (zeroValue 47).run Tryd.prog w = .ok (.agg zcL.toArray) w := by kernel_rfl
theorem zc_len : zcL.length = 126 := by kernel_rfl
set_option maxHeartbeats 4000000 in
set_option maxRecDepth 100000 in
theorem pairs_walk (A0 : Option Addr) (c0 : Nat) (l : List Int) (A1 : Option Addr) (c1 : Nat) (now : List Int) (w : World) (hr0 : Kd.C (Kd.int .i32) w A0 l.length l) (hc0 : l.length ≤ c0) (hr1 : Kd.C (Kd.int .u8) w A1 now.length now) (hc1 : now.length ≤ c1) (hl : l.length ≤ 1048576) (hG : GW w) (HSP : SortsP) :
    Calls Tryd.prog 9 #[.slice A0 l.length c0, .slice A1 now.length c1] w fun e w' => ∃ v0_, e = .returned v0_ ∧ Kd.R k30 30 w' w.heap.size (fun _ => True) v0_ ((refP l now).map to30) ∧ Below w.heap.size w w' := by
  have hz := zc_zero
  have hzl := zc_len
  obtain ⟨R, hR⟩ : ∃ R, proL l now (min l.length now.length) 0 [] [] = R := ⟨_, rfl⟩
  obtain ⟨m, hm⟩ : ∃ m, min l.length now.length = m := ⟨_, rfl⟩
  have HR := Aside0.mk hR
  have hPerm : ∀ s : List S30, s.Perm R → s.Pairwise (fun x y => x.f0 ≤ y.f0) → (refP l now).map to30 = s := fun s h1 h2 => by
    rw [← sorted_ref l now s (by rw [hR]; exact h1) h2, List.map_map]
    conv => rhs; rw [← List.map_id s]
    exact List.map_congr_left (fun x _ => rfl)
  have hOk : ∀ x ∈ R, 0 ≤ x.f0 ∧ x.f0 < 1048576 := fun x hx => by
    rw [← hR] at hx
    have := pro_ok l now x hx
    omega
  have hLen : R.length < 4611686018427387904 := by
    have := pro_len l now (min l.length now.length) 0 [] []
    rw [hR] at this
    simp only [List.length_nil] at this
    omega
  clear hR
  have HPm := Aside0.mk hPerm
  have HOk := Aside0.mk hOk
  have HLn := Aside0.mk hLen
  clear hPerm hOk hLen
  generalize hout : (refP l now).map to30 = out0
  rw [hout] at HPm
  clear hout
  generalize zcL = zl at hz hzl
  go_enter Tryd.func9, Tryd.ntmps9
  go_wp2
  go_step3
  go_wp2
  go_step3
  go_upto_block 0 with (fail)
  have hmi : (if now.length < l.length then (now.length : Int) else (l.length : Int)) = (m : Int) := by split <;> omega
  have hmx : max (m : Int) 0 = (m : Int) := by omega
  simp only [hmi, hmx, Int.toNat_natCast]
  have hml : m ≤ l.length ∧ m ≤ now.length := by omega
  obtain ⟨hml, hmn⟩ := hml
  rw [hm] at HR
  clear hmi hmx hm
  go_cut [6] (fun v6 w' => Aside0 (Kd.R k30 30 w' w.heap.size (fun _ => True) v6 R) ∧ Aside0 (Below w.heap.size w w'))
  case first =>
    go_wp2_with fail
    go_loopg [6, 7, 22] m (fun k v6 v7 v22 w' => ∃ (i : Nat) (st : List S54) (out : List S30), v7 = .int .i64 st.length ∧ v22 = .int .i64 i ∧ i + k = m ∧ st.length ≤ 63 ∧ Aside0 (StOk l.length st) ∧ Aside0 (proL l now k i st out = R) ∧ Aside0 (out.length ≤ i) ∧ Aside0 (Kd.R k30 30 w' w.heap.size (fun _ => True) v6 out) ∧ Aside0 (StC w' w.heap.size st) ∧ Aside0 (Below w.heap.size w w'))
    case atStart =>
      exact ⟨0, [], [], rfl, rfl, by omega, by simp, ⟨by simp, fun k hk => by simp at hk⟩, HR, ⟨by simp⟩, ⟨Kd.R_nil _ _ _ _ _⟩, ⟨⟨zl.toArray, heap_alloc_new w _, by simpa using hzl, fun k hk => by simp at hk⟩⟩, ⟨below_alloc (Below.refl _ _) _⟩⟩
    case round =>
      obtain ⟨i, st, out, rfl, rfl, hik, h63, HS, HP, HL, HO, HC, HB⟩ := hrel
      clear HR hz hzl
      by_cases hlt : i < m
      · obtain ⟨k', rfl⟩ : ∃ n, gk = n + 1 := ⟨gk - 1, by omega⟩
        have hpl := HP.out
        rw [proL, if_pos ⟨by omega, by omega⟩] at hpl
        obtain ⟨ad, rfl, hx⟩ := Kd.at_int (Kd.C_below hr0 HB.out) i (by omega) (by omega)
        obtain ⟨ad1, rfl, hy⟩ := Kd.at_int (Kd.C_below hr1 HB.out) i (by omega) (by omega)
        rw [Int.toNat_natCast] at hx hy
        obtain ⟨⟨c, op, ok⟩, hb⟩ : ∃ b, bkF (rd l i) = b := ⟨_, rfl⟩
        rw [hb] at hpl
        simp only at hpl
        have HBk := Aside0.mk hb
        clear hb HP
        by_cases hskip : ok = false ∨ rd now i ≠ 14
        · rw [if_pos hskip] at hpl
          have HP := Aside0.mk hpl
          clear hpl
          cases ok with
          | false =>
            clear hskip
            go_wp2_with (go_at_call 18; (with_reducible refine (bracket_any _ _ (GW_below hG HB.out)).mono ?_); rw [HBk.out]; rintro e w2 ⟨rfl, hb2⟩; have H2 := Aside0.mk hb2; clear hb2)
            go_roundg k'
            case measure => omega
            case rel => exact ⟨i + 1, st, out, rfl, by go_num, by omega, h63, HS, HP, ⟨by have := HL.out; omega⟩, ⟨Kd.R_below HO.out H2.out⟩, ⟨StC_below HC.out H2.out⟩, ⟨below_step HB.out H2.out⟩⟩
          | true =>
            have h14 : rd now i ≠ 14 := hskip.resolve_left (by simp)
            have e14 : (rd now i != 14) = true := by simpa using h14
            clear hskip h14
            go_wp2_with (first | (go_at_call 18; (with_reducible refine (bracket_any _ _ (GW_below hG HB.out)).mono ?_); rw [HBk.out]; rintro e w2 ⟨rfl, hb2⟩; have H2 := Aside0.mk hb2; replace hy := pw_cell_below H2.out hy; clear hb2))
            go_roundg k'
            case measure => omega
            case rel => exact ⟨i + 1, st, out, rfl, by go_num, by omega, h63, HS, HP, ⟨by have := HL.out; omega⟩, ⟨Kd.R_below HO.out H2.out⟩, ⟨StC_below HC.out H2.out⟩, ⟨below_step HB.out H2.out⟩⟩
        · rw [if_neg hskip] at hpl
          obtain rfl : ok = true := by cases ok <;> simp at hskip ⊢
          have e14 : (rd now i != 14) = false := by simpa using hskip
          clear hskip
          cases op with
          | true =>
            rw [if_pos rfl] at hpl
            by_cases hfull : st.length = 63
            · rw [if_pos hfull] at hpl
              have HP := Aside0.mk hpl
              clear hpl
              have ef : ((st.length : Int) == 63) = true := by simp; omega
              go_wp2_with (first | (go_at_call 18; (with_reducible refine (bracket_any _ _ (GW_below hG HB.out)).mono ?_); rw [HBk.out]; rintro e w2 ⟨rfl, hb2⟩; have H2 := Aside0.mk hb2; replace hy := pw_cell_below H2.out hy; clear hb2))
              go_meet
              case rel => exact ⟨⟨by rw [← HP.out]; exact Kd.R_below HO.out H2.out⟩, ⟨below_step HB.out H2.out⟩⟩
            · rw [if_neg hfull] at hpl
              have HP := Aside0.mk hpl
              clear hpl
              have ef : ((st.length : Int) == 63) = false := by simp; omega
              have hlt63 : st.length < 63 := by omega
              go_wp2_with (first | (go_at_call 18; (with_reducible refine (bracket_any _ _ (GW_below hG HB.out)).mono ?_); rw [HBk.out]; rintro e w2 ⟨rfl, hb2⟩; have H2 := Aside0.mk hb2; replace hy := pw_cell_below H2.out hy; obtain ⟨x0, x1, hx0, hx1, hx2, hx3⟩ := StC_slots (StC_below HC.out H2.out) st.length hlt63; clear hb2))
              go_roundg k'
              case measure => omega
              case rel => exact ⟨i + 1, st ++ [⟨c, i⟩], out, by rw [List.length_append, List.length_singleton]; go_num, by go_num, by omega, by rw [List.length_append, List.length_singleton]; omega, ⟨HS.out.push c i (by omega) hfull⟩, HP, ⟨by have := HL.out; omega⟩, ⟨R_push (Kd.R_below HO.out H2.out) (StC_below HC.out H2.out) _ _ _⟩, ⟨StC_push (StC_below HC.out H2.out) c i hlt63⟩, ⟨below_set (below_set (below_step HB.out H2.out) (Nat.le_refl _)) (Nat.le_refl _)⟩⟩
          | false =>
            rw [if_neg (by simp)] at hpl
            have HP := Aside0.mk hpl
            clear hpl
            go_wp2_with (first | (go_at_call 18; (with_reducible refine (bracket_any _ _ (GW_below hG HB.out)).mono ?_); rw [HBk.out]; rintro e w2 ⟨rfl, hb2⟩; have H2 := Aside0.mk hb2; replace hy := pw_cell_below H2.out hy; clear hb2))
            have HO2 := Aside0.mk (Kd.R_below HO.out H2.out)
            have HC2 := Aside0.mk (StC_below HC.out H2.out)
            have HB2 := Aside0.mk (below_step HB.out H2.out)
            go_loopg [6, 7, 13] st.length (fun k v6 v7 v13 w' => v6 = u6 ∧ v7 = .int .i64 st.length ∧ v13 = .int .i64 ((k : Int) - 1) ∧ k ≤ st.length ∧ Aside0 (topF c st k = topF c st st.length) ∧ w2 = w')
            case atStart => exact ⟨rfl, rfl, rfl, Nat.le_refl _, ⟨rfl⟩, rfl⟩
            case round =>
              obtain ⟨rfl, rfl, rfl, hkl, HT, rfl⟩ := hrel
              cases gk with
              | zero =>
                have hp2 := HP.out
                rw [← HT.out, topF] at hp2
                simp only at hp2
                have HP2 := Aside0.mk hp2
                clear hp2 HP HT
                go_wp2_with fail
                go_roundg k'
                case measure => omega
                case rel => exact ⟨i + 1, st, out, rfl, by go_num, by omega, h63, HS, HP2, ⟨by have := HL.out; omega⟩, HO2, HC2, HB2⟩
              | succ q =>
                have hqe : ((q + 1 : Nat) : Int) - 1 = (q : Int) := by omega
                simp only [hqe]
                clear hqe
                have hq63 : q < 63 := by omega
                obtain ⟨hg0, hg1⟩ := StC_get HC2.out q (by omega)
                obtain ⟨⟨xc, xa⟩, hxe⟩ : ∃ x, rd_T54 st q = x := ⟨_, rfl⟩
                rw [hxe] at hg0 hg1
                simp only at hg0 hg1
                have HXE := Aside0.mk hxe
                clear hxe
                by_cases hcc : xc = c
                · have ec : (xc == c) = true := by simpa using hcc
                  have hp2 := HP.out
                  rw [← HT.out, topF, if_pos (by rw [HXE.out]; exact hcc)] at hp2
                  simp only at hp2
                  rw [HXE.out] at hp2
                  have HP2 := Aside0.mk hp2
                  clear hp2 HP HT hcc
                  have hLo := HL.out
                  go_wp2_with (first | ((with_reducible refine gate_builtin (b := .append) (xs := #[.tmp 45, .tmp 52]) rfl ?_); at_builtin; refine Kd.R_append k30 (w0 := w) w.heap.size rfl (.tmp 45) (.tmp 52) 25 30 (.agg #[(.int .i64 0), (.int .i64 0)]) 16 rfl Tryd.underlying25 info30 rfl (by decide) (by omega) u6 out (⟨xa, i⟩ : S30) [.int .i64 xa, .int .i64 i] (fun _ => True) (fun _ => False) rfl rfl ?aP (fun _ hk => hk.elim) ?aF ?aO ?aB ?aS ?aL ?_; (case aP => exact k30_mkM _ _ _ (⟨xa, i⟩ : S30)); (case aB => exact (by repeat (first | (with_reducible first | exact HB2.out | apply below_alloc | apply pw_below_drewN | apply below_drew1) | exact HB2.out))); (case aF => exact (fun _ _ => trivial)); (case aO => exact (by (with_reducible repeat (first | apply Kd.R_alloc | apply Kd.R_drewN | apply Kd.R_drew)); exact HO2.out)); (case aS => exact (below_size (by repeat (first | (with_reducible first | exact HB2.out | apply below_alloc | apply pw_below_drewN | apply below_drew1) | exact HB2.out)))); (case aL => omega); intro v1 w3 ho hb hg hat; have HO3 := Aside0.mk ho; have HB3 := Aside0.mk hb; have HC3 := Aside0.mk (StC_grown HC2.out HO2.out hg); clear ho hb hg hat))
                  go_roundg k'
                  case measure => omega
                  case rel => exact ⟨i + 1, st.take q, out ++ [⟨xa, i⟩], by rw [List.length_take, Nat.min_eq_left (by omega)], by go_num, by omega, by rw [List.length_take]; omega, ⟨HS.out.take q⟩, HP2, ⟨by simp; omega⟩, HO3, ⟨StC_take HC3.out q⟩, HB3⟩
                · have ec : (xc == c) = false := by simpa using hcc
                  have HT2 := Aside0.mk (show topF c st q = topF c st st.length by rw [← HT.out, topF, if_neg (by rw [HXE.out]; exact hcc)])
                  clear hcc HT
                  go_wp2_with fail
                  go_roundg q
                  case measure => omega
                  case rel => exact ⟨rfl, rfl, rfl, by omega, HT2, rfl⟩
      · have HP' : out = R := by
          rw [← HP.out]
          cases gk with
          | zero => rfl
          | succ k => rw [proL, if_neg (by omega)]
        have HP' := Aside0.mk HP'
        go_wp2_with fail
        go_meet
        case rel => exact ⟨⟨by rw [← HP'.out]; exact HO.out⟩, HB⟩
  case rest =>
    rename_i Q' K hK
    obtain ⟨H1, H2⟩ := hcut
    refine hK _ _ ?_
    go_wp2_with (first | (go_at_call 19; (with_reducible refine (HSP w.heap.size _ _ R (below_size H2.out) H1.out HOk.out HLn.out).mono ?_); rintro e w3 ⟨rfl, xs', hR3, hB3, hp3, hs3⟩; have HR3 := Aside0.mk hR3; have HB3 := Aside0.mk hB3; have HO3 := Aside0.mk (HPm.out xs' hp3 hs3); clear hR3 hB3 hp3 hs3))

    rw [Exit.noGoto_ret]
    go_ret
    exact ⟨_, rfl, by rw [HO3.out]; exact HR3.out, H2.out.trans HB3.out⟩
end Go.Proofs.YtaidfmioggelnaaDoor.Q
