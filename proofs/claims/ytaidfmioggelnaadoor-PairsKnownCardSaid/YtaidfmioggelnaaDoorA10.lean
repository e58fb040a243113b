/- pairs.Resolve has the document's row. Condition: the world's table. -/
import Derived.Test.YtaidfmioggelnaaDoorA6
import Derived.Test.YtaidfmioggelnaaDoorA8
import Derived.Test.YtaidfmioggelnaaDoorA9
namespace Go.Proofs.YtaidfmioggelnaaDoor.Q
set_option linter.unusedVariables false
set_option linter.unusedSimpArgs false
open Go.RowKit Go.Proofs.YtaidfmioggelnaaDoorW.PrintWords Go.Proofs.YtaidfmioggelnaaDoorW.PrintLast Go.Proofs.YtaidfmioggelnaaDoorW.PrintMore

theorem row_move {W W' : World} {base : Nat} {v : Value} {xs : List Int} (h : Kd.R (Kd.int .u8) 33 W base (fun _ => True) v xs) (hm : ∀ k, v.ownBlock = some k → W'.heap[k]? = W.heap[k]?) : Kd.R (Kd.int .u8) 33 W' base (fun _ => True) v xs := by
  obtain ⟨_, inner, ho, hr⟩ := h
  exact ⟨fun _ _ => trivial, inner, own_move ho hm, hr⟩
theorem grown_below {w W W' : World} {g : Nat} (h : Below w.heap.size w W) (hg : W.grownBy W' (some g)) (hw : w.heap.size ≤ g) : Below w.heap.size w W' :=
  ⟨hg.os.trans h.os, hg.tape.trans h.tape, hg.output.trans h.output, Nat.le_trans h.size hg.size, fun k hk => (hg.block k (Nat.lt_of_lt_of_le hk h.size) (fun e => by injection e with e; omega)).trans (h.block k hk)⟩
structure RS (w W : World) (b6 b9 b12 b13 b14 : Nat) (A1 : Option Addr) (n c1 : Nat) (sos mine other : Int) (V V48 : Value) (out : List Int) (ps : List S31) : Prop where
  bel : Below w.heap.size w W
  h6 : W.heap[b6]? = some (.cells #[.slice A1 n c1] 23 (0, 0))
  h9 : W.heap[b9]? = some (.cells #[.int .u8 sos] 33 (0, 0))
  h12 : W.heap[b12]? = some (.cells #[V] 23 (0, 0))
  h13 : W.heap[b13]? = some (.cells #[.int .u8 mine] 33 (0, 0))
  h14 : W.heap[b14]? = some (.cells #[.int .u8 other] 33 (0, 0))
  row : Kd.R (Kd.int .u8) 33 W w.heap.size (fun _ => True) V out
  ne : ∀ b, (b = b6 ∨ b = b9 ∨ b = b12 ∨ b = b13 ∨ b = b14) → some b ≠ V.ownBlock
  prs : Kd.R k30 30 W w.heap.size (fun _ => True) V48 (ps.map to30)
section
variable {w W W' : World} {b6 b9 b12 b13 b14 : Nat} {A1 : Option Addr} {n c1 : Nat} {sos mine other : Int} {V V48 : Value} {out out' : List Int} {ps ps' : List S31}
theorem RS.below (h : RS w W b6 b9 b12 b13 b14 A1 n c1 sos mine other V V48 out ps) (hb : Below W.heap.size W W') : RS w W' b6 b9 b12 b13 b14 A1 n c1 sos mine other V V48 out ps :=
  ⟨below_step h.bel hb, blk_below h.h6 hb, blk_below h.h9 hb, blk_below h.h12 hb, blk_below h.h13 hb, blk_below h.h14 hb, Kd.R_below h.row hb, h.ne, Kd.R_below h.prs hb⟩
theorem RS.pairs (h : RS w W b6 b9 b12 b13 b14 A1 n c1 sos mine other V V48 out ps) {V' : Value} (hp : Kd.R k30 30 W w.heap.size (fun _ => True) V' (ps'.map to30)) : RS w W b6 b9 b12 b13 b14 A1 n c1 sos mine other V V' out ps' :=
  ⟨h.bel, h.h6, h.h9, h.h12, h.h13, h.h14, h.row, h.ne, hp⟩
theorem RS.grown {g cap m : Nat} (h : RS w W b6 b9 b12 b13 b14 A1 n c1 sos mine other (.slice (some ⟨g, 0, none⟩) m cap) V48 out ps) (hg : W.grownBy W' (some g)) (hr : Kd.R (Kd.int .u8) 33 W' w.heap.size (fun _ => True) (.slice (some ⟨g, 0, none⟩) m cap) out') : RS w W' b6 b9 b12 b13 b14 A1 n c1 sos mine other (.slice (some ⟨g, 0, none⟩) m cap) V48 out' ps := by
  have hV : (Value.slice (some ⟨g, 0, none⟩) m cap).ownBlock = some g := rfl
  have ne := h.ne
  rw [hV] at ne
  obtain ⟨inner, ho⟩ := Kd.R_own h.row
  obtain ⟨cells, hc⟩ := own_typed ho g hV
  refine ⟨⟨hg.os.trans h.bel.os, hg.tape.trans h.bel.tape, hg.output.trans h.bel.output, Nat.le_trans h.bel.size hg.size, fun k hk => ?_⟩, blk_grown h.h6 hg (ne _ (.inl rfl)), blk_grown h.h9 hg (ne _ (.inr (.inl rfl))), blk_grown h.h12 hg (ne _ (.inr (.inr (.inl rfl)))), blk_grown h.h13 hg (ne _ (.inr (.inr (.inr (.inl rfl))))), blk_grown h.h14 hg (ne _ (.inr (.inr (.inr (.inr rfl))))), hr, h.ne, ?_⟩
  · have hb := own_base ho g hV
    have hs := h.bel.size
    exact (hg.block k (by omega) (fun e => by injection e with e; omega)).trans (h.bel.block k hk)
  · exact Kd.R_mono (Kd.R_grown (Kd.R_types h.prs hc (by decide)) hg (fun k hk e => by injection e with e; exact hk.2 e)) (fun _ _ => trivial)
end
set_option maxHeartbeats 4000000 in
set_option maxRecDepth 100000 in
theorem resolve_any (A0 : Option Addr) (c0 : Nat) (l : List Int) (A1 : Option Addr) (c1 : Nat) (first : List Int) (A2 : Option Addr) (c2 : Nat) (now : List Int) (level sos : Int) (w : World)
    (hr0 : Kd.C (Kd.int .i32) w A0 l.length l) (hc0 : l.length ≤ c0) (hr1 : Kd.C (Kd.int .u8) w A1 first.length first) (hc1 : first.length ≤ c1) (hr2 : Kd.C (Kd.int .u8) w A2 now.length now) (hc2 : now.length ≤ c2) (h0 : 0 ≤ level ∧ level ≤ 255) (hG : GW w) :
    Calls Tryd.prog 11 #[.slice A0 l.length c0, .slice A1 first.length c1, .slice A2 now.length c2, .int .u8 level, .int .u8 sos] w fun e w' => ∃ v0_, e = .returned (.tuple #[v0_, .int .i64 (resF l first now level sos).2]) ∧ Kd.R (Kd.int .u8) 33 w' w.heap.size (fun _ => True) v0_ (resF l first now level sos).1 ∧ Below w.heap.size w w' := by
  obtain ⟨R, hR⟩ : ∃ R, resF l first now level sos = R := ⟨_, rfl⟩
  rw [hR]
  have HR := Aside0.mk hR
  clear hR
  go_enter Tryd.func11, Tryd.ntmps11
  go_upto_block 0 with (first | ((with_reducible refine gate_dst (N := 6) rfl ?_); refine box_event ?hg (N := 6) ?hd (cs := #[.slice A1 first.length c1]) (t := 23) ?hr ?_; (case hd => rfl); (case hg => rfl); (case hr => first | (go_simp; done) | (go_simp; rfl)); intro b6 hb6 w1 hbox hb; have HX6 := Aside0.mk hbox; have HB1 := Aside0.mk hb; have HL6 := Aside0.mk hb6; clear hbox hb hb6) | ((with_reducible refine gate_dst (N := 9) rfl ?_); refine box_event ?hg (N := 9) ?hd (cs := #[.int .u8 sos]) (t := 33) ?hr ?_; (case hd => rfl); (case hg => rfl); (case hr => first | (go_simp; done) | (go_simp; rfl)); intro b9 hb9 w2 hbox hb; have HL9 := Aside0.mk hb9; clear hb9; have HX9 := Aside0.mk hbox; have HX6' := Aside0.mk (blk_below HX6.out hb); have HB2 := Aside0.mk (below_step HB1.out hb); clear hbox hb))
  have x6 : w2.cell? ⟨b6, 0, none⟩ = some (.slice A1 first.length c1) := (blk_cell HX6'.out _).trans rfl
  by_cases k1 : l.length > 65536
  · have hr := HR.out
    unfold resF at hr
    rw [if_pos k1] at hr
    have e1 : (l.length : Int) > 65536 := by omega
    go_wp2_with fail
    go_ret2
    subst hr
    exact ⟨_, rfl, Kd.R_nil _ _ _ _ _, HB2.out⟩
  · have e1 : ¬ (l.length : Int) > 65536 := by omega
    by_cases k2 : first.length = l.length
    · have e2 : ((first.length : Int) != (l.length : Int)) = false := by simp; omega
      by_cases k3 : now.length = l.length
      · have e3 : ((now.length : Int) != (l.length : Int)) = false := by simp; omega
        have hn1 : b6 < w2.heap.size ∧ b9 < w2.heap.size := ⟨blk_lt HX6'.out, blk_lt HX9.out⟩
        have hC1 := clone_any A2 c2 now w2 (Kd.C_below hr2 HB2.out) hc2 (by omega)
        rw [k3] at hC1
        go_upto_region 6 with (first | (go_at_call 21; (with_reducible refine hC1.mono ?_); rintro e w3 ⟨V, rfl, hV, hb3⟩; obtain ⟨AV, cV, hVe, hVc, hVr⟩ := Kd.R_reads hV; rw [k3] at hVe hVc; clear hVr; subst hVe; have HV3 := Aside0.mk hV; have HB3 := Aside0.mk hb3; clear hV hb3) | ((with_reducible refine gate_dst (N := 12) rfl ?_); refine box_event ?hg (N := 12) ?hd (cs := #[.slice none 0 0]) (t := 23) ?hr ?_; (case hd => rfl); (case hg => rfl); (case hr => first | (go_simp; done) | (go_simp; rfl)); intro b12 hb12 w4 hbox hb; have HX12 := Aside0.mk hbox; have HB4 := Aside0.mk hb; have HL12 := Aside0.mk hb12; have y12 : w4.cell? ⟨b12, 0, none⟩ = some (.slice none 0 0) := (blk_cell hbox _).trans rfl; have z12 := blk_frozen hbox 0; clear hbox hb hb12))
        have HB5 := below_set (j := 0) (v := .slice AV l.length cV) HB4.out (Nat.le_of_eq HL12.out.symm)
        have S12 : (w4.setCell ⟨b12, 0, none⟩ (.slice AV l.length cV)).heap[b12]? = some (.cells #[.slice AV l.length cV] 23 (0, 0)) := blk_put HX12.out 0 _ rfl
        generalize w4.setCell ⟨b12, 0, none⟩ (.slice AV l.length cV) = w5 at HB5 S12 ⊢
        have S6 := blk_below (blk_below HX6'.out HB3.out) HB5
        have S9 := blk_below (blk_below HX9.out HB3.out) HB5
        rw [k2] at S6
        have SV := Kd.R_below (Kd.R_lower HV3.out HB2.out.size) HB5
        have SNE : ∀ b, (b = b6 ∨ b = b9 ∨ w3.heap.size ≤ b) → some b ≠ (Value.slice AV l.length cV).ownBlock := fun b hb he => by
          have h1 := Kd.R_base HV3.out b he.symm
          have h2 := Kd.R_lt HV3.out b he.symm
          rcases hb with rfl | rfl | hb <;> omega
        have BEL5 := below_step (below_step HB2.out HB3.out) HB5
        have H5 := Aside0.mk (And.intro S6 (And.intro S9 (And.intro S12 (And.intro SV (And.intro SNE (And.intro BEL5 HB5.size))))))
        have H12 := Aside0.mk (And.intro HL12.out (blk_lt S12))
        clear S6 S9 S12 SV SNE BEL5 HB5 HX6 HX9 HX6' HB1 HB2 HB3 HB4 HX12 HV3 HL12 HL6 HL9 y12 z12 hC1 x6 hn1
        go_upto_region 7 with (first | ((with_reducible refine gate_dst (N := 13) rfl ?_); refine box_event ?hg (N := 13) ?hd (cs := #[.int .u8 0]) (t := 33) ?hr ?_; (case hd => rfl); (case hg => rfl); (case hr => first | (go_simp; done) | (go_simp; rfl)); intro b13 hb13 w6 hbox hb; have HX13 := Aside0.mk hbox; have HB6 := Aside0.mk hb; have HL13 := Aside0.mk hb13; clear hbox hb hb13) | ((with_reducible refine gate_dst (N := 14) rfl ?_); refine box_event ?hg (N := 14) ?hd (cs := #[.int .u8 0]) (t := 33) ?hr ?_; (case hd => rfl); (case hg => rfl); (case hr => first | (go_simp; done) | (go_simp; rfl)); intro b14 hb14 w7 hbox hb; have HX14 := Aside0.mk hbox; have HX13' := Aside0.mk (blk_below HX13.out hb); have HB7 := Aside0.mk hb; have HL14 := Aside0.mk hb14; have y13 : w7.cell? ⟨b13, 0, none⟩ = some (.int .u8 0) := (blk_cell HX13'.out _).trans rfl; have z13 := blk_frozen HX13'.out 0; have n13 : b14 ≠ b13 := (by have := blk_lt HX13.out; have := HL14.out; omega); have y14 : (w7.setCell ⟨b13, 0, none⟩ (.int .u8 1)).cell? ⟨b14, 0, none⟩ = some (.int .u8 0) := (blk_cell (blk_far hbox n13 _) _).trans rfl; have z14 := blk_frozen (blk_far (p := ⟨b13, 0, none⟩) hbox n13 (.int .u8 1)) 0; clear hbox hb hb14))
        have hs0 : RS w ((w7.setCell ⟨b13, 0, none⟩ (.int .u8 1)).setCell ⟨b14, 0, none⟩ (.int .u8 2)) b6 b9 b12 b13 b14 A1 l.length c1 sos 1 2 (.slice AV l.length cV) (.slice none 0 0) now [] := by
          obtain ⟨S6, S9, S12, SV, SNE, BEL5, SZ⟩ := H5.out
          obtain ⟨L12, LT12⟩ := H12.out
          have L13 := HL13.out
          have L14 := HL14.out
          have LT13 := blk_lt HX13.out
          have hb8 : Below w5.heap.size w5 ((w7.setCell ⟨b13, 0, none⟩ (.int .u8 1)).setCell ⟨b14, 0, none⟩ (.int .u8 2)) := below_set (below_set (below_step HB6.out HB7.out) (by omega)) (by omega)
          exact ⟨below_step BEL5 hb8, blk_below S6 hb8, blk_below S9 hb8, blk_below S12 hb8, blk_far (blk_put HX13'.out 0 _ rfl) (Ne.symm n13) _, blk_put (blk_far HX14.out n13 _) 0 _ rfl, Kd.R_below SV hb8, fun b hb => SNE b (hb.elim .inl (fun h => h.elim (fun h => .inr (.inl h)) (fun h => .inr (.inr (by omega))))), Kd.R_nil _ _ _ _ _⟩
        have HD : Aside0 (w.heap.size ≤ b13 ∧ w.heap.size ≤ b14 ∧ b9 ≠ b13 ∧ b9 ≠ b14 ∧ some b13 ≠ (Value.slice AV l.length cV).ownBlock ∧ some b14 ≠ (Value.slice AV l.length cV).ownBlock) := by
          obtain ⟨S6, S9, S12, SV, SNE, BEL5, SZ⟩ := H5.out
          obtain ⟨L12, LT12⟩ := H12.out
          have L13 := HL13.out
          have L14 := HL14.out
          have LT13 := blk_lt HX13.out
          have L9 := blk_lt S9
          have B5 := BEL5.size
          exact ⟨by omega, by omega, by omega, by omega, SNE _ (.inr (.inr (by omega))), SNE _ (.inr (.inr (by omega)))⟩
        generalize (w7.setCell ⟨b13, 0, none⟩ (.int .u8 1)).setCell ⟨b14, 0, none⟩ (.int .u8 2) = w8 at hs0 ⊢
        have HS0 := Aside0.mk hs0
        have x13 : w8.cell? ⟨b13, 0, none⟩ = some (.int .u8 1) := (blk_cell hs0.h13 _).trans rfl
        have x14 : w8.cell? ⟨b14, 0, none⟩ = some (.int .u8 2) := (blk_cell hs0.h14 _).trans rfl
        have f13 := blk_frozen hs0.h13 0
        have n1314 : b14 ≠ b13 := n13
        have x14' : (w8.setCell ⟨b13, 0, none⟩ (.int .u8 2)).cell? ⟨b14, 0, none⟩ = some (.int .u8 2) := (blk_cell (blk_far (p := ⟨b13, 0, none⟩) hs0.h14 n13 (.int .u8 2)) _).trans rfl
        have f14' := blk_frozen (blk_far (p := ⟨b13, 0, none⟩) hs0.h14 n13 (.int .u8 2)) 0
        clear hs0 H5 H12 HX13 HX14 HX13' HB6 HB7 HL13 HL14 y13 y14 z13 z14
        go_upto_if 41 with (fail)
        have hbit : bits BinOp.and IntKind.u8 level 1 = level % 2 := bits_mask .u8 8 (by decide) wraps_u8 1 (by decide) level h0.1 (by omega)
        go_cut [41] (fun v41 w' => Aside0 (RS w w' b6 b9 b12 b13 b14 A1 l.length c1 sos (mineF level) (otherF level) (.slice AV l.length cV) (.slice none 0 0) now []))
        case first =>
          by_cases kl : level % 2 = 1
          · have e4 : (bits BinOp.and IntKind.u8 level 1 == 1) = true := by rw [hbit]; simpa using kl
            have hm : mineF level = 2 := by unfold mineF; rw [if_pos kl]
            have ho : otherF level = 1 := by unfold otherF; rw [if_pos kl]
            have HM := Aside0.mk hm
            have HO := Aside0.mk ho
            have HN := Aside0.mk n1314
            clear kl hm ho
            go_wp2_with fail
            go_meet
            case rel =>
              have h := HS0.out
              have L := h.bel.size
              rw [HM.out, HO.out]
              obtain ⟨d1, d2, d3, d4, d5, d6⟩ := HD.out
              refine ⟨⟨below_set (below_set h.bel d1) d2, blk_far (blk_far h.h6 (blk_ne h.h6 h.h13 (by decide)) _) (blk_ne h.h6 h.h14 (by decide)) _, blk_far (blk_far h.h9 d3 _) d4 _, blk_far (blk_far h.h12 (blk_ne h.h12 h.h13 (by decide)) _) (blk_ne h.h12 h.h14 (by decide)) _, blk_far (blk_put h.h13 0 _ rfl) (Ne.symm HN.out) _, blk_put (blk_far h.h14 HN.out _) 0 _ rfl, row_move h.row (fun k hk => ?_), h.ne, Kd.R_nil _ _ _ _ _⟩⟩
              exact (Below.heap_setCell _ _ _ _ (fun e => d6 (by rw [hk, e]))).trans (Below.heap_setCell _ _ _ _ (fun e => d5 (by rw [hk, e])))
          · have e4 : (bits BinOp.and IntKind.u8 level 1 == 1) = false := by rw [hbit]; simpa using kl
            have hm : mineF level = 1 := by unfold mineF; rw [if_neg kl]
            have ho : otherF level = 2 := by unfold otherF; rw [if_neg kl]
            have HM := Aside0.mk hm
            have HO := Aside0.mk ho
            clear kl hm ho
            go_wp2_with fail
            go_meet
            case rel => exact ⟨by rw [HM.out, HO.out]; exact HS0.out⟩
        case rest =>
          clear HS0 x13 x14 f13 n1314 x14' f14' hbit HD
          have HP := pairs_any A0 c0 l A2 c2 now wc (Kd.C_below hr0 hcut.out.bel) hc0 (Kd.C_below hr2 hcut.out.bel) hc2 (by omega) (GW_below hG hcut.out.bel)
          have hrr := HR.out
          unfold resF at hrr
          rw [if_neg k1, if_neg (by omega)] at hrr
          have hok := refP_ok l now
          have hpl := refP_len l now
          rw [k3] at HP
          generalize refP l now = ps at HP hrr hok hpl
          obtain ⟨R1, R2⟩ := R
          injection hrr with hR1 hR2
          subst hR2
          have HF := Aside0.mk hR1
          have HOK := Aside0.mk hok
          clear hR1 hok HR
          go_upto_block 1 with (first | (go_at_call 9; (with_reducible refine HP.mono ?_); rintro e w9 ⟨V48, rfl, hV, hb9⟩; obtain ⟨AP, cP, hVe, hVc, hVr⟩ := Kd.R_reads hV; rw [List.length_map] at hVe hVc; clear hVr; subst hVe; have HS9 := Aside0.mk ((hcut.out.below hb9).pairs (ps' := ps) (Kd.R_lower hV hcut.out.bel.size)); clear hV hb9))
          clear HP hcut
          go_wp2_with fail
          have hmo := mine_other level
          generalize hmm : mineF level = mine at HF HS9 hmo
          generalize hoo : otherF level = other at HF HS9 hmo
          obtain ⟨hmo1, hmo2, hmo3, _⟩ := hmo
          clear hmm hoo
          go_loopg [50] ps.length (fun k v50 w' => ∃ (i : Nat) (out : List Int), v50 = .int .i64 i ∧ i + k = ps.length ∧ Aside0 (out.length = l.length) ∧ Aside0 (foldF first mine other sos (ps.drop i) out = R1) ∧ Aside0 (RS w w' b6 b9 b12 b13 b14 A1 l.length c1 sos mine other (.slice AV l.length cV) (.slice AP ps.length cP) out ps))
          case atStart => exact ⟨0, now, rfl, by omega, ⟨k3⟩, HF, HS9⟩
          case round =>
            obtain ⟨i, out, rfl, hik, HOL, HFF, HS⟩ := hrel
            clear HF HS9
            by_cases hlt : i < ps.length
            · obtain ⟨k', rfl⟩ : ∃ q, gk = q + 1 := ⟨gk - 1, by omega⟩
              have hz := HOK.out ps[i] (List.getElem_mem _)
              have hf := HFF.out
              rw [List.drop_eq_getElem_cons hlt, foldF] at hf
              have hrd : rd_T30 (ps.map to30) (i : Int) = to30 ps[i] := by unfold rd_T30; simp [List.getD_eq_getElem?_getD, hlt]
              generalize ps[i] = p at hz hf hrd
              obtain ⟨po, pc⟩ := p
              simp only at hz
              obtain ⟨o, rfl⟩ := Int.eq_ofNat_of_zero_le hz.1
              obtain ⟨c, rfl⟩ := Int.eq_ofNat_of_zero_le (show 0 ≤ pc by omega)
              have hoc : o < c := by omega
              have hcn : c < l.length := by omega
              obtain ⟨gp, cp', hVp, q1_, q2_, q3_⟩ := Kd.R_form HS.out.prs (by rw [List.length_map]; omega)
              injection hVp with hVp h2_ h3_
              clear h2_ h3_ q1_ q2_ q3_
              subst hVp
              have hxx := at_T30 (Kd.R_reads' HS.out.prs).2.2 (i : Int) (by omega) (by rw [List.length_map]; omega)
              obtain ⟨ad, hA, hx0, hx1⟩ := hxx
              injection hA with hA
              subst hA
              rw [hrd] at hx0 hx1
              rw [Int.toNat_natCast, add_at, Nat.zero_add] at hx0 hx1
              simp only [to30] at hx0 hx1
              have HZ := Aside0.mk hz
              have HF' := Aside0.mk hf
              have HOC := Aside0.mk hoc
              have HCN := Aside0.mk hcn
              clear hz hf hrd hoc hcn HFF
              go_upto_region 14 with (first | ((with_reducible refine gate_dst (N := 18) rfl ?_); refine box_event ?hg (N := 18) ?hd (cs := #[.int .i64 0, .int .i64 0]) (t := 30) ?hr ?_; (case hd => rfl); (case hg => rfl); (case hr => first | (go_simp; done) | (go_simp; rfl)); intro b18 hb18 wa hbox hb; have HX18 := Aside0.mk hbox; have HBA := Aside0.mk hb; have HL18 := Aside0.mk hb18; have y18 : wa.cell? ⟨b18, 0, none⟩ = some (.int .i64 0) := (blk_cell hbox _).trans rfl; have z18 := blk_frozen hbox 0; have y18' : (wa.setCell ⟨b18, 0, none⟩ (.int .i64 o)).cell? ⟨b18, 1, none⟩ = some (.int .i64 0) := (blk_cell (blk_put hbox 0 _ rfl) _).trans rfl; have z18' := blk_frozen (blk_put hbox 0 (.int .i64 o) rfl) 1; clear hbox hb hb18))
              have hbq : Below wr.heap.size wr ((wa.setCell ⟨b18, 0, none⟩ (.int .i64 o)).setCell ⟨b18, 1, none⟩ (.int .i64 c)) := below_set (below_set HBA.out (Nat.le_of_eq HL18.out.symm)) (Nat.le_of_eq HL18.out.symm)
              have hx18 : ((wa.setCell ⟨b18, 0, none⟩ (.int .i64 o)).setCell ⟨b18, 1, none⟩ (.int .i64 c)).heap[b18]? = some (.cells #[.int .i64 o, .int .i64 c] 30 (0, 0)) := blk_put (blk_put HX18.out 0 _ rfl) 1 _ rfl
              generalize (wa.setCell ⟨b18, 0, none⟩ (.int .i64 o)).setCell ⟨b18, 1, none⟩ (.int .i64 c) = wq at hbq hx18 ⊢
              have hsq := HS.out.below hbq
              obtain ⟨g, cp2, hVp, hwg, hgq, cellsg, hcg⟩ := Kd.R_form hsq.row (by have := HOL.out; have := HCN.out; omega)
              injection hVp with hVp h2_ h3_
              subst h3_
              clear h2_
              subst hVp
              have n18 : b18 ≠ g := blk_ne hx18 hcg (by decide)
              have HN18 := Aside0.mk n18
              have HWG := Aside0.mk hwg
              have x18 : wq.cell? ⟨b18, 0, none⟩ = some (.int .i64 o) := (blk_cell hx18 _).trans rfl
              have x18' : wq.cell? ⟨b18, 1, none⟩ = some (.int .i64 c) := (blk_cell hx18 _).trans rfl
              have HBC := bec_any b12 b13 b14 b9 out g cV w.heap.size l.length o c mine other sos wq hsq.row ((blk_cell hsq.h12 _).trans rfl) (blk_lt hsq.h12) ((blk_cell hsq.h13 _).trans rfl) (blk_lt hsq.h13) ((blk_cell hsq.h14 _).trans rfl) (blk_lt hsq.h14) ((blk_cell hsq.h9 _).trans rfl) (blk_lt hsq.h9) HOL.out HOC.out HCN.out (by omega) hmo1 hmo2 hmo3
              have hst : stepF first mine other sos out ⟨o, c⟩ = if becF mine other sos out ⟨o, c⟩ = 0 then out else setF first (becF mine other sos out ⟨o, c⟩) c (setF first (becF mine other sos out ⟨o, c⟩) o out) := rfl
              generalize becF mine other sos out ⟨o, c⟩ = b at HBC hst
              have HST := Aside0.mk hst
              have HSQ := Aside0.mk hsq
              have HX18' := Aside0.mk hx18
              clear hst hsq hx18 hbq hwg hgq hcg n18 HS HBA HX18 HL18 y18 y18' z18 z18' hx0 hx1
              go_upto_region 15 with (first | (go_at_call 23; (with_reducible refine HBC.mono ?_); rintro e wb ⟨rfl, hb⟩; have HBB := Aside0.mk hb; clear hb))
              have hsb := HSQ.out.below HBB.out
              have hx18b := blk_below HX18'.out HBB.out
              have u18 : wb.cell? ⟨b18, 0, none⟩ = some (.int .i64 o) := (blk_cell hx18b _).trans rfl
              clear HBC x18 x18' HSQ HX18' HBB
              have HSB := Aside0.mk hsb
              have HX18B := Aside0.mk hx18b
              clear hsb hx18b
              by_cases hb0 : b = 0
              · have e5 : (b != 0) = false := by simpa using hb0
                have hst := HST.out
                rw [if_pos hb0] at hst
                have hf := HF'.out
                rw [hst] at hf
                have HF2 := Aside0.mk hf
                clear hf hst hb0
                go_wp2_with fail
                go_roundg k'
                case measure => omega
                case rel => exact ⟨i + 1, out, by go_num, by omega, HOL, HF2, HSB⟩
              · have e5 : (b != 0) = true := by simpa using hb0
                have hst := HST.out
                rw [if_neg hb0] at hst
                have hf := HF'.out
                rw [hst] at hf
                have HF2 := Aside0.mk hf
                clear hf hst hb0
                have hsb := HSB.out
                have HS1 := set_any b12 b6 A1 c1 first out g cV w.heap.size l.length o b wb hsb.row ((blk_cell hsb.h12 _).trans rfl) (fun e => hsb.ne b12 (.inr (.inr (.inl rfl))) (by rw [e]; rfl)) (blk_lt hsb.h12) ((blk_cell hsb.h6 _).trans rfl) (fun e => hsb.ne b6 (.inl rfl) (by rw [e]; rfl)) (blk_lt hsb.h6) (fun W hW => Kd.C_below hr1 (grown_below hsb.bel hW HWG.out)) HOL.out (by have := HOC.out; have := HCN.out; omega) (by omega) k2
                clear hsb
                go_upto_region 17 with (first | (go_at_call 22; (with_reducible refine HS1.mono ?_); rintro e wd ⟨rfl, hr, hg⟩; have HRD := Aside0.mk hr; have HGD := Aside0.mk hg; clear hr hg))
                have hsd := HSB.out.grown HGD.out HRD.out
                have hx18d := blk_grown HX18B.out HGD.out (fun e => HN18.out (Option.some.inj e))
                have v18 : wd.cell? ⟨b18, 1, none⟩ = some (.int .i64 c) := (blk_cell hx18d _).trans rfl
                have hol : (setF first b o out).length = l.length := by rw [setF_len]; exact HOL.out
                have HS2 := set_any b12 b6 A1 c1 first (setF first b o out) g cV w.heap.size l.length c b wd hsd.row ((blk_cell hsd.h12 _).trans rfl) (fun e => hsd.ne b12 (.inr (.inr (.inl rfl))) (by rw [e]; rfl)) (blk_lt hsd.h12) ((blk_cell hsd.h6 _).trans rfl) (fun e => hsd.ne b6 (.inl rfl) (by rw [e]; rfl)) (blk_lt hsd.h6) (fun W hW => Kd.C_below hr1 (grown_below hsd.bel hW HWG.out)) hol HCN.out (by omega) k2
                have HSD := Aside0.mk hsd
                clear hsd HS1 HSB hx18d hol
                go_wp2_with (first | (go_at_call 22; (with_reducible refine HS2.mono ?_); rintro e we ⟨rfl, hr, hg⟩; have HRE := Aside0.mk hr; have HGE := Aside0.mk hg; clear hr hg))
                go_roundg k'
                case measure => omega
                case rel => exact ⟨i + 1, _, by go_num, by omega, ⟨by rw [setF_len, setF_len]; exact HOL.out⟩, HF2, ⟨HSD.out.grown HGE.out HRE.out⟩⟩
            · obtain rfl : gk = 0 := by omega
              have hf := HFF.out
              rw [List.drop_eq_nil_of_le (by omega), foldF] at hf
              have HF2 := Aside0.mk hf
              have x12 : wr.cell? ⟨b12, 0, none⟩ = some (.slice AV l.length cV) := (blk_cell HS.out.h12 _).trans rfl
              have hin : ¬ (i : Int) < (ps.length : Int) := by omega
              clear hf HFF
              go_wp2_with fail
              go_ret2
              exact ⟨_, rfl, by rw [← HF2.out]; exact HS.out.row, HS.out.bel⟩
      · have hr := HR.out
        unfold resF at hr
        rw [if_neg k1, if_pos (.inr k3)] at hr
        have e3 : ((now.length : Int) != (l.length : Int)) = true := by simp; omega
        go_wp2_with fail
        go_ret2
        subst hr
        exact ⟨_, rfl, Kd.R_nil _ _ _ _ _, HB2.out⟩
    · have hr := HR.out
      unfold resF at hr
      rw [if_neg k1, if_pos (.inl k2)] at hr
      have e2 : ((first.length : Int) != (l.length : Int)) = true := by simp; omega
      go_wp2_with fail
      go_ret2
      subst hr
      exact ⟨_, rfl, Kd.R_nil _ _ _ _ _, HB2.out⟩
end Go.Proofs.YtaidfmioggelnaaDoor.Q
