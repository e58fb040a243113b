/- PairsNest, walked: it returns true. Condition: the world's table. -/
import Derived.Test.YtaidfmioggelnaaDoorP8
namespace Go.Proofs.YtaidfmioggelnaaDoor.Q
set_option linter.unusedVariables false
set_option linter.unusedSimpArgs false
open Go.RowKit Go.Proofs.YtaidfmioggelnaaDoorW.PrintWords Go.Proofs.YtaidfmioggelnaaDoorW.PrintLast Go.Proofs.YtaidfmioggelnaaDoorW.PrintMore

structure NS (w W : World) (VP VO VB : Value) (ps : List S31) (out : List Int) (brk : List Bool) : Prop where
  bel : Below w.heap.size w W
  prs : Kd.R k30 30 W w.heap.size (fun _ => True) VP (ps.map to30)
  row : Kd.R (Kd.int .u8) 33 W w.heap.size (fun _ => True) VO out
  brk : Kd.R Kd.bool 4 W w.heap.size (fun _ => True) VB brk
section
variable {w W W' : World} {VP VO VB : Value} {ps : List S31} {out : List Int} {brk : List Bool}
theorem NS.below (h : NS w W VP VO VB ps out brk) (hb : Below W.heap.size W W') : NS w W' VP VO VB ps out brk := ⟨below_step h.bel hb, Kd.R_below h.prs hb, Kd.R_below h.row hb, Kd.R_below h.brk hb⟩
theorem NS.drew (h : NS w W VP VO VB ps out brk) (n : Nat) : NS w (W.drewN n) VP VO VB ps out brk := h.below (pw_below_drewN (Below.refl _ _) n)
theorem NS.put {g cap m : Nat} (h : NS w W VP VO (.slice (some ⟨g, 0, none⟩) m cap) ps out brk) (i : Nat) : NS w (W.setCell ⟨g, i, none⟩ (.bool true)) VP VO (.slice (some ⟨g, 0, none⟩) m cap) ps out (brk.set i true) := by
  obtain ⟨hr, hg⟩ := Kd.R_putg h.brk (i : Int) true
  rw [Int.toNat_natCast] at hr hg
  obtain ⟨inner, ho⟩ := Kd.R_own h.brk
  have hV : (Value.slice (some ⟨g, 0, none⟩) m cap).ownBlock = some g := rfl
  obtain ⟨cells, hc⟩ := own_typed ho g hV
  exact ⟨grown_below h.bel hg (own_base ho g hV), Kd.R_mono (Kd.R_grown (Kd.R_types h.prs hc (by decide)) hg (fun k hk e => by injection e with e; exact hk.2 e)) (fun _ _ => trivial), Kd.R_mono (Kd.R_grown (Kd.R_types h.row hc (by decide)) hg (fun k hk e => by injection e with e; exact hk.2 e)) (fun _ _ => trivial), hr⟩
end
theorem bneN {a b : Int} (h : a = b) : (a != b) = false := by rw [h]; simp
theorem bneP {a b : Int} (h : a ≠ b) : (a != b) = true := by simpa using h
set_option maxHeartbeats 8000000 in
set_option maxRecDepth 100000 in
theorem nest_any (A0 : Option Addr) (c0 : Nat) (l : List Int) (A1 : Option Addr) (c1 : Nat) (first : List Int) (A2 : Option Addr) (c2 : Nat) (now : List Int) (level sos : Int) (w : World)
    (hr0 : Kd.C (Kd.int .i32) w A0 l.length l) (hc0 : l.length ≤ c0) (hr1 : Kd.C (Kd.int .u8) w A1 first.length first) (hc1 : first.length ≤ c1) (hr2 : Kd.C (Kd.int .u8) w A2 now.length now) (hc2 : now.length ≤ c2) (h0 : 0 ≤ level ∧ level ≤ 255) (hG : GW w) :
    Calls Tryd.prog 5 #[.slice A0 l.length c0, .slice A1 first.length c1, .slice A2 now.length c2, .int .u8 level, .int .u8 sos] w fun e w' => e = .returned (.bool true) ∧ Below w.heap.size w w' := by
  have HW : ∀ W, Below w.heap.size w W → Calls Tryd.prog 8 #[] W fun e w' => e = .returned (.bool true) ∧ Below W.heap.size W w' := fun W hb => selvedgelaw17_works.calls 600 true W (GW_below hG hb) works_one
  have hW0 := HW w (Below.refl _ _)
  by_cases k1 : l.length > 800
  · have e1 : (l.length : Int) > 800 := by omega
    go_enter Tryd.func5, Tryd.ntmps5
    go_wp2_with (first | (go_at_call 8; (with_reducible refine hW0.mono ?_); rintro e_ w2 ⟨rfl, hb⟩; have HB2 := Aside0.mk hb; clear hb))
    go_ret
    exact ⟨rfl, HB2.out⟩
  have e1 : ¬ (l.length : Int) > 800 := by omega
  by_cases k2 : first.length = l.length
  case neg =>
    have e2 : ((first.length : Int) != (l.length : Int)) = true := bneP (by omega)
    go_enter Tryd.func5, Tryd.ntmps5
    go_wp2_with (first | (go_at_call 8; (with_reducible refine hW0.mono ?_); rintro e_ w2 ⟨rfl, hb⟩; have HB2 := Aside0.mk hb; clear hb))
    go_ret
    exact ⟨rfl, HB2.out⟩
  have e2 : ((first.length : Int) != (l.length : Int)) = false := bneN (by omega)
  by_cases k3 : now.length = l.length
  case neg =>
    have e3 : ((now.length : Int) != (l.length : Int)) = true := bneP (by omega)
    go_enter Tryd.func5, Tryd.ntmps5
    go_wp2_with (first | (go_at_call 8; (with_reducible refine hW0.mono ?_); rintro e_ w2 ⟨rfl, hb⟩; have HB2 := Aside0.mk hb; clear hb))
    go_ret
    exact ⟨rfl, HB2.out⟩
  have e3 : ((now.length : Int) != (l.length : Int)) = false := bneN (by omega)
  have hP := pairs_any A0 c0 l A2 c2 now w hr0 hc0 hr2 hc2 (by omega) hG
  have hR := fun W hb => resolve_any A0 c0 l A1 c1 first A2 c2 now level sos W (Kd.C_below hr0 hb) hc0 (Kd.C_below hr1 hb) hc1 (Kd.C_below hr2 hb) hc2 h0 (GW_below hG hb)
  obtain ⟨out, hout, hol, hinv⟩ := nest_all l first now level sos (by omega) k2 k3
  rw [hout] at hR
  simp only at hR
  have hok := refP_ok l now
  have hpl := refP_len l now
  obtain ⟨ps, hps⟩ : ∃ ps, refP l now = ps := ⟨_, rfl⟩
  have hat := nest_at' l now ps hps
  rw [hps] at hP hok hpl hinv
  clear hps
  have HINV := Aside0.mk hinv
  have HOK := Aside0.mk hok
  have HAT := Aside0.mk hat
  have HOL := Aside0.mk hol
  have HPL := Aside0.mk hpl
  have HWW := Aside0.mk HW
  have HRR := Aside0.mk hR
  have HR0 := Aside0.mk hr0
  have HR1 := Aside0.mk hr1
  have HR2 := Aside0.mk hr2
  rw [k3] at hP
  have HCS := Aside0.mk (And.intro hc0 (And.intro hc1 (And.intro hc2 (And.intro h0 (And.intro hG (And.intro k1 (And.intro e1 (And.intro e2 e3))))))))
  clear hinv hok hat hol hpl HW hR hr0 hr1 hr2 hW0
  go_enter Tryd.func5, Tryd.ntmps5
  go_upto_region 4 with (first | (go_at_call 9; (with_reducible refine hP.mono ?_); rintro e_ w1 ⟨V11, rfl, hV, hb⟩; obtain ⟨AP, cP, hVe, hVc, hVr⟩ := Kd.R_reads hV; rw [List.length_map] at hVe hVc; clear hVr; subst hVe; have HV11 := Aside0.mk hV; have HB1 := Aside0.mk hb; clear hV hb))
  have hR1 := HRR.out w1 HB1.out
  rw [k2, k3] at hR1
  clear hP
  go_upto_region 5 with (first | (go_at_call 11; (with_reducible refine hR1.mono ?_); rintro e_ w2 ⟨V12, rfl, hV, hb⟩; obtain ⟨AO, cO, hVe, hVc, hVr⟩ := Kd.R_reads hV; rw [HOL.out] at hVe hVc; clear hVr; subst hVe; have HV12 := Aside0.mk (Kd.R_lower hV HB1.out.size); have HV11' := Aside0.mk (Kd.R_below HV11.out hb); have HB2 := Aside0.mk (below_step HB1.out hb); clear hV hb))
  clear hR1 HV11 HB1
  have z0 : (0 : Int) ≤ (l.length : Int) := by omega
  clear hc0 hc1 hc2 h0 hG e1 e2 e3 hout
  go_upto_block 0 with (first | ((with_reducible refine gate_dst (N := 67) rfl ?_); (try (refine gate_guard (by rfl) ?_; dsimp only)); refine Kd.R_make Kd.bool _ 4 rfl (N := 67) rfl 39 _ _ rfl (l.length : Int) rfl rfl Tryd.underlying39 (.bool false) 1 info4 rfl (by decide) (by omega) false (ok := fun _ => True) (okp := fun _ => True) rfl (fun _ hk => hk) trivial z0 (by omega) (Below.refl _ _) (Nat.le_refl _) ?_; intro v67 w3 ho23 hb hg_ hnew_; clear hg_ hnew_; rw [Int.toNat_natCast] at ho23; obtain ⟨AB, cB, hVe, hVc, hVr⟩ := Kd.R_reads ho23; rw [List.length_replicate] at hVe hVc; clear hVr; subst hVe; have HNS := Aside0.mk (NS.mk (below_step HB2.out hb) (Kd.R_below (Kd.R_lower HV11'.out (Nat.le_refl _)) hb) (Kd.R_below HV12.out hb) (Kd.R_lower ho23 HB2.out.size) : NS w w3 (.slice AP ps.length cP) (.slice AO l.length cO) (.slice AB l.length cB) ps out (brkF l.length (ps.take 0))); clear ho23 hb))
  clear HV12 HV11' HB2 z0
  have hpl := HPL.out
  go_wp2_with fail
  go_loopg [15] ps.length (fun k v15 w' => ∃ i : Nat, v15 = .int .i64 i ∧ i + k = ps.length ∧ Aside0 (NS w w' (.slice AP ps.length cP) (.slice AO l.length cO) (.slice AB l.length cB) ps out (brkF l.length (ps.take i))))
  case atStart => exact ⟨0, rfl, by omega, HNS⟩
  case round =>
    obtain ⟨i, rfl, hik, HS⟩ := hrel
    clear HNS
    by_cases hlt : i < ps.length
    · obtain ⟨k', rfl⟩ : ∃ q, gk = q + 1 := ⟨gk - 1, by omega⟩
      have hs := HS.out
      have hz := HOK.out ps[i] (List.getElem_mem _)
      have hat := HAT.out i hlt
      have hal := HINV.out.alike ps[i] (List.getElem_mem _)
      have hrd : rd_T30 (ps.map to30) (i : Int) = to30 ps[i] := by unfold rd_T30; simp [List.getD_eq_getElem?_getD, hlt]
      have htk : brkF l.length (ps.take (i + 1)) = ((brkF l.length (ps.take i)).set (ps[i]).f0.toNat true).set (ps[i]).f1.toNat true := by rw [List.take_succ_eq_append_getElem hlt, brkF_snoc]
      generalize hpp : ps[i] = p at hz hat hrd hal htk
      obtain ⟨po, pc⟩ := p
      simp only at hz hat hal htk
      obtain ⟨z1, z2, z3, z4, z5, z6, cl, b0, b1⟩ := hz
      -- the pair's cells
      obtain ⟨gp, cp', hVp, q1_, q2_, q3_⟩ := Kd.R_form hs.prs (by rw [List.length_map]; omega)
      injection hVp with hVp h2_ h3_
      clear h2_ h3_ q1_ q2_ q3_
      subst hVp
      obtain ⟨ad, hA, hx0, hx1⟩ := at_T30 (Kd.R_reads' hs.prs).2.2 (i : Int) (by omega) (by rw [List.length_map]; omega)
      injection hA with hA
      subst hA
      rw [hrd] at hx0 hx1
      rw [Int.toNat_natCast, add_at, Nat.zero_add] at hx0 hx1
      simp only [to30] at hx0 hx1
      -- the marks'
      obtain ⟨gb, cb', hVb, q1_, q2_, q3_⟩ := Kd.R_form hs.brk (by rw [brkF_len]; omega)
      injection hVb with hVb h2_ h3_
      clear h2_ h3_ q1_ q2_ q3_
      subst hVb
      obtain ⟨m0, m0f⟩ := Kd.R_celln false hs.brk po (by omega) (by omega)
      obtain ⟨m1, m1f⟩ := Kd.R_celln false hs.brk pc (by omega) (by omega)
      rw [hat.1] at m0
      rw [hat.2.1] at m1
      -- out's
      obtain ⟨go, co', hVo, q1_, q2_, q3_⟩ := Kd.R_form hs.row (by rw [HOL.out]; omega)
      injection hVo with hVo h2_ h3_
      clear h2_ h3_ q1_ q2_ q3_
      subst hVo
      have r0 : wr.cell? ⟨go, po.toNat, none⟩ = some (.int .u8 (rd out po)) := (Kd.R_celln 0 hs.row po (by omega) (by omega)).1
      have r1 : wr.cell? ⟨go, pc.toNat, none⟩ = some (.int .u8 (rd out pc)) := (Kd.R_celln 0 hs.row pc (by omega) (by omega)).1
      -- the rows that are read
      obtain ⟨ad2, rfl, n0⟩ := Kd.at_int (Kd.C_below HR2.out hs.bel) po (by omega) (by omega)
      obtain ⟨ad2', e2', n1⟩ := Kd.at_int (Kd.C_below HR2.out hs.bel) pc (by omega) (by omega)
      obtain rfl := Option.some.inj e2'
      obtain ⟨ad1, rfl, f0⟩ := Kd.at_int (Kd.C_below HR1.out hs.bel) po (by omega) (by omega)
      obtain ⟨ad1', e1', f1⟩ := Kd.at_int (Kd.C_below HR1.out hs.bel) pc (by omega) (by omega)
      obtain rfl := Option.some.inj e1'
      rw [z5] at n0
      rw [z6] at n1
      have HTK := Aside0.mk htk
      have HAT' := Aside0.mk hat
      have HB0 := Aside0.mk b0
      have HB1 := Aside0.mk b1
      have HPP := Aside0.mk hpp
      have HZ := Aside0.mk (And.intro z1 (And.intro z2 z3))
      have HM := Aside0.mk (And.intro m0f m1f)
      have HFACT := Aside0.mk (And.intro m0 (And.intro m1 (And.intro r0 (And.intro r1 (And.intro n0 (And.intro n1 (And.intro f0 (And.intro f1 hal))))))))
      have HNUM := Aside0.mk hik
      clear m0 m1 r0 r1 n0 n1 f0 f1 hal hik z1 z2 z3 z4 z5 z6 htk hat b0 b1 hpp hs hrd e2' e1' m0f m1f hpl
      go_upto_region 12 with (fail)
      repeat (go_quiet (fail); go_upto_region 12 with (fail))
      obtain ⟨m0, m1, r0, r1, n0, n1, f0, f1, hal⟩ := HFACT.out
      have HAL := Aside0.mk hal
      obtain ⟨z1, z2, z3⟩ := HZ.out
      have d1 : decide (po < 0) = false := decide_eq_false (by omega)
      have d2 : decide (pc ≤ po) = false := decide_eq_false (by omega)
      have d3 : decide (pc ≥ (l.length : Int)) = false := decide_eq_false (by omega)
      have p0 := eq_true z1
      have q0 : (po < (l.length : Int)) = True := eq_true (by omega)
      have p1 : (0 ≤ pc) = True := eq_true (by omega)
      have q1 := eq_true z3
      clear hal hx0 hx1 HFACT z1 z2 z3
      go_cut [147] (fun v147 w' => v147 = .bool false ∧ ∃ n, w' = wr.drewN n)
      case first =>
        as_aux_lemma =>
          by_cases h1 : rd out po = rd out pc
          · have e4 : (rd out po != rd out pc) = false := bneN h1
            clear h1 HAL
            go_wp2_with fail
            repeat (go_quiet (fail); try go_wp2)
            go_meet
            case rel => exact ⟨rfl, _, World.drewN_drewN _ _ _⟩
          · have e4 : (rd out po != rd out pc) = true := bneP h1
            by_cases h2 : rd first po = 9
            · have e5 : (rd first po != 9) = false := bneN h2
              clear h1 h2 HAL
              go_wp2_with fail
              repeat (go_quiet (fail); try go_wp2)
              go_meet
              case rel => exact ⟨rfl, _, World.drewN_drewN _ _ _⟩
            · have e5 : (rd first po != 9) = true := bneP h2
              have e6 : (rd first pc != 9) = false := bneN ((HAL.out.resolve_left h1).resolve_left h2)
              clear h1 h2 HAL
              go_wp2_with fail
              repeat (go_quiet (fail); try go_wp2)
              go_meet
              case rel => exact ⟨rfl, _, World.drewN_drewN _ _ _⟩
      case rest =>
        as_aux_lemma =>
          obtain ⟨h147, nn, hwc⟩ := hcut
          subst h147
          have hs : NS w wc (.slice (some ⟨gp, 0, none⟩) ps.length cP) (.slice (some ⟨go, 0, none⟩) l.length cO) (.slice (some ⟨gb, 0, none⟩) l.length cB) ps out (brkF l.length (ps.take i)) := by rw [hwc]; exact HS.out.drew nn
          clear hwc m0 m1 r0 r1 n0 n1 f0 f1 HAL d1 d2 d3 HS
          obtain ⟨z1, z2, z3⟩ := HZ.out
          obtain ⟨ad0, rfl, l0⟩ := Kd.at_int (Kd.C_below HR0.out hs.bel) po (by omega) (by omega)
          obtain ⟨kb0, hkb0⟩ := (rbr_ev (rd l po)).rounds
          obtain ⟨kb1, hkb1⟩ := (rbr_ev (rd l pc)).rounds
          rw [HB0.out] at hkb0
          rw [HB1.out] at hkb1
          have HQ0 := Aside0.mk (selvedgeref01_Bracket.calls kb0 (rd l po) cl true true wc hkb0)
          have HQ1 := fun W => selvedgeref01_Bracket.calls kb1 (rd l pc) cl false true W hkb1
          have HQ1' := Aside0.mk HQ1
          have HSC := Aside0.mk hs
          clear hkb0 hkb1 z1 z2 z3 hs HQ1
          go_upto_region 15 with (first | (go_at_call 14; (with_reducible refine HQ0.out.mono ?_); rintro e_ w4 ⟨rfl, hb⟩; have HS4 := Aside0.mk (HSC.out.below hb); clear hb))
          obtain ⟨z1, z2, z3⟩ := HZ.out
          obtain ⟨ad0', e0', l1⟩ := Kd.at_int (Kd.C_below HR0.out HS4.out.bel) pc (by omega) (by omega)
          obtain rfl := Option.some.inj e0'
          have HQ2 := HQ1'.out w4
          clear HSC HQ0 HQ1' l0 e0' z1 z2 z3
          go_upto_region 16 with (first | (go_at_call 14; (with_reducible refine HQ2.mono ?_); rintro e_ w5 ⟨rfl, hb⟩; have HS5 := Aside0.mk (HS4.out.below hb); clear hb))
          have e7 : (cl != cl) = false := bneN rfl
          clear HQ2 l1
          go_upto_region 18 with (fail)
          obtain ⟨z1, z2, z3⟩ := HZ.out
          have mm := Kd.R_celln false HS5.out.brk po (by omega) (by omega)
          obtain ⟨s0, s0f⟩ := mm
          clear z1 z2 z3 e7 HS4
          go_upto_region 19 with (fail)
          have hs6 := HS5.out.put po.toNat
          generalize w5.setCell ⟨gb, po.toNat, none⟩ (.bool true) = w6 at hs6 ⊢
          obtain ⟨z1, z2, z3⟩ := HZ.out
          obtain ⟨s1, s1f⟩ := Kd.R_celln false hs6.brk pc (by omega) (by omega)
          have HS6 := Aside0.mk hs6
          clear s0 s0f hs6 z1 z2 z3 HS5
          go_upto_block 2 with (fail)
          have hs7 := HS6.out.put pc.toNat
          generalize w6.setCell ⟨gb, pc.toNat, none⟩ (.bool true) = w7 at hs7 ⊢
          rw [← HTK.out] at hs7
          have HS7 := Aside0.mk hs7
          clear s1 s1f hs7 HS6 p0 q0 p1 q1
          have hik := HNUM.out
          go_wp2_with fail
          go_loopg [24] i (fun k v24 w' => ∃ q : Nat, v24 = .int .i64 q ∧ q + k = i ∧ w7 = w')
          case atStart => exact ⟨0, rfl, by omega, rfl⟩
          case round =>
            obtain ⟨q, rfl, hqk, rfl⟩ := hrel
            by_cases hqi : q < i
            · obtain ⟨kk, rfl⟩ : ∃ x, gk = x + 1 := ⟨gk - 1, by omega⟩
              have hlq : q < ps.length := by omega
              have hat := HAT'.out.2.2 q hqi
              have hrd : rd_T30 (ps.map to30) (q : Int) = to30 ps[q] := by unfold rd_T30; simp [List.getD_eq_getElem?_getD, hlq]
              obtain ⟨ad, hA, hx0, hx1⟩ := at_T30 (Kd.R_reads' HS7.out.prs).2.2 (q : Int) (by omega) (by rw [List.length_map]; omega)
              injection hA with hA
              subst hA
              rw [hrd] at hx0 hx1
              rw [Int.toNat_natCast, add_at, Nat.zero_add] at hx0 hx1
              simp only [to30] at hx0 hx1
              generalize ps[q] = qq at hx0 hx1 hat
              obtain ⟨qo, qc⟩ := qq
              simp only at hx0 hx1 hat
              have d1 : decide (qo ≥ po) = false := decide_eq_false (by omega)
              have hqik := Aside0.mk hqk
              by_cases hgt : qc > po
              · have d2 : decide (qc > po) = true := decide_eq_true hgt
                have d3 : decide (qc < pc) = false := decide_eq_false (fun h => hat.2 ⟨hgt, h⟩)
                clear hat hrd hgt hqk
                go_wp2_with fail
                go_roundg kk
                case measure => omega
                case rel => exact ⟨q + 1, congrArg (Value.int .i64) (wrap64_nat q (by have := HPL.out; omega)), by have := hqik.out; omega, rfl⟩
              · have d2 : decide (qc > po) = false := decide_eq_false hgt
                clear hat hrd hgt hqk
                go_wp2_with fail
                go_roundg kk
                case measure => omega
                case rel => exact ⟨q + 1, congrArg (Value.int .i64) (wrap64_nat q (by have := HPL.out; omega)), by have := hqik.out; omega, rfl⟩
            · obtain rfl : q = i := by omega
              go_wp2_with fail
              go_roundg k'
              case measure => omega
              case rel => exact ⟨q + 1, congrArg (Value.int .i64) (wrap64_nat q (by have := HPL.out; omega)), by omega, HS7⟩
    · obtain rfl : i = ps.length := by omega
      have hs := HS.out
      rw [List.take_length] at hs
      have HSE := Aside0.mk hs
      clear hs HS
      obtain ⟨brk, hbrk⟩ : ∃ b, brkF l.length ps = b := ⟨_, rfl⟩
      have HBK := Aside0.mk hbrk
      rw [hbrk] at HSE
      clear hbrk
      go_wp2_with fail
      go_loopg [25] l.length (fun k v25 w' => ∃ j : Nat, v25 = .int .i64 j ∧ j + k = l.length ∧ Aside0 (NS w w' (.slice AP ps.length cP) (.slice AO l.length cO) (.slice AB l.length cB) ps out brk))
      case atStart => exact ⟨0, rfl, by omega, HSE⟩
      case round =>
        obtain ⟨j, rfl, hjk, HS⟩ := hrel
        clear HSE
        by_cases hj : j < l.length
        · obtain ⟨k', rfl⟩ : ∃ q, gk = q + 1 := ⟨gk - 1, by omega⟩
          have hs := HS.out
          obtain ⟨gb, cb', hVb, q1_, q2_, q3_⟩ := Kd.R_form hs.brk (by rw [← HBK.out, brkF_len]; omega)
          injection hVb with hVb h2_ h3_
          clear h2_ h3_ q1_ q2_ q3_
          subst hVb
          obtain ⟨go, co', hVo, q1_, q2_, q3_⟩ := Kd.R_form hs.row (by rw [HOL.out]; omega)
          injection hVo with hVo h2_ h3_
          clear h2_ h3_ q1_ q2_ q3_
          subst hVo
          have r0 : wr.cell? ⟨go, j, none⟩ = some (.int .u8 (rd out j)) := (Kd.R_celln 0 hs.row (j : Int) (by omega) (by omega)).1
          have m0 : wr.cell? ⟨gb, j, none⟩ = some (.bool (rdOf false brk j)) := (Kd.R_celln false hs.brk (j : Int) (by omega) (by omega)).1
          obtain ⟨ad2, rfl, n0⟩ := Kd.at_int (Kd.C_below HR2.out hs.bel) (j : Int) (by omega) (by omega)
          obtain ⟨ad1, rfl, f0⟩ := Kd.at_int (Kd.C_below HR1.out hs.bel) (j : Int) (by omega) (by omega)
          rw [Int.toNat_natCast] at n0 f0
          have hkept := HINV.out.kept j
          have hmark := brkF_rd l.length ps j hj
          rw [HBK.out] at hmark
          have HJK := Aside0.mk hjk
          clear hs hjk hpl
          obtain ⟨bm, hbm⟩ : ∃ b, rdOf false brk (j : Int) = b := ⟨_, rfl⟩
          rw [hbm] at m0 hmark
          clear hbm
          go_upto_region 28 with (fail)
          go_cut [273] (fun v273 w' => v273 = .bool false ∧ ∃ n, w' = wr.drewN n)
          case first =>
            as_aux_lemma =>
              by_cases h1 : rd out (j : Int) = rd now (j : Int)
              · have e1 : (rd out (j : Int) != rd now (j : Int)) = false := bneN h1
                clear h1 hkept hmark
                repeat (go_quiet (fail); try go_wp2)
                go_meet
                case rel => exact ⟨rfl, _, rfl⟩
              · have e1 : (rd out (j : Int) != rd now (j : Int)) = true := bneP h1
                obtain ⟨hb, ho⟩ := hkept.resolve_left h1
                have go_on : bm = true ∨ (bm = false ∧ (rd first (j : Int) != 9) = false) := by
                  cases bm with
                  | true => exact .inl rfl
                  | false =>
                    refine .inr ⟨rfl, bneN ?_⟩
                    rcases hb with ⟨p, hp, hjp⟩ | h
                    · have hz := HOK.out p hp
                      have := hmark.2 ⟨p, hp, by omega⟩
                      cases this
                    · exact h
                clear hb hkept hmark h1
                rcases go_on with rfl | ⟨rfl, e2⟩
                · rcases ho with ho | ho
                  · have e3 : (rd out (j : Int) != 1) = false := bneN ho
                    clear ho
                    repeat (go_quiet (fail); try go_wp2)
                    go_meet
                    case rel => exact ⟨rfl, _, rfl⟩
                  · have e3 : (rd out (j : Int) != 1) = true := bneP (by omega)
                    have e4 : (rd out (j : Int) != 2) = false := bneN ho
                    clear ho
                    repeat (go_quiet (fail); try go_wp2)
                    go_meet
                    case rel => exact ⟨rfl, _, rfl⟩
                · rcases ho with ho | ho
                  · have e3 : (rd out (j : Int) != 1) = false := bneN ho
                    clear ho
                    repeat (go_quiet (fail); try go_wp2)
                    go_meet
                    case rel => exact ⟨rfl, _, rfl⟩
                  · have e3 : (rd out (j : Int) != 1) = true := bneP (by omega)
                    have e4 : (rd out (j : Int) != 2) = false := bneN ho
                    clear ho
                    repeat (go_quiet (fail); try go_wp2)
                    go_meet
                    case rel => exact ⟨rfl, _, rfl⟩
          case rest =>
            as_aux_lemma =>
              obtain ⟨h273, nn, hwc⟩ := hcut
              subst h273
              have HSN := Aside0.mk (show NS w wc (.slice AP ps.length cP) (.slice (some ⟨go, 0, none⟩) l.length cO) (.slice (some ⟨gb, 0, none⟩) l.length cB) ps out brk by rw [hwc]; exact HS.out.drew nn)
              clear hwc m0 r0 n0 f0 hkept hmark HS
              go_wp2_with fail
              go_roundg k'
              case measure => omega
              case rel => exact ⟨j + 1, by go_num, by have := HJK.out; omega, HSN⟩
        · obtain rfl : gk = 0 := by omega
          have hW := HWW.out _ HS.out.bel
          go_wp2_with (first | (go_at_call 8; (with_reducible refine hW.mono ?_); rintro e_ w9 ⟨rfl, hb⟩; have HB9 := Aside0.mk (below_step HS.out.bel hb); clear hb))
          go_ret
          exact ⟨rfl, HB9.out⟩
end Go.Proofs.YtaidfmioggelnaaDoor.Q
