/- pairs.Resolve's closure become. Conditions: the row is of the call's own; the boxes hold it, the sides and sos. -/
import Derived.Test.YtaidfmioggelnaaDoorA7
namespace Go.Proofs.YtaidfmioggelnaaDoor.Q
set_option linter.unusedVariables false
set_option linter.unusedSimpArgs false
open Go.RowKit Go.Proofs.YtaidfmioggelnaaDoorW.PrintWords Go.Proofs.YtaidfmioggelnaaDoorW.PrintLast Go.Proofs.YtaidfmioggelnaaDoorW.PrintMore

set_option maxHeartbeats 4000000 in
set_option maxRecDepth 100000 in
theorem bec_any (b12 b13 b14 b9 : Nat) (out : List Int) (g cap base n o c : Nat) (mine other sos : Int) (w : World) (hR : RowR w base g cap n out)
    (h12 : w.cell? ⟨b12, 0, none⟩ = some (.slice (some ⟨g, 0, none⟩) n cap)) (l12 : b12 < w.heap.size)
    (h13 : w.cell? ⟨b13, 0, none⟩ = some (.int .u8 mine)) (l13 : b13 < w.heap.size)
    (h14 : w.cell? ⟨b14, 0, none⟩ = some (.int .u8 other)) (l14 : b14 < w.heap.size)
    (h9 : w.cell? ⟨b9, 0, none⟩ = some (.int .u8 sos)) (l9 : b9 < w.heap.size) 
    (ho : out.length = n) (hoc : o < c) (hcn : c < n) (hl : n ≤ 65536) (hmo : mine ≠ other) (hm0 : mine ≠ 0) (ho0 : other ≠ 0) :
    Calls Tryd.prog 23 #[.agg #[.int .i64 o, .int .i64 c], .pointer (some ⟨b12, 0, none⟩), .pointer (some ⟨b13, 0, none⟩), .pointer (some ⟨b14, 0, none⟩), .pointer (some ⟨b9, 0, none⟩)] w fun e w' => e = .returned (.int .u8 (becF mine other sos out ⟨o, c⟩)) ∧ Below w.heap.size w w' := by
  obtain ⟨hno, hncap, hC⟩ := Kd.R_reads' hR
  clear hno
  have hBel : ∀ W, Below w.heap.size w W → W.cell? ⟨b12, 0, none⟩ = some (.slice (some ⟨g, 0, none⟩) n cap) ∧ W.cell? ⟨b13, 0, none⟩ = some (.int .u8 mine) ∧ W.cell? ⟨b14, 0, none⟩ = some (.int .u8 other) ∧ W.cell? ⟨b9, 0, none⟩ = some (.int .u8 sos) := fun W h => ⟨pw_cell_below h h12, pw_cell_below h h13, pw_cell_below h h14, pw_cell_below h h9⟩
  have e1 : (0 : Int) ≤ (o : Int) + 1 := by omega
  have e2 : (o : Int) + 1 ≤ (c : Int) := by omega
  have e3 : (c : Int) ≤ (cap : Int) := by omega
  obtain ⟨m, hm⟩ : ∃ m, c - (o + 1) = m := ⟨_, rfl⟩
  obtain ⟨seg, hseg⟩ : ∃ s, (out.take c).drop (o + 1) = s := ⟨_, rfl⟩
  obtain ⟨F, hFe⟩ : ∃ F, findF mine other seg 0 = F := ⟨_, rfl⟩
  have hB : becF mine other sos out ⟨o, c⟩ = if F = mine then mine else if F = 0 then 0 else aheadF out sos o := by
    unfold becF
    simp only [Int.toNat_natCast]
    rw [hseg, hFe]
  have hsl : seg.length = m := by rw [← hseg, List.length_drop, List.length_take]; omega
  have hsd : ∀ j, j < m → seg.drop j = rd out ((o + 1 + j : Nat) : Int) :: seg.drop (j + 1) := fun j hj => by
    rw [List.drop_eq_getElem_cons (by omega)]
    congr 1
    unfold rd
    rw [Int.toNat_natCast, List.getD_eq_getElem?_getD]
    subst hseg
    rw [List.getElem_drop, List.getElem_take, List.getElem?_eq_getElem (by omega)]
    rfl
  have HSD := Aside0.mk hsd
  have HF := Aside0.mk hFe
  generalize becF mine other sos out ⟨o, c⟩ = B at hB ⊢
  have HBe := Aside0.mk hB
  clear hFe hB
  go_enter Tryd.func23, Tryd.ntmps23
  go_upto_block 0 with (first | ((with_reducible refine gate_dst (N := 5) rfl ?_); refine box_event ?hg (N := 5) ?hd (cs := #[.int .i64 o, .int .i64 c]) (t := 30) ?hr ?_; (case hd => rfl); (case hg => rfl); (case hr => first | (go_simp; done) | (go_simp; rfl)); intro gb hgb w1 hbox hb; obtain ⟨a12, a13, a14, a9⟩ := hBel _ hb; have a5 : w1.cell? ⟨gb, 0, none⟩ = some (.int .i64 o) := (blk_cell hbox _).trans rfl; have a5' : w1.cell? ⟨gb, 1, none⟩ = some (.int .i64 c) := (blk_cell hbox _).trans rfl; have HC1 := Aside0.mk (Kd.C_below hC hb); have HB1 := Aside0.mk hb; clear hb hBel h12 h13 h14 h9 hC hR hbox hgb))
  clear hsd hseg e2
  go_cut [7] (fun v7 w' => v7 = .int .u8 F ∧ Aside0 (F ≠ mine) ∧ w1 = w')
  case first =>
    go_wp2_with fail
    go_loopg [7, 21] m (fun k v7 v21 w' => ∃ (j : Nat) (fd : Int), v7 = .int .u8 fd ∧ v21 = .int .i64 j ∧ j + k = m ∧ Aside0 (findF mine other (seg.drop j) fd = F) ∧ Aside0 (fd ≠ mine) ∧ w1 = w')
    case atStart => exact ⟨0, 0, rfl, rfl, by omega, HF, ⟨Ne.symm hm0⟩, rfl⟩
    case round =>
      obtain ⟨j, fd, rfl, rfl, hjk, HS, HM, rfl⟩ := hrel
      clear HF
      by_cases hlt : j < m
      · obtain ⟨k', rfl⟩ : ∃ q, gk = q + 1 := ⟨gk - 1, by omega⟩
        have hs := HS.out
        rw [HSD.out j hlt, findF] at hs
        obtain ⟨ad, hA1, hx⟩ := Kd.at_int HC1.out ((o + 1 + j : Nat) : Int) (by omega) (by omega)
        injection hA1 with hA1
        subst hA1
        rw [Int.toNat_natCast, add_at, Nat.zero_add] at hx
        generalize rd out ((o + 1 + j : Nat) : Int) = x at hs hx
        have hin : (j : Int) < (m : Int) := by omega
        by_cases h1 : sideF x = mine
        · rw [if_pos h1] at hs
          have e1 : (sideF x == mine) = true := by simpa using h1
          have HBs := Aside0.mk hs
          clear h1 hsl hs
          go_wp2_with (first | (go_at_call 24; (with_reducible refine (side_any _ _).mono ?_); rintro e w2 ⟨rfl, rfl⟩))
          go_ret
          exact ⟨by rw [HBe.out, if_pos HBs.out.symm]; rfl, HB1.out⟩
        · rw [if_neg h1] at hs
          have e1 : (sideF x == mine) = false := by simpa using h1
          clear h1 hsl
          by_cases h2 : sideF x = other
          · rw [if_pos h2] at hs
            have HS' := Aside0.mk hs
            have e2 : (sideF x == other) = true := by simpa using h2
            clear hs HS h2
            go_wp2_with (first | (go_at_call 24; (with_reducible refine (side_any _ _).mono ?_); rintro e w2 ⟨rfl, rfl⟩))
            go_roundg k'
            case measure => omega
            case rel => exact ⟨j + 1, other, rfl, by go_num, by omega, HS', ⟨Ne.symm hmo⟩, rfl⟩
          · rw [if_neg h2] at hs
            have HS' := Aside0.mk hs
            have e2 : (sideF x == other) = false := by simpa using h2
            clear hs HS h2
            go_wp2_with (first | (go_at_call 24; (with_reducible refine (side_any _ _).mono ?_); rintro e w2 ⟨rfl, rfl⟩))
            go_roundg k'
            case measure => omega
            case rel => exact ⟨j + 1, fd, rfl, by go_num, by omega, HS', HM, rfl⟩
      · obtain rfl : gk = 0 := by omega
        have hs := HS.out
        rw [List.drop_eq_nil_of_le (by omega), findF] at hs
        have hin : ¬ (j : Int) < (m : Int) := by omega
        subst hs
        go_wp2_with fail
        go_meet
        case rel => exact ⟨rfl, HM, rfl⟩
  case rest =>
    obtain ⟨rfl, HM, rfl⟩ := hcut
    by_cases h0 : F = 0
    · have e1 : (F == 0) = true := by simpa using h0
      clear hsl
      go_wp2_with fail
      go_ret
      exact ⟨by rw [HBe.out, if_neg HM.out, if_pos h0]; rfl, HB1.out⟩
    · have e1 : (F == 0) = false := by simpa using h0
      have HA := Aside0.mk (show aheadF out sos o = B by rw [HBe.out, if_neg HM.out, if_neg h0])
      clear hsl h0
      go_wp2_with fail
      go_loopg [11] o (fun k v11 w' => v11 = .int .i64 ((k : Int) - 1) ∧ k ≤ o ∧ Aside0 (aheadF out sos k = B) ∧ w1 = w')
      case atStart => exact ⟨rfl, Nat.le_refl _, HA, rfl⟩
      case round =>
        obtain ⟨rfl, hko, HK, rfl⟩ := hrel
        clear HA
        cases gk with
        | zero =>
          have hk := HK.out
          rw [aheadF] at hk
          by_cases hs : sos = 2
          · rw [if_pos hs] at hk
            have e2 : (sos == 2) = true := by simpa using hs
            clear hs
            go_wp2_with fail
            go_ret
            exact ⟨by rw [← hk]; rfl, HB1.out⟩
          · rw [if_neg hs] at hk
            have e2 : (sos == 2) = false := by simpa using hs
            clear hs
            go_wp2_with fail
            go_ret
            exact ⟨by rw [← hk]; rfl, HB1.out⟩
        | succ q =>
          have hqe : ((q + 1 : Nat) : Int) - 1 = (q : Int) := by omega
          simp only [hqe]
          clear hqe
          have hk := HK.out
          rw [aheadF] at hk
          obtain ⟨ad, hA1, hx⟩ := Kd.at_int HC1.out (q : Int) (by omega) (by omega)
          injection hA1 with hA1
          subst hA1
          rw [Int.toNat_natCast, add_at, Nat.zero_add] at hx
          generalize rd out (q : Int) = x at hk hx
          have hq0 : (q : Int) ≥ 0 := by omega
          have hqn : (q : Int) < (n : Int) := by omega
          by_cases hs : sideF x = 0
          · rw [if_pos hs] at hk
            have HK' := Aside0.mk hk
            have e2 : (sideF x != 0) = false := by simpa using hs
            clear hs hk
            go_wp2_with (first | (go_at_call 24; (with_reducible refine (side_any _ _).mono ?_); rintro e w2 ⟨rfl, rfl⟩))
            go_roundg q
            case measure => omega
            case rel => exact ⟨rfl, by omega, HK', rfl⟩
          · rw [if_neg hs] at hk
            have HK' := Aside0.mk hk
            have e2 : (sideF x != 0) = true := by simpa using hs
            clear hs hk
            go_wp2_with (first | (go_at_call 24; (with_reducible refine (side_any _ _).mono ?_); rintro e w2 ⟨rfl, rfl⟩))
            go_ret
            exact ⟨by rw [← HK'.out]; rfl, HB1.out⟩
end Go.Proofs.YtaidfmioggelnaaDoor.Q
