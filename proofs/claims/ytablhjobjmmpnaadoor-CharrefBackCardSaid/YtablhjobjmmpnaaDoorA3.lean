/- charref.Find: what it hands back. Condition: the world's tables. -/
import Derived.Test.YtablhjobjmmpnaaDoorA2
namespace Go.Proofs.YtablhjobjmmpnaaDoor.Q
set_option linter.unusedVariables false
set_option linter.unusedSimpArgs false
open Go.RowKit Go.Proofs.YtablhjobjmmpnaaDoorW.PrintWords

/-! ### Find -/
def alnumEnd (s : ByteArray) : Nat → Nat → Nat
  | 0, i => i
  | f + 1, i => if i < s.size ∧ alnumB (bt s i) = true then alnumEnd s f (i + 1) else i
/-- The longest name that ends at e or ahead of it. -/
def findL (s : ByteArray) (attr : Bool) : Nat → Int × Int × Bool
  | 0 => (0, 0, false)
  | e + 1 =>
    if e + 1 ≤ 1 then (0, 0, false) else
    let p := halves (s.extract 1 (e + 1)) 59 0 59
    if ¬ (p < 59 ∧ cmpN p (s.extract 1 (e + 1)) = 0) then findL s attr e else
    if e + 1 < s.size ∧ bt s (e + 1 : Nat) = 59 then ((nmAt p).2.1, ((e + 1 : Nat) : Int) + 1, true) else
    if (nmAt p).2.2 = false then findL s attr e else
    if attr = true ∧ e + 1 < s.size ∧ (bt s (e + 1 : Nat) = 61 ∨ alnumB (bt s (e + 1 : Nat)) = true) then (0, 0, false) else
    ((nmAt p).2.1, ((e + 1 : Nat) : Int), true)
def findF (s : ByteArray) (attr : Bool) : Int × Int × Bool :=
  if s.size = 0 ∨ bt s 0 ≠ 38 then (0, 0, false) else
  if Lib.hasPrefix s.data.toList [38, 35] = true then (let r := numF (s.extract 2 s.size); if r.2.2 = true then (r.1, r.2.1 + 2, true) else (0, 0, false)) else
  findL s attr (alnumEnd s s.size 1)
theorem numF_range (s : ByteArray) : 0 ≤ (numF s).2.1 ∧ (numF s).2.1 ≤ s.size := by
  unfold numF
  have h1 := cutF_size ((numR s).1.extract (numL (numR s).1 (numR s).2 (numR s).1.size 0 0).1 (numR s).1.size)
  have h2 := numR_size s
  rw [ByteArray.size_extract] at h1
  simp only
  split <;> simp only <;> omega
theorem prefix_size (s : ByteArray) (l : List UInt8) (h : Lib.hasPrefix s.data.toList l = true) : l.length ≤ s.size := by
  have := (List.isPrefixOf_iff_prefix.1 h).length_le
  simpa using this
theorem alnumEnd_ge (s : ByteArray) : ∀ f i, i ≤ alnumEnd s f i ∧ (i ≤ s.size → alnumEnd s f i ≤ s.size)
  | 0, i => ⟨Nat.le_refl _, fun h => h⟩
  | f + 1, i => by
    rw [alnumEnd]
    split
    · rename_i h
      have := alnumEnd_ge s f (i + 1)
      exact ⟨by omega, fun _ => this.2 (by omega)⟩
    · exact ⟨Nat.le_refl _, fun h => h⟩
theorem findL_one (s : ByteArray) (attr : Bool) (e : Nat) (h : e ≤ 1) : findL s attr e = (0, 0, false) := by
  cases e with
  | zero => rfl
  | succ e => rw [findL, if_pos h]
theorem findL_next (s : ByteArray) (attr : Bool) (e : Nat) (h : 1 < e + 1) : findL s attr (e + 1) =
    if ¬ (halves (s.extract 1 (e + 1)) 59 0 59 < 59 ∧ cmpN (halves (s.extract 1 (e + 1)) 59 0 59) (s.extract 1 (e + 1)) = 0) then findL s attr e else
    if e + 1 < s.size ∧ bt s (e + 1 : Nat) = 59 then ((nmAt (halves (s.extract 1 (e + 1)) 59 0 59)).2.1, ((e + 1 : Nat) : Int) + 1, true) else
    if (nmAt (halves (s.extract 1 (e + 1)) 59 0 59)).2.2 = false then findL s attr e else
    if attr = true ∧ e + 1 < s.size ∧ (bt s (e + 1 : Nat) = 61 ∨ alnumB (bt s (e + 1 : Nat)) = true) then (0, 0, false) else
    ((nmAt (halves (s.extract 1 (e + 1)) 59 0 59)).2.1, ((e + 1 : Nat) : Int), true) := by
  rw [findL, if_neg (by omega)]
set_option maxHeartbeats 4000000 in
set_option maxRecDepth 100000 in
theorem find_any (s : ByteArray) (attr : Bool) (w : World) (hs : s.size ≤ 4611686018427387904) (hG : GW w) : Calls Tryd.prog 19 #[.string s, .bool attr] w fun e w' => e = .returned (.tuple #[.int .i32 (findF s attr).1, .int .i64 (findF s attr).2.1, .bool (findF s attr).2.2]) ∧ Below w.heap.size w w' := by
  by_cases h0 : s.size = 0 ∨ bt s 0 ≠ 38
  · have HF := Aside0.mk (show findF s attr = (0, 0, false) from if_pos h0)
    by_cases hz : s.size = 0
    · replace hz := (size0_iff s).2 hz
      clear h0
      go_enter Tryd.func19, Tryd.ntmps19
      go_wp2_with fail
      go_ret3
      exact ⟨num_ret HF.out, Below.refl _ _⟩
    · have hp : 0 < s.size := by omega
      have hne : ¬ s.toList = [] := fun h => hz ((size0_iff s).1 h)
      have hnb : (!s.toList.isEmpty) = true := by simpa using hne
      have hnc : s.toList.isEmpty = false := by simpa using hne
      have e1 : ((s[0].toNat : Int) != 38) = true := by rw [bt0 s hp]; simp; exact h0.resolve_left hz
      clear h0 hz
      go_enter Tryd.func19, Tryd.ntmps19
      go_wp2_with fail
      go_ret3
      exact ⟨num_ret HF.out, Below.refl _ _⟩
  · have hz : ¬ s.size = 0 := fun h => h0 (.inl h)
    have h38 : bt s 0 = 38 := Classical.byContradiction fun h => h0 (.inr h)
    have hp : 0 < s.size := by omega
    have hne : ¬ s.toList = [] := fun h => hz ((size0_iff s).1 h)
    have hnb : (!s.toList.isEmpty) = true := by simpa using hne
    have hnc : s.toList.isEmpty = false := by simpa using hne
    have e1 : ((s[0].toNat : Int) != 38) = false := by rw [bt0 s hp, h38]; rfl
    have HF := Aside0.mk (show findF s attr = _ from if_neg h0)
    clear h0 hz h38
    by_cases hx : Lib.hasPrefix s.data.toList [38, 35] = true
    · have h2 : 2 ≤ s.size := prefix_size s _ hx
      have h2' : (2 : Int) ≤ s.size := by omega
      rw [if_pos hx] at HF
      obtain ⟨⟨r, n, ok⟩, hR⟩ : ∃ R, numF (s.extract 2 s.size) = R := ⟨_, rfl⟩
      have hnr := numF_range (s.extract 2 s.size)
      rw [hR, ByteArray.size_extract] at hnr
      have hn0 : 0 ≤ n := hnr.1
      have hn1 : n ≤ 4611686018427387904 := by have := hnr.2; simp only at this; omega
      clear hnr
      rw [hR] at HF
      have HR := Aside0.mk hR
      clear hR
      cases ok
      all_goals
        go_enter Tryd.func19, Tryd.ntmps19
        go_wp2_with (first | (go_at_call 26; refine (Tryd.strings_HasPrefix _ _ _).mono ?_; rintro e w ⟨rfl, rfl⟩) | (go_at_call 27; (with_reducible refine (number_any _ _ (by simp; omega) hG).mono ?_); rw [HR.out]; rintro e w ⟨rfl, rfl⟩))
        go_ret3
        exact ⟨num_ret (HF.out.trans (by simp)), Below.refl _ _⟩
    · rw [if_neg hx] at HF
      replace hx : Lib.hasPrefix s.data.toList [38, 35] = false := by simpa using hx
      go_enter Tryd.func19, Tryd.ntmps19
      go_upto_block 0 with (go_at_call 26; refine (Tryd.strings_HasPrefix _ _ _).mono ?_; rintro e w ⟨rfl, rfl⟩)
      clear hx hne hnb hnc
      have hae := alnumEnd_ge s s.size 1
      go_cut [10] (fun v10 w' => v10 = .int .i64 (alnumEnd s s.size 1 : Nat) ∧ w = w')
      case first =>
        go_wp2_with fail
        go_loopg [10] s.size (fun k v10 w' => ∃ i : Nat, v10 = .int .i64 i ∧ i ≤ s.size ∧ s.size ≤ i + k ∧ Aside0 (alnumEnd s k i = alnumEnd s s.size 1) ∧ w = w')
        case atStart => exact ⟨1, rfl, by omega, by omega, ⟨rfl⟩, rfl⟩
        case round =>
          obtain ⟨i, rfl, hi, hk, HA, rfl⟩ := hrel
          by_cases hlt : i < s.size
          · have Hbt := Aside0.mk (show (s[i].toNat : Int) = bt s i from bt_at s i (by simpa using hlt))
            have hbr := bt_range s i
            obtain ⟨k', rfl⟩ : ∃ m, gk = m + 1 := ⟨gk - 1, by omega⟩
            cases hc : alnumB (bt s i) with
            | true =>
              have HS := Aside0.mk (show alnumEnd s k' (i + 1) = alnumEnd s s.size 1 by rw [← HA.out, alnumEnd, if_pos ⟨hlt, hc⟩])
              have HC := Aside0.mk hc
              clear HA hc
              go_wp2_with (go_at_call 28; (try rw [Hbt.out]); (with_reducible refine (alnum_any _ _ hbr.1 hbr.2).mono ?_); rw [HC.out]; rintro e w' ⟨rfl, rfl⟩)
              go_roundg k'
              case measure => omega
              case rel => exact ⟨i + 1, by go_num, by omega, by omega, HS, rfl⟩
            | false =>
              have HS := Aside0.mk (show alnumEnd s s.size 1 = i by rw [← HA.out, alnumEnd, if_neg (by rw [hc]; simp)])
              have HC := Aside0.mk hc
              clear HA hc
              go_wp2_with (go_at_call 28; (try rw [Hbt.out]); (with_reducible refine (alnum_any _ _ hbr.1 hbr.2).mono ?_); rw [HC.out]; rintro e w' ⟨rfl, rfl⟩)
              go_meet
              case rel => exact ⟨by rw [HS.out], rfl⟩
          · have HS := Aside0.mk (show alnumEnd s s.size 1 = i by rw [← HA.out]; cases gk with | zero => rfl | succ k => rw [alnumEnd, if_neg (fun h => hlt h.1)])
            clear HA
            go_wp2_with fail
            go_meet
            case rel => exact ⟨by rw [HS.out], rfl⟩
      case rest =>
        obtain ⟨rfl, rfl⟩ := hcut
        replace hae : alnumEnd s s.size 1 ≤ s.size := hae.2 (by omega)
        generalize alnumEnd s s.size 1 = e0 at hae HF ⊢
        go_wp2_with fail
        go_loopg [10] e0 (fun k v10 w' => v10 = .int .i64 k ∧ k ≤ s.size ∧ Aside0 (findF s attr = findL s attr k) ∧ Aside0 (Below w.heap.size w w'))
        case atStart => exact ⟨rfl, hae, ⟨HF.out⟩, ⟨Below.refl _ _⟩⟩
        case round =>
          clear HF hae
          obtain ⟨rfl, hk, HA, HB⟩ := hrel
          have HG := Aside0.mk (GW_below hG HB.out)
          by_cases h1 : gk ≤ 1
          · have HS := Aside0.mk (HA.out.trans (findL_one s attr gk h1))
            clear HA
            go_wp2_with fail
            go_ret3
            exact ⟨num_ret HS.out, HB.out⟩
          · obtain ⟨k', rfl⟩ : ∃ m, gk = m + 1 := ⟨gk - 1, by omega⟩
            have HS := Aside0.mk (HA.out.trans (findL_next s attr k' (by omega)))
            clear HA
            obtain ⟨p, hp⟩ : ∃ p, halves (s.extract 1 (k' + 1)) 59 0 59 = p := ⟨_, rfl⟩
            rw [hp] at HS
            have HP := Aside0.mk hp
            clear hp
            by_cases hf : p < 59 ∧ cmpN p (s.extract 1 (k' + 1)) = 0
            · rw [if_neg (not_not_intro hf)] at HS
              have hp59 : p < 59 := hf.1
              have HFd := Aside0.mk (show decide (p < 59 ∧ cmpN p (s.extract 1 (k' + 1)) = 0) = true from decide_eq_true hf)
              clear hf
              by_cases hl : k' + 1 < s.size
              · have Hb := Aside0.mk (show (s[k' + 1].toNat : Int) = bt s (k' + 1 : Nat) from bt_at s ((k' + 1 : Nat) : Int) (by rw [Int.toNat_natCast]; exact hl))
                have hbr := bt_range s (k' + 1 : Nat)
                by_cases h59 : bt s (k' + 1 : Nat) = 59
                · rw [if_pos ⟨hl, h59⟩] at HS
                  have e9 : ((s[k' + 1].toNat : Int) == 59) = true := by rw [Hb.out, h59]; rfl
                  clear h59
                  go_wp2_with (go_at_call 29; (with_reducible refine (search_any _ _ HG.out).mono ?_); rw [HP.out, HFd.out]; rintro e w1 ⟨rfl, hb⟩; have c1 := (GW_below HG.out hb).nm1 p hp59)
                  go_ret3
                  exact ⟨num_ret HS.out, below_step HB.out hb⟩
                · rw [if_neg (fun h => h59 h.2)] at HS
                  have e9 : ((s[k' + 1].toNat : Int) == 59) = false := by rw [Hb.out]; exact beq_eq_false_iff_ne.2 h59
                  clear h59
                  cases hal : (nmAt p).2.2 with
                  | false =>
                    rw [if_pos hal] at HS
                    have HAl := Aside0.mk hal
                    clear hal
                    go_wp2_with (go_at_call 29; (with_reducible refine (search_any _ _ HG.out).mono ?_); rw [HP.out, HFd.out]; rintro e w1 ⟨rfl, hb⟩; have c1 := (GW_below HG.out hb).nm1 p hp59; have c2 := (GW_below HG.out hb).nm2 p hp59; rw [HAl.out] at c2)
                    go_roundg k'
                    case measure => omega
                    case rel => exact ⟨by go_num, by omega, HS, ⟨below_step HB.out hb⟩⟩
                  | true =>
                    rw [if_neg (by rw [hal]; simp)] at HS
                    have HAl := Aside0.mk hal
                    clear hal
                    cases attr with
                    | false =>
                      rw [if_neg (fun h => by cases h.1)] at HS
                      go_wp2_with (go_at_call 29; (with_reducible refine (search_any _ _ HG.out).mono ?_); rw [HP.out, HFd.out]; rintro e w1 ⟨rfl, hb⟩; have c1 := (GW_below HG.out hb).nm1 p hp59; have c2 := (GW_below HG.out hb).nm2 p hp59; rw [HAl.out] at c2)
                      go_ret3
                      exact ⟨num_ret HS.out, below_step HB.out hb⟩
                    | true =>
                      by_cases h61 : bt s (k' + 1 : Nat) = 61
                      · rw [if_pos ⟨rfl, hl, .inl h61⟩] at HS
                        have e61 : ((s[k' + 1].toNat : Int) == 61) = true := by rw [Hb.out, h61]; rfl
                        clear h61
                        go_wp2_with (go_at_call 29; (with_reducible refine (search_any _ _ HG.out).mono ?_); rw [HP.out, HFd.out]; rintro e w1 ⟨rfl, hb⟩; have c1 := (GW_below HG.out hb).nm1 p hp59; have c2 := (GW_below HG.out hb).nm2 p hp59; rw [HAl.out] at c2)
                        go_ret3
                        exact ⟨num_ret HS.out, below_step HB.out hb⟩
                      · have e61 : ((s[k' + 1].toNat : Int) == 61) = false := by rw [Hb.out]; exact beq_eq_false_iff_ne.2 h61
                        cases han : alnumB (bt s (k' + 1 : Nat)) with
                        | true =>
                          rw [if_pos ⟨rfl, hl, .inr han⟩] at HS
                          have Hal := Aside0.mk han
                          clear h61 han
                          go_wp2_with (first | (go_at_call 29; (with_reducible refine (search_any _ _ HG.out).mono ?_); rw [HP.out, HFd.out]; rintro e w1 ⟨rfl, hb⟩; have c1 := (GW_below HG.out hb).nm1 p hp59; have c2 := (GW_below HG.out hb).nm2 p hp59; rw [HAl.out] at c2) | (go_at_call 28; (try rw [Hb.out]); (with_reducible refine (alnum_any _ _ hbr.1 hbr.2).mono ?_); rw [Hal.out]; rintro e w2 ⟨rfl, rfl⟩))
                          go_ret3
                          exact ⟨num_ret HS.out, below_step HB.out hb⟩
                        | false =>
                          rw [if_neg (fun h => h.2.2.elim h61 (by rw [han]; simp))] at HS
                          have Hal := Aside0.mk han
                          clear h61 han
                          go_wp2_with (first | (go_at_call 29; (with_reducible refine (search_any _ _ HG.out).mono ?_); rw [HP.out, HFd.out]; rintro e w1 ⟨rfl, hb⟩; have c1 := (GW_below HG.out hb).nm1 p hp59; have c2 := (GW_below HG.out hb).nm2 p hp59; rw [HAl.out] at c2) | (go_at_call 28; (try rw [Hb.out]); (with_reducible refine (alnum_any _ _ hbr.1 hbr.2).mono ?_); rw [Hal.out]; rintro e w2 ⟨rfl, rfl⟩))
                          go_ret3
                          exact ⟨num_ret HS.out, below_step HB.out hb⟩
              · rw [if_neg (fun h => hl h.1)] at HS
                cases hal : (nmAt p).2.2 with
                | false =>
                  rw [if_pos hal] at HS
                  have HAl := Aside0.mk hal
                  clear hal
                  go_wp2_with (go_at_call 29; (with_reducible refine (search_any _ _ HG.out).mono ?_); rw [HP.out, HFd.out]; rintro e w1 ⟨rfl, hb⟩; have c1 := (GW_below HG.out hb).nm1 p hp59; have c2 := (GW_below HG.out hb).nm2 p hp59; rw [HAl.out] at c2)
                  go_roundg k'
                  case measure => omega
                  case rel => exact ⟨by go_num, by omega, HS, ⟨below_step HB.out hb⟩⟩
                | true =>
                  rw [if_neg (by rw [hal]; simp)] at HS
                  have HAl := Aside0.mk hal
                  clear hal
                  rw [if_neg (fun h => hl h.2.1)] at HS
                  cases attr with
                  | false =>
                    go_wp2_with (go_at_call 29; (with_reducible refine (search_any _ _ HG.out).mono ?_); rw [HP.out, HFd.out]; rintro e w1 ⟨rfl, hb⟩; have c1 := (GW_below HG.out hb).nm1 p hp59; have c2 := (GW_below HG.out hb).nm2 p hp59; rw [HAl.out] at c2)
                    go_ret3
                    exact ⟨num_ret HS.out, below_step HB.out hb⟩
                  | true =>
                    go_wp2_with (go_at_call 29; (with_reducible refine (search_any _ _ HG.out).mono ?_); rw [HP.out, HFd.out]; rintro e w1 ⟨rfl, hb⟩; have c1 := (GW_below HG.out hb).nm1 p hp59; have c2 := (GW_below HG.out hb).nm2 p hp59; rw [HAl.out] at c2)
                    go_ret3
                    exact ⟨num_ret HS.out, below_step HB.out hb⟩
            · rw [if_pos hf] at HS
              have HFd := Aside0.mk (show decide (p < 59 ∧ cmpN p (s.extract 1 (k' + 1)) = 0) = false from decide_eq_false hf)
              clear hf
              go_wp2_with (go_at_call 29; (with_reducible refine (search_any _ _ HG.out).mono ?_); rw [HP.out, HFd.out]; rintro e w1 ⟨rfl, hb⟩)
              go_roundg k'
              case measure => omega
              case rel => exact ⟨by go_num, by omega, HS, ⟨below_step HB.out hb⟩⟩
end Go.Proofs.YtablhjobjmmpnaaDoor.Q
