/- pairs.Resolve's two closures: what stands behind a bracket, and what a pair becomes. Conditions: the row is of the call's own, apart from the boxes. -/
import Derived.Test.YtaidfmioggelnaaDoorP4
namespace Go.Proofs.YtaidfmioggelnaaDoor.Q
set_option linter.unusedVariables false
set_option linter.unusedSimpArgs false
open Go.RowKit Go.Proofs.YtaidfmioggelnaaDoorW.PrintWords Go.Proofs.YtaidfmioggelnaaDoorW.PrintLast Go.Proofs.YtaidfmioggelnaaDoorW.PrintMore

theorem grown_trans {a b c : World} {g : Option Nat} (h : a.grownBy b g) (k : b.grownBy c g) : a.grownBy c g :=
  ⟨k.os.trans h.os, k.tape.trans h.tape, k.output.trans h.output, Nat.le_trans h.size k.size, fun i hi hne => (k.block i (Nat.lt_of_lt_of_le hi h.size) hne).trans (h.block i hi hne)⟩
theorem grown_refl (w : World) (g : Option Nat) : w.grownBy w g := ⟨rfl, rfl, rfl, Nat.le_refl _, fun _ _ _ => rfl⟩
theorem grown_cell {w w' : World} {g : Nat} {a : Addr} {v : Value} (h : w.grownBy w' (some g)) (hc : w.cell? a = some v) (hne : a.block ≠ g) (hlt : a.block < w.heap.size) : w'.cell? a = some v := by
  rw [World.cell?_of_block (h.block a.block hlt (fun e => hne (Option.some.inj e)))]; exact hc
abbrev RowR (w : World) (base : Nat) (g cap n : Nat) (out : List Int) : Prop := Kd.R (Kd.int .u8) 33 w base (fun _ => True) (.slice (some ⟨g, 0, none⟩) n cap) out
set_option maxHeartbeats 4000000 in
set_option maxRecDepth 100000 in
theorem set_any (b12 b6 : Nat) (A1 : Option Addr) (c1 : Nat) (first out : List Int) (g cap base n : Nat) (p : Nat) (c : Int) (w : World) (hR : RowR w base g cap n out)
    (h12 : w.cell? ⟨b12, 0, none⟩ = some (.slice (some ⟨g, 0, none⟩) n cap)) (n12 : b12 ≠ g) (l12 : b12 < w.heap.size)
    (h6 : w.cell? ⟨b6, 0, none⟩ = some (.slice A1 n c1)) (n6 : b6 ≠ g) (l6 : b6 < w.heap.size)
    (hF : ∀ W, w.grownBy W (some g) → Kd.C (Kd.int .u8) W A1 first.length first) (ho : out.length = n) (hp : p < n) (hl : n ≤ 65536) (hf : first.length = n) :
    Calls Tryd.prog 22 #[.int .i64 p, .int .u8 c, .pointer (some ⟨b12, 0, none⟩), .pointer (some ⟨b6, 0, none⟩)] w fun e w' => e = .returned (.tuple #[]) ∧ RowR w' base g cap n (setF first c p out) ∧ w.grownBy w' (some g) := by
  obtain ⟨hc, hfz⟩ := Kd.R_celln 0 hR p (by omega) (by omega)
  have H12 : ∀ W, w.grownBy W (some g) → W.cell? ⟨b12, 0, none⟩ = some (.slice (some ⟨g, 0, none⟩) n cap) := fun W h => grown_cell h h12 n12 l12
  have H6 : ∀ W, w.grownBy W (some g) → W.cell? ⟨b6, 0, none⟩ = some (.slice A1 n c1) := fun W h => grown_cell h h6 n6 l6
  have HP := Kd.R_putg hR p c
  rw [Int.toNat_natCast] at hc hfz HP
  obtain ⟨R, hRe⟩ : ∃ R, setF first c p out = R := ⟨_, rfl⟩
  rw [hRe]
  unfold setF at hRe
  rw [ho] at hRe
  have HH12 := Aside0.mk H12
  have HH6 := Aside0.mk H6
  have HF := Aside0.mk hF
  have HR' := Aside0.mk hRe
  have HPP := Aside0.mk HP
  clear H12 H6 hF hRe HP hR
  have hpn : (p : Int) < (n : Int) := by omega
  go_enter Tryd.func22, Tryd.ntmps22
  go_wp2_with fail
  go_loopg [6] (n - (p + 1)) (fun k v6 w' => ∃ (i : Nat) (out' : List Int), v6 = .int .i64 i ∧ i + k = n ∧ out'.length = n ∧ Aside0 (setL first c k i out' = R) ∧ Aside0 (RowR w' base g cap n out') ∧ Aside0 (w.grownBy w' (some g)))
  case atStart => exact ⟨p + 1, out.set p c, by go_num, by omega, by rw [List.length_set]; exact ho, HR', ⟨HPP.out.1⟩, ⟨HPP.out.2⟩⟩
  case round =>
    obtain ⟨i, out', rfl, hik, hol, HS, HRR, HG⟩ := hrel
    clear HR' HPP
    have i12 := HH12.out _ HG.out
    have i6 := HH6.out _ HG.out
    by_cases hlt : i < n
    · obtain ⟨k', rfl⟩ : ∃ q, gk = q + 1 := ⟨gk - 1, by omega⟩
      have hs := HS.out
      rw [setL] at hs
      obtain ⟨hx, hxf⟩ := Kd.R_celln 0 HRR.out i (by omega) (by omega)
      have HP := Aside0.mk (Kd.R_putg HRR.out i c)
      rw [Int.toNat_natCast] at hx hxf HP
      obtain ⟨ad, hA1, hy⟩ := Kd.at_int (HF.out _ HG.out) i (by omega) (by omega)
      subst hA1
      rw [Int.toNat_natCast] at hy
      have hxe : rdOf 0 out' (i : Int) = rd out' i := rfl
      rw [hxe] at hx
      have hin : (i : Int) < (n : Int) := by omega
      by_cases h10 : rd out' i = 10
      · rw [if_pos (.inl h10), if_pos h10] at hs
        have HS' := Aside0.mk hs
        have e1 : (rd out' i == 10) = true := by simpa using h10
        have e2 : (rd out' i != 10) = false := by simpa using h10
        clear hs h10 HS
        go_wp2_with fail
        go_roundg k'
        case measure => omega
        case rel => exact ⟨i + 1, out', by go_num, by omega, hol, HS', HRR, HG⟩
      · have e1 : (rd out' i == 10) = false := by simpa using h10
        have e2 : (rd out' i != 10) = true := by simpa using h10
        by_cases h9 : rd first i = 9
        · rw [if_pos (.inr h9), if_neg h10] at hs
          have HS' := Aside0.mk hs
          have e3 : (rd first i == 9) = true := by simpa using h9
          clear hs h10 HS h9
          go_wp2_with fail
          go_roundg k'
          case measure => omega
          case rel => exact ⟨i + 1, out'.set i c, by go_num, by omega, by rw [List.length_set]; exact hol, HS', ⟨HP.out.1⟩, ⟨grown_trans HG.out HP.out.2⟩⟩
        · rw [if_neg (by omega)] at hs
          have HS' := Aside0.mk hs
          have e3 : (rd first i == 9) = false := by simpa using h9
          clear hs h10 HS h9
          go_wp2_with fail
          go_end0
          exact ⟨rfl, by rw [← HS'.out]; exact HRR.out, HG.out⟩
    · obtain rfl : gk = 0 := by omega
      have hin : ¬ (i : Int) < (n : Int) := by omega
      go_wp2_with fail
      go_end0
      exact ⟨rfl, by rw [← HS.out]; exact HRR.out, HG.out⟩
end Go.Proofs.YtaidfmioggelnaaDoor.Q
