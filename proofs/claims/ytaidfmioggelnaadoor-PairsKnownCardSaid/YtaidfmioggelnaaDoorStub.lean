/- What pairs.Pairs, pairs.Resolve and the statements' become hand back, in the printed texts' form. Condition: the world's table. -/
import Derived.Test.YtaidfmioggelnaaDoorA10
import Derived.Test.YtaidfmioggelnaaDoorQ8
import Derived.Laws.IdiomStrings
namespace Go.Proofs.YtaidfmioggelnaaDoor.Q
set_option linter.unusedVariables false
set_option linter.unusedSimpArgs false
open Go.RowKit Go.Proofs.YtaidfmioggelnaaDoorW.PrintWords Go.Proofs.YtaidfmioggelnaaDoorW.PrintLast Go.Proofs.YtaidfmioggelnaaDoorW.PrintMore

/-! ### pairs.Pairs -/
def pairs_Pairs.f (k : Nat) (l now : List Int) : Option (List S30) := if l.length ≤ 1048576 then some ((refP l now).map to30) else none
theorem pairs_Pairs.mono (l now : List Int) : ∀ k, LeO (pairs_Pairs.f k l now) (pairs_Pairs.f (k + 1) l now) := fun k => LeO.refl _
theorem pairs_Pairs.calls (k : Nat) (A0 : Option Addr) (c0 : Nat) (l0 : List Int) (A1 : Option Addr) (c1 : Nat) (l1 : List Int) (r : List S30) (w : World) (hr0 : Kd.C (Kd.int .i32) w A0 l0.length l0) (hc0 : l0.length ≤ c0) (hr1 : Kd.C (Kd.int .u8) w A1 l1.length l1) (hc1 : l1.length ≤ c1) (hG : GW w) (h : pairs_Pairs.f k l0 l1 = some r) :
    Calls Tryd.prog 9 #[.slice A0 l0.length c0, .slice A1 l1.length c1] w fun e w' => ∃ v0_ : Value, e = .returned v0_ ∧ Kd.R k30 30 w' w.heap.size (fun _ => True) v0_ r ∧ Below w.heap.size w w' := by
  unfold pairs_Pairs.f at h
  split at h
  · rename_i hl
    injection h with h
    subst h
    exact pairs_any A0 c0 l0 A1 c1 l1 w hr0 hc0 hr1 hc1 hl hG
  · cases h
/-! ### pairs.Resolve -/
def pairs_Resolve.f (k : Nat) (l first now : List Int) (level sos : Int) : Option (List Int × Int) := if 0 ≤ level ∧ level ≤ 255 then some (resF l first now level sos) else none
theorem pairs_Resolve.mono (l first now : List Int) (level sos : Int) : ∀ k, LeO (pairs_Resolve.f k l first now level sos) (pairs_Resolve.f (k + 1) l first now level sos) := fun k => LeO.refl _
theorem pairs_Resolve.calls (k : Nat) (A0 : Option Addr) (c0 : Nat) (l0 : List Int) (A1 : Option Addr) (c1 : Nat) (l1 : List Int) (A2 : Option Addr) (c2 : Nat) (l2 : List Int) (a3 : Int) (a4 : Int) (r1 : List Int) (r2 : Int) (w : World) (hr0 : Kd.C (Kd.int .i32) w A0 l0.length l0) (hc0 : l0.length ≤ c0) (hr1 : Kd.C (Kd.int .u8) w A1 l1.length l1) (hc1 : l1.length ≤ c1) (hr2 : Kd.C (Kd.int .u8) w A2 l2.length l2) (hc2 : l2.length ≤ c2) (hG : GW w) (h : pairs_Resolve.f k l0 l1 l2 a3 a4 = some (r1, r2)) :
    Calls Tryd.prog 11 #[.slice A0 l0.length c0, .slice A1 l1.length c1, .slice A2 l2.length c2, .int .u8 a3, .int .u8 a4] w fun e w' => ∃ v0_ : Value, e = .returned (.tuple #[v0_, .int .i64 r2]) ∧ Kd.R (Kd.int .u8) 33 w' w.heap.size (fun _ => True) v0_ r1 ∧ Below w.heap.size w w' := by
  unfold pairs_Resolve.f at h
  split at h
  · rename_i hl
    injection h with h
    have := resolve_any A0 c0 l0 A1 c1 l1 A2 c2 l2 a3 a4 w hr0 hc0 hr1 hc1 hr2 hc2 hl hG
    rw [h] at this
    exact this
  · cases h
/-! ### '[]rune(s)' -/
def runesL (s : ByteArray) : List Int := (Conv.runesFrom s s.size 0 #[]).toList.map fun v => match v with | .int _ x => x | _ => 0
theorem runes_ints (s : ByteArray) : ∀ (bound i : Nat) (acc : Array Value), (∀ v ∈ acc.toList, ∃ x, v = Value.int .i32 x) → ∀ v ∈ (Conv.runesFrom s bound i acc).toList, ∃ x, v = Value.int .i32 x
  | 0, _, acc, h => by simpa [Conv.runesFrom] using h
  | bound + 1, i, acc, h => by
    unfold Conv.runesFrom
    split
    · refine runes_ints s bound _ _ (fun v hv => ?_)
      rw [Array.toList_push] at hv
      rcases List.mem_append.1 hv with hv | hv
      · exact h v hv
      · exact ⟨_, List.mem_singleton.1 hv⟩
    · exact h
theorem runesL_cells (s : ByteArray) : (Conv.runesFrom s s.size 0 #[]).toList = (runesL s).map (Value.int .i32) := by
  unfold runesL
  rw [List.map_map]
  conv => lhs; rw [← List.map_id (Conv.runesFrom s s.size 0 #[]).toList]
  refine List.map_congr_left (fun v hv => ?_)
  obtain ⟨x, rfl⟩ := runes_ints s s.size 0 #[] (fun v hv => (by cases hv)) v hv
  rfl
theorem runesL_len (s : ByteArray) : (Conv.runesFrom s s.size 0 #[]).size = (runesL s).length ∧ (runesL s).length ≤ s.size := by
  have h1 : (Conv.runesFrom s s.size 0 #[]).size = (runesL s).length := by unfold runesL; simp
  have h2 := size_runesFrom s s.size 0 #[]
  rw [h1] at h2
  exact ⟨h1, by simpa using h2⟩
theorem runes_R (s : ByteArray) (hs : s.size ≤ 65536) (W : World) : ∃ cap W', (∀ src : Unit, (convert 9 22 (.string s)).run Tryd.prog W = .ok (.slice (some ⟨W.heap.size, 0, none⟩) (runesL s).length cap) W') ∧
    Kd.R (Kd.int .i32) 21 W' W.heap.size (fun _ => True) (.slice (some ⟨W.heap.size, 0, none⟩) (runesL s).length cap) (runesL s) ∧ Below W.heap.size W W' := by
  obtain ⟨h1, h2⟩ := runesL_len s
  have hc := runesL_cells s
  have hrun := run_runes_of_string (P := Tryd.prog) W 9 22 21 s Tryd.underlying9 Tryd.underlying22 Tryd.underlying21 (by omega)
  have hge := grownCap_ge W (Conv.runesFrom s s.size 0 #[]).size 0 21
  have hle := grownCap_le_maxLen W (Conv.runesFrom s s.size 0 #[]).size 0 21 (by simp only [maxLen]; omega)
  generalize Conv.runesFrom s s.size 0 #[] = rs at *
  rw [h1] at hrun hge hle
  generalize grownCap W (runesL s).length 0 21 = cap at *
  refine ⟨cap, _, fun _ => hrun, ⟨fun _ _ => trivial, rs.toList, ⟨?_, .inr ⟨W.heap.size, cap, _, rfl, Nat.le_refl _, heap_alloc_new W.drew _, hge, hle, ?_, ?_⟩⟩, ?_⟩, below_alloc (below_drew (Below.refl _ _)) _⟩
  · show rs.toList.length = (runesL s).length * 1
    simpa using h1
  · show (rs ++ Array.replicate (cap - (runesL s).length) (Value.int .i32 0)).size = cap * 1
    simp; omega
  · show List.take ((runesL s).length * 1) (rs ++ Array.replicate (cap - (runesL s).length) (Value.int .i32 0)).toList = rs.toList
    rw [Array.toList_append, Nat.mul_one, List.take_append_of_le_length (by rw [Array.length_toList (xs := rs)]; omega), List.take_of_length_le (by rw [Array.length_toList (xs := rs)]; omega)]
  · refine ⟨show rs.toList.length = (runesL s).length * 1 by simpa using h1, fun j p hp => ?_⟩
    show (rs.toList.drop (j * 1)).take 1 = [Value.int .i32 p]
    rw [Nat.mul_one, hc]
    have hj := (List.getElem?_eq_some_iff.1 hp).1
    rw [← List.map_drop, List.drop_eq_getElem_cons hj, (List.getElem?_eq_some_iff.1 hp).2]
    rfl
/-! ### become -/
def selvedgelaw17_become.f (k : Nat) (s : ByteArray) (level sos : Int) (want : List Int) : Option Bool :=
  if s.size ≤ 65536 ∧ 0 ≤ level ∧ level ≤ 255 then (selvedgelaw17_classes.f k (runesL s)).bind fun c =>
    if (resF (runesL s) c c level sos).2 = 0 then selvedgelaw17_is.f k (resF (runesL s) c c level sos).1 want else some false
  else none
theorem selvedgelaw17_become.mono (s : ByteArray) (level sos : Int) (want : List Int) : ∀ k, LeO (selvedgelaw17_become.f k s level sos want) (selvedgelaw17_become.f (k + 1) s level sos want) := fun k => by
  unfold selvedgelaw17_become.f
  refine LeO.ite (LeO.bind (selvedgelaw17_classes.mono _ _) (fun _ => LeO.ite (selvedgelaw17_is.mono _ _ _) (LeO.refl _))) (LeO.refl _)
set_option maxHeartbeats 4000000 in
set_option maxRecDepth 100000 in
theorem selvedgelaw17_become.calls (k : Nat) (s : ByteArray) (a1 a2 : Int) (A3 : Option Addr) (c3 : Nat) (l3 : List Int) (r : Bool) (w : World) (hr3 : Kd.C (Kd.int .u8) w A3 l3.length l3) (hc3 : l3.length ≤ c3) (hG : GW w) (h : selvedgelaw17_become.f k s a1 a2 l3 = some r) :
    Calls Tryd.prog 16 #[.string s, .int .u8 a1, .int .u8 a2, .slice A3 l3.length c3] w fun e w' => e = .returned (.bool r) ∧ Below w.heap.size w w' := by
  unfold selvedgelaw17_become.f at h
  split at h
  · rename_i hs
    obtain ⟨hs, h1, h2⟩ := hs
    obtain ⟨c, hc, h⟩ := Option.bind_eq_some_iff.1 h
    obtain ⟨cap, W', hrun, hRR, hB1⟩ := runes_R s hs w
    have hconv := hrun ()
    clear hrun
    obtain ⟨ls, hls⟩ : ∃ ls, runesL s = ls := ⟨_, rfl⟩
    rw [hls] at h hc hRR hconv
    clear hls
    obtain ⟨_, hcap, hCC⟩ := Kd.R_reads' hRR
    have HCL := selvedgelaw17_classes.calls k (some ⟨w.heap.size, 0, none⟩) cap ls c W' hCC hcap hc
    obtain ⟨⟨o, e⟩, ho⟩ : ∃ o, resF ls c c a1 a2 = o := ⟨_, rfl⟩
    rw [ho] at h
    simp only at h
    have HO := Aside0.mk ho
    have HH := Aside0.mk h
    have HB1 := Aside0.mk hB1
    have HCC := Aside0.mk hCC
    have HCP := Aside0.mk hcap
    have HHH := Aside0.mk (And.intro h1 h2)
    clear ho h hB1 hCC hRR hcap hc h1 h2
    go_enter Tryd.func16, Tryd.ntmps16
    go_upto_region 3 with (first | (go_at_call 17; (with_reducible refine HCL.mono ?_); rintro e_ w2 ⟨v2, rfl, hR2, hB2⟩; obtain ⟨A2, c2, hve, hvc, hvr⟩ := Kd.R_reads hR2; subst hve; have HR2 := Aside0.mk hvr; have HV2 := Aside0.mk hvc; have HB2 := Aside0.mk (below_step HB1.out hB2); have HCC2 := Aside0.mk (Kd.C_below HCC.out hB2); clear hR2 hB2 hvr hvc))
    have HRES := resolve_any (some ⟨w.heap.size, 0, none⟩) cap ls A2 c2 c A2 c2 c a1 a2 w2 HCC2.out HCP.out HR2.out HV2.out HR2.out HV2.out HHH.out (GW_below hG HB2.out)
    rw [HO.out] at HRES
    simp only at HRES
    go_upto_region 4 with (first | (go_at_call 11; (with_reducible refine HRES.mono ?_); rintro e_ w3 ⟨v3, rfl, hR3, hB3⟩; obtain ⟨A3', c3', hve, hvc, hvr⟩ := Kd.R_reads hR3; subst hve; have HR3 := Aside0.mk hvr; have HV3 := Aside0.mk hvc; have HB3 := Aside0.mk (below_step HB2.out hB3); clear hR3 hB3 hvr hvc))
    clear HRES HCL
    by_cases he : e = 0
    · have hh := HH.out
      rw [if_pos he] at hh
      have e1 : (e == 0) = true := by simpa using he
      have HIS := selvedgelaw17_is.calls k A3' c3' o A3 c3 l3 r w3 HR3.out HV3.out (Kd.C_below hr3 HB3.out) hc3 hh
      clear he hh
      go_wp2_with (first | (go_at_call 13; (with_reducible refine HIS.mono ?_); rintro e_ w4 ⟨rfl, hd⟩; have HB4 := Aside0.mk (below_step HB3.out (Drawn0.below hd)); clear hd))
      go_ret
      exact ⟨rfl, HB4.out⟩
    · have hh := HH.out
      rw [if_neg he] at hh
      have e1 : (e == 0) = false := by simpa using he
      injection hh with hh
      subst hh
      clear he
      go_wp2_with fail
      go_ret
      exact ⟨rfl, HB3.out⟩
  · cases h
end Go.Proofs.YtaidfmioggelnaaDoor.Q
