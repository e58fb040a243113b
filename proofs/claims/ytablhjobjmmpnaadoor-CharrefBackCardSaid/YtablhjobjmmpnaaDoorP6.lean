/- CharrefDecodes as plain Lean: the printed law answers true for every text. No condition. -/
import Derived.Test.YtablhjobjmmpnaaDoorP5
import Derived.Test.YtablhjobjmmpnaaDoorQ6
namespace Go.Proofs.YtablhjobjmmpnaaDoor.Q
set_option linter.unusedVariables false
set_option linter.unusedSimpArgs false
open Go.RowKit Go.Proofs.YtablhjobjmmpnaaDoorW.PrintWords Go.Proofs.YtablhjobjmmpnaaDoorW.PrintLast Go.Proofs.YtablhjobjmmpnaaDoorW.PrintMore

theorem decB_list (s : ByteArray) (attr : Bool) : (decB s attr).toList = dec attr s.data.toList := by rw [ByteArray.toList_eq]; exact decB_dec s attr
theorem works1 : dec false [38, 108, 116, 59, 38, 35, 54, 53, 59, 38, 110, 111, 116, 105, 110, 32, 38, 99, 111, 112, 121, 61, 49] = [60, 65, 194, 172, 105, 110, 32, 194, 169, 61, 49] := by decide +kernel
theorem works2 : dec true [38, 99, 111, 112, 121, 61, 49, 38, 99, 111, 112, 121, 59] = [38, 99, 111, 112, 121, 61, 49, 194, 169] := by decide +kernel
theorem decode_now (s : ByteArray) (attr : Bool) (hs : s.size ≤ 1099511627776) (k : Nat) : charref_Decode.f k s attr = some (decB s attr) := if_pos hs
theorem decode_ev (s : ByteArray) (attr : Bool) (hs : s.size ≤ 1099511627776) : Ev (fun k => charref_Decode.f k s attr) (decB s attr) := ⟨0, fun k _ => decode_now s attr hs k⟩
theorem works_ev : Ev (fun k => selvedgelaw03_works.f k) true := by
  unfold selvedgelaw03_works.f
  refine Ev.bind (decode_ev _ _ (by decide)) ?_
  rw [decB_list]
  refine Ev.pos works1 (Ev.bind (decode_ev _ _ (by decide)) ?_)
  rw [decB_list]
  show Ev (fun _ => some (dec true [38, 99, 111, 112, 121, 61, 49, 38, 99, 111, 112, 121, 59] == [38, 99, 111, 112, 121, 61, 49, 194, 169])) true
  rw [works2]
  exact Ev.now _
theorem works_ev' : Ev (fun k => (selvedgelaw03_works.f k).bind fun t => some t) true := Ev.bind works_ev (Ev.now _)
theorem decodes_ev (s : ByteArray) (attr : Bool) : Ev (fun k => selvedgelaw03_CharrefDecodes.f k s attr) true := by
  unfold selvedgelaw03_CharrefDecodes.f
  by_cases h : (s.size : Int) > 5000
  · exact Ev.pos h works_ev'
  · refine Ev.neg h (Ev.bind (decode_ev _ _ (by omega)) (Ev.bind (rdec_ev _ _ (by omega)) (Ev.pos rfl works_ev')))
theorem pureCharrefDecodes (s : ByteArray) (attr : Bool) : ∃ k, selvedgelaw03_CharrefDecodes.f k s attr = some true := (decodes_ev s attr).rounds
end Go.Proofs.YtablhjobjmmpnaaDoor.Q
