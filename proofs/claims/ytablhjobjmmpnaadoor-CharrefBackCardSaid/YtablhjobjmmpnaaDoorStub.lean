/- charref.Find's and charref.Decode's contracts in the form that the printed texts ask. Conditions: the world's tables; a text of at most 2^40 bytes. -/
import Derived.Test.YtablhjobjmmpnaaDoorQ0
import Derived.Test.YtablhjobjmmpnaaDoorA4
namespace Go.Proofs.YtablhjobjmmpnaaDoor.Q
set_option linter.unusedVariables false
set_option linter.unusedSimpArgs false
open Go.RowKit Go.Proofs.YtablhjobjmmpnaaDoorW.PrintWords Go.Proofs.YtablhjobjmmpnaaDoorW.PrintLast Go.Proofs.YtablhjobjmmpnaaDoorW.PrintMore

def charref_Find.f (_ : Nat) (s : ByteArray) (attr : Bool) : Option (Int × Int × Bool) := if s.size ≤ 1099511627776 then some (findF s attr) else none
theorem charref_Find.mono : ∀ a0 a1 k, LeO (charref_Find.f k a0 a1) (charref_Find.f (k + 1) a0 a1) := fun _ _ _ => LeO.refl _
theorem charref_Find.calls (k : Nat) (a0 : ByteArray) (a1 : Bool) (r1 : Int) (r2 : Int) (r3 : Bool) (w : World) (hG : GW w) (h : charref_Find.f k a0 a1 = some (r1, r2, r3)) :
    Calls Tryd.prog 19 #[.string a0, .bool a1] w fun e w' => e = .returned (.tuple #[.int .i32 r1, .int .i64 r2, .bool r3]) ∧ Below w.heap.size w w' := by
  unfold charref_Find.f at h
  split at h
  · rename_i hs
    have he := Option.some.inj h
    have := find_any a0 a1 w (by omega) hG
    rw [he] at this
    exact this
  · cases h
def charref_Decode.f (_ : Nat) (s : ByteArray) (attr : Bool) : Option ByteArray := if s.size ≤ 1099511627776 then some (decB s attr) else none
theorem charref_Decode.mono : ∀ a0 a1 k, LeO (charref_Decode.f k a0 a1) (charref_Decode.f (k + 1) a0 a1) := fun _ _ _ => LeO.refl _
theorem charref_Decode.calls (k : Nat) (a0 : ByteArray) (a1 : Bool) (r : ByteArray) (w : World) (hG : GW w) (h : charref_Decode.f k a0 a1 = some r) :
    Calls Tryd.prog 10 #[.string a0, .bool a1] w fun e w' => e = .returned (.string r) ∧ Below w.heap.size w w' := by
  unfold charref_Decode.f at h
  split at h
  · rename_i hs
    obtain rfl := Option.some.inj h
    exact decode_any a0 a1 w (by omega) hG
  · cases h
end Go.Proofs.YtablhjobjmmpnaaDoor.Q
