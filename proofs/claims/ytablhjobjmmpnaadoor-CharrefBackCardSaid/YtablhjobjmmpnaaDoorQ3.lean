-- laid by this session's own program (wip/qprint.sh: the kit's printer, forked by wip/fork_print.py)
import Derived.Test.YtablhjobjmmpnaaDoorQ0
import Derived.Test.YtablhjobjmmpnaaDoorStub
namespace Go.Proofs.YtablhjobjmmpnaaDoor.Q
open Go.RowKit Go.Proofs.YtablhjobjmmpnaaDoorW.PrintWords Go.Proofs.YtablhjobjmmpnaaDoorW.PrintLast Go.Proofs.YtablhjobjmmpnaaDoorW.PrintMore
attribute [local go_sem] max2_int min2_int max_two min_two max_three min_three max_four min_four   -- for this text's walks alone
set_option linter.unusedVariables false
set_option linter.unusedSimpArgs false

/-! ### selvedgelaw03_works: function 9 -/
def selvedgelaw03_works.f (k : Nat)  : Option (Bool) := (charref_Decode.f k (⟨#[38, 108, 116, 59, 38, 35, 54, 53, 59, 38, 110, 111, 116, 105, 110, 32, 38, 99, 111, 112, 121, 61, 49]⟩ : ByteArray) false).bind fun t101 => (if t101.toList = ([60, 65, 194, 172, 105, 110, 32, 194, 169, 61, 49] : List UInt8) then ((charref_Decode.f k (⟨#[38, 99, 111, 112, 121, 61, 49, 38, 99, 111, 112, 121, 59]⟩ : ByteArray) true).bind fun t102 => (some (t102.toList == ([38, 99, 111, 112, 121, 61, 49, 194, 169] : List UInt8)))) else (some false))
theorem selvedgelaw03_works.mono : ∀ k, LeO (selvedgelaw03_works.f k ) (selvedgelaw03_works.f (k + 1) ) := by
 intro  k
 unfold selvedgelaw03_works.f
 repeat' first
   | (with_reducible exact charref_Decode.mono _ _ _)
   | (with_reducible exact LeO.refl _)
   | (with_reducible exact LeO.none _)
   | (with_reducible refine LeO.ite ?_ ?_)
   | (with_reducible refine LeO.bind ?_ (fun _ => ?_))
   | exact charref_Decode.mono _ _ _
   | exact LeO.none _
   | refine LeO.ite ?_ ?_
   | refine LeO.bind ?_ (fun _ => ?_)
set_option maxHeartbeats 8000000 in
set_option maxRecDepth 100000 in
theorem selvedgelaw03_works.calls (k : Nat)  (r : Bool) (w : World) (hG : GW w) (h : selvedgelaw03_works.f k  = some r) :
  Calls Tryd.prog 9 #[] w fun e w' => e = .returned (.bool r) ∧ Below w.heap.size w w' := by
 have HB := Aside0.mk (Below.refl w.heap.size w)
 have H : ((charref_Decode.f k (⟨#[38, 108, 116, 59, 38, 35, 54, 53, 59, 38, 110, 111, 116, 105, 110, 32, 38, 99, 111, 112, 121, 61, 49]⟩ : ByteArray) false).bind fun t101 => (if t101.toList = ([60, 65, 194, 172, 105, 110, 32, 194, 169, 61, 49] : List UInt8) then ((charref_Decode.f k (⟨#[38, 99, 111, 112, 121, 61, 49, 38, 99, 111, 112, 121, 59]⟩ : ByteArray) true).bind fun t102 => (some (t102.toList == ([38, 99, 111, 112, 121, 61, 49, 194, 169] : List UInt8)))) else (some false))) = some r := h
 clear h
 replace H := Option.bind_eq_some_iff.mp H
 obtain ⟨t101, A10, H⟩ := H
 replace H : (if t101.toList = ([60, 65, 194, 172, 105, 110, 32, 194, 169, 61, 49] : List UInt8) then ((charref_Decode.f k (⟨#[38, 99, 111, 112, 121, 61, 49, 38, 99, 111, 112, 121, 59]⟩ : ByteArray) true).bind fun t102 => (some (t102.toList == ([38, 99, 111, 112, 121, 61, 49, 194, 169] : List UInt8)))) else (some false)) = some r := H
 have A1 := Aside0.mk A10
 clear A10
 by_cases c2 : t101.toList = ([60, 65, 194, 172, 105, 110, 32, 194, 169, 61, 49] : List UInt8)
 ·rw [if_pos c2] at H
  have c2b0 : (t101.toList == ([60, 65, 194, 172, 105, 110, 32, 194, 169, 61, 49] : List UInt8)) = true := beq_iff_eq.mpr c2
  have c2b1 : (t101.toList != ([60, 65, 194, 172, 105, 110, 32, 194, 169, 61, 49] : List UInt8)) = false := bne_eq_false_iff_eq.mpr c2
  clear c2
  replace H := Option.bind_eq_some_iff.mp H
  obtain ⟨t102, A30, H⟩ := H
  replace H : (some (t102.toList == ([38, 99, 111, 112, 121, 61, 49, 194, 169] : List UInt8))) = some r := H
  have A3 := Aside0.mk A30
  clear A30
  obtain rfl := Option.some.inj H
  go_enter Tryd.func9, Tryd.ntmps9
  go_wp2_with (first | ((with_reducible refine gate_callee (f := 10) rfl ?_); refine goesL_ (some 1) rfl rfl Tryd.func10 (by kernel_rfl) rfl #[.string (⟨#[38, 108, 116, 59, 38, 35, 54, 53, 59, 38, 110, 111, 116, 105, 110, 32, 38, 99, 111, 112, 121, 61, 49]⟩ : ByteArray), .bool false] rfl (by (try simp only [List.map_toArray, List.map_cons, List.map_nil]); first | done | rfl | (simp only [List.length_drop, List.length_take]; rfl)) ?_; (with_reducible refine (charref_Decode.calls k (⟨#[38, 108, 116, 59, 38, 35, 54, 53, 59, 38, 110, 111, 116, 105, 110, 32, 38, 99, 111, 112, 121, 61, 49]⟩ : ByteArray) false t101 _ ?side1 A1.out).mono ?_); (case side1 => exact GW_below hG (by repeat (first | (with_reducible first | exact HB.out | apply below_alloc | apply pw_below_drewN | apply below_drew1) | exact HB.out))); rintro e w4 ⟨rfl, hb⟩; refine ⟨_, rfl, ?_⟩; have n0_ := Aside0.mk (below_step (by repeat (first | (with_reducible first | exact HB.out | apply below_alloc | apply pw_below_drewN | apply below_drew1) | exact HB.out)) hb); clear HB; have HB := n0_; clear n0_; (try clear hb); (try clear hb2); (try clear hk); (try clear hi)) | (go_at_call 10; (with_reducible refine (charref_Decode.calls k (⟨#[38, 99, 111, 112, 121, 61, 49, 38, 99, 111, 112, 121, 59]⟩ : ByteArray) true t102 _ ?side1 A3.out).mono ?_); (case side1 => exact GW_below hG (by repeat (first | (with_reducible first | exact HB.out | apply below_alloc | apply pw_below_drewN | apply below_drew1) | exact HB.out))); rintro e w5 ⟨rfl, hb⟩; have n0_ := Aside0.mk (below_step (by repeat (first | (with_reducible first | exact HB.out | apply below_alloc | apply pw_below_drewN | apply below_drew1) | exact HB.out)) hb); clear HB; have HB := n0_; clear n0_; (try clear hb); (try clear hb2); (try clear hk); (try clear hi)))
  go_ret
  exact ⟨by first | rfl | (simp [errW_none, errW_some] <;> rfl) | (simp [*, errW_none, errW_some] <;> rfl), by repeat (first | (with_reducible first | exact HB.out | apply below_alloc | apply pw_below_drewN | apply below_drew1) | exact HB.out)⟩
 ·rw [if_neg c2] at H
  have c2b0 : (t101.toList == ([60, 65, 194, 172, 105, 110, 32, 194, 169, 61, 49] : List UInt8)) = false := beq_eq_false_iff_ne.mpr c2
  have c2b1 : (t101.toList != ([60, 65, 194, 172, 105, 110, 32, 194, 169, 61, 49] : List UInt8)) = true := bne_iff_ne.mpr c2
  obtain rfl := Option.some.inj H
  go_enter Tryd.func9, Tryd.ntmps9
  go_wp2_with (first | ((with_reducible refine gate_callee (f := 10) rfl ?_); refine goesL_ (some 1) rfl rfl Tryd.func10 (by kernel_rfl) rfl #[.string (⟨#[38, 108, 116, 59, 38, 35, 54, 53, 59, 38, 110, 111, 116, 105, 110, 32, 38, 99, 111, 112, 121, 61, 49]⟩ : ByteArray), .bool false] rfl (by (try simp only [List.map_toArray, List.map_cons, List.map_nil]); first | done | rfl | (simp only [List.length_drop, List.length_take]; rfl)) ?_; (with_reducible refine (charref_Decode.calls k (⟨#[38, 108, 116, 59, 38, 35, 54, 53, 59, 38, 110, 111, 116, 105, 110, 32, 38, 99, 111, 112, 121, 61, 49]⟩ : ByteArray) false t101 _ ?side1 A1.out).mono ?_); (case side1 => exact GW_below hG (by repeat (first | (with_reducible first | exact HB.out | apply below_alloc | apply pw_below_drewN | apply below_drew1) | exact HB.out))); rintro e w6 ⟨rfl, hb⟩; refine ⟨_, rfl, ?_⟩; have n0_ := Aside0.mk (below_step (by repeat (first | (with_reducible first | exact HB.out | apply below_alloc | apply pw_below_drewN | apply below_drew1) | exact HB.out)) hb); clear HB; have HB := n0_; clear n0_; (try clear hb); (try clear hb2); (try clear hk); (try clear hi)))
  go_ret
  exact ⟨by first | rfl | (simp [errW_none, errW_some] <;> rfl) | (simp [*, errW_none, errW_some] <;> rfl), by repeat (first | (with_reducible first | exact HB.out | apply below_alloc | apply pw_below_drewN | apply below_drew1) | exact HB.out)⟩

end Go.Proofs.YtablhjobjmmpnaaDoor.Q
