-- laid by this session's own program (wip/qprint.sh: the kit's printer, forked by wip/fork_print.py)
import Derived.Test.YtablhjobjmmpnaaDoorQ0
import Derived.Test.YtablhjobjmmpnaaDoorQ1
import Derived.Test.YtablhjobjmmpnaaDoorQ2
import Derived.Test.YtablhjobjmmpnaaDoorQ3
import Derived.Test.YtablhjobjmmpnaaDoorQ5
import Derived.Test.YtablhjobjmmpnaaDoorStub
namespace Go.Proofs.YtablhjobjmmpnaaDoor.Q
open Go.RowKit Go.Proofs.YtablhjobjmmpnaaDoorW.PrintWords Go.Proofs.YtablhjobjmmpnaaDoorW.PrintLast Go.Proofs.YtablhjobjmmpnaaDoorW.PrintMore
attribute [local go_sem] max2_int min2_int max_two min_two max_three min_three max_four min_four   -- for this text's walks alone
set_option linter.unusedVariables false
set_option linter.unusedSimpArgs false

/-! ### selvedgelaw03_CharrefDecodes: function 3 -/
def selvedgelaw03_CharrefDecodes.f (k : Nat) (a0 : ByteArray) (a1 : Bool) : Option (Bool) := if (a0.size : Int) > 5000 then ((selvedgelaw03_works.f k).bind fun t155 => (some t155)) else ((charref_Decode.f k a0 a1).bind fun t156 => ((selvedgeref03_Decode.f k a0 a1).bind fun t157 => (if t156.toList = t157.toList then ((selvedgelaw03_works.f k).bind fun t158 => (some t158)) else (some false))))
theorem selvedgelaw03_CharrefDecodes.mono : ∀ a0 a1 k, LeO (selvedgelaw03_CharrefDecodes.f k a0 a1) (selvedgelaw03_CharrefDecodes.f (k + 1) a0 a1) := by
 intro a0 a1 k
 unfold selvedgelaw03_CharrefDecodes.f
 repeat' first
   | (with_reducible exact charref_Decode.mono _ _ _)
   | (with_reducible exact selvedgelaw03_works.mono _)
   | (with_reducible exact selvedgeref03_Decode.mono _ _ _)
   | (with_reducible exact LeO.refl _)
   | (with_reducible exact LeO.none _)
   | (with_reducible refine LeO.ite ?_ ?_)
   | (with_reducible refine LeO.bind ?_ (fun _ => ?_))
   | exact charref_Decode.mono _ _ _
   | exact selvedgelaw03_works.mono _
   | exact selvedgeref03_Decode.mono _ _ _
   | exact LeO.none _
   | refine LeO.ite ?_ ?_
   | refine LeO.bind ?_ (fun _ => ?_)
set_option maxHeartbeats 8000000 in
set_option maxRecDepth 100000 in
theorem selvedgelaw03_CharrefDecodes.calls (k : Nat) (a0 : ByteArray) (a1 : Bool) (r : Bool) (w : World) (hG : GW w) (h : selvedgelaw03_CharrefDecodes.f k a0 a1 = some r) :
  Calls Tryd.prog 3 #[.string a0, .bool a1] w fun e w' => e = .returned (.bool r) ∧ Below w.heap.size w w' := by
 have HB := Aside0.mk (Below.refl w.heap.size w)
 have H : (if (a0.size : Int) > 5000 then ((selvedgelaw03_works.f k).bind fun t155 => (some t155)) else ((charref_Decode.f k a0 a1).bind fun t156 => ((selvedgeref03_Decode.f k a0 a1).bind fun t157 => (if t156.toList = t157.toList then ((selvedgelaw03_works.f k).bind fun t158 => (some t158)) else (some false))))) = some r := h
 clear h
 by_cases c3 : (a0.size : Int) > 5000
 ·rw [if_pos c3] at H
  have c3b0 : decide (5000 < (a0.size : Int)) = true := decide_eq_true c3
  have c3b1 : decide (5000 < a0.size) = true := decide_eq_true (by omega)
  clear c3
  replace H := Option.bind_eq_some_iff.mp H
  obtain ⟨t155, A40, H⟩ := H
  replace H : (some t155) = some r := H
  have A4 := Aside0.mk A40
  clear A40
  obtain rfl := Option.some.inj H
  go_enter Tryd.func3, Tryd.ntmps3
  go_wp2_with (first | ((with_reducible refine gate_callee (f := 9) rfl ?_); refine goesL_ (some 8) rfl rfl Tryd.func9 (by kernel_rfl) rfl #[] rfl (by (try simp only [List.map_toArray, List.map_cons, List.map_nil]); first | done | rfl | (simp only [List.length_drop, List.length_take]; rfl)) ?_; (with_reducible refine (selvedgelaw03_works.calls k  t155 _ ?side1 A4.out).mono ?_); (case side1 => exact GW_below hG (by repeat (first | (with_reducible first | exact HB.out | apply below_alloc | apply pw_below_drewN | apply below_drew1) | exact HB.out))); rintro e w5 ⟨rfl, hb⟩; refine ⟨_, rfl, ?_⟩; have n0_ := Aside0.mk (below_step (by repeat (first | (with_reducible first | exact HB.out | apply below_alloc | apply pw_below_drewN | apply below_drew1) | exact HB.out)) hb); clear HB; have HB := n0_; clear n0_; (try clear hb); (try clear hb2); (try clear hk); (try clear hi)))
  go_ret
  exact ⟨by first | rfl | (simp [errW_none, errW_some] <;> rfl) | (simp [*, errW_none, errW_some] <;> rfl), by repeat (first | (with_reducible first | exact HB.out | apply below_alloc | apply pw_below_drewN | apply below_drew1) | exact HB.out)⟩
 ·rw [if_neg c3] at H
  have c3b0 : decide (5000 < (a0.size : Int)) = false := decide_eq_false c3
  have c3b1 : decide (5000 < a0.size) = false := decide_eq_false (by omega)
  clear c3
  replace H := Option.bind_eq_some_iff.mp H
  obtain ⟨t156, A60, H⟩ := H
  replace H : ((selvedgeref03_Decode.f k a0 a1).bind fun t157 => (if t156.toList = t157.toList then ((selvedgelaw03_works.f k).bind fun t158 => (some t158)) else (some false))) = some r := H
  have A6 := Aside0.mk A60
  clear A60
  replace H := Option.bind_eq_some_iff.mp H
  obtain ⟨t157, A70, H⟩ := H
  replace H : (if t156.toList = t157.toList then ((selvedgelaw03_works.f k).bind fun t158 => (some t158)) else (some false)) = some r := H
  have A7 := Aside0.mk A70
  clear A70
  by_cases c8 : t156.toList = t157.toList
  ·rw [if_pos c8] at H
   have c8b0 : (t156.toList == t157.toList) = true := beq_iff_eq.mpr c8
   have c8b1 : (t156.toList != t157.toList) = false := bne_eq_false_iff_eq.mpr c8
   clear c8
   replace H := Option.bind_eq_some_iff.mp H
   obtain ⟨t158, A90, H⟩ := H
   replace H : (some t158) = some r := H
   have A9 := Aside0.mk A90
   clear A90
   obtain rfl := Option.some.inj H
   go_enter Tryd.func3, Tryd.ntmps3
   go_wp2_with (first | ((with_reducible refine gate_callee (f := 10) rfl ?_); refine goesL_ (some 11) rfl rfl Tryd.func10 (by kernel_rfl) rfl #[.string a0, .bool a1] rfl (by (try simp only [List.map_toArray, List.map_cons, List.map_nil]); first | done | rfl | (simp only [List.length_drop, List.length_take]; rfl)) ?_; (with_reducible refine (charref_Decode.calls k a0 a1 t156 _ ?side1 A6.out).mono ?_); (case side1 => exact GW_below hG (by repeat (first | (with_reducible first | exact HB.out | apply below_alloc | apply pw_below_drewN | apply below_drew1) | exact HB.out))); rintro e w10 ⟨rfl, hb⟩; refine ⟨_, rfl, ?_⟩; have n0_ := Aside0.mk (below_step (by repeat (first | (with_reducible first | exact HB.out | apply below_alloc | apply pw_below_drewN | apply below_drew1) | exact HB.out)) hb); clear HB; have HB := n0_; clear n0_; (try clear hb); (try clear hb2); (try clear hk); (try clear hi)) | ((with_reducible refine gate_callee (f := 11) rfl ?_); refine goesL_ (some 14) rfl rfl Tryd.func11 (by kernel_rfl) rfl #[.string a0, .bool a1] rfl (by (try simp only [List.map_toArray, List.map_cons, List.map_nil]); first | done | rfl | (simp only [List.length_drop, List.length_take]; rfl)) ?_; (with_reducible refine (selvedgeref03_Decode.calls k a0 a1 t157 _ A7.out).mono ?_); rintro e w11 ⟨rfl, hb⟩; refine ⟨_, rfl, ?_⟩; have n0_ := Aside0.mk (below_step (by repeat (first | (with_reducible first | exact HB.out | apply below_alloc | apply pw_below_drewN | apply below_drew1) | exact HB.out)) hb); clear HB; have HB := n0_; clear n0_; (try clear hb); (try clear hb2); (try clear hk); (try clear hi)) | (go_at_call 9; (with_reducible refine (selvedgelaw03_works.calls k  t158 _ ?side1 A9.out).mono ?_); (case side1 => exact GW_below hG (by repeat (first | (with_reducible first | exact HB.out | apply below_alloc | apply pw_below_drewN | apply below_drew1) | exact HB.out))); rintro e w12 ⟨rfl, hb⟩; have n0_ := Aside0.mk (below_step (by repeat (first | (with_reducible first | exact HB.out | apply below_alloc | apply pw_below_drewN | apply below_drew1) | exact HB.out)) hb); clear HB; have HB := n0_; clear n0_; (try clear hb); (try clear hb2); (try clear hk); (try clear hi)))
   go_ret
   exact ⟨by first | rfl | (simp [errW_none, errW_some] <;> rfl) | (simp [*, errW_none, errW_some] <;> rfl), by repeat (first | (with_reducible first | exact HB.out | apply below_alloc | apply pw_below_drewN | apply below_drew1) | exact HB.out)⟩
  ·rw [if_neg c8] at H
   have c8b0 : (t156.toList == t157.toList) = false := beq_eq_false_iff_ne.mpr c8
   have c8b1 : (t156.toList != t157.toList) = true := bne_iff_ne.mpr c8
   obtain rfl := Option.some.inj H
   go_enter Tryd.func3, Tryd.ntmps3
   go_wp2_with (first | ((with_reducible refine gate_callee (f := 10) rfl ?_); refine goesL_ (some 11) rfl rfl Tryd.func10 (by kernel_rfl) rfl #[.string a0, .bool a1] rfl (by (try simp only [List.map_toArray, List.map_cons, List.map_nil]); first | done | rfl | (simp only [List.length_drop, List.length_take]; rfl)) ?_; (with_reducible refine (charref_Decode.calls k a0 a1 t156 _ ?side1 A6.out).mono ?_); (case side1 => exact GW_below hG (by repeat (first | (with_reducible first | exact HB.out | apply below_alloc | apply pw_below_drewN | apply below_drew1) | exact HB.out))); rintro e w13 ⟨rfl, hb⟩; refine ⟨_, rfl, ?_⟩; have n0_ := Aside0.mk (below_step (by repeat (first | (with_reducible first | exact HB.out | apply below_alloc | apply pw_below_drewN | apply below_drew1) | exact HB.out)) hb); clear HB; have HB := n0_; clear n0_; (try clear hb); (try clear hb2); (try clear hk); (try clear hi)) | ((with_reducible refine gate_callee (f := 11) rfl ?_); refine goesL_ (some 14) rfl rfl Tryd.func11 (by kernel_rfl) rfl #[.string a0, .bool a1] rfl (by (try simp only [List.map_toArray, List.map_cons, List.map_nil]); first | done | rfl | (simp only [List.length_drop, List.length_take]; rfl)) ?_; (with_reducible refine (selvedgeref03_Decode.calls k a0 a1 t157 _ A7.out).mono ?_); rintro e w14 ⟨rfl, hb⟩; refine ⟨_, rfl, ?_⟩; have n0_ := Aside0.mk (below_step (by repeat (first | (with_reducible first | exact HB.out | apply below_alloc | apply pw_below_drewN | apply below_drew1) | exact HB.out)) hb); clear HB; have HB := n0_; clear n0_; (try clear hb); (try clear hb2); (try clear hk); (try clear hi)))
   go_ret
   exact ⟨by first | rfl | (simp [errW_none, errW_some] <;> rfl) | (simp [*, errW_none, errW_some] <;> rfl), by repeat (first | (with_reducible first | exact HB.out | apply below_alloc | apply pw_below_drewN | apply below_drew1) | exact HB.out)⟩

/-! ### selvedgelaw03_CharrefNumbers: function 5 -/
def selvedgelaw03_CharrefNumbers.j0 : Nat → Int → Int → ByteArray → Bool → Option (Bool)
 | 0, _, _, _, _ => none
 | k + 1, x0, x1, x5, x20 => if x20 = true then ((selvedgelaw03_works.f k).bind fun t170 => (some t170)) else ((selvedgelaw03_digits.f k ((x0) % 4294967296) 10 x1).bind fun t171 => (if 2 + t171.size ≤ 9223372036854775807 then ((selvedgelaw03_digits.f k ((x0) % 4294967296) 16 x1).bind fun t172 => (if 3 + t172.size ≤ 9223372036854775807 then (if ((⟨#[38, 35]⟩ : ByteArray) ++ t171).size + 1 ≤ 9223372036854775807 then (if (((⟨#[38, 35]⟩ : ByteArray) ++ t171) ++ (⟨#[59]⟩ : ByteArray)).size + ((⟨#[38, 35, 120]⟩ : ByteArray) ++ t172).size ≤ 9223372036854775807 then (if ((((⟨#[38, 35]⟩ : ByteArray) ++ t171) ++ (⟨#[59]⟩ : ByteArray)) ++ ((⟨#[38, 35, 120]⟩ : ByteArray) ++ t172)).size + 1 ≤ 9223372036854775807 then ((charref_Decode.f k (((((⟨#[38, 35]⟩ : ByteArray) ++ t171) ++ (⟨#[59]⟩ : ByteArray)) ++ ((⟨#[38, 35, 120]⟩ : ByteArray) ++ t172)) ++ (⟨#[59]⟩ : ByteArray)) false).bind fun t173 => (if x5.size + x5.size ≤ 9223372036854775807 then (if t173.toList = (x5 ++ x5).toList then (if (((⟨#[38, 35]⟩ : ByteArray) ++ t171) ++ (⟨#[33]⟩ : ByteArray)).size + ((⟨#[38, 35, 120]⟩ : ByteArray) ++ t172).size ≤ 9223372036854775807 then (if ((((⟨#[38, 35]⟩ : ByteArray) ++ t171) ++ (⟨#[33]⟩ : ByteArray)) ++ ((⟨#[38, 35, 120]⟩ : ByteArray) ++ t172)).size + 1 ≤ 9223372036854775807 then (if (((((⟨#[38, 35]⟩ : ByteArray) ++ t171) ++ (⟨#[33]⟩ : ByteArray)) ++ ((⟨#[38, 35, 120]⟩ : ByteArray) ++ t172)) ++ (⟨#[32]⟩ : ByteArray)).size + ((⟨#[38, 35, 120]⟩ : ByteArray) ++ t172).size ≤ 9223372036854775807 then ((charref_Decode.f k ((((((⟨#[38, 35]⟩ : ByteArray) ++ t171) ++ (⟨#[33]⟩ : ByteArray)) ++ ((⟨#[38, 35, 120]⟩ : ByteArray) ++ t172)) ++ (⟨#[32]⟩ : ByteArray)) ++ ((⟨#[38, 35, 120]⟩ : ByteArray) ++ t172)) true).bind fun t174 => (if x5.size + 1 ≤ 9223372036854775807 then (if (x5 ++ (⟨#[33]⟩ : ByteArray)).size + x5.size ≤ 9223372036854775807 then (if ((x5 ++ (⟨#[33]⟩ : ByteArray)) ++ x5).size + 1 ≤ 9223372036854775807 then (if (((x5 ++ (⟨#[33]⟩ : ByteArray)) ++ x5) ++ (⟨#[32]⟩ : ByteArray)).size + x5.size ≤ 9223372036854775807 then (if t174.toList = ((((x5 ++ (⟨#[33]⟩ : ByteArray)) ++ x5) ++ (⟨#[32]⟩ : ByteArray)) ++ x5).toList then ((selvedgelaw03_works.f k).bind fun t175 => (some t175)) else (some false)) else (none)) else (none)) else (none)) else (none))) else (none)) else (none)) else (none)) else (some false)) else (none))) else (none)) else (none)) else (none)) else (none))) else (none)))
def selvedgelaw03_CharrefNumbers.f (k : Nat) (a0 : Int) (a1 : Int) : Option (Bool) := (selvedgeref02_String.f k (([a0] : List Int))).bind fun t169 => (if a0 ≤ 0 then (selvedgelaw03_CharrefNumbers.j0 k a0 a1 t169 true) else (if a0 ≥ 128 then (selvedgelaw03_CharrefNumbers.j0 k a0 a1 t169 (decide (a0 ≤ 159))) else (selvedgelaw03_CharrefNumbers.j0 k a0 a1 t169 false)))
theorem selvedgelaw03_CharrefNumbers.mono_l : ∀ k, (∀ y0 y1 y2 y3, LeO (selvedgelaw03_CharrefNumbers.j0 k y0 y1 y2 y3) (selvedgelaw03_CharrefNumbers.j0 (k + 1) y0 y1 y2 y3))
 | 0 => fun _ _ _ _ r h => by simp [selvedgelaw03_CharrefNumbers.j0] at h
 | k + 1 => by
  have ih0 := selvedgelaw03_CharrefNumbers.mono_l k
  ·intro y0 y1 y2 y3
   unfold selvedgelaw03_CharrefNumbers.j0
   repeat' first
   | (with_reducible exact ih0 _ _ _ _)
   | (with_reducible exact charref_Decode.mono _ _ _)
   | (with_reducible exact selvedgelaw03_digits.mono _ _ _ _)
   | (with_reducible exact selvedgelaw03_works.mono _)
   | (with_reducible exact selvedgeref02_String.mono _ _)
   | (with_reducible exact LeO.refl _)
   | (with_reducible exact LeO.none _)
   | (with_reducible refine LeO.ite ?_ ?_)
   | (with_reducible refine LeO.bind ?_ (fun _ => ?_))
   | exact ih0 _ _ _ _
   | exact charref_Decode.mono _ _ _
   | exact selvedgelaw03_digits.mono _ _ _ _
   | exact selvedgelaw03_works.mono _
   | exact selvedgeref02_String.mono _ _
   | exact LeO.none _
   | refine LeO.ite ?_ ?_
   | refine LeO.bind ?_ (fun _ => ?_)
theorem selvedgelaw03_CharrefNumbers.mono : ∀ a0 a1 k, LeO (selvedgelaw03_CharrefNumbers.f k a0 a1) (selvedgelaw03_CharrefNumbers.f (k + 1) a0 a1) := by
 intro a0 a1 k
 have ih0 := selvedgelaw03_CharrefNumbers.mono_l k
 unfold selvedgelaw03_CharrefNumbers.f
 repeat' first
   | (with_reducible exact ih0 _ _ _ _)
   | (with_reducible exact charref_Decode.mono _ _ _)
   | (with_reducible exact selvedgelaw03_digits.mono _ _ _ _)
   | (with_reducible exact selvedgelaw03_works.mono _)
   | (with_reducible exact selvedgeref02_String.mono _ _)
   | (with_reducible exact LeO.refl _)
   | (with_reducible exact LeO.none _)
   | (with_reducible refine LeO.ite ?_ ?_)
   | (with_reducible refine LeO.bind ?_ (fun _ => ?_))
   | exact ih0 _ _ _ _
   | exact charref_Decode.mono _ _ _
   | exact selvedgelaw03_digits.mono _ _ _ _
   | exact selvedgelaw03_works.mono _
   | exact selvedgeref02_String.mono _ _
   | exact LeO.none _
   | refine LeO.ite ?_ ?_
   | refine LeO.bind ?_ (fun _ => ?_)
set_option maxHeartbeats 8000000 in
set_option maxRecDepth 100000 in
theorem selvedgelaw03_CharrefNumbers.calls (k : Nat) (a0 : Int) (a1 : Int) (r : Bool) (w : World) (hG : GW w) (h : selvedgelaw03_CharrefNumbers.f k a0 a1 = some r) :
  Calls Tryd.prog 5 #[.int .i32 a0, .int .u8 a1] w fun e w' => e = .returned (.bool r) ∧ Below w.heap.size w w' := by
 have HB := Aside0.mk (Below.refl w.heap.size w)
 have H : ((selvedgeref02_String.f k (([a0] : List Int))).bind fun t169 => (if a0 ≤ 0 then (selvedgelaw03_CharrefNumbers.j0 k a0 a1 t169 true) else (if a0 ≥ 128 then (selvedgelaw03_CharrefNumbers.j0 k a0 a1 t169 (decide (a0 ≤ 159))) else (selvedgelaw03_CharrefNumbers.j0 k a0 a1 t169 false)))) = some r := h
 clear h
 obtain ⟨y166, hy166⟩ : ∃ y_ : List Int, y_ = (([a0] : List Int)) := ⟨_, rfl⟩
 replace H : ((selvedgeref02_String.f k y166).bind fun t169 => (if a0 ≤ 0 then (selvedgelaw03_CharrefNumbers.j0 k a0 a1 t169 true) else (if a0 ≥ 128 then (selvedgelaw03_CharrefNumbers.j0 k a0 a1 t169 (decide (a0 ≤ 159))) else (selvedgelaw03_CharrefNumbers.j0 k a0 a1 t169 false)))) = some r := by first | (rw [hy166]; with_reducible exact H) | (have H2_ := (Option.bind_some _ _).symm.trans H; rw [hy166]; with_reducible exact H2_) | (have H2_ := (Option.bind_some _ _).symm.trans H; with_reducible exact H2_) | with_reducible exact H | (rw [hy166]; exact H) | exact H
 have Ny166 := Aside0.mk hy166
 clear hy166
 replace H := Option.bind_eq_some_iff.mp H
 obtain ⟨t169, A30, H⟩ := H
 replace H : (if a0 ≤ 0 then (selvedgelaw03_CharrefNumbers.j0 k a0 a1 t169 true) else (if a0 ≥ 128 then (selvedgelaw03_CharrefNumbers.j0 k a0 a1 t169 (decide (a0 ≤ 159))) else (selvedgelaw03_CharrefNumbers.j0 k a0 a1 t169 false))) = some r := H
 have A3 := Aside0.mk A30
 clear A30
 have HC4 := Aside0.mk H
 clear H
 go_enter Tryd.func5, Tryd.ntmps5
 go_upto_region 2 with (first | ((with_reducible refine gate_dst (N := 9) rfl ?_); refine Kd.R_lit (Kd.int .i32) _ 21 ?hg (N := 9) ?hd (xs := ([a0] : List Int)) (inner := [.int .i32 a0]) (ok := fun _ => True) (okp := fun _ => True) ?hr ?hp (fun _ hk => hk) trivial (Below.refl _ _) (Nat.le_refl _) (by simp) ?_; (case hd => rfl); (case hg => rfl); (case hr => first | (go_simp; done) | (go_simp; rfl)); (case hp => exact (Reps.one (show Kd.M (Kd.int .i32) _ _ _ a0 [.int .i32 a0] from rfl) (Reps.none _ _))); intro v167 w5 ho6 hb hg_ hnew_; clear hg_ hnew_; (first | rw [← Ny166.out] at ho6 | (simp only [Int.reduceToNat] at ho6; rw [← Ny166.out] at ho6)); have n0_ := Aside0.mk (Kd.R_lower ho6 (below_size (by repeat (first | (with_reducible first | exact HB.out | apply below_alloc | apply pw_below_drewN | apply below_drew1) | exact HB.out)))); have n1_ := Aside0.mk (below_step (by repeat (first | (with_reducible first | exact HB.out | apply below_alloc | apply pw_below_drewN | apply below_drew1) | exact HB.out)) hb); clear HB; have HO168 := n0_; have HB := n1_; clear n0_ n1_; clear hb ho6; obtain ⟨Ao7, co7, eo7⟩ := Kd.R_slice HO168.out; subst eo7) | ((with_reducible refine gate_callee (f := 12) rfl ?_); refine goesL_ (some 10) rfl rfl Tryd.func12 (by kernel_rfl) rfl #[.slice Ao7 y166.length co7] rfl (by (try simp only [List.map_toArray, List.map_cons, List.map_nil]); first | done | rfl | (simp only [List.length_drop, List.length_take]; rfl)) ?_; (with_reducible refine (selvedgeref02_String.calls k _ _ y166 t169 _ ?side1 ?side2 A3.out).mono ?_); (case side1 => repeat (first | exact (Kd.R_reads' HO168.out).2.2 | (with_reducible refine Kd.C_alloc ?_ _) | (with_reducible refine Kd.C_drewN ?_ _) | (with_reducible refine Kd.C_drew ?_))); (case side2 => exact (Kd.R_reads' HO168.out).2.1); rintro e w8 ⟨rfl, hb⟩; refine ⟨_, rfl, ?_⟩; have n0_ := Aside0.mk (Kd.R_below (by (with_reducible repeat (first | apply Kd.R_alloc | apply Kd.R_drewN | apply Kd.R_drew)); exact HO168.out) hb); have n1_ := Aside0.mk (below_step (by repeat (first | (with_reducible first | exact HB.out | apply below_alloc | apply pw_below_drewN | apply below_drew1) | exact HB.out)) hb); clear HO168; clear HB; have HO168 := n0_; have HB := n1_; clear n0_ n1_; (try clear hb); (try clear hb2); (try clear hk); (try clear hi)))
 (try simp only [Act.put, List.setIfInBounds_toArray, List.set_cons_zero, List.set_cons_succ])
 go_cut [20] (fun v20 wc => ∃ (kq : Nat) (x20_3 : Bool), v20 = .bool x20_3 ∧ Aside0 (selvedgelaw03_CharrefNumbers.j0 kq a0 a1 t169 x20_3 = some r) ∧ Aside0 (kq ≤ k) ∧ Aside0 (Below w.heap.size w wc))
 case first =>
  have H := HC4.out
  clear HC4
  by_cases c9 : a0 ≤ 0
  ·rw [if_pos c9] at H
   have c9b0 : decide (a0 ≤ 0) = true := decide_eq_true c9
   clear c9
   (first | rw [c9b0] | (simp only [i64_w, i32_w]; rw [c9b0]) | skip)
   have H' := Aside0.mk H
   clear H
   go_wp2
   go_meet
   case rel => exact ⟨_, (true), (by first | rfl | (simp; done) | (simp [*]; done)), H', ⟨by first | omega | exact Nat.le_refl _⟩, ⟨by repeat (first | (with_reducible first | exact HB.out | apply below_alloc | apply pw_below_drewN | apply below_drew1) | exact HB.out)⟩⟩
  ·rw [if_neg c9] at H
   have c9b0 : decide (a0 ≤ 0) = false := decide_eq_false c9
   clear c9
   (first | rw [c9b0] | (simp only [i64_w, i32_w]; rw [c9b0]) | skip)
   by_cases c10 : a0 ≥ 128
   ·rw [if_pos c10] at H
    have c10b0 : decide (128 ≤ a0) = true := decide_eq_true c10
    clear c10
    have H' := Aside0.mk H
    clear H
    go_wp2
    go_meet
    case rel => exact ⟨_, (decide (a0 ≤ 159)), (by first | rfl | (simp; done) | (simp [*]; done)), H', ⟨by first | omega | exact Nat.le_refl _⟩, ⟨by repeat (first | (with_reducible first | exact HB.out | apply below_alloc | apply pw_below_drewN | apply below_drew1) | exact HB.out)⟩⟩
   ·rw [if_neg c10] at H
    have c10b0 : decide (128 ≤ a0) = false := decide_eq_false c10
    clear c10
    have H' := Aside0.mk H
    clear H
    go_wp2
    go_meet
    case rel => exact ⟨_, (false), (by first | rfl | (simp; done) | (simp [*]; done)), H', ⟨by first | omega | exact Nat.le_refl _⟩, ⟨by repeat (first | (with_reducible first | exact HB.out | apply below_alloc | apply pw_below_drewN | apply below_drew1) | exact HB.out)⟩⟩
 case rest =>
  clear HC4
  try clear c1
  try clear p2
  try clear c5
  try clear c9
  try clear c9b0
  try clear c10
  try clear c10b0
  obtain ⟨kq, x20_3, rfl, HA, HJ3, HB⟩ := hcut
  cases kq with
  | zero => exact absurd HA.out (by simp [selvedgelaw03_CharrefNumbers.j0])
  | succ kj3 =>
   have H := HA.out
   clear HA
   simp only [selvedgelaw03_CharrefNumbers.j0] at H
   by_cases c11 : x20_3 = true
   ·subst c11
    have H1 : ((selvedgelaw03_works.f kj3).bind fun t170 => (some t170)) = some r := by rw [if_pos rfl] at H; exact H
    clear H
    have H := H1
    clear H1
    replace H := Option.bind_eq_some_iff.mp H
    obtain ⟨t170, A120, H⟩ := H
    replace H : (some t170) = some r := H
    have A12 := Aside0.mk A120
    clear A120
    obtain rfl := Option.some.inj H
    go_wp2_with (first | ((with_reducible refine gate_callee (f := 9) rfl ?_); refine goesL_ (some 21) rfl rfl Tryd.func9 (by kernel_rfl) rfl #[] rfl (by (try simp only [List.map_toArray, List.map_cons, List.map_nil]); first | done | rfl | (simp only [List.length_drop, List.length_take]; rfl)) ?_; (with_reducible refine (selvedgelaw03_works.calls kj3  t170 _ ?side1 A12.out).mono ?_); (case side1 => exact GW_below hG (by repeat (first | (with_reducible first | exact HB.out | apply below_alloc | apply pw_below_drewN | apply below_drew1) | exact HB.out))); rintro e w13 ⟨rfl, hb⟩; refine ⟨_, rfl, ?_⟩; have n0_ := Aside0.mk (below_step (by repeat (first | (with_reducible first | exact HB.out | apply below_alloc | apply pw_below_drewN | apply below_drew1) | exact HB.out)) hb); clear HB; have HB := n0_; clear n0_; (try clear hb); (try clear hb2); (try clear hk); (try clear hi)))
    go_ret
    exact ⟨by first | rfl | (simp [errW_none, errW_some] <;> rfl) | (simp [*, errW_none, errW_some] <;> rfl), by repeat (first | (with_reducible first | exact HB.out | apply below_alloc | apply pw_below_drewN | apply below_drew1) | exact HB.out)⟩
   ·replace c11 := Bool.eq_false_iff.mpr c11
    subst c11
    have H1 : ((selvedgelaw03_digits.f kj3 ((a0) % 4294967296) 10 a1).bind fun t171 => (if 2 + t171.size ≤ 9223372036854775807 then ((selvedgelaw03_digits.f kj3 ((a0) % 4294967296) 16 a1).bind fun t172 => (if 3 + t172.size ≤ 9223372036854775807 then (if ((⟨#[38, 35]⟩ : ByteArray) ++ t171).size + 1 ≤ 9223372036854775807 then (if (((⟨#[38, 35]⟩ : ByteArray) ++ t171) ++ (⟨#[59]⟩ : ByteArray)).size + ((⟨#[38, 35, 120]⟩ : ByteArray) ++ t172).size ≤ 9223372036854775807 then (if ((((⟨#[38, 35]⟩ : ByteArray) ++ t171) ++ (⟨#[59]⟩ : ByteArray)) ++ ((⟨#[38, 35, 120]⟩ : ByteArray) ++ t172)).size + 1 ≤ 9223372036854775807 then ((charref_Decode.f kj3 (((((⟨#[38, 35]⟩ : ByteArray) ++ t171) ++ (⟨#[59]⟩ : ByteArray)) ++ ((⟨#[38, 35, 120]⟩ : ByteArray) ++ t172)) ++ (⟨#[59]⟩ : ByteArray)) false).bind fun t173 => (if t169.size + t169.size ≤ 9223372036854775807 then (if t173.toList = (t169 ++ t169).toList then (if (((⟨#[38, 35]⟩ : ByteArray) ++ t171) ++ (⟨#[33]⟩ : ByteArray)).size + ((⟨#[38, 35, 120]⟩ : ByteArray) ++ t172).size ≤ 9223372036854775807 then (if ((((⟨#[38, 35]⟩ : ByteArray) ++ t171) ++ (⟨#[33]⟩ : ByteArray)) ++ ((⟨#[38, 35, 120]⟩ : ByteArray) ++ t172)).size + 1 ≤ 9223372036854775807 then (if (((((⟨#[38, 35]⟩ : ByteArray) ++ t171) ++ (⟨#[33]⟩ : ByteArray)) ++ ((⟨#[38, 35, 120]⟩ : ByteArray) ++ t172)) ++ (⟨#[32]⟩ : ByteArray)).size + ((⟨#[38, 35, 120]⟩ : ByteArray) ++ t172).size ≤ 9223372036854775807 then ((charref_Decode.f kj3 ((((((⟨#[38, 35]⟩ : ByteArray) ++ t171) ++ (⟨#[33]⟩ : ByteArray)) ++ ((⟨#[38, 35, 120]⟩ : ByteArray) ++ t172)) ++ (⟨#[32]⟩ : ByteArray)) ++ ((⟨#[38, 35, 120]⟩ : ByteArray) ++ t172)) true).bind fun t174 => (if t169.size + 1 ≤ 9223372036854775807 then (if (t169 ++ (⟨#[33]⟩ : ByteArray)).size + t169.size ≤ 9223372036854775807 then (if ((t169 ++ (⟨#[33]⟩ : ByteArray)) ++ t169).size + 1 ≤ 9223372036854775807 then (if (((t169 ++ (⟨#[33]⟩ : ByteArray)) ++ t169) ++ (⟨#[32]⟩ : ByteArray)).size + t169.size ≤ 9223372036854775807 then (if t174.toList = ((((t169 ++ (⟨#[33]⟩ : ByteArray)) ++ t169) ++ (⟨#[32]⟩ : ByteArray)) ++ t169).toList then ((selvedgelaw03_works.f kj3).bind fun t175 => (some t175)) else (some false)) else (none)) else (none)) else (none)) else (none))) else (none)) else (none)) else (none)) else (some false)) else (none))) else (none)) else (none)) else (none)) else (none))) else (none))) = some r := by rw [if_neg (show ¬ (false = true) by decide)] at H; exact H
    clear H
    have H := H1
    clear H1
    replace H := Option.bind_eq_some_iff.mp H
    obtain ⟨t171, A140, H⟩ := H
    replace H : (if 2 + t171.size ≤ 9223372036854775807 then ((selvedgelaw03_digits.f kj3 ((a0) % 4294967296) 16 a1).bind fun t172 => (if 3 + t172.size ≤ 9223372036854775807 then (if ((⟨#[38, 35]⟩ : ByteArray) ++ t171).size + 1 ≤ 9223372036854775807 then (if (((⟨#[38, 35]⟩ : ByteArray) ++ t171) ++ (⟨#[59]⟩ : ByteArray)).size + ((⟨#[38, 35, 120]⟩ : ByteArray) ++ t172).size ≤ 9223372036854775807 then (if ((((⟨#[38, 35]⟩ : ByteArray) ++ t171) ++ (⟨#[59]⟩ : ByteArray)) ++ ((⟨#[38, 35, 120]⟩ : ByteArray) ++ t172)).size + 1 ≤ 9223372036854775807 then ((charref_Decode.f kj3 (((((⟨#[38, 35]⟩ : ByteArray) ++ t171) ++ (⟨#[59]⟩ : ByteArray)) ++ ((⟨#[38, 35, 120]⟩ : ByteArray) ++ t172)) ++ (⟨#[59]⟩ : ByteArray)) false).bind fun t173 => (if t169.size + t169.size ≤ 9223372036854775807 then (if t173.toList = (t169 ++ t169).toList then (if (((⟨#[38, 35]⟩ : ByteArray) ++ t171) ++ (⟨#[33]⟩ : ByteArray)).size + ((⟨#[38, 35, 120]⟩ : ByteArray) ++ t172).size ≤ 9223372036854775807 then (if ((((⟨#[38, 35]⟩ : ByteArray) ++ t171) ++ (⟨#[33]⟩ : ByteArray)) ++ ((⟨#[38, 35, 120]⟩ : ByteArray) ++ t172)).size + 1 ≤ 9223372036854775807 then (if (((((⟨#[38, 35]⟩ : ByteArray) ++ t171) ++ (⟨#[33]⟩ : ByteArray)) ++ ((⟨#[38, 35, 120]⟩ : ByteArray) ++ t172)) ++ (⟨#[32]⟩ : ByteArray)).size + ((⟨#[38, 35, 120]⟩ : ByteArray) ++ t172).size ≤ 9223372036854775807 then ((charref_Decode.f kj3 ((((((⟨#[38, 35]⟩ : ByteArray) ++ t171) ++ (⟨#[33]⟩ : ByteArray)) ++ ((⟨#[38, 35, 120]⟩ : ByteArray) ++ t172)) ++ (⟨#[32]⟩ : ByteArray)) ++ ((⟨#[38, 35, 120]⟩ : ByteArray) ++ t172)) true).bind fun t174 => (if t169.size + 1 ≤ 9223372036854775807 then (if (t169 ++ (⟨#[33]⟩ : ByteArray)).size + t169.size ≤ 9223372036854775807 then (if ((t169 ++ (⟨#[33]⟩ : ByteArray)) ++ t169).size + 1 ≤ 9223372036854775807 then (if (((t169 ++ (⟨#[33]⟩ : ByteArray)) ++ t169) ++ (⟨#[32]⟩ : ByteArray)).size + t169.size ≤ 9223372036854775807 then (if t174.toList = ((((t169 ++ (⟨#[33]⟩ : ByteArray)) ++ t169) ++ (⟨#[32]⟩ : ByteArray)) ++ t169).toList then ((selvedgelaw03_works.f kj3).bind fun t175 => (some t175)) else (some false)) else (none)) else (none)) else (none)) else (none))) else (none)) else (none)) else (none)) else (some false)) else (none))) else (none)) else (none)) else (none)) else (none))) else (none)) = some r := H
    have A14 := Aside0.mk A140
    clear A140
    by_cases c15 : 2 + t171.size ≤ 9223372036854775807
    ·rw [if_pos c15] at H
     have c15b0 := eq_true c15
     have c15b1 : decide (2 + t171.size ≤ 9223372036854775807) = true := decide_eq_true c15
     try have c15b2 : (9223372036854775807 < 2 + t171.size) = False := eq_false (Nat.not_lt.2 c15)
     replace H := Option.bind_eq_some_iff.mp H
     obtain ⟨t172, A160, H⟩ := H
     replace H : (if 3 + t172.size ≤ 9223372036854775807 then (if ((⟨#[38, 35]⟩ : ByteArray) ++ t171).size + 1 ≤ 9223372036854775807 then (if (((⟨#[38, 35]⟩ : ByteArray) ++ t171) ++ (⟨#[59]⟩ : ByteArray)).size + ((⟨#[38, 35, 120]⟩ : ByteArray) ++ t172).size ≤ 9223372036854775807 then (if ((((⟨#[38, 35]⟩ : ByteArray) ++ t171) ++ (⟨#[59]⟩ : ByteArray)) ++ ((⟨#[38, 35, 120]⟩ : ByteArray) ++ t172)).size + 1 ≤ 9223372036854775807 then ((charref_Decode.f kj3 (((((⟨#[38, 35]⟩ : ByteArray) ++ t171) ++ (⟨#[59]⟩ : ByteArray)) ++ ((⟨#[38, 35, 120]⟩ : ByteArray) ++ t172)) ++ (⟨#[59]⟩ : ByteArray)) false).bind fun t173 => (if t169.size + t169.size ≤ 9223372036854775807 then (if t173.toList = (t169 ++ t169).toList then (if (((⟨#[38, 35]⟩ : ByteArray) ++ t171) ++ (⟨#[33]⟩ : ByteArray)).size + ((⟨#[38, 35, 120]⟩ : ByteArray) ++ t172).size ≤ 9223372036854775807 then (if ((((⟨#[38, 35]⟩ : ByteArray) ++ t171) ++ (⟨#[33]⟩ : ByteArray)) ++ ((⟨#[38, 35, 120]⟩ : ByteArray) ++ t172)).size + 1 ≤ 9223372036854775807 then (if (((((⟨#[38, 35]⟩ : ByteArray) ++ t171) ++ (⟨#[33]⟩ : ByteArray)) ++ ((⟨#[38, 35, 120]⟩ : ByteArray) ++ t172)) ++ (⟨#[32]⟩ : ByteArray)).size + ((⟨#[38, 35, 120]⟩ : ByteArray) ++ t172).size ≤ 9223372036854775807 then ((charref_Decode.f kj3 ((((((⟨#[38, 35]⟩ : ByteArray) ++ t171) ++ (⟨#[33]⟩ : ByteArray)) ++ ((⟨#[38, 35, 120]⟩ : ByteArray) ++ t172)) ++ (⟨#[32]⟩ : ByteArray)) ++ ((⟨#[38, 35, 120]⟩ : ByteArray) ++ t172)) true).bind fun t174 => (if t169.size + 1 ≤ 9223372036854775807 then (if (t169 ++ (⟨#[33]⟩ : ByteArray)).size + t169.size ≤ 9223372036854775807 then (if ((t169 ++ (⟨#[33]⟩ : ByteArray)) ++ t169).size + 1 ≤ 9223372036854775807 then (if (((t169 ++ (⟨#[33]⟩ : ByteArray)) ++ t169) ++ (⟨#[32]⟩ : ByteArray)).size + t169.size ≤ 9223372036854775807 then (if t174.toList = ((((t169 ++ (⟨#[33]⟩ : ByteArray)) ++ t169) ++ (⟨#[32]⟩ : ByteArray)) ++ t169).toList then ((selvedgelaw03_works.f kj3).bind fun t175 => (some t175)) else (some false)) else (none)) else (none)) else (none)) else (none))) else (none)) else (none)) else (none)) else (some false)) else (none))) else (none)) else (none)) else (none)) else (none)) = some r := H
     have A16 := Aside0.mk A160
     clear A160
     by_cases c17 : 3 + t172.size ≤ 9223372036854775807
     ·rw [if_pos c17] at H
      have c17b0 := eq_true c17
      have c17b1 : decide (3 + t172.size ≤ 9223372036854775807) = true := decide_eq_true c17
      try have c17b2 : (9223372036854775807 < 3 + t172.size) = False := eq_false (Nat.not_lt.2 c17)
      by_cases c18 : ((⟨#[38, 35]⟩ : ByteArray) ++ t171).size + 1 ≤ 9223372036854775807
      ·rw [if_pos c18] at H
       have c18b0 := eq_true c18
       have c18b1 : decide (((⟨#[38, 35]⟩ : ByteArray) ++ t171).size + 1 ≤ 9223372036854775807) = true := decide_eq_true c18
       try have c18b2 : (9223372036854775807 < ((⟨#[38, 35]⟩ : ByteArray) ++ t171).size + 1) = False := eq_false (Nat.not_lt.2 c18)
       try have c18m_ := c18
       try simp only [ByteArray.size_append, show ((⟨#[38, 35]⟩ : ByteArray)).size = 2 from rfl] at c18m_
       try push_cast at c18m_
       try simp only [Int.not_lt, Int.not_le, Nat.not_lt, Nat.not_le, gt_iff_lt, ge_iff_le] at c18m_
       try have c18k_ := Nat.not_lt.2 c18m_
       by_cases c19 : (((⟨#[38, 35]⟩ : ByteArray) ++ t171) ++ (⟨#[59]⟩ : ByteArray)).size + ((⟨#[38, 35, 120]⟩ : ByteArray) ++ t172).size ≤ 9223372036854775807
       ·rw [if_pos c19] at H
        have c19b0 := eq_true c19
        have c19b1 : decide ((((⟨#[38, 35]⟩ : ByteArray) ++ t171) ++ (⟨#[59]⟩ : ByteArray)).size + ((⟨#[38, 35, 120]⟩ : ByteArray) ++ t172).size ≤ 9223372036854775807) = true := decide_eq_true c19
        try have c19b2 : (9223372036854775807 < (((⟨#[38, 35]⟩ : ByteArray) ++ t171) ++ (⟨#[59]⟩ : ByteArray)).size + ((⟨#[38, 35, 120]⟩ : ByteArray) ++ t172).size) = False := eq_false (Nat.not_lt.2 c19)
        try have c19m_ := c19
        try simp only [ByteArray.size_append, show ((⟨#[38, 35]⟩ : ByteArray)).size = 2 from rfl, show ((⟨#[38, 35, 120]⟩ : ByteArray)).size = 3 from rfl, show ((⟨#[59]⟩ : ByteArray)).size = 1 from rfl] at c19m_
        try push_cast at c19m_
        try simp only [Int.not_lt, Int.not_le, Nat.not_lt, Nat.not_le, gt_iff_lt, ge_iff_le] at c19m_
        try have c19k_ := Nat.not_lt.2 c19m_
        by_cases c20 : ((((⟨#[38, 35]⟩ : ByteArray) ++ t171) ++ (⟨#[59]⟩ : ByteArray)) ++ ((⟨#[38, 35, 120]⟩ : ByteArray) ++ t172)).size + 1 ≤ 9223372036854775807
        ·rw [if_pos c20] at H
         have c20b0 := eq_true c20
         have c20b1 : decide (((((⟨#[38, 35]⟩ : ByteArray) ++ t171) ++ (⟨#[59]⟩ : ByteArray)) ++ ((⟨#[38, 35, 120]⟩ : ByteArray) ++ t172)).size + 1 ≤ 9223372036854775807) = true := decide_eq_true c20
         try have c20b2 : (9223372036854775807 < ((((⟨#[38, 35]⟩ : ByteArray) ++ t171) ++ (⟨#[59]⟩ : ByteArray)) ++ ((⟨#[38, 35, 120]⟩ : ByteArray) ++ t172)).size + 1) = False := eq_false (Nat.not_lt.2 c20)
         try have c20m_ := c20
         try simp only [ByteArray.size_append, show ((⟨#[38, 35]⟩ : ByteArray)).size = 2 from rfl, show ((⟨#[38, 35, 120]⟩ : ByteArray)).size = 3 from rfl, show ((⟨#[59]⟩ : ByteArray)).size = 1 from rfl] at c20m_
         try push_cast at c20m_
         try simp only [Int.not_lt, Int.not_le, Nat.not_lt, Nat.not_le, gt_iff_lt, ge_iff_le] at c20m_
         try have c20k_ := Nat.not_lt.2 c20m_
         replace H := Option.bind_eq_some_iff.mp H
         obtain ⟨t173, A210, H⟩ := H
         replace H : (if t169.size + t169.size ≤ 9223372036854775807 then (if t173.toList = (t169 ++ t169).toList then (if (((⟨#[38, 35]⟩ : ByteArray) ++ t171) ++ (⟨#[33]⟩ : ByteArray)).size + ((⟨#[38, 35, 120]⟩ : ByteArray) ++ t172).size ≤ 9223372036854775807 then (if ((((⟨#[38, 35]⟩ : ByteArray) ++ t171) ++ (⟨#[33]⟩ : ByteArray)) ++ ((⟨#[38, 35, 120]⟩ : ByteArray) ++ t172)).size + 1 ≤ 9223372036854775807 then (if (((((⟨#[38, 35]⟩ : ByteArray) ++ t171) ++ (⟨#[33]⟩ : ByteArray)) ++ ((⟨#[38, 35, 120]⟩ : ByteArray) ++ t172)) ++ (⟨#[32]⟩ : ByteArray)).size + ((⟨#[38, 35, 120]⟩ : ByteArray) ++ t172).size ≤ 9223372036854775807 then ((charref_Decode.f kj3 ((((((⟨#[38, 35]⟩ : ByteArray) ++ t171) ++ (⟨#[33]⟩ : ByteArray)) ++ ((⟨#[38, 35, 120]⟩ : ByteArray) ++ t172)) ++ (⟨#[32]⟩ : ByteArray)) ++ ((⟨#[38, 35, 120]⟩ : ByteArray) ++ t172)) true).bind fun t174 => (if t169.size + 1 ≤ 9223372036854775807 then (if (t169 ++ (⟨#[33]⟩ : ByteArray)).size + t169.size ≤ 9223372036854775807 then (if ((t169 ++ (⟨#[33]⟩ : ByteArray)) ++ t169).size + 1 ≤ 9223372036854775807 then (if (((t169 ++ (⟨#[33]⟩ : ByteArray)) ++ t169) ++ (⟨#[32]⟩ : ByteArray)).size + t169.size ≤ 9223372036854775807 then (if t174.toList = ((((t169 ++ (⟨#[33]⟩ : ByteArray)) ++ t169) ++ (⟨#[32]⟩ : ByteArray)) ++ t169).toList then ((selvedgelaw03_works.f kj3).bind fun t175 => (some t175)) else (some false)) else (none)) else (none)) else (none)) else (none))) else (none)) else (none)) else (none)) else (some false)) else (none)) = some r := H
         have A21 := Aside0.mk A210
         clear A210
         by_cases c22 : t169.size + t169.size ≤ 9223372036854775807
         ·rw [if_pos c22] at H
          have c22b0 := eq_true c22
          have c22b1 : decide (t169.size + t169.size ≤ 9223372036854775807) = true := decide_eq_true c22
          try have c22b2 : (9223372036854775807 < t169.size + t169.size) = False := eq_false (Nat.not_lt.2 c22)
          by_cases c23 : t173.toList = (t169 ++ t169).toList
          ·rw [if_pos c23] at H
           have c23b0 : (t173.toList == (t169 ++ t169).toList) = true := beq_iff_eq.mpr c23
           have c23b1 : (t173.toList != (t169 ++ t169).toList) = false := bne_eq_false_iff_eq.mpr c23
           clear c23
           by_cases c24 : (((⟨#[38, 35]⟩ : ByteArray) ++ t171) ++ (⟨#[33]⟩ : ByteArray)).size + ((⟨#[38, 35, 120]⟩ : ByteArray) ++ t172).size ≤ 9223372036854775807
           ·rw [if_pos c24] at H
            have c24b0 := eq_true c24
            have c24b1 : decide ((((⟨#[38, 35]⟩ : ByteArray) ++ t171) ++ (⟨#[33]⟩ : ByteArray)).size + ((⟨#[38, 35, 120]⟩ : ByteArray) ++ t172).size ≤ 9223372036854775807) = true := decide_eq_true c24
            try have c24b2 : (9223372036854775807 < (((⟨#[38, 35]⟩ : ByteArray) ++ t171) ++ (⟨#[33]⟩ : ByteArray)).size + ((⟨#[38, 35, 120]⟩ : ByteArray) ++ t172).size) = False := eq_false (Nat.not_lt.2 c24)
            try have c24m_ := c24
            try simp only [ByteArray.size_append, show ((⟨#[33]⟩ : ByteArray)).size = 1 from rfl, show ((⟨#[38, 35]⟩ : ByteArray)).size = 2 from rfl, show ((⟨#[38, 35, 120]⟩ : ByteArray)).size = 3 from rfl] at c24m_
            try push_cast at c24m_
            try simp only [Int.not_lt, Int.not_le, Nat.not_lt, Nat.not_le, gt_iff_lt, ge_iff_le] at c24m_
            try have c24k_ := Nat.not_lt.2 c24m_
            by_cases c25 : ((((⟨#[38, 35]⟩ : ByteArray) ++ t171) ++ (⟨#[33]⟩ : ByteArray)) ++ ((⟨#[38, 35, 120]⟩ : ByteArray) ++ t172)).size + 1 ≤ 9223372036854775807
            ·rw [if_pos c25] at H
             have c25b0 := eq_true c25
             have c25b1 : decide (((((⟨#[38, 35]⟩ : ByteArray) ++ t171) ++ (⟨#[33]⟩ : ByteArray)) ++ ((⟨#[38, 35, 120]⟩ : ByteArray) ++ t172)).size + 1 ≤ 9223372036854775807) = true := decide_eq_true c25
             try have c25b2 : (9223372036854775807 < ((((⟨#[38, 35]⟩ : ByteArray) ++ t171) ++ (⟨#[33]⟩ : ByteArray)) ++ ((⟨#[38, 35, 120]⟩ : ByteArray) ++ t172)).size + 1) = False := eq_false (Nat.not_lt.2 c25)
             try have c25m_ := c25
             try simp only [ByteArray.size_append, show ((⟨#[33]⟩ : ByteArray)).size = 1 from rfl, show ((⟨#[38, 35]⟩ : ByteArray)).size = 2 from rfl, show ((⟨#[38, 35, 120]⟩ : ByteArray)).size = 3 from rfl] at c25m_
             try push_cast at c25m_
             try simp only [Int.not_lt, Int.not_le, Nat.not_lt, Nat.not_le, gt_iff_lt, ge_iff_le] at c25m_
             try have c25k_ := Nat.not_lt.2 c25m_
             by_cases c26 : (((((⟨#[38, 35]⟩ : ByteArray) ++ t171) ++ (⟨#[33]⟩ : ByteArray)) ++ ((⟨#[38, 35, 120]⟩ : ByteArray) ++ t172)) ++ (⟨#[32]⟩ : ByteArray)).size + ((⟨#[38, 35, 120]⟩ : ByteArray) ++ t172).size ≤ 9223372036854775807
             ·rw [if_pos c26] at H
              have c26b0 := eq_true c26
              have c26b1 : decide ((((((⟨#[38, 35]⟩ : ByteArray) ++ t171) ++ (⟨#[33]⟩ : ByteArray)) ++ ((⟨#[38, 35, 120]⟩ : ByteArray) ++ t172)) ++ (⟨#[32]⟩ : ByteArray)).size + ((⟨#[38, 35, 120]⟩ : ByteArray) ++ t172).size ≤ 9223372036854775807) = true := decide_eq_true c26
              try have c26b2 : (9223372036854775807 < (((((⟨#[38, 35]⟩ : ByteArray) ++ t171) ++ (⟨#[33]⟩ : ByteArray)) ++ ((⟨#[38, 35, 120]⟩ : ByteArray) ++ t172)) ++ (⟨#[32]⟩ : ByteArray)).size + ((⟨#[38, 35, 120]⟩ : ByteArray) ++ t172).size) = False := eq_false (Nat.not_lt.2 c26)
              try have c26m_ := c26
              try simp only [ByteArray.size_append, show ((⟨#[32]⟩ : ByteArray)).size = 1 from rfl, show ((⟨#[33]⟩ : ByteArray)).size = 1 from rfl, show ((⟨#[38, 35]⟩ : ByteArray)).size = 2 from rfl, show ((⟨#[38, 35, 120]⟩ : ByteArray)).size = 3 from rfl] at c26m_
              try push_cast at c26m_
              try simp only [Int.not_lt, Int.not_le, Nat.not_lt, Nat.not_le, gt_iff_lt, ge_iff_le] at c26m_
              try have c26k_ := Nat.not_lt.2 c26m_
              replace H := Option.bind_eq_some_iff.mp H
              obtain ⟨t174, A270, H⟩ := H
              replace H : (if t169.size + 1 ≤ 9223372036854775807 then (if (t169 ++ (⟨#[33]⟩ : ByteArray)).size + t169.size ≤ 9223372036854775807 then (if ((t169 ++ (⟨#[33]⟩ : ByteArray)) ++ t169).size + 1 ≤ 9223372036854775807 then (if (((t169 ++ (⟨#[33]⟩ : ByteArray)) ++ t169) ++ (⟨#[32]⟩ : ByteArray)).size + t169.size ≤ 9223372036854775807 then (if t174.toList = ((((t169 ++ (⟨#[33]⟩ : ByteArray)) ++ t169) ++ (⟨#[32]⟩ : ByteArray)) ++ t169).toList then ((selvedgelaw03_works.f kj3).bind fun t175 => (some t175)) else (some false)) else (none)) else (none)) else (none)) else (none)) = some r := H
              have A27 := Aside0.mk A270
              clear A270
              by_cases c28 : t169.size + 1 ≤ 9223372036854775807
              ·rw [if_pos c28] at H
               have c28b0 := eq_true c28
               have c28b1 : decide (t169.size + 1 ≤ 9223372036854775807) = true := decide_eq_true c28
               try have c28b2 : (9223372036854775807 < t169.size + 1) = False := eq_false (Nat.not_lt.2 c28)
               by_cases c29 : (t169 ++ (⟨#[33]⟩ : ByteArray)).size + t169.size ≤ 9223372036854775807
               ·rw [if_pos c29] at H
                have c29b0 := eq_true c29
                have c29b1 : decide ((t169 ++ (⟨#[33]⟩ : ByteArray)).size + t169.size ≤ 9223372036854775807) = true := decide_eq_true c29
                try have c29b2 : (9223372036854775807 < (t169 ++ (⟨#[33]⟩ : ByteArray)).size + t169.size) = False := eq_false (Nat.not_lt.2 c29)
                try have c29m_ := c29
                try simp only [ByteArray.size_append, show ((⟨#[33]⟩ : ByteArray)).size = 1 from rfl] at c29m_
                try push_cast at c29m_
                try simp only [Int.not_lt, Int.not_le, Nat.not_lt, Nat.not_le, gt_iff_lt, ge_iff_le] at c29m_
                try have c29k_ := Nat.not_lt.2 c29m_
                by_cases c30 : ((t169 ++ (⟨#[33]⟩ : ByteArray)) ++ t169).size + 1 ≤ 9223372036854775807
                ·rw [if_pos c30] at H
                 have c30b0 := eq_true c30
                 have c30b1 : decide (((t169 ++ (⟨#[33]⟩ : ByteArray)) ++ t169).size + 1 ≤ 9223372036854775807) = true := decide_eq_true c30
                 try have c30b2 : (9223372036854775807 < ((t169 ++ (⟨#[33]⟩ : ByteArray)) ++ t169).size + 1) = False := eq_false (Nat.not_lt.2 c30)
                 try have c30m_ := c30
                 try simp only [ByteArray.size_append, show ((⟨#[33]⟩ : ByteArray)).size = 1 from rfl] at c30m_
                 try push_cast at c30m_
                 try simp only [Int.not_lt, Int.not_le, Nat.not_lt, Nat.not_le, gt_iff_lt, ge_iff_le] at c30m_
                 try have c30k_ := Nat.not_lt.2 c30m_
                 by_cases c31 : (((t169 ++ (⟨#[33]⟩ : ByteArray)) ++ t169) ++ (⟨#[32]⟩ : ByteArray)).size + t169.size ≤ 9223372036854775807
                 ·rw [if_pos c31] at H
                  have c31b0 := eq_true c31
                  have c31b1 : decide ((((t169 ++ (⟨#[33]⟩ : ByteArray)) ++ t169) ++ (⟨#[32]⟩ : ByteArray)).size + t169.size ≤ 9223372036854775807) = true := decide_eq_true c31
                  try have c31b2 : (9223372036854775807 < (((t169 ++ (⟨#[33]⟩ : ByteArray)) ++ t169) ++ (⟨#[32]⟩ : ByteArray)).size + t169.size) = False := eq_false (Nat.not_lt.2 c31)
                  try have c31m_ := c31
                  try simp only [ByteArray.size_append, show ((⟨#[32]⟩ : ByteArray)).size = 1 from rfl, show ((⟨#[33]⟩ : ByteArray)).size = 1 from rfl] at c31m_
                  try push_cast at c31m_
                  try simp only [Int.not_lt, Int.not_le, Nat.not_lt, Nat.not_le, gt_iff_lt, ge_iff_le] at c31m_
                  try have c31k_ := Nat.not_lt.2 c31m_
                  by_cases c32 : t174.toList = ((((t169 ++ (⟨#[33]⟩ : ByteArray)) ++ t169) ++ (⟨#[32]⟩ : ByteArray)) ++ t169).toList
                  ·rw [if_pos c32] at H
                   have c32b0 : (t174.toList == ((((t169 ++ (⟨#[33]⟩ : ByteArray)) ++ t169) ++ (⟨#[32]⟩ : ByteArray)) ++ t169).toList) = true := beq_iff_eq.mpr c32
                   have c32b1 : (t174.toList != ((((t169 ++ (⟨#[33]⟩ : ByteArray)) ++ t169) ++ (⟨#[32]⟩ : ByteArray)) ++ t169).toList) = false := bne_eq_false_iff_eq.mpr c32
                   clear c32
                   replace H := Option.bind_eq_some_iff.mp H
                   obtain ⟨t175, A330, H⟩ := H
                   replace H : (some t175) = some r := H
                   have A33 := Aside0.mk A330
                   clear A330
                   obtain rfl := Option.some.inj H
                   go_wp2_with (first | ((with_reducible refine gate_callee (f := 13) rfl ?_); refine goesL_ (some 25) rfl rfl Tryd.func13 (by kernel_rfl) rfl #[.int .u32 ((a0) % 4294967296), .int .u32 10, .int .u8 a1] rfl (by (try simp only [List.map_toArray, List.map_cons, List.map_nil]); first | done | rfl | (simp only [List.length_drop, List.length_take]; rfl)) ?_; (with_reducible refine (selvedgelaw03_digits.calls kj3 ((a0) % 4294967296) 10 a1 t171 _ A14.out).mono ?_); rintro e w' ⟨rfl, ⟨nd, rfl⟩⟩; refine ⟨_, rfl, ?_⟩) | ((with_reducible refine gate_callee (f := 13) rfl ?_); refine goesL_ (some 30) rfl rfl Tryd.func13 (by kernel_rfl) rfl #[.int .u32 ((a0) % 4294967296), .int .u32 16, .int .u8 a1] rfl (by (try simp only [List.map_toArray, List.map_cons, List.map_nil]); first | done | rfl | (simp only [List.length_drop, List.length_take]; rfl)) ?_; (with_reducible refine (selvedgelaw03_digits.calls kj3 ((a0) % 4294967296) 16 a1 t172 _ A16.out).mono ?_); rintro e w' ⟨rfl, ⟨nd, rfl⟩⟩; refine ⟨_, rfl, ?_⟩) | ((with_reducible refine gate_callee (f := 10) rfl ?_); refine goesL_ (some 37) rfl rfl Tryd.func10 (by kernel_rfl) rfl #[.string (((((⟨#[38, 35]⟩ : ByteArray) ++ t171) ++ (⟨#[59]⟩ : ByteArray)) ++ ((⟨#[38, 35, 120]⟩ : ByteArray) ++ t172)) ++ (⟨#[59]⟩ : ByteArray)), .bool false] rfl (by (try simp only [List.map_toArray, List.map_cons, List.map_nil]); first | done | rfl | (simp only [List.length_drop, List.length_take]; rfl)) ?_; (with_reducible refine (charref_Decode.calls kj3 (((((⟨#[38, 35]⟩ : ByteArray) ++ t171) ++ (⟨#[59]⟩ : ByteArray)) ++ ((⟨#[38, 35, 120]⟩ : ByteArray) ++ t172)) ++ (⟨#[59]⟩ : ByteArray)) false t173 _ ?side1 A21.out).mono ?_); (case side1 => exact GW_below hG (by repeat (first | (with_reducible first | exact HB.out | apply below_alloc | apply pw_below_drewN | apply below_drew1) | exact HB.out))); rintro e w34 ⟨rfl, hb⟩; refine ⟨_, rfl, ?_⟩; have n0_ := Aside0.mk (below_step (by repeat (first | (with_reducible first | exact HB.out | apply below_alloc | apply pw_below_drewN | apply below_drew1) | exact HB.out)) hb); clear HB; have HB := n0_; clear n0_; (try clear hb); (try clear hb2); (try clear hk); (try clear hi)) | (go_at_call 10; (with_reducible refine (charref_Decode.calls kj3 ((((((⟨#[38, 35]⟩ : ByteArray) ++ t171) ++ (⟨#[33]⟩ : ByteArray)) ++ ((⟨#[38, 35, 120]⟩ : ByteArray) ++ t172)) ++ (⟨#[32]⟩ : ByteArray)) ++ ((⟨#[38, 35, 120]⟩ : ByteArray) ++ t172)) true t174 _ ?side1 A27.out).mono ?_); (case side1 => exact GW_below hG (by repeat (first | (with_reducible first | exact HB.out | apply below_alloc | apply pw_below_drewN | apply below_drew1) | exact HB.out))); rintro e w35 ⟨rfl, hb⟩; have n0_ := Aside0.mk (below_step (by repeat (first | (with_reducible first | exact HB.out | apply below_alloc | apply pw_below_drewN | apply below_drew1) | exact HB.out)) hb); clear HB; have HB := n0_; clear n0_; (try clear hb); (try clear hb2); (try clear hk); (try clear hi)) | (go_at_call 9; (with_reducible refine (selvedgelaw03_works.calls kj3  t175 _ ?side1 A33.out).mono ?_); (case side1 => exact GW_below hG (by repeat (first | (with_reducible first | exact HB.out | apply below_alloc | apply pw_below_drewN | apply below_drew1) | exact HB.out))); rintro e w36 ⟨rfl, hb⟩; have n0_ := Aside0.mk (below_step (by repeat (first | (with_reducible first | exact HB.out | apply below_alloc | apply pw_below_drewN | apply below_drew1) | exact HB.out)) hb); clear HB; have HB := n0_; clear n0_; (try clear hb); (try clear hb2); (try clear hk); (try clear hi)))
                   go_ret
                   exact ⟨by first | rfl | (simp [errW_none, errW_some] <;> rfl) | (simp [*, errW_none, errW_some] <;> rfl), by repeat (first | (with_reducible first | exact HB.out | apply below_alloc | apply pw_below_drewN | apply below_drew1) | exact HB.out)⟩
                  ·rw [if_neg c32] at H
                   have c32b0 : (t174.toList == ((((t169 ++ (⟨#[33]⟩ : ByteArray)) ++ t169) ++ (⟨#[32]⟩ : ByteArray)) ++ t169).toList) = false := beq_eq_false_iff_ne.mpr c32
                   have c32b1 : (t174.toList != ((((t169 ++ (⟨#[33]⟩ : ByteArray)) ++ t169) ++ (⟨#[32]⟩ : ByteArray)) ++ t169).toList) = true := bne_iff_ne.mpr c32
                   obtain rfl := Option.some.inj H
                   go_wp2_with (first | ((with_reducible refine gate_callee (f := 13) rfl ?_); refine goesL_ (some 25) rfl rfl Tryd.func13 (by kernel_rfl) rfl #[.int .u32 ((a0) % 4294967296), .int .u32 10, .int .u8 a1] rfl (by (try simp only [List.map_toArray, List.map_cons, List.map_nil]); first | done | rfl | (simp only [List.length_drop, List.length_take]; rfl)) ?_; (with_reducible refine (selvedgelaw03_digits.calls kj3 ((a0) % 4294967296) 10 a1 t171 _ A14.out).mono ?_); rintro e w' ⟨rfl, ⟨nd, rfl⟩⟩; refine ⟨_, rfl, ?_⟩) | ((with_reducible refine gate_callee (f := 13) rfl ?_); refine goesL_ (some 30) rfl rfl Tryd.func13 (by kernel_rfl) rfl #[.int .u32 ((a0) % 4294967296), .int .u32 16, .int .u8 a1] rfl (by (try simp only [List.map_toArray, List.map_cons, List.map_nil]); first | done | rfl | (simp only [List.length_drop, List.length_take]; rfl)) ?_; (with_reducible refine (selvedgelaw03_digits.calls kj3 ((a0) % 4294967296) 16 a1 t172 _ A16.out).mono ?_); rintro e w' ⟨rfl, ⟨nd, rfl⟩⟩; refine ⟨_, rfl, ?_⟩) | ((with_reducible refine gate_callee (f := 10) rfl ?_); refine goesL_ (some 37) rfl rfl Tryd.func10 (by kernel_rfl) rfl #[.string (((((⟨#[38, 35]⟩ : ByteArray) ++ t171) ++ (⟨#[59]⟩ : ByteArray)) ++ ((⟨#[38, 35, 120]⟩ : ByteArray) ++ t172)) ++ (⟨#[59]⟩ : ByteArray)), .bool false] rfl (by (try simp only [List.map_toArray, List.map_cons, List.map_nil]); first | done | rfl | (simp only [List.length_drop, List.length_take]; rfl)) ?_; (with_reducible refine (charref_Decode.calls kj3 (((((⟨#[38, 35]⟩ : ByteArray) ++ t171) ++ (⟨#[59]⟩ : ByteArray)) ++ ((⟨#[38, 35, 120]⟩ : ByteArray) ++ t172)) ++ (⟨#[59]⟩ : ByteArray)) false t173 _ ?side1 A21.out).mono ?_); (case side1 => exact GW_below hG (by repeat (first | (with_reducible first | exact HB.out | apply below_alloc | apply pw_below_drewN | apply below_drew1) | exact HB.out))); rintro e w37 ⟨rfl, hb⟩; refine ⟨_, rfl, ?_⟩; have n0_ := Aside0.mk (below_step (by repeat (first | (with_reducible first | exact HB.out | apply below_alloc | apply pw_below_drewN | apply below_drew1) | exact HB.out)) hb); clear HB; have HB := n0_; clear n0_; (try clear hb); (try clear hb2); (try clear hk); (try clear hi)) | (go_at_call 10; (with_reducible refine (charref_Decode.calls kj3 ((((((⟨#[38, 35]⟩ : ByteArray) ++ t171) ++ (⟨#[33]⟩ : ByteArray)) ++ ((⟨#[38, 35, 120]⟩ : ByteArray) ++ t172)) ++ (⟨#[32]⟩ : ByteArray)) ++ ((⟨#[38, 35, 120]⟩ : ByteArray) ++ t172)) true t174 _ ?side1 A27.out).mono ?_); (case side1 => exact GW_below hG (by repeat (first | (with_reducible first | exact HB.out | apply below_alloc | apply pw_below_drewN | apply below_drew1) | exact HB.out))); rintro e w38 ⟨rfl, hb⟩; have n0_ := Aside0.mk (below_step (by repeat (first | (with_reducible first | exact HB.out | apply below_alloc | apply pw_below_drewN | apply below_drew1) | exact HB.out)) hb); clear HB; have HB := n0_; clear n0_; (try clear hb); (try clear hb2); (try clear hk); (try clear hi)))
                   go_ret
                   exact ⟨by first | rfl | (simp [errW_none, errW_some] <;> rfl) | (simp [*, errW_none, errW_some] <;> rfl), by repeat (first | (with_reducible first | exact HB.out | apply below_alloc | apply pw_below_drewN | apply below_drew1) | exact HB.out)⟩
                 ·rw [if_neg c31] at H
                  exact absurd H (by simp)
                ·rw [if_neg c30] at H
                 exact absurd H (by simp)
               ·rw [if_neg c29] at H
                exact absurd H (by simp)
              ·rw [if_neg c28] at H
               exact absurd H (by simp)
             ·rw [if_neg c26] at H
              exact absurd H (by simp)
            ·rw [if_neg c25] at H
             exact absurd H (by simp)
           ·rw [if_neg c24] at H
            exact absurd H (by simp)
          ·rw [if_neg c23] at H
           have c23b0 : (t173.toList == (t169 ++ t169).toList) = false := beq_eq_false_iff_ne.mpr c23
           have c23b1 : (t173.toList != (t169 ++ t169).toList) = true := bne_iff_ne.mpr c23
           obtain rfl := Option.some.inj H
           go_wp2_with (first | ((with_reducible refine gate_callee (f := 13) rfl ?_); refine goesL_ (some 25) rfl rfl Tryd.func13 (by kernel_rfl) rfl #[.int .u32 ((a0) % 4294967296), .int .u32 10, .int .u8 a1] rfl (by (try simp only [List.map_toArray, List.map_cons, List.map_nil]); first | done | rfl | (simp only [List.length_drop, List.length_take]; rfl)) ?_; (with_reducible refine (selvedgelaw03_digits.calls kj3 ((a0) % 4294967296) 10 a1 t171 _ A14.out).mono ?_); rintro e w' ⟨rfl, ⟨nd, rfl⟩⟩; refine ⟨_, rfl, ?_⟩) | ((with_reducible refine gate_callee (f := 13) rfl ?_); refine goesL_ (some 30) rfl rfl Tryd.func13 (by kernel_rfl) rfl #[.int .u32 ((a0) % 4294967296), .int .u32 16, .int .u8 a1] rfl (by (try simp only [List.map_toArray, List.map_cons, List.map_nil]); first | done | rfl | (simp only [List.length_drop, List.length_take]; rfl)) ?_; (with_reducible refine (selvedgelaw03_digits.calls kj3 ((a0) % 4294967296) 16 a1 t172 _ A16.out).mono ?_); rintro e w' ⟨rfl, ⟨nd, rfl⟩⟩; refine ⟨_, rfl, ?_⟩) | ((with_reducible refine gate_callee (f := 10) rfl ?_); refine goesL_ (some 37) rfl rfl Tryd.func10 (by kernel_rfl) rfl #[.string (((((⟨#[38, 35]⟩ : ByteArray) ++ t171) ++ (⟨#[59]⟩ : ByteArray)) ++ ((⟨#[38, 35, 120]⟩ : ByteArray) ++ t172)) ++ (⟨#[59]⟩ : ByteArray)), .bool false] rfl (by (try simp only [List.map_toArray, List.map_cons, List.map_nil]); first | done | rfl | (simp only [List.length_drop, List.length_take]; rfl)) ?_; (with_reducible refine (charref_Decode.calls kj3 (((((⟨#[38, 35]⟩ : ByteArray) ++ t171) ++ (⟨#[59]⟩ : ByteArray)) ++ ((⟨#[38, 35, 120]⟩ : ByteArray) ++ t172)) ++ (⟨#[59]⟩ : ByteArray)) false t173 _ ?side1 A21.out).mono ?_); (case side1 => exact GW_below hG (by repeat (first | (with_reducible first | exact HB.out | apply below_alloc | apply pw_below_drewN | apply below_drew1) | exact HB.out))); rintro e w39 ⟨rfl, hb⟩; refine ⟨_, rfl, ?_⟩; have n0_ := Aside0.mk (below_step (by repeat (first | (with_reducible first | exact HB.out | apply below_alloc | apply pw_below_drewN | apply below_drew1) | exact HB.out)) hb); clear HB; have HB := n0_; clear n0_; (try clear hb); (try clear hb2); (try clear hk); (try clear hi)))
           go_ret
           exact ⟨by first | rfl | (simp [errW_none, errW_some] <;> rfl) | (simp [*, errW_none, errW_some] <;> rfl), by repeat (first | (with_reducible first | exact HB.out | apply below_alloc | apply pw_below_drewN | apply below_drew1) | exact HB.out)⟩
         ·rw [if_neg c22] at H
          exact absurd H (by simp)
        ·rw [if_neg c20] at H
         exact absurd H (by simp)
       ·rw [if_neg c19] at H
        exact absurd H (by simp)
      ·rw [if_neg c18] at H
       exact absurd H (by simp)
     ·rw [if_neg c17] at H
      exact absurd H (by simp)
    ·rw [if_neg c15] at H
     exact absurd H (by simp)

/-! ### selvedgelaw03_CharrefPieces: function 6 -/
def selvedgelaw03_CharrefPieces.j0 : Nat → ByteArray → ByteArray → Bool → Bool → Option (Bool)
 | 0, _, _, _, _ => none
 | k + 1, x0, x1, x2, x14 => if x14 = true then ((selvedgelaw03_works.f k).bind fun t176 => (some t176)) else (if x0.size + 1 ≤ 9223372036854775807 then (if (x0 ++ (⟨#[32]⟩ : ByteArray)).size + x1.size ≤ 9223372036854775807 then ((charref_Decode.f k ((x0 ++ (⟨#[32]⟩ : ByteArray)) ++ x1) x2).bind fun t177 => ((charref_Decode.f k x0 x2).bind fun t178 => (if t178.size + 1 ≤ 9223372036854775807 then ((charref_Decode.f k x1 x2).bind fun t179 => (if (t178 ++ (⟨#[32]⟩ : ByteArray)).size + t179.size ≤ 9223372036854775807 then (if t177.toList = ((t178 ++ (⟨#[32]⟩ : ByteArray)) ++ t179).toList then ((selvedgelaw03_works.f k).bind fun t180 => (some t180)) else (some false)) else (none))) else (none)))) else (none)) else (none))
def selvedgelaw03_CharrefPieces.f (k : Nat) (a0 : ByteArray) (a1 : ByteArray) (a2 : Bool) : Option (Bool) := if (a0.size : Int) > 2000 then (selvedgelaw03_CharrefPieces.j0 k a0 a1 a2 true) else (selvedgelaw03_CharrefPieces.j0 k a0 a1 a2 (decide ((a1.size : Int) > 2000)))
theorem selvedgelaw03_CharrefPieces.mono_l : ∀ k, (∀ y0 y1 y2 y3, LeO (selvedgelaw03_CharrefPieces.j0 k y0 y1 y2 y3) (selvedgelaw03_CharrefPieces.j0 (k + 1) y0 y1 y2 y3))
 | 0 => fun _ _ _ _ r h => by simp [selvedgelaw03_CharrefPieces.j0] at h
 | k + 1 => by
  have ih0 := selvedgelaw03_CharrefPieces.mono_l k
  ·intro y0 y1 y2 y3
   unfold selvedgelaw03_CharrefPieces.j0
   repeat' first
   | (with_reducible exact ih0 _ _ _ _)
   | (with_reducible exact charref_Decode.mono _ _ _)
   | (with_reducible exact selvedgelaw03_works.mono _)
   | (with_reducible exact LeO.refl _)
   | (with_reducible exact LeO.none _)
   | (with_reducible refine LeO.ite ?_ ?_)
   | (with_reducible refine LeO.bind ?_ (fun _ => ?_))
   | exact ih0 _ _ _ _
   | exact charref_Decode.mono _ _ _
   | exact selvedgelaw03_works.mono _
   | exact LeO.none _
   | refine LeO.ite ?_ ?_
   | refine LeO.bind ?_ (fun _ => ?_)
theorem selvedgelaw03_CharrefPieces.mono : ∀ a0 a1 a2 k, LeO (selvedgelaw03_CharrefPieces.f k a0 a1 a2) (selvedgelaw03_CharrefPieces.f (k + 1) a0 a1 a2) := by
 intro a0 a1 a2 k
 have ih0 := selvedgelaw03_CharrefPieces.mono_l k
 unfold selvedgelaw03_CharrefPieces.f
 repeat' first
   | (with_reducible exact ih0 _ _ _ _)
   | (with_reducible exact charref_Decode.mono _ _ _)
   | (with_reducible exact selvedgelaw03_works.mono _)
   | (with_reducible exact LeO.refl _)
   | (with_reducible exact LeO.none _)
   | (with_reducible refine LeO.ite ?_ ?_)
   | (with_reducible refine LeO.bind ?_ (fun _ => ?_))
   | exact ih0 _ _ _ _
   | exact charref_Decode.mono _ _ _
   | exact selvedgelaw03_works.mono _
   | exact LeO.none _
   | refine LeO.ite ?_ ?_
   | refine LeO.bind ?_ (fun _ => ?_)
set_option maxHeartbeats 8000000 in
set_option maxRecDepth 100000 in
theorem selvedgelaw03_CharrefPieces.calls (k : Nat) (a0 : ByteArray) (a1 : ByteArray) (a2 : Bool) (r : Bool) (w : World) (hG : GW w) (h : selvedgelaw03_CharrefPieces.f k a0 a1 a2 = some r) :
  Calls Tryd.prog 6 #[.string a0, .string a1, .bool a2] w fun e w' => e = .returned (.bool r) ∧ Below w.heap.size w w' := by
 have HB := Aside0.mk (Below.refl w.heap.size w)
 have H : (if (a0.size : Int) > 2000 then (selvedgelaw03_CharrefPieces.j0 k a0 a1 a2 true) else (selvedgelaw03_CharrefPieces.j0 k a0 a1 a2 (decide ((a1.size : Int) > 2000)))) = some r := h
 clear h
 have HC4 := Aside0.mk H
 clear H
 go_enter Tryd.func6, Tryd.ntmps6
 go_upto_region 1 with (fail)
 go_cut [14] (fun v14 wc => ∃ (kq : Nat) (x14_3 : Bool), v14 = .bool x14_3 ∧ Aside0 (selvedgelaw03_CharrefPieces.j0 kq a0 a1 a2 x14_3 = some r) ∧ Aside0 (kq ≤ k) ∧ Aside0 (Below w.heap.size w wc))
 case first =>
  have H := HC4.out
  clear HC4
  by_cases c5 : (a0.size : Int) > 2000
  ·rw [if_pos c5] at H
   have c5b0 : decide (2000 < (a0.size : Int)) = true := decide_eq_true c5
   have c5b1 : decide (2000 < a0.size) = true := decide_eq_true (by omega)
   clear c5
   (first | rw [c5b0] | (simp only [i64_w, i32_w]; rw [c5b0]) | skip)
   have H' := Aside0.mk H
   clear H
   go_wp2
   go_meet
   case rel => exact ⟨_, (true), (by first | rfl | (simp; done) | (simp [*]; done)), H', ⟨by first | omega | exact Nat.le_refl _⟩, ⟨by repeat (first | (with_reducible first | exact HB.out | apply below_alloc | apply pw_below_drewN | apply below_drew1) | exact HB.out)⟩⟩
  ·rw [if_neg c5] at H
   have c5b0 : decide (2000 < (a0.size : Int)) = false := decide_eq_false c5
   have c5b1 : decide (2000 < a0.size) = false := decide_eq_false (by omega)
   clear c5
   (first | rw [c5b0] | (simp only [i64_w, i32_w]; rw [c5b0]) | skip)
   have H' := Aside0.mk H
   clear H
   go_wp2
   go_meet
   case rel => exact ⟨_, (decide ((a1.size : Int) > 2000)), (by first | rfl | (simp; done) | (simp [*]; done)), H', ⟨by first | omega | exact Nat.le_refl _⟩, ⟨by repeat (first | (with_reducible first | exact HB.out | apply below_alloc | apply pw_below_drewN | apply below_drew1) | exact HB.out)⟩⟩
 case rest =>
  clear HC4
  try clear p2
  try clear c5
  try clear c5b0
  try clear c5b1
  obtain ⟨kq, x14_3, rfl, HA, HJ3, HB⟩ := hcut
  cases kq with
  | zero => exact absurd HA.out (by simp [selvedgelaw03_CharrefPieces.j0])
  | succ kj3 =>
   have H := HA.out
   clear HA
   simp only [selvedgelaw03_CharrefPieces.j0] at H
   by_cases c6 : x14_3 = true
   ·subst c6
    have H1 : ((selvedgelaw03_works.f kj3).bind fun t176 => (some t176)) = some r := by rw [if_pos rfl] at H; exact H
    clear H
    have H := H1
    clear H1
    replace H := Option.bind_eq_some_iff.mp H
    obtain ⟨t176, A70, H⟩ := H
    replace H : (some t176) = some r := H
    have A7 := Aside0.mk A70
    clear A70
    obtain rfl := Option.some.inj H
    go_wp2_with (first | ((with_reducible refine gate_callee (f := 9) rfl ?_); refine goesL_ (some 15) rfl rfl Tryd.func9 (by kernel_rfl) rfl #[] rfl (by (try simp only [List.map_toArray, List.map_cons, List.map_nil]); first | done | rfl | (simp only [List.length_drop, List.length_take]; rfl)) ?_; (with_reducible refine (selvedgelaw03_works.calls kj3  t176 _ ?side1 A7.out).mono ?_); (case side1 => exact GW_below hG (by repeat (first | (with_reducible first | exact HB.out | apply below_alloc | apply pw_below_drewN | apply below_drew1) | exact HB.out))); rintro e w8 ⟨rfl, hb⟩; refine ⟨_, rfl, ?_⟩; have n0_ := Aside0.mk (below_step (by repeat (first | (with_reducible first | exact HB.out | apply below_alloc | apply pw_below_drewN | apply below_drew1) | exact HB.out)) hb); clear HB; have HB := n0_; clear n0_; (try clear hb); (try clear hb2); (try clear hk); (try clear hi)))
    go_ret
    exact ⟨by first | rfl | (simp [errW_none, errW_some] <;> rfl) | (simp [*, errW_none, errW_some] <;> rfl), by repeat (first | (with_reducible first | exact HB.out | apply below_alloc | apply pw_below_drewN | apply below_drew1) | exact HB.out)⟩
   ·replace c6 := Bool.eq_false_iff.mpr c6
    subst c6
    have H1 : (if a0.size + 1 ≤ 9223372036854775807 then (if (a0 ++ (⟨#[32]⟩ : ByteArray)).size + a1.size ≤ 9223372036854775807 then ((charref_Decode.f kj3 ((a0 ++ (⟨#[32]⟩ : ByteArray)) ++ a1) a2).bind fun t177 => ((charref_Decode.f kj3 a0 a2).bind fun t178 => (if t178.size + 1 ≤ 9223372036854775807 then ((charref_Decode.f kj3 a1 a2).bind fun t179 => (if (t178 ++ (⟨#[32]⟩ : ByteArray)).size + t179.size ≤ 9223372036854775807 then (if t177.toList = ((t178 ++ (⟨#[32]⟩ : ByteArray)) ++ t179).toList then ((selvedgelaw03_works.f kj3).bind fun t180 => (some t180)) else (some false)) else (none))) else (none)))) else (none)) else (none)) = some r := by rw [if_neg (show ¬ (false = true) by decide)] at H; exact H
    clear H
    have H := H1
    clear H1
    by_cases c9 : a0.size + 1 ≤ 9223372036854775807
    ·rw [if_pos c9] at H
     have c9b0 := eq_true c9
     have c9b1 : decide (a0.size + 1 ≤ 9223372036854775807) = true := decide_eq_true c9
     try have c9b2 : (9223372036854775807 < a0.size + 1) = False := eq_false (Nat.not_lt.2 c9)
     by_cases c10 : (a0 ++ (⟨#[32]⟩ : ByteArray)).size + a1.size ≤ 9223372036854775807
     ·rw [if_pos c10] at H
      have c10b0 := eq_true c10
      have c10b1 : decide ((a0 ++ (⟨#[32]⟩ : ByteArray)).size + a1.size ≤ 9223372036854775807) = true := decide_eq_true c10
      try have c10b2 : (9223372036854775807 < (a0 ++ (⟨#[32]⟩ : ByteArray)).size + a1.size) = False := eq_false (Nat.not_lt.2 c10)
      try have c10m_ := c10
      try simp only [ByteArray.size_append, show ((⟨#[32]⟩ : ByteArray)).size = 1 from rfl] at c10m_
      try push_cast at c10m_
      try simp only [Int.not_lt, Int.not_le, Nat.not_lt, Nat.not_le, gt_iff_lt, ge_iff_le] at c10m_
      try have c10k_ := Nat.not_lt.2 c10m_
      replace H := Option.bind_eq_some_iff.mp H
      obtain ⟨t177, A110, H⟩ := H
      replace H : ((charref_Decode.f kj3 a0 a2).bind fun t178 => (if t178.size + 1 ≤ 9223372036854775807 then ((charref_Decode.f kj3 a1 a2).bind fun t179 => (if (t178 ++ (⟨#[32]⟩ : ByteArray)).size + t179.size ≤ 9223372036854775807 then (if t177.toList = ((t178 ++ (⟨#[32]⟩ : ByteArray)) ++ t179).toList then ((selvedgelaw03_works.f kj3).bind fun t180 => (some t180)) else (some false)) else (none))) else (none))) = some r := H
      have A11 := Aside0.mk A110
      clear A110
      replace H := Option.bind_eq_some_iff.mp H
      obtain ⟨t178, A120, H⟩ := H
      replace H : (if t178.size + 1 ≤ 9223372036854775807 then ((charref_Decode.f kj3 a1 a2).bind fun t179 => (if (t178 ++ (⟨#[32]⟩ : ByteArray)).size + t179.size ≤ 9223372036854775807 then (if t177.toList = ((t178 ++ (⟨#[32]⟩ : ByteArray)) ++ t179).toList then ((selvedgelaw03_works.f kj3).bind fun t180 => (some t180)) else (some false)) else (none))) else (none)) = some r := H
      have A12 := Aside0.mk A120
      clear A120
      by_cases c13 : t178.size + 1 ≤ 9223372036854775807
      ·rw [if_pos c13] at H
       have c13b0 := eq_true c13
       have c13b1 : decide (t178.size + 1 ≤ 9223372036854775807) = true := decide_eq_true c13
       try have c13b2 : (9223372036854775807 < t178.size + 1) = False := eq_false (Nat.not_lt.2 c13)
       replace H := Option.bind_eq_some_iff.mp H
       obtain ⟨t179, A140, H⟩ := H
       replace H : (if (t178 ++ (⟨#[32]⟩ : ByteArray)).size + t179.size ≤ 9223372036854775807 then (if t177.toList = ((t178 ++ (⟨#[32]⟩ : ByteArray)) ++ t179).toList then ((selvedgelaw03_works.f kj3).bind fun t180 => (some t180)) else (some false)) else (none)) = some r := H
       have A14 := Aside0.mk A140
       clear A140
       by_cases c15 : (t178 ++ (⟨#[32]⟩ : ByteArray)).size + t179.size ≤ 9223372036854775807
       ·rw [if_pos c15] at H
        have c15b0 := eq_true c15
        have c15b1 : decide ((t178 ++ (⟨#[32]⟩ : ByteArray)).size + t179.size ≤ 9223372036854775807) = true := decide_eq_true c15
        try have c15b2 : (9223372036854775807 < (t178 ++ (⟨#[32]⟩ : ByteArray)).size + t179.size) = False := eq_false (Nat.not_lt.2 c15)
        try have c15m_ := c15
        try simp only [ByteArray.size_append, show ((⟨#[32]⟩ : ByteArray)).size = 1 from rfl] at c15m_
        try push_cast at c15m_
        try simp only [Int.not_lt, Int.not_le, Nat.not_lt, Nat.not_le, gt_iff_lt, ge_iff_le] at c15m_
        try have c15k_ := Nat.not_lt.2 c15m_
        by_cases c16 : t177.toList = ((t178 ++ (⟨#[32]⟩ : ByteArray)) ++ t179).toList
        ·rw [if_pos c16] at H
         have c16b0 : (t177.toList == ((t178 ++ (⟨#[32]⟩ : ByteArray)) ++ t179).toList) = true := beq_iff_eq.mpr c16
         have c16b1 : (t177.toList != ((t178 ++ (⟨#[32]⟩ : ByteArray)) ++ t179).toList) = false := bne_eq_false_iff_eq.mpr c16
         clear c16
         replace H := Option.bind_eq_some_iff.mp H
         obtain ⟨t180, A170, H⟩ := H
         replace H : (some t180) = some r := H
         have A17 := Aside0.mk A170
         clear A170
         obtain rfl := Option.some.inj H
         go_wp2_with (first | ((with_reducible refine gate_callee (f := 10) rfl ?_); refine goesL_ (some 21) rfl rfl Tryd.func10 (by kernel_rfl) rfl #[.string ((a0 ++ (⟨#[32]⟩ : ByteArray)) ++ a1), .bool a2] rfl (by (try simp only [List.map_toArray, List.map_cons, List.map_nil]); first | done | rfl | (simp only [List.length_drop, List.length_take]; rfl)) ?_; (with_reducible refine (charref_Decode.calls kj3 ((a0 ++ (⟨#[32]⟩ : ByteArray)) ++ a1) a2 t177 _ ?side1 A11.out).mono ?_); (case side1 => exact GW_below hG (by repeat (first | (with_reducible first | exact HB.out | apply below_alloc | apply pw_below_drewN | apply below_drew1) | exact HB.out))); rintro e w18 ⟨rfl, hb⟩; refine ⟨_, rfl, ?_⟩; have n0_ := Aside0.mk (below_step (by repeat (first | (with_reducible first | exact HB.out | apply below_alloc | apply pw_below_drewN | apply below_drew1) | exact HB.out)) hb); clear HB; have HB := n0_; clear n0_; (try clear hb); (try clear hb2); (try clear hk); (try clear hi)) | ((with_reducible refine gate_callee (f := 10) rfl ?_); refine goesL_ (some 24) rfl rfl Tryd.func10 (by kernel_rfl) rfl #[.string a0, .bool a2] rfl (by (try simp only [List.map_toArray, List.map_cons, List.map_nil]); first | done | rfl | (simp only [List.length_drop, List.length_take]; rfl)) ?_; (with_reducible refine (charref_Decode.calls kj3 a0 a2 t178 _ ?side1 A12.out).mono ?_); (case side1 => exact GW_below hG (by repeat (first | (with_reducible first | exact HB.out | apply below_alloc | apply pw_below_drewN | apply below_drew1) | exact HB.out))); rintro e w19 ⟨rfl, hb⟩; refine ⟨_, rfl, ?_⟩; have n0_ := Aside0.mk (below_step (by repeat (first | (with_reducible first | exact HB.out | apply below_alloc | apply pw_below_drewN | apply below_drew1) | exact HB.out)) hb); clear HB; have HB := n0_; clear n0_; (try clear hb); (try clear hb2); (try clear hk); (try clear hi)) | ((with_reducible refine gate_callee (f := 10) rfl ?_); refine goesL_ (some 28) rfl rfl Tryd.func10 (by kernel_rfl) rfl #[.string a1, .bool a2] rfl (by (try simp only [List.map_toArray, List.map_cons, List.map_nil]); first | done | rfl | (simp only [List.length_drop, List.length_take]; rfl)) ?_; (with_reducible refine (charref_Decode.calls kj3 a1 a2 t179 _ ?side1 A14.out).mono ?_); (case side1 => exact GW_below hG (by repeat (first | (with_reducible first | exact HB.out | apply below_alloc | apply pw_below_drewN | apply below_drew1) | exact HB.out))); rintro e w20 ⟨rfl, hb⟩; refine ⟨_, rfl, ?_⟩; have n0_ := Aside0.mk (below_step (by repeat (first | (with_reducible first | exact HB.out | apply below_alloc | apply pw_below_drewN | apply below_drew1) | exact HB.out)) hb); clear HB; have HB := n0_; clear n0_; (try clear hb); (try clear hb2); (try clear hk); (try clear hi)) | (go_at_call 9; (with_reducible refine (selvedgelaw03_works.calls kj3  t180 _ ?side1 A17.out).mono ?_); (case side1 => exact GW_below hG (by repeat (first | (with_reducible first | exact HB.out | apply below_alloc | apply pw_below_drewN | apply below_drew1) | exact HB.out))); rintro e w21 ⟨rfl, hb⟩; have n0_ := Aside0.mk (below_step (by repeat (first | (with_reducible first | exact HB.out | apply below_alloc | apply pw_below_drewN | apply below_drew1) | exact HB.out)) hb); clear HB; have HB := n0_; clear n0_; (try clear hb); (try clear hb2); (try clear hk); (try clear hi)))
         go_ret
         exact ⟨by first | rfl | (simp [errW_none, errW_some] <;> rfl) | (simp [*, errW_none, errW_some] <;> rfl), by repeat (first | (with_reducible first | exact HB.out | apply below_alloc | apply pw_below_drewN | apply below_drew1) | exact HB.out)⟩
        ·rw [if_neg c16] at H
         have c16b0 : (t177.toList == ((t178 ++ (⟨#[32]⟩ : ByteArray)) ++ t179).toList) = false := beq_eq_false_iff_ne.mpr c16
         have c16b1 : (t177.toList != ((t178 ++ (⟨#[32]⟩ : ByteArray)) ++ t179).toList) = true := bne_iff_ne.mpr c16
         obtain rfl := Option.some.inj H
         go_wp2_with (first | ((with_reducible refine gate_callee (f := 10) rfl ?_); refine goesL_ (some 21) rfl rfl Tryd.func10 (by kernel_rfl) rfl #[.string ((a0 ++ (⟨#[32]⟩ : ByteArray)) ++ a1), .bool a2] rfl (by (try simp only [List.map_toArray, List.map_cons, List.map_nil]); first | done | rfl | (simp only [List.length_drop, List.length_take]; rfl)) ?_; (with_reducible refine (charref_Decode.calls kj3 ((a0 ++ (⟨#[32]⟩ : ByteArray)) ++ a1) a2 t177 _ ?side1 A11.out).mono ?_); (case side1 => exact GW_below hG (by repeat (first | (with_reducible first | exact HB.out | apply below_alloc | apply pw_below_drewN | apply below_drew1) | exact HB.out))); rintro e w22 ⟨rfl, hb⟩; refine ⟨_, rfl, ?_⟩; have n0_ := Aside0.mk (below_step (by repeat (first | (with_reducible first | exact HB.out | apply below_alloc | apply pw_below_drewN | apply below_drew1) | exact HB.out)) hb); clear HB; have HB := n0_; clear n0_; (try clear hb); (try clear hb2); (try clear hk); (try clear hi)) | ((with_reducible refine gate_callee (f := 10) rfl ?_); refine goesL_ (some 24) rfl rfl Tryd.func10 (by kernel_rfl) rfl #[.string a0, .bool a2] rfl (by (try simp only [List.map_toArray, List.map_cons, List.map_nil]); first | done | rfl | (simp only [List.length_drop, List.length_take]; rfl)) ?_; (with_reducible refine (charref_Decode.calls kj3 a0 a2 t178 _ ?side1 A12.out).mono ?_); (case side1 => exact GW_below hG (by repeat (first | (with_reducible first | exact HB.out | apply below_alloc | apply pw_below_drewN | apply below_drew1) | exact HB.out))); rintro e w23 ⟨rfl, hb⟩; refine ⟨_, rfl, ?_⟩; have n0_ := Aside0.mk (below_step (by repeat (first | (with_reducible first | exact HB.out | apply below_alloc | apply pw_below_drewN | apply below_drew1) | exact HB.out)) hb); clear HB; have HB := n0_; clear n0_; (try clear hb); (try clear hb2); (try clear hk); (try clear hi)) | ((with_reducible refine gate_callee (f := 10) rfl ?_); refine goesL_ (some 28) rfl rfl Tryd.func10 (by kernel_rfl) rfl #[.string a1, .bool a2] rfl (by (try simp only [List.map_toArray, List.map_cons, List.map_nil]); first | done | rfl | (simp only [List.length_drop, List.length_take]; rfl)) ?_; (with_reducible refine (charref_Decode.calls kj3 a1 a2 t179 _ ?side1 A14.out).mono ?_); (case side1 => exact GW_below hG (by repeat (first | (with_reducible first | exact HB.out | apply below_alloc | apply pw_below_drewN | apply below_drew1) | exact HB.out))); rintro e w24 ⟨rfl, hb⟩; refine ⟨_, rfl, ?_⟩; have n0_ := Aside0.mk (below_step (by repeat (first | (with_reducible first | exact HB.out | apply below_alloc | apply pw_below_drewN | apply below_drew1) | exact HB.out)) hb); clear HB; have HB := n0_; clear n0_; (try clear hb); (try clear hb2); (try clear hk); (try clear hi)))
         go_ret
         exact ⟨by first | rfl | (simp [errW_none, errW_some] <;> rfl) | (simp [*, errW_none, errW_some] <;> rfl), by repeat (first | (with_reducible first | exact HB.out | apply below_alloc | apply pw_below_drewN | apply below_drew1) | exact HB.out)⟩
       ·rw [if_neg c15] at H
        exact absurd H (by simp)
      ·rw [if_neg c13] at H
       exact absurd H (by simp)
     ·rw [if_neg c10] at H
      exact absurd H (by simp)
    ·rw [if_neg c9] at H
     exact absurd H (by simp)

end Go.Proofs.YtablhjobjmmpnaaDoor.Q
