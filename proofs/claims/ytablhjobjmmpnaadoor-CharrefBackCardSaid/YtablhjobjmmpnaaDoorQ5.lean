-- laid by this session's own program (wip/qprint.sh: the kit's printer, forked by wip/fork_print.py)
import Derived.Test.YtablhjobjmmpnaaDoorQ0
import Derived.Test.YtablhjobjmmpnaaDoorQ1
import Derived.Test.YtablhjobjmmpnaaDoorQ4
import Derived.Test.YtablhjobjmmpnaaDoorT
namespace Go.Proofs.YtablhjobjmmpnaaDoor.Q
open Go.RowKit Go.Proofs.YtablhjobjmmpnaaDoorW.PrintWords Go.Proofs.YtablhjobjmmpnaaDoorW.PrintLast Go.Proofs.YtablhjobjmmpnaaDoorW.PrintMore
attribute [local go_sem] max2_int min2_int max_two min_two max_three min_three max_four min_four   -- for this text's walks alone
set_option linter.unusedVariables false
set_option linter.unusedSimpArgs false

/-! ### selvedgeref03_Find: function 22 -/
def selvedgeref03_Find.l0 : Nat → ByteArray → Bool → List (S35) → ByteArray → Int → Int → Option (Int × Int × Bool)
 | 0, _, _, _, _, _, _ => none
 | k + 1, x0, x1, x10, x11, x12, x13 => if x13 < (x10.length : Int) then (if 0 ≤ x13 then (if 1 + ((rd_T35 x10 x13).f0).size ≤ 9223372036854775807 then ((selvedgeref03_begins.f x0 ((⟨#[38]⟩ : ByteArray) ++ ((rd_T35 x10 x13).f0))).bind fun t123 => (if t123 = true then (if ((⟨#[38]⟩ : ByteArray) ++ ((rd_T35 x10 x13).f0)).size + 1 ≤ 9223372036854775807 then ((selvedgeref03_begins.f x0 (((⟨#[38]⟩ : ByteArray) ++ ((rd_T35 x10 x13).f0)) ++ (⟨#[59]⟩ : ByteArray))).bind fun t124 => (if t124 = true then (if ((((⟨#[38]⟩ : ByteArray) ++ ((rd_T35 x10 x13).f0)) ++ (⟨#[59]⟩ : ByteArray)).size : Int) > (x11.size : Int) then (selvedgeref03_Find.l0 k x0 x1 x10 (((⟨#[38]⟩ : ByteArray) ++ ((rd_T35 x10 x13).f0)) ++ (⟨#[59]⟩ : ByteArray)) ((rd_T35 x10 x13).f1) (wrap64 (x13 + 1))) else (selvedgeref03_Find.l0 k x0 x1 x10 x11 x12 (wrap64 (x13 + 1)))) else (if ((rd_T35 x10 x13).f2 = true) then (if (((⟨#[38]⟩ : ByteArray) ++ ((rd_T35 x10 x13).f0)).size : Int) > (x11.size : Int) then (selvedgeref03_Find.l0 k x0 x1 x10 ((⟨#[38]⟩ : ByteArray) ++ ((rd_T35 x10 x13).f0)) ((rd_T35 x10 x13).f1) (wrap64 (x13 + 1))) else (selvedgeref03_Find.l0 k x0 x1 x10 x11 x12 (wrap64 (x13 + 1)))) else (selvedgeref03_Find.l0 k x0 x1 x10 x11 x12 (wrap64 (x13 + 1)))))) else (none)) else (selvedgeref03_Find.l0 k x0 x1 x10 x11 x12 (wrap64 (x13 + 1))))) else (none)) else (none)) else (if (x11.size : Int) = 0 then (some (0, 0, false)) else (if x1 = true then (if 0 ≤ (wrap64 ((x11.size : Int) - 1)) then (if (wrap64 ((x11.size : Int) - 1)) < (x11.size : Int) then (if (bt x11 (wrap64 ((x11.size : Int) - 1))) = 59 then (some (x12, (x11.size : Int), true)) else (if (x11.size : Int) < (x0.size : Int) then (if 0 ≤ (x11.size : Int) then (if (bt x0 (x11.size : Int)) = 61 then (some (0, 0, false)) else ((selvedgeref03_alnum.f (bt x0 (x11.size : Int))).bind fun t121 => (if t121 = true then (some (0, 0, false)) else (some (x12, (x11.size : Int), true))))) else (none)) else (some (x12, (x11.size : Int), true)))) else (none)) else (none)) else (some (x12, (x11.size : Int), true))))
def selvedgeref03_Find.f (k : Nat) (a0 : ByteArray) (a1 : Bool) : Option (Int × Int × Bool) := (selvedgeref03_begins.f a0 (⟨#[38]⟩ : ByteArray)).bind fun t113 => (if t113 = true then ((selvedgeref03_begins.f a0 (⟨#[38, 35]⟩ : ByteArray)).bind fun t114 => (if t114 = true then (if 2 ≤ (a0.size : Int) then ((selvedgeref03_number.f k (a0.extract 2 a0.size)).bind fun bt115 => (if bt115.2.2 = true then (some (bt115.1, wrap64 (bt115.2.1 + 2), true)) else (some (0, 0, false)))) else (none)) else ((selvedgeref03_Names.f k).bind fun t118 => (selvedgeref03_Find.l0 k a0 a1 t118 (⟨#[]⟩ : ByteArray) 0 0)))) else (some (0, 0, false)))
theorem selvedgeref03_Find.mono_l : ∀ k, (∀ y0 y1 y2 y3 y4 y5, LeO (selvedgeref03_Find.l0 k y0 y1 y2 y3 y4 y5) (selvedgeref03_Find.l0 (k + 1) y0 y1 y2 y3 y4 y5))
 | 0 => fun _ _ _ _ _ _ r h => by simp [selvedgeref03_Find.l0] at h
 | k + 1 => by
  have ih0 := selvedgeref03_Find.mono_l k
  ·intro y0 y1 y2 y3 y4 y5
   unfold selvedgeref03_Find.l0
   repeat' first
   | (with_reducible exact ih0 _ _ _ _ _ _)
   | (with_reducible exact selvedgeref03_Names.mono _)
   | (with_reducible exact selvedgeref03_number.mono _ _)
   | (with_reducible exact LeO.refl _)
   | (with_reducible exact LeO.none _)
   | (with_reducible refine LeO.ite ?_ ?_)
   | (with_reducible refine LeO.bind ?_ (fun _ => ?_))
   | exact ih0 _ _ _ _ _ _
   | exact selvedgeref03_Names.mono _
   | exact selvedgeref03_number.mono _ _
   | exact LeO.none _
   | refine LeO.ite ?_ ?_
   | refine LeO.bind ?_ (fun _ => ?_)
theorem selvedgeref03_Find.mono : ∀ a0 a1 k, LeO (selvedgeref03_Find.f k a0 a1) (selvedgeref03_Find.f (k + 1) a0 a1) := by
 intro a0 a1 k
 have ih0 := selvedgeref03_Find.mono_l k
 unfold selvedgeref03_Find.f
 repeat' first
   | (with_reducible exact ih0 _ _ _ _ _ _)
   | (with_reducible exact selvedgeref03_Names.mono _)
   | (with_reducible exact selvedgeref03_number.mono _ _)
   | (with_reducible exact LeO.refl _)
   | (with_reducible exact LeO.none _)
   | (with_reducible refine LeO.ite ?_ ?_)
   | (with_reducible refine LeO.bind ?_ (fun _ => ?_))
   | exact ih0 _ _ _ _ _ _
   | exact selvedgeref03_Names.mono _
   | exact selvedgeref03_number.mono _ _
   | exact LeO.none _
   | refine LeO.ite ?_ ?_
   | refine LeO.bind ?_ (fun _ => ?_)
set_option maxHeartbeats 8000000 in
set_option maxRecDepth 100000 in
theorem selvedgeref03_Find.calls (k : Nat) (a0 : ByteArray) (a1 : Bool) (r1 : Int) (r2 : Int) (r3 : Bool) (w : World) (h : selvedgeref03_Find.f k a0 a1 = some (r1, r2, r3)) :
  Calls Tryd.prog 22 #[.string a0, .bool a1] w fun e w' => e = .returned (.tuple #[.int .i32 r1, .int .i64 r2, .bool r3]) ∧ Below w.heap.size w w' := by
 have HB := Aside0.mk (Below.refl w.heap.size w)
 have H : ((selvedgeref03_begins.f a0 (⟨#[38]⟩ : ByteArray)).bind fun t113 => (if t113 = true then ((selvedgeref03_begins.f a0 (⟨#[38, 35]⟩ : ByteArray)).bind fun t114 => (if t114 = true then (if 2 ≤ (a0.size : Int) then ((selvedgeref03_number.f k (a0.extract 2 a0.size)).bind fun bt115 => (if bt115.2.2 = true then (some (bt115.1, wrap64 (bt115.2.1 + 2), true)) else (some (0, 0, false)))) else (none)) else ((selvedgeref03_Names.f k).bind fun t118 => (selvedgeref03_Find.l0 k a0 a1 t118 (⟨#[]⟩ : ByteArray) 0 0)))) else (some (0, 0, false)))) = some (r1, r2, r3) := h
 clear h
 replace H := Option.bind_eq_some_iff.mp H
 obtain ⟨t113, A30, H⟩ := H
 replace H : (if t113 = true then ((selvedgeref03_begins.f a0 (⟨#[38, 35]⟩ : ByteArray)).bind fun t114 => (if t114 = true then (if 2 ≤ (a0.size : Int) then ((selvedgeref03_number.f k (a0.extract 2 a0.size)).bind fun bt115 => (if bt115.2.2 = true then (some (bt115.1, wrap64 (bt115.2.1 + 2), true)) else (some (0, 0, false)))) else (none)) else ((selvedgeref03_Names.f k).bind fun t118 => (selvedgeref03_Find.l0 k a0 a1 t118 (⟨#[]⟩ : ByteArray) 0 0)))) else (some (0, 0, false))) = some (r1, r2, r3) := H
 have A3 := Aside0.mk A30
 clear A30
 by_cases c4 : t113 = true
 ·subst c4
  have H1 : ((selvedgeref03_begins.f a0 (⟨#[38, 35]⟩ : ByteArray)).bind fun t114 => (if t114 = true then (if 2 ≤ (a0.size : Int) then ((selvedgeref03_number.f k (a0.extract 2 a0.size)).bind fun bt115 => (if bt115.2.2 = true then (some (bt115.1, wrap64 (bt115.2.1 + 2), true)) else (some (0, 0, false)))) else (none)) else ((selvedgeref03_Names.f k).bind fun t118 => (selvedgeref03_Find.l0 k a0 a1 t118 (⟨#[]⟩ : ByteArray) 0 0)))) = some (r1, r2, r3) := by rw [if_pos rfl] at H; exact H
  clear H
  have H := H1
  clear H1
  replace H := Option.bind_eq_some_iff.mp H
  obtain ⟨t114, A50, H⟩ := H
  replace H : (if t114 = true then (if 2 ≤ (a0.size : Int) then ((selvedgeref03_number.f k (a0.extract 2 a0.size)).bind fun bt115 => (if bt115.2.2 = true then (some (bt115.1, wrap64 (bt115.2.1 + 2), true)) else (some (0, 0, false)))) else (none)) else ((selvedgeref03_Names.f k).bind fun t118 => (selvedgeref03_Find.l0 k a0 a1 t118 (⟨#[]⟩ : ByteArray) 0 0))) = some (r1, r2, r3) := H
  have A5 := Aside0.mk A50
  clear A50
  by_cases c6 : t114 = true
  ·subst c6
   have H1 : (if 2 ≤ (a0.size : Int) then ((selvedgeref03_number.f k (a0.extract 2 a0.size)).bind fun bt115 => (if bt115.2.2 = true then (some (bt115.1, wrap64 (bt115.2.1 + 2), true)) else (some (0, 0, false)))) else (none)) = some (r1, r2, r3) := by rw [if_pos rfl] at H; exact H
   clear H
   have H := H1
   clear H1
   by_cases c7 : 2 ≤ (a0.size : Int)
   ·rw [if_pos c7] at H
    have c7b0 := eq_true c7
    have c7b1 : decide (2 ≤ (a0.size : Int)) = true := decide_eq_true c7
    clear c7
    replace H := Option.bind_eq_some_iff.mp H
    obtain ⟨⟨t115, t116, t117⟩, A80, H⟩ := H
    replace H : (if t117 = true then (some (t115, wrap64 (t116 + 2), true)) else (some (0, 0, false))) = some (r1, r2, r3) := H
    have A8 := Aside0.mk A80
    clear A80
    by_cases c9 : t117 = true
    ·subst c9
     have H1 : (some (t115, wrap64 (t116 + 2), true)) = some (r1, r2, r3) := by rw [if_pos rfl] at H; exact H
     clear H
     have H := H1
     clear H1
     simp only [Option.some.injEq, Prod.mk.injEq] at H
     obtain ⟨rfl, rfl, rfl⟩ := H
     go_enter Tryd.func22, Tryd.ntmps22
     go_wp2_with (first | ((with_reducible refine gate_callee (f := 33) rfl ?_); refine goesL_ (some 17) rfl rfl Tryd.func33 (by kernel_rfl) rfl #[.string a0, .string (⟨#[38]⟩ : ByteArray)] rfl (by (try simp only [List.map_toArray, List.map_cons, List.map_nil]); first | done | rfl | (simp only [List.length_drop, List.length_take]; rfl)) ?_; (with_reducible refine (selvedgeref03_begins.calls a0 (⟨#[38]⟩ : ByteArray) true _ A3.out).mono ?_); rintro e w' ⟨rfl, ⟨nd, rfl⟩⟩; refine ⟨_, rfl, ?_⟩) | ((with_reducible refine gate_callee (f := 33) rfl ?_); refine goesL_ (some 20) rfl rfl Tryd.func33 (by kernel_rfl) rfl #[.string a0, .string (⟨#[38, 35]⟩ : ByteArray)] rfl (by (try simp only [List.map_toArray, List.map_cons, List.map_nil]); first | done | rfl | (simp only [List.length_drop, List.length_take]; rfl)) ?_; (with_reducible refine (selvedgeref03_begins.calls a0 (⟨#[38, 35]⟩ : ByteArray) true _ A5.out).mono ?_); rintro e w' ⟨rfl, ⟨nd, rfl⟩⟩; refine ⟨_, rfl, ?_⟩) | ((with_reducible refine gate_callee (f := 34) rfl ?_); refine goesL_ (some 24) rfl rfl Tryd.func34 (by kernel_rfl) rfl #[.string (a0.extract 2 a0.size)] rfl (by (try simp only [List.map_toArray, List.map_cons, List.map_nil]); first | done | rfl | (simp only [List.length_drop, List.length_take]; rfl)) ?_; (with_reducible refine (selvedgeref03_number.calls k (a0.extract 2 a0.size) t115 t116 true _ A8.out).mono ?_); rintro e w10 ⟨rfl, hb⟩; refine ⟨_, rfl, ?_⟩; have n0_ := Aside0.mk (below_step (by repeat (first | (with_reducible first | exact HB.out | apply below_alloc | apply pw_below_drewN | apply below_drew1) | exact HB.out)) hb); clear HB; have HB := n0_; clear n0_; (try clear hb); (try clear hb2); (try clear hk); (try clear hi)))
     go_ret3
     exact ⟨by first | rfl | (simp [errW_none, errW_some] <;> rfl) | (simp [*, errW_none, errW_some] <;> rfl), by repeat (first | (with_reducible first | exact HB.out | apply below_alloc | apply pw_below_drewN | apply below_drew1) | exact HB.out)⟩
    ·replace c9 := Bool.eq_false_iff.mpr c9
     subst c9
     have H1 : (some (0, 0, false)) = some (r1, r2, r3) := by rw [if_neg (show ¬ (false = true) by decide)] at H; exact H
     clear H
     have H := H1
     clear H1
     simp only [Option.some.injEq, Prod.mk.injEq] at H
     obtain ⟨rfl, rfl, rfl⟩ := H
     go_enter Tryd.func22, Tryd.ntmps22
     go_wp2_with (first | ((with_reducible refine gate_callee (f := 33) rfl ?_); refine goesL_ (some 17) rfl rfl Tryd.func33 (by kernel_rfl) rfl #[.string a0, .string (⟨#[38]⟩ : ByteArray)] rfl (by (try simp only [List.map_toArray, List.map_cons, List.map_nil]); first | done | rfl | (simp only [List.length_drop, List.length_take]; rfl)) ?_; (with_reducible refine (selvedgeref03_begins.calls a0 (⟨#[38]⟩ : ByteArray) true _ A3.out).mono ?_); rintro e w' ⟨rfl, ⟨nd, rfl⟩⟩; refine ⟨_, rfl, ?_⟩) | ((with_reducible refine gate_callee (f := 33) rfl ?_); refine goesL_ (some 20) rfl rfl Tryd.func33 (by kernel_rfl) rfl #[.string a0, .string (⟨#[38, 35]⟩ : ByteArray)] rfl (by (try simp only [List.map_toArray, List.map_cons, List.map_nil]); first | done | rfl | (simp only [List.length_drop, List.length_take]; rfl)) ?_; (with_reducible refine (selvedgeref03_begins.calls a0 (⟨#[38, 35]⟩ : ByteArray) true _ A5.out).mono ?_); rintro e w' ⟨rfl, ⟨nd, rfl⟩⟩; refine ⟨_, rfl, ?_⟩) | ((with_reducible refine gate_callee (f := 34) rfl ?_); refine goesL_ (some 24) rfl rfl Tryd.func34 (by kernel_rfl) rfl #[.string (a0.extract 2 a0.size)] rfl (by (try simp only [List.map_toArray, List.map_cons, List.map_nil]); first | done | rfl | (simp only [List.length_drop, List.length_take]; rfl)) ?_; (with_reducible refine (selvedgeref03_number.calls k (a0.extract 2 a0.size) t115 t116 false _ A8.out).mono ?_); rintro e w11 ⟨rfl, hb⟩; refine ⟨_, rfl, ?_⟩; have n0_ := Aside0.mk (below_step (by repeat (first | (with_reducible first | exact HB.out | apply below_alloc | apply pw_below_drewN | apply below_drew1) | exact HB.out)) hb); clear HB; have HB := n0_; clear n0_; (try clear hb); (try clear hb2); (try clear hk); (try clear hi)))
     go_ret3
     exact ⟨by first | rfl | (simp [errW_none, errW_some] <;> rfl) | (simp [*, errW_none, errW_some] <;> rfl), by repeat (first | (with_reducible first | exact HB.out | apply below_alloc | apply pw_below_drewN | apply below_drew1) | exact HB.out)⟩
   ·rw [if_neg c7] at H
    exact absurd H (by simp)
  ·replace c6 := Bool.eq_false_iff.mpr c6
   subst c6
   have H1 : ((selvedgeref03_Names.f k).bind fun t118 => (selvedgeref03_Find.l0 k a0 a1 t118 (⟨#[]⟩ : ByteArray) 0 0)) = some (r1, r2, r3) := by rw [if_neg (show ¬ (false = true) by decide)] at H; exact H
   clear H
   have H := H1
   clear H1
   replace H := Option.bind_eq_some_iff.mp H
   obtain ⟨t118, A120, H⟩ := H
   replace H : (selvedgeref03_Find.l0 k a0 a1 t118 (⟨#[]⟩ : ByteArray) 0 0) = some (r1, r2, r3) := H
   have A12 := Aside0.mk A120
   clear A120
   have H' := Aside0.mk H
   clear H
   go_enter Tryd.func22, Tryd.ntmps22
   go_wp2_with (first | ((with_reducible refine gate_callee (f := 33) rfl ?_); refine goesL_ (some 17) rfl rfl Tryd.func33 (by kernel_rfl) rfl #[.string a0, .string (⟨#[38]⟩ : ByteArray)] rfl (by (try simp only [List.map_toArray, List.map_cons, List.map_nil]); first | done | rfl | (simp only [List.length_drop, List.length_take]; rfl)) ?_; (with_reducible refine (selvedgeref03_begins.calls a0 (⟨#[38]⟩ : ByteArray) true _ A3.out).mono ?_); rintro e w' ⟨rfl, ⟨nd, rfl⟩⟩; refine ⟨_, rfl, ?_⟩) | ((with_reducible refine gate_callee (f := 33) rfl ?_); refine goesL_ (some 20) rfl rfl Tryd.func33 (by kernel_rfl) rfl #[.string a0, .string (⟨#[38, 35]⟩ : ByteArray)] rfl (by (try simp only [List.map_toArray, List.map_cons, List.map_nil]); first | done | rfl | (simp only [List.length_drop, List.length_take]; rfl)) ?_; (with_reducible refine (selvedgeref03_begins.calls a0 (⟨#[38, 35]⟩ : ByteArray) false _ A5.out).mono ?_); rintro e w' ⟨rfl, ⟨nd, rfl⟩⟩; refine ⟨_, rfl, ?_⟩) | ((with_reducible refine gate_callee (f := 14) rfl ?_); refine goesL_ (some 33) rfl rfl Tryd.func14 (by kernel_rfl) rfl #[] rfl (by (try simp only [List.map_toArray, List.map_cons, List.map_nil]); first | done | rfl | (simp only [List.length_drop, List.length_take]; rfl)) ?_; (with_reducible refine (selvedgeref03_Names.calls k  t118 _ A12.out).mono ?_); rintro e w13 ⟨v119, rfl, ho0, hb⟩; refine ⟨_, rfl, ?_⟩; have n0_ := Aside0.mk (Kd.R_lower ho0 (below_size (by repeat (first | (with_reducible first | exact HB.out | apply below_alloc | apply pw_below_drewN | apply below_drew1) | exact HB.out)))); have n1_ := Aside0.mk (below_step (by repeat (first | (with_reducible first | exact HB.out | apply below_alloc | apply pw_below_drewN | apply below_drew1) | exact HB.out)) hb); clear HB; have HO120 := n0_; have HB := n1_; clear n0_ n1_; (try clear hb); (try clear hb2); (try clear hk); (try clear hi); (try clear ho0)))
   go_loopg [11, 12, 13] k (fun kq v11 v12 v13 w' => ∃ (x11_1 : ByteArray) (x12_1 : Int) (x13_1 : Int), v11 = .string x11_1 ∧ v12 = .int .i32 x12_1 ∧ v13 = .int .i64 x13_1 ∧ Aside0 (selvedgeref03_Find.l0 kq a0 a1 t118 x11_1 x12_1 x13_1 = some (r1, r2, r3)) ∧ Aside0 (kq ≤ k) ∧ Aside0 (Kd.R k35 35 w' w.heap.size (fun _ => True) v119 t118) ∧ Aside0 (Below w.heap.size w w'))
   case atStart => exact ⟨((⟨#[]⟩ : ByteArray)), (0), (0), (by first | rfl | (simp; done) | (simp [*]; done)), (by first | rfl | (simp; done) | (simp [*]; done)), (by first | rfl | (simp; done) | (simp [*]; done)), H', ⟨Nat.le_refl _⟩, ⟨by (with_reducible repeat (first | apply Kd.R_alloc | apply Kd.R_drewN | apply Kd.R_drew)); exact HO120.out⟩, ⟨by repeat (first | (with_reducible first | exact HB.out | apply below_alloc | apply pw_below_drewN | apply below_drew1) | exact HB.out)⟩⟩
   case round =>
    clear H'
    try clear c1
    try clear c2
    try clear p2
    try clear c3
    try clear c4
    try clear c6
    try clear p6
    try clear c7
    try clear c7b0
    try clear c7b1
    try clear c9
    obtain ⟨x11_1, x12_1, x13_1, rfl, rfl, rfl, HA, HK1, HO_10, HB⟩ := hrel
    cases gk with
    | zero => exact absurd HA.out (by simp [selvedgeref03_Find.l0])
    | succ k1 =>
     have H := HA.out
     clear HA
     simp only [selvedgeref03_Find.l0] at H
     by_cases c14 : x13_1 < (t118.length : Int)
     ·rw [if_pos c14] at H
      have c14b0 : decide (x13_1 < (t118.length : Int)) = true := decide_eq_true c14
      clear c14
      by_cases c15 : 0 ≤ x13_1
      ·rw [if_pos c15] at H
       have c15b0 : decide (0 ≤ x13_1) = true := decide_eq_true c15
       clear c15
       by_cases c16 : 1 + ((rd_T35 t118 x13_1).f0).size ≤ 9223372036854775807
       ·rw [if_pos c16] at H
        have c16b0 := eq_true c16
        have c16b1 : decide (1 + ((rd_T35 t118 x13_1).f0).size ≤ 9223372036854775807) = true := decide_eq_true c16
        try have c16b2 : (9223372036854775807 < 1 + ((rd_T35 t118 x13_1).f0).size) = False := eq_false (Nat.not_lt.2 c16)
        replace H := Option.bind_eq_some_iff.mp H
        obtain ⟨t123, A170, H⟩ := H
        replace H : (if t123 = true then (if ((⟨#[38]⟩ : ByteArray) ++ ((rd_T35 t118 x13_1).f0)).size + 1 ≤ 9223372036854775807 then ((selvedgeref03_begins.f a0 (((⟨#[38]⟩ : ByteArray) ++ ((rd_T35 t118 x13_1).f0)) ++ (⟨#[59]⟩ : ByteArray))).bind fun t124 => (if t124 = true then (if ((((⟨#[38]⟩ : ByteArray) ++ ((rd_T35 t118 x13_1).f0)) ++ (⟨#[59]⟩ : ByteArray)).size : Int) > (x11_1.size : Int) then (selvedgeref03_Find.l0 k1 a0 a1 t118 (((⟨#[38]⟩ : ByteArray) ++ ((rd_T35 t118 x13_1).f0)) ++ (⟨#[59]⟩ : ByteArray)) ((rd_T35 t118 x13_1).f1) (wrap64 (x13_1 + 1))) else (selvedgeref03_Find.l0 k1 a0 a1 t118 x11_1 x12_1 (wrap64 (x13_1 + 1)))) else (if ((rd_T35 t118 x13_1).f2 = true) then (if (((⟨#[38]⟩ : ByteArray) ++ ((rd_T35 t118 x13_1).f0)).size : Int) > (x11_1.size : Int) then (selvedgeref03_Find.l0 k1 a0 a1 t118 ((⟨#[38]⟩ : ByteArray) ++ ((rd_T35 t118 x13_1).f0)) ((rd_T35 t118 x13_1).f1) (wrap64 (x13_1 + 1))) else (selvedgeref03_Find.l0 k1 a0 a1 t118 x11_1 x12_1 (wrap64 (x13_1 + 1)))) else (selvedgeref03_Find.l0 k1 a0 a1 t118 x11_1 x12_1 (wrap64 (x13_1 + 1)))))) else (none)) else (selvedgeref03_Find.l0 k1 a0 a1 t118 x11_1 x12_1 (wrap64 (x13_1 + 1)))) = some (r1, r2, r3) := H
        have A17 := Aside0.mk A170
        clear A170
        by_cases c18 : t123 = true
        ·subst c18
         have H1 : (if ((⟨#[38]⟩ : ByteArray) ++ ((rd_T35 t118 x13_1).f0)).size + 1 ≤ 9223372036854775807 then ((selvedgeref03_begins.f a0 (((⟨#[38]⟩ : ByteArray) ++ ((rd_T35 t118 x13_1).f0)) ++ (⟨#[59]⟩ : ByteArray))).bind fun t124 => (if t124 = true then (if ((((⟨#[38]⟩ : ByteArray) ++ ((rd_T35 t118 x13_1).f0)) ++ (⟨#[59]⟩ : ByteArray)).size : Int) > (x11_1.size : Int) then (selvedgeref03_Find.l0 k1 a0 a1 t118 (((⟨#[38]⟩ : ByteArray) ++ ((rd_T35 t118 x13_1).f0)) ++ (⟨#[59]⟩ : ByteArray)) ((rd_T35 t118 x13_1).f1) (wrap64 (x13_1 + 1))) else (selvedgeref03_Find.l0 k1 a0 a1 t118 x11_1 x12_1 (wrap64 (x13_1 + 1)))) else (if ((rd_T35 t118 x13_1).f2 = true) then (if (((⟨#[38]⟩ : ByteArray) ++ ((rd_T35 t118 x13_1).f0)).size : Int) > (x11_1.size : Int) then (selvedgeref03_Find.l0 k1 a0 a1 t118 ((⟨#[38]⟩ : ByteArray) ++ ((rd_T35 t118 x13_1).f0)) ((rd_T35 t118 x13_1).f1) (wrap64 (x13_1 + 1))) else (selvedgeref03_Find.l0 k1 a0 a1 t118 x11_1 x12_1 (wrap64 (x13_1 + 1)))) else (selvedgeref03_Find.l0 k1 a0 a1 t118 x11_1 x12_1 (wrap64 (x13_1 + 1)))))) else (none)) = some (r1, r2, r3) := by rw [if_pos rfl] at H; exact H
         clear H
         have H := H1
         clear H1
         by_cases c19 : ((⟨#[38]⟩ : ByteArray) ++ ((rd_T35 t118 x13_1).f0)).size + 1 ≤ 9223372036854775807
         ·rw [if_pos c19] at H
          have c19b0 := eq_true c19
          have c19b1 : decide (((⟨#[38]⟩ : ByteArray) ++ ((rd_T35 t118 x13_1).f0)).size + 1 ≤ 9223372036854775807) = true := decide_eq_true c19
          try have c19b2 : (9223372036854775807 < ((⟨#[38]⟩ : ByteArray) ++ ((rd_T35 t118 x13_1).f0)).size + 1) = False := eq_false (Nat.not_lt.2 c19)
          try have c19m_ := c19
          try simp only [ByteArray.size_append, show ((⟨#[38]⟩ : ByteArray)).size = 1 from rfl] at c19m_
          try push_cast at c19m_
          try simp only [Int.not_lt, Int.not_le, Nat.not_lt, Nat.not_le, gt_iff_lt, ge_iff_le] at c19m_
          try have c19k_ := Nat.not_lt.2 c19m_
          replace H := Option.bind_eq_some_iff.mp H
          obtain ⟨t124, A200, H⟩ := H
          replace H : (if t124 = true then (if ((((⟨#[38]⟩ : ByteArray) ++ ((rd_T35 t118 x13_1).f0)) ++ (⟨#[59]⟩ : ByteArray)).size : Int) > (x11_1.size : Int) then (selvedgeref03_Find.l0 k1 a0 a1 t118 (((⟨#[38]⟩ : ByteArray) ++ ((rd_T35 t118 x13_1).f0)) ++ (⟨#[59]⟩ : ByteArray)) ((rd_T35 t118 x13_1).f1) (wrap64 (x13_1 + 1))) else (selvedgeref03_Find.l0 k1 a0 a1 t118 x11_1 x12_1 (wrap64 (x13_1 + 1)))) else (if ((rd_T35 t118 x13_1).f2 = true) then (if (((⟨#[38]⟩ : ByteArray) ++ ((rd_T35 t118 x13_1).f0)).size : Int) > (x11_1.size : Int) then (selvedgeref03_Find.l0 k1 a0 a1 t118 ((⟨#[38]⟩ : ByteArray) ++ ((rd_T35 t118 x13_1).f0)) ((rd_T35 t118 x13_1).f1) (wrap64 (x13_1 + 1))) else (selvedgeref03_Find.l0 k1 a0 a1 t118 x11_1 x12_1 (wrap64 (x13_1 + 1)))) else (selvedgeref03_Find.l0 k1 a0 a1 t118 x11_1 x12_1 (wrap64 (x13_1 + 1))))) = some (r1, r2, r3) := H
          have A20 := Aside0.mk A200
          clear A200
          by_cases c21 : t124 = true
          ·subst c21
           have H1 : (if ((((⟨#[38]⟩ : ByteArray) ++ ((rd_T35 t118 x13_1).f0)) ++ (⟨#[59]⟩ : ByteArray)).size : Int) > (x11_1.size : Int) then (selvedgeref03_Find.l0 k1 a0 a1 t118 (((⟨#[38]⟩ : ByteArray) ++ ((rd_T35 t118 x13_1).f0)) ++ (⟨#[59]⟩ : ByteArray)) ((rd_T35 t118 x13_1).f1) (wrap64 (x13_1 + 1))) else (selvedgeref03_Find.l0 k1 a0 a1 t118 x11_1 x12_1 (wrap64 (x13_1 + 1)))) = some (r1, r2, r3) := by rw [if_pos rfl] at H; exact H
           clear H
           have H := H1
           clear H1
           by_cases c22 : ((((⟨#[38]⟩ : ByteArray) ++ ((rd_T35 t118 x13_1).f0)) ++ (⟨#[59]⟩ : ByteArray)).size : Int) > (x11_1.size : Int)
           ·rw [if_pos c22] at H
            have c22b0 : decide ((x11_1.size : Int) < ((((⟨#[38]⟩ : ByteArray) ++ ((rd_T35 t118 x13_1).f0)) ++ (⟨#[59]⟩ : ByteArray)).size : Int)) = true := decide_eq_true c22
            have c22b1 : decide (x11_1.size < (((⟨#[38]⟩ : ByteArray) ++ ((rd_T35 t118 x13_1).f0)) ++ (⟨#[59]⟩ : ByteArray)).size) = true := decide_eq_true (Int.ofNat_lt.mp c22)
            try have c22m_ := c22
            try simp only [ByteArray.size_append, show ((⟨#[38]⟩ : ByteArray)).size = 1 from rfl, show ((⟨#[59]⟩ : ByteArray)).size = 1 from rfl] at c22m_
            try push_cast at c22m_
            try simp only [Int.not_lt, Int.not_le, Nat.not_lt, Nat.not_le, gt_iff_lt, ge_iff_le] at c22m_
            try have c22k_ := Nat.not_lt.2 c22m_
            clear c22
            have H' := Aside0.mk H
            clear H
            obtain ⟨Ao23, co23, eo23⟩ := Kd.R_slice HO_10.out
            subst eo23
            have p122 : 0 ≤ (x13_1 : Int) := of_decide_eq_true (by first | (with_reducible assumption) | assumption)
            have q122 : x13_1 < (t118.length : Int) := of_decide_eq_true (by first | (with_reducible assumption) | assumption)
            obtain ⟨ad122, e122, hx122_0, hx122_1, hx122_2⟩ := at_T35 (Kd.R_reads' HO_10.out).2.2 x13_1 p122 q122
            cases e122
            replace p122 := eq_true p122
            replace q122 := eq_true q122
            go_wp2_with (first | ((with_reducible refine gate_callee (f := 33) rfl ?_); refine goesL_ (some 48) rfl rfl Tryd.func33 (by kernel_rfl) rfl #[.string a0, .string ((⟨#[38]⟩ : ByteArray) ++ ((rd_T35 t118 x13_1).f0))] rfl (by (try simp only [List.map_toArray, List.map_cons, List.map_nil]); first | done | rfl | (simp only [List.length_drop, List.length_take]; rfl)) ?_; (with_reducible refine (selvedgeref03_begins.calls a0 ((⟨#[38]⟩ : ByteArray) ++ ((rd_T35 t118 x13_1).f0)) true _ A17.out).mono ?_); rintro e w' ⟨rfl, ⟨nd, rfl⟩⟩; refine ⟨_, rfl, ?_⟩) | ((with_reducible refine gate_callee (f := 33) rfl ?_); refine goesL_ (some 53) rfl rfl Tryd.func33 (by kernel_rfl) rfl #[.string a0, .string (((⟨#[38]⟩ : ByteArray) ++ ((rd_T35 t118 x13_1).f0)) ++ (⟨#[59]⟩ : ByteArray))] rfl (by (try simp only [List.map_toArray, List.map_cons, List.map_nil]); first | done | rfl | (simp only [List.length_drop, List.length_take]; rfl)) ?_; (with_reducible refine (selvedgeref03_begins.calls a0 (((⟨#[38]⟩ : ByteArray) ++ ((rd_T35 t118 x13_1).f0)) ++ (⟨#[59]⟩ : ByteArray)) true _ A20.out).mono ?_); rintro e w' ⟨rfl, ⟨nd, rfl⟩⟩; refine ⟨_, rfl, ?_⟩; have p125 : 0 ≤ (x13_1 : Int) := of_decide_eq_true (by first | (with_reducible assumption) | assumption); have q125 : x13_1 < (t118.length : Int) := of_decide_eq_true (by first | (with_reducible assumption) | assumption); obtain ⟨ad125, e125, hx125_0, hx125_1, hx125_2⟩ := at_T35 (Kd.R_reads' HO_10.out).2.2 x13_1 p125 q125; obtain rfl : ad122 = ad125 := (by injection e125); replace p125 := eq_true p125; replace q125 := eq_true q125))
            go_roundg k1
            case measure => have := HK1.out; omega
            case rel => exact ⟨(((⟨#[38]⟩ : ByteArray) ++ ((rd_T35 t118 x13_1).f0)) ++ (⟨#[59]⟩ : ByteArray)), ((rd_T35 t118 x13_1).f1), (wrap64 (x13_1 + 1)), (by first | rfl | (simp; done) | (simp [*]; done)), (by first | rfl | (simp; done) | (simp [*]; done)), (by first | rfl | (simp; done) | (simp [*]; done)), H', ⟨by have := HK1.out; omega⟩, ⟨by (with_reducible repeat (first | apply Kd.R_alloc | apply Kd.R_drewN | apply Kd.R_drew)); exact HO_10.out⟩, ⟨by repeat (first | (with_reducible first | exact HB.out | apply below_alloc | apply pw_below_drewN | apply below_drew1) | exact HB.out)⟩⟩
           ·rw [if_neg c22] at H
            have c22b0 : decide ((x11_1.size : Int) < ((((⟨#[38]⟩ : ByteArray) ++ ((rd_T35 t118 x13_1).f0)) ++ (⟨#[59]⟩ : ByteArray)).size : Int)) = false := decide_eq_false c22
            have c22b1 : decide (x11_1.size < (((⟨#[38]⟩ : ByteArray) ++ ((rd_T35 t118 x13_1).f0)) ++ (⟨#[59]⟩ : ByteArray)).size) = false := decide_eq_false (fun h => c22 (Int.ofNat_lt.mpr h))
            try have c22m_ := c22
            try simp only [ByteArray.size_append, show ((⟨#[38]⟩ : ByteArray)).size = 1 from rfl, show ((⟨#[59]⟩ : ByteArray)).size = 1 from rfl] at c22m_
            try push_cast at c22m_
            try simp only [Int.not_lt, Int.not_le, Nat.not_lt, Nat.not_le, gt_iff_lt, ge_iff_le] at c22m_
            try have c22k_ := Nat.not_lt.2 c22m_
            clear c22
            have H' := Aside0.mk H
            clear H
            obtain ⟨Ao24, co24, eo24⟩ := Kd.R_slice HO_10.out
            subst eo24
            have p122 : 0 ≤ (x13_1 : Int) := of_decide_eq_true (by first | (with_reducible assumption) | assumption)
            have q122 : x13_1 < (t118.length : Int) := of_decide_eq_true (by first | (with_reducible assumption) | assumption)
            obtain ⟨ad122, e122, hx122_0, hx122_1, hx122_2⟩ := at_T35 (Kd.R_reads' HO_10.out).2.2 x13_1 p122 q122
            cases e122
            replace p122 := eq_true p122
            replace q122 := eq_true q122
            go_wp2_with (first | ((with_reducible refine gate_callee (f := 33) rfl ?_); refine goesL_ (some 48) rfl rfl Tryd.func33 (by kernel_rfl) rfl #[.string a0, .string ((⟨#[38]⟩ : ByteArray) ++ ((rd_T35 t118 x13_1).f0))] rfl (by (try simp only [List.map_toArray, List.map_cons, List.map_nil]); first | done | rfl | (simp only [List.length_drop, List.length_take]; rfl)) ?_; (with_reducible refine (selvedgeref03_begins.calls a0 ((⟨#[38]⟩ : ByteArray) ++ ((rd_T35 t118 x13_1).f0)) true _ A17.out).mono ?_); rintro e w' ⟨rfl, ⟨nd, rfl⟩⟩; refine ⟨_, rfl, ?_⟩) | ((with_reducible refine gate_callee (f := 33) rfl ?_); refine goesL_ (some 53) rfl rfl Tryd.func33 (by kernel_rfl) rfl #[.string a0, .string (((⟨#[38]⟩ : ByteArray) ++ ((rd_T35 t118 x13_1).f0)) ++ (⟨#[59]⟩ : ByteArray))] rfl (by (try simp only [List.map_toArray, List.map_cons, List.map_nil]); first | done | rfl | (simp only [List.length_drop, List.length_take]; rfl)) ?_; (with_reducible refine (selvedgeref03_begins.calls a0 (((⟨#[38]⟩ : ByteArray) ++ ((rd_T35 t118 x13_1).f0)) ++ (⟨#[59]⟩ : ByteArray)) true _ A20.out).mono ?_); rintro e w' ⟨rfl, ⟨nd, rfl⟩⟩; refine ⟨_, rfl, ?_⟩))
            go_roundg k1
            case measure => have := HK1.out; omega
            case rel => exact ⟨(x11_1), (x12_1), (wrap64 (x13_1 + 1)), (by first | rfl | (simp; done) | (simp [*]; done)), (by first | rfl | (simp; done) | (simp [*]; done)), (by first | rfl | (simp; done) | (simp [*]; done)), H', ⟨by have := HK1.out; omega⟩, ⟨by (with_reducible repeat (first | apply Kd.R_alloc | apply Kd.R_drewN | apply Kd.R_drew)); exact HO_10.out⟩, ⟨by repeat (first | (with_reducible first | exact HB.out | apply below_alloc | apply pw_below_drewN | apply below_drew1) | exact HB.out)⟩⟩
          ·replace c21 := Bool.eq_false_iff.mpr c21
           subst c21
           have H1 : (if ((rd_T35 t118 x13_1).f2 = true) then (if (((⟨#[38]⟩ : ByteArray) ++ ((rd_T35 t118 x13_1).f0)).size : Int) > (x11_1.size : Int) then (selvedgeref03_Find.l0 k1 a0 a1 t118 ((⟨#[38]⟩ : ByteArray) ++ ((rd_T35 t118 x13_1).f0)) ((rd_T35 t118 x13_1).f1) (wrap64 (x13_1 + 1))) else (selvedgeref03_Find.l0 k1 a0 a1 t118 x11_1 x12_1 (wrap64 (x13_1 + 1)))) else (selvedgeref03_Find.l0 k1 a0 a1 t118 x11_1 x12_1 (wrap64 (x13_1 + 1)))) = some (r1, r2, r3) := by rw [if_neg (show ¬ (false = true) by decide)] at H; exact H
           clear H
           have H := H1
           clear H1
           obtain ⟨bq25, hbq25⟩ : ∃ b_ : Bool, b_ = ((rd_T35 t118 x13_1).f2) := ⟨_, rfl⟩
           replace H : (if (bq25 = true) then (if (((⟨#[38]⟩ : ByteArray) ++ ((rd_T35 t118 x13_1).f0)).size : Int) > (x11_1.size : Int) then (selvedgeref03_Find.l0 k1 a0 a1 t118 ((⟨#[38]⟩ : ByteArray) ++ ((rd_T35 t118 x13_1).f0)) ((rd_T35 t118 x13_1).f1) (wrap64 (x13_1 + 1))) else (selvedgeref03_Find.l0 k1 a0 a1 t118 x11_1 x12_1 (wrap64 (x13_1 + 1)))) else (selvedgeref03_Find.l0 k1 a0 a1 t118 x11_1 x12_1 (wrap64 (x13_1 + 1)))) = some (r1, r2, r3) := by rw [← hbq25] at H; exact H
           have Nbq25 := Aside0.mk hbq25
           clear hbq25
           by_cases c26 : (bq25 = true)
           ·subst c26
            have H1 : (if (((⟨#[38]⟩ : ByteArray) ++ ((rd_T35 t118 x13_1).f0)).size : Int) > (x11_1.size : Int) then (selvedgeref03_Find.l0 k1 a0 a1 t118 ((⟨#[38]⟩ : ByteArray) ++ ((rd_T35 t118 x13_1).f0)) ((rd_T35 t118 x13_1).f1) (wrap64 (x13_1 + 1))) else (selvedgeref03_Find.l0 k1 a0 a1 t118 x11_1 x12_1 (wrap64 (x13_1 + 1)))) = some (r1, r2, r3) := by rw [if_pos rfl] at H; exact H
            clear H
            have H := H1
            clear H1
            by_cases c27 : (((⟨#[38]⟩ : ByteArray) ++ ((rd_T35 t118 x13_1).f0)).size : Int) > (x11_1.size : Int)
            ·rw [if_pos c27] at H
             have c27b0 : decide ((x11_1.size : Int) < (((⟨#[38]⟩ : ByteArray) ++ ((rd_T35 t118 x13_1).f0)).size : Int)) = true := decide_eq_true c27
             have c27b1 : decide (x11_1.size < ((⟨#[38]⟩ : ByteArray) ++ ((rd_T35 t118 x13_1).f0)).size) = true := decide_eq_true (Int.ofNat_lt.mp c27)
             try have c27m_ := c27
             try simp only [ByteArray.size_append, show ((⟨#[38]⟩ : ByteArray)).size = 1 from rfl] at c27m_
             try push_cast at c27m_
             try simp only [Int.not_lt, Int.not_le, Nat.not_lt, Nat.not_le, gt_iff_lt, ge_iff_le] at c27m_
             try have c27k_ := Nat.not_lt.2 c27m_
             clear c27
             have H' := Aside0.mk H
             clear H
             obtain ⟨Ao28, co28, eo28⟩ := Kd.R_slice HO_10.out
             subst eo28
             have p122 : 0 ≤ (x13_1 : Int) := of_decide_eq_true (by first | (with_reducible assumption) | assumption)
             have q122 : x13_1 < (t118.length : Int) := of_decide_eq_true (by first | (with_reducible assumption) | assumption)
             obtain ⟨ad122, e122, hx122_0, hx122_1, hx122_2⟩ := at_T35 (Kd.R_reads' HO_10.out).2.2 x13_1 p122 q122
             (try rw [← Nbq25.out] at hx122_2)
             cases e122
             replace p122 := eq_true p122
             replace q122 := eq_true q122
             go_wp2_with (first | ((with_reducible refine gate_callee (f := 33) rfl ?_); refine goesL_ (some 48) rfl rfl Tryd.func33 (by kernel_rfl) rfl #[.string a0, .string ((⟨#[38]⟩ : ByteArray) ++ ((rd_T35 t118 x13_1).f0))] rfl (by (try simp only [List.map_toArray, List.map_cons, List.map_nil]); first | done | rfl | (simp only [List.length_drop, List.length_take]; rfl)) ?_; (with_reducible refine (selvedgeref03_begins.calls a0 ((⟨#[38]⟩ : ByteArray) ++ ((rd_T35 t118 x13_1).f0)) true _ A17.out).mono ?_); rintro e w' ⟨rfl, ⟨nd, rfl⟩⟩; refine ⟨_, rfl, ?_⟩) | ((with_reducible refine gate_callee (f := 33) rfl ?_); refine goesL_ (some 53) rfl rfl Tryd.func33 (by kernel_rfl) rfl #[.string a0, .string (((⟨#[38]⟩ : ByteArray) ++ ((rd_T35 t118 x13_1).f0)) ++ (⟨#[59]⟩ : ByteArray))] rfl (by (try simp only [List.map_toArray, List.map_cons, List.map_nil]); first | done | rfl | (simp only [List.length_drop, List.length_take]; rfl)) ?_; (with_reducible refine (selvedgeref03_begins.calls a0 (((⟨#[38]⟩ : ByteArray) ++ ((rd_T35 t118 x13_1).f0)) ++ (⟨#[59]⟩ : ByteArray)) false _ A20.out).mono ?_); rintro e w' ⟨rfl, ⟨nd, rfl⟩⟩; refine ⟨_, rfl, ?_⟩; have p126 : 0 ≤ (x13_1 : Int) := of_decide_eq_true (by first | (with_reducible assumption) | assumption); have q126 : x13_1 < (t118.length : Int) := of_decide_eq_true (by first | (with_reducible assumption) | assumption); obtain ⟨ad126, e126, hx126_0, hx126_1, hx126_2⟩ := at_T35 (Kd.R_reads' HO_10.out).2.2 x13_1 p126 q126; (try rw [← Nbq25.out] at hx126_2); obtain rfl : ad122 = ad126 := (by injection e126); replace p126 := eq_true p126; replace q126 := eq_true q126; have p127 : 0 ≤ (x13_1 : Int) := of_decide_eq_true (by first | (with_reducible assumption) | assumption); have q127 : x13_1 < (t118.length : Int) := of_decide_eq_true (by first | (with_reducible assumption) | assumption); obtain ⟨ad127, e127, hx127_0, hx127_1, hx127_2⟩ := at_T35 (Kd.R_reads' HO_10.out).2.2 x13_1 p127 q127; (try rw [← Nbq25.out] at hx127_2); obtain rfl : ad122 = ad127 := (by injection e127); replace p127 := eq_true p127; replace q127 := eq_true q127))
             go_roundg k1
             case measure => have := HK1.out; omega
             case rel => exact ⟨((⟨#[38]⟩ : ByteArray) ++ ((rd_T35 t118 x13_1).f0)), ((rd_T35 t118 x13_1).f1), (wrap64 (x13_1 + 1)), (by first | rfl | (simp; done) | (simp [*]; done)), (by first | rfl | (simp; done) | (simp [*]; done)), (by first | rfl | (simp; done) | (simp [*]; done)), H', ⟨by have := HK1.out; omega⟩, ⟨by (with_reducible repeat (first | apply Kd.R_alloc | apply Kd.R_drewN | apply Kd.R_drew)); exact HO_10.out⟩, ⟨by repeat (first | (with_reducible first | exact HB.out | apply below_alloc | apply pw_below_drewN | apply below_drew1) | exact HB.out)⟩⟩
            ·rw [if_neg c27] at H
             have c27b0 : decide ((x11_1.size : Int) < (((⟨#[38]⟩ : ByteArray) ++ ((rd_T35 t118 x13_1).f0)).size : Int)) = false := decide_eq_false c27
             have c27b1 : decide (x11_1.size < ((⟨#[38]⟩ : ByteArray) ++ ((rd_T35 t118 x13_1).f0)).size) = false := decide_eq_false (fun h => c27 (Int.ofNat_lt.mpr h))
             try have c27m_ := c27
             try simp only [ByteArray.size_append, show ((⟨#[38]⟩ : ByteArray)).size = 1 from rfl] at c27m_
             try push_cast at c27m_
             try simp only [Int.not_lt, Int.not_le, Nat.not_lt, Nat.not_le, gt_iff_lt, ge_iff_le] at c27m_
             try have c27k_ := Nat.not_lt.2 c27m_
             clear c27
             have H' := Aside0.mk H
             clear H
             obtain ⟨Ao29, co29, eo29⟩ := Kd.R_slice HO_10.out
             subst eo29
             have p122 : 0 ≤ (x13_1 : Int) := of_decide_eq_true (by first | (with_reducible assumption) | assumption)
             have q122 : x13_1 < (t118.length : Int) := of_decide_eq_true (by first | (with_reducible assumption) | assumption)
             obtain ⟨ad122, e122, hx122_0, hx122_1, hx122_2⟩ := at_T35 (Kd.R_reads' HO_10.out).2.2 x13_1 p122 q122
             (try rw [← Nbq25.out] at hx122_2)
             cases e122
             replace p122 := eq_true p122
             replace q122 := eq_true q122
             go_wp2_with (first | ((with_reducible refine gate_callee (f := 33) rfl ?_); refine goesL_ (some 48) rfl rfl Tryd.func33 (by kernel_rfl) rfl #[.string a0, .string ((⟨#[38]⟩ : ByteArray) ++ ((rd_T35 t118 x13_1).f0))] rfl (by (try simp only [List.map_toArray, List.map_cons, List.map_nil]); first | done | rfl | (simp only [List.length_drop, List.length_take]; rfl)) ?_; (with_reducible refine (selvedgeref03_begins.calls a0 ((⟨#[38]⟩ : ByteArray) ++ ((rd_T35 t118 x13_1).f0)) true _ A17.out).mono ?_); rintro e w' ⟨rfl, ⟨nd, rfl⟩⟩; refine ⟨_, rfl, ?_⟩) | ((with_reducible refine gate_callee (f := 33) rfl ?_); refine goesL_ (some 53) rfl rfl Tryd.func33 (by kernel_rfl) rfl #[.string a0, .string (((⟨#[38]⟩ : ByteArray) ++ ((rd_T35 t118 x13_1).f0)) ++ (⟨#[59]⟩ : ByteArray))] rfl (by (try simp only [List.map_toArray, List.map_cons, List.map_nil]); first | done | rfl | (simp only [List.length_drop, List.length_take]; rfl)) ?_; (with_reducible refine (selvedgeref03_begins.calls a0 (((⟨#[38]⟩ : ByteArray) ++ ((rd_T35 t118 x13_1).f0)) ++ (⟨#[59]⟩ : ByteArray)) false _ A20.out).mono ?_); rintro e w' ⟨rfl, ⟨nd, rfl⟩⟩; refine ⟨_, rfl, ?_⟩; have p126 : 0 ≤ (x13_1 : Int) := of_decide_eq_true (by first | (with_reducible assumption) | assumption); have q126 : x13_1 < (t118.length : Int) := of_decide_eq_true (by first | (with_reducible assumption) | assumption); obtain ⟨ad126, e126, hx126_0, hx126_1, hx126_2⟩ := at_T35 (Kd.R_reads' HO_10.out).2.2 x13_1 p126 q126; (try rw [← Nbq25.out] at hx126_2); obtain rfl : ad122 = ad126 := (by injection e126); replace p126 := eq_true p126; replace q126 := eq_true q126))
             go_roundg k1
             case measure => have := HK1.out; omega
             case rel => exact ⟨(x11_1), (x12_1), (wrap64 (x13_1 + 1)), (by first | rfl | (simp; done) | (simp [*]; done)), (by first | rfl | (simp; done) | (simp [*]; done)), (by first | rfl | (simp; done) | (simp [*]; done)), H', ⟨by have := HK1.out; omega⟩, ⟨by (with_reducible repeat (first | apply Kd.R_alloc | apply Kd.R_drewN | apply Kd.R_drew)); exact HO_10.out⟩, ⟨by repeat (first | (with_reducible first | exact HB.out | apply below_alloc | apply pw_below_drewN | apply below_drew1) | exact HB.out)⟩⟩
           ·replace c26 := Bool.eq_false_iff.mpr c26
            subst c26
            have H1 : (selvedgeref03_Find.l0 k1 a0 a1 t118 x11_1 x12_1 (wrap64 (x13_1 + 1))) = some (r1, r2, r3) := by rw [if_neg (show ¬ (false = true) by decide)] at H; exact H
            clear H
            have H := H1
            clear H1
            have H' := Aside0.mk H
            clear H
            obtain ⟨Ao30, co30, eo30⟩ := Kd.R_slice HO_10.out
            subst eo30
            have p122 : 0 ≤ (x13_1 : Int) := of_decide_eq_true (by first | (with_reducible assumption) | assumption)
            have q122 : x13_1 < (t118.length : Int) := of_decide_eq_true (by first | (with_reducible assumption) | assumption)
            obtain ⟨ad122, e122, hx122_0, hx122_1, hx122_2⟩ := at_T35 (Kd.R_reads' HO_10.out).2.2 x13_1 p122 q122
            (try rw [← Nbq25.out] at hx122_2)
            cases e122
            replace p122 := eq_true p122
            replace q122 := eq_true q122
            go_wp2_with (first | ((with_reducible refine gate_callee (f := 33) rfl ?_); refine goesL_ (some 48) rfl rfl Tryd.func33 (by kernel_rfl) rfl #[.string a0, .string ((⟨#[38]⟩ : ByteArray) ++ ((rd_T35 t118 x13_1).f0))] rfl (by (try simp only [List.map_toArray, List.map_cons, List.map_nil]); first | done | rfl | (simp only [List.length_drop, List.length_take]; rfl)) ?_; (with_reducible refine (selvedgeref03_begins.calls a0 ((⟨#[38]⟩ : ByteArray) ++ ((rd_T35 t118 x13_1).f0)) true _ A17.out).mono ?_); rintro e w' ⟨rfl, ⟨nd, rfl⟩⟩; refine ⟨_, rfl, ?_⟩) | ((with_reducible refine gate_callee (f := 33) rfl ?_); refine goesL_ (some 53) rfl rfl Tryd.func33 (by kernel_rfl) rfl #[.string a0, .string (((⟨#[38]⟩ : ByteArray) ++ ((rd_T35 t118 x13_1).f0)) ++ (⟨#[59]⟩ : ByteArray))] rfl (by (try simp only [List.map_toArray, List.map_cons, List.map_nil]); first | done | rfl | (simp only [List.length_drop, List.length_take]; rfl)) ?_; (with_reducible refine (selvedgeref03_begins.calls a0 (((⟨#[38]⟩ : ByteArray) ++ ((rd_T35 t118 x13_1).f0)) ++ (⟨#[59]⟩ : ByteArray)) false _ A20.out).mono ?_); rintro e w' ⟨rfl, ⟨nd, rfl⟩⟩; refine ⟨_, rfl, ?_⟩; have p126 : 0 ≤ (x13_1 : Int) := of_decide_eq_true (by first | (with_reducible assumption) | assumption); have q126 : x13_1 < (t118.length : Int) := of_decide_eq_true (by first | (with_reducible assumption) | assumption); obtain ⟨ad126, e126, hx126_0, hx126_1, hx126_2⟩ := at_T35 (Kd.R_reads' HO_10.out).2.2 x13_1 p126 q126; (try rw [← Nbq25.out] at hx126_2); obtain rfl : ad122 = ad126 := (by injection e126); replace p126 := eq_true p126; replace q126 := eq_true q126))
            go_roundg k1
            case measure => have := HK1.out; omega
            case rel => exact ⟨(x11_1), (x12_1), (wrap64 (x13_1 + 1)), (by first | rfl | (simp; done) | (simp [*]; done)), (by first | rfl | (simp; done) | (simp [*]; done)), (by first | rfl | (simp; done) | (simp [*]; done)), H', ⟨by have := HK1.out; omega⟩, ⟨by (with_reducible repeat (first | apply Kd.R_alloc | apply Kd.R_drewN | apply Kd.R_drew)); exact HO_10.out⟩, ⟨by repeat (first | (with_reducible first | exact HB.out | apply below_alloc | apply pw_below_drewN | apply below_drew1) | exact HB.out)⟩⟩
         ·rw [if_neg c19] at H
          exact absurd H (by simp)
        ·replace c18 := Bool.eq_false_iff.mpr c18
         subst c18
         have H1 : (selvedgeref03_Find.l0 k1 a0 a1 t118 x11_1 x12_1 (wrap64 (x13_1 + 1))) = some (r1, r2, r3) := by rw [if_neg (show ¬ (false = true) by decide)] at H; exact H
         clear H
         have H := H1
         clear H1
         have H' := Aside0.mk H
         clear H
         obtain ⟨Ao31, co31, eo31⟩ := Kd.R_slice HO_10.out
         subst eo31
         have p122 : 0 ≤ (x13_1 : Int) := of_decide_eq_true (by first | (with_reducible assumption) | assumption)
         have q122 : x13_1 < (t118.length : Int) := of_decide_eq_true (by first | (with_reducible assumption) | assumption)
         obtain ⟨ad122, e122, hx122_0, hx122_1, hx122_2⟩ := at_T35 (Kd.R_reads' HO_10.out).2.2 x13_1 p122 q122
         cases e122
         replace p122 := eq_true p122
         replace q122 := eq_true q122
         go_wp2_with (first | ((with_reducible refine gate_callee (f := 33) rfl ?_); refine goesL_ (some 48) rfl rfl Tryd.func33 (by kernel_rfl) rfl #[.string a0, .string ((⟨#[38]⟩ : ByteArray) ++ ((rd_T35 t118 x13_1).f0))] rfl (by (try simp only [List.map_toArray, List.map_cons, List.map_nil]); first | done | rfl | (simp only [List.length_drop, List.length_take]; rfl)) ?_; (with_reducible refine (selvedgeref03_begins.calls a0 ((⟨#[38]⟩ : ByteArray) ++ ((rd_T35 t118 x13_1).f0)) false _ A17.out).mono ?_); rintro e w' ⟨rfl, ⟨nd, rfl⟩⟩; refine ⟨_, rfl, ?_⟩))
         go_roundg k1
         case measure => have := HK1.out; omega
         case rel => exact ⟨(x11_1), (x12_1), (wrap64 (x13_1 + 1)), (by first | rfl | (simp; done) | (simp [*]; done)), (by first | rfl | (simp; done) | (simp [*]; done)), (by first | rfl | (simp; done) | (simp [*]; done)), H', ⟨by have := HK1.out; omega⟩, ⟨by (with_reducible repeat (first | apply Kd.R_alloc | apply Kd.R_drewN | apply Kd.R_drew)); exact HO_10.out⟩, ⟨by repeat (first | (with_reducible first | exact HB.out | apply below_alloc | apply pw_below_drewN | apply below_drew1) | exact HB.out)⟩⟩
       ·rw [if_neg c16] at H
        exact absurd H (by simp)
      ·rw [if_neg c15] at H
       exact absurd H (by simp)
     ·rw [if_neg c14] at H
      have c14b0 : decide (x13_1 < (t118.length : Int)) = false := decide_eq_false c14
      clear c14
      by_cases c32 : (x11_1.size : Int) = 0
      ·rw [if_pos c32] at H
       have c32b0 : ((x11_1.size : Int) == 0) = true := beq_iff_eq.mpr c32
       have c32b1 : ((x11_1.size : Int) != 0) = false := bne_eq_false_iff_eq.mpr c32
       clear c32
       simp only [Option.some.injEq, Prod.mk.injEq] at H
       obtain ⟨rfl, rfl, rfl⟩ := H
       obtain ⟨Ao33, co33, eo33⟩ := Kd.R_slice HO_10.out
       subst eo33
       go_wp2
       go_ret3
       exact ⟨by first | rfl | (simp [errW_none, errW_some] <;> rfl) | (simp [*, errW_none, errW_some] <;> rfl), by repeat (first | (with_reducible first | exact HB.out | apply below_alloc | apply pw_below_drewN | apply below_drew1) | exact HB.out)⟩
      ·rw [if_neg c32] at H
       have c32b0 : ((x11_1.size : Int) == 0) = false := beq_eq_false_iff_ne.mpr c32
       have c32b1 : ((x11_1.size : Int) != 0) = true := bne_iff_ne.mpr c32
       by_cases c34 : a1 = true
       ·subst c34
        have H1 : (if 0 ≤ (wrap64 ((x11_1.size : Int) - 1)) then (if (wrap64 ((x11_1.size : Int) - 1)) < (x11_1.size : Int) then (if (bt x11_1 (wrap64 ((x11_1.size : Int) - 1))) = 59 then (some (x12_1, (x11_1.size : Int), true)) else (if (x11_1.size : Int) < (a0.size : Int) then (if 0 ≤ (x11_1.size : Int) then (if (bt a0 (x11_1.size : Int)) = 61 then (some (0, 0, false)) else ((selvedgeref03_alnum.f (bt a0 (x11_1.size : Int))).bind fun t121 => (if t121 = true then (some (0, 0, false)) else (some (x12_1, (x11_1.size : Int), true))))) else (none)) else (some (x12_1, (x11_1.size : Int), true)))) else (none)) else (none)) = some (r1, r2, r3) := by rw [if_pos rfl] at H; exact H
        clear H
        have H := H1
        clear H1
        obtain ⟨ji35, hji35⟩ : ∃ j_ : Int, (wrap64 ((x11_1.size : Int) - 1)) = j_ := ⟨_, rfl⟩
        replace H : (if 0 ≤ (ji35) then (if (ji35) < (x11_1.size : Int) then (if (bt x11_1 (ji35)) = 59 then (some (x12_1, (x11_1.size : Int), true)) else (if (x11_1.size : Int) < (a0.size : Int) then (if 0 ≤ (x11_1.size : Int) then (if (bt a0 (x11_1.size : Int)) = 61 then (some (0, 0, false)) else ((selvedgeref03_alnum.f (bt a0 (x11_1.size : Int))).bind fun t121 => (if t121 = true then (some (0, 0, false)) else (some (x12_1, (x11_1.size : Int), true))))) else (none)) else (some (x12_1, (x11_1.size : Int), true)))) else (none)) else (none)) = some (r1, r2, r3) := by first | (rw [hji35] at H; exact H) | (simp only [hji35] at H ⊢; exact H)
        have hji35w : (IntKind.i64.wrap ((x11_1.size : Int) - 1)) = ji35 := (i64_w _).trans hji35
        by_cases c36 : 0 ≤ (ji35)
        ·rw [if_pos c36] at H
         have c36b0 : decide (0 ≤ (ji35)) = true := decide_eq_true c36
         clear c36
         by_cases c37 : (ji35) < (x11_1.size : Int)
         ·rw [if_pos c37] at H
          have c37b0 : decide ((ji35) < (x11_1.size : Int)) = true := decide_eq_true c37
          clear c37
          by_cases c39 : (bt x11_1 (ji35)) = 59
          ·rw [if_pos c39] at H
           have c39b0 : ((bt x11_1 (ji35)) == 59) = true := beq_iff_eq.mpr c39
           have c39b1 : ((bt x11_1 (ji35)) != 59) = false := bne_eq_false_iff_eq.mpr c39
           clear c39
           simp only [Option.some.injEq, Prod.mk.injEq] at H
           obtain ⟨rfl, rfl, rfl⟩ := H
           obtain ⟨Ao40, co40, eo40⟩ := Kd.R_slice HO_10.out
           subst eo40
           have p38 : 0 ≤ ((ji35) : Int) := of_decide_eq_true (by first | (with_reducible assumption) | assumption)
           have q38 : (ji35) < (x11_1.size : Int) := of_decide_eq_true (by first | (with_reducible assumption) | assumption)
           have hx38 := bt_at x11_1 (ji35)
           replace p38 := eq_true p38
           replace q38 := eq_true q38
           go_wp2
           go_ret3
           exact ⟨by first | rfl | (simp [errW_none, errW_some] <;> rfl) | (simp only [← hji35]; first | rfl | (simp [errW_none, errW_some] <;> rfl)) | (simp [*, errW_none, errW_some] <;> rfl), by repeat (first | (with_reducible first | exact HB.out | apply below_alloc | apply pw_below_drewN | apply below_drew1) | exact HB.out)⟩
          ·rw [if_neg c39] at H
           have c39b0 : ((bt x11_1 (ji35)) == 59) = false := beq_eq_false_iff_ne.mpr c39
           have c39b1 : ((bt x11_1 (ji35)) != 59) = true := bne_iff_ne.mpr c39
           by_cases c41 : (x11_1.size : Int) < (a0.size : Int)
           ·rw [if_pos c41] at H
            have c41b0 : decide ((x11_1.size : Int) < (a0.size : Int)) = true := decide_eq_true c41
            have c41b1 : decide (x11_1.size < a0.size) = true := decide_eq_true (Int.ofNat_lt.mp c41)
            clear c41
            by_cases c42 : 0 ≤ (x11_1.size : Int)
            ·rw [if_pos c42] at H
             have c42b0 : decide (0 ≤ (x11_1.size : Int)) = true := decide_eq_true c42
             have c42b1 : decide (0 ≤ x11_1.size) = true := decide_eq_true (by omega)
             clear c42
             by_cases c44 : (bt a0 (x11_1.size : Int)) = 61
             ·rw [if_pos c44] at H
              have c44b0 : ((bt a0 (x11_1.size : Int)) == 61) = true := beq_iff_eq.mpr c44
              have c44b1 : ((bt a0 (x11_1.size : Int)) != 61) = false := bne_eq_false_iff_eq.mpr c44
              clear c44
              simp only [Option.some.injEq, Prod.mk.injEq] at H
              obtain ⟨rfl, rfl, rfl⟩ := H
              obtain ⟨Ao45, co45, eo45⟩ := Kd.R_slice HO_10.out
              subst eo45
              have p38 : 0 ≤ ((ji35) : Int) := of_decide_eq_true (by first | (with_reducible assumption) | assumption)
              have q38 : (ji35) < (x11_1.size : Int) := of_decide_eq_true (by first | (with_reducible assumption) | assumption)
              have hx38 := bt_at x11_1 (ji35)
              replace p38 := eq_true p38
              replace q38 := eq_true q38
              have p43 : 0 ≤ ((x11_1.size : Int) : Int) := of_decide_eq_true (by first | (with_reducible assumption) | assumption)
              have q43 : (x11_1.size : Int) < (a0.size : Int) := of_decide_eq_true (by first | (with_reducible assumption) | assumption)
              have hx43 := bt_at a0 (x11_1.size : Int); (try have hx43n : ∀ h : x11_1.size < (a0).size, ((a0[x11_1.size]'h).toNat : Int) = bt a0 (x11_1.size : Int) := bt_at a0 (x11_1.size : Int))
              replace p43 := eq_true p43
              replace q43 := eq_true q43
              go_wp2
              go_ret3
              exact ⟨by first | rfl | (simp [errW_none, errW_some] <;> rfl) | (simp only [← hji35]; first | rfl | (simp [errW_none, errW_some] <;> rfl)) | (simp [*, errW_none, errW_some] <;> rfl), by repeat (first | (with_reducible first | exact HB.out | apply below_alloc | apply pw_below_drewN | apply below_drew1) | exact HB.out)⟩
             ·rw [if_neg c44] at H
              have c44b0 : ((bt a0 (x11_1.size : Int)) == 61) = false := beq_eq_false_iff_ne.mpr c44
              have c44b1 : ((bt a0 (x11_1.size : Int)) != 61) = true := bne_iff_ne.mpr c44
              replace H := Option.bind_eq_some_iff.mp H
              obtain ⟨t121, A470, H⟩ := H
              replace H : (if t121 = true then (some (0, 0, false)) else (some (x12_1, (x11_1.size : Int), true))) = some (r1, r2, r3) := H
              have A47 := Aside0.mk A470
              clear A470
              by_cases c48 : t121 = true
              ·subst c48
               have H1 : (some (0, 0, false)) = some (r1, r2, r3) := by rw [if_pos rfl] at H; exact H
               clear H
               have H := H1
               clear H1
               simp only [Option.some.injEq, Prod.mk.injEq] at H
               obtain ⟨rfl, rfl, rfl⟩ := H
               obtain ⟨Ao49, co49, eo49⟩ := Kd.R_slice HO_10.out
               subst eo49
               have p38 : 0 ≤ ((ji35) : Int) := of_decide_eq_true (by first | (with_reducible assumption) | assumption)
               have q38 : (ji35) < (x11_1.size : Int) := of_decide_eq_true (by first | (with_reducible assumption) | assumption)
               have hx38 := bt_at x11_1 (ji35)
               replace p38 := eq_true p38
               replace q38 := eq_true q38
               have p43 : 0 ≤ ((x11_1.size : Int) : Int) := of_decide_eq_true (by first | (with_reducible assumption) | assumption)
               have q43 : (x11_1.size : Int) < (a0.size : Int) := of_decide_eq_true (by first | (with_reducible assumption) | assumption)
               have hx43 := bt_at a0 (x11_1.size : Int); (try have hx43n : ∀ h : x11_1.size < (a0).size, ((a0[x11_1.size]'h).toNat : Int) = bt a0 (x11_1.size : Int) := bt_at a0 (x11_1.size : Int))
               replace p43 := eq_true p43
               replace q43 := eq_true q43
               have p46 : 0 ≤ ((x11_1.size : Int) : Int) := of_decide_eq_true (by first | (with_reducible assumption) | assumption)
               have q46 : (x11_1.size : Int) < (a0.size : Int) := of_decide_eq_true (by first | (with_reducible assumption) | assumption)
               have hx46 := bt_at a0 (x11_1.size : Int); (try have hx46n : ∀ h : x11_1.size < (a0).size, ((a0[x11_1.size]'h).toNat : Int) = bt a0 (x11_1.size : Int) := bt_at a0 (x11_1.size : Int))
               replace p46 := eq_true p46
               replace q46 := eq_true q46
               go_wp2_with (first | (go_at_call 35; (with_reducible refine (selvedgeref03_alnum.calls (bt a0 (x11_1.size : Int)) true _ A47.out).mono ?_); rintro e w' ⟨rfl, ⟨nd, rfl⟩⟩))
               go_ret3
               exact ⟨by first | rfl | (simp [errW_none, errW_some] <;> rfl) | (simp only [← hji35]; first | rfl | (simp [errW_none, errW_some] <;> rfl)) | (simp [*, errW_none, errW_some] <;> rfl), by repeat (first | (with_reducible first | exact HB.out | apply below_alloc | apply pw_below_drewN | apply below_drew1) | exact HB.out)⟩
              ·replace c48 := Bool.eq_false_iff.mpr c48
               subst c48
               have H1 : (some (x12_1, (x11_1.size : Int), true)) = some (r1, r2, r3) := by rw [if_neg (show ¬ (false = true) by decide)] at H; exact H
               clear H
               have H := H1
               clear H1
               simp only [Option.some.injEq, Prod.mk.injEq] at H
               obtain ⟨rfl, rfl, rfl⟩ := H
               obtain ⟨Ao50, co50, eo50⟩ := Kd.R_slice HO_10.out
               subst eo50
               have p38 : 0 ≤ ((ji35) : Int) := of_decide_eq_true (by first | (with_reducible assumption) | assumption)
               have q38 : (ji35) < (x11_1.size : Int) := of_decide_eq_true (by first | (with_reducible assumption) | assumption)
               have hx38 := bt_at x11_1 (ji35)
               replace p38 := eq_true p38
               replace q38 := eq_true q38
               have p43 : 0 ≤ ((x11_1.size : Int) : Int) := of_decide_eq_true (by first | (with_reducible assumption) | assumption)
               have q43 : (x11_1.size : Int) < (a0.size : Int) := of_decide_eq_true (by first | (with_reducible assumption) | assumption)
               have hx43 := bt_at a0 (x11_1.size : Int); (try have hx43n : ∀ h : x11_1.size < (a0).size, ((a0[x11_1.size]'h).toNat : Int) = bt a0 (x11_1.size : Int) := bt_at a0 (x11_1.size : Int))
               replace p43 := eq_true p43
               replace q43 := eq_true q43
               have p46 : 0 ≤ ((x11_1.size : Int) : Int) := of_decide_eq_true (by first | (with_reducible assumption) | assumption)
               have q46 : (x11_1.size : Int) < (a0.size : Int) := of_decide_eq_true (by first | (with_reducible assumption) | assumption)
               have hx46 := bt_at a0 (x11_1.size : Int); (try have hx46n : ∀ h : x11_1.size < (a0).size, ((a0[x11_1.size]'h).toNat : Int) = bt a0 (x11_1.size : Int) := bt_at a0 (x11_1.size : Int))
               replace p46 := eq_true p46
               replace q46 := eq_true q46
               go_wp2_with (first | (go_at_call 35; (with_reducible refine (selvedgeref03_alnum.calls (bt a0 (x11_1.size : Int)) false _ A47.out).mono ?_); rintro e w' ⟨rfl, ⟨nd, rfl⟩⟩))
               go_ret3
               exact ⟨by first | rfl | (simp [errW_none, errW_some] <;> rfl) | (simp only [← hji35]; first | rfl | (simp [errW_none, errW_some] <;> rfl)) | (simp [*, errW_none, errW_some] <;> rfl), by repeat (first | (with_reducible first | exact HB.out | apply below_alloc | apply pw_below_drewN | apply below_drew1) | exact HB.out)⟩
            ·rw [if_neg c42] at H
             exact absurd H (by simp)
           ·rw [if_neg c41] at H
            have c41b0 : decide ((x11_1.size : Int) < (a0.size : Int)) = false := decide_eq_false c41
            have c41b1 : decide (x11_1.size < a0.size) = false := decide_eq_false (fun h => c41 (Int.ofNat_lt.mpr h))
            clear c41
            simp only [Option.some.injEq, Prod.mk.injEq] at H
            obtain ⟨rfl, rfl, rfl⟩ := H
            obtain ⟨Ao51, co51, eo51⟩ := Kd.R_slice HO_10.out
            subst eo51
            have p38 : 0 ≤ ((ji35) : Int) := of_decide_eq_true (by first | (with_reducible assumption) | assumption)
            have q38 : (ji35) < (x11_1.size : Int) := of_decide_eq_true (by first | (with_reducible assumption) | assumption)
            have hx38 := bt_at x11_1 (ji35)
            replace p38 := eq_true p38
            replace q38 := eq_true q38
            go_wp2
            go_ret3
            exact ⟨by first | rfl | (simp [errW_none, errW_some] <;> rfl) | (simp only [← hji35]; first | rfl | (simp [errW_none, errW_some] <;> rfl)) | (simp [*, errW_none, errW_some] <;> rfl), by repeat (first | (with_reducible first | exact HB.out | apply below_alloc | apply pw_below_drewN | apply below_drew1) | exact HB.out)⟩
         ·rw [if_neg c37] at H
          exact absurd H (by simp)
        ·rw [if_neg c36] at H
         exact absurd H (by simp)
       ·replace c34 := Bool.eq_false_iff.mpr c34
        subst c34
        have H1 : (some (x12_1, (x11_1.size : Int), true)) = some (r1, r2, r3) := by rw [if_neg (show ¬ (false = true) by decide)] at H; exact H
        clear H
        have H := H1
        clear H1
        simp only [Option.some.injEq, Prod.mk.injEq] at H
        obtain ⟨rfl, rfl, rfl⟩ := H
        obtain ⟨Ao52, co52, eo52⟩ := Kd.R_slice HO_10.out
        subst eo52
        go_wp2
        go_ret3
        exact ⟨by first | rfl | (simp [errW_none, errW_some] <;> rfl) | (simp [*, errW_none, errW_some] <;> rfl), by repeat (first | (with_reducible first | exact HB.out | apply below_alloc | apply pw_below_drewN | apply below_drew1) | exact HB.out)⟩
 ·replace c4 := Bool.eq_false_iff.mpr c4
  subst c4
  have H1 : (some (0, 0, false)) = some (r1, r2, r3) := by rw [if_neg (show ¬ (false = true) by decide)] at H; exact H
  clear H
  have H := H1
  clear H1
  simp only [Option.some.injEq, Prod.mk.injEq] at H
  obtain ⟨rfl, rfl, rfl⟩ := H
  go_enter Tryd.func22, Tryd.ntmps22
  go_wp2_with (first | ((with_reducible refine gate_callee (f := 33) rfl ?_); refine goesL_ (some 17) rfl rfl Tryd.func33 (by kernel_rfl) rfl #[.string a0, .string (⟨#[38]⟩ : ByteArray)] rfl (by (try simp only [List.map_toArray, List.map_cons, List.map_nil]); first | done | rfl | (simp only [List.length_drop, List.length_take]; rfl)) ?_; (with_reducible refine (selvedgeref03_begins.calls a0 (⟨#[38]⟩ : ByteArray) false _ A3.out).mono ?_); rintro e w' ⟨rfl, ⟨nd, rfl⟩⟩; refine ⟨_, rfl, ?_⟩))
  go_ret3
  exact ⟨by first | rfl | (simp [errW_none, errW_some] <;> rfl) | (simp [*, errW_none, errW_some] <;> rfl), by repeat (first | (with_reducible first | exact HB.out | apply below_alloc | apply pw_below_drewN | apply below_drew1) | exact HB.out)⟩

/-! ### selvedgeref03_Decode: function 11 -/
def selvedgeref03_Decode.l0 : Nat → ByteArray → Bool → List Int → Int → Option (ByteArray)
 | 0, _, _, _, _ => none
 | k + 1, x0, x1, x5, x6 => if x6 < (x0.size : Int) then (if 0 ≤ x6 then (if x6 ≤ (x0.size : Int) then ((selvedgeref03_Find.f k (x0.extract (x6 : Int).toNat x0.size) x1).bind fun bt143 => (if bt143.2.2 = true then ((selvedgeref02_One.f k bt143.1).bind fun t146 => (if x5.length + t146.length < 140737488355328 then (selvedgeref03_Decode.l0 k x0 x1 (x5 ++ t146) (wrap64 (x6 + bt143.2.1))) else (none))) else (if x5.length < 140737488355328 then (selvedgeref03_Decode.l0 k x0 x1 (x5 ++ [bt x0 x6]) (wrap64 (x6 + 1))) else (none)))) else (none)) else (none)) else (some (strOfNums x5))
def selvedgeref03_Decode.f (k : Nat) (a0 : ByteArray) (a1 : Bool) : Option (ByteArray) := selvedgeref03_Decode.l0 k a0 a1 ([] : List Int) 0
theorem selvedgeref03_Decode.mono_l : ∀ k, (∀ y0 y1 y2 y3, LeO (selvedgeref03_Decode.l0 k y0 y1 y2 y3) (selvedgeref03_Decode.l0 (k + 1) y0 y1 y2 y3))
 | 0 => fun _ _ _ _ r h => by simp [selvedgeref03_Decode.l0] at h
 | k + 1 => by
  have ih0 := selvedgeref03_Decode.mono_l k
  ·intro y0 y1 y2 y3
   unfold selvedgeref03_Decode.l0
   repeat' first
   | (with_reducible exact ih0 _ _ _ _)
   | (with_reducible exact selvedgeref02_One.mono _ _)
   | (with_reducible exact selvedgeref03_Find.mono _ _ _)
   | (with_reducible exact LeO.refl _)
   | (with_reducible exact LeO.none _)
   | (with_reducible refine LeO.ite ?_ ?_)
   | (with_reducible refine LeO.bind ?_ (fun _ => ?_))
   | exact ih0 _ _ _ _
   | exact selvedgeref02_One.mono _ _
   | exact selvedgeref03_Find.mono _ _ _
   | exact LeO.none _
   | refine LeO.ite ?_ ?_
   | refine LeO.bind ?_ (fun _ => ?_)
theorem selvedgeref03_Decode.mono : ∀ a0 a1 k, LeO (selvedgeref03_Decode.f k a0 a1) (selvedgeref03_Decode.f (k + 1) a0 a1) := by
 intro a0 a1 k
 have ih0 := selvedgeref03_Decode.mono_l k
 unfold selvedgeref03_Decode.f
 repeat' first
   | (with_reducible exact ih0 _ _ _ _)
   | (with_reducible exact selvedgeref02_One.mono _ _)
   | (with_reducible exact selvedgeref03_Find.mono _ _ _)
   | (with_reducible exact LeO.refl _)
   | (with_reducible exact LeO.none _)
   | (with_reducible refine LeO.ite ?_ ?_)
   | (with_reducible refine LeO.bind ?_ (fun _ => ?_))
   | exact ih0 _ _ _ _
   | exact selvedgeref02_One.mono _ _
   | exact selvedgeref03_Find.mono _ _ _
   | exact LeO.none _
   | refine LeO.ite ?_ ?_
   | refine LeO.bind ?_ (fun _ => ?_)
set_option maxHeartbeats 8000000 in
set_option maxRecDepth 100000 in
theorem selvedgeref03_Decode.calls (k : Nat) (a0 : ByteArray) (a1 : Bool) (r : ByteArray) (w : World) (h : selvedgeref03_Decode.f k a0 a1 = some r) :
  Calls Tryd.prog 11 #[.string a0, .bool a1] w fun e w' => e = .returned (.string r) ∧ Below w.heap.size w w' := by
 have HB := Aside0.mk (Below.refl w.heap.size w)
 have H : (selvedgeref03_Decode.l0 k a0 a1 ([] : List Int) 0) = some r := h
 clear h
 have H' := Aside0.mk H
 clear H
 go_enter Tryd.func11, Tryd.ntmps11
 go_wp2
 go_loopg [5, 6] k (fun kq v5 v6 w' => ∃ (x5_1 : List Int) (x6_1 : Int), v6 = .int .i64 x6_1 ∧ Aside0 (selvedgeref03_Decode.l0 kq a0 a1 x5_1 x6_1 = some r) ∧ Aside0 (kq ≤ k) ∧ Aside0 (Kd.R (Kd.int .u8) 5 w' w.heap.size (fun _ => True) v5 x5_1) ∧ Aside0 (Below w.heap.size w w'))
 case atStart => exact ⟨(([] : List Int)), (0), (by first | rfl | (simp; done) | (simp [*]; done)), H', ⟨Nat.le_refl _⟩, ⟨by first | exact Kd.R_nil _ _ _ _ _ | exact Kd.N_nil _ _ _ _ _ | exact Kd.V_nil _ _ _ _ _ | exact Kd.Q_nil _ _ _ _ _ | exact Kd.S_nil _ _ _ _ _⟩, ⟨by repeat (first | (with_reducible first | exact HB.out | apply below_alloc | apply pw_below_drewN | apply below_drew1) | exact HB.out)⟩⟩
 case round =>
  clear H'
  try clear c1
  try clear p2
  obtain ⟨x5_1, x6_1, rfl, HA, HK1, HO_5, HB⟩ := hrel
  cases gk with
  | zero => exact absurd HA.out (by simp [selvedgeref03_Decode.l0])
  | succ k1 =>
   have H := HA.out
   clear HA
   simp only [selvedgeref03_Decode.l0] at H
   by_cases c3 : x6_1 < (a0.size : Int)
   ·rw [if_pos c3] at H
    have c3b0 : decide (x6_1 < (a0.size : Int)) = true := decide_eq_true c3
    clear c3
    by_cases c4 : 0 ≤ x6_1
    ·rw [if_pos c4] at H
     have c4b0 := eq_true c4
     have c4b1 : decide (0 ≤ x6_1) = true := decide_eq_true c4
     clear c4
     by_cases c5 : x6_1 ≤ (a0.size : Int)
     ·rw [if_pos c5] at H
      have c5b0 := eq_true c5
      have c5b1 : decide (x6_1 ≤ (a0.size : Int)) = true := decide_eq_true c5
      clear c5
      replace H := Option.bind_eq_some_iff.mp H
      obtain ⟨⟨t143, t144, t145⟩, A60, H⟩ := H
      replace H : (if t145 = true then ((selvedgeref02_One.f k1 t143).bind fun t146 => (if x5_1.length + t146.length < 140737488355328 then (selvedgeref03_Decode.l0 k1 a0 a1 (x5_1 ++ t146) (wrap64 (x6_1 + t144))) else (none))) else (if x5_1.length < 140737488355328 then (selvedgeref03_Decode.l0 k1 a0 a1 (x5_1 ++ [bt a0 x6_1]) (wrap64 (x6_1 + 1))) else (none))) = some r := H
      have A6 := Aside0.mk A60
      clear A60
      by_cases c7 : t145 = true
      ·subst c7
       have H1 : ((selvedgeref02_One.f k1 t143).bind fun t146 => (if x5_1.length + t146.length < 140737488355328 then (selvedgeref03_Decode.l0 k1 a0 a1 (x5_1 ++ t146) (wrap64 (x6_1 + t144))) else (none))) = some r := by rw [if_pos rfl] at H; exact H
       clear H
       have H := H1
       clear H1
       replace H := Option.bind_eq_some_iff.mp H
       obtain ⟨t146, A80, H⟩ := H
       replace H : (if x5_1.length + t146.length < 140737488355328 then (selvedgeref03_Decode.l0 k1 a0 a1 (x5_1 ++ t146) (wrap64 (x6_1 + t144))) else (none)) = some r := H
       have A8 := Aside0.mk A80
       clear A80
       by_cases c9 : x5_1.length + t146.length < 140737488355328
       ·rw [if_pos c9] at H
        have LMc9 := Aside0.mk c9
        clear c9
        obtain ⟨y149, hy149⟩ : ∃ y_ : List Int, y_ = (x5_1 ++ t146) := ⟨_, rfl⟩
        replace H : (selvedgeref03_Decode.l0 k1 a0 a1 y149 (wrap64 (x6_1 + t144))) = some r := by first | (rw [hy149]; with_reducible exact H) | (have H2_ := (Option.bind_some _ _).symm.trans H; rw [hy149]; with_reducible exact H2_) | (have H2_ := (Option.bind_some _ _).symm.trans H; with_reducible exact H2_) | with_reducible exact H | (rw [hy149]; exact H) | exact H
        have Ny149 := Aside0.mk hy149
        clear hy149
        have H' := Aside0.mk H
        clear H
        go_wp2_with (first | ((with_reducible refine gate_callee (f := 22) rfl ?_); refine goesL_ (some 19) rfl rfl Tryd.func22 (by kernel_rfl) rfl #[.string (a0.extract (x6_1 : Int).toNat a0.size), .bool a1] rfl (by (try simp only [List.map_toArray, List.map_cons, List.map_nil]); first | done | rfl | (simp only [List.length_drop, List.length_take]; rfl)) ?_; (with_reducible refine (selvedgeref03_Find.calls k1 (a0.extract (x6_1 : Int).toNat a0.size) a1 t143 t144 true _ A6.out).mono ?_); rintro e w10 ⟨rfl, hb⟩; refine ⟨_, rfl, ?_⟩; have n0_ := Aside0.mk (Kd.R_below (by (with_reducible repeat (first | apply Kd.R_alloc | apply Kd.R_drewN | apply Kd.R_drew)); exact HO_5.out) hb); have n1_ := Aside0.mk (below_step (by repeat (first | (with_reducible first | exact HB.out | apply below_alloc | apply pw_below_drewN | apply below_drew1) | exact HB.out)) hb); clear HO_5; clear HB; have HO_5 := n0_; have HB := n1_; clear n0_ n1_; (try clear hb); (try clear hb2); (try clear hk); (try clear hi)) | ((with_reducible refine gate_callee (f := 23) rfl ?_); refine goesL_ (some 35) rfl rfl Tryd.func23 (by kernel_rfl) rfl #[.int .i32 t143] rfl (by (try simp only [List.map_toArray, List.map_cons, List.map_nil]); first | done | rfl | (simp only [List.length_drop, List.length_take]; rfl)) ?_; (with_reducible refine (selvedgeref02_One.calls k1 t143 t146 _ A8.out).mono ?_); rintro e w11 ⟨v147, rfl, ho0, hb⟩; refine ⟨_, rfl, ?_⟩; have n0_ := Aside0.mk (Kd.R_elder' (by (with_reducible repeat (first | apply Kd.R_alloc | apply Kd.R_drewN | apply Kd.R_drew)); exact HO_5.out) (Kd.R_base ho0) hb); have n1_ := Aside0.mk (Kd.R_lower (Kd.R_new' ho0 (Kd.R_lt (by (with_reducible repeat (first | apply Kd.R_alloc | apply Kd.R_drewN | apply Kd.R_drew)); exact HO_5.out))) (below_size (by repeat (first | (with_reducible first | exact HB.out | apply below_alloc | apply pw_below_drewN | apply below_drew1) | exact HB.out)))); have n2_ := Aside0.mk (below_step (by repeat (first | (with_reducible first | exact HB.out | apply below_alloc | apply pw_below_drewN | apply below_drew1) | exact HB.out)) hb); clear HO_5; clear HB; have HO_5 := n0_; have HO148 := n1_; have HB := n2_; clear n0_ n1_ n2_; (try clear hb); (try clear hb2); (try clear hk); (try clear hi); (try clear ho0); obtain ⟨Ao13, co13, eo13⟩ := Kd.R_slice HO148.out; subst eo13) | ((with_reducible refine gate_builtin (b := .append) (xs := #[.tmp 33, .tmp 35]) rfl ?_); at_builtin; refine Kd.R_append_rows (Kd.int .u8) (w0 := w) w.heap.size rfl (.tmp 33) (.tmp 35) 25 5 (.int .u8 0) 1 rfl Tryd.underlying25 info5 rfl (by decide) (by omega) u5 x5_1 t146 _ _ _ (fun k_ => some k_ ≠ (.slice Ao13 t146.length co13 : Value).ownBlock) (fun _ => False) rfl rfl ?aO ?aR (fun _ _ h => h) (fun _ h => h.elim) ?aF ?aB ?aS ?aL ?_; (case aR => repeat (first | exact (Kd.R_reads' HO148.out).2.2 | (with_reducible refine Kd.C_alloc ?_ _) | (with_reducible refine Kd.C_drewN ?_ _) | (with_reducible refine Kd.C_drew ?_))); (case aB => exact (by repeat (first | (with_reducible first | exact HB.out | apply below_alloc | apply pw_below_drewN | apply below_drew1) | exact HB.out))); (case aF => exact (fun k_ hk => Kd.fresh' (Kd.R_lt (by (with_reducible repeat (first | apply Kd.R_alloc | apply Kd.R_drewN | apply Kd.R_drew)); exact HO148.out)) k_ hk)); (case aO => exact (by (with_reducible repeat (first | apply Kd.R_alloc | apply Kd.R_drewN | apply Kd.R_drew)); exact Kd.R_mono HO_5.out (fun _ hk => hk.2))); (case aS => exact (below_size (by repeat (first | (with_reducible first | exact HB.out | apply below_alloc | apply pw_below_drewN | apply below_drew1) | exact HB.out)))); (case aL => have := LMc9.out; omega); intro v150 w12 ho hb hg hat; rw [← Ny149.out] at ho; have n0_ := Aside0.mk (Kd.R_after (ok := (fun _ => True)) (by (with_reducible repeat (first | apply Kd.R_alloc | apply Kd.R_drewN | apply Kd.R_drew)); exact HO148.out) hg hat); have n1_ := Aside0.mk (hb); have n2_ := Aside0.mk (ho); clear HO148; clear HB; clear HO_5; have HO148 := n0_; have HB := n1_; have HO151 := n2_; clear n0_ n1_ n2_; clear ho hb hg hat))
        go_roundg k1
        case measure => have := HK1.out; omega
        case rel => exact ⟨(y149), (wrap64 (x6_1 + t144)), (by first | rfl | (simp; done) | (simp [*]; done)), H', ⟨by have := HK1.out; omega⟩, ⟨by (with_reducible repeat (first | apply Kd.R_alloc | apply Kd.R_drewN | apply Kd.R_drew)); exact Kd.R_mono HO151.out (fun _ hk => trivial)⟩, ⟨by repeat (first | (with_reducible first | exact HB.out | apply below_alloc | apply pw_below_drewN | apply below_drew1) | exact HB.out)⟩⟩
       ·rw [if_neg c9] at H
        exact absurd H (by simp)
      ·replace c7 := Bool.eq_false_iff.mpr c7
       subst c7
       have H1 : (if x5_1.length < 140737488355328 then (selvedgeref03_Decode.l0 k1 a0 a1 (x5_1 ++ [bt a0 x6_1]) (wrap64 (x6_1 + 1))) else (none)) = some r := by rw [if_neg (show ¬ (false = true) by decide)] at H; exact H
       clear H
       have H := H1
       clear H1
       by_cases c15 : x5_1.length < 140737488355328
       ·rw [if_pos c15] at H
        have LMc15 := Aside0.mk c15
        clear c15
        obtain ⟨y152, hy152⟩ : ∃ y_ : List Int, y_ = (x5_1 ++ [bt a0 x6_1]) := ⟨_, rfl⟩
        replace H : (selvedgeref03_Decode.l0 k1 a0 a1 y152 (wrap64 (x6_1 + 1))) = some r := by first | (rw [hy152]; with_reducible exact H) | (have H2_ := (Option.bind_some _ _).symm.trans H; rw [hy152]; with_reducible exact H2_) | (have H2_ := (Option.bind_some _ _).symm.trans H; with_reducible exact H2_) | with_reducible exact H | (rw [hy152]; exact H) | exact H
        have Ny152 := Aside0.mk hy152
        clear hy152
        have H' := Aside0.mk H
        clear H
        go_wp2_with (first | ((with_reducible refine gate_callee (f := 22) rfl ?_); refine goesL_ (some 19) rfl rfl Tryd.func22 (by kernel_rfl) rfl #[.string (a0.extract (x6_1 : Int).toNat a0.size), .bool a1] rfl (by (try simp only [List.map_toArray, List.map_cons, List.map_nil]); first | done | rfl | (simp only [List.length_drop, List.length_take]; rfl)) ?_; (with_reducible refine (selvedgeref03_Find.calls k1 (a0.extract (x6_1 : Int).toNat a0.size) a1 t143 t144 false _ A6.out).mono ?_); rintro e w16 ⟨rfl, hb⟩; refine ⟨_, rfl, ?_⟩; have n0_ := Aside0.mk (Kd.R_below (by (with_reducible repeat (first | apply Kd.R_alloc | apply Kd.R_drewN | apply Kd.R_drew)); exact HO_5.out) hb); have n1_ := Aside0.mk (below_step (by repeat (first | (with_reducible first | exact HB.out | apply below_alloc | apply pw_below_drewN | apply below_drew1) | exact HB.out)) hb); clear HO_5; clear HB; have HO_5 := n0_; have HB := n1_; clear n0_ n1_; (try clear hb); (try clear hb2); (try clear hk); (try clear hi); have p14 : 0 ≤ (x6_1 : Int) := of_decide_eq_true (by first | (with_reducible assumption) | assumption); have q14 : x6_1 < (a0.size : Int) := of_decide_eq_true (by first | (with_reducible assumption) | assumption); have hx14 := bt_at a0 x6_1; replace p14 := eq_true p14; replace q14 := eq_true q14) | ((with_reducible refine gate_builtin (b := .append) (xs := #[.tmp 25, .tmp 29]) rfl ?_); at_builtin; refine Kd.R_append (Kd.int .u8) (w0 := w) w.heap.size rfl (.tmp 25) (.tmp 29) 25 5 (.int .u8 0) 1 rfl Tryd.underlying25 info5 rfl (by decide) (by omega) u5 x5_1 (bt a0 x6_1) [.int .u8 (bt a0 x6_1)] (fun _ => True) (fun _ => False) rfl rfl ?aP (fun _ hk => hk.elim) ?aF ?aO ?aB ?aS ?aL ?_; (case aP => exact rfl); (case aB => exact (by repeat (first | (with_reducible first | exact HB.out | apply below_alloc | apply pw_below_drewN | apply below_drew1) | exact HB.out))); (case aF => exact (fun _ _ => trivial)); (case aO => exact (by (with_reducible repeat (first | apply Kd.R_alloc | apply Kd.R_drewN | apply Kd.R_drew)); exact HO_5.out)); (case aS => exact (below_size (by repeat (first | (with_reducible first | exact HB.out | apply below_alloc | apply pw_below_drewN | apply below_drew1) | exact HB.out)))); (case aL => have := LMc15.out; omega); intro v153 w17 ho hb hg hat; rw [← Ny152.out] at ho; have n0_ := Aside0.mk (hb); have n1_ := Aside0.mk (ho); clear HB; clear HO_5; have HB := n0_; have HO154 := n1_; clear n0_ n1_; clear ho hb hg hat))
        go_roundg k1
        case measure => have := HK1.out; omega
        case rel => exact ⟨(y152), (wrap64 (x6_1 + 1)), (by first | rfl | (simp; done) | (simp [*]; done)), H', ⟨by have := HK1.out; omega⟩, ⟨by (with_reducible repeat (first | apply Kd.R_alloc | apply Kd.R_drewN | apply Kd.R_drew)); exact HO154.out⟩, ⟨by repeat (first | (with_reducible first | exact HB.out | apply below_alloc | apply pw_below_drewN | apply below_drew1) | exact HB.out)⟩⟩
       ·rw [if_neg c15] at H
        exact absurd H (by simp)
     ·rw [if_neg c5] at H
      exact absurd H (by simp)
    ·rw [if_neg c4] at H
     exact absurd H (by simp)
   ·rw [if_neg c3] at H
    have c3b0 : decide (x6_1 < (a0.size : Int)) = false := decide_eq_false c3
    clear c3
    obtain rfl := Option.some.inj H
    have hcv18 := own_string (P := Tryd.prog) Tryd.underlying25 Tryd.underlying5 Tryd.underlying9 (Kd.own_of_R HO_5.out)
    go_wp2
    go_ret
    exact ⟨by first | rfl | (simp [errW_none, errW_some] <;> rfl) | (simp [*, errW_none, errW_some] <;> rfl), by repeat (first | (with_reducible first | exact HB.out | apply below_alloc | apply pw_below_drewN | apply below_drew1) | exact HB.out)⟩

end Go.Proofs.YtablhjobjmmpnaaDoor.Q
