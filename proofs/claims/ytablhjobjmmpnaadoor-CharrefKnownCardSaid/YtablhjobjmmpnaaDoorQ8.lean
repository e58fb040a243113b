-- laid by this session's own program (wip/qprint.sh: the kit's printer, forked by wip/fork_print.py)
import Derived.Test.YtablhjobjmmpnaaDoorQ0
import Derived.Test.YtablhjobjmmpnaaDoorQ3
import Derived.Test.YtablhjobjmmpnaaDoorQ5
import Derived.Test.YtablhjobjmmpnaaDoorStub
import Derived.Test.YtablhjobjmmpnaaDoorT
namespace Go.Proofs.YtablhjobjmmpnaaDoor.Q
open Go.RowKit Go.Proofs.YtablhjobjmmpnaaDoorW.PrintWords Go.Proofs.YtablhjobjmmpnaaDoorW.PrintLast Go.Proofs.YtablhjobjmmpnaaDoorW.PrintMore
attribute [local go_sem] max2_int min2_int max_two min_two max_three min_three max_four min_four   -- for this text's walks alone
set_option linter.unusedVariables false
set_option linter.unusedSimpArgs false

/-! ### selvedgelaw03_CharrefFinds: function 15 -/
mutual
def selvedgelaw03_CharrefFinds.j0 : Nat → ByteArray → Int → ByteArray → Bool → Bool → Option (Bool)
 | 0, _, _, _, _, _ => none
 | k + 1, x0, x1, x2, x3, x26 => if x26 = true then ((selvedgelaw03_works.f k).bind fun t195 => (some t195)) else ((selvedgeref03_Names.f k).bind fun t196 => (if (t196.length : Int) = 0 then (none) else (if 0 ≤ (Int.tmod (wrap64 (x1)) (t196.length : Int)) then (if (Int.tmod (wrap64 (x1)) (t196.length : Int)) < (t196.length : Int) then (if 1 + ((rd_T35 t196 (Int.tmod (wrap64 (x1)) (t196.length : Int))).f0).size ≤ 9223372036854775807 then (if ((⟨#[38]⟩ : ByteArray) ++ ((rd_T35 t196 (Int.tmod (wrap64 (x1)) (t196.length : Int))).f0)).size + x2.size ≤ 9223372036854775807 then (if 2 + x2.size ≤ 9223372036854775807 then (if 3 + x2.size ≤ 9223372036854775807 then ((some (([x0, ((⟨#[38]⟩ : ByteArray) ++ ((rd_T35 t196 (Int.tmod (wrap64 (x1)) (t196.length : Int))).f0)) ++ x2, (⟨#[38, 35]⟩ : ByteArray) ++ x2, (⟨#[38, 35, 120]⟩ : ByteArray) ++ x2] : List ByteArray) : List ByteArray)).bind fun y200 => (selvedgelaw03_CharrefFinds.l0 k x3 y200 (y200.length : Int) 0)) else (none)) else (none)) else (none)) else (none)) else (none)) else (none))))
def selvedgelaw03_CharrefFinds.l0 : Nat → Bool → List ByteArray → Int → Int → Option (Bool)
 | 0, _, _, _, _ => none
 | k + 1, x3, x47, x48, x49 => if x49 < x48 then (if 0 ≤ x49 then (if x49 < (x47.length : Int) then ((charref_Find.f k (rdOf ByteArray.empty x47 x49) x3).bind fun bt205 => ((selvedgeref03_Find.f k (rdOf ByteArray.empty x47 x49) x3).bind fun bt208 => (if bt205.1 = bt208.1 then (if bt205.2.1 = bt208.2.1 then (if (bt205.2.2 != bt208.2.2) = true then (some false) else (selvedgelaw03_CharrefFinds.l0 k x3 x47 x48 (wrap64 (x49 + 1)))) else (some false)) else (some false)))) else (none)) else (none)) else ((selvedgelaw03_works.f k).bind fun t203 => (some t203))
end
def selvedgelaw03_CharrefFinds.f (k : Nat) (a0 : ByteArray) (a1 : Int) (a2 : ByteArray) (a3 : Bool) : Option (Bool) := if (a0.size : Int) > 5000 then (selvedgelaw03_CharrefFinds.j0 k a0 a1 a2 a3 true) else (selvedgelaw03_CharrefFinds.j0 k a0 a1 a2 a3 (decide ((a2.size : Int) > 5000)))
theorem selvedgelaw03_CharrefFinds.mono_l : ∀ k, (∀ y0 y1 y2 y3 y4, LeO (selvedgelaw03_CharrefFinds.j0 k y0 y1 y2 y3 y4) (selvedgelaw03_CharrefFinds.j0 (k + 1) y0 y1 y2 y3 y4)) ∧ (∀ y0 y1 y2 y3, LeO (selvedgelaw03_CharrefFinds.l0 k y0 y1 y2 y3) (selvedgelaw03_CharrefFinds.l0 (k + 1) y0 y1 y2 y3))
 | 0 => ⟨fun _ _ _ _ _ r h => by simp [selvedgelaw03_CharrefFinds.j0] at h, fun _ _ _ _ r h => by simp [selvedgelaw03_CharrefFinds.l0] at h⟩
 | k + 1 => by
  obtain ⟨ih0, ih1⟩ := selvedgelaw03_CharrefFinds.mono_l k
  refine ⟨?_, ?_⟩
  ·intro y0 y1 y2 y3 y4
   unfold selvedgelaw03_CharrefFinds.j0
   repeat' first
   | (with_reducible exact ih0 _ _ _ _ _)
   | (with_reducible exact ih1 _ _ _ _)
   | (with_reducible exact charref_Find.mono _ _ _)
   | (with_reducible exact selvedgelaw03_works.mono _)
   | (with_reducible exact selvedgeref03_Find.mono _ _ _)
   | (with_reducible exact selvedgeref03_Names.mono _)
   | (with_reducible exact LeO.refl _)
   | (with_reducible exact LeO.none _)
   | (with_reducible refine LeO.ite ?_ ?_)
   | (with_reducible refine LeO.bind ?_ (fun _ => ?_))
   | exact ih0 _ _ _ _ _
   | exact ih1 _ _ _ _
   | exact charref_Find.mono _ _ _
   | exact selvedgelaw03_works.mono _
   | exact selvedgeref03_Find.mono _ _ _
   | exact selvedgeref03_Names.mono _
   | exact LeO.none _
   | refine LeO.ite ?_ ?_
   | refine LeO.bind ?_ (fun _ => ?_)
  ·intro y0 y1 y2 y3
   unfold selvedgelaw03_CharrefFinds.l0
   repeat' first
   | (with_reducible exact ih0 _ _ _ _ _)
   | (with_reducible exact ih1 _ _ _ _)
   | (with_reducible exact charref_Find.mono _ _ _)
   | (with_reducible exact selvedgelaw03_works.mono _)
   | (with_reducible exact selvedgeref03_Find.mono _ _ _)
   | (with_reducible exact selvedgeref03_Names.mono _)
   | (with_reducible exact LeO.refl _)
   | (with_reducible exact LeO.none _)
   | (with_reducible refine LeO.ite ?_ ?_)
   | (with_reducible refine LeO.bind ?_ (fun _ => ?_))
   | exact ih0 _ _ _ _ _
   | exact ih1 _ _ _ _
   | exact charref_Find.mono _ _ _
   | exact selvedgelaw03_works.mono _
   | exact selvedgeref03_Find.mono _ _ _
   | exact selvedgeref03_Names.mono _
   | exact LeO.none _
   | refine LeO.ite ?_ ?_
   | refine LeO.bind ?_ (fun _ => ?_)
theorem selvedgelaw03_CharrefFinds.mono : ∀ a0 a1 a2 a3 k, LeO (selvedgelaw03_CharrefFinds.f k a0 a1 a2 a3) (selvedgelaw03_CharrefFinds.f (k + 1) a0 a1 a2 a3) := by
 intro a0 a1 a2 a3 k
 obtain ⟨ih0, ih1⟩ := selvedgelaw03_CharrefFinds.mono_l k
 unfold selvedgelaw03_CharrefFinds.f
 repeat' first
   | (with_reducible exact ih0 _ _ _ _ _)
   | (with_reducible exact ih1 _ _ _ _)
   | (with_reducible exact charref_Find.mono _ _ _)
   | (with_reducible exact selvedgelaw03_works.mono _)
   | (with_reducible exact selvedgeref03_Find.mono _ _ _)
   | (with_reducible exact selvedgeref03_Names.mono _)
   | (with_reducible exact LeO.refl _)
   | (with_reducible exact LeO.none _)
   | (with_reducible refine LeO.ite ?_ ?_)
   | (with_reducible refine LeO.bind ?_ (fun _ => ?_))
   | exact ih0 _ _ _ _ _
   | exact ih1 _ _ _ _
   | exact charref_Find.mono _ _ _
   | exact selvedgelaw03_works.mono _
   | exact selvedgeref03_Find.mono _ _ _
   | exact selvedgeref03_Names.mono _
   | exact LeO.none _
   | refine LeO.ite ?_ ?_
   | refine LeO.bind ?_ (fun _ => ?_)
set_option maxHeartbeats 8000000 in
set_option maxRecDepth 100000 in
theorem selvedgelaw03_CharrefFinds.calls (k : Nat) (a0 : ByteArray) (a1 : Int) (a2 : ByteArray) (a3 : Bool) (r : Bool) (w : World) (hG : GW w) (h : selvedgelaw03_CharrefFinds.f k a0 a1 a2 a3 = some r) :
  Calls Tryd.prog 15 #[.string a0, .int .u8 a1, .string a2, .bool a3] w fun e w' => e = .returned (.bool r) ∧ Below w.heap.size w w' := by
 have HB := Aside0.mk (Below.refl w.heap.size w)
 have H : (if (a0.size : Int) > 5000 then (selvedgelaw03_CharrefFinds.j0 k a0 a1 a2 a3 true) else (selvedgelaw03_CharrefFinds.j0 k a0 a1 a2 a3 (decide ((a2.size : Int) > 5000)))) = some r := h
 clear h
 have HC5 := Aside0.mk H
 clear H
 go_enter Tryd.func15, Tryd.ntmps15
 go_upto_region 1 with (fail)
 go_cut [26] (fun v26 wc => ∃ (kq : Nat) (x26_4 : Bool), v26 = .bool x26_4 ∧ Aside0 (selvedgelaw03_CharrefFinds.j0 kq a0 a1 a2 a3 x26_4 = some r) ∧ Aside0 (kq ≤ k) ∧ Aside0 (Below w.heap.size w wc))
 case first =>
  have H := HC5.out
  clear HC5
  by_cases c6 : (a0.size : Int) > 5000
  ·rw [if_pos c6] at H
   have c6b0 : decide (5000 < (a0.size : Int)) = true := decide_eq_true c6
   have c6b1 : decide (5000 < a0.size) = true := decide_eq_true (by omega)
   clear c6
   (first | rw [c6b0] | (simp only [i64_w, i32_w]; rw [c6b0]) | skip)
   have H' := Aside0.mk H
   clear H
   go_wp2
   go_meet
   case rel => exact ⟨_, (true), (by first | rfl | (simp; done) | (simp [*]; done)), H', ⟨by first | omega | exact Nat.le_refl _⟩, ⟨by repeat (first | (with_reducible first | exact HB.out | apply below_alloc | apply pw_below_drewN | apply below_drew1) | exact HB.out)⟩⟩
  ·rw [if_neg c6] at H
   have c6b0 : decide (5000 < (a0.size : Int)) = false := decide_eq_false c6
   have c6b1 : decide (5000 < a0.size) = false := decide_eq_false (by omega)
   clear c6
   (first | rw [c6b0] | (simp only [i64_w, i32_w]; rw [c6b0]) | skip)
   have H' := Aside0.mk H
   clear H
   go_wp2
   go_meet
   case rel => exact ⟨_, (decide ((a2.size : Int) > 5000)), (by first | rfl | (simp; done) | (simp [*]; done)), H', ⟨by first | omega | exact Nat.le_refl _⟩, ⟨by repeat (first | (with_reducible first | exact HB.out | apply below_alloc | apply pw_below_drewN | apply below_drew1) | exact HB.out)⟩⟩
 case rest =>
  clear HC5
  try clear c1
  try clear p2
  try clear c6
  try clear c6b0
  try clear c6b1
  obtain ⟨kq, x26_4, rfl, HA, HJ4, HB⟩ := hcut
  cases kq with
  | zero => exact absurd HA.out (by simp [selvedgelaw03_CharrefFinds.j0])
  | succ kj4 =>
   have H := HA.out
   clear HA
   simp only [selvedgelaw03_CharrefFinds.j0] at H
   by_cases c7 : x26_4 = true
   ·subst c7
    have H1 : ((selvedgelaw03_works.f kj4).bind fun t195 => (some t195)) = some r := by rw [if_pos rfl] at H; exact H
    clear H
    have H := H1
    clear H1
    replace H := Option.bind_eq_some_iff.mp H
    obtain ⟨t195, A80, H⟩ := H
    replace H : (some t195) = some r := H
    have A8 := Aside0.mk A80
    clear A80
    obtain rfl := Option.some.inj H
    go_wp2_with (first | ((with_reducible refine gate_callee (f := 9) rfl ?_); refine goesL_ (some 27) rfl rfl Tryd.func9 (by kernel_rfl) rfl #[] rfl (by (try simp only [List.map_toArray, List.map_cons, List.map_nil]); first | done | rfl | (simp only [List.length_drop, List.length_take]; rfl)) ?_; (with_reducible refine (selvedgelaw03_works.calls kj4  t195 _ ?side1 A8.out).mono ?_); (case side1 => exact GW_below hG (by repeat (first | (with_reducible first | exact HB.out | apply below_alloc | apply pw_below_drewN | apply below_drew1) | exact HB.out))); rintro e w9 ⟨rfl, hb⟩; refine ⟨_, rfl, ?_⟩; have n0_ := Aside0.mk (below_step (by repeat (first | (with_reducible first | exact HB.out | apply below_alloc | apply pw_below_drewN | apply below_drew1) | exact HB.out)) hb); clear HB; have HB := n0_; clear n0_; (try clear hb); (try clear hb2); (try clear hk); (try clear hi)))
    go_ret
    exact ⟨by first | rfl | (simp [errW_none, errW_some] <;> rfl) | (simp [*, errW_none, errW_some] <;> rfl), by repeat (first | (with_reducible first | exact HB.out | apply below_alloc | apply pw_below_drewN | apply below_drew1) | exact HB.out)⟩
   ·replace c7 := Bool.eq_false_iff.mpr c7
    subst c7
    have H1 : ((selvedgeref03_Names.f kj4).bind fun t196 => (if (t196.length : Int) = 0 then (none) else (if 0 ≤ (Int.tmod (wrap64 (a1)) (t196.length : Int)) then (if (Int.tmod (wrap64 (a1)) (t196.length : Int)) < (t196.length : Int) then (if 1 + ((rd_T35 t196 (Int.tmod (wrap64 (a1)) (t196.length : Int))).f0).size ≤ 9223372036854775807 then (if ((⟨#[38]⟩ : ByteArray) ++ ((rd_T35 t196 (Int.tmod (wrap64 (a1)) (t196.length : Int))).f0)).size + a2.size ≤ 9223372036854775807 then (if 2 + a2.size ≤ 9223372036854775807 then (if 3 + a2.size ≤ 9223372036854775807 then ((some (([a0, ((⟨#[38]⟩ : ByteArray) ++ ((rd_T35 t196 (Int.tmod (wrap64 (a1)) (t196.length : Int))).f0)) ++ a2, (⟨#[38, 35]⟩ : ByteArray) ++ a2, (⟨#[38, 35, 120]⟩ : ByteArray) ++ a2] : List ByteArray) : List ByteArray)).bind fun y200 => (selvedgelaw03_CharrefFinds.l0 kj4 a3 y200 (y200.length : Int) 0)) else (none)) else (none)) else (none)) else (none)) else (none)) else (none)))) = some r := by rw [if_neg (show ¬ (false = true) by decide)] at H; exact H
    clear H
    have H := H1
    clear H1
    replace H := Option.bind_eq_some_iff.mp H
    obtain ⟨t196, A100, H⟩ := H
    replace H : (if (t196.length : Int) = 0 then (none) else (if 0 ≤ (Int.tmod (wrap64 (a1)) (t196.length : Int)) then (if (Int.tmod (wrap64 (a1)) (t196.length : Int)) < (t196.length : Int) then (if 1 + ((rd_T35 t196 (Int.tmod (wrap64 (a1)) (t196.length : Int))).f0).size ≤ 9223372036854775807 then (if ((⟨#[38]⟩ : ByteArray) ++ ((rd_T35 t196 (Int.tmod (wrap64 (a1)) (t196.length : Int))).f0)).size + a2.size ≤ 9223372036854775807 then (if 2 + a2.size ≤ 9223372036854775807 then (if 3 + a2.size ≤ 9223372036854775807 then ((some (([a0, ((⟨#[38]⟩ : ByteArray) ++ ((rd_T35 t196 (Int.tmod (wrap64 (a1)) (t196.length : Int))).f0)) ++ a2, (⟨#[38, 35]⟩ : ByteArray) ++ a2, (⟨#[38, 35, 120]⟩ : ByteArray) ++ a2] : List ByteArray) : List ByteArray)).bind fun y200 => (selvedgelaw03_CharrefFinds.l0 kj4 a3 y200 (y200.length : Int) 0)) else (none)) else (none)) else (none)) else (none)) else (none)) else (none))) = some r := H
    have A10 := Aside0.mk A100
    clear A100
    by_cases c11 : (t196.length : Int) = 0
    ·rw [if_pos c11] at H
     exact absurd H (by simp)
    ·rw [if_neg c11] at H
     have c11b0 : ((t196.length : Int) == 0) = false := beq_eq_false_iff_ne.mpr c11
     have c11b1 : ((t196.length : Int) != 0) = true := bne_iff_ne.mpr c11
     have c11b2 : ¬ (t196 = []) := fun h_ => c11 (by rw [h_]; rfl)
     obtain ⟨ji12, hji12⟩ : ∃ j_ : Int, (Int.tmod (wrap64 (a1)) (t196.length : Int)) = j_ := ⟨_, rfl⟩
     replace H : (if 0 ≤ (ji12) then (if (ji12) < (t196.length : Int) then (if 1 + ((rd_T35 t196 (ji12)).f0).size ≤ 9223372036854775807 then (if ((⟨#[38]⟩ : ByteArray) ++ ((rd_T35 t196 (ji12)).f0)).size + a2.size ≤ 9223372036854775807 then (if 2 + a2.size ≤ 9223372036854775807 then (if 3 + a2.size ≤ 9223372036854775807 then ((some (([a0, ((⟨#[38]⟩ : ByteArray) ++ ((rd_T35 t196 (ji12)).f0)) ++ a2, (⟨#[38, 35]⟩ : ByteArray) ++ a2, (⟨#[38, 35, 120]⟩ : ByteArray) ++ a2] : List ByteArray) : List ByteArray)).bind fun y200 => (selvedgelaw03_CharrefFinds.l0 kj4 a3 y200 (y200.length : Int) 0)) else (none)) else (none)) else (none)) else (none)) else (none)) else (none)) = some r := by first | (rw [hji12] at H; exact H) | (simp only [hji12] at H ⊢; exact H)
     (try rw [hji12] at A10)
     by_cases c13 : 0 ≤ (ji12)
     ·rw [if_pos c13] at H
      have c13b0 : decide (0 ≤ (ji12)) = true := decide_eq_true c13
      clear c13
      by_cases c14 : (ji12) < (t196.length : Int)
      ·rw [if_pos c14] at H
       have c14b0 : decide ((ji12) < (t196.length : Int)) = true := decide_eq_true c14
       clear c14
       by_cases c15 : 1 + ((rd_T35 t196 (ji12)).f0).size ≤ 9223372036854775807
       ·rw [if_pos c15] at H
        have c15b0 := eq_true c15
        have c15b1 : decide (1 + ((rd_T35 t196 (ji12)).f0).size ≤ 9223372036854775807) = true := decide_eq_true c15
        try have c15b2 : (9223372036854775807 < 1 + ((rd_T35 t196 (ji12)).f0).size) = False := eq_false (Nat.not_lt.2 c15)
        by_cases c16 : ((⟨#[38]⟩ : ByteArray) ++ ((rd_T35 t196 (ji12)).f0)).size + a2.size ≤ 9223372036854775807
        ·rw [if_pos c16] at H
         have c16b0 := eq_true c16
         have c16b1 : decide (((⟨#[38]⟩ : ByteArray) ++ ((rd_T35 t196 (ji12)).f0)).size + a2.size ≤ 9223372036854775807) = true := decide_eq_true c16
         try have c16b2 : (9223372036854775807 < ((⟨#[38]⟩ : ByteArray) ++ ((rd_T35 t196 (ji12)).f0)).size + a2.size) = False := eq_false (Nat.not_lt.2 c16)
         try have c16m_ := c16
         try simp only [ByteArray.size_append, show ((⟨#[38]⟩ : ByteArray)).size = 1 from rfl] at c16m_
         try push_cast at c16m_
         try simp only [Int.not_lt, Int.not_le, Nat.not_lt, Nat.not_le, gt_iff_lt, ge_iff_le] at c16m_
         try have c16k_ := Nat.not_lt.2 c16m_
         by_cases c17 : 2 + a2.size ≤ 9223372036854775807
         ·rw [if_pos c17] at H
          have c17b0 := eq_true c17
          have c17b1 : decide (2 + a2.size ≤ 9223372036854775807) = true := decide_eq_true c17
          try have c17b2 : (9223372036854775807 < 2 + a2.size) = False := eq_false (Nat.not_lt.2 c17)
          by_cases c18 : 3 + a2.size ≤ 9223372036854775807
          ·rw [if_pos c18] at H
           have c18b0 := eq_true c18
           have c18b1 : decide (3 + a2.size ≤ 9223372036854775807) = true := decide_eq_true c18
           try have c18b2 : (9223372036854775807 < 3 + a2.size) = False := eq_false (Nat.not_lt.2 c18)
           obtain ⟨y200, hy200⟩ : ∃ y_ : List ByteArray, y_ = (([a0, ((⟨#[38]⟩ : ByteArray) ++ ((rd_T35 t196 (ji12)).f0)) ++ a2, (⟨#[38, 35]⟩ : ByteArray) ++ a2, (⟨#[38, 35, 120]⟩ : ByteArray) ++ a2] : List ByteArray)) := ⟨_, rfl⟩
           replace H : (selvedgelaw03_CharrefFinds.l0 kj4 a3 y200 (y200.length : Int) 0) = some r := by first | (rw [hy200]; with_reducible exact H) | (have H2_ := (Option.bind_some _ _).symm.trans H; rw [hy200]; with_reducible exact H2_) | (have H2_ := (Option.bind_some _ _).symm.trans H; with_reducible exact H2_) | with_reducible exact H | (rw [hy200]; exact H) | exact H
           have Ny200 := Aside0.mk hy200
           clear hy200
           have H' := Aside0.mk H
           clear H
           go_wp2_with (first | ((with_reducible refine gate_callee (f := 14) rfl ?_); refine goesL_ (some 28) rfl rfl Tryd.func14 (by kernel_rfl) rfl #[] rfl (by (try simp only [List.map_toArray, List.map_cons, List.map_nil]); first | done | rfl | (simp only [List.length_drop, List.length_take]; rfl)) ?_; (with_reducible refine (selvedgeref03_Names.calls kj4  t196 _ A10.out).mono ?_); rintro e w19 ⟨v197, rfl, ho0, hb⟩; refine ⟨_, rfl, ?_⟩; have n0_ := Aside0.mk (Kd.R_lower ho0 (below_size (by repeat (first | (with_reducible first | exact HB.out | apply below_alloc | apply pw_below_drewN | apply below_drew1) | exact HB.out)))); have n1_ := Aside0.mk (below_step (by repeat (first | (with_reducible first | exact HB.out | apply below_alloc | apply pw_below_drewN | apply below_drew1) | exact HB.out)) hb); clear HB; have HO198 := n0_; have HB := n1_; clear n0_ n1_; (try clear hb); (try clear hb2); (try clear hk); (try clear hi); (try clear ho0); obtain ⟨Ao20, co20, eo20⟩ := Kd.R_slice HO198.out; subst eo20; have p199 : 0 ≤ ((ji12) : Int) := of_decide_eq_true (by first | (with_reducible assumption) | assumption); have q199 : (ji12) < (t196.length : Int) := of_decide_eq_true (by first | (with_reducible assumption) | assumption); obtain ⟨ad199, e199, hx199_0, hx199_1, hx199_2⟩ := at_T35 (Kd.R_reads' HO198.out).2.2 (ji12) p199 q199; cases e199; replace p199 := eq_true p199; replace q199 := eq_true q199) | ((with_reducible refine gate_dst (N := 47) rfl ?_); (try (refine gate_guard (by rfl) ?_; dsimp only)); refine Kd.R_lit Kd.string _ 9 ?hg (N := 47) ?hd (xs := ([a0, ((⟨#[38]⟩ : ByteArray) ++ ((rd_T35 t196 (ji12)).f0)) ++ a2, (⟨#[38, 35]⟩ : ByteArray) ++ a2, (⟨#[38, 35, 120]⟩ : ByteArray) ++ a2] : List ByteArray)) (inner := [.string a0, .string (((⟨#[38]⟩ : ByteArray) ++ ((rd_T35 t196 (ji12)).f0)) ++ a2), .string ((⟨#[38, 35]⟩ : ByteArray) ++ a2), .string ((⟨#[38, 35, 120]⟩ : ByteArray) ++ a2)]) (ok := fun _ => True) (okp := fun _ => True) ?hr ?hp (fun _ hk => hk) trivial (Below.refl _ _) (Nat.le_refl _) (by simp) ?_; (case hd => rfl); (case hg => rfl); (case hr => first | (go_simp; done) | (go_simp; rfl)); (case hp => exact (Reps.one (show Kd.M Kd.string _ _ _ a0 [.string a0] from rfl) (Reps.one (show Kd.M Kd.string _ _ _ (((⟨#[38]⟩ : ByteArray) ++ ((rd_T35 t196 (ji12)).f0)) ++ a2) [.string (((⟨#[38]⟩ : ByteArray) ++ ((rd_T35 t196 (ji12)).f0)) ++ a2)] from rfl) (Reps.one (show Kd.M Kd.string _ _ _ ((⟨#[38, 35]⟩ : ByteArray) ++ a2) [.string ((⟨#[38, 35]⟩ : ByteArray) ++ a2)] from rfl) (Reps.one (show Kd.M Kd.string _ _ _ ((⟨#[38, 35, 120]⟩ : ByteArray) ++ a2) [.string ((⟨#[38, 35, 120]⟩ : ByteArray) ++ a2)] from rfl) (Reps.none _ _)))))); intro v201 w21 ho22 hb hg_ hnew_; clear hg_ hnew_; (first | rw [← Ny200.out] at ho22 | (simp only [Int.reduceToNat] at ho22; rw [← Ny200.out] at ho22)); have n0_ := Aside0.mk (Kd.R_below (by (with_reducible repeat (first | apply Kd.R_alloc | apply Kd.R_drewN | apply Kd.R_drew)); exact HO198.out) hb); have n1_ := Aside0.mk (Kd.R_lower ho22 (below_size (by repeat (first | (with_reducible first | exact HB.out | apply below_alloc | apply pw_below_drewN | apply below_drew1) | exact HB.out)))); have n2_ := Aside0.mk (below_step (by repeat (first | (with_reducible first | exact HB.out | apply below_alloc | apply pw_below_drewN | apply below_drew1) | exact HB.out)) hb); clear HO198; clear HB; have HO198 := n0_; have HO202 := n1_; have HB := n2_; clear n0_ n1_ n2_; clear hb ho22; obtain ⟨Ao23, co23, eo23⟩ := Kd.R_slice HO202.out; subst eo23))
           go_loopg [49] kj4 (fun kq v49 w' => ∃ (x49_2 : Int), v49 = .int .i64 x49_2 ∧ Aside0 (selvedgelaw03_CharrefFinds.l0 kq a3 y200 (y200.length : Int) x49_2 = some r) ∧ Aside0 (kq ≤ kj4) ∧ Aside0 (Kd.R Kd.string 9 w' w.heap.size (fun _ => True) (.slice Ao23 y200.length co23) y200) ∧ Aside0 (Below w.heap.size w w'))
           case atStart => exact ⟨(0), (by first | rfl | (simp; done) | (simp [*]; done)), H', ⟨Nat.le_refl _⟩, ⟨by (with_reducible repeat (first | apply Kd.R_alloc | apply Kd.R_drewN | apply Kd.R_drew)); exact HO202.out⟩, ⟨by repeat (first | (with_reducible first | exact HB.out | apply below_alloc | apply pw_below_drewN | apply below_drew1) | exact HB.out)⟩⟩
           case round =>
            clear H'
            try clear c1
            try clear p1
            try clear q1
            try clear hx1
            try clear p2
            try clear c6
            try clear c6b0
            try clear c6b1
            try clear p6
            try clear c7
            try clear c9
            try clear c11
            try clear c11b0
            try clear c11b1
            try clear c11b2
            try clear c13
            try clear c13b0
            try clear c14
            try clear c14b0
            try clear c15
            try clear c15b0
            try clear c15b1
            try clear c15b2
            try clear c16
            try clear c16b0
            try clear c16b1
            try clear c16b2
            try clear c17
            try clear c17b0
            try clear c17b1
            try clear c17b2
            try clear c18
            try clear c18b0
            try clear c18b1
            try clear c18b2
            try clear p19
            try clear q19
            try clear hx19
            try clear hx199_0
            try clear hx199_1
            try clear hx199_2
            try clear p199
            try clear p2
            try clear q199
            obtain ⟨x49_2, rfl, HA, HK2, HO_47, HB⟩ := hrel
            cases gk with
            | zero => exact absurd HA.out (by simp [selvedgelaw03_CharrefFinds.l0])
            | succ k2 =>
             have H := HA.out
             clear HA
             simp only [selvedgelaw03_CharrefFinds.l0] at H
             by_cases c24 : x49_2 < (y200.length : Int)
             ·rw [if_pos c24] at H
              have c24b0 : decide (x49_2 < (y200.length : Int)) = true := decide_eq_true c24
              clear c24
              by_cases c25 : 0 ≤ x49_2
              ·rw [if_pos c25] at H
               have c25b0 : decide (0 ≤ x49_2) = true := decide_eq_true c25
               clear c25
               by_cases c26 : x49_2 < (y200.length : Int)
               ·rw [if_pos c26] at H
                have c26b0 : decide (x49_2 < (y200.length : Int)) = true := decide_eq_true c26
                clear c26
                replace H := Option.bind_eq_some_iff.mp H
                obtain ⟨⟨t205, t206, t207⟩, A270, H⟩ := H
                replace H : ((selvedgeref03_Find.f k2 (rdOf ByteArray.empty y200 x49_2) a3).bind fun bt208 => (if t205 = bt208.1 then (if t206 = bt208.2.1 then (if (t207 != bt208.2.2) = true then (some false) else (selvedgelaw03_CharrefFinds.l0 k2 a3 y200 (y200.length : Int) (wrap64 (x49_2 + 1)))) else (some false)) else (some false))) = some r := H
                have A27 := Aside0.mk A270
                clear A270
                replace H := Option.bind_eq_some_iff.mp H
                obtain ⟨⟨t208, t209, t210⟩, A280, H⟩ := H
                replace H : (if t205 = t208 then (if t206 = t209 then (if (t207 != t210) = true then (some false) else (selvedgelaw03_CharrefFinds.l0 k2 a3 y200 (y200.length : Int) (wrap64 (x49_2 + 1)))) else (some false)) else (some false)) = some r := H
                have A28 := Aside0.mk A280
                clear A280
                by_cases c29 : t205 = t208
                ·rw [if_pos c29] at H
                 have c29b0 : (t205 == t208) = true := beq_iff_eq.mpr c29
                 have c29b1 : (t205 != t208) = false := bne_eq_false_iff_eq.mpr c29
                 clear c29
                 by_cases c30 : t206 = t209
                 ·rw [if_pos c30] at H
                  have c30b0 : (t206 == t209) = true := beq_iff_eq.mpr c30
                  have c30b1 : (t206 != t209) = false := bne_eq_false_iff_eq.mpr c30
                  clear c30
                  by_cases c31 : (t207 != t210) = true
                  ·rw [if_pos c31] at H
                   have c31b0 : (t207 != t210) = true := c31
                   (try (have c31b1 : decide (t207 = t210) = false := by simpa using c31))
                   (try (have c31b2 : (t207 == t210) = false := by simpa using c31))
                   (try (have c31b3 : ¬ (t207 = t210) := by simpa using c31))
                   clear c31
                   obtain rfl := Option.some.inj H
                   have p204 : 0 ≤ (x49_2 : Int) := of_decide_eq_true (by first | (with_reducible assumption) | assumption)
                   have q204 : x49_2 < (y200.length : Int) := of_decide_eq_true (by first | (with_reducible assumption) | assumption)
                   obtain ⟨ad204, e204, hx204_0⟩ := Kd.at_string (Kd.R_reads' HO_47.out).2.2 x49_2 p204 q204
                   cases e204
                   replace p204 := eq_true p204
                   replace q204 := eq_true q204
                   go_wp2_with (first | ((with_reducible refine gate_callee (f := 19) rfl ?_); refine goesL_ (some 56) rfl rfl Tryd.func19 (by kernel_rfl) rfl #[.string (rdOf ByteArray.empty y200 x49_2), .bool a3] rfl (by (try simp only [List.map_toArray, List.map_cons, List.map_nil]); first | done | rfl | (simp only [List.length_drop, List.length_take]; rfl)) ?_; (with_reducible refine (charref_Find.calls k2 (rdOf ByteArray.empty y200 x49_2) a3 t205 t206 t207 _ ?side1 A27.out).mono ?_); (case side1 => exact GW_below hG (by repeat (first | (with_reducible first | exact HB.out | apply below_alloc | apply pw_below_drewN | apply below_drew1) | exact HB.out))); rintro e w32 ⟨rfl, hb⟩; refine ⟨_, rfl, ?_⟩; have n0_ := Aside0.mk (Kd.R_below (by (with_reducible repeat (first | apply Kd.R_alloc | apply Kd.R_drewN | apply Kd.R_drew)); exact HO_47.out) hb); have n1_ := Aside0.mk (below_step (by repeat (first | (with_reducible first | exact HB.out | apply below_alloc | apply pw_below_drewN | apply below_drew1) | exact HB.out)) hb); clear HO_47; clear HB; have HO_47 := n0_; have HB := n1_; clear n0_ n1_; (try clear hb); (try clear hb2); (try clear hk); (try clear hi)) | ((with_reducible refine gate_callee (f := 22) rfl ?_); refine goesL_ (some 63) rfl rfl Tryd.func22 (by kernel_rfl) rfl #[.string (rdOf ByteArray.empty y200 x49_2), .bool a3] rfl (by (try simp only [List.map_toArray, List.map_cons, List.map_nil]); first | done | rfl | (simp only [List.length_drop, List.length_take]; rfl)) ?_; (with_reducible refine (selvedgeref03_Find.calls k2 (rdOf ByteArray.empty y200 x49_2) a3 t208 t209 t210 _ A28.out).mono ?_); rintro e w33 ⟨rfl, hb⟩; refine ⟨_, rfl, ?_⟩; have n0_ := Aside0.mk (Kd.R_below (by (with_reducible repeat (first | apply Kd.R_alloc | apply Kd.R_drewN | apply Kd.R_drew)); exact HO_47.out) hb); have n1_ := Aside0.mk (below_step (by repeat (first | (with_reducible first | exact HB.out | apply below_alloc | apply pw_below_drewN | apply below_drew1) | exact HB.out)) hb); clear HO_47; clear HB; have HO_47 := n0_; have HB := n1_; clear n0_ n1_; (try clear hb); (try clear hb2); (try clear hk); (try clear hi)))
                   go_ret
                   exact ⟨by first | rfl | (simp [errW_none, errW_some] <;> rfl) | (simp only [← hji12]; first | rfl | (simp [errW_none, errW_some] <;> rfl)) | (simp [*, errW_none, errW_some] <;> rfl), by repeat (first | (with_reducible first | exact HB.out | apply below_alloc | apply pw_below_drewN | apply below_drew1) | exact HB.out)⟩
                  ·rw [if_neg c31] at H
                   have c31b0 : (t207 != t210) = false := by simpa using c31
                   (try (have c31b1 : decide (t207 = t210) = true := by simpa using c31))
                   (try (have c31b2 : (t207 == t210) = true := by simpa using c31))
                   clear c31
                   have H' := Aside0.mk H
                   clear H
                   have p204 : 0 ≤ (x49_2 : Int) := of_decide_eq_true (by first | (with_reducible assumption) | assumption)
                   have q204 : x49_2 < (y200.length : Int) := of_decide_eq_true (by first | (with_reducible assumption) | assumption)
                   obtain ⟨ad204, e204, hx204_0⟩ := Kd.at_string (Kd.R_reads' HO_47.out).2.2 x49_2 p204 q204
                   cases e204
                   replace p204 := eq_true p204
                   replace q204 := eq_true q204
                   go_wp2_with (first | ((with_reducible refine gate_callee (f := 19) rfl ?_); refine goesL_ (some 56) rfl rfl Tryd.func19 (by kernel_rfl) rfl #[.string (rdOf ByteArray.empty y200 x49_2), .bool a3] rfl (by (try simp only [List.map_toArray, List.map_cons, List.map_nil]); first | done | rfl | (simp only [List.length_drop, List.length_take]; rfl)) ?_; (with_reducible refine (charref_Find.calls k2 (rdOf ByteArray.empty y200 x49_2) a3 t205 t206 t207 _ ?side1 A27.out).mono ?_); (case side1 => exact GW_below hG (by repeat (first | (with_reducible first | exact HB.out | apply below_alloc | apply pw_below_drewN | apply below_drew1) | exact HB.out))); rintro e w34 ⟨rfl, hb⟩; refine ⟨_, rfl, ?_⟩; have n0_ := Aside0.mk (Kd.R_below (by (with_reducible repeat (first | apply Kd.R_alloc | apply Kd.R_drewN | apply Kd.R_drew)); exact HO_47.out) hb); have n1_ := Aside0.mk (below_step (by repeat (first | (with_reducible first | exact HB.out | apply below_alloc | apply pw_below_drewN | apply below_drew1) | exact HB.out)) hb); clear HO_47; clear HB; have HO_47 := n0_; have HB := n1_; clear n0_ n1_; (try clear hb); (try clear hb2); (try clear hk); (try clear hi)) | ((with_reducible refine gate_callee (f := 22) rfl ?_); refine goesL_ (some 63) rfl rfl Tryd.func22 (by kernel_rfl) rfl #[.string (rdOf ByteArray.empty y200 x49_2), .bool a3] rfl (by (try simp only [List.map_toArray, List.map_cons, List.map_nil]); first | done | rfl | (simp only [List.length_drop, List.length_take]; rfl)) ?_; (with_reducible refine (selvedgeref03_Find.calls k2 (rdOf ByteArray.empty y200 x49_2) a3 t208 t209 t210 _ A28.out).mono ?_); rintro e w35 ⟨rfl, hb⟩; refine ⟨_, rfl, ?_⟩; have n0_ := Aside0.mk (Kd.R_below (by (with_reducible repeat (first | apply Kd.R_alloc | apply Kd.R_drewN | apply Kd.R_drew)); exact HO_47.out) hb); have n1_ := Aside0.mk (below_step (by repeat (first | (with_reducible first | exact HB.out | apply below_alloc | apply pw_below_drewN | apply below_drew1) | exact HB.out)) hb); clear HO_47; clear HB; have HO_47 := n0_; have HB := n1_; clear n0_ n1_; (try clear hb); (try clear hb2); (try clear hk); (try clear hi)))
                   go_roundg k2
                   case measure => have := HJ4.out; have := HK2.out; omega
                   case rel => exact ⟨(wrap64 (x49_2 + 1)), (by first | rfl | (simp; done) | (simp [*]; done)), H', ⟨by have := HJ4.out; have := HK2.out; omega⟩, ⟨by (with_reducible repeat (first | apply Kd.R_alloc | apply Kd.R_drewN | apply Kd.R_drew)); exact HO_47.out⟩, ⟨by repeat (first | (with_reducible first | exact HB.out | apply below_alloc | apply pw_below_drewN | apply below_drew1) | exact HB.out)⟩⟩
                 ·rw [if_neg c30] at H
                  have c30b0 : (t206 == t209) = false := beq_eq_false_iff_ne.mpr c30
                  have c30b1 : (t206 != t209) = true := bne_iff_ne.mpr c30
                  obtain rfl := Option.some.inj H
                  have p204 : 0 ≤ (x49_2 : Int) := of_decide_eq_true (by first | (with_reducible assumption) | assumption)
                  have q204 : x49_2 < (y200.length : Int) := of_decide_eq_true (by first | (with_reducible assumption) | assumption)
                  obtain ⟨ad204, e204, hx204_0⟩ := Kd.at_string (Kd.R_reads' HO_47.out).2.2 x49_2 p204 q204
                  cases e204
                  replace p204 := eq_true p204
                  replace q204 := eq_true q204
                  go_wp2_with (first | ((with_reducible refine gate_callee (f := 19) rfl ?_); refine goesL_ (some 56) rfl rfl Tryd.func19 (by kernel_rfl) rfl #[.string (rdOf ByteArray.empty y200 x49_2), .bool a3] rfl (by (try simp only [List.map_toArray, List.map_cons, List.map_nil]); first | done | rfl | (simp only [List.length_drop, List.length_take]; rfl)) ?_; (with_reducible refine (charref_Find.calls k2 (rdOf ByteArray.empty y200 x49_2) a3 t205 t206 t207 _ ?side1 A27.out).mono ?_); (case side1 => exact GW_below hG (by repeat (first | (with_reducible first | exact HB.out | apply below_alloc | apply pw_below_drewN | apply below_drew1) | exact HB.out))); rintro e w36 ⟨rfl, hb⟩; refine ⟨_, rfl, ?_⟩; have n0_ := Aside0.mk (Kd.R_below (by (with_reducible repeat (first | apply Kd.R_alloc | apply Kd.R_drewN | apply Kd.R_drew)); exact HO_47.out) hb); have n1_ := Aside0.mk (below_step (by repeat (first | (with_reducible first | exact HB.out | apply below_alloc | apply pw_below_drewN | apply below_drew1) | exact HB.out)) hb); clear HO_47; clear HB; have HO_47 := n0_; have HB := n1_; clear n0_ n1_; (try clear hb); (try clear hb2); (try clear hk); (try clear hi)) | ((with_reducible refine gate_callee (f := 22) rfl ?_); refine goesL_ (some 63) rfl rfl Tryd.func22 (by kernel_rfl) rfl #[.string (rdOf ByteArray.empty y200 x49_2), .bool a3] rfl (by (try simp only [List.map_toArray, List.map_cons, List.map_nil]); first | done | rfl | (simp only [List.length_drop, List.length_take]; rfl)) ?_; (with_reducible refine (selvedgeref03_Find.calls k2 (rdOf ByteArray.empty y200 x49_2) a3 t208 t209 t210 _ A28.out).mono ?_); rintro e w37 ⟨rfl, hb⟩; refine ⟨_, rfl, ?_⟩; have n0_ := Aside0.mk (Kd.R_below (by (with_reducible repeat (first | apply Kd.R_alloc | apply Kd.R_drewN | apply Kd.R_drew)); exact HO_47.out) hb); have n1_ := Aside0.mk (below_step (by repeat (first | (with_reducible first | exact HB.out | apply below_alloc | apply pw_below_drewN | apply below_drew1) | exact HB.out)) hb); clear HO_47; clear HB; have HO_47 := n0_; have HB := n1_; clear n0_ n1_; (try clear hb); (try clear hb2); (try clear hk); (try clear hi)))
                  go_ret
                  exact ⟨by first | rfl | (simp [errW_none, errW_some] <;> rfl) | (simp only [← hji12]; first | rfl | (simp [errW_none, errW_some] <;> rfl)) | (simp [*, errW_none, errW_some] <;> rfl), by repeat (first | (with_reducible first | exact HB.out | apply below_alloc | apply pw_below_drewN | apply below_drew1) | exact HB.out)⟩
                ·rw [if_neg c29] at H
                 have c29b0 : (t205 == t208) = false := beq_eq_false_iff_ne.mpr c29
                 have c29b1 : (t205 != t208) = true := bne_iff_ne.mpr c29
                 obtain rfl := Option.some.inj H
                 have p204 : 0 ≤ (x49_2 : Int) := of_decide_eq_true (by first | (with_reducible assumption) | assumption)
                 have q204 : x49_2 < (y200.length : Int) := of_decide_eq_true (by first | (with_reducible assumption) | assumption)
                 obtain ⟨ad204, e204, hx204_0⟩ := Kd.at_string (Kd.R_reads' HO_47.out).2.2 x49_2 p204 q204
                 cases e204
                 replace p204 := eq_true p204
                 replace q204 := eq_true q204
                 go_wp2_with (first | ((with_reducible refine gate_callee (f := 19) rfl ?_); refine goesL_ (some 56) rfl rfl Tryd.func19 (by kernel_rfl) rfl #[.string (rdOf ByteArray.empty y200 x49_2), .bool a3] rfl (by (try simp only [List.map_toArray, List.map_cons, List.map_nil]); first | done | rfl | (simp only [List.length_drop, List.length_take]; rfl)) ?_; (with_reducible refine (charref_Find.calls k2 (rdOf ByteArray.empty y200 x49_2) a3 t205 t206 t207 _ ?side1 A27.out).mono ?_); (case side1 => exact GW_below hG (by repeat (first | (with_reducible first | exact HB.out | apply below_alloc | apply pw_below_drewN | apply below_drew1) | exact HB.out))); rintro e w38 ⟨rfl, hb⟩; refine ⟨_, rfl, ?_⟩; have n0_ := Aside0.mk (Kd.R_below (by (with_reducible repeat (first | apply Kd.R_alloc | apply Kd.R_drewN | apply Kd.R_drew)); exact HO_47.out) hb); have n1_ := Aside0.mk (below_step (by repeat (first | (with_reducible first | exact HB.out | apply below_alloc | apply pw_below_drewN | apply below_drew1) | exact HB.out)) hb); clear HO_47; clear HB; have HO_47 := n0_; have HB := n1_; clear n0_ n1_; (try clear hb); (try clear hb2); (try clear hk); (try clear hi)) | ((with_reducible refine gate_callee (f := 22) rfl ?_); refine goesL_ (some 63) rfl rfl Tryd.func22 (by kernel_rfl) rfl #[.string (rdOf ByteArray.empty y200 x49_2), .bool a3] rfl (by (try simp only [List.map_toArray, List.map_cons, List.map_nil]); first | done | rfl | (simp only [List.length_drop, List.length_take]; rfl)) ?_; (with_reducible refine (selvedgeref03_Find.calls k2 (rdOf ByteArray.empty y200 x49_2) a3 t208 t209 t210 _ A28.out).mono ?_); rintro e w39 ⟨rfl, hb⟩; refine ⟨_, rfl, ?_⟩; have n0_ := Aside0.mk (Kd.R_below (by (with_reducible repeat (first | apply Kd.R_alloc | apply Kd.R_drewN | apply Kd.R_drew)); exact HO_47.out) hb); have n1_ := Aside0.mk (below_step (by repeat (first | (with_reducible first | exact HB.out | apply below_alloc | apply pw_below_drewN | apply below_drew1) | exact HB.out)) hb); clear HO_47; clear HB; have HO_47 := n0_; have HB := n1_; clear n0_ n1_; (try clear hb); (try clear hb2); (try clear hk); (try clear hi)))
                 go_ret
                 exact ⟨by first | rfl | (simp [errW_none, errW_some] <;> rfl) | (simp only [← hji12]; first | rfl | (simp [errW_none, errW_some] <;> rfl)) | (simp [*, errW_none, errW_some] <;> rfl), by repeat (first | (with_reducible first | exact HB.out | apply below_alloc | apply pw_below_drewN | apply below_drew1) | exact HB.out)⟩
               ·rw [if_neg c26] at H
                exact absurd H (by simp)
              ·rw [if_neg c25] at H
               exact absurd H (by simp)
             ·rw [if_neg c24] at H
              have c24b0 : decide (x49_2 < (y200.length : Int)) = false := decide_eq_false c24
              clear c24
              replace H := Option.bind_eq_some_iff.mp H
              obtain ⟨t203, A400, H⟩ := H
              replace H : (some t203) = some r := H
              have A40 := Aside0.mk A400
              clear A400
              obtain rfl := Option.some.inj H
              go_wp2_with (first | ((with_reducible refine gate_callee (f := 9) rfl ?_); refine goesL_ (some 81) rfl rfl Tryd.func9 (by kernel_rfl) rfl #[] rfl (by (try simp only [List.map_toArray, List.map_cons, List.map_nil]); first | done | rfl | (simp only [List.length_drop, List.length_take]; rfl)) ?_; (with_reducible refine (selvedgelaw03_works.calls k2  t203 _ ?side1 A40.out).mono ?_); (case side1 => exact GW_below hG (by repeat (first | (with_reducible first | exact HB.out | apply below_alloc | apply pw_below_drewN | apply below_drew1) | exact HB.out))); rintro e w41 ⟨rfl, hb⟩; refine ⟨_, rfl, ?_⟩; have n0_ := Aside0.mk (Kd.R_below (by (with_reducible repeat (first | apply Kd.R_alloc | apply Kd.R_drewN | apply Kd.R_drew)); exact HO_47.out) hb); have n1_ := Aside0.mk (below_step (by repeat (first | (with_reducible first | exact HB.out | apply below_alloc | apply pw_below_drewN | apply below_drew1) | exact HB.out)) hb); clear HO_47; clear HB; have HO_47 := n0_; have HB := n1_; clear n0_ n1_; (try clear hb); (try clear hb2); (try clear hk); (try clear hi)))
              go_ret
              exact ⟨by first | rfl | (simp [errW_none, errW_some] <;> rfl) | (simp only [← hji12]; first | rfl | (simp [errW_none, errW_some] <;> rfl)) | (simp [*, errW_none, errW_some] <;> rfl), by repeat (first | (with_reducible first | exact HB.out | apply below_alloc | apply pw_below_drewN | apply below_drew1) | exact HB.out)⟩
          ·rw [if_neg c18] at H
           exact absurd H (by simp)
         ·rw [if_neg c17] at H
          exact absurd H (by simp)
        ·rw [if_neg c16] at H
         exact absurd H (by simp)
       ·rw [if_neg c15] at H
        exact absurd H (by simp)
      ·rw [if_neg c14] at H
       exact absurd H (by simp)
     ·rw [if_neg c13] at H
      exact absurd H (by simp)

end Go.Proofs.YtablhjobjmmpnaaDoor.Q
