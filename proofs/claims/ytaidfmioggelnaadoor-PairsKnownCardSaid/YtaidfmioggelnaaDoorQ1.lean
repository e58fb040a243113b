-- laid by this session's own program (wip/qprint.sh: the kit's printer, forked by wip/fork_print.py)
import Derived.Test.YtaidfmioggelnaaDoorQ0
namespace Go.Proofs.YtaidfmioggelnaaDoor.Q
open Go.RowKit Go.Proofs.YtaidfmioggelnaaDoorW.PrintWords Go.Proofs.YtaidfmioggelnaaDoorW.PrintLast Go.Proofs.YtaidfmioggelnaaDoorW.PrintMore
attribute [local go_sem] max2_int min2_int max_two min_two max_three min_three max_four min_four   -- for this text's walks alone
set_option linter.unusedVariables false
set_option linter.unusedSimpArgs false

/-! ### selvedgeref01_Brackets: function 28 -/
def selvedgeref01_Brackets.f  : Option ((List (S64))) := some (([(⟨40, 41⟩ : S64), (⟨91, 93⟩ : S64), (⟨123, 125⟩ : S64), (⟨8261, 8262⟩ : S64), (⟨8317, 8318⟩ : S64), (⟨8333, 8334⟩ : S64), (⟨8968, 8969⟩ : S64), (⟨8970, 8971⟩ : S64), (⟨9001, 9002⟩ : S64), (⟨10214, 10215⟩ : S64), (⟨10216, 10217⟩ : S64), (⟨10218, 10219⟩ : S64), (⟨10220, 10221⟩ : S64), (⟨10222, 10223⟩ : S64), (⟨12296, 12297⟩ : S64), (⟨12298, 12299⟩ : S64), (⟨12300, 12301⟩ : S64), (⟨12302, 12303⟩ : S64), (⟨12304, 12305⟩ : S64), (⟨12308, 12309⟩ : S64), (⟨12310, 12311⟩ : S64), (⟨12312, 12313⟩ : S64), (⟨12314, 12315⟩ : S64)] : List (S64)))
set_option maxHeartbeats 8000000 in
set_option maxRecDepth 100000 in
theorem selvedgeref01_Brackets.calls  (r : List (S64)) (w : World) (h : selvedgeref01_Brackets.f  = some r) :
  Calls Tryd.prog 28 #[] w fun e w' => ∃ v0_ : Value, e = .returned (v0_) ∧ Kd.R k64 64 w' w.heap.size (fun _ => True) v0_ r ∧ Below w.heap.size w w' := by
 have hu64 := Tryd.underlying64
 have HB := Aside0.mk (Below.refl w.heap.size w)
 have H : (some (([(⟨40, 41⟩ : S64), (⟨91, 93⟩ : S64), (⟨123, 125⟩ : S64), (⟨8261, 8262⟩ : S64), (⟨8317, 8318⟩ : S64), (⟨8333, 8334⟩ : S64), (⟨8968, 8969⟩ : S64), (⟨8970, 8971⟩ : S64), (⟨9001, 9002⟩ : S64), (⟨10214, 10215⟩ : S64), (⟨10216, 10217⟩ : S64), (⟨10218, 10219⟩ : S64), (⟨10220, 10221⟩ : S64), (⟨10222, 10223⟩ : S64), (⟨12296, 12297⟩ : S64), (⟨12298, 12299⟩ : S64), (⟨12300, 12301⟩ : S64), (⟨12302, 12303⟩ : S64), (⟨12304, 12305⟩ : S64), (⟨12308, 12309⟩ : S64), (⟨12310, 12311⟩ : S64), (⟨12312, 12313⟩ : S64), (⟨12314, 12315⟩ : S64)] : List (S64)))) = some r := h
 clear h
 obtain ⟨y109, hy109⟩ : ∃ y_ : List (S64), y_ = (([(⟨40, 41⟩ : S64), (⟨91, 93⟩ : S64), (⟨123, 125⟩ : S64), (⟨8261, 8262⟩ : S64), (⟨8317, 8318⟩ : S64), (⟨8333, 8334⟩ : S64), (⟨8968, 8969⟩ : S64), (⟨8970, 8971⟩ : S64), (⟨9001, 9002⟩ : S64), (⟨10214, 10215⟩ : S64), (⟨10216, 10217⟩ : S64), (⟨10218, 10219⟩ : S64), (⟨10220, 10221⟩ : S64), (⟨10222, 10223⟩ : S64), (⟨12296, 12297⟩ : S64), (⟨12298, 12299⟩ : S64), (⟨12300, 12301⟩ : S64), (⟨12302, 12303⟩ : S64), (⟨12304, 12305⟩ : S64), (⟨12308, 12309⟩ : S64), (⟨12310, 12311⟩ : S64), (⟨12312, 12313⟩ : S64), (⟨12314, 12315⟩ : S64)] : List (S64))) := ⟨_, rfl⟩
 replace H : (some y109) = some r := by first | (rw [hy109]; with_reducible exact H) | (have H2_ := (Option.bind_some _ _).symm.trans H; rw [hy109]; with_reducible exact H2_) | (have H2_ := (Option.bind_some _ _).symm.trans H; with_reducible exact H2_) | with_reducible exact H | (rw [hy109]; exact H) | exact H
 have Ny109 := Aside0.mk hy109
 clear hy109
 obtain rfl := Option.some.inj H
 go_enter Tryd.func28, Tryd.ntmps28
 go_wp2_with (first | ((with_reducible refine gate_dst (N := 24) rfl ?_); refine Kd.R_lit k64 _ 64 ?hg (N := 24) ?hd (xs := ([(⟨40, 41⟩ : S64), (⟨91, 93⟩ : S64), (⟨123, 125⟩ : S64), (⟨8261, 8262⟩ : S64), (⟨8317, 8318⟩ : S64), (⟨8333, 8334⟩ : S64), (⟨8968, 8969⟩ : S64), (⟨8970, 8971⟩ : S64), (⟨9001, 9002⟩ : S64), (⟨10214, 10215⟩ : S64), (⟨10216, 10217⟩ : S64), (⟨10218, 10219⟩ : S64), (⟨10220, 10221⟩ : S64), (⟨10222, 10223⟩ : S64), (⟨12296, 12297⟩ : S64), (⟨12298, 12299⟩ : S64), (⟨12300, 12301⟩ : S64), (⟨12302, 12303⟩ : S64), (⟨12304, 12305⟩ : S64), (⟨12308, 12309⟩ : S64), (⟨12310, 12311⟩ : S64), (⟨12312, 12313⟩ : S64), (⟨12314, 12315⟩ : S64)] : List (S64))) (inner := [.int .i32 40, .int .i32 41, .int .i32 91, .int .i32 93, .int .i32 123, .int .i32 125, .int .i32 8261, .int .i32 8262, .int .i32 8317, .int .i32 8318, .int .i32 8333, .int .i32 8334, .int .i32 8968, .int .i32 8969, .int .i32 8970, .int .i32 8971, .int .i32 9001, .int .i32 9002, .int .i32 10214, .int .i32 10215, .int .i32 10216, .int .i32 10217, .int .i32 10218, .int .i32 10219, .int .i32 10220, .int .i32 10221, .int .i32 10222, .int .i32 10223, .int .i32 12296, .int .i32 12297, .int .i32 12298, .int .i32 12299, .int .i32 12300, .int .i32 12301, .int .i32 12302, .int .i32 12303, .int .i32 12304, .int .i32 12305, .int .i32 12308, .int .i32 12309, .int .i32 12310, .int .i32 12311, .int .i32 12312, .int .i32 12313, .int .i32 12314, .int .i32 12315]) (ok := fun _ => True) (okp := fun _ => True) ?hr ?hp (fun _ hk => hk) trivial (Below.refl _ _) (Nat.le_refl _) (by simp) ?_; (case hd => rfl); (case hg => rfl); (case hr => first | (go_simp; done) | (go_simp; rfl)); (case hp => exact (Reps.c2 (show Kd.M k64 _ _ _ (⟨40, 41⟩ : S64) [.int .i32 40, .int .i32 41] from (k64_mkM _ _ _ (⟨40, 41⟩ : S64) )) (Reps.c2 (show Kd.M k64 _ _ _ (⟨91, 93⟩ : S64) [.int .i32 91, .int .i32 93] from (k64_mkM _ _ _ (⟨91, 93⟩ : S64) )) (Reps.c2 (show Kd.M k64 _ _ _ (⟨123, 125⟩ : S64) [.int .i32 123, .int .i32 125] from (k64_mkM _ _ _ (⟨123, 125⟩ : S64) )) (Reps.c2 (show Kd.M k64 _ _ _ (⟨8261, 8262⟩ : S64) [.int .i32 8261, .int .i32 8262] from (k64_mkM _ _ _ (⟨8261, 8262⟩ : S64) )) (Reps.c2 (show Kd.M k64 _ _ _ (⟨8317, 8318⟩ : S64) [.int .i32 8317, .int .i32 8318] from (k64_mkM _ _ _ (⟨8317, 8318⟩ : S64) )) (Reps.c2 (show Kd.M k64 _ _ _ (⟨8333, 8334⟩ : S64) [.int .i32 8333, .int .i32 8334] from (k64_mkM _ _ _ (⟨8333, 8334⟩ : S64) )) (Reps.c2 (show Kd.M k64 _ _ _ (⟨8968, 8969⟩ : S64) [.int .i32 8968, .int .i32 8969] from (k64_mkM _ _ _ (⟨8968, 8969⟩ : S64) )) (Reps.c2 (show Kd.M k64 _ _ _ (⟨8970, 8971⟩ : S64) [.int .i32 8970, .int .i32 8971] from (k64_mkM _ _ _ (⟨8970, 8971⟩ : S64) )) (Reps.c2 (show Kd.M k64 _ _ _ (⟨9001, 9002⟩ : S64) [.int .i32 9001, .int .i32 9002] from (k64_mkM _ _ _ (⟨9001, 9002⟩ : S64) )) (Reps.c2 (show Kd.M k64 _ _ _ (⟨10214, 10215⟩ : S64) [.int .i32 10214, .int .i32 10215] from (k64_mkM _ _ _ (⟨10214, 10215⟩ : S64) )) (Reps.c2 (show Kd.M k64 _ _ _ (⟨10216, 10217⟩ : S64) [.int .i32 10216, .int .i32 10217] from (k64_mkM _ _ _ (⟨10216, 10217⟩ : S64) )) (Reps.c2 (show Kd.M k64 _ _ _ (⟨10218, 10219⟩ : S64) [.int .i32 10218, .int .i32 10219] from (k64_mkM _ _ _ (⟨10218, 10219⟩ : S64) )) (Reps.c2 (show Kd.M k64 _ _ _ (⟨10220, 10221⟩ : S64) [.int .i32 10220, .int .i32 10221] from (k64_mkM _ _ _ (⟨10220, 10221⟩ : S64) )) (Reps.c2 (show Kd.M k64 _ _ _ (⟨10222, 10223⟩ : S64) [.int .i32 10222, .int .i32 10223] from (k64_mkM _ _ _ (⟨10222, 10223⟩ : S64) )) (Reps.c2 (show Kd.M k64 _ _ _ (⟨12296, 12297⟩ : S64) [.int .i32 12296, .int .i32 12297] from (k64_mkM _ _ _ (⟨12296, 12297⟩ : S64) )) (Reps.c2 (show Kd.M k64 _ _ _ (⟨12298, 12299⟩ : S64) [.int .i32 12298, .int .i32 12299] from (k64_mkM _ _ _ (⟨12298, 12299⟩ : S64) )) (Reps.c2 (show Kd.M k64 _ _ _ (⟨12300, 12301⟩ : S64) [.int .i32 12300, .int .i32 12301] from (k64_mkM _ _ _ (⟨12300, 12301⟩ : S64) )) (Reps.c2 (show Kd.M k64 _ _ _ (⟨12302, 12303⟩ : S64) [.int .i32 12302, .int .i32 12303] from (k64_mkM _ _ _ (⟨12302, 12303⟩ : S64) )) (Reps.c2 (show Kd.M k64 _ _ _ (⟨12304, 12305⟩ : S64) [.int .i32 12304, .int .i32 12305] from (k64_mkM _ _ _ (⟨12304, 12305⟩ : S64) )) (Reps.c2 (show Kd.M k64 _ _ _ (⟨12308, 12309⟩ : S64) [.int .i32 12308, .int .i32 12309] from (k64_mkM _ _ _ (⟨12308, 12309⟩ : S64) )) (Reps.c2 (show Kd.M k64 _ _ _ (⟨12310, 12311⟩ : S64) [.int .i32 12310, .int .i32 12311] from (k64_mkM _ _ _ (⟨12310, 12311⟩ : S64) )) (Reps.c2 (show Kd.M k64 _ _ _ (⟨12312, 12313⟩ : S64) [.int .i32 12312, .int .i32 12313] from (k64_mkM _ _ _ (⟨12312, 12313⟩ : S64) )) (Reps.c2 (show Kd.M k64 _ _ _ (⟨12314, 12315⟩ : S64) [.int .i32 12314, .int .i32 12315] from (k64_mkM _ _ _ (⟨12314, 12315⟩ : S64) )) (Reps.none _ _))))))))))))))))))))))))); intro v110 w1 ho2 hb hg_ hnew_; clear hg_ hnew_; (first | rw [← Ny109.out] at ho2 | (simp only [Int.reduceToNat] at ho2; rw [← Ny109.out] at ho2)); have n0_ := Aside0.mk (Kd.R_lower ho2 (below_size (by repeat (first | (with_reducible first | exact HB.out | apply below_alloc | apply pw_below_drewN | apply below_drew1) | exact HB.out)))); have n1_ := Aside0.mk (below_step (by repeat (first | (with_reducible first | exact HB.out | apply below_alloc | apply pw_below_drewN | apply below_drew1) | exact HB.out)) hb); clear HB; have HO111 := n0_; have HB := n1_; clear n0_ n1_; clear hb ho2))
 go_ret
 exact ⟨_, by first | rfl | (simp [errW_none, errW_some] <;> rfl) | (simp [*, errW_none, errW_some] <;> rfl), by (with_reducible repeat (first | apply Kd.R_alloc | apply Kd.R_drewN | apply Kd.R_drew)); exact HO111.out, by repeat (first | (with_reducible first | exact HB.out | apply below_alloc | apply pw_below_drewN | apply below_drew1) | exact HB.out)⟩

/-! ### selvedgeref01_Bracket: function 14 -/
mutual
def selvedgeref01_Bracket.l0 : Nat → Int → List (S64) → Int → Option (Int × Bool × Bool)
 | 0, _, _, _ => none
 | k + 1, x0, x5, x6 => if x6 < (x5.length : Int) then (if 0 ≤ x6 then (if x0 = ((rd_T64 x5 x6).f0) then (selvedgeref01_Bracket.j1 k x0 x5 x6 false) else (selvedgeref01_Bracket.j1 k x0 x5 x6 (x0 != ((rd_T64 x5 x6).f1)))) else (none)) else (some (0, false, false))
def selvedgeref01_Bracket.j1 : Nat → Int → List (S64) → Int → Bool → Option (Int × Bool × Bool)
 | 0, _, _, _, _ => none
 | k + 1, x0, x5, x6, x29 => if x29 = true then (selvedgeref01_Bracket.l0 k x0 x5 (wrap64 (x6 + 1))) else (if 0 ≤ x6 then (if x6 < (x5.length : Int) then (if ((rd_T64 x5 x6).f1) = 9002 then (some (12297, (x0 == ((rd_T64 x5 x6).f0)), true)) else (some ((rd_T64 x5 x6).f1, (x0 == ((rd_T64 x5 x6).f0)), true))) else (none)) else (none))
end
def selvedgeref01_Bracket.f (k : Nat) (a0 : Int) : Option (Int × Bool × Bool) := (selvedgeref01_Brackets.f).bind fun t112 => (selvedgeref01_Bracket.l0 k a0 t112 0)
theorem selvedgeref01_Bracket.mono_l : ∀ k, (∀ y0 y1 y2, LeO (selvedgeref01_Bracket.l0 k y0 y1 y2) (selvedgeref01_Bracket.l0 (k + 1) y0 y1 y2)) ∧ (∀ y0 y1 y2 y3, LeO (selvedgeref01_Bracket.j1 k y0 y1 y2 y3) (selvedgeref01_Bracket.j1 (k + 1) y0 y1 y2 y3))
 | 0 => ⟨fun _ _ _ r h => by simp [selvedgeref01_Bracket.l0] at h, fun _ _ _ _ r h => by simp [selvedgeref01_Bracket.j1] at h⟩
 | k + 1 => by
  obtain ⟨ih0, ih1⟩ := selvedgeref01_Bracket.mono_l k
  refine ⟨?_, ?_⟩
  ·intro y0 y1 y2
   unfold selvedgeref01_Bracket.l0
   repeat' first
   | (with_reducible exact ih0 _ _ _)
   | (with_reducible exact ih1 _ _ _ _)
   | (with_reducible exact LeO.refl _)
   | (with_reducible exact LeO.none _)
   | (with_reducible refine LeO.ite ?_ ?_)
   | (with_reducible refine LeO.bind ?_ (fun _ => ?_))
   | exact ih0 _ _ _
   | exact ih1 _ _ _ _
   | exact LeO.none _
   | refine LeO.ite ?_ ?_
   | refine LeO.bind ?_ (fun _ => ?_)
  ·intro y0 y1 y2 y3
   unfold selvedgeref01_Bracket.j1
   repeat' first
   | (with_reducible exact ih0 _ _ _)
   | (with_reducible exact ih1 _ _ _ _)
   | (with_reducible exact LeO.refl _)
   | (with_reducible exact LeO.none _)
   | (with_reducible refine LeO.ite ?_ ?_)
   | (with_reducible refine LeO.bind ?_ (fun _ => ?_))
   | exact ih0 _ _ _
   | exact ih1 _ _ _ _
   | exact LeO.none _
   | refine LeO.ite ?_ ?_
   | refine LeO.bind ?_ (fun _ => ?_)
theorem selvedgeref01_Bracket.mono : ∀ a0 k, LeO (selvedgeref01_Bracket.f k a0) (selvedgeref01_Bracket.f (k + 1) a0) := by
 intro a0 k
 obtain ⟨ih0, ih1⟩ := selvedgeref01_Bracket.mono_l k
 unfold selvedgeref01_Bracket.f
 repeat' first
   | (with_reducible exact ih0 _ _ _)
   | (with_reducible exact ih1 _ _ _ _)
   | (with_reducible exact LeO.refl _)
   | (with_reducible exact LeO.none _)
   | (with_reducible refine LeO.ite ?_ ?_)
   | (with_reducible refine LeO.bind ?_ (fun _ => ?_))
   | exact ih0 _ _ _
   | exact ih1 _ _ _ _
   | exact LeO.none _
   | refine LeO.ite ?_ ?_
   | refine LeO.bind ?_ (fun _ => ?_)
set_option maxHeartbeats 8000000 in
set_option maxRecDepth 100000 in
theorem selvedgeref01_Bracket.calls (k : Nat) (a0 : Int) (r1 : Int) (r2 : Bool) (r3 : Bool) (w : World) (h : selvedgeref01_Bracket.f k a0 = some (r1, r2, r3)) :
  Calls Tryd.prog 14 #[.int .i32 a0] w fun e w' => e = .returned (.tuple #[.int .i32 r1, .bool r2, .bool r3]) ∧ Below w.heap.size w w' := by
 have HB := Aside0.mk (Below.refl w.heap.size w)
 have H : ((selvedgeref01_Brackets.f).bind fun t112 => (selvedgeref01_Bracket.l0 k a0 t112 0)) = some (r1, r2, r3) := h
 clear h
 replace H := Option.bind_eq_some_iff.mp H
 obtain ⟨t112, A20, H⟩ := H
 replace H : (selvedgeref01_Bracket.l0 k a0 t112 0) = some (r1, r2, r3) := H
 have A2 := Aside0.mk A20
 clear A20
 have H' := Aside0.mk H
 clear H
 go_enter Tryd.func14, Tryd.ntmps14
 go_wp2_with (first | (go_at_call 28; (with_reducible refine (selvedgeref01_Brackets.calls  t112 _ A2.out).mono ?_); rintro e w3 ⟨v113, rfl, ho0, hb⟩; have n0_ := Aside0.mk (Kd.R_lower ho0 (below_size (by repeat (first | (with_reducible first | exact HB.out | apply below_alloc | apply pw_below_drewN | apply below_drew1) | exact HB.out)))); have n1_ := Aside0.mk (below_step (by repeat (first | (with_reducible first | exact HB.out | apply below_alloc | apply pw_below_drewN | apply below_drew1) | exact HB.out)) hb); clear HB; have HO114 := n0_; have HB := n1_; clear n0_ n1_; (try clear hb); (try clear hb2); (try clear hk); (try clear hi); (try clear ho0)))
 repeat (go_quiet (first | (go_at_call 28; (with_reducible refine (selvedgeref01_Brackets.calls  t112 _ A2.out).mono ?_); rintro e w3 ⟨v113, rfl, ho0, hb⟩; have n0_ := Aside0.mk (Kd.R_lower ho0 (below_size (by repeat (first | (with_reducible first | exact HB.out | apply below_alloc | apply pw_below_drewN | apply below_drew1) | exact HB.out)))); have n1_ := Aside0.mk (below_step (by repeat (first | (with_reducible first | exact HB.out | apply below_alloc | apply pw_below_drewN | apply below_drew1) | exact HB.out)) hb); clear HB; have HO114 := n0_; have HB := n1_; clear n0_ n1_; (try clear hb); (try clear hb2); (try clear hk); (try clear hi); (try clear ho0))); try go_wp2_with (first | (go_at_call 28; (with_reducible refine (selvedgeref01_Brackets.calls  t112 _ A2.out).mono ?_); rintro e w3 ⟨v113, rfl, ho0, hb⟩; have n0_ := Aside0.mk (Kd.R_lower ho0 (below_size (by repeat (first | (with_reducible first | exact HB.out | apply below_alloc | apply pw_below_drewN | apply below_drew1) | exact HB.out)))); have n1_ := Aside0.mk (below_step (by repeat (first | (with_reducible first | exact HB.out | apply below_alloc | apply pw_below_drewN | apply below_drew1) | exact HB.out)) hb); clear HB; have HO114 := n0_; have HB := n1_; clear n0_ n1_; (try clear hb); (try clear hb2); (try clear hk); (try clear hi); (try clear ho0))))
 go_loopg [6] k (fun kq v6 w' => ∃ (x6_1 : Int), v6 = .int .i64 x6_1 ∧ Aside0 (selvedgeref01_Bracket.l0 kq a0 t112 x6_1 = some (r1, r2, r3)) ∧ Aside0 (kq ≤ k) ∧ Aside0 (Kd.R k64 64 w' w.heap.size (fun _ => True) v113 t112) ∧ Aside0 (Below w.heap.size w w'))
 case atStart => exact ⟨(0), (by first | rfl | (simp; done) | (simp [*]; done)), H', ⟨Nat.le_refl _⟩, ⟨by (with_reducible repeat (first | apply Kd.R_alloc | apply Kd.R_drewN | apply Kd.R_drew)); exact HO114.out⟩, ⟨by repeat (first | (with_reducible first | exact HB.out | apply below_alloc | apply pw_below_drewN | apply below_drew1) | exact HB.out)⟩⟩
 case round =>
  clear H'
  try clear c1
  try clear p2
  obtain ⟨x6_1, rfl, HA, HK1, HO_5, HB⟩ := hrel
  cases gk with
  | zero => exact absurd HA.out (by simp [selvedgeref01_Bracket.l0])
  | succ k1 =>
   have H := HA.out
   clear HA
   simp only [selvedgeref01_Bracket.l0] at H
   by_cases c4 : x6_1 < (t112.length : Int)
   ·rw [if_pos c4] at H
    have c4b0 : decide (x6_1 < (t112.length : Int)) = true := decide_eq_true c4
    clear c4
    have HC5 := Aside0.mk H
    clear H
    obtain ⟨Ao6, co6, eo6⟩ := Kd.R_slice HO_5.out
    subst eo6
    go_upto_region 5 with (fail)
    repeat (go_quiet (fail); go_upto_region 5 with (fail))
    go_cut [29] (fun v29 wc => ∃ (kq : Nat) (x29_4 : Bool), v29 = .bool x29_4 ∧ Aside0 (selvedgeref01_Bracket.j1 kq a0 t112 x6_1 x29_4 = some (r1, r2, r3)) ∧ Aside0 (kq ≤ k1) ∧ Aside0 (Kd.R k64 64 wc w.heap.size (fun _ => True) (.slice Ao6 t112.length co6) t112) ∧ Aside0 (Below w.heap.size w wc))
    case first =>
     have H := HC5.out
     clear HC5
     by_cases c7 : 0 ≤ x6_1
     ·rw [if_pos c7] at H
      have c7b0 : decide (0 ≤ x6_1) = true := decide_eq_true c7
      clear c7
      (first | rw [c7b0] | (simp only [i64_w, i32_w]; rw [c7b0]) | skip)
      by_cases c8 : a0 = ((rd_T64 t112 x6_1).f0)
      ·rw [if_pos c8] at H
       have c8b0 : (a0 == ((rd_T64 t112 x6_1).f0)) = true := beq_iff_eq.mpr c8
       have c8b1 : (a0 != ((rd_T64 t112 x6_1).f0)) = false := bne_eq_false_iff_eq.mpr c8
       clear c8
       have H' := Aside0.mk H
       clear H
       have p115 : 0 ≤ (x6_1 : Int) := of_decide_eq_true (by first | (with_reducible assumption) | assumption)
       have q115 : x6_1 < (t112.length : Int) := of_decide_eq_true (by first | (with_reducible assumption) | assumption)
       obtain ⟨ad115, e115, hx115_0, hx115_1⟩ := at_T64 (Kd.R_reads' HO_5.out).2.2 x6_1 p115 q115
       cases e115
       replace p115 := eq_true p115
       replace q115 := eq_true q115
       go_wp2
       repeat (go_quiet (fail); try go_wp2)
       go_meet
       case rel => exact ⟨_, (false), (by first | rfl | (simp; done) | (simp [*]; done)), H', ⟨by have := HK1.out; first | omega | exact Nat.le_refl _⟩, ⟨by (with_reducible repeat (first | apply Kd.R_alloc | apply Kd.R_drewN | apply Kd.R_drew)); exact HO_5.out⟩, ⟨by repeat (first | (with_reducible first | exact HB.out | apply below_alloc | apply pw_below_drewN | apply below_drew1) | exact HB.out)⟩⟩
      ·rw [if_neg c8] at H
       have c8b0 : (a0 == ((rd_T64 t112 x6_1).f0)) = false := beq_eq_false_iff_ne.mpr c8
       have c8b1 : (a0 != ((rd_T64 t112 x6_1).f0)) = true := bne_iff_ne.mpr c8
       have H' := Aside0.mk H
       clear H
       have p115 : 0 ≤ (x6_1 : Int) := of_decide_eq_true (by first | (with_reducible assumption) | assumption)
       have q115 : x6_1 < (t112.length : Int) := of_decide_eq_true (by first | (with_reducible assumption) | assumption)
       obtain ⟨ad115, e115, hx115_0, hx115_1⟩ := at_T64 (Kd.R_reads' HO_5.out).2.2 x6_1 p115 q115
       cases e115
       replace p115 := eq_true p115
       replace q115 := eq_true q115
       have p116 : 0 ≤ (x6_1 : Int) := of_decide_eq_true (by first | (with_reducible assumption) | assumption)
       have q116 : x6_1 < (t112.length : Int) := of_decide_eq_true (by first | (with_reducible assumption) | assumption)
       obtain ⟨ad116, e116, hx116_0, hx116_1⟩ := at_T64 (Kd.R_reads' HO_5.out).2.2 x6_1 p116 q116
       obtain rfl : ad115 = ad116 := (by injection e116)
       replace p116 := eq_true p116
       replace q116 := eq_true q116
       go_wp2
       repeat (go_quiet (fail); try go_wp2)
       go_meet
       case rel => exact ⟨_, ((a0 != ((rd_T64 t112 x6_1).f1))), (by first | rfl | (simp; done) | (simp [*]; done)), H', ⟨by have := HK1.out; first | omega | exact Nat.le_refl _⟩, ⟨by (with_reducible repeat (first | apply Kd.R_alloc | apply Kd.R_drewN | apply Kd.R_drew)); exact HO_5.out⟩, ⟨by repeat (first | (with_reducible first | exact HB.out | apply below_alloc | apply pw_below_drewN | apply below_drew1) | exact HB.out)⟩⟩
     ·rw [if_neg c7] at H
      exact absurd H (by simp)
    case rest =>
     clear HC5
     try clear c1
     try clear p1
     try clear q1
     try clear hx1
     try clear p2
     try clear c4
     try clear c4b0
     try clear c7
     try clear c7b0
     try clear c8
     try clear c8b0
     try clear c8b1
     try clear hx115_0
     try clear hx115_1
     try clear hx116_0
     try clear hx116_1
     try clear p115
     try clear p116
     try clear p2
     try clear q115
     try clear q116
     obtain ⟨kq, x29_4, rfl, HA, HJ4, HO_5, HB⟩ := hcut
     cases kq with
     | zero => exact absurd HA.out (by simp [selvedgeref01_Bracket.j1])
     | succ kj4 =>
      have H := HA.out
      clear HA
      simp only [selvedgeref01_Bracket.j1] at H
      by_cases c9 : x29_4 = true
      ·subst c9
       have H1 : (selvedgeref01_Bracket.l0 kj4 a0 t112 (wrap64 (x6_1 + 1))) = some (r1, r2, r3) := by rw [if_pos rfl] at H; exact H
       clear H
       have H := H1
       clear H1
       have H' := Aside0.mk H
       clear H
       go_wp2
       repeat (go_quiet (fail); try go_wp2)
       go_roundg kj4
       case measure => have := HK1.out; have := HJ4.out; omega
       case rel => exact ⟨(wrap64 (x6_1 + 1)), (by first | rfl | (simp; done) | (simp [*]; done)), H', ⟨by have := HK1.out; have := HJ4.out; omega⟩, ⟨by (with_reducible repeat (first | apply Kd.R_alloc | apply Kd.R_drewN | apply Kd.R_drew)); exact HO_5.out⟩, ⟨by repeat (first | (with_reducible first | exact HB.out | apply below_alloc | apply pw_below_drewN | apply below_drew1) | exact HB.out)⟩⟩
      ·replace c9 := Bool.eq_false_iff.mpr c9
       subst c9
       have H1 : (if 0 ≤ x6_1 then (if x6_1 < (t112.length : Int) then (if ((rd_T64 t112 x6_1).f1) = 9002 then (some (12297, (a0 == ((rd_T64 t112 x6_1).f0)), true)) else (some ((rd_T64 t112 x6_1).f1, (a0 == ((rd_T64 t112 x6_1).f0)), true))) else (none)) else (none)) = some (r1, r2, r3) := by rw [if_neg (show ¬ (false = true) by decide)] at H; exact H
       clear H
       have H := H1
       clear H1
       by_cases c10 : 0 ≤ x6_1
       ·rw [if_pos c10] at H
        have c10b0 : decide (0 ≤ x6_1) = true := decide_eq_true c10
        clear c10
        by_cases c11 : x6_1 < (t112.length : Int)
        ·rw [if_pos c11] at H
         have c11b0 : decide (x6_1 < (t112.length : Int)) = true := decide_eq_true c11
         clear c11
         by_cases c12 : ((rd_T64 t112 x6_1).f1) = 9002
         ·rw [if_pos c12] at H
          have c12b0 : (((rd_T64 t112 x6_1).f1) == 9002) = true := beq_iff_eq.mpr c12
          have c12b1 : (((rd_T64 t112 x6_1).f1) != 9002) = false := bne_eq_false_iff_eq.mpr c12
          clear c12
          simp only [Option.some.injEq, Prod.mk.injEq] at H
          obtain ⟨rfl, rfl, rfl⟩ := H
          have p117 : 0 ≤ (x6_1 : Int) := of_decide_eq_true (by first | (with_reducible assumption) | assumption)
          have q117 : x6_1 < (t112.length : Int) := of_decide_eq_true (by first | (with_reducible assumption) | assumption)
          obtain ⟨ad117, e117, hx117_0, hx117_1⟩ := at_T64 (Kd.R_reads' HO_5.out).2.2 x6_1 p117 q117
          cases e117
          replace p117 := eq_true p117
          replace q117 := eq_true q117
          have p118 : 0 ≤ (x6_1 : Int) := of_decide_eq_true (by first | (with_reducible assumption) | assumption)
          have q118 : x6_1 < (t112.length : Int) := of_decide_eq_true (by first | (with_reducible assumption) | assumption)
          obtain ⟨ad118, e118, hx118_0, hx118_1⟩ := at_T64 (Kd.R_reads' HO_5.out).2.2 x6_1 p118 q118
          obtain rfl : ad117 = ad118 := (by injection e118)
          replace p118 := eq_true p118
          replace q118 := eq_true q118
          go_wp2
          repeat (go_quiet (fail); try go_wp2)
          go_ret3
          exact ⟨by first | rfl | (simp [errW_none, errW_some] <;> rfl) | (simp [*, errW_none, errW_some] <;> rfl), by repeat (first | (with_reducible first | exact HB.out | apply below_alloc | apply pw_below_drewN | apply below_drew1) | exact HB.out)⟩
         ·rw [if_neg c12] at H
          have c12b0 : (((rd_T64 t112 x6_1).f1) == 9002) = false := beq_eq_false_iff_ne.mpr c12
          have c12b1 : (((rd_T64 t112 x6_1).f1) != 9002) = true := bne_iff_ne.mpr c12
          simp only [Option.some.injEq, Prod.mk.injEq] at H
          obtain ⟨rfl, rfl, rfl⟩ := H
          have p117 : 0 ≤ (x6_1 : Int) := of_decide_eq_true (by first | (with_reducible assumption) | assumption)
          have q117 : x6_1 < (t112.length : Int) := of_decide_eq_true (by first | (with_reducible assumption) | assumption)
          obtain ⟨ad117, e117, hx117_0, hx117_1⟩ := at_T64 (Kd.R_reads' HO_5.out).2.2 x6_1 p117 q117
          cases e117
          replace p117 := eq_true p117
          replace q117 := eq_true q117
          have p119 : 0 ≤ (x6_1 : Int) := of_decide_eq_true (by first | (with_reducible assumption) | assumption)
          have q119 : x6_1 < (t112.length : Int) := of_decide_eq_true (by first | (with_reducible assumption) | assumption)
          obtain ⟨ad119, e119, hx119_0, hx119_1⟩ := at_T64 (Kd.R_reads' HO_5.out).2.2 x6_1 p119 q119
          obtain rfl : ad117 = ad119 := (by injection e119)
          replace p119 := eq_true p119
          replace q119 := eq_true q119
          have p120 : 0 ≤ (x6_1 : Int) := of_decide_eq_true (by first | (with_reducible assumption) | assumption)
          have q120 : x6_1 < (t112.length : Int) := of_decide_eq_true (by first | (with_reducible assumption) | assumption)
          obtain ⟨ad120, e120, hx120_0, hx120_1⟩ := at_T64 (Kd.R_reads' HO_5.out).2.2 x6_1 p120 q120
          obtain rfl : ad117 = ad120 := (by injection e120)
          replace p120 := eq_true p120
          replace q120 := eq_true q120
          go_wp2
          repeat (go_quiet (fail); try go_wp2)
          go_ret3
          exact ⟨by first | rfl | (simp [errW_none, errW_some] <;> rfl) | (simp [*, errW_none, errW_some] <;> rfl), by repeat (first | (with_reducible first | exact HB.out | apply below_alloc | apply pw_below_drewN | apply below_drew1) | exact HB.out)⟩
        ·rw [if_neg c11] at H
         exact absurd H (by simp)
       ·rw [if_neg c10] at H
        exact absurd H (by simp)
   ·rw [if_neg c4] at H
    have c4b0 : decide (x6_1 < (t112.length : Int)) = false := decide_eq_false c4
    clear c4
    simp only [Option.some.injEq, Prod.mk.injEq] at H
    obtain ⟨rfl, rfl, rfl⟩ := H
    obtain ⟨Ao13, co13, eo13⟩ := Kd.R_slice HO_5.out
    subst eo13
    go_wp2
    repeat (go_quiet (fail); try go_wp2)
    go_ret3
    exact ⟨by first | rfl | (simp [errW_none, errW_some] <;> rfl) | (simp [*, errW_none, errW_some] <;> rfl), by repeat (first | (with_reducible first | exact HB.out | apply below_alloc | apply pw_below_drewN | apply below_drew1) | exact HB.out)⟩

end Go.Proofs.YtaidfmioggelnaaDoor.Q
