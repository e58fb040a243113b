/- PairsKnown: for every input the law returns true, the input reads as it did; its row and its tied card. Condition: what the program's listed variables are laid to hold. -/
import Derived.Test.YtaidfmioggelnaaDoorCards
import Derived.Test.YtaidfmioggelnaaDoorTie
import Derived.Test.YtaidfmioggelnaaDoorD
import Derived.Test.YtaidfmioggelnaaDoorQK1
import Derived.WalkKit
import Derived.ProofKit
import Derived.OpenShut
import Derived.ShutString
import Derived.ChangeOld
import Derived.Below
import Derived.SizedLaws
import Derived.LaidMore
import Derived.Stop.Joined
import Derived.SevenTiedAt
import Derived.KernelRfl
namespace Go.Proofs.YtaidfmioggelnaaDoor.Q
set_option linter.unusedVariables false
set_option linter.unusedSimpArgs false
set_option maxRecDepth 100000
open Go.RowKit Go.Proofs.YtaidfmioggelnaaDoorW.PrintWords

theorem bmE {s : ByteArray} {a b : Int} {l : List Int} (h : sbm.f 600 s a b l = some true) : Ev (fun k => sbm.f k s a b l) true := Ev.of (sbm.mono _ _ _ _) h
theorem clE {l r : List Int} (h : scl.f 600 l = some r) : Ev (fun k => scl.f k l) r := Ev.of (scl.mono _) h
theorem wfE (k : IntKind) {l : List Int} (h : l.all (fun n => (Lit.int k n).wf) = true) : ∀ n ∈ l, (Lit.int k n).wf = true := fun n hn => List.all_eq_true.1 h n hn
theorem PRE {l first now : List Int} {a3 a4 : Int} (h0 : l.all (fun n => (Lit.int .i32 n).wf) = true) (h1 : first.all (fun n => (Lit.int .u8 n).wf) = true) (h2 : now.all (fun n => (Lit.int .u8 n).wf) = true) (h3 : (Lit.int .u8 a3).wf = true) (h4 : (Lit.int .u8 a4).wf = true) : Ev (fun k => sPR.f k l first now a3 a4) true := by
  obtain ⟨k, hk⟩ := pairsResolve_pure l first now a3 a4 (wfE _ h0) (wfE _ h1) (wfE _ h2) h3 h4
  exact Ev.of (sPR.mono _ _ _ _ _) hk
theorem PNE {l first now : List Int} {a3 a4 : Int} (h : 0 ≤ a3 ∧ a3 ≤ 255) : Ev (fun k => sPN.f k l first now a3 a4) true := by
  unfold sPN.f; exact Ev.pos h (Ev.now _)
theorem ppE {l now : List Int} {r : List S30} (hl : l.length ≤ 1048576) (h : (refP l now).map to30 = r) : Ev (fun k => pairs_Pairs.f k l now) r := by
  unfold pairs_Pairs.f; rw [h]; exact Ev.pos hl (Ev.now _)
theorem prE {l first now : List Int} {a3 a4 : Int} {r : List Int × Int} (h3 : 0 ≤ a3 ∧ a3 ≤ 255) (h : resF l first now a3 a4 = r) : Ev (fun k => pairs_Resolve.f k l first now a3 a4) r := by
  unfold pairs_Resolve.f; rw [h]; exact Ev.pos h3 (Ev.now _)
theorem wkE : Ev (fun k => swk.f k) true := works_ev
def deepL : List Int := List.replicate 70 40 ++ List.replicate 70 41
def deepC : List Int := List.replicate 140 14
theorem deep_cl : scl.f 600 deepL = some deepC := by kernel_rfl
theorem deep_none : refP deepL deepC = [] := by kernel_rfl
def deepP : List S30 := (refP ((deepL.take 133).drop 7) ((deepC.take 133).drop 7)).map to30
theorem deepP_len : deepP.length = 63 := by kernel_rfl
def rowL : List Int := [40, 120, 41, 40, 40, 121, 41, 41]
def rowC : List Int := [14, 1, 14, 14, 14, 1, 14, 14]
def rowM : List Int := [14, 1, 14, 9, 9, 14, 9, 10]
theorem row_cl : scl.f 600 rowL = some rowC := by kernel_rfl
theorem long_res : resF (List.replicate 65537 0) (List.replicate 65537 0) (List.replicate 65537 0) 0 1 = ([], 3) := by
  unfold resF
  rw [if_pos (by rw [List.length_replicate]; omega)]
theorem short_res : resF rowL (rowC.drop 1) rowC 0 1 = ([], 2) := by kernel_rfl
theorem nil_res : resF rowL rowC [] 0 1 = ([], 2) := by kernel_rfl
theorem kn_tail : Ev (fun k => sPK.l1 k 1 2 14 true true deepL 70) true := by
  refine Ev.step (fun k => by rw [sPK.l1]) (Ev.neg (by omega) ?_)
  refine Ev.bind (clE deep_cl) (Ev.bind (ppE (by decide) (congrArg (List.map to30) deep_none)) (Ev.pos rfl (Ev.pos (by omega) (Ev.pos (by decide) (Ev.pos (by decide) ?_)))))
  refine Ev.bind (ppE (r := deepP) (by decide) rfl) (Ev.pos (by rw [deepP_len]; rfl) ?_)
  refine Ev.bind (PRE (by kernel_rfl) (by kernel_rfl) (by kernel_rfl) (by kernel_rfl) (by kernel_rfl)) (Ev.pos rfl (Ev.bind (PNE (by omega)) ?_))
  simp only [Option.bind_some]
  refine Ev.bind (clE row_cl) (Ev.pos (by omega) (Ev.pos (by omega) ?_))
  refine Ev.bind (prE (by omega) long_res) (Ev.pos (by decide) (Ev.bind (prE (by omega) short_res) (Ev.bind (prE (by omega) nil_res) ?_)))
  refine Ev.bind (PRE (by kernel_rfl) (by kernel_rfl) (by kernel_rfl) (by kernel_rfl) (by kernel_rfl)) (Ev.pos rfl ?_)
  refine Ev.bind (PRE (by kernel_rfl) (by kernel_rfl) (by kernel_rfl) (by kernel_rfl) (by kernel_rfl)) (Ev.pos rfl ?_)
  exact Ev.bind (PNE (by omega)) (Ev.pos rfl (Ev.pos rfl (Ev.pos rfl (Ev.pos trivial (Ev.pos trivial (Ev.pos trivial (Ev.pos rfl (Ev.bind wkE (Ev.now _)))))))))
theorem kn_l1 : ∀ f i : Nat, i + f = 70 → Ev (fun k => sPK.l1 k 1 2 14 true true (List.replicate 70 40 ++ List.replicate i 41) i) true
  | 0, i, h => by
    obtain rfl : i = 70 := by omega
    exact kn_tail
  | f + 1, i, h => by
    refine Ev.step (fun k => by rw [sPK.l1]) (Ev.pos (by omega) (Ev.pos (by simp; omega) ?_))
    rw [wrap64_nat i (by omega), List.append_assoc, show List.replicate i (41 : Int) ++ [41] = List.replicate (i + 1) 41 from List.replicate_succ'.symm]
    exact kn_l1 f (i + 1) (by omega)
theorem kn_l0 : ∀ f i : Nat, i + f = 70 → Ev (fun k => sPK.l0 k 1 2 14 true true (List.replicate i 40) i) true
  | 0, i, h => by
    obtain rfl : i = 70 := by omega
    refine Ev.step (fun k => by rw [sPK.l0]) (Ev.neg (by omega) ?_)
    have := kn_l1 70 0 rfl
    rw [List.replicate_zero, List.append_nil] at this
    exact this
  | f + 1, i, h => by
    refine Ev.step (fun k => by rw [sPK.l0]) (Ev.pos (by omega) (Ev.pos (by simp; omega) ?_))
    rw [wrap64_nat i (by omega), show List.replicate i (40 : Int) ++ [40] = List.replicate (i + 1) 40 from List.replicate_succ'.symm]
    exact kn_l0 f (i + 1) (by omega)
theorem pairsKnown_pure : ∃ k, sPK.f k = some true := by
  refine Ev.rounds ?_
  unfold sPK.f
  refine Ev.bind (bmE (by kernel_rfl)) (Ev.pos rfl (Ev.bind (bmE (by kernel_rfl)) (Ev.pos rfl (Ev.bind (bmE (by kernel_rfl)) (Ev.pos rfl (Ev.bind (bmE (by kernel_rfl)) (Ev.pos rfl ?_)))))))
  refine Ev.bind (bmE (by kernel_rfl)) (Ev.pos rfl (Ev.bind (bmE (by kernel_rfl)) (Ev.pos rfl (Ev.bind (bmE (by kernel_rfl)) (Ev.pos rfl (Ev.bind (bmE (by kernel_rfl)) ?_))))))
  refine Ev.bind (bmE (by kernel_rfl)) (Ev.pos rfl (Ev.bind (bmE (by kernel_rfl)) (Ev.pos rfl (Ev.bind (bmE (by kernel_rfl)) (Ev.pos rfl (Ev.bind (bmE (by kernel_rfl)) ?_))))))
  exact kn_l0 70 0 rfl
end Go.Proofs.YtaidfmioggelnaaDoor.Q
namespace Go.Proofs.YtaidfmioggelnaaDoor.pairsKnownRow
open Go Go.ChangeShapes Go.WideShapes Go.ChangeAt Go.WideMaps Go.WideElems Go.RowKit Go.Proofs.YtaidfmioggelnaaDoor.Q Go.Proofs.YtaidfmioggelnaaDoorW.PrintWords
open Go.ChangeMaps (open_string shut_string)
set_option linter.unusedVariables false
set_option linter.unusedSimpArgs false
theorem own : ownKnob Tryd.prog.godebug = none := by kernel_rfl
set_option maxRecDepth 100000 in
theorem lifted (os : Os) (started : os.Started) (H : Type) (enc : TypeId × Value → H) :
    ReturnsInHanded {} Tryd.checked os 7 .any (fun w args => (Rows.pairsKnownSpec.pre enc Tryd.prog Tryd.f7 [] false w args ∧ laidMetH Tryd.prog laid w) ∧ sizedMet enc Tryd.prog Tryd.f7 (OpenSpec.ofChange Rows.pairsKnownSpec) false w args)
      (Rows.pairsKnownSpec.post enc Tryd.prog Tryd.f7 false true false false) := by
  refine returnsInHanded_of_change_and (C := Tryd.checked) (X := fun w _ => laidMetH Tryd.prog laid w) (fun _ _ _ hh h => h.of_heap hh) own started (by kernel_rfl) Tryd.func7
    (ChangeSpec.witness_shaped (enc := enc) (C := Tryd.checked) (os := os) (X := fun w _ => laidMetH Tryd.prog laid w) false (World.doorLaid Tryd.prog 400 os) #[] 8 rfl (World.shaped_of_RefB (by kernel_rfl) (by kernel_rfl)) (by kernel_rfl) (by kernel_rfl) (by kernel_rfl) (door_met os _)) ?_
  intro W base args ds gs before hval0 hW _ hsz0 hL _
  have hval : ∀ (j : Nat) t v, Tryd.f7.params[j]? = some t → args[j]? = some v → Value.okWide Tryd.prog W .any base t v := hval0
  have hsz : (DataW.weightsEach Tryd.prog (Tryd.f7.params.toList ++ Rows.pairsKnownSpec.plain.varTypes Tryd.prog) (ds ++ gs)).all (· ≤ reachBytes) = true := hsz0
  have hW' := hW
  obtain ⟨p, q, hA0, hV, rfl, hfz, hnd⟩ := hW
  have hA : DataW.TrodAll enc Tryd.prog W 0 (fun _ => true) true Tryd.f7.params.toList args.toList ds p := hA0
  rw [Tryd.params7] at hA hval hsz
  obtain ⟨rfl, rfl, rfl⟩ := trodAll_none hA
  obtain ⟨rfl, rfl⟩ := trodVars_none hV
  clear hA0 hval0 hsz0 hsz
  obtain ⟨kk, hk⟩ := pairsKnown_pure 
  have hcall := sPK.calls kk  _ W  (of_laid hL) hk
  refine hcall.mono fun e W' ⟨he, bel⟩ => ?_
  subst he
  exact ⟨_, rfl, _, _, _, [], _, [], hW', trodAll_mk1 (shut_bool Tryd.underlying4 _), trodAll_mk0, rfl, bel.frame _, fun h => by cases h⟩
theorem over : Rows.pairsKnownRow.holds Tryd.pinned (OpenSpec.ofChange Rows.pairsKnownSpec) :=
  OpenClaim.holds_of_wide 7 Tryd.f7 rfl rfl rfl rfl rfl rfl rfl ⟨rfl, rfl, rfl, rfl, rfl⟩ rfl rfl rfl rfl rfl (by kernel_rfl) Tryd.func7 (by kernel_rfl)
    (of_decide_eq_true (by kernel_rfl)) (by unfold Func.isWrapper; first | (rw [if_pos (by decide +kernel)]; kernel_rfl) | (rw [if_neg (by decide +kernel)]; exact ⟨rfl, rfl⟩))
    (fun os started H enc _ => lifted os started H enc)
theorem proved : Rows.PairsKnownSaid := over
end Go.Proofs.YtaidfmioggelnaaDoor.pairsKnownRow
namespace Go.Proofs.YtaidfmioggelnaaDoor
open Go
/-- The tied card. -/
theorem pairsKnown_card_holds : Rows.PairsKnownCardSaid :=
  Claim7.holds_tied_plain_at .later [] [.widerDeep] true (true, "e090a505ded8ac6f24b57c2ac0661e6a7663111ed5fa15bd203b576c05a2f681") false
    pairsKnownRow.proved (fun _ h => by cases h) (by kernel_rfl) (fun _ h => by cases h) pairsKnown_row_tie rfl ⟨rfl, rfl⟩ (by kernel_rfl) rfl
    (fun f fn hf hfn => by
      obtain rfl : f = 7 := Option.some.inj ((show Tryd.prog.funcNamed Rows.pairsKnownRow.func = some 7 by kernel_rfl).symm.trans hf) |>.symm
      obtain rfl : fn = Tryd.f7 := (Option.some.inj (Tryd.func7.symm.trans hfn)).symm
      exact ⟨by kernel_rfl, fun j t ht => by rw [Tryd.params7] at ht; cases j <;> cases ht⟩)
    (by kernel_rfl)
end Go.Proofs.YtaidfmioggelnaaDoor
