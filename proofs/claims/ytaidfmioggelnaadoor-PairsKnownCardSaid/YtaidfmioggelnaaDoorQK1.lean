-- laid by this session's own program (wip/qprint.sh: the kit's printer, forked by wip/fork_print.py)
import Derived.Test.YtaidfmioggelnaaDoorQ0
import Derived.Test.YtaidfmioggelnaaDoorA11
import Derived.Test.YtaidfmioggelnaaDoorStub
namespace Go.Proofs.YtaidfmioggelnaaDoor.Q
open Go.RowKit Go.Proofs.YtaidfmioggelnaaDoorW.PrintWords Go.Proofs.YtaidfmioggelnaaDoorW.PrintLast Go.Proofs.YtaidfmioggelnaaDoorW.PrintMore
attribute [local go_sem] max2_int min2_int max_two min_two max_three min_three max_four min_four   -- for this text's walks alone
set_option linter.unusedVariables false
set_option linter.unusedSimpArgs false

def sPN.f (k : Nat) (l first now : List Int) (a3 a4 : Int) : Option Bool := if 0 ≤ a3 ∧ a3 ≤ 255 then some true else none
theorem sPN.mono (l first now : List Int) (a3 a4 : Int) : ∀ k, LeO (sPN.f k l first now a3 a4) (sPN.f (k + 1) l first now a3 a4) := fun _ => LeO.refl _
theorem sPN.calls (k : Nat) (A0 : Option Addr) (c0 : Nat) (l0 : List Int) (A1 : Option Addr) (c1 : Nat) (l1 : List Int) (A2 : Option Addr) (c2 : Nat) (l2 : List Int) (a3 a4 : Int) (r : Bool) (w : World) (hr0 : Kd.C (Kd.int .i32) w A0 l0.length l0) (hc0 : l0.length ≤ c0) (hr1 : Kd.C (Kd.int .u8) w A1 l1.length l1) (hc1 : l1.length ≤ c1) (hr2 : Kd.C (Kd.int .u8) w A2 l2.length l2) (hc2 : l2.length ≤ c2) (hG : GW w) (h : sPN.f k l0 l1 l2 a3 a4 = some r) :
    Calls Tryd.prog 5 #[.slice A0 l0.length c0, .slice A1 l1.length c1, .slice A2 l2.length c2, .int .u8 a3, .int .u8 a4] w fun e w' => e = .returned (.bool r) ∧ Below w.heap.size w w' := by
  unfold sPN.f at h
  split at h
  · rename_i hl
    injection h with h
    subst h
    exact nest_any A0 c0 l0 A1 c1 l1 A2 c2 l2 a3 a4 w hr0 hc0 hr1 hc1 hr2 hc2 hl hG
  · cases h
def sPR.f := selvedgelaw17_PairsResolve.f
theorem sPR.mono : ∀ a0 a1 a2 a3 a4 k, LeO (sPR.f k a0 a1 a2 a3 a4) (sPR.f (k + 1) a0 a1 a2 a3 a4) := selvedgelaw17_PairsResolve.mono
theorem sPR.calls (k : Nat) (A0 : Option Addr) (c0 : Nat) (l0 : List Int) (A1 : Option Addr) (c1 : Nat) (l1 : List Int) (A2 : Option Addr) (c2 : Nat) (l2 : List Int) (a3 a4 : Int) (r : Bool) (w : World) (hr0 : Kd.C (Kd.int .i32) w A0 l0.length l0) (hc0 : l0.length ≤ c0) (hr1 : Kd.C (Kd.int .u8) w A1 l1.length l1) (hc1 : l1.length ≤ c1) (hr2 : Kd.C (Kd.int .u8) w A2 l2.length l2) (hc2 : l2.length ≤ c2) (hG : GW w) (h : sPR.f k l0 l1 l2 a3 a4 = some r) :
    Calls Tryd.prog 4 #[.slice A0 l0.length c0, .slice A1 l1.length c1, .slice A2 l2.length c2, .int .u8 a3, .int .u8 a4] w fun e w' => e = .returned (.bool r) ∧ Below w.heap.size w w' :=
  selvedgelaw17_PairsResolve.calls k A0 c0 l0 A1 c1 l1 A2 c2 l2 a3 a4 r w hr0 hc0 hr1 hc1 hr2 hc2 hG h
def sbm.f := selvedgelaw17_become.f
theorem sbm.mono : ∀ a0 a1 a2 a3 k, LeO (sbm.f k a0 a1 a2 a3) (sbm.f (k + 1) a0 a1 a2 a3) := selvedgelaw17_become.mono
theorem sbm.calls (k : Nat) (s : ByteArray) (a1 a2 : Int) (A3 : Option Addr) (c3 : Nat) (l3 : List Int) (r : Bool) (w : World) (hr3 : Kd.C (Kd.int .u8) w A3 l3.length l3) (hc3 : l3.length ≤ c3) (hG : GW w) (h : sbm.f k s a1 a2 l3 = some r) :
    Calls Tryd.prog 16 #[.string s, .int .u8 a1, .int .u8 a2, .slice A3 l3.length c3] w fun e w' => e = .returned (.bool r) ∧ Below w.heap.size w w' := selvedgelaw17_become.calls k s a1 a2 A3 c3 l3 r w hr3 hc3 hG h
def scl.f := selvedgelaw17_classes.f
theorem scl.mono : ∀ a0 k, LeO (scl.f k a0) (scl.f (k + 1) a0) := selvedgelaw17_classes.mono
theorem scl.calls (k : Nat) (A0 : Option Addr) (c0 : Nat) (l0 : List Int) (r : List Int) (w : World) (hr0 : Kd.C (Kd.int .i32) w A0 l0.length l0) (hc0 : l0.length ≤ c0) (h : scl.f k l0 = some r) :
    Calls Tryd.prog 17 #[.slice A0 l0.length c0] w fun e w' => ∃ v0_ : Value, e = .returned (v0_) ∧ Kd.R (Kd.int .u8) 33 w' w.heap.size (fun _ => True) v0_ r ∧ Below w.heap.size w w' := selvedgelaw17_classes.calls k A0 c0 l0 r w hr0 hc0 h
def swk.f := selvedgelaw17_works.f
theorem swk.mono : ∀ k, LeO (swk.f k) (swk.f (k + 1)) := selvedgelaw17_works.mono
theorem swk.calls (k : Nat) (r : Bool) (w : World) (hG : GW w) (h : swk.f k = some r) : Calls Tryd.prog 8 #[] w fun e w' => e = .returned (.bool r) ∧ Below w.heap.size w w' := selvedgelaw17_works.calls k r w hG h
abbrev T_ := true
abbrev F_ := false
/-! ### sPK: function 7 -/
mutual
def sPK.l0 : Nat → Int → Int → Int → Bool → Bool → List Int → Int → Option (Bool)
 | 0, _, _, _, _, _, _, _ => none
 | k + 1, x1, x2, x3, x4, x5, x6, x8 => if x8 < 70 then (if x6.length < 35184372088832 then (sPK.l0 k x1 x2 x3 x4 x5 (x6 ++ [40]) (wrap64 (x8 + 1))) else (none)) else (sPK.l1 k x1 x2 x3 x4 x5 x6 0)
def sPK.l1 : Nat → Int → Int → Int → Bool → Bool → List Int → Int → Option (Bool)
 | 0, _, _, _, _, _, _, _ => none
 | k + 1, x1, x2, x3, x4, x5, x6, x9 => if x9 < 70 then (if x6.length < 35184372088832 then (sPK.l1 k x1 x2 x3 x4 x5 (x6 ++ [41]) (wrap64 (x9 + 1))) else (none)) else ((scl.f k x6).bind fun t155 => ((pairs_Pairs.f k x6 t155).bind fun t158 => (if (t158.length : Int) = 0 then (if 7 ≤ 133 then (if 133 ≤ (x6.length : Int) then (if 133 ≤ (t155.length : Int) then ((pairs_Pairs.f k ((x6.take 133).drop 7) ((t155.take 133).drop 7)).bind fun t169 => (if (t169.length : Int) = 63 then ((sPR.f k x6 t155 t155 0 1).bind fun t172 => (if t172 = true then ((sPN.f k ((x6.take 133).drop 7) ((t155.take 133).drop 7) ((t155.take 133).drop 7) 1 1).bind fun t185 => ((some (([40, 120, 41, 40, 40, 121, 41, 41] : List Int) : List Int)).bind fun y186 => ((scl.f k y186).bind fun t189 => ((some (([x3, x1, x3, 9, 9, x3, 9, 10] : List Int) : List Int)).bind fun y192 => (if 65537 ≤ 70368744177664 then (if 65537 ≤ 281474976710656 then ((pairs_Resolve.f k (List.replicate 65537 0) (List.replicate 65537 0) (List.replicate 65537 0) 0 x1).bind fun bt204 => (if 1 ≤ (t189.length : Int) then ((pairs_Resolve.f k y186 (t189.drop 1) t189 0 x1).bind fun bt212 => ((pairs_Resolve.f k y186 t189 ([] : List Int) 0 x1).bind fun bt216 => ((sPR.f k y186 y192 t189 0 x1).bind fun t220 => (if t220 = true then ((sPR.f k y186 y192 y192 1 x1).bind fun t221 => (if t221 = true then ((sPN.f k y186 y192 t189 0 x2).bind fun t222 => (if t222 = true then (if bt204.2 = 3 then (if bt212.2 = 2 then (if x4 = true then (if x5 = true then (if t185 = true then (if bt216.2 = 2 then ((swk.f k).bind fun t223 => (some t223)) else (none)) else (none)) else (none)) else (none)) else (none)) else (none)) else (none))) else (none))) else (none))))) else (none))) else (none)) else (none)))))) else (none))) else (none))) else (none)) else (none)) else (none)) else (none))))
end
def sPK.f (k : Nat)  : Option (Bool) := (sbm.f k (⟨#[215, 144, 40, 49, 41]⟩ : ByteArray) 0 1 (([2, 2, 4, 2] : List Int))).bind fun t104 => (if t104 = true then ((sbm.f k (⟨#[97, 40, 215, 144, 41]⟩ : ByteArray) 0 1 (([1, 1, 2, 1] : List Int))).bind fun t108 => (if t108 = true then ((sbm.f k (⟨#[215, 144, 40, 97, 41]⟩ : ByteArray) 1 2 (([2, 2, 1, 2] : List Int))).bind fun t112 => (if t112 = true then ((sbm.f k (⟨#[40, 33, 41]⟩ : ByteArray) 0 1 (([14, 14, 14] : List Int))).bind fun t116 => (if t116 = true then ((sbm.f k (⟨#[215, 144, 40, 215, 144, 41, 204, 129]⟩ : ByteArray) 0 1 (([2, 2, 2, 2, 2] : List Int))).bind fun t120 => (if t120 = true then ((sbm.f k (⟨#[40, 91, 41, 93, 97]⟩ : ByteArray) 0 1 (([14, 14, 14, 14, 1] : List Int))).bind fun t124 => (if t124 = true then ((sbm.f k (⟨#[40, 215, 144, 41]⟩ : ByteArray) 0 2 (([2, 2, 2] : List Int))).bind fun t128 => (if t128 = true then ((sbm.f k (⟨#[40, 215, 144, 41]⟩ : ByteArray) 0 1 (([1, 2, 1] : List Int))).bind fun t132 => ((sbm.f k (⟨#[226, 140, 169, 97, 227, 128, 137]⟩ : ByteArray) 0 1 (([1, 1, 1] : List Int))).bind fun t136 => (if t136 = true then ((sbm.f k (⟨#[40, 97, 93]⟩ : ByteArray) 0 1 (([14, 1, 14] : List Int))).bind fun t140 => (if t140 = true then ((sbm.f k (⟨#[97, 40, 215, 144, 91, 215, 145, 93, 41]⟩ : ByteArray) 1 2 (([1, 2, 2, 2, 2, 2, 2] : List Int))).bind fun t144 => (if t144 = true then ((sbm.f k (⟨#[215, 144, 91, 97, 40, 215, 144, 41, 93]⟩ : ByteArray) 0 1 (([2, 1, 1, 1, 2, 1, 1] : List Int))).bind fun t148 => (sPK.l0 k 1 2 14 t132 t148 ([] : List Int) 0)) else (none))) else (none))) else (none)))) else (none))) else (none))) else (none))) else (none))) else (none))) else (none))) else (none))
theorem sPK.mono_l : ∀ k, (∀ y0 y1 y2 y3 y4 y5 y6, LeO (sPK.l0 k y0 y1 y2 y3 y4 y5 y6) (sPK.l0 (k + 1) y0 y1 y2 y3 y4 y5 y6)) ∧ (∀ y0 y1 y2 y3 y4 y5 y6, LeO (sPK.l1 k y0 y1 y2 y3 y4 y5 y6) (sPK.l1 (k + 1) y0 y1 y2 y3 y4 y5 y6))
 | 0 => ⟨fun _ _ _ _ _ _ _ r h => by simp [sPK.l0] at h, fun _ _ _ _ _ _ _ r h => by simp [sPK.l1] at h⟩
 | k + 1 => by
  obtain ⟨ih0, ih1⟩ := sPK.mono_l k
  refine ⟨?_, ?_⟩
  ·intro y0 y1 y2 y3 y4 y5 y6
   unfold sPK.l0
   repeat' first
   | (with_reducible exact ih0 _ _ _ _ _ _ _)
   | (with_reducible exact ih1 _ _ _ _ _ _ _)
   | (with_reducible exact pairs_Pairs.mono _ _ _)
   | (with_reducible exact pairs_Resolve.mono _ _ _ _ _ _)
   | (with_reducible exact sPN.mono _ _ _ _ _ _)
   | (with_reducible exact sPR.mono _ _ _ _ _ _)
   | (with_reducible exact sbm.mono _ _ _ _ _)
   | (with_reducible exact scl.mono _ _)
   | (with_reducible exact swk.mono _)
   | (with_reducible exact LeO.refl _)
   | (with_reducible exact LeO.none _)
   | (with_reducible refine LeO.ite ?_ ?_)
   | (with_reducible refine LeO.bind ?_ (fun _ => ?_))
   | exact ih0 _ _ _ _ _ _ _
   | exact ih1 _ _ _ _ _ _ _
   | exact pairs_Pairs.mono _ _ _
   | exact pairs_Resolve.mono _ _ _ _ _ _
   | exact sPN.mono _ _ _ _ _ _
   | exact sPR.mono _ _ _ _ _ _
   | exact sbm.mono _ _ _ _ _
   | exact scl.mono _ _
   | exact swk.mono _
   | exact LeO.none _
   | refine LeO.ite ?_ ?_
   | refine LeO.bind ?_ (fun _ => ?_)
  ·intro y0 y1 y2 y3 y4 y5 y6
   unfold sPK.l1
   repeat' first
   | (with_reducible exact ih0 _ _ _ _ _ _ _)
   | (with_reducible exact ih1 _ _ _ _ _ _ _)
   | (with_reducible exact pairs_Pairs.mono _ _ _)
   | (with_reducible exact pairs_Resolve.mono _ _ _ _ _ _)
   | (with_reducible exact sPN.mono _ _ _ _ _ _)
   | (with_reducible exact sPR.mono _ _ _ _ _ _)
   | (with_reducible exact sbm.mono _ _ _ _ _)
   | (with_reducible exact scl.mono _ _)
   | (with_reducible exact swk.mono _)
   | (with_reducible exact LeO.refl _)
   | (with_reducible exact LeO.none _)
   | (with_reducible refine LeO.ite ?_ ?_)
   | (with_reducible refine LeO.bind ?_ (fun _ => ?_))
   | exact ih0 _ _ _ _ _ _ _
   | exact ih1 _ _ _ _ _ _ _
   | exact pairs_Pairs.mono _ _ _
   | exact pairs_Resolve.mono _ _ _ _ _ _
   | exact sPN.mono _ _ _ _ _ _
   | exact sPR.mono _ _ _ _ _ _
   | exact sbm.mono _ _ _ _ _
   | exact scl.mono _ _
   | exact swk.mono _
   | exact LeO.none _
   | refine LeO.ite ?_ ?_
   | refine LeO.bind ?_ (fun _ => ?_)
theorem sPK.mono : ∀ k, LeO (sPK.f k ) (sPK.f (k + 1) ) := by
 intro  k
 obtain ⟨ih0, ih1⟩ := sPK.mono_l k
 unfold sPK.f
 repeat' first
   | (with_reducible exact ih0 _ _ _ _ _ _ _)
   | (with_reducible exact ih1 _ _ _ _ _ _ _)
   | (with_reducible exact pairs_Pairs.mono _ _ _)
   | (with_reducible exact pairs_Resolve.mono _ _ _ _ _ _)
   | (with_reducible exact sPN.mono _ _ _ _ _ _)
   | (with_reducible exact sPR.mono _ _ _ _ _ _)
   | (with_reducible exact sbm.mono _ _ _ _ _)
   | (with_reducible exact scl.mono _ _)
   | (with_reducible exact swk.mono _)
   | (with_reducible exact LeO.refl _)
   | (with_reducible exact LeO.none _)
   | (with_reducible refine LeO.ite ?_ ?_)
   | (with_reducible refine LeO.bind ?_ (fun _ => ?_))
   | exact ih0 _ _ _ _ _ _ _
   | exact ih1 _ _ _ _ _ _ _
   | exact pairs_Pairs.mono _ _ _
   | exact pairs_Resolve.mono _ _ _ _ _ _
   | exact sPN.mono _ _ _ _ _ _
   | exact sPR.mono _ _ _ _ _ _
   | exact sbm.mono _ _ _ _ _
   | exact scl.mono _ _
   | exact swk.mono _
   | exact LeO.none _
   | refine LeO.ite ?_ ?_
   | refine LeO.bind ?_ (fun _ => ?_)
def sPK.T15 : Bool × List (List Nat × List Nat) := (true, [([], []), ([], []), ([0, 1], [0, 1]), ([2], [2]), ([3], [3]), ([4, 2], [4]), ([5], [5]), ([6, 5], [5, 6]), ([5], [5]), ([8, 5], [5, 8]), ([7, 9, 5, 5], [5, 7, 9]), ([10, 5], [5, 10]), ([11, 5], [5, 11]), ([5, 12], [5, 12]), ([13, 10], [13]), ([14], [14]), ([14], [14]), ([14], [14]), ([15, 16, 17, 14, 14], [14, 15, 16, 17]), ([14, 18], [14, 18]), ([19, 18], [19]), ([20], [20]), ([21, 20], [20, 21]), ([20], [20]), ([23, 20], [20, 23]), ([20], [20]), ([25, 20], [20, 25]), ([22, 24, 26, 20, 20], [20, 22, 24, 26]), ([20, 27], [20, 27]), ([28, 27, 0, 1, 2, 3, 4, 5, 6, 7, 8, 9, 10, 11, 12, 13, 14, 15, 16, 17, 18, 19, 20, 21, 22, 23, 24, 25, 26, 27, 28], [28])])
def sPK.B15 : List Nat := [0, 0, 3, 7, 15, 31, 63, 127, 63, 319, 1023, 2047, 4095, 8191, 16383, 32767, 32767, 32767, 262143, 524287, 1048575, 2097151, 4194303, 2097151, 10485759, 2097151, 35651583, 134217727, 268435455, 536870911]
theorem sPK.tab15 : rtab .any (opsOf Tryd.f7 15) = sPK.T15 := by kernel_rfl
theorem sPK.bits15 : waitsOk sPK.T15.2 sPK.B15 = true := by kernel_rfl
def sPK.T19 : Bool × List (List Nat × List Nat) := (true, [([], []), ([], []), ([], []), ([], []), ([0, 1, 2, 3], [0, 1, 2, 3]), ([4], [4]), ([5], [5]), ([5], [5]), ([6, 4, 0, 1, 2, 3, 4, 5, 6], [6]), ([7, 8, 0, 1, 2, 3, 4, 5, 6, 7, 8], [7])])
def sPK.B19 : List Nat := [0, 0, 0, 0, 15, 31, 63, 63, 127, 511]
theorem sPK.tab19 : rtab .any (opsOf Tryd.f7 19) = sPK.T19 := by kernel_rfl
theorem sPK.bits19 : waitsOk sPK.T19.2 sPK.B19 = true := by kernel_rfl
set_option maxHeartbeats 8000000 in
set_option maxRecDepth 100000 in
theorem sPK.calls (k : Nat)  (r : Bool) (w : World) (hG : GW w) (h : sPK.f k  = some r) :
  Calls Tryd.prog 7 #[] w fun e w' => e = .returned (.bool r) ∧ Below w.heap.size w w' := by
 have HB := Aside0.mk (Below.refl w.heap.size w)
 have H : ((sbm.f k (⟨#[215, 144, 40, 49, 41]⟩ : ByteArray) 0 1 (([2, 2, 4, 2] : List Int))).bind fun t104 => (if t104 = true then ((sbm.f k (⟨#[97, 40, 215, 144, 41]⟩ : ByteArray) 0 1 (([1, 1, 2, 1] : List Int))).bind fun t108 => (if t108 = true then ((sbm.f k (⟨#[215, 144, 40, 97, 41]⟩ : ByteArray) 1 2 (([2, 2, 1, 2] : List Int))).bind fun t112 => (if t112 = true then ((sbm.f k (⟨#[40, 33, 41]⟩ : ByteArray) 0 1 (([14, 14, 14] : List Int))).bind fun t116 => (if t116 = true then ((sbm.f k (⟨#[215, 144, 40, 215, 144, 41, 204, 129]⟩ : ByteArray) 0 1 (([2, 2, 2, 2, 2] : List Int))).bind fun t120 => (if t120 = true then ((sbm.f k (⟨#[40, 91, 41, 93, 97]⟩ : ByteArray) 0 1 (([14, 14, 14, 14, 1] : List Int))).bind fun t124 => (if t124 = true then ((sbm.f k (⟨#[40, 215, 144, 41]⟩ : ByteArray) 0 2 (([2, 2, 2] : List Int))).bind fun t128 => (if t128 = true then ((sbm.f k (⟨#[40, 215, 144, 41]⟩ : ByteArray) 0 1 (([1, 2, 1] : List Int))).bind fun t132 => ((sbm.f k (⟨#[226, 140, 169, 97, 227, 128, 137]⟩ : ByteArray) 0 1 (([1, 1, 1] : List Int))).bind fun t136 => (if t136 = true then ((sbm.f k (⟨#[40, 97, 93]⟩ : ByteArray) 0 1 (([14, 1, 14] : List Int))).bind fun t140 => (if t140 = true then ((sbm.f k (⟨#[97, 40, 215, 144, 91, 215, 145, 93, 41]⟩ : ByteArray) 1 2 (([1, 2, 2, 2, 2, 2, 2] : List Int))).bind fun t144 => (if t144 = true then ((sbm.f k (⟨#[215, 144, 91, 97, 40, 215, 144, 41, 93]⟩ : ByteArray) 0 1 (([2, 1, 1, 1, 2, 1, 1] : List Int))).bind fun t148 => (sPK.l0 k 1 2 14 t132 t148 ([] : List Int) 0)) else (none))) else (none))) else (none)))) else (none))) else (none))) else (none))) else (none))) else (none))) else (none))) else (none))) = some r := h
 clear h
 obtain ⟨y101, hy101⟩ : ∃ y_ : List Int, y_ = (([2, 2, 4, 2] : List Int)) := ⟨_, rfl⟩
 rw [← hy101] at H
 have Ny101 := Aside0.mk hy101
 clear hy101
 replace H := Option.bind_eq_some_iff.mp H
 obtain ⟨t104, A10, H⟩ := H
 have A1 := Aside0.mk A10
 clear A10
 by_cases c2 : t104 = true
 rotate_left
 ·rw [if_neg c2] at H; exact absurd H (by simp)

 subst c2
 rw [if_pos rfl] at H
 obtain ⟨y105, hy105⟩ : ∃ y_ : List Int, y_ = (([1, 1, 2, 1] : List Int)) := ⟨_, rfl⟩
 rw [← hy105] at H
 have Ny105 := Aside0.mk hy105
 clear hy105
 replace H := Option.bind_eq_some_iff.mp H
 obtain ⟨t108, A30, H⟩ := H
 have A3 := Aside0.mk A30
 clear A30
 by_cases c4 : t108 = true
 rotate_left
 ·rw [if_neg c4] at H; exact absurd H (by simp)
 subst c4
 rw [if_pos rfl] at H
 obtain ⟨y109, hy109⟩ : ∃ y_ : List Int, y_ = (([2, 2, 1, 2] : List Int)) := ⟨_, rfl⟩
 rw [← hy109] at H
 have Ny109 := Aside0.mk hy109
 clear hy109
 replace H := Option.bind_eq_some_iff.mp H
 obtain ⟨t112, A50, H⟩ := H
 have A5 := Aside0.mk A50
 clear A50
 by_cases c6 : t112 = true
 rotate_left
 ·rw [if_neg c6] at H; exact absurd H (by simp)
 subst c6
 rw [if_pos rfl] at H
 obtain ⟨y113, hy113⟩ : ∃ y_ : List Int, y_ = (([14, 14, 14] : List Int)) := ⟨_, rfl⟩
 rw [← hy113] at H
 have Ny113 := Aside0.mk hy113
 clear hy113
 replace H := Option.bind_eq_some_iff.mp H
 obtain ⟨t116, A70, H⟩ := H
 have A7 := Aside0.mk A70
 clear A70
 by_cases c8 : t116 = true
 rotate_left
 ·rw [if_neg c8] at H; exact absurd H (by simp)
 subst c8
 rw [if_pos rfl] at H
 obtain ⟨y117, hy117⟩ : ∃ y_ : List Int, y_ = (([2, 2, 2, 2, 2] : List Int)) := ⟨_, rfl⟩
 replace H : ((sbm.f k (⟨#[215, 144, 40, 215, 144, 41, 204, 129]⟩ : ByteArray) 0 1 y117).bind fun t120 => (if t120 = true then ((sbm.f k (⟨#[40, 91, 41, 93, 97]⟩ : ByteArray) 0 1 (([14, 14, 14, 14, 1] : List Int))).bind fun t124 => (if t124 = true then ((sbm.f k (⟨#[40, 215, 144, 41]⟩ : ByteArray) 0 2 (([2, 2, 2] : List Int))).bind fun t128 => (if t128 = true then ((sbm.f k (⟨#[40, 215, 144, 41]⟩ : ByteArray) 0 1 (([1, 2, 1] : List Int))).bind fun t132 => ((sbm.f k (⟨#[226, 140, 169, 97, 227, 128, 137]⟩ : ByteArray) 0 1 (([1, 1, 1] : List Int))).bind fun t136 => (if t136 = true then ((sbm.f k (⟨#[40, 97, 93]⟩ : ByteArray) 0 1 (([14, 1, 14] : List Int))).bind fun t140 => (if t140 = true then ((sbm.f k (⟨#[97, 40, 215, 144, 91, 215, 145, 93, 41]⟩ : ByteArray) 1 2 (([1, 2, 2, 2, 2, 2, 2] : List Int))).bind fun t144 => (if t144 = true then ((sbm.f k (⟨#[215, 144, 91, 97, 40, 215, 144, 41, 93]⟩ : ByteArray) 0 1 (([2, 1, 1, 1, 2, 1, 1] : List Int))).bind fun t148 => (sPK.l0 k 1 2 14 t132 t148 ([] : List Int) 0)) else (none))) else (none))) else (none)))) else (none))) else (none))) else (none))) = some r := by first | (rw [hy117]; with_reducible exact H) | (have H2_ := (Option.bind_some _ _).symm.trans H; rw [hy117]; with_reducible exact H2_) | (have H2_ := (Option.bind_some _ _).symm.trans H; with_reducible exact H2_) | with_reducible exact H | (rw [hy117]; exact H) | exact H
 have Ny117 := Aside0.mk hy117
 clear hy117
 replace H := Option.bind_eq_some_iff.mp H
 obtain ⟨t120, A90, H⟩ := H
 have A9 := Aside0.mk A90
 clear A90
 by_cases c10 : t120 = true
 rotate_left
 ·rw [if_neg c10] at H; exact absurd H (by simp)
 subst c10
 rw [if_pos rfl] at H
 obtain ⟨y121, hy121⟩ : ∃ y_ : List Int, y_ = (([14, 14, 14, 14, 1] : List Int)) := ⟨_, rfl⟩
 rw [← hy121] at H
 have Ny121 := Aside0.mk hy121
 clear hy121
 replace H := Option.bind_eq_some_iff.mp H
 obtain ⟨t124, A110, H⟩ := H
 have A11 := Aside0.mk A110
 clear A110
 by_cases c12 : t124 = true
 rotate_left
 ·rw [if_neg c12] at H; exact absurd H (by simp)
 subst c12
 rw [if_pos rfl] at H
 obtain ⟨y125, hy125⟩ : ∃ y_ : List Int, y_ = (([2, 2, 2] : List Int)) := ⟨_, rfl⟩
 replace H : ((sbm.f k (⟨#[40, 215, 144, 41]⟩ : ByteArray) 0 2 y125).bind fun t128 => (if t128 = true then ((sbm.f k (⟨#[40, 215, 144, 41]⟩ : ByteArray) 0 1 (([1, 2, 1] : List Int))).bind fun t132 => ((sbm.f k (⟨#[226, 140, 169, 97, 227, 128, 137]⟩ : ByteArray) 0 1 (([1, 1, 1] : List Int))).bind fun t136 => (if t136 = true then ((sbm.f k (⟨#[40, 97, 93]⟩ : ByteArray) 0 1 (([14, 1, 14] : List Int))).bind fun t140 => (if t140 = true then ((sbm.f k (⟨#[97, 40, 215, 144, 91, 215, 145, 93, 41]⟩ : ByteArray) 1 2 (([1, 2, 2, 2, 2, 2, 2] : List Int))).bind fun t144 => (if t144 = true then ((sbm.f k (⟨#[215, 144, 91, 97, 40, 215, 144, 41, 93]⟩ : ByteArray) 0 1 (([2, 1, 1, 1, 2, 1, 1] : List Int))).bind fun t148 => (sPK.l0 k 1 2 14 t132 t148 ([] : List Int) 0)) else (none))) else (none))) else (none)))) else (none))) = some r := by first | (rw [hy125]; with_reducible exact H) | (have H2_ := (Option.bind_some _ _).symm.trans H; rw [hy125]; with_reducible exact H2_) | (have H2_ := (Option.bind_some _ _).symm.trans H; with_reducible exact H2_) | with_reducible exact H | (rw [hy125]; exact H) | exact H
 have Ny125 := Aside0.mk hy125
 clear hy125
 replace H := Option.bind_eq_some_iff.mp H
 obtain ⟨t128, A130, H⟩ := H
 have A13 := Aside0.mk A130
 clear A130
 by_cases c14 : t128 = true
 rotate_left
 ·rw [if_neg c14] at H; exact absurd H (by simp)
 subst c14
 rw [if_pos rfl] at H
 obtain ⟨y129, hy129⟩ : ∃ y_ : List Int, y_ = (([1, 2, 1] : List Int)) := ⟨_, rfl⟩
 rw [← hy129] at H
 have Ny129 := Aside0.mk hy129
 clear hy129
 replace H := Option.bind_eq_some_iff.mp H
 obtain ⟨t132, A150, H⟩ := H
 have A15 := Aside0.mk A150
 clear A150
 obtain ⟨y133, hy133⟩ : ∃ y_ : List Int, y_ = (([1, 1, 1] : List Int)) := ⟨_, rfl⟩
 rw [← hy133] at H
 have Ny133 := Aside0.mk hy133
 clear hy133
 replace H := Option.bind_eq_some_iff.mp H
 obtain ⟨t136, A160, H⟩ := H
 have A16 := Aside0.mk A160
 clear A160
 by_cases c17 : t136 = true
 rotate_left
 ·rw [if_neg c17] at H; exact absurd H (by simp)
 subst c17
 rw [if_pos rfl] at H
 obtain ⟨y137, hy137⟩ : ∃ y_ : List Int, y_ = (([14, 1, 14] : List Int)) := ⟨_, rfl⟩
 rw [← hy137] at H
 have Ny137 := Aside0.mk hy137
 clear hy137
 replace H := Option.bind_eq_some_iff.mp H
 obtain ⟨t140, A180, H⟩ := H
 have A18 := Aside0.mk A180
 clear A180
 by_cases c19 : t140 = true
 rotate_left
 ·rw [if_neg c19] at H; exact absurd H (by simp)
 subst c19
 rw [if_pos rfl] at H
 obtain ⟨y141, hy141⟩ : ∃ y_ : List Int, y_ = (([1, 2, 2, 2, 2, 2, 2] : List Int)) := ⟨_, rfl⟩
 rw [← hy141] at H
 have Ny141 := Aside0.mk hy141
 clear hy141
 replace H := Option.bind_eq_some_iff.mp H
 obtain ⟨t144, A200, H⟩ := H
 have A20 := Aside0.mk A200
 clear A200
 by_cases c21 : t144 = true
 rotate_left
 ·rw [if_neg c21] at H; exact absurd H (by simp)
 subst c21
 rw [if_pos rfl] at H
 obtain ⟨y145, hy145⟩ : ∃ y_ : List Int, y_ = (([2, 1, 1, 1, 2, 1, 1] : List Int)) := ⟨_, rfl⟩
 rw [← hy145] at H
 have Ny145 := Aside0.mk hy145
 clear hy145
 replace H := Option.bind_eq_some_iff.mp H
 obtain ⟨t148, A220, H⟩ := H
 replace H : (sPK.l0 k 1 2 14 t132 t148 ([] : List Int) 0) = some r := H
 have A22 := Aside0.mk A220
 clear A220
 have H' := Aside0.mk H
 clear H
 go_enter Tryd.func7, Tryd.ntmps7
 go_wp2_with (first | ((with_reducible refine gate_dst (N := 24) rfl ?_); (try (refine gate_guard (by rfl) ?_; dsimp only)); refine Kd.R_lit (Kd.int .u8) _ 33 ?hg (N := 24) ?hd (xs := ([2, 2, 4, 2] : List Int)) (inner := [.int .u8 2, .int .u8 2, .int .u8 4, .int .u8 2]) (ok := fun _ => True) (okp := fun _ => True) ?hr ?hp (fun _ hk => hk) trivial (Below.refl _ _) (Nat.le_refl _) (by simp) ?_; (case hd => rfl); (case hg => rfl); (case hr => first | (go_simp; done) | (go_simp; rfl)); (case hp => exact (Reps.one (show Kd.M (Kd.int .u8) _ _ _ 2 [.int .u8 2] from rfl) (Reps.one (show Kd.M (Kd.int .u8) _ _ _ 2 [.int .u8 2] from rfl) (Reps.one (show Kd.M (Kd.int .u8) _ _ _ 4 [.int .u8 4] from rfl) (Reps.one (show Kd.M (Kd.int .u8) _ _ _ 2 [.int .u8 2] from rfl) (Reps.none _ _)))))); intro v102 w23 ho24 hb hg_ hnew_; clear hg_ hnew_; rw [← Ny101.out] at ho24; have n0_ := Aside0.mk ho24; have n1_ := Aside0.mk (below_step (by repeat (first | exact HB.out | apply below_alloc | apply pw_below_drewN | apply below_drew1)) hb); clear HB; have HO103 := n0_; have HB := n1_; clear n0_ n1_ hb ho24; obtain ⟨Ao25, co25, eo25⟩ := Kd.R_slice HO103.out; subst eo25) | ((with_reducible refine gate_callee (f := 16) rfl ?_); refine goesL_ (some 25) rfl rfl Tryd.func16 (by kernel_rfl) rfl #[.string (⟨#[215, 144, 40, 49, 41]⟩ : ByteArray), .int .u8 0, .int .u8 1, .slice Ao25 y101.length co25] rfl (by (try simp only [List.map_toArray, List.map_cons, List.map_nil]); first | done | rfl | (simp only [List.length_drop, List.length_take]; rfl)) ?_; (with_reducible refine (sbm.calls k (⟨#[215, 144, 40, 49, 41]⟩ : ByteArray) 0 1 _ _ y101 true _ ?side1 ?side2 ?side3 A1.out).mono ?_); (case side1 => exact (Kd.R_reads' HO103.out).2.2); (case side2 => exact (Kd.R_reads' HO103.out).2.1); (case side3 => exact GW_below hG (by repeat (first | exact HB.out | apply below_alloc | apply pw_below_drewN | apply below_drew1))); rintro e w26 ⟨rfl, hb⟩; refine ⟨_, rfl, ?_⟩; have n1_ := Aside0.mk (below_step (by repeat (first | exact HB.out | apply below_alloc | apply pw_below_drewN | apply below_drew1)) hb); clear HB HO103; have HB := n1_; clear n1_ hb) | ((with_reducible refine gate_dst (N := 31) rfl ?_); (try (refine gate_guard (by rfl) ?_; dsimp only)); refine Kd.R_lit (Kd.int .u8) _ 33 ?hg (N := 31) ?hd (xs := ([1, 1, 2, 1] : List Int)) (inner := [.int .u8 1, .int .u8 1, .int .u8 2, .int .u8 1]) (ok := fun _ => True) (okp := fun _ => True) ?hr ?hp (fun _ hk => hk) trivial (Below.refl _ _) (Nat.le_refl _) (by simp) ?_; (case hd => rfl); (case hg => rfl); (case hr => first | (go_simp; done) | (go_simp; rfl)); (case hp => exact (Reps.one (show Kd.M (Kd.int .u8) _ _ _ 1 [.int .u8 1] from rfl) (Reps.one (show Kd.M (Kd.int .u8) _ _ _ 1 [.int .u8 1] from rfl) (Reps.one (show Kd.M (Kd.int .u8) _ _ _ 2 [.int .u8 2] from rfl) (Reps.one (show Kd.M (Kd.int .u8) _ _ _ 1 [.int .u8 1] from rfl) (Reps.none _ _)))))); intro v106 w27 ho28 hb hg_ hnew_; clear hg_ hnew_; rw [← Ny105.out] at ho28; have n0_ := Aside0.mk ho28; have n1_ := Aside0.mk (below_step (by repeat (first | exact HB.out | apply below_alloc | apply pw_below_drewN | apply below_drew1)) hb); clear HB; have HO107 := n0_; have HB := n1_; clear n0_ n1_ hb ho28; obtain ⟨Ao29, co29, eo29⟩ := Kd.R_slice HO107.out; subst eo29) | (go_at_call 16; (with_reducible refine (sbm.calls k (⟨#[97, 40, 215, 144, 41]⟩ : ByteArray) 0 1 _ _ y105 true _ ?side1 ?side2 ?side3 A3.out).mono ?_); (case side1 => exact (Kd.R_reads' HO107.out).2.2); (case side2 => exact (Kd.R_reads' HO107.out).2.1); (case side3 => exact GW_below hG (by repeat (first | exact HB.out | apply below_alloc | apply pw_below_drewN | apply below_drew1))); rintro e w30 ⟨rfl, hb⟩; have n1_ := Aside0.mk (below_step (by repeat (first | exact HB.out | apply below_alloc | apply pw_below_drewN | apply below_drew1)) hb); clear HB HO107; have HB := n1_; clear n1_ hb) | ((with_reducible refine gate_dst (N := 39) rfl ?_); (try (refine gate_guard (by rfl) ?_; dsimp only)); refine Kd.R_lit (Kd.int .u8) _ 33 ?hg (N := 39) ?hd (xs := ([2, 2, 1, 2] : List Int)) (inner := [.int .u8 2, .int .u8 2, .int .u8 1, .int .u8 2]) (ok := fun _ => True) (okp := fun _ => True) ?hr ?hp (fun _ hk => hk) trivial (Below.refl _ _) (Nat.le_refl _) (by simp) ?_; (case hd => rfl); (case hg => rfl); (case hr => first | (go_simp; done) | (go_simp; rfl)); (case hp => exact (Reps.one (show Kd.M (Kd.int .u8) _ _ _ 2 [.int .u8 2] from rfl) (Reps.one (show Kd.M (Kd.int .u8) _ _ _ 2 [.int .u8 2] from rfl) (Reps.one (show Kd.M (Kd.int .u8) _ _ _ 1 [.int .u8 1] from rfl) (Reps.one (show Kd.M (Kd.int .u8) _ _ _ 2 [.int .u8 2] from rfl) (Reps.none _ _)))))); intro v110 w31 ho32 hb hg_ hnew_; clear hg_ hnew_; rw [← Ny109.out] at ho32; have n0_ := Aside0.mk ho32; have n1_ := Aside0.mk (below_step (by repeat (first | exact HB.out | apply below_alloc | apply pw_below_drewN | apply below_drew1)) hb); clear HB; have HO111 := n0_; have HB := n1_; clear n0_ n1_ hb ho32; obtain ⟨Ao33, co33, eo33⟩ := Kd.R_slice HO111.out; subst eo33) | (go_at_call 16; (with_reducible refine (sbm.calls k (⟨#[215, 144, 40, 97, 41]⟩ : ByteArray) 1 2 _ _ y109 true _ ?side1 ?side2 ?side3 A5.out).mono ?_); (case side1 => exact (Kd.R_reads' HO111.out).2.2); (case side2 => exact (Kd.R_reads' HO111.out).2.1); (case side3 => exact GW_below hG (by repeat (first | exact HB.out | apply below_alloc | apply pw_below_drewN | apply below_drew1))); rintro e w34 ⟨rfl, hb⟩; have n1_ := Aside0.mk (below_step (by repeat (first | exact HB.out | apply below_alloc | apply pw_below_drewN | apply below_drew1)) hb); clear HB HO111; have HB := n1_; clear n1_ hb) | ((with_reducible refine gate_dst (N := 46) rfl ?_); (try (refine gate_guard (by rfl) ?_; dsimp only)); refine Kd.R_lit (Kd.int .u8) _ 33 ?hg (N := 46) ?hd (xs := ([14, 14, 14] : List Int)) (inner := [.int .u8 14, .int .u8 14, .int .u8 14]) (ok := fun _ => True) (okp := fun _ => True) ?hr ?hp (fun _ hk => hk) trivial (Below.refl _ _) (Nat.le_refl _) (by simp) ?_; (case hd => rfl); (case hg => rfl); (case hr => first | (go_simp; done) | (go_simp; rfl)); (case hp => exact (Reps.one (show Kd.M (Kd.int .u8) _ _ _ 14 [.int .u8 14] from rfl) (Reps.one (show Kd.M (Kd.int .u8) _ _ _ 14 [.int .u8 14] from rfl) (Reps.one (show Kd.M (Kd.int .u8) _ _ _ 14 [.int .u8 14] from rfl) (Reps.none _ _))))); intro v114 w35 ho36 hb hg_ hnew_; clear hg_ hnew_; rw [← Ny113.out] at ho36; have n0_ := Aside0.mk ho36; have n1_ := Aside0.mk (below_step (by repeat (first | exact HB.out | apply below_alloc | apply pw_below_drewN | apply below_drew1)) hb); clear HB; have HO115 := n0_; have HB := n1_; clear n0_ n1_ hb ho36; obtain ⟨Ao37, co37, eo37⟩ := Kd.R_slice HO115.out; subst eo37) | (go_at_call 16; (with_reducible refine (sbm.calls k (⟨#[40, 33, 41]⟩ : ByteArray) 0 1 _ _ y113 true _ ?side1 ?side2 ?side3 A7.out).mono ?_); (case side1 => exact (Kd.R_reads' HO115.out).2.2); (case side2 => exact (Kd.R_reads' HO115.out).2.1); (case side3 => exact GW_below hG (by repeat (first | exact HB.out | apply below_alloc | apply pw_below_drewN | apply below_drew1))); rintro e w38 ⟨rfl, hb⟩; have n1_ := Aside0.mk (below_step (by repeat (first | exact HB.out | apply below_alloc | apply pw_below_drewN | apply below_drew1)) hb); clear HB HO115; have HB := n1_; clear n1_ hb) | ((with_reducible refine gate_dst (N := 55) rfl ?_); (try (refine gate_guard (by rfl) ?_; dsimp only)); refine Kd.R_lit (Kd.int .u8) _ 33 ?hg (N := 55) ?hd (xs := ([2, 2, 2, 2, 2] : List Int)) (inner := [.int .u8 2, .int .u8 2, .int .u8 2, .int .u8 2, .int .u8 2]) (ok := fun _ => True) (okp := fun _ => True) ?hr ?hp (fun _ hk => hk) trivial (Below.refl _ _) (Nat.le_refl _) (by simp) ?_; (case hd => rfl); (case hg => rfl); (case hr => first | (go_simp; done) | (go_simp; rfl)); (case hp => exact (Reps.one (show Kd.M (Kd.int .u8) _ _ _ 2 [.int .u8 2] from rfl) (Reps.one (show Kd.M (Kd.int .u8) _ _ _ 2 [.int .u8 2] from rfl) (Reps.one (show Kd.M (Kd.int .u8) _ _ _ 2 [.int .u8 2] from rfl) (Reps.one (show Kd.M (Kd.int .u8) _ _ _ 2 [.int .u8 2] from rfl) (Reps.one (show Kd.M (Kd.int .u8) _ _ _ 2 [.int .u8 2] from rfl) (Reps.none _ _))))))); intro v118 w39 ho40 hb hg_ hnew_; clear hg_ hnew_; rw [← Ny117.out] at ho40; have n0_ := Aside0.mk ho40; have n1_ := Aside0.mk (below_step (by repeat (first | exact HB.out | apply below_alloc | apply pw_below_drewN | apply below_drew1)) hb); clear HB; have HO119 := n0_; have HB := n1_; clear n0_ n1_ hb ho40; obtain ⟨Ao41, co41, eo41⟩ := Kd.R_slice HO119.out; subst eo41) | (go_at_call 16; (with_reducible refine (sbm.calls k (⟨#[215, 144, 40, 215, 144, 41, 204, 129]⟩ : ByteArray) 0 1 _ _ y117 true _ ?side1 ?side2 ?side3 A9.out).mono ?_); (case side1 => exact (Kd.R_reads' HO119.out).2.2); (case side2 => exact (Kd.R_reads' HO119.out).2.1); (case side3 => exact GW_below hG (by repeat (first | exact HB.out | apply below_alloc | apply pw_below_drewN | apply below_drew1))); rintro e w42 ⟨rfl, hb⟩; have n1_ := Aside0.mk (below_step (by repeat (first | exact HB.out | apply below_alloc | apply pw_below_drewN | apply below_drew1)) hb); clear HB HO119; have HB := n1_; clear n1_ hb) | ((with_reducible refine gate_dst (N := 64) rfl ?_); (try (refine gate_guard (by rfl) ?_; dsimp only)); refine Kd.R_lit (Kd.int .u8) _ 33 ?hg (N := 64) ?hd (xs := ([14, 14, 14, 14, 1] : List Int)) (inner := [.int .u8 14, .int .u8 14, .int .u8 14, .int .u8 14, .int .u8 1]) (ok := fun _ => True) (okp := fun _ => True) ?hr ?hp (fun _ hk => hk) trivial (Below.refl _ _) (Nat.le_refl _) (by simp) ?_; (case hd => rfl); (case hg => rfl); (case hr => first | (go_simp; done) | (go_simp; rfl)); (case hp => exact (Reps.one (show Kd.M (Kd.int .u8) _ _ _ 14 [.int .u8 14] from rfl) (Reps.one (show Kd.M (Kd.int .u8) _ _ _ 14 [.int .u8 14] from rfl) (Reps.one (show Kd.M (Kd.int .u8) _ _ _ 14 [.int .u8 14] from rfl) (Reps.one (show Kd.M (Kd.int .u8) _ _ _ 14 [.int .u8 14] from rfl) (Reps.one (show Kd.M (Kd.int .u8) _ _ _ 1 [.int .u8 1] from rfl) (Reps.none _ _))))))); intro v122 w43 ho44 hb hg_ hnew_; clear hg_ hnew_; rw [← Ny121.out] at ho44; have n0_ := Aside0.mk ho44; have n1_ := Aside0.mk (below_step (by repeat (first | exact HB.out | apply below_alloc | apply pw_below_drewN | apply below_drew1)) hb); clear HB; have HO123 := n0_; have HB := n1_; clear n0_ n1_ hb ho44; obtain ⟨Ao45, co45, eo45⟩ := Kd.R_slice HO123.out; subst eo45) | (go_at_call 16; (with_reducible refine (sbm.calls k (⟨#[40, 91, 41, 93, 97]⟩ : ByteArray) 0 1 _ _ y121 true _ ?side1 ?side2 ?side3 A11.out).mono ?_); (case side1 => exact (Kd.R_reads' HO123.out).2.2); (case side2 => exact (Kd.R_reads' HO123.out).2.1); (case side3 => exact GW_below hG (by repeat (first | exact HB.out | apply below_alloc | apply pw_below_drewN | apply below_drew1))); rintro e w46 ⟨rfl, hb⟩; have n1_ := Aside0.mk (below_step (by repeat (first | exact HB.out | apply below_alloc | apply pw_below_drewN | apply below_drew1)) hb); clear HB HO123; have HB := n1_; clear n1_ hb) | ((with_reducible refine gate_dst (N := 71) rfl ?_); (try (refine gate_guard (by rfl) ?_; dsimp only)); refine Kd.R_lit (Kd.int .u8) _ 33 ?hg (N := 71) ?hd (xs := ([2, 2, 2] : List Int)) (inner := [.int .u8 2, .int .u8 2, .int .u8 2]) (ok := fun _ => True) (okp := fun _ => True) ?hr ?hp (fun _ hk => hk) trivial (Below.refl _ _) (Nat.le_refl _) (by simp) ?_; (case hd => rfl); (case hg => rfl); (case hr => first | (go_simp; done) | (go_simp; rfl)); (case hp => exact (Reps.one (show Kd.M (Kd.int .u8) _ _ _ 2 [.int .u8 2] from rfl) (Reps.one (show Kd.M (Kd.int .u8) _ _ _ 2 [.int .u8 2] from rfl) (Reps.one (show Kd.M (Kd.int .u8) _ _ _ 2 [.int .u8 2] from rfl) (Reps.none _ _))))); intro v126 w47 ho48 hb hg_ hnew_; clear hg_ hnew_; rw [← Ny125.out] at ho48; have n0_ := Aside0.mk ho48; have n1_ := Aside0.mk (below_step (by repeat (first | exact HB.out | apply below_alloc | apply pw_below_drewN | apply below_drew1)) hb); clear HB; have HO127 := n0_; have HB := n1_; clear n0_ n1_ hb ho48; obtain ⟨Ao49, co49, eo49⟩ := Kd.R_slice HO127.out; subst eo49) | (go_at_call 16; (with_reducible refine (sbm.calls k (⟨#[40, 215, 144, 41]⟩ : ByteArray) 0 2 _ _ y125 true _ ?side1 ?side2 ?side3 A13.out).mono ?_); (case side1 => exact (Kd.R_reads' HO127.out).2.2); (case side2 => exact (Kd.R_reads' HO127.out).2.1); (case side3 => exact GW_below hG (by repeat (first | exact HB.out | apply below_alloc | apply pw_below_drewN | apply below_drew1))); rintro e w50 ⟨rfl, hb⟩; have n1_ := Aside0.mk (below_step (by repeat (first | exact HB.out | apply below_alloc | apply pw_below_drewN | apply below_drew1)) hb); clear HB HO127; have HB := n1_; clear n1_ hb) | ((with_reducible refine gate_dst (N := 78) rfl ?_); (try (refine gate_guard (by rfl) ?_; dsimp only)); refine Kd.R_lit (Kd.int .u8) _ 33 ?hg (N := 78) ?hd (xs := ([1, 2, 1] : List Int)) (inner := [.int .u8 1, .int .u8 2, .int .u8 1]) (ok := fun _ => True) (okp := fun _ => True) ?hr ?hp (fun _ hk => hk) trivial (Below.refl _ _) (Nat.le_refl _) (by simp) ?_; (case hd => rfl); (case hg => rfl); (case hr => first | (go_simp; done) | (go_simp; rfl)); (case hp => exact (Reps.one (show Kd.M (Kd.int .u8) _ _ _ 1 [.int .u8 1] from rfl) (Reps.one (show Kd.M (Kd.int .u8) _ _ _ 2 [.int .u8 2] from rfl) (Reps.one (show Kd.M (Kd.int .u8) _ _ _ 1 [.int .u8 1] from rfl) (Reps.none _ _))))); intro v130 w51 ho52 hb hg_ hnew_; clear hg_ hnew_; rw [← Ny129.out] at ho52; have n0_ := Aside0.mk ho52; have n1_ := Aside0.mk (below_step (by repeat (first | exact HB.out | apply below_alloc | apply pw_below_drewN | apply below_drew1)) hb); clear HB; have HO131 := n0_; have HB := n1_; clear n0_ n1_ hb ho52; obtain ⟨Ao53, co53, eo53⟩ := Kd.R_slice HO131.out; subst eo53) | (go_at_call 16; (with_reducible refine (sbm.calls k (⟨#[40, 215, 144, 41]⟩ : ByteArray) 0 1 _ _ y129 t132 _ ?side1 ?side2 ?side3 A15.out).mono ?_); (case side1 => exact (Kd.R_reads' HO131.out).2.2); (case side2 => exact (Kd.R_reads' HO131.out).2.1); (case side3 => exact GW_below hG (by repeat (first | exact HB.out | apply below_alloc | apply pw_below_drewN | apply below_drew1))); rintro e w54 ⟨rfl, hb⟩; have n1_ := Aside0.mk (below_step (by repeat (first | exact HB.out | apply below_alloc | apply pw_below_drewN | apply below_drew1)) hb); clear HB HO131; have HB := n1_; clear n1_ hb) | ((with_reducible refine gate_dst (N := 84) rfl ?_); (try (refine gate_guard (by rfl) ?_; dsimp only)); refine Kd.R_lit (Kd.int .u8) _ 33 ?hg (N := 84) ?hd (xs := ([1, 1, 1] : List Int)) (inner := [.int .u8 1, .int .u8 1, .int .u8 1]) (ok := fun _ => True) (okp := fun _ => True) ?hr ?hp (fun _ hk => hk) trivial (Below.refl _ _) (Nat.le_refl _) (by simp) ?_; (case hd => rfl); (case hg => rfl); (case hr => first | (go_simp; done) | (go_simp; rfl)); (case hp => exact (Reps.one (show Kd.M (Kd.int .u8) _ _ _ 1 [.int .u8 1] from rfl) (Reps.one (show Kd.M (Kd.int .u8) _ _ _ 1 [.int .u8 1] from rfl) (Reps.one (show Kd.M (Kd.int .u8) _ _ _ 1 [.int .u8 1] from rfl) (Reps.none _ _))))); intro v134 w55 ho56 hb hg_ hnew_; clear hg_ hnew_; rw [← Ny133.out] at ho56; have n0_ := Aside0.mk ho56; have n1_ := Aside0.mk (below_step (by repeat (first | exact HB.out | apply below_alloc | apply pw_below_drewN | apply below_drew1)) hb); clear HB; have HO135 := n0_; have HB := n1_; clear n0_ n1_ hb ho56; obtain ⟨Ao57, co57, eo57⟩ := Kd.R_slice HO135.out; subst eo57) | ((with_reducible refine gate_callee (f := 16) rfl ?_); refine goesL_ (some 85) rfl rfl Tryd.func16 (by kernel_rfl) rfl #[.string (⟨#[226, 140, 169, 97, 227, 128, 137]⟩ : ByteArray), .int .u8 0, .int .u8 1, .slice Ao57 y133.length co57] rfl (by (try simp only [List.map_toArray, List.map_cons, List.map_nil]); first | done | rfl | (simp only [List.length_drop, List.length_take]; rfl)) ?_; (with_reducible refine (sbm.calls k (⟨#[226, 140, 169, 97, 227, 128, 137]⟩ : ByteArray) 0 1 _ _ y133 true _ ?side1 ?side2 ?side3 A16.out).mono ?_); (case side1 => exact (Kd.R_reads' HO135.out).2.2); (case side2 => exact (Kd.R_reads' HO135.out).2.1); (case side3 => exact GW_below hG (by repeat (first | exact HB.out | apply below_alloc | apply pw_below_drewN | apply below_drew1))); rintro e w58 ⟨rfl, hb⟩; refine ⟨_, rfl, ?_⟩; have n1_ := Aside0.mk (below_step (by repeat (first | exact HB.out | apply below_alloc | apply pw_below_drewN | apply below_drew1)) hb); clear HB HO135; have HB := n1_; clear n1_ hb) | ((with_reducible refine gate_dst (N := 90) rfl ?_); (try (refine gate_guard (by rfl) ?_; dsimp only)); refine Kd.R_lit (Kd.int .u8) _ 33 ?hg (N := 90) ?hd (xs := ([14, 1, 14] : List Int)) (inner := [.int .u8 14, .int .u8 1, .int .u8 14]) (ok := fun _ => True) (okp := fun _ => True) ?hr ?hp (fun _ hk => hk) trivial (Below.refl _ _) (Nat.le_refl _) (by simp) ?_; (case hd => rfl); (case hg => rfl); (case hr => first | (go_simp; done) | (go_simp; rfl)); (case hp => exact (Reps.one (show Kd.M (Kd.int .u8) _ _ _ 14 [.int .u8 14] from rfl) (Reps.one (show Kd.M (Kd.int .u8) _ _ _ 1 [.int .u8 1] from rfl) (Reps.one (show Kd.M (Kd.int .u8) _ _ _ 14 [.int .u8 14] from rfl) (Reps.none _ _))))); intro v138 w59 ho60 hb hg_ hnew_; clear hg_ hnew_; rw [← Ny137.out] at ho60; have n0_ := Aside0.mk ho60; have n1_ := Aside0.mk (below_step (by repeat (first | exact HB.out | apply below_alloc | apply pw_below_drewN | apply below_drew1)) hb); clear HB; have HO139 := n0_; have HB := n1_; clear n0_ n1_ hb ho60; obtain ⟨Ao61, co61, eo61⟩ := Kd.R_slice HO139.out; subst eo61) | (go_at_call 16; (with_reducible refine (sbm.calls k (⟨#[40, 97, 93]⟩ : ByteArray) 0 1 _ _ y137 true _ ?side1 ?side2 ?side3 A18.out).mono ?_); (case side1 => exact (Kd.R_reads' HO139.out).2.2); (case side2 => exact (Kd.R_reads' HO139.out).2.1); (case side3 => exact GW_below hG (by repeat (first | exact HB.out | apply below_alloc | apply pw_below_drewN | apply below_drew1))); rintro e w62 ⟨rfl, hb⟩; have n1_ := Aside0.mk (below_step (by repeat (first | exact HB.out | apply below_alloc | apply pw_below_drewN | apply below_drew1)) hb); clear HB HO139; have HB := n1_; clear n1_ hb) | ((with_reducible refine gate_dst (N := 101) rfl ?_); (try (refine gate_guard (by rfl) ?_; dsimp only)); refine Kd.R_lit (Kd.int .u8) _ 33 ?hg (N := 101) ?hd (xs := ([1, 2, 2, 2, 2, 2, 2] : List Int)) (inner := [.int .u8 1, .int .u8 2, .int .u8 2, .int .u8 2, .int .u8 2, .int .u8 2, .int .u8 2]) (ok := fun _ => True) (okp := fun _ => True) ?hr ?hp (fun _ hk => hk) trivial (Below.refl _ _) (Nat.le_refl _) (by simp) ?_; (case hd => rfl); (case hg => rfl); (case hr => first | (go_simp; done) | (go_simp; rfl)); (case hp => exact (Reps.one (show Kd.M (Kd.int .u8) _ _ _ 1 [.int .u8 1] from rfl) (Reps.one (show Kd.M (Kd.int .u8) _ _ _ 2 [.int .u8 2] from rfl) (Reps.one (show Kd.M (Kd.int .u8) _ _ _ 2 [.int .u8 2] from rfl) (Reps.one (show Kd.M (Kd.int .u8) _ _ _ 2 [.int .u8 2] from rfl) (Reps.one (show Kd.M (Kd.int .u8) _ _ _ 2 [.int .u8 2] from rfl) (Reps.one (show Kd.M (Kd.int .u8) _ _ _ 2 [.int .u8 2] from rfl) (Reps.one (show Kd.M (Kd.int .u8) _ _ _ 2 [.int .u8 2] from rfl) (Reps.none _ _))))))))); intro v142 w63 ho64 hb hg_ hnew_; clear hg_ hnew_; rw [← Ny141.out] at ho64; have n0_ := Aside0.mk ho64; have n1_ := Aside0.mk (below_step (by repeat (first | exact HB.out | apply below_alloc | apply pw_below_drewN | apply below_drew1)) hb); clear HB; have HO143 := n0_; have HB := n1_; clear n0_ n1_ hb ho64; obtain ⟨Ao65, co65, eo65⟩ := Kd.R_slice HO143.out; subst eo65) | (go_at_call 16; (with_reducible refine (sbm.calls k (⟨#[97, 40, 215, 144, 91, 215, 145, 93, 41]⟩ : ByteArray) 1 2 _ _ y141 true _ ?side1 ?side2 ?side3 A20.out).mono ?_); (case side1 => exact (Kd.R_reads' HO143.out).2.2); (case side2 => exact (Kd.R_reads' HO143.out).2.1); (case side3 => exact GW_below hG (by repeat (first | exact HB.out | apply below_alloc | apply pw_below_drewN | apply below_drew1))); rintro e w66 ⟨rfl, hb⟩; have n1_ := Aside0.mk (below_step (by repeat (first | exact HB.out | apply below_alloc | apply pw_below_drewN | apply below_drew1)) hb); clear HB HO143; have HB := n1_; clear n1_ hb) | ((with_reducible refine gate_dst (N := 112) rfl ?_); (try (refine gate_guard (by rfl) ?_; dsimp only)); refine Kd.R_lit (Kd.int .u8) _ 33 ?hg (N := 112) ?hd (xs := ([2, 1, 1, 1, 2, 1, 1] : List Int)) (inner := [.int .u8 2, .int .u8 1, .int .u8 1, .int .u8 1, .int .u8 2, .int .u8 1, .int .u8 1]) (ok := fun _ => True) (okp := fun _ => True) ?hr ?hp (fun _ hk => hk) trivial (Below.refl _ _) (Nat.le_refl _) (by simp) ?_; (case hd => rfl); (case hg => rfl); (case hr => first | (go_simp; done) | (go_simp; rfl)); (case hp => exact (Reps.one (show Kd.M (Kd.int .u8) _ _ _ 2 [.int .u8 2] from rfl) (Reps.one (show Kd.M (Kd.int .u8) _ _ _ 1 [.int .u8 1] from rfl) (Reps.one (show Kd.M (Kd.int .u8) _ _ _ 1 [.int .u8 1] from rfl) (Reps.one (show Kd.M (Kd.int .u8) _ _ _ 1 [.int .u8 1] from rfl) (Reps.one (show Kd.M (Kd.int .u8) _ _ _ 2 [.int .u8 2] from rfl) (Reps.one (show Kd.M (Kd.int .u8) _ _ _ 1 [.int .u8 1] from rfl) (Reps.one (show Kd.M (Kd.int .u8) _ _ _ 1 [.int .u8 1] from rfl) (Reps.none _ _))))))))); intro v146 w67 ho68 hb hg_ hnew_; clear hg_ hnew_; rw [← Ny145.out] at ho68; have n0_ := Aside0.mk ho68; have n1_ := Aside0.mk (below_step (by repeat (first | exact HB.out | apply below_alloc | apply pw_below_drewN | apply below_drew1)) hb); clear HB; have HO147 := n0_; have HB := n1_; clear n0_ n1_ hb ho68; obtain ⟨Ao69, co69, eo69⟩ := Kd.R_slice HO147.out; subst eo69) | (go_at_call 16; (with_reducible refine (sbm.calls k (⟨#[215, 144, 91, 97, 40, 215, 144, 41, 93]⟩ : ByteArray) 0 1 _ _ y145 t148 _ ?side1 ?side2 ?side3 A22.out).mono ?_); (case side1 => exact (Kd.R_reads' HO147.out).2.2); (case side2 => exact (Kd.R_reads' HO147.out).2.1); (case side3 => exact GW_below hG (by repeat (first | exact HB.out | apply below_alloc | apply pw_below_drewN | apply below_drew1))); rintro e w70 ⟨rfl, hb⟩; have n1_ := Aside0.mk (below_step (by repeat (first | exact HB.out | apply below_alloc | apply pw_below_drewN | apply below_drew1)) hb); clear HB HO147; have HB := n1_; clear n1_ hb))
 go_loopg [6, 8] k (fun kq v6 v8 w' => ∃ (x6_1 : List Int) (x8_1 : Int), v8 = .int .i64 x8_1 ∧ Aside0 (sPK.l0 kq 1 2 14 t132 t148 x6_1 x8_1 = some r) ∧ Aside0 (kq ≤ k) ∧ Aside0 (Kd.R (Kd.int .i32) 21 w' w.heap.size (fun _ => True) v6 x6_1) ∧ Aside0 (Below w.heap.size w w'))
 case atStart => exact ⟨(([] : List Int)), (0), (by first | rfl | (simp; done) | (simp [*]; done)), H', ⟨Nat.le_refl _⟩, ⟨by first | exact Kd.R_nil _ _ _ _ _ | exact Kd.N_nil _ _ _ _ _ | exact Kd.V_nil _ _ _ _ _ | exact Kd.Q_nil _ _ _ _ _ | exact Kd.S_nil _ _ _ _ _⟩, ⟨by repeat (first | (with_reducible first | exact HB.out | apply below_alloc | apply pw_below_drewN | apply below_drew1) | exact HB.out)⟩⟩
 case round =>
  clear H'
  try clear c1
  try clear c2
  try clear p2
  try clear c4
  try clear c6
  try clear c7
  try clear c8
  try clear c10
  try clear c12
  try clear c14
  try clear c16
  try clear c17
  try clear c19
  try clear c21
  obtain ⟨x6_1, x8_1, rfl, HA, HK1, HO_6, HB⟩ := hrel
  cases gk with
  | zero => exact absurd HA.out (by simp [sPK.l0])
  | succ k1 =>
   have H := HA.out
   clear HA
   simp only [sPK.l0] at H
   by_cases c71 : x8_1 < 70
   ·rw [if_pos c71] at H
    have c71b0 : decide (x8_1 < 70) = true := decide_eq_true c71
    clear c71
    by_cases c72 : x6_1.length < 35184372088832
    rotate_left
    ·rw [if_neg c72] at H
     exact absurd H (by simp)
    rw [if_pos c72] at H
    have LMc72 := Aside0.mk c72
    clear c72
    obtain ⟨y149, hy149⟩ : ∃ y_ : List Int, y_ = (x6_1 ++ [40]) := ⟨_, rfl⟩
    replace H : (sPK.l0 k1 1 2 14 t132 t148 y149 (wrap64 (x8_1 + 1))) = some r := by first | (rw [hy149]; with_reducible exact H) | (have H2_ := (Option.bind_some _ _).symm.trans H; rw [hy149]; with_reducible exact H2_) | (have H2_ := (Option.bind_some _ _).symm.trans H; with_reducible exact H2_) | with_reducible exact H | (rw [hy149]; exact H) | exact H
    have Ny149 := Aside0.mk hy149
    clear hy149
    have H' := Aside0.mk H
    clear H
    go_wp2_with (first | ((with_reducible refine gate_builtin (b := .append) (xs := #[.tmp 119, .tmp 120]) rfl ?_); (try (refine gate_guard (by rfl) ?_; dsimp only)); at_builtin; refine Kd.R_append (Kd.int .i32) (w0 := w) w.heap.size rfl (.tmp 119) (.tmp 120) 22 21 (.int .i32 0) 4 rfl Tryd.underlying22 info21 rfl (by decide) (by omega) u6 x6_1 40 [.int .i32 40] (fun _ => True) (fun _ => False) rfl rfl ?aP (fun _ hk => hk.elim) ?aF ?aO ?aB ?aS ?aL ?_; (case aP => exact rfl); (case aB => exact (by repeat (first | (with_reducible first | exact HB.out | apply below_alloc | apply pw_below_drewN | apply below_drew1) | exact HB.out))); (case aF => exact (fun _ _ => trivial)); (case aO => exact (by (with_reducible repeat (first | apply Kd.R_alloc | apply Kd.R_drewN | apply Kd.R_drew)); exact HO_6.out)); (case aS => exact (below_size (by repeat (first | (with_reducible first | exact HB.out | apply below_alloc | apply pw_below_drewN | apply below_drew1) | exact HB.out)))); (case aL => have := LMc72.out; omega); intro v150 w73 ho hb hg hat; rw [← Ny149.out] at ho; have n0_ := Aside0.mk (hb); have n1_ := Aside0.mk (ho); clear HB; clear HO_6; have HB := n0_; have HO151 := n1_; clear n0_ n1_; clear ho hb hg hat))
    go_roundg k1
    case measure => have := HK1.out; omega
    case rel => exact ⟨(y149), (wrap64 (x8_1 + 1)), (by first | rfl | (simp; done) | (simp [*]; done)), H', ⟨by have := HK1.out; omega⟩, ⟨by (with_reducible repeat (first | apply Kd.R_alloc | apply Kd.R_drewN | apply Kd.R_drew)); exact HO151.out⟩, ⟨by repeat (first | (with_reducible first | exact HB.out | apply below_alloc | apply pw_below_drewN | apply below_drew1) | exact HB.out)⟩⟩
   ·rw [if_neg c71] at H
    have c71b0 : decide (x8_1 < 70) = false := decide_eq_false c71
    clear c71
    have H' := Aside0.mk H
    clear H
    go_wp2
    go_loopg [6, 9] k1 (fun kq v6 v9 w' => ∃ (x6_2 : List Int) (x9_2 : Int), v9 = .int .i64 x9_2 ∧ Aside0 (sPK.l1 kq 1 2 14 t132 t148 x6_2 x9_2 = some r) ∧ Aside0 (kq ≤ k1) ∧ Aside0 (Kd.R (Kd.int .i32) 21 w' w.heap.size (fun _ => True) v6 x6_2) ∧ Aside0 (Below w.heap.size w w'))
    case atStart => exact ⟨(x6_1), (0), (by first | rfl | (simp; done) | (simp [*]; done)), H', ⟨Nat.le_refl _⟩, ⟨by (with_reducible repeat (first | apply Kd.R_alloc | apply Kd.R_drewN | apply Kd.R_drew)); exact HO_6.out⟩, ⟨by repeat (first | (with_reducible first | exact HB.out | apply below_alloc | apply pw_below_drewN | apply below_drew1) | exact HB.out)⟩⟩
    case round =>
     clear H'
     try clear c1
     try clear c2
     try clear p2
     try clear c4
     try clear c6
     try clear p6
     try clear c7
     try clear c8
     try clear c10
     try clear c12
     try clear c14
     try clear c16
     try clear c17
     try clear c19
     try clear c21
     try clear p64
     try clear c71
     try clear c71b0
     try clear c72
     try clear p2
     obtain ⟨x6_2, x9_2, rfl, HA, HK2, HO_6, HB⟩ := hrel
     cases gk with
     | zero => exact absurd HA.out (by simp [sPK.l1])
     | succ k2 =>
      have H := HA.out
      clear HA
      simp only [sPK.l1] at H
      by_cases c74 : x9_2 < 70
      ·rw [if_pos c74] at H
       have c74b0 : decide (x9_2 < 70) = true := decide_eq_true c74
       clear c74
       by_cases c75 : x6_2.length < 35184372088832
       rotate_left
       ·rw [if_neg c75] at H
        exact absurd H (by simp)
       rw [if_pos c75] at H
       have LMc75 := Aside0.mk c75
       clear c75
       obtain ⟨y152, hy152⟩ : ∃ y_ : List Int, y_ = (x6_2 ++ [41]) := ⟨_, rfl⟩
       replace H : (sPK.l1 k2 1 2 14 t132 t148 y152 (wrap64 (x9_2 + 1))) = some r := by first | (rw [hy152]; with_reducible exact H) | (have H2_ := (Option.bind_some _ _).symm.trans H; rw [hy152]; with_reducible exact H2_) | (have H2_ := (Option.bind_some _ _).symm.trans H; with_reducible exact H2_) | with_reducible exact H | (rw [hy152]; exact H) | exact H
       have Ny152 := Aside0.mk hy152
       clear hy152
       have H' := Aside0.mk H
       clear H
       go_wp2_with (first | ((with_reducible refine gate_builtin (b := .append) (xs := #[.tmp 126, .tmp 127]) rfl ?_); (try (refine gate_guard (by rfl) ?_; dsimp only)); at_builtin; refine Kd.R_append (Kd.int .i32) (w0 := w) w.heap.size rfl (.tmp 126) (.tmp 127) 22 21 (.int .i32 0) 4 rfl Tryd.underlying22 info21 rfl (by decide) (by omega) u6 x6_2 41 [.int .i32 41] (fun _ => True) (fun _ => False) rfl rfl ?aP (fun _ hk => hk.elim) ?aF ?aO ?aB ?aS ?aL ?_; (case aP => exact rfl); (case aB => exact (by repeat (first | (with_reducible first | exact HB.out | apply below_alloc | apply pw_below_drewN | apply below_drew1) | exact HB.out))); (case aF => exact (fun _ _ => trivial)); (case aO => exact (by (with_reducible repeat (first | apply Kd.R_alloc | apply Kd.R_drewN | apply Kd.R_drew)); exact HO_6.out)); (case aS => exact (below_size (by repeat (first | (with_reducible first | exact HB.out | apply below_alloc | apply pw_below_drewN | apply below_drew1) | exact HB.out)))); (case aL => have := LMc75.out; omega); intro v153 w76 ho hb hg hat; rw [← Ny152.out] at ho; have n0_ := Aside0.mk (hb); have n1_ := Aside0.mk (ho); clear HB; clear HO_6; have HB := n0_; have HO154 := n1_; clear n0_ n1_; clear ho hb hg hat))
       go_roundg k2
       case measure => have := HK1.out; have := HK2.out; omega
       case rel => exact ⟨(y152), (wrap64 (x9_2 + 1)), (by first | rfl | (simp; done) | (simp [*]; done)), H', ⟨by have := HK1.out; have := HK2.out; omega⟩, ⟨by (with_reducible repeat (first | apply Kd.R_alloc | apply Kd.R_drewN | apply Kd.R_drew)); exact HO154.out⟩, ⟨by repeat (first | (with_reducible first | exact HB.out | apply below_alloc | apply pw_below_drewN | apply below_drew1) | exact HB.out)⟩⟩
      ·rw [if_neg c74] at H
       have c74b0 : decide (x9_2 < 70) = false := decide_eq_false c74
       clear c74
       replace H := Option.bind_eq_some_iff.mp H
       obtain ⟨t155, A770, H⟩ := H
       have A77 := Aside0.mk A770
       clear A770
       replace H := Option.bind_eq_some_iff.mp H
       obtain ⟨t158, A780, H⟩ := H
       have A78 := Aside0.mk A780
       clear A780
       by_cases c79 : (t158.length : Int) = 0
       rotate_left
       ·rw [if_neg c79] at H
        exact absurd H (by simp)
       rw [if_pos c79] at H
       have c79b0 : ((t158.length : Int) == 0) = true := beq_iff_eq.mpr c79
       have c79b1 : ((t158.length : Int) != 0) = false := bne_eq_false_iff_eq.mpr c79
       clear c79
       by_cases c80 : 7 ≤ 133
       rotate_left
       ·rw [if_neg c80] at H
        exact absurd H (by simp)
       rw [if_pos c80] at H
       have c80b0 := eq_true c80
       have c80b1 : decide (7 ≤ 133) = true := decide_eq_true c80
       clear c80
       by_cases c81 : 133 ≤ (x6_2.length : Int)
       rotate_left
       ·rw [if_neg c81] at H
        exact absurd H (by simp)
       rw [if_pos c81] at H
       have c81b0 := eq_true c81
       have c81b1 : decide (133 ≤ (x6_2.length : Int)) = true := decide_eq_true c81
       clear c81
       obtain ⟨y161, hy161⟩ : ∃ y_ : List Int, y_ = ((x6_2.take 133).drop 7) := ⟨_, rfl⟩
       replace H : (if 133 ≤ (t155.length : Int) then ((pairs_Pairs.f k2 y161 ((t155.take 133).drop 7)).bind fun t169 => (if (t169.length : Int) = 63 then ((sPR.f k2 x6_2 t155 t155 0 1).bind fun t172 => (if t172 = true then ((sPN.f k2 ((x6_2.take 133).drop 7) ((t155.take 133).drop 7) ((t155.take 133).drop 7) 1 1).bind fun t185 => ((some (([40, 120, 41, 40, 40, 121, 41, 41] : List Int) : List Int)).bind fun y186 => ((scl.f k2 y186).bind fun t189 => ((some (([14, 1, 14, 9, 9, 14, 9, 10] : List Int) : List Int)).bind fun y192 => (if 65537 ≤ 70368744177664 then (if 65537 ≤ 281474976710656 then ((pairs_Resolve.f k2 (List.replicate 65537 0) (List.replicate 65537 0) (List.replicate 65537 0) 0 1).bind fun bt204 => (if 1 ≤ (t189.length : Int) then ((pairs_Resolve.f k2 y186 (t189.drop 1) t189 0 1).bind fun bt212 => ((pairs_Resolve.f k2 y186 t189 ([] : List Int) 0 1).bind fun bt216 => ((sPR.f k2 y186 y192 t189 0 1).bind fun t220 => (if t220 = true then ((sPR.f k2 y186 y192 y192 1 1).bind fun t221 => (if t221 = true then ((sPN.f k2 y186 y192 t189 0 2).bind fun t222 => (if t222 = true then (if bt204.2 = 3 then (if bt212.2 = 2 then (if t132 = true then (if t148 = true then (if t185 = true then (if bt216.2 = 2 then ((swk.f k2).bind fun t223 => (some t223)) else (none)) else (none)) else (none)) else (none)) else (none)) else (none)) else (none))) else (none))) else (none))))) else (none))) else (none)) else (none)))))) else (none))) else (none))) else (none)) = some r := by first | (rw [hy161]; with_reducible exact H) | (have H2_ := (Option.bind_some _ _).symm.trans H; rw [hy161]; with_reducible exact H2_) | (have H2_ := (Option.bind_some _ _).symm.trans H; with_reducible exact H2_) | with_reducible exact H | (rw [hy161]; exact H) | exact H
       have Ny161 := Aside0.mk hy161
       clear hy161
       have c82b0 := eq_true (of_decide_eq_true (by first | (with_reducible assumption) | assumption) : 7 ≤ 133)
       by_cases c83 : 133 ≤ (t155.length : Int)
       rotate_left
       ·rw [if_neg c83] at H
        exact absurd H (by simp)
       rw [if_pos c83] at H
       have c83b0 := eq_true c83
       have c83b1 : decide (133 ≤ (t155.length : Int)) = true := decide_eq_true c83
       clear c83
       obtain ⟨y165, hy165⟩ : ∃ y_ : List Int, y_ = ((t155.take 133).drop 7) := ⟨_, rfl⟩
       replace H : ((pairs_Pairs.f k2 y161 y165).bind fun t169 => (if (t169.length : Int) = 63 then ((sPR.f k2 x6_2 t155 t155 0 1).bind fun t172 => (if t172 = true then ((sPN.f k2 ((x6_2.take 133).drop 7) ((t155.take 133).drop 7) ((t155.take 133).drop 7) 1 1).bind fun t185 => ((some (([40, 120, 41, 40, 40, 121, 41, 41] : List Int) : List Int)).bind fun y186 => ((scl.f k2 y186).bind fun t189 => ((some (([14, 1, 14, 9, 9, 14, 9, 10] : List Int) : List Int)).bind fun y192 => (if 65537 ≤ 70368744177664 then (if 65537 ≤ 281474976710656 then ((pairs_Resolve.f k2 (List.replicate 65537 0) (List.replicate 65537 0) (List.replicate 65537 0) 0 1).bind fun bt204 => (if 1 ≤ (t189.length : Int) then ((pairs_Resolve.f k2 y186 (t189.drop 1) t189 0 1).bind fun bt212 => ((pairs_Resolve.f k2 y186 t189 ([] : List Int) 0 1).bind fun bt216 => ((sPR.f k2 y186 y192 t189 0 1).bind fun t220 => (if t220 = true then ((sPR.f k2 y186 y192 y192 1 1).bind fun t221 => (if t221 = true then ((sPN.f k2 y186 y192 t189 0 2).bind fun t222 => (if t222 = true then (if bt204.2 = 3 then (if bt212.2 = 2 then (if t132 = true then (if t148 = true then (if t185 = true then (if bt216.2 = 2 then ((swk.f k2).bind fun t223 => (some t223)) else (none)) else (none)) else (none)) else (none)) else (none)) else (none)) else (none))) else (none))) else (none))))) else (none))) else (none)) else (none)))))) else (none))) else (none))) = some r := by first | (rw [hy165]; with_reducible exact H) | (have H2_ := (Option.bind_some _ _).symm.trans H; rw [hy165]; with_reducible exact H2_) | (have H2_ := (Option.bind_some _ _).symm.trans H; with_reducible exact H2_) | with_reducible exact H | (rw [hy165]; exact H) | exact H
       have Ny165 := Aside0.mk hy165
       clear hy165
       replace H := Option.bind_eq_some_iff.mp H
       obtain ⟨t169, A840, H⟩ := H
       have A84 := Aside0.mk A840
       clear A840
       by_cases c85 : (t169.length : Int) = 63
       rotate_left
       ·rw [if_neg c85] at H
        exact absurd H (by simp)
       rw [if_pos c85] at H
       have c85b0 : ((t169.length : Int) == 63) = true := beq_iff_eq.mpr c85
       have c85b1 : ((t169.length : Int) != 63) = false := bne_eq_false_iff_eq.mpr c85
       clear c85
       replace H := Option.bind_eq_some_iff.mp H
       obtain ⟨t172, A860, H⟩ := H
       have A86 := Aside0.mk A860
       clear A860
       by_cases c87 : t172 = true
       rotate_left
       ·rw [if_neg c87] at H; exact absurd H (by simp)
       subst c87
       rw [if_pos rfl] at H
       have c88b0 := eq_true (of_decide_eq_true (by first | (with_reducible assumption) | assumption) : 7 ≤ 133)
       have c89b0 := eq_true (of_decide_eq_true (by first | (with_reducible assumption) | assumption) : 133 ≤ (x6_2.length : Int))
       obtain ⟨y173, hy173⟩ : ∃ y_ : List Int, y_ = ((x6_2.take 133).drop 7) := ⟨_, rfl⟩
       replace H : ((sPN.f k2 y173 ((t155.take 133).drop 7) ((t155.take 133).drop 7) 1 1).bind fun t185 => ((some (([40, 120, 41, 40, 40, 121, 41, 41] : List Int) : List Int)).bind fun y186 => ((scl.f k2 y186).bind fun t189 => ((some (([14, 1, 14, 9, 9, 14, 9, 10] : List Int) : List Int)).bind fun y192 => (if 65537 ≤ 70368744177664 then (if 65537 ≤ 281474976710656 then ((pairs_Resolve.f k2 (List.replicate 65537 0) (List.replicate 65537 0) (List.replicate 65537 0) 0 1).bind fun bt204 => (if 1 ≤ (t189.length : Int) then ((pairs_Resolve.f k2 y186 (t189.drop 1) t189 0 1).bind fun bt212 => ((pairs_Resolve.f k2 y186 t189 ([] : List Int) 0 1).bind fun bt216 => ((sPR.f k2 y186 y192 t189 0 1).bind fun t220 => (if t220 = true then ((sPR.f k2 y186 y192 y192 1 1).bind fun t221 => (if t221 = true then ((sPN.f k2 y186 y192 t189 0 2).bind fun t222 => (if t222 = true then (if bt204.2 = 3 then (if bt212.2 = 2 then (if t132 = true then (if t148 = true then (if t185 = true then (if bt216.2 = 2 then ((swk.f k2).bind fun t223 => (some t223)) else (none)) else (none)) else (none)) else (none)) else (none)) else (none)) else (none))) else (none))) else (none))))) else (none))) else (none)) else (none)))))) = some r := by first | (rw [hy173]; with_reducible exact H) | (have H2_ := (Option.bind_some _ _).symm.trans H; rw [hy173]; with_reducible exact H2_) | (have H2_ := (Option.bind_some _ _).symm.trans H; with_reducible exact H2_) | with_reducible exact H | (rw [hy173]; exact H) | exact H
       have Ny173 := Aside0.mk hy173
       clear hy173
       have c90b0 := eq_true (of_decide_eq_true (by first | (with_reducible assumption) | assumption) : 7 ≤ 133)
       have c91b0 := eq_true (of_decide_eq_true (by first | (with_reducible assumption) | assumption) : 133 ≤ (t155.length : Int))
       obtain ⟨y177, hy177⟩ : ∃ y_ : List Int, y_ = ((t155.take 133).drop 7) := ⟨_, rfl⟩
       replace H : ((sPN.f k2 y173 y177 ((t155.take 133).drop 7) 1 1).bind fun t185 => ((some (([40, 120, 41, 40, 40, 121, 41, 41] : List Int) : List Int)).bind fun y186 => ((scl.f k2 y186).bind fun t189 => ((some (([14, 1, 14, 9, 9, 14, 9, 10] : List Int) : List Int)).bind fun y192 => (if 65537 ≤ 70368744177664 then (if 65537 ≤ 281474976710656 then ((pairs_Resolve.f k2 (List.replicate 65537 0) (List.replicate 65537 0) (List.replicate 65537 0) 0 1).bind fun bt204 => (if 1 ≤ (t189.length : Int) then ((pairs_Resolve.f k2 y186 (t189.drop 1) t189 0 1).bind fun bt212 => ((pairs_Resolve.f k2 y186 t189 ([] : List Int) 0 1).bind fun bt216 => ((sPR.f k2 y186 y192 t189 0 1).bind fun t220 => (if t220 = true then ((sPR.f k2 y186 y192 y192 1 1).bind fun t221 => (if t221 = true then ((sPN.f k2 y186 y192 t189 0 2).bind fun t222 => (if t222 = true then (if bt204.2 = 3 then (if bt212.2 = 2 then (if t132 = true then (if t148 = true then (if t185 = true then (if bt216.2 = 2 then ((swk.f k2).bind fun t223 => (some t223)) else (none)) else (none)) else (none)) else (none)) else (none)) else (none)) else (none))) else (none))) else (none))))) else (none))) else (none)) else (none)))))) = some r := by first | (rw [hy177]; with_reducible exact H) | (have H2_ := (Option.bind_some _ _).symm.trans H; rw [hy177]; with_reducible exact H2_) | (have H2_ := (Option.bind_some _ _).symm.trans H; with_reducible exact H2_) | with_reducible exact H | (rw [hy177]; exact H) | exact H
       have Ny177 := Aside0.mk hy177
       clear hy177
       have c92b0 := eq_true (of_decide_eq_true (by first | (with_reducible assumption) | assumption) : 7 ≤ 133)
       have c93b0 := eq_true (of_decide_eq_true (by first | (with_reducible assumption) | assumption) : 133 ≤ (t155.length : Int))
       obtain ⟨y181, hy181⟩ : ∃ y_ : List Int, y_ = ((t155.take 133).drop 7) := ⟨_, rfl⟩
       replace H : ((sPN.f k2 y173 y177 y181 1 1).bind fun t185 => ((some (([40, 120, 41, 40, 40, 121, 41, 41] : List Int) : List Int)).bind fun y186 => ((scl.f k2 y186).bind fun t189 => ((some (([14, 1, 14, 9, 9, 14, 9, 10] : List Int) : List Int)).bind fun y192 => (if 65537 ≤ 70368744177664 then (if 65537 ≤ 281474976710656 then ((pairs_Resolve.f k2 (List.replicate 65537 0) (List.replicate 65537 0) (List.replicate 65537 0) 0 1).bind fun bt204 => (if 1 ≤ (t189.length : Int) then ((pairs_Resolve.f k2 y186 (t189.drop 1) t189 0 1).bind fun bt212 => ((pairs_Resolve.f k2 y186 t189 ([] : List Int) 0 1).bind fun bt216 => ((sPR.f k2 y186 y192 t189 0 1).bind fun t220 => (if t220 = true then ((sPR.f k2 y186 y192 y192 1 1).bind fun t221 => (if t221 = true then ((sPN.f k2 y186 y192 t189 0 2).bind fun t222 => (if t222 = true then (if bt204.2 = 3 then (if bt212.2 = 2 then (if t132 = true then (if t148 = true then (if t185 = true then (if bt216.2 = 2 then ((swk.f k2).bind fun t223 => (some t223)) else (none)) else (none)) else (none)) else (none)) else (none)) else (none)) else (none))) else (none))) else (none))))) else (none))) else (none)) else (none)))))) = some r := by first | (rw [hy181]; with_reducible exact H) | (have H2_ := (Option.bind_some _ _).symm.trans H; rw [hy181]; with_reducible exact H2_) | (have H2_ := (Option.bind_some _ _).symm.trans H; with_reducible exact H2_) | with_reducible exact H | (rw [hy181]; exact H) | exact H
       have Ny181 := Aside0.mk hy181
       clear hy181
       replace H := Option.bind_eq_some_iff.mp H
       obtain ⟨t185, A940, H⟩ := H
       have A94 := Aside0.mk A940
       clear A940
       obtain ⟨y186, hy186⟩ : ∃ y_ : List Int, y_ = (([40, 120, 41, 40, 40, 121, 41, 41] : List Int)) := ⟨_, rfl⟩
       replace H : ((scl.f k2 y186).bind fun t189 => ((some (([14, 1, 14, 9, 9, 14, 9, 10] : List Int) : List Int)).bind fun y192 => (if 65537 ≤ 70368744177664 then (if 65537 ≤ 281474976710656 then ((pairs_Resolve.f k2 (List.replicate 65537 0) (List.replicate 65537 0) (List.replicate 65537 0) 0 1).bind fun bt204 => (if 1 ≤ (t189.length : Int) then ((pairs_Resolve.f k2 y186 (t189.drop 1) t189 0 1).bind fun bt212 => ((pairs_Resolve.f k2 y186 t189 ([] : List Int) 0 1).bind fun bt216 => ((sPR.f k2 y186 y192 t189 0 1).bind fun t220 => (if t220 = true then ((sPR.f k2 y186 y192 y192 1 1).bind fun t221 => (if t221 = true then ((sPN.f k2 y186 y192 t189 0 2).bind fun t222 => (if t222 = true then (if bt204.2 = 3 then (if bt212.2 = 2 then (if t132 = true then (if t148 = true then (if t185 = true then (if bt216.2 = 2 then ((swk.f k2).bind fun t223 => (some t223)) else (none)) else (none)) else (none)) else (none)) else (none)) else (none)) else (none))) else (none))) else (none))))) else (none))) else (none)) else (none)))) = some r := by first | (rw [hy186]; with_reducible exact H) | (have H2_ := (Option.bind_some _ _).symm.trans H; rw [hy186]; with_reducible exact H2_) | (have H2_ := (Option.bind_some _ _).symm.trans H; with_reducible exact H2_) | with_reducible exact H | (rw [hy186]; exact H) | exact H
       have Ny186 := Aside0.mk hy186
       clear hy186
       replace H := Option.bind_eq_some_iff.mp H
       obtain ⟨t189, A950, H⟩ := H
       have A95 := Aside0.mk A950
       clear A950
       obtain ⟨y192, hy192⟩ : ∃ y_ : List Int, y_ = (([14, 1, 14, 9, 9, 14, 9, 10] : List Int)) := ⟨_, rfl⟩
       replace H : (if 65537 ≤ 70368744177664 then (if 65537 ≤ 281474976710656 then ((pairs_Resolve.f k2 (List.replicate 65537 0) (List.replicate 65537 0) (List.replicate 65537 0) 0 1).bind fun bt204 => (if 1 ≤ (t189.length : Int) then ((pairs_Resolve.f k2 y186 (t189.drop 1) t189 0 1).bind fun bt212 => ((pairs_Resolve.f k2 y186 t189 ([] : List Int) 0 1).bind fun bt216 => ((sPR.f k2 y186 y192 t189 0 1).bind fun t220 => (if t220 = true then ((sPR.f k2 y186 y192 y192 1 1).bind fun t221 => (if t221 = true then ((sPN.f k2 y186 y192 t189 0 2).bind fun t222 => (if t222 = true then (if bt204.2 = 3 then (if bt212.2 = 2 then (if t132 = true then (if t148 = true then (if t185 = true then (if bt216.2 = 2 then ((swk.f k2).bind fun t223 => (some t223)) else (none)) else (none)) else (none)) else (none)) else (none)) else (none)) else (none))) else (none))) else (none))))) else (none))) else (none)) else (none)) = some r := by first | (rw [hy192]; with_reducible exact H) | (have H2_ := (Option.bind_some _ _).symm.trans H; rw [hy192]; with_reducible exact H2_) | (have H2_ := (Option.bind_some _ _).symm.trans H; with_reducible exact H2_) | with_reducible exact H | (rw [hy192]; exact H) | exact H
       have Ny192 := Aside0.mk hy192
       clear hy192
       by_cases c96 : 65537 ≤ 70368744177664
       rotate_left
       ·rw [if_neg c96] at H
        exact absurd H (by simp)
       rw [if_pos c96] at H
       have c96b0 := eq_true c96
       have c96b1 : decide (65537 ≤ 70368744177664) = true := decide_eq_true c96
       clear c96
       obtain ⟨y195, hy195⟩ : ∃ y_ : List Int, y_ = (List.replicate 65537 0) := ⟨_, rfl⟩
       replace H : (if 65537 ≤ 281474976710656 then ((pairs_Resolve.f k2 y195 (List.replicate 65537 0) (List.replicate 65537 0) 0 1).bind fun bt204 => (if 1 ≤ (t189.length : Int) then ((pairs_Resolve.f k2 y186 (t189.drop 1) t189 0 1).bind fun bt212 => ((pairs_Resolve.f k2 y186 t189 ([] : List Int) 0 1).bind fun bt216 => ((sPR.f k2 y186 y192 t189 0 1).bind fun t220 => (if t220 = true then ((sPR.f k2 y186 y192 y192 1 1).bind fun t221 => (if t221 = true then ((sPN.f k2 y186 y192 t189 0 2).bind fun t222 => (if t222 = true then (if bt204.2 = 3 then (if bt212.2 = 2 then (if t132 = true then (if t148 = true then (if t185 = true then (if bt216.2 = 2 then ((swk.f k2).bind fun t223 => (some t223)) else (none)) else (none)) else (none)) else (none)) else (none)) else (none)) else (none))) else (none))) else (none))))) else (none))) else (none)) = some r := by first | (rw [hy195]; with_reducible exact H) | (have H2_ := (Option.bind_some _ _).symm.trans H; rw [hy195]; with_reducible exact H2_) | (have H2_ := (Option.bind_some _ _).symm.trans H; with_reducible exact H2_) | with_reducible exact H | (rw [hy195]; exact H) | exact H
       have Ny195 := Aside0.mk hy195
       clear hy195
       by_cases c97 : 65537 ≤ 281474976710656
       rotate_left
       ·rw [if_neg c97] at H
        exact absurd H (by simp)
       rw [if_pos c97] at H
       have c97b0 := eq_true c97
       have c97b1 : decide (65537 ≤ 281474976710656) = true := decide_eq_true c97
       clear c97
       obtain ⟨y198, hy198⟩ : ∃ y_ : List Int, y_ = (List.replicate 65537 0) := ⟨_, rfl⟩
       replace H : ((pairs_Resolve.f k2 y195 y198 (List.replicate 65537 0) 0 1).bind fun bt204 => (if 1 ≤ (t189.length : Int) then ((pairs_Resolve.f k2 y186 (t189.drop 1) t189 0 1).bind fun bt212 => ((pairs_Resolve.f k2 y186 t189 ([] : List Int) 0 1).bind fun bt216 => ((sPR.f k2 y186 y192 t189 0 1).bind fun t220 => (if t220 = true then ((sPR.f k2 y186 y192 y192 1 1).bind fun t221 => (if t221 = true then ((sPN.f k2 y186 y192 t189 0 2).bind fun t222 => (if t222 = true then (if bt204.2 = 3 then (if bt212.2 = 2 then (if t132 = true then (if t148 = true then (if t185 = true then (if bt216.2 = 2 then ((swk.f k2).bind fun t223 => (some t223)) else (none)) else (none)) else (none)) else (none)) else (none)) else (none)) else (none))) else (none))) else (none))))) else (none))) = some r := by first | (rw [hy198]; with_reducible exact H) | (have H2_ := (Option.bind_some _ _).symm.trans H; rw [hy198]; with_reducible exact H2_) | (have H2_ := (Option.bind_some _ _).symm.trans H; with_reducible exact H2_) | with_reducible exact H | (rw [hy198]; exact H) | exact H
       have Ny198 := Aside0.mk hy198
       clear hy198
       obtain ⟨y201, hy201⟩ : ∃ y_ : List Int, y_ = (List.replicate 65537 0) := ⟨_, rfl⟩
       replace H : ((pairs_Resolve.f k2 y195 y198 y201 0 1).bind fun bt204 => (if 1 ≤ (t189.length : Int) then ((pairs_Resolve.f k2 y186 (t189.drop 1) t189 0 1).bind fun bt212 => ((pairs_Resolve.f k2 y186 t189 ([] : List Int) 0 1).bind fun bt216 => ((sPR.f k2 y186 y192 t189 0 1).bind fun t220 => (if t220 = true then ((sPR.f k2 y186 y192 y192 1 1).bind fun t221 => (if t221 = true then ((sPN.f k2 y186 y192 t189 0 2).bind fun t222 => (if t222 = true then (if bt204.2 = 3 then (if bt212.2 = 2 then (if t132 = true then (if t148 = true then (if t185 = true then (if bt216.2 = 2 then ((swk.f k2).bind fun t223 => (some t223)) else (none)) else (none)) else (none)) else (none)) else (none)) else (none)) else (none))) else (none))) else (none))))) else (none))) = some r := by first | (rw [hy201]; with_reducible exact H) | (have H2_ := (Option.bind_some _ _).symm.trans H; rw [hy201]; with_reducible exact H2_) | (have H2_ := (Option.bind_some _ _).symm.trans H; with_reducible exact H2_) | with_reducible exact H | (rw [hy201]; exact H) | exact H
       have Ny201 := Aside0.mk hy201
       clear hy201
       replace H := Option.bind_eq_some_iff.mp H
       obtain ⟨⟨t204, t205⟩, A980, H⟩ := H
       replace H : (if 1 ≤ (t189.length : Int) then ((pairs_Resolve.f k2 y186 (t189.drop 1) t189 0 1).bind fun bt212 => ((pairs_Resolve.f k2 y186 t189 ([] : List Int) 0 1).bind fun bt216 => ((sPR.f k2 y186 y192 t189 0 1).bind fun t220 => (if t220 = true then ((sPR.f k2 y186 y192 y192 1 1).bind fun t221 => (if t221 = true then ((sPN.f k2 y186 y192 t189 0 2).bind fun t222 => (if t222 = true then (if t205 = 3 then (if bt212.2 = 2 then (if t132 = true then (if t148 = true then (if t185 = true then (if bt216.2 = 2 then ((swk.f k2).bind fun t223 => (some t223)) else (none)) else (none)) else (none)) else (none)) else (none)) else (none)) else (none))) else (none))) else (none))))) else (none)) = some r := H
       have A98 := Aside0.mk A980
       clear A980
       by_cases c99 : 1 ≤ (t189.length : Int)
       rotate_left
       ·rw [if_neg c99] at H
        exact absurd H (by simp)
       rw [if_pos c99] at H
       have c99b0 := eq_true c99
       have c99b1 : decide (1 ≤ (t189.length : Int)) = true := decide_eq_true c99
       clear c99
       obtain ⟨y208, hy208⟩ : ∃ y_ : List Int, y_ = (t189.drop 1) := ⟨_, rfl⟩
       replace H : ((pairs_Resolve.f k2 y186 y208 t189 0 1).bind fun bt212 => ((pairs_Resolve.f k2 y186 t189 ([] : List Int) 0 1).bind fun bt216 => ((sPR.f k2 y186 y192 t189 0 1).bind fun t220 => (if t220 = true then ((sPR.f k2 y186 y192 y192 1 1).bind fun t221 => (if t221 = true then ((sPN.f k2 y186 y192 t189 0 2).bind fun t222 => (if t222 = true then (if t205 = 3 then (if bt212.2 = 2 then (if t132 = true then (if t148 = true then (if t185 = true then (if bt216.2 = 2 then ((swk.f k2).bind fun t223 => (some t223)) else (none)) else (none)) else (none)) else (none)) else (none)) else (none)) else (none))) else (none))) else (none))))) = some r := by first | (rw [hy208]; with_reducible exact H) | (have H2_ := (Option.bind_some _ _).symm.trans H; rw [hy208]; with_reducible exact H2_) | (have H2_ := (Option.bind_some _ _).symm.trans H; with_reducible exact H2_) | with_reducible exact H | (rw [hy208]; exact H) | exact H
       have Ny208 := Aside0.mk hy208
       clear hy208
       replace H := Option.bind_eq_some_iff.mp H
       obtain ⟨⟨t212, t213⟩, A1000, H⟩ := H
       replace H : ((pairs_Resolve.f k2 y186 t189 ([] : List Int) 0 1).bind fun bt216 => ((sPR.f k2 y186 y192 t189 0 1).bind fun t220 => (if t220 = true then ((sPR.f k2 y186 y192 y192 1 1).bind fun t221 => (if t221 = true then ((sPN.f k2 y186 y192 t189 0 2).bind fun t222 => (if t222 = true then (if t205 = 3 then (if t213 = 2 then (if t132 = true then (if t148 = true then (if t185 = true then (if bt216.2 = 2 then ((swk.f k2).bind fun t223 => (some t223)) else (none)) else (none)) else (none)) else (none)) else (none)) else (none)) else (none))) else (none))) else (none)))) = some r := H
       have A100 := Aside0.mk A1000
       clear A1000
       replace H := Option.bind_eq_some_iff.mp H
       obtain ⟨⟨t216, t217⟩, A1010, H⟩ := H
       replace H : ((sPR.f k2 y186 y192 t189 0 1).bind fun t220 => (if t220 = true then ((sPR.f k2 y186 y192 y192 1 1).bind fun t221 => (if t221 = true then ((sPN.f k2 y186 y192 t189 0 2).bind fun t222 => (if t222 = true then (if t205 = 3 then (if t213 = 2 then (if t132 = true then (if t148 = true then (if t185 = true then (if t217 = 2 then ((swk.f k2).bind fun t223 => (some t223)) else (none)) else (none)) else (none)) else (none)) else (none)) else (none)) else (none))) else (none))) else (none))) = some r := H
       have A101 := Aside0.mk A1010
       clear A1010
       replace H := Option.bind_eq_some_iff.mp H
       obtain ⟨t220, A1020, H⟩ := H
       have A102 := Aside0.mk A1020
       clear A1020
       by_cases c103 : t220 = true
       rotate_left
       ·rw [if_neg c103] at H; exact absurd H (by simp)
       subst c103
       rw [if_pos rfl] at H
       replace H := Option.bind_eq_some_iff.mp H
       obtain ⟨t221, A1040, H⟩ := H
       have A104 := Aside0.mk A1040
       clear A1040
       by_cases c105 : t221 = true
       rotate_left
       ·rw [if_neg c105] at H; exact absurd H (by simp)
       subst c105
       rw [if_pos rfl] at H
       replace H := Option.bind_eq_some_iff.mp H
       obtain ⟨t222, A1060, H⟩ := H
       have A106 := Aside0.mk A1060
       clear A1060
       by_cases c107 : t222 = true
       rotate_left
       ·rw [if_neg c107] at H; exact absurd H (by simp)
       subst c107
       rw [if_pos rfl] at H
       by_cases c108 : t205 = 3
       rotate_left
       ·rw [if_neg c108] at H
        exact absurd H (by simp)
       rw [if_pos c108] at H
       have c108b0 : (t205 == 3) = true := beq_iff_eq.mpr c108
       have c108b1 : (t205 != 3) = false := bne_eq_false_iff_eq.mpr c108
       clear c108
       by_cases c109 : t213 = 2
       rotate_left
       ·rw [if_neg c109] at H
        exact absurd H (by simp)
       rw [if_pos c109] at H
       have c109b0 : (t213 == 2) = true := beq_iff_eq.mpr c109
       have c109b1 : (t213 != 2) = false := bne_eq_false_iff_eq.mpr c109
       clear c109
       by_cases c110 : t132 = true
       rotate_left
       ·rw [if_neg c110] at H; exact absurd H (by simp)
       subst c110
       rw [if_pos rfl] at H
       by_cases c111 : t148 = true
       rotate_left
       ·rw [if_neg c111] at H; exact absurd H (by simp)
       subst c111
       rw [if_pos rfl] at H
       by_cases c112 : t185 = true
       rotate_left
       ·rw [if_neg c112] at H; exact absurd H (by simp)
       subst c112
       rw [if_pos rfl] at H
       by_cases c113 : t217 = 2
       rotate_left
       ·rw [if_neg c113] at H
        exact absurd H (by simp)
       rw [if_pos c113] at H
       have c113b0 : (t217 == 2) = true := beq_iff_eq.mpr c113
       have c113b1 : (t217 != 2) = false := bne_eq_false_iff_eq.mpr c113
       clear c113
       replace H := Option.bind_eq_some_iff.mp H
       obtain ⟨t223, A1140, H⟩ := H
       replace H : (some t223) = some r := H
       have A114 := Aside0.mk A1140
       clear A1140
       obtain rfl := Option.some.inj H
       obtain ⟨Ao115, co115, eo115⟩ := Kd.R_slice HO_6.out
       subst eo115
       try go_wp2_with (first | ((with_reducible refine gate_callee (f := 17) rfl ?_); refine goesL_ (some 130) rfl rfl Tryd.func17 (by kernel_rfl) rfl #[.slice Ao115 x6_2.length co115] rfl (by (try simp only [List.map_toArray, List.map_cons, List.map_nil]); first | done | rfl | (simp only [List.length_drop, List.length_take]; rfl)) ?_; (with_reducible refine (scl.calls k2 _ _ x6_2 t155 _ ?side1 ?side2 A77.out).mono ?_); (case side1 => repeat (first | exact (Kd.R_reads' HO_6.out).2.2 | (with_reducible refine Kd.C_alloc ?_ _) | (with_reducible refine Kd.C_drewN ?_ _) | (with_reducible refine Kd.C_drew ?_))); (case side2 => exact (Kd.R_reads' HO_6.out).2.1); rintro e w116 ⟨v156, rfl, ho0, hb⟩; refine ⟨_, rfl, ?_⟩; have n0_ := Aside0.mk (Kd.R_below (by (with_reducible repeat (first | apply Kd.R_alloc | apply Kd.R_drewN | apply Kd.R_drew)); exact HO_6.out) hb); have n1_ := Aside0.mk (Kd.R_lower ho0 (below_size (by repeat (first | (with_reducible first | exact HB.out | apply below_alloc | apply pw_below_drewN | apply below_drew1) | exact HB.out)))); have n2_ := Aside0.mk (below_step (by repeat (first | (with_reducible first | exact HB.out | apply below_alloc | apply pw_below_drewN | apply below_drew1) | exact HB.out)) hb); clear HO_6; clear HB; have HO_6 := n0_; have HO157 := n1_; have HB := n2_; clear n0_ n1_ n2_; (try clear hb); (try clear hb2); (try clear hk); (try clear hi); (try clear ho0)))
       have n0_ := Aside0.mk (Kd.R_drew HO_6.out)
       have n1_ := Aside0.mk (Kd.R_drew HO157.out)
       have n2_ := Aside0.mk (below_drew1 HB.out)
       clear HO_6
       clear HO157
       clear HB
       have HO_6 := n0_
       have HO157 := n1_
       have HB := n2_
       clear n0_ n1_ n2_
       obtain ⟨Ao118, co118, eo118⟩ := Kd.R_slice HO157.out
       (first | subst eo118 | (injection eo118 with f1_ f2_ f3_; have f4_ := f1_.symm; have f5_ := f3_.symm; clear f1_ f2_ f3_; subst f4_; subst f5_))
       refine start_ (n := 30) (S := fun w' => True) (ds := []) #[F_,F_,F_,F_,F_,F_,F_,F_,F_,F_,F_,F_,F_,F_,F_,F_,F_,F_,F_,F_,F_,F_,F_,F_,F_,F_,F_,F_,F_,F_] (by kernel_rfl) rfl rfl trivial (fun hHeld => ?_); refine with_tabW sPK.tab15 sPK.bits15 (fun HT_ HW_ => ?_)
       generalize w116.drew = w117 at HO_6 HO157 HB hHeld ⊢
       refine pure_ (i := 0) (N := some 131) (v := ?_) (a' := ?_) #[T_,F_,F_,F_,F_,F_,F_,F_,F_,F_,F_,F_,F_,F_,F_,F_,F_,F_,F_,F_,F_,F_,F_,F_,F_,F_,F_,F_,F_,F_] rfl rfl (any_of HT_.out (by kernel_rfl)) (fun _ _ _ h => h) (Or.inl ⟨by rfl, ?_⟩) ?_ ?_
       rotate_left
       ·intro w'
        go_simp
        with_reducible rfl
       rotate_left
       ·simp only [Act.put, List.setIfInBounds_toArray, List.set_cons_zero, List.set_cons_succ, i64_w, i32_w]
        rfl
       refine pure_ (i := 1) (N := some 132) (v := ?_) (a' := ?_) #[T_,T_,F_,F_,F_,F_,F_,F_,F_,F_,F_,F_,F_,F_,F_,F_,F_,F_,F_,F_,F_,F_,F_,F_,F_,F_,F_,F_,F_,F_] rfl rfl (any_of HT_.out (by kernel_rfl)) (fun _ _ _ h => h) (Or.inl ⟨by rfl, ?_⟩) ?_ ?_
       rotate_left
       ·intro w'
        go_simp
        with_reducible rfl
       rotate_left
       ·simp only [Act.put, List.setIfInBounds_toArray, List.set_cons_zero, List.set_cons_succ, i64_w, i32_w]
        rfl
       refine one_ (i := 2) (N := some 133) #[T_,T_,T_,F_,F_,F_,F_,F_,F_,F_,F_,F_,F_,F_,F_,F_,F_,F_,F_,F_,F_,F_,F_,F_,F_,F_,F_,F_,F_,F_] rfl rfl (one_of HT_.out (by kernel_rfl)) (by decide) (fun K hK => ?_)
       refine goes_ Tryd.func9 (by kernel_rfl) rfl #[.slice Ao115 x6_2.length co115, .slice Ao118 t155.length co118] (by rfl) rfl rfl (by (try simp only [List.map_toArray, List.map_cons, List.map_nil]); first | done | rfl | (simp only [List.length_drop, List.length_take]; rfl)) ?_
       with_reducible refine (pairs_Pairs.calls k2 _ _ x6_2 _ _ t155 t158 _ ?side1 ?side2 ?side3 ?side4 ?side5 A78.out).mono ?_
       (case side1 => repeat (first | exact (Kd.R_reads' HO_6.out).2.2 | (with_reducible refine Kd.C_alloc ?_ _) | (with_reducible refine Kd.C_drewN ?_ _) | (with_reducible refine Kd.C_drew ?_)))
       (case side2 => exact (Kd.R_reads' HO_6.out).2.1)
       (case side3 => repeat (first | exact (Kd.R_reads' HO157.out).2.2 | (with_reducible refine Kd.C_alloc ?_ _) | (with_reducible refine Kd.C_drewN ?_ _) | (with_reducible refine Kd.C_drew ?_)))
       (case side4 => exact (Kd.R_reads' HO157.out).2.1)
       (case side5 => exact GW_below hG (by repeat (first | (with_reducible first | exact HB.out | apply below_alloc | apply pw_below_drewN | apply below_drew1) | exact HB.out)))
       rintro e w119 ⟨v159, rfl, ho0, hb⟩
       refine ⟨_, rfl, ?_⟩
       have n0_ := Aside0.mk (Kd.R_below (by (with_reducible repeat (first | apply Kd.R_alloc | apply Kd.R_drewN | apply Kd.R_drew)); exact HO_6.out) hb)
       have n1_ := Aside0.mk (Kd.R_below (by (with_reducible repeat (first | apply Kd.R_alloc | apply Kd.R_drewN | apply Kd.R_drew)); exact HO157.out) hb)
       have n2_ := Aside0.mk (Kd.R_lower ho0 (below_size (by repeat (first | (with_reducible first | exact HB.out | apply below_alloc | apply pw_below_drewN | apply below_drew1) | exact HB.out))))
       have n3_ := Aside0.mk (below_step (by repeat (first | (with_reducible first | exact HB.out | apply below_alloc | apply pw_below_drewN | apply below_drew1) | exact HB.out)) hb)
       clear HO_6
       clear HO157
       clear HB
       have HO_6 := n0_
       have HO157 := n1_
       have HO160 := n2_
       have HB := n3_
       clear n0_ n1_ n2_ n3_
       (try clear hb)
       (try clear hb2)
       (try clear hk)
       (try clear hi)
       (try clear ho0)
       obtain ⟨Ao120, co120, eo120⟩ := Kd.R_slice HO160.out
       (first | subst eo120 | (injection eo120 with f1_ f2_ f3_; have f4_ := f1_.symm; have f5_ := f3_.symm; clear f1_ f2_ f3_; subst f4_; subst f5_))
       have q121 : (133 : Int) ≤ ((x6_2.length : Int) : Int) := of_decide_eq_true (by first | (with_reducible assumption) | assumption)
       obtain ⟨i0121, hi0121, _, hsz121, _⟩ := info_parts info21
       have hroom121 : x6_2.length ≤ co115 := (Kd.R_reads' HO_6.out).2.1
       have hC121 : Kd.C (Kd.int .i32) _ Ao115 x6_2.length x6_2 := (Kd.R_reads' HO_6.out).2.2
       have ql121 : (7 : Int) ≤ (133 : Int) := (by omega)
       have hcut121 := cut_mid (P := Tryd.prog) 22 21 .i64 .i64 Tryd.underlying22 hi0121 1 hsz121 Ao115 x6_2.length co115 7 133 (by omega) ql121 q121 hroom121
       have hr121 := Kd.C_mid (lo := (7 : Int).toNat) (hi := (133 : Int).toNat) (c := co115) hC121 (by omega) (by omega) hroom121
       obtain ⟨A121, hA121⟩ : ∃ A1, A1 = (if co115 = (7 : Int).toNat then Ao115 else (Ao115 : Option Addr).map (·.add ((7 : Int).toNat * 1))) := ⟨_, rfl⟩
       obtain ⟨c121, hc121⟩ : ∃ c1, c1 = co115 - (7 : Int).toNat := ⟨_, rfl⟩
       have hy121 : y161.length = (133 : Int).toNat - (7 : Int).toNat := (by rw [Ny161.out, List.length_drop, List.length_take] <;> omega)
       rw [show ((x6_2).take (133 : Int).toNat).drop (7 : Int).toNat = y161 from Ny161.out.symm] at hr121
       replace hr121 : Kd.C (Kd.int .i32) _ A121 y161.length y161 := (by rw [hA121]; exact hr121)
       rw [← hy121, ← hA121, ← hc121] at hcut121
       have HR164 := Aside0.mk hr121
       have HC164 := Aside0.mk (show y161.length ≤ c121 from by rw [hy121, hc121]; exact Nat.sub_le_sub_right (Nat.le_trans (by omega) hroom121) _)
       clear hr121 hC121 hroom121 hi0121 hsz121 hc121
       have KY121 := Aside0.mk hy121
       have KA121 := Aside0.mk hA121
       clear hy121 hA121
       have KL121 := Aside0.mk (show 133 ≤ x6_2.length from by omega)
       have KM121 := Aside0.mk (show 7 ≤ 133 from by omega)
       replace q121 := eq_true q121
       have q122 : (133 : Int) ≤ ((t155.length : Int) : Int) := of_decide_eq_true (by first | (with_reducible assumption) | assumption)
       obtain ⟨i0122, hi0122, _, hsz122, _⟩ := info_parts info33
       have hroom122 : t155.length ≤ co118 := (Kd.R_reads' HO157.out).2.1
       have hC122 : Kd.C (Kd.int .u8) _ Ao118 t155.length t155 := (Kd.R_reads' HO157.out).2.2
       have ql122 : (7 : Int) ≤ (133 : Int) := (by omega)
       have hcut122 := cut_mid (P := Tryd.prog) 23 33 .i64 .i64 Tryd.underlying23 hi0122 1 hsz122 Ao118 t155.length co118 7 133 (by omega) ql122 q122 hroom122
       have hr122 := Kd.C_mid (lo := (7 : Int).toNat) (hi := (133 : Int).toNat) (c := co118) hC122 (by omega) (by omega) hroom122
       obtain ⟨A122, hA122⟩ : ∃ A1, A1 = (if co118 = (7 : Int).toNat then Ao118 else (Ao118 : Option Addr).map (·.add ((7 : Int).toNat * 1))) := ⟨_, rfl⟩
       obtain ⟨c122, hc122⟩ : ∃ c1, c1 = co118 - (7 : Int).toNat := ⟨_, rfl⟩
       have hy122 : y165.length = (133 : Int).toNat - (7 : Int).toNat := (by rw [Ny165.out, List.length_drop, List.length_take] <;> omega)
       rw [show ((t155).take (133 : Int).toNat).drop (7 : Int).toNat = y165 from Ny165.out.symm] at hr122
       replace hr122 : Kd.C (Kd.int .u8) _ A122 y165.length y165 := (by rw [hA122]; exact hr122)
       rw [← hy122, ← hA122, ← hc122] at hcut122
       have HR168 := Aside0.mk hr122
       have HC168 := Aside0.mk (show y165.length ≤ c122 from by rw [hy122, hc122]; exact Nat.sub_le_sub_right (Nat.le_trans (by omega) hroom122) _)
       clear hr122 hC122 hroom122 hi0122 hsz122 hc122
       have KY122 := Aside0.mk hy122
       have KA122 := Aside0.mk hA122
       clear hy122 hA122
       have KL122 := Aside0.mk (show 133 ≤ t155.length from by omega)
       have KM122 := Aside0.mk (show 7 ≤ 133 from by omega)
       replace q122 := eq_true q122
       refine hK.out _ _ trivial (fun hHeld => ?_)
       clear hK K
       refine norm_ (a' := ?_) ?_ ?_
       rotate_left
       ·show Act.put _ (some 133) _ = _
        simp only [Act.put, List.setIfInBounds_toArray, List.set_cons_zero, List.set_cons_succ, i64_w, i32_w]
        rfl
       refine pure_ (i := 3) (N := some 134) (v := ?_) (a' := ?_) #[T_,T_,T_,T_,F_,F_,F_,F_,F_,F_,F_,F_,F_,F_,F_,F_,F_,F_,F_,F_,F_,F_,F_,F_,F_,F_,F_,F_,F_,F_] rfl rfl (any_of HT_.out (by kernel_rfl)) (fun _ _ _ h => h) (Or.inl ⟨by rfl, ?_⟩) ?_ ?_
       rotate_left
       ·intro w'
        go_simp
        with_reducible rfl
       rotate_left
       ·simp only [Act.put, List.setIfInBounds_toArray, List.set_cons_zero, List.set_cons_succ, i64_w, i32_w]
        rfl
       refine pure_ (i := 4) (N := some 135) (v := ?_) (a' := ?_) #[T_,T_,T_,T_,T_,F_,F_,F_,F_,F_,F_,F_,F_,F_,F_,F_,F_,F_,F_,F_,F_,F_,F_,F_,F_,F_,F_,F_,F_,F_] rfl rfl (any_of HT_.out (by kernel_rfl)) (fun _ _ _ h => h) (Or.inl ⟨by rfl, ?_⟩) ?_ ?_
       rotate_left
       ·intro w'
        go_simp
        with_reducible rfl
       rotate_left
       ·simp only [Act.put, List.setIfInBounds_toArray, List.set_cons_zero, List.set_cons_succ, i64_w, i32_w]
        rfl
       refine pure_ (i := 5) (N := some 136) (v := ?_) (a' := ?_) #[T_,T_,T_,T_,T_,T_,F_,F_,F_,F_,F_,F_,F_,F_,F_,F_,F_,F_,F_,F_,F_,F_,F_,F_,F_,F_,F_,F_,F_,F_] rfl rfl (any_of HT_.out (by kernel_rfl)) (fun _ _ _ h => h) (Or.inl ⟨by rfl, ?_⟩) ?_ ?_
       rotate_left
       ·intro w'
        go_simp
        with_reducible rfl
       rotate_left
       ·simp only [Act.put, List.setIfInBounds_toArray, List.set_cons_zero, List.set_cons_succ, i64_w, i32_w]
        rfl
       refine pure_ (i := 6) (N := some 137) (v := ?_) (a' := ?_) #[T_,T_,T_,T_,T_,T_,T_,F_,F_,F_,F_,F_,F_,F_,F_,F_,F_,F_,F_,F_,F_,F_,F_,F_,F_,F_,F_,F_,F_,F_] rfl rfl (any_of HT_.out (by kernel_rfl)) (fun _ _ _ h => h) (Or.inl ⟨by rfl, ?_⟩) ?_ ?_
       rotate_left
       ·intro w'
        go_simp
        with_reducible rfl
       rotate_left
       ·simp only [Act.put, List.setIfInBounds_toArray, List.set_cons_zero, List.set_cons_succ, i64_w, i32_w]
        rfl
       refine pure_ (i := 7) (N := some 138) (v := ?_) (a' := ?_) #[T_,T_,T_,T_,T_,T_,T_,T_,F_,F_,F_,F_,F_,F_,F_,F_,F_,F_,F_,F_,F_,F_,F_,F_,F_,F_,F_,F_,F_,F_] rfl rfl (any_of HT_.out (by kernel_rfl)) (fun _ _ _ h => h) (Or.inl ⟨by rfl, ?_⟩) ?_ ?_
       rotate_left
       ·intro w'
        go_simp
        with_reducible rfl
       rotate_left
       ·simp only [Act.put, List.setIfInBounds_toArray, List.set_cons_zero, List.set_cons_succ, i64_w, i32_w]
        rfl
       refine pure_ (i := 8) (N := some 139) (v := ?_) (a' := ?_) #[T_,T_,T_,T_,T_,T_,T_,T_,T_,F_,F_,F_,F_,F_,F_,F_,F_,F_,F_,F_,F_,F_,F_,F_,F_,F_,F_,F_,F_,F_] rfl rfl (any_of HT_.out (by kernel_rfl)) (fun _ _ _ h => h) (Or.inl ⟨by rfl, ?_⟩) ?_ ?_
       rotate_left
       ·intro w'
        go_simp
        with_reducible rfl
       rotate_left
       ·simp only [Act.put, List.setIfInBounds_toArray, List.set_cons_zero, List.set_cons_succ, i64_w, i32_w]
        rfl
       refine pure_ (i := 9) (N := some 140) (v := ?_) (a' := ?_) #[T_,T_,T_,T_,T_,T_,T_,T_,T_,T_,F_,F_,F_,F_,F_,F_,F_,F_,F_,F_,F_,F_,F_,F_,F_,F_,F_,F_,F_,F_] rfl rfl (any_of HT_.out (by kernel_rfl)) (fun _ _ _ h => h) (Or.inl ⟨by rfl, ?_⟩) ?_ ?_
       rotate_left
       ·intro w'
        go_simp
        with_reducible rfl
       rotate_left
       ·simp only [Act.put, List.setIfInBounds_toArray, List.set_cons_zero, List.set_cons_succ, i64_w, i32_w]
        rfl
       refine one_ (i := 10) (N := some 141) #[T_,T_,T_,T_,T_,T_,T_,T_,T_,T_,T_,F_,F_,F_,F_,F_,F_,F_,F_,F_,F_,F_,F_,F_,F_,F_,F_,F_,F_,F_] rfl rfl (one_of HT_.out (by kernel_rfl)) (by decide) (fun K hK => ?_)
       refine goes_ Tryd.func9 (by kernel_rfl) rfl #[.slice A121 y161.length c121, .slice A122 y165.length c122] (by rfl) rfl rfl (by (try simp only [List.map_toArray, List.map_cons, List.map_nil]); first | done | rfl | (simp only [List.length_drop, List.length_take]; rfl)) ?_
       with_reducible refine (pairs_Pairs.calls k2 _ _ y161 _ _ y165 t169 _ ?side1 ?side2 ?side3 ?side4 ?side5 A84.out).mono ?_
       (case side1 => repeat (first | exact (by repeat (first | (with_reducible exact HR164.out) | (with_reducible refine Kd.C_alloc ?_ _) | (with_reducible refine Kd.C_drewN ?_ _) | (with_reducible refine Kd.C_drew ?_) | exact HR164.out)) | (with_reducible refine Kd.C_alloc ?_ _) | (with_reducible refine Kd.C_drewN ?_ _) | (with_reducible refine Kd.C_drew ?_)))
       (case side2 => exact HC164.out)
       (case side3 => repeat (first | exact (by repeat (first | (with_reducible exact HR168.out) | (with_reducible refine Kd.C_alloc ?_ _) | (with_reducible refine Kd.C_drewN ?_ _) | (with_reducible refine Kd.C_drew ?_) | exact HR168.out)) | (with_reducible refine Kd.C_alloc ?_ _) | (with_reducible refine Kd.C_drewN ?_ _) | (with_reducible refine Kd.C_drew ?_)))
       (case side4 => exact HC168.out)
       (case side5 => exact GW_below hG (by repeat (first | (with_reducible first | exact HB.out | apply below_alloc | apply pw_below_drewN | apply below_drew1) | exact HB.out)))
       rintro e w123 ⟨v170, rfl, ho0, hb⟩
       refine ⟨_, rfl, ?_⟩
       have n0_ := Aside0.mk (Kd.R_below (by (with_reducible repeat (first | apply Kd.R_alloc | apply Kd.R_drewN | apply Kd.R_drew)); exact HO_6.out) hb)
       have n1_ := Aside0.mk (Kd.R_below (by (with_reducible repeat (first | apply Kd.R_alloc | apply Kd.R_drewN | apply Kd.R_drew)); exact HO157.out) hb)
       have n2_ := Aside0.mk (Kd.R_elder' (by (with_reducible repeat (first | apply Kd.R_alloc | apply Kd.R_drewN | apply Kd.R_drew)); exact HO160.out) (Kd.R_base ho0) hb)
       have n3_ := Aside0.mk (Kd.R_lower (Kd.R_new' ho0 (Kd.R_lt (by (with_reducible repeat (first | apply Kd.R_alloc | apply Kd.R_drewN | apply Kd.R_drew)); exact HO160.out))) (below_size (by repeat (first | (with_reducible first | exact HB.out | apply below_alloc | apply pw_below_drewN | apply below_drew1) | exact HB.out))))
       have n4_ := Aside0.mk (Kd.C_below (by repeat (first | (with_reducible exact HR164.out) | (with_reducible refine Kd.C_alloc ?_ _) | (with_reducible refine Kd.C_drewN ?_ _) | (with_reducible refine Kd.C_drew ?_) | exact HR164.out)) hb)
       have n5_ := Aside0.mk (Kd.C_below (by repeat (first | (with_reducible exact HR168.out) | (with_reducible refine Kd.C_alloc ?_ _) | (with_reducible refine Kd.C_drewN ?_ _) | (with_reducible refine Kd.C_drew ?_) | exact HR168.out)) hb)
       have n6_ := Aside0.mk (below_step (by repeat (first | (with_reducible first | exact HB.out | apply below_alloc | apply pw_below_drewN | apply below_drew1) | exact HB.out)) hb)
       clear HO_6
       clear HO157
       clear HO160
       clear HR164
       clear HR168
       clear HB
       have HO_6 := n0_
       have HO157 := n1_
       have HO160 := n2_
       have HO171 := n3_
       have HR164 := n4_
       have HR168 := n5_
       have HB := n6_
       clear n0_ n1_ n2_ n3_ n4_ n5_ n6_
       (try clear hb)
       (try clear hb2)
       (try clear hk)
       (try clear hi)
       (try clear ho0)
       obtain ⟨Ao124, co124, eo124⟩ := Kd.R_slice HO171.out
       (first | subst eo124 | (injection eo124 with f1_ f2_ f3_; have f4_ := f1_.symm; have f5_ := f3_.symm; clear f1_ f2_ f3_; subst f4_; subst f5_))
       refine hK.out _ _ trivial (fun hHeld => ?_)
       clear hK K
       refine norm_ (a' := ?_) ?_ ?_
       rotate_left
       ·show Act.put _ (some 141) _ = _
        simp only [Act.put, List.setIfInBounds_toArray, List.set_cons_zero, List.set_cons_succ, i64_w, i32_w]
        rfl
       refine pure_ (i := 11) (N := some 142) (v := ?_) (a' := ?_) #[T_,T_,T_,T_,T_,T_,T_,T_,T_,T_,T_,T_,F_,F_,F_,F_,F_,F_,F_,F_,F_,F_,F_,F_,F_,F_,F_,F_,F_,F_] rfl rfl (any_of HT_.out (by kernel_rfl)) (fun _ _ _ h => h) (Or.inl ⟨by rfl, ?_⟩) ?_ ?_
       rotate_left
       ·intro w'
        go_simp
        with_reducible rfl
       rotate_left
       ·simp only [Act.put, List.setIfInBounds_toArray, List.set_cons_zero, List.set_cons_succ, i64_w, i32_w]
        rfl
       refine pure_ (i := 12) (N := some 143) (v := ?_) (a' := ?_) #[T_,T_,T_,T_,T_,T_,T_,T_,T_,T_,T_,T_,T_,F_,F_,F_,F_,F_,F_,F_,F_,F_,F_,F_,F_,F_,F_,F_,F_,F_] rfl rfl (any_of HT_.out (by kernel_rfl)) (fun _ _ _ h => h) (Or.inl ⟨by rfl, ?_⟩) ?_ ?_
       rotate_left
       ·intro w'
        go_simp
        with_reducible rfl
       rotate_left
       ·simp only [Act.put, List.setIfInBounds_toArray, List.set_cons_zero, List.set_cons_succ, i64_w, i32_w]
        rfl
       refine pure_ (i := 13) (N := some 144) (v := ?_) (a' := ?_) #[T_,T_,T_,T_,T_,T_,T_,T_,T_,T_,T_,T_,T_,T_,F_,F_,F_,F_,F_,F_,F_,F_,F_,F_,F_,F_,F_,F_,F_,F_] rfl rfl (any_of HT_.out (by kernel_rfl)) (fun _ _ _ h => h) (Or.inl ⟨by rfl, ?_⟩) ?_ ?_
       rotate_left
       ·intro w'
        go_simp
        with_reducible rfl
       rotate_left
       ·simp only [Act.put, List.setIfInBounds_toArray, List.set_cons_zero, List.set_cons_succ, i64_w, i32_w]
        rfl
       refine pure_ (i := 14) (N := some 145) (v := ?_) (a' := ?_) #[T_,T_,T_,T_,T_,T_,T_,T_,T_,T_,T_,T_,T_,T_,T_,F_,F_,F_,F_,F_,F_,F_,F_,F_,F_,F_,F_,F_,F_,F_] rfl rfl (any_of HT_.out (by kernel_rfl)) (fun _ _ _ h => h) (Or.inl ⟨by rfl, ?_⟩) ?_ ?_
       rotate_left
       ·intro w'
        go_simp
        with_reducible rfl
       rotate_left
       ·simp only [Act.put, List.setIfInBounds_toArray, List.set_cons_zero, List.set_cons_succ, i64_w, i32_w]
        rfl
       refine pure_ (i := 15) (N := some 146) (v := ?_) (a' := ?_) #[T_,T_,T_,T_,T_,T_,T_,T_,T_,T_,T_,T_,T_,T_,T_,T_,F_,F_,F_,F_,F_,F_,F_,F_,F_,F_,F_,F_,F_,F_] rfl rfl (any_of HT_.out (by kernel_rfl)) (fun _ _ _ h => h) (Or.inl ⟨by rfl, ?_⟩) ?_ ?_
       rotate_left
       ·intro w'
        go_simp
        with_reducible rfl
       rotate_left
       ·simp only [Act.put, List.setIfInBounds_toArray, List.set_cons_zero, List.set_cons_succ, i64_w, i32_w]
        rfl
       refine pure_ (i := 16) (N := some 147) (v := ?_) (a' := ?_) #[T_,T_,T_,T_,T_,T_,T_,T_,T_,T_,T_,T_,T_,T_,T_,T_,T_,F_,F_,F_,F_,F_,F_,F_,F_,F_,F_,F_,F_,F_] rfl rfl (any_of HT_.out (by kernel_rfl)) (fun _ _ _ h => h) (Or.inl ⟨by rfl, ?_⟩) ?_ ?_
       rotate_left
       ·intro w'
        go_simp
        with_reducible rfl
       rotate_left
       ·simp only [Act.put, List.setIfInBounds_toArray, List.set_cons_zero, List.set_cons_succ, i64_w, i32_w]
        rfl
       refine pure_ (i := 17) (N := some 148) (v := ?_) (a' := ?_) #[T_,T_,T_,T_,T_,T_,T_,T_,T_,T_,T_,T_,T_,T_,T_,T_,T_,T_,F_,F_,F_,F_,F_,F_,F_,F_,F_,F_,F_,F_] rfl rfl (any_of HT_.out (by kernel_rfl)) (fun _ _ _ h => h) (Or.inl ⟨by rfl, ?_⟩) ?_ ?_
       rotate_left
       ·intro w'
        go_simp
        with_reducible rfl
       rotate_left
       ·simp only [Act.put, List.setIfInBounds_toArray, List.set_cons_zero, List.set_cons_succ, i64_w, i32_w]
        rfl
       refine one_ (i := 18) (N := some 149) #[T_,T_,T_,T_,T_,T_,T_,T_,T_,T_,T_,T_,T_,T_,T_,T_,T_,T_,T_,F_,F_,F_,F_,F_,F_,F_,F_,F_,F_,F_] rfl rfl (one_of HT_.out (by kernel_rfl)) (by decide) (fun K hK => ?_)
       refine goes_ Tryd.func4 (by kernel_rfl) rfl #[.slice Ao115 x6_2.length co115, .slice Ao118 t155.length co118, .slice Ao118 t155.length co118, .int .u8 0, .int .u8 1] (by rfl) rfl rfl (by (try simp only [List.map_toArray, List.map_cons, List.map_nil]); first | done | rfl | (simp only [List.length_drop, List.length_take]; rfl)) ?_
       with_reducible refine (sPR.calls k2 _ _ x6_2 _ _ t155 _ _ t155 0 1 true _ ?side1 ?side2 ?side3 ?side4 ?side5 ?side6 ?side7 A86.out).mono ?_
       (case side1 => repeat (first | exact (Kd.R_reads' HO_6.out).2.2 | (with_reducible refine Kd.C_alloc ?_ _) | (with_reducible refine Kd.C_drewN ?_ _) | (with_reducible refine Kd.C_drew ?_)))
       (case side2 => exact (Kd.R_reads' HO_6.out).2.1)
       (case side3 => repeat (first | exact (Kd.R_reads' HO157.out).2.2 | (with_reducible refine Kd.C_alloc ?_ _) | (with_reducible refine Kd.C_drewN ?_ _) | (with_reducible refine Kd.C_drew ?_)))
       (case side4 => exact (Kd.R_reads' HO157.out).2.1)
       (case side5 => repeat (first | exact (Kd.R_reads' HO157.out).2.2 | (with_reducible refine Kd.C_alloc ?_ _) | (with_reducible refine Kd.C_drewN ?_ _) | (with_reducible refine Kd.C_drew ?_)))
       (case side6 => exact (Kd.R_reads' HO157.out).2.1)
       (case side7 => exact GW_below hG (by repeat (first | (with_reducible first | exact HB.out | apply below_alloc | apply pw_below_drewN | apply below_drew1) | exact HB.out)))
       rintro e w125 ⟨rfl, hb⟩
       refine ⟨_, rfl, ?_⟩
       have n0_ := Aside0.mk (Kd.R_below (by (with_reducible repeat (first | apply Kd.R_alloc | apply Kd.R_drewN | apply Kd.R_drew)); exact HO_6.out) hb)
       have n1_ := Aside0.mk (Kd.R_below (by (with_reducible repeat (first | apply Kd.R_alloc | apply Kd.R_drewN | apply Kd.R_drew)); exact HO157.out) hb)
       have n2_ := Aside0.mk (Kd.R_below (by (with_reducible repeat (first | apply Kd.R_alloc | apply Kd.R_drewN | apply Kd.R_drew)); exact HO160.out) hb)
       have n3_ := Aside0.mk (Kd.R_below (by (with_reducible repeat (first | apply Kd.R_alloc | apply Kd.R_drewN | apply Kd.R_drew)); exact HO171.out) hb)
       have n4_ := Aside0.mk (Kd.C_below (by repeat (first | (with_reducible exact HR164.out) | (with_reducible refine Kd.C_alloc ?_ _) | (with_reducible refine Kd.C_drewN ?_ _) | (with_reducible refine Kd.C_drew ?_) | exact HR164.out)) hb)
       have n5_ := Aside0.mk (Kd.C_below (by repeat (first | (with_reducible exact HR168.out) | (with_reducible refine Kd.C_alloc ?_ _) | (with_reducible refine Kd.C_drewN ?_ _) | (with_reducible refine Kd.C_drew ?_) | exact HR168.out)) hb)
       have n6_ := Aside0.mk (below_step (by repeat (first | (with_reducible first | exact HB.out | apply below_alloc | apply pw_below_drewN | apply below_drew1) | exact HB.out)) hb)
       clear HO_6
       clear HO157
       clear HO160
       clear HO171
       clear HR164
       clear HR168
       clear HB
       have HO_6 := n0_
       have HO157 := n1_
       have HO160 := n2_
       have HO171 := n3_
       have HR164 := n4_
       have HR168 := n5_
       have HB := n6_
       clear n0_ n1_ n2_ n3_ n4_ n5_ n6_
       (try clear hb)
       (try clear hb2)
       (try clear hk)
       (try clear hi)
       have q126 : (133 : Int) ≤ ((x6_2.length : Int) : Int) := of_decide_eq_true (by first | (with_reducible assumption) | assumption)
       obtain ⟨i0126, hi0126, _, hsz126, _⟩ := info_parts info21
       have hroom126 : x6_2.length ≤ co115 := (Kd.R_reads' HO_6.out).2.1
       have hC126 : Kd.C (Kd.int .i32) _ Ao115 x6_2.length x6_2 := (Kd.R_reads' HO_6.out).2.2
       have ql126 : (7 : Int) ≤ (133 : Int) := (by omega)
       have hcut126 := cut_mid (P := Tryd.prog) 22 21 .i64 .i64 Tryd.underlying22 hi0126 1 hsz126 Ao115 x6_2.length co115 7 133 (by omega) ql126 q126 hroom126
       have hr126 := Kd.C_mid (lo := (7 : Int).toNat) (hi := (133 : Int).toNat) (c := co115) hC126 (by omega) (by omega) hroom126
       obtain ⟨A126, hA126⟩ : ∃ A1, A1 = (if co115 = (7 : Int).toNat then Ao115 else (Ao115 : Option Addr).map (·.add ((7 : Int).toNat * 1))) := ⟨_, rfl⟩
       obtain ⟨c126, hc126⟩ : ∃ c1, c1 = co115 - (7 : Int).toNat := ⟨_, rfl⟩
       have hy126 : y173.length = (133 : Int).toNat - (7 : Int).toNat := (by rw [Ny173.out, List.length_drop, List.length_take] <;> omega)
       rw [show ((x6_2).take (133 : Int).toNat).drop (7 : Int).toNat = y173 from Ny173.out.symm] at hr126
       replace hr126 : Kd.C (Kd.int .i32) _ A126 y173.length y173 := (by rw [hA126]; exact hr126)
       rw [← hy126, ← hA126, ← hc126] at hcut126
       have HR176 := Aside0.mk hr126
       have HC176 := Aside0.mk (show y173.length ≤ c126 from by rw [hy126, hc126]; exact Nat.sub_le_sub_right (Nat.le_trans (by omega) hroom126) _)
       clear hr126 hC126 hroom126 hi0126 hsz126 hc126
       have KY126 := Aside0.mk hy126
       have KA126 := Aside0.mk hA126
       clear hy126 hA126
       have KL126 := Aside0.mk (show 133 ≤ x6_2.length from by omega)
       have KM126 := Aside0.mk (show 7 ≤ 133 from by omega)
       replace q126 := eq_true q126
       have q127 : (133 : Int) ≤ ((t155.length : Int) : Int) := of_decide_eq_true (by first | (with_reducible assumption) | assumption)
       obtain ⟨i0127, hi0127, _, hsz127, _⟩ := info_parts info33
       have hroom127 : t155.length ≤ co118 := (Kd.R_reads' HO157.out).2.1
       have hC127 : Kd.C (Kd.int .u8) _ Ao118 t155.length t155 := (Kd.R_reads' HO157.out).2.2
       have ql127 : (7 : Int) ≤ (133 : Int) := (by omega)
       have hcut127 := cut_mid (P := Tryd.prog) 23 33 .i64 .i64 Tryd.underlying23 hi0127 1 hsz127 Ao118 t155.length co118 7 133 (by omega) ql127 q127 hroom127
       have hr127 := Kd.C_mid (lo := (7 : Int).toNat) (hi := (133 : Int).toNat) (c := co118) hC127 (by omega) (by omega) hroom127
       obtain ⟨A127, hA127⟩ : ∃ A1, A1 = (if co118 = (7 : Int).toNat then Ao118 else (Ao118 : Option Addr).map (·.add ((7 : Int).toNat * 1))) := ⟨_, rfl⟩
       obtain ⟨c127, hc127⟩ : ∃ c1, c1 = co118 - (7 : Int).toNat := ⟨_, rfl⟩
       have hy127 : y177.length = (133 : Int).toNat - (7 : Int).toNat := (by rw [Ny177.out, List.length_drop, List.length_take] <;> omega)
       rw [show ((t155).take (133 : Int).toNat).drop (7 : Int).toNat = y177 from Ny177.out.symm] at hr127
       replace hr127 : Kd.C (Kd.int .u8) _ A127 y177.length y177 := (by rw [hA127]; exact hr127)
       rw [← hy127, ← hA127, ← hc127] at hcut127
       have HR180 := Aside0.mk hr127
       have HC180 := Aside0.mk (show y177.length ≤ c127 from by rw [hy127, hc127]; exact Nat.sub_le_sub_right (Nat.le_trans (by omega) hroom127) _)
       clear hr127 hC127 hroom127 hi0127 hsz127 hc127
       have KY127 := Aside0.mk hy127
       have KA127 := Aside0.mk hA127
       clear hy127 hA127
       have KL127 := Aside0.mk (show 133 ≤ t155.length from by omega)
       have KM127 := Aside0.mk (show 7 ≤ 133 from by omega)
       replace q127 := eq_true q127
       have q128 : (133 : Int) ≤ ((t155.length : Int) : Int) := of_decide_eq_true (by first | (with_reducible assumption) | assumption)
       obtain ⟨i0128, hi0128, _, hsz128, _⟩ := info_parts info33
       have hroom128 : t155.length ≤ co118 := (Kd.R_reads' HO157.out).2.1
       have hC128 : Kd.C (Kd.int .u8) _ Ao118 t155.length t155 := (Kd.R_reads' HO157.out).2.2
       have ql128 : (7 : Int) ≤ (133 : Int) := (by omega)
       have hcut128 := cut_mid (P := Tryd.prog) 23 33 .i64 .i64 Tryd.underlying23 hi0128 1 hsz128 Ao118 t155.length co118 7 133 (by omega) ql128 q128 hroom128
       have hr128 := Kd.C_mid (lo := (7 : Int).toNat) (hi := (133 : Int).toNat) (c := co118) hC128 (by omega) (by omega) hroom128
       obtain ⟨A128, hA128⟩ : ∃ A1, A1 = (if co118 = (7 : Int).toNat then Ao118 else (Ao118 : Option Addr).map (·.add ((7 : Int).toNat * 1))) := ⟨_, rfl⟩
       obtain ⟨c128, hc128⟩ : ∃ c1, c1 = co118 - (7 : Int).toNat := ⟨_, rfl⟩
       have hy128 : y181.length = (133 : Int).toNat - (7 : Int).toNat := (by rw [Ny181.out, List.length_drop, List.length_take] <;> omega)
       rw [show ((t155).take (133 : Int).toNat).drop (7 : Int).toNat = y181 from Ny181.out.symm] at hr128
       replace hr128 : Kd.C (Kd.int .u8) _ A128 y181.length y181 := (by rw [hA128]; exact hr128)
       rw [← hy128, ← hA128, ← hc128] at hcut128
       have HR184 := Aside0.mk hr128
       have HC184 := Aside0.mk (show y181.length ≤ c128 from by rw [hy128, hc128]; exact Nat.sub_le_sub_right (Nat.le_trans (by omega) hroom128) _)
       clear hr128 hC128 hroom128 hi0128 hsz128 hc128
       have KY128 := Aside0.mk hy128
       have KA128 := Aside0.mk hA128
       clear hy128 hA128
       have KL128 := Aside0.mk (show 133 ≤ t155.length from by omega)
       have KM128 := Aside0.mk (show 7 ≤ 133 from by omega)
       replace q128 := eq_true q128
       refine hK.out _ _ trivial (fun hHeld => ?_)
       clear hK K
       refine norm_ (a' := ?_) ?_ ?_
       rotate_left
       ·show Act.put _ (some 149) _ = _
        simp only [Act.put, List.setIfInBounds_toArray, List.set_cons_zero, List.set_cons_succ, i64_w, i32_w]
        rfl
       refine pure_ (i := 19) (N := some 150) (v := ?_) (a' := ?_) #[T_,T_,T_,T_,T_,T_,T_,T_,T_,T_,T_,T_,T_,T_,T_,T_,T_,T_,T_,T_,F_,F_,F_,F_,F_,F_,F_,F_,F_,F_] rfl rfl (any_of HT_.out (by kernel_rfl)) (fun _ _ _ h => h) (Or.inl ⟨by rfl, ?_⟩) ?_ ?_
       rotate_left
       ·intro w'
        go_simp
        with_reducible rfl
       rotate_left
       ·simp only [Act.put, List.setIfInBounds_toArray, List.set_cons_zero, List.set_cons_succ, i64_w, i32_w]
        rfl
       refine pure_ (i := 20) (N := some 151) (v := ?_) (a' := ?_) #[T_,T_,T_,T_,T_,T_,T_,T_,T_,T_,T_,T_,T_,T_,T_,T_,T_,T_,T_,T_,T_,F_,F_,F_,F_,F_,F_,F_,F_,F_] rfl rfl (any_of HT_.out (by kernel_rfl)) (fun _ _ _ h => h) (Or.inl ⟨by rfl, ?_⟩) ?_ ?_
       rotate_left
       ·intro w'
        go_simp
        with_reducible rfl
       rotate_left
       ·simp only [Act.put, List.setIfInBounds_toArray, List.set_cons_zero, List.set_cons_succ, i64_w, i32_w]
        rfl
       refine pure_ (i := 21) (N := some 152) (v := ?_) (a' := ?_) #[T_,T_,T_,T_,T_,T_,T_,T_,T_,T_,T_,T_,T_,T_,T_,T_,T_,T_,T_,T_,T_,T_,F_,F_,F_,F_,F_,F_,F_,F_] rfl rfl (any_of HT_.out (by kernel_rfl)) (fun _ _ _ h => h) (Or.inl ⟨by rfl, ?_⟩) ?_ ?_
       rotate_left
       ·intro w'
        go_simp
        with_reducible rfl
       rotate_left
       ·simp only [Act.put, List.setIfInBounds_toArray, List.set_cons_zero, List.set_cons_succ, i64_w, i32_w]
        rfl
       refine pure_ (i := 22) (N := some 153) (v := ?_) (a' := ?_) #[T_,T_,T_,T_,T_,T_,T_,T_,T_,T_,T_,T_,T_,T_,T_,T_,T_,T_,T_,T_,T_,T_,T_,F_,F_,F_,F_,F_,F_,F_] rfl rfl (any_of HT_.out (by kernel_rfl)) (fun _ _ _ h => h) (Or.inl ⟨by rfl, ?_⟩) ?_ ?_
       rotate_left
       ·intro w'
        go_simp
        with_reducible rfl
       rotate_left
       ·simp only [Act.put, List.setIfInBounds_toArray, List.set_cons_zero, List.set_cons_succ, i64_w, i32_w]
        rfl
       refine pure_ (i := 23) (N := some 154) (v := ?_) (a' := ?_) #[T_,T_,T_,T_,T_,T_,T_,T_,T_,T_,T_,T_,T_,T_,T_,T_,T_,T_,T_,T_,T_,T_,T_,T_,F_,F_,F_,F_,F_,F_] rfl rfl (any_of HT_.out (by kernel_rfl)) (fun _ _ _ h => h) (Or.inl ⟨by rfl, ?_⟩) ?_ ?_
       rotate_left
       ·intro w'
        go_simp
        with_reducible rfl
       rotate_left
       ·simp only [Act.put, List.setIfInBounds_toArray, List.set_cons_zero, List.set_cons_succ, i64_w, i32_w]
        rfl
       refine pure_ (i := 24) (N := some 155) (v := ?_) (a' := ?_) #[T_,T_,T_,T_,T_,T_,T_,T_,T_,T_,T_,T_,T_,T_,T_,T_,T_,T_,T_,T_,T_,T_,T_,T_,T_,F_,F_,F_,F_,F_] rfl rfl (any_of HT_.out (by kernel_rfl)) (fun _ _ _ h => h) (Or.inl ⟨by rfl, ?_⟩) ?_ ?_
       rotate_left
       ·intro w'
        go_simp
        with_reducible rfl
       rotate_left
       ·simp only [Act.put, List.setIfInBounds_toArray, List.set_cons_zero, List.set_cons_succ, i64_w, i32_w]
        rfl
       refine pure_ (i := 25) (N := some 156) (v := ?_) (a' := ?_) #[T_,T_,T_,T_,T_,T_,T_,T_,T_,T_,T_,T_,T_,T_,T_,T_,T_,T_,T_,T_,T_,T_,T_,T_,T_,T_,F_,F_,F_,F_] rfl rfl (any_of HT_.out (by kernel_rfl)) (fun _ _ _ h => h) (Or.inl ⟨by rfl, ?_⟩) ?_ ?_
       rotate_left
       ·intro w'
        go_simp
        with_reducible rfl
       rotate_left
       ·simp only [Act.put, List.setIfInBounds_toArray, List.set_cons_zero, List.set_cons_succ, i64_w, i32_w]
        rfl
       refine pure_ (i := 26) (N := some 157) (v := ?_) (a' := ?_) #[T_,T_,T_,T_,T_,T_,T_,T_,T_,T_,T_,T_,T_,T_,T_,T_,T_,T_,T_,T_,T_,T_,T_,T_,T_,T_,T_,F_,F_,F_] rfl rfl (any_of HT_.out (by kernel_rfl)) (fun _ _ _ h => h) (Or.inl ⟨by rfl, ?_⟩) ?_ ?_
       rotate_left
       ·intro w'
        go_simp
        with_reducible rfl
       rotate_left
       ·simp only [Act.put, List.setIfInBounds_toArray, List.set_cons_zero, List.set_cons_succ, i64_w, i32_w]
        rfl
       refine one_ (i := 27) (N := some 158) #[T_,T_,T_,T_,T_,T_,T_,T_,T_,T_,T_,T_,T_,T_,T_,T_,T_,T_,T_,T_,T_,T_,T_,T_,T_,T_,T_,T_,F_,F_] rfl rfl (one_of HT_.out (by kernel_rfl)) (by decide) (fun K hK => ?_)
       have A94_ := A94.out
       rw [show y173 = y161 from Ny173.out.trans Ny161.out.symm, show y177 = y165 from Ny177.out.trans Ny165.out.symm, show y181 = y165 from Ny181.out.trans Ny165.out.symm] at A94_
       refine goes_ Tryd.func5 (by kernel_rfl) rfl #[.slice A121 y161.length c121, .slice A122 y165.length c122, .slice A122 y165.length c122, .int .u8 1, .int .u8 1] (by rfl) rfl rfl (by (try simp only [List.map_toArray, List.map_cons, List.map_nil]); first | done | rfl | (simp only [List.length_drop, List.length_take]; rfl)) ?_
       with_reducible refine (sPN.calls k2 _ _ y161 _ _ y165 _ _ y165 1 1 true _ ?side1 ?side2 ?side3 ?side4 ?side5 ?side6 ?side7 A94_).mono ?_
       (case side1 => repeat (first | exact (by repeat (first | (with_reducible exact HR164.out) | (with_reducible refine Kd.C_alloc ?_ _) | (with_reducible refine Kd.C_drewN ?_ _) | (with_reducible refine Kd.C_drew ?_) | exact HR164.out)) | (with_reducible refine Kd.C_alloc ?_ _) | (with_reducible refine Kd.C_drewN ?_ _) | (with_reducible refine Kd.C_drew ?_)))
       (case side2 => exact HC164.out)
       (case side3 => repeat (first | exact (by repeat (first | (with_reducible exact HR168.out) | (with_reducible refine Kd.C_alloc ?_ _) | (with_reducible refine Kd.C_drewN ?_ _) | (with_reducible refine Kd.C_drew ?_) | exact HR168.out)) | (with_reducible refine Kd.C_alloc ?_ _) | (with_reducible refine Kd.C_drewN ?_ _) | (with_reducible refine Kd.C_drew ?_)))
       (case side4 => exact HC168.out)
       (case side5 => repeat (first | exact (by repeat (first | (with_reducible exact HR168.out) | (with_reducible refine Kd.C_alloc ?_ _) | (with_reducible refine Kd.C_drewN ?_ _) | (with_reducible refine Kd.C_drew ?_) | exact HR168.out)) | (with_reducible refine Kd.C_alloc ?_ _) | (with_reducible refine Kd.C_drewN ?_ _) | (with_reducible refine Kd.C_drew ?_)))
       (case side6 => exact HC168.out)
       (case side7 => exact GW_below hG (by repeat (first | (with_reducible first | exact HB.out | apply below_alloc | apply pw_below_drewN | apply below_drew1) | exact HB.out)))
       rintro e w129 ⟨rfl, hb⟩
       refine ⟨_, rfl, ?_⟩
       have n0_ := Aside0.mk (Kd.R_below (by (with_reducible repeat (first | apply Kd.R_alloc | apply Kd.R_drewN | apply Kd.R_drew)); exact HO_6.out) hb)
       have n1_ := Aside0.mk (Kd.R_below (by (with_reducible repeat (first | apply Kd.R_alloc | apply Kd.R_drewN | apply Kd.R_drew)); exact HO157.out) hb)
       have n2_ := Aside0.mk (Kd.R_below (by (with_reducible repeat (first | apply Kd.R_alloc | apply Kd.R_drewN | apply Kd.R_drew)); exact HO160.out) hb)
       have n3_ := Aside0.mk (Kd.R_below (by (with_reducible repeat (first | apply Kd.R_alloc | apply Kd.R_drewN | apply Kd.R_drew)); exact HO171.out) hb)
       have n4_ := Aside0.mk (Kd.C_below (by repeat (first | (with_reducible exact HR164.out) | (with_reducible refine Kd.C_alloc ?_ _) | (with_reducible refine Kd.C_drewN ?_ _) | (with_reducible refine Kd.C_drew ?_) | exact HR164.out)) hb)
       have n5_ := Aside0.mk (Kd.C_below (by repeat (first | (with_reducible exact HR168.out) | (with_reducible refine Kd.C_alloc ?_ _) | (with_reducible refine Kd.C_drewN ?_ _) | (with_reducible refine Kd.C_drew ?_) | exact HR168.out)) hb)
       have n6_ := Aside0.mk (Kd.C_below (by repeat (first | (with_reducible exact HR176.out) | (with_reducible refine Kd.C_alloc ?_ _) | (with_reducible refine Kd.C_drewN ?_ _) | (with_reducible refine Kd.C_drew ?_) | exact HR176.out)) hb)
       have n7_ := Aside0.mk (Kd.C_below (by repeat (first | (with_reducible exact HR180.out) | (with_reducible refine Kd.C_alloc ?_ _) | (with_reducible refine Kd.C_drewN ?_ _) | (with_reducible refine Kd.C_drew ?_) | exact HR180.out)) hb)
       have n8_ := Aside0.mk (Kd.C_below (by repeat (first | (with_reducible exact HR184.out) | (with_reducible refine Kd.C_alloc ?_ _) | (with_reducible refine Kd.C_drewN ?_ _) | (with_reducible refine Kd.C_drew ?_) | exact HR184.out)) hb)
       have n9_ := Aside0.mk (below_step (by repeat (first | (with_reducible first | exact HB.out | apply below_alloc | apply pw_below_drewN | apply below_drew1) | exact HB.out)) hb)
       clear HO_6
       clear HO157
       clear HO160
       clear HO171
       clear HR164
       clear HR168
       clear HR176
       clear HR180
       clear HR184
       clear HB
       have HO_6 := n0_
       have HO157 := n1_
       have HO160 := n2_
       have HO171 := n3_
       have HR164 := n4_
       have HR168 := n5_
       have HR176 := n6_
       have HR180 := n7_
       have HR184 := n8_
       have HB := n9_
       clear n0_ n1_ n2_ n3_ n4_ n5_ n6_ n7_ n8_ n9_
       (try clear hb)
       (try clear hb2)
       (try clear hk)
       (try clear hi)
       refine hK.out _ _ trivial (fun hHeld => ?_)
       clear hK K
       refine norm_ (a' := ?_) ?_ ?_
       rotate_left
       ·show Act.put _ (some 158) _ = _
        simp only [Act.put, List.setIfInBounds_toArray, List.set_cons_zero, List.set_cons_succ, i64_w, i32_w]
        rfl
       refine pure_ (i := 28) (N := some 159) (v := ?_) (a' := ?_) #[T_,T_,T_,T_,T_,T_,T_,T_,T_,T_,T_,T_,T_,T_,T_,T_,T_,T_,T_,T_,T_,T_,T_,T_,T_,T_,T_,T_,T_,F_] rfl rfl (any_of HT_.out (by kernel_rfl)) (fun _ _ _ h => h) (Or.inl ⟨by rfl, ?_⟩) ?_ ?_
       rotate_left
       ·intro w'
        go_simp
        with_reducible rfl
       rotate_left
       ·simp only [Act.put, List.setIfInBounds_toArray, List.set_cons_zero, List.set_cons_succ, i64_w, i32_w]
        rfl
       refine pure_ (i := 29) (N := some 10) (v := ?_) (a' := ?_) #[T_,T_,T_,T_,T_,T_,T_,T_,T_,T_,T_,T_,T_,T_,T_,T_,T_,T_,T_,T_,T_,T_,T_,T_,T_,T_,T_,T_,T_,T_] rfl rfl (any_of HT_.out (by kernel_rfl)) (fun _ _ _ h => h) (Or.inl ⟨by rfl, ?_⟩) ?_ ?_
       rotate_left
       ·intro w'
        go_simp
        with_reducible rfl
       rotate_left
       ·simp only [Act.put, List.setIfInBounds_toArray, List.set_cons_zero, List.set_cons_succ, i64_w, i32_w]
        rfl
       refine done_ (done_of HT_.out (by kernel_rfl)) ?_
       try go_wp2_with (first | ((with_reducible refine gate_dst (N := 160) rfl ?_); (try (refine gate_guard (by rfl) ?_; dsimp only)); refine Kd.R_lit (Kd.int .i32) _ 21 ?hg (N := 160) ?hd (xs := ([40, 120, 41, 40, 40, 121, 41, 41] : List Int)) (inner := [.int .i32 40, .int .i32 120, .int .i32 41, .int .i32 40, .int .i32 40, .int .i32 121, .int .i32 41, .int .i32 41]) (ok := fun _ => True) (okp := fun _ => True) ?hr ?hp (fun _ hk => hk) trivial (Below.refl _ _) (Nat.le_refl _) (by simp) ?_; (case hd => rfl); (case hg => rfl); (case hr => first | (go_simp; done) | (go_simp; rfl)); (case hp => exact (Reps.one (show Kd.M (Kd.int .i32) _ _ _ 40 [.int .i32 40] from rfl) (Reps.one (show Kd.M (Kd.int .i32) _ _ _ 120 [.int .i32 120] from rfl) (Reps.one (show Kd.M (Kd.int .i32) _ _ _ 41 [.int .i32 41] from rfl) (Reps.one (show Kd.M (Kd.int .i32) _ _ _ 40 [.int .i32 40] from rfl) (Reps.one (show Kd.M (Kd.int .i32) _ _ _ 40 [.int .i32 40] from rfl) (Reps.one (show Kd.M (Kd.int .i32) _ _ _ 121 [.int .i32 121] from rfl) (Reps.one (show Kd.M (Kd.int .i32) _ _ _ 41 [.int .i32 41] from rfl) (Reps.one (show Kd.M (Kd.int .i32) _ _ _ 41 [.int .i32 41] from rfl) (Reps.none _ _)))))))))); intro v187 w130 ho131 hb hg_ hnew_; clear hg_ hnew_; (first | rw [← Ny186.out] at ho131 | (simp only [Int.reduceToNat] at ho131; rw [← Ny186.out] at ho131)); have n0_ := Aside0.mk (Kd.R_elder' (by (with_reducible repeat (first | apply Kd.R_alloc | apply Kd.R_drewN | apply Kd.R_drew)); exact HO_6.out) (Kd.R_base ho131) hb); have n1_ := Aside0.mk (Kd.R_below (by (with_reducible repeat (first | apply Kd.R_alloc | apply Kd.R_drewN | apply Kd.R_drew)); exact HO157.out) hb); have n2_ := Aside0.mk (Kd.R_below (by (with_reducible repeat (first | apply Kd.R_alloc | apply Kd.R_drewN | apply Kd.R_drew)); exact HO160.out) hb); have n3_ := Aside0.mk (Kd.R_below (by (with_reducible repeat (first | apply Kd.R_alloc | apply Kd.R_drewN | apply Kd.R_drew)); exact HO171.out) hb); have n4_ := Aside0.mk (Kd.R_lower (Kd.R_new' ho131 (Kd.R_lt (by (with_reducible repeat (first | apply Kd.R_alloc | apply Kd.R_drewN | apply Kd.R_drew)); exact HO_6.out))) (below_size (by repeat (first | (with_reducible first | exact HB.out | apply below_alloc | apply pw_below_drewN | apply below_drew1) | exact HB.out)))); have n5_ := Aside0.mk (Kd.C_below (by repeat (first | (with_reducible exact HR164.out) | (with_reducible refine Kd.C_alloc ?_ _) | (with_reducible refine Kd.C_drewN ?_ _) | (with_reducible refine Kd.C_drew ?_) | exact HR164.out)) hb); have n6_ := Aside0.mk (Kd.C_below (by repeat (first | (with_reducible exact HR168.out) | (with_reducible refine Kd.C_alloc ?_ _) | (with_reducible refine Kd.C_drewN ?_ _) | (with_reducible refine Kd.C_drew ?_) | exact HR168.out)) hb); have n7_ := Aside0.mk (Kd.C_below (by repeat (first | (with_reducible exact HR176.out) | (with_reducible refine Kd.C_alloc ?_ _) | (with_reducible refine Kd.C_drewN ?_ _) | (with_reducible refine Kd.C_drew ?_) | exact HR176.out)) hb); have n8_ := Aside0.mk (Kd.C_below (by repeat (first | (with_reducible exact HR180.out) | (with_reducible refine Kd.C_alloc ?_ _) | (with_reducible refine Kd.C_drewN ?_ _) | (with_reducible refine Kd.C_drew ?_) | exact HR180.out)) hb); have n9_ := Aside0.mk (Kd.C_below (by repeat (first | (with_reducible exact HR184.out) | (with_reducible refine Kd.C_alloc ?_ _) | (with_reducible refine Kd.C_drewN ?_ _) | (with_reducible refine Kd.C_drew ?_) | exact HR184.out)) hb); have n10_ := Aside0.mk (below_step (by repeat (first | (with_reducible first | exact HB.out | apply below_alloc | apply pw_below_drewN | apply below_drew1) | exact HB.out)) hb); clear HO_6; clear HO157; clear HO160; clear HO171; clear HR164; clear HR168; clear HR176; clear HR180; clear HR184; clear HB; have HO_6 := n0_; have HO157 := n1_; have HO160 := n2_; have HO171 := n3_; have HO188 := n4_; have HR164 := n5_; have HR168 := n6_; have HR176 := n7_; have HR180 := n8_; have HR184 := n9_; have HB := n10_; clear n0_ n1_ n2_ n3_ n4_ n5_ n6_ n7_ n8_ n9_ n10_; clear hb ho131; obtain ⟨Ao132, co132, eo132⟩ := Kd.R_slice HO188.out; subst eo132) | ((with_reducible refine gate_callee (f := 17) rfl ?_); refine goesL_ (some 162) rfl rfl Tryd.func17 (by kernel_rfl) rfl #[.slice Ao132 y186.length co132] rfl (by (try simp only [List.map_toArray, List.map_cons, List.map_nil]); first | done | rfl | (simp only [List.length_drop, List.length_take]; rfl)) ?_; (with_reducible refine (scl.calls k2 _ _ y186 t189 _ ?side1 ?side2 A95.out).mono ?_); (case side1 => repeat (first | exact (Kd.R_reads' HO188.out).2.2 | (with_reducible refine Kd.C_alloc ?_ _) | (with_reducible refine Kd.C_drewN ?_ _) | (with_reducible refine Kd.C_drew ?_))); (case side2 => exact (Kd.R_reads' HO188.out).2.1); rintro e w133 ⟨v190, rfl, ho0, hb⟩; refine ⟨_, rfl, ?_⟩; have n0_ := Aside0.mk (Kd.R_below (by (with_reducible repeat (first | apply Kd.R_alloc | apply Kd.R_drewN | apply Kd.R_drew)); exact HO_6.out) hb); have n1_ := Aside0.mk (Kd.R_elder' (by (with_reducible repeat (first | apply Kd.R_alloc | apply Kd.R_drewN | apply Kd.R_drew)); exact HO157.out) (Kd.R_base ho0) hb); have n2_ := Aside0.mk (Kd.R_below (by (with_reducible repeat (first | apply Kd.R_alloc | apply Kd.R_drewN | apply Kd.R_drew)); exact HO160.out) hb); have n3_ := Aside0.mk (Kd.R_below (by (with_reducible repeat (first | apply Kd.R_alloc | apply Kd.R_drewN | apply Kd.R_drew)); exact HO171.out) hb); have n4_ := Aside0.mk (Kd.R_below (by (with_reducible repeat (first | apply Kd.R_alloc | apply Kd.R_drewN | apply Kd.R_drew)); exact HO188.out) hb); have n5_ := Aside0.mk (Kd.R_lower (Kd.R_new' ho0 (Kd.R_lt (by (with_reducible repeat (first | apply Kd.R_alloc | apply Kd.R_drewN | apply Kd.R_drew)); exact HO157.out))) (below_size (by repeat (first | (with_reducible first | exact HB.out | apply below_alloc | apply pw_below_drewN | apply below_drew1) | exact HB.out)))); have n6_ := Aside0.mk (Kd.C_below (by repeat (first | (with_reducible exact HR164.out) | (with_reducible refine Kd.C_alloc ?_ _) | (with_reducible refine Kd.C_drewN ?_ _) | (with_reducible refine Kd.C_drew ?_) | exact HR164.out)) hb); have n7_ := Aside0.mk (Kd.C_below (by repeat (first | (with_reducible exact HR168.out) | (with_reducible refine Kd.C_alloc ?_ _) | (with_reducible refine Kd.C_drewN ?_ _) | (with_reducible refine Kd.C_drew ?_) | exact HR168.out)) hb); have n8_ := Aside0.mk (Kd.C_below (by repeat (first | (with_reducible exact HR176.out) | (with_reducible refine Kd.C_alloc ?_ _) | (with_reducible refine Kd.C_drewN ?_ _) | (with_reducible refine Kd.C_drew ?_) | exact HR176.out)) hb); have n9_ := Aside0.mk (Kd.C_below (by repeat (first | (with_reducible exact HR180.out) | (with_reducible refine Kd.C_alloc ?_ _) | (with_reducible refine Kd.C_drewN ?_ _) | (with_reducible refine Kd.C_drew ?_) | exact HR180.out)) hb); have n10_ := Aside0.mk (Kd.C_below (by repeat (first | (with_reducible exact HR184.out) | (with_reducible refine Kd.C_alloc ?_ _) | (with_reducible refine Kd.C_drewN ?_ _) | (with_reducible refine Kd.C_drew ?_) | exact HR184.out)) hb); have n11_ := Aside0.mk (below_step (by repeat (first | (with_reducible first | exact HB.out | apply below_alloc | apply pw_below_drewN | apply below_drew1) | exact HB.out)) hb); clear HO_6; clear HO157; clear HO160; clear HO171; clear HO188; clear HR164; clear HR168; clear HR176; clear HR180; clear HR184; clear HB; have HO_6 := n0_; have HO157 := n1_; have HO160 := n2_; have HO171 := n3_; have HO188 := n4_; have HO191 := n5_; have HR164 := n6_; have HR168 := n7_; have HR176 := n8_; have HR180 := n9_; have HR184 := n10_; have HB := n11_; clear n0_ n1_ n2_ n3_ n4_ n5_ n6_ n7_ n8_ n9_ n10_ n11_; (try clear hb); (try clear hb2); (try clear hk); (try clear hi); (try clear ho0)) | ((with_reducible refine gate_dst (N := 167) rfl ?_); (try (refine gate_guard (by rfl) ?_; dsimp only)); refine Kd.R_lit (Kd.int .u8) _ 33 ?hg (N := 167) ?hd (xs := ([14, 1, 14, 9, 9, 14, 9, 10] : List Int)) (inner := [.int .u8 14, .int .u8 1, .int .u8 14, .int .u8 9, .int .u8 9, .int .u8 14, .int .u8 9, .int .u8 10]) (ok := fun _ => True) (okp := fun _ => True) ?hr ?hp (fun _ hk => hk) trivial (Below.refl _ _) (Nat.le_refl _) (by simp) ?_; (case hd => rfl); (case hg => rfl); (case hr => first | (go_simp; done) | (go_simp; rfl)); (case hp => exact (Reps.one (show Kd.M (Kd.int .u8) _ _ _ 14 [.int .u8 14] from rfl) (Reps.one (show Kd.M (Kd.int .u8) _ _ _ 1 [.int .u8 1] from rfl) (Reps.one (show Kd.M (Kd.int .u8) _ _ _ 14 [.int .u8 14] from rfl) (Reps.one (show Kd.M (Kd.int .u8) _ _ _ 9 [.int .u8 9] from rfl) (Reps.one (show Kd.M (Kd.int .u8) _ _ _ 9 [.int .u8 9] from rfl) (Reps.one (show Kd.M (Kd.int .u8) _ _ _ 14 [.int .u8 14] from rfl) (Reps.one (show Kd.M (Kd.int .u8) _ _ _ 9 [.int .u8 9] from rfl) (Reps.one (show Kd.M (Kd.int .u8) _ _ _ 10 [.int .u8 10] from rfl) (Reps.none _ _)))))))))); intro v193 w134 ho135 hb hg_ hnew_; clear hg_ hnew_; (first | rw [← Ny192.out] at ho135 | (simp only [Int.reduceToNat] at ho135; rw [← Ny192.out] at ho135)); have n0_ := Aside0.mk (Kd.R_below (by (with_reducible repeat (first | apply Kd.R_alloc | apply Kd.R_drewN | apply Kd.R_drew)); exact HO_6.out) hb); have n1_ := Aside0.mk (Kd.R_elder' (by (with_reducible repeat (first | apply Kd.R_alloc | apply Kd.R_drewN | apply Kd.R_drew)); exact HO157.out) (Kd.R_base ho135) hb); have n2_ := Aside0.mk (Kd.R_below (by (with_reducible repeat (first | apply Kd.R_alloc | apply Kd.R_drewN | apply Kd.R_drew)); exact HO160.out) hb); have n3_ := Aside0.mk (Kd.R_below (by (with_reducible repeat (first | apply Kd.R_alloc | apply Kd.R_drewN | apply Kd.R_drew)); exact HO171.out) hb); have n4_ := Aside0.mk (Kd.R_below (by (with_reducible repeat (first | apply Kd.R_alloc | apply Kd.R_drewN | apply Kd.R_drew)); exact HO188.out) hb); have n5_ := Aside0.mk (Kd.R_elder' (by (with_reducible repeat (first | apply Kd.R_alloc | apply Kd.R_drewN | apply Kd.R_drew)); exact HO191.out) (Kd.R_base ho135) hb); have n6_ := Aside0.mk (Kd.R_lower (Kd.R_new' (Kd.R_new' ho135 (Kd.R_lt (by (with_reducible repeat (first | apply Kd.R_alloc | apply Kd.R_drewN | apply Kd.R_drew)); exact HO157.out))) (Kd.R_lt (by (with_reducible repeat (first | apply Kd.R_alloc | apply Kd.R_drewN | apply Kd.R_drew)); exact HO191.out))) (below_size (by repeat (first | (with_reducible first | exact HB.out | apply below_alloc | apply pw_below_drewN | apply below_drew1) | exact HB.out)))); have n7_ := Aside0.mk (Kd.C_below (by repeat (first | (with_reducible exact HR164.out) | (with_reducible refine Kd.C_alloc ?_ _) | (with_reducible refine Kd.C_drewN ?_ _) | (with_reducible refine Kd.C_drew ?_) | exact HR164.out)) hb); have n8_ := Aside0.mk (Kd.C_below (by repeat (first | (with_reducible exact HR168.out) | (with_reducible refine Kd.C_alloc ?_ _) | (with_reducible refine Kd.C_drewN ?_ _) | (with_reducible refine Kd.C_drew ?_) | exact HR168.out)) hb); have n9_ := Aside0.mk (Kd.C_below (by repeat (first | (with_reducible exact HR176.out) | (with_reducible refine Kd.C_alloc ?_ _) | (with_reducible refine Kd.C_drewN ?_ _) | (with_reducible refine Kd.C_drew ?_) | exact HR176.out)) hb); have n10_ := Aside0.mk (Kd.C_below (by repeat (first | (with_reducible exact HR180.out) | (with_reducible refine Kd.C_alloc ?_ _) | (with_reducible refine Kd.C_drewN ?_ _) | (with_reducible refine Kd.C_drew ?_) | exact HR180.out)) hb); have n11_ := Aside0.mk (Kd.C_below (by repeat (first | (with_reducible exact HR184.out) | (with_reducible refine Kd.C_alloc ?_ _) | (with_reducible refine Kd.C_drewN ?_ _) | (with_reducible refine Kd.C_drew ?_) | exact HR184.out)) hb); have n12_ := Aside0.mk (below_step (by repeat (first | (with_reducible first | exact HB.out | apply below_alloc | apply pw_below_drewN | apply below_drew1) | exact HB.out)) hb); clear HO_6; clear HO157; clear HO160; clear HO171; clear HO188; clear HO191; clear HR164; clear HR168; clear HR176; clear HR180; clear HR184; clear HB; have HO_6 := n0_; have HO157 := n1_; have HO160 := n2_; have HO171 := n3_; have HO188 := n4_; have HO191 := n5_; have HO194 := n6_; have HR164 := n7_; have HR168 := n8_; have HR176 := n9_; have HR180 := n10_; have HR184 := n11_; have HB := n12_; clear n0_ n1_ n2_ n3_ n4_ n5_ n6_ n7_ n8_ n9_ n10_ n11_ n12_; clear hb ho135))
       have n0_ := Aside0.mk (Kd.R_drew HO_6.out)
       have n1_ := Aside0.mk (Kd.R_drew HO157.out)
       have n2_ := Aside0.mk (Kd.R_drew HO160.out)
       have n3_ := Aside0.mk (Kd.R_drew HO171.out)
       have n4_ := Aside0.mk (Kd.R_drew HO188.out)
       have n5_ := Aside0.mk (Kd.R_drew HO191.out)
       have n6_ := Aside0.mk (Kd.R_drew HO194.out)
       have n7_ := Aside0.mk (Kd.C_drew HR164.out)
       have n8_ := Aside0.mk (Kd.C_drew HR168.out)
       have n9_ := Aside0.mk (Kd.C_drew HR176.out)
       have n10_ := Aside0.mk (Kd.C_drew HR180.out)
       have n11_ := Aside0.mk (Kd.C_drew HR184.out)
       have n12_ := Aside0.mk (below_drew1 HB.out)
       clear HO_6
       clear HO157
       clear HO160
       clear HO171
       clear HO188
       clear HO191
       clear HO194
       clear HR164
       clear HR168
       clear HR176
       clear HR180
       clear HR184
       clear HB
       have HO_6 := n0_
       have HO157 := n1_
       have HO160 := n2_
       have HO171 := n3_
       have HO188 := n4_
       have HO191 := n5_
       have HO194 := n6_
       have HR164 := n7_
       have HR168 := n8_
       have HR176 := n9_
       have HR180 := n10_
       have HR184 := n11_
       have HB := n12_
       clear n0_ n1_ n2_ n3_ n4_ n5_ n6_ n7_ n8_ n9_ n10_ n11_ n12_
       refine start_ (n := 10) (S := fun w' => True) (ds := []) #[F_,F_,F_,F_,F_,F_,F_,F_,F_,F_] (by kernel_rfl) rfl rfl trivial (fun hHeld => ?_); refine with_tabW sPK.tab19 sPK.bits19 (fun HT_ HW_ => ?_)
       generalize w134.drew = w136 at HO_6 HO157 HO160 HO171 HO188 HO191 HO194 HR164 HR168 HR176 HR180 HR184 HB hHeld ⊢
       refine pure_ (i := 3) (N := some 172) (v := ?_) (a' := ?_) #[F_,F_,F_,T_,F_,F_,F_,F_,F_,F_] rfl rfl (any_of HT_.out (by kernel_rfl)) (fun _ _ _ h => h) (Or.inl ⟨by rfl, ?_⟩) ?_ ?_
       rotate_left
       ·intro w'
        go_simp
        with_reducible rfl
       rotate_left
       ·simp only [Act.put, List.setIfInBounds_toArray, List.set_cons_zero, List.set_cons_succ, i64_w, i32_w]
        rfl
       refine join_ (σ := Value × Value × Value) 6 #[T_,T_,T_,T_,F_,F_,F_,F_,F_,F_] (fun s_ => [(169, s_.1), (170, s_.2.1), (171, s_.2.2)]) (fun s_ w' => (Kd.R (Kd.int .u8) 33 w' w.heap.size (fun k_ => some k_ ≠ (v190 : Value).ownBlock ∧ some k_ ≠ (v193 : Value).ownBlock ∧ some k_ ≠ (s_.2.1 : Value).ownBlock ∧ some k_ ≠ (s_.2.2 : Value).ownBlock) (.slice Ao118 t155.length co118) t155) ∧ (Kd.R k30 30 w' w.heap.size (fun k_ => some k_ ≠ (.slice Ao124 t169.length co124 : Value).ownBlock) (.slice Ao120 t158.length co120) t158) ∧ (Kd.R k30 30 w' w.heap.size (fun k_ => some k_ ≠ (.slice Ao120 t158.length co120 : Value).ownBlock) (.slice Ao124 t169.length co124) t169) ∧ (Kd.R (Kd.int .i32) 21 w' w.heap.size (fun k_ => some k_ ≠ (s_.1 : Value).ownBlock ∧ some k_ ≠ (.slice Ao115 x6_2.length co115 : Value).ownBlock) (.slice Ao132 y186.length co132) y186) ∧ (Kd.R (Kd.int .u8) 33 w' w.heap.size (fun k_ => some k_ ≠ (.slice Ao118 t155.length co118 : Value).ownBlock ∧ some k_ ≠ (v193 : Value).ownBlock ∧ some k_ ≠ (s_.2.1 : Value).ownBlock ∧ some k_ ≠ (s_.2.2 : Value).ownBlock) v190 t189) ∧ (Kd.R (Kd.int .u8) 33 w' w.heap.size (fun k_ => some k_ ≠ (.slice Ao118 t155.length co118 : Value).ownBlock ∧ some k_ ≠ (v190 : Value).ownBlock ∧ some k_ ≠ (s_.2.1 : Value).ownBlock ∧ some k_ ≠ (s_.2.2 : Value).ownBlock) v193 y192) ∧ (Kd.R (Kd.int .i32) 21 w' w.heap.size (fun k_ => some k_ ≠ (.slice Ao132 y186.length co132 : Value).ownBlock ∧ some k_ ≠ (.slice Ao115 x6_2.length co115 : Value).ownBlock) s_.1 y195) ∧ (Kd.R (Kd.int .u8) 33 w' w.heap.size (fun k_ => some k_ ≠ (.slice Ao118 t155.length co118 : Value).ownBlock ∧ some k_ ≠ (v190 : Value).ownBlock ∧ some k_ ≠ (v193 : Value).ownBlock ∧ some k_ ≠ (s_.2.2 : Value).ownBlock) s_.2.1 y198) ∧ (Kd.R (Kd.int .u8) 33 w' w.heap.size (fun k_ => some k_ ≠ (.slice Ao118 t155.length co118 : Value).ownBlock ∧ some k_ ≠ (v190 : Value).ownBlock ∧ some k_ ≠ (v193 : Value).ownBlock ∧ some k_ ≠ (s_.2.1 : Value).ownBlock) s_.2.2 y201) ∧ (Kd.R (Kd.int .i32) 21 w' w.heap.size (fun k_ => some k_ ≠ (.slice Ao132 y186.length co132 : Value).ownBlock ∧ some k_ ≠ (s_.1 : Value).ownBlock) (.slice Ao115 x6_2.length co115) x6_2) ∧ (Below w.heap.size w w')) ?_ ?_
       rotate_left
       ·intro hJ0_1_2
        refine join_ (σ := Value × Value) 7 #[T_,T_,F_,T_,F_,F_,F_,F_,F_,F_] (fun s_ => [(169, s_.1), (170, s_.2)]) (fun s_ w' => (Kd.R (Kd.int .u8) 33 w' w.heap.size (fun k_ => some k_ ≠ (v190 : Value).ownBlock ∧ some k_ ≠ (v193 : Value).ownBlock ∧ some k_ ≠ (s_.2 : Value).ownBlock) (.slice Ao118 t155.length co118) t155) ∧ (Kd.R k30 30 w' w.heap.size (fun k_ => some k_ ≠ (.slice Ao124 t169.length co124 : Value).ownBlock) (.slice Ao120 t158.length co120) t158) ∧ (Kd.R k30 30 w' w.heap.size (fun k_ => some k_ ≠ (.slice Ao120 t158.length co120 : Value).ownBlock) (.slice Ao124 t169.length co124) t169) ∧ (Kd.R (Kd.int .i32) 21 w' w.heap.size (fun k_ => some k_ ≠ (s_.1 : Value).ownBlock ∧ some k_ ≠ (.slice Ao115 x6_2.length co115 : Value).ownBlock) (.slice Ao132 y186.length co132) y186) ∧ (Kd.R (Kd.int .u8) 33 w' w.heap.size (fun k_ => some k_ ≠ (.slice Ao118 t155.length co118 : Value).ownBlock ∧ some k_ ≠ (v193 : Value).ownBlock ∧ some k_ ≠ (s_.2 : Value).ownBlock) v190 t189) ∧ (Kd.R (Kd.int .u8) 33 w' w.heap.size (fun k_ => some k_ ≠ (.slice Ao118 t155.length co118 : Value).ownBlock ∧ some k_ ≠ (v190 : Value).ownBlock ∧ some k_ ≠ (s_.2 : Value).ownBlock) v193 y192) ∧ (Kd.R (Kd.int .i32) 21 w' w.heap.size (fun k_ => some k_ ≠ (.slice Ao132 y186.length co132 : Value).ownBlock ∧ some k_ ≠ (.slice Ao115 x6_2.length co115 : Value).ownBlock) s_.1 y195) ∧ (Kd.R (Kd.int .u8) 33 w' w.heap.size (fun k_ => some k_ ≠ (.slice Ao118 t155.length co118 : Value).ownBlock ∧ some k_ ≠ (v190 : Value).ownBlock ∧ some k_ ≠ (v193 : Value).ownBlock) s_.2 y198) ∧ (Kd.R (Kd.int .i32) 21 w' w.heap.size (fun k_ => some k_ ≠ (.slice Ao132 y186.length co132 : Value).ownBlock ∧ some k_ ≠ (s_.1 : Value).ownBlock) (.slice Ao115 x6_2.length co115) x6_2) ∧ (Below w.heap.size w w')) ?_ ?_
        rotate_left
        ·intro hJ0_1
         refine join_ (σ := Value × Value) 7 #[T_,F_,T_,T_,F_,F_,F_,F_,F_,F_] (fun s_ => [(169, s_.1), (171, s_.2)]) (fun s_ w' => (Kd.R (Kd.int .u8) 33 w' w.heap.size (fun k_ => some k_ ≠ (v190 : Value).ownBlock ∧ some k_ ≠ (v193 : Value).ownBlock ∧ some k_ ≠ (s_.2 : Value).ownBlock) (.slice Ao118 t155.length co118) t155) ∧ (Kd.R k30 30 w' w.heap.size (fun k_ => some k_ ≠ (.slice Ao124 t169.length co124 : Value).ownBlock) (.slice Ao120 t158.length co120) t158) ∧ (Kd.R k30 30 w' w.heap.size (fun k_ => some k_ ≠ (.slice Ao120 t158.length co120 : Value).ownBlock) (.slice Ao124 t169.length co124) t169) ∧ (Kd.R (Kd.int .i32) 21 w' w.heap.size (fun k_ => some k_ ≠ (s_.1 : Value).ownBlock ∧ some k_ ≠ (.slice Ao115 x6_2.length co115 : Value).ownBlock) (.slice Ao132 y186.length co132) y186) ∧ (Kd.R (Kd.int .u8) 33 w' w.heap.size (fun k_ => some k_ ≠ (.slice Ao118 t155.length co118 : Value).ownBlock ∧ some k_ ≠ (v193 : Value).ownBlock ∧ some k_ ≠ (s_.2 : Value).ownBlock) v190 t189) ∧ (Kd.R (Kd.int .u8) 33 w' w.heap.size (fun k_ => some k_ ≠ (.slice Ao118 t155.length co118 : Value).ownBlock ∧ some k_ ≠ (v190 : Value).ownBlock ∧ some k_ ≠ (s_.2 : Value).ownBlock) v193 y192) ∧ (Kd.R (Kd.int .i32) 21 w' w.heap.size (fun k_ => some k_ ≠ (.slice Ao132 y186.length co132 : Value).ownBlock ∧ some k_ ≠ (.slice Ao115 x6_2.length co115 : Value).ownBlock) s_.1 y195) ∧ (Kd.R (Kd.int .u8) 33 w' w.heap.size (fun k_ => some k_ ≠ (.slice Ao118 t155.length co118 : Value).ownBlock ∧ some k_ ≠ (v190 : Value).ownBlock ∧ some k_ ≠ (v193 : Value).ownBlock) s_.2 y201) ∧ (Kd.R (Kd.int .i32) 21 w' w.heap.size (fun k_ => some k_ ≠ (.slice Ao132 y186.length co132 : Value).ownBlock ∧ some k_ ≠ (s_.1 : Value).ownBlock) (.slice Ao115 x6_2.length co115) x6_2) ∧ (Below w.heap.size w w')) ?_ ?_
         rotate_left
         ·intro hJ0_2
          refine join_ (σ := Value × Value) 7 #[F_,T_,T_,T_,F_,F_,F_,F_,F_,F_] (fun s_ => [(170, s_.1), (171, s_.2)]) (fun s_ w' => (Kd.R (Kd.int .u8) 33 w' w.heap.size (fun k_ => some k_ ≠ (v190 : Value).ownBlock ∧ some k_ ≠ (v193 : Value).ownBlock ∧ some k_ ≠ (s_.1 : Value).ownBlock ∧ some k_ ≠ (s_.2 : Value).ownBlock) (.slice Ao118 t155.length co118) t155) ∧ (Kd.R k30 30 w' w.heap.size (fun k_ => some k_ ≠ (.slice Ao124 t169.length co124 : Value).ownBlock) (.slice Ao120 t158.length co120) t158) ∧ (Kd.R k30 30 w' w.heap.size (fun k_ => some k_ ≠ (.slice Ao120 t158.length co120 : Value).ownBlock) (.slice Ao124 t169.length co124) t169) ∧ (Kd.R (Kd.int .i32) 21 w' w.heap.size (fun k_ => some k_ ≠ (.slice Ao115 x6_2.length co115 : Value).ownBlock) (.slice Ao132 y186.length co132) y186) ∧ (Kd.R (Kd.int .u8) 33 w' w.heap.size (fun k_ => some k_ ≠ (.slice Ao118 t155.length co118 : Value).ownBlock ∧ some k_ ≠ (v193 : Value).ownBlock ∧ some k_ ≠ (s_.1 : Value).ownBlock ∧ some k_ ≠ (s_.2 : Value).ownBlock) v190 t189) ∧ (Kd.R (Kd.int .u8) 33 w' w.heap.size (fun k_ => some k_ ≠ (.slice Ao118 t155.length co118 : Value).ownBlock ∧ some k_ ≠ (v190 : Value).ownBlock ∧ some k_ ≠ (s_.1 : Value).ownBlock ∧ some k_ ≠ (s_.2 : Value).ownBlock) v193 y192) ∧ (Kd.R (Kd.int .u8) 33 w' w.heap.size (fun k_ => some k_ ≠ (.slice Ao118 t155.length co118 : Value).ownBlock ∧ some k_ ≠ (v190 : Value).ownBlock ∧ some k_ ≠ (v193 : Value).ownBlock ∧ some k_ ≠ (s_.2 : Value).ownBlock) s_.1 y198) ∧ (Kd.R (Kd.int .u8) 33 w' w.heap.size (fun k_ => some k_ ≠ (.slice Ao118 t155.length co118 : Value).ownBlock ∧ some k_ ≠ (v190 : Value).ownBlock ∧ some k_ ≠ (v193 : Value).ownBlock ∧ some k_ ≠ (s_.1 : Value).ownBlock) s_.2 y201) ∧ (Kd.R (Kd.int .i32) 21 w' w.heap.size (fun k_ => some k_ ≠ (.slice Ao132 y186.length co132 : Value).ownBlock) (.slice Ao115 x6_2.length co115) x6_2) ∧ (Below w.heap.size w w')) ?_ ?_
          rotate_left
          ·intro hJ1_2
           refine join_ (σ := Value) 8 #[T_,F_,F_,T_,F_,F_,F_,F_,F_,F_] (fun s_ => [(169, s_)]) (fun s_ w' => (Kd.R (Kd.int .u8) 33 w' w.heap.size (fun k_ => some k_ ≠ (v190 : Value).ownBlock ∧ some k_ ≠ (v193 : Value).ownBlock) (.slice Ao118 t155.length co118) t155) ∧ (Kd.R k30 30 w' w.heap.size (fun k_ => some k_ ≠ (.slice Ao124 t169.length co124 : Value).ownBlock) (.slice Ao120 t158.length co120) t158) ∧ (Kd.R k30 30 w' w.heap.size (fun k_ => some k_ ≠ (.slice Ao120 t158.length co120 : Value).ownBlock) (.slice Ao124 t169.length co124) t169) ∧ (Kd.R (Kd.int .i32) 21 w' w.heap.size (fun k_ => some k_ ≠ (s_ : Value).ownBlock ∧ some k_ ≠ (.slice Ao115 x6_2.length co115 : Value).ownBlock) (.slice Ao132 y186.length co132) y186) ∧ (Kd.R (Kd.int .u8) 33 w' w.heap.size (fun k_ => some k_ ≠ (.slice Ao118 t155.length co118 : Value).ownBlock ∧ some k_ ≠ (v193 : Value).ownBlock) v190 t189) ∧ (Kd.R (Kd.int .u8) 33 w' w.heap.size (fun k_ => some k_ ≠ (.slice Ao118 t155.length co118 : Value).ownBlock ∧ some k_ ≠ (v190 : Value).ownBlock) v193 y192) ∧ (Kd.R (Kd.int .i32) 21 w' w.heap.size (fun k_ => some k_ ≠ (.slice Ao132 y186.length co132 : Value).ownBlock ∧ some k_ ≠ (.slice Ao115 x6_2.length co115 : Value).ownBlock) s_ y195) ∧ (Kd.R (Kd.int .i32) 21 w' w.heap.size (fun k_ => some k_ ≠ (.slice Ao132 y186.length co132 : Value).ownBlock ∧ some k_ ≠ (s_ : Value).ownBlock) (.slice Ao115 x6_2.length co115) x6_2) ∧ (Below w.heap.size w w')) ?_ ?_
           rotate_left
           ·intro hJ0
            refine join_ (σ := Value) 8 #[F_,T_,F_,T_,F_,F_,F_,F_,F_,F_] (fun s_ => [(170, s_)]) (fun s_ w' => (Kd.R (Kd.int .u8) 33 w' w.heap.size (fun k_ => some k_ ≠ (v190 : Value).ownBlock ∧ some k_ ≠ (v193 : Value).ownBlock ∧ some k_ ≠ (s_ : Value).ownBlock) (.slice Ao118 t155.length co118) t155) ∧ (Kd.R k30 30 w' w.heap.size (fun k_ => some k_ ≠ (.slice Ao124 t169.length co124 : Value).ownBlock) (.slice Ao120 t158.length co120) t158) ∧ (Kd.R k30 30 w' w.heap.size (fun k_ => some k_ ≠ (.slice Ao120 t158.length co120 : Value).ownBlock) (.slice Ao124 t169.length co124) t169) ∧ (Kd.R (Kd.int .i32) 21 w' w.heap.size (fun k_ => some k_ ≠ (.slice Ao115 x6_2.length co115 : Value).ownBlock) (.slice Ao132 y186.length co132) y186) ∧ (Kd.R (Kd.int .u8) 33 w' w.heap.size (fun k_ => some k_ ≠ (.slice Ao118 t155.length co118 : Value).ownBlock ∧ some k_ ≠ (v193 : Value).ownBlock ∧ some k_ ≠ (s_ : Value).ownBlock) v190 t189) ∧ (Kd.R (Kd.int .u8) 33 w' w.heap.size (fun k_ => some k_ ≠ (.slice Ao118 t155.length co118 : Value).ownBlock ∧ some k_ ≠ (v190 : Value).ownBlock ∧ some k_ ≠ (s_ : Value).ownBlock) v193 y192) ∧ (Kd.R (Kd.int .u8) 33 w' w.heap.size (fun k_ => some k_ ≠ (.slice Ao118 t155.length co118 : Value).ownBlock ∧ some k_ ≠ (v190 : Value).ownBlock ∧ some k_ ≠ (v193 : Value).ownBlock) s_ y198) ∧ (Kd.R (Kd.int .i32) 21 w' w.heap.size (fun k_ => some k_ ≠ (.slice Ao132 y186.length co132 : Value).ownBlock) (.slice Ao115 x6_2.length co115) x6_2) ∧ (Below w.heap.size w w')) ?_ ?_
            rotate_left
            ·intro hJ1
             refine join_ (σ := Value) 8 #[F_,F_,T_,T_,F_,F_,F_,F_,F_,F_] (fun s_ => [(171, s_)]) (fun s_ w' => (Kd.R (Kd.int .u8) 33 w' w.heap.size (fun k_ => some k_ ≠ (v190 : Value).ownBlock ∧ some k_ ≠ (v193 : Value).ownBlock ∧ some k_ ≠ (s_ : Value).ownBlock) (.slice Ao118 t155.length co118) t155) ∧ (Kd.R k30 30 w' w.heap.size (fun k_ => some k_ ≠ (.slice Ao124 t169.length co124 : Value).ownBlock) (.slice Ao120 t158.length co120) t158) ∧ (Kd.R k30 30 w' w.heap.size (fun k_ => some k_ ≠ (.slice Ao120 t158.length co120 : Value).ownBlock) (.slice Ao124 t169.length co124) t169) ∧ (Kd.R (Kd.int .i32) 21 w' w.heap.size (fun k_ => some k_ ≠ (.slice Ao115 x6_2.length co115 : Value).ownBlock) (.slice Ao132 y186.length co132) y186) ∧ (Kd.R (Kd.int .u8) 33 w' w.heap.size (fun k_ => some k_ ≠ (.slice Ao118 t155.length co118 : Value).ownBlock ∧ some k_ ≠ (v193 : Value).ownBlock ∧ some k_ ≠ (s_ : Value).ownBlock) v190 t189) ∧ (Kd.R (Kd.int .u8) 33 w' w.heap.size (fun k_ => some k_ ≠ (.slice Ao118 t155.length co118 : Value).ownBlock ∧ some k_ ≠ (v190 : Value).ownBlock ∧ some k_ ≠ (s_ : Value).ownBlock) v193 y192) ∧ (Kd.R (Kd.int .u8) 33 w' w.heap.size (fun k_ => some k_ ≠ (.slice Ao118 t155.length co118 : Value).ownBlock ∧ some k_ ≠ (v190 : Value).ownBlock ∧ some k_ ≠ (v193 : Value).ownBlock) s_ y201) ∧ (Kd.R (Kd.int .i32) 21 w' w.heap.size (fun k_ => some k_ ≠ (.slice Ao132 y186.length co132 : Value).ownBlock) (.slice Ao115 x6_2.length co115) x6_2) ∧ (Below w.heap.size w w')) ?_ ?_
             rotate_left
             ·intro hJ2
              refine three_ (i := 0) (j := 1) (k := 2) (Ni := some 169) (Nj := some 170) (Nk := some 171) #[T_,F_,F_,T_,F_,F_,F_,F_,F_,F_] #[F_,T_,F_,T_,F_,F_,F_,F_,F_,F_] #[F_,F_,T_,T_,F_,F_,F_,F_,F_,F_] rfl rfl rfl rfl rfl rfl (three_of HT_.out (by kernel_rfl)) (by decide) (by decide) (by decide) (fun K hK => ?_) (fun K hK => ?_) (fun K hK => ?_)
              ·skip
               refine Kd.R_make_step (Kd.int .i32) _ 21 (by rfl) (N := 169) rfl 22 _ _ rfl 65537 rfl rfl Tryd.underlying22 (.int .i32 0) 4 info21 rfl (by decide) (by omega) 0 (ok := fun _ => True) (okp := fun _ => True) rfl (fun _ hk => hk) trivial (by omega) (by omega) (Below.refl _ _) (Nat.le_refl _) ?_
               intro v196 w137 ho138 hb hg_ hnew_
               clear hg_ hnew_
               (first | rw [← Ny195.out] at ho138 | (simp only [Int.reduceToNat] at ho138; rw [← Ny195.out] at ho138))
               have n0_ := Aside0.mk (Kd.R_elder' (by (with_reducible repeat (first | apply Kd.R_alloc | apply Kd.R_drewN | apply Kd.R_drew)); exact HO_6.out) (Kd.R_base ho138) hb)
               have n1_ := Aside0.mk (Kd.R_below (by (with_reducible repeat (first | apply Kd.R_alloc | apply Kd.R_drewN | apply Kd.R_drew)); exact HO157.out) hb)
               have n2_ := Aside0.mk (Kd.R_below (by (with_reducible repeat (first | apply Kd.R_alloc | apply Kd.R_drewN | apply Kd.R_drew)); exact HO160.out) hb)
               have n3_ := Aside0.mk (Kd.R_below (by (with_reducible repeat (first | apply Kd.R_alloc | apply Kd.R_drewN | apply Kd.R_drew)); exact HO171.out) hb)
               have n4_ := Aside0.mk (Kd.R_elder' (by (with_reducible repeat (first | apply Kd.R_alloc | apply Kd.R_drewN | apply Kd.R_drew)); exact HO188.out) (Kd.R_base ho138) hb)
               have n5_ := Aside0.mk (Kd.R_below (by (with_reducible repeat (first | apply Kd.R_alloc | apply Kd.R_drewN | apply Kd.R_drew)); exact HO191.out) hb)
               have n6_ := Aside0.mk (Kd.R_below (by (with_reducible repeat (first | apply Kd.R_alloc | apply Kd.R_drewN | apply Kd.R_drew)); exact HO194.out) hb)
               have n7_ := Aside0.mk (Kd.R_lower (Kd.R_new' (Kd.R_new' ho138 (Kd.R_lt (by (with_reducible repeat (first | apply Kd.R_alloc | apply Kd.R_drewN | apply Kd.R_drew)); exact HO_6.out))) (Kd.R_lt (by (with_reducible repeat (first | apply Kd.R_alloc | apply Kd.R_drewN | apply Kd.R_drew)); exact HO188.out))) (below_size (by repeat (first | (with_reducible first | exact HB.out | apply below_alloc | apply pw_below_drewN | apply below_drew1) | exact HB.out))))
               have n8_ := Aside0.mk (Kd.C_below (by repeat (first | (with_reducible exact HR164.out) | (with_reducible refine Kd.C_alloc ?_ _) | (with_reducible refine Kd.C_drewN ?_ _) | (with_reducible refine Kd.C_drew ?_) | exact HR164.out)) hb)
               have n9_ := Aside0.mk (Kd.C_below (by repeat (first | (with_reducible exact HR168.out) | (with_reducible refine Kd.C_alloc ?_ _) | (with_reducible refine Kd.C_drewN ?_ _) | (with_reducible refine Kd.C_drew ?_) | exact HR168.out)) hb)
               have n10_ := Aside0.mk (Kd.C_below (by repeat (first | (with_reducible exact HR176.out) | (with_reducible refine Kd.C_alloc ?_ _) | (with_reducible refine Kd.C_drewN ?_ _) | (with_reducible refine Kd.C_drew ?_) | exact HR176.out)) hb)
               have n11_ := Aside0.mk (Kd.C_below (by repeat (first | (with_reducible exact HR180.out) | (with_reducible refine Kd.C_alloc ?_ _) | (with_reducible refine Kd.C_drewN ?_ _) | (with_reducible refine Kd.C_drew ?_) | exact HR180.out)) hb)
               have n12_ := Aside0.mk (Kd.C_below (by repeat (first | (with_reducible exact HR184.out) | (with_reducible refine Kd.C_alloc ?_ _) | (with_reducible refine Kd.C_drewN ?_ _) | (with_reducible refine Kd.C_drew ?_) | exact HR184.out)) hb)
               have n13_ := Aside0.mk (below_step (by repeat (first | (with_reducible first | exact HB.out | apply below_alloc | apply pw_below_drewN | apply below_drew1) | exact HB.out)) hb)
               clear HO_6
               clear HO157
               clear HO160
               clear HO171
               clear HO188
               clear HO191
               clear HO194
               clear HR164
               clear HR168
               clear HR176
               clear HR180
               clear HR184
               clear HB
               have HO_6 := n0_
               have HO157 := n1_
               have HO160 := n2_
               have HO171 := n3_
               have HO188 := n4_
               have HO191 := n5_
               have HO194 := n6_
               have HO197 := n7_
               have HR164 := n8_
               have HR168 := n9_
               have HR176 := n10_
               have HR180 := n11_
               have HR184 := n12_
               have HB := n13_
               clear n0_ n1_ n2_ n3_ n4_ n5_ n6_ n7_ n8_ n9_ n10_ n11_ n12_ n13_
               clear hb ho138
               refine hK.out _ _ trivial (fun hHeld => ?_)
               clear hK K
               refine norm_ (a' := ?_) ?_ ?_
               rotate_left
               ·show Act.put _ (some 169) _ = _
                simp only [Act.put, List.setIfInBounds_toArray, List.set_cons_zero, List.set_cons_succ, i64_w, i32_w]
                rfl
               exact norm_ (by first | (simp only [putAll, Act.put, List.setIfInBounds_toArray, List.set_cons_zero, List.set_cons_succ]; done) | (simp only [putAll, Act.put, List.setIfInBounds_toArray, List.set_cons_zero, List.set_cons_succ]; rfl)) (hJ0 (v196) _ ⟨(by (with_reducible repeat (first | apply Kd.R_alloc | apply Kd.R_drewN | apply Kd.R_drew)); exact Kd.R_mono HO157.out (fun _ hk => ⟨hk.1.2, hk.2⟩)), (by (with_reducible repeat (first | apply Kd.R_alloc | apply Kd.R_drewN | apply Kd.R_drew)); exact Kd.R_mono HO160.out (fun _ hk => hk.2)), (by (with_reducible repeat (first | apply Kd.R_alloc | apply Kd.R_drewN | apply Kd.R_drew)); exact Kd.R_mono HO171.out (fun _ hk => hk.2)), (by (with_reducible repeat (first | apply Kd.R_alloc | apply Kd.R_drewN | apply Kd.R_drew)); exact Kd.R_mono HO188.out (fun _ hk => ⟨hk.2, hk.1.2⟩)), (by (with_reducible repeat (first | apply Kd.R_alloc | apply Kd.R_drewN | apply Kd.R_drew)); exact Kd.R_mono HO191.out (fun _ hk => ⟨hk.1.2, hk.2⟩)), (by (with_reducible repeat (first | apply Kd.R_alloc | apply Kd.R_drewN | apply Kd.R_drew)); exact Kd.R_mono HO194.out (fun _ hk => ⟨hk.1.2, hk.2⟩)), (by (with_reducible repeat (first | apply Kd.R_alloc | apply Kd.R_drewN | apply Kd.R_drew)); exact Kd.R_mono HO197.out (fun _ hk => ⟨hk.2, hk.1.2⟩)), (by (with_reducible repeat (first | apply Kd.R_alloc | apply Kd.R_drewN | apply Kd.R_drew)); exact Kd.R_mono HO_6.out (fun _ hk => ⟨hk.1.2, hk.2⟩)), (by repeat (first | (with_reducible first | exact HB.out | apply below_alloc | apply pw_below_drewN | apply below_drew1) | exact HB.out))⟩)
              ·skip
               refine Kd.R_make_step (Kd.int .u8) _ 33 (by rfl) (N := 170) rfl 23 _ _ rfl 65537 rfl rfl Tryd.underlying23 (.int .u8 0) 1 info33 rfl (by decide) (by omega) 0 (ok := fun _ => True) (okp := fun _ => True) rfl (fun _ hk => hk) trivial (by omega) (by omega) (Below.refl _ _) (Nat.le_refl _) ?_
               intro v199 w137 ho138 hb hg_ hnew_
               clear hg_ hnew_
               (first | rw [← Ny198.out] at ho138 | (simp only [Int.reduceToNat] at ho138; rw [← Ny198.out] at ho138))
               have n0_ := Aside0.mk (Kd.R_below (by (with_reducible repeat (first | apply Kd.R_alloc | apply Kd.R_drewN | apply Kd.R_drew)); exact HO_6.out) hb)
               have n1_ := Aside0.mk (Kd.R_elder' (by (with_reducible repeat (first | apply Kd.R_alloc | apply Kd.R_drewN | apply Kd.R_drew)); exact HO157.out) (Kd.R_base ho138) hb)
               have n2_ := Aside0.mk (Kd.R_below (by (with_reducible repeat (first | apply Kd.R_alloc | apply Kd.R_drewN | apply Kd.R_drew)); exact HO160.out) hb)
               have n3_ := Aside0.mk (Kd.R_below (by (with_reducible repeat (first | apply Kd.R_alloc | apply Kd.R_drewN | apply Kd.R_drew)); exact HO171.out) hb)
               have n4_ := Aside0.mk (Kd.R_below (by (with_reducible repeat (first | apply Kd.R_alloc | apply Kd.R_drewN | apply Kd.R_drew)); exact HO188.out) hb)
               have n5_ := Aside0.mk (Kd.R_elder' (by (with_reducible repeat (first | apply Kd.R_alloc | apply Kd.R_drewN | apply Kd.R_drew)); exact HO191.out) (Kd.R_base ho138) hb)
               have n6_ := Aside0.mk (Kd.R_elder' (by (with_reducible repeat (first | apply Kd.R_alloc | apply Kd.R_drewN | apply Kd.R_drew)); exact HO194.out) (Kd.R_base ho138) hb)
               have n7_ := Aside0.mk (Kd.R_lower (Kd.R_new' (Kd.R_new' (Kd.R_new' ho138 (Kd.R_lt (by (with_reducible repeat (first | apply Kd.R_alloc | apply Kd.R_drewN | apply Kd.R_drew)); exact HO157.out))) (Kd.R_lt (by (with_reducible repeat (first | apply Kd.R_alloc | apply Kd.R_drewN | apply Kd.R_drew)); exact HO191.out))) (Kd.R_lt (by (with_reducible repeat (first | apply Kd.R_alloc | apply Kd.R_drewN | apply Kd.R_drew)); exact HO194.out))) (below_size (by repeat (first | (with_reducible first | exact HB.out | apply below_alloc | apply pw_below_drewN | apply below_drew1) | exact HB.out))))
               have n8_ := Aside0.mk (Kd.C_below (by repeat (first | (with_reducible exact HR164.out) | (with_reducible refine Kd.C_alloc ?_ _) | (with_reducible refine Kd.C_drewN ?_ _) | (with_reducible refine Kd.C_drew ?_) | exact HR164.out)) hb)
               have n9_ := Aside0.mk (Kd.C_below (by repeat (first | (with_reducible exact HR168.out) | (with_reducible refine Kd.C_alloc ?_ _) | (with_reducible refine Kd.C_drewN ?_ _) | (with_reducible refine Kd.C_drew ?_) | exact HR168.out)) hb)
               have n10_ := Aside0.mk (Kd.C_below (by repeat (first | (with_reducible exact HR176.out) | (with_reducible refine Kd.C_alloc ?_ _) | (with_reducible refine Kd.C_drewN ?_ _) | (with_reducible refine Kd.C_drew ?_) | exact HR176.out)) hb)
               have n11_ := Aside0.mk (Kd.C_below (by repeat (first | (with_reducible exact HR180.out) | (with_reducible refine Kd.C_alloc ?_ _) | (with_reducible refine Kd.C_drewN ?_ _) | (with_reducible refine Kd.C_drew ?_) | exact HR180.out)) hb)
               have n12_ := Aside0.mk (Kd.C_below (by repeat (first | (with_reducible exact HR184.out) | (with_reducible refine Kd.C_alloc ?_ _) | (with_reducible refine Kd.C_drewN ?_ _) | (with_reducible refine Kd.C_drew ?_) | exact HR184.out)) hb)
               have n13_ := Aside0.mk (below_step (by repeat (first | (with_reducible first | exact HB.out | apply below_alloc | apply pw_below_drewN | apply below_drew1) | exact HB.out)) hb)
               clear HO_6
               clear HO157
               clear HO160
               clear HO171
               clear HO188
               clear HO191
               clear HO194
               clear HR164
               clear HR168
               clear HR176
               clear HR180
               clear HR184
               clear HB
               have HO_6 := n0_
               have HO157 := n1_
               have HO160 := n2_
               have HO171 := n3_
               have HO188 := n4_
               have HO191 := n5_
               have HO194 := n6_
               have HO200 := n7_
               have HR164 := n8_
               have HR168 := n9_
               have HR176 := n10_
               have HR180 := n11_
               have HR184 := n12_
               have HB := n13_
               clear n0_ n1_ n2_ n3_ n4_ n5_ n6_ n7_ n8_ n9_ n10_ n11_ n12_ n13_
               clear hb ho138
               refine hK.out _ _ trivial (fun hHeld => ?_)
               clear hK K
               refine norm_ (a' := ?_) ?_ ?_
               rotate_left
               ·show Act.put _ (some 170) _ = _
                simp only [Act.put, List.setIfInBounds_toArray, List.set_cons_zero, List.set_cons_succ, i64_w, i32_w]
                rfl
               exact norm_ (by first | (simp only [putAll, Act.put, List.setIfInBounds_toArray, List.set_cons_zero, List.set_cons_succ]; done) | (simp only [putAll, Act.put, List.setIfInBounds_toArray, List.set_cons_zero, List.set_cons_succ]; rfl)) (hJ1 (v199) _ ⟨(by (with_reducible repeat (first | apply Kd.R_alloc | apply Kd.R_drewN | apply Kd.R_drew)); exact Kd.R_mono HO157.out (fun _ hk => ⟨hk.1.1.2, ⟨hk.1.2, hk.2⟩⟩)), (by (with_reducible repeat (first | apply Kd.R_alloc | apply Kd.R_drewN | apply Kd.R_drew)); exact Kd.R_mono HO160.out (fun _ hk => hk.2)), (by (with_reducible repeat (first | apply Kd.R_alloc | apply Kd.R_drewN | apply Kd.R_drew)); exact Kd.R_mono HO171.out (fun _ hk => hk.2)), (by (with_reducible repeat (first | apply Kd.R_alloc | apply Kd.R_drewN | apply Kd.R_drew)); exact Kd.R_mono HO188.out (fun _ hk => hk.2)), (by (with_reducible repeat (first | apply Kd.R_alloc | apply Kd.R_drewN | apply Kd.R_drew)); exact Kd.R_mono HO191.out (fun _ hk => ⟨hk.1.1.2, ⟨hk.1.2, hk.2⟩⟩)), (by (with_reducible repeat (first | apply Kd.R_alloc | apply Kd.R_drewN | apply Kd.R_drew)); exact Kd.R_mono HO194.out (fun _ hk => ⟨hk.1.1.2, ⟨hk.1.2, hk.2⟩⟩)), (by (with_reducible repeat (first | apply Kd.R_alloc | apply Kd.R_drewN | apply Kd.R_drew)); exact Kd.R_mono HO200.out (fun _ hk => ⟨hk.1.1.2, ⟨hk.1.2, hk.2⟩⟩)), (by (with_reducible repeat (first | apply Kd.R_alloc | apply Kd.R_drewN | apply Kd.R_drew)); exact Kd.R_mono HO_6.out (fun _ hk => hk.2)), (by repeat (first | (with_reducible first | exact HB.out | apply below_alloc | apply pw_below_drewN | apply below_drew1) | exact HB.out))⟩)
              ·skip
               refine Kd.R_make_step (Kd.int .u8) _ 33 (by rfl) (N := 171) rfl 23 _ _ rfl 65537 rfl rfl Tryd.underlying23 (.int .u8 0) 1 info33 rfl (by decide) (by omega) 0 (ok := fun _ => True) (okp := fun _ => True) rfl (fun _ hk => hk) trivial (by omega) (by omega) (Below.refl _ _) (Nat.le_refl _) ?_
               intro v202 w137 ho138 hb hg_ hnew_
               clear hg_ hnew_
               (first | rw [← Ny201.out] at ho138 | (simp only [Int.reduceToNat] at ho138; rw [← Ny201.out] at ho138))
               have n0_ := Aside0.mk (Kd.R_below (by (with_reducible repeat (first | apply Kd.R_alloc | apply Kd.R_drewN | apply Kd.R_drew)); exact HO_6.out) hb)
               have n1_ := Aside0.mk (Kd.R_elder' (by (with_reducible repeat (first | apply Kd.R_alloc | apply Kd.R_drewN | apply Kd.R_drew)); exact HO157.out) (Kd.R_base ho138) hb)
               have n2_ := Aside0.mk (Kd.R_below (by (with_reducible repeat (first | apply Kd.R_alloc | apply Kd.R_drewN | apply Kd.R_drew)); exact HO160.out) hb)
               have n3_ := Aside0.mk (Kd.R_below (by (with_reducible repeat (first | apply Kd.R_alloc | apply Kd.R_drewN | apply Kd.R_drew)); exact HO171.out) hb)
               have n4_ := Aside0.mk (Kd.R_below (by (with_reducible repeat (first | apply Kd.R_alloc | apply Kd.R_drewN | apply Kd.R_drew)); exact HO188.out) hb)
               have n5_ := Aside0.mk (Kd.R_elder' (by (with_reducible repeat (first | apply Kd.R_alloc | apply Kd.R_drewN | apply Kd.R_drew)); exact HO191.out) (Kd.R_base ho138) hb)
               have n6_ := Aside0.mk (Kd.R_elder' (by (with_reducible repeat (first | apply Kd.R_alloc | apply Kd.R_drewN | apply Kd.R_drew)); exact HO194.out) (Kd.R_base ho138) hb)
               have n7_ := Aside0.mk (Kd.R_lower (Kd.R_new' (Kd.R_new' (Kd.R_new' ho138 (Kd.R_lt (by (with_reducible repeat (first | apply Kd.R_alloc | apply Kd.R_drewN | apply Kd.R_drew)); exact HO157.out))) (Kd.R_lt (by (with_reducible repeat (first | apply Kd.R_alloc | apply Kd.R_drewN | apply Kd.R_drew)); exact HO191.out))) (Kd.R_lt (by (with_reducible repeat (first | apply Kd.R_alloc | apply Kd.R_drewN | apply Kd.R_drew)); exact HO194.out))) (below_size (by repeat (first | (with_reducible first | exact HB.out | apply below_alloc | apply pw_below_drewN | apply below_drew1) | exact HB.out))))
               have n8_ := Aside0.mk (Kd.C_below (by repeat (first | (with_reducible exact HR164.out) | (with_reducible refine Kd.C_alloc ?_ _) | (with_reducible refine Kd.C_drewN ?_ _) | (with_reducible refine Kd.C_drew ?_) | exact HR164.out)) hb)
               have n9_ := Aside0.mk (Kd.C_below (by repeat (first | (with_reducible exact HR168.out) | (with_reducible refine Kd.C_alloc ?_ _) | (with_reducible refine Kd.C_drewN ?_ _) | (with_reducible refine Kd.C_drew ?_) | exact HR168.out)) hb)
               have n10_ := Aside0.mk (Kd.C_below (by repeat (first | (with_reducible exact HR176.out) | (with_reducible refine Kd.C_alloc ?_ _) | (with_reducible refine Kd.C_drewN ?_ _) | (with_reducible refine Kd.C_drew ?_) | exact HR176.out)) hb)
               have n11_ := Aside0.mk (Kd.C_below (by repeat (first | (with_reducible exact HR180.out) | (with_reducible refine Kd.C_alloc ?_ _) | (with_reducible refine Kd.C_drewN ?_ _) | (with_reducible refine Kd.C_drew ?_) | exact HR180.out)) hb)
               have n12_ := Aside0.mk (Kd.C_below (by repeat (first | (with_reducible exact HR184.out) | (with_reducible refine Kd.C_alloc ?_ _) | (with_reducible refine Kd.C_drewN ?_ _) | (with_reducible refine Kd.C_drew ?_) | exact HR184.out)) hb)
               have n13_ := Aside0.mk (below_step (by repeat (first | (with_reducible first | exact HB.out | apply below_alloc | apply pw_below_drewN | apply below_drew1) | exact HB.out)) hb)
               clear HO_6
               clear HO157
               clear HO160
               clear HO171
               clear HO188
               clear HO191
               clear HO194
               clear HR164
               clear HR168
               clear HR176
               clear HR180
               clear HR184
               clear HB
               have HO_6 := n0_
               have HO157 := n1_
               have HO160 := n2_
               have HO171 := n3_
               have HO188 := n4_
               have HO191 := n5_
               have HO194 := n6_
               have HO203 := n7_
               have HR164 := n8_
               have HR168 := n9_
               have HR176 := n10_
               have HR180 := n11_
               have HR184 := n12_
               have HB := n13_
               clear n0_ n1_ n2_ n3_ n4_ n5_ n6_ n7_ n8_ n9_ n10_ n11_ n12_ n13_
               clear hb ho138
               refine hK.out _ _ trivial (fun hHeld => ?_)
               clear hK K
               refine norm_ (a' := ?_) ?_ ?_
               rotate_left
               ·show Act.put _ (some 171) _ = _
                simp only [Act.put, List.setIfInBounds_toArray, List.set_cons_zero, List.set_cons_succ, i64_w, i32_w]
                rfl
               exact norm_ (by first | (simp only [putAll, Act.put, List.setIfInBounds_toArray, List.set_cons_zero, List.set_cons_succ]; done) | (simp only [putAll, Act.put, List.setIfInBounds_toArray, List.set_cons_zero, List.set_cons_succ]; rfl)) (hJ2 (v202) _ ⟨(by (with_reducible repeat (first | apply Kd.R_alloc | apply Kd.R_drewN | apply Kd.R_drew)); exact Kd.R_mono HO157.out (fun _ hk => ⟨hk.1.1.2, ⟨hk.1.2, hk.2⟩⟩)), (by (with_reducible repeat (first | apply Kd.R_alloc | apply Kd.R_drewN | apply Kd.R_drew)); exact Kd.R_mono HO160.out (fun _ hk => hk.2)), (by (with_reducible repeat (first | apply Kd.R_alloc | apply Kd.R_drewN | apply Kd.R_drew)); exact Kd.R_mono HO171.out (fun _ hk => hk.2)), (by (with_reducible repeat (first | apply Kd.R_alloc | apply Kd.R_drewN | apply Kd.R_drew)); exact Kd.R_mono HO188.out (fun _ hk => hk.2)), (by (with_reducible repeat (first | apply Kd.R_alloc | apply Kd.R_drewN | apply Kd.R_drew)); exact Kd.R_mono HO191.out (fun _ hk => ⟨hk.1.1.2, ⟨hk.1.2, hk.2⟩⟩)), (by (with_reducible repeat (first | apply Kd.R_alloc | apply Kd.R_drewN | apply Kd.R_drew)); exact Kd.R_mono HO194.out (fun _ hk => ⟨hk.1.1.2, ⟨hk.1.2, hk.2⟩⟩)), (by (with_reducible repeat (first | apply Kd.R_alloc | apply Kd.R_drewN | apply Kd.R_drew)); exact Kd.R_mono HO203.out (fun _ hk => ⟨hk.1.1.2, ⟨hk.1.2, hk.2⟩⟩)), (by (with_reducible repeat (first | apply Kd.R_alloc | apply Kd.R_drewN | apply Kd.R_drew)); exact Kd.R_mono HO_6.out (fun _ hk => hk.2)), (by repeat (first | (with_reducible first | exact HB.out | apply below_alloc | apply pw_below_drewN | apply below_drew1) | exact HB.out))⟩)
             ·skip
              rintro v202 w139 ⟨h0_, h1_, h2_, h3_, h4_, h5_, h6_, h7_, h8_⟩
              have n0_ : Aside0 (Kd.R (Kd.int .u8) 33 w139 w.heap.size (fun k_ => some k_ ≠ (v190 : Value).ownBlock ∧ some k_ ≠ (v193 : Value).ownBlock ∧ some k_ ≠ (v202 : Value).ownBlock) (.slice Ao118 t155.length co118) t155) := ⟨h0_⟩
              have n1_ : Aside0 (Kd.R k30 30 w139 w.heap.size (fun k_ => some k_ ≠ (.slice Ao124 t169.length co124 : Value).ownBlock) (.slice Ao120 t158.length co120) t158) := ⟨h1_⟩
              have n2_ : Aside0 (Kd.R k30 30 w139 w.heap.size (fun k_ => some k_ ≠ (.slice Ao120 t158.length co120 : Value).ownBlock) (.slice Ao124 t169.length co124) t169) := ⟨h2_⟩
              have n3_ : Aside0 (Kd.R (Kd.int .i32) 21 w139 w.heap.size (fun k_ => some k_ ≠ (.slice Ao115 x6_2.length co115 : Value).ownBlock) (.slice Ao132 y186.length co132) y186) := ⟨h3_⟩
              have n4_ : Aside0 (Kd.R (Kd.int .u8) 33 w139 w.heap.size (fun k_ => some k_ ≠ (.slice Ao118 t155.length co118 : Value).ownBlock ∧ some k_ ≠ (v193 : Value).ownBlock ∧ some k_ ≠ (v202 : Value).ownBlock) v190 t189) := ⟨h4_⟩
              have n5_ : Aside0 (Kd.R (Kd.int .u8) 33 w139 w.heap.size (fun k_ => some k_ ≠ (.slice Ao118 t155.length co118 : Value).ownBlock ∧ some k_ ≠ (v190 : Value).ownBlock ∧ some k_ ≠ (v202 : Value).ownBlock) v193 y192) := ⟨h5_⟩
              have n6_ : Aside0 (Kd.R (Kd.int .u8) 33 w139 w.heap.size (fun k_ => some k_ ≠ (.slice Ao118 t155.length co118 : Value).ownBlock ∧ some k_ ≠ (v190 : Value).ownBlock ∧ some k_ ≠ (v193 : Value).ownBlock) v202 y201) := ⟨h6_⟩
              have n7_ : Aside0 (Kd.R (Kd.int .i32) 21 w139 w.heap.size (fun k_ => some k_ ≠ (.slice Ao132 y186.length co132 : Value).ownBlock) (.slice Ao115 x6_2.length co115) x6_2) := ⟨h7_⟩
              have n8_ : Aside0 (Below w.heap.size w w139) := ⟨h8_⟩
              clear HO_6
              clear HO157
              clear HO160
              clear HO171
              clear HO188
              clear HO191
              clear HO194
              clear HR164
              clear HR168
              clear HR176
              clear HR180
              clear HR184
              clear HB
              clear h0_ h1_ h2_ h3_ h4_ h5_ h6_ h7_ h8_
              have HO157 := n0_
              have HO160 := n1_
              have HO171 := n2_
              have HO188 := n3_
              have HO191 := n4_
              have HO194 := n5_
              have HO203 := n6_
              have HO_6 := n7_
              have HB := n8_
              clear n0_ n1_ n2_ n3_ n4_ n5_ n6_ n7_ n8_
              have hHeld := trivial
              refine norm_ (a' := ?_) ?_ ?_
              rotate_left
              ·simp only [putAll, Act.put, List.setIfInBounds_toArray, List.set_cons_zero, List.set_cons_succ]
               rfl
              refine two_ (i := 0) (j := 1) (Ni := some 169) (Nj := some 170) #[T_,F_,T_,T_,F_,F_,F_,F_,F_,F_] #[F_,T_,T_,T_,F_,F_,F_,F_,F_,F_] rfl rfl rfl rfl (two_of HT_.out (by kernel_rfl)) (by decide) (by decide) (fun K hK => ?_) (fun K hK => ?_)
              ·skip
               refine Kd.R_make_step (Kd.int .i32) _ 21 (by rfl) (N := 169) rfl 22 _ _ rfl 65537 rfl rfl Tryd.underlying22 (.int .i32 0) 4 info21 rfl (by decide) (by omega) 0 (ok := fun _ => True) (okp := fun _ => True) rfl (fun _ hk => hk) trivial (by omega) (by omega) (Below.refl _ _) (Nat.le_refl _) ?_
               intro v196 w140 ho141 hb hg_ hnew_
               clear hg_ hnew_
               (first | rw [← Ny195.out] at ho141 | (simp only [Int.reduceToNat] at ho141; rw [← Ny195.out] at ho141))
               have n0_ := Aside0.mk (Kd.R_elder' (by (with_reducible repeat (first | apply Kd.R_alloc | apply Kd.R_drewN | apply Kd.R_drew)); exact HO_6.out) (Kd.R_base ho141) hb)
               have n1_ := Aside0.mk (Kd.R_below (by (with_reducible repeat (first | apply Kd.R_alloc | apply Kd.R_drewN | apply Kd.R_drew)); exact HO157.out) hb)
               have n2_ := Aside0.mk (Kd.R_below (by (with_reducible repeat (first | apply Kd.R_alloc | apply Kd.R_drewN | apply Kd.R_drew)); exact HO160.out) hb)
               have n3_ := Aside0.mk (Kd.R_below (by (with_reducible repeat (first | apply Kd.R_alloc | apply Kd.R_drewN | apply Kd.R_drew)); exact HO171.out) hb)
               have n4_ := Aside0.mk (Kd.R_elder' (by (with_reducible repeat (first | apply Kd.R_alloc | apply Kd.R_drewN | apply Kd.R_drew)); exact HO188.out) (Kd.R_base ho141) hb)
               have n5_ := Aside0.mk (Kd.R_below (by (with_reducible repeat (first | apply Kd.R_alloc | apply Kd.R_drewN | apply Kd.R_drew)); exact HO191.out) hb)
               have n6_ := Aside0.mk (Kd.R_below (by (with_reducible repeat (first | apply Kd.R_alloc | apply Kd.R_drewN | apply Kd.R_drew)); exact HO194.out) hb)
               have n7_ := Aside0.mk (Kd.R_below (by (with_reducible repeat (first | apply Kd.R_alloc | apply Kd.R_drewN | apply Kd.R_drew)); exact HO203.out) hb)
               have n8_ := Aside0.mk (Kd.R_lower (Kd.R_new' (Kd.R_new' ho141 (Kd.R_lt (by (with_reducible repeat (first | apply Kd.R_alloc | apply Kd.R_drewN | apply Kd.R_drew)); exact HO_6.out))) (Kd.R_lt (by (with_reducible repeat (first | apply Kd.R_alloc | apply Kd.R_drewN | apply Kd.R_drew)); exact HO188.out))) (below_size (by repeat (first | (with_reducible first | exact HB.out | apply below_alloc | apply pw_below_drewN | apply below_drew1) | exact HB.out))))
               have n9_ := Aside0.mk (below_step (by repeat (first | (with_reducible first | exact HB.out | apply below_alloc | apply pw_below_drewN | apply below_drew1) | exact HB.out)) hb)
               clear HO_6
               clear HO157
               clear HO160
               clear HO171
               clear HO188
               clear HO191
               clear HO194
               clear HO203
               clear HB
               have HO_6 := n0_
               have HO157 := n1_
               have HO160 := n2_
               have HO171 := n3_
               have HO188 := n4_
               have HO191 := n5_
               have HO194 := n6_
               have HO203 := n7_
               have HO197 := n8_
               have HB := n9_
               clear n0_ n1_ n2_ n3_ n4_ n5_ n6_ n7_ n8_ n9_
               clear hb ho141
               refine hK.out _ _ trivial (fun hHeld => ?_)
               clear hK K
               refine norm_ (a' := ?_) ?_ ?_
               rotate_left
               ·show Act.put _ (some 169) _ = _
                simp only [Act.put, List.setIfInBounds_toArray, List.set_cons_zero, List.set_cons_succ, i64_w, i32_w]
                rfl
               exact norm_ (by first | (simp only [putAll, Act.put, List.setIfInBounds_toArray, List.set_cons_zero, List.set_cons_succ]; done) | (simp only [putAll, Act.put, List.setIfInBounds_toArray, List.set_cons_zero, List.set_cons_succ]; rfl)) (hJ0_2 (v196, v202) _ ⟨(by (with_reducible repeat (first | apply Kd.R_alloc | apply Kd.R_drewN | apply Kd.R_drew)); exact HO157.out), (by (with_reducible repeat (first | apply Kd.R_alloc | apply Kd.R_drewN | apply Kd.R_drew)); exact HO160.out), (by (with_reducible repeat (first | apply Kd.R_alloc | apply Kd.R_drewN | apply Kd.R_drew)); exact HO171.out), (by (with_reducible repeat (first | apply Kd.R_alloc | apply Kd.R_drewN | apply Kd.R_drew)); exact Kd.R_mono HO188.out (fun _ hk => ⟨hk.2, hk.1⟩)), (by (with_reducible repeat (first | apply Kd.R_alloc | apply Kd.R_drewN | apply Kd.R_drew)); exact HO191.out), (by (with_reducible repeat (first | apply Kd.R_alloc | apply Kd.R_drewN | apply Kd.R_drew)); exact HO194.out), (by (with_reducible repeat (first | apply Kd.R_alloc | apply Kd.R_drewN | apply Kd.R_drew)); exact Kd.R_mono HO197.out (fun _ hk => ⟨hk.2, hk.1.2⟩)), (by (with_reducible repeat (first | apply Kd.R_alloc | apply Kd.R_drewN | apply Kd.R_drew)); exact HO203.out), (by (with_reducible repeat (first | apply Kd.R_alloc | apply Kd.R_drewN | apply Kd.R_drew)); exact HO_6.out), (by repeat (first | (with_reducible first | exact HB.out | apply below_alloc | apply pw_below_drewN | apply below_drew1) | exact HB.out))⟩)
              ·skip
               refine Kd.R_make_step (Kd.int .u8) _ 33 (by rfl) (N := 170) rfl 23 _ _ rfl 65537 rfl rfl Tryd.underlying23 (.int .u8 0) 1 info33 rfl (by decide) (by omega) 0 (ok := fun _ => True) (okp := fun _ => True) rfl (fun _ hk => hk) trivial (by omega) (by omega) (Below.refl _ _) (Nat.le_refl _) ?_
               intro v199 w140 ho141 hb hg_ hnew_
               clear hg_ hnew_
               (first | rw [← Ny198.out] at ho141 | (simp only [Int.reduceToNat] at ho141; rw [← Ny198.out] at ho141))
               have n0_ := Aside0.mk (Kd.R_below (by (with_reducible repeat (first | apply Kd.R_alloc | apply Kd.R_drewN | apply Kd.R_drew)); exact HO_6.out) hb)
               have n1_ := Aside0.mk (Kd.R_elder' (by (with_reducible repeat (first | apply Kd.R_alloc | apply Kd.R_drewN | apply Kd.R_drew)); exact HO157.out) (Kd.R_base ho141) hb)
               have n2_ := Aside0.mk (Kd.R_below (by (with_reducible repeat (first | apply Kd.R_alloc | apply Kd.R_drewN | apply Kd.R_drew)); exact HO160.out) hb)
               have n3_ := Aside0.mk (Kd.R_below (by (with_reducible repeat (first | apply Kd.R_alloc | apply Kd.R_drewN | apply Kd.R_drew)); exact HO171.out) hb)
               have n4_ := Aside0.mk (Kd.R_below (by (with_reducible repeat (first | apply Kd.R_alloc | apply Kd.R_drewN | apply Kd.R_drew)); exact HO188.out) hb)
               have n5_ := Aside0.mk (Kd.R_elder' (by (with_reducible repeat (first | apply Kd.R_alloc | apply Kd.R_drewN | apply Kd.R_drew)); exact HO191.out) (Kd.R_base ho141) hb)
               have n6_ := Aside0.mk (Kd.R_elder' (by (with_reducible repeat (first | apply Kd.R_alloc | apply Kd.R_drewN | apply Kd.R_drew)); exact HO194.out) (Kd.R_base ho141) hb)
               have n7_ := Aside0.mk (Kd.R_elder' (by (with_reducible repeat (first | apply Kd.R_alloc | apply Kd.R_drewN | apply Kd.R_drew)); exact HO203.out) (Kd.R_base ho141) hb)
               have n8_ := Aside0.mk (Kd.R_lower (Kd.R_new' (Kd.R_new' (Kd.R_new' (Kd.R_new' ho141 (Kd.R_lt (by (with_reducible repeat (first | apply Kd.R_alloc | apply Kd.R_drewN | apply Kd.R_drew)); exact HO157.out))) (Kd.R_lt (by (with_reducible repeat (first | apply Kd.R_alloc | apply Kd.R_drewN | apply Kd.R_drew)); exact HO191.out))) (Kd.R_lt (by (with_reducible repeat (first | apply Kd.R_alloc | apply Kd.R_drewN | apply Kd.R_drew)); exact HO194.out))) (Kd.R_lt (by (with_reducible repeat (first | apply Kd.R_alloc | apply Kd.R_drewN | apply Kd.R_drew)); exact HO203.out))) (below_size (by repeat (first | (with_reducible first | exact HB.out | apply below_alloc | apply pw_below_drewN | apply below_drew1) | exact HB.out))))
               have n9_ := Aside0.mk (below_step (by repeat (first | (with_reducible first | exact HB.out | apply below_alloc | apply pw_below_drewN | apply below_drew1) | exact HB.out)) hb)
               clear HO_6
               clear HO157
               clear HO160
               clear HO171
               clear HO188
               clear HO191
               clear HO194
               clear HO203
               clear HB
               have HO_6 := n0_
               have HO157 := n1_
               have HO160 := n2_
               have HO171 := n3_
               have HO188 := n4_
               have HO191 := n5_
               have HO194 := n6_
               have HO203 := n7_
               have HO200 := n8_
               have HB := n9_
               clear n0_ n1_ n2_ n3_ n4_ n5_ n6_ n7_ n8_ n9_
               clear hb ho141
               refine hK.out _ _ trivial (fun hHeld => ?_)
               clear hK K
               refine norm_ (a' := ?_) ?_ ?_
               rotate_left
               ·show Act.put _ (some 170) _ = _
                simp only [Act.put, List.setIfInBounds_toArray, List.set_cons_zero, List.set_cons_succ, i64_w, i32_w]
                rfl
               exact norm_ (by first | (simp only [putAll, Act.put, List.setIfInBounds_toArray, List.set_cons_zero, List.set_cons_succ]; done) | (simp only [putAll, Act.put, List.setIfInBounds_toArray, List.set_cons_zero, List.set_cons_succ]; rfl)) (hJ1_2 (v199, v202) _ ⟨(by (with_reducible repeat (first | apply Kd.R_alloc | apply Kd.R_drewN | apply Kd.R_drew)); exact Kd.R_mono HO157.out (fun _ hk => ⟨hk.1.1, ⟨hk.1.2.1, ⟨hk.2, hk.1.2.2⟩⟩⟩)), (by (with_reducible repeat (first | apply Kd.R_alloc | apply Kd.R_drewN | apply Kd.R_drew)); exact HO160.out), (by (with_reducible repeat (first | apply Kd.R_alloc | apply Kd.R_drewN | apply Kd.R_drew)); exact HO171.out), (by (with_reducible repeat (first | apply Kd.R_alloc | apply Kd.R_drewN | apply Kd.R_drew)); exact HO188.out), (by (with_reducible repeat (first | apply Kd.R_alloc | apply Kd.R_drewN | apply Kd.R_drew)); exact Kd.R_mono HO191.out (fun _ hk => ⟨hk.1.1, ⟨hk.1.2.1, ⟨hk.2, hk.1.2.2⟩⟩⟩)), (by (with_reducible repeat (first | apply Kd.R_alloc | apply Kd.R_drewN | apply Kd.R_drew)); exact Kd.R_mono HO194.out (fun _ hk => ⟨hk.1.1, ⟨hk.1.2.1, ⟨hk.2, hk.1.2.2⟩⟩⟩)), (by (with_reducible repeat (first | apply Kd.R_alloc | apply Kd.R_drewN | apply Kd.R_drew)); exact Kd.R_mono HO200.out (fun _ hk => ⟨hk.1.1.1.2, ⟨hk.1.1.2, ⟨hk.1.2, hk.2⟩⟩⟩)), (by (with_reducible repeat (first | apply Kd.R_alloc | apply Kd.R_drewN | apply Kd.R_drew)); exact Kd.R_mono HO203.out (fun _ hk => ⟨hk.1.1, ⟨hk.1.2.1, ⟨hk.1.2.2, hk.2⟩⟩⟩)), (by (with_reducible repeat (first | apply Kd.R_alloc | apply Kd.R_drewN | apply Kd.R_drew)); exact HO_6.out), (by repeat (first | (with_reducible first | exact HB.out | apply below_alloc | apply pw_below_drewN | apply below_drew1) | exact HB.out))⟩)
            ·skip
             rintro v199 w139 ⟨h0_, h1_, h2_, h3_, h4_, h5_, h6_, h7_, h8_⟩
             have n0_ : Aside0 (Kd.R (Kd.int .u8) 33 w139 w.heap.size (fun k_ => some k_ ≠ (v190 : Value).ownBlock ∧ some k_ ≠ (v193 : Value).ownBlock ∧ some k_ ≠ (v199 : Value).ownBlock) (.slice Ao118 t155.length co118) t155) := ⟨h0_⟩
             have n1_ : Aside0 (Kd.R k30 30 w139 w.heap.size (fun k_ => some k_ ≠ (.slice Ao124 t169.length co124 : Value).ownBlock) (.slice Ao120 t158.length co120) t158) := ⟨h1_⟩
             have n2_ : Aside0 (Kd.R k30 30 w139 w.heap.size (fun k_ => some k_ ≠ (.slice Ao120 t158.length co120 : Value).ownBlock) (.slice Ao124 t169.length co124) t169) := ⟨h2_⟩
             have n3_ : Aside0 (Kd.R (Kd.int .i32) 21 w139 w.heap.size (fun k_ => some k_ ≠ (.slice Ao115 x6_2.length co115 : Value).ownBlock) (.slice Ao132 y186.length co132) y186) := ⟨h3_⟩
             have n4_ : Aside0 (Kd.R (Kd.int .u8) 33 w139 w.heap.size (fun k_ => some k_ ≠ (.slice Ao118 t155.length co118 : Value).ownBlock ∧ some k_ ≠ (v193 : Value).ownBlock ∧ some k_ ≠ (v199 : Value).ownBlock) v190 t189) := ⟨h4_⟩
             have n5_ : Aside0 (Kd.R (Kd.int .u8) 33 w139 w.heap.size (fun k_ => some k_ ≠ (.slice Ao118 t155.length co118 : Value).ownBlock ∧ some k_ ≠ (v190 : Value).ownBlock ∧ some k_ ≠ (v199 : Value).ownBlock) v193 y192) := ⟨h5_⟩
             have n6_ : Aside0 (Kd.R (Kd.int .u8) 33 w139 w.heap.size (fun k_ => some k_ ≠ (.slice Ao118 t155.length co118 : Value).ownBlock ∧ some k_ ≠ (v190 : Value).ownBlock ∧ some k_ ≠ (v193 : Value).ownBlock) v199 y198) := ⟨h6_⟩
             have n7_ : Aside0 (Kd.R (Kd.int .i32) 21 w139 w.heap.size (fun k_ => some k_ ≠ (.slice Ao132 y186.length co132 : Value).ownBlock) (.slice Ao115 x6_2.length co115) x6_2) := ⟨h7_⟩
             have n8_ : Aside0 (Below w.heap.size w w139) := ⟨h8_⟩
             clear HO_6
             clear HO157
             clear HO160
             clear HO171
             clear HO188
             clear HO191
             clear HO194
             clear HR164
             clear HR168
             clear HR176
             clear HR180
             clear HR184
             clear HB
             clear h0_ h1_ h2_ h3_ h4_ h5_ h6_ h7_ h8_
             have HO157 := n0_
             have HO160 := n1_
             have HO171 := n2_
             have HO188 := n3_
             have HO191 := n4_
             have HO194 := n5_
             have HO200 := n6_
             have HO_6 := n7_
             have HB := n8_
             clear n0_ n1_ n2_ n3_ n4_ n5_ n6_ n7_ n8_
             have hHeld := trivial
             refine norm_ (a' := ?_) ?_ ?_
             rotate_left
             ·simp only [putAll, Act.put, List.setIfInBounds_toArray, List.set_cons_zero, List.set_cons_succ]
              rfl
             refine two_ (i := 0) (j := 2) (Ni := some 169) (Nj := some 171) #[T_,T_,F_,T_,F_,F_,F_,F_,F_,F_] #[F_,T_,T_,T_,F_,F_,F_,F_,F_,F_] rfl rfl rfl rfl (two_of HT_.out (by kernel_rfl)) (by decide) (by decide) (fun K hK => ?_) (fun K hK => ?_)
             ·skip
              refine Kd.R_make_step (Kd.int .i32) _ 21 (by rfl) (N := 169) rfl 22 _ _ rfl 65537 rfl rfl Tryd.underlying22 (.int .i32 0) 4 info21 rfl (by decide) (by omega) 0 (ok := fun _ => True) (okp := fun _ => True) rfl (fun _ hk => hk) trivial (by omega) (by omega) (Below.refl _ _) (Nat.le_refl _) ?_
              intro v196 w140 ho141 hb hg_ hnew_
              clear hg_ hnew_
              (first | rw [← Ny195.out] at ho141 | (simp only [Int.reduceToNat] at ho141; rw [← Ny195.out] at ho141))
              have n0_ := Aside0.mk (Kd.R_elder' (by (with_reducible repeat (first | apply Kd.R_alloc | apply Kd.R_drewN | apply Kd.R_drew)); exact HO_6.out) (Kd.R_base ho141) hb)
              have n1_ := Aside0.mk (Kd.R_below (by (with_reducible repeat (first | apply Kd.R_alloc | apply Kd.R_drewN | apply Kd.R_drew)); exact HO157.out) hb)
              have n2_ := Aside0.mk (Kd.R_below (by (with_reducible repeat (first | apply Kd.R_alloc | apply Kd.R_drewN | apply Kd.R_drew)); exact HO160.out) hb)
              have n3_ := Aside0.mk (Kd.R_below (by (with_reducible repeat (first | apply Kd.R_alloc | apply Kd.R_drewN | apply Kd.R_drew)); exact HO171.out) hb)
              have n4_ := Aside0.mk (Kd.R_elder' (by (with_reducible repeat (first | apply Kd.R_alloc | apply Kd.R_drewN | apply Kd.R_drew)); exact HO188.out) (Kd.R_base ho141) hb)
              have n5_ := Aside0.mk (Kd.R_below (by (with_reducible repeat (first | apply Kd.R_alloc | apply Kd.R_drewN | apply Kd.R_drew)); exact HO191.out) hb)
              have n6_ := Aside0.mk (Kd.R_below (by (with_reducible repeat (first | apply Kd.R_alloc | apply Kd.R_drewN | apply Kd.R_drew)); exact HO194.out) hb)
              have n7_ := Aside0.mk (Kd.R_below (by (with_reducible repeat (first | apply Kd.R_alloc | apply Kd.R_drewN | apply Kd.R_drew)); exact HO200.out) hb)
              have n8_ := Aside0.mk (Kd.R_lower (Kd.R_new' (Kd.R_new' ho141 (Kd.R_lt (by (with_reducible repeat (first | apply Kd.R_alloc | apply Kd.R_drewN | apply Kd.R_drew)); exact HO_6.out))) (Kd.R_lt (by (with_reducible repeat (first | apply Kd.R_alloc | apply Kd.R_drewN | apply Kd.R_drew)); exact HO188.out))) (below_size (by repeat (first | (with_reducible first | exact HB.out | apply below_alloc | apply pw_below_drewN | apply below_drew1) | exact HB.out))))
              have n9_ := Aside0.mk (below_step (by repeat (first | (with_reducible first | exact HB.out | apply below_alloc | apply pw_below_drewN | apply below_drew1) | exact HB.out)) hb)
              clear HO_6
              clear HO157
              clear HO160
              clear HO171
              clear HO188
              clear HO191
              clear HO194
              clear HO200
              clear HB
              have HO_6 := n0_
              have HO157 := n1_
              have HO160 := n2_
              have HO171 := n3_
              have HO188 := n4_
              have HO191 := n5_
              have HO194 := n6_
              have HO200 := n7_
              have HO197 := n8_
              have HB := n9_
              clear n0_ n1_ n2_ n3_ n4_ n5_ n6_ n7_ n8_ n9_
              clear hb ho141
              refine hK.out _ _ trivial (fun hHeld => ?_)
              clear hK K
              refine norm_ (a' := ?_) ?_ ?_
              rotate_left
              ·show Act.put _ (some 169) _ = _
               simp only [Act.put, List.setIfInBounds_toArray, List.set_cons_zero, List.set_cons_succ, i64_w, i32_w]
               rfl
              exact norm_ (by first | (simp only [putAll, Act.put, List.setIfInBounds_toArray, List.set_cons_zero, List.set_cons_succ]; done) | (simp only [putAll, Act.put, List.setIfInBounds_toArray, List.set_cons_zero, List.set_cons_succ]; rfl)) (hJ0_1 (v196, v199) _ ⟨(by (with_reducible repeat (first | apply Kd.R_alloc | apply Kd.R_drewN | apply Kd.R_drew)); exact HO157.out), (by (with_reducible repeat (first | apply Kd.R_alloc | apply Kd.R_drewN | apply Kd.R_drew)); exact HO160.out), (by (with_reducible repeat (first | apply Kd.R_alloc | apply Kd.R_drewN | apply Kd.R_drew)); exact HO171.out), (by (with_reducible repeat (first | apply Kd.R_alloc | apply Kd.R_drewN | apply Kd.R_drew)); exact Kd.R_mono HO188.out (fun _ hk => ⟨hk.2, hk.1⟩)), (by (with_reducible repeat (first | apply Kd.R_alloc | apply Kd.R_drewN | apply Kd.R_drew)); exact HO191.out), (by (with_reducible repeat (first | apply Kd.R_alloc | apply Kd.R_drewN | apply Kd.R_drew)); exact HO194.out), (by (with_reducible repeat (first | apply Kd.R_alloc | apply Kd.R_drewN | apply Kd.R_drew)); exact Kd.R_mono HO197.out (fun _ hk => ⟨hk.2, hk.1.2⟩)), (by (with_reducible repeat (first | apply Kd.R_alloc | apply Kd.R_drewN | apply Kd.R_drew)); exact HO200.out), (by (with_reducible repeat (first | apply Kd.R_alloc | apply Kd.R_drewN | apply Kd.R_drew)); exact HO_6.out), (by repeat (first | (with_reducible first | exact HB.out | apply below_alloc | apply pw_below_drewN | apply below_drew1) | exact HB.out))⟩)
             ·skip
              refine Kd.R_make_step (Kd.int .u8) _ 33 (by rfl) (N := 171) rfl 23 _ _ rfl 65537 rfl rfl Tryd.underlying23 (.int .u8 0) 1 info33 rfl (by decide) (by omega) 0 (ok := fun _ => True) (okp := fun _ => True) rfl (fun _ hk => hk) trivial (by omega) (by omega) (Below.refl _ _) (Nat.le_refl _) ?_
              intro v202 w140 ho141 hb hg_ hnew_
              clear hg_ hnew_
              (first | rw [← Ny201.out] at ho141 | (simp only [Int.reduceToNat] at ho141; rw [← Ny201.out] at ho141))
              have n0_ := Aside0.mk (Kd.R_below (by (with_reducible repeat (first | apply Kd.R_alloc | apply Kd.R_drewN | apply Kd.R_drew)); exact HO_6.out) hb)
              have n1_ := Aside0.mk (Kd.R_elder' (by (with_reducible repeat (first | apply Kd.R_alloc | apply Kd.R_drewN | apply Kd.R_drew)); exact HO157.out) (Kd.R_base ho141) hb)
              have n2_ := Aside0.mk (Kd.R_below (by (with_reducible repeat (first | apply Kd.R_alloc | apply Kd.R_drewN | apply Kd.R_drew)); exact HO160.out) hb)
              have n3_ := Aside0.mk (Kd.R_below (by (with_reducible repeat (first | apply Kd.R_alloc | apply Kd.R_drewN | apply Kd.R_drew)); exact HO171.out) hb)
              have n4_ := Aside0.mk (Kd.R_below (by (with_reducible repeat (first | apply Kd.R_alloc | apply Kd.R_drewN | apply Kd.R_drew)); exact HO188.out) hb)
              have n5_ := Aside0.mk (Kd.R_elder' (by (with_reducible repeat (first | apply Kd.R_alloc | apply Kd.R_drewN | apply Kd.R_drew)); exact HO191.out) (Kd.R_base ho141) hb)
              have n6_ := Aside0.mk (Kd.R_elder' (by (with_reducible repeat (first | apply Kd.R_alloc | apply Kd.R_drewN | apply Kd.R_drew)); exact HO194.out) (Kd.R_base ho141) hb)
              have n7_ := Aside0.mk (Kd.R_elder' (by (with_reducible repeat (first | apply Kd.R_alloc | apply Kd.R_drewN | apply Kd.R_drew)); exact HO200.out) (Kd.R_base ho141) hb)
              have n8_ := Aside0.mk (Kd.R_lower (Kd.R_new' (Kd.R_new' (Kd.R_new' (Kd.R_new' ho141 (Kd.R_lt (by (with_reducible repeat (first | apply Kd.R_alloc | apply Kd.R_drewN | apply Kd.R_drew)); exact HO157.out))) (Kd.R_lt (by (with_reducible repeat (first | apply Kd.R_alloc | apply Kd.R_drewN | apply Kd.R_drew)); exact HO191.out))) (Kd.R_lt (by (with_reducible repeat (first | apply Kd.R_alloc | apply Kd.R_drewN | apply Kd.R_drew)); exact HO194.out))) (Kd.R_lt (by (with_reducible repeat (first | apply Kd.R_alloc | apply Kd.R_drewN | apply Kd.R_drew)); exact HO200.out))) (below_size (by repeat (first | (with_reducible first | exact HB.out | apply below_alloc | apply pw_below_drewN | apply below_drew1) | exact HB.out))))
              have n9_ := Aside0.mk (below_step (by repeat (first | (with_reducible first | exact HB.out | apply below_alloc | apply pw_below_drewN | apply below_drew1) | exact HB.out)) hb)
              clear HO_6
              clear HO157
              clear HO160
              clear HO171
              clear HO188
              clear HO191
              clear HO194
              clear HO200
              clear HB
              have HO_6 := n0_
              have HO157 := n1_
              have HO160 := n2_
              have HO171 := n3_
              have HO188 := n4_
              have HO191 := n5_
              have HO194 := n6_
              have HO200 := n7_
              have HO203 := n8_
              have HB := n9_
              clear n0_ n1_ n2_ n3_ n4_ n5_ n6_ n7_ n8_ n9_
              clear hb ho141
              refine hK.out _ _ trivial (fun hHeld => ?_)
              clear hK K
              refine norm_ (a' := ?_) ?_ ?_
              rotate_left
              ·show Act.put _ (some 171) _ = _
               simp only [Act.put, List.setIfInBounds_toArray, List.set_cons_zero, List.set_cons_succ, i64_w, i32_w]
               rfl
              exact norm_ (by first | (simp only [putAll, Act.put, List.setIfInBounds_toArray, List.set_cons_zero, List.set_cons_succ]; done) | (simp only [putAll, Act.put, List.setIfInBounds_toArray, List.set_cons_zero, List.set_cons_succ]; rfl)) (hJ1_2 (v199, v202) _ ⟨(by (with_reducible repeat (first | apply Kd.R_alloc | apply Kd.R_drewN | apply Kd.R_drew)); exact Kd.R_mono HO157.out (fun _ hk => ⟨hk.1.1, ⟨hk.1.2.1, ⟨hk.1.2.2, hk.2⟩⟩⟩)), (by (with_reducible repeat (first | apply Kd.R_alloc | apply Kd.R_drewN | apply Kd.R_drew)); exact HO160.out), (by (with_reducible repeat (first | apply Kd.R_alloc | apply Kd.R_drewN | apply Kd.R_drew)); exact HO171.out), (by (with_reducible repeat (first | apply Kd.R_alloc | apply Kd.R_drewN | apply Kd.R_drew)); exact HO188.out), (by (with_reducible repeat (first | apply Kd.R_alloc | apply Kd.R_drewN | apply Kd.R_drew)); exact Kd.R_mono HO191.out (fun _ hk => ⟨hk.1.1, ⟨hk.1.2.1, ⟨hk.1.2.2, hk.2⟩⟩⟩)), (by (with_reducible repeat (first | apply Kd.R_alloc | apply Kd.R_drewN | apply Kd.R_drew)); exact Kd.R_mono HO194.out (fun _ hk => ⟨hk.1.1, ⟨hk.1.2.1, ⟨hk.1.2.2, hk.2⟩⟩⟩)), (by (with_reducible repeat (first | apply Kd.R_alloc | apply Kd.R_drewN | apply Kd.R_drew)); exact Kd.R_mono HO200.out (fun _ hk => ⟨hk.1.1, ⟨hk.1.2.1, ⟨hk.1.2.2, hk.2⟩⟩⟩)), (by (with_reducible repeat (first | apply Kd.R_alloc | apply Kd.R_drewN | apply Kd.R_drew)); exact Kd.R_mono HO203.out (fun _ hk => ⟨hk.1.1.1.2, ⟨hk.1.1.2, ⟨hk.1.2, hk.2⟩⟩⟩)), (by (with_reducible repeat (first | apply Kd.R_alloc | apply Kd.R_drewN | apply Kd.R_drew)); exact HO_6.out), (by repeat (first | (with_reducible first | exact HB.out | apply below_alloc | apply pw_below_drewN | apply below_drew1) | exact HB.out))⟩)
           ·skip
            rintro v196 w139 ⟨h0_, h1_, h2_, h3_, h4_, h5_, h6_, h7_, h8_⟩
            have n0_ : Aside0 (Kd.R (Kd.int .u8) 33 w139 w.heap.size (fun k_ => some k_ ≠ (v190 : Value).ownBlock ∧ some k_ ≠ (v193 : Value).ownBlock) (.slice Ao118 t155.length co118) t155) := ⟨h0_⟩
            have n1_ : Aside0 (Kd.R k30 30 w139 w.heap.size (fun k_ => some k_ ≠ (.slice Ao124 t169.length co124 : Value).ownBlock) (.slice Ao120 t158.length co120) t158) := ⟨h1_⟩
            have n2_ : Aside0 (Kd.R k30 30 w139 w.heap.size (fun k_ => some k_ ≠ (.slice Ao120 t158.length co120 : Value).ownBlock) (.slice Ao124 t169.length co124) t169) := ⟨h2_⟩
            have n3_ : Aside0 (Kd.R (Kd.int .i32) 21 w139 w.heap.size (fun k_ => some k_ ≠ (v196 : Value).ownBlock ∧ some k_ ≠ (.slice Ao115 x6_2.length co115 : Value).ownBlock) (.slice Ao132 y186.length co132) y186) := ⟨h3_⟩
            have n4_ : Aside0 (Kd.R (Kd.int .u8) 33 w139 w.heap.size (fun k_ => some k_ ≠ (.slice Ao118 t155.length co118 : Value).ownBlock ∧ some k_ ≠ (v193 : Value).ownBlock) v190 t189) := ⟨h4_⟩
            have n5_ : Aside0 (Kd.R (Kd.int .u8) 33 w139 w.heap.size (fun k_ => some k_ ≠ (.slice Ao118 t155.length co118 : Value).ownBlock ∧ some k_ ≠ (v190 : Value).ownBlock) v193 y192) := ⟨h5_⟩
            have n6_ : Aside0 (Kd.R (Kd.int .i32) 21 w139 w.heap.size (fun k_ => some k_ ≠ (.slice Ao132 y186.length co132 : Value).ownBlock ∧ some k_ ≠ (.slice Ao115 x6_2.length co115 : Value).ownBlock) v196 y195) := ⟨h6_⟩
            have n7_ : Aside0 (Kd.R (Kd.int .i32) 21 w139 w.heap.size (fun k_ => some k_ ≠ (.slice Ao132 y186.length co132 : Value).ownBlock ∧ some k_ ≠ (v196 : Value).ownBlock) (.slice Ao115 x6_2.length co115) x6_2) := ⟨h7_⟩
            have n8_ : Aside0 (Below w.heap.size w w139) := ⟨h8_⟩
            clear HO_6
            clear HO157
            clear HO160
            clear HO171
            clear HO188
            clear HO191
            clear HO194
            clear HR164
            clear HR168
            clear HR176
            clear HR180
            clear HR184
            clear HB
            clear h0_ h1_ h2_ h3_ h4_ h5_ h6_ h7_ h8_
            have HO157 := n0_
            have HO160 := n1_
            have HO171 := n2_
            have HO188 := n3_
            have HO191 := n4_
            have HO194 := n5_
            have HO197 := n6_
            have HO_6 := n7_
            have HB := n8_
            clear n0_ n1_ n2_ n3_ n4_ n5_ n6_ n7_ n8_
            have hHeld := trivial
            refine norm_ (a' := ?_) ?_ ?_
            rotate_left
            ·simp only [putAll, Act.put, List.setIfInBounds_toArray, List.set_cons_zero, List.set_cons_succ]
             rfl
            refine two_ (i := 1) (j := 2) (Ni := some 170) (Nj := some 171) #[T_,T_,F_,T_,F_,F_,F_,F_,F_,F_] #[T_,F_,T_,T_,F_,F_,F_,F_,F_,F_] rfl rfl rfl rfl (two_of HT_.out (by kernel_rfl)) (by decide) (by decide) (fun K hK => ?_) (fun K hK => ?_)
            ·skip
             refine Kd.R_make_step (Kd.int .u8) _ 33 (by rfl) (N := 170) rfl 23 _ _ rfl 65537 rfl rfl Tryd.underlying23 (.int .u8 0) 1 info33 rfl (by decide) (by omega) 0 (ok := fun _ => True) (okp := fun _ => True) rfl (fun _ hk => hk) trivial (by omega) (by omega) (Below.refl _ _) (Nat.le_refl _) ?_
             intro v199 w140 ho141 hb hg_ hnew_
             clear hg_ hnew_
             (first | rw [← Ny198.out] at ho141 | (simp only [Int.reduceToNat] at ho141; rw [← Ny198.out] at ho141))
             have n0_ := Aside0.mk (Kd.R_below (by (with_reducible repeat (first | apply Kd.R_alloc | apply Kd.R_drewN | apply Kd.R_drew)); exact HO_6.out) hb)
             have n1_ := Aside0.mk (Kd.R_elder' (by (with_reducible repeat (first | apply Kd.R_alloc | apply Kd.R_drewN | apply Kd.R_drew)); exact HO157.out) (Kd.R_base ho141) hb)
             have n2_ := Aside0.mk (Kd.R_below (by (with_reducible repeat (first | apply Kd.R_alloc | apply Kd.R_drewN | apply Kd.R_drew)); exact HO160.out) hb)
             have n3_ := Aside0.mk (Kd.R_below (by (with_reducible repeat (first | apply Kd.R_alloc | apply Kd.R_drewN | apply Kd.R_drew)); exact HO171.out) hb)
             have n4_ := Aside0.mk (Kd.R_below (by (with_reducible repeat (first | apply Kd.R_alloc | apply Kd.R_drewN | apply Kd.R_drew)); exact HO188.out) hb)
             have n5_ := Aside0.mk (Kd.R_elder' (by (with_reducible repeat (first | apply Kd.R_alloc | apply Kd.R_drewN | apply Kd.R_drew)); exact HO191.out) (Kd.R_base ho141) hb)
             have n6_ := Aside0.mk (Kd.R_elder' (by (with_reducible repeat (first | apply Kd.R_alloc | apply Kd.R_drewN | apply Kd.R_drew)); exact HO194.out) (Kd.R_base ho141) hb)
             have n7_ := Aside0.mk (Kd.R_below (by (with_reducible repeat (first | apply Kd.R_alloc | apply Kd.R_drewN | apply Kd.R_drew)); exact HO197.out) hb)
             have n8_ := Aside0.mk (Kd.R_lower (Kd.R_new' (Kd.R_new' (Kd.R_new' ho141 (Kd.R_lt (by (with_reducible repeat (first | apply Kd.R_alloc | apply Kd.R_drewN | apply Kd.R_drew)); exact HO157.out))) (Kd.R_lt (by (with_reducible repeat (first | apply Kd.R_alloc | apply Kd.R_drewN | apply Kd.R_drew)); exact HO191.out))) (Kd.R_lt (by (with_reducible repeat (first | apply Kd.R_alloc | apply Kd.R_drewN | apply Kd.R_drew)); exact HO194.out))) (below_size (by repeat (first | (with_reducible first | exact HB.out | apply below_alloc | apply pw_below_drewN | apply below_drew1) | exact HB.out))))
             have n9_ := Aside0.mk (below_step (by repeat (first | (with_reducible first | exact HB.out | apply below_alloc | apply pw_below_drewN | apply below_drew1) | exact HB.out)) hb)
             clear HO_6
             clear HO157
             clear HO160
             clear HO171
             clear HO188
             clear HO191
             clear HO194
             clear HO197
             clear HB
             have HO_6 := n0_
             have HO157 := n1_
             have HO160 := n2_
             have HO171 := n3_
             have HO188 := n4_
             have HO191 := n5_
             have HO194 := n6_
             have HO197 := n7_
             have HO200 := n8_
             have HB := n9_
             clear n0_ n1_ n2_ n3_ n4_ n5_ n6_ n7_ n8_ n9_
             clear hb ho141
             refine hK.out _ _ trivial (fun hHeld => ?_)
             clear hK K
             refine norm_ (a' := ?_) ?_ ?_
             rotate_left
             ·show Act.put _ (some 170) _ = _
              simp only [Act.put, List.setIfInBounds_toArray, List.set_cons_zero, List.set_cons_succ, i64_w, i32_w]
              rfl
             exact norm_ (by first | (simp only [putAll, Act.put, List.setIfInBounds_toArray, List.set_cons_zero, List.set_cons_succ]; done) | (simp only [putAll, Act.put, List.setIfInBounds_toArray, List.set_cons_zero, List.set_cons_succ]; rfl)) (hJ0_1 (v196, v199) _ ⟨(by (with_reducible repeat (first | apply Kd.R_alloc | apply Kd.R_drewN | apply Kd.R_drew)); exact Kd.R_mono HO157.out (fun _ hk => ⟨hk.1.1, ⟨hk.1.2, hk.2⟩⟩)), (by (with_reducible repeat (first | apply Kd.R_alloc | apply Kd.R_drewN | apply Kd.R_drew)); exact HO160.out), (by (with_reducible repeat (first | apply Kd.R_alloc | apply Kd.R_drewN | apply Kd.R_drew)); exact HO171.out), (by (with_reducible repeat (first | apply Kd.R_alloc | apply Kd.R_drewN | apply Kd.R_drew)); exact HO188.out), (by (with_reducible repeat (first | apply Kd.R_alloc | apply Kd.R_drewN | apply Kd.R_drew)); exact Kd.R_mono HO191.out (fun _ hk => ⟨hk.1.1, ⟨hk.1.2, hk.2⟩⟩)), (by (with_reducible repeat (first | apply Kd.R_alloc | apply Kd.R_drewN | apply Kd.R_drew)); exact Kd.R_mono HO194.out (fun _ hk => ⟨hk.1.1, ⟨hk.1.2, hk.2⟩⟩)), (by (with_reducible repeat (first | apply Kd.R_alloc | apply Kd.R_drewN | apply Kd.R_drew)); exact HO197.out), (by (with_reducible repeat (first | apply Kd.R_alloc | apply Kd.R_drewN | apply Kd.R_drew)); exact Kd.R_mono HO200.out (fun _ hk => ⟨hk.1.1.2, ⟨hk.1.2, hk.2⟩⟩)), (by (with_reducible repeat (first | apply Kd.R_alloc | apply Kd.R_drewN | apply Kd.R_drew)); exact HO_6.out), (by repeat (first | (with_reducible first | exact HB.out | apply below_alloc | apply pw_below_drewN | apply below_drew1) | exact HB.out))⟩)
            ·skip
             refine Kd.R_make_step (Kd.int .u8) _ 33 (by rfl) (N := 171) rfl 23 _ _ rfl 65537 rfl rfl Tryd.underlying23 (.int .u8 0) 1 info33 rfl (by decide) (by omega) 0 (ok := fun _ => True) (okp := fun _ => True) rfl (fun _ hk => hk) trivial (by omega) (by omega) (Below.refl _ _) (Nat.le_refl _) ?_
             intro v202 w140 ho141 hb hg_ hnew_
             clear hg_ hnew_
             (first | rw [← Ny201.out] at ho141 | (simp only [Int.reduceToNat] at ho141; rw [← Ny201.out] at ho141))
             have n0_ := Aside0.mk (Kd.R_below (by (with_reducible repeat (first | apply Kd.R_alloc | apply Kd.R_drewN | apply Kd.R_drew)); exact HO_6.out) hb)
             have n1_ := Aside0.mk (Kd.R_elder' (by (with_reducible repeat (first | apply Kd.R_alloc | apply Kd.R_drewN | apply Kd.R_drew)); exact HO157.out) (Kd.R_base ho141) hb)
             have n2_ := Aside0.mk (Kd.R_below (by (with_reducible repeat (first | apply Kd.R_alloc | apply Kd.R_drewN | apply Kd.R_drew)); exact HO160.out) hb)
             have n3_ := Aside0.mk (Kd.R_below (by (with_reducible repeat (first | apply Kd.R_alloc | apply Kd.R_drewN | apply Kd.R_drew)); exact HO171.out) hb)
             have n4_ := Aside0.mk (Kd.R_below (by (with_reducible repeat (first | apply Kd.R_alloc | apply Kd.R_drewN | apply Kd.R_drew)); exact HO188.out) hb)
             have n5_ := Aside0.mk (Kd.R_elder' (by (with_reducible repeat (first | apply Kd.R_alloc | apply Kd.R_drewN | apply Kd.R_drew)); exact HO191.out) (Kd.R_base ho141) hb)
             have n6_ := Aside0.mk (Kd.R_elder' (by (with_reducible repeat (first | apply Kd.R_alloc | apply Kd.R_drewN | apply Kd.R_drew)); exact HO194.out) (Kd.R_base ho141) hb)
             have n7_ := Aside0.mk (Kd.R_below (by (with_reducible repeat (first | apply Kd.R_alloc | apply Kd.R_drewN | apply Kd.R_drew)); exact HO197.out) hb)
             have n8_ := Aside0.mk (Kd.R_lower (Kd.R_new' (Kd.R_new' (Kd.R_new' ho141 (Kd.R_lt (by (with_reducible repeat (first | apply Kd.R_alloc | apply Kd.R_drewN | apply Kd.R_drew)); exact HO157.out))) (Kd.R_lt (by (with_reducible repeat (first | apply Kd.R_alloc | apply Kd.R_drewN | apply Kd.R_drew)); exact HO191.out))) (Kd.R_lt (by (with_reducible repeat (first | apply Kd.R_alloc | apply Kd.R_drewN | apply Kd.R_drew)); exact HO194.out))) (below_size (by repeat (first | (with_reducible first | exact HB.out | apply below_alloc | apply pw_below_drewN | apply below_drew1) | exact HB.out))))
             have n9_ := Aside0.mk (below_step (by repeat (first | (with_reducible first | exact HB.out | apply below_alloc | apply pw_below_drewN | apply below_drew1) | exact HB.out)) hb)
             clear HO_6
             clear HO157
             clear HO160
             clear HO171
             clear HO188
             clear HO191
             clear HO194
             clear HO197
             clear HB
             have HO_6 := n0_
             have HO157 := n1_
             have HO160 := n2_
             have HO171 := n3_
             have HO188 := n4_
             have HO191 := n5_
             have HO194 := n6_
             have HO197 := n7_
             have HO203 := n8_
             have HB := n9_
             clear n0_ n1_ n2_ n3_ n4_ n5_ n6_ n7_ n8_ n9_
             clear hb ho141
             refine hK.out _ _ trivial (fun hHeld => ?_)
             clear hK K
             refine norm_ (a' := ?_) ?_ ?_
             rotate_left
             ·show Act.put _ (some 171) _ = _
              simp only [Act.put, List.setIfInBounds_toArray, List.set_cons_zero, List.set_cons_succ, i64_w, i32_w]
              rfl
             exact norm_ (by first | (simp only [putAll, Act.put, List.setIfInBounds_toArray, List.set_cons_zero, List.set_cons_succ]; done) | (simp only [putAll, Act.put, List.setIfInBounds_toArray, List.set_cons_zero, List.set_cons_succ]; rfl)) (hJ0_2 (v196, v202) _ ⟨(by (with_reducible repeat (first | apply Kd.R_alloc | apply Kd.R_drewN | apply Kd.R_drew)); exact Kd.R_mono HO157.out (fun _ hk => ⟨hk.1.1, ⟨hk.1.2, hk.2⟩⟩)), (by (with_reducible repeat (first | apply Kd.R_alloc | apply Kd.R_drewN | apply Kd.R_drew)); exact HO160.out), (by (with_reducible repeat (first | apply Kd.R_alloc | apply Kd.R_drewN | apply Kd.R_drew)); exact HO171.out), (by (with_reducible repeat (first | apply Kd.R_alloc | apply Kd.R_drewN | apply Kd.R_drew)); exact HO188.out), (by (with_reducible repeat (first | apply Kd.R_alloc | apply Kd.R_drewN | apply Kd.R_drew)); exact Kd.R_mono HO191.out (fun _ hk => ⟨hk.1.1, ⟨hk.1.2, hk.2⟩⟩)), (by (with_reducible repeat (first | apply Kd.R_alloc | apply Kd.R_drewN | apply Kd.R_drew)); exact Kd.R_mono HO194.out (fun _ hk => ⟨hk.1.1, ⟨hk.1.2, hk.2⟩⟩)), (by (with_reducible repeat (first | apply Kd.R_alloc | apply Kd.R_drewN | apply Kd.R_drew)); exact HO197.out), (by (with_reducible repeat (first | apply Kd.R_alloc | apply Kd.R_drewN | apply Kd.R_drew)); exact Kd.R_mono HO203.out (fun _ hk => ⟨hk.1.1.2, ⟨hk.1.2, hk.2⟩⟩)), (by (with_reducible repeat (first | apply Kd.R_alloc | apply Kd.R_drewN | apply Kd.R_drew)); exact HO_6.out), (by repeat (first | (with_reducible first | exact HB.out | apply below_alloc | apply pw_below_drewN | apply below_drew1) | exact HB.out))⟩)
          ·skip
           rintro ⟨v199, v202⟩ w141 ⟨h0_, h1_, h2_, h3_, h4_, h5_, h6_, h7_, h8_, h9_⟩
           have n0_ : Aside0 (Kd.R (Kd.int .u8) 33 w141 w.heap.size (fun k_ => some k_ ≠ (v190 : Value).ownBlock ∧ some k_ ≠ (v193 : Value).ownBlock ∧ some k_ ≠ (v199 : Value).ownBlock ∧ some k_ ≠ (v202 : Value).ownBlock) (.slice Ao118 t155.length co118) t155) := ⟨h0_⟩
           have n1_ : Aside0 (Kd.R k30 30 w141 w.heap.size (fun k_ => some k_ ≠ (.slice Ao124 t169.length co124 : Value).ownBlock) (.slice Ao120 t158.length co120) t158) := ⟨h1_⟩
           have n2_ : Aside0 (Kd.R k30 30 w141 w.heap.size (fun k_ => some k_ ≠ (.slice Ao120 t158.length co120 : Value).ownBlock) (.slice Ao124 t169.length co124) t169) := ⟨h2_⟩
           have n3_ : Aside0 (Kd.R (Kd.int .i32) 21 w141 w.heap.size (fun k_ => some k_ ≠ (.slice Ao115 x6_2.length co115 : Value).ownBlock) (.slice Ao132 y186.length co132) y186) := ⟨h3_⟩
           have n4_ : Aside0 (Kd.R (Kd.int .u8) 33 w141 w.heap.size (fun k_ => some k_ ≠ (.slice Ao118 t155.length co118 : Value).ownBlock ∧ some k_ ≠ (v193 : Value).ownBlock ∧ some k_ ≠ (v199 : Value).ownBlock ∧ some k_ ≠ (v202 : Value).ownBlock) v190 t189) := ⟨h4_⟩
           have n5_ : Aside0 (Kd.R (Kd.int .u8) 33 w141 w.heap.size (fun k_ => some k_ ≠ (.slice Ao118 t155.length co118 : Value).ownBlock ∧ some k_ ≠ (v190 : Value).ownBlock ∧ some k_ ≠ (v199 : Value).ownBlock ∧ some k_ ≠ (v202 : Value).ownBlock) v193 y192) := ⟨h5_⟩
           have n6_ : Aside0 (Kd.R (Kd.int .u8) 33 w141 w.heap.size (fun k_ => some k_ ≠ (.slice Ao118 t155.length co118 : Value).ownBlock ∧ some k_ ≠ (v190 : Value).ownBlock ∧ some k_ ≠ (v193 : Value).ownBlock ∧ some k_ ≠ (v202 : Value).ownBlock) v199 y198) := ⟨h6_⟩
           have n7_ : Aside0 (Kd.R (Kd.int .u8) 33 w141 w.heap.size (fun k_ => some k_ ≠ (.slice Ao118 t155.length co118 : Value).ownBlock ∧ some k_ ≠ (v190 : Value).ownBlock ∧ some k_ ≠ (v193 : Value).ownBlock ∧ some k_ ≠ (v199 : Value).ownBlock) v202 y201) := ⟨h7_⟩
           have n8_ : Aside0 (Kd.R (Kd.int .i32) 21 w141 w.heap.size (fun k_ => some k_ ≠ (.slice Ao132 y186.length co132 : Value).ownBlock) (.slice Ao115 x6_2.length co115) x6_2) := ⟨h8_⟩
           have n9_ : Aside0 (Below w.heap.size w w141) := ⟨h9_⟩
           clear HO_6
           clear HO157
           clear HO160
           clear HO171
           clear HO188
           clear HO191
           clear HO194
           clear HR164
           clear HR168
           clear HR176
           clear HR180
           clear HR184
           clear HB
           clear h0_ h1_ h2_ h3_ h4_ h5_ h6_ h7_ h8_ h9_
           have HO157 := n0_
           have HO160 := n1_
           have HO171 := n2_
           have HO188 := n3_
           have HO191 := n4_
           have HO194 := n5_
           have HO200 := n6_
           have HO203 := n7_
           have HO_6 := n8_
           have HB := n9_
           clear n0_ n1_ n2_ n3_ n4_ n5_ n6_ n7_ n8_ n9_
           have hHeld := trivial
           refine norm_ (a' := ?_) ?_ ?_
           rotate_left
           ·simp only [putAll, Act.put, List.setIfInBounds_toArray, List.set_cons_zero, List.set_cons_succ]
            rfl
           refine one_ (i := 0) (N := some 169) #[T_,T_,T_,T_,F_,F_,F_,F_,F_,F_] rfl rfl (one_of HT_.out (by kernel_rfl)) (by decide) (fun K hK => ?_)
           refine Kd.R_make_step (Kd.int .i32) _ 21 (by rfl) (N := 169) rfl 22 _ _ rfl 65537 rfl rfl Tryd.underlying22 (.int .i32 0) 4 info21 rfl (by decide) (by omega) 0 (ok := fun _ => True) (okp := fun _ => True) rfl (fun _ hk => hk) trivial (by omega) (by omega) (Below.refl _ _) (Nat.le_refl _) ?_
           intro v196 w142 ho143 hb hg_ hnew_
           clear hg_ hnew_
           (first | rw [← Ny195.out] at ho143 | (simp only [Int.reduceToNat] at ho143; rw [← Ny195.out] at ho143))
           have n0_ := Aside0.mk (Kd.R_elder' (by (with_reducible repeat (first | apply Kd.R_alloc | apply Kd.R_drewN | apply Kd.R_drew)); exact HO_6.out) (Kd.R_base ho143) hb)
           have n1_ := Aside0.mk (Kd.R_below (by (with_reducible repeat (first | apply Kd.R_alloc | apply Kd.R_drewN | apply Kd.R_drew)); exact HO157.out) hb)
           have n2_ := Aside0.mk (Kd.R_below (by (with_reducible repeat (first | apply Kd.R_alloc | apply Kd.R_drewN | apply Kd.R_drew)); exact HO160.out) hb)
           have n3_ := Aside0.mk (Kd.R_below (by (with_reducible repeat (first | apply Kd.R_alloc | apply Kd.R_drewN | apply Kd.R_drew)); exact HO171.out) hb)
           have n4_ := Aside0.mk (Kd.R_elder' (by (with_reducible repeat (first | apply Kd.R_alloc | apply Kd.R_drewN | apply Kd.R_drew)); exact HO188.out) (Kd.R_base ho143) hb)
           have n5_ := Aside0.mk (Kd.R_below (by (with_reducible repeat (first | apply Kd.R_alloc | apply Kd.R_drewN | apply Kd.R_drew)); exact HO191.out) hb)
           have n6_ := Aside0.mk (Kd.R_below (by (with_reducible repeat (first | apply Kd.R_alloc | apply Kd.R_drewN | apply Kd.R_drew)); exact HO194.out) hb)
           have n7_ := Aside0.mk (Kd.R_below (by (with_reducible repeat (first | apply Kd.R_alloc | apply Kd.R_drewN | apply Kd.R_drew)); exact HO200.out) hb)
           have n8_ := Aside0.mk (Kd.R_below (by (with_reducible repeat (first | apply Kd.R_alloc | apply Kd.R_drewN | apply Kd.R_drew)); exact HO203.out) hb)
           have n9_ := Aside0.mk (Kd.R_lower (Kd.R_new' (Kd.R_new' ho143 (Kd.R_lt (by (with_reducible repeat (first | apply Kd.R_alloc | apply Kd.R_drewN | apply Kd.R_drew)); exact HO_6.out))) (Kd.R_lt (by (with_reducible repeat (first | apply Kd.R_alloc | apply Kd.R_drewN | apply Kd.R_drew)); exact HO188.out))) (below_size (by repeat (first | (with_reducible first | exact HB.out | apply below_alloc | apply pw_below_drewN | apply below_drew1) | exact HB.out))))
           have n10_ := Aside0.mk (below_step (by repeat (first | (with_reducible first | exact HB.out | apply below_alloc | apply pw_below_drewN | apply below_drew1) | exact HB.out)) hb)
           clear HO_6
           clear HO157
           clear HO160
           clear HO171
           clear HO188
           clear HO191
           clear HO194
           clear HO200
           clear HO203
           clear HB
           have HO_6 := n0_
           have HO157 := n1_
           have HO160 := n2_
           have HO171 := n3_
           have HO188 := n4_
           have HO191 := n5_
           have HO194 := n6_
           have HO200 := n7_
           have HO203 := n8_
           have HO197 := n9_
           have HB := n10_
           clear n0_ n1_ n2_ n3_ n4_ n5_ n6_ n7_ n8_ n9_ n10_
           clear hb ho143
           refine hK.out _ _ trivial (fun hHeld => ?_)
           clear hK K
           refine norm_ (a' := ?_) ?_ ?_
           rotate_left
           ·show Act.put _ (some 169) _ = _
            simp only [Act.put, List.setIfInBounds_toArray, List.set_cons_zero, List.set_cons_succ, i64_w, i32_w]
            rfl
           exact norm_ (by first | (simp only [putAll, Act.put, List.setIfInBounds_toArray, List.set_cons_zero, List.set_cons_succ]; done) | (simp only [putAll, Act.put, List.setIfInBounds_toArray, List.set_cons_zero, List.set_cons_succ]; rfl)) (hJ0_1_2 (v196, v199, v202) _ ⟨(by (with_reducible repeat (first | apply Kd.R_alloc | apply Kd.R_drewN | apply Kd.R_drew)); exact HO157.out), (by (with_reducible repeat (first | apply Kd.R_alloc | apply Kd.R_drewN | apply Kd.R_drew)); exact HO160.out), (by (with_reducible repeat (first | apply Kd.R_alloc | apply Kd.R_drewN | apply Kd.R_drew)); exact HO171.out), (by (with_reducible repeat (first | apply Kd.R_alloc | apply Kd.R_drewN | apply Kd.R_drew)); exact Kd.R_mono HO188.out (fun _ hk => ⟨hk.2, hk.1⟩)), (by (with_reducible repeat (first | apply Kd.R_alloc | apply Kd.R_drewN | apply Kd.R_drew)); exact HO191.out), (by (with_reducible repeat (first | apply Kd.R_alloc | apply Kd.R_drewN | apply Kd.R_drew)); exact HO194.out), (by (with_reducible repeat (first | apply Kd.R_alloc | apply Kd.R_drewN | apply Kd.R_drew)); exact Kd.R_mono HO197.out (fun _ hk => ⟨hk.2, hk.1.2⟩)), (by (with_reducible repeat (first | apply Kd.R_alloc | apply Kd.R_drewN | apply Kd.R_drew)); exact HO200.out), (by (with_reducible repeat (first | apply Kd.R_alloc | apply Kd.R_drewN | apply Kd.R_drew)); exact HO203.out), (by (with_reducible repeat (first | apply Kd.R_alloc | apply Kd.R_drewN | apply Kd.R_drew)); exact HO_6.out), (by repeat (first | (with_reducible first | exact HB.out | apply below_alloc | apply pw_below_drewN | apply below_drew1) | exact HB.out))⟩)
         ·skip
          rintro ⟨v196, v202⟩ w141 ⟨h0_, h1_, h2_, h3_, h4_, h5_, h6_, h7_, h8_, h9_⟩
          have n0_ : Aside0 (Kd.R (Kd.int .u8) 33 w141 w.heap.size (fun k_ => some k_ ≠ (v190 : Value).ownBlock ∧ some k_ ≠ (v193 : Value).ownBlock ∧ some k_ ≠ (v202 : Value).ownBlock) (.slice Ao118 t155.length co118) t155) := ⟨h0_⟩
          have n1_ : Aside0 (Kd.R k30 30 w141 w.heap.size (fun k_ => some k_ ≠ (.slice Ao124 t169.length co124 : Value).ownBlock) (.slice Ao120 t158.length co120) t158) := ⟨h1_⟩
          have n2_ : Aside0 (Kd.R k30 30 w141 w.heap.size (fun k_ => some k_ ≠ (.slice Ao120 t158.length co120 : Value).ownBlock) (.slice Ao124 t169.length co124) t169) := ⟨h2_⟩
          have n3_ : Aside0 (Kd.R (Kd.int .i32) 21 w141 w.heap.size (fun k_ => some k_ ≠ (v196 : Value).ownBlock ∧ some k_ ≠ (.slice Ao115 x6_2.length co115 : Value).ownBlock) (.slice Ao132 y186.length co132) y186) := ⟨h3_⟩
          have n4_ : Aside0 (Kd.R (Kd.int .u8) 33 w141 w.heap.size (fun k_ => some k_ ≠ (.slice Ao118 t155.length co118 : Value).ownBlock ∧ some k_ ≠ (v193 : Value).ownBlock ∧ some k_ ≠ (v202 : Value).ownBlock) v190 t189) := ⟨h4_⟩
          have n5_ : Aside0 (Kd.R (Kd.int .u8) 33 w141 w.heap.size (fun k_ => some k_ ≠ (.slice Ao118 t155.length co118 : Value).ownBlock ∧ some k_ ≠ (v190 : Value).ownBlock ∧ some k_ ≠ (v202 : Value).ownBlock) v193 y192) := ⟨h5_⟩
          have n6_ : Aside0 (Kd.R (Kd.int .i32) 21 w141 w.heap.size (fun k_ => some k_ ≠ (.slice Ao132 y186.length co132 : Value).ownBlock ∧ some k_ ≠ (.slice Ao115 x6_2.length co115 : Value).ownBlock) v196 y195) := ⟨h6_⟩
          have n7_ : Aside0 (Kd.R (Kd.int .u8) 33 w141 w.heap.size (fun k_ => some k_ ≠ (.slice Ao118 t155.length co118 : Value).ownBlock ∧ some k_ ≠ (v190 : Value).ownBlock ∧ some k_ ≠ (v193 : Value).ownBlock) v202 y201) := ⟨h7_⟩
          have n8_ : Aside0 (Kd.R (Kd.int .i32) 21 w141 w.heap.size (fun k_ => some k_ ≠ (.slice Ao132 y186.length co132 : Value).ownBlock ∧ some k_ ≠ (v196 : Value).ownBlock) (.slice Ao115 x6_2.length co115) x6_2) := ⟨h8_⟩
          have n9_ : Aside0 (Below w.heap.size w w141) := ⟨h9_⟩
          clear HO_6
          clear HO157
          clear HO160
          clear HO171
          clear HO188
          clear HO191
          clear HO194
          clear HR164
          clear HR168
          clear HR176
          clear HR180
          clear HR184
          clear HB
          clear h0_ h1_ h2_ h3_ h4_ h5_ h6_ h7_ h8_ h9_
          have HO157 := n0_
          have HO160 := n1_
          have HO171 := n2_
          have HO188 := n3_
          have HO191 := n4_
          have HO194 := n5_
          have HO197 := n6_
          have HO203 := n7_
          have HO_6 := n8_
          have HB := n9_
          clear n0_ n1_ n2_ n3_ n4_ n5_ n6_ n7_ n8_ n9_
          have hHeld := trivial
          refine norm_ (a' := ?_) ?_ ?_
          rotate_left
          ·simp only [putAll, Act.put, List.setIfInBounds_toArray, List.set_cons_zero, List.set_cons_succ]
           rfl
          refine one_ (i := 1) (N := some 170) #[T_,T_,T_,T_,F_,F_,F_,F_,F_,F_] rfl rfl (one_of HT_.out (by kernel_rfl)) (by decide) (fun K hK => ?_)
          refine Kd.R_make_step (Kd.int .u8) _ 33 (by rfl) (N := 170) rfl 23 _ _ rfl 65537 rfl rfl Tryd.underlying23 (.int .u8 0) 1 info33 rfl (by decide) (by omega) 0 (ok := fun _ => True) (okp := fun _ => True) rfl (fun _ hk => hk) trivial (by omega) (by omega) (Below.refl _ _) (Nat.le_refl _) ?_
          intro v199 w142 ho143 hb hg_ hnew_
          clear hg_ hnew_
          (first | rw [← Ny198.out] at ho143 | (simp only [Int.reduceToNat] at ho143; rw [← Ny198.out] at ho143))
          have n0_ := Aside0.mk (Kd.R_below (by (with_reducible repeat (first | apply Kd.R_alloc | apply Kd.R_drewN | apply Kd.R_drew)); exact HO_6.out) hb)
          have n1_ := Aside0.mk (Kd.R_elder' (by (with_reducible repeat (first | apply Kd.R_alloc | apply Kd.R_drewN | apply Kd.R_drew)); exact HO157.out) (Kd.R_base ho143) hb)
          have n2_ := Aside0.mk (Kd.R_below (by (with_reducible repeat (first | apply Kd.R_alloc | apply Kd.R_drewN | apply Kd.R_drew)); exact HO160.out) hb)
          have n3_ := Aside0.mk (Kd.R_below (by (with_reducible repeat (first | apply Kd.R_alloc | apply Kd.R_drewN | apply Kd.R_drew)); exact HO171.out) hb)
          have n4_ := Aside0.mk (Kd.R_below (by (with_reducible repeat (first | apply Kd.R_alloc | apply Kd.R_drewN | apply Kd.R_drew)); exact HO188.out) hb)
          have n5_ := Aside0.mk (Kd.R_elder' (by (with_reducible repeat (first | apply Kd.R_alloc | apply Kd.R_drewN | apply Kd.R_drew)); exact HO191.out) (Kd.R_base ho143) hb)
          have n6_ := Aside0.mk (Kd.R_elder' (by (with_reducible repeat (first | apply Kd.R_alloc | apply Kd.R_drewN | apply Kd.R_drew)); exact HO194.out) (Kd.R_base ho143) hb)
          have n7_ := Aside0.mk (Kd.R_below (by (with_reducible repeat (first | apply Kd.R_alloc | apply Kd.R_drewN | apply Kd.R_drew)); exact HO197.out) hb)
          have n8_ := Aside0.mk (Kd.R_elder' (by (with_reducible repeat (first | apply Kd.R_alloc | apply Kd.R_drewN | apply Kd.R_drew)); exact HO203.out) (Kd.R_base ho143) hb)
          have n9_ := Aside0.mk (Kd.R_lower (Kd.R_new' (Kd.R_new' (Kd.R_new' (Kd.R_new' ho143 (Kd.R_lt (by (with_reducible repeat (first | apply Kd.R_alloc | apply Kd.R_drewN | apply Kd.R_drew)); exact HO157.out))) (Kd.R_lt (by (with_reducible repeat (first | apply Kd.R_alloc | apply Kd.R_drewN | apply Kd.R_drew)); exact HO191.out))) (Kd.R_lt (by (with_reducible repeat (first | apply Kd.R_alloc | apply Kd.R_drewN | apply Kd.R_drew)); exact HO194.out))) (Kd.R_lt (by (with_reducible repeat (first | apply Kd.R_alloc | apply Kd.R_drewN | apply Kd.R_drew)); exact HO203.out))) (below_size (by repeat (first | (with_reducible first | exact HB.out | apply below_alloc | apply pw_below_drewN | apply below_drew1) | exact HB.out))))
          have n10_ := Aside0.mk (below_step (by repeat (first | (with_reducible first | exact HB.out | apply below_alloc | apply pw_below_drewN | apply below_drew1) | exact HB.out)) hb)
          clear HO_6
          clear HO157
          clear HO160
          clear HO171
          clear HO188
          clear HO191
          clear HO194
          clear HO197
          clear HO203
          clear HB
          have HO_6 := n0_
          have HO157 := n1_
          have HO160 := n2_
          have HO171 := n3_
          have HO188 := n4_
          have HO191 := n5_
          have HO194 := n6_
          have HO197 := n7_
          have HO203 := n8_
          have HO200 := n9_
          have HB := n10_
          clear n0_ n1_ n2_ n3_ n4_ n5_ n6_ n7_ n8_ n9_ n10_
          clear hb ho143
          refine hK.out _ _ trivial (fun hHeld => ?_)
          clear hK K
          refine norm_ (a' := ?_) ?_ ?_
          rotate_left
          ·show Act.put _ (some 170) _ = _
           simp only [Act.put, List.setIfInBounds_toArray, List.set_cons_zero, List.set_cons_succ, i64_w, i32_w]
           rfl
          exact norm_ (by first | (simp only [putAll, Act.put, List.setIfInBounds_toArray, List.set_cons_zero, List.set_cons_succ]; done) | (simp only [putAll, Act.put, List.setIfInBounds_toArray, List.set_cons_zero, List.set_cons_succ]; rfl)) (hJ0_1_2 (v196, v199, v202) _ ⟨(by (with_reducible repeat (first | apply Kd.R_alloc | apply Kd.R_drewN | apply Kd.R_drew)); exact Kd.R_mono HO157.out (fun _ hk => ⟨hk.1.1, ⟨hk.1.2.1, ⟨hk.2, hk.1.2.2⟩⟩⟩)), (by (with_reducible repeat (first | apply Kd.R_alloc | apply Kd.R_drewN | apply Kd.R_drew)); exact HO160.out), (by (with_reducible repeat (first | apply Kd.R_alloc | apply Kd.R_drewN | apply Kd.R_drew)); exact HO171.out), (by (with_reducible repeat (first | apply Kd.R_alloc | apply Kd.R_drewN | apply Kd.R_drew)); exact HO188.out), (by (with_reducible repeat (first | apply Kd.R_alloc | apply Kd.R_drewN | apply Kd.R_drew)); exact Kd.R_mono HO191.out (fun _ hk => ⟨hk.1.1, ⟨hk.1.2.1, ⟨hk.2, hk.1.2.2⟩⟩⟩)), (by (with_reducible repeat (first | apply Kd.R_alloc | apply Kd.R_drewN | apply Kd.R_drew)); exact Kd.R_mono HO194.out (fun _ hk => ⟨hk.1.1, ⟨hk.1.2.1, ⟨hk.2, hk.1.2.2⟩⟩⟩)), (by (with_reducible repeat (first | apply Kd.R_alloc | apply Kd.R_drewN | apply Kd.R_drew)); exact HO197.out), (by (with_reducible repeat (first | apply Kd.R_alloc | apply Kd.R_drewN | apply Kd.R_drew)); exact Kd.R_mono HO200.out (fun _ hk => ⟨hk.1.1.1.2, ⟨hk.1.1.2, ⟨hk.1.2, hk.2⟩⟩⟩)), (by (with_reducible repeat (first | apply Kd.R_alloc | apply Kd.R_drewN | apply Kd.R_drew)); exact Kd.R_mono HO203.out (fun _ hk => ⟨hk.1.1, ⟨hk.1.2.1, ⟨hk.1.2.2, hk.2⟩⟩⟩)), (by (with_reducible repeat (first | apply Kd.R_alloc | apply Kd.R_drewN | apply Kd.R_drew)); exact HO_6.out), (by repeat (first | (with_reducible first | exact HB.out | apply below_alloc | apply pw_below_drewN | apply below_drew1) | exact HB.out))⟩)
        ·skip
         rintro ⟨v196, v199⟩ w141 ⟨h0_, h1_, h2_, h3_, h4_, h5_, h6_, h7_, h8_, h9_⟩
         have n0_ : Aside0 (Kd.R (Kd.int .u8) 33 w141 w.heap.size (fun k_ => some k_ ≠ (v190 : Value).ownBlock ∧ some k_ ≠ (v193 : Value).ownBlock ∧ some k_ ≠ (v199 : Value).ownBlock) (.slice Ao118 t155.length co118) t155) := ⟨h0_⟩
         have n1_ : Aside0 (Kd.R k30 30 w141 w.heap.size (fun k_ => some k_ ≠ (.slice Ao124 t169.length co124 : Value).ownBlock) (.slice Ao120 t158.length co120) t158) := ⟨h1_⟩
         have n2_ : Aside0 (Kd.R k30 30 w141 w.heap.size (fun k_ => some k_ ≠ (.slice Ao120 t158.length co120 : Value).ownBlock) (.slice Ao124 t169.length co124) t169) := ⟨h2_⟩
         have n3_ : Aside0 (Kd.R (Kd.int .i32) 21 w141 w.heap.size (fun k_ => some k_ ≠ (v196 : Value).ownBlock ∧ some k_ ≠ (.slice Ao115 x6_2.length co115 : Value).ownBlock) (.slice Ao132 y186.length co132) y186) := ⟨h3_⟩
         have n4_ : Aside0 (Kd.R (Kd.int .u8) 33 w141 w.heap.size (fun k_ => some k_ ≠ (.slice Ao118 t155.length co118 : Value).ownBlock ∧ some k_ ≠ (v193 : Value).ownBlock ∧ some k_ ≠ (v199 : Value).ownBlock) v190 t189) := ⟨h4_⟩
         have n5_ : Aside0 (Kd.R (Kd.int .u8) 33 w141 w.heap.size (fun k_ => some k_ ≠ (.slice Ao118 t155.length co118 : Value).ownBlock ∧ some k_ ≠ (v190 : Value).ownBlock ∧ some k_ ≠ (v199 : Value).ownBlock) v193 y192) := ⟨h5_⟩
         have n6_ : Aside0 (Kd.R (Kd.int .i32) 21 w141 w.heap.size (fun k_ => some k_ ≠ (.slice Ao132 y186.length co132 : Value).ownBlock ∧ some k_ ≠ (.slice Ao115 x6_2.length co115 : Value).ownBlock) v196 y195) := ⟨h6_⟩
         have n7_ : Aside0 (Kd.R (Kd.int .u8) 33 w141 w.heap.size (fun k_ => some k_ ≠ (.slice Ao118 t155.length co118 : Value).ownBlock ∧ some k_ ≠ (v190 : Value).ownBlock ∧ some k_ ≠ (v193 : Value).ownBlock) v199 y198) := ⟨h7_⟩
         have n8_ : Aside0 (Kd.R (Kd.int .i32) 21 w141 w.heap.size (fun k_ => some k_ ≠ (.slice Ao132 y186.length co132 : Value).ownBlock ∧ some k_ ≠ (v196 : Value).ownBlock) (.slice Ao115 x6_2.length co115) x6_2) := ⟨h8_⟩
         have n9_ : Aside0 (Below w.heap.size w w141) := ⟨h9_⟩
         clear HO_6
         clear HO157
         clear HO160
         clear HO171
         clear HO188
         clear HO191
         clear HO194
         clear HR164
         clear HR168
         clear HR176
         clear HR180
         clear HR184
         clear HB
         clear h0_ h1_ h2_ h3_ h4_ h5_ h6_ h7_ h8_ h9_
         have HO157 := n0_
         have HO160 := n1_
         have HO171 := n2_
         have HO188 := n3_
         have HO191 := n4_
         have HO194 := n5_
         have HO197 := n6_
         have HO200 := n7_
         have HO_6 := n8_
         have HB := n9_
         clear n0_ n1_ n2_ n3_ n4_ n5_ n6_ n7_ n8_ n9_
         have hHeld := trivial
         refine norm_ (a' := ?_) ?_ ?_
         rotate_left
         ·simp only [putAll, Act.put, List.setIfInBounds_toArray, List.set_cons_zero, List.set_cons_succ]
          rfl
         refine one_ (i := 2) (N := some 171) #[T_,T_,T_,T_,F_,F_,F_,F_,F_,F_] rfl rfl (one_of HT_.out (by kernel_rfl)) (by decide) (fun K hK => ?_)
         refine Kd.R_make_step (Kd.int .u8) _ 33 (by rfl) (N := 171) rfl 23 _ _ rfl 65537 rfl rfl Tryd.underlying23 (.int .u8 0) 1 info33 rfl (by decide) (by omega) 0 (ok := fun _ => True) (okp := fun _ => True) rfl (fun _ hk => hk) trivial (by omega) (by omega) (Below.refl _ _) (Nat.le_refl _) ?_
         intro v202 w142 ho143 hb hg_ hnew_
         clear hg_ hnew_
         (first | rw [← Ny201.out] at ho143 | (simp only [Int.reduceToNat] at ho143; rw [← Ny201.out] at ho143))
         have n0_ := Aside0.mk (Kd.R_below (by (with_reducible repeat (first | apply Kd.R_alloc | apply Kd.R_drewN | apply Kd.R_drew)); exact HO_6.out) hb)
         have n1_ := Aside0.mk (Kd.R_elder' (by (with_reducible repeat (first | apply Kd.R_alloc | apply Kd.R_drewN | apply Kd.R_drew)); exact HO157.out) (Kd.R_base ho143) hb)
         have n2_ := Aside0.mk (Kd.R_below (by (with_reducible repeat (first | apply Kd.R_alloc | apply Kd.R_drewN | apply Kd.R_drew)); exact HO160.out) hb)
         have n3_ := Aside0.mk (Kd.R_below (by (with_reducible repeat (first | apply Kd.R_alloc | apply Kd.R_drewN | apply Kd.R_drew)); exact HO171.out) hb)
         have n4_ := Aside0.mk (Kd.R_below (by (with_reducible repeat (first | apply Kd.R_alloc | apply Kd.R_drewN | apply Kd.R_drew)); exact HO188.out) hb)
         have n5_ := Aside0.mk (Kd.R_elder' (by (with_reducible repeat (first | apply Kd.R_alloc | apply Kd.R_drewN | apply Kd.R_drew)); exact HO191.out) (Kd.R_base ho143) hb)
         have n6_ := Aside0.mk (Kd.R_elder' (by (with_reducible repeat (first | apply Kd.R_alloc | apply Kd.R_drewN | apply Kd.R_drew)); exact HO194.out) (Kd.R_base ho143) hb)
         have n7_ := Aside0.mk (Kd.R_below (by (with_reducible repeat (first | apply Kd.R_alloc | apply Kd.R_drewN | apply Kd.R_drew)); exact HO197.out) hb)
         have n8_ := Aside0.mk (Kd.R_elder' (by (with_reducible repeat (first | apply Kd.R_alloc | apply Kd.R_drewN | apply Kd.R_drew)); exact HO200.out) (Kd.R_base ho143) hb)
         have n9_ := Aside0.mk (Kd.R_lower (Kd.R_new' (Kd.R_new' (Kd.R_new' (Kd.R_new' ho143 (Kd.R_lt (by (with_reducible repeat (first | apply Kd.R_alloc | apply Kd.R_drewN | apply Kd.R_drew)); exact HO157.out))) (Kd.R_lt (by (with_reducible repeat (first | apply Kd.R_alloc | apply Kd.R_drewN | apply Kd.R_drew)); exact HO191.out))) (Kd.R_lt (by (with_reducible repeat (first | apply Kd.R_alloc | apply Kd.R_drewN | apply Kd.R_drew)); exact HO194.out))) (Kd.R_lt (by (with_reducible repeat (first | apply Kd.R_alloc | apply Kd.R_drewN | apply Kd.R_drew)); exact HO200.out))) (below_size (by repeat (first | (with_reducible first | exact HB.out | apply below_alloc | apply pw_below_drewN | apply below_drew1) | exact HB.out))))
         have n10_ := Aside0.mk (below_step (by repeat (first | (with_reducible first | exact HB.out | apply below_alloc | apply pw_below_drewN | apply below_drew1) | exact HB.out)) hb)
         clear HO_6
         clear HO157
         clear HO160
         clear HO171
         clear HO188
         clear HO191
         clear HO194
         clear HO197
         clear HO200
         clear HB
         have HO_6 := n0_
         have HO157 := n1_
         have HO160 := n2_
         have HO171 := n3_
         have HO188 := n4_
         have HO191 := n5_
         have HO194 := n6_
         have HO197 := n7_
         have HO200 := n8_
         have HO203 := n9_
         have HB := n10_
         clear n0_ n1_ n2_ n3_ n4_ n5_ n6_ n7_ n8_ n9_ n10_
         clear hb ho143
         refine hK.out _ _ trivial (fun hHeld => ?_)
         clear hK K
         refine norm_ (a' := ?_) ?_ ?_
         rotate_left
         ·show Act.put _ (some 171) _ = _
          simp only [Act.put, List.setIfInBounds_toArray, List.set_cons_zero, List.set_cons_succ, i64_w, i32_w]
          rfl
         exact norm_ (by first | (simp only [putAll, Act.put, List.setIfInBounds_toArray, List.set_cons_zero, List.set_cons_succ]; done) | (simp only [putAll, Act.put, List.setIfInBounds_toArray, List.set_cons_zero, List.set_cons_succ]; rfl)) (hJ0_1_2 (v196, v199, v202) _ ⟨(by (with_reducible repeat (first | apply Kd.R_alloc | apply Kd.R_drewN | apply Kd.R_drew)); exact Kd.R_mono HO157.out (fun _ hk => ⟨hk.1.1, ⟨hk.1.2.1, ⟨hk.1.2.2, hk.2⟩⟩⟩)), (by (with_reducible repeat (first | apply Kd.R_alloc | apply Kd.R_drewN | apply Kd.R_drew)); exact HO160.out), (by (with_reducible repeat (first | apply Kd.R_alloc | apply Kd.R_drewN | apply Kd.R_drew)); exact HO171.out), (by (with_reducible repeat (first | apply Kd.R_alloc | apply Kd.R_drewN | apply Kd.R_drew)); exact HO188.out), (by (with_reducible repeat (first | apply Kd.R_alloc | apply Kd.R_drewN | apply Kd.R_drew)); exact Kd.R_mono HO191.out (fun _ hk => ⟨hk.1.1, ⟨hk.1.2.1, ⟨hk.1.2.2, hk.2⟩⟩⟩)), (by (with_reducible repeat (first | apply Kd.R_alloc | apply Kd.R_drewN | apply Kd.R_drew)); exact Kd.R_mono HO194.out (fun _ hk => ⟨hk.1.1, ⟨hk.1.2.1, ⟨hk.1.2.2, hk.2⟩⟩⟩)), (by (with_reducible repeat (first | apply Kd.R_alloc | apply Kd.R_drewN | apply Kd.R_drew)); exact HO197.out), (by (with_reducible repeat (first | apply Kd.R_alloc | apply Kd.R_drewN | apply Kd.R_drew)); exact Kd.R_mono HO200.out (fun _ hk => ⟨hk.1.1, ⟨hk.1.2.1, ⟨hk.1.2.2, hk.2⟩⟩⟩)), (by (with_reducible repeat (first | apply Kd.R_alloc | apply Kd.R_drewN | apply Kd.R_drew)); exact Kd.R_mono HO203.out (fun _ hk => ⟨hk.1.1.1.2, ⟨hk.1.1.2, ⟨hk.1.2, hk.2⟩⟩⟩)), (by (with_reducible repeat (first | apply Kd.R_alloc | apply Kd.R_drewN | apply Kd.R_drew)); exact HO_6.out), (by repeat (first | (with_reducible first | exact HB.out | apply below_alloc | apply pw_below_drewN | apply below_drew1) | exact HB.out))⟩)
       rintro ⟨v196, v199, v202⟩ w143 ⟨h0_, h1_, h2_, h3_, h4_, h5_, h6_, h7_, h8_, h9_, h10_⟩
       have n0_ : Aside0 (Kd.R (Kd.int .u8) 33 w143 w.heap.size (fun k_ => some k_ ≠ (v190 : Value).ownBlock ∧ some k_ ≠ (v193 : Value).ownBlock ∧ some k_ ≠ (v199 : Value).ownBlock ∧ some k_ ≠ (v202 : Value).ownBlock) (.slice Ao118 t155.length co118) t155) := ⟨h0_⟩
       have n1_ : Aside0 (Kd.R k30 30 w143 w.heap.size (fun k_ => some k_ ≠ (.slice Ao124 t169.length co124 : Value).ownBlock) (.slice Ao120 t158.length co120) t158) := ⟨h1_⟩
       have n2_ : Aside0 (Kd.R k30 30 w143 w.heap.size (fun k_ => some k_ ≠ (.slice Ao120 t158.length co120 : Value).ownBlock) (.slice Ao124 t169.length co124) t169) := ⟨h2_⟩
       have n3_ : Aside0 (Kd.R (Kd.int .i32) 21 w143 w.heap.size (fun k_ => some k_ ≠ (v196 : Value).ownBlock ∧ some k_ ≠ (.slice Ao115 x6_2.length co115 : Value).ownBlock) (.slice Ao132 y186.length co132) y186) := ⟨h3_⟩
       have n4_ : Aside0 (Kd.R (Kd.int .u8) 33 w143 w.heap.size (fun k_ => some k_ ≠ (.slice Ao118 t155.length co118 : Value).ownBlock ∧ some k_ ≠ (v193 : Value).ownBlock ∧ some k_ ≠ (v199 : Value).ownBlock ∧ some k_ ≠ (v202 : Value).ownBlock) v190 t189) := ⟨h4_⟩
       have n5_ : Aside0 (Kd.R (Kd.int .u8) 33 w143 w.heap.size (fun k_ => some k_ ≠ (.slice Ao118 t155.length co118 : Value).ownBlock ∧ some k_ ≠ (v190 : Value).ownBlock ∧ some k_ ≠ (v199 : Value).ownBlock ∧ some k_ ≠ (v202 : Value).ownBlock) v193 y192) := ⟨h5_⟩
       have n6_ : Aside0 (Kd.R (Kd.int .i32) 21 w143 w.heap.size (fun k_ => some k_ ≠ (.slice Ao132 y186.length co132 : Value).ownBlock ∧ some k_ ≠ (.slice Ao115 x6_2.length co115 : Value).ownBlock) v196 y195) := ⟨h6_⟩
       have n7_ : Aside0 (Kd.R (Kd.int .u8) 33 w143 w.heap.size (fun k_ => some k_ ≠ (.slice Ao118 t155.length co118 : Value).ownBlock ∧ some k_ ≠ (v190 : Value).ownBlock ∧ some k_ ≠ (v193 : Value).ownBlock ∧ some k_ ≠ (v202 : Value).ownBlock) v199 y198) := ⟨h7_⟩
       have n8_ : Aside0 (Kd.R (Kd.int .u8) 33 w143 w.heap.size (fun k_ => some k_ ≠ (.slice Ao118 t155.length co118 : Value).ownBlock ∧ some k_ ≠ (v190 : Value).ownBlock ∧ some k_ ≠ (v193 : Value).ownBlock ∧ some k_ ≠ (v199 : Value).ownBlock) v202 y201) := ⟨h8_⟩
       have n9_ : Aside0 (Kd.R (Kd.int .i32) 21 w143 w.heap.size (fun k_ => some k_ ≠ (.slice Ao132 y186.length co132 : Value).ownBlock ∧ some k_ ≠ (v196 : Value).ownBlock) (.slice Ao115 x6_2.length co115) x6_2) := ⟨h9_⟩
       have n10_ : Aside0 (Below w.heap.size w w143) := ⟨h10_⟩
       clear HO_6
       clear HO157
       clear HO160
       clear HO171
       clear HO188
       clear HO191
       clear HO194
       clear HR164
       clear HR168
       clear HR176
       clear HR180
       clear HR184
       clear HB
       clear h0_ h1_ h2_ h3_ h4_ h5_ h6_ h7_ h8_ h9_ h10_
       have HO157 := n0_
       have HO160 := n1_
       have HO171 := n2_
       have HO188 := n3_
       have HO191 := n4_
       have HO194 := n5_
       have HO197 := n6_
       have HO200 := n7_
       have HO203 := n8_
       have HO_6 := n9_
       have HB := n10_
       clear n0_ n1_ n2_ n3_ n4_ n5_ n6_ n7_ n8_ n9_ n10_
       have hHeld := trivial
       obtain ⟨Ao144, co144, eo144⟩ := Kd.R_slice HO197.out
       (first | subst eo144 | (injection eo144 with f1_ f2_ f3_; have f4_ := f1_.symm; have f5_ := f3_.symm; clear f1_ f2_ f3_; subst f4_; subst f5_))
       obtain ⟨Ao145, co145, eo145⟩ := Kd.R_slice HO200.out
       (first | subst eo145 | (injection eo145 with f1_ f2_ f3_; have f4_ := f1_.symm; have f5_ := f3_.symm; clear f1_ f2_ f3_; subst f4_; subst f5_))
       obtain ⟨Ao146, co146, eo146⟩ := Kd.R_slice HO203.out
       (first | subst eo146 | (injection eo146 with f1_ f2_ f3_; have f4_ := f1_.symm; have f5_ := f3_.symm; clear f1_ f2_ f3_; subst f4_; subst f5_))
       refine norm_ (a' := ?_) ?_ ?_
       rotate_left
       ·simp only [putAll, Act.put, List.setIfInBounds_toArray, List.set_cons_zero, List.set_cons_succ]
        rfl
       refine one_ (i := 4) (N := some 173) #[T_,T_,T_,T_,T_,F_,F_,F_,F_,F_] rfl rfl (one_of HT_.out (by kernel_rfl)) (by decide) (fun K hK => ?_)
       refine goes_ Tryd.func11 (by kernel_rfl) rfl #[.slice Ao144 y195.length co144, .slice Ao145 y198.length co145, .slice Ao146 y201.length co146, .int .u8 0, .int .u8 1] (by rfl) rfl rfl (by (try simp only [List.map_toArray, List.map_cons, List.map_nil]); first | done | rfl | (simp only [List.length_drop, List.length_take]; rfl)) ?_
       with_reducible refine (pairs_Resolve.calls k2 _ _ y195 _ _ y198 _ _ y201 0 1 t204 t205 _ ?side1 ?side2 ?side3 ?side4 ?side5 ?side6 ?side7 A98.out).mono ?_
       (case side1 => repeat (first | exact (Kd.R_reads' HO197.out).2.2 | (with_reducible refine Kd.C_alloc ?_ _) | (with_reducible refine Kd.C_drewN ?_ _) | (with_reducible refine Kd.C_drew ?_)))
       (case side2 => exact (Kd.R_reads' HO197.out).2.1)
       (case side3 => repeat (first | exact (Kd.R_reads' HO200.out).2.2 | (with_reducible refine Kd.C_alloc ?_ _) | (with_reducible refine Kd.C_drewN ?_ _) | (with_reducible refine Kd.C_drew ?_)))
       (case side4 => exact (Kd.R_reads' HO200.out).2.1)
       (case side5 => repeat (first | exact (Kd.R_reads' HO203.out).2.2 | (with_reducible refine Kd.C_alloc ?_ _) | (with_reducible refine Kd.C_drewN ?_ _) | (with_reducible refine Kd.C_drew ?_)))
       (case side6 => exact (Kd.R_reads' HO203.out).2.1)
       (case side7 => exact GW_below hG (by repeat (first | (with_reducible first | exact HB.out | apply below_alloc | apply pw_below_drewN | apply below_drew1) | exact HB.out)))
       rintro e w147 ⟨v206, rfl, ho0, hb⟩
       refine ⟨_, rfl, ?_⟩
       have n0_ := Aside0.mk (Kd.R_below (by (with_reducible repeat (first | apply Kd.R_alloc | apply Kd.R_drewN | apply Kd.R_drew)); exact HO_6.out) hb)
       have n1_ := Aside0.mk (Kd.R_elder' (by (with_reducible repeat (first | apply Kd.R_alloc | apply Kd.R_drewN | apply Kd.R_drew)); exact HO157.out) (Kd.R_base ho0) hb)
       have n2_ := Aside0.mk (Kd.R_below (by (with_reducible repeat (first | apply Kd.R_alloc | apply Kd.R_drewN | apply Kd.R_drew)); exact HO160.out) hb)
       have n3_ := Aside0.mk (Kd.R_below (by (with_reducible repeat (first | apply Kd.R_alloc | apply Kd.R_drewN | apply Kd.R_drew)); exact HO171.out) hb)
       have n4_ := Aside0.mk (Kd.R_below (by (with_reducible repeat (first | apply Kd.R_alloc | apply Kd.R_drewN | apply Kd.R_drew)); exact HO188.out) hb)
       have n5_ := Aside0.mk (Kd.R_elder' (by (with_reducible repeat (first | apply Kd.R_alloc | apply Kd.R_drewN | apply Kd.R_drew)); exact HO191.out) (Kd.R_base ho0) hb)
       have n6_ := Aside0.mk (Kd.R_elder' (by (with_reducible repeat (first | apply Kd.R_alloc | apply Kd.R_drewN | apply Kd.R_drew)); exact HO194.out) (Kd.R_base ho0) hb)
       have n7_ := Aside0.mk (Kd.R_below (by (with_reducible repeat (first | apply Kd.R_alloc | apply Kd.R_drewN | apply Kd.R_drew)); exact HO197.out) hb)
       have n8_ := Aside0.mk (Kd.R_elder' (by (with_reducible repeat (first | apply Kd.R_alloc | apply Kd.R_drewN | apply Kd.R_drew)); exact HO200.out) (Kd.R_base ho0) hb)
       have n9_ := Aside0.mk (Kd.R_elder' (by (with_reducible repeat (first | apply Kd.R_alloc | apply Kd.R_drewN | apply Kd.R_drew)); exact HO203.out) (Kd.R_base ho0) hb)
       have n10_ := Aside0.mk (Kd.R_lower (Kd.R_new' (Kd.R_new' (Kd.R_new' (Kd.R_new' (Kd.R_new' ho0 (Kd.R_lt (by (with_reducible repeat (first | apply Kd.R_alloc | apply Kd.R_drewN | apply Kd.R_drew)); exact HO157.out))) (Kd.R_lt (by (with_reducible repeat (first | apply Kd.R_alloc | apply Kd.R_drewN | apply Kd.R_drew)); exact HO191.out))) (Kd.R_lt (by (with_reducible repeat (first | apply Kd.R_alloc | apply Kd.R_drewN | apply Kd.R_drew)); exact HO194.out))) (Kd.R_lt (by (with_reducible repeat (first | apply Kd.R_alloc | apply Kd.R_drewN | apply Kd.R_drew)); exact HO200.out))) (Kd.R_lt (by (with_reducible repeat (first | apply Kd.R_alloc | apply Kd.R_drewN | apply Kd.R_drew)); exact HO203.out))) (below_size (by repeat (first | (with_reducible first | exact HB.out | apply below_alloc | apply pw_below_drewN | apply below_drew1) | exact HB.out))))
       have n11_ := Aside0.mk (below_step (by repeat (first | (with_reducible first | exact HB.out | apply below_alloc | apply pw_below_drewN | apply below_drew1) | exact HB.out)) hb)
       clear HO_6
       clear HO157
       clear HO160
       clear HO171
       clear HO188
       clear HO191
       clear HO194
       clear HO197
       clear HO200
       clear HO203
       clear HB
       have HO_6 := n0_
       have HO157 := n1_
       have HO160 := n2_
       have HO171 := n3_
       have HO188 := n4_
       have HO191 := n5_
       have HO194 := n6_
       have HO197 := n7_
       have HO200 := n8_
       have HO203 := n9_
       have HO207 := n10_
       have HB := n11_
       clear n0_ n1_ n2_ n3_ n4_ n5_ n6_ n7_ n8_ n9_ n10_ n11_
       (try clear hb)
       (try clear hb2)
       (try clear hk)
       (try clear hi)
       (try clear ho0)
       refine hK.out _ _ trivial (fun hHeld => ?_)
       clear hK K
       refine norm_ (a' := ?_) ?_ ?_
       rotate_left
       ·show Act.put _ (some 173) _ = _
        simp only [Act.put, List.setIfInBounds_toArray, List.set_cons_zero, List.set_cons_succ, i64_w, i32_w]
        rfl
       refine pure_ (i := 5) (N := some 168) (v := ?_) (a' := ?_) #[T_,T_,T_,T_,T_,T_,F_,F_,F_,F_] rfl rfl (any_of HT_.out (by kernel_rfl)) (fun _ _ _ h => h) (Or.inl ⟨by rfl, ?_⟩) ?_ ?_
       rotate_left
       ·intro w'
        go_simp
        with_reducible rfl
       rotate_left
       ·simp only [Act.put, List.setIfInBounds_toArray, List.set_cons_zero, List.set_cons_succ, i64_w, i32_w]
        rfl
       refine pure_ (i := 6) (N := some 174) (v := ?_) (a' := ?_) #[T_,T_,T_,T_,T_,T_,T_,F_,F_,F_] rfl rfl (any_of HT_.out (by kernel_rfl)) (fun _ _ _ h => h) (Or.inl ⟨by rfl, ?_⟩) ?_ ?_
       rotate_left
       ·intro w'
        go_simp
        with_reducible rfl
       rotate_left
       ·simp only [Act.put, List.setIfInBounds_toArray, List.set_cons_zero, List.set_cons_succ, i64_w, i32_w]
        rfl
       refine pure_ (i := 7) (N := some 175) (v := ?_) (a' := ?_) #[T_,T_,T_,T_,T_,T_,T_,T_,F_,F_] rfl rfl (any_of HT_.out (by kernel_rfl)) (fun _ _ _ h => h) (Or.inl ⟨by rfl, ?_⟩) ?_ ?_
       rotate_left
       ·intro w'
        go_simp
        with_reducible rfl
       rotate_left
       ·simp only [Act.put, List.setIfInBounds_toArray, List.set_cons_zero, List.set_cons_succ, i64_w, i32_w]
        rfl
       refine pure_ (i := 8) (N := some 14) (v := ?_) (a' := ?_) #[T_,T_,T_,T_,T_,T_,T_,T_,T_,F_] rfl rfl (any_of HT_.out (by kernel_rfl)) (fun _ _ _ h => h) (Or.inl ⟨by rfl, ?_⟩) ?_ ?_
       rotate_left
       ·intro w'
        go_simp
        with_reducible rfl
       rotate_left
       ·simp only [Act.put, List.setIfInBounds_toArray, List.set_cons_zero, List.set_cons_succ, i64_w, i32_w]
        rfl
       refine pure_ (i := 9) (N := some 15) (v := ?_) (a' := ?_) #[T_,T_,T_,T_,T_,T_,T_,T_,T_,T_] rfl rfl (any_of HT_.out (by kernel_rfl)) (fun _ _ _ h => h) (Or.inl ⟨by rfl, ?_⟩) ?_ ?_
       rotate_left
       ·intro w'
        go_simp
        with_reducible rfl
       rotate_left
       ·simp only [Act.put, List.setIfInBounds_toArray, List.set_cons_zero, List.set_cons_succ, i64_w, i32_w]
        rfl
       refine done_ (done_of HT_.out (by kernel_rfl)) ?_
       obtain ⟨Ao149, co149, eo149⟩ := Kd.R_slice HO191.out
       subst eo149
       have q148 : (1 : Int) ≤ ((t189.length : Int) : Int) := of_decide_eq_true (by first | (with_reducible assumption) | assumption)
       obtain ⟨i0148, hi0148, _, hsz148, _⟩ := info_parts info33
       have hroom148 : t189.length ≤ co149 := (Kd.R_reads' HO191.out).2.1
       have hC148 : Kd.C (Kd.int .u8) _ Ao149 t189.length t189 := (Kd.R_reads' HO191.out).2.2
       have hcut148 := cut_from (P := Tryd.prog) 23 33 .i64 Tryd.underlying23 hi0148 1 hsz148 Ao149 t189.length co149 1 (by omega) q148
       have hr148 := Kd.C_drop (m := (1 : Int).toNat) (c := co149) hC148 (by omega) hroom148
       obtain ⟨A148, hA148⟩ : ∃ A1, A1 = (if co149 = (1 : Int).toNat then Ao149 else (Ao149 : Option Addr).map (·.add ((1 : Int).toNat * 1))) := ⟨_, rfl⟩
       obtain ⟨c148, hc148⟩ : ∃ c1, c1 = co149 - (1 : Int).toNat := ⟨_, rfl⟩
       have hy148 : y208.length = t189.length - (1 : Int).toNat := (by rw [Ny208.out, List.length_drop] <;> omega)
       rw [show (t189).drop (1 : Int).toNat = y208 from Ny208.out.symm] at hr148
       replace hr148 : Kd.C (Kd.int .u8) _ A148 y208.length y208 := (by rw [hA148]; exact hr148)
       rw [← hy148, ← hA148, ← hc148] at hcut148
       have HR211 := Aside0.mk hr148
       have HC211 := Aside0.mk (show y208.length ≤ c148 from by rw [hy148, hc148]; exact Nat.sub_le_sub_right hroom148 _)
       clear hr148 hC148 hroom148 hi0148 hsz148 hc148
       have KY148 := Aside0.mk hy148
       have KA148 := Aside0.mk hA148
       clear hy148 hA148
       have KL148 := Aside0.mk (show 1 ≤ t189.length from by omega)
       replace q148 := eq_true q148
       try go_wp2_with (first | ((with_reducible refine gate_callee (f := 11) rfl ?_); refine goesL_ (some 182) rfl rfl Tryd.func11 (by kernel_rfl) rfl #[.slice Ao132 y186.length co132, .slice A148 y208.length c148, .slice Ao149 t189.length co149, .int .u8 0, .int .u8 1] rfl (by (try simp only [List.map_toArray, List.map_cons, List.map_nil]); first | done | rfl | (simp only [List.length_drop, List.length_take]; rfl)) ?_; (with_reducible refine (pairs_Resolve.calls k2 _ _ y186 _ _ y208 _ _ t189 0 1 t212 t213 _ ?side1 ?side2 ?side3 ?side4 ?side5 ?side6 ?side7 A100.out).mono ?_); (case side1 => repeat (first | exact (Kd.R_reads' HO188.out).2.2 | (with_reducible refine Kd.C_alloc ?_ _) | (with_reducible refine Kd.C_drewN ?_ _) | (with_reducible refine Kd.C_drew ?_))); (case side2 => exact (Kd.R_reads' HO188.out).2.1); (case side3 => repeat (first | exact (by repeat (first | (with_reducible exact HR211.out) | (with_reducible refine Kd.C_alloc ?_ _) | (with_reducible refine Kd.C_drewN ?_ _) | (with_reducible refine Kd.C_drew ?_) | exact HR211.out)) | (with_reducible refine Kd.C_alloc ?_ _) | (with_reducible refine Kd.C_drewN ?_ _) | (with_reducible refine Kd.C_drew ?_))); (case side4 => exact HC211.out); (case side5 => repeat (first | exact (Kd.R_reads' HO191.out).2.2 | (with_reducible refine Kd.C_alloc ?_ _) | (with_reducible refine Kd.C_drewN ?_ _) | (with_reducible refine Kd.C_drew ?_))); (case side6 => exact (Kd.R_reads' HO191.out).2.1); (case side7 => exact GW_below hG (by repeat (first | (with_reducible first | exact HB.out | apply below_alloc | apply pw_below_drewN | apply below_drew1) | exact HB.out))); rintro e w150 ⟨v214, rfl, ho0, hb⟩; refine ⟨_, rfl, ?_⟩; have n0_ := Aside0.mk (Kd.R_below (by (with_reducible repeat (first | apply Kd.R_alloc | apply Kd.R_drewN | apply Kd.R_drew)); exact HO_6.out) hb); have n1_ := Aside0.mk (Kd.R_elder' (by (with_reducible repeat (first | apply Kd.R_alloc | apply Kd.R_drewN | apply Kd.R_drew)); exact HO157.out) (Kd.R_base ho0) hb); have n2_ := Aside0.mk (Kd.R_below (by (with_reducible repeat (first | apply Kd.R_alloc | apply Kd.R_drewN | apply Kd.R_drew)); exact HO160.out) hb); have n3_ := Aside0.mk (Kd.R_below (by (with_reducible repeat (first | apply Kd.R_alloc | apply Kd.R_drewN | apply Kd.R_drew)); exact HO171.out) hb); have n4_ := Aside0.mk (Kd.R_below (by (with_reducible repeat (first | apply Kd.R_alloc | apply Kd.R_drewN | apply Kd.R_drew)); exact HO188.out) hb); have n5_ := Aside0.mk (Kd.R_elder' (by (with_reducible repeat (first | apply Kd.R_alloc | apply Kd.R_drewN | apply Kd.R_drew)); exact HO191.out) (Kd.R_base ho0) hb); have n6_ := Aside0.mk (Kd.R_elder' (by (with_reducible repeat (first | apply Kd.R_alloc | apply Kd.R_drewN | apply Kd.R_drew)); exact HO194.out) (Kd.R_base ho0) hb); have n7_ := Aside0.mk (Kd.R_below (by (with_reducible repeat (first | apply Kd.R_alloc | apply Kd.R_drewN | apply Kd.R_drew)); exact HO197.out) hb); have n8_ := Aside0.mk (Kd.R_elder' (by (with_reducible repeat (first | apply Kd.R_alloc | apply Kd.R_drewN | apply Kd.R_drew)); exact HO200.out) (Kd.R_base ho0) hb); have n9_ := Aside0.mk (Kd.R_elder' (by (with_reducible repeat (first | apply Kd.R_alloc | apply Kd.R_drewN | apply Kd.R_drew)); exact HO203.out) (Kd.R_base ho0) hb); have n10_ := Aside0.mk (Kd.R_elder' (by (with_reducible repeat (first | apply Kd.R_alloc | apply Kd.R_drewN | apply Kd.R_drew)); exact HO207.out) (Kd.R_base ho0) hb); have n11_ := Aside0.mk (Kd.R_lower (Kd.R_new' (Kd.R_new' (Kd.R_new' (Kd.R_new' (Kd.R_new' (Kd.R_new' ho0 (Kd.R_lt (by (with_reducible repeat (first | apply Kd.R_alloc | apply Kd.R_drewN | apply Kd.R_drew)); exact HO157.out))) (Kd.R_lt (by (with_reducible repeat (first | apply Kd.R_alloc | apply Kd.R_drewN | apply Kd.R_drew)); exact HO191.out))) (Kd.R_lt (by (with_reducible repeat (first | apply Kd.R_alloc | apply Kd.R_drewN | apply Kd.R_drew)); exact HO194.out))) (Kd.R_lt (by (with_reducible repeat (first | apply Kd.R_alloc | apply Kd.R_drewN | apply Kd.R_drew)); exact HO200.out))) (Kd.R_lt (by (with_reducible repeat (first | apply Kd.R_alloc | apply Kd.R_drewN | apply Kd.R_drew)); exact HO203.out))) (Kd.R_lt (by (with_reducible repeat (first | apply Kd.R_alloc | apply Kd.R_drewN | apply Kd.R_drew)); exact HO207.out))) (below_size (by repeat (first | (with_reducible first | exact HB.out | apply below_alloc | apply pw_below_drewN | apply below_drew1) | exact HB.out)))); have n12_ := Aside0.mk (Kd.C_below (by repeat (first | (with_reducible exact HR211.out) | (with_reducible refine Kd.C_alloc ?_ _) | (with_reducible refine Kd.C_drewN ?_ _) | (with_reducible refine Kd.C_drew ?_) | exact HR211.out)) hb); have n13_ := Aside0.mk (below_step (by repeat (first | (with_reducible first | exact HB.out | apply below_alloc | apply pw_below_drewN | apply below_drew1) | exact HB.out)) hb); clear HO_6; clear HO157; clear HO160; clear HO171; clear HO188; clear HO191; clear HO194; clear HO197; clear HO200; clear HO203; clear HO207; clear HR211; clear HB; have HO_6 := n0_; have HO157 := n1_; have HO160 := n2_; have HO171 := n3_; have HO188 := n4_; have HO191 := n5_; have HO194 := n6_; have HO197 := n7_; have HO200 := n8_; have HO203 := n9_; have HO207 := n10_; have HO215 := n11_; have HR211 := n12_; have HB := n13_; clear n0_ n1_ n2_ n3_ n4_ n5_ n6_ n7_ n8_ n9_ n10_ n11_ n12_ n13_; (try clear hb); (try clear hb2); (try clear hk); (try clear hi); (try clear ho0)) | ((with_reducible refine gate_callee (f := 11) rfl ?_); refine goesL_ (some 189) rfl rfl Tryd.func11 (by kernel_rfl) rfl #[.slice Ao132 y186.length co132, .slice Ao149 t189.length co149, .slice none 0 0, .int .u8 0, .int .u8 1] rfl (by (try simp only [List.map_toArray, List.map_cons, List.map_nil]); first | done | rfl | (simp only [List.length_drop, List.length_take]; rfl)) ?_; (refine (pairs_Resolve.calls k2 _ _ y186 _ _ t189 _ _ ([] : List Int) 0 1 t216 t217 _ ?side1 ?side2 ?side3 ?side4 ?side5 ?side6 ?side7 A101.out).mono ?_); (case side1 => repeat (first | exact (Kd.R_reads' HO188.out).2.2 | (with_reducible refine Kd.C_alloc ?_ _) | (with_reducible refine Kd.C_drewN ?_ _) | (with_reducible refine Kd.C_drew ?_))); (case side2 => exact (Kd.R_reads' HO188.out).2.1); (case side3 => repeat (first | exact (Kd.R_reads' HO191.out).2.2 | (with_reducible refine Kd.C_alloc ?_ _) | (with_reducible refine Kd.C_drewN ?_ _) | (with_reducible refine Kd.C_drew ?_))); (case side4 => exact (Kd.R_reads' HO191.out).2.1); (case side5 => exact Kd.C_nil _ _); (case side6 => exact Nat.le_refl _); (case side7 => exact GW_below hG (by repeat (first | (with_reducible first | exact HB.out | apply below_alloc | apply pw_below_drewN | apply below_drew1) | exact HB.out))); rintro e w151 ⟨v218, rfl, ho0, hb⟩; refine ⟨_, rfl, ?_⟩; have n0_ := Aside0.mk (Kd.R_below (by (with_reducible repeat (first | apply Kd.R_alloc | apply Kd.R_drewN | apply Kd.R_drew)); exact HO_6.out) hb); have n1_ := Aside0.mk (Kd.R_elder' (by (with_reducible repeat (first | apply Kd.R_alloc | apply Kd.R_drewN | apply Kd.R_drew)); exact HO157.out) (Kd.R_base ho0) hb); have n2_ := Aside0.mk (Kd.R_below (by (with_reducible repeat (first | apply Kd.R_alloc | apply Kd.R_drewN | apply Kd.R_drew)); exact HO160.out) hb); have n3_ := Aside0.mk (Kd.R_below (by (with_reducible repeat (first | apply Kd.R_alloc | apply Kd.R_drewN | apply Kd.R_drew)); exact HO171.out) hb); have n4_ := Aside0.mk (Kd.R_below (by (with_reducible repeat (first | apply Kd.R_alloc | apply Kd.R_drewN | apply Kd.R_drew)); exact HO188.out) hb); have n5_ := Aside0.mk (Kd.R_elder' (by (with_reducible repeat (first | apply Kd.R_alloc | apply Kd.R_drewN | apply Kd.R_drew)); exact HO191.out) (Kd.R_base ho0) hb); have n6_ := Aside0.mk (Kd.R_elder' (by (with_reducible repeat (first | apply Kd.R_alloc | apply Kd.R_drewN | apply Kd.R_drew)); exact HO194.out) (Kd.R_base ho0) hb); have n7_ := Aside0.mk (Kd.R_below (by (with_reducible repeat (first | apply Kd.R_alloc | apply Kd.R_drewN | apply Kd.R_drew)); exact HO197.out) hb); have n8_ := Aside0.mk (Kd.R_elder' (by (with_reducible repeat (first | apply Kd.R_alloc | apply Kd.R_drewN | apply Kd.R_drew)); exact HO200.out) (Kd.R_base ho0) hb); have n9_ := Aside0.mk (Kd.R_elder' (by (with_reducible repeat (first | apply Kd.R_alloc | apply Kd.R_drewN | apply Kd.R_drew)); exact HO203.out) (Kd.R_base ho0) hb); have n10_ := Aside0.mk (Kd.R_elder' (by (with_reducible repeat (first | apply Kd.R_alloc | apply Kd.R_drewN | apply Kd.R_drew)); exact HO207.out) (Kd.R_base ho0) hb); have n11_ := Aside0.mk (Kd.R_elder' (by (with_reducible repeat (first | apply Kd.R_alloc | apply Kd.R_drewN | apply Kd.R_drew)); exact HO215.out) (Kd.R_base ho0) hb); have n12_ := Aside0.mk (Kd.R_lower (Kd.R_new' (Kd.R_new' (Kd.R_new' (Kd.R_new' (Kd.R_new' (Kd.R_new' (Kd.R_new' ho0 (Kd.R_lt (by (with_reducible repeat (first | apply Kd.R_alloc | apply Kd.R_drewN | apply Kd.R_drew)); exact HO157.out))) (Kd.R_lt (by (with_reducible repeat (first | apply Kd.R_alloc | apply Kd.R_drewN | apply Kd.R_drew)); exact HO191.out))) (Kd.R_lt (by (with_reducible repeat (first | apply Kd.R_alloc | apply Kd.R_drewN | apply Kd.R_drew)); exact HO194.out))) (Kd.R_lt (by (with_reducible repeat (first | apply Kd.R_alloc | apply Kd.R_drewN | apply Kd.R_drew)); exact HO200.out))) (Kd.R_lt (by (with_reducible repeat (first | apply Kd.R_alloc | apply Kd.R_drewN | apply Kd.R_drew)); exact HO203.out))) (Kd.R_lt (by (with_reducible repeat (first | apply Kd.R_alloc | apply Kd.R_drewN | apply Kd.R_drew)); exact HO207.out))) (Kd.R_lt (by (with_reducible repeat (first | apply Kd.R_alloc | apply Kd.R_drewN | apply Kd.R_drew)); exact HO215.out))) (below_size (by repeat (first | (with_reducible first | exact HB.out | apply below_alloc | apply pw_below_drewN | apply below_drew1) | exact HB.out)))); have n13_ := Aside0.mk (Kd.C_below (by repeat (first | (with_reducible exact HR211.out) | (with_reducible refine Kd.C_alloc ?_ _) | (with_reducible refine Kd.C_drewN ?_ _) | (with_reducible refine Kd.C_drew ?_) | exact HR211.out)) hb); have n14_ := Aside0.mk (below_step (by repeat (first | (with_reducible first | exact HB.out | apply below_alloc | apply pw_below_drewN | apply below_drew1) | exact HB.out)) hb); clear HO_6; clear HO157; clear HO160; clear HO171; clear HO188; clear HO191; clear HO194; clear HO197; clear HO200; clear HO203; clear HO207; clear HO215; clear HR211; clear HB; have HO_6 := n0_; have HO157 := n1_; have HO160 := n2_; have HO171 := n3_; have HO188 := n4_; have HO191 := n5_; have HO194 := n6_; have HO197 := n7_; have HO200 := n8_; have HO203 := n9_; have HO207 := n10_; have HO215 := n11_; have HO219 := n12_; have HR211 := n13_; have HB := n14_; clear n0_ n1_ n2_ n3_ n4_ n5_ n6_ n7_ n8_ n9_ n10_ n11_ n12_ n13_ n14_; (try clear hb); (try clear hb2); (try clear hk); (try clear hi); (try clear ho0); obtain ⟨Ao152, co152, eo152⟩ := Kd.R_slice HO194.out; subst eo152) | ((with_reducible refine gate_callee (f := 4) rfl ?_); refine goesL_ (some 196) rfl rfl Tryd.func4 (by kernel_rfl) rfl #[.slice Ao132 y186.length co132, .slice Ao152 y192.length co152, .slice Ao149 t189.length co149, .int .u8 0, .int .u8 1] rfl (by (try simp only [List.map_toArray, List.map_cons, List.map_nil]); first | done | rfl | (simp only [List.length_drop, List.length_take]; rfl)) ?_; (with_reducible refine (sPR.calls k2 _ _ y186 _ _ y192 _ _ t189 0 1 true _ ?side1 ?side2 ?side3 ?side4 ?side5 ?side6 ?side7 A102.out).mono ?_); (case side1 => repeat (first | exact (Kd.R_reads' HO188.out).2.2 | (with_reducible refine Kd.C_alloc ?_ _) | (with_reducible refine Kd.C_drewN ?_ _) | (with_reducible refine Kd.C_drew ?_))); (case side2 => exact (Kd.R_reads' HO188.out).2.1); (case side3 => repeat (first | exact (Kd.R_reads' HO194.out).2.2 | (with_reducible refine Kd.C_alloc ?_ _) | (with_reducible refine Kd.C_drewN ?_ _) | (with_reducible refine Kd.C_drew ?_))); (case side4 => exact (Kd.R_reads' HO194.out).2.1); (case side5 => repeat (first | exact (Kd.R_reads' HO191.out).2.2 | (with_reducible refine Kd.C_alloc ?_ _) | (with_reducible refine Kd.C_drewN ?_ _) | (with_reducible refine Kd.C_drew ?_))); (case side6 => exact (Kd.R_reads' HO191.out).2.1); (case side7 => exact GW_below hG (by repeat (first | (with_reducible first | exact HB.out | apply below_alloc | apply pw_below_drewN | apply below_drew1) | exact HB.out))); rintro e w153 ⟨rfl, hb⟩; refine ⟨_, rfl, ?_⟩; have n0_ := Aside0.mk (Kd.R_below (by (with_reducible repeat (first | apply Kd.R_alloc | apply Kd.R_drewN | apply Kd.R_drew)); exact HO_6.out) hb); have n1_ := Aside0.mk (Kd.R_below (by (with_reducible repeat (first | apply Kd.R_alloc | apply Kd.R_drewN | apply Kd.R_drew)); exact HO157.out) hb); have n2_ := Aside0.mk (Kd.R_below (by (with_reducible repeat (first | apply Kd.R_alloc | apply Kd.R_drewN | apply Kd.R_drew)); exact HO160.out) hb); have n3_ := Aside0.mk (Kd.R_below (by (with_reducible repeat (first | apply Kd.R_alloc | apply Kd.R_drewN | apply Kd.R_drew)); exact HO171.out) hb); have n4_ := Aside0.mk (Kd.R_below (by (with_reducible repeat (first | apply Kd.R_alloc | apply Kd.R_drewN | apply Kd.R_drew)); exact HO188.out) hb); have n5_ := Aside0.mk (Kd.R_below (by (with_reducible repeat (first | apply Kd.R_alloc | apply Kd.R_drewN | apply Kd.R_drew)); exact HO191.out) hb); have n6_ := Aside0.mk (Kd.R_below (by (with_reducible repeat (first | apply Kd.R_alloc | apply Kd.R_drewN | apply Kd.R_drew)); exact HO194.out) hb); have n7_ := Aside0.mk (Kd.R_below (by (with_reducible repeat (first | apply Kd.R_alloc | apply Kd.R_drewN | apply Kd.R_drew)); exact HO197.out) hb); have n8_ := Aside0.mk (Kd.R_below (by (with_reducible repeat (first | apply Kd.R_alloc | apply Kd.R_drewN | apply Kd.R_drew)); exact HO200.out) hb); have n9_ := Aside0.mk (Kd.R_below (by (with_reducible repeat (first | apply Kd.R_alloc | apply Kd.R_drewN | apply Kd.R_drew)); exact HO203.out) hb); have n10_ := Aside0.mk (Kd.R_below (by (with_reducible repeat (first | apply Kd.R_alloc | apply Kd.R_drewN | apply Kd.R_drew)); exact HO207.out) hb); have n11_ := Aside0.mk (Kd.R_below (by (with_reducible repeat (first | apply Kd.R_alloc | apply Kd.R_drewN | apply Kd.R_drew)); exact HO215.out) hb); have n12_ := Aside0.mk (Kd.R_below (by (with_reducible repeat (first | apply Kd.R_alloc | apply Kd.R_drewN | apply Kd.R_drew)); exact HO219.out) hb); have n13_ := Aside0.mk (Kd.C_below (by repeat (first | (with_reducible exact HR211.out) | (with_reducible refine Kd.C_alloc ?_ _) | (with_reducible refine Kd.C_drewN ?_ _) | (with_reducible refine Kd.C_drew ?_) | exact HR211.out)) hb); have n14_ := Aside0.mk (below_step (by repeat (first | (with_reducible first | exact HB.out | apply below_alloc | apply pw_below_drewN | apply below_drew1) | exact HB.out)) hb); clear HO_6; clear HO157; clear HO160; clear HO171; clear HO188; clear HO191; clear HO194; clear HO197; clear HO200; clear HO203; clear HO207; clear HO215; clear HO219; clear HR211; clear HB; have HO_6 := n0_; have HO157 := n1_; have HO160 := n2_; have HO171 := n3_; have HO188 := n4_; have HO191 := n5_; have HO194 := n6_; have HO197 := n7_; have HO200 := n8_; have HO203 := n9_; have HO207 := n10_; have HO215 := n11_; have HO219 := n12_; have HR211 := n13_; have HB := n14_; clear n0_ n1_ n2_ n3_ n4_ n5_ n6_ n7_ n8_ n9_ n10_ n11_ n12_ n13_ n14_; (try clear hb); (try clear hb2); (try clear hk); (try clear hi)) | (go_at_call 4; (with_reducible refine (sPR.calls k2 _ _ y186 _ _ y192 _ _ y192 1 1 true _ ?side1 ?side2 ?side3 ?side4 ?side5 ?side6 ?side7 A104.out).mono ?_); (case side1 => repeat (first | exact (Kd.R_reads' HO188.out).2.2 | (with_reducible refine Kd.C_alloc ?_ _) | (with_reducible refine Kd.C_drewN ?_ _) | (with_reducible refine Kd.C_drew ?_))); (case side2 => exact (Kd.R_reads' HO188.out).2.1); (case side3 => repeat (first | exact (Kd.R_reads' HO194.out).2.2 | (with_reducible refine Kd.C_alloc ?_ _) | (with_reducible refine Kd.C_drewN ?_ _) | (with_reducible refine Kd.C_drew ?_))); (case side4 => exact (Kd.R_reads' HO194.out).2.1); (case side5 => repeat (first | exact (Kd.R_reads' HO194.out).2.2 | (with_reducible refine Kd.C_alloc ?_ _) | (with_reducible refine Kd.C_drewN ?_ _) | (with_reducible refine Kd.C_drew ?_))); (case side6 => exact (Kd.R_reads' HO194.out).2.1); (case side7 => exact GW_below hG (by repeat (first | (with_reducible first | exact HB.out | apply below_alloc | apply pw_below_drewN | apply below_drew1) | exact HB.out))); rintro e w154 ⟨rfl, hb⟩; have n0_ := Aside0.mk (Kd.R_below (by (with_reducible repeat (first | apply Kd.R_alloc | apply Kd.R_drewN | apply Kd.R_drew)); exact HO_6.out) hb); have n1_ := Aside0.mk (Kd.R_below (by (with_reducible repeat (first | apply Kd.R_alloc | apply Kd.R_drewN | apply Kd.R_drew)); exact HO157.out) hb); have n2_ := Aside0.mk (Kd.R_below (by (with_reducible repeat (first | apply Kd.R_alloc | apply Kd.R_drewN | apply Kd.R_drew)); exact HO160.out) hb); have n3_ := Aside0.mk (Kd.R_below (by (with_reducible repeat (first | apply Kd.R_alloc | apply Kd.R_drewN | apply Kd.R_drew)); exact HO171.out) hb); have n4_ := Aside0.mk (Kd.R_below (by (with_reducible repeat (first | apply Kd.R_alloc | apply Kd.R_drewN | apply Kd.R_drew)); exact HO188.out) hb); have n5_ := Aside0.mk (Kd.R_below (by (with_reducible repeat (first | apply Kd.R_alloc | apply Kd.R_drewN | apply Kd.R_drew)); exact HO191.out) hb); have n6_ := Aside0.mk (Kd.R_below (by (with_reducible repeat (first | apply Kd.R_alloc | apply Kd.R_drewN | apply Kd.R_drew)); exact HO194.out) hb); have n7_ := Aside0.mk (Kd.R_below (by (with_reducible repeat (first | apply Kd.R_alloc | apply Kd.R_drewN | apply Kd.R_drew)); exact HO197.out) hb); have n8_ := Aside0.mk (Kd.R_below (by (with_reducible repeat (first | apply Kd.R_alloc | apply Kd.R_drewN | apply Kd.R_drew)); exact HO200.out) hb); have n9_ := Aside0.mk (Kd.R_below (by (with_reducible repeat (first | apply Kd.R_alloc | apply Kd.R_drewN | apply Kd.R_drew)); exact HO203.out) hb); have n10_ := Aside0.mk (Kd.R_below (by (with_reducible repeat (first | apply Kd.R_alloc | apply Kd.R_drewN | apply Kd.R_drew)); exact HO207.out) hb); have n11_ := Aside0.mk (Kd.R_below (by (with_reducible repeat (first | apply Kd.R_alloc | apply Kd.R_drewN | apply Kd.R_drew)); exact HO215.out) hb); have n12_ := Aside0.mk (Kd.R_below (by (with_reducible repeat (first | apply Kd.R_alloc | apply Kd.R_drewN | apply Kd.R_drew)); exact HO219.out) hb); have n13_ := Aside0.mk (Kd.C_below (by repeat (first | (with_reducible exact HR211.out) | (with_reducible refine Kd.C_alloc ?_ _) | (with_reducible refine Kd.C_drewN ?_ _) | (with_reducible refine Kd.C_drew ?_) | exact HR211.out)) hb); have n14_ := Aside0.mk (below_step (by repeat (first | (with_reducible first | exact HB.out | apply below_alloc | apply pw_below_drewN | apply below_drew1) | exact HB.out)) hb); clear HO_6; clear HO157; clear HO160; clear HO171; clear HO188; clear HO191; clear HO194; clear HO197; clear HO200; clear HO203; clear HO207; clear HO215; clear HO219; clear HR211; clear HB; have HO_6 := n0_; have HO157 := n1_; have HO160 := n2_; have HO171 := n3_; have HO188 := n4_; have HO191 := n5_; have HO194 := n6_; have HO197 := n7_; have HO200 := n8_; have HO203 := n9_; have HO207 := n10_; have HO215 := n11_; have HO219 := n12_; have HR211 := n13_; have HB := n14_; clear n0_ n1_ n2_ n3_ n4_ n5_ n6_ n7_ n8_ n9_ n10_ n11_ n12_ n13_ n14_; (try clear hb); (try clear hb2); (try clear hk); (try clear hi)) | (go_at_call 5; (with_reducible refine (sPN.calls k2 _ _ y186 _ _ y192 _ _ t189 0 2 true _ ?side1 ?side2 ?side3 ?side4 ?side5 ?side6 ?side7 A106.out).mono ?_); (case side1 => repeat (first | exact (Kd.R_reads' HO188.out).2.2 | (with_reducible refine Kd.C_alloc ?_ _) | (with_reducible refine Kd.C_drewN ?_ _) | (with_reducible refine Kd.C_drew ?_))); (case side2 => exact (Kd.R_reads' HO188.out).2.1); (case side3 => repeat (first | exact (Kd.R_reads' HO194.out).2.2 | (with_reducible refine Kd.C_alloc ?_ _) | (with_reducible refine Kd.C_drewN ?_ _) | (with_reducible refine Kd.C_drew ?_))); (case side4 => exact (Kd.R_reads' HO194.out).2.1); (case side5 => repeat (first | exact (Kd.R_reads' HO191.out).2.2 | (with_reducible refine Kd.C_alloc ?_ _) | (with_reducible refine Kd.C_drewN ?_ _) | (with_reducible refine Kd.C_drew ?_))); (case side6 => exact (Kd.R_reads' HO191.out).2.1); (case side7 => exact GW_below hG (by repeat (first | (with_reducible first | exact HB.out | apply below_alloc | apply pw_below_drewN | apply below_drew1) | exact HB.out))); rintro e w155 ⟨rfl, hb⟩; have n0_ := Aside0.mk (Kd.R_below (by (with_reducible repeat (first | apply Kd.R_alloc | apply Kd.R_drewN | apply Kd.R_drew)); exact HO_6.out) hb); have n1_ := Aside0.mk (Kd.R_below (by (with_reducible repeat (first | apply Kd.R_alloc | apply Kd.R_drewN | apply Kd.R_drew)); exact HO157.out) hb); have n2_ := Aside0.mk (Kd.R_below (by (with_reducible repeat (first | apply Kd.R_alloc | apply Kd.R_drewN | apply Kd.R_drew)); exact HO160.out) hb); have n3_ := Aside0.mk (Kd.R_below (by (with_reducible repeat (first | apply Kd.R_alloc | apply Kd.R_drewN | apply Kd.R_drew)); exact HO171.out) hb); have n4_ := Aside0.mk (Kd.R_below (by (with_reducible repeat (first | apply Kd.R_alloc | apply Kd.R_drewN | apply Kd.R_drew)); exact HO188.out) hb); have n5_ := Aside0.mk (Kd.R_below (by (with_reducible repeat (first | apply Kd.R_alloc | apply Kd.R_drewN | apply Kd.R_drew)); exact HO191.out) hb); have n6_ := Aside0.mk (Kd.R_below (by (with_reducible repeat (first | apply Kd.R_alloc | apply Kd.R_drewN | apply Kd.R_drew)); exact HO194.out) hb); have n7_ := Aside0.mk (Kd.R_below (by (with_reducible repeat (first | apply Kd.R_alloc | apply Kd.R_drewN | apply Kd.R_drew)); exact HO197.out) hb); have n8_ := Aside0.mk (Kd.R_below (by (with_reducible repeat (first | apply Kd.R_alloc | apply Kd.R_drewN | apply Kd.R_drew)); exact HO200.out) hb); have n9_ := Aside0.mk (Kd.R_below (by (with_reducible repeat (first | apply Kd.R_alloc | apply Kd.R_drewN | apply Kd.R_drew)); exact HO203.out) hb); have n10_ := Aside0.mk (Kd.R_below (by (with_reducible repeat (first | apply Kd.R_alloc | apply Kd.R_drewN | apply Kd.R_drew)); exact HO207.out) hb); have n11_ := Aside0.mk (Kd.R_below (by (with_reducible repeat (first | apply Kd.R_alloc | apply Kd.R_drewN | apply Kd.R_drew)); exact HO215.out) hb); have n12_ := Aside0.mk (Kd.R_below (by (with_reducible repeat (first | apply Kd.R_alloc | apply Kd.R_drewN | apply Kd.R_drew)); exact HO219.out) hb); have n13_ := Aside0.mk (Kd.C_below (by repeat (first | (with_reducible exact HR211.out) | (with_reducible refine Kd.C_alloc ?_ _) | (with_reducible refine Kd.C_drewN ?_ _) | (with_reducible refine Kd.C_drew ?_) | exact HR211.out)) hb); have n14_ := Aside0.mk (below_step (by repeat (first | (with_reducible first | exact HB.out | apply below_alloc | apply pw_below_drewN | apply below_drew1) | exact HB.out)) hb); clear HO_6; clear HO157; clear HO160; clear HO171; clear HO188; clear HO191; clear HO194; clear HO197; clear HO200; clear HO203; clear HO207; clear HO215; clear HO219; clear HR211; clear HB; have HO_6 := n0_; have HO157 := n1_; have HO160 := n2_; have HO171 := n3_; have HO188 := n4_; have HO191 := n5_; have HO194 := n6_; have HO197 := n7_; have HO200 := n8_; have HO203 := n9_; have HO207 := n10_; have HO215 := n11_; have HO219 := n12_; have HR211 := n13_; have HB := n14_; clear n0_ n1_ n2_ n3_ n4_ n5_ n6_ n7_ n8_ n9_ n10_ n11_ n12_ n13_ n14_; (try clear hb); (try clear hb2); (try clear hk); (try clear hi)) | (go_at_call 8; (with_reducible refine (swk.calls k2  t223 _ ?side1 A114.out).mono ?_); (case side1 => exact GW_below hG (by repeat (first | (with_reducible first | exact HB.out | apply below_alloc | apply pw_below_drewN | apply below_drew1) | exact HB.out))); rintro e w156 ⟨rfl, hb⟩; have n0_ := Aside0.mk (Kd.R_below (by (with_reducible repeat (first | apply Kd.R_alloc | apply Kd.R_drewN | apply Kd.R_drew)); exact HO_6.out) hb); have n1_ := Aside0.mk (Kd.R_below (by (with_reducible repeat (first | apply Kd.R_alloc | apply Kd.R_drewN | apply Kd.R_drew)); exact HO157.out) hb); have n2_ := Aside0.mk (Kd.R_below (by (with_reducible repeat (first | apply Kd.R_alloc | apply Kd.R_drewN | apply Kd.R_drew)); exact HO160.out) hb); have n3_ := Aside0.mk (Kd.R_below (by (with_reducible repeat (first | apply Kd.R_alloc | apply Kd.R_drewN | apply Kd.R_drew)); exact HO171.out) hb); have n4_ := Aside0.mk (Kd.R_below (by (with_reducible repeat (first | apply Kd.R_alloc | apply Kd.R_drewN | apply Kd.R_drew)); exact HO188.out) hb); have n5_ := Aside0.mk (Kd.R_below (by (with_reducible repeat (first | apply Kd.R_alloc | apply Kd.R_drewN | apply Kd.R_drew)); exact HO191.out) hb); have n6_ := Aside0.mk (Kd.R_below (by (with_reducible repeat (first | apply Kd.R_alloc | apply Kd.R_drewN | apply Kd.R_drew)); exact HO194.out) hb); have n7_ := Aside0.mk (Kd.R_below (by (with_reducible repeat (first | apply Kd.R_alloc | apply Kd.R_drewN | apply Kd.R_drew)); exact HO197.out) hb); have n8_ := Aside0.mk (Kd.R_below (by (with_reducible repeat (first | apply Kd.R_alloc | apply Kd.R_drewN | apply Kd.R_drew)); exact HO200.out) hb); have n9_ := Aside0.mk (Kd.R_below (by (with_reducible repeat (first | apply Kd.R_alloc | apply Kd.R_drewN | apply Kd.R_drew)); exact HO203.out) hb); have n10_ := Aside0.mk (Kd.R_below (by (with_reducible repeat (first | apply Kd.R_alloc | apply Kd.R_drewN | apply Kd.R_drew)); exact HO207.out) hb); have n11_ := Aside0.mk (Kd.R_below (by (with_reducible repeat (first | apply Kd.R_alloc | apply Kd.R_drewN | apply Kd.R_drew)); exact HO215.out) hb); have n12_ := Aside0.mk (Kd.R_below (by (with_reducible repeat (first | apply Kd.R_alloc | apply Kd.R_drewN | apply Kd.R_drew)); exact HO219.out) hb); have n13_ := Aside0.mk (Kd.C_below (by repeat (first | (with_reducible exact HR211.out) | (with_reducible refine Kd.C_alloc ?_ _) | (with_reducible refine Kd.C_drewN ?_ _) | (with_reducible refine Kd.C_drew ?_) | exact HR211.out)) hb); have n14_ := Aside0.mk (below_step (by repeat (first | (with_reducible first | exact HB.out | apply below_alloc | apply pw_below_drewN | apply below_drew1) | exact HB.out)) hb); clear HO_6; clear HO157; clear HO160; clear HO171; clear HO188; clear HO191; clear HO194; clear HO197; clear HO200; clear HO203; clear HO207; clear HO215; clear HO219; clear HR211; clear HB; have HO_6 := n0_; have HO157 := n1_; have HO160 := n2_; have HO171 := n3_; have HO188 := n4_; have HO191 := n5_; have HO194 := n6_; have HO197 := n7_; have HO200 := n8_; have HO203 := n9_; have HO207 := n10_; have HO215 := n11_; have HO219 := n12_; have HR211 := n13_; have HB := n14_; clear n0_ n1_ n2_ n3_ n4_ n5_ n6_ n7_ n8_ n9_ n10_ n11_ n12_ n13_ n14_; (try clear hb); (try clear hb2); (try clear hk); (try clear hi)))
       go_ret
       exact ⟨by first | rfl | (simp [errW_none, errW_some] <;> rfl) | (simp [*, errW_none, errW_some] <;> rfl), by repeat (first | (with_reducible first | exact HB.out | apply below_alloc | apply pw_below_drewN | apply below_drew1) | exact HB.out)⟩
end Go.Proofs.YtaidfmioggelnaaDoor.Q
