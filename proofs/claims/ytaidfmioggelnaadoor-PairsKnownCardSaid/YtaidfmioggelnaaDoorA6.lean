/- slices.SortFunc at a row of pairs of the call's own; so pairs.Pairs. Conditions: the row's opening places lie below 2^20; the world's table. -/
import Derived.Shelf.SlSortCmp.NoneTotal
import Derived.Test.YtaidfmioggelnaaDoorA3
import Derived.Test.YtaidfmioggelnaaDoorA2
namespace Go.Proofs.YtaidfmioggelnaaDoor.Q
set_option linter.unusedVariables false
set_option linter.unusedSimpArgs false
open Go.Shelf Go.RowKit Go.Lib Go.Sort Go.Proofs.YtaidfmioggelnaaDoorW.PrintWords

theorem isAgg30 : ∀ w, (isAgg (Tryd.sortP_ren.t 24)).run Tryd.prog w = .ok true w := by intro w; kernel_rfl
theorem sizeOf30 : ∀ w, (Go.sizeOf (Tryd.sortP_ren.t 24)).run Tryd.prog w = .ok 2 w := by intro w; kernel_rfl
theorem sortsP : SortsP := by
  intro base w v xs hbs hR hx hlen
  by_cases hp : 0 < xs.length
  · obtain ⟨g, cap, rfl, hbg, hgw, hH⟩ := R_holds hR hp hx
    have eg : ∀ args w, (callFunc 20 args).run Tryd.prog w = .ok (.enter 20 args) w := enters_of Tryd.func20 (by kernel_rfl) rfl
    have hcon := AnyQ.slices_SortFunc Tryd.sortP 2 isAgg30 sizeOf30 encPr (fun _ => rfl) (fun x v hv => by simp [encPr] at hv; rcases hv with rfl | rfl <;> rfl) cfPr swoPr 20 #[] g 0 cap (xs.map toPr).toArray w eg (cmpPr g 0 _ w) hH hgw (by simpa using hlen)
    have hsz : (xs.map toPr).toArray.size = xs.length := by simp
    rw [hsz] at hcon
    change Calls Tryd.prog 19 _ _ _ at hcon
    refine hcon.mono ?_
    rintro e w' ⟨rfl, d, n, os, hperm, hs, rfl⟩
    rw [← hsz] at hperm
    obtain ⟨hd, hP⟩ := perm_of hx hperm
    obtain ⟨hR', hB⟩ := R_sorted hR hbs n d os hd
    refine ⟨rfl, _, hR', hB, hP, ?_⟩
    rw [List.pairwise_map, List.pairwise_iff_getElem]
    intro i j hi hj hij
    rw [Array.length_toList] at hi hj
    have h1 := hs i j (Nat.zero_le _) hij (by omega)
    rw [ltPr, getElem!_pos d i hi, getElem!_pos d j hj] at h1
    have h2 := of_decide_eq_false h1
    show ((d.toList[i]).1.1 : Int) ≤ (d.toList[j]).1.1
    rw [Array.getElem_toList, Array.getElem_toList]
    omega
  · obtain rfl : xs = [] := List.length_eq_zero_iff.1 (by omega)
    obtain ⟨A, c, rfl, _, _⟩ := Kd.R_reads hR
    have h := AnyF.slices_SortFunc_none (P := Tryd.prog) (ρ := Tryd.sortP_ren) { Tryd.sortP with } A c (.func (.func 20) #[] #[]) w
    change Calls Tryd.prog 19 _ _ _ at h
    refine h.mono ?_
    rintro e w' ⟨rfl, rfl⟩
    exact ⟨rfl, [], hR, Below.refl _ _, List.Perm.refl _, List.Pairwise.nil⟩
/-- pairs.Pairs has the document's pairs. -/
theorem pairs_any (A0 : Option Addr) (c0 : Nat) (l : List Int) (A1 : Option Addr) (c1 : Nat) (now : List Int) (w : World) (hr0 : Kd.C (Kd.int .i32) w A0 l.length l) (hc0 : l.length ≤ c0) (hr1 : Kd.C (Kd.int .u8) w A1 now.length now) (hc1 : now.length ≤ c1) (hl : l.length ≤ 1048576) (hG : GW w) :
    Calls Tryd.prog 9 #[.slice A0 l.length c0, .slice A1 now.length c1] w fun e w' => ∃ v0_, e = .returned v0_ ∧ Kd.R k30 30 w' w.heap.size (fun _ => True) v0_ ((refP l now).map to30) ∧ Below w.heap.size w w' :=
  pairs_walk A0 c0 l A1 c1 now w hr0 hc0 hr1 hc1 hl hG sortsP
end Go.Proofs.YtaidfmioggelnaaDoor.Q
