/- A call whose whole run the kernel can reckon, whatever the world: from so many moves of one goroutine to the call's contract. No condition. -/
import Derived.Calls
import Derived.KernelRfl
namespace Go.Proofs.YtaidfmioggelnaaDoor.Q
set_option linter.unusedVariables false
set_option linter.unusedSimpArgs false
open Go

/-- The frame that a machine's first goroutine stands in. -/
def frOf : Stepped → Frame
  | .next m => (m.gs[0]!).frame
  | _ => default
theorem calls_of_runN {P : Program} {f : FuncId} {args : Array Value} {w w' : World} {v : Value} {R : Ending → World → Prop} (n : Nat)
    (h1 : ∀ cs, runN P n (lone (Frame.enter P f args .normal) cs w) = .next (lone (frOf (runN P n (lone (Frame.enter P f args .normal) cs w))) cs w'))
    (h2 : ∀ cs, (fun fr : Frame => (fr.fn, fr.mode, fr.defers, fr.kind)) (frOf (runN P n (lone (Frame.enter P f args .normal) cs w))) = (f, .returning, [], .normal))
    (h3 : ∀ cs, (P.funcs[f]?).map (fun fn => (results fn (frOf (runN P n (lone (Frame.enter P f args .normal) cs w))).tmps).run P w') = some (.ok v w'))
    (hR : R (.returned v) w') : Calls P f args w R := by
  intro cs
  have k1 := h1 cs; have k2 := h2 cs; have k3 := h3 cs
  generalize frOf (runN P n (lone (Frame.enter P f args .normal) cs w)) = fr at k1 k2 k3
  simp only [Prod.mk.injEq] at k2
  obtain ⟨hf, hm, hd, hk⟩ := k2
  obtain ⟨fn, hfn, hrun⟩ := Option.map_eq_some_iff.1 k3
  exact ⟨.returned v, w', fr, hR, ⟨n, k1⟩, hf, hm, hd, hk, fn, by rw [hf]; exact hfn, hrun⟩
end Go.Proofs.YtaidfmioggelnaaDoor.Q
