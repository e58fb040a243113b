/- Two tables that the document's answer writes out: what they hand back, by the kernel's own run. No condition. -/
import Derived.Test.YtablhjobjmmpnaaDoorQ0
import Derived.Test.YtablhjobjmmpnaaDoorK
namespace Go.Proofs.YtablhjobjmmpnaaDoor.Q
set_option linter.unusedVariables false
set_option linter.unusedSimpArgs false
open Go.RowKit Go.Proofs.YtablhjobjmmpnaaDoorW.PrintWords Go.Proofs.YtablhjobjmmpnaaDoorW.PrintLast Go.Proofs.YtablhjobjmmpnaaDoorW.PrintMore

theorem R_of_alloc {α : Type} (d : Kd α) {W : World} (e : Nat) {xs : List α} {inner : List Value}
    (hrep : Reps (d.M W W.heap.size (fun _ => False)) d.sz xs inner) (hm : xs.length ≤ 9223372036854775807) :
    d.R e (W.alloc (.cells inner.toArray e)) W.heap.size (fun _ => True) (.slice (some ⟨W.heap.size, 0, none⟩) xs.length xs.length) xs := by
  refine ⟨fun _ _ => trivial, inner, ?_, ?_⟩
  · have h2 := World.ownsRow_lit (base := W.heap.size) (e := e) (size := d.sz) W inner.toArray xs.length (Nat.le_refl _) (by simpa [maxLen] using hm) (by simpa using hrep.1)
    simpa using h2
  · refine hrep.imp_ (fun p c hp => d.M_mono (fun k hk => ⟨trivial, fun he => ?_⟩) (Kd.M_below (d.M_bound hp) (below_alloc (Below.refl _ _) _)))
    have h3 : k = W.heap.size := by simpa [Value.ownBlock] using he
    have := hk.2.2.1
    omega
def c35 (x : S35) : List Value := [.string x.f0, .int .i32 x.f1, .bool x.f2]
def c77 (x : S77) : List Value := [.int .i32 x.f0, .int .i32 x.f1]
theorem reps35 (w : World) (base : Nat) (ok : Nat → Prop) : ∀ xs : List S35, Reps (k35.M w base ok) 3 xs (xs.flatMap c35)
  | [] => Reps.none _ _
  | x :: xs => Reps.c3 (k35_mkM w base ok x) (reps35 w base ok xs)
theorem reps77 (w : World) (base : Nat) (ok : Nat → Prop) : ∀ xs : List S77, Reps (k77.M w base ok) 2 xs (xs.flatMap c77)
  | [] => Reps.none _ _
  | x :: xs => Reps.c2 (k77_mkM w base ok x) (reps77 w base ok xs)
def nmL : List S35 := [(⟨(⟨#[97, 109, 112]⟩ : ByteArray), 38, true⟩ : S35), (⟨(⟨#[108, 116]⟩ : ByteArray), 60, true⟩ : S35), (⟨(⟨#[103, 116]⟩ : ByteArray), 62, true⟩ : S35), (⟨(⟨#[113, 117, 111, 116]⟩ : ByteArray), 34, true⟩ : S35), (⟨(⟨#[65, 77, 80]⟩ : ByteArray), 38, true⟩ : S35), (⟨(⟨#[76, 84]⟩ : ByteArray), 60, true⟩ : S35), (⟨(⟨#[71, 84]⟩ : ByteArray), 62, true⟩ : S35), (⟨(⟨#[81, 85, 79, 84]⟩ : ByteArray), 34, true⟩ : S35), (⟨(⟨#[67, 79, 80, 89]⟩ : ByteArray), 169, true⟩ : S35), (⟨(⟨#[82, 69, 71]⟩ : ByteArray), 174, true⟩ : S35), (⟨(⟨#[110, 98, 115, 112]⟩ : ByteArray), 160, true⟩ : S35), (⟨(⟨#[99, 101, 110, 116]⟩ : ByteArray), 162, true⟩ : S35), (⟨(⟨#[112, 111, 117, 110, 100]⟩ : ByteArray), 163, true⟩ : S35), (⟨(⟨#[121, 101, 110]⟩ : ByteArray), 165, true⟩ : S35), (⟨(⟨#[115, 101, 99, 116]⟩ : ByteArray), 167, true⟩ : S35), (⟨(⟨#[99, 111, 112, 121]⟩ : ByteArray), 169, true⟩ : S35), (⟨(⟨#[108, 97, 113, 117, 111]⟩ : ByteArray), 171, true⟩ : S35), (⟨(⟨#[110, 111, 116]⟩ : ByteArray), 172, true⟩ : S35), (⟨(⟨#[115, 104, 121]⟩ : ByteArray), 173, true⟩ : S35), (⟨(⟨#[114, 101, 103]⟩ : ByteArray), 174, true⟩ : S35), (⟨(⟨#[100, 101, 103]⟩ : ByteArray), 176, true⟩ : S35), (⟨(⟨#[112, 108, 117, 115, 109, 110]⟩ : ByteArray), 177, true⟩ : S35), (⟨(⟨#[112, 97, 114, 97]⟩ : ByteArray), 182, true⟩ : S35), (⟨(⟨#[109, 105, 100, 100, 111, 116]⟩ : ByteArray), 183, true⟩ : S35), (⟨(⟨#[114, 97, 113, 117, 111]⟩ : ByteArray), 187, true⟩ : S35), (⟨(⟨#[116, 105, 109, 101, 115]⟩ : ByteArray), 215, true⟩ : S35), (⟨(⟨#[100, 105, 118, 105, 100, 101]⟩ : ByteArray), 247, true⟩ : S35), (⟨(⟨#[97, 112, 111, 115]⟩ : ByteArray), 39, false⟩ : S35), (⟨(⟨#[101, 110, 115, 112]⟩ : ByteArray), 8194, false⟩ : S35), (⟨(⟨#[101, 109, 115, 112]⟩ : ByteArray), 8195, false⟩ : S35), (⟨(⟨#[116, 104, 105, 110, 115, 112]⟩ : ByteArray), 8201, false⟩ : S35), (⟨(⟨#[122, 119, 110, 106]⟩ : ByteArray), 8204, false⟩ : S35), (⟨(⟨#[122, 119, 106]⟩ : ByteArray), 8205, false⟩ : S35), (⟨(⟨#[108, 114, 109]⟩ : ByteArray), 8206, false⟩ : S35), (⟨(⟨#[114, 108, 109]⟩ : ByteArray), 8207, false⟩ : S35), (⟨(⟨#[110, 100, 97, 115, 104]⟩ : ByteArray), 8211, false⟩ : S35), (⟨(⟨#[109, 100, 97, 115, 104]⟩ : ByteArray), 8212, false⟩ : S35), (⟨(⟨#[108, 115, 113, 117, 111]⟩ : ByteArray), 8216, false⟩ : S35), (⟨(⟨#[114, 115, 113, 117, 111]⟩ : ByteArray), 8217, false⟩ : S35), (⟨(⟨#[108, 100, 113, 117, 111]⟩ : ByteArray), 8220, false⟩ : S35), (⟨(⟨#[114, 100, 113, 117, 111]⟩ : ByteArray), 8221, false⟩ : S35), (⟨(⟨#[98, 117, 108, 108]⟩ : ByteArray), 8226, false⟩ : S35), (⟨(⟨#[104, 101, 108, 108, 105, 112]⟩ : ByteArray), 8230, false⟩ : S35), (⟨(⟨#[108, 115, 97, 113, 117, 111]⟩ : ByteArray), 8249, false⟩ : S35), (⟨(⟨#[114, 115, 97, 113, 117, 111]⟩ : ByteArray), 8250, false⟩ : S35), (⟨(⟨#[101, 117, 114, 111]⟩ : ByteArray), 8364, false⟩ : S35), (⟨(⟨#[108, 97, 114, 114]⟩ : ByteArray), 8592, false⟩ : S35), (⟨(⟨#[117, 97, 114, 114]⟩ : ByteArray), 8593, false⟩ : S35), (⟨(⟨#[114, 97, 114, 114]⟩ : ByteArray), 8594, false⟩ : S35), (⟨(⟨#[100, 97, 114, 114]⟩ : ByteArray), 8595, false⟩ : S35), (⟨(⟨#[105, 110]⟩ : ByteArray), 8712, false⟩ : S35), (⟨(⟨#[110, 111, 116, 105, 110]⟩ : ByteArray), 8713, false⟩ : S35), (⟨(⟨#[109, 105, 110, 117, 115]⟩ : ByteArray), 8722, false⟩ : S35), (⟨(⟨#[105, 110, 102, 105, 110]⟩ : ByteArray), 8734, false⟩ : S35), (⟨(⟨#[110, 101]⟩ : ByteArray), 8800, false⟩ : S35), (⟨(⟨#[108, 101]⟩ : ByteArray), 8804, false⟩ : S35), (⟨(⟨#[103, 101]⟩ : ByteArray), 8805, false⟩ : S35), (⟨(⟨#[108, 97, 110, 103]⟩ : ByteArray), 10216, false⟩ : S35), (⟨(⟨#[114, 97, 110, 103]⟩ : ByteArray), 10217, false⟩ : S35)]
def rpL : List S77 := [(⟨128, 8364⟩ : S77), (⟨130, 8218⟩ : S77), (⟨131, 402⟩ : S77), (⟨132, 8222⟩ : S77), (⟨133, 8230⟩ : S77), (⟨134, 8224⟩ : S77), (⟨135, 8225⟩ : S77), (⟨136, 710⟩ : S77), (⟨137, 8240⟩ : S77), (⟨138, 352⟩ : S77), (⟨139, 8249⟩ : S77), (⟨140, 338⟩ : S77), (⟨142, 381⟩ : S77), (⟨145, 8216⟩ : S77), (⟨146, 8217⟩ : S77), (⟨147, 8220⟩ : S77), (⟨148, 8221⟩ : S77), (⟨149, 8226⟩ : S77), (⟨150, 8211⟩ : S77), (⟨151, 8212⟩ : S77), (⟨152, 732⟩ : S77), (⟨153, 8482⟩ : S77), (⟨154, 353⟩ : S77), (⟨155, 8250⟩ : S77), (⟨156, 339⟩ : S77), (⟨158, 382⟩ : S77), (⟨159, 376⟩ : S77)]
def selvedgeref03_Names.f (_ : Nat) : Option (List S35) := some nmL
theorem selvedgeref03_Names.mono : ∀ k, LeO (selvedgeref03_Names.f k) (selvedgeref03_Names.f (k + 1)) := fun _ => LeO.refl _
def selvedgeref03_replaced.f (_ : Nat) : Option (List S77) := some rpL
theorem selvedgeref03_replaced.mono : ∀ k, LeO (selvedgeref03_replaced.f k) (selvedgeref03_replaced.f (k + 1)) := fun _ => LeO.refl _
set_option maxRecDepth 100000 in
theorem selvedgeref03_Names.calls (k : Nat) (r : List S35) (w : World) (h : selvedgeref03_Names.f k = some r) :
    Calls Tryd.prog 14 #[] w fun e w' => ∃ v0_ : Value, e = .returned (v0_) ∧ Kd.R k35 35 w' w.heap.size (fun _ => True) v0_ r ∧ Below w.heap.size w w' := by
  obtain rfl : nmL = r := Option.some.inj h
  refine calls_of_runN (v := .slice (some ⟨w.heap.size, 0, none⟩) 59 59) (w' := w.alloc (.cells (nmL.flatMap c35).toArray 35)) 69 (fun _ => by kernel_rfl) (fun _ => by kernel_rfl) (fun _ => by kernel_rfl) ⟨_, rfl, ?_, below_alloc (Below.refl _ _) _⟩
  exact R_of_alloc k35 35 (reps35 _ _ _ nmL) (by decide)
set_option maxRecDepth 100000 in
theorem selvedgeref03_replaced.calls (k : Nat) (r : List S77) (w : World) (h : selvedgeref03_replaced.f k = some r) :
    Calls Tryd.prog 45 #[] w fun e w' => ∃ v0_ : Value, e = .returned (v0_) ∧ Kd.R k77 77 w' w.heap.size (fun _ => True) v0_ r ∧ Below w.heap.size w w' := by
  obtain rfl : rpL = r := Option.some.inj h
  refine calls_of_runN (v := .slice (some ⟨w.heap.size, 0, none⟩) 27 27) (w' := w.alloc (.cells (rpL.flatMap c77).toArray 77)) 37 (fun _ => by kernel_rfl) (fun _ => by kernel_rfl) (fun _ => by kernel_rfl) ⟨_, rfl, ?_, below_alloc (Below.refl _ _) _⟩
  exact R_of_alloc k77 77 (reps77 _ _ _ rpL) (by decide)
end Go.Proofs.YtablhjobjmmpnaaDoor.Q
