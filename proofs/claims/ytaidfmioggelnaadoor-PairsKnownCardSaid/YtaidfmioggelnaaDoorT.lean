/- A table that the document's answer writes out: what it hands back, by the kernel's own run. No condition. -/
import Derived.Test.YtaidfmioggelnaaDoorQ0
import Derived.Test.YtaidfmioggelnaaDoorK
namespace Go.Proofs.YtaidfmioggelnaaDoor.Q
set_option linter.unusedVariables false
set_option linter.unusedSimpArgs false
open Go.RowKit Go.Proofs.YtaidfmioggelnaaDoorW.PrintWords Go.Proofs.YtaidfmioggelnaaDoorW.PrintLast Go.Proofs.YtaidfmioggelnaaDoorW.PrintMore

theorem R_of_alloc {α : Type} (d : Kd α) {W : World} (e : Nat) {xs : List α} {inner : List Value}
    (hrep : Reps (d.M W W.heap.size (fun _ => False)) d.sz xs inner) (hm : xs.length ≤ 9223372036854775807) :
    d.R e (W.alloc (.cells inner.toArray e)) W.heap.size (fun _ => True) (.slice (some ⟨W.heap.size, 0, none⟩) xs.length xs.length) xs := by
  refine ⟨fun _ _ => trivial, inner, ?_, ?_⟩
  · have h2 := World.ownsRow_lit (base := W.heap.size) (e := e) (size := d.sz) W inner.toArray xs.length (Nat.le_refl _) (by simpa [maxLen] using hm) (by simpa using hrep.1)
    simpa using h2
  · refine hrep.imp_ (fun p c hp => d.M_mono (fun k hk => ⟨trivial, fun he => ?_⟩) (Kd.M_below (d.M_bound hp) (below_alloc (Below.refl _ _) _)))
    have h3 : k = W.heap.size := by simpa [Value.ownBlock] using he
    have := hk.2.2.1
    omega
def c75 (x : S75) : List Value := [.int .i32 x.f0, .int .i32 x.f1, .int .u8 x.f2]
theorem reps75 (w : World) (base : Nat) (ok : Nat → Prop) : ∀ xs : List S75, Reps (k75.M w base ok) 3 xs (xs.flatMap c75)
  | [] => Reps.none _ _
  | x :: xs => Reps.c3 (k75_mkM w base ok x) (reps75 w base ok xs)
def rgL : List S75 := [⟨0, 8, 10⟩, ⟨9, 9, 12⟩, ⟨10, 10, 11⟩, ⟨11, 11, 12⟩, ⟨12, 12, 13⟩, ⟨13, 13, 11⟩, ⟨14, 27, 10⟩, ⟨28, 30, 11⟩, ⟨31, 31, 12⟩, ⟨32, 32, 13⟩, ⟨33, 34, 14⟩, ⟨35, 37, 6⟩, ⟨38, 42, 14⟩, ⟨43, 43, 5⟩, ⟨44, 44, 8⟩, ⟨45, 45, 5⟩, ⟨46, 47, 8⟩, ⟨48, 57, 4⟩, ⟨58, 58, 8⟩, ⟨59, 64, 14⟩, ⟨91, 96, 14⟩, ⟨123, 126, 14⟩, ⟨127, 132, 10⟩, ⟨133, 133, 11⟩, ⟨134, 159, 10⟩, ⟨160, 160, 8⟩, ⟨161, 161, 14⟩, ⟨162, 165, 6⟩, ⟨166, 169, 14⟩, ⟨171, 172, 14⟩, ⟨173, 173, 10⟩, ⟨174, 175, 14⟩, ⟨176, 177, 6⟩, ⟨178, 179, 4⟩, ⟨180, 180, 14⟩, ⟨182, 184, 14⟩, ⟨185, 185, 4⟩, ⟨187, 191, 14⟩, ⟨215, 215, 14⟩, ⟨247, 247, 14⟩, ⟨768, 879, 9⟩, ⟨1155, 1161, 9⟩, ⟨1424, 1424, 2⟩, ⟨1425, 1469, 9⟩, ⟨1470, 1470, 2⟩, ⟨1471, 1471, 9⟩, ⟨1472, 1472, 2⟩, ⟨1473, 1474, 9⟩, ⟨1475, 1475, 2⟩, ⟨1476, 1477, 9⟩, ⟨1478, 1478, 2⟩, ⟨1479, 1479, 9⟩, ⟨1480, 1535, 2⟩, ⟨1536, 1541, 7⟩, ⟨1542, 1543, 14⟩, ⟨1544, 1544, 3⟩, ⟨1545, 1546, 6⟩, ⟨1547, 1547, 3⟩, ⟨1548, 1548, 8⟩, ⟨1549, 1549, 3⟩, ⟨1550, 1551, 14⟩, ⟨1552, 1562, 9⟩, ⟨1563, 1610, 3⟩, ⟨1611, 1631, 9⟩, ⟨1632, 1641, 7⟩, ⟨1642, 1642, 6⟩, ⟨1643, 1644, 7⟩, ⟨1645, 1647, 3⟩, ⟨1648, 1648, 9⟩, ⟨1649, 1749, 3⟩, ⟨1750, 1756, 9⟩, ⟨1757, 1757, 7⟩, ⟨1758, 1758, 14⟩, ⟨1759, 1764, 9⟩, ⟨1765, 1766, 3⟩, ⟨1767, 1768, 9⟩, ⟨1769, 1769, 14⟩, ⟨1770, 1773, 9⟩, ⟨1774, 1775, 3⟩, ⟨1776, 1785, 4⟩, ⟨1786, 1808, 3⟩, ⟨1809, 1809, 9⟩, ⟨1810, 1839, 3⟩, ⟨1840, 1866, 9⟩, ⟨1867, 1957, 3⟩, ⟨1958, 1968, 9⟩, ⟨1969, 1983, 3⟩, ⟨8192, 8202, 13⟩, ⟨8203, 8205, 10⟩, ⟨8207, 8207, 2⟩, ⟨8208, 8231, 14⟩, ⟨8232, 8232, 13⟩, ⟨8233, 8233, 11⟩, ⟨8234, 8234, 15⟩, ⟨8235, 8235, 16⟩, ⟨8236, 8236, 19⟩, ⟨8237, 8237, 17⟩, ⟨8238, 8238, 18⟩, ⟨8239, 8239, 8⟩, ⟨8240, 8244, 6⟩, ⟨8245, 8259, 14⟩, ⟨8260, 8260, 8⟩, ⟨8261, 8286, 14⟩, ⟨8287, 8287, 13⟩, ⟨8288, 8293, 10⟩, ⟨8294, 8294, 20⟩, ⟨8295, 8295, 21⟩, ⟨8296, 8296, 22⟩, ⟨8297, 8297, 23⟩, ⟨8298, 8303, 10⟩, ⟨8304, 8304, 4⟩, ⟨8308, 8313, 4⟩, ⟨8314, 8315, 5⟩, ⟨8316, 8318, 14⟩, ⟨8320, 8329, 4⟩, ⟨8330, 8331, 5⟩, ⟨8332, 8334, 14⟩, ⟨8352, 8399, 6⟩, ⟨8400, 8432, 9⟩, ⟨8592, 8721, 14⟩, ⟨8722, 8722, 5⟩, ⟨8723, 8723, 6⟩, ⟨8724, 9013, 14⟩, ⟨9472, 9783, 14⟩, ⟨10214, 10223, 14⟩, ⟨12288, 12288, 13⟩, ⟨12289, 12292, 14⟩, ⟨12296, 12320, 14⟩, ⟨64285, 64285, 2⟩, ⟨64286, 64286, 9⟩, ⟨64287, 64296, 2⟩, ⟨64297, 64297, 5⟩, ⟨64298, 64335, 2⟩, ⟨64336, 64829, 3⟩, ⟨64830, 64831, 14⟩, ⟨65024, 65039, 9⟩, ⟨65056, 65071, 9⟩, ⟨65136, 65276, 3⟩, ⟨65279, 65279, 10⟩, ⟨65533, 65533, 14⟩, ⟨125184, 125251, 2⟩, ⟨125252, 125258, 9⟩, ⟨125259, 125279, 2⟩, ⟨126464, 126703, 3⟩, ⟨127744, 128591, 14⟩, ⟨917760, 917999, 9⟩]
def selvedgeref01_Ranges.f (_ : Nat) : Option (List S75) := some rgL
theorem selvedgeref01_Ranges.mono : ∀ k, LeO (selvedgeref01_Ranges.f k) (selvedgeref01_Ranges.f (k + 1)) := fun _ => LeO.refl _
set_option maxRecDepth 100000 in
theorem selvedgeref01_Ranges.calls (k : Nat) (r : List S75) (w : World) (h : selvedgeref01_Ranges.f k = some r) :
    Calls Tryd.prog 32 #[] w fun e w' => ∃ v0_ : Value, e = .returned (v0_) ∧ Kd.R k75 75 w' w.heap.size (fun _ => True) v0_ r ∧ Below w.heap.size w w' := by
  obtain rfl : rgL = r := Option.some.inj h
  refine calls_of_runN (v := .slice (some ⟨w.heap.size, 0, none⟩) 146 146) (w' := w.alloc (.cells (rgL.flatMap c75).toArray 75)) 156 (fun _ => by kernel_rfl) (fun _ => by kernel_rfl) (fun _ => by kernel_rfl) ⟨_, rfl, ?_, below_alloc (Below.refl _ _) _⟩
  exact R_of_alloc k75 75 (reps75 _ _ _ rgL) (by decide)
end Go.Proofs.YtaidfmioggelnaaDoor.Q
