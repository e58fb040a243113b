/- What the text of CharrefBack's walk asks from elsewhere: charref.Decode's and works' contracts under this namespace; a string's bytes appended to a row beside other rows. No condition. -/
import Derived.Test.YtablhjobjmmpnaaDoorQ3
import Derived.Test.YtablhjobjmmpnaaDoorStub
namespace Go.Proofs.YtablhjobjmmpnaaDoor.QB
set_option linter.unusedVariables false
set_option linter.unusedSimpArgs false
open Go.RowKit Go.Proofs.YtablhjobjmmpnaaDoorW.PrintWords Go.Proofs.YtablhjobjmmpnaaDoorW.PrintLast Go.Proofs.YtablhjobjmmpnaaDoorW.PrintMore

abbrev GW := Q.GW
theorem GW_below {w w' : World} (h : GW w) (hb : Below w.heap.size w w') : GW w' := Q.GW_below h hb
theorem GW_drew {w : World} (h : GW w) (n : Nat) : GW (w.drewN n) := Q.GW_drew h n
abbrev charref_Decode.f := Q.charref_Decode.f
theorem charref_Decode.mono : ∀ a0 a1 k, LeO (charref_Decode.f k a0 a1) (charref_Decode.f (k + 1) a0 a1) := Q.charref_Decode.mono
theorem charref_Decode.calls (k : Nat) (a0 : ByteArray) (a1 : Bool) (r : ByteArray) (w : World) (hG : GW w) (h : charref_Decode.f k a0 a1 = some r) :
    Calls Tryd.prog 10 #[.string a0, .bool a1] w fun e w' => e = .returned (.string r) ∧ Below w.heap.size w w' := Q.charref_Decode.calls k a0 a1 r w hG h
abbrev selvedgelaw03_works.f := Q.selvedgelaw03_works.f
theorem selvedgelaw03_works.mono : ∀ k, LeO (selvedgelaw03_works.f k) (selvedgelaw03_works.f (k + 1)) := Q.selvedgelaw03_works.mono
theorem selvedgelaw03_works.calls (k : Nat) (r : Bool) (w : World) (hG : GW w) (h : selvedgelaw03_works.f k = some r) :
    Calls Tryd.prog 9 #[] w fun e w' => e = .returned (.bool r) ∧ Below w.heap.size w w' := Q.selvedgelaw03_works.calls k r w hG h
section
variable {P : Program} {ops : Array Oper} {rest : List Oper} {o : Oper} {a : Act} {Q : Exit → Act → World → Prop}
theorem append_str2 {w0 W : World} (base : Nat) (hgd : o.guard = none) (s x : Operand) (t u e : TypeId)
    (ho : o.op = .call { callee := .builtin .append, args := #[s, x], argTypes := #[t, u] })
    (ht : P.underlying t = some (.slice e)) (hu : P.underlying u = some .string) (hinfo : (P.info? e).map (fun i => (i.zero, i.size, i.bytes)) = some (some (.int .u8 0), 1, 1))
    (v : Value) (xs : List Int) (y : ByteArray) (hs : a.eval s = v) (hx : a.eval x = .string y)
    (HO : W.ownsRow base e 1 v xs.length (nums .u8 xs)) (HB : Below base w0 W) (hbase : base ≤ W.heap.size) (hl : xs.length + y.size ≤ 140737488355328)
    (h : ∀ v1 w1, w1.ownsRow base e 1 v1 (xs ++ bytesOf y).length (nums .u8 (xs ++ bytesOf y)) → Below base w0 w1 → W.grownBy w1 v.ownBlock → (v1.ownBlock = v.ownBlock ∨ ∃ b, v1.ownBlock = some b ∧ W.heap.size ≤ b) → wpList P ops Q rest (a.put o.dst v1) w1) :
    wpList P ops Q (o :: rest) a W := by
  obtain ⟨i0, hi, hzz⟩ := Option.map_eq_some_iff.1 hinfo
  simp only [Prod.mk.injEq] at hzz
  obtain ⟨hz0, hz1, hz2⟩ := hzz
  have h63 : xs.length + y.size ≤ maxLen := by simp only [maxLen]; omega
  refine wpList_plain hgd fun K hK => ?_
  obtain ⟨v', w', hr, h2, h3, h4⟩ := Lib.run_append_own_string (P := P) W base t u o.type e i0 ht hu hi hz0 hz1 hz2 v xs.length (nums .u8 xs) HO y h63 hl hbase
  have hat : v'.ownBlock = v.ownBlock ∨ ∃ b, v'.ownBlock = some b ∧ W.heap.size ≤ b := by
    have hsmall : xs.length + y.size ≤ 9223372036854775807 := by omega
    have hxl : (nums .u8 xs).length = xs.length := by simpa using HO.1
    rcases HO.2 with ⟨rfl, hn⟩ | ⟨g, cap, cur, rfl, hbg, hg, hnc, hcm, hcs, htake⟩
    · by_cases hm : y.size = 0
      · exact .inl (by rw [h4.2 ⟨rfl, hm⟩])
      · have hr2 := Go.run_append_nil_string (P := P) W t u o.type e i0 (.int .u8 0) ht hu hi hz0 y (by omega) (by omega) (by rw [hz2]; omega)
        rw [hr2] at hr
        injection hr with e1 e2
        exact .inr ⟨W.heap.size, by rw [← e1]; rfl, Nat.le_refl _⟩
    · by_cases hroom : xs.length + y.size ≤ cap
      · have hcs' : cur.size = cap := by simpa using hcs
        have hr2 := Lib.run_append_room_string (P := P) W t u o.type e i0 ht hu hi hz1 g xs.length cap cur hg y hroom (by omega)
        rw [hr2] at hr
        injection hr with e1 e2
        exact .inl (by rw [← e1]; rfl)
      · have holds : ∀ j u, (nums .u8 xs)[j]? = some u → W.cell? ((⟨g, 0, none⟩ : Addr).add j) = some u := HO.cells (g := g) rfl
        have hr2 := Lib.run_append_grow_string (P := P) W t u o.type e i0 (.int .u8 0) ht hu hi hz0 ⟨g, 0, none⟩ xs.length cap (nums .u8 xs) (by rw [hz1]; simpa using hxl) holds y (by omega) (by omega) (by rw [hz2]; exact Go.growslice_fits (by omega) (by omega))
        rw [hr2] at hr
        injection hr with e1 e2
        exact .inr ⟨W.heap.size, by rw [← e1]; rfl, Nat.le_refl _⟩
  unfold Oper.wp execOp
  simp only [ho, resolve, invoke, builtin, Sem.run_bind, Sem.run_pure, Result.andThen_ok, List.map_toArray, List.map_cons, List.map_nil, hs, hx, hr]
  have hl2 : (xs ++ bytesOf y).length = xs.length + y.size := by rw [List.length_append, bytesOf_length]
  have hc : nums .u8 (xs ++ bytesOf y) = nums .u8 xs ++ Lib.strCells y := by
    rw [nums_append]
    congr 1
    simp [nums, bytesOf, Lib.strCells]
  exact hK _ _ (h v' w' (by rw [hl2, hc]; exact h2) (HB.grown h3 hbase (own_base HO)) h3 hat)
end
end Go.Proofs.YtablhjobjmmpnaaDoor.QB
