import Derived.Test.YtablhjobjmmpnaaDoorGW
import Derived.Lib.Hide
import Derived.WalkSpells
import Derived.Deep.LoopGhost
import Derived.BigQuiet
import Derived.Lib.Strings
import Derived.Deep.DeepCutAuto
import Derived.Deep.CutBlock
import Derived.Deep.QuietTactic
namespace Go.Proofs.YtablhjobjmmpnaaDoor.Q
set_option linter.unusedVariables false
set_option linter.unusedSimpArgs false
open Go.RowKit Go.Proofs.YtablhjobjmmpnaaDoorW.PrintWords

theorem ret_i {k : IntKind} {a b : Int} (h : a = b) : Ending.returned (.int k a) = .returned (.int k b) := by rw [h]
theorem ret_b {a b : Bool} (h : a = b) : Ending.returned (.bool a) = .returned (.bool b) := by rw [h]

def dg (c : Int) : Int := if 48 ≤ c ∧ c ≤ 57 then c - 48 else if 97 ≤ Go.bits .or .u8 c 32 ∧ Go.bits .or .u8 c 32 ≤ 102 then Go.bits .or .u8 c 32 - 97 + 10 else 16
theorem dg_range (c : Int) : 0 ≤ dg c ∧ dg c ≤ 16 := by
  unfold dg; (repeat' split) <;> omega

set_option maxHeartbeats 400000 in
theorem digit_any (c : Int) (w : World) (h0 : 0 ≤ c) (h1 : c ≤ 255) : Calls Tryd.prog 39 #[.int .u8 c] w fun e w' => e = .returned (.int .i32 (dg c)) ∧ w = w' := by
  go_enter Tryd.func39, Tryd.ntmps39
  go_wp2
  all_goals (go_ret; exact ⟨ret_i (by unfold dg; (repeat' split) <;> omega), rfl⟩)

def alnumB (c : Int) : Bool := (decide (48 ≤ c) && decide (c ≤ 57)) || (decide (97 ≤ Go.bits .or .u8 c 32) && decide (Go.bits .or .u8 c 32 ≤ 122))
set_option maxHeartbeats 400000 in
theorem alnum_any (c : Int) (w : World) (h0 : 0 ≤ c) (h1 : c ≤ 255) : Calls Tryd.prog 28 #[.int .u8 c] w fun e w' => e = .returned (.bool (alnumB c)) ∧ w = w' := by
  go_enter Tryd.func28, Tryd.ntmps28
  go_wp2
  all_goals (go_ret; exact ⟨ret_b (by unfold alnumB; rw [Bool.eq_iff_iff]; simp; omega), rfl⟩)

/-- The digits of a number: from place i, with n so far: where they end, what they come to. -/
def numL (s : ByteArray) (base : Int) : Nat → Nat → Int → Nat × Int
  | 0, i, n => (i, n)
  | f + 1, i, n => if i < s.size ∧ dg (bt s i) < base then numL s base f (i + 1) (min (n * base + dg (bt s i)) 1114112) else (i, n)

/-- The rest of a number's text and its base. -/
def numR (s : ByteArray) : ByteArray × Int := if s.size = 0 then (s, 10) else if Go.bits .or .u8 (bt s 0) 32 = 120 then (s.extract 1 s.size, 16) else (s, 10)
theorem size0_iff (s : ByteArray) : s.toList = [] ↔ s.size = 0 := by
  rw [ByteArray.toList_eq, ← List.length_eq_zero_iff, Array.length_toList]; rfl
theorem bt0 (s : ByteArray) (h : 0 < s.size) : (s[0].toNat : Int) = bt s 0 := bt_at s 0 (by simpa using h)
theorem numR_base (s : ByteArray) : (numR s).2 = 10 ∨ (numR s).2 = 16 := by unfold numR; (repeat' split) <;> simp
theorem numR_size (s : ByteArray) : (numR s).1.size ≤ s.size := by unfold numR; (repeat' split) <;> simp
def validB (n : Int) : Bool := (decide (0 ≤ n) && decide (n < 55296)) || (decide (57343 < n) && decide (n ≤ 1114111))
set_option maxHeartbeats 400000 in
theorem valid_any (n : Int) (w : World) : Calls Tryd.prog 41 #[.int .i32 n] w fun e w' => e = .returned (.bool (validB n)) ∧ w = w' := by
  go_enter Tryd.func41, Tryd.ntmps41
  go_wp2
  all_goals (go_ret; exact ⟨ret_b (by unfold validB; rw [Bool.eq_iff_iff]; simp; omega), rfl⟩)

def cutB (t : ByteArray) : Bool := decide (0 < t.size ∧ bt t 0 = 59)
/-- What is behind a ; that begins it. -/
def cutF (t : ByteArray) : ByteArray := if 0 < t.size ∧ bt t 0 = 59 then t.extract 1 t.size else t
theorem extract1_list (t : ByteArray) (h : 0 < t.size) : (t.extract 0 1).toList = [t[0]] := by
  rw [Lib.extract_toList]
  have h' : 0 < t.data.toList.length := by simpa using h
  cases hl : t.data.toList with
  | nil => rw [hl] at h'; simp at h'
  | cons a r =>
    simp
    have : t[0] = t.data.toList[0] := rfl
    simp [this, hl]
theorem cut_test (t : ByteArray) (h : 0 < t.size) : ((t.extract 0 1).toList == [59]) = decide (bt t 0 = 59) := by
  rw [extract1_list t h, Bool.eq_iff_iff]
  have h0 := bt0 t h
  simp
  rw [← h0]
  constructor
  · intro e; rw [e]; rfl
  · intro e; exact UInt8.toNat_inj.1 (by simpa using (by exact_mod_cast e : t[0].toNat = 59))
set_option maxHeartbeats 400000 in
theorem cut_any (t : ByteArray) (w : World) (hs : t.size ≤ 4611686018427387904) : Calls Tryd.prog 40 #[.string t, .string ⟨#[59]⟩] w fun e w' => e = .returned (.tuple #[.string (cutF t), .bool (cutB t)]) ∧ w = w' := by
  by_cases h : 0 < t.size
  · have ht := cut_test t h
    by_cases hc : bt t 0 = 59
    · have e1 : ((t.extract 0 1).toList == [59]) = true := by rw [ht]; exact decide_eq_true hc
      have HF := Aside0.mk (show cutF t = t.extract 1 t.size from if_pos ⟨h, hc⟩)
      have HB := Aside0.mk (show cutB t = true from decide_eq_true ⟨h, hc⟩)
      clear ht hc
      go_enter Tryd.func40, Tryd.ntmps40
      go_wp2
      go_ret2
      rw [HF.out, HB.out]
      exact ⟨rfl, rfl⟩
    · have e1 : ((t.extract 0 1).toList == [59]) = false := by rw [ht]; exact decide_eq_false hc
      have HF := Aside0.mk (show cutF t = t from if_neg (fun h => hc h.2))
      have HB := Aside0.mk (show cutB t = false from decide_eq_false (fun h => hc h.2))
      clear ht hc
      go_enter Tryd.func40, Tryd.ntmps40
      go_wp2
      go_ret2
      rw [HF.out, HB.out]
      exact ⟨rfl, rfl⟩
  · have HF := Aside0.mk (show cutF t = t from if_neg (fun h' => h h'.1))
    go_enter Tryd.func40, Tryd.ntmps40
    go_wp2
    go_ret2
    rw [HF.out, show cutB t = false from decide_eq_false (fun h' => h h'.1)]
    exact ⟨rfl, rfl⟩
/-- The character of a number. -/
def numC (n : Int) : Int := if n = 0 ∨ validB n = false then 65533 else if 128 ≤ n ∧ n ≤ 159 ∧ otT.getD (n - 128).toNat 0 ≠ 0 then otT.getD (n - 128).toNat 0 else n
/-- A reference by number, behind &#. -/
def numF (s : ByteArray) : Int × Int × Bool :=
  let r := numR s
  let d := numL r.1 r.2 r.1.size 0 0
  if d.1 = 0 then (0, 0, false) else (numC d.2, (s.size : Int) - (cutF (r.1.extract d.1 r.1.size)).size, true)

theorem numL_stop (s : ByteArray) (base : Int) (k i : Nat) (n : Int) (h : ¬ (i < s.size ∧ dg (bt s i) < base)) : numL s base k i n = (i, n) := by
  cases k with
  | zero => rfl
  | succ k => rw [numL, if_neg h]
/-- The same, as the walk's end wants it: r the rest and its base, i and n where the digits end. -/
def numE (s rest : ByteArray) (i : Nat) (n : Int) : Int × Int × Bool := if i = 0 then (0, 0, false) else (numC n, (s.size : Int) - (cutF (rest.extract i rest.size)).size, true)
theorem numF_of (s rest : ByteArray) (base : Int) (i : Nat) (n : Int) (hR : numR s = (rest, base)) (h : (i, n) = numL rest base rest.size 0 0) : numF s = numE s rest i n := by
  unfold numF numE
  rw [hR]
  simp only
  rw [← h]
theorem cutF_size (t : ByteArray) : (cutF t).size ≤ t.size := by unfold cutF; split <;> simp
theorem num_ret {F : Int × Int × Bool} {a b : Int} {c : Bool} (h : F = (a, b, c)) : Ending.returned (.tuple #[.int .i32 a, .int .i64 b, .bool c]) = .returned (.tuple #[.int .i32 F.1, .int .i64 F.2.1, .bool F.2.2]) := by rw [h]
set_option maxHeartbeats 4000000 in
theorem number_any (s : ByteArray) (w : World) (hs : s.size ≤ 4611686018427387904) (hG : GW w) : Calls Tryd.prog 27 #[.string s] w fun e w' => e = .returned (.tuple #[.int .i32 (numF s).1, .int .i64 (numF s).2.1, .bool (numF s).2.2]) ∧ w = w' := by
  by_cases hz : s.size = 0
  · have HR := Aside0.mk (show numR s = (s, 10) by unfold numR; rw [if_pos hz])
    replace hz := (size0_iff s).2 hz
    go_enter Tryd.func27, Tryd.ntmps27
    go_upto_block 0 with fail
    clear hz
    go_cut [7, 8] (fun v7 v8 w' => ∃ (i : Nat) (n : Int), v7 = .int .i64 i ∧ v8 = .int .i32 n ∧ i ≤ s.size ∧ 0 ≤ n ∧ n ≤ 1114112 ∧ Aside0 (numF s = numE s s i n) ∧ w = w')
    case first =>
      go_wp2_with fail
      go_loopg [7, 8] s.size (fun k v7 v8 w' => ∃ (i : Nat) (n : Int), v7 = .int .i64 i ∧ v8 = .int .i32 n ∧ i + k = s.size ∧ 0 ≤ n ∧ n ≤ 1114112 ∧ Aside0 (numL s 10 k i n = numL s 10 s.size 0 0) ∧ w = w')
      case atStart => exact ⟨0, 0, rfl, rfl, by omega, by omega, by omega, ⟨rfl⟩, rfl⟩
      case round =>
        obtain ⟨i, n, rfl, rfl, hik, hn0, hn1, HA, rfl⟩ := hrel
        by_cases hlt : i < s.size
        · have Hbt := Aside0.mk (show (s[i].toNat : Int) = bt s i from bt_at s i (by simpa using hlt))
          have hbr := bt_range s i
          have hd := dg_range (bt s i)
          by_cases hdg : dg (bt s i) < 10
          · obtain ⟨k', rfl⟩ : ∃ m, gk = m + 1 := ⟨gk - 1, by omega⟩
            go_wp2_with (go_at_call 39; (try rw [Hbt.out]); (with_reducible refine (digit_any _ _ hbr.1 hbr.2).mono ?_); rintro e w' ⟨rfl, rfl⟩)
            all_goals (go_roundg k')
            all_goals (try (case measure => omega))
            all_goals (case rel => refine ⟨i + 1, _, by go_num, rfl, by omega, by omega, by omega, ⟨?_⟩, rfl⟩; rw [← HA.out, numL, if_pos ⟨hlt, hdg⟩]; congr 1; omega)
          · have HE := Aside0.mk (numF_of s s 10 i n HR.out (by rw [← HA.out, numL_stop _ _ _ _ _ (fun h => hdg h.2)]))
            clear HA
            go_wp2_with (go_at_call 39; (try rw [Hbt.out]); (with_reducible refine (digit_any _ _ hbr.1 hbr.2).mono ?_); rintro e w' ⟨rfl, rfl⟩)
            go_meet
            case rel => exact ⟨i, n, rfl, rfl, by omega, hn0, hn1, HE, rfl⟩
        · have HE := Aside0.mk (numF_of s s 10 i n HR.out (by rw [← HA.out, numL_stop _ _ _ _ _ (fun h => hlt h.1)]))
          clear HA
          go_wp2_with fail
          go_meet
          case rel => exact ⟨i, n, rfl, rfl, by omega, hn0, hn1, HE, rfl⟩
    case rest =>
      clear HR
      obtain ⟨i, n, rfl, rfl, hik, hn0, hn1, HE, rfl⟩ := hcut
      have hot : 128 ≤ n → n ≤ 159 → w.cell? ⟨1, (n - 128).toNat, none⟩ = some (.int .i32 (otT.getD (n - 128).toNat 0)) := fun _ _ => hG.ot _ (by omega)
      have hcs := cutF_size (s.extract i s.size)
      rw [ByteArray.size_extract] at hcs
      go_wp2_with (first | (go_at_call 40; (with_reducible refine (cut_any _ _ (by simp; omega)).mono ?_); rintro e w' ⟨rfl, rfl⟩) | (go_at_call 41; (with_reducible refine (valid_any _ _).mono ?_); rintro e w' ⟨rfl, rfl⟩))
      all_goals (go_ret3; refine ⟨num_ret (HE.out.trans ?_), rfl⟩; unfold numE numC; clear HE hot hcs; simp_all <;> (intros; omega))
  · have hne : ¬ s.toList = [] := fun h => hz ((size0_iff s).1 h)
    have hnb : (!s.toList.isEmpty) = true := by simpa using hne
    have hp : 0 < s.size := by omega
    clear hz
    have hx := bt0 s hp
    by_cases h1 : Go.bits .or .u8 (bt s 0) 32 = 120
    · have HR := Aside0.mk (show numR s = (s.extract 1 s.size, 16) by unfold numR; rw [if_neg (by omega), if_pos h1])
      have e1 : (bits BinOp.or IntKind.u8 (↑s[0].toNat) 32 == 120) = true := by rw [hx, h1]; rfl
      clear h1 hx
      have hrs : (s.extract 1 s.size).size ≤ s.size := by simp
      go_enter Tryd.func27, Tryd.ntmps27
      go_upto_block 0 with fail
      generalize s.extract 1 s.size = rest at HR hrs ⊢
      clear e1 hne hnb
      go_cut [7, 8] (fun v7 v8 w' => ∃ (i : Nat) (n : Int), v7 = .int .i64 i ∧ v8 = .int .i32 n ∧ i ≤ rest.size ∧ 0 ≤ n ∧ n ≤ 1114112 ∧ Aside0 (numF s = numE s rest i n) ∧ w = w')
      case first =>
        go_wp2_with fail
        go_loopg [7, 8] rest.size (fun k v7 v8 w' => ∃ (i : Nat) (n : Int), v7 = .int .i64 i ∧ v8 = .int .i32 n ∧ i + k = rest.size ∧ 0 ≤ n ∧ n ≤ 1114112 ∧ Aside0 (numL rest 16 k i n = numL rest 16 rest.size 0 0) ∧ w = w')
        case atStart => exact ⟨0, 0, rfl, rfl, by omega, by omega, by omega, ⟨rfl⟩, rfl⟩
        case round =>
          obtain ⟨i, n, rfl, rfl, hik, hn0, hn1, HA, rfl⟩ := hrel
          by_cases hlt : i < rest.size
          · have Hbt := Aside0.mk (show (rest[i].toNat : Int) = bt rest i from bt_at rest i (by simpa using hlt))
            have hbr := bt_range rest i
            have hd := dg_range (bt rest i)
            by_cases hdg : dg (bt rest i) < 16
            · obtain ⟨k', rfl⟩ : ∃ m, gk = m + 1 := ⟨gk - 1, by omega⟩
              go_wp2_with (go_at_call 39; (try rw [Hbt.out]); (with_reducible refine (digit_any _ _ hbr.1 hbr.2).mono ?_); rintro e w' ⟨rfl, rfl⟩)
              all_goals (go_roundg k')
              all_goals (try (case measure => omega))
              all_goals (case rel => refine ⟨i + 1, _, by go_num, rfl, by omega, by omega, by omega, ⟨?_⟩, rfl⟩; rw [← HA.out, numL, if_pos ⟨hlt, hdg⟩]; congr 1; omega)
            · have HE := Aside0.mk (numF_of s rest 16 i n HR.out (by rw [← HA.out, numL_stop _ _ _ _ _ (fun h => hdg h.2)]))
              clear HA
              go_wp2_with (go_at_call 39; (try rw [Hbt.out]); (with_reducible refine (digit_any _ _ hbr.1 hbr.2).mono ?_); rintro e w' ⟨rfl, rfl⟩)
              go_meet
              case rel => exact ⟨i, n, rfl, rfl, by omega, hn0, hn1, HE, rfl⟩
          · have HE := Aside0.mk (numF_of s rest 16 i n HR.out (by rw [← HA.out, numL_stop _ _ _ _ _ (fun h => hlt h.1)]))
            clear HA
            go_wp2_with fail
            go_meet
            case rel => exact ⟨i, n, rfl, rfl, by omega, hn0, hn1, HE, rfl⟩
      case rest =>
        clear HR
        obtain ⟨i, n, rfl, rfl, hik, hn0, hn1, HE, rfl⟩ := hcut
        have hot : 128 ≤ n → n ≤ 159 → w.cell? ⟨1, (n - 128).toNat, none⟩ = some (.int .i32 (otT.getD (n - 128).toNat 0)) := fun _ _ => hG.ot _ (by omega)
        have hcs := cutF_size (rest.extract i rest.size)
        rw [ByteArray.size_extract] at hcs
        go_wp2_with (first | (go_at_call 40; (with_reducible refine (cut_any _ _ (by simp; omega)).mono ?_); rintro e w' ⟨rfl, rfl⟩) | (go_at_call 41; (with_reducible refine (valid_any _ _).mono ?_); rintro e w' ⟨rfl, rfl⟩))
        all_goals (go_ret3; refine ⟨num_ret (HE.out.trans ?_), rfl⟩; unfold numE numC; clear HE hot hcs; simp_all <;> (intros; omega))

    · have HR := Aside0.mk (show numR s = (s, 10) by unfold numR; rw [if_neg (by omega), if_neg h1])
      have e1 : (bits BinOp.or IntKind.u8 (↑s[0].toNat) 32 == 120) = false := by rw [hx]; exact beq_eq_false_iff_ne.2 h1
      clear h1 hx
      go_enter Tryd.func27, Tryd.ntmps27
      go_upto_block 0 with fail
      clear e1 hne hnb
      go_cut [7, 8] (fun v7 v8 w' => ∃ (i : Nat) (n : Int), v7 = .int .i64 i ∧ v8 = .int .i32 n ∧ i ≤ s.size ∧ 0 ≤ n ∧ n ≤ 1114112 ∧ Aside0 (numF s = numE s s i n) ∧ w = w')
      case first =>
        go_wp2_with fail
        go_loopg [7, 8] s.size (fun k v7 v8 w' => ∃ (i : Nat) (n : Int), v7 = .int .i64 i ∧ v8 = .int .i32 n ∧ i + k = s.size ∧ 0 ≤ n ∧ n ≤ 1114112 ∧ Aside0 (numL s 10 k i n = numL s 10 s.size 0 0) ∧ w = w')
        case atStart => exact ⟨0, 0, rfl, rfl, by omega, by omega, by omega, ⟨rfl⟩, rfl⟩
        case round =>
          obtain ⟨i, n, rfl, rfl, hik, hn0, hn1, HA, rfl⟩ := hrel
          by_cases hlt : i < s.size
          · have Hbt := Aside0.mk (show (s[i].toNat : Int) = bt s i from bt_at s i (by simpa using hlt))
            have hbr := bt_range s i
            have hd := dg_range (bt s i)
            by_cases hdg : dg (bt s i) < 10
            · obtain ⟨k', rfl⟩ : ∃ m, gk = m + 1 := ⟨gk - 1, by omega⟩
              go_wp2_with (go_at_call 39; (try rw [Hbt.out]); (with_reducible refine (digit_any _ _ hbr.1 hbr.2).mono ?_); rintro e w' ⟨rfl, rfl⟩)
              all_goals (go_roundg k')
              all_goals (try (case measure => omega))
              all_goals (case rel => refine ⟨i + 1, _, by go_num, rfl, by omega, by omega, by omega, ⟨?_⟩, rfl⟩; rw [← HA.out, numL, if_pos ⟨hlt, hdg⟩]; congr 1; omega)
            · have HE := Aside0.mk (numF_of s s 10 i n HR.out (by rw [← HA.out, numL_stop _ _ _ _ _ (fun h => hdg h.2)]))
              clear HA
              go_wp2_with (go_at_call 39; (try rw [Hbt.out]); (with_reducible refine (digit_any _ _ hbr.1 hbr.2).mono ?_); rintro e w' ⟨rfl, rfl⟩)
              go_meet
              case rel => exact ⟨i, n, rfl, rfl, by omega, hn0, hn1, HE, rfl⟩
          · have HE := Aside0.mk (numF_of s s 10 i n HR.out (by rw [← HA.out, numL_stop _ _ _ _ _ (fun h => hlt h.1)]))
            clear HA
            go_wp2_with fail
            go_meet
            case rel => exact ⟨i, n, rfl, rfl, by omega, hn0, hn1, HE, rfl⟩
      case rest =>
        clear HR
        obtain ⟨i, n, rfl, rfl, hik, hn0, hn1, HE, rfl⟩ := hcut
        have hot : 128 ≤ n → n ≤ 159 → w.cell? ⟨1, (n - 128).toNat, none⟩ = some (.int .i32 (otT.getD (n - 128).toNat 0)) := fun _ _ => hG.ot _ (by omega)
        have hcs := cutF_size (s.extract i s.size)
        rw [ByteArray.size_extract] at hcs
        go_wp2_with (first | (go_at_call 40; (with_reducible refine (cut_any _ _ (by simp; omega)).mono ?_); rintro e w' ⟨rfl, rfl⟩) | (go_at_call 41; (with_reducible refine (valid_any _ _).mono ?_); rintro e w' ⟨rfl, rfl⟩))
        all_goals (go_ret3; refine ⟨num_ret (HE.out.trans ?_), rfl⟩; unfold numE numC; clear HE hot hcs; simp_all <;> (intros; omega))
end Go.Proofs.YtablhjobjmmpnaaDoor.Q
