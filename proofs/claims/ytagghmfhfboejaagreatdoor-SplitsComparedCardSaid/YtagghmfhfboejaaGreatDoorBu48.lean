/- Texts of this seat, laid together: Lv Lw. -/
import Derived.StillTailTactics
import Derived.Deep.QuietTactic
import Derived.BigQuiet
import Derived.IntWalk
import Derived.Test.YtagghmfhfboejaaGreatDoorBu23
import Derived.Test.YtagghmfhfboejaaGreatDoorBu24
import Derived.Test.YtagghmfhfboejaaGreatDoorBu03
import Derived.Test.YtagghmfhfboejaaGreatDoorBu32
import Derived.Test.YtagghmfhfboejaaGreatDoorBu17
/- Plain laws of comparisons: levels and means of rows, sums from the first on, the greatest part that is in time. No program in sight. -/
namespace Go.Proofs.YtagghmfhfboejaaGreatDoor
set_option linter.unusedVariables false
set_option linter.unusedSimpArgs false

/-- The level of a part of a row, in thousandths. -/
def levA (row : List Int) (part : Nat) : Int :=
  row.getD ((row.length - 1) * part / 1000) 0 + (row.getD ((row.length - 1) * part / 1000 + 1) 0 - row.getD ((row.length - 1) * part / 1000) 0) * (((row.length - 1) * part % 1000 : Nat) : Int) / 1000
/-- A row as it is meant: sorted, of times. -/
structure RowOk (row : List Int) : Prop where
  up : ∀ i (h : i + 1 < row.length), row[i] ≤ row[i + 1]
  bd : ∀ x ∈ row, 0 < x ∧ x ≤ 864000000
  m : row.length ≤ 500
theorem RowOk.at {row : List Int} (h : RowOk row) {i : Nat} (hi : i < row.length) : 0 < row[i] ∧ row[i] ≤ 864000000 := h.bd _ (List.getElem_mem hi)
theorem lev_i {row : List Int} {part : Nat} (h0 : 0 < row.length) (hp : part ≤ 1000) : (row.length - 1) * part / 1000 < row.length := by
  have : (row.length - 1) * part ≤ (row.length - 1) * 1000 := Nat.mul_le_mul_left _ hp
  omega
theorem lev_j {row : List Int} {part : Nat} (hp : part ≤ 1000) (hr : 0 < (row.length - 1) * part % 1000) : (row.length - 1) * part / 1000 + 1 < row.length := by
  have : (row.length - 1) * part ≤ (row.length - 1) * 1000 := Nat.mul_le_mul_left _ hp
  omega
theorem levA_even {row : List Int} {part : Nat} (h0 : 0 < row.length) (hp : part ≤ 1000) (hr : (row.length - 1) * part % 1000 = 0) : levA row part = row[(row.length - 1) * part / 1000]'(lev_i h0 hp) := by
  unfold levA
  rw [hr, getD_is (lev_i h0 hp)]; simp
theorem levA_part {row : List Int} {part : Nat} (hp : part ≤ 1000) (hr : 0 < (row.length - 1) * part % 1000) :
    levA row part = row[(row.length - 1) * part / 1000]'(by have := lev_j hp hr; omega) + (row[(row.length - 1) * part / 1000 + 1]'(lev_j hp hr) - row[(row.length - 1) * part / 1000]'(by have := lev_j hp hr; omega)) * (((row.length - 1) * part % 1000 : Nat) : Int) / 1000 := by
  have := lev_j hp hr
  unfold levA
  rw [getD_is this, getD_is (by omega)]
/-- What is added for the rest: from 0 on, and less than the way to the next one. -/
theorem lev_more {row : List Int} (h : RowOk row) {i r : Nat} (hi : i + 1 < row.length) (hr : r < 1000) : 0 ≤ (row[i + 1] - row[i]) * (r : Int) ∧ (row[i + 1] - row[i]) * (r : Int) ≤ 864000000000 ∧ (row[i + 1] - row[i]) * (r : Int) / 1000 ≤ row[i + 1] - row[i] ∧ 0 ≤ (row[i + 1] - row[i]) * (r : Int) / 1000 := by
  have h1 := h.up i hi
  have h2 := h.at hi
  have h3 := h.at (show i < row.length by omega)
  generalize row[i + 1] = y at *
  generalize row[i] = x at *
  have a : 0 ≤ (y - x) * (r : Int) := Int.mul_nonneg (by omega) (by omega)
  have b : (y - x) * (r : Int) ≤ (y - x) * 1000 := Int.mul_le_mul_of_nonneg_left (by omega) (by omega)
  refine ⟨a, by omega, by omega, by omega⟩
theorem levA_bd {row : List Int} (h : RowOk row) {part : Nat} (h0 : 0 < row.length) (hp : part ≤ 1000) : 0 < levA row part ∧ levA row part ≤ 864000000 := by
  by_cases hr : (row.length - 1) * part % 1000 = 0
  · rw [levA_even h0 hp hr]; exact h.at _
  · have hr' : 0 < (row.length - 1) * part % 1000 := by omega
    rw [levA_part hp hr']
    have hj := lev_j hp hr'
    have m := lev_more h hj (Nat.mod_lt ((row.length - 1) * part) (by decide : 0 < 1000))
    have a := h.at hj
    have b := h.at (show (row.length - 1) * part / 1000 < row.length by omega)
    omega
/-- The sum of the first ones. -/
def preS (l : List Int) (k : Nat) : Int := (l.take k).sum
theorem preS_zero (l : List Int) : preS l 0 = 0 := by simp [preS]
theorem preS_next {l : List Int} {k : Nat} (hk : k < l.length) : preS l (k + 1) = preS l k + l[k] := by
  unfold preS; rw [List.take_succ_eq_append_getElem hk, List.sum_append, List.sum_singleton]
theorem preS_all (l : List Int) : preS l l.length = l.sum := by simp [preS]
theorem preS_bd {l : List Int} (h : ∀ x ∈ l, 0 ≤ x ∧ x ≤ 864000000) : ∀ k, k ≤ l.length → 0 ≤ preS l k ∧ preS l k ≤ 864000000 * k := by
  intro k
  induction k with
  | zero => intro _; rw [preS_zero]; simp
  | succ k ih =>
    intro hk
    have := ih (by omega)
    have b := h _ (List.getElem_mem (show k < l.length by omega))
    rw [preS_next (by omega)]
    omega
/-- The mean, rounded down. -/
def mnA (row : List Int) : Int := row.sum / (row.length : Int)
theorem sum_bd {l : List Int} {B : Int} (h : ∀ x ∈ l, 0 ≤ x ∧ x ≤ B) : 0 ≤ l.sum ∧ l.sum ≤ B * l.length := by
  induction l with
  | nil => simp
  | cons x l ih =>
    have a := ih (fun y hy => h y (List.mem_cons_of_mem _ hy))
    have b := h x (by simp)
    have e : B * ((l.length + 1 : Nat) : Int) = B * l.length + B := by rw [Int.natCast_add, Int.mul_add]; simp
    rw [List.sum_cons, List.length_cons, e]
    omega
theorem mnA_bd {row : List Int} (h : RowOk row) (h0 : 0 < row.length) : 0 ≤ mnA row ∧ mnA row ≤ 864000000 := by
  have b := sum_bd (l := row) (B := 864000000) (fun x hx => by have := h.bd x hx; omega)
  unfold mnA
  refine ⟨Int.ediv_nonneg b.1 (by omega), ?_⟩
  exact Int.ediv_le_of_le_mul (by omega) b.2
/-- The sums of times from the first segment on. -/
def addA (l : List Int) : List Int := (List.range l.length).map fun k => preS l (k + 1)
theorem addA_len (l : List Int) : (addA l).length = l.length := by simp [addA]
theorem addA_at (l : List Int) (k : Nat) (h : k < (addA l).length) : (addA l)[k] = preS l (k + 1) := by simp [addA]
theorem addA_last {l : List Int} (h : 0 < l.length) : (addA l)[l.length - 1]'(by rw [addA_len]; omega) = l.sum := by
  rw [addA_at, show l.length - 1 + 1 = l.length by omega, preS_all]
/-- The first so many of the sums. -/
def addK (l : List Int) (k : Nat) : List Int := (List.range k).map fun k => preS l (k + 1)
theorem addK_len (l : List Int) (k : Nat) : (addK l k).length = k := by simp [addK]
theorem addK_snoc (l : List Int) (k : Nat) : addK l (k + 1) = addK l k ++ [preS l (k + 1)] := by simp [addK, List.range_succ]
theorem addK_all (l : List Int) : addK l l.length = addA l := rfl
/-- The sums made in place: so many of them are made. -/
def sumK (l : List Int) (k : Nat) : List Int := (List.range l.length).map fun i => if i < k then preS l (i + 1) else l.getD i 0
theorem sumK_len (l : List Int) (k : Nat) : (sumK l k).length = l.length := by simp [sumK]
theorem sumK_at (l : List Int) (k i : Nat) (h : i < (sumK l k).length) : (sumK l k)[i] = if i < k then preS l (i + 1) else l.getD i 0 := by simp [sumK]
theorem sumK_one (l : List Int) : sumK l 1 = l := by
  apply List.ext_getElem
  · simp [sumK]
  · intro i h1 h2
    rw [sumK_at]
    split
    · have : i = 0 := by omega
      subst this
      rw [preS_next h2, preS_zero]; simp
    · exact getD_is h2
theorem sumK_next (l : List Int) (k : Nat) : sumK l (k + 1) = (sumK l k).set k (preS l (k + 1)) := by
  apply List.ext_getElem
  · simp [sumK]
  · intro i h1 h2
    rw [List.getElem_set, sumK_at, sumK_at]
    by_cases e : k = i
    · subst e; simp
    · rw [if_neg e]
      by_cases h3 : i < k
      · rw [if_pos h3, if_pos (by omega)]
      · rw [if_neg h3, if_neg (by omega)]
theorem sumK_all {l : List Int} {k : Nat} (hk : l.length ≤ k) : sumK l k = addA l := by
  apply List.ext_getElem
  · simp [sumK, addA]
  · intro i h1 h2
    have : i < l.length := by simpa [sumK] using h1
    rw [sumK_at, if_pos (by omega), addA_at]
theorem getD_at' {l : List Int} {k : Nat} (h : k < l.length) : l.getD k 0 = l[k] := getD_is h

/-- The values of some rows, one by one. -/
def valL (f : List Int → Int) (rows : List (List Int)) (k : Nat) : List Int := (rows.take k).map f
theorem valL_len {f : List Int → Int} {rows : List (List Int)} {k : Nat} (hk : k ≤ rows.length) : (valL f rows k).length = k := by simp [valL]; omega
theorem valL_next {f : List Int → Int} {rows : List (List Int)} {k : Nat} (hk : k < rows.length) : valL f rows (k + 1) = valL f rows k ++ [f rows[k]] := by
  unfold valL; rw [List.take_succ_eq_append_getElem hk, List.map_append]; rfl
theorem valL_all (f : List Int → Int) (rows : List (List Int)) : valL f rows rows.length = rows.map f := by simp [valL]
/-- The greatest part below one that is in time. -/
def evF (rows : List (List Int)) (most : Int) : Nat → Option Nat
  | 0 => none
  | p + 1 => if (rows.map fun r => levA r p).sum ≤ most then some p else evF rows most p
theorem evF_yes {rows : List (List Int)} {most : Int} {p : Nat} (h : (rows.map fun r => levA r p).sum ≤ most) : evF rows most (p + 1) = some p := by simp [evF, h]
theorem evF_no {rows : List (List Int)} {most : Int} {p : Nat} (h : ¬ (rows.map fun r => levA r p).sum ≤ most) : evF rows most (p + 1) = evF rows most p := by simp [evF, h]
def evL (rows : List (List Int)) (o : Option Nat) : List Int := match o with | some p => rows.map fun r => levA r p | none => []
end Go.Proofs.YtagghmfhfboejaaGreatDoor
/- The walks of level and LevelOf, mean, added and sums. -/
namespace Go.Proofs.YtagghmfhfboejaaGreatDoor
set_option linter.unusedVariables false
set_option linter.unusedSimpArgs false
open Go.RowKit

theorem lev_facts {row : List Int} {part x i r : Nat} (hx : (row.length - 1) * part = x) (hi : x / 1000 = i) (hr : x % 1000 = r) (h0 : 0 < row.length) (hp : part ≤ 1000) :
    ∃ h : i < row.length, (0 < r → i + 1 < row.length) ∧ (∀ h1 : i + 1 < row.length, levA row part = row[i] + (row[i + 1] - row[i]) * (r : Int) / 1000) ∧ (r = 0 → levA row part = row[i]) := by
  subst hx hi hr
  refine ⟨lev_i h0 hp, fun h => lev_j hp h, fun h1 => ?_, fun h => levA_even h0 hp h⟩
  unfold levA
  rw [getD_is h1, getD_is (lev_i h0 hp)]
set_option maxHeartbeats 1000000 in
theorem level_any (A : Option Addr) (c lo part : Nat) (row : List Int) (w : World) (hr : Row w lo 1 A row.length (ints row)) (hk : RowOk row) (h0 : 0 < row.length) (hp : part ≤ 1000) :
    Calls Tryz.prog 69 #[.slice A row.length c, .int .i64 part] w fun e w' => e = .returned (.int .i64 (levA row part)) ∧ Below w.heap.size w w' := by
  have hm := hk.m
  obtain ⟨m, hm1⟩ : ∃ m, m + 1 = row.length := ⟨row.length - 1, by omega⟩
  have w1 : IntKind.i64.wrap ((row.length : Int) - 1) = (m : Int) := by rw [IntWalk.i64_in _ ⟨by omega, by omega⟩]; omega
  have hml : m * part ≤ 499 * 1000 := Nat.mul_le_mul (by omega) hp
  have HM := Lib.hid (fun (i r : Nat) (h1 : i + 1 < row.length) (h2 : r < 1000) => lev_more hk h1 h2)
  have HB := Lib.hid (fun (i : Nat) (h : i < row.length) => hk.at h)
  have em : row.length - 1 = m := by omega
  have ec : (m : Int) * (part : Int) = ((m * part : Nat) : Int) := by simp
  have w2 : IntKind.i64.wrap ((m : Int) * (part : Int)) = ((m * part : Nat) : Int) := by rw [ec, IntWalk.i64_in _ ⟨by omega, by omega⟩]
  have HF := Lib.hid (fun (x i r : Nat) (hx : m * part = x) (h1 : x / 1000 = i) (h2 : x % 1000 = r) => lev_facts (row := row) (by rw [em]; exact hx) h1 h2 h0 hp)
  clear ec em
  obtain ⟨x, hx0⟩ : ∃ x, m * part = x := ⟨_, rfl⟩
  rw [hx0] at w2 hml
  have t1 : (x : Int).tdiv 1000 = ((x / 1000 : Nat) : Int) := by rw [tdiv_ediv (by omega)]; omega
  have t2 : (x : Int).tmod 1000 = ((x % 1000 : Nat) : Int) := by rw [Int.tmod_eq_emod_of_nonneg (by omega)]; omega
  have hr9 : x % 1000 < 1000 := Nat.mod_lt _ (by decide)
  generalize hr1 : x % 1000 = r at *
  generalize hi1 : x / 1000 = i at *
  obtain ⟨hi, hj0, hp0, he0⟩ := HF.out x i r hx0 hi1 hr1
  have HJ := Lib.hid hj0
  have HE := Lib.hid he0
  have HP := Lib.hid hp0
  clear HF hj0 he0 hp0 hx0
  have wi : IntKind.i64.wrap (i : Int) = i := IntWalk.i64_in _ ⟨by omega, by omega⟩
  have wr : IntKind.i64.wrap (r : Int) = r := IntWalk.i64_in _ ⟨by omega, by omega⟩
  by_cases hz : r = 0
  · obtain ⟨b, off, rfl, _, hbs, c0⟩ := hr.int_at hi
    have HL := Lib.hid (HE.out hz)
    have d1 : decide ((0 : Int) < (r : Int)) = false := decide_eq_false (by omega)
    have d1' : decide (0 < r) = false := decide_eq_false (by omega)
    generalize row[i] = y at *
    clear HJ HE HP HM HB hz hk hr1 hi1
    go_enter Tryz.func69, Tryz.ntmps69
    go_wp2_with fail
    go_ret
    exact ⟨ret_int' HL.out.symm, Below.refl _ _⟩
  · have hj := HJ.out (by omega)
    obtain ⟨b, off, rfl, _, hbs, c0⟩ := hr.int_at hi
    obtain ⟨b', off', e', _, _, c1⟩ := hr.int_at hj
    obtain ⟨rfl, rfl⟩ : b = b' ∧ off = off' := by injection e' with e'; injection e' with h1 h2; exact ⟨h1, h2⟩
    have HL := Lib.hid (HP.out hj)
    obtain ⟨m1, m2, m3, m4⟩ := HM.out i r hj hr9
    have b1 := HB.out i hi
    have b2 := HB.out (i + 1) hj
    have d1 : decide ((0 : Int) < (r : Int)) = true := decide_eq_true (by omega)
    have d1' : decide (0 < r) = true := decide_eq_true (by omega)
    have wj : IntKind.i64.wrap ((i : Int) + 1) = ((i + 1 : Nat) : Int) := by rw [IntWalk.i64_in _ ⟨by omega, by omega⟩]; omega
    generalize row[i + 1] = z at *
    generalize row[i] = y at *
    have w3 : IntKind.i64.wrap (z - y) = z - y := IntWalk.i64_in _ ⟨by omega, by omega⟩
    have w4 : IntKind.i64.wrap ((z - y) * (r : Int)) = (z - y) * r := IntWalk.i64_in _ ⟨by omega, by omega⟩
    have t3 : ((z - y) * (r : Int)).tdiv 1000 = (z - y) * r / 1000 := tdiv_ediv m1
    have w5 : IntKind.i64.wrap ((z - y) * (r : Int) / 1000) = (z - y) * r / 1000 := IntWalk.i64_in _ ⟨by omega, by omega⟩
    have w6 : IntKind.i64.wrap (y + (z - y) * (r : Int) / 1000) = y + (z - y) * r / 1000 := IntWalk.i64_in _ ⟨by omega, by omega⟩
    clear HJ HE HP HM HB hz hk hr1 hi1 e'
    go_enter Tryz.func69, Tryz.ntmps69
    go_wp2_with fail
    go_quiet (fail)
    go_wp2_with fail
    go_ret
    exact ⟨ret_int' HL.out.symm, (by repeat (first | exact Below.refl _ _ | refine Below.alloc ?_ (by first | omega | (simp; omega)) _ | refine below_drewN' ?_ _ | refine Below.drew ?_))⟩
set_option maxHeartbeats 1000000 in
theorem mean_any (A : Option Addr) (c lo : Nat) (row : List Int) (w : World) (hr : Row w lo 1 A row.length (ints row)) (hk : RowOk row) (h0 : 0 < row.length) :
    Calls Tryz.prog 99 #[.slice A row.length c] w fun e w' => e = .returned (.int .i64 (mnA row)) ∧ Below w.heap.size w w' := by
  have hm := hk.m
  have HB := Lib.hid (fun k hk1 => preS_bd (l := row) (fun x hx => by have := hk.bd x hx; omega) k hk1)
  have HN := Lib.hid (fun k hk1 => preS_next (l := row) (k := k) hk1)
  have HZ := Lib.hid (preS_all row)
  have HM : Hid (mnA row = row.sum / (row.length : Int)) := Lib.hid rfl
  have HO := Lib.hid hk
  clear hk
  go_enter Tryz.func99, Tryz.ntmps99
  go_wp2_with fail
  go_loop [3, 8] (fun v i => ∃ k : Nat, k ≤ row.length ∧ i = .int .i64 k ∧ v = .int .i64 (preS row k)) (fun _ i => row.length - (intOf i).toNat)
  case atStart => exact ⟨0, Nat.zero_le _, rfl, by rw [preS_zero]⟩
  case round =>
    obtain ⟨k, hk, rfl, rfl⟩ := hrel
    have bk := HB.out k hk
    by_cases hlt : k < row.length
    · obtain ⟨b, off, rfl, _, hbs, c0⟩ := hr.int_at hlt
      have HT := Lib.hid (HN.out k hlt)
      have bx := HO.out.at hlt
      generalize preS row k = s at *
      generalize row[k] = x at *
      have wx : IntKind.i64.wrap (s + x) = s + x := IntWalk.i64_in _ ⟨by omega, by omega⟩
      go_wp2_with fail
      go_round
      case rel => exact ⟨k + 1, by omega, by go_num, by rw [HT.out]⟩
      case measure => simp [intOf]; omega
    · have hkn : k = row.length := by omega
      subst hkn
      have hz : ¬ (row.length : Int) = 0 := by omega
      rw [HZ.out] at bk ⊢
      have hq1 : 0 ≤ row.sum / (row.length : Int) := Int.ediv_nonneg bk.1 (by omega)
      have hq2 : row.sum / (row.length : Int) ≤ 864000000 := Int.ediv_le_of_le_mul (by omega) bk.2
      have HM2 := HM
      generalize row.sum = s at *
      have td : s.tdiv (row.length : Int) = s / (row.length : Int) := tdiv_ediv bk.1
      generalize s / (row.length : Int) = q at *
      have wq : IntKind.i64.wrap q = q := IntWalk.i64_in _ ⟨by omega, by omega⟩
      clear bk
      go_wp2_with fail
      go_ret
      exact ⟨ret_int' HM.out.symm, Below.refl _ _⟩
set_option maxHeartbeats 1000000 in
theorem added_any (A : Option Addr) (c lo : Nat) (l : List Int) (w : World) (hr : Row w lo 1 A l.length (ints l)) (hm : l.length ≤ 60) (hb : ∀ x ∈ l, 0 ≤ x ∧ x ≤ 864000000) :
    Calls Tryz.prog 96 #[.slice A l.length c] w fun e w' => ∃ A' c', e = .returned (.slice A' (addA l).length c') ∧ w'.ownsRow w.heap.size 3 1 (.slice A' (addA l).length c') (addA l).length (ints (addA l)) ∧ Below w.heap.size w w' := by
  have HB := Lib.hid (fun k hk1 => preS_bd hb k hk1)
  have HN := Lib.hid (fun k hk1 => preS_next (l := l) (k := k) hk1)
  have HX := Lib.hid (fun (k : Nat) (h : k < l.length) => hb _ (List.getElem_mem h))
  have HA := Lib.hid (addK_all l)
  clear hb
  go_enter Tryz.func96, Tryz.ntmps96
  go_wp2_with fail
  go_loopw [3, 4, 9] (fun v s i wr => ∃ (k : Nat) (A' : Option Addr) (c' : Nat), k ≤ l.length ∧ i = .int .i64 k ∧ s = .int .i64 (preS l k) ∧ v = .slice A' (addK l k).length c' ∧ wr.ownsRow w.heap.size 3 1 (.slice A' (addK l k).length c') (addK l k).length (ints (addK l k)) ∧ Below w.heap.size w wr) (fun _ _ i _ => l.length - (intOf i).toNat)
  case atStart => exact ⟨0, none, 0, Nat.zero_le _, rfl, by rw [preS_zero], rfl, World.ownsRow_nil _ _ _ _, Below.refl _ _⟩
  case round =>
    obtain ⟨k, A', c', hk, rfl, rfl, rfl, hown, hbw⟩ := hrel
    have hz := hbw.size
    by_cases hlt : k < l.length
    · obtain ⟨b, off, rfl, _, hbs, c0⟩ := (hr.below hbw).int_at hlt
      have HT := Lib.hid (HN.out k hlt)
      have bk := HB.out k hk
      have bx := HX.out k hlt
      have HS := Lib.hid (addK_snoc l k)
      have hlk : (addK l k).length ≤ 60 := by rw [addK_len]; omega
      generalize addK l k = o at *
      generalize preS l k = s at *
      generalize l[k] = x at *
      have wx : IntKind.i64.wrap (s + x) = s + x := IntWalk.i64_in _ ⟨by omega, by omega⟩
      have HF : Hid (addK l (k + 1) = o ++ [s + x]) := Lib.hid (by rw [HS.out, HT.out])
      clear HS
      go_wp2_with (at_builtin; go_must (refine wpList_app (lo := w.heap.size) (base := w.heap.size) (n := o.length) (xs := ints o) _ _ rfl _ _ ty_ints rfl (by repeat (first | exact hown | refine World.ownsRow.alloc ?_ _ | refine own_drewN ?_ _ | refine World.ownsRow.drew ?_)) rfl (by first | exact row_new' _ (by first | rfl | simp) (by first | omega | (simp; omega)) rfl | exact row_newN _ _ (by first | rfl | simp) (by first | omega | (simp; omega)) rfl | exact row_newD _ (by first | rfl | simp) (by first | omega | (simp; omega)) rfl) rfl rfl (by first | omega | decide) (by first | omega | decide) (by first | omega | (simp; omega)) ?_))
      intro A5 c5 w5 hown5 hg5 _
      go_wp2_with fail
      go_roundw
      case rel => exact ⟨k + 1, A5, c5, by omega, by go_num, by rw [HT.out], by rw [HF.out]; simp, by rw [HF.out, ints_app, List.length_append]; exact hown5, below_app hown (by repeat (first | exact hbw | refine Below.alloc ?_ (by first | omega | (simp; omega)) _ | refine below_drewN' ?_ _ | refine Below.drew ?_)) hg5 (Nat.le_refl _) (by simp; omega)⟩
      case measure => simp [intOf]; omega
    · have hkn : k = l.length := by omega
      subst hkn
      rw [HA.out] at hown ⊢
      go_wp2_with fail
      go_ret
      exact ⟨A', c', rfl, hown, hbw⟩
end Go.Proofs.YtagghmfhfboejaaGreatDoor
