/- Texts of this seat, laid together: Rw. -/
import Derived.Test.YtagghmfhfboejaaGreatDoorBu48
/- The walks of splitref1.LevelOf and sums. -/
namespace Go.Proofs.YtagghmfhfboejaaGreatDoor
set_option linter.unusedVariables false
set_option linter.unusedSimpArgs false
open Go.RowKit

set_option maxHeartbeats 1000000 in
theorem levelOf_any (A : Option Addr) (c lo part : Nat) (row : List Int) (w : World) (hr : Row w lo 1 A row.length (ints row)) (hk : RowOk row) (h0 : 0 < row.length) (hp : part ≤ 1000) :
    Calls Tryz.prog 37 #[.slice A row.length c, .int .i64 part] w fun e w' => e = .returned (.int .i64 (levA row part)) ∧ Below w.heap.size w w' := by
  have hm := hk.m
  obtain ⟨m, hm1⟩ : ∃ m, m + 1 = row.length := ⟨row.length - 1, by omega⟩
  have w1 : IntKind.i64.wrap ((row.length : Int) - 1) = (m : Int) := by rw [IntWalk.i64_in _ ⟨by omega, by omega⟩]; omega
  have hml : m * part ≤ 499 * 1000 := Nat.mul_le_mul (by omega) hp
  have HM := Lib.hid (fun (i r : Nat) (h1 : i + 1 < row.length) (h2 : r < 1000) => lev_more hk h1 h2)
  have HB := Lib.hid (fun (i : Nat) (h : i < row.length) => hk.at h)
  have em : row.length - 1 = m := by omega
  have ec : (m : Int) * (part : Int) = ((m * part : Nat) : Int) := by simp
  have w2 : IntKind.i64.wrap ((m : Int) * (part : Int)) = ((m * part : Nat) : Int) := by rw [ec, IntWalk.i64_in _ ⟨by omega, by omega⟩]
  have HF := Lib.hid (fun (x i r : Nat) (hx : m * part = x) (h1 : x / 1000 = i) (h2 : x % 1000 = r) => lev_facts (row := row) (by rw [em]; exact hx) h1 h2 h0 hp)
  clear ec em
  obtain ⟨x, hx0⟩ : ∃ x, m * part = x := ⟨_, rfl⟩
  rw [hx0] at w2 hml
  have t1 : (x : Int).tdiv 1000 = ((x / 1000 : Nat) : Int) := by rw [tdiv_ediv (by omega)]; omega
  have t2 : (x : Int).tmod 1000 = ((x % 1000 : Nat) : Int) := by rw [Int.tmod_eq_emod_of_nonneg (by omega)]; omega
  have hr9 : x % 1000 < 1000 := Nat.mod_lt _ (by decide)
  generalize hr1 : x % 1000 = r at *
  generalize hi1 : x / 1000 = i at *
  obtain ⟨hi, hj0, hp0, he0⟩ := HF.out x i r hx0 hi1 hr1
  have HJ := Lib.hid hj0
  have HE := Lib.hid he0
  have HP := Lib.hid hp0
  clear HF hj0 he0 hp0 hx0
  have wi : IntKind.i64.wrap (i : Int) = i := IntWalk.i64_in _ ⟨by omega, by omega⟩
  have wr : IntKind.i64.wrap (r : Int) = r := IntWalk.i64_in _ ⟨by omega, by omega⟩
  have wj : IntKind.i64.wrap ((i : Int) + 1) = ((i + 1 : Nat) : Int) := by rw [IntWalk.i64_in _ ⟨by omega, by omega⟩]; omega
  obtain ⟨b, off, rfl, _, hbs, c0⟩ := hr.int_at hi
  by_cases hj : i + 1 < row.length
  · obtain ⟨b', off', e', _, _, c1⟩ := hr.int_at hj
    obtain ⟨rfl, rfl⟩ : b = b' ∧ off = off' := by injection e' with e'; injection e' with h1 h2; exact ⟨h1, h2⟩
    have HL := Lib.hid (HP.out hj)
    obtain ⟨m1, m2, m3, m4⟩ := HM.out i r hj hr9
    have b1 := HB.out i hi
    have b2 := HB.out (i + 1) hj
    have d1 : decide (((i + 1 : Nat) : Int) < (row.length : Int)) = true := decide_eq_true (by omega)
    have d1' : decide (i + 1 < row.length) = true := decide_eq_true (by omega)
    have d1'' : decide ((i : Int) + 1 < (row.length : Int)) = true := decide_eq_true (by omega)
    generalize row[i + 1] = z at *
    generalize row[i] = y at *
    have w3 : IntKind.i64.wrap (z - y) = z - y := IntWalk.i64_in _ ⟨by omega, by omega⟩
    have w4 : IntKind.i64.wrap ((z - y) * (r : Int)) = (z - y) * r := IntWalk.i64_in _ ⟨by omega, by omega⟩
    have t3 : ((z - y) * (r : Int)).tdiv 1000 = (z - y) * r / 1000 := tdiv_ediv m1
    have w5 : IntKind.i64.wrap ((z - y) * (r : Int) / 1000) = (z - y) * r / 1000 := IntWalk.i64_in _ ⟨by omega, by omega⟩
    have w6 : IntKind.i64.wrap (y + (z - y) * (r : Int) / 1000) = y + (z - y) * r / 1000 := IntWalk.i64_in _ ⟨by omega, by omega⟩
    clear HJ HE HP HM HB hk hr1 hi1 e'
    go_enter Tryz.func37, Tryz.ntmps37
    go_wp2_with fail
    go_ret
    exact ⟨ret_int' HL.out.symm, Below.refl _ _⟩
  · have HL : Hid (levA row part = row[i]) := Lib.hid (by
      by_cases hz : r = 0
      · exact HE.out hz
      · exact absurd (HJ.out (by omega)) hj)
    have d1 : decide (((i + 1 : Nat) : Int) < (row.length : Int)) = false := decide_eq_false (by omega)
    have d1' : decide (i + 1 < row.length) = false := decide_eq_false (by omega)
    have d1'' : decide ((i : Int) + 1 < (row.length : Int)) = false := decide_eq_false (by omega)
    generalize row[i] = y at *
    clear HJ HE HP HM HB hk hr1 hi1 hj
    go_enter Tryz.func37, Tryz.ntmps37
    go_wp2_with fail
    go_ret
    exact ⟨ret_int' HL.out.symm, Below.refl _ _⟩
set_option maxHeartbeats 2000000 in
set_option maxRecDepth 100000 in
theorem sums_any (A : Option Addr) (c lo : Nat) (l : List Int) (w : World) (hr : Row w lo 1 A l.length (ints l)) (hm : l.length ≤ 60) (hb : ∀ x ∈ l, 0 ≤ x ∧ x ≤ 864000000) :
    Calls Tryz.prog 75 #[.slice A l.length c] w fun e w' => ∃ A' c', e = .returned (.slice A' (addA l).length c') ∧ w'.ownsRow w.heap.size 3 1 (.slice A' (addA l).length c') (addA l).length (ints (addA l)) ∧ Below w.heap.size w w' := by
  have HB := Lib.hid (fun k hk1 => preS_bd hb k hk1)
  have HN := Lib.hid (fun k hk1 => preS_next (l := l) (k := k) hk1)
  have HX := Lib.hid (fun (k : Nat) (h : k < l.length) => hb _ (List.getElem_mem h))
  have HA := Lib.hid (fun (k : Nat) (hk : l.length ≤ k) => sumK_all (l := l) hk)
  have HL := Lib.hid (addA_len l)
  have hl1 := sumK_one l
  clear hb
  go_enter Tryz.func75, Tryz.ntmps75
  go_wp2_with fail
  refine (cloneI_any A c lo l _ hr (by omega)).mono ?_
  rintro e w1 ⟨A1, c1, rfl, ho1, hb1⟩
  have hz1 := hb1.size
  have ho1' : w1.ownsRow w.heap.size 3 1 (.slice A1 l.length c1) l.length (ints (sumK l 1)) := by rw [hl1]; exact ho1
  clear ho1 hl1
  go_wp2_with fail
  go_loopw [4] (fun i wr => ∃ (k : Nat), 1 ≤ k ∧ k ≤ l.length + 1 ∧ i = .int .i64 k ∧ wr.ownsRow w.heap.size 3 1 (.slice A1 l.length c1) l.length (ints (sumK l k)) ∧ Below w.heap.size w wr) (fun i _ => l.length - (intOf i).toNat)
  case atStart => exact ⟨1, Nat.le_refl _, by omega, rfl, ho1', hb1⟩
  case round =>
    clear ho1' hb1 hz1
    obtain ⟨k, h1, hk, rfl, hown, hbw⟩ := hrel
    have hz := hbw.size
    by_cases hlt : k < l.length
    · have hsl := sumK_len l k
      have hrk : Row wr w.heap.size 1 A1 (sumK l k).length (ints (sumK l k)) := by rw [hsl]; exact Row.of_own hown
      obtain ⟨g, cs, rfl, hlo, hblk, _, _⟩ := own_blkS hown (by omega)
      obtain ⟨b, off, e0, _, hbs, c0⟩ := hrk.int_at (k := k) (by omega)
      obtain ⟨rfl, rfl⟩ : g = b ∧ 0 = off := by injection e0 with e0; injection e0 with h1 h2; exact ⟨h1, h2⟩
      obtain ⟨b', off', e', _, _, c9⟩ := hrk.int_at (k := k - 1) (by omega)
      obtain ⟨rfl, rfl⟩ : g = b' ∧ 0 = off' := by injection e' with e'; injection e' with h1 h2; exact ⟨h1, h2⟩
      rw [sumK_at, if_neg (by omega), getD_is hlt, Nat.zero_add] at c0
      rw [sumK_at, if_pos (by omega), show k - 1 + 1 = k by omega, Nat.zero_add] at c9
      have fk := Blk.thaw hblk k
      have HT := Lib.hid (HN.out k hlt)
      have bk := HB.out k (by omega)
      have bx := HX.out k hlt
      have hst := (hown.stored k (.int .i64 (preS l (k + 1)))).1
      rw [ints_set, ← sumK_next, HT.out] at hst
      have HS := Lib.hid hst
      generalize preS l k = s at *
      generalize l[k] = x at *
      have wx : IntKind.i64.wrap (x + s) = s + x := by rw [IntWalk.i64_in _ ⟨by omega, by omega⟩]; omega
      have wk : IntKind.i64.wrap ((k : Int) - 1) = ((k - 1 : Nat) : Int) := by rw [IntWalk.i64_in _ ⟨by omega, by omega⟩]; omega
      have hk1 : k - 1 < l.length := by omega
      have d1 : decide ((k : Int) < (l.length : Int)) = true := decide_eq_true (by omega)
      clear e' e0 hrk hst hblk
      go_wp2_with fail
      go_still_tail 11, (by kernel_rfl)
      go_wp2_with fail
      go_roundw
      case rel => exact ⟨k + 1, by omega, by omega, by go_num, (by repeat (first | exact HS.out | refine World.ownsRow.alloc ?_ _ | refine own_drewN ?_ _ | refine World.ownsRow.drew ?_)), (Below.setCell hbw hlo _).drew⟩
      case measure => simp [intOf]; omega
    · have d1 : decide ((k : Int) < (l.length : Int)) = false := decide_eq_false (by omega)
      have d1' : decide (k < l.length) = false := decide_eq_false (by omega)
      have hka := HA.out k (by omega)
      rw [hka] at hown
      clear hka
      go_wp2_with fail
      go_ret
      exact ⟨A1, c1, by rw [HL.out]; rfl, by rw [HL.out]; exact hown, hbw⟩
end Go.Proofs.YtagghmfhfboejaaGreatDoor
