/- Texts of this seat, laid together: Lw Hs. -/
import Derived.StillTailTactics
import Derived.Deep.QuietTactic
import Derived.BigQuiet
import Derived.IntWalk
import Derived.Test.YtapjahbflhingaaGreatDoorBu53
import Derived.Test.YtapjahbflhingaaGreatDoorBu14
import Derived.Test.YtapjahbflhingaaGreatDoorBu03
import Derived.Test.YtapjahbflhingaaGreatDoorBu10
import Derived.Test.YtapjahbflhingaaGreatDoorBu21
import Derived.Test.YtapjahbflhingaaGreatDoorBu23
/- The walks of level and LevelOf, mean, added and sums. -/
namespace Go.Proofs.YtapjahbflhingaaGreatDoor
set_option linter.unusedVariables false
set_option linter.unusedSimpArgs false
open Go.RowKit

theorem lev_facts {row : List Int} {part x i r : Nat} (hx : (row.length - 1) * part = x) (hi : x / 1000 = i) (hr : x % 1000 = r) (h0 : 0 < row.length) (hp : part ≤ 1000) :
    ∃ h : i < row.length, (0 < r → i + 1 < row.length) ∧ (∀ h1 : i + 1 < row.length, levA row part = row[i] + (row[i + 1] - row[i]) * (r : Int) / 1000) ∧ (r = 0 → levA row part = row[i]) := by
  subst hx hi hr
  refine ⟨lev_i h0 hp, fun h => lev_j hp h, fun h1 => ?_, fun h => levA_even h0 hp h⟩
  unfold levA
  rw [getD_is h1, getD_is (lev_i h0 hp)]
set_option maxHeartbeats 1000000 in
theorem level_any (A : Option Addr) (c lo part : Nat) (row : List Int) (w : World) (hr : Row w lo 1 A row.length (ints row)) (hk : RowOk row) (h0 : 0 < row.length) (hp : part ≤ 1000) :
    Calls Tryz.prog 114 #[.slice A row.length c, .int .i64 part] w fun e w' => e = .returned (.int .i64 (levA row part)) ∧ Below w.heap.size w w' := by
  have hm := hk.m
  obtain ⟨m, hm1⟩ : ∃ m, m + 1 = row.length := ⟨row.length - 1, by omega⟩
  have w1 : IntKind.i64.wrap ((row.length : Int) - 1) = (m : Int) := by rw [IntWalk.i64_in _ ⟨by omega, by omega⟩]; omega
  have hml : m * part ≤ 499 * 1000 := Nat.mul_le_mul (by omega) hp
  have HM := Lib.hid (fun (i r : Nat) (h1 : i + 1 < row.length) (h2 : r < 1000) => lev_more hk h1 h2)
  have HB := Lib.hid (fun (i : Nat) (h : i < row.length) => hk.at h)
  have em : row.length - 1 = m := by omega
  have ec : (m : Int) * (part : Int) = ((m * part : Nat) : Int) := by simp
  have w2 : IntKind.i64.wrap ((m : Int) * (part : Int)) = ((m * part : Nat) : Int) := by rw [ec, IntWalk.i64_in _ ⟨by omega, by omega⟩]
  have HF := Lib.hid (fun (x i r : Nat) (hx : m * part = x) (h1 : x / 1000 = i) (h2 : x % 1000 = r) => lev_facts (row := row) (by rw [em]; exact hx) h1 h2 h0 hp)
  clear ec em
  obtain ⟨x, hx0⟩ : ∃ x, m * part = x := ⟨_, rfl⟩
  rw [hx0] at w2 hml
  have t1 : (x : Int).tdiv 1000 = ((x / 1000 : Nat) : Int) := by rw [tdiv_ediv (by omega)]; omega
  have t2 : (x : Int).tmod 1000 = ((x % 1000 : Nat) : Int) := by rw [Int.tmod_eq_emod_of_nonneg (by omega)]; omega
  have hr9 : x % 1000 < 1000 := Nat.mod_lt _ (by decide)
  generalize hr1 : x % 1000 = r at *
  generalize hi1 : x / 1000 = i at *
  obtain ⟨hi, hj0, hp0, he0⟩ := HF.out x i r hx0 hi1 hr1
  have HJ := Lib.hid hj0
  have HE := Lib.hid he0
  have HP := Lib.hid hp0
  clear HF hj0 he0 hp0 hx0
  have wi : IntKind.i64.wrap (i : Int) = i := IntWalk.i64_in _ ⟨by omega, by omega⟩
  have wr : IntKind.i64.wrap (r : Int) = r := IntWalk.i64_in _ ⟨by omega, by omega⟩
  by_cases hz : r = 0
  · obtain ⟨b, off, rfl, _, hbs, c0⟩ := hr.int_at hi
    have HL := Lib.hid (HE.out hz)
    have d1 : decide ((0 : Int) < (r : Int)) = false := decide_eq_false (by omega)
    have d1' : decide (0 < r) = false := decide_eq_false (by omega)
    generalize row[i] = y at *
    clear HJ HE HP HM HB hz hk hr1 hi1
    go_enter Tryz.func114, Tryz.ntmps114
    go_wp2_with fail
    go_ret
    exact ⟨ret_int' HL.out.symm, Below.refl _ _⟩
  · have hj := HJ.out (by omega)
    obtain ⟨b, off, rfl, _, hbs, c0⟩ := hr.int_at hi
    obtain ⟨b', off', e', _, _, c1⟩ := hr.int_at hj
    obtain ⟨rfl, rfl⟩ : b = b' ∧ off = off' := by injection e' with e'; injection e' with h1 h2; exact ⟨h1, h2⟩
    have HL := Lib.hid (HP.out hj)
    obtain ⟨m1, m2, m3, m4⟩ := HM.out i r hj hr9
    have b1 := HB.out i hi
    have b2 := HB.out (i + 1) hj
    have d1 : decide ((0 : Int) < (r : Int)) = true := decide_eq_true (by omega)
    have d1' : decide (0 < r) = true := decide_eq_true (by omega)
    have wj : IntKind.i64.wrap ((i : Int) + 1) = ((i + 1 : Nat) : Int) := by rw [IntWalk.i64_in _ ⟨by omega, by omega⟩]; omega
    generalize row[i + 1] = z at *
    generalize row[i] = y at *
    have w3 : IntKind.i64.wrap (z - y) = z - y := IntWalk.i64_in _ ⟨by omega, by omega⟩
    have w4 : IntKind.i64.wrap ((z - y) * (r : Int)) = (z - y) * r := IntWalk.i64_in _ ⟨by omega, by omega⟩
    have t3 : ((z - y) * (r : Int)).tdiv 1000 = (z - y) * r / 1000 := tdiv_ediv m1
    have w5 : IntKind.i64.wrap ((z - y) * (r : Int) / 1000) = (z - y) * r / 1000 := IntWalk.i64_in _ ⟨by omega, by omega⟩
    have w6 : IntKind.i64.wrap (y + (z - y) * (r : Int) / 1000) = y + (z - y) * r / 1000 := IntWalk.i64_in _ ⟨by omega, by omega⟩
    clear HJ HE HP HM HB hz hk hr1 hi1 e'
    go_enter Tryz.func114, Tryz.ntmps114
    go_wp2_with fail
    go_quiet (fail)
    go_wp2_with fail
    go_ret
    exact ⟨ret_int' HL.out.symm, (by repeat (first | exact Below.refl _ _ | refine Below.alloc ?_ (by first | omega | (simp; omega)) _ | refine below_drewN' ?_ _ | refine Below.drew ?_))⟩
set_option maxHeartbeats 1000000 in
theorem mean_any (A : Option Addr) (c lo : Nat) (row : List Int) (w : World) (hr : Row w lo 1 A row.length (ints row)) (hk : RowOk row) (h0 : 0 < row.length) :
    Calls Tryz.prog 112 #[.slice A row.length c] w fun e w' => e = .returned (.int .i64 (mnA row)) ∧ Below w.heap.size w w' := by
  have hm := hk.m
  have HB := Lib.hid (fun k hk1 => preS_bd (l := row) (fun x hx => by have := hk.bd x hx; omega) k hk1)
  have HN := Lib.hid (fun k hk1 => preS_next (l := row) (k := k) hk1)
  have HZ := Lib.hid (preS_all row)
  have HM : Hid (mnA row = row.sum / (row.length : Int)) := Lib.hid rfl
  have HO := Lib.hid hk
  clear hk
  go_enter Tryz.func112, Tryz.ntmps112
  go_wp2_with fail
  go_loop [3, 8] (fun v i => ∃ k : Nat, k ≤ row.length ∧ i = .int .i64 k ∧ v = .int .i64 (preS row k)) (fun _ i => row.length - (intOf i).toNat)
  case atStart => exact ⟨0, Nat.zero_le _, rfl, by rw [preS_zero]⟩
  case round =>
    obtain ⟨k, hk, rfl, rfl⟩ := hrel
    have bk := HB.out k hk
    by_cases hlt : k < row.length
    · obtain ⟨b, off, rfl, _, hbs, c0⟩ := hr.int_at hlt
      have HT := Lib.hid (HN.out k hlt)
      have bx := HO.out.at hlt
      generalize preS row k = s at *
      generalize row[k] = x at *
      have wx : IntKind.i64.wrap (s + x) = s + x := IntWalk.i64_in _ ⟨by omega, by omega⟩
      go_wp2_with fail
      go_round
      case rel => exact ⟨k + 1, by omega, by go_num, by rw [HT.out]⟩
      case measure => simp [intOf]; omega
    · have hkn : k = row.length := by omega
      subst hkn
      have hz : ¬ (row.length : Int) = 0 := by omega
      rw [HZ.out] at bk ⊢
      have hq1 : 0 ≤ row.sum / (row.length : Int) := Int.ediv_nonneg bk.1 (by omega)
      have hq2 : row.sum / (row.length : Int) ≤ 864000000 := Int.ediv_le_of_le_mul (by omega) bk.2
      have HM2 := HM
      generalize row.sum = s at *
      have td : s.tdiv (row.length : Int) = s / (row.length : Int) := tdiv_ediv bk.1
      generalize s / (row.length : Int) = q at *
      have wq : IntKind.i64.wrap q = q := IntWalk.i64_in _ ⟨by omega, by omega⟩
      clear bk
      go_wp2_with fail
      go_ret
      exact ⟨ret_int' HM.out.symm, Below.refl _ _⟩
set_option maxHeartbeats 1000000 in
theorem added_any (A : Option Addr) (c lo : Nat) (l : List Int) (w : World) (hr : Row w lo 1 A l.length (ints l)) (hm : l.length ≤ 60) (hb : ∀ x ∈ l, 0 ≤ x ∧ x ≤ 864000000) :
    Calls Tryz.prog 110 #[.slice A l.length c] w fun e w' => ∃ A' c', e = .returned (.slice A' (addA l).length c') ∧ w'.ownsRow w.heap.size 3 1 (.slice A' (addA l).length c') (addA l).length (ints (addA l)) ∧ Below w.heap.size w w' := by
  have HB := Lib.hid (fun k hk1 => preS_bd hb k hk1)
  have HN := Lib.hid (fun k hk1 => preS_next (l := l) (k := k) hk1)
  have HX := Lib.hid (fun (k : Nat) (h : k < l.length) => hb _ (List.getElem_mem h))
  have HA := Lib.hid (addK_all l)
  clear hb
  go_enter Tryz.func110, Tryz.ntmps110
  go_wp2_with fail
  go_loopw [3, 4, 9] (fun v s i wr => ∃ (k : Nat) (A' : Option Addr) (c' : Nat), k ≤ l.length ∧ i = .int .i64 k ∧ s = .int .i64 (preS l k) ∧ v = .slice A' (addK l k).length c' ∧ wr.ownsRow w.heap.size 3 1 (.slice A' (addK l k).length c') (addK l k).length (ints (addK l k)) ∧ Below w.heap.size w wr) (fun _ _ i _ => l.length - (intOf i).toNat)
  case atStart => exact ⟨0, none, 0, Nat.zero_le _, rfl, by rw [preS_zero], rfl, World.ownsRow_nil _ _ _ _, Below.refl _ _⟩
  case round =>
    obtain ⟨k, A', c', hk, rfl, rfl, rfl, hown, hbw⟩ := hrel
    have hz := hbw.size
    by_cases hlt : k < l.length
    · obtain ⟨b, off, rfl, _, hbs, c0⟩ := (hr.below hbw).int_at hlt
      have HT := Lib.hid (HN.out k hlt)
      have bk := HB.out k hk
      have bx := HX.out k hlt
      have HS := Lib.hid (addK_snoc l k)
      have hlk : (addK l k).length ≤ 60 := by rw [addK_len]; omega
      generalize addK l k = o at *
      generalize preS l k = s at *
      generalize l[k] = x at *
      have wx : IntKind.i64.wrap (s + x) = s + x := IntWalk.i64_in _ ⟨by omega, by omega⟩
      have HF : Hid (addK l (k + 1) = o ++ [s + x]) := Lib.hid (by rw [HS.out, HT.out])
      clear HS
      go_wp2_with (at_builtin; go_must (refine wpList_app (lo := w.heap.size) (base := w.heap.size) (n := o.length) (xs := ints o) _ _ rfl _ _ ty_ints rfl (by repeat (first | exact hown | refine World.ownsRow.alloc ?_ _ | refine own_drewN ?_ _ | refine World.ownsRow.drew ?_)) rfl (by first | exact row_new' _ (by first | rfl | simp) (by first | omega | (simp; omega)) rfl | exact row_newN _ _ (by first | rfl | simp) (by first | omega | (simp; omega)) rfl | exact row_newD _ (by first | rfl | simp) (by first | omega | (simp; omega)) rfl) rfl rfl (by first | omega | decide) (by first | omega | decide) (by first | omega | (simp; omega)) ?_))
      intro A5 c5 w5 hown5 hg5 _
      go_wp2_with fail
      go_roundw
      case rel => exact ⟨k + 1, A5, c5, by omega, by go_num, by rw [HT.out], by rw [HF.out]; simp, by rw [HF.out, ints_app, List.length_append]; exact hown5, below_app hown (by repeat (first | exact hbw | refine Below.alloc ?_ (by first | omega | (simp; omega)) _ | refine below_drewN' ?_ _ | refine Below.drew ?_)) hg5 (Nat.le_refl _) (by simp; omega)⟩
      case measure => simp [intOf]; omega
    · have hkn : k = l.length := by omega
      subst hkn
      rw [HA.out] at hown ⊢
      go_wp2_with fail
      go_ret
      exact ⟨A', c', rfl, hown, hbw⟩
end Go.Proofs.YtapjahbflhingaaGreatDoor
/- The walk of summed: the last test of the laws on segments. -/
namespace Go.Proofs.YtapjahbflhingaaGreatDoor
set_option linter.unusedVariables false
set_option linter.unusedSimpArgs false
open Go.RowKit

theorem Blk.atS (w : World) {t : TypeId} {cs : Array Value} {b : Nat} (hb : w.heap.size = b) : Blk (w.alloc (.cells cs t)) b t cs := by subst hb; exact Blk.new _ _ _
set_option maxHeartbeats 2000000 in
theorem summed_any (w : World) : Calls Tryz.prog 14 #[] w fun e w' => e = .returned (.bool true) ∧ Below w.heap.size w w' := by
  go_enter Tryz.func14, Tryz.ntmps14
  go_wp2_with fail
  have hx0 : Below w.heap.size w (((((w.alloc (.cells #[.string ⟨#[97]⟩, .string ⟨#[98]⟩] 9)).alloc (.cells #[.int .i64 10, .int .i64 25] 3)).alloc (.cells #[.int .i64 0, .int .i64 20] 3)).alloc (.cells #[.int .i64 9] 3)).alloc (.cells #[.int .i64 1, .slice (some ⟨w.heap.size + 1, 0, none⟩) 2 2, .int .i64 2, .slice (some ⟨w.heap.size + 1 + 1, 0, none⟩) 2 2, .int .i64 3, .slice (some ⟨w.heap.size + 1 + 1 + 1, 0, none⟩) 1 1] 81)) := (by repeat (first | exact Below.refl _ _ | refine Below.alloc ?_ (by first | omega | (simp; omega) | simp) _ | refine below_drewN' ?_ _ | refine Below.drew ?_))
  refine (ex_sumOfBest (W := (((((w.alloc (.cells #[.string ⟨#[97]⟩, .string ⟨#[98]⟩] 9)).alloc (.cells #[.int .i64 10, .int .i64 25] 3)).alloc (.cells #[.int .i64 0, .int .i64 20] 3)).alloc (.cells #[.int .i64 9] 3)).alloc (.cells #[.int .i64 1, .slice (some ⟨w.heap.size + 1, 0, none⟩) 2 2, .int .i64 2, .slice (some ⟨w.heap.size + 1 + 1, 0, none⟩) 2 2, .int .i64 3, .slice (some ⟨w.heap.size + 1 + 1 + 1, 0, none⟩) 1 1] 81))) (((((Blk.atS _ rfl).alloc _).alloc _).alloc _).alloc _) ((((Blk.atS _ (by simp)).alloc _).alloc _).alloc _) (((Blk.atS _ (by simp)).alloc _).alloc _) ((Blk.atS _ (by simp)).alloc _) (Blk.atS _ (by simp))).mono ?_
  rintro e w1 ⟨rfl, hb⟩
  have hx := below_up hx0 hb
  clear hb hx0
  go_wp2_with fail
  go_ret
  exact ⟨rfl, hx⟩
end Go.Proofs.YtapjahbflhingaaGreatDoor
