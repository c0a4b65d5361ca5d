/- Texts of this seat, laid together: SgH. -/
import Derived.Test.YtlinbaojkmcbeaaGreatDoorBv15
/- The walks of finished, best and Best at a right history; slices.Index and Contains at numbers. -/
namespace Go.Proofs.YtlinbaojkmcbeaaGreatDoor
set_option linter.unusedVariables false
set_option linter.unusedSimpArgs false
open Go.RowKit

theorem cell_below {w w' : World} {p : Addr} {v : Value} (h : w.cell? p = some v) (hb : Below w.heap.size w w') : w'.cell? p = some v := (World.cell?_of_block (hb.block p.block (World.block_lt_of_cell? w p h))).trans h
theorem Row.int_cell {w : World} {lo b off : Nat} {zs : List Int} (h : Row w lo 1 (some ⟨b, off, none⟩) zs.length (ints zs)) {k : Nat} (hk : k < zs.length) : w.cell? ⟨b, off + k, none⟩ = some (.int .i64 zs[k]) := by
  obtain ⟨b', off', e, _, _, c⟩ := h.int_at hk
  injection e with e
  injection e with e1 e2
  subst e1 e2
  exact c
set_option maxHeartbeats 1000000 in
theorem indexI_in (A : Option Addr) (c lo : Nat) (l : List Int) (x : Int) (w : World) (hr : Row w lo 1 A l.length (ints l)) (hl : l.length ≤ 1000000000) :
    Calls Tryz.prog 99 #[.slice A l.length c, .int .i64 x] w fun e w' => ∃ r : Int, e = .returned (.int .i64 r) ∧ (decide (0 ≤ r) = decide (x ∈ l)) ∧ w = w' := by
  go_enter Tryz.func99, Tryz.ntmps99
  go_wp2_with fail
  go_loop [8] (fun i => ∃ k : Nat, k ≤ l.length ∧ i = .int .i64 k ∧ Hid (∀ j (h : j < l.length), j < k → x ≠ l[j])) (fun i => l.length - (intOf i).toNat)
  case atStart => exact ⟨0, Nat.zero_le _, rfl, Lib.hid (fun _ _ h => absurd h (Nat.not_lt_zero _))⟩
  case round =>
    obtain ⟨k, hk, rfl, HN⟩ := hrel
    by_cases hlt : k < l.length
    · obtain ⟨b, off, rfl, _, hbs, c0⟩ := hr.int_at hlt
      have HM : Hid (x = l[k] → x ∈ l) := Lib.hid (fun h => by rw [h]; exact List.getElem_mem _)
      have HS : Hid (¬ x = l[k] → ∀ j (h : j < l.length), j < k + 1 → x ≠ l[j]) := Lib.hid (fun h j hj hjk => by
        rcases Nat.lt_or_ge j k with h1 | h1
        · exact HN.out j hj h1
        · have : j = k := by omega
          subst this; exact h)
      generalize l[k] = y at *
      by_cases hxy : x = y
      · have d : (x == y) = true := by simpa using hxy
        have HD := Lib.hid (HM.out hxy)
        clear hxy HM HS
        go_wp2_with fail
        go_ret
        exact ⟨(k : Int), rfl, by simp [HD.out], rfl⟩
      · have d : (x == y) = false := by simpa using hxy
        have HD := Lib.hid (HS.out hxy)
        clear hxy HM HS
        go_wp2_with fail
        go_round
        case rel => exact ⟨k + 1, by omega, by go_num, HD⟩
        case measure => simp [intOf]; omega
    · have HD : Hid (x ∉ l) := Lib.hid (fun h => by
        obtain ⟨j, hj, e⟩ := List.getElem_of_mem h
        exact HN.out j hj (by omega) e.symm)
      go_wp2_with fail
      go_ret
      exact ⟨-1, rfl, by simp [HD.out], rfl⟩
theorem containsI_any (A : Option Addr) (c lo : Nat) (l : List Int) (x : Int) (w : World) (hr : Row w lo 1 A l.length (ints l)) (hl : l.length ≤ 1000000000) :
    Calls Tryz.prog 72 #[.slice A l.length c, .int .i64 x] w fun e w' => e = .returned (.bool (decide (x ∈ l))) ∧ w = w' := by
  go_enter Tryz.func72, Tryz.ntmps72
  go_wp2_with fail
  refine (indexI_in _ _ _ l x _ hr hl).mono ?_
  rintro e w1 ⟨r, rfl, hd, rfl⟩
  go_wp2_with fail
  go_ret
  exact ⟨by rw [← hd]; rfl, rfl⟩

/-- The last split. -/
def lastT (a : Att) : Int := a.2.getD (a.2.length - 1) 0
/-- Where the best finished attempt of the first ones is; -1: there is none. -/
def bI (n : Nat) (atts : List Att) : Nat → Int
  | 0 => -1
  | k + 1 => if h : k < atts.length then (if atts[k].2.length = n ∧ (bI n atts k < 0 ∨ lastT atts[k] < lastT (atts.getD (bI n atts k).toNat (0, []))) then (k : Int) else bI n atts k) else bI n atts k
theorem bI_inv (n : Nat) (atts : List Att) : ∀ k, k ≤ atts.length → bI n atts k = -1 ∨ ∃ j : Nat, ∃ h : j < atts.length, bI n atts k = j ∧ j < k ∧ atts[j].2.length = n := by
  intro k
  induction k with
  | zero => intro _; exact .inl rfl
  | succ k ih =>
    intro hk
    have hlt : k < atts.length := by omega
    simp only [bI, hlt, dite_true]
    split
    · rename_i h
      exact .inr ⟨k, hlt, rfl, by omega, h.1⟩
    · rcases ih (by omega) with h | ⟨j, hj, h1, h2, h3⟩
      · exact .inl h
      · exact .inr ⟨j, hj, h1, by omega, h3⟩
theorem bI_no {n : Nat} {atts : List Att} {k : Nat} (hk : k < atts.length) (h : ¬ atts[k].2.length = n) : bI n atts (k + 1) = bI n atts k := by simp [bI, hk, h]
theorem bI_new {n : Nat} {atts : List Att} {k : Nat} (hk : k < atts.length) (h : atts[k].2.length = n) (h' : bI n atts k < 0) : bI n atts (k + 1) = k := by simp [bI, hk, h, h']
theorem bI_cmp {n : Nat} {atts : List Att} {k j : Nat} (hk : k < atts.length) (h : atts[k].2.length = n) (hj : j < atts.length) (hb : bI n atts k = j) (hn : atts[j].2.length = n) (h1 : n - 1 < n) :
    bI n atts (k + 1) = if atts[k].2[n - 1]'(by omega) < atts[j].2[n - 1]'(by omega) then (k : Int) else (j : Int) := by
  have e1 : lastT atts[k] = atts[k].2[n - 1]'(by omega) := by unfold lastT; simp only [List.getD_eq_getElem?_getD]; simp only [h]; rw [List.getElem?_eq_getElem (by omega)]; rfl
  have e2 : lastT (atts.getD j (0, [])) = atts[j].2[n - 1]'(by omega) := by
    have : atts.getD j (0, []) = atts[j] := by rw [List.getD_eq_getElem?_getD, List.getElem?_eq_getElem hj]; rfl
    rw [this]; unfold lastT; simp only [List.getD_eq_getElem?_getD]; simp only [hn]; rw [List.getElem?_eq_getElem (by omega)]; rfl
  have hneg : ¬ ((j : Int) < 0) := by omega
  simp only [bI, hk, dite_true, h, true_and, hb, Int.toNat_natCast, e1, e2, hneg, false_or]

end Go.Proofs.YtlinbaojkmcbeaaGreatDoor
