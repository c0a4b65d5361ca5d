/- The walks of film.long, film.begin, ticks, Fraction and Lowest. -/
import Derived.Test.YtlnencloodlnbaaDoorEvB
namespace Go.Proofs.YtlnencloodlnbaaDoor
open Go.RowKit

/-- A film in block g: its video (a row of stretches) and its parts. -/
def Film (w : World) (g lo : Nat) (A : Option Addr) (c : Nat) (v : List St) : Prop :=
  Blk w g 105 #[.slice A v.length c, .int .i64 (multK v), .int .i64 (fsum v)] ∧ Row w lo 3 A v.length (trs v)
theorem Film.below {w w' : World} {g lo c : Nat} {A : Option Addr} {v : List St} (h : Film w g lo A c v) (hb : Below w.heap.size w w') : Film w' g lo A c v := ⟨h.1.below hb, h.2.below hb⟩
theorem Film.cells {w : World} {g lo c : Nat} {A : Option Addr} {v : List St} (h : Film w g lo A c v) : w.cell? ⟨g, 0, none⟩ = some (.slice A v.length c) ∧ w.cell? ⟨g, 1, none⟩ = some (.int .i64 (multK v)) ∧ w.cell? ⟨g, 2, none⟩ = some (.int .i64 (fsum v)) :=
  ⟨h.1.cell 0, h.1.cell 1, h.1.cell 2⟩
theorem tdiv_ediv {a b : Int} (ha : 0 ≤ a) : a.tdiv b = a / b := Int.tdiv_eq_ediv_of_nonneg ha
/-- The facts of one stretch of a good video. -/
theorem Good.at_ {v : List St} (h : Good v) (k : Nat) (hk : k < v.length) : 1 ≤ v[k].2.1 ∧ v[k].2.1 ≤ 1001000 ∧ 1 ≤ v[k].2.2 ∧ v[k].2.2 ≤ 1001 ∧ 1 ≤ v[k].1 ∧ v[k].1 ≤ 10000000 ∧ 0 ≤ multK v / v[k].2.1 ∧ multK v / v[k].2.1 ≤ 100000000 ∧ 1 ≤ longM (multK v) v[k] ∧ longM (multK v) v[k] ≤ 100000000 := by
  have h1 := h.form v[k] (List.getElem_mem _)
  have h2 := h.pos v[k] (List.getElem_mem _)
  have h3 := h.long v[k] (List.getElem_mem _)
  have h4 := h.mbd
  have h5 := h.mul
  have h6 : 0 ≤ multK v / v[k].2.1 := Int.ediv_nonneg (by omega) (by omega)
  have h7 : multK v / v[k].2.1 ≤ multK v := Int.ediv_le_self _ (by omega)
  omega

set_option maxHeartbeats 400000 in
theorem long_any (g lo c : Nat) (A : Option Addr) (v : List St) (k : Nat) (hk : k < v.length) (w : World) (hf : Film w g lo A c v) (hg : Good v) :
    Calls Tryd.prog 84 #[.pointer (some ⟨g, 0, none⟩), .agg #[.int .i64 v[k].1, .int .i64 v[k].2.1, .int .i64 v[k].2.2]] w fun e w' => e = .returned (.int .i64 (longM (multK v) v[k])) ∧ Below w.heap.size w w' := by
  obtain ⟨f0, f1, f2⟩ := hf.cells
  obtain ⟨a1, a2, b1, b2, _, _, q1, q2, l1, l2⟩ := hg.at_ k hk
  have m1 := hg.mbd
  have m2 := hg.mul
  have hlt := hf.1.lt
  have HL : Hid (longM (multK v) v[k] = v[k].2.2 * (multK v / v[k].2.1)) := Lib.hid rfl
  rw [HL.out] at l1 l2
  rw [HL.out]
  clear HL hf hg f0 f2
  generalize multK v = M at *
  generalize v[k] = s at *
  have n0 : (s.2.1 == 0) = false := by simp; omega
  have td : Hid (M.tdiv s.2.1 = M / s.2.1) := Lib.hid (tdiv_ediv (by omega))
  have w1 : IntKind.i64.wrap (M / s.2.1) = M / s.2.1 := IntWalk.i64_in _ ⟨by omega, by omega⟩
  have w2 : IntKind.i64.wrap (s.2.2 * (M / s.2.1)) = s.2.2 * (M / s.2.1) := IntWalk.i64_in _ ⟨by omega, by omega⟩
  have f1' := cell_al f1
  go_enter Tryd.func84, Tryd.ntmps84
  go_wp2_with fail
  go_quiet (fail)
  clear w1 w2
  go_wp2_with fail
  go_ret
  exact ⟨rfl, (by repeat (first | exact Below.refl _ _ | refine Below.alloc ?_ (by first | omega | (simp; omega)) _ | refine below_drewN' ?_ _ | refine Below.drew ?_))⟩

/-- What is left of a frame's number at stretch k. -/
def remM (v : List St) (f : Int) (k : Nat) : Int := max (f - fsum (v.take k)) 0
theorem used_eq (v : List St) (f : Int) (k : Nat) (hk : k < v.length) : usedM v f k = min (remM v f k) v[k].1 := by
  unfold usedM remM; rw [List.getD_eq_getElem?_getD, List.getElem?_eq_getElem hk]; rfl
theorem rem_next (v : List St) (f : Int) (k : Nat) (hk : k < v.length) (h : 0 ≤ v[k].1) : remM v f (k + 1) = remM v f k - min (remM v f k) v[k].1 := by
  unfold remM; rw [fsum_take v k hk]; omega
theorem beg_next (m : Int) (v : List St) (f : Int) (k : Nat) (hk : k < v.length) : begK m v f (k + 1) = begK m v f k + min (remM v f k) v[k].1 * longM m v[k] := by
  rw [begK, used_eq v f k hk, List.getD_eq_getElem?_getD, List.getElem?_eq_getElem hk]; rfl
theorem rem_bd (v : List St) (hg : Good v) (f : Int) (k : Nat) : 0 ≤ remM v f k ∧ (0 ≤ f → remM v f k ≤ f) := by
  have := (fsum_take_le v k hg.nonneg).1
  unfold remM; omega
/-- The bounds of one round of begin and ticks. -/
theorem Good.round {v : List St} (h : Good v) (f : Int) (k : Nat) (hk : k < v.length) (n : Int) (hn : n = min (remM v f k) v[k].1) :
    0 ≤ n ∧ n ≤ v[k].1 ∧ 0 ≤ begK (multK v) v f k ∧ begK (multK v) v f k ≤ 1000000000000000 ∧ 0 ≤ n * longM (multK v) v[k] ∧ n * longM (multK v) v[k] ≤ 1000000000000000 ∧ 0 ≤ n * v[k].2.2 ∧ n * v[k].2.2 ≤ 10010000000 ∧ n * v[k].2.2 * (multK v / v[k].2.1) = n * longM (multK v) v[k] := by
  have h1 := h.at_ k hk
  have h2 := rem_bd v h f k
  have h3 := begK_bd h f k (by omega)
  have h4 := fsum_take_le v k h.nonneg
  have h5 := h.sum
  have n0 : 0 ≤ n := by omega
  have n1 : n ≤ v[k].1 := by omega
  have a1 : 0 ≤ n * longM (multK v) v[k] := Int.mul_nonneg n0 (by omega)
  have a2 : n * longM (multK v) v[k] ≤ 10000000 * 100000000 := Int.mul_le_mul (by omega) (by omega) (by omega) (by omega)
  have a3 : 0 ≤ n * v[k].2.2 := Int.mul_nonneg n0 (by omega)
  have a4 : n * v[k].2.2 ≤ 10000000 * 1001 := Int.mul_le_mul (by omega) (by omega) (by omega) (by omega)
  refine ⟨n0, n1, h3.1, by omega, a1, by omega, a3, by omega, ?_⟩
  unfold longM
  rw [Int.mul_assoc]

set_option maxHeartbeats 1000000 in
theorem begin_any (g lo c : Nat) (A : Option Addr) (v : List St) (f : Int) (w : World) (hf : Film w g lo A c v) (hg : Good v) (hf0 : 0 ≤ f) (hf1 : f ≤ 1000000000000) :
    Calls Tryd.prog 78 #[.pointer (some ⟨g, 0, none⟩), .int .i64 f] w fun e w' => e = .returned (.int .i64 (begM v f)) ∧ Below w.heap.size w w' := by
  have hlen := hg.len
  have HG := Lib.hid hg
  obtain ⟨f0, f1, f2⟩ := hf.cells
  have hR : remM v f 0 = f := by simp [remM, fsum]; omega
  have HR := Lib.hid hR
  clear hg hR f1 f2
  go_enter Tryd.func78, Tryd.ntmps78
  go_wp2_with fail
  clear f0
  go_loopw [1, 5, 14] (fun r a i wr => ∃ k : Nat, k ≤ v.length ∧ i = .int .i64 k ∧ r = .int .i64 (remM v f k) ∧ a = .int .i64 (begK (multK v) v f k) ∧ Below w.heap.size w wr) (fun _ _ i _ => v.length - (intOf i).toNat)
  case atStart => exact ⟨0, Nat.zero_le _, rfl, by rw [HR.out], rfl, Below.refl _ _⟩
  case round =>
    obtain ⟨k, hk, rfl, rfl, rfl, hbw⟩ := hrel
    clear HR
    by_cases hlt : k < v.length
    · have hfw := hf.below hbw
      obtain ⟨b, off, rfl, _, hbs, c0, c1, c2⟩ := hfw.2.tr_at hlt
      have HN := Lib.hid (beg_next (multK v) v f k hlt)
      have HM := Lib.hid (rem_next v f k hlt (by have := HG.out.at_ k hlt; omega))
      have hr := HG.out.round f k hlt _ rfl
      have hrb := rem_bd v HG.out f k
      have hrb2 := hrb.2 hf0
      obtain ⟨n0, n1, b0, b1, p0, p1, _, _, _⟩ := hr
      have zw := hbw.size
      rcases (Int.lt_or_le v[k].1 (remM v f k)).symm with hm | hm
      · have em : min (remM v f k) v[k].1 = remM v f k := by omega
        rw [em] at n0 n1 p0 p1
        rw [em] at HN HM
        clear em
        go_wp2_with fail
        refine (long_any g lo c _ v k hlt _ (hfw.below (by repeat (first | exact Below.refl _ _ | refine Below.alloc ?_ (by first | omega | (simp; omega)) _ | refine below_drewN' ?_ _ | refine Below.drew ?_))) HG.out).mono ?_
        rintro e w1 ⟨rfl, hb1⟩
        have hb2 : Below w.heap.size w w1 := below_up (by repeat (first | exact hbw | refine Below.alloc ?_ (by first | omega | (simp; omega)) _ | refine below_drewN' ?_ _ | refine Below.drew ?_)) hb1
        have z1 := hb2.size
        clear hb1 c0 c1 c2
        go_wp2_with fail
        go_roundw
        case rel => exact ⟨k + 1, by omega, by go_num, by (rw [HM.out]; try go_num), by (rw [HN.out]; try go_num), (by repeat (first | exact hb2 | refine Below.alloc ?_ (by first | omega | (simp; omega)) _ | refine below_drewN' ?_ _ | refine Below.drew ?_))⟩
        case measure => simp [intOf]; omega
      · have em : min (remM v f k) v[k].1 = v[k].1 := by omega
        rw [em] at n0 n1 p0 p1
        rw [em] at HN HM
        clear em
        go_wp2_with fail
        refine (long_any g lo c _ v k hlt _ (hfw.below (by repeat (first | exact Below.refl _ _ | refine Below.alloc ?_ (by first | omega | (simp; omega)) _ | refine below_drewN' ?_ _ | refine Below.drew ?_))) HG.out).mono ?_
        rintro e w1 ⟨rfl, hb1⟩
        have hb2 : Below w.heap.size w w1 := below_up (by repeat (first | exact hbw | refine Below.alloc ?_ (by first | omega | (simp; omega)) _ | refine below_drewN' ?_ _ | refine Below.drew ?_)) hb1
        have z1 := hb2.size
        clear hb1 c0 c1 c2
        go_wp2_with fail
        go_roundw
        case rel => exact ⟨k + 1, by omega, by go_num, by (rw [HM.out]; try go_num), by (rw [HN.out]; try go_num), (by repeat (first | exact hb2 | refine Below.alloc ?_ (by first | omega | (simp; omega)) _ | refine below_drewN' ?_ _ | refine Below.drew ?_))⟩
        case measure => simp [intOf]; omega
    · have hkk : k = v.length := by omega
      subst hkk
      go_wp2_with fail
      go_ret
      exact ⟨ret_int' rfl, hbw⟩

end Go.Proofs.YtlnencloodlnbaaDoor
