/- The walks of later and of FrameSeen's closure, where its first test says yes. -/
import Derived.Test.YtgkjpcapoofphaaEvE
import Derived.Test.YtgkjpcapoofphaaEvP
namespace Go.Proofs.Ytgkjpcapoofphaa
open Go.RowKit

set_option maxHeartbeats 400000 in
theorem later_any (n m time : Int) (w : World) (hn : 0 ≤ n) (hn' : n ≤ 1000000000000000) (hm : 1 ≤ m) (hm' : m ≤ 100000000) (ht : 0 ≤ time) (ht' : time ≤ 864000000) :
    Calls Try.prog 84 #[.int .i64 n, .int .i64 m, .int .i64 time] w fun e w' => e = .returned (.bool (decide (time * m < 1000 * n))) ∧ w = w' := by
  obtain ⟨l1, l2⟩ := later_law n m time hm
  have m0 : (m == 0) = false := by simp; omega
  have q0 : 0 ≤ n / m := Int.ediv_nonneg (by omega) (by omega)
  have q1 : n / m ≤ n := Int.ediv_le_self _ (by omega)
  have r1 := Int.emod_nonneg n (show m ≠ 0 by omega)
  have r2 := Int.emod_lt_of_pos n (show 0 < m by omega)
  have u1 := Int.emod_nonneg time (show (1000 : Int) ≠ 0 by omega)
  have u2 := Int.emod_lt_of_pos time (show (0 : Int) < 1000 by omega)
  have a1 : 0 ≤ time % 1000 * m := Int.mul_nonneg u1 (by omega)
  have a2 : time % 1000 * m ≤ 999 * m := Int.mul_le_mul_of_nonneg_right (by omega) (by omega)
  by_cases h : n / m = time / 1000
  · have L := Lib.hid (l2 h)
    have hb : ((n / m) != (time / 1000)) = false := by simpa using h
    clear l1 l2 h
    go_enter Try.func84, Try.ntmps84
    go_wp2_with fail
    go_ret
    exact ⟨ret_bool' L.out, rfl⟩
  · have L := Lib.hid (l1 h)
    have hb : ((n / m) != (time / 1000)) = true := by simpa using h
    clear l1 l2 h
    go_enter Try.func84, Try.ntmps84
    go_wp2_with fail
    go_ret
    exact ⟨ret_bool' L.out, rfl⟩

/-- What the closure of FrameSeen captures. -/
structure Cap (w : World) (p1 p2 p3 lo c : Nat) (A : Option Addr) (v : List St) (time : Int) : Prop where
  row : Row w lo 3 A v.length (trs v)
  b1 : Blk w p1 46 #[.slice A v.length c]
  b2 : Blk w p2 3 #[.int .i64 (multK v)]
  b3 : Blk w p3 3 #[.int .i64 time]
theorem Cap.below {w w' : World} {p1 p2 p3 lo c : Nat} {A : Option Addr} {v : List St} {time : Int} (h : Cap w p1 p2 p3 lo c A v time) (hb : Below w.heap.size w w') : Cap w' p1 p2 p3 lo c A v time := ⟨h.1.below hb, h.2.below hb, h.3.below hb, h.4.below hb⟩
theorem Cap.cells {w : World} {p1 p2 p3 lo c : Nat} {A : Option Addr} {v : List St} {time : Int} (h : Cap w p1 p2 p3 lo c A v time) : w.cell? ⟨p1, 0, none⟩ = some (.slice A v.length c) ∧ w.cell? ⟨p2, 0, none⟩ = some (.int .i64 (multK v)) ∧ w.cell? ⟨p3, 0, none⟩ = some (.int .i64 time) := ⟨h.2.cell 0, h.3.cell 0, h.4.cell 0⟩

set_option maxHeartbeats 2000000 in
theorem begun_yes (p1 p2 p3 lo c : Nat) (A : Option Addr) (v : List St) (time f : Int) (w : World) (hc : Cap w p1 p2 p3 lo c A v time) (hg : Good v) (ht : 0 ≤ time) (ht' : time ≤ 864000000) (hf : 0 ≤ f) (hf' : f ≤ 1000000000000) (hd : begM v f / multK v * 1000 + begM v f % multK v * 1000 / multK v ≤ time) :
    Calls Try.prog 83 #[.int .i64 f, .pointer (some ⟨p1, 0, none⟩), .pointer (some ⟨p2, 0, none⟩), .pointer (some ⟨p3, 0, none⟩)] w fun e w' => e = .returned (.bool (decide (begM v f ≤ seenL v time))) ∧ Below w.heap.size w w' := by
  have HG := Lib.hid hg
  have m1 := hg.mbd
  have m2 := hg.mul
  obtain ⟨n1, n2⟩ := begM_bd hg f
  have hB := seenL_iff v time (begM v f)
  have hF := begun_first (begM v f) (multK v) time m1 n1
  clear hg
  have hcd : Cap w.drew p1 p2 p3 lo c A v time := ⟨hc.1, hc.2, hc.3, hc.4⟩
  obtain ⟨k1, k2, k3⟩ := hcd.cells
  have HX := Lib.hid ((Below.refl w.heap.size w).drew)
  generalize hn : begM v f = n at *
  generalize hmm : multK v = m at *
  have HN := Lib.hid hn
  have HM := Lib.hid hmm
  clear hn hmm
  have m0 : (m == 0) = false := by simp; omega
  have q0 : 0 ≤ n / m := Int.ediv_nonneg (by omega) (by omega)
  have q1 : n / m ≤ n := Int.ediv_le_self _ (by omega)
  have r1 := Int.emod_nonneg n (show m ≠ 0 by omega)
  have r2 := Int.emod_lt_of_pos n (show 0 < m by omega)
  have s0 : 0 ≤ n % m * 1000 / m := Int.ediv_nonneg (by omega) (by omega)
  have s1 : n % m * 1000 / m ≤ n % m * 1000 := Int.ediv_le_self _ (by omega)
  have hm0 : ¬ m = 0 := by omega
  have tm0 : n.tdiv m = n / m := tdiv_ediv (by omega)
  have wr0 : IntKind.i64.wrap (n / m) = n / m := IntWalk.i64_in _ ⟨by omega, by omega⟩
  have wr5 : IntKind.i64.wrap (n % m) = n % m := IntWalk.i64_in _ ⟨by omega, by omega⟩
  have tm1 : n.tmod m = n % m := Int.tmod_eq_emod_of_nonneg (by omega)
  have tm2 : (n % m * 1000).tdiv m = n % m * 1000 / m := tdiv_ediv (by omega)
  have wr1 : IntKind.i64.wrap (n / m * 1000) = n / m * 1000 := IntWalk.i64_in _ ⟨by omega, by omega⟩
  have wr2 : IntKind.i64.wrap (n % m * 1000) = n % m * 1000 := IntWalk.i64_in _ ⟨by omega, by omega⟩
  have wr3 : IntKind.i64.wrap (n % m * 1000 / m) = n % m * 1000 / m := IntWalk.i64_in _ ⟨by omega, by omega⟩
  have wr4 : IntKind.i64.wrap (n / m * 1000 + n % m * 1000 / m) = n / m * 1000 + n % m * 1000 / m := IntWalk.i64_in _ ⟨by omega, by omega⟩
  have hd' : decide (n / m * 1000 + n % m * 1000 / m ≤ time) = true := by simpa using hd
  have HR : Hid ((!decide (time * m < 1000 * n)) = decide (n ≤ seenL v time)) := Lib.hid (by
    rw [Bool.eq_iff_iff]; simp [hB])
  clear hB hF hd
  go_enter Try.func83, Try.ntmps83
  go_wp2_with fail
  go_region_held3 (fun w' => w'.cell? ⟨p1, 0, none⟩ = some (.slice A v.length c) ∧ w'.cell? ⟨p2, 0, none⟩ = some (.int .i64 m) ∧ w'.cell? ⟨p3, 0, none⟩ = some (.int .i64 time)) (first | exact ⟨x1, x2, x3⟩ | exact ⟨k1, k2, k3⟩) (first | (go_at_call 82; refine (ticks_any lo c A v f _ (by first | exact hc5.row | exact hcd.row) HG.out hf hf').mono ?_; rintro e w5 ⟨rfl, hb5⟩; rw [HN.out]; have hx5 : Below w.heap.size w w5 := below_up (by first | exact hx5 | exact HX.out) hb5; have hc5 : Cap w5 p1 p2 p3 lo c A v time := Cap.below (by first | exact hc5 | exact hcd) hb5; obtain ⟨x1, x2, x3⟩ := hc5.cells; rw [HM.out] at x2) | (go_at_call 84; refine (later_any n m time _ n1 n2 m1 m2 ht ht').mono ?_; rintro e w6 ⟨rfl, rfl⟩))
  all_goals
    go_wp2_with fail
    go_ret
    exact ⟨ret_bool' HR.out, hx5⟩
end Go.Proofs.Ytgkjpcapoofphaa
