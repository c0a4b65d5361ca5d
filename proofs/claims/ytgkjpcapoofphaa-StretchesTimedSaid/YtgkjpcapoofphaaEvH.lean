/- The walk of FrameAt. -/
import Derived.Test.YtgkjpcapoofphaaEvG
namespace Go.Proofs.Ytgkjpcapoofphaa
open Go.RowKit

theorem fa_hit {v : List St} {time r : Int} (h : vFault v = 0) (h' : 0 ≤ time ∧ time ≤ 864000000) (hs : Seen v (seenL v time) r) (h0 : 0 ≤ r) : r = max (faR v time) 0 ∧ true = decide (0 ≤ faR v time) ∧ 0 = faE v time := by
  obtain ⟨e1, e2⟩ := fa_ok h h'
  rw [e1, e2, Seen.eq (vFault_ok h) hs]
  exact ⟨by omega, by simp [h0], rfl⟩
theorem fa_miss {v : List St} {time : Int} (h : vFault v = 0) (h' : 0 ≤ time ∧ time ≤ 864000000) (hs : Seen v (seenL v time) (-1)) : 0 = max (faR v time) 0 ∧ false = decide (0 ≤ faR v time) ∧ 0 = faE v time := by
  obtain ⟨e1, e2⟩ := fa_ok h h'
  rw [e1, e2, Seen.eq (vFault_ok h) hs]
  exact ⟨by omega, by simp, rfl⟩
theorem fa_none {v : List St} {time e : Int} (h : faE v time = e ∧ faR v time = -1) : 0 = max (faR v time) 0 ∧ false = decide (0 ≤ faR v time) ∧ e = faE v time := by
  rw [h.1, h.2]
  exact ⟨by omega, by simp, rfl⟩
theorem ret3x {a b : Int} {c d : Bool} {x y : Int} (h : a = b ∧ c = d ∧ x = y) : Ending.returned (.tuple #[.int .i64 a, .bool c, .int .i64 x]) = .returned (.tuple #[.int .i64 b, .bool d, .int .i64 y]) := by rw [h.1, h.2.1, h.2.2]

set_option maxHeartbeats 1000000 in
theorem frameAt_any (lo c : Nat) (A : Option Addr) (v : List St) (time : Int) (w : World) (hr : Row w lo 3 A v.length (trs v)) (hl : v.length ≤ 1000000000) (hi : ∀ s ∈ v, s.2.1 ≤ 9223372036854775807) :
    Calls Try.prog 28 #[.slice A v.length c, .int .i64 time] w fun e w' => e = .returned (.tuple #[.int .i64 (max (faR v time) 0), .bool (decide (0 ≤ faR v time)), .int .i64 (faE v time)]) ∧ Below w.heap.size w w' := by
  have HI := Lib.hid hi
  clear hi
  go_enter Try.func28, Try.ntmps28
  go_wp2_with fail
  refine (checkVideo_any _ _ _ v _ hr hl HI.out).mono ?_
  rintro e w1 ⟨rfl, hb1⟩
  have hr1 := hr.below hb1
  by_cases h0 : vFault v = 0
  · have h0' : (vFault v != 0) = false := by simpa using h0
    have H0 := Lib.hid h0
    have HG := Lib.hid (vFault_ok h0)
    clear h0
    go_wp2_with fail
    refine (out_any _ _ _ _).mono ?_
    rintro e w3 ⟨rfl, rfl⟩
    by_cases h1 : 0 ≤ time ∧ time ≤ 864000000
    · have h1' : (decide (time < 0) || decide (864000000 < time)) = false := by simp; omega
      rw [h1']
      clear h1' h0'
      have HT := Lib.hid h1
      obtain ⟨t0, t1⟩ := h1
      go_wp2_with fail
      refine (newFilm_any _ _ _ v _ hr1 HG.out).mono ?_
      rintro e w2 ⟨g, rfl, hfm, hb2⟩
      have hx := below_up hb1 hb2
      have hr2 := hr1.below hb2
      clear hb2 hb1 hr1
      obtain ⟨f0, f1, f2⟩ := hfm.cells
      have m1 := HG.out.mbd
      have m2 := HG.out.mul
      have hlen := HG.out.len
      have hsm := HG.out.sum
      have p0 : 0 ≤ time * multK v := Int.mul_nonneg t0 (by omega)
      have p1 : time * multK v ≤ 864000000 * 100000000 := Int.mul_le_mul t1 m2 (by omega) (by omega)
      have HL : Hid (time * multK v / 1000 = seenL v time) := Lib.hid rfl
      have hL0 : 0 ≤ seenL v time := by unfold seenL; omega
      have hL1 : seenL v time ≤ 86400000000000 := by unfold seenL; omega
      go_wp2_with fail
      rw [HL.out]
      clear f0 f1 f2 p0 p1 HL
      go_loopw [9, 10, 32] (fun a b i wr => ∃ k : Nat, k ≤ v.length ∧ i = .int .i64 k ∧ a = .int .i64 (seenL v time - fullK v k) ∧ b = .int .i64 (fsum (v.take k)) ∧ 0 ≤ seenL v time - fullK v k ∧ Film wr g lo A c v ∧ Below w.heap.size w wr) (fun _ _ i _ => v.length - (intOf i).toNat)
      case atStart => exact ⟨0, Nat.zero_le _, rfl, by simp [fullK], rfl, by simp [fullK]; omega, hfm, hx⟩
      case round =>
        obtain ⟨k, hk, rfl, rfl, rfl, hleft, hfr, hbw⟩ := hrel
        have zw := hbw.size
        by_cases hlt : k < v.length
        · obtain ⟨b, off, rfl, _, hbs, c0, c1, c2⟩ := hfr.2.tr_at hlt
          have HFN := Lib.hid (fullK_next v k hlt)
          have HSN := Lib.hid (fsum_take v k hlt)
          obtain ⟨_, _, _, _, a1, a2, _, _, l1, l2⟩ := HG.out.at_ k hlt
          obtain ⟨q0, q1⟩ := fullK_bd HG.out k hk
          have q2 := (fullK_bd HG.out (k + 1) (by omega))
          rw [HFN.out] at q2
          obtain ⟨q2, q3⟩ := q2
          have hf1 := fsum_take_le v k HG.out.nonneg
          have pr0 : 0 ≤ v[k].1 * longM (multK v) v[k] := Int.mul_nonneg (by omega) (by omega)
          have HIN := Lib.hid (seen_in HG.out k hlt (seenL v time) (by omega))
          go_wp2_with fail
          refine (long_any g lo c _ v k hlt _ (hfr.below (by repeat (first | exact Below.refl _ _ | refine Below.alloc ?_ (by first | omega | (simp; omega)) _ | refine below_drewN' ?_ _ | refine Below.drew ?_))) HG.out).mono ?_
          rintro e w4 ⟨rfl, hb4⟩
          have hb5 : Below w.heap.size w w4 := below_up (by repeat (first | exact hbw | refine Below.alloc ?_ (by first | omega | (simp; omega)) _ | refine below_drewN' ?_ _ | refine Below.drew ?_)) hb4
          have hf4 := (hfr.below ((Below.refl _ _).alloc (Nat.le_refl _) _)).below hb4
          have kb4 := (Blk.new wr 102 #[.int .i64 v[k].1, .int .i64 v[k].2.1, .int .i64 v[k].2.2]).below hb4
          have kc : w4.cell? ⟨wr.heap.size, 0, none⟩ = some (.int .i64 v[k].1) := kb4.cell 0
          have z1 := hb5.size
          clear hb4 c0 c1 c2 kb4
          generalize fullK v k = F at *
          generalize longM (multK v) v[k] = G at *
          generalize hX : v[k].1 * G = X at *
          by_cases hc : seenL v time - F < X
          · have d0 : 0 ≤ (seenL v time - F) / G := Int.ediv_nonneg (by omega) (by omega)
            have d1 : (seenL v time - F) / G ≤ seenL v time - F := Int.ediv_le_self _ (by omega)
            have g0 : (G == 0) = false := by simp; omega
            have HH := Lib.hid (fa_hit H0.out HT.out (HIN.out hc) (by omega))
            have hc' : decide (seenL v time - F < X) = true := by simpa using hc
            go_wp2_with fail
            go_ret3
            exact ⟨ret3x HH.out, hb5⟩
          · have hc' : decide (seenL v time - F < X) = false := by simpa using hc
            go_wp2_with fail
            go_roundw
            case rel => exact ⟨k + 1, by omega, by go_num, by (rw [HFN.out]; go_num), by (rw [HSN.out]; try go_num), by rw [HFN.out]; omega, hf4, hb5⟩
            case measure => simp [intOf]; omega
        · have hkk : k = v.length := by omega
          subst hkk
          have HS := Lib.hid (fa_miss H0.out HT.out (seen_past HG.out _ (by omega)))
          go_wp2_with fail
          go_ret3
          exact ⟨ret3x HS.out, hbw⟩
    · have h1' : (decide (time < 0) || decide (864000000 < time)) = true := by simp; omega
      rw [h1']
      have HS := Lib.hid (fa_none (fa_span H0.out h1))
      clear h1 h1'
      go_wp2_with fail
      go_ret3
      exact ⟨ret3x HS.out, hb1⟩
  · have h0' : (vFault v != 0) = true := by simpa using h0
    have HS := Lib.hid (fa_none (fa_bad (time := time) h0))
    clear h0
    go_wp2_with fail
    go_ret3
    exact ⟨ret3x HS.out, hb1⟩
end Go.Proofs.Ytgkjpcapoofphaa
