/- The walks of CheckVideo and of its reference VideoFault, and of FramesOf. -/
import Derived.Test.YtlnencloodlnbaaDoorEvA
namespace Go.Proofs.YtlnencloodlnbaaDoor
open Go.RowKit

theorem sFault_arg {s : St} (h : ¬ (1 ≤ s.1 ∧ s.1 ≤ 10000000)) : sFault s = 1 := by
  have : argOk s = false := by rw [Bool.eq_false_iff, Ne, argOk_iff]; exact h
  simp [sFault, this]
theorem sFault_form {s : St} (h : 1 ≤ s.1 ∧ s.1 ≤ 10000000) (h' : ¬ (1 ≤ s.2.2 ∧ s.2.2 ≤ 1001 ∧ s.2.2 ≤ s.2.1 ∧ s.2.1 ≤ 1000 * s.2.2 ∧ gcdI s.2.1 s.2.2 = 1)) : sFault s = 3 := by
  have a : argOk s = true := (argOk_iff s).2 h
  have : formOk s = false := by rw [Bool.eq_false_iff, Ne, formOk_iff]; exact h'
  simp [sFault, this, a]
theorem sFault_good {s : St} (h : 1 ≤ s.1 ∧ s.1 ≤ 10000000) (h' : 1 ≤ s.2.2 ∧ s.2.2 ≤ 1001 ∧ s.2.2 ≤ s.2.1 ∧ s.2.1 ≤ 1000 * s.2.2 ∧ gcdI s.2.1 s.2.2 = 1) : sFault s = 0 := by
  have a : argOk s = true := (argOk_iff s).2 h
  have : formOk s = true := (formOk_iff s).2 h'
  simp [sFault, this, a]
/-- What follows from every stretch's being right. -/
theorem all_right {v : List St} (h : ∀ s ∈ v, sFault s = 0) : (∀ s ∈ v, 1 ≤ s.1 ∧ s.1 ≤ 10000000) ∧ ∀ s ∈ v, 1 ≤ s.2.1 ∧ s.2.1 ≤ 1001000 :=
  ⟨fun s hs => (argOk_iff s).1 (sFault_ok (h s hs)).1, fun s hs => by have := (formOk_iff s).1 (sFault_ok (h s hs)).2; omega⟩

set_option maxHeartbeats 1000000 in
theorem checkVideo_any (A : Option Addr) (c lo : Nat) (v : List St) (w : World) (hr : Row w lo 3 A v.length (trs v)) (hl : v.length ≤ 1000000000) (hi : ∀ s ∈ v, s.2.1 ≤ 9223372036854775807) :
    Calls Tryd.prog 61 #[.slice A v.length c] w fun e w' => e = .returned (.int .i64 (vFault v)) ∧ Below w.heap.size w w' := by
  have HI := Lib.hid hi
  clear hi
  by_cases hlong : 500 < v.length
  · have HF := Lib.hid (vFault_long v hlong)
    go_enter Tryd.func61, Tryd.ntmps61
    go_wp2_with fail
    go_ret
    exact ⟨ret_int' HF.out.symm, Below.refl _ _⟩
  · go_enter Tryd.func61, Tryd.ntmps61
    go_wp2_with fail
    go_loopw [11] (fun i wr => ∃ k : Nat, k ≤ v.length ∧ i = .int .i64 k ∧ Hid (∀ s ∈ v.take k, sFault s = 0) ∧ Below w.heap.size w wr) (fun i _ => v.length - (intOf i).toNat)
    case atStart => exact ⟨0, Nat.zero_le _, rfl, Lib.hid (by simp), Below.refl _ _⟩
    case round =>
      obtain ⟨k, hk, rfl, hv, hbw⟩ := hrel
      have zw := hbw.size
      by_cases hlt : k < v.length
      · obtain ⟨b, off, rfl, _, hbs, c0, c1, c2⟩ := (hr.below hbw).tr_at hlt
        have hbad := vFault_bad v k (by omega) hlt hv.out
        have HBAD := Lib.hid hbad
        have HTK := Lib.hid (sFault_take hv.out hlt)
        have hnum := HI.out v[k] (List.getElem_mem _)
        clear hbad
        generalize hsk : v[k] = s at *
        clear hsk
        go_wp2_with fail
        refine (out_any _ _ _ _).mono ?_
        rintro e w1 ⟨rfl, rfl⟩
        by_cases h1 : 1 ≤ s.1 ∧ s.1 ≤ 10000000
        · have h1' : (decide (s.1 < 1) || decide (10000000 < s.1)) = false := by simp; omega
          rw [h1']
          go_wp2_with fail
          refine (out_any _ _ _ _).mono ?_
          rintro e w1 ⟨rfl, rfl⟩
          by_cases h2 : 1 ≤ s.2.2 ∧ s.2.2 ≤ 1001
          · have h2' : (decide (s.2.2 < 1) || decide (1001 < s.2.2)) = false := by simp; omega
            rw [h2']
            obtain ⟨h21, h22⟩ := h2
            go_wp2_with fail
            refine (out_any _ _ _ _).mono ?_
            rintro e w1 ⟨rfl, rfl⟩
            by_cases h3 : s.2.2 ≤ s.2.1 ∧ s.2.1 ≤ 1000 * s.2.2
            · have h3' : (decide (s.2.1 < s.2.2) || decide (1000 * s.2.2 < s.2.1)) = false := by simp; omega
              rw [h3']
              obtain ⟨x, hx⟩ := Int.eq_ofNat_of_zero_le (show 0 ≤ s.2.1 by omega)
              obtain ⟨y, hy⟩ := Int.eq_ofNat_of_zero_le (show 0 ≤ s.2.2 by omega)
              have hG : gcdI s.2.1 s.2.2 = (Nat.gcd x y : Int) := by unfold gcdI; rw [hx, hy, Int.toNat_natCast, Int.toNat_natCast]
              have HG := Lib.hid hG
              have HX := Lib.hid hx
              have HY := Lib.hid hy
              go_wp2_with fail
              clear hx hy hG
              refine (lowest_any x y _ (by have := HX.out; omega) (by have := HY.out; omega)).mono ?_
              rintro e w1 ⟨rfl, hb1⟩
              by_cases h4 : Nat.gcd x y = 1
              · have h4' : (Nat.gcd x y == 1) = true := by simpa using h4
                have HN := Lib.hid (HTK.out (sFault_good h1 ⟨h21, h22, h3.1, h3.2, by rw [HG.out, h4]; rfl⟩))
                rw [h4']
                clear h4 h4'
                go_wp2_with fail
                go_roundw
                case rel => exact ⟨k + 1, by omega, by go_num, HN, below_up (by repeat (first | exact hbw | refine Below.alloc ?_ (by first | omega | (simp; omega)) _ | refine below_drewN' ?_ _ | refine Below.drew ?_)) hb1⟩
                case measure => simp [intOf]; omega
              · have h4' : (Nat.gcd x y == 1) = false := by simpa using h4
                have HF3 : Hid (sFault s = 3) := Lib.hid (sFault_form h1 (by rw [HG.out]; omega))
                have HF := Lib.hid (HBAD.out (by rw [HF3.out]; omega))
                rw [h4']
                clear h4 h4'
                go_wp2_with fail
                go_ret
                exact ⟨ret_int' (by rw [HF.out, HF3.out]), below_up (by repeat (first | exact hbw | refine Below.alloc ?_ (by first | omega | (simp; omega)) _ | refine below_drewN' ?_ _ | refine Below.drew ?_)) hb1⟩
            · have h3' : (decide (s.2.1 < s.2.2) || decide (1000 * s.2.2 < s.2.1)) = true := by simp; omega
              have HF3 : Hid (sFault s = 3) := Lib.hid (sFault_form h1 (by omega))
              have HF := Lib.hid (HBAD.out (by rw [HF3.out]; omega))
              rw [h3']
              go_wp2_with fail
              go_ret
              exact ⟨ret_int' (by rw [HF.out, HF3.out]), (by repeat (first | exact hbw | refine Below.alloc ?_ (by first | omega | (simp; omega)) _ | refine below_drewN' ?_ _ | refine Below.drew ?_))⟩
          · have h2' : (decide (s.2.2 < 1) || decide (1001 < s.2.2)) = true := by simp; omega
            have HF3 : Hid (sFault s = 3) := Lib.hid (sFault_form h1 (by omega))
            have HF := Lib.hid (HBAD.out (by rw [HF3.out]; omega))
            rw [h2']
            go_wp2_with fail
            go_ret
            exact ⟨ret_int' (by rw [HF.out, HF3.out]), (by repeat (first | exact hbw | refine Below.alloc ?_ (by first | omega | (simp; omega)) _ | refine below_drewN' ?_ _ | refine Below.drew ?_))⟩
        · have h1' : (decide (s.1 < 1) || decide (10000000 < s.1)) = true := by simp; omega
          have HF3 : Hid (sFault s = 1) := Lib.hid (sFault_arg h1)
          have HF := Lib.hid (HBAD.out (by rw [HF3.out]; omega))
          rw [h1']
          go_wp2_with fail
          go_ret
          exact ⟨ret_int' (by rw [HF.out, HF3.out]), (by repeat (first | exact hbw | refine Below.alloc ?_ (by first | omega | (simp; omega)) _ | refine below_drewN' ?_ _ | refine Below.drew ?_))⟩
      · have hv' : ∀ s ∈ v, sFault s = 0 := by have := hv.out; rwa [List.take_of_length_le (by omega)] at this
        obtain ⟨ha, hb⟩ := all_right hv'
        have HF := Lib.hid (vFault_good v (by omega) hv')
        have hsum := fsum_le v 10000000 fun s hs => (ha s hs).2
        clear hv'
        go_wp2_with fail
        refine (vframes_any _ _ _ v _ (hr.below hbw) hl (fun s hs => by have := ha s hs; omega) (by omega)).mono ?_
        rintro e w1 ⟨rfl, hb1⟩
        have hbw1 := below_up hbw hb1
        clear ha
        by_cases h2 : 10000000 < fsum v
        · clear hb
          go_wp2_with fail
          go_ret
          exact ⟨ret_int' (by rw [HF.out, if_pos (.inl h2)]), hbw1⟩
        · have h2' : decide (10000000 < fsum v) = false := by simpa using h2
          go_wp2_with fail
          refine (multiple_any _ _ _ v _ (hr.below hbw1) hl hb).mono ?_
          rintro e w2 ⟨rfl, hb2⟩
          clear hb
          by_cases h3 : 100000000 < multK v
          · go_wp2_with fail
            go_ret
            exact ⟨ret_int' (by rw [HF.out, if_pos (.inr h3)]), below_up hbw1 hb2⟩
          · go_wp2_with fail
            go_ret
            exact ⟨ret_int' (by rw [HF.out, if_neg (by omega)]), below_up hbw1 hb2⟩

/-- What FramesOf hands back. -/
def vfR (v : List St) : Int := if vFault v = 0 then fsum v else 0
theorem vfR_ok {v : List St} (h : vFault v = 0) : vfR v = fsum v := by simp [vfR, h]
theorem vfR_bad {v : List St} (h : ¬ vFault v = 0) : vfR v = 0 := by simp [vfR, h]

end Go.Proofs.YtlnencloodlnbaaDoor
