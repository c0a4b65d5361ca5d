/- The walks of FrameSeen and FrameAt. -/
import Derived.Test.YtgkjpcapoofphaaEvFb
namespace Go.Proofs.Ytgkjpcapoofphaa
open Go.RowKit

set_option maxHeartbeats 1000000 in
theorem frameSeen_any (lo c : Nat) (A : Option Addr) (v : List St) (time : Int) (w : World) (hr : Row w lo 3 A v.length (trs v)) (hg : Good v) (ht : 0 ≤ time) (ht' : time ≤ 864000000) :
    Calls Try.prog 32 #[.slice A v.length c, .int .i64 time] w fun e w' => e = .returned (.int .i64 (seenR v (seenL v time))) ∧ Below w.heap.size w w' := by
  have hlen := hg.len
  have HG := Lib.hid hg
  have s0 := fsum_nonneg v hg.nonneg
  have s1 := hg.sum
  have HF := Lib.hid fun s (hs : s ∈ v) => by have := hg.form s hs; exact (⟨by omega, by omega⟩ : 1 ≤ s.2.1 ∧ s.2.1 ≤ 1001000)
  have HL0 : Hid (0 ≤ seenL v time) := Lib.hid ((seenL_iff v time 0).2 (by have := Int.mul_nonneg ht (show 0 ≤ multK v by have := hg.mbd; omega); omega))
  have hmf : ∀ (fn : Fn) (first cap : Array Value) (w : World), (Instr.makeFunc fn first cap).run Try.prog w = .ok (.func fn first cap) w := fun _ _ _ _ => rfl
  clear hg
  go_enter Try.func32, Try.ntmps32
  go_wp2_with fail
  have kb1 := (Blk.new w 46 #[.slice A v.length c]).alloc (.cells #[.int .i64 time] 3)
  have kb3 := Blk.new (w.alloc (.cells #[.slice A v.length c] 46)) 3 #[.int .i64 time]
  have hr0 := (hr.alloc (.cells #[.slice A v.length c] 46)).alloc (.cells #[.int .i64 time] 3)
  refine (common_any _ _ _ v _ hr0 (by omega) HF.out).mono ?_
  rintro e w1 ⟨rfl, hb1⟩
  have kb1' := (kb1.below hb1).alloc (.cells #[.int .i64 (multK v)] 3)
  have kb3' := (kb3.below hb1).alloc (.cells #[.int .i64 (multK v)] 3)
  have kb2' := Blk.new w1 3 #[.int .i64 (multK v)]
  have hr1 := Row.alloc (Row.below hr0 hb1) (.cells #[.int .i64 (multK v)] 3)
  have hx1 : Below w.heap.size w w1 := below_up (((Below.refl _ _).alloc (Nat.le_refl _) _).alloc (by simp) _) hb1
  clear kb1 kb3 hb1 hr0
  have zx := hx1.size
  have cl : (w1.alloc (.cells #[.int .i64 (multK v)] 3)).cell? ⟨w.heap.size, 0, none⟩ = some (.slice A v.length c) := kb1'.cell 0
  go_wp2_with fail
  clear cl
  refine (framesIn_any _ _ _ v _ hr1 (by omega) HG.out.nonneg (by omega)).mono ?_
  rintro e w2 ⟨rfl, hb2⟩
  have kb3'' : Blk (w1.alloc (.cells #[.int .i64 (multK v)] 3)) (w.heap.size + 1) 3 #[.int .i64 time] := by simpa using kb3'
  have hcap : Cap w2 w.heap.size w1.heap.size (w.heap.size + 1) lo c A v time := ⟨hr1.below hb2, kb1'.below hb2, kb2'.below hb2, kb3''.below hb2⟩
  have hx2 : Below w.heap.size w w2 := below_up (by repeat (first | exact hx1 | refine Below.alloc ?_ (by first | omega | (simp; omega)) _ | refine below_drewN' ?_ _ | refine Below.drew ?_)) hb2
  clear hb2 kb1' kb2' kb3' kb3'' hr1 hx1
  go_wp2_with fail
  refine (begun_any _ _ _ lo c A v time _ _ hcap HG.out ht ht' s0 (by omega)).mono ?_
  rintro e w3 ⟨rfl, hb3⟩
  have hcap3 := hcap.below hb3
  have hx3 := below_up hx2 hb3
  clear hb3 hx2 hcap
  by_cases h0 : begM v (fsum v) ≤ seenL v time
  · have h0' : decide (begM v (fsum v) ≤ seenL v time) = true := by simpa using h0
    have HS := Lib.hid (Seen.eq HG.out (.inl ⟨rfl, h0⟩))
    clear h0
    go_wp2_with fail
    go_ret
    exact ⟨ret_int' HS.out.symm, hx3⟩
  · have h0' : decide (begM v (fsum v) ≤ seenL v time) = false := by simpa using h0
    have HH : Hid (seenL v time < begM v (fsum v)) := Lib.hid (by omega)
    have hpos : 0 < fsum v := by
      rcases Int.lt_or_le 0 (fsum v) with h | h
      · exact h
      · exfalso
        have h1 : fsum v = 0 := by omega
        rw [h1, begM_zero HG.out] at h0
        exact h0 HL0.out
    have HB0 : Hid (begM v 0 ≤ seenL v time) := Lib.hid (by rw [begM_zero HG.out]; exact HL0.out)
    clear h0
    go_wp2_with fail
    go_loopw [7, 8, 9] (fun a b _ wr => ∃ l h : Int, a = .int .i64 l ∧ b = .int .i64 h ∧ 0 ≤ l ∧ l < h ∧ h ≤ fsum v ∧ Hid (begM v l ≤ seenL v time) ∧ Hid (seenL v time < begM v h) ∧ Cap wr w.heap.size w1.heap.size (w.heap.size + 1) lo c A v time ∧ Below w.heap.size w wr) (fun a b _ _ => (intOf b - intOf a).toNat)
    case atStart => exact ⟨0, fsum v, rfl, rfl, by omega, hpos, by omega, HB0, HH, hcap3, hx3⟩
    case round =>
      obtain ⟨l, h, rfl, rfl, l0, lh, hF, HL, HU, hcr, hxr⟩ := hrel
      by_cases hlt : l < h - 1
      · go_wp2_with fail
        refine (begun_any _ _ _ lo c A v time _ _ hcr HG.out ht ht' (by omega) (by omega)).mono ?_
        rintro e w4 ⟨rfl, hb4⟩
        have hc4 := hcr.below hb4
        have hx4 := below_up hxr hb4
        clear hb4
        by_cases hm : begM v ((l + h) / 2) ≤ seenL v time
        · have hm' : decide (begM v ((l + h) / 2) ≤ seenL v time) = true := by simpa using hm
          have HM := Lib.hid hm
          clear hm
          go_wp2_with fail
          go_roundw
          case rel => exact ⟨(l + h) / 2, h, rfl, rfl, by omega, by omega, hF, HM, HU, hc4, hx4⟩
          case measure => simp [intOf]; omega
        · have hm' : decide (begM v ((l + h) / 2) ≤ seenL v time) = false := by simpa using hm
          have HM : Hid (seenL v time < begM v ((l + h) / 2)) := Lib.hid (by omega)
          clear hm
          go_wp2_with fail
          go_roundw
          case rel => exact ⟨l, (l + h) / 2, rfl, rfl, by omega, by omega, by omega, HL, HM, hc4, hx4⟩
          case measure => simp [intOf]; omega
      · have eh : h = l + 1 := by omega
        subst eh
        have HS := Lib.hid (Seen.eq HG.out (.inr ⟨l0, by omega, HL.out, HU.out⟩))
        go_wp2_with fail
        go_ret
        exact ⟨ret_int' HS.out.symm, hxr⟩

/-- What FrameAt hands back. -/
def faE (v : List St) (time : Int) : Int := if vFault v = 0 then spanFault time 0 864000000 else vFault v
noncomputable def faR (v : List St) (time : Int) : Int := if vFault v = 0 ∧ spanFault time 0 864000000 = 0 then seenR v (seenL v time) else -1
theorem fa_bad {v : List St} {time : Int} (h : ¬ vFault v = 0) : faE v time = vFault v ∧ faR v time = -1 := by simp [faE, faR, h]
theorem fa_span {v : List St} {time : Int} (h : vFault v = 0) (h' : ¬ (0 ≤ time ∧ time ≤ 864000000)) : faE v time = 1 ∧ faR v time = -1 := by
  have := span_bad h'
  simp [faE, faR, h, this]
theorem fa_ok {v : List St} {time : Int} (h : vFault v = 0) (h' : 0 ≤ time ∧ time ≤ 864000000) : faE v time = 0 ∧ faR v time = seenR v (seenL v time) := by
  have := span_ok h'
  simp [faE, faR, h, this]
end Go.Proofs.Ytgkjpcapoofphaa
