/- The walks of what checks a video: greatest common divisors, multiples, frames, CheckVideo and its reference. -/
import Derived.Test.YtlnencloodlnbaaDoorEv
import Derived.Test.YtlnencloodlnbaaDoorInpG
namespace Go.Proofs.YtlnencloodlnbaaDoor
open Go.RowKit

set_option maxHeartbeats 400000 in
theorem gcd_any (x y : Nat) (w : World) (hx : x ≤ 9223372036854775807) (hy : y ≤ 9223372036854775807) :
    Calls Tryd.prog 77 #[.int .i64 x, .int .i64 y] w fun e w' => e = .returned (.int .i64 (Nat.gcd x y : Int)) ∧ ∃ q, w' = w.drewN q := by
  go_enter Tryd.func77, Tryd.ntmps77
  go_wp2_with fail
  go_loopw [0, 1] (fun a b wr => ∃ (p r q : Nat), a = .int .i64 p ∧ b = .int .i64 r ∧ p ≤ 9223372036854775807 ∧ r ≤ 9223372036854775807 ∧ Hid (Nat.gcd p r = Nat.gcd x y) ∧ wr = w.drewN q) (fun _ b _ => (intOf b).toNat)
  case atStart => exact ⟨x, y, 0, rfl, rfl, hx, hy, Lib.hid rfl, rfl⟩
  case round =>
    obtain ⟨p, r, q, rfl, rfl, hp, hr, hg, rfl⟩ := hrel
    by_cases h0 : r = 0
    · have h0' : ((r : Int) != 0) = false := by simp [h0]
      have HG : Hid (p = Nat.gcd x y) := Lib.hid (by rw [← hg.out, h0, Nat.gcd_zero_right])
      clear h0
      go_wp2_with fail
      go_ret
      exact ⟨ret_int' (by rw [← HG.out]), _, rfl⟩
    · have h0' : ((r : Int) != 0) = true := by simp; omega
      have h0'' : ((r : Int) == 0) = false := by simp; omega
      have HG : Hid (Nat.gcd r (p % r) = Nat.gcd x y) := Lib.hid (by rw [← hg.out, Nat.gcd_comm r (p % r), ← Nat.gcd_rec r p, Nat.gcd_comm])
      have hm : p % r < r := Nat.mod_lt _ (by omega)
      have hr1 : 1 ≤ (r : Int) := by omega
      go_wp2_with fail
      go_quiet (fail)
      go_wp2_with fail
      go_roundw
      case rel => exact ⟨r, p % r, _, rfl, by simp, hr, by omega, HG, World.drewN_drewN _ _ _⟩
      case measure => simp [intOf]; omega

set_option maxHeartbeats 400000 in
theorem lowest_any (x y : Nat) (w : World) (hx : x ≤ 9223372036854775807) (hy : y ≤ 9223372036854775807) :
    Calls Tryd.prog 76 #[.agg #[.int .i64 x, .int .i64 y]] w fun e w' => e = .returned (.bool (Nat.gcd x y == 1)) ∧ Below w.heap.size w w' := by
  go_enter Tryd.func76, Tryd.ntmps76
  go_wp2_with fail
  go_quiet (fail)
  go_wp2_with fail
  go_loopw [3, 4] (fun a b wr => ∃ (p r : Nat), a = .int .u64 p ∧ b = .int .u64 r ∧ p ≤ 9223372036854775807 ∧ r ≤ 9223372036854775807 ∧ Hid (Nat.gcd p r = Nat.gcd x y) ∧ Below w.heap.size w wr) (fun _ b _ => (intOf b).toNat)
  case atStart => exact ⟨x, y, rfl, rfl, hx, hy, Lib.hid rfl, below_drewN' ((Below.refl _ _).alloc (Nat.le_refl _) _) _⟩
  case round =>
    obtain ⟨p, r, rfl, rfl, hp, hr, hg, hbw⟩ := hrel
    by_cases h0 : r = 0
    · have h0' : ((r : Int) != 0) = false := by simp [h0]
      have HG : Hid (p = Nat.gcd x y) := Lib.hid (by rw [← hg.out, h0, Nat.gcd_zero_right])
      clear h0
      go_wp2_with fail
      go_ret
      refine ⟨ret_bool' ?_, hbw⟩
      rw [← HG.out, Bool.eq_iff_iff]
      simp
      omega
    · have h0' : ((r : Int) != 0) = true := by simp; omega
      have h0'' : ((r : Int) == 0) = false := by simp; omega
      have HG : Hid (Nat.gcd r (p % r) = Nat.gcd x y) := Lib.hid (by rw [← hg.out, Nat.gcd_comm r (p % r), ← Nat.gcd_rec r p, Nat.gcd_comm])
      have hm : p % r < r := Nat.mod_lt _ (by omega)
      have hr1 : 1 ≤ (r : Int) := by omega
      go_wp2_with fail
      go_quiet (fail)
      go_wp2_with fail
      go_roundw
      case rel => exact ⟨r, p % r, rfl, by simp, hr, by omega, HG, below_drewN' hbw _⟩
      case measure => simp [intOf]; omega

set_option maxHeartbeats 1000000 in
theorem multiple_any (A : Option Addr) (c lo : Nat) (v : List St) (w : World) (hr : Row w lo 3 A v.length (trs v)) (hl : v.length ≤ 1000000000) (hf : ∀ s ∈ v, 1 ≤ s.2.1 ∧ s.2.1 ≤ 1001000) :
    Calls Tryd.prog 64 #[.slice A v.length c] w fun e w' => e = .returned (.int .i64 (multK v)) ∧ Below w.heap.size w w' := by
  have HF := Lib.hid hf
  clear hf
  go_enter Tryd.func64, Tryd.ntmps64
  go_wp2_with fail
  go_loopw [3, 8] (fun n i wr => ∃ k : Nat, k ≤ v.length ∧ i = .int .i64 k ∧ n = .int .i64 (multK (v.take k)) ∧ Below w.heap.size w wr) (fun _ i _ => v.length - (intOf i).toNat)
  case atStart => exact ⟨0, Nat.zero_le _, rfl, rfl, Below.refl _ _⟩
  case round =>
    obtain ⟨k, hk, rfl, rfl, hbw⟩ := hrel
    by_cases hlt : k < v.length
    · obtain ⟨b, off, rfl, _, hbs, c0, c1, c2⟩ := (hr.below hbw).tr_at hlt
      have HT := Lib.hid (multK_take v k hlt)
      obtain ⟨m1, m2⟩ := multK_bd (v.take k) fun s hs => HF.out s (List.mem_of_mem_take hs)
      obtain ⟨n1, n2⟩ := HF.out v[k] (List.getElem_mem _)
      have hbd := mstep_bd m1 m2 n1 n2
      generalize multK (v.take k) = M at *
      obtain ⟨x, rfl⟩ := Int.eq_ofNat_of_zero_le (show 0 ≤ M by omega)
      obtain ⟨y, hy⟩ := Int.eq_ofNat_of_zero_le (show 0 ≤ v[k].2.1 by omega)
      rw [hy] at c1 n1 n2
      by_cases hx : x ≤ 100000000
      · have HE : Hid (mstep x v[k] = (x : Int) / (Nat.gcd x y : Int) * (y : Int)) := Lib.hid (by
          unfold mstep gcdI
          rw [if_pos (by omega), hy, Int.toNat_natCast, Int.toNat_natCast])
        rw [HE.out] at hbd
        obtain ⟨b1, b2⟩ := hbd
        have g1 : 1 ≤ Nat.gcd x y := Nat.gcd_pos_of_pos_left _ (by omega)
        have g1' : (1 : Int) ≤ (Nat.gcd x y : Int) := by omega
        have g0 : ((Nat.gcd x y : Int) == 0) = false := by simp; omega
        have q0 : 0 ≤ (x : Int) / (Nat.gcd x y : Int) := Int.ediv_nonneg (by omega) (by omega)
        have q1 : (x : Int) / (Nat.gcd x y : Int) ≤ (x : Int) := Int.ediv_le_self _ (by omega)
        have wr1 : IntKind.i64.wrap ((x : Int) / (Nat.gcd x y : Int)) = (x : Int) / (Nat.gcd x y : Int) := IntWalk.i64_in _ ⟨by omega, by omega⟩
        have wr2 : IntKind.i64.wrap ((x : Int) / (Nat.gcd x y : Int) * (y : Int)) = (x : Int) / (Nat.gcd x y : Int) * (y : Int) := IntWalk.i64_in _ ⟨by omega, by omega⟩
        clear hy
        go_wp2_with fail
        go_quiet ((go_at_call 77; exact Calls.quiet_of (gcd_any x y _ (by omega) (by omega))))
        clear wr1 wr2
        go_wp2_with fail
        go_roundw
        case rel => exact ⟨k + 1, by omega, by go_num, by rw [HT.out, HE.out], below_drewN' (hbw.alloc hbw.size _) _⟩
        case measure => simp [intOf]; omega
      · have HE : Hid (mstep x v[k] = x) := Lib.hid (mstep_mono (by omega))
        clear hbd hy
        go_wp2_with fail
        go_roundw
        case rel => exact ⟨k + 1, by omega, by go_num, by rw [HT.out, HE.out], hbw.alloc hbw.size _⟩
        case measure => simp [intOf]; omega
    · go_wp2_with fail
      go_ret
      exact ⟨ret_int' (by rw [List.take_of_length_le (by omega)]), hbw⟩

set_option maxHeartbeats 400000 in
theorem vframes_any (A : Option Addr) (c lo : Nat) (v : List St) (w : World) (hr : Row w lo 3 A v.length (trs v)) (hl : v.length ≤ 1000000000) (hb : ∀ s ∈ v, 0 ≤ s.1) (hs : fsum v ≤ 1000000000000000) :
    Calls Tryd.prog 62 #[.slice A v.length c] w fun e w' => e = .returned (.int .i64 (fsum v)) ∧ Below w.heap.size w w' := by
  go_enter Tryd.func62, Tryd.ntmps62
  go_wp2_with fail
  go_loopw [3, 8] (fun n i wr => ∃ k : Nat, k ≤ v.length ∧ i = .int .i64 k ∧ n = .int .i64 (fsum (v.take k)) ∧ Below w.heap.size w wr) (fun _ i _ => v.length - (intOf i).toNat)
  case atStart => exact ⟨0, Nat.zero_le _, rfl, rfl, Below.refl _ _⟩
  case round =>
    obtain ⟨k, hk, rfl, rfl, hbw⟩ := hrel
    by_cases hlt : k < v.length
    · obtain ⟨b, off, rfl, _, hbs, c0, c1, c2⟩ := (hr.below hbw).tr_at hlt
      have ht := fsum_take v k hlt
      have h1 := fsum_take_le v k hb
      have h2 := fsum_take_le v (k + 1) hb
      have HT := Lib.hid ht
      rw [ht] at h2
      clear ht
      go_wp2_with fail
      go_roundw
      case rel => exact ⟨k + 1, by omega, by go_num, by rw [HT.out], hbw.alloc hbw.size _⟩
      case measure => simp [intOf]; omega
    · go_wp2_with fail
      go_ret
      exact ⟨ret_int' (by rw [List.take_of_length_le (by omega)]), hbw⟩

end Go.Proofs.YtlnencloodlnbaaDoor
