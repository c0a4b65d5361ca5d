/- The walks of slices.Clone, IndexFunc and ContainsFunc over integers, TimingsFault and the closure of Agreed. -/
import Derived.Test.YtlnencloodlnbaaDoorAg
import Derived.Test.YtlnencloodlnbaaDoorInpG
import Derived.Test.YtlnencloodlnbaaDoorStr
namespace Go.Proofs.YtlnencloodlnbaaDoor
open Go.RowKit

set_option maxHeartbeats 1000000 in
theorem cloneI_any (A : Option Addr) (c lo : Nat) (ps : List Int) (w : World) (hr : Row w lo 1 A ps.length (ints ps)) (hl : ps.length ≤ 1000000000) :
    Calls Tryd.prog 18 #[.slice A ps.length c] w fun e w' => ∃ A' c', e = .returned (.slice A' ps.length c') ∧ w'.ownsRow w.heap.size 3 1 (.slice A' ps.length c') ps.length (ints ps) ∧ Below w.heap.size w w' := by
  have hnil := fun (r : Option Addr) (n c : Nat) (w : World) => Lib.run_eql_slice_nil (P := Tryd.prog) w 22 3 r n c 0 0 Tryd.underlying22
  cases A with
  | none =>
    have hz : ps.length = 0 := by
      rcases Nat.eq_zero_or_pos ps.length with h | h
      · exact h
      · obtain ⟨b, off, h1, _⟩ := hr.2 h
        cases h1
    have HZ := Lib.hid hz
    clear hz
    go_enter Tryd.func18, Tryd.ntmps18
    go_wp2_with fail
    go_ret
    refine ⟨none, 0, ?_, ?_, Below.refl _ _⟩
    · rw [HZ.out]; rfl
    · have : ps = [] := List.eq_nil_of_length_eq_zero HZ.out
      subst this
      exact World.ownsRow_nil _ _ _ _
  | some ad =>
    have hown0 : (w.alloc (.cells #[] 3)).ownsRow w.heap.size 3 1 (.slice (some ⟨w.heap.size, 0, none⟩) 0 0) 0 [] := World.ownsRow_made w #[] 0 (Nat.le_refl _) (by simp [maxLen]) rfl
    go_enter Tryd.func18, Tryd.ntmps18
    go_wp2_with (at_builtin; go_must (refine wpList_app _ _ rfl _ _ ty_ints rfl hown0 rfl (hr.alloc _) rfl (ints_all _) (by omega) (by omega) (by simp) ?_))
    intro A5 c5 w5 hown5 hg5 _
    go_wp2_with fail
    go_ret
    exact ⟨A5, c5, by first | rfl | simp, hown5, below_app hown0 ((Below.refl _ _).alloc (Nat.le_refl _) _) hg5 (Nat.le_refl _) (by simp)⟩

def tmBad (n : Int) : Bool := decide (n < 0) || decide (864000000 < n)

set_option maxHeartbeats 400000 in
theorem agreed1_any (n : Int) (w : World) : Calls Tryd.prog 19 #[.int .i64 n] w fun e w' => e = .returned (.bool (tmBad n)) ∧ w = w' := by
  go_enter Tryd.func19, Tryd.ntmps19
  go_wp2_with fail
  refine (out_any _ _ _ _).mono ?_
  rintro e w' ⟨rfl, rfl⟩
  go_wp2_with fail
  go_ret
  exact ⟨rfl, rfl⟩

set_option maxHeartbeats 1000000 in
theorem indexFuncI_any (A : Option Addr) (c lo : Nat) (zs : List Int) (w : World) (hr : Row w lo 1 A zs.length (ints zs)) (hl : zs.length ≤ 1000000000) :
    Calls Tryd.prog 31 #[.slice A zs.length c, .func (.func 19) #[] #[]] w fun e w' => ∃ r : Int, e = .returned (.int .i64 r) ∧ (decide (0 ≤ r) = zs.any tmBad) ∧ w = w' := by
  go_enter Tryd.func31, Tryd.ntmps31
  go_wp2_with fail
  go_loop [8] (fun i => ∃ k : Nat, k ≤ zs.length ∧ i = .int .i64 k ∧ Hid ((zs.take k).any tmBad = false)) (fun i => zs.length - (intOf i).toNat)
  case atStart => exact ⟨0, Nat.zero_le _, rfl, Lib.hid (by simp)⟩
  case round =>
    obtain ⟨k, hk, rfl, hno⟩ := hrel
    by_cases hlt : k < zs.length
    · obtain ⟨b, off, rfl, _, hbs, c0⟩ := hr.int_at hlt
      have HT : Hid (zs.take (k + 1) = zs.take k ++ [zs[k]]) := Lib.hid (List.take_succ_eq_append_getElem hlt)
      have HM := Lib.hid (List.getElem_mem hlt)
      generalize zs[k] = z at *
      go_wp2_with fail
      refine (agreed1_any z _).mono ?_
      rintro e w' ⟨rfl, rfl⟩
      cases hp : tmBad z
      · have HP := Lib.hid hp
        clear hp
        go_wp2_with fail
        go_round
        case rel => exact ⟨k + 1, by omega, by go_num, Lib.hid (by rw [HT.out, List.any_append, hno.out]; simp [HP.out])⟩
        case measure => simp [intOf]; omega
      · have HP := Lib.hid hp
        clear hp
        go_wp2_with fail
        go_ret
        exact ⟨k, rfl, by rw [decide_eq_true (by omega)]; exact (List.any_eq_true.2 ⟨z, HM.out, HP.out⟩).symm, rfl⟩
    · have HN : Hid (zs.any tmBad = false) := Lib.hid (by have := hno.out; rwa [List.take_of_length_le (by omega)] at this)
      have hkk : k = zs.length := by omega
      subst hkk
      clear hno
      go_wp2_with fail
      go_ret
      exact ⟨-1, rfl, by rw [HN.out]; rfl, rfl⟩

set_option maxHeartbeats 400000 in
theorem containsFuncI_any (A : Option Addr) (c lo : Nat) (zs : List Int) (w : World) (hr : Row w lo 1 A zs.length (ints zs)) (hl : zs.length ≤ 1000000000) :
    Calls Tryd.prog 17 #[.slice A zs.length c, .func (.func 19) #[] #[]] w fun e w' => e = .returned (.bool (zs.any tmBad)) ∧ w = w' := by
  go_enter Tryd.func17, Tryd.ntmps17
  go_wp2_with fail
  refine (indexFuncI_any A c lo zs _ hr hl).mono ?_
  rintro e w' ⟨r, rfl, h, rfl⟩
  have H := Lib.hid h
  clear h
  go_wp2_with fail
  go_ret
  exact ⟨ret_bool' H.out, rfl⟩

set_option maxHeartbeats 1000000 in
theorem timingsFault_any (A : Option Addr) (c lo : Nat) (l : List Int) (within : Int) (w : World) (hr : Row w lo 1 A l.length (ints l)) (hl : l.length ≤ 1000000000) :
    Calls Tryd.prog 7 #[.slice A l.length c, .int .i64 within] w fun e w' => e = .returned (.int .i64 (tmF l within)) ∧ w = w' := by
  by_cases h0 : l.length = 0
  · have HF := Lib.hid (tmF_none (within := within) h0)
    have h0' : ((l.length : Int) == 0) = true := by simp [h0]
    clear h0
    go_enter Tryd.func7, Tryd.ntmps7
    go_wp2_with fail
    go_ret
    exact ⟨ret_int' HF.out.symm, rfl⟩
  · have h0' : ((l.length : Int) == 0) = false := by rw [beq_eq_false_iff_ne]; omega
    by_cases h5 : 50 < l.length
    · have HF := Lib.hid (tmF_large (within := within) h5)
      clear h0
      go_enter Tryd.func7, Tryd.ntmps7
      go_wp2_with fail
      go_ret
      exact ⟨ret_int' HF.out.symm, rfl⟩
    · have HOK := Lib.hid (tmF_ok (within := within) h0 h5)
      have HAR := Lib.hid (tmF_arg (within := within) h0 h5)
      clear h0
      go_enter Tryd.func7, Tryd.ntmps7
      go_wp2_with fail
      clear h0'
      go_loop [18] (fun i => ∃ k : Nat, k ≤ l.length ∧ i = .int .i64 k ∧ Hid (∀ x ∈ l.take k, 0 ≤ x ∧ x ≤ 864000000)) (fun i => l.length - (intOf i).toNat)
      case atStart => exact ⟨0, Nat.zero_le _, rfl, Lib.hid (by simp)⟩
      case round =>
        obtain ⟨k, hk, rfl, hall⟩ := hrel
        by_cases hlt : k < l.length
        · obtain ⟨b, off, rfl, _, hbs, c0⟩ := hr.int_at hlt
          have HT : Hid (l.take (k + 1) = l.take k ++ [l[k]]) := Lib.hid (List.take_succ_eq_append_getElem hlt)
          have HM := Lib.hid (List.getElem_mem hlt)
          generalize l[k] = z at *
          go_wp2_with fail
          refine (span_any _ _ _ _).mono ?_
          rintro e w' ⟨rfl, rfl⟩
          by_cases hz : 0 ≤ z ∧ z ≤ 864000000
          · rw [span_ok hz]
            have HZ := Lib.hid hz
            clear hz
            go_wp2_with fail
            go_round
            case rel => exact ⟨k + 1, by omega, by go_num, Lib.hid (by
              intro x hx
              rw [HT.out] at hx
              rcases List.mem_append.1 hx with hx | hx
              · exact hall.out x hx
              · simp at hx; subst hx; exact HZ.out)⟩
            case measure => simp [intOf]; omega
          · rw [span_bad hz]
            have HF : Hid (tmF l within = 1) := Lib.hid (HAR.out fun h => hz (h.1 z HM.out))
            clear hz
            go_wp2_with fail
            go_ret
            exact ⟨ret_int' HF.out.symm, rfl⟩
        · have HA : Hid (∀ x ∈ l, 0 ≤ x ∧ x ≤ 864000000) := Lib.hid (by have := hall.out; rwa [List.take_of_length_le (by omega)] at this)
          have hkk : k = l.length := by omega
          subst hkk
          clear hall
          go_wp2_with fail
          refine (span_any _ _ _ _).mono ?_
          rintro e w' ⟨rfl, rfl⟩
          have HF : Hid (spanFault within 0 864000000 = tmF l within) := Lib.hid (by
            by_cases hz : 0 ≤ within ∧ within ≤ 864000000
            · rw [span_ok hz, HOK.out ⟨HA.out, hz⟩]
            · rw [span_bad hz, HAR.out fun h => hz h.2])
          go_wp2_with fail
          go_ret
          exact ⟨ret_int' HF.out, rfl⟩
end Go.Proofs.YtlnencloodlnbaaDoor
