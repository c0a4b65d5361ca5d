/- The walks of what checks an input: bounds, frames, CheckInput and its reference. -/
import Derived.Test.YtgkjpcapoofphaaInp
import Derived.Test.YtgkjpcapoofphaaPieces
namespace Go.Proofs.Ytgkjpcapoofphaa
open Go.RowKit

set_option maxHeartbeats 400000 in
theorem out_any (n lo hi : Int) (w : World) :
    Calls Try.prog 61 #[.int .i64 n, .int .i64 lo, .int .i64 hi] w fun e w' => e = .returned (.bool (decide (n < lo) || decide (hi < n))) ∧ w = w' := by
  by_cases h : n < lo
  · go_enter Try.func61, Try.ntmps61
    go_wp2
    go_ret
    exact ⟨by simp [h], rfl⟩
  · have h' : decide (n < lo) = false := by simpa using h
    go_enter Try.func61, Try.ntmps61
    go_wp2
    go_ret
    exact ⟨by simp [h'], rfl⟩

set_option maxHeartbeats 400000 in
theorem in_any (n lo hi : Int) (w : World) :
    Calls Try.prog 60 #[.int .i64 n, .int .i64 lo, .int .i64 hi] w fun e w' => e = .returned (.bool (decide (lo ≤ n) && decide (n ≤ hi))) ∧ w = w' := by
  by_cases h : lo ≤ n
  · go_enter Try.func60, Try.ntmps60
    go_wp2
    go_ret
    exact ⟨by simp [h], rfl⟩
  · have h' : decide (lo ≤ n) = false := by simpa using h
    go_enter Try.func60, Try.ntmps60
    go_wp2
    go_ret
    exact ⟨by simp [h'], rfl⟩

/-- The fault of a number out of its span. -/
def spanFault (n lo hi : Int) : Int := if lo ≤ n ∧ n ≤ hi then 0 else 1

set_option maxHeartbeats 400000 in
theorem span_any (n lo hi : Int) (w : World) :
    Calls Try.prog 19 #[.int .i64 n, .int .i64 lo, .int .i64 hi] w fun e w' => e = .returned (.int .i64 (spanFault n lo hi)) ∧ w = w' := by
  go_enter Try.func19, Try.ntmps19
  go_wp2_with fail
  refine (in_any _ _ _ _).mono ?_
  rintro e w' ⟨rfl, rfl⟩
  by_cases h : lo ≤ n ∧ n ≤ hi
  · have h' : (decide (lo ≤ n) && decide (n ≤ hi)) = true := by simpa using h
    rw [h']
    go_wp2_with fail
    go_ret
    exact ⟨ret_int' (by simp [spanFault, h]), rfl⟩
  · have h' : (decide (lo ≤ n) && decide (n ≤ hi)) = false := by simpa using h
    rw [h']
    go_wp2_with fail
    go_ret
    exact ⟨ret_int' (by simp only [spanFault, h, if_false]), rfl⟩

set_option maxHeartbeats 400000 in
theorem frames_any (A : Option Addr) (c lo : Nat) (ps : List (Int × Int)) (w : World) (hr : Row w lo 2 A ps.length (prs ps)) (hl : ps.length ≤ 1000000000) (hb : ∀ p ∈ ps, 0 ≤ p.2) (hs : psum ps ≤ 1000000000000000) :
    Calls Try.prog 62 #[.slice A ps.length c] w fun e w' => e = .returned (.int .i64 (psum ps)) ∧ Below w.heap.size w w' := by
  go_enter Try.func62, Try.ntmps62
  go_wp2
  go_loopw [3, 8] (fun n i wr => ∃ k : Nat, k ≤ ps.length ∧ i = .int .i64 k ∧ n = .int .i64 (psum (ps.take k)) ∧ Below w.heap.size w wr) (fun _ i _ => ps.length - (intOf i).toNat)
  case atStart => exact ⟨0, Nat.zero_le _, rfl, rfl, Below.refl _ _⟩
  case round =>
    obtain ⟨k, hk, rfl, rfl, hbw⟩ := hrel
    by_cases hlt : k < ps.length
    · obtain ⟨b, off, rfl, _, hbs, c0, c1⟩ := (hr.below hbw).pr_at hlt
      have ht := psum_take ps k hlt
      have h1 := psum_take_le ps k hb
      have h2 := psum_take_le ps (k + 1) hb
      have HT := Lib.hid ht
      rw [ht] at h2
      clear ht
      go_wp2
      go_roundw
      case rel => exact ⟨k + 1, by omega, by go_num, by rw [HT.out], hbw.alloc hbw.size _⟩
      case measure => simp [intOf]; omega
    · go_wp2
      go_ret
      exact ⟨ret_int' (by rw [List.take_of_length_le (by omega)]), hbw⟩

set_option maxHeartbeats 1000000 in
theorem checkInput_any (A : Option Addr) (c lo : Nat) (ps : List (Int × Int)) (w : World) (hr : Row w lo 2 A ps.length (prs ps)) (hl : ps.length ≤ 1000000000) :
    Calls Try.prog 10 #[.slice A ps.length c] w fun e w' => e = .returned (.int .i64 (inFault ps)) ∧ Below w.heap.size w w' := by
  by_cases hlong : 5000 < ps.length
  · have HF := Lib.hid (inFault_long ps hlong)
    go_enter Try.func10, Try.ntmps10
    go_wp2_with fail
    go_ret
    exact ⟨ret_int' HF.out.symm, Below.refl _ _⟩
  · go_enter Try.func10, Try.ntmps10
    go_wp2_with fail
    go_loopw [10] (fun i wr => ∃ k : Nat, k ≤ ps.length ∧ i = .int .i64 k ∧ Hid (∀ p ∈ ps.take k, vld p = true) ∧ Below w.heap.size w wr) (fun i _ => ps.length - (intOf i).toNat)
    case atStart => exact ⟨0, Nat.zero_le _, rfl, Lib.hid (by simp), Below.refl _ _⟩
    case round =>
      obtain ⟨k, hk, rfl, hv, hbw⟩ := hrel
      by_cases hlt : k < ps.length
      · obtain ⟨b, off, rfl, _, hbs, c0, c1⟩ := (hr.below hbw).pr_at hlt
        go_wp2_with fail
        refine (out_any _ _ _ _).mono ?_
        rintro e w1 ⟨rfl, rfl⟩
        by_cases h1 : 0 ≤ ps[k].1 ∧ ps[k].1 ≤ 63
        · have h1' : (decide (ps[k].1 < 0) || decide (63 < ps[k].1)) = false := by simp; omega
          rw [h1']
          go_wp2_with fail
          refine (out_any _ _ _ _).mono ?_
          rintro e w1 ⟨rfl, rfl⟩
          by_cases h2 : 1 ≤ ps[k].2 ∧ ps[k].2 ≤ 200000
          · have h2' : (decide (ps[k].2 < 1) || decide (200000 < ps[k].2)) = false := by simp; omega
            have HV := Lib.hid (take_all_vld hv.out hlt ((vld_iff _).2 ⟨h1.1, h1.2, h2.1, h2.2⟩))
            rw [h2']
            go_wp2_with fail
            go_roundw
            case rel => exact ⟨k + 1, by omega, by go_num, HV, hbw.alloc hbw.size _⟩
            case measure => simp [intOf]; omega
          · have h2' : (decide (ps[k].2 < 1) || decide (200000 < ps[k].2)) = true := by simp; omega
            have HF := Lib.hid (inFault_bad ps k (by omega) hlt (by rw [Bool.eq_false_iff]; intro h; rw [vld_iff] at h; omega))
            rw [h2']
            go_wp2_with fail
            go_ret
            exact ⟨ret_int' HF.out.symm, hbw.alloc hbw.size _⟩
        · have h1' : (decide (ps[k].1 < 0) || decide (63 < ps[k].1)) = true := by simp; omega
          have HF := Lib.hid (inFault_bad ps k (by omega) hlt (by rw [Bool.eq_false_iff]; intro h; rw [vld_iff] at h; omega))
          rw [h1']
          go_wp2_with fail
          go_ret
          exact ⟨ret_int' HF.out.symm, hbw.alloc hbw.size _⟩
      · have hv' : ∀ p ∈ ps, vld p = true := by have := hv.out; rwa [List.take_of_length_le (by omega)] at this
        have hp : ∀ p ∈ ps, 0 ≤ p.2 ∧ p.2 ≤ 200000 := fun p hp => by have := (vld_iff p).1 (hv' p hp); omega
        have HF := Lib.hid (inFault_good ps (by omega) hv')
        have hs := psum_le ps 200000 (by omega) fun p h => (hp p h).2
        clear hv'
        go_wp2_with fail
        refine (frames_any _ _ _ ps _ (hr.below hbw) hl (fun p h => (hp p h).1) (by omega)).mono ?_
        rintro e w1 ⟨rfl, hb1⟩
        clear hp
        by_cases h2 : 200000 < psum ps
        · go_wp2_with fail
          go_ret
          exact ⟨ret_int' (by rw [HF.out, if_pos h2]), below_up hbw hb1⟩
        · go_wp2_with fail
          go_ret
          exact ⟨ret_int' (by rw [HF.out, if_neg (by omega)]), below_up hbw hb1⟩

set_option maxHeartbeats 1000000 in
theorem inputFault_any (A : Option Addr) (c lo : Nat) (ps : List (Int × Int)) (w : World) (hr : Row w lo 2 A ps.length (prs ps)) (hl : ps.length ≤ 1000000000) :
    Calls Try.prog 9 #[.slice A ps.length c] w fun e w' => e = .returned (.int .i64 (inFault ps)) ∧ Below w.heap.size w w' := by
  by_cases hlong : 5000 < ps.length
  · have HF := Lib.hid (inFault_long ps hlong)
    go_enter Try.func9, Try.ntmps9
    go_wp2_with fail
    go_ret
    exact ⟨ret_int' HF.out.symm, Below.refl _ _⟩
  · go_enter Try.func9, Try.ntmps9
    go_wp2_with fail
    go_loopw [3, 11] (fun n i wr => ∃ k : Nat, k ≤ ps.length ∧ i = .int .i64 k ∧ n = .int .i64 (psum (ps.take k)) ∧ 0 ≤ psum (ps.take k) ∧ psum (ps.take k) ≤ 200000 * k ∧ Hid (∀ p ∈ ps.take k, vld p = true) ∧ Below w.heap.size w wr) (fun _ i _ => ps.length - (intOf i).toNat)
    case atStart => exact ⟨0, Nat.zero_le _, rfl, rfl, by simp [psum], by simp [psum], Lib.hid (by simp), Below.refl _ _⟩
    case round =>
      obtain ⟨k, hk, rfl, rfl, hs0, hs1, hv, hbw⟩ := hrel
      by_cases hlt : k < ps.length
      · obtain ⟨b, off, rfl, _, hbs, c0, c1⟩ := (hr.below hbw).pr_at hlt
        go_wp2_with fail
        refine (in_any _ _ _ _).mono ?_
        rintro e w1 ⟨rfl, rfl⟩
        by_cases h1 : 0 ≤ ps[k].1 ∧ ps[k].1 ≤ 63
        · have h1' : (decide (0 ≤ ps[k].1) && decide (ps[k].1 ≤ 63)) = true := by simp; omega
          rw [h1']
          go_wp2_with fail
          refine (in_any _ _ _ _).mono ?_
          rintro e w1 ⟨rfl, rfl⟩
          by_cases h2 : 1 ≤ ps[k].2 ∧ ps[k].2 ≤ 200000
          · have h2' : (decide (1 ≤ ps[k].2) && decide (ps[k].2 ≤ 200000)) = true := by simp; omega
            have HV := Lib.hid (take_all_vld hv.out hlt ((vld_iff _).2 ⟨h1.1, h1.2, h2.1, h2.2⟩))
            have HT := Lib.hid (psum_take ps k hlt)
            rw [h2']
            obtain ⟨h21, h22⟩ := h2
            go_wp2_with fail
            go_roundw
            case rel => exact ⟨k + 1, by omega, by go_num, by rw [HT.out], by rw [HT.out]; omega, by rw [HT.out]; omega, HV, hbw.alloc hbw.size _⟩
            case measure => simp [intOf]; omega
          · have h2' : (decide (1 ≤ ps[k].2) && decide (ps[k].2 ≤ 200000)) = false := by simp; omega
            have HF := Lib.hid (inFault_bad ps k (by omega) hlt (by rw [Bool.eq_false_iff]; intro h; rw [vld_iff] at h; omega))
            rw [h2']
            go_wp2_with fail
            go_ret
            exact ⟨ret_int' HF.out.symm, hbw.alloc hbw.size _⟩
        · have h1' : (decide (0 ≤ ps[k].1) && decide (ps[k].1 ≤ 63)) = false := by simp; omega
          have HF := Lib.hid (inFault_bad ps k (by omega) hlt (by rw [Bool.eq_false_iff]; intro h; rw [vld_iff] at h; omega))
          rw [h1']
          go_wp2_with fail
          go_ret
          exact ⟨ret_int' HF.out.symm, hbw.alloc hbw.size _⟩
      · have hv' : ∀ p ∈ ps, vld p = true := by have := hv.out; rwa [List.take_of_length_le (by omega)] at this
        have HF := Lib.hid (inFault_good ps (by omega) hv')
        have ht : ps.take k = ps := List.take_of_length_le (by omega)
        rw [ht] at hs0 hs1
        rw [ht]
        clear hv' ht
        by_cases h2 : 200000 < psum ps
        · go_wp2_with fail
          go_ret
          exact ⟨ret_int' (by rw [HF.out, if_pos h2]), hbw⟩
        · go_wp2_with fail
          go_ret
          exact ⟨ret_int' (by rw [HF.out, if_neg (by omega)]), hbw⟩

set_option maxHeartbeats 1000000 in
/-- Pieces put together: new memory. -/
theorem tidy_any (A : Option Addr) (c lo : Nat) (ps : List (Int × Int)) (w : World) (hr : Row w lo 2 A ps.length (prs ps)) (hl : ps.length ≤ 1000000000) (hb : ∀ p ∈ ps, 0 ≤ p.2) (hs : psum ps ≤ 1000000000000000) :
    Calls Try.prog 63 #[.slice A ps.length c] w fun e w' => ∃ A' c', e = .returned (.slice A' (tidyM ps).length c') ∧ w'.ownsRow w.heap.size 39 2 (.slice A' (tidyM ps).length c') (tidyM ps).length (prs (tidyM ps)) ∧ Below w.heap.size w w' := by
  go_enter Try.func63, Try.ntmps63
  go_wp2_with fail
  go_loopw [3, 9] (fun v i wr => ∃ (k : Nat) (A' : Option Addr) (c' : Nat), k ≤ ps.length ∧ i = .int .i64 k ∧ v = .slice A' (tidyM (ps.take k)).length c' ∧ wr.ownsRow w.heap.size 39 2 (.slice A' (tidyM (ps.take k)).length c') (tidyM (ps.take k)).length (prs (tidyM (ps.take k))) ∧ Below w.heap.size w wr) (fun _ i _ => ps.length - (intOf i).toNat)
  case atStart => exact ⟨0, none, 0, Nat.zero_le _, rfl, rfl, World.ownsRow_nil _ _ _ _, Below.refl _ _⟩
  case round =>
    obtain ⟨k, A', c', hk, rfl, rfl, hown, hbw⟩ := hrel
    by_cases hlt : k < ps.length
    · obtain ⟨b, off, rfl, _, hbs, c0, c1⟩ := (hr.below hbw).pr_at hlt
      have HT := Lib.hid (tidyM_take ps k hlt)
      have hlen := tidyM_len (ps.take k)
      have hlen2 := List.length_take_le k ps
      have hb0 := hb ps[k] (List.getElem_mem _)
      have hsum := tidyM_psum (ps.take k)
      have hps := psum_take_le ps k hb
      have hps2 := psum_take_le ps (k + 1) hb
      rw [psum_take ps k hlt] at hps2
      have hmem := tidyM_mem (ps.take k) (fun p hp => hb p (List.mem_of_mem_take hp))
      generalize tidyM (ps.take k) = o at *
      have hz := hbw.size
      by_cases h0 : ps[k].2 = 0
      · have h0' : (ps[k].2 == 0) = true := by simpa using h0
        have HE : Hid (tidyM (ps.take (k + 1)) = o) := Lib.hid (by rw [HT.out, h0, fadd_zero])
        clear h0 hsum hmem
        go_wp2_with fail
        go_roundw
        case rel => exact ⟨k + 1, A', c', by omega, by go_num, by rw [HE.out], by rw [HE.out]; exact hown.alloc _, hbw.alloc hbw.size _⟩
        case measure => simp [intOf]; omega
      · have h0' : (ps[k].2 == 0) = false := by simpa using h0
        by_cases ho : o.length = 0
        · have ho' : o = [] := List.eq_nil_of_length_eq_zero ho
          subst ho'
          have HE : Hid (tidyM (ps.take (k + 1)) = [(ps[k].1, ps[k].2)]) := Lib.hid (by rw [HT.out, fadd_first _ _ h0])
          clear h0 hsum hmem
          go_wp2_with fail
          go_quiet (fail)
          go_wp2_with (at_builtin; go_must (refine wpList_app (lo := w.heap.size) (base := w.heap.size) (n := 0) (xs := []) _ _ rfl _ _ ty_prs rfl (by repeat (first | exact hown | refine World.ownsRow.alloc ?_ _ | refine own_drewN ?_ _ | refine World.ownsRow.drew ?_)) rfl (by first | exact row_new' _ (by first | rfl | simp) (by first | omega | (simp; omega)) rfl | exact row_newN _ _ (by first | rfl | simp) (by first | omega | (simp; omega)) rfl | exact row_newD _ (by first | rfl | simp) (by first | omega | (simp; omega)) rfl) rfl rfl (by first | omega | decide) (by first | omega | decide) (by first | omega | (simp; omega)) ?_))
          intro A5 c5 w5 hown5 hg5 _
          go_wp2_with fail
          go_roundw
          case rel => exact ⟨k + 1, A5, c5, by omega, by go_num, by rw [HE.out]; rfl, by rw [HE.out]; exact hown5, below_app hown (by repeat (first | exact hbw | refine Below.alloc ?_ (by first | omega | (simp; omega)) _ | refine below_drewN' ?_ _ | refine Below.drew ?_)) hg5 (Nat.le_refl _) (by simp; omega)⟩
          case measure => simp [intOf]; omega
        · have hj : o.length - 1 < o.length := by omega
          obtain ⟨g, rfl, hg, hg', hcb, hfb⟩ := ownBlk hown (by omega)
          obtain ⟨e1, e2⟩ := prs_at o _ hj
          have d1 := hcb _ _ e1
          have d2 := hcb _ _ e2
          have f2 := hfb ((o.length - 1) * 2 + 1)
          clear hcb hfb e1 e2
          by_cases he : (o[o.length - 1]'hj).1 = ps[k].1
          · have HE : Hid (tidyM (ps.take (k + 1)) = o.set (o.length - 1) ((o[o.length - 1]'hj).1, (o[o.length - 1]'hj).2 + ps[k].2)) := Lib.hid (by rw [HT.out, fadd_bump o _ _ h0 (o.length - 1) (by omega) he])
            have he' : ((o[o.length - 1]'hj).1 == ps[k].1) = true := by simpa using he
            have b1 := hmem _ (List.getElem_mem hj)
            have b2 := mem_le_psum o hmem _ (List.getElem_mem hj)
            have b3 : (o[o.length - 1]'hj).2 + ps[k].2 ≤ 1000000000000000 := by omega
            clear b2
            have q1 : 1 ≤ o.length := by omega
            have q2 : (0 : Int) ≤ (o.length : Int) - 1 := by omega
            have q3 : decide ((1 : Int) ≤ (o.length : Int)) = true := by simp; omega
            clear h0 hsum hmem he
            go_wp2_with fail
            go_quiet (fail)
            go_wp2_with fail
            go_region
            go_wp2_with fail
            go_roundw
            case rel => exact ⟨k + 1, some ⟨g, 0, none⟩, c', by omega, by go_num, by rw [HE.out]; simp, by rw [HE.out, List.length_set]; exact own_prs_set (ps := o) (c := c') (by repeat (first | exact hown | refine World.ownsRow.alloc ?_ _ | refine own_drewN ?_ _ | refine World.ownsRow.drew ?_)) _ hj _, Below.setCell (by repeat (first | exact hbw | refine Below.alloc ?_ (by first | omega | (simp; omega)) _ | refine below_drewN' ?_ _ | refine Below.drew ?_)) (by simpa using hg) _⟩
            case measure => simp [intOf]; omega
          · have HE : Hid (tidyM (ps.take (k + 1)) = o ++ [(ps[k].1, ps[k].2)]) := Lib.hid (by rw [HT.out, fadd_push o _ _ h0 (o.length - 1) (by omega) he])
            have he' : ((o[o.length - 1]'hj).1 == ps[k].1) = false := by simpa using he
            have q1 : 1 ≤ o.length := by omega
            have q2 : (0 : Int) ≤ (o.length : Int) - 1 := by omega
            have q3 : decide ((1 : Int) ≤ (o.length : Int)) = true := by simp; omega
            clear h0 hsum hmem he
            go_wp2_with fail
            go_quiet (fail)
            go_wp2_with (at_builtin; go_must (refine wpList_app (lo := w.heap.size) (base := w.heap.size) (n := o.length) (xs := prs o) _ _ rfl _ _ ty_prs rfl (by repeat (first | exact hown | refine World.ownsRow.alloc ?_ _ | refine own_drewN ?_ _ | refine World.ownsRow.drew ?_)) rfl (by first | exact row_new' _ (by first | rfl | simp) (by first | omega | (simp; omega)) rfl | exact row_newN _ _ (by first | rfl | simp) (by first | omega | (simp; omega)) rfl | exact row_newD _ (by first | rfl | simp) (by first | omega | (simp; omega)) rfl) rfl rfl (by first | omega | decide) (by first | omega | decide) (by first | omega | (simp; omega)) ?_))
            intro A5 c5 w5 hown5 hg5 _
            go_wp2_with fail
            go_roundw
            case rel => exact ⟨k + 1, A5, c5, by omega, by go_num, by rw [HE.out]; simp, by rw [HE.out, prs_app, List.length_append]; exact hown5, below_app hown (by repeat (first | exact hbw | refine Below.alloc ?_ (by first | omega | (simp; omega)) _ | refine below_drewN' ?_ _ | refine Below.drew ?_)) hg5 (Nat.le_refl _) (by simp; omega)⟩
            case measure => simp [intOf]; omega
    · have ht : ps.take k = ps := List.take_of_length_le (by omega)
      rw [ht] at hown
      rw [ht]
      clear ht
      go_wp2_with fail
      go_ret
      exact ⟨A', c', rfl, hown, hbw⟩
end Go.Proofs.Ytgkjpcapoofphaa
