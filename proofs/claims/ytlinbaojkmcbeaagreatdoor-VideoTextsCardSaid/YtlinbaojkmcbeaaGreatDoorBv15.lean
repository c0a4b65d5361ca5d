/- Texts of this seat, laid together: SgE SgG Ha Hr Hy SgF. -/
import Derived.Test.YtlinbaojkmcbeaaGreatDoorBv14
import Derived.Test.YtlinbaojkmcbeaaGreatDoorBv01
/- The walk of SumOfBest at a history that is right. -/
namespace Go.Proofs.YtlinbaojkmcbeaaGreatDoor
set_option linter.unusedVariables false
set_option linter.unusedSimpArgs false
open Go.RowKit Go.Sort

theorem ret3v {a b c x y z : Value} (h1 : a = x) (h2 : b = y) (h3 : c = z) : Ending.returned (.tuple #[a, b, c]) = .returned (.tuple #[x, y, z]) := by rw [h1, h2, h3]
def sumV (segs : List (List UInt8)) (atts : List Att) : Int := lvV (stepsA atts) segs.length 0
set_option maxHeartbeats 1000000 in
theorem sumOfBest_ok (SA TA : Option Addr) (c d lo : Nat) (segs : List (List UInt8)) (atts : List Att) (w : World) (hh : Hist w lo SA TA segs atts) (hc : segs.length ≤ c) (hok : HistOk segs atts) :
    Calls Tryz.prog 47 #[.agg #[.slice SA segs.length c, .slice TA atts.length d]] w fun e w' => e = .returned (.tuple #[.int .i64 (max (sumV segs atts) 0), .bool (decide (0 ≤ sumV segs atts)), .int .i64 0]) ∧ Below w.heap.size w w' := by
  have HO := Lib.hid hok
  have n1 := hok.n1
  have n2 := hok.n2
  clear hok
  go_enter Tryz.func47, Tryz.ntmps47
  go_wp2_with fail
  have hb0 : Below w.heap.size w (w.alloc (.cells #[.slice SA segs.length c, .slice TA atts.length d] 93)) := (Below.refl _ _).alloc (Nat.le_refl _) _
  have hk0 : Blk (w.alloc (.cells #[.slice SA segs.length c, .slice TA atts.length d] 93)) w.heap.size 93 #[.slice SA segs.length c, .slice TA atts.length d] := Blk.new _ _ _
  have hh0 := hh.alloc (.cells #[.slice SA segs.length c, .slice TA atts.length d] 93)
  generalize w.alloc (.cells #[.slice SA segs.length c, .slice TA atts.length d] 93) = w0 at *
  refine (checkHistory_ok _ _ _ _ _ segs atts _ hh0 hc HO.out).mono ?_
  rintro e w1 ⟨rfl, hb1⟩
  have hh1 := hh0.below hb1
  have hk1 := hk0.below hb1
  have hx1 := hb0.trans (hb1.mono hb0.size)
  clear hb1 hb0 hh0 hk0 hh
  go_wp2_with fail
  refine (leasts_ok _ _ _ _ _ _ segs atts _ hk1 hh1 HO.out).mono ?_
  rintro e w2 ⟨g, c2, rfl, hg, hob, hb2⟩
  have hx2 := hx1.trans (hb2.mono hx1.size)
  have hll := outL_len (lvV (stepsA atts) segs.length) (stepsA atts) segs.length
  have c0 := hob.cell 0 (by omega)
  rw [outL_at, outP_all (stepsA_fwd HO.out).1 (List.Perm.refl _) 0 (by omega)] at c0
  have HS : Hid (sumV segs atts = lvV (stepsA atts) segs.length 0) := Lib.hid rfl
  generalize lvV (stepsA atts) segs.length 0 = v at *
  have hgl := hob.lt
  clear hb2 hx1 hh1 hk1 hob hll
  rcases Int.lt_or_le v 0 with h | h
  · have q : decide (0 ≤ v) = false := by simp; omega
    go_wp2_with fail
    go_ret3
    exact ⟨ret3v (by rw [HS.out]; rfl) (by rw [HS.out, q]; rfl) rfl, hx2⟩
  · have q : decide (0 ≤ v) = true := by simp; omega
    go_wp2_with fail
    go_ret3
    exact ⟨ret3v (by rw [HS.out]; rfl) (by rw [HS.out, q]; rfl) rfl, hx2⟩
end Go.Proofs.YtlinbaojkmcbeaaGreatDoor
/- The walks of the faults of splits at any splits; slices.Index and Contains at numbers. -/
namespace Go.Proofs.YtlinbaojkmcbeaaGreatDoor
set_option linter.unusedVariables false
set_option linter.unusedSimpArgs false
open Go.RowKit

theorem splF_large {many : Nat} {l : List Int} (h : many < l.length) : splF many l = 2 := by simp [splF, h]
theorem splF_at {many : Nat} {l : List Int} (h : ¬ many < l.length) {k : Nat} (hk : k < l.length) (h0 : sgl 0 (l.take k) = 0) (hx : l[k] < 0 ∨ 864000000 < l[k]) : splF many l = 1 := by
  have h1 : sgl 0 (l.take (k + 1)) = 1 := by rw [List.take_succ_eq_append_getElem hk, sgl_snoc _ _ h0, if_pos hx]
  have h2 : sgl 0 l = 1 := by rw [sgl_stop l (k + 1) (by rw [h1]; decide), h1]
  simp [splF, h, h2]
theorem splF_ord {many : Nat} {l : List Int} (h : ¬ many < l.length) {k : Nat} (hk : k < l.length) (h0 : sgl 0 (l.take k) = 0) (hx : ¬ (l[k] < 0 ∨ 864000000 < l[k])) (hy : l[k] ≠ 0 ∧ l[k] ≤ sgM (l.take k)) : splF many l = 7 := by
  have h1 : sgl 0 (l.take (k + 1)) = 7 := by rw [List.take_succ_eq_append_getElem hk, sgl_snoc _ _ h0, if_neg hx, if_pos hy]
  have h2 : sgl 0 l = 7 := by rw [sgl_stop l (k + 1) (by rw [h1]; decide), h1]
  simp [splF, h, h2]
theorem sgl_next {l : List Int} {k : Nat} (hk : k < l.length) (h0 : sgl 0 (l.take k) = 0) (hx : ¬ (l[k] < 0 ∨ 864000000 < l[k])) (hy : ¬ (l[k] ≠ 0 ∧ l[k] ≤ sgM (l.take k))) : sgl 0 (l.take (k + 1)) = 0 := by
  rw [List.take_succ_eq_append_getElem hk, sgl_snoc _ _ h0, if_neg hx, if_neg hy]
theorem splF_end {many : Nat} {l : List Int} (h : ¬ many < l.length) (h0 : sgl 0 l = 0) (hl : l.length - 1 < l.length) : splF many l = if l[l.length - 1] = 0 then 3 else 0 := by
  have e : l.getLast? = some l[l.length - 1] := by rw [List.getLast?_eq_getElem?, List.getElem?_eq_getElem hl]
  simp [splF, h, h0, e]
theorem splF_nil {many : Nat} {l : List Int} (h0 : l.length = 0) : splF many l = 0 := by
  have : l = [] := List.eq_nil_of_length_eq_zero h0
  subst this; rfl
theorem sgl_bd (l : List Int) : ∀ (last : Int), sgl last l = 0 → ∀ x ∈ l, 0 ≤ x ∧ x ≤ 864000000 := by
  induction l with
  | nil => intro _ _ x hx; cases hx
  | cons n l ih =>
    intro last h x hx
    simp only [sgl] at h
    split at h
    · omega
    · split at h
      · omega
      · rcases List.mem_cons.1 hx with rfl | hx
        · omega
        · exact ih _ h x hx
theorem splF_ok {many : Nat} {l : List Int} (h : splF many l = 0) : SplOk many l := by
  unfold splF at h
  split at h
  · omega
  · rename_i h1
    split at h
    · rename_i h2; exact absurd h h2
    · rename_i h2
      have h2 : sgl 0 l = 0 := by simpa using h2
      split at h
      · omega
      · rename_i h3
        refine ⟨by omega, fun i hi => sgl_bd l 0 h2 _ (List.getElem_mem _), fun i hi h0 => ?_, fun hi h0 => h3 ?_⟩
        · have h4 : sgl 0 (l.take (i + 1)) = 0 := by
            rcases Int.decEq (sgl 0 (l.take (i + 1))) 0 with h | h
            · exact absurd (sgl_stop l (i + 1) h) (by rw [h2]; exact fun e => h e.symm)
            · exact h
          have h5 : sgl 0 (l.take i) = 0 := by
            rcases Int.decEq (sgl 0 (l.take i)) 0 with h | h
            · exact absurd (sgl_stop l i h) (by rw [h2]; exact fun e => h e.symm)
            · exact h
          rw [List.take_succ_eq_append_getElem hi, sgl_snoc _ _ h5] at h4
          split at h4
          · omega
          · split at h4
            · omega
            · rename_i h6
              have : ¬ (l[i] ≤ sgM (l.take i)) := fun h => h6 ⟨h0, h⟩
              omega
        · rw [List.getLast?_eq_getElem?, List.getElem?_eq_getElem hi, h0]
theorem rin_any (n lo hi : Int) (w : World) : Calls Tryz.prog 32 #[.int .i64 n, .int .i64 lo, .int .i64 hi] w fun e w' => e = .returned (.bool (decide (lo ≤ n) && decide (n ≤ hi))) ∧ w = w' := by
  go_enter Tryz.func32, Tryz.ntmps32
  by_cases h : lo ≤ n
  · have q : decide (lo ≤ n) = true := by simpa using h
    rw [q]
    go_wp2_with fail
    go_ret
    exact ⟨by simp, rfl⟩
  · have q : decide (lo ≤ n) = false := by simpa using h
    rw [q]
    go_wp2_with fail
    go_ret
    exact ⟨by simp, rfl⟩
end Go.Proofs.YtlinbaojkmcbeaaGreatDoor
/- The walks of what checks keys and splits, at any: base.Key, slices.Index and Contains at strings, segment.splitsFault. -/
namespace Go.Proofs.YtlinbaojkmcbeaaGreatDoor
set_option linter.unusedVariables false
set_option linter.unusedSimpArgs false
open Go.RowKit Go.Sort

theorem keyB_of {s : ByteArray} (h0 : 0 < s.size) (h1 : s.size ≤ 40) (h2 : 97 ≤ s[0].toNat ∧ s[0].toNat ≤ 122) : keyB s.data.toList = s.data.toList.all keyC := by
  have e : s.data.toList.length = s.size := by simp
  have e0 : s.data.toList.headD 0 = s[0] := by
    rw [List.headD_eq_head?_getD, List.head?_eq_getElem?, List.getElem?_eq_getElem (by omega)]
    rfl
  unfold keyB
  rw [e, e0, decide_eq_true h0, decide_eq_true h1, decide_eq_true h2.1, decide_eq_true h2.2]
  rfl
theorem keyB_not {s : ByteArray} (h : ¬ (0 < s.size ∧ s.size ≤ 40)) : keyB s.data.toList = false := by
  have e : s.data.toList.length = s.size := by simp
  unfold keyB
  rw [e]
  by_cases h0 : 0 < s.size
  · rw [decide_eq_false (p := s.size ≤ 40) (by omega)]; simp
  · rw [decide_eq_false h0]; simp
theorem keyB_head {s : ByteArray} (h0 : 0 < s.size) (h : ¬ (97 ≤ s[0].toNat ∧ s[0].toNat ≤ 122)) : keyB s.data.toList = false := by
  have e : s.data.toList.length = s.size := by simp
  have e0 : s.data.toList.headD 0 = s[0] := by
    rw [List.headD_eq_head?_getD, List.head?_eq_getElem?, List.getElem?_eq_getElem (by omega)]
    rfl
  unfold keyB
  rw [e0]
  by_cases h1 : 97 ≤ s[0].toNat
  · rw [decide_eq_false (p := s[0].toNat ≤ 122) (by omega)]; simp
  · rw [decide_eq_false h1]; simp
theorem all_no {s : ByteArray} {k : Nat} (hk : k < s.size) (h : keyC s[k] = false) : s.data.toList.all keyC = false := by
  rw [List.all_eq_false]
  refine ⟨s[k], ?_, by rw [h]; decide⟩
  have : s[k] = s.data.toList[k]'(by simpa using hk) := rfl
  rw [this]; exact List.getElem_mem _
theorem all_yes {s : ByteArray} (h : ∀ k (hk : k < s.size), keyC s[k] = true) : s.data.toList.all keyC = true := by
  rw [List.all_eq_true]
  intro c hc
  obtain ⟨k, hk, rfl⟩ := List.mem_iff_getElem.1 hc
  exact h k (by simpa using hk)
theorem keyC_bad {c : UInt8} (h : keyC c = false) : c.toNat < 48 ∧ c.toNat ≠ 45 ∨ 57 < c.toNat ∧ c.toNat < 97 ∧ c.toNat ≠ 95 ∨ 122 < c.toNat := by
  unfold keyC at h
  simp only [Bool.or_eq_false_iff, Bool.and_eq_false_iff, decide_eq_false_iff_not, beq_eq_false_iff_ne] at h
  obtain ⟨⟨⟨h1, h2⟩, h3⟩, h4⟩ := h
  have h3' : c.toNat ≠ 45 := fun e => h3 (UInt8.toNat_inj.1 e)
  have h4' : c.toNat ≠ 95 := fun e => h4 (UInt8.toNat_inj.1 e)
  omega
set_option maxHeartbeats 1000000 in
theorem key_any (s : ByteArray) (w : World) : Calls Tryz.prog 91 #[.string s] w fun e w' => e = .returned (.bool (keyB s.data.toList)) ∧ w = w' := by
  by_cases h0 : 0 < s.size
  · have e1 : (s.toList == []) = false := by rw [ByteArray.toList_eq]; simp; intro h; have : s.size = 0 := by (have := congrArg Array.size h); simpa using this
                                             omega
    by_cases h1 : s.size ≤ 40
    · have c3 : decide ((40 : Int) < (s.size : Int)) = false := by simp; omega
      by_cases h2 : 97 ≤ s[0].toNat ∧ s[0].toNat ≤ 122
      · have HK := Lib.hid (keyB_of h0 h1 h2)
        have HN := Lib.hid (fun k (hk : k < s.size) (h : keyC s[k] = false) => (keyB_of h0 h1 h2).trans (all_no hk h))
        have c1 : decide ((s[0].toNat : Int) < 97) = false := by simp; omega
        have c2 : decide ((122 : Int) < (s[0].toNat : Int)) = false := by simp; omega
        obtain ⟨h4, h5⟩ := h2
        go_enter Tryz.func91, Tryz.ntmps91
        go_wp2_with fail
        go_loop [24] (fun i => ∃ k : Nat, k ≤ s.size ∧ i = .int .i64 k ∧ Hid (∀ j (hj : j < s.size), j < k → keyC s[j] = true)) (fun i => s.size - (intOf i).toNat)
        case atStart => exact ⟨0, Nat.zero_le _, rfl, Lib.hid (fun _ _ h => absurd h (Nat.not_lt_zero _))⟩
        case round =>
          obtain ⟨k, hk, rfl, HA⟩ := hrel
          by_cases hlt : k < s.size
          · cases hq : keyC s[k]
            · have HF := Lib.hid (HN.out k hlt hq)
              rcases keyC_bad hq with hc | hc | hc
              · have d1 : decide ((97 : Int) ≤ (s[k].toNat : Int)) = false := by simp; omega
                have d2 : decide ((48 : Int) ≤ (s[k].toNat : Int)) = false := by simp; omega
                have d4 : ((s[k].toNat : Int) == 45) = false := by simp; omega
                have d5 : ((s[k].toNat : Int) == 95) = false := by simp; omega
                clear hc hq
                go_wp2_with fail
                go_ret
                exact ⟨ret_bool' HF.out.symm, rfl⟩
              · have d1 : decide ((97 : Int) ≤ (s[k].toNat : Int)) = false := by simp; omega
                have d2 : decide ((48 : Int) ≤ (s[k].toNat : Int)) = true := by simp; omega
                have d3 : decide ((s[k].toNat : Int) ≤ 57) = false := by simp; omega
                have d4 : ((s[k].toNat : Int) == 45) = false := by simp; omega
                have d5 : ((s[k].toNat : Int) == 95) = false := by simp; omega
                clear hc hq
                go_wp2_with fail
                go_ret
                exact ⟨ret_bool' HF.out.symm, rfl⟩
              · have d1 : decide ((97 : Int) ≤ (s[k].toNat : Int)) = true := by simp; omega
                have d1' : decide ((s[k].toNat : Int) ≤ 122) = false := by simp; omega
                have d2 : decide ((48 : Int) ≤ (s[k].toNat : Int)) = true := by simp; omega
                have d3 : decide ((s[k].toNat : Int) ≤ 57) = false := by simp; omega
                have d4 : ((s[k].toNat : Int) == 45) = false := by simp; omega
                have d5 : ((s[k].toNat : Int) == 95) = false := by simp; omega
                clear hc hq
                go_wp2_with fail
                go_ret
                exact ⟨ret_bool' HF.out.symm, rfl⟩
            · have HA' : Hid (∀ j (hj : j < s.size), j < k + 1 → keyC s[j] = true) := Lib.hid (fun j hj hjk => by
                rcases Nat.lt_or_ge j k with h | h
                · exact HA.out j hj h
                · have : j = k := by omega
                  subst this; exact hq)
              have hc := keyC_cases hq
              rcases hc with hc | hc | hc | hc
              · have d1 : decide ((97 : Int) ≤ (s[k].toNat : Int)) = true := by simp; omega
                have d2 : decide ((s[k].toNat : Int) ≤ 122) = true := by simp; omega
                clear hc hq
                go_wp2_with fail
                go_round
                case rel => exact ⟨k + 1, by omega, by go_num, HA'⟩
                case measure => simp [intOf]; omega
              · have d1 : decide ((97 : Int) ≤ (s[k].toNat : Int)) = false := by simp; omega
                have d2 : decide ((48 : Int) ≤ (s[k].toNat : Int)) = true := by simp; omega
                have d3 : decide ((s[k].toNat : Int) ≤ 57) = true := by simp; omega
                clear hc hq
                go_wp2_with fail
                go_round
                case rel => exact ⟨k + 1, by omega, by go_num, HA'⟩
                case measure => simp [intOf]; omega
              · have d1 : decide ((97 : Int) ≤ (s[k].toNat : Int)) = false := by simp; omega
                have d2 : decide ((48 : Int) ≤ (s[k].toNat : Int)) = false := by simp; omega
                have d4 : ((s[k].toNat : Int) == 45) = true := by simp; omega
                clear hc hq
                go_wp2_with fail
                go_round
                case rel => exact ⟨k + 1, by omega, by go_num, HA'⟩
                case measure => simp [intOf]; omega
              · have d1 : decide ((97 : Int) ≤ (s[k].toNat : Int)) = false := by simp; omega
                have d2 : decide ((48 : Int) ≤ (s[k].toNat : Int)) = true := by simp; omega
                have d3 : decide ((s[k].toNat : Int) ≤ 57) = false := by simp; omega
                have d4 : ((s[k].toNat : Int) == 45) = false := by simp; omega
                have d5 : ((s[k].toNat : Int) == 95) = true := by simp; omega
                clear hc hq
                go_wp2_with fail
                go_round
                case rel => exact ⟨k + 1, by omega, by go_num, HA'⟩
                case measure => simp [intOf]; omega
          · have HT : Hid (keyB s.data.toList = true) := Lib.hid (by rw [HK.out]; exact all_yes (fun j hj => HA.out j hj (by omega)))
            go_wp2_with fail
            go_ret
            exact ⟨ret_bool' HT.out.symm, rfl⟩
      · have HF := Lib.hid (keyB_head h0 h2)
        by_cases h4 : 97 ≤ s[0].toNat
        · have c1 : decide ((s[0].toNat : Int) < 97) = false := by simp; omega
          have c2 : decide ((122 : Int) < (s[0].toNat : Int)) = true := by simp; omega
          clear h2
          go_enter Tryz.func91, Tryz.ntmps91
          go_wp2_with fail
          go_ret
          exact ⟨ret_bool' HF.out.symm, rfl⟩
        · have c1 : decide ((s[0].toNat : Int) < 97) = true := by simp; omega
          clear h2
          go_enter Tryz.func91, Tryz.ntmps91
          go_wp2_with fail
          go_ret
          exact ⟨ret_bool' HF.out.symm, rfl⟩
    · have HF := Lib.hid (keyB_not (s := s) (by omega))
      have c3 : decide ((40 : Int) < (s.size : Int)) = true := by simp; omega
      go_enter Tryz.func91, Tryz.ntmps91
      go_wp2_with fail
      go_ret
      exact ⟨ret_bool' HF.out.symm, rfl⟩
  · have HF := Lib.hid (keyB_not (s := s) (by omega))
    have e1 : (s.toList == []) = true := by rw [ByteArray.toList_eq]; simp; have : s.size = 0 := by omega
                                            exact Array.eq_empty_of_size_eq_zero this
    go_enter Tryz.func91, Tryz.ntmps91
    go_wp2_with fail
    go_ret
    exact ⟨ret_bool' HF.out.symm, rfl⟩

/-- Where a string is first. -/
def IdxS (ss : List (List UInt8)) (x : List UInt8) (r : Int) : Prop := r = -1 ∧ x ∉ ss ∨ ∃ k : Nat, ∃ h : k < ss.length, r = k ∧ ss[k] = x ∧ ∀ j (hj : j < ss.length), j < k → ss[j] ≠ x
theorem indexS_any (A : Option Addr) (c lo : Nat) (ss : List (List UInt8)) (x : List UInt8) (w : World) (hr : Row w lo 1 A ss.length (strs ss)) (hl : ss.length ≤ 1000000000) :
    Calls Tryz.prog 41 #[.slice A ss.length c, encStr x] w fun e w' => ∃ r : Int, e = .returned (.int .i64 r) ∧ w = w' ∧ IdxS ss x r := by
  unfold encStr
  go_enter Tryz.func41, Tryz.ntmps41
  go_wp2_with fail
  go_loop [8] (fun i => ∃ k : Nat, k ≤ ss.length ∧ i = .int .i64 k ∧ Hid (∀ j (hj : j < ss.length), j < k → ss[j] ≠ x)) (fun i => ss.length - (intOf i).toNat)
  case atStart => exact ⟨0, Nat.zero_le _, rfl, Lib.hid (fun _ _ h => absurd h (Nat.not_lt_zero _))⟩
  case round =>
    obtain ⟨k, hk, rfl, HA⟩ := hrel
    by_cases hlt : k < ss.length
    · obtain ⟨b, off, rfl, _, hbs, c0⟩ := hr.str_at hlt
      by_cases hx : x = ss[k]
      · have heq := str_eq hx
        have HE : Hid (ss[k] = x) := Lib.hid hx.symm
        unfold encStr at c0
        have HZ : Hid (IdxS ss x k) := Lib.hid (.inr ⟨k, hlt, rfl, HE.out, HA.out⟩)
        generalize ss[k] = z at *
        have heq' : (x == z) = true := by rw [ByteArray.toList_eq, ByteArray.toList_eq] at heq; simpa using heq
        clear hx
        go_wp2_with fail
        go_ret
        exact ⟨(k : Int), rfl, rfl, HZ.out⟩
      · have hne := str_ne hx
        have HB : Hid (∀ j (hj : j < ss.length), j < k + 1 → ss[j] ≠ x) := Lib.hid (fun j hj hjk => by
          rcases Nat.lt_or_ge j k with h | h
          · exact HA.out j hj h
          · have : j = k := by omega
            subst this; exact fun e => hx e.symm)
        unfold encStr at c0
        clear hx
        generalize ss[k] = z at *
        have hne' : (x == z) = false := by rw [ByteArray.toList_eq, ByteArray.toList_eq] at hne; simpa using hne
        go_wp2_with fail
        go_round
        case rel => exact ⟨k + 1, by omega, by go_num, HB⟩
        case measure => simp [intOf]; omega
    · have HB : Hid (IdxS ss x (-1)) := Lib.hid (.inl ⟨rfl, fun h => by
        obtain ⟨j, hj, e⟩ := List.getElem_of_mem h
        exact HA.out j hj (by omega) e⟩)
      go_wp2_with fail
      go_ret
      exact ⟨-1, rfl, rfl, HB.out⟩
theorem containsS_any (A : Option Addr) (c lo : Nat) (ss : List (List UInt8)) (x : List UInt8) (w : World) (hr : Row w lo 1 A ss.length (strs ss)) (hl : ss.length ≤ 1000000000) :
    Calls Tryz.prog 92 #[.slice A ss.length c, encStr x] w fun e w' => e = .returned (.bool (decide (x ∈ ss))) ∧ w = w' := by
  go_enter Tryz.func92, Tryz.ntmps92
  go_wp2_with fail
  refine (indexS_any _ _ _ ss x _ hr hl).mono ?_
  rintro e w1 ⟨r, rfl, rfl, h⟩
  have HR : Hid (decide (0 ≤ r) = decide (x ∈ ss)) := Lib.hid (by
    rcases h with ⟨rfl, h⟩ | ⟨k, hk, rfl, h, _⟩
    · simp [h]
    · have : x ∈ ss := by rw [← h]; exact List.getElem_mem _
      simp [this])
  clear h
  go_wp2_with fail
  go_ret
  exact ⟨by rw [← HR.out]; rfl, rfl⟩

set_option maxHeartbeats 1000000 in
theorem splitsFault_any (many : Nat) (B : Option Addr) (c lo : Nat) (l : List Int) (w : World) (hr : Row w lo 1 B l.length (ints l)) (hm : many ≤ 1000000000) (hl : l.length ≤ 1000000000) :
    Calls Tryz.prog 93 #[.int .i64 many, .slice B l.length c] w fun e w' => e = .returned (.int .i64 (splF many l)) ∧ w = w' := by
  by_cases hL : many < l.length
  · have d9 : decide (many < l.length) = true := by simpa using hL
    rw [splF_large hL]
    go_enter Tryz.func93, Tryz.ntmps93
    go_wp2_with fail
    go_ret
    exact ⟨rfl, rfl⟩
  have d9 : decide (many < l.length) = false := by simpa using hL
  have HL := Lib.hid hL
  clear hL
  go_enter Tryz.func93, Tryz.ntmps93
  go_wp2_with fail
  go_loop [4, 5, 14] (fun _ v i => ∃ k : Nat, k ≤ l.length ∧ i = .int .i64 k ∧ v = .int .i64 (sgM (l.take k)) ∧ Hid (sgl 0 (l.take k) = 0)) (fun _ _ i => l.length - (intOf i).toNat)
  case atStart => exact ⟨0, Nat.zero_le _, rfl, rfl, Lib.hid rfl⟩
  case round =>
    obtain ⟨k, hk, rfl, rfl, H0⟩ := hrel
    by_cases hlt : k < l.length
    · obtain ⟨b, off, rfl, _, hbs, c0⟩ := hr.int_at hlt
      have HA := Lib.hid (fun h => splF_at HL.out hlt H0.out h)
      have HB := Lib.hid (fun h h' => splF_ord HL.out hlt H0.out h h')
      have HN := Lib.hid (fun h h' => sgl_next hlt H0.out h h')
      have HT := Lib.hid (sgM_take l k hlt)
      have g0 := sgM_nonneg (l.take k)
      generalize l[k] = x at *
      generalize sgM (l.take k) = last at *
      go_wp2_with fail
      refine (out_any _ _ _ _).mono ?_
      rintro e w1 ⟨rfl, rfl⟩
      by_cases h1 : x < 0 ∨ 864000000 < x
      · have d0 : (decide (x < 0) || decide (864000000 < x)) = true := by simp; omega
        rw [d0]
        have HE := Lib.hid (HA.out h1)
        clear d0 h1 HA HB HN HT
        go_wp2_with fail
        go_ret
        exact ⟨by rw [HE.out]; rfl, rfl⟩
      · have d0 : (decide (x < 0) || decide (864000000 < x)) = false := by simp; omega
        rw [d0]
        have HB1 := Lib.hid (fun h' => HB.out h1 h')
        have HN1 := Lib.hid (fun h' => HN.out h1 h')
        clear d0 h1 HA HB HN
        by_cases hx : x = 0
        · have HX : Hid (sgM (l.take (k + 1)) = last) := Lib.hid (by rw [HT.out]; omega)
          have H1 := Lib.hid (HN1.out (fun h => h.1 hx))
          have d1 : (x != 0) = false := by simpa using hx
          have d2 : ¬ last < x := by omega
          have d3 : x ≤ last := by omega
          clear hx HB1 HN1
          go_wp2_with fail
          go_round
          case rel => exact ⟨k + 1, by omega, by go_num, by rw [HT.out], H1⟩
          case measure => simp [intOf]; omega
        · have d1 : (x != 0) = true := by simpa using hx
          by_cases h2 : x ≤ last
          · have d2 : decide (x ≤ last) = true := by simpa using h2
            have HE := Lib.hid (HB1.out ⟨hx, h2⟩)
            clear hx h2 HT HB1 HN1
            go_wp2_with fail
            go_ret
            exact ⟨by rw [HE.out]; rfl, rfl⟩
          · have d2 : decide (x ≤ last) = false := by simpa using h2
            have HX : Hid (sgM (l.take (k + 1)) = x) := Lib.hid (by rw [HT.out]; omega)
            have H1 := Lib.hid (HN1.out (fun h => h2 h.2))
            clear hx HB1 HN1
            go_wp2_with fail
            go_round
            case rel => exact ⟨k + 1, by omega, by go_num, by rw [HT.out], H1⟩
            case measure => simp [intOf]; omega
    · have hkl : k = l.length := by omega
      have H1 : Hid (sgl 0 l = 0) := Lib.hid (by have := H0.out; rw [hkl, List.take_length] at this; exact this)
      by_cases h0 : 0 < l.length
      · have HE := Lib.hid (splF_end HL.out H1.out (show l.length - 1 < l.length by omega))
        obtain ⟨b, off, rfl, _, hbs, c0⟩ := hr.int_at (k := l.length - 1) (by omega)
        have d2 : decide (0 < l.length) = true := by simpa using h0
        generalize l[l.length - 1] = x at *
        by_cases hx : x = 0
        · have HE1 : Hid (splF many l = 3) := Lib.hid (by rw [HE.out, if_pos hx])
          have d1 : (x == 0) = true := by simpa using hx
          clear hx HE
          go_wp2_with fail
          go_ret
          exact ⟨by rw [HE1.out]; rfl, rfl⟩
        · have HE1 : Hid (splF many l = 0) := Lib.hid (by rw [HE.out, if_neg hx])
          have d1 : (x == 0) = false := by simpa using hx
          clear hx HE
          go_wp2_with fail
          go_ret
          exact ⟨by rw [HE1.out]; rfl, rfl⟩
      · have HE := Lib.hid (splF_nil (many := many) (show l.length = 0 by omega))
        have d2 : decide (0 < l.length) = false := by simpa using h0
        go_wp2_with fail
        go_ret
        exact ⟨by rw [HE.out]; rfl, rfl⟩
end Go.Proofs.YtlinbaojkmcbeaaGreatDoor
/- Plain laws of the fault of a history: what each stop of its check says, and that a history without fault is right. No program in sight. -/
namespace Go.Proofs.YtlinbaojkmcbeaaGreatDoor
set_option linter.unusedVariables false
set_option linter.unusedSimpArgs false

theorem histF_none {segs : List (List UInt8)} (atts : List Att) (h : segs.length = 0) : histF segs atts = 8 := by simp [histF, h]
theorem histF_large {segs : List (List UInt8)} (atts : List Att) (h : 60 < segs.length) : histF segs atts = 2 := by
  unfold histF; rw [if_neg (by omega), if_pos h]
theorem segsF_stop (a b : List (List UInt8)) (before : List (List UInt8)) (h : segsF before a ≠ 0) : segsF before (a ++ b) = segsF before a := by
  induction a generalizing before with
  | nil => exact absurd rfl h
  | cons s a ih =>
    simp only [List.cons_append, segsF] at h ⊢
    split
    · rfl
    · split
      · rfl
      · rename_i h1 h2
        rw [if_neg h1, if_neg h2] at h
        exact ih _ h
theorem segsF_at {segs : List (List UInt8)} {k : Nat} (hk : k < segs.length) (h0 : segsF [] (segs.take k) = 0) : segsF [] (segs.take (k + 1)) = if keyB segs[k] = false then 5 else if segs[k] ∈ segs.take k then 6 else 0 := by
  rw [List.take_succ_eq_append_getElem hk, segsF_go _ _ _ h0, List.nil_append]; rfl
theorem segsF_whole {segs : List (List UInt8)} (k : Nat) (h : segsF [] (segs.take k) ≠ 0) : segsF [] segs = segsF [] (segs.take k) := by
  have := segsF_stop (segs.take k) (segs.drop k) [] h
  rwa [List.take_append_drop] at this
theorem histF_key {segs : List (List UInt8)} (atts : List Att) (n1 : ¬ segs.length = 0) (n2 : ¬ 60 < segs.length) {k : Nat} (hk : k < segs.length) (h0 : segsF [] (segs.take k) = 0) (h : keyB segs[k] = false) : histF segs atts = 5 := by
  have h1 : segsF [] (segs.take (k + 1)) = 5 := by rw [segsF_at hk h0, if_pos h]
  have h2 : segsF [] segs = 5 := by rw [segsF_whole (k + 1) (by rw [h1]; decide), h1]
  unfold histF; rw [if_neg n1, if_neg n2, h2]; rfl
theorem histF_twice {segs : List (List UInt8)} (atts : List Att) (n1 : ¬ segs.length = 0) (n2 : ¬ 60 < segs.length) {k : Nat} (hk : k < segs.length) (h0 : segsF [] (segs.take k) = 0) (h : keyB segs[k] = true) (hm : segs[k] ∈ segs.take k) : histF segs atts = 6 := by
  have h1 : segsF [] (segs.take (k + 1)) = 6 := by rw [segsF_at hk h0, if_neg (by rw [h]; decide), if_pos hm]
  have h2 : segsF [] segs = 6 := by rw [segsF_whole (k + 1) (by rw [h1]; decide), h1]
  unfold histF; rw [if_neg n1, if_neg n2, h2]; rfl
theorem segsF_next {segs : List (List UInt8)} {k : Nat} (hk : k < segs.length) (h0 : segsF [] (segs.take k) = 0) (h : keyB segs[k] = true) (hm : segs[k] ∉ segs.take k) : segsF [] (segs.take (k + 1)) = 0 := by
  rw [segsF_at hk h0, if_neg (by rw [h]; decide), if_neg hm]
theorem histF_many {segs : List (List UInt8)} {atts : List Att} (n1 : ¬ segs.length = 0) (n2 : ¬ 60 < segs.length) (h0 : segsF [] segs = 0) (h : 500 < atts.length) : histF segs atts = 2 := by
  unfold histF; rw [if_neg n1, if_neg n2, h0, if_neg (by decide), if_pos h]
theorem attsF_stop (many : Nat) (a b : List Att) (p : Int) (h : attsF many p a ≠ 0) : attsF many p (a ++ b) = attsF many p a := by
  induction a generalizing p with
  | nil => exact absurd rfl h
  | cons x a ih =>
    simp only [List.cons_append, attsF] at h ⊢
    split
    · rfl
    · split
      · rfl
      · split
        · rfl
        · rename_i h1 h2 h3
          rw [if_neg h1, if_neg h2, if_neg h3] at h
          exact ih _ h
theorem lastNo_take {atts : List Att} {k : Nat} (hk : k < atts.length) : lastNo 0 (atts.take (k + 1)) = atts[k].1 := by rw [List.take_succ_eq_append_getElem hk, lastNo_snoc]
theorem attsF_at {many : Nat} {atts : List Att} {k : Nat} (hk : k < atts.length) (h0 : attsF many 0 (atts.take k) = 0) : attsF many 0 (atts.take (k + 1)) = if atts[k].1 < 1 ∨ 1000000 < atts[k].1 then 1 else if atts[k].1 ≤ lastNo 0 (atts.take k) then 7 else if splF many atts[k].2 ≠ 0 then splF many atts[k].2 else 0 := by
  rw [List.take_succ_eq_append_getElem hk, attsF_go _ _ _ _ h0]; rfl
theorem attsF_whole {many : Nat} {atts : List Att} (k : Nat) (h : attsF many 0 (atts.take k) ≠ 0) : attsF many 0 atts = attsF many 0 (atts.take k) := by
  have := attsF_stop many (atts.take k) (atts.drop k) 0 h
  rwa [List.take_append_drop] at this
theorem histF_atts {segs : List (List UInt8)} {atts : List Att} (n1 : ¬ segs.length = 0) (n2 : ¬ 60 < segs.length) (h0 : segsF [] segs = 0) (h : ¬ 500 < atts.length) : histF segs atts = attsF segs.length 0 atts := by
  unfold histF; rw [if_neg n1, if_neg n2, h0, if_neg (by decide), if_neg h]
theorem attsF_no {many : Nat} {atts : List Att} {k : Nat} (hk : k < atts.length) (h0 : attsF many 0 (atts.take k) = 0) (h : atts[k].1 < 1 ∨ 1000000 < atts[k].1) : attsF many 0 atts = 1 := by
  have h1 : attsF many 0 (atts.take (k + 1)) = 1 := by rw [attsF_at hk h0, if_pos h]
  rw [attsF_whole (k + 1) (by rw [h1]; decide), h1]
theorem attsF_ord {many : Nat} {atts : List Att} {k : Nat} (hk : k + 1 < atts.length) (h0 : attsF many 0 (atts.take (k + 1)) = 0) (h : ¬ (atts[k + 1].1 < 1 ∨ 1000000 < atts[k + 1].1)) (ho : atts[k + 1].1 ≤ atts[k].1) : attsF many 0 atts = 7 := by
  have h1 : attsF many 0 (atts.take (k + 1 + 1)) = 7 := by rw [attsF_at hk h0, if_neg h, lastNo_take (by omega), if_pos ho]
  rw [attsF_whole (k + 1 + 1) (by rw [h1]; decide), h1]
/-- The number is behind the one before. -/
def upN (atts : List Att) (k : Nat) (h : k < atts.length) : Prop := ∀ j (_ : j + 1 = k), atts[j].1 < atts[k].1
theorem attsF_up {atts : List Att} {k : Nat} (hk : k < atts.length) (h : ¬ (atts[k].1 < 1 ∨ 1000000 < atts[k].1)) (hu : upN atts k hk) : ¬ atts[k].1 ≤ lastNo 0 (atts.take k) := by
  rcases k with _ | k
  · simp only [List.take_zero, lastNo]; omega
  · rw [lastNo_take (by omega)]
    have := hu k rfl
    omega
theorem attsF_spl {many : Nat} {atts : List Att} {k : Nat} (hk : k < atts.length) (h0 : attsF many 0 (atts.take k) = 0) (h : ¬ (atts[k].1 < 1 ∨ 1000000 < atts[k].1)) (hu : upN atts k hk) (hs : splF many atts[k].2 ≠ 0) : attsF many 0 atts = splF many atts[k].2 := by
  have h1 : attsF many 0 (atts.take (k + 1)) = splF many atts[k].2 := by rw [attsF_at hk h0, if_neg h, if_neg (attsF_up hk h hu), if_pos hs]
  rw [attsF_whole (k + 1) (by rw [h1]; exact hs), h1]
theorem attsF_next {many : Nat} {atts : List Att} {k : Nat} (hk : k < atts.length) (h0 : attsF many 0 (atts.take k) = 0) (h : ¬ (atts[k].1 < 1 ∨ 1000000 < atts[k].1)) (hu : upN atts k hk) (hs : splF many atts[k].2 = 0) : attsF many 0 (atts.take (k + 1)) = 0 := by
  rw [attsF_at hk h0, if_neg h, if_neg (attsF_up hk h hu), if_neg (by rw [hs]; decide)]
/-- A HISTORY WITHOUT FAULT IS RIGHT. -/
theorem histF_ok {segs : List (List UInt8)} {atts : List Att} (h : histF segs atts = 0) : HistOk segs atts := by
  unfold histF at h
  split at h
  · omega
  · rename_i n1
    split at h
    · omega
    · rename_i n2
      split at h
      · rename_i h3; exact absurd h h3
      · rename_i h3
        have h3 : segsF [] segs = 0 := by simpa using h3
        split at h
        · omega
        · rename_i h4
          have hs : ∀ k, k ≤ segs.length → segsF [] (segs.take k) = 0 := fun k _ => by
            rcases Int.decEq (segsF [] (segs.take k)) 0 with h5 | h5
            · exact absurd (segsF_whole k h5) (by rw [h3]; exact fun e => h5 e.symm)
            · exact h5
          have ha : ∀ k, k ≤ atts.length → attsF segs.length 0 (atts.take k) = 0 := fun k _ => by
            rcases Int.decEq (attsF segs.length 0 (atts.take k)) 0 with h5 | h5
            · exact absurd (attsF_whole k h5) (by rw [h]; exact fun e => h5 e.symm)
            · exact h5
          have hseg : ∀ k (hk : k < segs.length), keyB segs[k] = true ∧ segs[k] ∉ segs.take k := fun k hk => by
            have e := segsF_at hk (hs k (by omega))
            rw [hs (k + 1) hk] at e
            split at e
            · omega
            · rename_i h5
              split at e
              · omega
              · rename_i h6
                exact ⟨by simpa using h5, h6⟩
          have hatt : ∀ k (hk : k < atts.length), ¬ (atts[k].1 < 1 ∨ 1000000 < atts[k].1) ∧ ¬ atts[k].1 ≤ lastNo 0 (atts.take k) ∧ splF segs.length atts[k].2 = 0 := fun k hk => by
            have e := attsF_at hk (ha k (by omega))
            rw [ha (k + 1) hk] at e
            split at e
            · omega
            · rename_i h5
              split at e
              · omega
              · rename_i h6
                split at e
                · rename_i h7; exact absurd e.symm h7
                · rename_i h7
                  exact ⟨h5, h6, by simpa using h7⟩
          exact ⟨by omega, by omega, fun i hi => (hseg i hi).1, fun i hi => (hseg i hi).2, by omega, fun i hi => by have := (hatt i hi).1; omega, fun i hi => by have := (hatt (i + 1) hi).2.1; rw [lastNo_take (by omega)] at this; omega, fun i hi => splF_ok (hatt i hi).2.2⟩
end Go.Proofs.YtlinbaojkmcbeaaGreatDoor
/- Plain laws: what is right has no fault. No program in sight. -/
namespace Go.Proofs.YtlinbaojkmcbeaaGreatDoor
set_option linter.unusedVariables false
set_option linter.unusedSimpArgs false
open Go.RowKit

theorem splF_zero {many : Nat} {l : List Int} (h : SplOk many l) : splF many l = 0 := by
  rcases Nat.eq_zero_or_pos l.length with h0 | h0
  · exact splF_nil h0
  · have hs : ∀ k, k ≤ l.length → sgl 0 (l.take k) = 0 := by
      intro k
      induction k with
      | zero => intro _; rfl
      | succ k ih =>
        intro hk
        have b := h.bd k (by omega)
        refine sgl_next (by omega) (ih (by omega)) (by omega) (fun hy => ?_)
        have := h.up k (by omega) hy.1
        omega
    have h1 := hs l.length (Nat.le_refl _)
    rw [List.take_length] at h1
    have hl := h.len
    rw [splF_end (by omega) h1 (by omega), if_neg (h.fin (by omega))]
theorem histF_zero {segs : List (List UInt8)} {atts : List Att} (h : HistOk segs atts) : histF segs atts = 0 := by
  have n1 := h.n1
  have n2 := h.n2
  have m := h.m
  have hs : ∀ k, k ≤ segs.length → segsF [] (segs.take k) = 0 := by
    intro k
    induction k with
    | zero => intro _; rfl
    | succ k ih => intro hk; exact segsF_next (by omega) (ih (by omega)) (h.key k (by omega)) (h.new k (by omega))
  have h1 := hs segs.length (Nat.le_refl _)
  rw [List.take_length] at h1
  rw [histF_atts (by omega) (by omega) h1 (by omega)]
  have ha : ∀ k, k ≤ atts.length → attsF segs.length 0 (atts.take k) = 0 := by
    intro k
    induction k with
    | zero => intro _; rfl
    | succ k ih =>
      intro hk
      have hk' : k < atts.length := by omega
      have b := h.no k hk'
      refine attsF_next hk' (ih (by omega)) (by omega) ?_ (splF_zero (h.spl k hk'))
      unfold upN
      intro j hj
      subst hj
      exact h.up j hk'
  have h2 := ha atts.length (Nat.le_refl _)
  rwa [List.take_length] at h2
end Go.Proofs.YtlinbaojkmcbeaaGreatDoor
/- The sum of best at the one history that the laws use as their last test. -/
namespace Go.Proofs.YtlinbaojkmcbeaaGreatDoor
set_option linter.unusedVariables false
set_option linter.unusedSimpArgs false
open Go.RowKit Go.Sort

def exSegs : List (List UInt8) := [[97], [98]]
def exAtts : List Att := [(1, [10, 25]), (2, [0, 20]), (3, [9])]
theorem ex_spl1 : SplOk 2 [10, 25] := ⟨by decide, by decide, by decide, by decide⟩
theorem ex_spl2 : SplOk 2 [0, 20] := ⟨by decide, by decide, by decide, by decide⟩
theorem ex_spl3 : SplOk 2 [9] := ⟨by decide, by decide, by decide, by decide⟩
theorem ex_ok : HistOk exSegs exAtts := by
  refine ⟨by decide, by decide, by decide, by decide, by decide, by decide, fun i h => (match i, h with | 0, _ => (by decide : (1 : Int) < 2) | 1, _ => (by decide : (2 : Int) < 3)), fun i h => ?_⟩
  match i, h with
  | 0, _ => exact ex_spl1
  | 1, _ => exact ex_spl2
  | 2, _ => exact ex_spl3
theorem ex_sum : sumV exSegs exAtts = 20 := by decide
theorem ex_hist {W : World} {a b c d e : Nat} (ha : Blk W a 9 #[.string ⟨#[97]⟩, .string ⟨#[98]⟩]) (hb : Blk W b 3 #[.int .i64 10, .int .i64 25]) (hc : Blk W c 3 #[.int .i64 0, .int .i64 20]) (hd : Blk W d 3 #[.int .i64 9])
    (he : Blk W e 90 #[.int .i64 1, .slice (some ⟨b, 0, none⟩) 2 2, .int .i64 2, .slice (some ⟨c, 0, none⟩) 2 2, .int .i64 3, .slice (some ⟨d, 0, none⟩) 1 1]) : Hist W 0 (some ⟨a, 0, none⟩) (some ⟨e, 0, none⟩) exSegs exAtts := by
  refine ⟨Row.lit (n := 2) (size := 1) ha (Nat.zero_le _) rfl, _, Row.lit (n := 3) (size := 2) he (Nat.zero_le _) rfl, fun i h => ?_⟩
  match i, h with
  | 0, _ => exact ⟨_, _, rfl, rfl, Row.lit (n := 2) (size := 1) hb (Nat.zero_le _) rfl⟩
  | 1, _ => exact ⟨_, _, rfl, rfl, Row.lit (n := 2) (size := 1) hc (Nat.zero_le _) rfl⟩
  | 2, _ => exact ⟨_, _, rfl, rfl, Row.lit (n := 1) (size := 1) hd (Nat.zero_le _) rfl⟩
theorem ex_sumOfBest {W : World} {a b c d e : Nat} (ha : Blk W a 9 #[.string ⟨#[97]⟩, .string ⟨#[98]⟩]) (hb : Blk W b 3 #[.int .i64 10, .int .i64 25]) (hc : Blk W c 3 #[.int .i64 0, .int .i64 20]) (hd : Blk W d 3 #[.int .i64 9])
    (he : Blk W e 90 #[.int .i64 1, .slice (some ⟨b, 0, none⟩) 2 2, .int .i64 2, .slice (some ⟨c, 0, none⟩) 2 2, .int .i64 3, .slice (some ⟨d, 0, none⟩) 1 1]) :
    Calls Tryz.prog 47 #[.agg #[.slice (some ⟨a, 0, none⟩) 2 2, .slice (some ⟨e, 0, none⟩) 3 3]] W fun r w' => r = .returned (.tuple #[.int .i64 20, .bool true, .int .i64 0]) ∧ Below W.heap.size W w' := by
  have h := sumOfBest_ok (some ⟨a, 0, none⟩) (some ⟨e, 0, none⟩) 2 3 0 exSegs exAtts W (ex_hist ha hb hc hd he) (by decide) ex_ok
  rw [ex_sum] at h
  exact h
end Go.Proofs.YtlinbaojkmcbeaaGreatDoor
