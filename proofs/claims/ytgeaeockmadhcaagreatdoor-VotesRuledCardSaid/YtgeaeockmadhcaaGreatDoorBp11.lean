/- Texts of this seat, laid together: SgE SgG Ha. -/
import Derived.Test.YtgeaeockmadhcaaGreatDoorBp10
import Derived.Test.YtgeaeockmadhcaaGreatDoorBp01
/- The walk of SumOfBest at a history that is right. -/
namespace Go.Proofs.YtgeaeockmadhcaaGreatDoor
set_option linter.unusedVariables false
set_option linter.unusedSimpArgs false
open Go.RowKit Go.Sort

end Go.Proofs.YtgeaeockmadhcaaGreatDoor
/- The walks of the faults of splits at any splits; slices.Index and Contains at numbers. -/
namespace Go.Proofs.YtgeaeockmadhcaaGreatDoor
set_option linter.unusedVariables false
set_option linter.unusedSimpArgs false
open Go.RowKit

theorem rin_any (n lo hi : Int) (w : World) : Calls Tryz.prog 40 #[.int .i64 n,.int .i64 lo,.int .i64 hi] w fun e w' => e = .returned (.bool (decide (lo ≤ n) && decide (n ≤ hi))) ∧ w = w':=by
 go_enter Tryz.func40,Tryz.ntmps40
 by_cases h : lo ≤ n
 ·have q : decide (lo ≤ n) = true:=by simpa using h
  rw [q]
  go_wp2_with fail
  go_ret
  exact ⟨by simp,rfl⟩
 ·have q : decide (lo ≤ n) = false:=by simpa using h
  rw [q]
  go_wp2_with fail
  go_ret
  exact ⟨by simp,rfl⟩
end Go.Proofs.YtgeaeockmadhcaaGreatDoor
/- The walks of what checks keys and splits, at any: base.Key, slices.Index and Contains at strings, segment.splitsFault. -/
namespace Go.Proofs.YtgeaeockmadhcaaGreatDoor
set_option linter.unusedVariables false
set_option linter.unusedSimpArgs false
open Go.RowKit Go.Sort

theorem keyB_of {s : ByteArray} (h0 : 0 < s.size) (h1 : s.size ≤ 40) (h2 : 97 ≤ s[0].toNat ∧ s[0].toNat ≤ 122) : keyB s.data.toList = s.data.toList.all keyC:=by
 have e : s.data.toList.length = s.size:=by simp
 have e0 : s.data.toList.headD 0 = s[0]:=by
  rw [List.headD_eq_head?_getD,List.head?_eq_getElem?,List.getElem?_eq_getElem (by omega)]
  rfl
 unfold keyB
 rw [e,e0,decide_eq_true h0,decide_eq_true h1,decide_eq_true h2.1,decide_eq_true h2.2]
 rfl
theorem keyB_not {s : ByteArray} (h : ¬ (0 < s.size ∧ s.size ≤ 40)) : keyB s.data.toList = false:=by
 have e : s.data.toList.length = s.size:=by simp
 unfold keyB
 rw [e]
 by_cases h0 : 0 < s.size
 ·rw [decide_eq_false (p:=s.size ≤ 40) (by omega)]; simp
 ·rw [decide_eq_false h0]; simp
theorem keyB_head {s : ByteArray} (h0 : 0 < s.size) (h : ¬ (97 ≤ s[0].toNat ∧ s[0].toNat ≤ 122)) : keyB s.data.toList = false:=by
 have e : s.data.toList.length = s.size:=by simp
 have e0 : s.data.toList.headD 0 = s[0]:=by
  rw [List.headD_eq_head?_getD,List.head?_eq_getElem?,List.getElem?_eq_getElem (by omega)]
  rfl
 unfold keyB
 rw [e0]
 by_cases h1 : 97 ≤ s[0].toNat
 ·rw [decide_eq_false (p:=s[0].toNat ≤ 122) (by omega)]; simp
 ·rw [decide_eq_false h1]; simp
theorem all_no {s : ByteArray} {k : Nat} (hk : k < s.size) (h : keyC s[k] = false) : s.data.toList.all keyC = false:=by
 rw [List.all_eq_false]
 refine ⟨s[k],?_,by rw [h]; decide⟩
 have : s[k] = s.data.toList[k]'(by simpa using hk):=rfl
 rw [this]; exact List.getElem_mem _
theorem all_yes {s : ByteArray} (h : ∀ k (hk : k < s.size),keyC s[k] = true) : s.data.toList.all keyC = true:=by
 rw [List.all_eq_true]
 intro c hc
 obtain ⟨k,hk,rfl⟩:=List.mem_iff_getElem.1 hc
 exact h k (by simpa using hk)
theorem keyC_bad {c : UInt8} (h : keyC c = false) : c.toNat < 48 ∧ c.toNat ≠ 45 ∨ 57 < c.toNat ∧ c.toNat < 97 ∧ c.toNat ≠ 95 ∨ 122 < c.toNat:=by
 unfold keyC at h
 simp only [Bool.or_eq_false_iff,Bool.and_eq_false_iff,decide_eq_false_iff_not,beq_eq_false_iff_ne] at h
 obtain ⟨⟨⟨h1,h2⟩,h3⟩,h4⟩:=h
 have h3' : c.toNat ≠ 45:=fun e => h3 (UInt8.toNat_inj.1 e)
 have h4' : c.toNat ≠ 95:=fun e => h4 (UInt8.toNat_inj.1 e)
 omega
set_option maxHeartbeats 1000000 in
theorem key_any (s : ByteArray) (w : World) : Calls Tryz.prog 46 #[.string s] w fun e w' => e = .returned (.bool (keyB s.data.toList)) ∧ w = w' := by
  by_cases h0 : 0 < s.size
  · have e1 : (s.toList == []) = false := by rw [ByteArray.toList_eq]; simp; intro h; have : s.size = 0 := by (have := congrArg Array.size h); simpa using this
                                             omega
    by_cases h1 : s.size ≤ 40
    · have c3 : decide ((40 : Int) < (s.size : Int)) = false := by simp; omega
      by_cases h2 : 97 ≤ s[0].toNat ∧ s[0].toNat ≤ 122
      · have HK := Lib.hid (keyB_of h0 h1 h2)
        have HN := Lib.hid (fun k (hk : k < s.size) (h : keyC s[k] = false) => (keyB_of h0 h1 h2).trans (all_no hk h))
        have c1 : decide ((s[0].toNat : Int) < 97) = false := by simp; omega
        have c2 : decide ((122 : Int) < (s[0].toNat : Int)) = false := by simp; omega
        obtain ⟨h4, h5⟩ := h2
        go_enter Tryz.func46, Tryz.ntmps46
        go_wp2_with fail
        go_loop [24] (fun i => ∃ k : Nat, k ≤ s.size ∧ i = .int .i64 k ∧ Hid (∀ j (hj : j < s.size), j < k → keyC s[j] = true)) (fun i => s.size - (intOf i).toNat)
        case atStart => exact ⟨0, Nat.zero_le _, rfl, Lib.hid (fun _ _ h => absurd h (Nat.not_lt_zero _))⟩
        case round =>
          obtain ⟨k, hk, rfl, HA⟩ := hrel
          by_cases hlt : k < s.size
          · cases hq : keyC s[k]
            · have HF := Lib.hid (HN.out k hlt hq)
              rcases keyC_bad hq with hc | hc | hc
              · have d1 : decide ((97 : Int) ≤ (s[k].toNat : Int)) = false := by simp; omega
                have d2 : decide ((48 : Int) ≤ (s[k].toNat : Int)) = false := by simp; omega
                have d4 : ((s[k].toNat : Int) == 45) = false := by simp; omega
                have d5 : ((s[k].toNat : Int) == 95) = false := by simp; omega
                clear hc hq
                go_wp2_with fail
                go_ret
                exact ⟨ret_bool' HF.out.symm, rfl⟩
              · have d1 : decide ((97 : Int) ≤ (s[k].toNat : Int)) = false := by simp; omega
                have d2 : decide ((48 : Int) ≤ (s[k].toNat : Int)) = true := by simp; omega
                have d3 : decide ((s[k].toNat : Int) ≤ 57) = false := by simp; omega
                have d4 : ((s[k].toNat : Int) == 45) = false := by simp; omega
                have d5 : ((s[k].toNat : Int) == 95) = false := by simp; omega
                clear hc hq
                go_wp2_with fail
                go_ret
                exact ⟨ret_bool' HF.out.symm, rfl⟩
              · have d1 : decide ((97 : Int) ≤ (s[k].toNat : Int)) = true := by simp; omega
                have d1' : decide ((s[k].toNat : Int) ≤ 122) = false := by simp; omega
                have d2 : decide ((48 : Int) ≤ (s[k].toNat : Int)) = true := by simp; omega
                have d3 : decide ((s[k].toNat : Int) ≤ 57) = false := by simp; omega
                have d4 : ((s[k].toNat : Int) == 45) = false := by simp; omega
                have d5 : ((s[k].toNat : Int) == 95) = false := by simp; omega
                clear hc hq
                go_wp2_with fail
                go_ret
                exact ⟨ret_bool' HF.out.symm, rfl⟩
            · have HA' : Hid (∀ j (hj : j < s.size), j < k + 1 → keyC s[j] = true) := Lib.hid (fun j hj hjk => by
                rcases Nat.lt_or_ge j k with h | h
                · exact HA.out j hj h
                · have : j = k := by omega
                  subst this; exact hq)
              have hc := keyC_cases hq
              rcases hc with hc | hc | hc | hc
              · have d1 : decide ((97 : Int) ≤ (s[k].toNat : Int)) = true := by simp; omega
                have d2 : decide ((s[k].toNat : Int) ≤ 122) = true := by simp; omega
                clear hc hq
                go_wp2_with fail
                go_round
                case rel => exact ⟨k + 1, by omega, by go_num, HA'⟩
                case measure => simp [intOf]; omega
              · have d1 : decide ((97 : Int) ≤ (s[k].toNat : Int)) = false := by simp; omega
                have d2 : decide ((48 : Int) ≤ (s[k].toNat : Int)) = true := by simp; omega
                have d3 : decide ((s[k].toNat : Int) ≤ 57) = true := by simp; omega
                clear hc hq
                go_wp2_with fail
                go_round
                case rel => exact ⟨k + 1, by omega, by go_num, HA'⟩
                case measure => simp [intOf]; omega
              · have d1 : decide ((97 : Int) ≤ (s[k].toNat : Int)) = false := by simp; omega
                have d2 : decide ((48 : Int) ≤ (s[k].toNat : Int)) = false := by simp; omega
                have d4 : ((s[k].toNat : Int) == 45) = true := by simp; omega
                clear hc hq
                go_wp2_with fail
                go_round
                case rel => exact ⟨k + 1, by omega, by go_num, HA'⟩
                case measure => simp [intOf]; omega
              · have d1 : decide ((97 : Int) ≤ (s[k].toNat : Int)) = false := by simp; omega
                have d2 : decide ((48 : Int) ≤ (s[k].toNat : Int)) = true := by simp; omega
                have d3 : decide ((s[k].toNat : Int) ≤ 57) = false := by simp; omega
                have d4 : ((s[k].toNat : Int) == 45) = false := by simp; omega
                have d5 : ((s[k].toNat : Int) == 95) = true := by simp; omega
                clear hc hq
                go_wp2_with fail
                go_round
                case rel => exact ⟨k + 1, by omega, by go_num, HA'⟩
                case measure => simp [intOf]; omega
          · have HT : Hid (keyB s.data.toList = true) := Lib.hid (by rw [HK.out]; exact all_yes (fun j hj => HA.out j hj (by omega)))
            go_wp2_with fail
            go_ret
            exact ⟨ret_bool' HT.out.symm, rfl⟩
      · have HF := Lib.hid (keyB_head h0 h2)
        by_cases h4 : 97 ≤ s[0].toNat
        · have c1 : decide ((s[0].toNat : Int) < 97) = false := by simp; omega
          have c2 : decide ((122 : Int) < (s[0].toNat : Int)) = true := by simp; omega
          clear h2
          go_enter Tryz.func46, Tryz.ntmps46
          go_wp2_with fail
          go_ret
          exact ⟨ret_bool' HF.out.symm, rfl⟩
        · have c1 : decide ((s[0].toNat : Int) < 97) = true := by simp; omega
          clear h2
          go_enter Tryz.func46, Tryz.ntmps46
          go_wp2_with fail
          go_ret
          exact ⟨ret_bool' HF.out.symm, rfl⟩
    · have HF := Lib.hid (keyB_not (s := s) (by omega))
      have c3 : decide ((40 : Int) < (s.size : Int)) = true := by simp; omega
      go_enter Tryz.func46, Tryz.ntmps46
      go_wp2_with fail
      go_ret
      exact ⟨ret_bool' HF.out.symm, rfl⟩
  · have HF := Lib.hid (keyB_not (s := s) (by omega))
    have e1 : (s.toList == []) = true := by rw [ByteArray.toList_eq]; simp; have : s.size = 0 := by omega
                                            exact Array.eq_empty_of_size_eq_zero this
    go_enter Tryz.func46, Tryz.ntmps46
    go_wp2_with fail
    go_ret
    exact ⟨ret_bool' HF.out.symm, rfl⟩

end Go.Proofs.YtgeaeockmadhcaaGreatDoor
