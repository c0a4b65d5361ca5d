/- Texts of this seat, laid together: Eqs. -/
import Derived.Handy
import Derived.Test.YtbfphnknkbhpkaaGreatDoorBk203
import Derived.Test.YtbfphnknkbhpkaaGreatDoorBk202
import Derived.Test.YtbfphnknkbhpkaaGreatDoorBk207
/- The walks of slices.Equal and slices.Clone over strings. -/
namespace Go.Proofs.YtbfphnknkbhpkaaGreatDoor
set_option linter.unusedVariables false
set_option linter.unusedSimpArgs false
open Go.RowKit Go.Sort

theorem equalS_any (A B : Option Addr) (c d lo lo' : Nat) (ps qs : List (List UInt8)) (w : World) (hr : Row w lo 1 A ps.length (strs ps)) (hr' : Row w lo' 1 B qs.length (strs qs)) (hl : ps.length ≤ 1000000000) (hl' : qs.length ≤ 1000000000) :
  Calls Tryz.prog 13 #[.slice A ps.length c,.slice B qs.length d] w fun e w' => e = .returned (.bool (decide (ps = qs))) ∧ ∃ q,w' = w.drewN q:=by
 by_cases hlen : ps.length = qs.length
 ·have h0 : ((ps.length : Int) != (qs.length : Int)) = false:=by simp [hlen]
  have HLEN:=Lib.hid hlen
  clear hlen
  go_enter Tryz.func13,Tryz.ntmps13
  go_wp2_with fail
  go_loopw [13] (fun i wr => ∃ (k : Nat) (q : Nat),k ≤ ps.length ∧ i = .int .i64 k ∧ Hid (ps.take k = qs.take k) ∧ wr = w.drewN q) (fun i _ => ps.length - (intOf i).toNat)
  case atStart => exact ⟨0,0,Nat.zero_le _,rfl,Lib.hid rfl,rfl⟩
  case round =>
   obtain ⟨k,q,hk,rfl,htk,rfl⟩:=hrel
   by_cases hlt : k < ps.length
   ·obtain ⟨b,off,rfl,_,hbs,c0⟩:=hr.str_at hlt
    have hlt' : k < qs.length:=by have:=HLEN.out; omega
    obtain ⟨b',off',rfl,_,hbs',d0⟩:=hr'.str_at hlt'
    by_cases he : ps[k] = qs[k]
    ·have HN : Hid (ps.take (k + 1) = qs.take (k + 1)):=Lib.hid (by rw [List.take_succ_eq_append_getElem hlt,List.take_succ_eq_append_getElem hlt',htk.out,he])
     rw [← he] at d0
     clear he
     unfold encStr at c0 d0
     generalize ps[k] = y at *
     have e1 : (y != y) = false:=by simp
     go_wp2_with fail
     go_quiet (fail)
     go_wp2_with fail
     go_roundw
     case rel => exact ⟨k + 1,_,by omega,by go_num,HN,rfl⟩
     case measure => simp [intOf]; omega
    ·have HN : Hid (¬ ps = qs):=Lib.hid (fun h => he (by subst h; rfl))
     have e1 : (ps[k] != qs[k]) = true:=by simpa using he
     have e2 : (ps[k] == qs[k]) = false:=by simpa using he
     clear he
     unfold encStr at c0 d0
     generalize ps[k] = y at *
     generalize qs[k] = z at *
     go_wp2_with fail
     go_quiet (fail)
     go_wp2_with fail
     go_ret
     exact ⟨ret_bool' (by simp [HN.out]),_,World.drewN_drewN _ _ _⟩
   ·have HN : Hid (ps = qs):=Lib.hid (by
     have:=htk.out
     have hh:=HLEN.out
     rwa [List.take_of_length_le (by omega),List.take_of_length_le (by omega)] at this)
    go_wp2_with fail
    go_ret
    exact ⟨ret_bool' (by simp [HN.out]),_,rfl⟩
 ·have HN : Hid (¬ ps = qs):=Lib.hid (fun h => hlen (by rw [h]))
  have h0 : ((ps.length : Int) != (qs.length : Int)) = true:=by simp; omega
  clear hlen
  go_enter Tryz.func13,Tryz.ntmps13
  go_wp2_with fail
  go_ret
  exact ⟨ret_bool' (by simp [HN.out]),0,rfl⟩
end Go.Proofs.YtbfphnknkbhpkaaGreatDoor
