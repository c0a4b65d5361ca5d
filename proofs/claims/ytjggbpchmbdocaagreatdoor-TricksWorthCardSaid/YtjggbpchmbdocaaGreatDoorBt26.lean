/- Texts of this seat, laid together: Eqs. -/
import Derived.Handy
import Derived.Test.YtjggbpchmbdocaaGreatDoorBt14
import Derived.Test.YtjggbpchmbdocaaGreatDoorBt02
import Derived.Test.YtjggbpchmbdocaaGreatDoorBt21
/- The walks of slices.Equal and slices.Clone over strings. -/
namespace Go.Proofs.YtjggbpchmbdocaaGreatDoor
set_option linter.unusedVariables false
set_option linter.unusedSimpArgs false
open Go.RowKit Go.Sort

theorem equalS_any (A B : Option Addr) (c d lo lo' : Nat) (ps qs : List (List UInt8)) (w : World) (hr : Row w lo 1 A ps.length (strs ps)) (hr' : Row w lo' 1 B qs.length (strs qs)) (hl : ps.length ≤ 1000000000) (hl' : qs.length ≤ 1000000000) :
  Calls Tryz.prog 29 #[.slice A ps.length c,.slice B qs.length d] w fun e w' => e = .returned (.bool (decide (ps = qs))) ∧ ∃ q,w' = w.drewN q:=by
 by_cases hlen : ps.length = qs.length
 ·have h0 : ((ps.length : Int) != (qs.length : Int)) = false:=by simp [hlen]
  have HLEN:=Lib.hid hlen;clear hlen
  go_enter Tryz.func29,Tryz.ntmps29
  go_wp2_with fail
  go_loopw [13] (fun i wr => ∃ (k : Nat) (q : Nat),k ≤ ps.length ∧ i = .int .i64 k ∧ Hid (ps.take k = qs.take k) ∧ wr = w.drewN q) (fun i _ => ps.length - (intOf i).toNat)
  case atStart => exact ⟨0,0,Nat.zero_le _,rfl,Lib.hid rfl,rfl⟩
  case round =>
   obtain ⟨k,q,hk,rfl,htk,rfl⟩:=hrel
   by_cases hlt : k < ps.length
   ·obtain ⟨b,off,rfl,_,hbs,c0⟩:=hr.str_at hlt
    have hlt' : k < qs.length:=by have:=HLEN.out; omega
    obtain ⟨b',off',rfl,_,hbs',d0⟩:=hr'.str_at hlt'
    by_cases he : ps[k] = qs[k]
    ·have HN : Hid (ps.take (k + 1) = qs.take (k + 1)):=Lib.hid (by rw [List.take_succ_eq_append_getElem hlt,List.take_succ_eq_append_getElem hlt',htk.out,he])
     rw [← he] at d0;clear he;unfold encStr at c0 d0;generalize ps[k] = y at *
     have e1 : (y != y) = false:=by simp
     go_wp2_with fail
     go_quiet (fail)
     go_wp2_with fail;go_roundw
     case rel => exact ⟨k + 1,_,by omega,by go_num,HN,rfl⟩
     case measure => simp [intOf]; omega
    ·have HN : Hid (¬ ps = qs):=Lib.hid (fun h => he (by subst h; rfl))
     have e1 : (ps[k] != qs[k]) = true:=by simpa using he
     have e2 : (ps[k] == qs[k]) = false:=by simpa using he
     clear he;unfold encStr at c0 d0;generalize ps[k] = y at *;generalize qs[k] = z at *;go_wp2_with fail
     go_quiet (fail)
     go_wp2_with fail;go_ret;exact ⟨ret_bool' (by simp [HN.out]),_,World.drewN_drewN _ _ _⟩
   ·have HN : Hid (ps = qs):=Lib.hid (by
     have:=htk.out;have hh:=HLEN.out
     rwa [List.take_of_length_le (by omega),List.take_of_length_le (by omega)] at this)
    go_wp2_with fail;go_ret;exact ⟨ret_bool' (by simp [HN.out]),_,rfl⟩
 ·have HN : Hid (¬ ps = qs):=Lib.hid (fun h => hlen (by rw [h]))
  have h0 : ((ps.length : Int) != (qs.length : Int)) = true:=by simp; omega
  clear hlen
  go_enter Tryz.func29,Tryz.ntmps29
  go_wp2_with fail;go_ret;exact ⟨ret_bool' (by simp [HN.out]),0,rfl⟩
set_option maxHeartbeats 1000000 in
theorem cloneS_any (A : Option Addr) (c lo : Nat) (ss : List (List UInt8)) (w : World) (hr : Row w lo 1 A ss.length (strs ss)) (hl : ss.length ≤ 1000000000) :
  Calls Tryz.prog 101 #[.slice A ss.length c] w fun e w' => ∃ A' c',e = .returned (.slice A' ss.length c') ∧ w'.ownsRow w.heap.size 9 1 (.slice A' ss.length c') ss.length (strs ss) ∧ Below w.heap.size w w':=by
 have hnil:=fun (r : Option Addr) (n c : Nat) (w : World) => Lib.run_eql_slice_nil (P:=Tryz.prog) w 30 9 r n c 0 0 Tryz.underlying30
 cases A with
 | none =>
  have hz : ss.length = 0:=by
   rcases Nat.eq_zero_or_pos ss.length with h | h
   ·exact h
   ·obtain ⟨b,off,h1,_⟩:=hr.2 h
    cases h1
  have HZ:=Lib.hid hz;clear hz
  go_enter Tryz.func101,Tryz.ntmps101
  go_wp2_with fail;go_ret;refine ⟨none,0,?_,?_,Below.refl _ _⟩
  ·rw [HZ.out]; rfl
  ·have : ss = []:=List.eq_nil_of_length_eq_zero HZ.out
   subst this;exact World.ownsRow_nil _ _ _ _
 | some ad =>
  have hown0 : (w.alloc (.cells #[] 9)).ownsRow w.heap.size 9 1 (.slice (some ⟨w.heap.size,0,none⟩) 0 0) 0 []:=World.ownsRow_made w #[] 0 (Nat.le_refl _) (by simp [maxLen]) rfl
  go_enter Tryz.func101,Tryz.ntmps101
  go_wp2_with (at_builtin; go_must (refine wpList_app _ _ rfl _ _ ty_strs rfl hown0 rfl (hr.alloc _) rfl (strs_all _) (by omega) (by omega) (by simp) ?_))
  intro A5 c5 w5 hown5 hg5 _;go_wp2_with fail;go_ret;exact ⟨A5,c5,by first | rfl | simp,hown5,below_app hown0 ((Below.refl _ _).alloc (Nat.le_refl _) _) hg5 (Nat.le_refl _) (by simp)⟩
end Go.Proofs.YtjggbpchmbdocaaGreatDoor
