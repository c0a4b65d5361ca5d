/- Texts of this seat, laid together: LawInputsComeBack. -/
import Derived.Handy
import Derived.Test.YtggnccafmadacaaGreatDoorBi33
import Derived.Test.YtggnccafmadacaaGreatDoorBi36
import Derived.Test.YtggnccafmadacaaGreatDoorBi08
import Derived.Test.YtggnccafmadacaaGreatDoorBi47
/- For every list of numbers the law InputsComeBack returns true and leaves the list as it was: its walk. -/
namespace Go.Proofs.YtggnccafmadacaaGreatDoor
set_option linter.unusedVariables false
set_option linter.unusedSimpArgs false
open Go.RowKit Go.Sort

set_option maxHeartbeats 8000000 in
set_option maxRecDepth 100000 in
theorem inback_walk (A : Option Addr) (n c : Nat) (w : World) (hn : n ≤ 9223372036854775807)
  (hz : ∀ k,k < n → ∃ b off z,A = some ⟨b,off,none⟩ ∧ b < w.heap.size ∧ w.cell? ⟨b,off + k,none⟩ = some (.int .i64 z) ∧ I64 z) (hE : Env w) :
  LawCall 5 A n c w:=by
 have hstr:=str_make (c:=c) hn hz
 clear hz
 have hx : Below w.heap.size w (w.alloc (.cells #[.slice A n c,.int .i64 0] 25)):=(Below.refl _ _).alloc (Nat.le_refl _) _
 have hz0 : (w.alloc (.cells #[.slice A n c,.int .i64 0] 25)).heap.size = w.heap.size + 1:=by simp
 have HEB:=Lib.hid (EnvB.of hE)
 clear hE
 go_enter Tryz.func5,Tryz.ntmps5
 go_wp2_with fail
 generalize w.alloc (.cells #[.slice A n c,.int .i64 0] 25) = w0 at *
 have HZ0:=Lib.hid hz0
 have hgl : w.heap.size < w0.heap.size:=by omega
 clear hz0
 refine (rightPieces_any w.heap.size 0 _ hstr (by omega)).mono ?_
 rintro e w1 ⟨X,c',ps,rfl,hown,hl,hall,hs1,hg1⟩
 replace hx:=hx.grown hg1 (by omega) (fun k hk => by injection hk with hk; omega)
 have hrt:=rp_right hl hall
 have htl:=tidyT_len hrt
 obtain ⟨q1,q2,-⟩:=tidy_right hrt
 have HCM:=Lib.hid (input_comes q1 q2 (by omega))
 have HTV:=Lib.hid (inTextV_ok hrt)
 have HR0:=Lib.hid hrt
 have hql:=(inFault_ok q1).1
 have hr:=Row.of_own hown
 clear hstr hg1 hall hown q1 q2 hrt
 go_wp2_with fail
 refine (inText_any X c' _ ps _ hr (by omega) (HEB.out _ hx)).mono ?_
 rintro e w2 ⟨rfl,hb⟩
 rw [HTV.out]
 replace hr:=hr.below hb
 replace hs1:=hs1.keep hb
 replace hx:=below_up hx hb
 clear hb HTV
 generalize inT (tidyR ps) (tidyR ps).length = T at *
 go_wp2_with fail
 refine (inRead_any T _ (by omega) (HEB.out _ hx)).mono ?_
 rintro e w3 ⟨Y,cy,rfl,hry,hb⟩
 rw [HCM.out] at hry
 rw [HCM.out]
 dsimp only at *
 replace hr:=hr.below hb
 replace hs1:=hs1.keep hb
 replace hx:=below_up hx hb
 clear hb
 go_wp2_with fail
 refine (tidyF_any X c' _ ps _ hr (by omega)).mono ?_
 rintro e w4 ⟨Z,cz,rfl,hrz,hb⟩
 rw [HR0.out]
 replace hry:=hry.below hb
 replace hs1:=hs1.keep hb
 replace hx:=below_up hx hb
 clear hb hr
 go_wp2_with fail
 refine (equalP_any Y Z cy cz _ _ (tidyR ps) (tidyR ps) _ hry hrz (by omega) (by omega)).mono ?_
 rintro e w5 ⟨rfl,qn,rfl⟩
 have hb:=below_drewN' (Below.refl w4.heap.size w4) qn
 rw [decide_eq_true (show tidyR ps = tidyR ps from rfl)]
 replace hs1:=hs1.keep hb
 replace hx:=below_up hx hb
 clear hb hry hrz HCM HR0
 generalize w4.drewN qn = w5 at *
 go_wp2_with fail
 refine (inputString_any w.heap.size _ w.heap.size _ hs1 (by omega) (HEB.out.below hx) (Nat.le_refl _)).mono ?_
 rintro e w7 ⟨r,rfl,hr,hs2,hg2⟩
 replace hx:=hx.grown hg2 hx.size (fun k hk => by injection hk with hk; omega)
 clear hs1 hg2 hs2
 go_wp2_with fail
 refine (inRead_any r _ hr (HEB.out _ hx)).mono ?_
 rintro e w8 ⟨Y,cy,rfl,hry,hb⟩
 replace hx:=below_up hx hb
 clear hb
 by_cases he : (readI r).2.2 = 0
 ·obtain ⟨g1,g2,g3,g4⟩:=input_text he
  have HTV:=Lib.hid (inTextV_ok g1)
  have HTS:=Lib.hid (tidy_same g1 g2)
  have HTX:=Lib.hid g3
  have hyl:=(inFault_ok g1).1
  rw [he]
  clear he g1 g2 g3
  generalize (readI r).1 = S at *
  generalize (readI r).2.1 = ln at *
  go_wp2_with fail
  refine (inText_any Y cy _ S _ hry (by omega) (HEB.out _ hx)).mono ?_
  rintro e w9 ⟨rfl,hb⟩
  rw [HTV.out,HTS.out,HTX.out]
  replace hx:=below_up hx hb
  clear hb
  have eq : (r == r) = true:=by simp
  go_wp2_with fail
  refine (ready_any _).mono ?_
  rintro e w11 ⟨rfl,hb⟩
  go_wp2_with fail
  go_ret
  exact ⟨rfl,below_up hx hb⟩
 ·have dn : ((readI r).2.2 == 0) = false:=by simpa using he
  clear he
  generalize (readI r).1 = S at *
  generalize (readI r).2.1 = ln at *
  generalize (readI r).2.2 = en at *
  go_wp2_with fail
  refine (ready_any _).mono ?_
  rintro e w11 ⟨rfl,hb⟩
  go_wp2_with fail
  go_ret
  exact ⟨rfl,below_up hx hb⟩
end Go.Proofs.YtggnccafmadacaaGreatDoor
