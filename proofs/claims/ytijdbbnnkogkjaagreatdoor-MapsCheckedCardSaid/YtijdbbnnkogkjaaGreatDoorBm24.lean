/- Texts of this seat, laid together: MqZ. -/
import Derived.Test.YtijdbbnnkogkjaaGreatDoorBm22
import Derived.Test.YtijdbbnnkogkjaaGreatDoorBm23
/- The walk of the reference's TricksFault. -/
namespace Go.Proofs.YtijdbbnnkogkjaaGreatDoor
set_option linter.unusedVariables false
set_option linter.unusedSimpArgs false
open Go.RowKit

set_option maxHeartbeats 4000000 in
set_option maxRecDepth 100000 in
theorem rTricksFault_any (lo ca cd : Nat) (A : Option Addr) (rs : List RoomE) (D : Option Addr) (ds : List DoorE) (st gl : List UInt8) (lo2 c2 : Nat) (B : Option Addr) (l : List (List UInt8)) (w : World) (hA : MapW w lo A rs D ds) (hr : Row w lo2 1 B l.length (strs l)) (hl : l.length ≤ 1000000000) :
  Calls Tryz.prog 28 #[mapV A rs ca D ds cd st gl,.slice B l.length c2] w fun e w' => e = .returned (.int .i64 (tricksE rs ds st gl l)) ∧ Below w.heap.size w w':=by
 have hC : McC w (w.alloc (.cells #[.slice A rs.length ca,.slice D ds.length cd,.string ⟨st.toArray⟩,.string ⟨gl.toArray⟩] 29)) w.heap.size lo A rs ca D ds cd st gl:=⟨hA.alloc _,Blk.new _ _ _,(Below.refl _ w).alloc (Nat.le_refl _) _⟩
 have HKB : Hid ((onceT (allK ds)).length ≤ 1000000000):=Lib.hid (by have:=allK_le ds; have:=onceT_le (allK ds); have:=hA.s.dl; omega)
 have HTE : Hid (tricksE rs ds st gl l = if mapE rs ds st gl ≠ 0 then mapE rs ds st gl else scanF (trickK (onceT (allK ds)) l) l.length):=Lib.hid rfl
 have HR:=Lib.hid hr
 clear hA hr
 unfold mapV
 simp only [encStr]
 go_enter Tryz.func28,Tryz.ntmps28
 go_wp2_with fail
 generalize w.alloc (.cells #[.slice A rs.length ca,.slice D ds.length cd,.string ⟨st.toArray⟩,.string ⟨gl.toArray⟩] 29) = w0 at *
 have hcm:=mapFault_any lo ca cd A rs D ds st gl w0 hC.m
 unfold mapV at hcm
 simp only [encStr] at hcm
 refine hcm.mono ?_
 rintro e w1 ⟨rfl,hb1⟩
 replace hC:=hC.below hb1
 clear hb1 hcm
 obtain ⟨me,hme⟩ : ∃ me,me = mapE rs ds st gl:=⟨_,rfl⟩
 rw [← hme] at HTE ⊢
 clear hme
 by_cases h0 : me = 0
 ·have HT2 : Hid (tricksE rs ds st gl l = scanF (trickK (onceT (allK ds)) l) l.length):=Lib.hid (by rw [HTE.out,if_neg (fun h => h h0)])
  have d0 : (me != 0) = false:=by rw [h0]; rfl
  clear h0 HTE
  obtain ⟨x0,x1,x2,x3⟩:=hC.cells
  go_wp2_with fail
  have hrt:=rTricks_any lo ca cd A rs D ds st gl w1 hC.m
  unfold mapV at hrt
  simp only [encStr] at hrt
  refine hrt.mono ?_
  clear hrt x0 x1 x2 x3
  rintro e w2 ⟨A2,k2,rfl,ho2,hb2⟩
  replace hC:=hC.below hb2
  have HK:=Lib.hid (row_down0 (Row.of_own ho2))
  have hbw2:=hC.b
  clear hb2 ho2 hC d0
  generalize onceT (allK ds) = K at *
  go_wp2_with fail
  go_loopw [18] (fun i wr => ∃ k : Nat,k ≤ l.length ∧ i = .int .i64 k ∧ Hid (∀ j,j < k → trickK K l j = 0) ∧ Below w2.heap.size w2 wr) (fun i _ => l.length - (intOf i).toNat)
  case atStart => exact ⟨0,Nat.zero_le _,rfl,Lib.hid (fun j hj => by omega),Below.refl _ _⟩
  case round =>
   obtain ⟨k,hk,rfl,HZ,hbr⟩:=hrel
   have hbw:=below_up hbw2 hbr
   have HBW:=Lib.hid hbw
   by_cases hkn : k < l.length
   ·obtain ⟨b,off,rfl,hbs,hcell⟩:=strs_at (HR.out.below hbw) hkn
    have c0:=hcell k hkn
    have HNO:=Lib.hid (trickK_no (K:=K) hkn)
    have HZE : Hid (¬ 0 < k → l[k] ∈ K → trickK K l k = 0):=Lib.hid (fun h0 => trickK_zero h0 hkn)
    have HPO : Hid (∀ h0 : 0 < k,l[k] ∈ K → trickK K l k = if l[k - 1] < l[k] then 0 else 7):=Lib.hid (fun h0 => trickK_pos h0 hkn)
    have HLQ : Hid (∀ h0 : 0 < k,(Op.bytesLess l[k] l[k - 1] || l[k] == l[k - 1]) = !decide (l[k - 1] < l[k])):=Lib.hid (fun h0 => leq_lt _ _)
    have HCE:=Lib.hid hcell
    have HKN:=Lib.hid hkn
    have hcon:=containsS_any A2 k2 0 K l[k] wr (HK.out.below hbr) HKB.out
    clear hcell hbw
    generalize hx : l[k] = x at *
    clear hx
    unfold encStr at c0 hcon
    by_cases hin : x ∈ K
    ·rw [decide_eq_true hin] at hcon
     by_cases hk0 : k = 0
     ·have d3 : ¬ 0 < k:=by omega
      have HN:=Lib.hid (step_all HZ.out (HZE.out d3 hin))
      clear hin hk0
      go_wp2_with fail
      refine hcon.mono ?_
      rintro e w3 ⟨rfl,rfl⟩
      clear hcon
      go_wp2_with fail
      go_roundw
      case rel => exact ⟨k + 1,by omega,by go_num,HN,hbr⟩
      case measure => simp [intOf]; omega
     ·have d3 : 0 < k:=by omega
      have c1:=HCE.out (k - 1) (by omega)
      have wk : IntKind.i64.wrap ((k : Int) - 1) = ((k - 1 : Nat) : Int):=by rw [IntWalk.i64_in _ ⟨by omega,by omega⟩]; omega
      have HRP:=Lib.hid (HPO.out d3 hin)
      have hq:=HLQ.out d3
      generalize l[k - 1] = y at *
      unfold encStr at c1
      obtain ⟨p1,h1⟩ : ∃ p1,Op.bytesLess x y = p1:=⟨_,rfl⟩
      obtain ⟨p2,h2⟩ : ∃ p2,(x == y) = p2:=⟨_,rfl⟩
      rw [h1,h2] at hq
      clear hin hk0
      by_cases hlt : y < x
      ·have hp : p1 = false ∧ p2 = false:=by
        rw [decide_eq_true hlt] at hq
        cases p1 <;> cases p2 <;> simp at hq ⊢
       obtain ⟨rfl,rfl⟩:=hp
       have HN:=Lib.hid (step_all HZ.out (by rw [HRP.out,if_pos hlt]))
       clear hq hlt
       go_wp2_with fail
       refine hcon.mono ?_
       rintro e w3 ⟨rfl,rfl⟩
       clear hcon
       go_wp2_with fail
       go_roundw
       case rel => exact ⟨k + 1,by omega,by go_num,HN,hbr⟩
       case measure => simp [intOf]; omega
      ·have HV : Hid (tricksE rs ds st gl l = 7):=Lib.hid (by
        have h5:=HRP.out
        rw [if_neg hlt] at h5
        rw [HT2.out,scanF_hit HKN.out HZ.out (by rw [h5]; decide),h5])
       rw [decide_eq_false hlt] at hq
       have hp : p1 = true ∨ p1 = false ∧ p2 = true:=by
        cases p1 <;> cases p2 <;> simp at hq ⊢
       clear hq hlt
       rcases hp with rfl | ⟨rfl,rfl⟩
       all_goals
        go_wp2_with fail
        refine hcon.mono ?_
        rintro e w3 ⟨rfl,rfl⟩
        clear hcon
        go_wp2_with fail
        go_ret
        exact ⟨ret_int' HV.out.symm,HBW.out⟩
    ·rw [decide_eq_false hin] at hcon
     have HV : Hid (tricksE rs ds st gl l = 5):=Lib.hid (by
      have h5:=HNO.out hin
      rw [HT2.out,scanF_hit HKN.out HZ.out (by rw [h5]; decide),h5])
     clear hin
     go_wp2_with fail
     refine hcon.mono ?_
     rintro e w3 ⟨rfl,rfl⟩
     clear hcon
     go_wp2_with fail
     go_ret
     exact ⟨ret_int' HV.out.symm,HBW.out⟩
   ·have hke : k = l.length:=by omega
    subst hke
    have HV : Hid (tricksE rs ds st gl l = 0):=Lib.hid (by rw [HT2.out]; exact scanF_none HZ.out)
    clear hbw
    go_wp2_with fail
    go_ret
    exact ⟨ret_int' HV.out.symm,HBW.out⟩
 ·have HV : Hid (tricksE rs ds st gl l = me):=Lib.hid (by rw [HTE.out,if_pos h0])
  have d0 : (me != 0) = true:=bne_iff_ne.2 h0
  clear h0
  go_wp2_with fail
  go_ret
  exact ⟨ret_int' HV.out.symm,hC.b⟩
end Go.Proofs.YtijdbbnnkogkjaaGreatDoor
