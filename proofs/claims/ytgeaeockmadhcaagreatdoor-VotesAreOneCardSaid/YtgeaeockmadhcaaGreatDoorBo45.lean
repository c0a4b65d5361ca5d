/- Texts of this seat, laid together: MkC. -/
import Derived.Test.YtgeaeockmadhcaaGreatDoorBo04
/- The walks of CheckMarks, Timed and filmed. -/
namespace Go.Proofs.YtgeaeockmadhcaaGreatDoor
set_option linter.unusedVariables false
set_option linter.unusedSimpArgs false
open Go.RowKit

set_option maxHeartbeats 2000000 in
theorem checkMarks_any (lo lo' c d : Nat) (A B : Option Addr) (v : List St) (l : List Mk) (w : World) (hr : Row w lo 3 A v.length (trs v)) (hrm : Row w lo' 2 B l.length (prs l)) (hl : v.length ≤ 1000000000) (hlm : l.length ≤ 1000000000) (hi : ∀ s ∈ v,s.2.1 ≤ 9223372036854775807) :
  Calls Tryz.prog 85 #[.slice A v.length c,.slice B l.length d] w fun e w' => e = .returned (.int .i64 (mkFault v l)) ∧ Below w.heap.size w w':=by
 have HI:=Lib.hid hi
 clear hi
 go_enter Tryz.func85,Tryz.ntmps85
 go_wp2_with fail
 refine (checkVideo_any _ _ _ v _ hr hl HI.out).mono ?_
 rintro e w1 ⟨rfl,hb1⟩
 by_cases h0 : vFault v = 0
 ·have h0' : (vFault v != 0) = false:=by simpa using h0
  have HE:=Lib.hid (mkFault_ok (l:=l) h0)
  have HG:=Lib.hid (vFault_ok h0)
  clear h0
  by_cases hlong : 200 < l.length
  ·have HF:=Lib.hid (mkF_long (all:=fsum v) hlong)
   go_wp2_with fail
   go_ret
   exact ⟨ret_int' (by rw [HE.out,HF.out]),hb1⟩
  ·have s1:=HG.out.sum
   have s0:=fsum_nonneg v HG.out.nonneg
   go_wp2_with fail
   refine (vframes_any _ _ _ v _ (hr.below hb1) hl HG.out.nonneg (by omega)).mono ?_
   rintro e w2 ⟨rfl,hb2⟩
   have hx:=below_up hb1 hb2
   clear hb1 hb2 h0'
   go_wp2_with fail
   go_loopw [7,22] (fun la i wr => ∃ k : Nat,k ≤ l.length ∧ i = .int .i64 k ∧ la = .int .i64 (lastM (l.take k)) ∧ Hid (∀ j,j < k → mF (fsum v) l j = 0) ∧ Below w.heap.size w wr) (fun _ i _ => l.length - (intOf i).toNat)
   case atStart => exact ⟨0,Nat.zero_le _,rfl,rfl,Lib.hid (fun j hj => absurd hj (by omega)),hx⟩
   case round =>
    obtain ⟨k,hk,rfl,rfl,hv,hbw⟩:=hrel
    have zw:=hbw.size
    by_cases hlt : k < l.length
    ·have hrw:=hrm.below hbw
     obtain ⟨b,off,hB,_,hbs,c0,c1⟩:=hrw.pr_at hlt
     have HBAD:=Lib.hid (mkF_bad (all:=fsum v) k (by omega) hlt hv.out)
     have HAT:=Lib.hid (mF_at (fsum v) l k hlt)
     have HLT:=Lib.hid (lastM_take l k hlt)
     have HP : Hid (∀ j,k = j + 1 → prevM l k = some (l.getD j (0,0))):=Lib.hid (by
      rintro j rfl
      simp only [prevM,Nat.add_one_ne_zero,if_false,Nat.add_sub_cancel]
      rw [List.getD_eq_getElem?_getD,List.getElem?_eq_getElem (by omega)]; rfl)
     have HCP : Hid (∀ j,k = j + 1 → wr.cell? ⟨b,off + j * 2,none⟩ = some (.int .i64 (l.getD j (0,0)).1)):=Lib.hid (by
      rintro j rfl
      obtain ⟨b',off',hB',_,_,c0',_⟩:=hrw.pr_at (k:=j) (by omega)
      rw [hB] at hB'
      injection hB' with hB'
      injection hB' with e1 e2
      subst e1 e2
      rw [List.getD_eq_getElem?_getD,List.getElem?_eq_getElem (by omega)]
      exact c0')
     subst hB
     generalize lastM (l.take k) = la at *
     generalize hxk : l[k] = x at *
     clear hxk hrw
     go_wp2_with fail
     refine (out_any _ _ _ _).mono ?_
     rintro e w3 ⟨rfl,rfl⟩
     by_cases h1 : 1 ≤ x.2 ∧ x.2 ≤ 5
     ·have h1' : (decide (x.2 < 1) || decide (5 < x.2)) = false:=by simp; omega
      rw [h1']
      clear h1'
      go_wp2_with fail
      refine (out_any _ _ _ _).mono ?_
      rintro e w3 ⟨rfl,rfl⟩
      by_cases h2 : 0 ≤ x.1 ∧ x.1 ≤ fsum v
      ·have h2' : (decide (x.1 < 0) || decide (fsum v < x.1)) = false:=by simp; omega
       rw [h2']
       clear h2'
       have HRE:=Lib.hid (mX_rest (p:=prevM l k) (last:=la) h1 h2)
       clear h1 h2
       rcases Nat.eq_zero_or_pos k with hk0 | hk0
       ·subst hk0
        have HRX : Hid (mF (fsum v) l 0 = if misB x.2 la = true then 16 else 0):=Lib.hid (by rw [HAT.out,HRE.out]; rfl)
        go_wp2_with fail
        go_quiet (fail)
        go_wp2_with fail
        refine (misplaced_any _ _ _).mono ?_
        rintro e w4 ⟨rfl,rfl⟩
        by_cases h4 : misB x.2 la = true
        ·rw [h4]
         have HF:=Lib.hid (HBAD.out (by rw [HRX.out,if_pos h4]; omega))
         go_wp2_with fail
         go_ret
         exact ⟨ret_int' (by rw [HE.out,HF.out,HRX.out,if_pos h4]),(by repeat (first | exact hbw | refine Below.alloc ?_ (by first | omega | (simp; omega)) _ | refine below_drewN' ?_ _ | refine Below.drew ?_))⟩
        ·have h4' : misB x.2 la = false:=by simpa using h4
         have HN : Hid (∀ j,j < 0 + 1 → mF (fsum v) l j = 0):=Lib.hid (by
          intro j hj
          have : j = 0:=by omega
          subst this
          rw [HRX.out,if_neg h4])
         rw [h4']
         clear h4 h4'
         by_cases h5 : x.2 = 5
         ·have t5 : (x.2 != 5) = false:=by simpa using h5
          have HLX : Hid (lastM (l.take (0 + 1)) = la):=Lib.hid (by rw [HLT.out,if_pos h5])
          clear h5
          go_wp2_with fail
          go_roundw
          case rel => exact ⟨0 + 1,by omega,by go_num,by rw [HLX.out],HN,(by repeat (first | exact hbw | refine Below.alloc ?_ (by first | omega | (simp; omega)) _ | refine below_drewN' ?_ _ | refine Below.drew ?_))⟩
          case measure => simp [intOf]; omega
         ·have t5 : (x.2 != 5) = true:=by simpa using h5
          have HLX : Hid (lastM (l.take (0 + 1)) = x.2):=Lib.hid (by rw [HLT.out,if_neg h5])
          clear h5
          go_wp2_with fail
          go_roundw
          case rel => exact ⟨0 + 1,by omega,by go_num,by rw [HLX.out],HN,(by repeat (first | exact hbw | refine Below.alloc ?_ (by first | omega | (simp; omega)) _ | refine below_drewN' ?_ _ | refine Below.drew ?_))⟩
          case measure => simp [intOf]; omega
       ·obtain ⟨j,rfl⟩ : ∃ j,k = j + 1:=⟨k - 1,by omega⟩
        have hcp:=cell_al (HCP.out j rfl) (.cells #[.int .i64 x.1,.int .i64 x.2] 101)
        have HRX : Hid (mF (fsum v) l (j + 1) = if x.1 < (l.getD j (0,0)).1 then 7 else if misB x.2 la = true then 16 else 0):=Lib.hid (by rw [HAT.out,HRE.out,HP.out j rfl]; simp)
        generalize (l.getD j (0,0)).1 = y at *
        have wj : IntKind.i64.wrap ((j : Int) + 1 - 1) = j:=by rw [show (j : Int) + 1 - 1 = j by omega]; exact IntWalk.i64_in _ ⟨by omega,by omega⟩
        by_cases h3 : x.1 < y
        ·have t3 : decide (x.1 < y) = true:=by simpa using h3
         have HF:=Lib.hid (HBAD.out (by rw [HRX.out,if_pos h3]; omega))
         go_wp2_with fail
         go_quiet (fail)
         clear wj
         go_wp2_with fail
         go_ret
         exact ⟨ret_int' (by rw [HE.out,HF.out,HRX.out,if_pos h3]),(by repeat (first | exact hbw | refine Below.alloc ?_ (by first | omega | (simp; omega)) _ | refine below_drewN' ?_ _ | refine Below.drew ?_))⟩
        ·have t3 : decide (x.1 < y) = false:=by simpa using h3
         have H3:=Lib.hid h3
         clear h3
         go_wp2_with fail
         go_quiet (fail)
         clear wj
         go_wp2_with fail
         refine (misplaced_any _ _ _).mono ?_
         rintro e w4 ⟨rfl,rfl⟩
         by_cases h4 : misB x.2 la = true
         ·rw [h4]
          have HF:=Lib.hid (HBAD.out (by rw [HRX.out,if_neg (by have:=H3.out; omega : ¬ x.1 < y),if_pos h4]; omega))
          go_wp2_with fail
          go_ret
          exact ⟨ret_int' (by rw [HE.out,HF.out,HRX.out,if_neg (by have:=H3.out; omega : ¬ x.1 < y),if_pos h4]),(by repeat (first | exact hbw | refine Below.alloc ?_ (by first | omega | (simp; omega)) _ | refine below_drewN' ?_ _ | refine Below.drew ?_))⟩
         ·have h4' : misB x.2 la = false:=by simpa using h4
          have HN : Hid (∀ i,i < j + 1 + 1 → mF (fsum v) l i = 0):=Lib.hid (by
           intro i hi
           rcases Nat.lt_or_ge i (j + 1) with h | h
           ·exact hv.out i h
           ·have : i = j + 1:=by omega
            subst this
            rw [HRX.out,if_neg (by have:=H3.out; omega : ¬ x.1 < y),if_neg h4])
          rw [h4']
          clear h4 h4'
          by_cases h5 : x.2 = 5
          ·have t5 : (x.2 != 5) = false:=by simpa using h5
           have HLX : Hid (lastM (l.take (j + 1 + 1)) = la):=Lib.hid (by rw [HLT.out,if_pos h5])
           clear h5
           go_wp2_with fail
           go_roundw
           case rel => exact ⟨j + 1 + 1,by omega,by go_num,by rw [HLX.out],HN,(by repeat (first | exact hbw | refine Below.alloc ?_ (by first | omega | (simp; omega)) _ | refine below_drewN' ?_ _ | refine Below.drew ?_))⟩
           case measure => simp [intOf]; omega
          ·have t5 : (x.2 != 5) = true:=by simpa using h5
           have HLX : Hid (lastM (l.take (j + 1 + 1)) = x.2):=Lib.hid (by rw [HLT.out,if_neg h5])
           clear h5
           go_wp2_with fail
           go_roundw
           case rel => exact ⟨j + 1 + 1,by omega,by go_num,by rw [HLX.out],HN,(by repeat (first | exact hbw | refine Below.alloc ?_ (by first | omega | (simp; omega)) _ | refine below_drewN' ?_ _ | refine Below.drew ?_))⟩
           case measure => simp [intOf]; omega
      ·have h2' : (decide (x.1 < 0) || decide (fsum v < x.1)) = true:=by simp; omega
       have HA:=Lib.hid (mX_arg (p:=prevM l k) (last:=la) h1 h2)
       have HF:=Lib.hid (HBAD.out (by rw [HAT.out,HA.out]; omega))
       rw [h2']
       go_wp2_with fail
       go_ret
       exact ⟨ret_int' (by rw [HE.out,HF.out,HAT.out,HA.out]),(by repeat (first | exact hbw | refine Below.alloc ?_ (by first | omega | (simp; omega)) _ | refine below_drewN' ?_ _ | refine Below.drew ?_))⟩
     ·have h1' : (decide (x.2 < 1) || decide (5 < x.2)) = true:=by simp; omega
      have HA:=Lib.hid (mX_kind (all:=fsum v) (p:=prevM l k) (last:=la) h1)
      have HF:=Lib.hid (HBAD.out (by rw [HAT.out,HA.out]; omega))
      rw [h1']
      go_wp2_with fail
      go_ret
      exact ⟨ret_int' (by rw [HE.out,HF.out,HAT.out,HA.out]),(by repeat (first | exact hbw | refine Below.alloc ?_ (by first | omega | (simp; omega)) _ | refine below_drewN' ?_ _ | refine Below.drew ?_))⟩
    ·have hkk : k = l.length:=by omega
     subst hkk
     have HF:=Lib.hid (mkF_good (by omega) hv.out)
     rw [List.take_length]
     by_cases h2 : lastM l = 2
     ·have t2 : (lastM l != 2) = false:=by simpa using h2
      have HF2 : Hid (mkF (fsum v) l = 0):=Lib.hid (by rw [HF.out,if_pos h2])
      clear h2
      go_wp2_with fail
      go_ret
      exact ⟨ret_int' (by rw [HE.out,HF2.out]),hbw⟩
     ·have t2 : (lastM l != 2) = true:=by simpa using h2
      have HF2 : Hid (mkF (fsum v) l = 8):=Lib.hid (by rw [HF.out,if_neg h2])
      clear h2
      go_wp2_with fail
      go_ret
      exact ⟨ret_int' (by rw [HE.out,HF2.out]),hbw⟩
 ·have h0' : (vFault v != 0) = true:=by simpa using h0
  have HE:=Lib.hid (mkFault_bad (l:=l) h0)
  clear h0
  go_wp2_with fail
  go_ret
  exact ⟨ret_int' HE.out.symm,hb1⟩

def tmE (v : List St) (l : List Mk) : Int:=if mkFault v l = 0 then (tS v l).2.2.getLastD 0 else 0
theorem tmE_ok {v : List St} {l : List Mk} (h : mkFault v l = 0) : tmE v l = (tS v l).2.2.getLastD 0:=by simp [tmE,h]
theorem tmE_bad {v : List St} {l : List Mk} (h : ¬ mkFault v l = 0) : tmE v l = 0:=by simp [tmE,h]
theorem mkFault_zero {v : List St} {l : List Mk} (h : mkFault v l = 0) : vFault v = 0 ∧ mkF (fsum v) l = 0:=by
 by_cases h0 : vFault v = 0
 ·exact ⟨h0,by rw [mkFault_ok h0] at h; exact h⟩
 ·rw [mkFault_bad h0] at h; exact absurd h h0
theorem tS_some (v : List St) (l : List Mk) (h : ∃ x ∈ l,x.2 = 2) : 0 < (tS v l).2.2.length:=by
 suffices H : ∀ s : Int × Int × List Int,(0 < s.2.2.length ∨ ∃ x ∈ l,x.2 = 2) → 0 < (l.foldl (tstep v) s).2.2.length from H _ (.inr h)
 clear h
 induction l with
 | nil => intro s h; rcases h with h | ⟨x,hx,_⟩; exact h; simp at hx
 | cons y l ih =>
  intro s h
  rw [List.foldl_cons]
  apply ih
  by_cases h1 : y.2 = 1 ∨ y.2 = 4
  ·rw [tstep_on _ _ _ h1]
   rcases h with h | ⟨x,hx,h2⟩
   ·exact .inl h
   ·rcases List.mem_cons.1 hx with rfl | hx
    ·omega
    ·exact .inr ⟨x,hx,h2⟩
  ·by_cases h3 : y.2 = 3
   ·rw [tstep_off _ _ _ h3]
    rcases h with h | ⟨x,hx,h2⟩
    ·exact .inl h
    ·rcases List.mem_cons.1 hx with rfl | hx
     ·omega
     ·exact .inr ⟨x,hx,h2⟩
   ·rw [tstep_out _ _ _ h1 h3]
    exact .inl (by simp)
theorem last_mem (l : List Mk) (h : lastM l = 2) : ∃ x ∈ l,x.2 = 2:=by
 suffices H : ∀ a : Int,l.foldl (fun a (x : Mk) => if x.2 = 5 then a else x.2) a = 2 → a = 2 ∨ ∃ x ∈ l,x.2 = 2 from by
  rcases H 0 h with h | h
  ·omega
  ·exact h
 clear h
 induction l with
 | nil => intro a h; exact .inl h
 | cons y l ih =>
  intro a h
  rw [List.foldl_cons] at h
  rcases ih _ h with h | ⟨x,hx,h2⟩
  ·by_cases h5 : y.2 = 5
   ·rw [if_pos h5] at h; exact .inl h
   ·rw [if_neg h5] at h; exact .inr ⟨y,by simp,h⟩
  ·exact .inr ⟨x,by simp [hx],h2⟩

set_option maxHeartbeats 1000000 in
theorem timed_any (lo lo' c d : Nat) (A B : Option Addr) (v : List St) (l : List Mk) (w : World) (hr : Row w lo 3 A v.length (trs v)) (hrm : Row w lo' 2 B l.length (prs l)) (hl : v.length ≤ 1000000000) (hlm : l.length ≤ 1000000000) (hi : ∀ s ∈ v,s.2.1 ≤ 9223372036854775807) :
  Calls Tryz.prog 65 #[.slice A v.length c,.slice B l.length d] w fun e w' => e = .returned (.tuple #[.int .i64 (tmE v l),.int .i64 (mkFault v l)]) ∧ Below w.heap.size w w':=by
 go_enter Tryz.func65,Tryz.ntmps65
 go_wp2_with fail
 refine (checkMarks_any lo lo' _ _ _ _ v l _ hr hrm hl hlm hi).mono ?_
 rintro e w1 ⟨rfl,hb1⟩
 clear hi
 by_cases h0 : mkFault v l = 0
 ·have h0' : (mkFault v l != 0) = false:=by simpa using h0
  obtain ⟨hv,hm⟩:=mkFault_zero h0
  have HG:=Lib.hid (vFault_ok hv)
  have HM:=Lib.hid (mkF_ok hm)
  have H0:=Lib.hid h0
  clear h0 hv hm
  have hln:=HM.out.1
  have hsum:=HG.out.sum
  go_wp2_with fail
  refine (newFilm_any _ _ _ v _ (hr.below hb1) HG.out).mono ?_
  rintro e w2 ⟨g,rfl,hfm,hb2⟩
  have hx:=below_up hb1 hb2
  go_wp2_with fail
  refine (end_any g lo lo' _ _ _ _ v l _ hfm (hrm.below hx) HG.out (by omega) HM.out.2.2.2.1 (fun x hx => by have:=HM.out.2.2.1 x hx; omega) (tS_some v l (last_mem l HM.out.2.1))).mono ?_
  rintro e w3 ⟨rfl,hb3⟩
  go_wp2_with fail
  go_ret2
  exact ⟨ret2_is (by rw [tmE_ok H0.out,List.getLastD_eq_getLast?]; rfl) (by rw [H0.out]; rfl),below_up hx hb3⟩
 ·have h0' : (mkFault v l != 0) = true:=by simpa using h0
  have H0:=Lib.hid h0
  clear h0
  go_wp2_with fail
  go_ret2
  exact ⟨ret2_is (by rw [tmE_bad H0.out]; rfl) rfl,hb1⟩

theorem film_ex : mkFault [(100,60,1)] [(10,1),(70,2)] = 0:=by decide
theorem time_ex : tmE [(100,60,1)] [(10,1),(70,2)] = 1000:=by decide

end Go.Proofs.YtgeaeockmadhcaaGreatDoor
