/- Texts of this seat, laid together: MkC MkP MkG RepF. -/
import Derived.Test.YtapjahbflhingaaGreatDoorBu26
import Derived.Test.YtapjahbflhingaaGreatDoorBu03
/- The walks of CheckMarks, Timed and filmed. -/
namespace Go.Proofs.YtapjahbflhingaaGreatDoor
set_option linter.unusedVariables false
set_option linter.unusedSimpArgs false
open Go.RowKit

set_option maxHeartbeats 2000000 in
theorem checkMarks_any (lo lo' c d : Nat) (A B : Option Addr) (v : List St) (l : List Mk) (w : World) (hr : Row w lo 3 A v.length (trs v)) (hrm : Row w lo' 2 B l.length (prs l)) (hl : v.length ≤ 1000000000) (hlm : l.length ≤ 1000000000) (hi : ∀ s ∈ v,s.2.1 ≤ 9223372036854775807) :
  Calls Tryz.prog 98 #[.slice A v.length c,.slice B l.length d] w fun e w' => e = .returned (.int .i64 (mkFault v l)) ∧ Below w.heap.size w w':=by
 have HI:=Lib.hid hi
 clear hi
 go_enter Tryz.func98,Tryz.ntmps98
 go_wp2_with fail
 refine (checkVideo_any _ _ _ v _ hr hl HI.out).mono ?_
 rintro e w1 ⟨rfl,hb1⟩
 by_cases h0 : vFault v = 0
 ·have h0' : (vFault v != 0) = false:=by simpa using h0
  have HE:=Lib.hid (mkFault_ok (l:=l) h0)
  have HG:=Lib.hid (vFault_ok h0)
  clear h0
  by_cases hlong : 200 < l.length
  ·have HF:=Lib.hid (mkF_long (all:=fsum v) hlong)
   go_wp2_with fail
   go_ret
   exact ⟨ret_int' (by rw [HE.out,HF.out]),hb1⟩
  ·have s1:=HG.out.sum
   have s0:=fsum_nonneg v HG.out.nonneg
   go_wp2_with fail
   refine (vframes_any _ _ _ v _ (hr.below hb1) hl HG.out.nonneg (by omega)).mono ?_
   rintro e w2 ⟨rfl,hb2⟩
   have hx:=below_up hb1 hb2
   clear hb1 hb2 h0'
   go_wp2_with fail
   go_loopw [7,22] (fun la i wr => ∃ k : Nat,k ≤ l.length ∧ i = .int .i64 k ∧ la = .int .i64 (lastM (l.take k)) ∧ Hid (∀ j,j < k → mF (fsum v) l j = 0) ∧ Below w.heap.size w wr) (fun _ i _ => l.length - (intOf i).toNat)
   case atStart => exact ⟨0,Nat.zero_le _,rfl,rfl,Lib.hid (fun j hj => absurd hj (by omega)),hx⟩
   case round =>
    obtain ⟨k,hk,rfl,rfl,hv,hbw⟩:=hrel
    have zw:=hbw.size
    by_cases hlt : k < l.length
    ·have hrw:=hrm.below hbw
     obtain ⟨b,off,hB,_,hbs,c0,c1⟩:=hrw.pr_at hlt
     have HBAD:=Lib.hid (mkF_bad (all:=fsum v) k (by omega) hlt hv.out)
     have HAT:=Lib.hid (mF_at (fsum v) l k hlt)
     have HLT:=Lib.hid (lastM_take l k hlt)
     have HP : Hid (∀ j,k = j + 1 → prevM l k = some (l.getD j (0,0))):=Lib.hid (by
      rintro j rfl
      simp only [prevM,Nat.add_one_ne_zero,if_false,Nat.add_sub_cancel]
      rw [List.getD_eq_getElem?_getD,List.getElem?_eq_getElem (by omega)]; rfl)
     have HCP : Hid (∀ j,k = j + 1 → wr.cell? ⟨b,off + j * 2,none⟩ = some (.int .i64 (l.getD j (0,0)).1)):=Lib.hid (by
      rintro j rfl
      obtain ⟨b',off',hB',_,_,c0',_⟩:=hrw.pr_at (k:=j) (by omega)
      rw [hB] at hB'
      injection hB' with hB'
      injection hB' with e1 e2
      subst e1 e2
      rw [List.getD_eq_getElem?_getD,List.getElem?_eq_getElem (by omega)]
      exact c0')
     subst hB
     generalize lastM (l.take k) = la at *
     generalize hxk : l[k] = x at *
     clear hxk hrw
     go_wp2_with fail
     refine (out_any _ _ _ _).mono ?_
     rintro e w3 ⟨rfl,rfl⟩
     by_cases h1 : 1 ≤ x.2 ∧ x.2 ≤ 5
     ·have h1' : (decide (x.2 < 1) || decide (5 < x.2)) = false:=by simp; omega
      rw [h1']
      clear h1'
      go_wp2_with fail
      refine (out_any _ _ _ _).mono ?_
      rintro e w3 ⟨rfl,rfl⟩
      by_cases h2 : 0 ≤ x.1 ∧ x.1 ≤ fsum v
      ·have h2' : (decide (x.1 < 0) || decide (fsum v < x.1)) = false:=by simp; omega
       rw [h2']
       clear h2'
       have HRE:=Lib.hid (mX_rest (p:=prevM l k) (last:=la) h1 h2)
       clear h1 h2
       rcases Nat.eq_zero_or_pos k with hk0 | hk0
       ·subst hk0
        have HRX : Hid (mF (fsum v) l 0 = if misB x.2 la = true then 16 else 0):=Lib.hid (by rw [HAT.out,HRE.out]; rfl)
        go_wp2_with fail
        go_quiet (fail)
        go_wp2_with fail
        refine (misplaced_any _ _ _).mono ?_
        rintro e w4 ⟨rfl,rfl⟩
        by_cases h4 : misB x.2 la = true
        ·rw [h4]
         have HF:=Lib.hid (HBAD.out (by rw [HRX.out,if_pos h4]; omega))
         go_wp2_with fail
         go_ret
         exact ⟨ret_int' (by rw [HE.out,HF.out,HRX.out,if_pos h4]),(by repeat (first | exact hbw | refine Below.alloc ?_ (by first | omega | (simp; omega)) _ | refine below_drewN' ?_ _ | refine Below.drew ?_))⟩
        ·have h4' : misB x.2 la = false:=by simpa using h4
         have HN : Hid (∀ j,j < 0 + 1 → mF (fsum v) l j = 0):=Lib.hid (by
          intro j hj
          have : j = 0:=by omega
          subst this
          rw [HRX.out,if_neg h4])
         rw [h4']
         clear h4 h4'
         by_cases h5 : x.2 = 5
         ·have t5 : (x.2 != 5) = false:=by simpa using h5
          have HLX : Hid (lastM (l.take (0 + 1)) = la):=Lib.hid (by rw [HLT.out,if_pos h5])
          clear h5
          go_wp2_with fail
          go_roundw
          case rel => exact ⟨0 + 1,by omega,by go_num,by rw [HLX.out],HN,(by repeat (first | exact hbw | refine Below.alloc ?_ (by first | omega | (simp; omega)) _ | refine below_drewN' ?_ _ | refine Below.drew ?_))⟩
          case measure => simp [intOf]; omega
         ·have t5 : (x.2 != 5) = true:=by simpa using h5
          have HLX : Hid (lastM (l.take (0 + 1)) = x.2):=Lib.hid (by rw [HLT.out,if_neg h5])
          clear h5
          go_wp2_with fail
          go_roundw
          case rel => exact ⟨0 + 1,by omega,by go_num,by rw [HLX.out],HN,(by repeat (first | exact hbw | refine Below.alloc ?_ (by first | omega | (simp; omega)) _ | refine below_drewN' ?_ _ | refine Below.drew ?_))⟩
          case measure => simp [intOf]; omega
       ·obtain ⟨j,rfl⟩ : ∃ j,k = j + 1:=⟨k - 1,by omega⟩
        have hcp:=cell_al (HCP.out j rfl) (.cells #[.int .i64 x.1,.int .i64 x.2] 119)
        have HRX : Hid (mF (fsum v) l (j + 1) = if x.1 < (l.getD j (0,0)).1 then 7 else if misB x.2 la = true then 16 else 0):=Lib.hid (by rw [HAT.out,HRE.out,HP.out j rfl]; simp)
        generalize (l.getD j (0,0)).1 = y at *
        have wj : IntKind.i64.wrap ((j : Int) + 1 - 1) = j:=by rw [show (j : Int) + 1 - 1 = j by omega]; exact IntWalk.i64_in _ ⟨by omega,by omega⟩
        by_cases h3 : x.1 < y
        ·have t3 : decide (x.1 < y) = true:=by simpa using h3
         have HF:=Lib.hid (HBAD.out (by rw [HRX.out,if_pos h3]; omega))
         go_wp2_with fail
         go_quiet (fail)
         clear wj
         go_wp2_with fail
         go_ret
         exact ⟨ret_int' (by rw [HE.out,HF.out,HRX.out,if_pos h3]),(by repeat (first | exact hbw | refine Below.alloc ?_ (by first | omega | (simp; omega)) _ | refine below_drewN' ?_ _ | refine Below.drew ?_))⟩
        ·have t3 : decide (x.1 < y) = false:=by simpa using h3
         have H3:=Lib.hid h3
         clear h3
         go_wp2_with fail
         go_quiet (fail)
         clear wj
         go_wp2_with fail
         refine (misplaced_any _ _ _).mono ?_
         rintro e w4 ⟨rfl,rfl⟩
         by_cases h4 : misB x.2 la = true
         ·rw [h4]
          have HF:=Lib.hid (HBAD.out (by rw [HRX.out,if_neg (by have:=H3.out; omega : ¬ x.1 < y),if_pos h4]; omega))
          go_wp2_with fail
          go_ret
          exact ⟨ret_int' (by rw [HE.out,HF.out,HRX.out,if_neg (by have:=H3.out; omega : ¬ x.1 < y),if_pos h4]),(by repeat (first | exact hbw | refine Below.alloc ?_ (by first | omega | (simp; omega)) _ | refine below_drewN' ?_ _ | refine Below.drew ?_))⟩
         ·have h4' : misB x.2 la = false:=by simpa using h4
          have HN : Hid (∀ i,i < j + 1 + 1 → mF (fsum v) l i = 0):=Lib.hid (by
           intro i hi
           rcases Nat.lt_or_ge i (j + 1) with h | h
           ·exact hv.out i h
           ·have : i = j + 1:=by omega
            subst this
            rw [HRX.out,if_neg (by have:=H3.out; omega : ¬ x.1 < y),if_neg h4])
          rw [h4']
          clear h4 h4'
          by_cases h5 : x.2 = 5
          ·have t5 : (x.2 != 5) = false:=by simpa using h5
           have HLX : Hid (lastM (l.take (j + 1 + 1)) = la):=Lib.hid (by rw [HLT.out,if_pos h5])
           clear h5
           go_wp2_with fail
           go_roundw
           case rel => exact ⟨j + 1 + 1,by omega,by go_num,by rw [HLX.out],HN,(by repeat (first | exact hbw | refine Below.alloc ?_ (by first | omega | (simp; omega)) _ | refine below_drewN' ?_ _ | refine Below.drew ?_))⟩
           case measure => simp [intOf]; omega
          ·have t5 : (x.2 != 5) = true:=by simpa using h5
           have HLX : Hid (lastM (l.take (j + 1 + 1)) = x.2):=Lib.hid (by rw [HLT.out,if_neg h5])
           clear h5
           go_wp2_with fail
           go_roundw
           case rel => exact ⟨j + 1 + 1,by omega,by go_num,by rw [HLX.out],HN,(by repeat (first | exact hbw | refine Below.alloc ?_ (by first | omega | (simp; omega)) _ | refine below_drewN' ?_ _ | refine Below.drew ?_))⟩
           case measure => simp [intOf]; omega
      ·have h2' : (decide (x.1 < 0) || decide (fsum v < x.1)) = true:=by simp; omega
       have HA:=Lib.hid (mX_arg (p:=prevM l k) (last:=la) h1 h2)
       have HF:=Lib.hid (HBAD.out (by rw [HAT.out,HA.out]; omega))
       rw [h2']
       go_wp2_with fail
       go_ret
       exact ⟨ret_int' (by rw [HE.out,HF.out,HAT.out,HA.out]),(by repeat (first | exact hbw | refine Below.alloc ?_ (by first | omega | (simp; omega)) _ | refine below_drewN' ?_ _ | refine Below.drew ?_))⟩
     ·have h1' : (decide (x.2 < 1) || decide (5 < x.2)) = true:=by simp; omega
      have HA:=Lib.hid (mX_kind (all:=fsum v) (p:=prevM l k) (last:=la) h1)
      have HF:=Lib.hid (HBAD.out (by rw [HAT.out,HA.out]; omega))
      rw [h1']
      go_wp2_with fail
      go_ret
      exact ⟨ret_int' (by rw [HE.out,HF.out,HAT.out,HA.out]),(by repeat (first | exact hbw | refine Below.alloc ?_ (by first | omega | (simp; omega)) _ | refine below_drewN' ?_ _ | refine Below.drew ?_))⟩
    ·have hkk : k = l.length:=by omega
     subst hkk
     have HF:=Lib.hid (mkF_good (by omega) hv.out)
     rw [List.take_length]
     by_cases h2 : lastM l = 2
     ·have t2 : (lastM l != 2) = false:=by simpa using h2
      have HF2 : Hid (mkF (fsum v) l = 0):=Lib.hid (by rw [HF.out,if_pos h2])
      clear h2
      go_wp2_with fail
      go_ret
      exact ⟨ret_int' (by rw [HE.out,HF2.out]),hbw⟩
     ·have t2 : (lastM l != 2) = true:=by simpa using h2
      have HF2 : Hid (mkF (fsum v) l = 8):=Lib.hid (by rw [HF.out,if_neg h2])
      clear h2
      go_wp2_with fail
      go_ret
      exact ⟨ret_int' (by rw [HE.out,HF2.out]),hbw⟩
 ·have h0' : (vFault v != 0) = true:=by simpa using h0
  have HE:=Lib.hid (mkFault_bad (l:=l) h0)
  clear h0
  go_wp2_with fail
  go_ret
  exact ⟨ret_int' HE.out.symm,hb1⟩

def tmE (v : List St) (l : List Mk) : Int:=if mkFault v l = 0 then (tS v l).2.2.getLastD 0 else 0
theorem tmE_ok {v : List St} {l : List Mk} (h : mkFault v l = 0) : tmE v l = (tS v l).2.2.getLastD 0:=by simp [tmE,h]
theorem tmE_bad {v : List St} {l : List Mk} (h : ¬ mkFault v l = 0) : tmE v l = 0:=by simp [tmE,h]
theorem mkFault_zero {v : List St} {l : List Mk} (h : mkFault v l = 0) : vFault v = 0 ∧ mkF (fsum v) l = 0:=by
 by_cases h0 : vFault v = 0
 ·exact ⟨h0,by rw [mkFault_ok h0] at h; exact h⟩
 ·rw [mkFault_bad h0] at h; exact absurd h h0
theorem tS_some (v : List St) (l : List Mk) (h : ∃ x ∈ l,x.2 = 2) : 0 < (tS v l).2.2.length:=by
 suffices H : ∀ s : Int × Int × List Int,(0 < s.2.2.length ∨ ∃ x ∈ l,x.2 = 2) → 0 < (l.foldl (tstep v) s).2.2.length from H _ (.inr h)
 clear h
 induction l with
 | nil => intro s h; rcases h with h | ⟨x,hx,_⟩; exact h; simp at hx
 | cons y l ih =>
  intro s h
  rw [List.foldl_cons]
  apply ih
  by_cases h1 : y.2 = 1 ∨ y.2 = 4
  ·rw [tstep_on _ _ _ h1]
   rcases h with h | ⟨x,hx,h2⟩
   ·exact .inl h
   ·rcases List.mem_cons.1 hx with rfl | hx
    ·omega
    ·exact .inr ⟨x,hx,h2⟩
  ·by_cases h3 : y.2 = 3
   ·rw [tstep_off _ _ _ h3]
    rcases h with h | ⟨x,hx,h2⟩
    ·exact .inl h
    ·rcases List.mem_cons.1 hx with rfl | hx
     ·omega
     ·exact .inr ⟨x,hx,h2⟩
   ·rw [tstep_out _ _ _ h1 h3]
    exact .inl (by simp)
theorem last_mem (l : List Mk) (h : lastM l = 2) : ∃ x ∈ l,x.2 = 2:=by
 suffices H : ∀ a : Int,l.foldl (fun a (x : Mk) => if x.2 = 5 then a else x.2) a = 2 → a = 2 ∨ ∃ x ∈ l,x.2 = 2 from by
  rcases H 0 h with h | h
  ·omega
  ·exact h
 clear h
 induction l with
 | nil => intro a h; exact .inl h
 | cons y l ih =>
  intro a h
  rw [List.foldl_cons] at h
  rcases ih _ h with h | ⟨x,hx,h2⟩
  ·by_cases h5 : y.2 = 5
   ·rw [if_pos h5] at h; exact .inl h
   ·rw [if_neg h5] at h; exact .inr ⟨y,by simp,h⟩
  ·exact .inr ⟨x,by simp [hx],h2⟩

set_option maxHeartbeats 1000000 in
theorem timed_any (lo lo' c d : Nat) (A B : Option Addr) (v : List St) (l : List Mk) (w : World) (hr : Row w lo 3 A v.length (trs v)) (hrm : Row w lo' 2 B l.length (prs l)) (hl : v.length ≤ 1000000000) (hlm : l.length ≤ 1000000000) (hi : ∀ s ∈ v,s.2.1 ≤ 9223372036854775807) :
  Calls Tryz.prog 65 #[.slice A v.length c,.slice B l.length d] w fun e w' => e = .returned (.tuple #[.int .i64 (tmE v l),.int .i64 (mkFault v l)]) ∧ Below w.heap.size w w':=by
 go_enter Tryz.func65,Tryz.ntmps65
 go_wp2_with fail
 refine (checkMarks_any lo lo' _ _ _ _ v l _ hr hrm hl hlm hi).mono ?_
 rintro e w1 ⟨rfl,hb1⟩
 clear hi
 by_cases h0 : mkFault v l = 0
 ·have h0' : (mkFault v l != 0) = false:=by simpa using h0
  obtain ⟨hv,hm⟩:=mkFault_zero h0
  have HG:=Lib.hid (vFault_ok hv)
  have HM:=Lib.hid (mkF_ok hm)
  have H0:=Lib.hid h0
  clear h0 hv hm
  have hln:=HM.out.1
  have hsum:=HG.out.sum
  go_wp2_with fail
  refine (newFilm_any _ _ _ v _ (hr.below hb1) HG.out).mono ?_
  rintro e w2 ⟨g,rfl,hfm,hb2⟩
  have hx:=below_up hb1 hb2
  go_wp2_with fail
  refine (end_any g lo lo' _ _ _ _ v l _ hfm (hrm.below hx) HG.out (by omega) HM.out.2.2.2.1 (fun x hx => by have:=HM.out.2.2.1 x hx; omega) (tS_some v l (last_mem l HM.out.2.1))).mono ?_
  rintro e w3 ⟨rfl,hb3⟩
  go_wp2_with fail
  go_ret2
  exact ⟨ret2_is (by rw [tmE_ok H0.out,List.getLastD_eq_getLast?]; rfl) (by rw [H0.out]; rfl),below_up hx hb3⟩
 ·have h0' : (mkFault v l != 0) = true:=by simpa using h0
  have H0:=Lib.hid h0
  clear h0
  go_wp2_with fail
  go_ret2
  exact ⟨ret2_is (by rw [tmE_bad H0.out]; rfl) rfl,hb1⟩

theorem film_ex : mkFault [(100,60,1)] [(10,1),(70,2)] = 0:=by decide
theorem time_ex : tmE [(100,60,1)] [(10,1),(70,2)] = 1000:=by decide

end Go.Proofs.YtapjahbflhingaaGreatDoor
/- Marks of a video: plain laws of what is played up to a mark; no program of Go in sight. -/
namespace Go.Proofs.YtapjahbflhingaaGreatDoor
set_option linter.unusedVariables false
set_option linter.unusedSimpArgs false

def pS (v : List St) (l : List Mk) (loads : Bool) : Nat → Int
 | 0 => 0
 | k + 1 => pS v l loads k + (if loads = true ∨ (l.getD k (0,0)).2 ≠ 3 then begM v (l.getD (k + 1) (0,0)).1 - begM v (l.getD k (0,0)).1 else 0)
def spl (v : List St) (l : List Mk) : Nat → List Int
 | 0 => []
 | k + 1 => if (l.getD k (0,0)).2 = 5 ∨ (l.getD k (0,0)).2 = 2 then spl v l k ++ [msM (multK v) (pS v l false k)] else spl v l k
def Turn (l : List Mk) : Prop:=(∀ x ∈ l,1 ≤ x.2 ∧ x.2 ≤ 5) ∧ ∀ k,(hk : k < l.length) → misB l[k].2 (lastM (l.take k)) = false
structure Sh (all : Int) (l : List Mk) (s : Int × List Mk) : Prop where
  last : 0 ≤ s.1 ∧ s.1 ≤ all
  bd : ∀ y ∈ s.2, 0 ≤ y.1 ∧ y.1 ≤ s.1
  rises : Rises s.2
  turn : Turn s.2
  kind : lastM s.2 = lastM l
  len : s.2.length ≤ l.length
end Go.Proofs.YtapjahbflhingaaGreatDoor
/- The walks of slices.Equal over integers and marks, of rounded, playedTo, TimeOf and SplitsBy. -/
namespace Go.Proofs.YtapjahbflhingaaGreatDoor
set_option linter.unusedVariables false
set_option linter.unusedSimpArgs false
open Go.RowKit

set_option maxHeartbeats 1000000 in
theorem equalI_any (A B : Option Addr) (c d lo lo' : Nat) (ps qs : List Int) (w : World) (hr : Row w lo 1 A ps.length (ints ps)) (hr' : Row w lo' 1 B qs.length (ints qs)) (hl : ps.length ≤ 1000000000) (hl' : qs.length ≤ 1000000000) :
  Calls Tryz.prog 35 #[.slice A ps.length c,.slice B qs.length d] w fun e w' => e = .returned (.bool (decide (ps = qs))) ∧ ∃ q,w' = w.drewN q:=by
 by_cases hlen : ps.length = qs.length
 ·have h0 : ((ps.length : Int) != (qs.length : Int)) = false:=by simp [hlen]
  have HLEN:=Lib.hid hlen
  clear hlen
  go_enter Tryz.func35,Tryz.ntmps35
  go_wp2_with fail
  go_loopw [13] (fun i wr => ∃ (k : Nat) (q : Nat),k ≤ ps.length ∧ i = .int .i64 k ∧ Hid (ps.take k = qs.take k) ∧ wr = w.drewN q) (fun i _ => ps.length - (intOf i).toNat)
  case atStart => exact ⟨0,0,Nat.zero_le _,rfl,Lib.hid rfl,rfl⟩
  case round =>
   obtain ⟨k,q,hk,rfl,htk,rfl⟩:=hrel
   by_cases hlt : k < ps.length
   ·obtain ⟨b,off,rfl,_,hbs,c0⟩:=hr.int_at hlt
    have hlt' : k < qs.length:=by have:=HLEN.out; omega
    obtain ⟨b',off',rfl,_,hbs',d0⟩:=hr'.int_at hlt'
    by_cases he : ps[k] = qs[k]
    ·have HN : Hid (ps.take (k + 1) = qs.take (k + 1)):=Lib.hid (by rw [List.take_succ_eq_append_getElem hlt,List.take_succ_eq_append_getElem hlt',htk.out,he])
     rw [← he] at d0
     clear he
     go_wp2_with fail
     go_quiet (fail)
     go_wp2_with fail
     go_roundw
     case rel => exact ⟨k + 1,_,by omega,by go_num,HN,rfl⟩
     case measure => simp [intOf]; omega
    ·have HN : Hid (¬ ps = qs):=Lib.hid (fun h => he (by subst h; rfl))
     have e1 : (ps[k] != qs[k]) = true:=by simpa using he
     clear he
     go_wp2_with fail
     go_quiet (fail)
     go_wp2_with fail
     go_ret
     exact ⟨ret_bool' (by simp [HN.out]),_,World.drewN_drewN _ _ _⟩
   ·have HN : Hid (ps = qs):=Lib.hid (by
     have:=htk.out
     have hh:=HLEN.out
     rwa [List.take_of_length_le (by omega),List.take_of_length_le (by omega)] at this)
    go_wp2_with fail
    go_ret
    exact ⟨ret_bool' (by simp [HN.out]),_,rfl⟩
 ·have h0 : ((ps.length : Int) != (qs.length : Int)) = true:=by rw [bne_iff_ne]; omega
  have HN : Hid (¬ ps = qs):=Lib.hid (fun h => hlen (by rw [h]))
  clear hlen
  go_enter Tryz.func35,Tryz.ntmps35
  go_wp2_with fail
  go_ret
  exact ⟨ret_bool' (by simp [HN.out]),0,rfl⟩

end Go.Proofs.YtapjahbflhingaaGreatDoor
/- copy at elements of more than one cell; the walk of slices.Repeat at one pair of numbers. -/
namespace Go.Proofs.YtapjahbflhingaaGreatDoor
set_option linter.unusedVariables false
set_option linter.unusedSimpArgs false
open Go.RowKit

theorem run_copy_rowN {P : Program} (w : World) (dT sT ty elem : TypeId) (g o dLen dCap : Nat) (a : Addr) (sLen sCap : Nat) (cur : Array Value) (t : TypeId) (cs : List Value) (size m : Nat)
  (hu : P.underlying dT = some (.slice elem)) (hs : (P.info? elem).map (·.size) = some size)
  (hg : w.heap[g]? = some (.cells cur t (0,0))) (hm : m = Nat.min sLen dLen) (hn : cs.length = m * size)
  (hsrc : ∀ j v,cs[j]? = some v → w.cell? (a.add j) = some v) (hfit : o + cs.length ≤ cur.size) (h1 : ∀ v ∈ cs,v.oneCell' = true) :
  (Builtin.copy_ #[dT,sT] ty #[.slice (some ⟨g,o,none⟩) dLen dCap,.slice (some a) sLen sCap]).run P w =
   .ok (goInt m) (w.setRow g (cur.toList.take o ++ cs ++ cur.toList.drop (o + cs.length)).toArray):=by
 have hl:=run_loadCells_list (P:=P) w a cs hsrc
 have hst:=run_storeCells_at P g o t cs 0 cur w hg (by simpa using hfit) h1
 cases hq : P.info? elem with
 | none => simp [hq] at hs
 | some i =>
  have hi : i.size = size:=by simpa [hq] using hs
  rw [hn] at hl
  subst hm
  simp [Builtin.copy_,run_underlying hu,Builtin.lenOf,Builtin.firstCells,sizeOf,typeInfo,hq,hi,hl,hst]

theorem wpList_copyN {P : Program} {w : World} {ops : Array Oper} {rest : List Oper} {o : Oper} {a : Act} {Q : Exit → Act → World → Prop} (hgd : o.guard = none) (d s : Operand) (dT sT : TypeId)
  (ho : o.op = .call { callee:=.builtin .copy,args:=#[d,s],argTypes:=#[dT,sT] }) (elem : TypeId) (size m : Nat) (hu : P.underlying dT = some (.slice elem)) (hsz : (P.info? elem).map (·.size) = some size)
  (g off dLen dCap : Nat) (ad : Addr) (sLen sCap : Nat) (hd : a.eval d = .slice (some ⟨g,off,none⟩) dLen dCap) (hs : a.eval s = .slice (some ad) sLen sCap)
  (cur : List Value) (t : TypeId) (hg : w.heap[g]? = some (.cells cur.toArray t (0,0))) (cs : List Value) (hm : m = Nat.min sLen dLen) (hn : cs.length = m * size)
  (hsrc : ∀ j v,cs[j]? = some v → w.cell? (ad.add j) = some v) (hfit : off + cs.length ≤ cur.length) (h1 : ∀ v ∈ cs,v.oneCell' = true) (B : Nat) (w0 : World) (hb : Below B w0 w) (hBg : B ≤ g)
  (h : ∀ w',Hid (w'.heap[g]? = some (.cells (splice cur off cs).toArray t (0,0))) → Below B w0 w' → wpList P ops Q rest (a.put o.dst (goInt m)) w') : wpList P ops Q (o :: rest) a w:=by
 refine wpList_plain hgd fun K hK => ?_
 have hrun:=run_copy_rowN (P:=P) w dT sT o.type elem g off dLen dCap ad sLen sCap cur.toArray t cs size m hu hsz hg hm hn hsrc (by simpa using hfit) h1
 unfold Oper.wp
 simp [execOp,ho,resolve,invoke,builtin,hd,hs,hrun,Result.andThen]
 exact hK _ _ (h _ (show _ = _ by simpa [splice] using setRow_heap w g _ _ t _ hg) (below_setRow hb hBg _))
theorem step_copyN {P : Program} {ops : Array Oper} {o : Oper} {a : Act} {w : World} {K : Act → World → Prop} {Q : Exit → Act → World → Prop} {E : Prop} (hgd : o.guard = none) (d s : Operand) (dT sT : TypeId)
  (ho : o.op = .call { callee:=.builtin .copy,args:=#[d,s],argTypes:=#[dT,sT] }) (elem : TypeId) (size m : Nat) (hu : P.underlying dT = some (.slice elem)) (hsz : (P.info? elem).map (·.size) = some size)
  (g off dLen dCap : Nat) (ad : Addr) (sLen sCap : Nat) (hd : a.eval d = .slice (some ⟨g,off,none⟩) dLen dCap) (hs : a.eval s = .slice (some ad) sLen sCap)
  (cur : List Value) (t : TypeId) (hg : w.heap[g]? = some (.cells cur.toArray t (0,0))) (cs : List Value) (hm : m = Nat.min sLen dLen) (hn : cs.length = m * size)
  (hsrc : ∀ j v,cs[j]? = some v → w.cell? (ad.add j) = some v) (hfit : off + cs.length ≤ cur.length) (h1 : ∀ v ∈ cs,v.oneCell' = true) (B : Nat) (w0 : World) (hb : Below B w0 w) (hBg : B ≤ g)
  (h : ∀ w',Hid (w'.heap[g]? = some (.cells (splice cur off cs).toArray t (0,0))) → Below B w0 w' → K (a.put o.dst (goInt m)) w') :
  if Region.wanted o (yielded ops a.tmps) = true then Oper.wp P o a w K Q else E:=by
 have hw : Region.wanted o (yielded ops a.tmps) = true:=by simp [Region.wanted,hgd]
 rw [if_pos hw]
 have hrun:=run_copy_rowN (P:=P) w dT sT o.type elem g off dLen dCap ad sLen sCap cur.toArray t cs size m hu hsz hg hm hn hsrc (by simpa using hfit) h1
 unfold Oper.wp
 simp [execOp,ho,resolve,invoke,builtin,hd,hs,hrun,Result.andThen]
 exact h _ (show _ = _ by simpa [splice] using setRow_heap w g _ _ t _ hg) (below_setRow hb hBg _)

theorem prs_cons (p : Int × Int) (ps : List (Int × Int)) : prs (p :: ps) = .int .i64 p.1 :: .int .i64 p.2 :: prs ps:=rfl
theorem prs_take (ps : List (Int × Int)) (k : Nat) : (prs ps).take (k * 2) = prs (ps.take k):=by
 induction ps generalizing k with
 | nil => simp [prs]
 | cons p ps ih =>
  cases k with
  | zero => rfl
  | succ k =>
   have e : (k + 1) * 2 = k * 2 + 1 + 1:=by omega
   rw [prs_cons,e,List.take_succ_cons,List.take_succ_cons,ih,List.take_succ_cons,prs_cons]
theorem prs_drop (ps : List (Int × Int)) (k : Nat) : (prs ps).drop (k * 2) = prs (ps.drop k):=by
 induction ps generalizing k with
 | nil => simp [prs]
 | cons p ps ih =>
  cases k with
  | zero => rfl
  | succ k =>
   have e : (k + 1) * 2 = k * 2 + 1 + 1:=by omega
   rw [prs_cons,e,List.drop_succ_cons,List.drop_succ_cons,ih,List.drop_succ_cons]
theorem prs_splice (ps qs : List (Int × Int)) (k : Nat) : splice (prs ps) (k * 2) (prs qs) = prs (splice ps k qs):=by
 unfold splice
 rw [prs_take,prs_len,← Nat.add_mul,prs_drop,prs_app,prs_app]
def repP (p : Int × Int) (n k : Nat) : List (Int × Int):=List.replicate k p ++ List.replicate (n - k) (0,0)
theorem repP_len (p : Int × Int) (n k : Nat) (hk : k ≤ n) : (repP p n k).length = n:=by simp [repP]; omega
theorem repP_splice (p : Int × Int) (n k m : Nat) (_ : k + m ≤ n) : splice (repP p n k) k (List.replicate m p) = repP p n (k + m):=by
 unfold splice repP
 rw [List.take_left' (by simp),List.length_replicate,List.drop_append,List.drop_replicate,List.drop_replicate,List.length_replicate]
 have e1 : k - (k + m) = 0:=by omega
 have e2 : k + m - k = m:=by omega
 have e3 : n - k - m = n - (k + m):=by omega
 rw [e1,e2,e3,List.replicate_zero,List.nil_append,← List.append_assoc,List.replicate_append_replicate]
theorem repP_full (p : Int × Int) (n : Nat) : repP p n n = List.replicate n p:=by simp [repP]
def repC (p : Int × Int) (n k : Nat) : List Value:=prs (repP p n k)
def repS (p : Int × Int) (m : Nat) : List Value:=prs (List.replicate m p)
theorem repC_len (p : Int × Int) (n k : Nat) (hk : k ≤ n) : (repC p n k).length = n * 2:=by rw [repC,prs_len,repP_len p n k hk]
theorem repS_len (p : Int × Int) (m : Nat) : (repS p m).length = m * 2:=by rw [repS,prs_len,List.length_replicate]
theorem repC_splice (p : Int × Int) (n k m : Nat) (h : k + m ≤ n) : splice (repC p n k) (k * 2) (repS p m) = repC p n (k + m):=by rw [repC,repS,prs_splice,repP_splice p n k m h,repC]
theorem repC_none (p : Int × Int) (n : Nat) : repC p n 0 = (madeCells #[.int .i64 0,.int .i64 0] (n * 2)).toList:=by
 apply List.ext_getElem?
 intro j
 by_cases hj : j < n * 2
 ·have h1 : (repC p n 0)[j]? = some (.int .i64 0):=by
   have h0 : repC p n 0 = List.replicate (n * 2) (.int .i64 0):=by
    rw [repC,repP]
    simp only [List.replicate_zero,List.nil_append,Nat.sub_zero]
    clear hj
    induction n with
    | zero => rfl
    | succ n ih =>
     have e : (n + 1) * 2 = n * 2 + 1 + 1:=by omega
     rw [List.replicate_succ,prs_cons,ih,e,List.replicate_succ,List.replicate_succ]
   rw [h0,List.getElem?_replicate,if_pos hj]
  rw [h1]
  have h2 : ((madeCells #[Value.int .i64 0,Value.int .i64 0] (n * 2)).toList)[j]? = some (#[Value.int .i64 0,Value.int .i64 0][j % 2]!):=by
   simp [madeCells,hj]
  rw [h2]
  have : j % 2 = 0 ∨ j % 2 = 1:=by omega
  rcases this with h | h <;> rw [h] <;> rfl
 ·rw [List.getElem?_eq_none (by rw [repC_len p n 0 (by omega)]; omega),List.getElem?_eq_none (by simp [size_madeCells]; omega)]
theorem own_wholeN {w : World} {base : Nat} {e : TypeId} {g n size : Nat} {xs : List Value} (h : w.ownsRow base e size (.slice (some ⟨g,0,none⟩) n n) n xs) : w.heap[g]? = some (.cells xs.toArray e (0,0)):=by
 rcases h.2 with ⟨h0,_⟩ | ⟨g',cap,cur,hv,hg,hh,hcap,hm,hcs,ht⟩
 ·cases h0
 ·injection hv with h1 _ h3
  injection h1 with h1
  injection h1 with h1
  subst h1 h3
  rw [hh]
  rw [List.take_of_length_le (by simp [hcs])] at ht
  subst ht
  simp
theorem own_of_wholeN {w : World} {base : Nat} {e : TypeId} {g n size : Nat} {xs : List Value} (h : w.heap[g]? = some (.cells xs.toArray e (0,0))) (hx : xs.length = n * size) (hb : base ≤ g) (hm : n ≤ 9223372036854775807) : w.ownsRow base e size (.slice (some ⟨g,0,none⟩) n n) n xs :=
 ⟨hx,.inr ⟨g,n,xs.toArray,rfl,hb,h,Nat.le_refl _,by simp only [maxLen]; omega,by simp [hx],by rw [List.take_of_length_le (by simp [hx])]⟩⟩
theorem repC_src {w : World} {g : Nat} {e : TypeId} (p : Int × Int) (n k j : Nat) (v : Value) (m : Nat) (hm : m ≤ k) (hr : w.heap[g]? = some (.cells (repC p n k).toArray e (0,0))) (hv : (repS p m)[j]? = some v) : w.cell? ((⟨g,0,none⟩ : Addr).add j) = some v:=by
 refine World.news_of_block hr j v ?_
 have e1 : repS p m = (repC p n k).take (m * 2):=by
  rw [repS,repC,prs_take,repP,List.take_append_of_le_length (by simp; omega),List.take_replicate]
  congr 2
  omega
 rw [e1] at hv
 have:=(List.getElem?_eq_some_iff.1 hv).1
 rw [List.getElem?_take_of_lt (by simp at this; omega)] at hv
 simpa using hv
theorem sz_far : (Tryz.prog.info? 214).map (·.size) = some 2:=by kernel_rfl
theorem ty_fars : SliceTy Tryz.prog 218 214 2 16:=.mk' Tryz.underlying218 (z:=.agg #[.int .i64 0,.int .i64 0]) (by kernel_rfl) rfl (by decide)
set_option maxRecDepth 100000 in
set_option maxHeartbeats 1000000 in
theorem repeatF_any (A : Option Addr) (c lo : Nat) (p : Int × Int) (n : Nat) (w : World) (hr : Row w lo 2 A 1 (prs [p])) (hn : n ≤ 1000000000) (hn1 : 1 ≤ n) :
  Calls Tryz.prog 219 #[.slice A 1 c,.int .i64 n] w fun e w' => ∃ A' c',e = .returned (.slice A' n c') ∧ w'.ownsRow w.heap.size 214 2 (.slice A' n c') n (prs (List.replicate n p)) ∧ Below w.heap.size w w':=by
 obtain ⟨und,⟨i0,z0,hi0,hz0,hz1,hz2,hz3⟩,_⟩:=ty_fars
 have hz0' : z0 = .agg #[.int .i64 0,.int .i64 0]:=by
  have : (Tryz.prog.info? 214).map (fun i => i.zero) = some (some (.agg #[.int .i64 0,.int .i64 0])):=by kernel_rfl
  rw [hi0] at this
  simp [hz0] at this
  exact this
 subst hz0'
 obtain ⟨sb,so,rfl,_,hsb,hsc⟩:=hr.2 (by omega)
 have hd0 : decide ((n : Int) < 0) = false:=by simp
 have hd1 : decide ((9223372036854775807 : Int) < (n : Int)) = false:=by simp; omega
 go_enter Tryz.func219,Tryz.ntmps219
 go_wp2_with fail
 refine (mul_one' n hn _).mono ?_
 rintro e w' ⟨rfl,rfl⟩
 go_wp2_with (first | (at_make; go_must (refine wpList_make_full _ rfl _ _ 218 rfl w.heap.size 214 i0 _ 2 und hi0 hz0 hz1 .i64 .i64 _ _ n rfl rfl rfl rfl (by rw [hz2]; omega) (by simp only [maxLen]; omega) (Nat.le_refl _) ?_)))
 intro w1 hown1 hg1
 rw [← repC_none p n] at hown1
 have HR0:=Lib.hid (own_wholeN hown1)
 have hb1 : Below w.heap.size w w1:=below_of_grown hg1 (Nat.le_refl _) (fun k hk => by cases hk)
 have hr1:=hr.below hb1
 have hl0:=repC_len p n 0 (by omega)
 have hs1 : ∀ j v,(repS p 1)[j]? = some v → w1.cell? ((⟨sb,so,none⟩ : Addr).add j) = some v:=by
  intro j v hv
  have e : (⟨sb,so,none⟩ : Addr).add j = ⟨sb,so + j,none⟩:=by unfold Addr.add; split <;> simp_all
  rw [e,World.cell?_of_block (hb1.block sb hsb)]
  exact hsc j v hv
 have HS:=Lib.hid hs1
 clear hown1 hs1 hsc
 go_wp2_with (refine wpList_copyN rfl (.tmp 31) (.tmp 32) 218 218 rfl 214 2 1 und sz_far w.heap.size 0 n n ⟨sb,so,none⟩ 1 c rfl rfl (repC p n 0) 214 HR0.out (repS p 1) (by simp only [Nat.min_def]; split <;> omega) (repS_len _ _) HS.out (by rw [repS_len]; omega) (prs_one _) w.heap.size w hb1 (Nat.le_refl _) ?_)
 intro w2 HR1 hb2
 have HR2 : Hid (w2.heap[w.heap.size]? = some (.cells (repC p n 1).toArray 214 (0,0))):=by
  have h1:=HR1.out
  rw [show (0 : Nat) = 0 * 2 from rfl,repC_splice p n 0 1 (by omega),Nat.zero_add] at h1
  exact Lib.hid h1
 clear HR1 HR0 hl0 HS hr hr1
 go_wp2_with fail
 go_loopw [8] (fun i wr => ∃ k : Nat,k ≤ n ∧ 0 < k ∧ i = .int .i64 k ∧ Hid (wr.heap[w.heap.size]? = some (.cells (repC p n k).toArray 214 (0,0))) ∧ Below w.heap.size w wr) (fun i _ => n - (intOf i).toNat)
 case atStart => exact ⟨1,by omega,by omega,rfl,HR2,hb2⟩
 case round =>
  obtain ⟨k,hk,hk1,rfl,HR,hbw⟩:=hrel
  by_cases hlt : k < n
  ·have hl1:=repC_len p n k hk
   have HL1:=Lib.hid hl1
   clear hl1
   have hnk : ¬ n = k:=by omega
   have hw1 : IntKind.i64.wrap ((k : Int) + ((min k (n - k) : Nat) : Int)) = (k : Int) + ((min k (n - k) : Nat) : Int):=IntWalk.i64_in _ ⟨by omega,by omega⟩
   generalize hm : min k (n - k) = m at hw1
   have HM:=Lib.hid hm
   clear hm
   go_wp2_with fail
   go_region_law (refine step_copyN rfl (.tmp 41) (.tmp 44) 218 218 rfl 214 2 m und sz_far w.heap.size (k * 2) (n - k) (n - k) ⟨w.heap.size,0,none⟩ k n (by simp [Act.eval,Act.put,hnk]) (by simp [Act.eval,Act.put]) (repC p n k) 214 HR.out (repS p m) (by have:=HM.out; simp only [Nat.min_def] at this ⊢; exact this.symm) (repS_len _ _) (fun j v hv => repC_src p n k j v m (by have:=HM.out; omega) HR.out hv) (by rw [repS_len,HL1.out]; have:=HM.out; omega) (prs_one _) w.heap.size w hbw.drew (Nat.le_refl _) ?_; intro w3 HR3 hb3)
   have HR4 : Hid (w3.heap[w.heap.size]? = some (.cells (repC p n (k + m)).toArray 214 (0,0))):=by
    have h1:=HR3.out
    rw [repC_splice p n k m (by have:=HM.out; omega)] at h1
    exact Lib.hid h1
   clear HR3
   go_wp2_with fail
   go_frame
   clear hw1
   have:=HM.out
   go_roundw
   case rel =>
    refine ⟨_,_,_,_,_,_,_,_,_,_,_,_,_,_,?_,rfl⟩
    exact ⟨k + m,by omega,by omega,by simp,HR4,hb3⟩
   case measure => simp [intOf]; omega
  ·have hkn : k = n:=by omega
   subst hkn
   go_wp2_with fail
   go_ret
   refine ⟨_,_,rfl,?_,hbw⟩
   have:=own_of_wholeN (base:=w.heap.size) (size:=2) HR.out (repC_len _ _ _ (Nat.le_refl _)) (Nat.le_refl _) (by omega)
   rw [repC,repP_full] at this
   exact this
end Go.Proofs.YtapjahbflhingaaGreatDoor
