/- Texts of this seat, laid together: MkP MkG RepF. -/
import Derived.Test.YtggnccafmadacaaGreatDoorBi08
/- Marks of a video: plain laws of what is played up to a mark; no program of Go in sight. -/
namespace Go.Proofs.YtggnccafmadacaaGreatDoor
set_option linter.unusedVariables false
set_option linter.unusedSimpArgs false

theorem mk_at (l : List Mk) (k : Nat) (h : k < l.length) : l.getD k (0,0) = l[k]:=by rw [List.getD_eq_getElem?_getD,List.getElem?_eq_getElem h]; rfl
def pS (v : List St) (l : List Mk) (loads : Bool) : Nat → Int
 | 0 => 0
 | k + 1 => pS v l loads k + (if loads = true ∨ (l.getD k (0,0)).2 ≠ 3 then begM v (l.getD (k + 1) (0,0)).1 - begM v (l.getD k (0,0)).1 else 0)
theorem pS_on (v : List St) (l : List Mk) (loads : Bool) (k : Nat) (hk : k + 1 < l.length) (h : loads = true ∨ l[k].2 ≠ 3) : pS v l loads (k + 1) = pS v l loads k + (begM v l[k + 1].1 - begM v l[k].1):=by
 rw [pS,mk_at l k (by omega),mk_at l (k + 1) hk,if_pos h]
theorem pS_off (v : List St) (l : List Mk) (k : Nat) (hk : k + 1 < l.length) (h : l[k].2 = 3) : pS v l false (k + 1) = pS v l false k:=by
 rw [pS,mk_at l k (by omega),if_neg (by simp [h])]; omega
theorem pS_bd {v : List St} (hg : Good v) (l : List Mk) (hR : Rises l) (loads : Bool) : ∀ k,(h : k < l.length) → 0 ≤ pS v l loads k ∧ pS v l loads k ≤ begM v l[k].1:=by
 intro k
 induction k with
 | zero => intro h; exact ⟨by simp [pS],by simp [pS]; exact (begM_bd' hg _).1⟩
 | succ k ih =>
  intro h
  have i:=ih (by omega)
  have m:=begM_mono hg _ _ (hR k h)
  by_cases hc : loads = true ∨ l[k].2 ≠ 3
  ·rw [pS_on v l loads k h hc]; omega
  ·rw [pS,mk_at l k (by omega),if_neg hc]; omega
def spl (v : List St) (l : List Mk) : Nat → List Int
 | 0 => []
 | k + 1 => if (l.getD k (0,0)).2 = 5 ∨ (l.getD k (0,0)).2 = 2 then spl v l k ++ [msM (multK v) (pS v l false k)] else spl v l k
theorem spl_out (v : List St) (l : List Mk) (k : Nat) (hk : k < l.length) (h : l[k].2 = 5 ∨ l[k].2 = 2) : spl v l (k + 1) = spl v l k ++ [msM (multK v) (pS v l false k)]:=by rw [spl,mk_at l k hk,if_pos h]
theorem spl_not (v : List St) (l : List Mk) (k : Nat) (hk : k < l.length) (h : ¬ (l[k].2 = 5 ∨ l[k].2 = 2)) : spl v l (k + 1) = spl v l k:=by rw [spl,mk_at l k hk,if_neg h]
theorem spl_len (v : List St) (l : List Mk) : ∀ k,k ≤ l.length → (spl v l k).length ≤ k:=by
 intro k
 induction k with
 | zero => intro _; simp [spl]
 | succ k ih =>
  intro h
  have:=ih (by omega)
  by_cases hc : l[k].2 = 5 ∨ l[k].2 = 2
  ·rw [spl_out v l k (by omega) hc]; simp; omega
  ·rw [spl_not v l k (by omega) hc]; omega

theorem misB_false {x a : Int} (h : misB x a = false) : (a = 0 → x = 1) ∧ (a ≠ 0 → x ≠ 1 ∧ a ≠ 2 ∧ (a = 3 → x = 4) ∧ (a ≠ 3 → x ≠ 4)):=by
 unfold misB at h
 by_cases h1 : a = 0 ∨ x = 1
 ·rw [if_pos h1] at h
  simp at h
  omega
 ·rw [if_neg h1] at h
  by_cases h2 : a = 2
  ·rw [if_pos h2] at h; cases h
  ·rw [if_neg h2] at h
   by_cases h3 : a = 3
   ·rw [if_pos h3] at h; simp at h; omega
   ·rw [if_neg h3] at h; simp at h; omega
def Turn (l : List Mk) : Prop:=(∀ x ∈ l,1 ≤ x.2 ∧ x.2 ≤ 5) ∧ ∀ k,(hk : k < l.length) → misB l[k].2 (lastM (l.take k)) = false
theorem turn_inv {l : List Mk} (v : List St) (h : Turn l) : ∀ k,(hk : k < l.length) → (lastM (l.take (k + 1)) = 3 ∧ l[k].2 = 3 ∧ (tS v (l.take (k + 1))).2.1 = pS v l false k) ∨ (lastM (l.take (k + 1)) ≠ 3 ∧ lastM (l.take (k + 1)) ≠ 0 ∧ l[k].2 ≠ 3 ∧ pS v l false k = (tS v (l.take (k + 1))).2.1 + begM v l[k].1 - (tS v (l.take (k + 1))).1):=by
 intro k
 induction k with
 | zero =>
  intro hk
  have m:=(misB_false (h.2 0 hk)).1 rfl
  right
  rw [lastM_take l 0 hk,tS_take v l 0 hk,tstep_on _ _ _ (.inl m),m]
  refine ⟨by simp,by simp,by simp,?_⟩
  simp [pS,tS]
 | succ k ih =>
  intro hk
  have m:=misB_false (h.2 (k + 1) hk)
  have hkind:=h.1 _ (List.getElem_mem hk)
  rw [lastM_take l (k + 1) hk,tS_take v l (k + 1) hk]
  rcases ih (by omega) with ⟨a,b,c⟩ | ⟨a,a',b,c⟩
  ·have hx : l[k + 1].2 = 4:=((m.2 (by omega)).2.2.1) a
   right
   rw [tstep_on _ _ _ (.inr hx),hx,pS_off v l k hk b,← c]
   refine ⟨by simp,by simp,by simp,?_⟩
   simp
  ·have hm:=m.2 a'
   have h4:=hm.2.2.2 a
   rw [pS_on v l false k hk (.inr b),c]
   by_cases h3 : l[k + 1].2 = 3
   ·left
    rw [tstep_off _ _ _ h3,h3]
    refine ⟨by simp,rfl,?_⟩
    simp; omega
   ·right
    rw [tstep_out _ _ _ (by omega) h3]
    refine ⟨?_,?_,h3,by simp; omega⟩
    ·by_cases h5 : l[k + 1].2 = 5
     ·rw [if_pos h5]; exact a
     ·rw [if_neg h5]; exact h3
    ·by_cases h5 : l[k + 1].2 = 5
     ·rw [if_pos h5]; exact a'
     ·rw [if_neg h5]; omega
theorem spl_law {l : List Mk} (v : List St) (h : Turn l) : ∀ k,k ≤ l.length → (tS v (l.take k)).2.2 = spl v l k:=by
 intro k
 induction k with
 | zero => intro _; simp [tS,spl]
 | succ k ih =>
  intro hk
  have i:=ih (by omega)
  have t:=turn_inv v h k (by omega)
  have hkind:=h.1 _ (List.getElem_mem (show k < l.length by omega))
  rw [tS_take v l k (by omega)] at t ⊢
  by_cases h1 : l[k].2 = 1 ∨ l[k].2 = 4
  ·rw [tstep_on _ _ _ h1,spl_not v l k (by omega) (by omega)]; exact i
  ·by_cases h3 : l[k].2 = 3
   ·rw [tstep_off _ _ _ h3,spl_not v l k (by omega) (by omega)]; exact i
   ·rw [tstep_out _ _ _ h1 h3] at t ⊢
    rw [spl_out v l k (by omega) (by omega)]
    rcases t with ⟨_,b,_⟩ | ⟨_,_,_,c⟩
    ·exact absurd b h3
    ·simp only at c ⊢
     rw [i,c]
theorem turn_last {l : List Mk} (h : Turn l) (h2 : lastM l = 2) : ∃ n,l.length = n + 1 ∧ ∃ hn : n < l.length,l[n].2 = 2:=by
 rcases Nat.eq_zero_or_pos l.length with h0 | h0
 ·have : l = []:=List.eq_nil_of_length_eq_zero h0
  subst this
  simp [lastM] at h2
 ·refine ⟨l.length - 1,by omega,by omega,?_⟩
  have e:=lastM_take l (l.length - 1) (by omega)
  rw [show l.length - 1 + 1 = l.length by omega,List.take_length,h2] at e
  by_cases h5 : l[l.length - 1].2 = 5
  ·rw [if_pos h5] at e
   have m:=misB_false (h.2 (l.length - 1) (by omega))
   rw [← e] at m
   have:=(m.2 (by omega)).2.1
   omega
  ·rw [if_neg h5] at e; exact e.symm
theorem turn_first {l : List Mk} (h : Turn l) (h0 : 0 < l.length) : l[0].2 = 1:=(misB_false (h.2 0 h0)).1 rfl
theorem time_law {l : List Mk} (v : List St) (h : Turn l) (h2 : lastM l = 2) : (tS v l).2.2.getLastD 0 = msM (multK v) (pS v l false (l.length - 1)):=by
 obtain ⟨n,e,hn,hk⟩:=turn_last h h2
 have s:=spl_law v h l.length (Nat.le_refl _)
 rw [List.take_length] at s
 rw [s,e,spl_out v l n hn (.inr hk),Nat.add_sub_cancel]
 simp
theorem pS_loads (v : List St) (l : List Mk) : ∀ k,(h : k < l.length) → pS v l true k = begM v l[k].1 - begM v (l[0]'(by omega)).1:=by
 intro k
 induction k with
 | zero => intro h; simp [pS]
 | succ k ih =>
  intro h
  rw [pS_on v l true k h (.inl rfl),ih (by omega)]; omega
theorem whole_law {l : List Mk} (v : List St) (h : Turn l) (h2 : lastM l = 2) (h0 : 0 < l.length) : (tS v [l[0],l[l.length - 1]]).2.2.getLastD 0 = msM (multK v) (pS v l true (l.length - 1)):=by
 obtain ⟨n,e,hn,hk⟩:=turn_last h h2
 have hf:=turn_first h h0
 rw [pS_loads v l (l.length - 1) (by omega)]
 have hk' : l[l.length - 1].2 = 2:=by
  have : l.length - 1 = n:=by omega
  simp only [this]; exact hk
 have e2 : tS v [l[0],l[l.length - 1]] = tstep v (tstep v (0,0,[]) l[0]) l[l.length - 1]:=rfl
 rw [e2,tstep_on _ _ _ (.inl hf),tstep_out _ _ _ (by omega) (by omega)]
 simp
def shF (all d last : Int) (x : Mk) : Int:=max last (min all (if x.2 = 2 ∨ x.2 = 3 then x.1 + d else x.1 - d))
def shS (all d : Int) (s : Int × List Mk) (x : Mk) : Int × List Mk:=if x.2 = 5 then s else (shF all d s.1 x,s.2 ++ [(shF all d s.1 x,x.2)])
def shM (all d : Int) (l : List Mk) : Int × List Mk:=l.foldl (shS all d) (0,[])
theorem shM_take (all d : Int) (l : List Mk) (k : Nat) (h : k < l.length) : shM all d (l.take (k + 1)) = shS all d (shM all d (l.take k)) l[k]:=by
 unfold shM; rw [List.take_succ_eq_append_getElem h,List.foldl_append]; rfl
theorem shS_split {all d : Int} {s : Int × List Mk} {x : Mk} (h : x.2 = 5) : shS all d s x = s:=by simp [shS,h]
theorem shS_not {all d : Int} {s : Int × List Mk} {x : Mk} (h : ¬ x.2 = 5) : shS all d s x = (shF all d s.1 x,s.2 ++ [(shF all d s.1 x,x.2)]):=by simp [shS,h]
theorem lastM_snoc (l : List Mk) (x : Mk) (h : ¬ x.2 = 5) : lastM (l ++ [x]) = x.2:=by simp [lastM,h]
theorem turn_snoc {l : List Mk} {x : Mk} (h : Turn l) (hx : 1 ≤ x.2 ∧ x.2 ≤ 5) (hm : misB x.2 (lastM l) = false) : Turn (l ++ [x]):=by
 refine ⟨fun y hy => ?_,fun k hk => ?_⟩
 ·rcases List.mem_append.1 hy with hy | hy
  ·exact h.1 y hy
  ·simp at hy; subst hy; exact hx
 ·rcases Nat.lt_or_ge k l.length with hl | hl
  ·rw [List.getElem_append_left hl,List.take_append_of_le_length (by omega)]; exact h.2 k hl
  ·have : k = l.length:=by simp at hk; omega
   subst this
   rw [List.take_left']
   ·simpa using hm
   ·rfl
theorem rises_snoc {l : List Mk} {x : Mk} (h : Rises l) (hx : ∀ y ∈ l,y.1 ≤ x.1) : Rises (l ++ [x]):=by
 intro k hk
 simp at hk
 rcases Nat.lt_or_ge (k + 1) l.length with hl | hl
 ·rw [List.getElem_append_left hl,List.getElem_append_left (by omega)]; exact h k hl
 ·have : k + 1 = l.length:=by omega
  rw [List.getElem_append_left (by omega),List.getElem_append_right (by omega)]
  simpa using hx _ (List.getElem_mem _)
structure Sh (all : Int) (l : List Mk) (s : Int × List Mk) : Prop where
  last : 0 ≤ s.1 ∧ s.1 ≤ all
  bd : ∀ y ∈ s.2, 0 ≤ y.1 ∧ y.1 ≤ s.1
  rises : Rises s.2
  turn : Turn s.2
  kind : lastM s.2 = lastM l
  len : s.2.length ≤ l.length
theorem sh_inv {all d : Int} {l : List Mk} (h : Turn l) (ha : 0 ≤ all) : ∀ k,k ≤ l.length → Sh all (l.take k) (shM all d (l.take k)):=by
 intro k
 induction k with
 | zero => intro _; exact ⟨by simp [shM,ha],by simp [shM],by intro k hk; simp [shM] at hk,⟨by simp [shM],by intro k hk; simp [shM] at hk⟩,by simp [shM],by simp [shM]⟩
 | succ k ih =>
  intro hk
  have hlt : k < l.length:=by omega
  have i:=ih (by omega)
  have m:=h.2 k hlt
  have hkind:=h.1 _ (List.getElem_mem hlt)
  have hln : (l.take (k + 1)).length = (l.take k).length + 1:=by simp; omega
  rw [shM_take all d l k hlt]
  by_cases h5 : l[k].2 = 5
  ·rw [shS_split h5]
   exact ⟨i.last,i.bd,i.rises,i.turn,by rw [lastM_take l k hlt,if_pos h5]; exact i.kind,by have:=i.len; omega⟩
  ·rw [shS_not h5]
   have hb : (shM all d (l.take k)).1 ≤ shF all d (shM all d (l.take k)).1 l[k] ∧ shF all d (shM all d (l.take k)).1 l[k] ≤ all:=by have:=i.last; unfold shF; omega
   generalize shF all d (shM all d (l.take k)).1 l[k] = f at *
   refine ⟨by have:=i.last; simp; omega,?_,rises_snoc i.rises (fun y hy => by have:=i.bd y hy; simp; omega),turn_snoc i.turn (by simpa using hkind) (by rw [i.kind]; exact m),?_,by have:=i.len; simp at this hln ⊢; omega⟩
   ·intro y hy
    have hl:=i.last
    rcases List.mem_append.1 hy with hy | hy
    ·have:=i.bd y hy; simp; omega
    ·simp at hy; subst hy; simp; omega
   ·rw [lastM_take l k hlt,if_neg h5]; exact lastM_snoc _ _ (by simpa using h5)
theorem sh_all {all d : Int} {l : List Mk} (h : Turn l) (ha : 0 ≤ all) : Sh all l (shM all d l):=by
 have:=sh_inv (d:=d) h ha l.length (Nat.le_refl _)
 rwa [List.take_length] at this
def mvL (all d : Int) (l : List Mk) : List Mk:=if (0 ≤ d + 10000000 ∧ d ≤ 10000000) ∧ ∀ x ∈ l,0 ≤ x.1 + d ∧ x.1 + d ≤ all then l.map fun x => (x.1 + d,x.2) else []
def mvE (all d : Int) (l : List Mk) : Int:=if (0 ≤ d + 10000000 ∧ d ≤ 10000000) ∧ ∀ x ∈ l,0 ≤ x.1 + d ∧ x.1 + d ≤ all then 0 else 1
theorem mv_ok {all d : Int} {l : List Mk} (h : (0 ≤ d + 10000000 ∧ d ≤ 10000000) ∧ ∀ x ∈ l,0 ≤ x.1 + d ∧ x.1 + d ≤ all) : mvL all d l = (l.map fun x => (x.1 + d,x.2)) ∧ mvE all d l = 0:=⟨if_pos h,if_pos h⟩
theorem mv_bad {all d : Int} {l : List Mk} (h : ¬ ((0 ≤ d + 10000000 ∧ d ≤ 10000000) ∧ ∀ x ∈ l,0 ≤ x.1 + d ∧ x.1 + d ≤ all)) : mvL all d l = [] ∧ mvE all d l = 1:=⟨if_neg h,if_neg h⟩
theorem mv_take {all d : Int} {l : List Mk} {k : Nat} (hk : k < l.length) (h : ∀ x ∈ l.take k,0 ≤ x.1 + d ∧ x.1 + d ≤ all) (hx : 0 ≤ l[k].1 + d ∧ l[k].1 + d ≤ all) : ∀ x ∈ l.take (k + 1),0 ≤ x.1 + d ∧ x.1 + d ≤ all:=by
 intro x hx'
 rw [List.take_succ_eq_append_getElem hk] at hx'
 rcases List.mem_append.1 hx' with h' | h'
 ·exact h x h'
 ·simp at h'; subst h'; exact hx
end Go.Proofs.YtggnccafmadacaaGreatDoor
/- The walks of slices.Equal over integers and marks, of rounded, playedTo, TimeOf and SplitsBy. -/
namespace Go.Proofs.YtggnccafmadacaaGreatDoor
set_option linter.unusedVariables false
set_option linter.unusedSimpArgs false
open Go.RowKit

set_option maxHeartbeats 1000000 in
theorem equalI_any (A B : Option Addr) (c d lo lo' : Nat) (ps qs : List Int) (w : World) (hr : Row w lo 1 A ps.length (ints ps)) (hr' : Row w lo' 1 B qs.length (ints qs)) (hl : ps.length ≤ 1000000000) (hl' : qs.length ≤ 1000000000) :
  Calls Tryz.prog 86 #[.slice A ps.length c,.slice B qs.length d] w fun e w' => e = .returned (.bool (decide (ps = qs))) ∧ ∃ q,w' = w.drewN q:=by
 by_cases hlen : ps.length = qs.length
 ·have h0 : ((ps.length : Int) != (qs.length : Int)) = false:=by simp [hlen]
  have HLEN:=Lib.hid hlen
  clear hlen
  go_enter Tryz.func86,Tryz.ntmps86
  go_wp2_with fail
  go_loopw [13] (fun i wr => ∃ (k : Nat) (q : Nat),k ≤ ps.length ∧ i = .int .i64 k ∧ Hid (ps.take k = qs.take k) ∧ wr = w.drewN q) (fun i _ => ps.length - (intOf i).toNat)
  case atStart => exact ⟨0,0,Nat.zero_le _,rfl,Lib.hid rfl,rfl⟩
  case round =>
   obtain ⟨k,q,hk,rfl,htk,rfl⟩:=hrel
   by_cases hlt : k < ps.length
   ·obtain ⟨b,off,rfl,_,hbs,c0⟩:=hr.int_at hlt
    have hlt' : k < qs.length:=by have:=HLEN.out; omega
    obtain ⟨b',off',rfl,_,hbs',d0⟩:=hr'.int_at hlt'
    by_cases he : ps[k] = qs[k]
    ·have HN : Hid (ps.take (k + 1) = qs.take (k + 1)):=Lib.hid (by rw [List.take_succ_eq_append_getElem hlt,List.take_succ_eq_append_getElem hlt',htk.out,he])
     rw [← he] at d0
     clear he
     go_wp2_with fail
     go_quiet (fail)
     go_wp2_with fail
     go_roundw
     case rel => exact ⟨k + 1,_,by omega,by go_num,HN,rfl⟩
     case measure => simp [intOf]; omega
    ·have HN : Hid (¬ ps = qs):=Lib.hid (fun h => he (by subst h; rfl))
     have e1 : (ps[k] != qs[k]) = true:=by simpa using he
     clear he
     go_wp2_with fail
     go_quiet (fail)
     go_wp2_with fail
     go_ret
     exact ⟨ret_bool' (by simp [HN.out]),_,World.drewN_drewN _ _ _⟩
   ·have HN : Hid (ps = qs):=Lib.hid (by
     have:=htk.out
     have hh:=HLEN.out
     rwa [List.take_of_length_le (by omega),List.take_of_length_le (by omega)] at this)
    go_wp2_with fail
    go_ret
    exact ⟨ret_bool' (by simp [HN.out]),_,rfl⟩
 ·have h0 : ((ps.length : Int) != (qs.length : Int)) = true:=by rw [bne_iff_ne]; omega
  have HN : Hid (¬ ps = qs):=Lib.hid (fun h => hlen (by rw [h]))
  clear hlen
  go_enter Tryz.func86,Tryz.ntmps86
  go_wp2_with fail
  go_ret
  exact ⟨ret_bool' (by simp [HN.out]),0,rfl⟩

end Go.Proofs.YtggnccafmadacaaGreatDoor
/- copy at elements of more than one cell; the walk of slices.Repeat at one pair of numbers. -/
namespace Go.Proofs.YtggnccafmadacaaGreatDoor
set_option linter.unusedVariables false
set_option linter.unusedSimpArgs false
open Go.RowKit

theorem run_copy_rowN {P : Program} (w : World) (dT sT ty elem : TypeId) (g o dLen dCap : Nat) (a : Addr) (sLen sCap : Nat) (cur : Array Value) (t : TypeId) (cs : List Value) (size m : Nat)
  (hu : P.underlying dT = some (.slice elem)) (hs : (P.info? elem).map (·.size) = some size)
  (hg : w.heap[g]? = some (.cells cur t (0,0))) (hm : m = Nat.min sLen dLen) (hn : cs.length = m * size)
  (hsrc : ∀ j v,cs[j]? = some v → w.cell? (a.add j) = some v) (hfit : o + cs.length ≤ cur.size) (h1 : ∀ v ∈ cs,v.oneCell' = true) :
  (Builtin.copy_ #[dT,sT] ty #[.slice (some ⟨g,o,none⟩) dLen dCap,.slice (some a) sLen sCap]).run P w =
   .ok (goInt m) (w.setRow g (cur.toList.take o ++ cs ++ cur.toList.drop (o + cs.length)).toArray):=by
 have hl:=run_loadCells_list (P:=P) w a cs hsrc
 have hst:=run_storeCells_at P g o t cs 0 cur w hg (by simpa using hfit) h1
 cases hq : P.info? elem with
 | none => simp [hq] at hs
 | some i =>
  have hi : i.size = size:=by simpa [hq] using hs
  rw [hn] at hl
  subst hm
  simp [Builtin.copy_,run_underlying hu,Builtin.lenOf,Builtin.firstCells,sizeOf,typeInfo,hq,hi,hl,hst]

theorem wpList_copyN {P : Program} {w : World} {ops : Array Oper} {rest : List Oper} {o : Oper} {a : Act} {Q : Exit → Act → World → Prop} (hgd : o.guard = none) (d s : Operand) (dT sT : TypeId)
  (ho : o.op = .call { callee:=.builtin .copy,args:=#[d,s],argTypes:=#[dT,sT] }) (elem : TypeId) (size m : Nat) (hu : P.underlying dT = some (.slice elem)) (hsz : (P.info? elem).map (·.size) = some size)
  (g off dLen dCap : Nat) (ad : Addr) (sLen sCap : Nat) (hd : a.eval d = .slice (some ⟨g,off,none⟩) dLen dCap) (hs : a.eval s = .slice (some ad) sLen sCap)
  (cur : List Value) (t : TypeId) (hg : w.heap[g]? = some (.cells cur.toArray t (0,0))) (cs : List Value) (hm : m = Nat.min sLen dLen) (hn : cs.length = m * size)
  (hsrc : ∀ j v,cs[j]? = some v → w.cell? (ad.add j) = some v) (hfit : off + cs.length ≤ cur.length) (h1 : ∀ v ∈ cs,v.oneCell' = true) (B : Nat) (w0 : World) (hb : Below B w0 w) (hBg : B ≤ g)
  (h : ∀ w',Hid (w'.heap[g]? = some (.cells (splice cur off cs).toArray t (0,0))) → Below B w0 w' → wpList P ops Q rest (a.put o.dst (goInt m)) w') : wpList P ops Q (o :: rest) a w:=by
 refine wpList_plain hgd fun K hK => ?_
 have hrun:=run_copy_rowN (P:=P) w dT sT o.type elem g off dLen dCap ad sLen sCap cur.toArray t cs size m hu hsz hg hm hn hsrc (by simpa using hfit) h1
 unfold Oper.wp
 simp [execOp,ho,resolve,invoke,builtin,hd,hs,hrun,Result.andThen]
 exact hK _ _ (h _ (show _ = _ by simpa [splice] using setRow_heap w g _ _ t _ hg) (below_setRow hb hBg _))
theorem step_copyN {P : Program} {ops : Array Oper} {o : Oper} {a : Act} {w : World} {K : Act → World → Prop} {Q : Exit → Act → World → Prop} {E : Prop} (hgd : o.guard = none) (d s : Operand) (dT sT : TypeId)
  (ho : o.op = .call { callee:=.builtin .copy,args:=#[d,s],argTypes:=#[dT,sT] }) (elem : TypeId) (size m : Nat) (hu : P.underlying dT = some (.slice elem)) (hsz : (P.info? elem).map (·.size) = some size)
  (g off dLen dCap : Nat) (ad : Addr) (sLen sCap : Nat) (hd : a.eval d = .slice (some ⟨g,off,none⟩) dLen dCap) (hs : a.eval s = .slice (some ad) sLen sCap)
  (cur : List Value) (t : TypeId) (hg : w.heap[g]? = some (.cells cur.toArray t (0,0))) (cs : List Value) (hm : m = Nat.min sLen dLen) (hn : cs.length = m * size)
  (hsrc : ∀ j v,cs[j]? = some v → w.cell? (ad.add j) = some v) (hfit : off + cs.length ≤ cur.length) (h1 : ∀ v ∈ cs,v.oneCell' = true) (B : Nat) (w0 : World) (hb : Below B w0 w) (hBg : B ≤ g)
  (h : ∀ w',Hid (w'.heap[g]? = some (.cells (splice cur off cs).toArray t (0,0))) → Below B w0 w' → K (a.put o.dst (goInt m)) w') :
  if Region.wanted o (yielded ops a.tmps) = true then Oper.wp P o a w K Q else E:=by
 have hw : Region.wanted o (yielded ops a.tmps) = true:=by simp [Region.wanted,hgd]
 rw [if_pos hw]
 have hrun:=run_copy_rowN (P:=P) w dT sT o.type elem g off dLen dCap ad sLen sCap cur.toArray t cs size m hu hsz hg hm hn hsrc (by simpa using hfit) h1
 unfold Oper.wp
 simp [execOp,ho,resolve,invoke,builtin,hd,hs,hrun,Result.andThen]
 exact h _ (show _ = _ by simpa [splice] using setRow_heap w g _ _ t _ hg) (below_setRow hb hBg _)

theorem prs_cons (p : Int × Int) (ps : List (Int × Int)) : prs (p :: ps) = .int .i64 p.1 :: .int .i64 p.2 :: prs ps:=rfl
theorem prs_take (ps : List (Int × Int)) (k : Nat) : (prs ps).take (k * 2) = prs (ps.take k):=by
 induction ps generalizing k with
 | nil => simp [prs]
 | cons p ps ih =>
  cases k with
  | zero => rfl
  | succ k =>
   have e : (k + 1) * 2 = k * 2 + 1 + 1:=by omega
   rw [prs_cons,e,List.take_succ_cons,List.take_succ_cons,ih,List.take_succ_cons,prs_cons]
theorem prs_drop (ps : List (Int × Int)) (k : Nat) : (prs ps).drop (k * 2) = prs (ps.drop k):=by
 induction ps generalizing k with
 | nil => simp [prs]
 | cons p ps ih =>
  cases k with
  | zero => rfl
  | succ k =>
   have e : (k + 1) * 2 = k * 2 + 1 + 1:=by omega
   rw [prs_cons,e,List.drop_succ_cons,List.drop_succ_cons,ih,List.drop_succ_cons]
theorem prs_splice (ps qs : List (Int × Int)) (k : Nat) : splice (prs ps) (k * 2) (prs qs) = prs (splice ps k qs):=by
 unfold splice
 rw [prs_take,prs_len,← Nat.add_mul,prs_drop,prs_app,prs_app]
def repP (p : Int × Int) (n k : Nat) : List (Int × Int):=List.replicate k p ++ List.replicate (n - k) (0,0)
theorem repP_len (p : Int × Int) (n k : Nat) (hk : k ≤ n) : (repP p n k).length = n:=by simp [repP]; omega
theorem repP_splice (p : Int × Int) (n k m : Nat) (_ : k + m ≤ n) : splice (repP p n k) k (List.replicate m p) = repP p n (k + m):=by
 unfold splice repP
 rw [List.take_left' (by simp),List.length_replicate,List.drop_append,List.drop_replicate,List.drop_replicate,List.length_replicate]
 have e1 : k - (k + m) = 0:=by omega
 have e2 : k + m - k = m:=by omega
 have e3 : n - k - m = n - (k + m):=by omega
 rw [e1,e2,e3,List.replicate_zero,List.nil_append,← List.append_assoc,List.replicate_append_replicate]
theorem repP_full (p : Int × Int) (n : Nat) : repP p n n = List.replicate n p:=by simp [repP]
def repC (p : Int × Int) (n k : Nat) : List Value:=prs (repP p n k)
def repS (p : Int × Int) (m : Nat) : List Value:=prs (List.replicate m p)
theorem repC_len (p : Int × Int) (n k : Nat) (hk : k ≤ n) : (repC p n k).length = n * 2:=by rw [repC,prs_len,repP_len p n k hk]
theorem repS_len (p : Int × Int) (m : Nat) : (repS p m).length = m * 2:=by rw [repS,prs_len,List.length_replicate]
theorem repC_splice (p : Int × Int) (n k m : Nat) (h : k + m ≤ n) : splice (repC p n k) (k * 2) (repS p m) = repC p n (k + m):=by rw [repC,repS,prs_splice,repP_splice p n k m h,repC]
theorem repC_none (p : Int × Int) (n : Nat) : repC p n 0 = (madeCells #[.int .i64 0,.int .i64 0] (n * 2)).toList:=by
 apply List.ext_getElem?
 intro j
 by_cases hj : j < n * 2
 ·have h1 : (repC p n 0)[j]? = some (.int .i64 0):=by
   have h0 : repC p n 0 = List.replicate (n * 2) (.int .i64 0):=by
    rw [repC,repP]
    simp only [List.replicate_zero,List.nil_append,Nat.sub_zero]
    clear hj
    induction n with
    | zero => rfl
    | succ n ih =>
     have e : (n + 1) * 2 = n * 2 + 1 + 1:=by omega
     rw [List.replicate_succ,prs_cons,ih,e,List.replicate_succ,List.replicate_succ]
   rw [h0,List.getElem?_replicate,if_pos hj]
  rw [h1]
  have h2 : ((madeCells #[Value.int .i64 0,Value.int .i64 0] (n * 2)).toList)[j]? = some (#[Value.int .i64 0,Value.int .i64 0][j % 2]!):=by
   simp [madeCells,hj]
  rw [h2]
  have : j % 2 = 0 ∨ j % 2 = 1:=by omega
  rcases this with h | h <;> rw [h] <;> rfl
 ·rw [List.getElem?_eq_none (by rw [repC_len p n 0 (by omega)]; omega),List.getElem?_eq_none (by simp [size_madeCells]; omega)]
theorem own_wholeN {w : World} {base : Nat} {e : TypeId} {g n size : Nat} {xs : List Value} (h : w.ownsRow base e size (.slice (some ⟨g,0,none⟩) n n) n xs) : w.heap[g]? = some (.cells xs.toArray e (0,0)):=by
 rcases h.2 with ⟨h0,_⟩ | ⟨g',cap,cur,hv,hg,hh,hcap,hm,hcs,ht⟩
 ·cases h0
 ·injection hv with h1 _ h3
  injection h1 with h1
  injection h1 with h1
  subst h1 h3
  rw [hh]
  rw [List.take_of_length_le (by simp [hcs])] at ht
  subst ht
  simp
theorem own_of_wholeN {w : World} {base : Nat} {e : TypeId} {g n size : Nat} {xs : List Value} (h : w.heap[g]? = some (.cells xs.toArray e (0,0))) (hx : xs.length = n * size) (hb : base ≤ g) (hm : n ≤ 9223372036854775807) : w.ownsRow base e size (.slice (some ⟨g,0,none⟩) n n) n xs :=
 ⟨hx,.inr ⟨g,n,xs.toArray,rfl,hb,h,Nat.le_refl _,by simp only [maxLen]; omega,by simp [hx],by rw [List.take_of_length_le (by simp [hx])]⟩⟩
theorem repC_src {w : World} {g : Nat} {e : TypeId} (p : Int × Int) (n k j : Nat) (v : Value) (m : Nat) (hm : m ≤ k) (hr : w.heap[g]? = some (.cells (repC p n k).toArray e (0,0))) (hv : (repS p m)[j]? = some v) : w.cell? ((⟨g,0,none⟩ : Addr).add j) = some v:=by
 refine World.news_of_block hr j v ?_
 have e1 : repS p m = (repC p n k).take (m * 2):=by
  rw [repS,repC,prs_take,repP,List.take_append_of_le_length (by simp; omega),List.take_replicate]
  congr 2
  omega
 rw [e1] at hv
 have:=(List.getElem?_eq_some_iff.1 hv).1
 rw [List.getElem?_take_of_lt (by simp at this; omega)] at hv
 simpa using hv
theorem sz_far : (Tryz.prog.info? 242).map (·.size) = some 2:=by kernel_rfl
theorem ty_fars : SliceTy Tryz.prog 246 242 2 16:=.mk' Tryz.underlying246 (z:=.agg #[.int .i64 0,.int .i64 0]) (by kernel_rfl) rfl (by decide)
set_option maxRecDepth 100000 in
set_option maxHeartbeats 1000000 in
theorem repeatF_any (A : Option Addr) (c lo : Nat) (p : Int × Int) (n : Nat) (w : World) (hr : Row w lo 2 A 1 (prs [p])) (hn : n ≤ 1000000000) (hn1 : 1 ≤ n) :
  Calls Tryz.prog 262 #[.slice A 1 c,.int .i64 n] w fun e w' => ∃ A' c',e = .returned (.slice A' n c') ∧ w'.ownsRow w.heap.size 242 2 (.slice A' n c') n (prs (List.replicate n p)) ∧ Below w.heap.size w w':=by
 obtain ⟨und,⟨i0,z0,hi0,hz0,hz1,hz2,hz3⟩,_⟩:=ty_fars
 have hz0' : z0 = .agg #[.int .i64 0,.int .i64 0]:=by
  have : (Tryz.prog.info? 242).map (fun i => i.zero) = some (some (.agg #[.int .i64 0,.int .i64 0])):=by kernel_rfl
  rw [hi0] at this
  simp [hz0] at this
  exact this
 subst hz0'
 obtain ⟨sb,so,rfl,_,hsb,hsc⟩:=hr.2 (by omega)
 have hd0 : decide ((n : Int) < 0) = false:=by simp
 have hd1 : decide ((9223372036854775807 : Int) < (n : Int)) = false:=by simp; omega
 go_enter Tryz.func262,Tryz.ntmps262
 go_wp2_with fail
 refine (mul_one' n hn _).mono ?_
 rintro e w' ⟨rfl,rfl⟩
 go_wp2_with (first | (at_make; go_must (refine wpList_make_full _ rfl _ _ 246 rfl w.heap.size 242 i0 _ 2 und hi0 hz0 hz1 .i64 .i64 _ _ n rfl rfl rfl rfl (by rw [hz2]; omega) (by simp only [maxLen]; omega) (Nat.le_refl _) ?_)))
 intro w1 hown1 hg1
 rw [← repC_none p n] at hown1
 have HR0:=Lib.hid (own_wholeN hown1)
 have hb1 : Below w.heap.size w w1:=below_of_grown hg1 (Nat.le_refl _) (fun k hk => by cases hk)
 have hr1:=hr.below hb1
 have hl0:=repC_len p n 0 (by omega)
 have hs1 : ∀ j v,(repS p 1)[j]? = some v → w1.cell? ((⟨sb,so,none⟩ : Addr).add j) = some v:=by
  intro j v hv
  have e : (⟨sb,so,none⟩ : Addr).add j = ⟨sb,so + j,none⟩:=by unfold Addr.add; split <;> simp_all
  rw [e,World.cell?_of_block (hb1.block sb hsb)]
  exact hsc j v hv
 have HS:=Lib.hid hs1
 clear hown1 hs1 hsc
 go_wp2_with (refine wpList_copyN rfl (.tmp 31) (.tmp 32) 246 246 rfl 242 2 1 und sz_far w.heap.size 0 n n ⟨sb,so,none⟩ 1 c rfl rfl (repC p n 0) 242 HR0.out (repS p 1) (by simp only [Nat.min_def]; split <;> omega) (repS_len _ _) HS.out (by rw [repS_len]; omega) (prs_one _) w.heap.size w hb1 (Nat.le_refl _) ?_)
 intro w2 HR1 hb2
 have HR2 : Hid (w2.heap[w.heap.size]? = some (.cells (repC p n 1).toArray 242 (0,0))):=by
  have h1:=HR1.out
  rw [show (0 : Nat) = 0 * 2 from rfl,repC_splice p n 0 1 (by omega),Nat.zero_add] at h1
  exact Lib.hid h1
 clear HR1 HR0 hl0 HS hr hr1
 go_wp2_with fail
 go_loopw [8] (fun i wr => ∃ k : Nat,k ≤ n ∧ 0 < k ∧ i = .int .i64 k ∧ Hid (wr.heap[w.heap.size]? = some (.cells (repC p n k).toArray 242 (0,0))) ∧ Below w.heap.size w wr) (fun i _ => n - (intOf i).toNat)
 case atStart => exact ⟨1,by omega,by omega,rfl,HR2,hb2⟩
 case round =>
  obtain ⟨k,hk,hk1,rfl,HR,hbw⟩:=hrel
  by_cases hlt : k < n
  ·have hl1:=repC_len p n k hk
   have HL1:=Lib.hid hl1
   clear hl1
   have hnk : ¬ n = k:=by omega
   have hw1 : IntKind.i64.wrap ((k : Int) + ((min k (n - k) : Nat) : Int)) = (k : Int) + ((min k (n - k) : Nat) : Int):=IntWalk.i64_in _ ⟨by omega,by omega⟩
   generalize hm : min k (n - k) = m at hw1
   have HM:=Lib.hid hm
   clear hm
   go_wp2_with fail
   go_region_law (refine step_copyN rfl (.tmp 41) (.tmp 44) 246 246 rfl 242 2 m und sz_far w.heap.size (k * 2) (n - k) (n - k) ⟨w.heap.size,0,none⟩ k n (by simp [Act.eval,Act.put,hnk]) (by simp [Act.eval,Act.put]) (repC p n k) 242 HR.out (repS p m) (by have:=HM.out; simp only [Nat.min_def] at this ⊢; exact this.symm) (repS_len _ _) (fun j v hv => repC_src p n k j v m (by have:=HM.out; omega) HR.out hv) (by rw [repS_len,HL1.out]; have:=HM.out; omega) (prs_one _) w.heap.size w hbw.drew (Nat.le_refl _) ?_; intro w3 HR3 hb3)
   have HR4 : Hid (w3.heap[w.heap.size]? = some (.cells (repC p n (k + m)).toArray 242 (0,0))):=by
    have h1:=HR3.out
    rw [repC_splice p n k m (by have:=HM.out; omega)] at h1
    exact Lib.hid h1
   clear HR3
   go_wp2_with fail
   go_frame
   clear hw1
   have:=HM.out
   go_roundw
   case rel =>
    refine ⟨_,_,_,_,_,_,_,_,_,_,_,_,_,_,?_,rfl⟩
    exact ⟨k + m,by omega,by omega,by simp,HR4,hb3⟩
   case measure => simp [intOf]; omega
  ·have hkn : k = n:=by omega
   subst hkn
   go_wp2_with fail
   go_ret
   refine ⟨_,_,rfl,?_,hbw⟩
   have:=own_of_wholeN (base:=w.heap.size) (size:=2) HR.out (repC_len _ _ _ (Nat.le_refl _)) (Nat.le_refl _) (by omega)
   rw [repC,repP_full] at this
   exact this
end Go.Proofs.YtggnccafmadacaaGreatDoor
