/- Texts of this seat, laid together: SgH. -/
import Derived.Test.YtapjahbflhingaaGreatDoorBu21
/- The walks of finished, best and Best at a right history; slices.Index and Contains at numbers. -/
namespace Go.Proofs.YtapjahbflhingaaGreatDoor
set_option linter.unusedVariables false
set_option linter.unusedSimpArgs false
open Go.RowKit

theorem cell_below {w w' : World} {p : Addr} {v : Value} (h : w.cell? p = some v) (hb : Below w.heap.size w w') : w'.cell? p = some v:=(World.cell?_of_block (hb.block p.block (World.block_lt_of_cell? w p h))).trans h
set_option maxHeartbeats 1000000 in
theorem indexI_in (A : Option Addr) (c lo : Nat) (l : List Int) (x : Int) (w : World) (hr : Row w lo 1 A l.length (ints l)) (hl : l.length ≤ 1000000000) :
  Calls Tryz.prog 130 #[.slice A l.length c,.int .i64 x] w fun e w' => ∃ r : Int,e = .returned (.int .i64 r) ∧ (decide (0 ≤ r) = decide (x ∈ l)) ∧ w = w':=by
 go_enter Tryz.func130,Tryz.ntmps130
 go_wp2_with fail
 go_loop [8] (fun i => ∃ k : Nat,k ≤ l.length ∧ i = .int .i64 k ∧ Hid (∀ j (h : j < l.length),j < k → x ≠ l[j])) (fun i => l.length - (intOf i).toNat)
 case atStart => exact ⟨0,Nat.zero_le _,rfl,Lib.hid (fun _ _ h => absurd h (Nat.not_lt_zero _))⟩
 case round =>
  obtain ⟨k,hk,rfl,HN⟩:=hrel
  by_cases hlt : k < l.length
  ·obtain ⟨b,off,rfl,_,hbs,c0⟩:=hr.int_at hlt
   have HM : Hid (x = l[k] → x ∈ l):=Lib.hid (fun h => by rw [h]; exact List.getElem_mem _)
   have HS : Hid (¬ x = l[k] → ∀ j (h : j < l.length),j < k + 1 → x ≠ l[j]):=Lib.hid (fun h j hj hjk => by
    rcases Nat.lt_or_ge j k with h1 | h1
    ·exact HN.out j hj h1
    ·have : j = k:=by omega
     subst this; exact h)
   generalize l[k] = y at *
   by_cases hxy : x = y
   ·have d : (x == y) = true:=by simpa using hxy
    have HD:=Lib.hid (HM.out hxy)
    clear hxy HM HS
    go_wp2_with fail
    go_ret
    exact ⟨(k : Int),rfl,by simp [HD.out],rfl⟩
   ·have d : (x == y) = false:=by simpa using hxy
    have HD:=Lib.hid (HS.out hxy)
    clear hxy HM HS
    go_wp2_with fail
    go_round
    case rel => exact ⟨k + 1,by omega,by go_num,HD⟩
    case measure => simp [intOf]; omega
  ·have HD : Hid (x ∉ l):=Lib.hid (fun h => by
    obtain ⟨j,hj,e⟩:=List.getElem_of_mem h
    exact HN.out j hj (by omega) e.symm)
   go_wp2_with fail
   go_ret
   exact ⟨-1,rfl,by simp [HD.out],rfl⟩
theorem finished_any (p : Nat) (SA TA B : Option Addr) (c d k cc no_ m : Nat) (no : Int) (n : Nat) (w : World) (hp : Blk w p 29 #[.slice SA n c,.slice TA m d]) :
  Calls Tryz.prog 49 #[.pointer (some ⟨p,0,none⟩),.agg #[.int .i64 no,.slice B k cc]] w fun e w' => e = .returned (.bool (decide (k = n))) ∧ Below w.heap.size w w':=by
 have c0 : w.cell? ⟨p,0,none⟩ = some (.slice SA n c):=by simpa using hp.cell 0
 have zp:=hp.lt
 have q : ((k : Int) == (n : Int)) = decide (k = n):=by
  by_cases h : k = n
  ·subst h; simp
  ·have : ¬ (k : Int) = (n : Int):=by omega
   simp [h,this]
 go_enter Tryz.func49,Tryz.ntmps49
 go_wp2_with fail
 go_quiet (fail)
 go_wp2_with fail
 go_ret
 exact ⟨by first | rfl | (rw [← q]; rfl) | (simp [q]),below_drewN' ((Below.refl _ _).alloc (Nat.le_refl _) _) _⟩

def lastT (a : Att) : Int:=a.2.getD (a.2.length - 1) 0
def bI (n : Nat) (atts : List Att) : Nat → Int
 | 0 => -1
 | k + 1 => if h : k < atts.length then (if atts[k].2.length = n ∧ (bI n atts k < 0 ∨ lastT atts[k] < lastT (atts.getD (bI n atts k).toNat (0,[]))) then (k : Int) else bI n atts k) else bI n atts k
theorem bI_inv (n : Nat) (atts : List Att) : ∀ k,k ≤ atts.length → bI n atts k = -1 ∨ ∃ j : Nat,∃ h : j < atts.length,bI n atts k = j ∧ j < k ∧ atts[j].2.length = n:=by
 intro k
 induction k with
 | zero => intro _; exact .inl rfl
 | succ k ih =>
  intro hk
  have hlt : k < atts.length:=by omega
  simp only [bI,hlt,dite_true]
  split
  ·rename_i h
   exact .inr ⟨k,hlt,rfl,by omega,h.1⟩
  ·rcases ih (by omega) with h | ⟨j,hj,h1,h2,h3⟩
   ·exact .inl h
   ·exact .inr ⟨j,hj,h1,by omega,h3⟩
theorem bI_no {n : Nat} {atts : List Att} {k : Nat} (hk : k < atts.length) (h : ¬ atts[k].2.length = n) : bI n atts (k + 1) = bI n atts k:=by simp [bI,hk,h]
theorem bI_new {n : Nat} {atts : List Att} {k : Nat} (hk : k < atts.length) (h : atts[k].2.length = n) (h' : bI n atts k < 0) : bI n atts (k + 1) = k:=by simp [bI,hk,h,h']
theorem bI_cmp {n : Nat} {atts : List Att} {k j : Nat} (hk : k < atts.length) (h : atts[k].2.length = n) (hj : j < atts.length) (hb : bI n atts k = j) (hn : atts[j].2.length = n) (h1 : n - 1 < n) :
  bI n atts (k + 1) = if atts[k].2[n - 1]'(by omega) < atts[j].2[n - 1]'(by omega) then (k : Int) else (j : Int):=by
 have e1 : lastT atts[k] = atts[k].2[n - 1]'(by omega):=by unfold lastT; simp only [List.getD_eq_getElem?_getD]; simp only [h]; rw [List.getElem?_eq_getElem (by omega)]; rfl
 have e2 : lastT (atts.getD j (0,[])) = atts[j].2[n - 1]'(by omega):=by
  have : atts.getD j (0,[]) = atts[j]:=by rw [List.getD_eq_getElem?_getD,List.getElem?_eq_getElem hj]; rfl
  rw [this]; unfold lastT; simp only [List.getD_eq_getElem?_getD]; simp only [hn]; rw [List.getElem?_eq_getElem (by omega)]; rfl
 have hneg : ¬ ((j : Int) < 0):=by omega
 simp only [bI,hk,dite_true,h,true_and,hb,Int.toNat_natCast,e1,e2,hneg,false_or]

set_option maxHeartbeats 4000000 in
theorem best_ok (p : Nat) (SA TA : Option Addr) (c d lo : Nat) (segs : List (List UInt8)) (atts : List Att) (w : World) (hp : Blk w p 29 #[.slice SA segs.length c,.slice TA atts.length d]) (hh : Hist w lo SA TA segs atts) (n1 : 1 ≤ segs.length) (n2 : segs.length ≤ 60) (hm : atts.length ≤ 1000000000) :
  Calls Tryz.prog 45 #[.pointer (some ⟨p,0,none⟩)] w fun e w' => e = .returned (.int .i64 (bI segs.length atts atts.length)) ∧ Below w.heap.size w w':=by
 have c0 : w.cell? ⟨p,0,none⟩ = some (.slice SA segs.length c):=by simpa using hp.cell 0
 have c1 : w.cell? ⟨p,1,none⟩ = some (.slice TA atts.length d):=by simpa using hp.cell 1
 have zp:=hp.lt
 generalize hn : segs.length = n at *
 have wl : IntKind.i64.wrap ((n : Int) - 1) = ((n - 1 : Nat) : Int):=by rw [IntWalk.i64_in _ ⟨by omega,by omega⟩]; omega
 generalize hl : n - 1 = l at *
 have HLn : Hid (n - 1 = l):=Lib.hid hl
 have HSn:=Lib.hid hn
 clear hl hn
 go_enter Tryz.func45,Tryz.ntmps45
 go_wp2_with fail
 go_loopw [3,18] (fun o i wr => ∃ k : Nat,k ≤ atts.length ∧ i = .int .i64 k ∧ o = .int .i64 (bI n atts k) ∧ Below w.heap.size w wr) (fun _ i _ => atts.length - (intOf i).toNat)
 case atStart => exact ⟨0,Nat.zero_le _,rfl,rfl,Below.refl _ _⟩
 case round =>
  obtain ⟨k,hk,rfl,rfl,hbw⟩:=hrel
  clear c0 c1
  by_cases hlt : k < atts.length
  ·have hp:=hp.below hbw
   have hh:=hh.below hbw
   obtain ⟨tb,tO,B,cc,rfl,ztb,t0,t1',hrB⟩:=hh.att hlt
   have hinv:=bI_inv n atts k (by omega)
   have c1:=cell_below (show wr.cell? ⟨p,1,none⟩ = some (.slice (some ⟨tb,tO,none⟩) atts.length d) by simpa using hp.cell 1) (Below.refl _ _)
   by_cases hn' : atts[k].2.length = n
   ·rcases hinv with hneg | ⟨j,hj,hb,hjk,hjn⟩
    ·have HE:=Lib.hid (bI_new (n:=n) hlt hn' (by rw [hneg]; decide))
     have HQ : Hid (decide (n = n) = true):=Lib.hid (by simp)
     rw [hn'] at t1'
     rw [hneg]
     generalize atts[k].1 = no at *
     clear hrB hn' hneg hh
     have hlen : n = n:=rfl
     go_upto_region 6 with (fail)
     have a0' : Blk (wr.alloc (.cells #[.int .i64 no,.slice B n cc] 81)) wr.heap.size 81 #[.int .i64 no,.slice B n cc]:=Blk.new _ _ _
     have hba : Below wr.heap.size wr (wr.alloc (.cells #[.int .i64 no,.slice B n cc] 81)):=(Below.refl _ _).alloc (Nat.le_refl _) _
     have hp:=hp.below hba
     have hbw:=hbw.trans (hba.mono hbw.size)

     generalize wr.alloc (.cells #[.int .i64 no,.slice B n cc] 81) = W at *
     generalize wr.heap.size = ab at *
     have a0 : W.cell? ⟨ab,0,none⟩ = some (.int .i64 no):=by simpa using a0'.cell 0
     have a1 : W.cell? ⟨ab,1,none⟩ = some (.slice B n cc):=by simpa using a0'.cell 1
     have hbd : Below W.heap.size W W.drew:=(Below.refl _ _).drew
     clear hba a0' t0 t1' c1
     refine wp_region_held_drew (S:=(fun w' => w'.cell? ⟨ab,0,none⟩ = some (.int .i64 no) ∧ w'.cell? ⟨ab,1,none⟩ = some (.slice B n cc))) (by kernel_rfl) (⟨cell_below a0 hbd,cell_below a1 hbd⟩) (fun hHeld => ?_)
     (refine wpAnyH_take (i:=0) (v:=?_) (by (simp only [List.getElem?_toArray,List.getElem?_cons_zero]; rfl)) (by kernel_rfl) (by kernel_rfl) (by kernel_rfl) (by exact fun _ _ _ h => h) (Or.inl ⟨by rfl,?_⟩) (by assumption) ?_; (rotate_left 1; (intro w hSw; (try dsimp only at hSw); go_simp); (try with_reducible rfl)); (try simp only [Act.put,List.setIfInBounds_toArray,List.set_cons_zero,List.set_cons_succ]))
     (refine wpAnyH_take (i:=1) (v:=?_) (by (simp only [List.getElem?_toArray,List.getElem?_cons_succ,List.getElem?_cons_zero]; rfl)) (by kernel_rfl) (by kernel_rfl) (by kernel_rfl) (by exact fun _ _ _ h => h) (Or.inl ⟨by rfl,?_⟩) (by assumption) ?_; (rotate_left 1; (intro w hSw; (try dsimp only at hSw); go_simp); (try with_reducible rfl)); (try simp only [Act.put,List.setIfInBounds_toArray,List.set_cons_zero,List.set_cons_succ]))
     refine wpAnyH_ready (rs:=[2]) (by kernel_rfl) (by simp) ?_
     refine AllReadyH.cons rfl (fun K hK => ?_) AllReadyH.nil
     go_simp
     go_at_call 49
     refine (finished_any p _ _ _ _ _ _ _ 0 _ _ _ _ (hp.below hbd)).mono ?_
     rintro e wf ⟨rfl,hbf⟩
     rw [HQ.out]
     have hbd:=hbd.trans (hbf.mono hbd.size)
     go_wp2_with fail
     refine hK.out _ _ (⟨cell_below a0 hbd,cell_below a1 hbd⟩) (fun hHeld => ?_)
     clear hK K
     (try simp only [Act.put,List.setIfInBounds_toArray,List.set_cons_zero,List.set_cons_succ])
     (refine wpAnyH_take (i:=3) (v:=?_) (by (simp only [List.getElem?_toArray,List.getElem?_cons_succ,List.getElem?_cons_zero]; rfl)) (by kernel_rfl) (by kernel_rfl) (by kernel_rfl) (by exact fun _ _ _ h => h) (Or.inl ⟨by rfl,?_⟩) (by assumption) ?_; (rotate_left 1; (intro w hSw; (try dsimp only at hSw); go_simp); (try with_reducible rfl)); (try simp only [Act.put,List.setIfInBounds_toArray,List.set_cons_zero,List.set_cons_succ]))
     (refine wpAnyH_take (i:=4) (v:=?_) (by (simp only [List.getElem?_toArray,List.getElem?_cons_succ,List.getElem?_cons_zero]; rfl)) (by kernel_rfl) (by kernel_rfl) (by kernel_rfl) (by exact fun _ _ _ h => h) (Or.inl ⟨by rfl,?_⟩) (by assumption) ?_; (rotate_left 1; (intro w hSw; (try dsimp only at hSw); go_simp); (try with_reducible rfl)); (try simp only [Act.put,List.setIfInBounds_toArray,List.set_cons_zero,List.set_cons_succ]))
     (refine wpAnyH_take (i:=5) (v:=?_) (by (simp only [List.getElem?_toArray,List.getElem?_cons_succ,List.getElem?_cons_zero]; rfl)) (by kernel_rfl) (by kernel_rfl) (by kernel_rfl) (by exact fun _ _ _ h => h) (Or.inl ⟨by rfl,?_⟩) (by assumption) ?_; (rotate_left 1; (intro w hSw; (try dsimp only at hSw); go_simp); (try with_reducible rfl)); (try simp only [Act.put,List.setIfInBounds_toArray,List.set_cons_zero,List.set_cons_succ]))
     (refine wpAnyH_take (i:=6) (v:=?_) (by (simp only [List.getElem?_toArray,List.getElem?_cons_succ,List.getElem?_cons_zero]; rfl)) (by kernel_rfl) (by kernel_rfl) (by kernel_rfl) (by exact fun _ _ _ h => h) (Or.inl ⟨by rfl,?_⟩) (by assumption) ?_; (rotate_left 1; (intro w hSw; (try dsimp only at hSw); go_simp); (try with_reducible rfl)); (try simp only [Act.put,List.setIfInBounds_toArray,List.set_cons_zero,List.set_cons_succ]))
     (refine wpAnyH_take (i:=7) (v:=undef) (by (simp only [List.getElem?_toArray,List.getElem?_cons_succ,List.getElem?_cons_zero]; rfl)) (by kernel_rfl) (by kernel_rfl) (by kernel_rfl) (by exact fun _ _ _ h => h) (Or.inr ⟨by rfl,rfl⟩) (by assumption) ?_; (try simp only [Act.put,List.setIfInBounds_toArray,List.set_cons_zero,List.set_cons_succ]))
     (refine wpAnyH_take (i:=8) (v:=undef) (by (simp only [List.getElem?_toArray,List.getElem?_cons_succ,List.getElem?_cons_zero]; rfl)) (by kernel_rfl) (by kernel_rfl) (by kernel_rfl) (by exact fun _ _ _ h => h) (Or.inr ⟨by rfl,rfl⟩) (by assumption) ?_; (try simp only [Act.put,List.setIfInBounds_toArray,List.set_cons_zero,List.set_cons_succ]))
     (refine wpAnyH_take (i:=9) (v:=undef) (by (simp only [List.getElem?_toArray,List.getElem?_cons_succ,List.getElem?_cons_zero]; rfl)) (by kernel_rfl) (by kernel_rfl) (by kernel_rfl) (by exact fun _ _ _ h => h) (Or.inr ⟨by rfl,rfl⟩) (by assumption) ?_; (try simp only [Act.put,List.setIfInBounds_toArray,List.set_cons_zero,List.set_cons_succ]))
     (refine wpAnyH_take (i:=10) (v:=undef) (by (simp only [List.getElem?_toArray,List.getElem?_cons_succ,List.getElem?_cons_zero]; rfl)) (by kernel_rfl) (by kernel_rfl) (by kernel_rfl) (by exact fun _ _ _ h => h) (Or.inr ⟨by rfl,rfl⟩) (by assumption) ?_; (try simp only [Act.put,List.setIfInBounds_toArray,List.set_cons_zero,List.set_cons_succ]))
     (refine wpAnyH_take (i:=11) (v:=undef) (by (simp only [List.getElem?_toArray,List.getElem?_cons_succ,List.getElem?_cons_zero]; rfl)) (by kernel_rfl) (by kernel_rfl) (by kernel_rfl) (by exact fun _ _ _ h => h) (Or.inr ⟨by rfl,rfl⟩) (by assumption) ?_; (try simp only [Act.put,List.setIfInBounds_toArray,List.set_cons_zero,List.set_cons_succ]))
     (refine wpAnyH_take (i:=12) (v:=undef) (by (simp only [List.getElem?_toArray,List.getElem?_cons_succ,List.getElem?_cons_zero]; rfl)) (by kernel_rfl) (by kernel_rfl) (by kernel_rfl) (by exact fun _ _ _ h => h) (Or.inr ⟨by rfl,rfl⟩) (by assumption) ?_; (try simp only [Act.put,List.setIfInBounds_toArray,List.set_cons_zero,List.set_cons_succ]))
     (refine wpAnyH_take (i:=13) (v:=undef) (by (simp only [List.getElem?_toArray,List.getElem?_cons_succ,List.getElem?_cons_zero]; rfl)) (by kernel_rfl) (by kernel_rfl) (by kernel_rfl) (by exact fun _ _ _ h => h) (Or.inr ⟨by rfl,rfl⟩) (by assumption) ?_; (try simp only [Act.put,List.setIfInBounds_toArray,List.set_cons_zero,List.set_cons_succ]))
     (refine wpAnyH_take (i:=14) (v:=undef) (by (simp only [List.getElem?_toArray,List.getElem?_cons_succ,List.getElem?_cons_zero]; rfl)) (by kernel_rfl) (by kernel_rfl) (by kernel_rfl) (by exact fun _ _ _ h => h) (Or.inr ⟨by rfl,rfl⟩) (by assumption) ?_; (try simp only [Act.put,List.setIfInBounds_toArray,List.set_cons_zero,List.set_cons_succ]))
     (refine wpAnyH_take (i:=15) (v:=undef) (by (simp only [List.getElem?_toArray,List.getElem?_cons_succ,List.getElem?_cons_zero]; rfl)) (by kernel_rfl) (by kernel_rfl) (by kernel_rfl) (by exact fun _ _ _ h => h) (Or.inr ⟨by rfl,rfl⟩) (by assumption) ?_; (try simp only [Act.put,List.setIfInBounds_toArray,List.set_cons_zero,List.set_cons_succ]))
     (refine wpAnyH_take (i:=16) (v:=undef) (by (simp only [List.getElem?_toArray,List.getElem?_cons_succ,List.getElem?_cons_zero]; rfl)) (by kernel_rfl) (by kernel_rfl) (by kernel_rfl) (by exact fun _ _ _ h => h) (Or.inr ⟨by rfl,rfl⟩) (by assumption) ?_; (try simp only [Act.put,List.setIfInBounds_toArray,List.set_cons_zero,List.set_cons_succ]))
     (refine wpAnyH_take (i:=17) (v:=undef) (by (simp only [List.getElem?_toArray,List.getElem?_cons_succ,List.getElem?_cons_zero]; rfl)) (by kernel_rfl) (by kernel_rfl) (by kernel_rfl) (by exact fun _ _ _ h => h) (Or.inr ⟨by rfl,rfl⟩) (by assumption) ?_; (try simp only [Act.put,List.setIfInBounds_toArray,List.set_cons_zero,List.set_cons_succ]))
     (refine wpAnyH_take (i:=18) (v:=undef) (by (simp only [List.getElem?_toArray,List.getElem?_cons_succ,List.getElem?_cons_zero]; rfl)) (by kernel_rfl) (by kernel_rfl) (by kernel_rfl) (by exact fun _ _ _ h => h) (Or.inr ⟨by rfl,rfl⟩) (by assumption) ?_; (try simp only [Act.put,List.setIfInBounds_toArray,List.set_cons_zero,List.set_cons_succ]))
     (refine wpAnyH_take (i:=19) (v:=undef) (by (simp only [List.getElem?_toArray,List.getElem?_cons_succ,List.getElem?_cons_zero]; rfl)) (by kernel_rfl) (by kernel_rfl) (by kernel_rfl) (by exact fun _ _ _ h => h) (Or.inr ⟨by rfl,rfl⟩) (by assumption) ?_; (try simp only [Act.put,List.setIfInBounds_toArray,List.set_cons_zero,List.set_cons_succ]))
     (refine wpAnyH_take (i:=20) (v:=undef) (by (simp only [List.getElem?_toArray,List.getElem?_cons_succ,List.getElem?_cons_zero]; rfl)) (by kernel_rfl) (by kernel_rfl) (by kernel_rfl) (by exact fun _ _ _ h => h) (Or.inr ⟨by rfl,rfl⟩) (by assumption) ?_; (try simp only [Act.put,List.setIfInBounds_toArray,List.set_cons_zero,List.set_cons_succ]))
     (refine wpAnyH_take (i:=21) (v:=undef) (by (simp only [List.getElem?_toArray,List.getElem?_cons_succ,List.getElem?_cons_zero]; rfl)) (by kernel_rfl) (by kernel_rfl) (by kernel_rfl) (by exact fun _ _ _ h => h) (Or.inr ⟨by rfl,rfl⟩) (by assumption) ?_; (try simp only [Act.put,List.setIfInBounds_toArray,List.set_cons_zero,List.set_cons_succ]))
     (refine wpAnyH_take (i:=22) (v:=undef) (by (simp only [List.getElem?_toArray,List.getElem?_cons_succ,List.getElem?_cons_zero]; rfl)) (by kernel_rfl) (by kernel_rfl) (by kernel_rfl) (by exact fun _ _ _ h => h) (Or.inr ⟨by rfl,rfl⟩) (by assumption) ?_; (try simp only [Act.put,List.setIfInBounds_toArray,List.set_cons_zero,List.set_cons_succ]))
     (refine wpAnyH_take (i:=23) (v:=undef) (by (simp only [List.getElem?_toArray,List.getElem?_cons_succ,List.getElem?_cons_zero]; rfl)) (by kernel_rfl) (by kernel_rfl) (by kernel_rfl) (by exact fun _ _ _ h => h) (Or.inr ⟨by rfl,rfl⟩) (by assumption) ?_; (try simp only [Act.put,List.setIfInBounds_toArray,List.set_cons_zero,List.set_cons_succ]))
     (refine wpAnyH_take (i:=24) (v:=?_) (by (simp only [List.getElem?_toArray,List.getElem?_cons_succ,List.getElem?_cons_zero]; rfl)) (by kernel_rfl) (by kernel_rfl) (by kernel_rfl) (by exact fun _ _ _ h => h) (Or.inl ⟨by rfl,?_⟩) (by assumption) ?_; (rotate_left 1; (intro w hSw; (try dsimp only at hSw); go_simp); (try with_reducible rfl)); (try simp only [Act.put,List.setIfInBounds_toArray,List.set_cons_zero,List.set_cons_succ]))
     (refine wpAnyH_take (i:=25) (v:=?_) (by (simp only [List.getElem?_toArray,List.getElem?_cons_succ,List.getElem?_cons_zero]; rfl)) (by kernel_rfl) (by kernel_rfl) (by kernel_rfl) (by exact fun _ _ _ h => h) (Or.inl ⟨by rfl,?_⟩) (by assumption) ?_; (rotate_left 1; (intro w hSw; (try dsimp only at hSw); go_simp); (try with_reducible rfl)); (try simp only [Act.put,List.setIfInBounds_toArray,List.set_cons_zero,List.set_cons_succ]))
     refine wpAnyH_done (by kernel_rfl) ?_ _
     have hbw:=hbw.trans (hbd.mono hbw.size)
     clear hbd hHeld
     go_wp2_with fail
     go_roundw
     case rel => exact ⟨k + 1,by omega,by go_num,by rw [HE.out],hbw⟩
     case measure => simp [intOf]; omega
    ·have HE:=Lib.hid (bI_cmp (n:=n) hlt hn' hj hb hjn (by omega))
     have HQ : Hid (decide (n = n) = true):=Lib.hid (by simp)
     obtain ⟨tb',tO',B2,c2,eT,_,_,t2,hrB2⟩:=hh.att hj
     injection eT with eT
     injection eT with eT1 eT2
     subst eT1 eT2
     have hl1 : l < atts[k].2.length:=by rw [hn']; have:=HLn.out; omega
     have hl2 : l < atts[j].2.length:=by rw [hjn]; have:=HLn.out; omega
     obtain ⟨b1,o1,rfl,_,_,x0⟩:=hrB.int_at hl1
     obtain ⟨b2,o2,rfl,_,_,y0⟩:=hrB2.int_at hl2
     have ex : atts[k].2[n - 1]'(by omega) = atts[k].2[l]:=by congr 1
     have ey : atts[j].2[n - 1]'(by omega) = atts[j].2[l]:=by congr 1
     rw [ex,ey] at HE
     clear ex ey
     generalize atts[k].2[l] = x at *
     generalize atts[j].2[l] = y at *
     rw [hn'] at t1'
     rw [hjn] at t2
     rw [hb]
     generalize atts[k].1 = no at *
     have hjm : j < atts.length:=hj
     clear hrB hrB2 hn' hjn hb hh hl1 hl2
     have q0 : ¬ ((j : Int) < 0):=by omega
     have hln : l < n:=by have:=HLn.out; omega
     by_cases hxy : x < y
     ·have HE1 : Hid (bI n atts (k + 1) = k):=Lib.hid (by rw [HE.out,if_pos hxy])
      have d1 : decide (x < y) = true:=by simpa using hxy
      clear hxy HE
      go_upto_region 6 with (fail)
      have a0' : Blk (wr.alloc (.cells #[.int .i64 no,.slice (some ⟨b1,o1,none⟩) n cc] 81)) wr.heap.size 81 #[.int .i64 no,.slice (some ⟨b1,o1,none⟩) n cc]:=Blk.new _ _ _
      have hba : Below wr.heap.size wr (wr.alloc (.cells #[.int .i64 no,.slice (some ⟨b1,o1,none⟩) n cc] 81)):=(Below.refl _ _).alloc (Nat.le_refl _) _
      have hp:=hp.below hba
      have hbw:=hbw.trans (hba.mono hbw.size)
      have p1:=cell_below c1 hba
      have t1:=cell_below t2 hba
      have x1:=cell_below x0 hba
      have y1:=cell_below y0 hba
      clear t2 x0 y0
      generalize wr.alloc (.cells #[.int .i64 no,.slice (some ⟨b1,o1,none⟩) n cc] 81) = W at *
      generalize wr.heap.size = ab at *
      have a0 : W.cell? ⟨ab,0,none⟩ = some (.int .i64 no):=by simpa using a0'.cell 0
      have a1 : W.cell? ⟨ab,1,none⟩ = some (.slice (some ⟨b1,o1,none⟩) n cc):=by simpa using a0'.cell 1
      have hbd : Below W.heap.size W W.drew:=(Below.refl _ _).drew
      clear hba a0' t0 t1' c1
      refine wp_region_held_drew (S:=(fun w' => w'.cell? ⟨ab,0,none⟩ = some (.int .i64 no) ∧ w'.cell? ⟨ab,1,none⟩ = some (.slice (some ⟨b1,o1,none⟩) n cc) ∧ w'.cell? ⟨p,1,none⟩ = some (.slice (some ⟨tb,tO,none⟩) atts.length d) ∧ w'.cell? ⟨tb,tO + j * 2 + 1,none⟩ = some (.slice (some ⟨b2,o2,none⟩) n c2) ∧ w'.cell? ⟨b1,o1 + l,none⟩ = some (.int .i64 x) ∧ w'.cell? ⟨b2,o2 + l,none⟩ = some (.int .i64 y))) (by kernel_rfl) (⟨cell_below a0 hbd,cell_below a1 hbd,cell_below p1 hbd,cell_below t1 hbd,cell_below x1 hbd,cell_below y1 hbd⟩) (fun hHeld => ?_)
      (refine wpAnyH_take (i:=0) (v:=?_) (by (simp only [List.getElem?_toArray,List.getElem?_cons_zero]; rfl)) (by kernel_rfl) (by kernel_rfl) (by kernel_rfl) (by exact fun _ _ _ h => h) (Or.inl ⟨by rfl,?_⟩) (by assumption) ?_; (rotate_left 1; (intro w hSw; (try dsimp only at hSw); go_simp); (try with_reducible rfl)); (try simp only [Act.put,List.setIfInBounds_toArray,List.set_cons_zero,List.set_cons_succ]))
      (refine wpAnyH_take (i:=1) (v:=?_) (by (simp only [List.getElem?_toArray,List.getElem?_cons_succ,List.getElem?_cons_zero]; rfl)) (by kernel_rfl) (by kernel_rfl) (by kernel_rfl) (by exact fun _ _ _ h => h) (Or.inl ⟨by rfl,?_⟩) (by assumption) ?_; (rotate_left 1; (intro w hSw; (try dsimp only at hSw); go_simp); (try with_reducible rfl)); (try simp only [Act.put,List.setIfInBounds_toArray,List.set_cons_zero,List.set_cons_succ]))
      refine wpAnyH_ready (rs:=[2]) (by kernel_rfl) (by simp) ?_
      refine AllReadyH.cons rfl (fun K hK => ?_) AllReadyH.nil
      go_simp
      go_at_call 49
      refine (finished_any p _ _ _ _ _ _ _ 0 _ _ _ _ (hp.below hbd)).mono ?_
      rintro e wf ⟨rfl,hbf⟩
      rw [HQ.out]
      have hbd:=hbd.trans (hbf.mono hbd.size)
      go_wp2_with fail
      refine hK.out _ _ (⟨cell_below a0 hbd,cell_below a1 hbd,cell_below p1 hbd,cell_below t1 hbd,cell_below x1 hbd,cell_below y1 hbd⟩) (fun hHeld => ?_)
      clear hK K
      (try simp only [Act.put,List.setIfInBounds_toArray,List.set_cons_zero,List.set_cons_succ])
      (refine wpAnyH_take (i:=3) (v:=?_) (by (simp only [List.getElem?_toArray,List.getElem?_cons_succ,List.getElem?_cons_zero]; rfl)) (by kernel_rfl) (by kernel_rfl) (by kernel_rfl) (by exact fun _ _ _ h => h) (Or.inl ⟨by rfl,?_⟩) (by assumption) ?_; (rotate_left 1; (intro w hSw; (try dsimp only at hSw); go_simp); (try with_reducible rfl)); (try simp only [Act.put,List.setIfInBounds_toArray,List.set_cons_zero,List.set_cons_succ]))
      (refine wpAnyH_take (i:=4) (v:=?_) (by (simp only [List.getElem?_toArray,List.getElem?_cons_succ,List.getElem?_cons_zero]; rfl)) (by kernel_rfl) (by kernel_rfl) (by kernel_rfl) (by exact fun _ _ _ h => h) (Or.inl ⟨by rfl,?_⟩) (by assumption) ?_; (rotate_left 1; (intro w hSw; (try dsimp only at hSw); go_simp); (try with_reducible rfl)); (try simp only [Act.put,List.setIfInBounds_toArray,List.set_cons_zero,List.set_cons_succ]))
      (refine wpAnyH_take (i:=5) (v:=?_) (by (simp only [List.getElem?_toArray,List.getElem?_cons_succ,List.getElem?_cons_zero]; rfl)) (by kernel_rfl) (by kernel_rfl) (by kernel_rfl) (by exact fun _ _ _ h => h) (Or.inl ⟨by rfl,?_⟩) (by assumption) ?_; (rotate_left 1; (intro w hSw; (try dsimp only at hSw); go_simp); (try with_reducible rfl)); (try simp only [Act.put,List.setIfInBounds_toArray,List.set_cons_zero,List.set_cons_succ]))
      (refine wpAnyH_take (i:=6) (v:=?_) (by (simp only [List.getElem?_toArray,List.getElem?_cons_succ,List.getElem?_cons_zero]; rfl)) (by kernel_rfl) (by kernel_rfl) (by kernel_rfl) (by exact fun _ _ _ h => h) (Or.inl ⟨by rfl,?_⟩) (by assumption) ?_; (rotate_left 1; (intro w hSw; (try dsimp only at hSw); go_simp); (try with_reducible rfl)); (try simp only [Act.put,List.setIfInBounds_toArray,List.set_cons_zero,List.set_cons_succ]))
      (refine wpAnyH_take (i:=7) (v:=?_) (by (simp only [List.getElem?_toArray,List.getElem?_cons_succ,List.getElem?_cons_zero]; rfl)) (by kernel_rfl) (by kernel_rfl) (by kernel_rfl) (by exact fun _ _ _ h => h) (Or.inl ⟨by rfl,?_⟩) (by assumption) ?_; (rotate_left 1; (intro w hSw; (try dsimp only at hSw); go_simp); (try with_reducible rfl)); (try simp only [Act.put,List.setIfInBounds_toArray,List.set_cons_zero,List.set_cons_succ]))
      (refine wpAnyH_take (i:=8) (v:=?_) (by (simp only [List.getElem?_toArray,List.getElem?_cons_succ,List.getElem?_cons_zero]; rfl)) (by kernel_rfl) (by kernel_rfl) (by kernel_rfl) (by exact fun _ _ _ h => h) (Or.inl ⟨by rfl,?_⟩) (by assumption) ?_; (rotate_left 1; (intro w hSw; (try dsimp only at hSw); go_simp); (try with_reducible rfl)); (try simp only [Act.put,List.setIfInBounds_toArray,List.set_cons_zero,List.set_cons_succ]))
      (refine wpAnyH_take (i:=9) (v:=?_) (by (simp only [List.getElem?_toArray,List.getElem?_cons_succ,List.getElem?_cons_zero]; rfl)) (by kernel_rfl) (by kernel_rfl) (by kernel_rfl) (by exact fun _ _ _ h => h) (Or.inl ⟨by rfl,?_⟩) (by assumption) ?_; (rotate_left 1; (intro w hSw; (try dsimp only at hSw); go_simp); (try with_reducible rfl)); (try simp only [Act.put,List.setIfInBounds_toArray,List.set_cons_zero,List.set_cons_succ]))
      (refine wpAnyH_take (i:=10) (v:=?_) (by (simp only [List.getElem?_toArray,List.getElem?_cons_succ,List.getElem?_cons_zero]; rfl)) (by kernel_rfl) (by kernel_rfl) (by kernel_rfl) (by exact fun _ _ _ h => h) (Or.inl ⟨by rfl,?_⟩) (by assumption) ?_; (rotate_left 1; (intro w hSw; (try dsimp only at hSw); go_simp); (try with_reducible rfl)); (try simp only [Act.put,List.setIfInBounds_toArray,List.set_cons_zero,List.set_cons_succ]))
      (refine wpAnyH_take (i:=11) (v:=?_) (by (simp only [List.getElem?_toArray,List.getElem?_cons_succ,List.getElem?_cons_zero]; rfl)) (by kernel_rfl) (by kernel_rfl) (by kernel_rfl) (by exact fun _ _ _ h => h) (Or.inl ⟨by rfl,?_⟩) (by assumption) ?_; (rotate_left 1; (intro w hSw; (try dsimp only at hSw); go_simp); (try with_reducible rfl)); (try simp only [Act.put,List.setIfInBounds_toArray,List.set_cons_zero,List.set_cons_succ]))
      (refine wpAnyH_take (i:=12) (v:=?_) (by (simp only [List.getElem?_toArray,List.getElem?_cons_succ,List.getElem?_cons_zero]; rfl)) (by kernel_rfl) (by kernel_rfl) (by kernel_rfl) (by exact fun _ _ _ h => h) (Or.inl ⟨by rfl,?_⟩) (by assumption) ?_; (rotate_left 1; (intro w hSw; (try dsimp only at hSw); go_simp); (try with_reducible rfl)); (try simp only [Act.put,List.setIfInBounds_toArray,List.set_cons_zero,List.set_cons_succ]))
      (refine wpAnyH_take (i:=13) (v:=?_) (by (simp only [List.getElem?_toArray,List.getElem?_cons_succ,List.getElem?_cons_zero]; rfl)) (by kernel_rfl) (by kernel_rfl) (by kernel_rfl) (by exact fun _ _ _ h => h) (Or.inl ⟨by rfl,?_⟩) (by assumption) ?_; (rotate_left 1; (intro w hSw; (try dsimp only at hSw); go_simp); (try with_reducible rfl)); (try simp only [Act.put,List.setIfInBounds_toArray,List.set_cons_zero,List.set_cons_succ]))
      (refine wpAnyH_take (i:=14) (v:=?_) (by (simp only [List.getElem?_toArray,List.getElem?_cons_succ,List.getElem?_cons_zero]; rfl)) (by kernel_rfl) (by kernel_rfl) (by kernel_rfl) (by exact fun _ _ _ h => h) (Or.inl ⟨by rfl,?_⟩) (by assumption) ?_; (rotate_left 1; (intro w hSw; (try dsimp only at hSw); go_simp); (try with_reducible rfl)); (try simp only [Act.put,List.setIfInBounds_toArray,List.set_cons_zero,List.set_cons_succ]))
      (refine wpAnyH_take (i:=15) (v:=?_) (by (simp only [List.getElem?_toArray,List.getElem?_cons_succ,List.getElem?_cons_zero]; rfl)) (by kernel_rfl) (by kernel_rfl) (by kernel_rfl) (by exact fun _ _ _ h => h) (Or.inl ⟨by rfl,?_⟩) (by assumption) ?_; (rotate_left 1; (intro w hSw; (try dsimp only at hSw); go_simp); (try with_reducible rfl)); (try simp only [Act.put,List.setIfInBounds_toArray,List.set_cons_zero,List.set_cons_succ]))
      (refine wpAnyH_take (i:=16) (v:=?_) (by (simp only [List.getElem?_toArray,List.getElem?_cons_succ,List.getElem?_cons_zero]; rfl)) (by kernel_rfl) (by kernel_rfl) (by kernel_rfl) (by exact fun _ _ _ h => h) (Or.inl ⟨by rfl,?_⟩) (by assumption) ?_; (rotate_left 1; (intro w hSw; (try dsimp only at hSw); go_simp); (try with_reducible rfl)); (try simp only [Act.put,List.setIfInBounds_toArray,List.set_cons_zero,List.set_cons_succ]))
      (refine wpAnyH_take (i:=17) (v:=?_) (by (simp only [List.getElem?_toArray,List.getElem?_cons_succ,List.getElem?_cons_zero]; rfl)) (by kernel_rfl) (by kernel_rfl) (by kernel_rfl) (by exact fun _ _ _ h => h) (Or.inl ⟨by rfl,?_⟩) (by assumption) ?_; (rotate_left 1; (intro w hSw; (try dsimp only at hSw); go_simp); (try with_reducible rfl)); (try simp only [Act.put,List.setIfInBounds_toArray,List.set_cons_zero,List.set_cons_succ]))
      (refine wpAnyH_take (i:=18) (v:=?_) (by (simp only [List.getElem?_toArray,List.getElem?_cons_succ,List.getElem?_cons_zero]; rfl)) (by kernel_rfl) (by kernel_rfl) (by kernel_rfl) (by exact fun _ _ _ h => h) (Or.inl ⟨by rfl,?_⟩) (by assumption) ?_; (rotate_left 1; (intro w hSw; (try dsimp only at hSw); go_simp); (try with_reducible rfl)); (try simp only [Act.put,List.setIfInBounds_toArray,List.set_cons_zero,List.set_cons_succ]))
      (refine wpAnyH_take (i:=19) (v:=?_) (by (simp only [List.getElem?_toArray,List.getElem?_cons_succ,List.getElem?_cons_zero]; rfl)) (by kernel_rfl) (by kernel_rfl) (by kernel_rfl) (by exact fun _ _ _ h => h) (Or.inl ⟨by rfl,?_⟩) (by assumption) ?_; (rotate_left 1; (intro w hSw; (try dsimp only at hSw); go_simp); (try with_reducible rfl)); (try simp only [Act.put,List.setIfInBounds_toArray,List.set_cons_zero,List.set_cons_succ]))
      (refine wpAnyH_take (i:=20) (v:=?_) (by (simp only [List.getElem?_toArray,List.getElem?_cons_succ,List.getElem?_cons_zero]; rfl)) (by kernel_rfl) (by kernel_rfl) (by kernel_rfl) (by exact fun _ _ _ h => h) (Or.inl ⟨by rfl,?_⟩) (by assumption) ?_; (rotate_left 1; (intro w hSw; (try dsimp only at hSw); go_simp); (try with_reducible rfl)); (try simp only [Act.put,List.setIfInBounds_toArray,List.set_cons_zero,List.set_cons_succ]))
      (refine wpAnyH_take (i:=21) (v:=?_) (by (simp only [List.getElem?_toArray,List.getElem?_cons_succ,List.getElem?_cons_zero]; rfl)) (by kernel_rfl) (by kernel_rfl) (by kernel_rfl) (by exact fun _ _ _ h => h) (Or.inl ⟨by rfl,?_⟩) (by assumption) ?_; (rotate_left 1; (intro w hSw; (try dsimp only at hSw); go_simp); (try with_reducible rfl)); (try simp only [Act.put,List.setIfInBounds_toArray,List.set_cons_zero,List.set_cons_succ]))
      (refine wpAnyH_take (i:=22) (v:=?_) (by (simp only [List.getElem?_toArray,List.getElem?_cons_succ,List.getElem?_cons_zero]; rfl)) (by kernel_rfl) (by kernel_rfl) (by kernel_rfl) (by exact fun _ _ _ h => h) (Or.inl ⟨by rfl,?_⟩) (by assumption) ?_; (rotate_left 1; (intro w hSw; (try dsimp only at hSw); go_simp); (try with_reducible rfl)); (try simp only [Act.put,List.setIfInBounds_toArray,List.set_cons_zero,List.set_cons_succ]))
      (refine wpAnyH_take (i:=23) (v:=?_) (by (simp only [List.getElem?_toArray,List.getElem?_cons_succ,List.getElem?_cons_zero]; rfl)) (by kernel_rfl) (by kernel_rfl) (by kernel_rfl) (by exact fun _ _ _ h => h) (Or.inl ⟨by rfl,?_⟩) (by assumption) ?_; (rotate_left 1; (intro w hSw; (try dsimp only at hSw); go_simp); (try with_reducible rfl)); (try simp only [Act.put,List.setIfInBounds_toArray,List.set_cons_zero,List.set_cons_succ]))
      (refine wpAnyH_take (i:=24) (v:=?_) (by (simp only [List.getElem?_toArray,List.getElem?_cons_succ,List.getElem?_cons_zero]; rfl)) (by kernel_rfl) (by kernel_rfl) (by kernel_rfl) (by exact fun _ _ _ h => h) (Or.inl ⟨by rfl,?_⟩) (by assumption) ?_; (rotate_left 1; (intro w hSw; (try dsimp only at hSw); go_simp); (try with_reducible rfl)); (try simp only [Act.put,List.setIfInBounds_toArray,List.set_cons_zero,List.set_cons_succ]))
      (refine wpAnyH_take (i:=25) (v:=?_) (by (simp only [List.getElem?_toArray,List.getElem?_cons_succ,List.getElem?_cons_zero]; rfl)) (by kernel_rfl) (by kernel_rfl) (by kernel_rfl) (by exact fun _ _ _ h => h) (Or.inl ⟨by rfl,?_⟩) (by assumption) ?_; (rotate_left 1; (intro w hSw; (try dsimp only at hSw); go_simp); (try with_reducible rfl)); (try simp only [Act.put,List.setIfInBounds_toArray,List.set_cons_zero,List.set_cons_succ]))
      refine wpAnyH_done (by kernel_rfl) ?_ _
      have hbw:=hbw.trans (hbd.mono hbw.size)
      clear hbd hHeld
      go_wp2_with fail
      go_roundw
      case rel => exact ⟨k + 1,by omega,by go_num,by rw [HE1.out],hbw⟩
      case measure => simp [intOf]; omega
     ·have HE1 : Hid (bI n atts (k + 1) = j):=Lib.hid (by rw [HE.out,if_neg hxy])
      have d1 : decide (x < y) = false:=by simpa using hxy
      clear hxy HE
      go_upto_region 6 with (fail)
      have a0' : Blk (wr.alloc (.cells #[.int .i64 no,.slice (some ⟨b1,o1,none⟩) n cc] 81)) wr.heap.size 81 #[.int .i64 no,.slice (some ⟨b1,o1,none⟩) n cc]:=Blk.new _ _ _
      have hba : Below wr.heap.size wr (wr.alloc (.cells #[.int .i64 no,.slice (some ⟨b1,o1,none⟩) n cc] 81)):=(Below.refl _ _).alloc (Nat.le_refl _) _
      have hp:=hp.below hba
      have hbw:=hbw.trans (hba.mono hbw.size)
      have p1:=cell_below c1 hba
      have t1:=cell_below t2 hba
      have x1:=cell_below x0 hba
      have y1:=cell_below y0 hba
      clear t2 x0 y0
      generalize wr.alloc (.cells #[.int .i64 no,.slice (some ⟨b1,o1,none⟩) n cc] 81) = W at *
      generalize wr.heap.size = ab at *
      have a0 : W.cell? ⟨ab,0,none⟩ = some (.int .i64 no):=by simpa using a0'.cell 0
      have a1 : W.cell? ⟨ab,1,none⟩ = some (.slice (some ⟨b1,o1,none⟩) n cc):=by simpa using a0'.cell 1
      have hbd : Below W.heap.size W W.drew:=(Below.refl _ _).drew
      clear hba a0' t0 t1' c1
      refine wp_region_held_drew (S:=(fun w' => w'.cell? ⟨ab,0,none⟩ = some (.int .i64 no) ∧ w'.cell? ⟨ab,1,none⟩ = some (.slice (some ⟨b1,o1,none⟩) n cc) ∧ w'.cell? ⟨p,1,none⟩ = some (.slice (some ⟨tb,tO,none⟩) atts.length d) ∧ w'.cell? ⟨tb,tO + j * 2 + 1,none⟩ = some (.slice (some ⟨b2,o2,none⟩) n c2) ∧ w'.cell? ⟨b1,o1 + l,none⟩ = some (.int .i64 x) ∧ w'.cell? ⟨b2,o2 + l,none⟩ = some (.int .i64 y))) (by kernel_rfl) (⟨cell_below a0 hbd,cell_below a1 hbd,cell_below p1 hbd,cell_below t1 hbd,cell_below x1 hbd,cell_below y1 hbd⟩) (fun hHeld => ?_)
      (refine wpAnyH_take (i:=0) (v:=?_) (by (simp only [List.getElem?_toArray,List.getElem?_cons_zero]; rfl)) (by kernel_rfl) (by kernel_rfl) (by kernel_rfl) (by exact fun _ _ _ h => h) (Or.inl ⟨by rfl,?_⟩) (by assumption) ?_; (rotate_left 1; (intro w hSw; (try dsimp only at hSw); go_simp); (try with_reducible rfl)); (try simp only [Act.put,List.setIfInBounds_toArray,List.set_cons_zero,List.set_cons_succ]))
      (refine wpAnyH_take (i:=1) (v:=?_) (by (simp only [List.getElem?_toArray,List.getElem?_cons_succ,List.getElem?_cons_zero]; rfl)) (by kernel_rfl) (by kernel_rfl) (by kernel_rfl) (by exact fun _ _ _ h => h) (Or.inl ⟨by rfl,?_⟩) (by assumption) ?_; (rotate_left 1; (intro w hSw; (try dsimp only at hSw); go_simp); (try with_reducible rfl)); (try simp only [Act.put,List.setIfInBounds_toArray,List.set_cons_zero,List.set_cons_succ]))
      refine wpAnyH_ready (rs:=[2]) (by kernel_rfl) (by simp) ?_
      refine AllReadyH.cons rfl (fun K hK => ?_) AllReadyH.nil
      go_simp
      go_at_call 49
      refine (finished_any p _ _ _ _ _ _ _ 0 _ _ _ _ (hp.below hbd)).mono ?_
      rintro e wf ⟨rfl,hbf⟩
      rw [HQ.out]
      have hbd:=hbd.trans (hbf.mono hbd.size)
      go_wp2_with fail
      refine hK.out _ _ (⟨cell_below a0 hbd,cell_below a1 hbd,cell_below p1 hbd,cell_below t1 hbd,cell_below x1 hbd,cell_below y1 hbd⟩) (fun hHeld => ?_)
      clear hK K
      (try simp only [Act.put,List.setIfInBounds_toArray,List.set_cons_zero,List.set_cons_succ])
      (refine wpAnyH_take (i:=3) (v:=?_) (by (simp only [List.getElem?_toArray,List.getElem?_cons_succ,List.getElem?_cons_zero]; rfl)) (by kernel_rfl) (by kernel_rfl) (by kernel_rfl) (by exact fun _ _ _ h => h) (Or.inl ⟨by rfl,?_⟩) (by assumption) ?_; (rotate_left 1; (intro w hSw; (try dsimp only at hSw); go_simp); (try with_reducible rfl)); (try simp only [Act.put,List.setIfInBounds_toArray,List.set_cons_zero,List.set_cons_succ]))
      (refine wpAnyH_take (i:=4) (v:=?_) (by (simp only [List.getElem?_toArray,List.getElem?_cons_succ,List.getElem?_cons_zero]; rfl)) (by kernel_rfl) (by kernel_rfl) (by kernel_rfl) (by exact fun _ _ _ h => h) (Or.inl ⟨by rfl,?_⟩) (by assumption) ?_; (rotate_left 1; (intro w hSw; (try dsimp only at hSw); go_simp); (try with_reducible rfl)); (try simp only [Act.put,List.setIfInBounds_toArray,List.set_cons_zero,List.set_cons_succ]))
      (refine wpAnyH_take (i:=5) (v:=?_) (by (simp only [List.getElem?_toArray,List.getElem?_cons_succ,List.getElem?_cons_zero]; rfl)) (by kernel_rfl) (by kernel_rfl) (by kernel_rfl) (by exact fun _ _ _ h => h) (Or.inl ⟨by rfl,?_⟩) (by assumption) ?_; (rotate_left 1; (intro w hSw; (try dsimp only at hSw); go_simp); (try with_reducible rfl)); (try simp only [Act.put,List.setIfInBounds_toArray,List.set_cons_zero,List.set_cons_succ]))
      (refine wpAnyH_take (i:=6) (v:=?_) (by (simp only [List.getElem?_toArray,List.getElem?_cons_succ,List.getElem?_cons_zero]; rfl)) (by kernel_rfl) (by kernel_rfl) (by kernel_rfl) (by exact fun _ _ _ h => h) (Or.inl ⟨by rfl,?_⟩) (by assumption) ?_; (rotate_left 1; (intro w hSw; (try dsimp only at hSw); go_simp); (try with_reducible rfl)); (try simp only [Act.put,List.setIfInBounds_toArray,List.set_cons_zero,List.set_cons_succ]))
      (refine wpAnyH_take (i:=7) (v:=?_) (by (simp only [List.getElem?_toArray,List.getElem?_cons_succ,List.getElem?_cons_zero]; rfl)) (by kernel_rfl) (by kernel_rfl) (by kernel_rfl) (by exact fun _ _ _ h => h) (Or.inl ⟨by rfl,?_⟩) (by assumption) ?_; (rotate_left 1; (intro w hSw; (try dsimp only at hSw); go_simp); (try with_reducible rfl)); (try simp only [Act.put,List.setIfInBounds_toArray,List.set_cons_zero,List.set_cons_succ]))
      (refine wpAnyH_take (i:=8) (v:=?_) (by (simp only [List.getElem?_toArray,List.getElem?_cons_succ,List.getElem?_cons_zero]; rfl)) (by kernel_rfl) (by kernel_rfl) (by kernel_rfl) (by exact fun _ _ _ h => h) (Or.inl ⟨by rfl,?_⟩) (by assumption) ?_; (rotate_left 1; (intro w hSw; (try dsimp only at hSw); go_simp); (try with_reducible rfl)); (try simp only [Act.put,List.setIfInBounds_toArray,List.set_cons_zero,List.set_cons_succ]))
      (refine wpAnyH_take (i:=9) (v:=?_) (by (simp only [List.getElem?_toArray,List.getElem?_cons_succ,List.getElem?_cons_zero]; rfl)) (by kernel_rfl) (by kernel_rfl) (by kernel_rfl) (by exact fun _ _ _ h => h) (Or.inl ⟨by rfl,?_⟩) (by assumption) ?_; (rotate_left 1; (intro w hSw; (try dsimp only at hSw); go_simp); (try with_reducible rfl)); (try simp only [Act.put,List.setIfInBounds_toArray,List.set_cons_zero,List.set_cons_succ]))
      (refine wpAnyH_take (i:=10) (v:=?_) (by (simp only [List.getElem?_toArray,List.getElem?_cons_succ,List.getElem?_cons_zero]; rfl)) (by kernel_rfl) (by kernel_rfl) (by kernel_rfl) (by exact fun _ _ _ h => h) (Or.inl ⟨by rfl,?_⟩) (by assumption) ?_; (rotate_left 1; (intro w hSw; (try dsimp only at hSw); go_simp); (try with_reducible rfl)); (try simp only [Act.put,List.setIfInBounds_toArray,List.set_cons_zero,List.set_cons_succ]))
      (refine wpAnyH_take (i:=11) (v:=?_) (by (simp only [List.getElem?_toArray,List.getElem?_cons_succ,List.getElem?_cons_zero]; rfl)) (by kernel_rfl) (by kernel_rfl) (by kernel_rfl) (by exact fun _ _ _ h => h) (Or.inl ⟨by rfl,?_⟩) (by assumption) ?_; (rotate_left 1; (intro w hSw; (try dsimp only at hSw); go_simp); (try with_reducible rfl)); (try simp only [Act.put,List.setIfInBounds_toArray,List.set_cons_zero,List.set_cons_succ]))
      (refine wpAnyH_take (i:=12) (v:=?_) (by (simp only [List.getElem?_toArray,List.getElem?_cons_succ,List.getElem?_cons_zero]; rfl)) (by kernel_rfl) (by kernel_rfl) (by kernel_rfl) (by exact fun _ _ _ h => h) (Or.inl ⟨by rfl,?_⟩) (by assumption) ?_; (rotate_left 1; (intro w hSw; (try dsimp only at hSw); go_simp); (try with_reducible rfl)); (try simp only [Act.put,List.setIfInBounds_toArray,List.set_cons_zero,List.set_cons_succ]))
      (refine wpAnyH_take (i:=13) (v:=?_) (by (simp only [List.getElem?_toArray,List.getElem?_cons_succ,List.getElem?_cons_zero]; rfl)) (by kernel_rfl) (by kernel_rfl) (by kernel_rfl) (by exact fun _ _ _ h => h) (Or.inl ⟨by rfl,?_⟩) (by assumption) ?_; (rotate_left 1; (intro w hSw; (try dsimp only at hSw); go_simp); (try with_reducible rfl)); (try simp only [Act.put,List.setIfInBounds_toArray,List.set_cons_zero,List.set_cons_succ]))
      (refine wpAnyH_take (i:=14) (v:=?_) (by (simp only [List.getElem?_toArray,List.getElem?_cons_succ,List.getElem?_cons_zero]; rfl)) (by kernel_rfl) (by kernel_rfl) (by kernel_rfl) (by exact fun _ _ _ h => h) (Or.inl ⟨by rfl,?_⟩) (by assumption) ?_; (rotate_left 1; (intro w hSw; (try dsimp only at hSw); go_simp); (try with_reducible rfl)); (try simp only [Act.put,List.setIfInBounds_toArray,List.set_cons_zero,List.set_cons_succ]))
      (refine wpAnyH_take (i:=15) (v:=?_) (by (simp only [List.getElem?_toArray,List.getElem?_cons_succ,List.getElem?_cons_zero]; rfl)) (by kernel_rfl) (by kernel_rfl) (by kernel_rfl) (by exact fun _ _ _ h => h) (Or.inl ⟨by rfl,?_⟩) (by assumption) ?_; (rotate_left 1; (intro w hSw; (try dsimp only at hSw); go_simp); (try with_reducible rfl)); (try simp only [Act.put,List.setIfInBounds_toArray,List.set_cons_zero,List.set_cons_succ]))
      (refine wpAnyH_take (i:=16) (v:=?_) (by (simp only [List.getElem?_toArray,List.getElem?_cons_succ,List.getElem?_cons_zero]; rfl)) (by kernel_rfl) (by kernel_rfl) (by kernel_rfl) (by exact fun _ _ _ h => h) (Or.inl ⟨by rfl,?_⟩) (by assumption) ?_; (rotate_left 1; (intro w hSw; (try dsimp only at hSw); go_simp); (try with_reducible rfl)); (try simp only [Act.put,List.setIfInBounds_toArray,List.set_cons_zero,List.set_cons_succ]))
      (refine wpAnyH_take (i:=17) (v:=?_) (by (simp only [List.getElem?_toArray,List.getElem?_cons_succ,List.getElem?_cons_zero]; rfl)) (by kernel_rfl) (by kernel_rfl) (by kernel_rfl) (by exact fun _ _ _ h => h) (Or.inl ⟨by rfl,?_⟩) (by assumption) ?_; (rotate_left 1; (intro w hSw; (try dsimp only at hSw); go_simp); (try with_reducible rfl)); (try simp only [Act.put,List.setIfInBounds_toArray,List.set_cons_zero,List.set_cons_succ]))
      (refine wpAnyH_take (i:=18) (v:=?_) (by (simp only [List.getElem?_toArray,List.getElem?_cons_succ,List.getElem?_cons_zero]; rfl)) (by kernel_rfl) (by kernel_rfl) (by kernel_rfl) (by exact fun _ _ _ h => h) (Or.inl ⟨by rfl,?_⟩) (by assumption) ?_; (rotate_left 1; (intro w hSw; (try dsimp only at hSw); go_simp); (try with_reducible rfl)); (try simp only [Act.put,List.setIfInBounds_toArray,List.set_cons_zero,List.set_cons_succ]))
      (refine wpAnyH_take (i:=19) (v:=?_) (by (simp only [List.getElem?_toArray,List.getElem?_cons_succ,List.getElem?_cons_zero]; rfl)) (by kernel_rfl) (by kernel_rfl) (by kernel_rfl) (by exact fun _ _ _ h => h) (Or.inl ⟨by rfl,?_⟩) (by assumption) ?_; (rotate_left 1; (intro w hSw; (try dsimp only at hSw); go_simp); (try with_reducible rfl)); (try simp only [Act.put,List.setIfInBounds_toArray,List.set_cons_zero,List.set_cons_succ]))
      (refine wpAnyH_take (i:=20) (v:=?_) (by (simp only [List.getElem?_toArray,List.getElem?_cons_succ,List.getElem?_cons_zero]; rfl)) (by kernel_rfl) (by kernel_rfl) (by kernel_rfl) (by exact fun _ _ _ h => h) (Or.inl ⟨by rfl,?_⟩) (by assumption) ?_; (rotate_left 1; (intro w hSw; (try dsimp only at hSw); go_simp); (try with_reducible rfl)); (try simp only [Act.put,List.setIfInBounds_toArray,List.set_cons_zero,List.set_cons_succ]))
      (refine wpAnyH_take (i:=21) (v:=?_) (by (simp only [List.getElem?_toArray,List.getElem?_cons_succ,List.getElem?_cons_zero]; rfl)) (by kernel_rfl) (by kernel_rfl) (by kernel_rfl) (by exact fun _ _ _ h => h) (Or.inl ⟨by rfl,?_⟩) (by assumption) ?_; (rotate_left 1; (intro w hSw; (try dsimp only at hSw); go_simp); (try with_reducible rfl)); (try simp only [Act.put,List.setIfInBounds_toArray,List.set_cons_zero,List.set_cons_succ]))
      (refine wpAnyH_take (i:=22) (v:=?_) (by (simp only [List.getElem?_toArray,List.getElem?_cons_succ,List.getElem?_cons_zero]; rfl)) (by kernel_rfl) (by kernel_rfl) (by kernel_rfl) (by exact fun _ _ _ h => h) (Or.inl ⟨by rfl,?_⟩) (by assumption) ?_; (rotate_left 1; (intro w hSw; (try dsimp only at hSw); go_simp); (try with_reducible rfl)); (try simp only [Act.put,List.setIfInBounds_toArray,List.set_cons_zero,List.set_cons_succ]))
      (refine wpAnyH_take (i:=23) (v:=?_) (by (simp only [List.getElem?_toArray,List.getElem?_cons_succ,List.getElem?_cons_zero]; rfl)) (by kernel_rfl) (by kernel_rfl) (by kernel_rfl) (by exact fun _ _ _ h => h) (Or.inl ⟨by rfl,?_⟩) (by assumption) ?_; (rotate_left 1; (intro w hSw; (try dsimp only at hSw); go_simp); (try with_reducible rfl)); (try simp only [Act.put,List.setIfInBounds_toArray,List.set_cons_zero,List.set_cons_succ]))
      (refine wpAnyH_take (i:=24) (v:=?_) (by (simp only [List.getElem?_toArray,List.getElem?_cons_succ,List.getElem?_cons_zero]; rfl)) (by kernel_rfl) (by kernel_rfl) (by kernel_rfl) (by exact fun _ _ _ h => h) (Or.inl ⟨by rfl,?_⟩) (by assumption) ?_; (rotate_left 1; (intro w hSw; (try dsimp only at hSw); go_simp); (try with_reducible rfl)); (try simp only [Act.put,List.setIfInBounds_toArray,List.set_cons_zero,List.set_cons_succ]))
      (refine wpAnyH_take (i:=25) (v:=?_) (by (simp only [List.getElem?_toArray,List.getElem?_cons_succ,List.getElem?_cons_zero]; rfl)) (by kernel_rfl) (by kernel_rfl) (by kernel_rfl) (by exact fun _ _ _ h => h) (Or.inl ⟨by rfl,?_⟩) (by assumption) ?_; (rotate_left 1; (intro w hSw; (try dsimp only at hSw); go_simp); (try with_reducible rfl)); (try simp only [Act.put,List.setIfInBounds_toArray,List.set_cons_zero,List.set_cons_succ]))
      refine wpAnyH_done (by kernel_rfl) ?_ _
      have hbw:=hbw.trans (hbd.mono hbw.size)
      clear hbd hHeld
      go_wp2_with fail
      go_roundw
      case rel => exact ⟨k + 1,by omega,by go_num,by rw [HE1.out],hbw⟩
      case measure => simp [intOf]; omega
   ·have HE:=Lib.hid (bI_no (n:=n) hlt hn')
    have HQ : Hid (decide (atts[k].2.length = n) = false):=Lib.hid (by simpa using hn')
    generalize atts[k].2.length = len at *
    generalize atts[k].1 = no at *
    clear hinv hn' hrB hh
    go_upto_region 6 with (fail)
    have a0' : Blk (wr.alloc (.cells #[.int .i64 no,.slice B len cc] 81)) wr.heap.size 81 #[.int .i64 no,.slice B len cc]:=Blk.new _ _ _
    have hba : Below wr.heap.size wr (wr.alloc (.cells #[.int .i64 no,.slice B len cc] 81)):=(Below.refl _ _).alloc (Nat.le_refl _) _
    have hp:=hp.below hba
    have hbw:=hbw.trans (hba.mono hbw.size)

    generalize wr.alloc (.cells #[.int .i64 no,.slice B len cc] 81) = W at *
    generalize wr.heap.size = ab at *
    have a0 : W.cell? ⟨ab,0,none⟩ = some (.int .i64 no):=by simpa using a0'.cell 0
    have a1 : W.cell? ⟨ab,1,none⟩ = some (.slice B len cc):=by simpa using a0'.cell 1
    have hbd : Below W.heap.size W W.drew:=(Below.refl _ _).drew
    clear hba a0' t0 t1' c1
    refine wp_region_held_drew (S:=(fun w' => w'.cell? ⟨ab,0,none⟩ = some (.int .i64 no) ∧ w'.cell? ⟨ab,1,none⟩ = some (.slice B len cc))) (by kernel_rfl) (⟨cell_below a0 hbd,cell_below a1 hbd⟩) (fun hHeld => ?_)
    (refine wpAnyH_take (i:=0) (v:=?_) (by (simp only [List.getElem?_toArray,List.getElem?_cons_zero]; rfl)) (by kernel_rfl) (by kernel_rfl) (by kernel_rfl) (by exact fun _ _ _ h => h) (Or.inl ⟨by rfl,?_⟩) (by assumption) ?_; (rotate_left 1; (intro w hSw; (try dsimp only at hSw); go_simp); (try with_reducible rfl)); (try simp only [Act.put,List.setIfInBounds_toArray,List.set_cons_zero,List.set_cons_succ]))
    (refine wpAnyH_take (i:=1) (v:=?_) (by (simp only [List.getElem?_toArray,List.getElem?_cons_succ,List.getElem?_cons_zero]; rfl)) (by kernel_rfl) (by kernel_rfl) (by kernel_rfl) (by exact fun _ _ _ h => h) (Or.inl ⟨by rfl,?_⟩) (by assumption) ?_; (rotate_left 1; (intro w hSw; (try dsimp only at hSw); go_simp); (try with_reducible rfl)); (try simp only [Act.put,List.setIfInBounds_toArray,List.set_cons_zero,List.set_cons_succ]))
    refine wpAnyH_ready (rs:=[2]) (by kernel_rfl) (by simp) ?_
    refine AllReadyH.cons rfl (fun K hK => ?_) AllReadyH.nil
    go_simp
    go_at_call 49
    refine (finished_any p _ _ _ _ _ _ _ 0 _ _ _ _ (hp.below hbd)).mono ?_
    rintro e wf ⟨rfl,hbf⟩
    rw [HQ.out]
    have hbd:=hbd.trans (hbf.mono hbd.size)
    go_wp2_with fail
    refine hK.out _ _ (⟨cell_below a0 hbd,cell_below a1 hbd⟩) (fun hHeld => ?_)
    clear hK K
    (try simp only [Act.put,List.setIfInBounds_toArray,List.set_cons_zero,List.set_cons_succ])
    (refine wpAnyH_take (i:=3) (v:=?_) (by (simp only [List.getElem?_toArray,List.getElem?_cons_succ,List.getElem?_cons_zero]; rfl)) (by kernel_rfl) (by kernel_rfl) (by kernel_rfl) (by exact fun _ _ _ h => h) (Or.inl ⟨by rfl,?_⟩) (by assumption) ?_; (rotate_left 1; (intro w hSw; (try dsimp only at hSw); go_simp); (try with_reducible rfl)); (try simp only [Act.put,List.setIfInBounds_toArray,List.set_cons_zero,List.set_cons_succ]))
    (refine wpAnyH_take (i:=4) (v:=undef) (by (simp only [List.getElem?_toArray,List.getElem?_cons_succ,List.getElem?_cons_zero]; rfl)) (by kernel_rfl) (by kernel_rfl) (by kernel_rfl) (by exact fun _ _ _ h => h) (Or.inr ⟨by rfl,rfl⟩) (by assumption) ?_; (try simp only [Act.put,List.setIfInBounds_toArray,List.set_cons_zero,List.set_cons_succ]))
    (refine wpAnyH_take (i:=5) (v:=undef) (by (simp only [List.getElem?_toArray,List.getElem?_cons_succ,List.getElem?_cons_zero]; rfl)) (by kernel_rfl) (by kernel_rfl) (by kernel_rfl) (by exact fun _ _ _ h => h) (Or.inr ⟨by rfl,rfl⟩) (by assumption) ?_; (try simp only [Act.put,List.setIfInBounds_toArray,List.set_cons_zero,List.set_cons_succ]))
    (refine wpAnyH_take (i:=6) (v:=undef) (by (simp only [List.getElem?_toArray,List.getElem?_cons_succ,List.getElem?_cons_zero]; rfl)) (by kernel_rfl) (by kernel_rfl) (by kernel_rfl) (by exact fun _ _ _ h => h) (Or.inr ⟨by rfl,rfl⟩) (by assumption) ?_; (try simp only [Act.put,List.setIfInBounds_toArray,List.set_cons_zero,List.set_cons_succ]))
    (refine wpAnyH_take (i:=7) (v:=undef) (by (simp only [List.getElem?_toArray,List.getElem?_cons_succ,List.getElem?_cons_zero]; rfl)) (by kernel_rfl) (by kernel_rfl) (by kernel_rfl) (by exact fun _ _ _ h => h) (Or.inr ⟨by rfl,rfl⟩) (by assumption) ?_; (try simp only [Act.put,List.setIfInBounds_toArray,List.set_cons_zero,List.set_cons_succ]))
    (refine wpAnyH_take (i:=8) (v:=undef) (by (simp only [List.getElem?_toArray,List.getElem?_cons_succ,List.getElem?_cons_zero]; rfl)) (by kernel_rfl) (by kernel_rfl) (by kernel_rfl) (by exact fun _ _ _ h => h) (Or.inr ⟨by rfl,rfl⟩) (by assumption) ?_; (try simp only [Act.put,List.setIfInBounds_toArray,List.set_cons_zero,List.set_cons_succ]))
    (refine wpAnyH_take (i:=9) (v:=undef) (by (simp only [List.getElem?_toArray,List.getElem?_cons_succ,List.getElem?_cons_zero]; rfl)) (by kernel_rfl) (by kernel_rfl) (by kernel_rfl) (by exact fun _ _ _ h => h) (Or.inr ⟨by rfl,rfl⟩) (by assumption) ?_; (try simp only [Act.put,List.setIfInBounds_toArray,List.set_cons_zero,List.set_cons_succ]))
    (refine wpAnyH_take (i:=10) (v:=undef) (by (simp only [List.getElem?_toArray,List.getElem?_cons_succ,List.getElem?_cons_zero]; rfl)) (by kernel_rfl) (by kernel_rfl) (by kernel_rfl) (by exact fun _ _ _ h => h) (Or.inr ⟨by rfl,rfl⟩) (by assumption) ?_; (try simp only [Act.put,List.setIfInBounds_toArray,List.set_cons_zero,List.set_cons_succ]))
    (refine wpAnyH_take (i:=11) (v:=undef) (by (simp only [List.getElem?_toArray,List.getElem?_cons_succ,List.getElem?_cons_zero]; rfl)) (by kernel_rfl) (by kernel_rfl) (by kernel_rfl) (by exact fun _ _ _ h => h) (Or.inr ⟨by rfl,rfl⟩) (by assumption) ?_; (try simp only [Act.put,List.setIfInBounds_toArray,List.set_cons_zero,List.set_cons_succ]))
    (refine wpAnyH_take (i:=12) (v:=undef) (by (simp only [List.getElem?_toArray,List.getElem?_cons_succ,List.getElem?_cons_zero]; rfl)) (by kernel_rfl) (by kernel_rfl) (by kernel_rfl) (by exact fun _ _ _ h => h) (Or.inr ⟨by rfl,rfl⟩) (by assumption) ?_; (try simp only [Act.put,List.setIfInBounds_toArray,List.set_cons_zero,List.set_cons_succ]))
    (refine wpAnyH_take (i:=13) (v:=undef) (by (simp only [List.getElem?_toArray,List.getElem?_cons_succ,List.getElem?_cons_zero]; rfl)) (by kernel_rfl) (by kernel_rfl) (by kernel_rfl) (by exact fun _ _ _ h => h) (Or.inr ⟨by rfl,rfl⟩) (by assumption) ?_; (try simp only [Act.put,List.setIfInBounds_toArray,List.set_cons_zero,List.set_cons_succ]))
    (refine wpAnyH_take (i:=14) (v:=undef) (by (simp only [List.getElem?_toArray,List.getElem?_cons_succ,List.getElem?_cons_zero]; rfl)) (by kernel_rfl) (by kernel_rfl) (by kernel_rfl) (by exact fun _ _ _ h => h) (Or.inr ⟨by rfl,rfl⟩) (by assumption) ?_; (try simp only [Act.put,List.setIfInBounds_toArray,List.set_cons_zero,List.set_cons_succ]))
    (refine wpAnyH_take (i:=15) (v:=undef) (by (simp only [List.getElem?_toArray,List.getElem?_cons_succ,List.getElem?_cons_zero]; rfl)) (by kernel_rfl) (by kernel_rfl) (by kernel_rfl) (by exact fun _ _ _ h => h) (Or.inr ⟨by rfl,rfl⟩) (by assumption) ?_; (try simp only [Act.put,List.setIfInBounds_toArray,List.set_cons_zero,List.set_cons_succ]))
    (refine wpAnyH_take (i:=16) (v:=undef) (by (simp only [List.getElem?_toArray,List.getElem?_cons_succ,List.getElem?_cons_zero]; rfl)) (by kernel_rfl) (by kernel_rfl) (by kernel_rfl) (by exact fun _ _ _ h => h) (Or.inr ⟨by rfl,rfl⟩) (by assumption) ?_; (try simp only [Act.put,List.setIfInBounds_toArray,List.set_cons_zero,List.set_cons_succ]))
    (refine wpAnyH_take (i:=17) (v:=undef) (by (simp only [List.getElem?_toArray,List.getElem?_cons_succ,List.getElem?_cons_zero]; rfl)) (by kernel_rfl) (by kernel_rfl) (by kernel_rfl) (by exact fun _ _ _ h => h) (Or.inr ⟨by rfl,rfl⟩) (by assumption) ?_; (try simp only [Act.put,List.setIfInBounds_toArray,List.set_cons_zero,List.set_cons_succ]))
    (refine wpAnyH_take (i:=18) (v:=undef) (by (simp only [List.getElem?_toArray,List.getElem?_cons_succ,List.getElem?_cons_zero]; rfl)) (by kernel_rfl) (by kernel_rfl) (by kernel_rfl) (by exact fun _ _ _ h => h) (Or.inr ⟨by rfl,rfl⟩) (by assumption) ?_; (try simp only [Act.put,List.setIfInBounds_toArray,List.set_cons_zero,List.set_cons_succ]))
    (refine wpAnyH_take (i:=19) (v:=undef) (by (simp only [List.getElem?_toArray,List.getElem?_cons_succ,List.getElem?_cons_zero]; rfl)) (by kernel_rfl) (by kernel_rfl) (by kernel_rfl) (by exact fun _ _ _ h => h) (Or.inr ⟨by rfl,rfl⟩) (by assumption) ?_; (try simp only [Act.put,List.setIfInBounds_toArray,List.set_cons_zero,List.set_cons_succ]))
    (refine wpAnyH_take (i:=20) (v:=undef) (by (simp only [List.getElem?_toArray,List.getElem?_cons_succ,List.getElem?_cons_zero]; rfl)) (by kernel_rfl) (by kernel_rfl) (by kernel_rfl) (by exact fun _ _ _ h => h) (Or.inr ⟨by rfl,rfl⟩) (by assumption) ?_; (try simp only [Act.put,List.setIfInBounds_toArray,List.set_cons_zero,List.set_cons_succ]))
    (refine wpAnyH_take (i:=21) (v:=undef) (by (simp only [List.getElem?_toArray,List.getElem?_cons_succ,List.getElem?_cons_zero]; rfl)) (by kernel_rfl) (by kernel_rfl) (by kernel_rfl) (by exact fun _ _ _ h => h) (Or.inr ⟨by rfl,rfl⟩) (by assumption) ?_; (try simp only [Act.put,List.setIfInBounds_toArray,List.set_cons_zero,List.set_cons_succ]))
    (refine wpAnyH_take (i:=22) (v:=undef) (by (simp only [List.getElem?_toArray,List.getElem?_cons_succ,List.getElem?_cons_zero]; rfl)) (by kernel_rfl) (by kernel_rfl) (by kernel_rfl) (by exact fun _ _ _ h => h) (Or.inr ⟨by rfl,rfl⟩) (by assumption) ?_; (try simp only [Act.put,List.setIfInBounds_toArray,List.set_cons_zero,List.set_cons_succ]))
    (refine wpAnyH_take (i:=23) (v:=undef) (by (simp only [List.getElem?_toArray,List.getElem?_cons_succ,List.getElem?_cons_zero]; rfl)) (by kernel_rfl) (by kernel_rfl) (by kernel_rfl) (by exact fun _ _ _ h => h) (Or.inr ⟨by rfl,rfl⟩) (by assumption) ?_; (try simp only [Act.put,List.setIfInBounds_toArray,List.set_cons_zero,List.set_cons_succ]))
    (refine wpAnyH_take (i:=24) (v:=undef) (by (simp only [List.getElem?_toArray,List.getElem?_cons_succ,List.getElem?_cons_zero]; rfl)) (by kernel_rfl) (by kernel_rfl) (by kernel_rfl) (by exact fun _ _ _ h => h) (Or.inr ⟨by rfl,rfl⟩) (by assumption) ?_; (try simp only [Act.put,List.setIfInBounds_toArray,List.set_cons_zero,List.set_cons_succ]))
    (refine wpAnyH_take (i:=25) (v:=?_) (by (simp only [List.getElem?_toArray,List.getElem?_cons_succ,List.getElem?_cons_zero]; rfl)) (by kernel_rfl) (by kernel_rfl) (by kernel_rfl) (by exact fun _ _ _ h => h) (Or.inl ⟨by rfl,?_⟩) (by assumption) ?_; (rotate_left 1; (intro w hSw; (try dsimp only at hSw); go_simp); (try with_reducible rfl)); (try simp only [Act.put,List.setIfInBounds_toArray,List.set_cons_zero,List.set_cons_succ]))
    refine wpAnyH_done (by kernel_rfl) ?_ _
    have hbw:=hbw.trans (hbd.mono hbw.size)
    clear hbd hHeld
    go_wp2_with fail
    go_roundw
    case rel => exact ⟨k + 1,by omega,by go_num,by rw [HE.out],hbw⟩
    case measure => simp [intOf]; omega
  ·have hkl : k = atts.length:=by omega
   subst hkl
   go_wp2_with fail
   go_ret
   exact ⟨rfl,hbw⟩

end Go.Proofs.YtapjahbflhingaaGreatDoor
