/- Texts of this seat, laid together: Cq Cb. -/
import Derived.BigRegion
import Derived.Test.YtapjahbflhingaaGreatDoorBu42
import Derived.Test.YtapjahbflhingaaGreatDoorBu03
/- The walk of segment.Compare at a history and splits. -/
namespace Go.Proofs.YtapjahbflhingaaGreatDoor
set_option linter.unusedVariables false
set_option linter.unusedSimpArgs false
open Go.RowKit Go.Sort

theorem ty_dls : SliceTy Tryz.prog 73 77 4 40:=.mk' Tryz.underlying73 (z:=.agg #[.string ⟨#[]⟩,.int .i64 0,.int .i64 0,.bool false]) (by kernel_rfl) rfl (by decide)
def cpE (segs : List (List UInt8)) (atts : List Att) (how : Int) (live : List Int) : Int:=firstE [hfE segs atts how,splF segs.length live]
theorem own_aside {w : World} {base size n g : Nat} {e : TypeId} {v : Value} {xs : List Value} (h : w.ownsRow base e size v n xs) (hne : v.ownBlock ≠ some g) (i : Nat) (u : Value) : (w.setCell ⟨g,i,none⟩ u).ownsRow base e size v n xs :=
 h.kept (grown_set (World.grownBy.refl _ _) _ _) (.inr hne)
theorem Blk.four_ {w : World} {g : Nat} {t : TypeId} {a b c d : Value} (h : Blk w g t #[a,b,c,d]) : w.cell? ⟨g,0,none⟩ = some a ∧ w.cell? ⟨g,1,none⟩ = some b ∧ w.cell? ⟨g,2,none⟩ = some c ∧ w.cell? ⟨g,3,none⟩ = some d:=⟨h.cell 0,h.cell 1,h.cell 2,h.cell 3⟩
def cdL (segs : List (List UInt8)) (atts : List Att) (how : Int) (live : List Int) : List Dlt:=match cmpO segs.length atts how with | some o => dltL segs atts live o live.length | none => []
theorem cdL_some {segs : List (List UInt8)} {atts : List Att} {how : Int} {live o : List Int} (h : cmpO segs.length atts how = some o) : cdL segs atts how live = dltL segs atts live o live.length:=by simp [cdL,h]
theorem cdL_none {segs : List (List UInt8)} {atts : List Att} {how : Int} {live : List Int} (h : cmpO segs.length atts how = none) : cdL segs atts how live = []:=by simp [cdL,h]
set_option maxHeartbeats 8000000 in
set_option maxRecDepth 100000 in
theorem Compare_ok (SA TA B : Option Addr) (c d cB lo lo2 : Nat) (how : Int) (live : List Int) (segs : List (List UInt8)) (atts : List Att) (w : World) (hh : Hist w lo SA TA segs atts) (hz : HistSz segs atts c) (hrL : Row w lo2 1 B live.length (ints live)) (hl9 : live.length ≤ 1000000000) (hok : HistOk segs atts) (hls : SplOk segs.length live) (hf : cpE segs atts how live = 0) :
  Calls Tryz.prog 34 #[.agg #[.slice SA segs.length c,.slice TA atts.length d],.int .i64 how,.slice B live.length cB] w fun e w' => ∃ A' c',e = .returned (.tuple #[.slice A' (cdL segs atts how live).length c',.bool (cmpO segs.length atts how).isSome,.int .i64 0]) ∧ w'.ownsRow w.heap.size 77 4 (.slice A' (cdL segs atts how live).length c') (cdL segs atts how live).length (dls (cdL segs atts how live)) ∧ Below w.heap.size w w':=by
 have HE : Hid (firstE [hfE segs atts how,splF segs.length live] = 0):=Lib.hid hf
 have HO:=Lib.hid hok
 have HL:=Lib.hid hls
 have HCO:=Lib.hid (cmp_ok hok how)
 have n2:=hok.n2
 have hlen:=hls.len
 clear hf hok hls
 have h9:=hz.h9
 go_enter Tryz.func34,Tryz.ntmps34
 go_upto_region 1 with (fail)
 have hx : Below w.heap.size w (w.alloc (.cells #[.slice SA segs.length c,.slice TA atts.length d] 29)):=(Below.refl _ _).alloc (Nat.le_refl _) _
 have hk : Blk (w.alloc (.cells #[.slice SA segs.length c,.slice TA atts.length d] 29)) w.heap.size 29 #[.slice SA segs.length c,.slice TA atts.length d]:=Blk.new _ _ _
 have hh:=hh.alloc (.cells #[.slice SA segs.length c,.slice TA atts.length d] 29)
 have hrL:=hrL.alloc (.cells #[.slice SA segs.length c,.slice TA atts.length d] 29)
 generalize w.alloc (.cells #[.slice SA segs.length c,.slice TA atts.length d] 29) = w0 at *
 obtain ⟨q0,q1⟩:=hk.two_
 have zk:=hk.lt
 go_region_held3 (fun w' => w'.cell? ⟨w.heap.size,0,none⟩ = some (.slice SA segs.length c)) (first | exact q0 | exact q5 | exact cell_al q5 _)
  (first
  | (go_at_call 82; refine (howFault_any _ _ _ _ _ _ how segs atts _ (by first | exact hk | exact hk.drew) (by first | exact hh | exact hh.below (Below.refl _ _).drew) hz).mono ?_; rintro e w5 ⟨rfl,hb5⟩; have q5:=(hb5.cell zk).trans q0)
  | (go_at_call 81; refine (splitsFault_any segs.length B _ _ live _ (by first | exact hrL | exact hrL.drew | exact hrL.drewN 1 | exact hrL.drew.below hb5 | exact (hrL.drewN 1).below hb5) h9 hl9).mono ?_; rintro e w6 ⟨rfl,rfl⟩)
  | (go_at_call 67; refine (first_any _ _ 0 [hfE segs atts how,splF segs.length live] _ (by first | exact row_new' _ (by first | rfl | simp) (by first | omega | (simp; omega)) rfl | exact row_newN _ _ (by first | rfl | simp) (by first | omega | (simp; omega)) rfl | exact row_newD _ (by first | rfl | simp) (by first | omega | (simp; omega)) rfl) (by simp)).mono ?_; rintro e w7 ⟨rfl,rfl⟩))
 have hx6 : Below w.heap.size w w5:=by first | exact below_up hx hb5 | exact below_up hx.drew hb5
 have hk5 : Blk w5 w.heap.size 29 #[.slice SA segs.length c,.slice TA atts.length d]:=by first | exact hk.below hb5 | exact hk.drew.below hb5
 have hh5 : Hist w5 lo SA TA segs atts:=by first | exact hh.below hb5 | exact (hh.below (Below.refl _ _).drew).below hb5
 have hr5 : Row w5 lo2 1 B live.length (ints live):=by first | exact hrL.below hb5 | exact hrL.drew.below hb5
 have hz6:=hx6.size
 rw [HE.out]
 clear hk hh hrL hx hb5 q0 q1 zk q5
 have hk:=hk5.alloc (.cells #[.int .i64 (hfE segs atts how),.int .i64 (splF segs.length live)] 32)
 have hh:=hh5.alloc (.cells #[.int .i64 (hfE segs atts how),.int .i64 (splF segs.length live)] 32)
 have hrL:=hr5.alloc (.cells #[.int .i64 (hfE segs atts how),.int .i64 (splF segs.length live)] 32)
 have hx : Below w.heap.size w (w5.alloc (.cells #[.int .i64 (hfE segs atts how),.int .i64 (splF segs.length live)] 32)):=(by repeat (first | exact hx6 | refine Below.alloc ?_ (by first | omega | (simp; omega)) _ | refine below_drewN' ?_ _ | refine Below.drew ?_))
 clear hk5 hh5 hr5 hx6 hz6
 generalize w5.alloc (.cells #[.int .i64 (hfE segs atts how),.int .i64 (splF segs.length live)] 32) = w6 at *
 go_wp2_with fail
 refine (splits_ok _ _ _ _ _ _ how segs atts _ hk hh HO.out).mono ?_
 rintro e w7 ⟨A7,c7,rfl,ho7,hb⟩
 have hh:=hh.below hb
 have hk:=hk.below hb
 have hx:=below_up hx hb
 have hrL:=hrL.below hb
 clear hb
 have HCN:=Lib.hid (fun h => cdL_none (segs:=segs) (atts:=atts) (how:=how) (live:=live) h)
 have HCS:=Lib.hid (fun o h => cdL_some (segs:=segs) (atts:=atts) (how:=how) (live:=live) (o:=o) h)
 cases hco : cmpO segs.length atts how with
 | none =>
  have HN:=Lib.hid (HCN.out hco)
  have HC:=Lib.hid hco
  rw [hco] at ho7
  clear hco
  go_wp2_with fail
  go_returns
  exact ⟨none,0,by rw [HN.out,HC.out]; rfl,by rw [HN.out]; exact World.ownsRow_nil _ _ _ _,hx⟩
 | some o =>
  have HN:=Lib.hid (HCS.out o hco)
  have HC:=Lib.hid hco
  have hOK:=HCO.out
  rw [hco] at ho7 hOK
  have hlo:=(hOK o rfl).1
  have HOB:=Lib.hid (hOK o rfl).2
  have HLB:=Lib.hid (fun k => dLate_bd (live:=live) HL.out.bd hOK k)
  have hO : Row w7 0 1 A7 o.length (ints o):=(Row.of_own ho7).weak (Nat.zero_le _)
  clear hco hOK ho7 HCN HCS HCO
  go_wp2_with fail
  refine (golds_any _ _ _ _ _ _ segs atts _ hk hh HO.out).mono ?_
  rintro e w8 ⟨A8,c8,rfl,ho8,hb⟩
  have hh:=hh.below hb
  have hx:=below_up hx hb
  have hrL:=hrL.below hb
  have hO:=hO.below hb
  have hk:=hk.below hb
  have hG : Row w8 0 1 A8 (goldL atts segs.length).length (ints (goldL atts segs.length)):=(Row.of_own ho8).weak (Nat.zero_le _)
  clear hb ho8
  go_wp2_with fail
  refine (htimes_any segs.length B _ _ live _ hrL (by omega) HL.out).mono ?_
  rintro e W ⟨A9,c9,rfl,ho9,hb⟩
  have hh:=hh.below hb
  have hx:=below_up hx hb
  have hrL:=hrL.below hb
  have hO:=hO.below hb
  have hG:=hG.below hb
  have hk:=hk.below hb
  have hT : Row W 0 1 A9 (tmL live live.length).length (ints (tmL live live.length)):=(Row.of_own ho9).weak (Nat.zero_le _)
  clear hb ho9
  have HGL : Hid ((goldL atts segs.length).length = segs.length):=Lib.hid (goldL_len _ _)
  have HTL : Hid ((tmL live live.length).length = live.length):=Lib.hid (tmL_len _ _)
  have hzW:=hx.size
  go_wp2_with fail
  go_loopw [14,15,43] (fun v s i wr => ∃ (k : Nat) (A' : Option Addr) (c' : Nat),k ≤ live.length ∧ i = .int .i64 k ∧ s = .int .i64 (dLate live o k) ∧ v = .slice A' (dltL segs atts live o k).length c' ∧ wr.ownsRow W.heap.size 77 4 (.slice A' (dltL segs atts live o k).length c') (dltL segs atts live o k).length (dls (dltL segs atts live o k)) ∧ Below W.heap.size W wr) (fun _ _ i _ => live.length - (intOf i).toNat)
  case atStart => exact ⟨0,none,0,Nat.zero_le _,rfl,rfl,rfl,World.ownsRow_nil _ _ _ _,Below.refl _ _⟩
  case round =>
   obtain ⟨k,A',c',hk9,rfl,rfl,rfl,hown,hbw⟩:=hrel
   have hz:=hbw.size
   by_cases hlt : k < live.length
   ·have hkw:=hk.below hbw
    obtain ⟨q0,q1⟩:=hkw.two_
    have zk:=hkw.lt
    have hks : k < segs.length:=by omega
    have hko : k < o.length:=by omega
    have hkg : k < (goldL atts segs.length).length:=by rw [HGL.out]; exact hks
    have hkt : k < (tmL live live.length).length:=by rw [HTL.out]; exact hlt
    obtain ⟨b1,o1,rfl,_,z1,c1⟩:=(hrL.below hbw).int_at hlt
    obtain ⟨b2,o2,rfl,_,z2,c2⟩:=(hO.below hbw).int_at hko
    obtain ⟨b3,o3,rfl,_,z3,c3⟩:=(hG.below hbw).int_at hkg
    obtain ⟨b4,o4,rfl,_,z4,c4⟩:=(hT.below hbw).int_at hkt
    obtain ⟨b5,o5,rfl,_,z5,c5⟩:=(hh.below hbw).1.str_at hks
    rw [goldL_at] at c3
    rw [tmL_at] at c4
    unfold encStr at c5
    have HS:=Lib.hid (dltL_snoc segs atts live o k)
    have HY:=Lib.hid (fun h h' => dAt_yes (atts:=atts) hks hlt hko h h')
    have HNO:=Lib.hid (fun h => dAt_no (atts:=atts) hks hlt hko h)
    have HD : Hid (dGold atts live k = (decide (0 < tmA live k) && (goldA atts k == 0 || decide (tmA live k < goldA atts k)))):=Lib.hid rfl
    have bl:=HL.out.bd k hlt
    have bo:=HOB.out k hko
    have bd:=HLB.out k
    have hlk : (dltL segs atts live o k).length ≤ 60:=by rw [dltL_len]; omega
    generalize live[k] = n at *
    generalize o[k] = m at *
    generalize goldA atts k = gk at *
    generalize tmA live k = tk at *
    generalize segs[k] = sk at *
    generalize dLate live o k = la at *
    generalize dltL segs atts live o k = ds at *
    clear hrL hO hG hT hh hk
    go_upto_region 13 with (fail)
    go_cut [18] (fun p wx => p = .pointer (some ⟨wr.heap.size,0,none⟩) ∧ Blk wx wr.heap.size 77 #[.string ⟨sk.toArray⟩,.int .i64 0,.int .i64 0,.bool (dGold atts live k)] ∧ Below wr.heap.size wr wx)
    case first =>
     refine wp_region_held_drew (S:=fun w' => w'.cell? ⟨w.heap.size,0,none⟩ = some (.slice (some ⟨b5,o5,none⟩) segs.length c) ∧ w'.cell? ⟨b5,o5 + k,none⟩ = some (.string ⟨sk.toArray⟩) ∧ w'.cell? ⟨b4,o4 + k,none⟩ = some (.int .i64 tk) ∧ w'.cell? ⟨b3,o3 + k,none⟩ = some (.int .i64 gk)) (by kernel_rfl) ⟨q0,c5,c4,c3⟩ (fun hHeld => ?_)
     (refine wpAnyH_take (i:=0) (v:=?_) (by (simp only [List.getElem?_toArray,List.getElem?_cons_zero]; rfl)) (by kernel_rfl) (by kernel_rfl) (by kernel_rfl) (by exact fun _ _ _ h => h) (Or.inl ⟨by rfl,?_⟩) (by assumption) ?_; (rotate_left 1; (intro w hSw; (try dsimp only at hSw); go_simp); (try with_reducible rfl)); (try simp only [Act.put,List.setIfInBounds_toArray,List.set_cons_zero,List.set_cons_succ]))
     (refine wpAnyH_take (i:=1) (v:=?_) (by (simp only [List.getElem?_toArray,List.getElem?_cons_succ,List.getElem?_cons_zero]; rfl)) (by kernel_rfl) (by kernel_rfl) (by kernel_rfl) (by exact fun _ _ _ h => h) (Or.inl ⟨by rfl,?_⟩) (by assumption) ?_; (rotate_left 1; (intro w hSw; (try dsimp only at hSw); go_simp); (try with_reducible rfl)); (try simp only [Act.put,List.setIfInBounds_toArray,List.set_cons_zero,List.set_cons_succ]))
     (refine wpAnyH_take (i:=2) (v:=?_) (by (simp only [List.getElem?_toArray,List.getElem?_cons_succ,List.getElem?_cons_zero]; rfl)) (by kernel_rfl) (by kernel_rfl) (by kernel_rfl) (by exact fun _ _ _ h => h) (Or.inl ⟨by rfl,?_⟩) (by assumption) ?_; (rotate_left 1; (intro w hSw; (try dsimp only at hSw); go_simp); (try with_reducible rfl)); (try simp only [Act.put,List.setIfInBounds_toArray,List.set_cons_zero,List.set_cons_succ]))
     (refine wpAnyH_take (i:=3) (v:=?_) (by (simp only [List.getElem?_toArray,List.getElem?_cons_succ,List.getElem?_cons_zero]; rfl)) (by kernel_rfl) (by kernel_rfl) (by kernel_rfl) (by exact fun _ _ _ h => h) (Or.inl ⟨by rfl,?_⟩) (by assumption) ?_; (rotate_left 1; (intro w hSw; (try dsimp only at hSw); go_simp); (try with_reducible rfl)); (try simp only [Act.put,List.setIfInBounds_toArray,List.set_cons_zero,List.set_cons_succ]))
     (refine wpAnyH_take (i:=4) (v:=?_) (by (simp only [List.getElem?_toArray,List.getElem?_cons_succ,List.getElem?_cons_zero]; rfl)) (by kernel_rfl) (by kernel_rfl) (by kernel_rfl) (by exact fun _ _ _ h => h) (Or.inl ⟨by rfl,?_⟩) (by assumption) ?_; (rotate_left 1; (intro w hSw; (try dsimp only at hSw); go_simp); (try with_reducible rfl)); (try simp only [Act.put,List.setIfInBounds_toArray,List.set_cons_zero,List.set_cons_succ]))
     (refine wpAnyH_take (i:=5) (v:=?_) (by (simp only [List.getElem?_toArray,List.getElem?_cons_succ,List.getElem?_cons_zero]; rfl)) (by kernel_rfl) (by kernel_rfl) (by kernel_rfl) (by exact fun _ _ _ h => h) (Or.inl ⟨by rfl,?_⟩) (by assumption) ?_; (rotate_left 1; (intro w hSw; (try dsimp only at hSw); go_simp); (try with_reducible rfl)); (try simp only [Act.put,List.setIfInBounds_toArray,List.set_cons_zero,List.set_cons_succ]))
     (refine wpAnyH_take (i:=6) (v:=?_) (by (simp only [List.getElem?_toArray,List.getElem?_cons_succ,List.getElem?_cons_zero]; rfl)) (by kernel_rfl) (by kernel_rfl) (by kernel_rfl) (by exact fun _ _ _ h => h) (Or.inl ⟨by rfl,?_⟩) (by assumption) ?_; (rotate_left 1; (intro w hSw; (try dsimp only at hSw); go_simp); (try with_reducible rfl)); (try simp only [Act.put,List.setIfInBounds_toArray,List.set_cons_zero,List.set_cons_succ]))
     (refine wpAnyH_take (i:=7) (v:=?_) (by (simp only [List.getElem?_toArray,List.getElem?_cons_succ,List.getElem?_cons_zero]; rfl)) (by kernel_rfl) (by kernel_rfl) (by kernel_rfl) (by exact fun _ _ _ h => h) (Or.inl ⟨by rfl,?_⟩) (by assumption) ?_; (rotate_left 1; (intro w hSw; (try dsimp only at hSw); go_simp); (try with_reducible rfl)); (try simp only [Act.put,List.setIfInBounds_toArray,List.set_cons_zero,List.set_cons_succ]))
     (refine wpAnyH_take (i:=8) (v:=?_) (by (simp only [List.getElem?_toArray,List.getElem?_cons_succ,List.getElem?_cons_zero]; rfl)) (by kernel_rfl) (by kernel_rfl) (by kernel_rfl) (by exact fun _ _ _ h => h) (Or.inl ⟨by rfl,?_⟩) (by assumption) ?_; (rotate_left 1; (intro w hSw; (try dsimp only at hSw); go_simp); (try with_reducible rfl)); (try simp only [Act.put,List.setIfInBounds_toArray,List.set_cons_zero,List.set_cons_succ]))
     (refine wpAnyH_take (i:=9) (v:=?_) (by (simp only [List.getElem?_toArray,List.getElem?_cons_succ,List.getElem?_cons_zero]; rfl)) (by kernel_rfl) (by kernel_rfl) (by kernel_rfl) (by exact fun _ _ _ h => h) (Or.inl ⟨by rfl,?_⟩) (by assumption) ?_; (rotate_left 1; (intro w hSw; (try dsimp only at hSw); go_simp); (try with_reducible rfl)); (try simp only [Act.put,List.setIfInBounds_toArray,List.set_cons_zero,List.set_cons_succ]))
     (refine wpAnyH_take (i:=10) (v:=?_) (by (simp only [List.getElem?_toArray,List.getElem?_cons_succ,List.getElem?_cons_zero]; rfl)) (by kernel_rfl) (by kernel_rfl) (by kernel_rfl) (by exact fun _ _ _ h => h) (Or.inl ⟨by rfl,?_⟩) (by assumption) ?_; (rotate_left 1; (intro w hSw; (try dsimp only at hSw); go_simp); (try with_reducible rfl)); (try simp only [Act.put,List.setIfInBounds_toArray,List.set_cons_zero,List.set_cons_succ]))
     by_cases ht : 0 < tk
     ·have d1 : decide (0 < tk) = true:=decide_eq_true ht
      rw [d1]
      clear ht
      (refine wpAnyH_take (i:=11) (v:=?_) (by (simp only [List.getElem?_toArray,List.getElem?_cons_succ,List.getElem?_cons_zero]; rfl)) (by kernel_rfl) (by kernel_rfl) (by kernel_rfl) (by exact fun _ _ _ h => h) (Or.inl ⟨by rfl,?_⟩) (by assumption) ?_; (rotate_left 1; (intro w hSw; (try dsimp only at hSw); go_simp); (try with_reducible rfl)); (try simp only [Act.put,List.setIfInBounds_toArray,List.set_cons_zero,List.set_cons_succ]))
      (refine wpAnyH_take (i:=12) (v:=?_) (by (simp only [List.getElem?_toArray,List.getElem?_cons_succ,List.getElem?_cons_zero]; rfl)) (by kernel_rfl) (by kernel_rfl) (by kernel_rfl) (by exact fun _ _ _ h => h) (Or.inl ⟨by rfl,?_⟩) (by assumption) ?_; (rotate_left 1; (intro w hSw; (try dsimp only at hSw); go_simp); (try with_reducible rfl)); (try simp only [Act.put,List.setIfInBounds_toArray,List.set_cons_zero,List.set_cons_succ]))
      (refine wpAnyH_take (i:=13) (v:=?_) (by (simp only [List.getElem?_toArray,List.getElem?_cons_succ,List.getElem?_cons_zero]; rfl)) (by kernel_rfl) (by kernel_rfl) (by kernel_rfl) (by exact fun _ _ _ h => h) (Or.inl ⟨by rfl,?_⟩) (by assumption) ?_; (rotate_left 1; (intro w hSw; (try dsimp only at hSw); go_simp); (try with_reducible rfl)); (try simp only [Act.put,List.setIfInBounds_toArray,List.set_cons_zero,List.set_cons_succ]))
      (refine wpAnyH_take (i:=14) (v:=?_) (by (simp only [List.getElem?_toArray,List.getElem?_cons_succ,List.getElem?_cons_zero]; rfl)) (by kernel_rfl) (by kernel_rfl) (by kernel_rfl) (by exact fun _ _ _ h => h) (Or.inl ⟨by rfl,?_⟩) (by assumption) ?_; (rotate_left 1; (intro w hSw; (try dsimp only at hSw); go_simp); (try with_reducible rfl)); (try simp only [Act.put,List.setIfInBounds_toArray,List.set_cons_zero,List.set_cons_succ]))
      (refine wpAnyH_take (i:=15) (v:=?_) (by (simp only [List.getElem?_toArray,List.getElem?_cons_succ,List.getElem?_cons_zero]; rfl)) (by kernel_rfl) (by kernel_rfl) (by kernel_rfl) (by exact fun _ _ _ h => h) (Or.inl ⟨by rfl,?_⟩) (by assumption) ?_; (rotate_left 1; (intro w hSw; (try dsimp only at hSw); go_simp); (try with_reducible rfl)); (try simp only [Act.put,List.setIfInBounds_toArray,List.set_cons_zero,List.set_cons_succ]))
      (refine wpAnyH_take (i:=16) (v:=?_) (by (simp only [List.getElem?_toArray,List.getElem?_cons_succ,List.getElem?_cons_zero]; rfl)) (by kernel_rfl) (by kernel_rfl) (by kernel_rfl) (by exact fun _ _ _ h => h) (Or.inl ⟨by rfl,?_⟩) (by assumption) ?_; (rotate_left 1; (intro w hSw; (try dsimp only at hSw); go_simp); (try with_reducible rfl)); (try simp only [Act.put,List.setIfInBounds_toArray,List.set_cons_zero,List.set_cons_succ]))
      by_cases hg : gk = 0
      ·have d2 : (gk == 0) = true:=by simpa using hg
       have HG9 : Hid (dGold atts live k = true):=Lib.hid (by rw [HD.out,d1,d2]; rfl)
       rw [d2]
       clear hg
       (refine wpAnyH_take (i:=17) (v:=undef) (by (simp only [List.getElem?_toArray,List.getElem?_cons_succ,List.getElem?_cons_zero]; rfl)) (by kernel_rfl) (by kernel_rfl) (by kernel_rfl) (by exact fun _ _ _ h => h) (Or.inr ⟨by rfl,rfl⟩) (by assumption) ?_; (try simp only [Act.put,List.setIfInBounds_toArray,List.set_cons_zero,List.set_cons_succ]))
       (refine wpAnyH_take (i:=18) (v:=undef) (by (simp only [List.getElem?_toArray,List.getElem?_cons_succ,List.getElem?_cons_zero]; rfl)) (by kernel_rfl) (by kernel_rfl) (by kernel_rfl) (by exact fun _ _ _ h => h) (Or.inr ⟨by rfl,rfl⟩) (by assumption) ?_; (try simp only [Act.put,List.setIfInBounds_toArray,List.set_cons_zero,List.set_cons_succ]))
       (refine wpAnyH_take (i:=19) (v:=undef) (by (simp only [List.getElem?_toArray,List.getElem?_cons_succ,List.getElem?_cons_zero]; rfl)) (by kernel_rfl) (by kernel_rfl) (by kernel_rfl) (by exact fun _ _ _ h => h) (Or.inr ⟨by rfl,rfl⟩) (by assumption) ?_; (try simp only [Act.put,List.setIfInBounds_toArray,List.set_cons_zero,List.set_cons_succ]))
       (refine wpAnyH_take (i:=20) (v:=undef) (by (simp only [List.getElem?_toArray,List.getElem?_cons_succ,List.getElem?_cons_zero]; rfl)) (by kernel_rfl) (by kernel_rfl) (by kernel_rfl) (by exact fun _ _ _ h => h) (Or.inr ⟨by rfl,rfl⟩) (by assumption) ?_; (try simp only [Act.put,List.setIfInBounds_toArray,List.set_cons_zero,List.set_cons_succ]))
       (refine wpAnyH_take (i:=21) (v:=undef) (by (simp only [List.getElem?_toArray,List.getElem?_cons_succ,List.getElem?_cons_zero]; rfl)) (by kernel_rfl) (by kernel_rfl) (by kernel_rfl) (by exact fun _ _ _ h => h) (Or.inr ⟨by rfl,rfl⟩) (by assumption) ?_; (try simp only [Act.put,List.setIfInBounds_toArray,List.set_cons_zero,List.set_cons_succ]))
       (refine wpAnyH_take (i:=22) (v:=undef) (by (simp only [List.getElem?_toArray,List.getElem?_cons_succ,List.getElem?_cons_zero]; rfl)) (by kernel_rfl) (by kernel_rfl) (by kernel_rfl) (by exact fun _ _ _ h => h) (Or.inr ⟨by rfl,rfl⟩) (by assumption) ?_; (try simp only [Act.put,List.setIfInBounds_toArray,List.set_cons_zero,List.set_cons_succ]))
       (refine wpAnyH_take (i:=23) (v:=undef) (by (simp only [List.getElem?_toArray,List.getElem?_cons_succ,List.getElem?_cons_zero]; rfl)) (by kernel_rfl) (by kernel_rfl) (by kernel_rfl) (by exact fun _ _ _ h => h) (Or.inr ⟨by rfl,rfl⟩) (by assumption) ?_; (try simp only [Act.put,List.setIfInBounds_toArray,List.set_cons_zero,List.set_cons_succ]))
       (refine wpAnyH_take (i:=24) (v:=undef) (by (simp only [List.getElem?_toArray,List.getElem?_cons_succ,List.getElem?_cons_zero]; rfl)) (by kernel_rfl) (by kernel_rfl) (by kernel_rfl) (by exact fun _ _ _ h => h) (Or.inr ⟨by rfl,rfl⟩) (by assumption) ?_; (try simp only [Act.put,List.setIfInBounds_toArray,List.set_cons_zero,List.set_cons_succ]))
       (refine wpAnyH_take (i:=25) (v:=undef) (by (simp only [List.getElem?_toArray,List.getElem?_cons_succ,List.getElem?_cons_zero]; rfl)) (by kernel_rfl) (by kernel_rfl) (by kernel_rfl) (by exact fun _ _ _ h => h) (Or.inr ⟨by rfl,rfl⟩) (by assumption) ?_; (try simp only [Act.put,List.setIfInBounds_toArray,List.set_cons_zero,List.set_cons_succ]))
       (refine wpAnyH_take (i:=26) (v:=?_) (by (simp only [List.getElem?_toArray,List.getElem?_cons_succ,List.getElem?_cons_zero]; rfl)) (by kernel_rfl) (by kernel_rfl) (by kernel_rfl) (by exact fun _ _ _ h => h) (Or.inl ⟨by rfl,?_⟩) (by assumption) ?_; (rotate_left 1; (intro w hSw; (try dsimp only at hSw); go_simp); (try with_reducible rfl)); (try simp only [Act.put,List.setIfInBounds_toArray,List.set_cons_zero,List.set_cons_succ]))
       (refine wpAnyH_take (i:=27) (v:=?_) (by (simp only [List.getElem?_toArray,List.getElem?_cons_succ,List.getElem?_cons_zero]; rfl)) (by kernel_rfl) (by kernel_rfl) (by kernel_rfl) (by exact fun _ _ _ h => h) (Or.inl ⟨by rfl,?_⟩) (by assumption) ?_; (rotate_left 1; (intro w hSw; (try dsimp only at hSw); go_simp); (try with_reducible rfl)); (try simp only [Act.put,List.setIfInBounds_toArray,List.set_cons_zero,List.set_cons_succ]))
       (refine wpAnyH_take (i:=28) (v:=?_) (by (simp only [List.getElem?_toArray,List.getElem?_cons_succ,List.getElem?_cons_zero]; rfl)) (by kernel_rfl) (by kernel_rfl) (by kernel_rfl) (by exact fun _ _ _ h => h) (Or.inl ⟨by rfl,?_⟩) (by assumption) ?_; (rotate_left 1; (intro w hSw; (try dsimp only at hSw); go_simp); (try with_reducible rfl)); (try simp only [Act.put,List.setIfInBounds_toArray,List.set_cons_zero,List.set_cons_succ]))
       refine wpAnyH_ready (rs:=[29]) (by kernel_rfl) (by simp) ?_
       refine AllReadyH.cons rfl (fun K hK => ?_) AllReadyH.nil
       go_simp
       refine hK.out _ _ ⟨cell_al q0 _,cell_al c5 _,cell_al c4 _,cell_al c3 _⟩ (fun hHeld => ?_)
       clear hK K
       (try simp only [Act.put,List.setIfInBounds_toArray,List.set_cons_zero,List.set_cons_succ])
       refine wpAnyH_ready (rs:=[30]) (by kernel_rfl) (by simp) ?_
       refine AllReadyH.cons rfl (fun K hK => ?_) AllReadyH.nil
       go_simp
       refine hK.out _ _ ⟨cell_al q0 _,cell_al c5 _,cell_al c4 _,cell_al c3 _⟩ (fun hHeld => ?_)
       clear hK K
       (try simp only [Act.put,List.setIfInBounds_toArray,List.set_cons_zero,List.set_cons_succ])
       refine wpAnyH_done (by kernel_rfl) ?_ _
       go_wp2_with fail
       go_meet
       refine ⟨rfl,?_,(by repeat (first | exact Below.refl _ _ | refine Below.alloc ?_ (by first | omega | (simp; omega)) _ | refine below_drewN' ?_ _ | refine Below.drew ?_))⟩
       rw [HG9.out]
       exact Blk.new _ _ _
      ·have d2 : (gk == 0) = false:=by simpa using hg
       have HG9 : Hid (dGold atts live k = decide (tk < gk)):=Lib.hid (by rw [HD.out,d1,d2]; rfl)
       rw [d2]
       clear hg
       (refine wpAnyH_take (i:=17) (v:=?_) (by (simp only [List.getElem?_toArray,List.getElem?_cons_succ,List.getElem?_cons_zero]; rfl)) (by kernel_rfl) (by kernel_rfl) (by kernel_rfl) (by exact fun _ _ _ h => h) (Or.inl ⟨by rfl,?_⟩) (by assumption) ?_; (rotate_left 1; (intro w hSw; (try dsimp only at hSw); go_simp); (try with_reducible rfl)); (try simp only [Act.put,List.setIfInBounds_toArray,List.set_cons_zero,List.set_cons_succ]))
       (refine wpAnyH_take (i:=18) (v:=?_) (by (simp only [List.getElem?_toArray,List.getElem?_cons_succ,List.getElem?_cons_zero]; rfl)) (by kernel_rfl) (by kernel_rfl) (by kernel_rfl) (by exact fun _ _ _ h => h) (Or.inl ⟨by rfl,?_⟩) (by assumption) ?_; (rotate_left 1; (intro w hSw; (try dsimp only at hSw); go_simp); (try with_reducible rfl)); (try simp only [Act.put,List.setIfInBounds_toArray,List.set_cons_zero,List.set_cons_succ]))
       (refine wpAnyH_take (i:=19) (v:=?_) (by (simp only [List.getElem?_toArray,List.getElem?_cons_succ,List.getElem?_cons_zero]; rfl)) (by kernel_rfl) (by kernel_rfl) (by kernel_rfl) (by exact fun _ _ _ h => h) (Or.inl ⟨by rfl,?_⟩) (by assumption) ?_; (rotate_left 1; (intro w hSw; (try dsimp only at hSw); go_simp); (try with_reducible rfl)); (try simp only [Act.put,List.setIfInBounds_toArray,List.set_cons_zero,List.set_cons_succ]))
       (refine wpAnyH_take (i:=20) (v:=?_) (by (simp only [List.getElem?_toArray,List.getElem?_cons_succ,List.getElem?_cons_zero]; rfl)) (by kernel_rfl) (by kernel_rfl) (by kernel_rfl) (by exact fun _ _ _ h => h) (Or.inl ⟨by rfl,?_⟩) (by assumption) ?_; (rotate_left 1; (intro w hSw; (try dsimp only at hSw); go_simp); (try with_reducible rfl)); (try simp only [Act.put,List.setIfInBounds_toArray,List.set_cons_zero,List.set_cons_succ]))
       (refine wpAnyH_take (i:=21) (v:=?_) (by (simp only [List.getElem?_toArray,List.getElem?_cons_succ,List.getElem?_cons_zero]; rfl)) (by kernel_rfl) (by kernel_rfl) (by kernel_rfl) (by exact fun _ _ _ h => h) (Or.inl ⟨by rfl,?_⟩) (by assumption) ?_; (rotate_left 1; (intro w hSw; (try dsimp only at hSw); go_simp); (try with_reducible rfl)); (try simp only [Act.put,List.setIfInBounds_toArray,List.set_cons_zero,List.set_cons_succ]))
       (refine wpAnyH_take (i:=22) (v:=?_) (by (simp only [List.getElem?_toArray,List.getElem?_cons_succ,List.getElem?_cons_zero]; rfl)) (by kernel_rfl) (by kernel_rfl) (by kernel_rfl) (by exact fun _ _ _ h => h) (Or.inl ⟨by rfl,?_⟩) (by assumption) ?_; (rotate_left 1; (intro w hSw; (try dsimp only at hSw); go_simp); (try with_reducible rfl)); (try simp only [Act.put,List.setIfInBounds_toArray,List.set_cons_zero,List.set_cons_succ]))
       (refine wpAnyH_take (i:=23) (v:=?_) (by (simp only [List.getElem?_toArray,List.getElem?_cons_succ,List.getElem?_cons_zero]; rfl)) (by kernel_rfl) (by kernel_rfl) (by kernel_rfl) (by exact fun _ _ _ h => h) (Or.inl ⟨by rfl,?_⟩) (by assumption) ?_; (rotate_left 1; (intro w hSw; (try dsimp only at hSw); go_simp); (try with_reducible rfl)); (try simp only [Act.put,List.setIfInBounds_toArray,List.set_cons_zero,List.set_cons_succ]))
       (refine wpAnyH_take (i:=24) (v:=?_) (by (simp only [List.getElem?_toArray,List.getElem?_cons_succ,List.getElem?_cons_zero]; rfl)) (by kernel_rfl) (by kernel_rfl) (by kernel_rfl) (by exact fun _ _ _ h => h) (Or.inl ⟨by rfl,?_⟩) (by assumption) ?_; (rotate_left 1; (intro w hSw; (try dsimp only at hSw); go_simp); (try with_reducible rfl)); (try simp only [Act.put,List.setIfInBounds_toArray,List.set_cons_zero,List.set_cons_succ]))
       (refine wpAnyH_take (i:=25) (v:=?_) (by (simp only [List.getElem?_toArray,List.getElem?_cons_succ,List.getElem?_cons_zero]; rfl)) (by kernel_rfl) (by kernel_rfl) (by kernel_rfl) (by exact fun _ _ _ h => h) (Or.inl ⟨by rfl,?_⟩) (by assumption) ?_; (rotate_left 1; (intro w hSw; (try dsimp only at hSw); go_simp); (try with_reducible rfl)); (try simp only [Act.put,List.setIfInBounds_toArray,List.set_cons_zero,List.set_cons_succ]))
       (refine wpAnyH_take (i:=26) (v:=?_) (by (simp only [List.getElem?_toArray,List.getElem?_cons_succ,List.getElem?_cons_zero]; rfl)) (by kernel_rfl) (by kernel_rfl) (by kernel_rfl) (by exact fun _ _ _ h => h) (Or.inl ⟨by rfl,?_⟩) (by assumption) ?_; (rotate_left 1; (intro w hSw; (try dsimp only at hSw); go_simp); (try with_reducible rfl)); (try simp only [Act.put,List.setIfInBounds_toArray,List.set_cons_zero,List.set_cons_succ]))
       (refine wpAnyH_take (i:=27) (v:=?_) (by (simp only [List.getElem?_toArray,List.getElem?_cons_succ,List.getElem?_cons_zero]; rfl)) (by kernel_rfl) (by kernel_rfl) (by kernel_rfl) (by exact fun _ _ _ h => h) (Or.inl ⟨by rfl,?_⟩) (by assumption) ?_; (rotate_left 1; (intro w hSw; (try dsimp only at hSw); go_simp); (try with_reducible rfl)); (try simp only [Act.put,List.setIfInBounds_toArray,List.set_cons_zero,List.set_cons_succ]))
       (refine wpAnyH_take (i:=28) (v:=?_) (by (simp only [List.getElem?_toArray,List.getElem?_cons_succ,List.getElem?_cons_zero]; rfl)) (by kernel_rfl) (by kernel_rfl) (by kernel_rfl) (by exact fun _ _ _ h => h) (Or.inl ⟨by rfl,?_⟩) (by assumption) ?_; (rotate_left 1; (intro w hSw; (try dsimp only at hSw); go_simp); (try with_reducible rfl)); (try simp only [Act.put,List.setIfInBounds_toArray,List.set_cons_zero,List.set_cons_succ]))
       refine wpAnyH_ready (rs:=[29]) (by kernel_rfl) (by simp) ?_
       refine AllReadyH.cons rfl (fun K hK => ?_) AllReadyH.nil
       go_simp
       refine hK.out _ _ ⟨cell_al q0 _,cell_al c5 _,cell_al c4 _,cell_al c3 _⟩ (fun hHeld => ?_)
       clear hK K
       (try simp only [Act.put,List.setIfInBounds_toArray,List.set_cons_zero,List.set_cons_succ])
       refine wpAnyH_ready (rs:=[30]) (by kernel_rfl) (by simp) ?_
       refine AllReadyH.cons rfl (fun K hK => ?_) AllReadyH.nil
       go_simp
       refine hK.out _ _ ⟨cell_al q0 _,cell_al c5 _,cell_al c4 _,cell_al c3 _⟩ (fun hHeld => ?_)
       clear hK K
       (try simp only [Act.put,List.setIfInBounds_toArray,List.set_cons_zero,List.set_cons_succ])
       refine wpAnyH_done (by kernel_rfl) ?_ _
       go_wp2_with fail
       go_meet
       refine ⟨rfl,?_,(by repeat (first | exact Below.refl _ _ | refine Below.alloc ?_ (by first | omega | (simp; omega)) _ | refine below_drewN' ?_ _ | refine Below.drew ?_))⟩
       rw [HG9.out]
       exact Blk.new _ _ _
     ·have d1 : decide (0 < tk) = false:=decide_eq_false ht
      have HG9 : Hid (dGold atts live k = false):=Lib.hid (by rw [HD.out,d1]; rfl)
      rw [d1]
      clear ht
      (refine wpAnyH_take (i:=11) (v:=undef) (by (simp only [List.getElem?_toArray,List.getElem?_cons_succ,List.getElem?_cons_zero]; rfl)) (by kernel_rfl) (by kernel_rfl) (by kernel_rfl) (by exact fun _ _ _ h => h) (Or.inr ⟨by rfl,rfl⟩) (by assumption) ?_; (try simp only [Act.put,List.setIfInBounds_toArray,List.set_cons_zero,List.set_cons_succ]))
      (refine wpAnyH_take (i:=12) (v:=undef) (by (simp only [List.getElem?_toArray,List.getElem?_cons_succ,List.getElem?_cons_zero]; rfl)) (by kernel_rfl) (by kernel_rfl) (by kernel_rfl) (by exact fun _ _ _ h => h) (Or.inr ⟨by rfl,rfl⟩) (by assumption) ?_; (try simp only [Act.put,List.setIfInBounds_toArray,List.set_cons_zero,List.set_cons_succ]))
      (refine wpAnyH_take (i:=13) (v:=undef) (by (simp only [List.getElem?_toArray,List.getElem?_cons_succ,List.getElem?_cons_zero]; rfl)) (by kernel_rfl) (by kernel_rfl) (by kernel_rfl) (by exact fun _ _ _ h => h) (Or.inr ⟨by rfl,rfl⟩) (by assumption) ?_; (try simp only [Act.put,List.setIfInBounds_toArray,List.set_cons_zero,List.set_cons_succ]))
      (refine wpAnyH_take (i:=14) (v:=undef) (by (simp only [List.getElem?_toArray,List.getElem?_cons_succ,List.getElem?_cons_zero]; rfl)) (by kernel_rfl) (by kernel_rfl) (by kernel_rfl) (by exact fun _ _ _ h => h) (Or.inr ⟨by rfl,rfl⟩) (by assumption) ?_; (try simp only [Act.put,List.setIfInBounds_toArray,List.set_cons_zero,List.set_cons_succ]))
      (refine wpAnyH_take (i:=15) (v:=undef) (by (simp only [List.getElem?_toArray,List.getElem?_cons_succ,List.getElem?_cons_zero]; rfl)) (by kernel_rfl) (by kernel_rfl) (by kernel_rfl) (by exact fun _ _ _ h => h) (Or.inr ⟨by rfl,rfl⟩) (by assumption) ?_; (try simp only [Act.put,List.setIfInBounds_toArray,List.set_cons_zero,List.set_cons_succ]))
      (refine wpAnyH_take (i:=16) (v:=undef) (by (simp only [List.getElem?_toArray,List.getElem?_cons_succ,List.getElem?_cons_zero]; rfl)) (by kernel_rfl) (by kernel_rfl) (by kernel_rfl) (by exact fun _ _ _ h => h) (Or.inr ⟨by rfl,rfl⟩) (by assumption) ?_; (try simp only [Act.put,List.setIfInBounds_toArray,List.set_cons_zero,List.set_cons_succ]))
      (refine wpAnyH_take (i:=17) (v:=undef) (by (simp only [List.getElem?_toArray,List.getElem?_cons_succ,List.getElem?_cons_zero]; rfl)) (by kernel_rfl) (by kernel_rfl) (by kernel_rfl) (by exact fun _ _ _ h => h) (Or.inr ⟨by rfl,rfl⟩) (by assumption) ?_; (try simp only [Act.put,List.setIfInBounds_toArray,List.set_cons_zero,List.set_cons_succ]))
      (refine wpAnyH_take (i:=18) (v:=undef) (by (simp only [List.getElem?_toArray,List.getElem?_cons_succ,List.getElem?_cons_zero]; rfl)) (by kernel_rfl) (by kernel_rfl) (by kernel_rfl) (by exact fun _ _ _ h => h) (Or.inr ⟨by rfl,rfl⟩) (by assumption) ?_; (try simp only [Act.put,List.setIfInBounds_toArray,List.set_cons_zero,List.set_cons_succ]))
      (refine wpAnyH_take (i:=19) (v:=undef) (by (simp only [List.getElem?_toArray,List.getElem?_cons_succ,List.getElem?_cons_zero]; rfl)) (by kernel_rfl) (by kernel_rfl) (by kernel_rfl) (by exact fun _ _ _ h => h) (Or.inr ⟨by rfl,rfl⟩) (by assumption) ?_; (try simp only [Act.put,List.setIfInBounds_toArray,List.set_cons_zero,List.set_cons_succ]))
      (refine wpAnyH_take (i:=20) (v:=undef) (by (simp only [List.getElem?_toArray,List.getElem?_cons_succ,List.getElem?_cons_zero]; rfl)) (by kernel_rfl) (by kernel_rfl) (by kernel_rfl) (by exact fun _ _ _ h => h) (Or.inr ⟨by rfl,rfl⟩) (by assumption) ?_; (try simp only [Act.put,List.setIfInBounds_toArray,List.set_cons_zero,List.set_cons_succ]))
      (refine wpAnyH_take (i:=21) (v:=undef) (by (simp only [List.getElem?_toArray,List.getElem?_cons_succ,List.getElem?_cons_zero]; rfl)) (by kernel_rfl) (by kernel_rfl) (by kernel_rfl) (by exact fun _ _ _ h => h) (Or.inr ⟨by rfl,rfl⟩) (by assumption) ?_; (try simp only [Act.put,List.setIfInBounds_toArray,List.set_cons_zero,List.set_cons_succ]))
      (refine wpAnyH_take (i:=22) (v:=undef) (by (simp only [List.getElem?_toArray,List.getElem?_cons_succ,List.getElem?_cons_zero]; rfl)) (by kernel_rfl) (by kernel_rfl) (by kernel_rfl) (by exact fun _ _ _ h => h) (Or.inr ⟨by rfl,rfl⟩) (by assumption) ?_; (try simp only [Act.put,List.setIfInBounds_toArray,List.set_cons_zero,List.set_cons_succ]))
      (refine wpAnyH_take (i:=23) (v:=undef) (by (simp only [List.getElem?_toArray,List.getElem?_cons_succ,List.getElem?_cons_zero]; rfl)) (by kernel_rfl) (by kernel_rfl) (by kernel_rfl) (by exact fun _ _ _ h => h) (Or.inr ⟨by rfl,rfl⟩) (by assumption) ?_; (try simp only [Act.put,List.setIfInBounds_toArray,List.set_cons_zero,List.set_cons_succ]))
      (refine wpAnyH_take (i:=24) (v:=undef) (by (simp only [List.getElem?_toArray,List.getElem?_cons_succ,List.getElem?_cons_zero]; rfl)) (by kernel_rfl) (by kernel_rfl) (by kernel_rfl) (by exact fun _ _ _ h => h) (Or.inr ⟨by rfl,rfl⟩) (by assumption) ?_; (try simp only [Act.put,List.setIfInBounds_toArray,List.set_cons_zero,List.set_cons_succ]))
      (refine wpAnyH_take (i:=25) (v:=undef) (by (simp only [List.getElem?_toArray,List.getElem?_cons_succ,List.getElem?_cons_zero]; rfl)) (by kernel_rfl) (by kernel_rfl) (by kernel_rfl) (by exact fun _ _ _ h => h) (Or.inr ⟨by rfl,rfl⟩) (by assumption) ?_; (try simp only [Act.put,List.setIfInBounds_toArray,List.set_cons_zero,List.set_cons_succ]))
      (refine wpAnyH_take (i:=26) (v:=undef) (by (simp only [List.getElem?_toArray,List.getElem?_cons_succ,List.getElem?_cons_zero]; rfl)) (by kernel_rfl) (by kernel_rfl) (by kernel_rfl) (by exact fun _ _ _ h => h) (Or.inr ⟨by rfl,rfl⟩) (by assumption) ?_; (try simp only [Act.put,List.setIfInBounds_toArray,List.set_cons_zero,List.set_cons_succ]))
      (refine wpAnyH_take (i:=27) (v:=?_) (by (simp only [List.getElem?_toArray,List.getElem?_cons_succ,List.getElem?_cons_zero]; rfl)) (by kernel_rfl) (by kernel_rfl) (by kernel_rfl) (by exact fun _ _ _ h => h) (Or.inl ⟨by rfl,?_⟩) (by assumption) ?_; (rotate_left 1; (intro w hSw; (try dsimp only at hSw); go_simp); (try with_reducible rfl)); (try simp only [Act.put,List.setIfInBounds_toArray,List.set_cons_zero,List.set_cons_succ]))
      (refine wpAnyH_take (i:=28) (v:=?_) (by (simp only [List.getElem?_toArray,List.getElem?_cons_succ,List.getElem?_cons_zero]; rfl)) (by kernel_rfl) (by kernel_rfl) (by kernel_rfl) (by exact fun _ _ _ h => h) (Or.inl ⟨by rfl,?_⟩) (by assumption) ?_; (rotate_left 1; (intro w hSw; (try dsimp only at hSw); go_simp); (try with_reducible rfl)); (try simp only [Act.put,List.setIfInBounds_toArray,List.set_cons_zero,List.set_cons_succ]))
      refine wpAnyH_ready (rs:=[29]) (by kernel_rfl) (by simp) ?_
      refine AllReadyH.cons rfl (fun K hK => ?_) AllReadyH.nil
      go_simp
      refine hK.out _ _ ⟨cell_al q0 _,cell_al c5 _,cell_al c4 _,cell_al c3 _⟩ (fun hHeld => ?_)
      clear hK K
      (try simp only [Act.put,List.setIfInBounds_toArray,List.set_cons_zero,List.set_cons_succ])
      refine wpAnyH_ready (rs:=[30]) (by kernel_rfl) (by simp) ?_
      refine AllReadyH.cons rfl (fun K hK => ?_) AllReadyH.nil
      go_simp
      refine hK.out _ _ ⟨cell_al q0 _,cell_al c5 _,cell_al c4 _,cell_al c3 _⟩ (fun hHeld => ?_)
      clear hK K
      (try simp only [Act.put,List.setIfInBounds_toArray,List.set_cons_zero,List.set_cons_succ])
      refine wpAnyH_done (by kernel_rfl) ?_ _
      go_wp2_with fail
      go_meet
      refine ⟨rfl,?_,(by repeat (first | exact Below.refl _ _ | refine Below.alloc ?_ (by first | omega | (simp; omega)) _ | refine below_drewN' ?_ _ | refine Below.drew ?_))⟩
      rw [HG9.out]
      exact Blk.new _ _ _
    case rest =>
     obtain ⟨rfl,hbk,hbc⟩:=hcut
     have c1:=(hbc.cell z1).trans c1
     have c2:=(hbc.cell z2).trans c2
     have hown9:=own_keep hown hbc
     have hbx:=below_up hbw hbc
     have hzc:=hbk.lt
     have hne : (Value.slice A' ds.length c').ownBlock ≠ some wr.heap.size:=fun e => by have:=(hown.lt _ e).2; omega
     clear hown hbw hbc q0 q1 c3 c4 c5 HD hkw
     obtain ⟨g,hg⟩ : ∃ g,wr.heap.size = g:=⟨_,rfl⟩
     rw [hg] at hbk hne hzc hz ⊢
     by_cases hn : n = 0
     ·obtain ⟨y1,y2⟩:=HNO.out (fun h => h.1 hn)
      have Y1:=Lib.hid y1
      have Y2:=Lib.hid y2
      have d2 : (n != 0) = false:=by simpa using hn
      have d2' : decide (0 < n) = false:=decide_eq_false (by omega)
      obtain ⟨e0,e1,e2,e3⟩:=hbk.four_
      clear y1 y2 hn
      have HF : Hid (dltL segs atts live o (k + 1) = ds ++ [(sk,0,0,dGold atts live k)]):=Lib.hid (by rw [HS.out,Y1.out])
      clear HS HY HNO
      generalize dGold atts live k = gd at *
      go_wp2_with (at_builtin; go_must (refine wpList_app (lo:=W.heap.size) (base:=W.heap.size) (n:=ds.length) (xs:=dls ds) _ _ rfl _ _ ty_dls rfl (by repeat (first | exact hown9 | refine World.ownsRow.alloc ?_ _ | refine own_drewN ?_ _ | refine World.ownsRow.drew ?_)) rfl (by first | exact row_new' _ (by first | rfl | simp) (by first | omega | (simp; omega)) rfl | exact row_newN _ _ (by first | rfl | simp) (by first | omega | (simp; omega)) rfl | exact row_newD _ (by first | rfl | simp) (by first | omega | (simp; omega)) rfl) rfl rfl (by first | omega | decide) (by first | omega | decide) (by first | omega | (simp; omega)) ?_))
      intro A5 c5 w5 hown5 hg5 _
      go_wp2_with fail
      go_roundw
      case rel => exact ⟨k + 1,A5,c5,by omega,by go_num,by rw [Y2.out],by rw [HF.out]; simp,by rw [HF.out,dls_app,List.length_append]; exact hown5,below_app hown9 (by repeat (first | exact hbx | refine Below.alloc ?_ (by first | omega | (simp; omega)) _ | refine below_drewN' ?_ _ | refine Below.drew ?_)) hg5 (Nat.le_refl _) (by simp; omega)⟩
      case measure => simp [intOf]; omega
     ·have d2 : (n != 0) = true:=by simpa using hn
      have d2' : decide (0 < n) = true:=decide_eq_true (by omega)
      by_cases hm : m = 0
      ·obtain ⟨y1,y2⟩:=HNO.out (fun h => h.2 hm)
       have Y1:=Lib.hid y1
       have Y2:=Lib.hid y2
       have d3 : (m != 0) = false:=by simpa using hm
       have d3' : decide (0 < m) = false:=decide_eq_false (by omega)
       obtain ⟨e0,e1,e2,e3⟩:=hbk.four_
       clear y1 y2 hn hm
       have HF : Hid (dltL segs atts live o (k + 1) = ds ++ [(sk,0,0,dGold atts live k)]):=Lib.hid (by rw [HS.out,Y1.out])
       clear HS HY HNO
       generalize dGold atts live k = gd at *
       go_wp2_with (at_builtin; go_must (refine wpList_app (lo:=W.heap.size) (base:=W.heap.size) (n:=ds.length) (xs:=dls ds) _ _ rfl _ _ ty_dls rfl (by repeat (first | exact hown9 | refine World.ownsRow.alloc ?_ _ | refine own_drewN ?_ _ | refine World.ownsRow.drew ?_)) rfl (by first | exact row_new' _ (by first | rfl | simp) (by first | omega | (simp; omega)) rfl | exact row_newN _ _ (by first | rfl | simp) (by first | omega | (simp; omega)) rfl | exact row_newD _ (by first | rfl | simp) (by first | omega | (simp; omega)) rfl) rfl rfl (by first | omega | decide) (by first | omega | decide) (by first | omega | (simp; omega)) ?_))
       intro A5 c5 w5 hown5 hg5 _
       go_wp2_with fail
       go_roundw
       case rel => exact ⟨k + 1,A5,c5,by omega,by go_num,by rw [Y2.out],by rw [HF.out]; simp,by rw [HF.out,dls_app,List.length_append]; exact hown5,below_app hown9 (by repeat (first | exact hbx | refine Below.alloc ?_ (by first | omega | (simp; omega)) _ | refine below_drewN' ?_ _ | refine Below.drew ?_)) hg5 (Nat.le_refl _) (by simp; omega)⟩
       case measure => simp [intOf]; omega
      ·have d3 : (m != 0) = true:=by simpa using hm
       have d3' : decide (0 < m) = true:=decide_eq_true (by omega)
       obtain ⟨y1,y2⟩:=HY.out hn hm
       have wx : IntKind.i64.wrap (n - m) = n - m:=IntWalk.i64_in _ ⟨by omega,by omega⟩
       have wy : IntKind.i64.wrap (n - m - la) = n - m - la:=IntWalk.i64_in _ ⟨by omega,by omega⟩
       have Y1:=Lib.hid y1
       have Y2:=Lib.hid y2
       have HF : Hid (dltL segs atts live o (k + 1) = ds ++ [(sk,n - m,n - m - la,dGold atts live k)]):=Lib.hid (by rw [HS.out,Y1.out])
       clear y1 y2 hn hm HS HY HNO
       generalize dGold atts live k = gd at *
       have hown9:=own_aside (own_aside hown9 hne 1 (.int .i64 (n - m))) hne 2 (.int .i64 (n - m - la))
       have hbx:=(hbx.setCell (p:=⟨g,1,none⟩) (by simp; omega) (.int .i64 (n - m))).setCell (p:=⟨g,2,none⟩) (by simp; omega) (.int .i64 (n - m - la))
       obtain ⟨e0,e1,e2,e3⟩:=hbk.four_
       have f1:=hbk.thaw 1
       have f2:=hbk.thaw 2
       go_wp2_with (at_builtin; go_must (refine wpList_app (lo:=W.heap.size) (base:=W.heap.size) (n:=ds.length) (xs:=dls ds) _ _ rfl _ _ ty_dls rfl (by repeat (first | exact hown9 | refine World.ownsRow.alloc ?_ _ | refine own_drewN ?_ _ | refine World.ownsRow.drew ?_)) rfl (by first | exact row_new' _ (by first | rfl | simp) (by first | omega | (simp; omega)) rfl | exact row_newN _ _ (by first | rfl | simp) (by first | omega | (simp; omega)) rfl | exact row_newD _ (by first | rfl | simp) (by first | omega | (simp; omega)) rfl) rfl rfl (by first | omega | decide) (by first | omega | decide) (by first | omega | (simp; omega)) ?_))
       intro A5 c5 w5 hown5 hg5 _
       go_wp2_with fail
       go_roundw
       case rel => exact ⟨k + 1,A5,c5,by omega,by go_num,by rw [Y2.out],by rw [HF.out]; simp,by rw [HF.out,dls_app,List.length_append]; exact hown5,below_app hown9 (by repeat (first | exact hbx | refine Below.alloc ?_ (by first | omega | (simp; omega)) _ | refine below_drewN' ?_ _ | refine Below.drew ?_)) hg5 (Nat.le_refl _) (by simp; omega)⟩
       case measure => simp [intOf]; omega
   ·have hkn : k = live.length:=by omega
    subst hkn
    go_wp2_with fail
    go_returns
    exact ⟨A',c',by rw [HN.out,HC.out]; rfl,by rw [HN.out]; exact own_weak hown hzW,below_up hx hbw⟩
end Go.Proofs.YtapjahbflhingaaGreatDoor
/- The walks of Splits and Compare where something is wrong, and of HowFault. -/
namespace Go.Proofs.YtapjahbflhingaaGreatDoor
set_option linter.unusedVariables false
set_option linter.unusedSimpArgs false
open Go.RowKit Go.Sort

set_option maxHeartbeats 1000000 in
theorem Splits_bad (SA TA : Option Addr) (c d lo : Nat) (how : Int) (segs : List (List UInt8)) (atts : List Att) (w : World) (hh : Hist w lo SA TA segs atts) (hz : HistSz segs atts c) (he : hfE segs atts how ≠ 0) :
  Calls Tryz.prog 33 #[.agg #[.slice SA segs.length c,.slice TA atts.length d],.int .i64 how] w fun e w' => e = .returned (.tuple #[.slice none 0 0,.bool false,.int .i64 (hfE segs atts how)]) ∧ Below w.heap.size w w':=by
 have d5 : (hfE segs atts how != 0) = true:=by simpa using he
 clear he
 go_enter Tryz.func33,Tryz.ntmps33
 go_wp2_with fail
 have hb0 : Below w.heap.size w (w.alloc (.cells #[.slice SA segs.length c,.slice TA atts.length d] 29)):=(Below.refl _ _).alloc (Nat.le_refl _) _
 have hk0 : Blk (w.alloc (.cells #[.slice SA segs.length c,.slice TA atts.length d] 29)) w.heap.size 29 #[.slice SA segs.length c,.slice TA atts.length d]:=Blk.new _ _ _
 have hh0:=hh.alloc (.cells #[.slice SA segs.length c,.slice TA atts.length d] 29)
 generalize w.alloc (.cells #[.slice SA segs.length c,.slice TA atts.length d] 29) = w0 at *
 refine (howFault_any _ _ _ _ _ _ how segs atts _ hk0 hh0 hz).mono ?_
 rintro e w1 ⟨rfl,hb1⟩
 have hx1:=below_up hb0 hb1
 go_wp2_with fail
 go_returns
 exact ⟨rfl,hx1⟩
set_option maxHeartbeats 4000000 in
set_option maxRecDepth 100000 in
theorem Compare_err (SA TA B : Option Addr) (c d cB lo lo2 : Nat) (how : Int) (live : List Int) (segs : List (List UInt8)) (atts : List Att) (w : World) (hh : Hist w lo SA TA segs atts) (hz : HistSz segs atts c) (hrL : Row w lo2 1 B live.length (ints live)) (hl9 : live.length ≤ 1000000000) (hf : cpE segs atts how live ≠ 0) :
  Calls Tryz.prog 34 #[.agg #[.slice SA segs.length c,.slice TA atts.length d],.int .i64 how,.slice B live.length cB] w fun e w' => e = .returned (.tuple #[.slice none 0 0,.bool false,.int .i64 (cpE segs atts how live)]) ∧ Below w.heap.size w w':=by
 have HE : Hid (firstE [hfE segs atts how,splF segs.length live] = cpE segs atts how live):=Lib.hid rfl
 have d5 : (cpE segs atts how live != 0) = true:=by simpa using hf
 clear hf
 have h9:=hz.h9
 go_enter Tryz.func34,Tryz.ntmps34
 go_upto_region 1 with (fail)
 have hx : Below w.heap.size w (w.alloc (.cells #[.slice SA segs.length c,.slice TA atts.length d] 29)):=(Below.refl _ _).alloc (Nat.le_refl _) _
 have hk : Blk (w.alloc (.cells #[.slice SA segs.length c,.slice TA atts.length d] 29)) w.heap.size 29 #[.slice SA segs.length c,.slice TA atts.length d]:=Blk.new _ _ _
 have hh:=hh.alloc (.cells #[.slice SA segs.length c,.slice TA atts.length d] 29)
 have hrL:=hrL.alloc (.cells #[.slice SA segs.length c,.slice TA atts.length d] 29)
 generalize w.alloc (.cells #[.slice SA segs.length c,.slice TA atts.length d] 29) = w0 at *
 obtain ⟨q0,q1⟩:=hk.two_
 have zk:=hk.lt
 go_region_held3 (fun w' => w'.cell? ⟨w.heap.size,0,none⟩ = some (.slice SA segs.length c)) (first | exact q0 | exact q5 | exact cell_al q5 _)
  (first
  | (go_at_call 82; refine (howFault_any _ _ _ _ _ _ how segs atts _ (by first | exact hk | exact hk.drew) (by first | exact hh | exact hh.below (Below.refl _ _).drew) hz).mono ?_; rintro e w5 ⟨rfl,hb5⟩; have q5:=(hb5.cell zk).trans q0)
  | (go_at_call 81; refine (splitsFault_any segs.length B _ _ live _ (by first | exact hrL | exact hrL.drew | exact hrL.drewN 1 | exact hrL.drew.below hb5 | exact (hrL.drewN 1).below hb5) h9 hl9).mono ?_; rintro e w6 ⟨rfl,rfl⟩)
  | (go_at_call 67; refine (first_any _ _ 0 [hfE segs atts how,splF segs.length live] _ (by first | exact row_new' _ (by first | rfl | simp) (by first | omega | (simp; omega)) rfl | exact row_newN _ _ (by first | rfl | simp) (by first | omega | (simp; omega)) rfl | exact row_newD _ (by first | rfl | simp) (by first | omega | (simp; omega)) rfl) (by simp)).mono ?_; rintro e w7 ⟨rfl,rfl⟩))
 have hx6 : Below w.heap.size w w5:=by first | exact below_up hx hb5 | exact below_up hx.drew hb5
 have hz6:=hx6.size
 rw [HE.out]
 go_wp2_with fail
 go_returns
 exact ⟨rfl,(by repeat (first | exact hx6 | refine Below.alloc ?_ (by first | omega | (simp; omega)) _ | refine below_drewN' ?_ _ | refine Below.drew ?_))⟩
end Go.Proofs.YtapjahbflhingaaGreatDoor
