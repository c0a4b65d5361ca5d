/- Texts of this seat, laid together: SgE SgF. -/
import Derived.Test.YtbfphnknkbhpkaaGreatDoorBk232
/- The walk of SumOfBest at a history that is right. -/
namespace Go.Proofs.YtbfphnknkbhpkaaGreatDoor
set_option linter.unusedVariables false
set_option linter.unusedSimpArgs false
open Go.RowKit Go.Sort

theorem ret3v {a b c x y z : Value} (h1 : a = x) (h2 : b = y) (h3 : c = z) : Ending.returned (.tuple #[a,b,c]) = .returned (.tuple #[x,y,z]):=by rw [h1,h2,h3]
def sumV (segs : List (List UInt8)) (atts : List Att) : Int:=lvV (stepsA atts) segs.length 0
set_option maxHeartbeats 1000000 in
theorem sumOfBest_ok (SA TA : Option Addr) (c d lo : Nat) (segs : List (List UInt8)) (atts : List Att) (w : World) (hh : Hist w lo SA TA segs atts) (hc : segs.length ≤ c) (hok : HistOk segs atts) :
  Calls Tryz.prog 43 #[.agg #[.slice SA segs.length c,.slice TA atts.length d]] w fun e w' => e = .returned (.tuple #[.int .i64 (max (sumV segs atts) 0),.bool (decide (0 ≤ sumV segs atts)),.int .i64 0]) ∧ Below w.heap.size w w':=by
 have HO:=Lib.hid hok
 have n1:=hok.n1
 have n2:=hok.n2
 clear hok
 go_enter Tryz.func43,Tryz.ntmps43
 go_wp2_with fail
 have hb0 : Below w.heap.size w (w.alloc (.cells #[.slice SA segs.length c,.slice TA atts.length d] 116)):=(Below.refl _ _).alloc (Nat.le_refl _) _
 have hk0 : Blk (w.alloc (.cells #[.slice SA segs.length c,.slice TA atts.length d] 116)) w.heap.size 116 #[.slice SA segs.length c,.slice TA atts.length d]:=Blk.new _ _ _
 have hh0:=hh.alloc (.cells #[.slice SA segs.length c,.slice TA atts.length d] 116)
 generalize w.alloc (.cells #[.slice SA segs.length c,.slice TA atts.length d] 116) = w0 at *
 refine (checkHistory_ok _ _ _ _ _ segs atts _ hh0 hc HO.out).mono ?_
 rintro e w1 ⟨rfl,hb1⟩
 have hh1:=hh0.below hb1
 have hk1:=hk0.below hb1
 have hx1:=hb0.trans (hb1.mono hb0.size)
 clear hb1 hb0 hh0 hk0 hh
 go_wp2_with fail
 refine (leasts_ok _ _ _ _ _ _ segs atts _ hk1 hh1 HO.out).mono ?_
 rintro e w2 ⟨g,c2,rfl,hg,hob,hb2⟩
 have hx2:=hx1.trans (hb2.mono hx1.size)
 have hll:=outL_len (lvV (stepsA atts) segs.length) (stepsA atts) segs.length
 have c0:=hob.cell 0 (by omega)
 rw [outL_at,outP_all (stepsA_fwd HO.out).1 (List.Perm.refl _) 0 (by omega)] at c0
 have HS : Hid (sumV segs atts = lvV (stepsA atts) segs.length 0):=Lib.hid rfl
 generalize lvV (stepsA atts) segs.length 0 = v at *
 have hgl:=hob.lt
 clear hb2 hx1 hh1 hk1 hob hll
 rcases Int.lt_or_le v 0 with h | h
 ·have q : decide (0 ≤ v) = false:=by simp; omega
  go_wp2_with fail
  go_ret3
  exact ⟨ret3v (by rw [HS.out]; rfl) (by rw [HS.out,q]; rfl) rfl,hx2⟩
 ·have q : decide (0 ≤ v) = true:=by simp; omega
  go_wp2_with fail
  go_ret3
  exact ⟨ret3v (by rw [HS.out]; rfl) (by rw [HS.out,q]; rfl) rfl,hx2⟩
end Go.Proofs.YtbfphnknkbhpkaaGreatDoor
/- The sum of best at the one history that the laws use as their last test. -/
namespace Go.Proofs.YtbfphnknkbhpkaaGreatDoor
set_option linter.unusedVariables false
set_option linter.unusedSimpArgs false
open Go.RowKit Go.Sort

def exSegs : List (List UInt8):=[[97],[98]]
def exAtts : List Att:=[(1,[10,25]),(2,[0,20]),(3,[9])]
theorem ex_spl1 : SplOk 2 [10,25]:=⟨by decide,by decide,by decide,by decide⟩
theorem ex_spl2 : SplOk 2 [0,20]:=⟨by decide,by decide,by decide,by decide⟩
theorem ex_spl3 : SplOk 2 [9]:=⟨by decide,by decide,by decide,by decide⟩
theorem ex_ok : HistOk exSegs exAtts:=by
 refine ⟨by decide,by decide,by decide,by decide,by decide,by decide,fun i h => (match i,h with | 0,_ => (by decide : (1 : Int) < 2) | 1,_ => (by decide : (2 : Int) < 3)),fun i h => ?_⟩
 match i,h with
 | 0,_ => exact ex_spl1
 | 1,_ => exact ex_spl2
 | 2,_ => exact ex_spl3
theorem ex_sum : sumV exSegs exAtts = 20:=by decide
theorem ex_hist {W : World} {a b c d e : Nat} (ha : Blk W a 9 #[.string ⟨#[97]⟩,.string ⟨#[98]⟩]) (hb : Blk W b 3 #[.int .i64 10,.int .i64 25]) (hc : Blk W c 3 #[.int .i64 0,.int .i64 20]) (hd : Blk W d 3 #[.int .i64 9])
  (he : Blk W e 113 #[.int .i64 1,.slice (some ⟨b,0,none⟩) 2 2,.int .i64 2,.slice (some ⟨c,0,none⟩) 2 2,.int .i64 3,.slice (some ⟨d,0,none⟩) 1 1]) : Hist W 0 (some ⟨a,0,none⟩) (some ⟨e,0,none⟩) exSegs exAtts:=by
 refine ⟨Row.lit (n:=2) (size:=1) ha (Nat.zero_le _) rfl,_,Row.lit (n:=3) (size:=2) he (Nat.zero_le _) rfl,fun i h => ?_⟩
 match i,h with
 | 0,_ => exact ⟨_,_,rfl,rfl,Row.lit (n:=2) (size:=1) hb (Nat.zero_le _) rfl⟩
 | 1,_ => exact ⟨_,_,rfl,rfl,Row.lit (n:=2) (size:=1) hc (Nat.zero_le _) rfl⟩
 | 2,_ => exact ⟨_,_,rfl,rfl,Row.lit (n:=1) (size:=1) hd (Nat.zero_le _) rfl⟩
theorem ex_sumOfBest {W : World} {a b c d e : Nat} (ha : Blk W a 9 #[.string ⟨#[97]⟩,.string ⟨#[98]⟩]) (hb : Blk W b 3 #[.int .i64 10,.int .i64 25]) (hc : Blk W c 3 #[.int .i64 0,.int .i64 20]) (hd : Blk W d 3 #[.int .i64 9])
  (he : Blk W e 113 #[.int .i64 1,.slice (some ⟨b,0,none⟩) 2 2,.int .i64 2,.slice (some ⟨c,0,none⟩) 2 2,.int .i64 3,.slice (some ⟨d,0,none⟩) 1 1]) :
  Calls Tryz.prog 43 #[.agg #[.slice (some ⟨a,0,none⟩) 2 2,.slice (some ⟨e,0,none⟩) 3 3]] W fun r w' => r = .returned (.tuple #[.int .i64 20,.bool true,.int .i64 0]) ∧ Below W.heap.size W w':=by
 have h:=sumOfBest_ok (some ⟨a,0,none⟩) (some ⟨e,0,none⟩) 2 3 0 exSegs exAtts W (ex_hist ha hb hc hd he) (by decide) ex_ok
 rw [ex_sum] at h
 exact h
end Go.Proofs.YtbfphnknkbhpkaaGreatDoor
