/- Texts of this seat, laid together: SgF. -/
import Derived.Test.YtijdbbnnkogkjaaGreatDoorBn11
/- The sum of best at the one history that the laws use as their last test. -/
namespace Go.Proofs.YtijdbbnnkogkjaaGreatDoor
set_option linter.unusedVariables false
set_option linter.unusedSimpArgs false
open Go.RowKit Go.Sort

def exSegs : List (List UInt8):=[[97],[98]]
def exAtts : List Att:=[(1,[10,25]),(2,[0,20]),(3,[9])]
theorem ex_spl1 : SplOk 2 [10,25]:=⟨by decide,by decide,by decide,by decide⟩
theorem ex_spl2 : SplOk 2 [0,20]:=⟨by decide,by decide,by decide,by decide⟩
theorem ex_spl3 : SplOk 2 [9]:=⟨by decide,by decide,by decide,by decide⟩
theorem ex_ok : HistOk exSegs exAtts:=by
 refine ⟨by decide,by decide,by decide,by decide,by decide,by decide,fun i h => (match i,h with | 0,_ => (by decide : (1 : Int) < 2) | 1,_ => (by decide : (2 : Int) < 3)),fun i h => ?_⟩
 match i,h with
 | 0,_ => exact ex_spl1
 | 1,_ => exact ex_spl2
 | 2,_ => exact ex_spl3
theorem ex_sum : sumV exSegs exAtts = 20:=by decide
theorem ex_hist {W : World} {a b c d e : Nat} (ha : Blk W a 9 #[.string ⟨#[97]⟩,.string ⟨#[98]⟩]) (hb : Blk W b 3 #[.int .i64 10,.int .i64 25]) (hc : Blk W c 3 #[.int .i64 0,.int .i64 20]) (hd : Blk W d 3 #[.int .i64 9])
  (he : Blk W e 132 #[.int .i64 1,.slice (some ⟨b,0,none⟩) 2 2,.int .i64 2,.slice (some ⟨c,0,none⟩) 2 2,.int .i64 3,.slice (some ⟨d,0,none⟩) 1 1]) : Hist W 0 (some ⟨a,0,none⟩) (some ⟨e,0,none⟩) exSegs exAtts:=by
 refine ⟨Row.lit (n:=2) (size:=1) ha (Nat.zero_le _) rfl,_,Row.lit (n:=3) (size:=2) he (Nat.zero_le _) rfl,fun i h => ?_⟩
 match i,h with
 | 0,_ => exact ⟨_,_,rfl,rfl,Row.lit (n:=2) (size:=1) hb (Nat.zero_le _) rfl⟩
 | 1,_ => exact ⟨_,_,rfl,rfl,Row.lit (n:=2) (size:=1) hc (Nat.zero_le _) rfl⟩
 | 2,_ => exact ⟨_,_,rfl,rfl,Row.lit (n:=1) (size:=1) hd (Nat.zero_le _) rfl⟩
theorem ex_sumOfBest {W : World} {a b c d e : Nat} (ha : Blk W a 9 #[.string ⟨#[97]⟩,.string ⟨#[98]⟩]) (hb : Blk W b 3 #[.int .i64 10,.int .i64 25]) (hc : Blk W c 3 #[.int .i64 0,.int .i64 20]) (hd : Blk W d 3 #[.int .i64 9])
  (he : Blk W e 132 #[.int .i64 1,.slice (some ⟨b,0,none⟩) 2 2,.int .i64 2,.slice (some ⟨c,0,none⟩) 2 2,.int .i64 3,.slice (some ⟨d,0,none⟩) 1 1]) :
  Calls Tryz.prog 84 #[.agg #[.slice (some ⟨a,0,none⟩) 2 2,.slice (some ⟨e,0,none⟩) 3 3]] W fun r w' => r = .returned (.tuple #[.int .i64 20,.bool true,.int .i64 0]) ∧ Below W.heap.size W w':=by
 have h:=sumOfBest_ok (some ⟨a,0,none⟩) (some ⟨e,0,none⟩) 2 3 0 exSegs exAtts W (ex_hist ha hb hc hd he) (by decide) ex_ok
 rw [ex_sum] at h
 exact h
end Go.Proofs.YtijdbbnnkogkjaaGreatDoor
