/- Texts of this seat, laid together: Nr. -/
import Derived.Test.YtijdbbnnkogkjaaGreatDoorBn19
import Derived.Test.YtijdbbnnkogkjaaGreatDoorBn21
import Derived.Test.YtijdbbnnkogkjaaGreatDoorBn22
import Derived.Test.YtijdbbnnkogkjaaGreatDoorBn38
import Derived.Test.YtijdbbnnkogkjaaGreatDoorBn11
/- Maps read of text, plain; base.ReadCommas, splitref1.uncommas. -/
namespace Go.Proofs.YtijdbbnnkogkjaaGreatDoor
set_option linter.unusedVariables false
set_option linter.unusedSimpArgs false
open Go.RowKit Go.Sort

def uncB (s : List UInt8) : Bool:=decide (s = [45]) || fullW (cutAt 44 s)
def uncL (s : List UInt8) : List (List UInt8):=if s = [45] then [] else cutAt 44 s
theorem uncL_len (s : List UInt8) : (uncL s).length ≤ s.count 44 + 1:=by
 unfold uncL
 by_cases h : s = [45]
 ·rw [if_pos h]; simp
 ·rw [if_neg h,cutAt_len]; exact Nat.le_refl _
theorem uncL_le (s : List UInt8) : ∀ x ∈ uncL s,x.length ≤ s.length:=by
 unfold uncL
 by_cases h : s = [45]
 ·rw [if_pos h]; simp
 ·rw [if_neg h]; exact cutAt_sum 44 s
def lwM (t : List UInt8) (k : Nat) : List (List UInt8):=cutAt 32 ((linesL t).getD k [])
theorem lwM_at {t : List UInt8} {k : Nat} (h : k < (linesL t).length) : lwM t k = cutAt 32 (linesL t)[k]:=by
 unfold lwM; rw [List.getD_eq_getElem?_getD,List.getElem?_eq_getElem h]; rfl
structure MpS where
  st : List UInt8
  gl : List UInt8
  rs : List RoomE
  ds : List DoorE
def MpS.no : MpS:=⟨[],[],[],[]⟩
def rmOf (ws : List (List UInt8)) : RoomE:=⟨ws.getD 1 [],uncL (ws.getD 2 []),none,0⟩
def drOf (ws : List (List UInt8)) : DoorE:=⟨ws.getD 1 [],ws.getD 2 [],ws.getD 3 [],numV (ws.getD 4 []) 9,uncL (ws.getD 5 []),uncL (ws.getD 6 []),if ws.getD 7 [] = [45] then [] else ws.getD 7 [],none,0,none,0⟩
def stepM (ws : List (List UInt8)) (s : MpS) : MpS :=
 if ws.getD 0 [] = mapW then ⟨ws.getD 1 [],ws.getD 2 [],s.rs,s.ds⟩ else if ws.getD 0 [] = roomW then ⟨s.st,s.gl,s.rs ++ [rmOf ws],s.ds⟩ else ⟨s.st,s.gl,s.rs,s.ds ++ [drOf ws]⟩
def mpR (t : List UInt8) : Nat → MpS
 | 0 => MpS.no
 | k + 1 => stepM (lwM t k) (mpR t k)
def mapB (ws : List (List UInt8)) : Bool:=decide (ws.getD 0 [] = mapW) && decide (ws.length = 3)
def roomB (ws : List (List UInt8)) (ds : List DoorE) : Bool:=decide (ws.getD 0 [] = roomW) && decide (ws.length = 3) && decide (ds.length = 0)
def doorB (ws : List (List UInt8)) : Bool:=decide (ws.getD 0 [] = doorW) && decide (ws.length = 8)
def okM (t : List UInt8) (k : Nat) : Bool :=
 fullW (lwM t k) && (decide ((lwM t k).getD 0 [] = mapW) == decide (k = 0)) &&
  (mapB (lwM t k) || (roomB (lwM t k) (mpR t k).ds && uncB ((lwM t k).getD 2 [])) ||
   (doorB (lwM t k) && (numB ((lwM t k).getD 4 []) 9 && uncB ((lwM t k).getD 5 []) && uncB ((lwM t k).getD 6 []))))
def readM (t : List UInt8) : MpS × Int × Int :=
 if 200000 < t.length then (MpS.no,0,2)
 else match stopL t (okM t) with
  | some i => (MpS.no,(i : Int),9)
  | none => if t = [] then (MpS.no,0,9)
   else if mapE (mpR t (linesL t).length).rs (mpR t (linesL t).length).ds (mpR t (linesL t).length).st (mpR t (linesL t).length).gl ≠ 0 then (MpS.no,0,mapE (mpR t (linesL t).length).rs (mpR t (linesL t).length).ds (mpR t (linesL t).length).st (mpR t (linesL t).length).gl)
   else (mpR t (linesL t).length,0,0)
def RoomE.er (r : RoomE) : RoomE:=⟨r.key,r.gives,none,0⟩
def DoorE.er (d : DoorE) : DoorE:=⟨d.key,d.src,d.dst,d.time,d.needs,d.takes,d.trick,none,0,none,0⟩
theorem getD_mapE {α : Type} (f : α → α) (l : List α) (i : Nat) (d : α) (hd : f d = d) : (l.map f).getD i d = f (l.getD i d):=by
 rw [List.getD_eq_getElem?_getD,List.getD_eq_getElem?_getD,List.getElem?_map]
 cases l[i]? with
 | none => exact hd.symm
 | some x => rfl
theorem roomAt_er (rs : List RoomE) : roomAt (rs.map RoomE.er) = roomAt rs:=by
 funext i
 unfold roomAt
 rw [getD_mapE RoomE.er rs i default rfl,getD_mapE RoomE.er rs (i - 1) default rfl]
 rfl
theorem roomsE_er (rs : List RoomE) : roomsE (rs.map RoomE.er) = roomsE rs:=by
 unfold roomsE; rw [roomAt_er,List.length_map]
theorem hasR_er (rs : List RoomE) (k : List UInt8) : hasR (rs.map RoomE.er) k = hasR rs k:=by
 unfold hasR; rw [List.any_map]; rfl
theorem doorAt_er (rs : List RoomE) (ds : List DoorE) : doorAt (rs.map RoomE.er) (ds.map DoorE.er) = doorAt rs ds:=by
 funext i
 unfold doorAt
 rw [getD_mapE DoorE.er ds i default rfl,getD_mapE DoorE.er ds (i - 1) default rfl]
 simp only [hasR_er]
 rfl
theorem doorsE_er (rs : List RoomE) (ds : List DoorE) : doorsE (rs.map RoomE.er) (ds.map DoorE.er) = doorsE rs ds:=by
 unfold doorsE; rw [doorAt_er,List.length_map]
theorem allT_er (rs : List RoomE) (ds : List DoorE) : allT (rs.map RoomE.er) (ds.map DoorE.er) = allT rs ds:=by
 unfold allT; rw [List.flatMap_map,List.flatMap_map]; rfl
theorem allK_er (ds : List DoorE) : allK (ds.map DoorE.er) = allK ds:=by
 unfold allK; rw [List.filter_map,List.map_map]; rfl
theorem mapE_er (rs : List RoomE) (ds : List DoorE) (st gl : List UInt8) : mapE (rs.map RoomE.er) (ds.map DoorE.er) st gl = mapE rs ds st gl:=by
 unfold mapE
 rw [roomsE_er,doorsE_er,hasR_er,hasR_er,allT_er,allK_er]
theorem own_ofBlk {w : World} {b base : Nat} {ss : List (List UInt8)} (h : Blk w b 9 (strs ss).toArray) (hb : base ≤ b) (hl : ss.length ≤ 1000000000) : w.ownsRow base 9 1 (.slice (some ⟨b,0,none⟩) ss.length ss.length) ss.length (strs ss) :=
 ⟨by rw [strs_len,Nat.mul_one],.inr ⟨b,ss.length,(strs ss).toArray,rfl,hb,h,Nat.le_refl _,by unfold maxLen; omega,by rw [List.size_toArray,strs_len,Nat.mul_one],by rw [List.toList_toArray,List.take_of_length_le (by rw [strs_len,Nat.mul_one]; exact Nat.le_refl _)]⟩⟩
def UncPost (w : World) (s : List UInt8) (e : Ending) (w' : World) : Prop:=∃ (A : Option Addr) (c : Nat) (l : List (List UInt8)),e = .returned (.tuple #[.slice A l.length c,.bool (uncB s)]) ∧ LstO w' w.heap.size (A,l,c) ∧ (uncB s = true → l = uncL s) ∧ l.length ≤ s.length + 1 ∧ Below w.heap.size w w'
theorem cut_few (c : UInt8) {s : List UInt8} (hs : s.length ≤ 1000000) : (cutAt c s).length ≤ 1000000000:=by
 rw [cutAt_len]; have:=List.count_le_length (a:=c) (l:=s); omega
theorem unc_dash (w : World) {s : List UInt8} (h : s = [45]) : UncPost w s (.returned (.tuple #[.slice none 0 0,.bool true])) w :=
 ⟨none,0,[],by unfold uncB; rw [decide_eq_true h]; rfl,World.ownsRow_nil _ _ _ _,fun _ => by unfold uncL; rw [if_pos h],by simp,Below.refl _ _⟩
theorem unc_no {w w' : World} {s : List UInt8} (h : s ≠ [45]) (hf : fullW (cutAt 44 s) = false) (hb : Below w.heap.size w w') : UncPost w s (.returned (.tuple #[.slice none 0 0,.bool false])) w':=by
 have e : uncB s = false:=by unfold uncB; rw [decide_eq_false h,hf]; rfl
 exact ⟨none,0,[],by rw [e]; rfl,World.ownsRow_nil _ _ _ _,(fun (h2 : uncB s = true) => absurd (e.symm.trans h2) (by decide)),by simp,hb⟩
theorem unc_any {w w' : World} {s : List UInt8} {b : Nat} {x : Bool} (h : s ≠ [45]) (hx : x = fullW (cutAt 44 s)) (hb : Below w.heap.size w w') (hl : w.heap.size ≤ b) (hk : Blk w' b 9 (strs (cutAt 44 s)).toArray) (hn : (cutAt 44 s).length ≤ 1000000000) : UncPost w s (.returned (.tuple #[.slice (some ⟨b,0,none⟩) (cutAt 44 s).length (cutAt 44 s).length,.bool x])) w':=by
 have e : uncB s = x:=by unfold uncB; rw [decide_eq_false h,hx]; rfl
 exact ⟨_,_,cutAt 44 s,by rw [e],own_ofBlk hk hl hn,fun _ => by unfold uncL; rw [if_neg h],by rw [cutAt_len]; have:=List.count_le_length (a:=(44 : UInt8)) (l:=s); omega,hb⟩
set_option maxHeartbeats 4000000 in
set_option maxRecDepth 100000 in
theorem readCommas_any (s : List UInt8) (w : World) (hs : s.length ≤ 1000000) (hE : Env w) :
  Calls Tryz.prog 119 #[encStr s] w (UncPost w s):=by
 have HD : Hid (s = [45] → UncPost w s (.returned (.tuple #[.slice none 0 0,.bool true])) w):=Lib.hid (unc_dash w)
 have HNO : Hid (∀ w',s ≠ [45] → fullW (cutAt 44 s) = false → Below w.heap.size w w' → UncPost w s (.returned (.tuple #[.slice none 0 0,.bool false])) w'):=Lib.hid (fun w' h1 h2 h3 => unc_no h1 h2 h3)
 have HYES : Hid (∀ w' b,s ≠ [45] → fullW (cutAt 44 s) = true → Below w.heap.size w w' → w.heap.size ≤ b → Blk w' b 9 (strs (cutAt 44 s)).toArray → UncPost w s (.returned (.tuple #[.slice (some ⟨b,0,none⟩) (cutAt 44 s).length (cutAt 44 s).length,.bool true])) w'):=Lib.hid (fun w' b h1 h2 h3 h4 h5 => unc_any h1 h2.symm h3 h4 h5 (cut_few 44 hs))
 generalize hP : UncPost w s = Post at *
 clear hP
 by_cases h0 : s = [45]
 ·have d0 : (s == [45]) = true:=beq_iff_eq.2 h0
  have HR:=Lib.hid (HD.out h0)
  clear h0
  go_enter Tryz.func119,Tryz.ntmps119
  go_wp2_with fail
  exact HR.out
 ·have d0 : (s == [45]) = false:=beq_eq_false_iff_ne.2 h0
  have HS0:=Lib.hid h0
  have hcl:=cutAt_len 44 s
  have hcc:=List.count_le_length (a:=(44 : UInt8)) (l:=s)
  have hsp:=split_any 44 s w (by omega) hE
  clear h0
  generalize hws : cutAt 44 s = ws at *
  have hwl : ws.length ≤ 1000001:=by omega
  clear hws hcl hcc
  go_enter Tryz.func119,Tryz.ntmps119
  go_wp2_with fail
  refine hsp.mono ?_
  clear hsp
  rintro e w1 ⟨b,rfl,hbb,hk,hb⟩
  have hr:=Blk.strRow (lo:=0) hk (Nat.zero_le _)
  have HK:=Lib.hid hk
  clear hk
  go_wp2_with fail
  go_loop [13] (fun i => ∃ k : Nat,k ≤ ws.length ∧ i = .int .i64 k ∧ Hid (∀ j (hj : j < ws.length),j < k → ws[j] ≠ [])) (fun i => ws.length - (intOf i).toNat)
  case atStart => exact ⟨0,Nat.zero_le _,rfl,Lib.hid (fun j _ h => absurd h (Nat.not_lt_zero _))⟩
  case round =>
   obtain ⟨k,hk,rfl,hno⟩:=hrel
   by_cases hlt : k < ws.length
   ·obtain ⟨b',off,he,_,hbs,hc⟩:=hr.str_at hlt
    injection he with he
    injection he with e1 e2
    subst e1 e2
    rw [Nat.zero_add] at hc
    by_cases hn : ws[k] = []
    ·have d1 : ws[k].isEmpty = true:=by rw [hn]; rfl
     have HR:=Lib.hid (HNO.out _ HS0.out (fullW_no hlt hn) hb)
     clear hn
     generalize ws[k] = x at *
     unfold encStr at hc
     go_wp2_with fail
     exact HR.out
    ·have d1 : ws[k].isEmpty = false:=str_nil_ne hn
     have HN2 : Hid (∀ j (hj : j < ws.length),j < k + 1 → ws[j] ≠ []):=Lib.hid (fun j hj h => by
      rcases Nat.lt_or_ge j k with h1 | h1
      ·exact hno.out j hj h1
      ·have : j = k:=by omega
       subst this; exact hn)
     clear hn hno
     generalize ws[k] = x at *
     unfold encStr at hc
     go_wp2_with fail
     go_round
     case rel => exact ⟨k + 1,by omega,by go_num,HN2⟩
     case measure => simp [intOf]; omega
   ·have hke : k = ws.length:=by omega
    subst hke
    have HR:=Lib.hid (HYES.out _ _ HS0.out (fullW_yes (fun j hj => hno.out j hj hj)) hb hbb HK.out)
    clear hno
    go_wp2_with fail
    exact HR.out
end Go.Proofs.YtijdbbnnkogkjaaGreatDoor
