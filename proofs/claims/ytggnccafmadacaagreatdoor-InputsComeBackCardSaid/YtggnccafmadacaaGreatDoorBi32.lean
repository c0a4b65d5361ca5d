/- Texts of this seat, laid together: Rd Re Rf Rg. -/
import Derived.Handy
import Derived.BigQuiet
import Derived.Test.YtggnccafmadacaaGreatDoorBi17
import Derived.Test.YtggnccafmadacaaGreatDoorBi18
import Derived.Test.YtggnccafmadacaaGreatDoorBi19
import Derived.Test.YtggnccafmadacaaGreatDoorBi31
import Derived.Test.YtggnccafmadacaaGreatDoorBi15
/- What is read of a history's text, line by line; the walk of segment.readAttempt. -/
namespace Go.Proofs.YtggnccafmadacaaGreatDoor
set_option linter.unusedVariables false
set_option linter.unusedSimpArgs false
open Go.RowKit Go.Sort

def spX (s : List UInt8) : Int:=if s = [45] then 0 else numV s 9
def spOK (s : List UInt8) : Bool:=decide (s = [45]) || (numB s 9 && decide (numV s 9 ≠ 0))
def attHd (ws : List (List UInt8)) : Bool:=decide (2 ≤ ws.length) && decide (ws.getD 0 [] = attW)
def attB (ws : List (List UInt8)) : Bool:=attHd ws && (numB (ws.getD 1 []) 9 && (ws.drop 2).all spOK)
def attR (ws : List (List UInt8)) : Att:=if attHd ws then (numV (ws.getD 1 []) 9,(ws.drop 2).map spX) else (0,[])
theorem spOK_dash : spOK [45] = true ∧ spX [45] = 0:=⟨by decide,by decide⟩
theorem spOK_num {s : List UInt8} (h : s ≠ [45]) : spOK s = (numB s 9 && decide (numV s 9 ≠ 0)) ∧ spX s = numV s 9:=by
 unfold spOK spX
 rw [decide_eq_false h,if_neg h]; exact ⟨rfl,rfl⟩
def okTo (ws : List (List UInt8)) (k : Nat) : Bool:=numB (ws.getD 1 []) 9 && ((ws.drop 2).take k).all spOK
theorem okTo_next {ws : List (List UInt8)} {k : Nat} (h : k < (ws.drop 2).length) : okTo ws (k + 1) = (okTo ws k && spOK (ws.drop 2)[k]):=by
 unfold okTo
 rw [List.take_succ_eq_append_getElem h,List.all_append]
 simp [Bool.and_assoc]
theorem okTo_all (ws : List (List UInt8)) : okTo ws (ws.drop 2).length = (numB (ws.getD 1 []) 9 && (ws.drop 2).all spOK):=by
 unfold okTo; rw [List.take_length]
theorem str_word_eq {x y : List UInt8} (h : x = y) : (x == y) = true:=by simpa using h
theorem str_word_ne {x y : List UInt8} (h : x ≠ y) : (x == y) = false:=by simpa using h
theorem numV_i64 (s : List UInt8) (m : Nat) (hm : m ≤ 17) : -100000000000000000 ≤ numV s m ∧ numV s m ≤ 100000000000000000:=by
 unfold numV
 cases h : numB s m
 ·simp
 ·rw [if_pos rfl]
  unfold numB at h
  simp only [Bool.and_eq_true,decide_eq_true_eq] at h
  have h1:=valD_lt (unsign s) h.1.1.1
  have h2 : 10 ^ (unsign s).length ≤ 10 ^ 17:=Nat.pow_le_pow_right (by decide) (by omega)
  have h3 : (10 : Nat) ^ 17 = 100000000000000000:=by decide
  unfold valS
  split <;> omega
def ReadAttPost (w : World) (ws : List (List UInt8)) (e : Ending) (w' : World) : Prop :=
 ∃ B c,e = .returned (.tuple #[.agg #[.int .i64 (attR ws).1,.slice B (attR ws).2.length c],.bool (attB ws)]) ∧ w'.ownsRow w.heap.size 3 1 (.slice B (attR ws).2.length c) (attR ws).2.length (ints (attR ws).2) ∧ Below w.heap.size w w'
set_option maxHeartbeats 4000000 in
set_option maxRecDepth 100000 in
theorem readAttempt_any (b : Nat) (ws : List (List UInt8)) (w : World) (hk : Blk w b 9 (strs ws).toArray) (hn : ws.length ≤ 1000001) (hl : ∀ x ∈ ws,x.length ≤ 1000000) :
  Calls Tryz.prog 101 #[.slice (some ⟨b,0,none⟩) ws.length ws.length] w (ReadAttPost w ws):=by
 have hr : Row w b 1 (some ⟨b,0,none⟩) ws.length (strs ws):=hk.strRow (Nat.le_refl _)
 have HL:=Lib.hid hl
 have hbz:=hk.lt
 clear hl
 have hc : ∀ k (h : k < ws.length),w.cell? ⟨b,k,none⟩ = some (encStr ws[k]):=by
  intro k h
  have:=hk.cell k
  rw [this]; simp [strs,h]
 have HC:=Lib.hid hc
 have BAD : Hid (attHd ws = false → ∀ w',Below w.heap.size w w' → ReadAttPost w ws (.returned (.tuple #[.agg #[.int .i64 0,.slice none 0 0],.bool false])) w'):=Lib.hid (fun h w' hb => by
  refine ⟨none,0,?_,?_,hb⟩
  ·unfold attR attB; rw [h]; rfl
  ·unfold attR; rw [h]; exact World.ownsRow_nil _ _ _ _)
 have GOOD : Hid (attHd ws = true → ∀ B c w',w'.ownsRow w.heap.size 3 1 (.slice B ((ws.drop 2).map spX).length c) ((ws.drop 2).map spX).length (ints ((ws.drop 2).map spX)) → Below w.heap.size w w' → ReadAttPost w ws (.returned (.tuple #[.agg #[.int .i64 (numV (ws.getD 1 []) 9),.slice B ((ws.drop 2).map spX).length c],.bool (okTo ws (ws.drop 2).length)])) w'):=Lib.hid (fun h B c w' ho hb => by
  have e : attR ws = (numV (ws.getD 1 []) 9,(ws.drop 2).map spX):=by unfold attR; rw [h]; rfl
  refine ⟨B,c,?_,?_,hb⟩
  ·rw [e,okTo_all]; unfold attB; rw [h]; rfl
  ·rw [e]; exact ho)
 clear hk hc
 generalize hP : ReadAttPost w ws = Post at *
 clear hP
 by_cases h2 : ws.length < 2
 ·have HB:=Lib.hid (show attHd ws = false by unfold attHd; rw [decide_eq_false (by omega)]; rfl)
  go_enter Tryz.func101,Tryz.ntmps101
  have d2 : decide ((ws.length : Int) < 2) = true:=by simp; omega
  clear h2
  go_wp2_with fail
  go_returns
  exact BAD.out HB.out _ ((Below.refl _ _).alloc (Nat.le_refl _) _)
 ·have d2 : decide ((ws.length : Int) < 2) = false:=by simp; omega
  have c0:=HC.out 0 (by omega)
  have c1:=HC.out 1 (by omega)
  have g0 : ws.getD 0 [] = ws[0]:=by rw [List.getD_eq_getElem?_getD,List.getElem?_eq_getElem (by omega)]; rfl
  have g1 : ws.getD 1 [] = ws[1]:=by rw [List.getD_eq_getElem?_getD,List.getElem?_eq_getElem (by omega)]; rfl
  have hl1:=HL.out ws[1] (List.getElem_mem _)
  generalize ws[0] = x0 at *
  generalize ws[1] = x1 at *
  by_cases h0 : x0 = attW
  ·have HB:=Lib.hid (show attHd ws = true by unfold attHd; rw [decide_eq_true (by omega),g0,decide_eq_true h0]; rfl)
   subst h0
   have e0 : (attW == [97,116,116,101,109,112,116]) = true:=by decide
   have e0' : (attW != [97,116,116,101,109,112,116]) = false:=by decide
   have hno:=numV_i64 x1 9 (by decide)
   have HNO : Hid (numV (ws.getD 1 []) 9 = numV x1 9 ∧ okTo ws 0 = numB x1 9):=Lib.hid ⟨by rw [g1],by unfold okTo; rw [g1]; simp⟩
   have HG:=Lib.hid (GOOD.out HB.out)
   have HNX : Hid (∀ k (h : k < (ws.drop 2).length),okTo ws (k + 1) = (okTo ws k && spOK (ws.drop 2)[k])):=Lib.hid (fun k h => okTo_next h)
   have HRS : Hid (∀ k (h : k < (ws.drop 2).length),(ws.drop 2)[k].length ≤ 1000000 ∧ w.cell? ⟨b,2 + k,none⟩ = some (encStr (ws.drop 2)[k])):=Lib.hid (fun k h => by
    have hk : 2 + k < ws.length:=by rw [List.length_drop] at h; omega
    rw [List.getElem_drop]
    exact ⟨HL.out _ (List.getElem_mem _),HC.out (2 + k) hk⟩)
   have hrl : (ws.drop 2).length = ws.length - 2:=List.length_drop
   clear BAD GOOD g0 g1
   generalize ws.drop 2 = rest at *
   by_cases hw2 : ws.length = 2
   ·have hr0 : rest = []:=List.eq_nil_of_length_eq_zero (by omega)
    subst hr0
    clear HNX HRS hrl d2
    go_enter Tryz.func101,Tryz.ntmps101
    go_wp2_with fail
    have hA : Blk (w.alloc (.cells #[.int .i64 0,.slice none 0 0] 62)) w.heap.size 62 #[.int .i64 0,.slice none 0 0]:=Blk.new _ _ _
    have hx : Below w.heap.size w (w.alloc (.cells #[.int .i64 0,.slice none 0 0] 62)):=(Below.refl _ _).alloc (Nat.le_refl _) _
    have hw0 : (w.alloc (.cells #[.int .i64 0,.slice none 0 0] 62)).heap.size = w.heap.size + 1:=by simp
    generalize w.alloc (.cells #[.int .i64 0,.slice none 0 0] 62) = w0 at *
    refine (number_any x1 9 _ (by omega) (by omega)).mono ?_
    rintro e w1 ⟨rfl,hb⟩
    have hA:=hA.below hb
    have hx:=below_up hx hb
    have hba : w.heap.size < w1.heap.size:=by have:=hb.size; omega
    have hOK:=HNO.out.2
    have HOK:=Lib.hid hOK
    have HNV:=Lib.hid HNO.out.1
    clear hb hw0 hOK HNO
    generalize numV x1 9 = no at *
    generalize numB x1 9 = ok0 at *
    go_wp2_with fail
    have hB : Blk (w1.alloc (.cells #[.int .i64 no,.slice none 0 0] 62)) w1.heap.size 62 #[.int .i64 no,.slice none 0 0]:=Blk.new _ _ _
    have hA:=hA.alloc (.cells #[.int .i64 no,.slice none 0 0] 62)
    have hx:=below_up hx ((Below.refl _ _).alloc (Nat.le_refl _) (.cells #[.int .i64 no,.slice none 0 0] 62))
    generalize w1.alloc (.cells #[.int .i64 no,.slice none 0 0] 62) = w2 at *
    generalize w1.heap.size = ba at *
    go_loopw [5,34] (fun o i wr => o = .bool (okTo ws 0) ∧ i = .int .i64 0 ∧ Blk wr w.heap.size 62 #[.int .i64 0,.slice none 0 0] ∧ Blk wr ba 62 #[.int .i64 no,.slice none 0 0] ∧ Below w.heap.size w wr) (fun _ _ _ => 0)
    case atStart => exact ⟨by rw [HOK.out],rfl,hA,hB,hx⟩
    case round =>
     clear hA hB hx
     obtain ⟨rfl,rfl,hA,hB,hx⟩:=hrel
     obtain ⟨q0,q1⟩:=hA.two_
     obtain ⟨r0,r1⟩:=hB.two_
     have qz:=hA.lt
     have rz:=hB.lt
     have qf0:=hA.thaw 0
     have qf1:=hA.thaw 1
     obtain ⟨z0,z1,z2⟩:=hA.two2 (.int .i64 no) (.slice none 0 0)
     generalize okTo ws 0 = ok at *
     go_wp2_with fail
     refine bodyPost_ret (v:=.tuple #[.agg #[.int .i64 no,.slice none 0 0],.bool ok]) (by simp [results,Tryz.results101,go_sem,z0,z1,z2]) rfl ?_
     have hfin:=HG.out none 0 _ (World.ownsRow_nil _ _ _ _) (Below.setCell (p:=⟨w.heap.size,1,none⟩) (Below.setCell (p:=⟨w.heap.size,0,none⟩) hx (Nat.le_refl _) (.int .i64 no)) (Nat.le_refl _) (.slice none 0 0))
     rw [HNV.out] at hfin
     exact hfin
   ·have hw3 : 2 < ws.length:=by omega
    go_enter Tryz.func101,Tryz.ntmps101
    go_wp2_with fail
    have hA : Blk (w.alloc (.cells #[.int .i64 0,.slice none 0 0] 62)) w.heap.size 62 #[.int .i64 0,.slice none 0 0]:=Blk.new _ _ _
    have hx : Below w.heap.size w (w.alloc (.cells #[.int .i64 0,.slice none 0 0] 62)):=(Below.refl _ _).alloc (Nat.le_refl _) _
    have hw0 : (w.alloc (.cells #[.int .i64 0,.slice none 0 0] 62)).heap.size = w.heap.size + 1:=by simp
    generalize w.alloc (.cells #[.int .i64 0,.slice none 0 0] 62) = w0 at *
    refine (number_any x1 9 _ (by omega) (by omega)).mono ?_
    rintro e w1 ⟨rfl,hb⟩
    have hA:=hA.below hb
    have hx:=below_up hx hb
    have hba : w.heap.size < w1.heap.size:=by have:=hb.size; omega
    have hOK:=HNO.out.2
    have HOK:=Lib.hid hOK
    have HNV:=Lib.hid HNO.out.1
    clear hb hw0 hOK HNO
    generalize numV x1 9 = no at *
    generalize numB x1 9 = ok0 at *
    go_wp2_with fail
    have hB : Blk (w1.alloc (.cells #[.int .i64 no,.slice none 0 0] 62)) w1.heap.size 62 #[.int .i64 no,.slice none 0 0]:=Blk.new _ _ _
    have hA:=hA.alloc (.cells #[.int .i64 no,.slice none 0 0] 62)
    have hx:=below_up hx ((Below.refl _ _).alloc (Nat.le_refl _) (.cells #[.int .i64 no,.slice none 0 0] 62))
    generalize w1.alloc (.cells #[.int .i64 no,.slice none 0 0] 62) = w2 at *
    generalize w1.heap.size = ba at *
    go_loopw [5,34] (fun o i wr => ∃ (k : Nat) (B : Option Addr) (c : Nat) (l : List Int),k ≤ rest.length ∧ l.length = k ∧ Hid (l = (rest.take k).map spX) ∧ o = .bool (okTo ws k) ∧ i = .int .i64 k ∧ Blk wr w.heap.size 62 #[.int .i64 0,.slice none 0 0] ∧ Blk wr ba 62 #[.int .i64 no,.slice B l.length c] ∧ wr.ownsRow w.heap.size 3 1 (.slice B l.length c) l.length (ints l) ∧ Below w.heap.size w wr) (fun _ i _ => rest.length - (intOf i).toNat)
    case atStart => exact ⟨0,none,0,[],Nat.zero_le _,rfl,Lib.hid rfl,by rw [HOK.out],rfl,hA,hB,World.ownsRow_nil _ _ _ _,hx⟩
    case round =>
     clear hA hB hx
     obtain ⟨k,B,c,l,hk,hlk,HLK,rfl,rfl,hA,hB,hown,hx⟩:=hrel
     have hzw:=hx.size
     by_cases hlt : k < rest.length
     ·obtain ⟨hsl,hcell⟩:=HRS.out k hlt
      have hcell:=(hx.cell (p:=⟨b,2 + k,none⟩) hbz).trans hcell
      have hbw : b < wr.heap.size:=by omega
      have HN1:=Lib.hid (HNX.out k hlt)
      have HTK : Hid ((rest.take (k + 1)).map spX = (rest.take k).map spX ++ [spX rest[k]]):=Lib.hid (by rw [List.take_succ_eq_append_getElem hlt,List.map_append]; rfl)
      generalize rest[k] = s at *
      generalize okTo ws k = okk at *
      have HLEQ:=Lib.hid hlk
      have hll : l.length ≤ 1000001:=by omega
      clear hlk
      by_cases hs : s = [45]
      ·subst hs
       have HD : Hid (spOK [45] = true ∧ spX [45] = 0):=Lib.hid spOK_dash
       obtain ⟨r0,r1⟩:=hB.two_
       have rz:=hB.lt
       have rf:=hB.thaw 1
       cases okk
       all_goals
        go_wp2_with (at_builtin; go_must (refine wpList_app (lo:=w.heap.size) (base:=w.heap.size) (n:=l.length) (xs:=ints l) _ _ rfl _ _ ty_ints rfl (by repeat (first | exact hown | refine World.ownsRow.alloc ?_ _ | refine own_drewN ?_ _ | refine World.ownsRow.drew ?_)) rfl (by first | exact row_new' _ (by first | rfl | simp) (by first | omega | (simp; omega)) rfl | exact row_newN _ _ (by first | rfl | simp) (by first | omega | (simp; omega)) rfl | exact row_newD _ (by first | rfl | simp) (by first | omega | (simp; omega)) rfl) rfl rfl (by first | omega | decide) (by first | omega | decide) (by first | omega | (simp; omega)) ?_))
        intro A5 c5 w5 hown5 hg5 _
        have hA5:=(hA.alloc (.cells #[.int .i64 0] 3)).otherOf hg5 (own_kindOf (hown.alloc (.cells #[.int .i64 0] 3))) (by decide)
        have hB5:=(hB.alloc (.cells #[.int .i64 0] 3)).otherOf hg5 (own_kindOf (hown.alloc (.cells #[.int .i64 0] 3))) (by decide)
        have hx5 : Below w.heap.size w w5:=below_app (hown.alloc (.cells #[.int .i64 0] 3)) (hx.alloc hzw _) hg5 (Nat.le_refl _) (by simp; omega)
        clear r0 r1 rz rf
        obtain ⟨r0,r1⟩:=hB5.two_
        have rz:=hB5.lt
        have rf:=hB5.thaw 1
        go_wp2_with fail
        go_roundw
        case rel =>
         refine ⟨k + 1,A5,c5,l ++ [0],by omega,by rw [List.length_append,HLEQ.out]; rfl,Lib.hid (by rw [HTK.out,HLK.out,HD.out.2]),by rw [HN1.out,HD.out.1]; rfl,by go_num,?_,?_,?_,?_⟩
         ·exact hA5.past ba 1 _ (by omega)
         ·have:=hB5.poke 1 (.slice A5 (l.length + 1) c5)
          rw [List.length_append]; simpa using this
         ·have:=own_past hown5 hB5 (by decide) 1 (.slice A5 (l.length + 1) c5)
          rw [ints_app,List.length_append]; exact this
         ·exact Below.setCell (p:=⟨ba,1,none⟩) hx5 (by show w.heap.size ≤ ba; omega) _
        case measure => simp [intOf]; omega
      ·have e1 : (s == [45]) = false:=str_word_ne hs
       have HSP:=Lib.hid (spOK_num hs)
       clear hs
       go_wp2_with fail
       refine (number_any s 9 _ (by omega) (by omega)).mono ?_
       rintro e w3 ⟨rfl,hb⟩
       have hA:=hA.below hb
       have hB:=hB.below hb
       have hown:=own_keep hown hb
       have hx:=below_up hx hb
       have hzw:=hx.size
       clear hb hcell
       have hm:=numV_i64 s 9 (by decide)
       obtain ⟨bm,hbm⟩ : ∃ bm,(numV s 9 != 0) = bm:=⟨_,rfl⟩
       have HBM : Hid (decide (numV s 9 ≠ 0) = bm):=Lib.hid (by rw [← hbm,Bool.eq_iff_iff]; simp)
       generalize numV s 9 = m at *
       generalize numB s 9 = is at *
       obtain ⟨r0,r1⟩:=hB.two_
       have rz:=hB.lt
       have rf:=hB.thaw 1
       cases okk <;> cases is <;> cases bm
       all_goals
        go_wp2_with (at_builtin; go_must (refine wpList_app (lo:=w.heap.size) (base:=w.heap.size) (n:=l.length) (xs:=ints l) _ _ rfl _ _ ty_ints rfl (by repeat (first | exact hown | refine World.ownsRow.alloc ?_ _ | refine own_drewN ?_ _ | refine World.ownsRow.drew ?_)) rfl (by first | exact row_new' _ (by first | rfl | simp) (by first | omega | (simp; omega)) rfl | exact row_newN _ _ (by first | rfl | simp) (by first | omega | (simp; omega)) rfl | exact row_newD _ (by first | rfl | simp) (by first | omega | (simp; omega)) rfl) rfl rfl (by first | omega | decide) (by first | omega | decide) (by first | omega | (simp; omega)) ?_))
        intro A5 c5 w5 hown5 hg5 _
        have hA5:=(hA.alloc (.cells #[.int .i64 m] 3)).otherOf hg5 (own_kindOf (hown.alloc (.cells #[.int .i64 m] 3))) (by decide)
        have hB5:=(hB.alloc (.cells #[.int .i64 m] 3)).otherOf hg5 (own_kindOf (hown.alloc (.cells #[.int .i64 m] 3))) (by decide)
        have hx5 : Below w.heap.size w w5:=below_app (hown.alloc (.cells #[.int .i64 m] 3)) (hx.alloc hzw _) hg5 (Nat.le_refl _) (by simp; omega)
        clear r0 r1 rz rf
        obtain ⟨r0,r1⟩:=hB5.two_
        have rz:=hB5.lt
        have rf:=hB5.thaw 1
        go_wp2_with fail
        go_roundw
        case rel =>
         refine ⟨k + 1,A5,c5,l ++ [m],by omega,by rw [List.length_append,HLEQ.out]; rfl,Lib.hid (by rw [HTK.out,HLK.out,HSP.out.2]),by rw [HN1.out,HSP.out.1,HBM.out]; rfl,by go_num,?_,?_,?_,?_⟩
         ·exact hA5.past ba 1 _ (by omega)
         ·have:=hB5.poke 1 (.slice A5 (l.length + 1) c5)
          rw [List.length_append]; simpa using this
         ·have:=own_past hown5 hB5 (by decide) 1 (.slice A5 (l.length + 1) c5)
          rw [ints_app,List.length_append]; exact this
         ·exact Below.setCell (p:=⟨ba,1,none⟩) hx5 (by show w.heap.size ≤ ba; omega) _
        case measure => simp [intOf]; omega
     ·have hkk : k = rest.length:=by omega
      subst hkk
      have HLF : Hid (l = rest.map spX):=Lib.hid (by rw [HLK.out,List.take_length])
      have HLEN : Hid ((rest.map spX) = l):=Lib.hid HLF.out.symm
      clear HLK hlk
      obtain ⟨q0,q1⟩:=hA.two_
      obtain ⟨r0,r1⟩:=hB.two_
      have qz:=hA.lt
      have rz:=hB.lt
      have qf0:=hA.thaw 0
      have qf1:=hA.thaw 1
      obtain ⟨z0,z1,z2⟩:=hA.two2 (.int .i64 no) (.slice B l.length c)
      generalize okTo ws rest.length = ok at *
      go_wp2_with fail
      refine bodyPost_ret (v:=.tuple #[.agg #[.int .i64 no,.slice B l.length c],.bool ok]) (by simp [results,Tryz.results101,go_sem,z0,z1,z2]) rfl ?_
      have hfin:=HG.out B c _ (by rw [HLEN.out]; exact own_past (own_past hown hA (by decide) 0 (.int .i64 no)) (hA.poke 0 (.int .i64 no)) (by decide) 1 (.slice B l.length c)) (Below.setCell (p:=⟨w.heap.size,1,none⟩) (Below.setCell (p:=⟨w.heap.size,0,none⟩) hx (Nat.le_refl _) (.int .i64 no)) (Nat.le_refl _) (.slice B l.length c))
      rw [HNV.out,HLEN.out] at hfin
      exact hfin
  ·have HB:=Lib.hid (show attHd ws = false by unfold attHd; rw [g0,decide_eq_false h0,Bool.and_false])
   have e0:=str_word_ne h0
   have e0' : (x0 != attW) = true:=by simpa using h0
   unfold attW at e0 e0'
   go_enter Tryz.func101,Tryz.ntmps101
   go_wp2_with fail
   go_returns
   exact BAD.out HB.out _ ((Below.refl _ _).alloc (Nat.le_refl _) _)
end Go.Proofs.YtggnccafmadacaaGreatDoor
/- The closure of segment.Read: what a line does to the history that is read. -/
namespace Go.Proofs.YtggnccafmadacaaGreatDoor
set_option linter.unusedVariables false
set_option linter.unusedSimpArgs false
open Go.RowKit Go.Sort

def wordsT (t : List UInt8) (k : Nat) : List (List UInt8):=cutAt 32 ((linesL t).getD k [])
def segsT (t : List UInt8) (k : Nat) : List (List UInt8):=if k = 0 then [] else (wordsT t 0).drop 1
def attsR (t : List UInt8) (k : Nat) : List Att:=(List.range (k - 1)).map fun j => attR (wordsT t (j + 1))
def okH (t : List UInt8) (k : Nat) : Bool:=fullW (wordsT t k) && (if k = 0 then decide ((wordsT t k).getD 0 [] = segW) else attB (wordsT t k))
theorem wordsT_at {t : List UInt8} {k : Nat} (h : k < (linesL t).length) : wordsT t k = cutAt 32 (linesL t)[k]:=by
 unfold wordsT; rw [List.getD_eq_getElem?_getD,List.getElem?_eq_getElem h]; rfl
theorem attsR_next (t : List UInt8) (k : Nat) (h : 0 < k) : attsR t (k + 1) = attsR t k ++ [attR (wordsT t k)]:=by
 obtain ⟨m,rfl⟩ : ∃ m,k = m + 1:=⟨k - 1,by omega⟩
 simp [attsR,List.range_succ]
theorem attsR_len (t : List UInt8) (k : Nat) : (attsR t k).length = k - 1:=by simp [attsR]
structure HRd (t : List UInt8) (L k b : Nat) (W : World) : Prop where
  lt : b < L
  has : ∃ (SA TA : Option Addr) (sc td : Nat) (zs : List AttE), Blk W b 56 #[.slice SA (segsT t k).length sc, .slice TA zs.length td] ∧ OAtts W L TA td zs ∧ attE zs = attsR t k ∧
    ((k = 0 ∨ (segsT t k).length = 0) ∨ ∃ b', L ≤ b' ∧ SA = some ⟨b', 1, none⟩ ∧ Blk W b' 9 (strs (wordsT t 0)).toArray) ∧ (segsT t k).length ≤ sc
theorem HRd.below {t : List UInt8} {L k b : Nat} {W W' : World} (h : HRd t L k b W) (hb : Below W.heap.size W W') : HRd t L k b W':=by
 obtain ⟨h0,SA,TA,sc,td,zs,h1,h2,h3,h4,h5⟩:=h
 exact ⟨h0,SA,TA,sc,td,zs,h1.below hb,h2.below hb,h3,h4.imp id (fun ⟨b',e1,e2,e3⟩ => ⟨b',e1,e2,e3.below hb⟩),h5⟩
theorem HRd.aside {t : List UInt8} {L k b g i : Nat} {W : World} (h : HRd t L k b W) (hg : g < L) (hne : g ≠ b) (u : Value) : HRd t L k b (W.setCell ⟨g,i,none⟩ u):=by
 obtain ⟨h0,SA,TA,sc,td,zs,h1,h2,h3,h4,h5⟩:=h
 have p:=grown_pokeOf W g i u
 exact ⟨h0,SA,TA,sc,td,zs,h1.past g i u (fun e => hne e.symm),⟨own_grown h2.row p hg,fun x hx => own_grown (h2.spl x hx) p hg⟩,h3,h4.imp id (fun ⟨b',e1,e2,e3⟩ => ⟨b',e1,e2,e3.past g i u (by omega)⟩),h5⟩
theorem HRd.start {t : List UInt8} {L b : Nat} {W : World} (h : Blk W b 56 #[.slice none 0 0,.slice none 0 0]) (hb : b < L) : HRd t L 0 b W :=
 ⟨hb,none,none,0,0,[],h,OAtts.nil _ _,by simp [attE,attsR],.inl (.inl rfl),Nat.le_refl _⟩
theorem HRd.first {t : List UInt8} {L b b' : Nat} {W : World} (h : HRd t L 0 b W) (hb : L ≤ b') (hk : Blk W b' 9 (strs (wordsT t 0)).toArray) {SA : Option Addr} {sc : Nat} (hS : (wordsT t 0).length - 1 = 0 ∨ SA = some ⟨b',1,none⟩) (hc : (wordsT t 0).length - 1 ≤ sc) :
  HRd t L 1 b (W.setCell ⟨b,0,none⟩ (.slice SA ((wordsT t 0).length - 1) sc)):=by
 obtain ⟨h0,SA0,TA,sc0,td,zs,h1,h2,h3,h4,h5⟩:=h
 have e : (segsT t 1).length = (wordsT t 0).length - 1:=by unfold segsT; rw [if_neg (by decide),List.length_drop]
 have hz : zs = []:=by
  have:=congrArg List.length h3
  rw [attE_len,attsR_len] at this
  exact List.eq_nil_of_length_eq_zero this
 subst hz
 refine ⟨h0,SA,TA,sc,td,[],?_,?_,by simp [attE,attsR],?_,by rw [e]; exact hc⟩
 ·have:=h1.poke 0 (.slice SA ((wordsT t 0).length - 1) sc)
  rw [e]; simpa using this
 ·have p:=grown_pokeOf W b 0 (.slice SA ((wordsT t 0).length - 1) sc)
  exact h2.other p h1.kindOf (by decide) (by decide)
 ·rcases hS with hS | hS
  ·exact .inl (.inr (by rw [e]; exact hS))
  ·exact .inr ⟨b',hb,hS,hk.past b 0 _ (by omega)⟩
theorem HRd.push {t : List UInt8} {L k b : Nat} {W W' : World} {SA TA : Option Addr} {sc td : Nat} {zs : List AttE} (hk : 0 < k) (hb : b < L)
  (h1 : Blk W b 56 #[.slice SA (segsT t k).length sc,.slice TA zs.length td]) (h2 : OAtts W L TA td zs) (h3 : attE zs = attsR t k)
  (h4 : (k = 0 ∨ (segsT t k).length = 0) ∨ ∃ b',L ≤ b' ∧ SA = some ⟨b',1,none⟩ ∧ Blk W b' 9 (strs (wordsT t 0)).toArray) (h5 : (segsT t k).length ≤ sc)
  (hg : W.grownBy W' (Value.slice TA zs.length td).ownBlock) {x : AttE} (ho : W.ownsRow L 3 1 (.slice x.2.1 x.1.2.length x.2.2) x.1.2.length (ints x.1.2)) (hx : x.1 = attR (wordsT t k))
  {A5 : Option Addr} {d5 : Nat} (hw : W'.ownsRow L 62 2 (.slice A5 (zs.length + 1) d5) (zs.length + 1) (zs.flatMap encE ++ encE x)) :
  HRd t L (k + 1) b (W'.setCell ⟨b,1,none⟩ (.slice A5 (zs.length + 1) d5)):=by
 have hkd:=own_kindOf h2.row
 have b1:=h1.otherOf hg hkd (by decide)
 have e : segsT t (k + 1) = segsT t k:=by unfold segsT; rw [if_neg (by omega),if_neg (by omega)]
 have p:=grown_pokeOf W' b 1 (.slice A5 (zs.length + 1) d5)
 refine ⟨hb,SA,A5,sc,d5,zs ++ [x],?_,?_,?_,?_,by rw [e]; exact h5⟩
 ·have:=b1.poke 1 (.slice A5 (zs.length + 1) d5)
  rw [e,List.length_append]; simpa using this
 ·exact (h2.push hg ho hw).other p b1.kindOf (by decide) (by decide)
 ·rw [attE_app,h3,attsR_next t k hk]
  simp [attE,hx]
 ·rw [e]
  rcases h4 with h4 | ⟨b',e1,e2,e3⟩
  ·exact .inl (.inr (h4.resolve_left (by omega)))
  ·exact .inr ⟨b',e1,e2,(e3.otherOf hg hkd (by decide)).past b 1 _ (by omega)⟩
def RPr (t : List UInt8) (b1 b2 L k : Nat) (W : World) : Prop:=Blk W b1 3 #[.int .i64 k] ∧ b1 < L ∧ b1 ≠ b2 ∧ HRd t L k b2 W
def RRf (t : List UInt8) (b1 b2 L k : Nat) (W : World) : Prop:=Blk W b1 4 #[.bool (decide (k = 0))] ∧ b1 < L ∧ b1 ≠ b2 ∧ HRd t L k b2 W
end Go.Proofs.YtggnccafmadacaaGreatDoor
/- The walk of segment.Read's closure. -/
namespace Go.Proofs.YtggnccafmadacaaGreatDoor
set_option linter.unusedVariables false
set_option linter.unusedSimpArgs false
open Go.RowKit Go.Sort

theorem attB_head {ws : List (List UInt8)} (h : ws.getD 0 [] = segW) : attB ws = false:=by
 unfold attB attHd
 rw [h,decide_eq_false (show ¬ segW = attW by decide),Bool.and_false]; rfl
theorem okH_zero {t : List UInt8} {k : Nat} (h : k = 0) : okH t k = (fullW (wordsT t k) && decide ((wordsT t k).getD 0 [] = segW)):=by unfold okH; rw [if_pos h]
theorem okH_pos {t : List UInt8} {k : Nat} (h : k ≠ 0) : okH t k = (fullW (wordsT t k) && attB (wordsT t k)):=by unfold okH; rw [if_neg h]
theorem wordsB_full (s : List UInt8) : wordsB s (s.count 32 + 1) = fullW (cutAt 32 s):=by
 unfold wordsB; rw [cutAt_len,decide_eq_true rfl]; rfl
def LinePost (t : List UInt8) (b1 b2 L k : Nat) (W : World) (R : Nat → Nat → World → Prop) (e : Ending) (W' : World) : Prop :=
 e = .returned (.bool (okH t k)) ∧ Stays L [b1,b2] W W' ∧ (okH t k = true → R L (k + 1) W')
set_option maxHeartbeats 4000000 in
set_option maxRecDepth 100000 in
theorem readCl_any (t : List UInt8) (b1 b2 B L k : Nat) (W : World) (ht : t.length ≤ 1000000) (hk : k < (linesL t).length) (hL : L ≤ W.heap.size) (hE : EnvB B W) (hB1 : B ≤ b1) (hBL : B ≤ L) (h : RPr t b1 b2 L k W) :
  Calls Tryz.prog 99 #[encStr (linesL t)[k],.pointer (some ⟨b1,0,none⟩),.pointer (some ⟨b2,0,none⟩)] W (LinePost t b1 b2 L k W (RPr t b1 b2)):=by
 obtain ⟨hbx,hb1L,hne,hH⟩:=h
 have hkn : k ≤ 1000001:=by have:=(linesL_le t).1; omega
 have hsl : (linesL t)[k].length ≤ 1000000:=by have:=(linesL_le t).2 _ (List.getElem_mem hk); omega
 have HWT:=Lib.hid (wordsT_at hk)
 have hcl:=cutAt_len 32 (linesL t)[k]
 have hcc:=List.count_le_length (a:=(32 : UInt8)) (l:=(linesL t)[k])
 have HWL : Hid (∀ x ∈ wordsT t k,x.length ≤ 1000000):=Lib.hid (fun x hx => by
  rw [HWT.out] at hx
  have:=cutAt_sum 32 _ x hx; omega)
 have HNE : Hid (wordsT t k ≠ []):=Lib.hid (by rw [HWT.out]; exact cutAt_ne _ _)
 have hwn : (wordsT t k).length ≤ 1000001:=by rw [HWT.out]; omega
 have BAD : Hid (∀ W',Stays L [b1,b2] W W' → okH t k = false → LinePost t b1 b2 L k W (RPr t b1 b2) (.returned (.bool false)) W'):=Lib.hid (fun W' h1 h2 => ⟨by rw [h2],h1,fun h => by rw [h2] at h; cases h⟩)
 have GOOD : Hid (∀ ok W',Stays L [b1,b2] W W' → okH t k = ok → (ok = true → RPr t b1 b2 L (k + 1) W') → LinePost t b1 b2 L k W (RPr t b1 b2) (.returned (.bool ok)) W'):=Lib.hid (fun ok W' h1 h2 h3 => ⟨by rw [h2],h1,fun h => h3 (by rw [← h2]; exact h)⟩)
 have HFW : Hid (wordsB (linesL t)[k] ((linesL t)[k].count 32 + 1) = fullW (wordsT t k)):=Lib.hid (by rw [wordsB_full,HWT.out])
 have HCW : Hid (cutAt 32 (linesL t)[k] = wordsT t k):=Lib.hid HWT.out.symm
 clear hcl
 generalize hP : LinePost t b1 b2 L k W (RPr t b1 b2) = Post at *
 clear hP
 generalize (linesL t)[k] = s at *
 have c0 : W.cell? ⟨b1,0,none⟩ = some (.int .i64 k):=by simpa using hbx.cell 0
 have cz:=hbx.lt
 have cf:=hbx.thaw 0
 go_enter Tryz.func99,Tryz.ntmps99
 go_upto_region 2 with (fail)
 have hst : Stays L [b1,b2] W (W.setCell ⟨b1,0,none⟩ (.int .i64 ((k : Int) + 1))):=(Stays.refl _ _ _).set (.inl (by simp)) _
 have hbx1 : Blk (W.setCell ⟨b1,0,none⟩ (.int .i64 ((k : Int) + 1))) b1 3 #[.int .i64 ((k + 1 : Nat) : Int)]:=by
  have:=hbx.poke 0 (.int .i64 ((k : Int) + 1))
  simpa using this
 have hH1:=hH.aside (i:=0) hb1L hne (.int .i64 ((k : Int) + 1))
 have hE1:=hE.below ((Below.refl B W).setCell (p:=⟨b1,0,none⟩) hB1 (.int .i64 ((k : Int) + 1)))
 have hz1 : L ≤ (W.setCell ⟨b1,0,none⟩ (.int .i64 ((k : Int) + 1))).heap.size:=by simpa [World.setCell] using hL
 clear c0 cz cf hbx hH hE
 generalize W.setCell ⟨b1,0,none⟩ (.int .i64 ((k : Int) + 1)) = W1 at *
 go_wp2_with fail
 refine (Tryz.strings_Count_one ⟨s.toArray⟩ 32 W1).mono ?_
 rintro e w' ⟨rfl,rfl⟩
 have ec : Lib.countByte (⟨s.toArray⟩ : ByteArray).data.toList 32 = s.count 32:=rfl
 rw [ec]
 clear ec
 generalize s.count 32 = cn at *
 go_wp2_with fail
 have ec : (cn : Int) + 1 = ((cn + 1 : Nat) : Int):=by push_cast; rfl
 rw [ec]
 clear ec
 refine (words_any s (cn + 1) _ (by omega) (by omega) hE1.env).mono ?_
 rintro e w2 hW
 rcases hW with ⟨hwb,bw,rfl,hbw,hkw,hb⟩ | ⟨hwb,rfl,hb⟩
 ·rw [HFW.out] at hwb
  have HFB:=Lib.hid hwb
  rw [HCW.out] at hkw
  simp only [HCW.out]
  have hst:=hst.trans (Stays.of_below hb hz1)
  have hbx2:=hbx1.below hb
  have hH2:=hH1.below hb
  have hz2 : L ≤ w2.heap.size:=by have:=hb.size; omega
  have hbwL : L ≤ bw:=by omega
  clear hwb hb hbx1 hH1 hE1 hbw HFW
  have hwp : 0 < (wordsT t k).length:=List.length_pos_iff.2 HNE.out
  have g0 : (wordsT t k).getD 0 [] = (wordsT t k)[0]:=by rw [List.getD_eq_getElem?_getD,List.getElem?_eq_getElem hwp]; rfl
  have cw : w2.cell? ⟨bw,0,none⟩ = some (encStr (wordsT t k)[0]):=by
   have:=hkw.cell 0
   rw [this]; simp [strs,hwp]
  have cwz:=hkw.lt
  have cx : w2.cell? ⟨b1,0,none⟩ = some (.int .i64 ((k + 1 : Nat) : Int)):=by simpa using hbx2.cell 0
  have cxz:=hbx2.lt
  have HG0:=Lib.hid g0
  clear g0
  obtain ⟨kk,hkk⟩ : ∃ kk : Int,kk = ((k + 1 : Nat) : Int):=⟨_,rfl⟩
  rw [← hkk] at cx
  by_cases hx0 : (wordsT t k)[0] = segW
  ·by_cases hk0 : k = 0
   ·have e1 : (kk == 1) = true:=by rw [hkk,hk0]; rfl
    have HOK : Hid (okH t k = true):=Lib.hid (by rw [okH_zero hk0,HFB.out,HG0.out,decide_eq_true hx0]; rfl)
    rw [hx0] at cw
    have e0 : (segW == [115,101,103,109,101,110,116,115]) = true:=by decide
    have HK0:=Lib.hid hk0
    have HKK:=Lib.hid hkk
    obtain ⟨hb2L,SA,TA,sc,td,zs,hb2,_⟩:=id hH2
    obtain ⟨p0,p1⟩:=hb2.two_
    have pz:=hb2.lt
    have pf:=hb2.thaw 0
    clear hx0 hkk hk0 hb2
    by_cases hw1 : (wordsT t k).length = 1
    ·have HW1:=Lib.hid hw1
     go_wp2_with fail
     go_quiet (fail)
     go_wp2_with fail
     refine GOOD.out true _ ?_ HOK.out (fun _ => ?_)
     ·exact Stays.set (by first | exact hst | exact ⟨hst.os,hst.tape,hst.output,hst.size,hst.block⟩) (.inl (by simp)) _
     ·have hk0:=HK0.out
      subst hk0
      refine ⟨(hbx2.past b2 0 _ hne),hb1L,hne,?_⟩
      have:=(hH2.below (below_drewN' (Below.refl _ _) nq)).first hbwL (hkw.below (below_drewN' (Below.refl _ _) nq)) (SA:=some ⟨bw,0,none⟩) (sc:=0) (.inl (by rw [HW1.out])) (by rw [HW1.out]; exact Nat.le_refl _)
      rw [HW1.out] at this
      exact this
    ·have hw2 : 1 < (wordsT t k).length:=by omega
     go_wp2_with fail
     go_quiet (fail)
     go_wp2_with fail
     refine GOOD.out true _ ?_ HOK.out (fun _ => ?_)
     ·exact Stays.set (by first | exact hst | exact ⟨hst.os,hst.tape,hst.output,hst.size,hst.block⟩) (.inl (by simp)) _
     ·have hk0:=HK0.out
      subst hk0
      refine ⟨(hbx2.past b2 0 _ hne),hb1L,hne,?_⟩
      exact (hH2.below (below_drewN' (Below.refl _ _) nq)).first hbwL (hkw.below (below_drewN' (Below.refl _ _) nq)) (SA:=some ⟨bw,1,none⟩) (sc:=(wordsT t 0).length - 1) (.inr rfl) (Nat.le_refl _)
   ·have e1 : (kk == 1) = false:=by rw [hkk,beq_eq_false_iff_ne]; omega
    have HOK : Hid (okH t k = false):=Lib.hid (by rw [okH_pos hk0,attB_head (by rw [HG0.out,hx0]),Bool.and_false])
    rw [hx0] at cw
    have e0 : (segW == [115,101,103,109,101,110,116,115]) = true:=by decide
    clear hx0 hkk hk0
    go_wp2_with fail
    go_quiet (fail)
    go_wp2_with fail
    exact BAD.out _ (by first | exact hst | exact ⟨hst.os,hst.tape,hst.output,hst.size,hst.block⟩) HOK.out
  ·have e0 : ((wordsT t k)[0] == [115,101,103,109,101,110,116,115]) = false:=str_word_ne hx0
   by_cases hk0 : k = 0
   ·have e1 : (kk == 1) = true:=by rw [hkk,hk0]; rfl
    have HOK : Hid (okH t k = false):=Lib.hid (by rw [okH_zero hk0,HG0.out,decide_eq_false hx0,Bool.and_false])
    clear hx0 hkk hk0
    generalize (wordsT t k)[0] = x0 at *
    go_wp2_with fail
    go_quiet (fail)
    go_wp2_with fail
    exact BAD.out _ (by first | exact hst | exact ⟨hst.os,hst.tape,hst.output,hst.size,hst.block⟩) HOK.out
   ·have e1 : (kk == 1) = false:=by rw [hkk,beq_eq_false_iff_ne]; omega
    have HOK : Hid (okH t k = attB (wordsT t k)):=Lib.hid (by rw [okH_pos hk0,HFB.out,Bool.true_and])
    have HKP : Hid (0 < k):=Lib.hid (by omega)
    have HKK:=Lib.hid hkk
    clear hx0 hkk hk0
    generalize (wordsT t k)[0] = x0 at *
    go_wp2_with fail
    go_quiet (fail)
    have hD:=below_drewN' (Below.refl w2.heap.size w2) nq
    have hst:=hst.trans (Stays.of_below hD hz2)
    have hbx2:=hbx2.below hD
    have hH2:=hH2.below hD
    have hkw:=hkw.below hD
    have hz2 : L ≤ (w2.drewN nq).heap.size:=hz2
    clear hD
    generalize w2.drewN nq = w3 at *
    obtain ⟨cx,_⟩ : w3.cell? ⟨b1,0,none⟩ = some (.int .i64 kk) ∧ True:=⟨by rw [HKK.out]; simpa using hbx2.cell 0,trivial⟩
    have cxz:=hbx2.lt
    go_wp2_with fail
    refine (readAttempt_any bw (wordsT t k) _ hkw hwn (by exact fun x hx => HWL.out x hx)).mono ?_
    rintro e w4 ⟨B,c,rfl,hown,hb⟩
    have hst:=hst.trans (Stays.of_below hb hz2)
    have hbx4:=hbx2.below hb
    have hH4:=hH2.below hb
    have hz4 : L ≤ w4.heap.size:=Nat.le_trans hz2 hb.size
    have hown4:=own_weak hown hz2
    clear hown hb hbx2 hH2 hkw hz2 cx cxz
    generalize hat : attR (wordsT t k) = x at *
    have HAT:=Lib.hid hat
    clear hat
    obtain ⟨no,l⟩:=x
    dsimp only at *
    generalize hab : attB (wordsT t k) = ok at *
    have HOK2 : Hid (okH t k = ok):=Lib.hid HOK.out
    clear hab HOK
    obtain ⟨hb2L,SA,TA,sc,td,zs,hb2,hat,hze,hsg,hsc⟩:=hH4
    have hzl : zs.length ≤ 1000001:=by
     have:=congrArg List.length hze
     rw [attE_len,attsR_len] at this; omega
    obtain ⟨p0,p1⟩:=hb2.two_
    have pz:=hb2.lt
    have pf:=hb2.thaw 1
    have hrow:=hat.row
    go_wp2_with (at_builtin; go_must (refine wpList_app (lo:=L) (base:=L) (n:=zs.length) (xs:=zs.flatMap encE) _ _ rfl _ _ ty_atts rfl (by repeat (first | exact hrow | refine World.ownsRow.alloc ?_ _ | refine own_drewN ?_ _ | refine World.ownsRow.drew ?_)) rfl (by first | exact row_new' _ (by first | rfl | simp) (by first | omega | (simp; omega)) rfl | exact row_newN _ _ (by first | rfl | simp) (by first | omega | (simp; omega)) rfl | exact row_newD _ (by first | rfl | simp) (by first | omega | (simp; omega)) rfl) rfl rfl (by first | omega | decide) (by first | omega | decide) (by first | omega | (simp; omega)) ?_))
    intro A5 d5 w5 hown5 hg5 _
    have hX:=(Below.refl w4.heap.size w4).alloc (Nat.le_refl _) (.cells #[.int .i64 no,.slice B l.length c] 62)
    have hX:=hX.alloc (by simp) (.cells #[.int .i64 no,.slice B l.length c] 62)
    have hst6:=hst.trans (Stays.of_below hX hz4)
    have hb6:=hb2.below hX
    have hbx6:=hbx4.below hX
    have hat6:=hat.below hX
    have hsg6 : (k = 0 ∨ (segsT t k).length = 0) ∨ ∃ b',L ≤ b' ∧ SA = some ⟨b',1,none⟩ ∧ Blk ((w4.alloc (.cells #[.int .i64 no,.slice B l.length c] 62)).alloc (.cells #[.int .i64 no,.slice B l.length c] 62)) b' 9 (strs (wordsT t 0)).toArray:=hsg.imp id (fun ⟨b',e1,e2,e3⟩ => ⟨b',e1,e2,e3.below hX⟩)
    have hownl:=own_keep hown4 hX
    have hz6 : L ≤ ((w4.alloc (.cells #[.int .i64 no,.slice B l.length c] 62)).alloc (.cells #[.int .i64 no,.slice B l.length c] 62)).heap.size:=by simp; omega
    clear hX hst hb2 hbx4 hat hsg hown4 hrow p0 p1 pz pf
    generalize (w4.alloc (.cells #[.int .i64 no,.slice B l.length c] 62)).alloc (.cells #[.int .i64 no,.slice B l.length c] 62) = w6 at *
    have hkd:=own_kindOf hat6.row
    have hb7:=hb6.otherOf hg5 hkd (by decide)
    have hbx7:=hbx6.otherOf hg5 hkd (by decide)
    obtain ⟨p0,p1⟩:=hb7.two_
    have pz:=hb7.lt
    have pf:=hb7.thaw 1
    go_wp2_with fail
    refine GOOD.out ok _ ?_ HOK2.out (fun _ => ?_)
    ·exact Stays.set (hst6.grown hg5 hz6 (fun q hq => (hat6.row.lt q hq).1)) (.inl (by simp)) _
    ·have hP:=HRd.push HKP.out hb2L hb6 hat6 hze hsg6 hsc hg5 (x:=((no,l),(B,c))) hownl HAT.out.symm hown5
     exact ⟨by have:=hbx7.past b2 1 (.slice A5 (zs.length + 1) d5) hne; exact this,hb1L,hne,hP⟩
 ·rw [HFW.out] at hwb
  have HOK : Hid (okH t k = false):=Lib.hid (by unfold okH; rw [hwb]; rfl)
  have hst:=hst.trans (Stays.of_below hb hz1)
  clear hwb hb hbx1 hH1 hE1
  go_wp2_with fail
  go_quiet (fail)
  go_wp2_with fail
  exact BAD.out _ (by first | exact hst | exact ⟨hst.os,hst.tape,hst.output,hst.size,hst.block⟩) HOK.out
end Go.Proofs.YtggnccafmadacaaGreatDoor
/- The walk of splitref1.HistoryRead's closure. -/
namespace Go.Proofs.YtggnccafmadacaaGreatDoor
set_option linter.unusedVariables false
set_option linter.unusedSimpArgs false
open Go.RowKit Go.Sort

theorem intV_num {s : List UInt8} {m : Nat} (h : numB s m = true) : intV s m = numV s m:=by
 unfold intV numV
 rw [h,if_pos rfl]
 unfold numB at h
 simp only [Bool.and_eq_true] at h
 rw [h.1.1.1,h.1.1.2,h.1.2]; rfl
def spI (s : List UInt8) : Int:=if s = [45] then 0 else intV s 9
theorem spI_ok {s : List UInt8} (h : spOK s = true) : spI s = spX s:=by
 unfold spI spX
 by_cases h1 : s = [45]
 ·rw [if_pos h1,if_pos h1]
 ·rw [if_neg h1,if_neg h1]
  rw [(spOK_num h1).1,Bool.and_eq_true] at h
  exact intV_num h.1
theorem spI_map {l : List (List UInt8)} (h : l.all spOK = true) : l.map spI = l.map spX:=by
 apply List.map_congr_left
 intro x hx
 exact spI_ok (List.all_eq_true.1 h x hx)
theorem nil_mem_full (ws : List (List UInt8)) : decide (([] : List UInt8) ∈ ws) = !fullW ws:=by
 cases h : fullW ws
 ·rw [fullW,List.all_eq_false] at h
  obtain ⟨x,hx,hp⟩:=h
  have : x = []:=by cases x with | nil => rfl | cons a b => simp at hp
  subst this
  exact decide_eq_true hx
 ·refine decide_eq_false fun hm => ?_
  have:=List.all_eq_true.1 h [] hm
  simp at this
theorem attB_short {ws : List (List UInt8)} (h : ws.length < 2) : attB ws = false:=by
 unfold attB attHd
 rw [decide_eq_false (by omega)]; rfl
theorem HRd.one {t : List UInt8} {L b : Nat} {W : World} (h : HRd t L 0 b W) (h1 : (wordsT t 0).length = 1) : HRd t L 1 b W:=by
 obtain ⟨h0,SA,TA,sc,td,zs,h2,h3,h4,h5,h6⟩:=h
 have e : (segsT t 1).length = 0:=by unfold segsT; rw [if_neg (by decide),List.length_drop,h1]
 exact ⟨h0,SA,TA,sc,td,zs,by rw [e]; exact h2,h3,h4,.inl (.inr e),by rw [e]; exact Nat.zero_le _⟩
theorem spOK_int {s : List UInt8} (h : s ≠ [45]) : spOK s = (!(intV s 9 == 0) && numB s 9) ∧ spI s = intV s 9:=by
 refine ⟨?_,by unfold spI; rw [if_neg h]⟩
 rw [(spOK_num h).1]
 cases hn : numB s 9
 ·simp
 ·rw [intV_num hn,Bool.eq_iff_iff]
  simp
theorem i64_numI (s : List UInt8) : -100000000000000000 ≤ intV s 9 ∧ intV s 9 ≤ 100000000000000000:=by
 unfold intV
 cases h : (decide (1 ≤ (unsign s).length) && decide ((unsign s).length ≤ 9) && digs (unsign s))
 ·simp
 ·rw [if_pos rfl]
  simp only [Bool.and_eq_true,decide_eq_true_eq] at h
  exact valS_bound h.2 h.1.2 (by decide)

set_option maxHeartbeats 8000000 in
set_option maxRecDepth 100000 in
theorem refCl_any (t : List UInt8) (b1 b2 B L k : Nat) (W : World) (ht : t.length ≤ 1000000) (hk : k < (linesL t).length) (hL : L ≤ W.heap.size) (hE : EnvB B W) (hB1 : B ≤ b1) (hB2 : B ≤ b2) (hBL : B ≤ L) (h : RRf t b1 b2 L k W) :
  Calls Tryz.prog 102 #[encStr (linesL t)[k],.pointer (some ⟨b1,0,none⟩),.pointer (some ⟨b2,0,none⟩)] W (LinePost t b1 b2 L k W (RRf t b1 b2)):=by
 obtain ⟨hbx,hb1L,hne,hH⟩:=h
 have hkn : k ≤ 1000001:=by have:=(linesL_le t).1; omega
 have hsl : (linesL t)[k].length ≤ 1000000:=by have:=(linesL_le t).2 _ (List.getElem_mem hk); omega
 have HWT:=Lib.hid (wordsT_at hk)
 have hcl:=cutAt_len 32 (linesL t)[k]
 have hcc:=List.count_le_length (a:=(32 : UInt8)) (l:=(linesL t)[k])
 have HWL : Hid (∀ x ∈ wordsT t k,x.length ≤ 1000000):=Lib.hid (fun x hx => by
  rw [HWT.out] at hx
  have:=cutAt_sum 32 _ x hx; omega)
 have HNE : Hid (wordsT t k ≠ []):=Lib.hid (by rw [HWT.out]; exact cutAt_ne _ _)
 have hwn : (wordsT t k).length ≤ 1000001:=by rw [HWT.out]; omega
 have BAD : Hid (∀ W',Stays L [b1,b2] W W' → okH t k = false → LinePost t b1 b2 L k W (RRf t b1 b2) (.returned (.bool false)) W'):=Lib.hid (fun W' h1 h2 => ⟨by rw [h2],h1,fun h => by rw [h2] at h; cases h⟩)
 have GOOD : Hid (∀ ok W',Stays L [b1,b2] W W' → okH t k = ok → (ok = true → RRf t b1 b2 L (k + 1) W') → LinePost t b1 b2 L k W (RRf t b1 b2) (.returned (.bool ok)) W'):=Lib.hid (fun ok W' h1 h2 h3 => ⟨by rw [h2],h1,fun h => h3 (by rw [← h2]; exact h)⟩)
 have HCW : Hid (cutAt 32 (linesL t)[k] = wordsT t k):=Lib.hid HWT.out.symm
 clear hcl hcc
 generalize hP : LinePost t b1 b2 L k W (RRf t b1 b2) = Post at *
 clear hP
 generalize (linesL t)[k] = s at *
 have HE:=Lib.hid hE
 have hwp : 0 < (wordsT t k).length:=List.length_pos_iff.2 HNE.out
 have HG0 : Hid ((wordsT t k).getD 0 [] = (wordsT t k)[0]):=Lib.hid (by rw [List.getD_eq_getElem?_getD,List.getElem?_eq_getElem hwp]; rfl)
 have HFE:=Lib.hid (nil_mem_full (wordsT t k))
 clear hE HWT HNE
 go_enter Tryz.func102,Tryz.ntmps102
 go_wp2_with fail
 refine (split_any 32 s _ (by omega) HE.out.env).mono ?_
 rintro e w1 ⟨bw,rfl,hbw,hkw,hb⟩
 rw [HCW.out] at hkw
 simp only [HCW.out]
 have hst:=Stays.of_below (bs:=[b1,b2]) hb hL
 have hbx:=hbx.below hb
 have hH:=hH.below hb
 have hE:=Lib.hid (HE.out.below (Below.mono hb (by omega)))
 have hz : L ≤ w1.heap.size:=Nat.le_trans hL hb.size
 have hbwL : L ≤ bw:=by omega
 clear hb hbw HE
 obtain ⟨c0,_⟩ : w1.cell? ⟨b1,0,none⟩ = some (.bool (decide (k = 0))) ∧ True:=⟨by simpa using hbx.cell 0,trivial⟩
 have cz:=hbx.lt
 have cf:=hbx.thaw 0
 go_upto_region 4 with (fail)
 have hst:=hst.set (p:=⟨b1,0,none⟩) (.inl (by simp)) (.bool false)
 have hbx : Blk (w1.setCell ⟨b1,0,none⟩ (.bool false)) b1 4 #[.bool (decide (k + 1 = 0))]:=by
  have:=hbx.poke 0 (.bool false)
  simpa using this
 have hH:=hH.aside (i:=0) hb1L hne (.bool false)
 have hkw:=hkw.past b1 0 (.bool false) (by omega)
 have hE:=Lib.hid (hE.out.below ((Below.refl B w1).setCell (p:=⟨b1,0,none⟩) hB1 (.bool false)))
 have hz : L ≤ (w1.setCell ⟨b1,0,none⟩ (.bool false)).heap.size:=by simpa [World.setCell] using hz
 clear c0 cz cf
 generalize w1.setCell ⟨b1,0,none⟩ (.bool false) = w2 at *
 go_wp2_with fail
 refine (containsS_any (some ⟨bw,0,none⟩) _ _ (wordsT t k) [] _ (hkw.strRow (Nat.le_refl _)) (by omega)).mono ?_
 rintro e w3 ⟨rfl,rfl⟩
 rw [HFE.out]
 have cw : w2.cell? ⟨bw,0,none⟩ = some (encStr (wordsT t k)[0]):=by
  have:=hkw.cell 0
  rw [this]; simp [strs,hwp]
 have cwz:=hkw.lt
 cases hfw : fullW (wordsT t k)
 ·have HOK : Hid (okH t k = false):=Lib.hid (by unfold okH; rw [hfw]; rfl)
  have HZ : Hid ((wordsT t k).length = 1 → (wordsT t k)[0] = []):=Lib.hid (fun h1 => by
   rw [fullW,List.all_eq_false] at hfw
   obtain ⟨x,hx,hp⟩:=hfw
   have hx0 : x = []:=by cases x with | nil => rfl | cons a b => simp at hp
   subst hx0
   obtain ⟨i,hi,he⟩:=List.mem_iff_getElem.1 hx
   have : i = 0:=by omega
   subst this
   exact he)
  clear hfw
  by_cases h1 : (wordsT t k).length = 1
  ·have d1 : (((wordsT t k).length : Int) == 1) = true:=by rw [h1]; rfl
   rw [HZ.out h1] at cw
   have e0 : (([] : List UInt8) == [115,101,103,109,101,110,116,115]) = false:=by decide
   clear h1 HZ
   go_wp2_with fail
   exact BAD.out _ hst HOK.out
  ·have d1 : (((wordsT t k).length : Int) == 1) = false:=by rw [beq_eq_false_iff_ne]; omega
   clear h1 HZ
   go_wp2_with fail
   exact BAD.out _ hst HOK.out
 ·have HFB:=Lib.hid hfw
  clear hfw
  by_cases h1 : (wordsT t k).length = 1
  ·have d2 : decide (((wordsT t k).length : Int) < 2) = true:=by rw [h1]; rfl
   have d1 : (((wordsT t k).length : Int) == 1) = true:=by rw [h1]; rfl
   have H1:=Lib.hid h1
   by_cases hk0 : k = 0
   ·have dk : decide (k = 0) = true:=decide_eq_true hk0
    have HK0:=Lib.hid hk0
    by_cases hx0 : (wordsT t k)[0] = segW
    ·have HOK : Hid (okH t k = true):=Lib.hid (by rw [okH_zero hk0,HFB.out,HG0.out,decide_eq_true hx0]; rfl)
     rw [hx0] at cw
     have e0 : (segW == [115,101,103,109,101,110,116,115]) = true:=by decide
     clear hx0 hk0 h1
     go_wp2_with fail
     refine GOOD.out true _ hst HOK.out (fun _ => ?_)
     have hk0:=HK0.out
     subst hk0
     exact ⟨hbx,hb1L,hne,hH.one H1.out⟩
    ·have HOK : Hid (okH t k = false):=Lib.hid (by rw [okH_zero hk0,HG0.out,decide_eq_false hx0,Bool.and_false])
     have e0 : ((wordsT t k)[0] == [115,101,103,109,101,110,116,115]) = false:=str_word_ne hx0
     clear hx0 hk0 h1 HG0
     generalize (wordsT t k)[0] = x0 at *
     go_wp2_with fail
     exact BAD.out _ hst HOK.out
   ·have dk : decide (k = 0) = false:=decide_eq_false hk0
    have HOK : Hid (okH t k = false):=Lib.hid (by rw [okH_pos hk0,attB_short (by omega),Bool.and_false])
    clear hk0 h1 HG0
    obtain ⟨bx,hbx0⟩ : ∃ bx,((wordsT t k)[0] == [115,101,103,109,101,110,116,115]) = bx:=⟨_,rfl⟩
    generalize (wordsT t k)[0] = x0 at *
    cases bx
    all_goals
     go_wp2_with fail
     exact BAD.out _ hst HOK.out
  ·have d2 : decide (((wordsT t k).length : Int) < 2) = false:=by simp; omega
   have hw2 : 2 ≤ (wordsT t k).length:=by omega
   by_cases hk0 : k = 0
   ·have dk : decide (k = 0) = true:=decide_eq_true hk0
    have HK0:=Lib.hid hk0
    have HOKW : Hid (okH t k = decide ((wordsT t k)[0] = segW)):=Lib.hid (by rw [okH_zero hk0,HFB.out,HG0.out]; rfl)
    obtain ⟨hb2L,SA,TA,sc,td,zs,hb2,_⟩:=id hH
    obtain ⟨p0,p1⟩:=hb2.two_
    have pz:=hb2.lt
    have pf:=hb2.thaw 0
    have hbb : bw ≠ b2:=by omega
    by_cases hx0 : (wordsT t k)[0] = segW
    ·have HOK : Hid (okH t k = true):=Lib.hid (by rw [HOKW.out,decide_eq_true hx0])
     rw [hx0] at cw
     have e0 : (segW == [115,101,103,109,101,110,116,115]) = true:=by decide
     clear hx0 hk0 h1 hb2
     go_upto_region 8 with (fail)
     have cw:=(World.cell?_of_block (Below.heap_setCell w2 ⟨b2,0,none⟩ (.slice (some ⟨bw,1,none⟩) ((wordsT t k).length - 1) ((wordsT t k).length - 1)) bw hbb)).trans cw
     have cwz : bw < (w2.setCell ⟨b2,0,none⟩ (.slice (some ⟨bw,1,none⟩) ((wordsT t k).length - 1) ((wordsT t k).length - 1))).heap.size:=by simpa [World.setCell] using cwz
     go_wp2_with fail
     refine GOOD.out true _ (hst.set (.inl (by simp)) _) HOK.out (fun _ => ?_)
     have hk0:=HK0.out
     subst hk0
     exact ⟨hbx.past b2 0 _ hne,hb1L,hne,hH.first hbwL hkw (SA:=some ⟨bw,1,none⟩) (sc:=(wordsT t 0).length - 1) (.inr rfl) (Nat.le_refl _)⟩
    ·have HOK : Hid (okH t k = false):=Lib.hid (by rw [HOKW.out,decide_eq_false hx0])
     have e0 : ((wordsT t k)[0] == [115,101,103,109,101,110,116,115]) = false:=str_word_ne hx0
     clear hx0 hk0 h1 hb2 HG0 HOKW
     generalize (wordsT t k)[0] = x0 at *
     go_upto_region 8 with (fail)
     have cw:=(World.cell?_of_block (Below.heap_setCell w2 ⟨b2,0,none⟩ (.slice (some ⟨bw,1,none⟩) ((wordsT t k).length - 1) ((wordsT t k).length - 1)) bw hbb)).trans cw
     have cwz : bw < (w2.setCell ⟨b2,0,none⟩ (.slice (some ⟨bw,1,none⟩) ((wordsT t k).length - 1) ((wordsT t k).length - 1))).heap.size:=by simpa [World.setCell] using cwz
     go_wp2_with fail
     exact BAD.out _ (hst.set (.inl (by simp)) _) HOK.out
   ·have dk : decide (k = 0) = false:=decide_eq_false hk0
    have HKP : Hid (0 < k):=Lib.hid (by omega)
    have HOKW : Hid (okH t k = attB (wordsT t k)):=Lib.hid (by rw [okH_pos hk0,HFB.out,Bool.true_and])
    have c1 : w2.cell? ⟨bw,1,none⟩ = some (encStr (wordsT t k)[1]):=by
     have:=hkw.cell 1
     rw [this]; simp [strs,hw2]
    have C0 : Hid ((strs (wordsT t k)).toArray[0]? = some (encStr (wordsT t k)[0])):=Lib.hid (by simp [strs,hwp])
    have hx1l:=HWL.out (wordsT t k)[1] (List.getElem_mem _)
    have HRS : Hid (∀ j (h : j < ((wordsT t k).drop 2).length),((wordsT t k).drop 2)[j].length ≤ 1000000 ∧ (strs (wordsT t k)).toArray[2 + j]? = some (encStr ((wordsT t k).drop 2)[j])):=Lib.hid (fun j h => by
     have hj : 2 + j < (wordsT t k).length:=by rw [List.length_drop] at h; omega
     rw [List.getElem_drop]
     exact ⟨HWL.out _ (List.getElem_mem _),by simp [strs,hj]⟩)
    have HAB : Hid (attB (wordsT t k) = (decide ((wordsT t k)[0] = attW) && (numB (wordsT t k)[1] 9 && ((wordsT t k).drop 2).all spOK)) ∧ (attB (wordsT t k) = true → attR (wordsT t k) = (numV (wordsT t k)[1] 9,((wordsT t k).drop 2).map spX))):=Lib.hid (by
     have g1 : (wordsT t k).getD 1 [] = (wordsT t k)[1]:=by rw [List.getD_eq_getElem?_getD,List.getElem?_eq_getElem (by omega)]; rfl
     have e1 : attHd (wordsT t k) = decide ((wordsT t k)[0] = attW):=by unfold attHd; rw [decide_eq_true hw2,HG0.out]; rfl
     refine ⟨by unfold attB; rw [e1,g1],fun h => ?_⟩
     unfold attB at h
     rw [Bool.and_eq_true] at h
     unfold attR
     rw [h.1,if_pos rfl,g1])
    have hrl : ((wordsT t k).drop 2).length = (wordsT t k).length - 2:=List.length_drop
    clear hk0 h1 HG0 HFB HFE HWL
    generalize (wordsT t k).drop 2 = rest at *
    generalize (wordsT t k)[0] = x0 at *
    generalize (wordsT t k)[1] = x1 at *
    by_cases hw3 : (wordsT t k).length = 2
    ·have hr0 : rest = []:=List.eq_nil_of_length_eq_zero (by omega)
     subst hr0
     clear HRS hrl
     go_wp2_with fail
     refine (int_any x1 9 _ (by omega) (by omega) hE.out.env).mono ?_
     rintro e w4 ⟨rfl,hb⟩
     have hst:=hst.trans (Stays.of_below hb hz)
     have hbx:=hbx.below hb
     have hH:=hH.below hb
     have hkw:=hkw.below hb
     have hE:=Lib.hid (hE.out.below (Below.mono hb (by omega)))
     have hz : L ≤ w4.heap.size:=Nat.le_trans hz hb.size
     have hno:=i64_numI x1
     have HNO : Hid (numB x1 9 = true → intV x1 9 = numV x1 9):=Lib.hid intV_num
     clear hb c1 cw cwz
     generalize hniv : intV x1 9 = no at *
     obtain ⟨ok0,hok0⟩ : ∃ ok0,ok0 = numB x1 9:=⟨_,rfl⟩
     have HOK0:=Lib.hid hok0
     rw [← hok0]
     clear hok0 hniv
     obtain ⟨ba,hBA⟩ : ∃ ba,ba = w4.heap.size:=⟨_,rfl⟩
     go_wp2_with fail
     have hB : Blk (w4.alloc (.cells #[.int .i64 no,.slice none 0 0] 62)) w4.heap.size 62 #[.int .i64 no,.slice none 0 0]:=Blk.new _ _ _
     have hbel : Below w4.heap.size w4 (w4.alloc (.cells #[.int .i64 no,.slice none 0 0] 62)):=(Below.refl _ _).alloc (Nat.le_refl _) (.cells #[.int .i64 no,.slice none 0 0] 62)
     have hbz : w4.heap.size < (w4.alloc (.cells #[.int .i64 no,.slice none 0 0] 62)).heap.size:=by simp
     rw [← hBA] at hB hbel hbz
     simp only [← hBA]
     have hLba : L ≤ ba:=by omega
     have HBA:=Lib.hid hBA
     clear hBA
     generalize w4.alloc (.cells #[.int .i64 no,.slice none 0 0] 62) = w5 at *
     go_loopw [8,56] (fun o i wr => o = .bool ok0 ∧ i = .int .i64 0 ∧ Blk wr ba 62 #[.int .i64 no,.slice none 0 0] ∧ Below ba w4 wr ∧ ba < wr.heap.size) (fun _ _ _ => 0)
     case atStart => exact ⟨rfl,rfl,hB,hbel,hbz⟩
     case round =>
      clear hB hbel hbz
      obtain ⟨rfl,rfl,hB,hbel,hbz⟩:=hrel
      have hown : wr.ownsRow ba 3 1 (.slice none ([] : List Int).length 0) ([] : List Int).length (ints []):=World.ownsRow_nil _ _ _ _
      have HLI : Hid (([] : List (List UInt8)).map spI = ([] : List Int)):=Lib.hid rfl
      have HOKE : Hid (ok0 = (numB x1 9 && ([] : List (List UInt8)).all spOK)):=Lib.hid (by rw [HOK0.out]; simp)
      have hbel' : Below w4.heap.size w4 wr:=HBA.out ▸ hbel
      have hst:=hst.trans (Stays.of_below hbel' hz)
      have hbx:=hbx.below hbel'
      have hH:=hH.below hbel'
      have hkw:=hkw.below hbel'
      have hz : L ≤ wr.heap.size:=Nat.le_trans hz hbel'.size
      have hown:=own_weak hown (show L ≤ ba by omega)
      clear hbel hbel' hE
      obtain ⟨hb2L,SA,TA,sc,td,zs,hb2,hat,hze,hsg,hsc⟩:=hH
      have hzl : zs.length ≤ 1000001:=by
       have:=congrArg List.length hze
       rw [attE_len,attsR_len] at this; omega
      obtain ⟨p0,p1⟩:=hb2.two_
      have pz:=hb2.lt
      have pf:=hb2.thaw 1
      obtain ⟨r0,r1⟩:=hB.two_
      have rz:=hB.lt
      have hrow:=hat.row
      go_wp2_with (at_builtin; go_must (refine wpList_app (lo:=L) (base:=L) (n:=zs.length) (xs:=zs.flatMap encE) _ _ rfl _ _ ty_atts rfl (by repeat (first | exact hrow | refine World.ownsRow.alloc ?_ _ | refine own_drewN ?_ _ | refine World.ownsRow.drew ?_)) rfl (by first | exact row_new' _ (by first | rfl | simp) (by first | omega | (simp; omega)) rfl | exact row_newN _ _ (by first | rfl | simp) (by first | omega | (simp; omega)) rfl | exact row_newD _ (by first | rfl | simp) (by first | omega | (simp; omega)) rfl) rfl rfl (by first | omega | decide) (by first | omega | decide) (by first | omega | (simp; omega)) ?_))
      intro A5 d5 w7 hown5 hg5 _
      have hX:=(Below.refl wr.heap.size wr).alloc (Nat.le_refl _) (.cells #[.int .i64 no,.slice none 0 0] 62)
      have hst6:=hst.trans (Stays.of_below hX hz)
      have hb6:=hb2.below hX
      have hbx6:=hbx.below hX
      have hat6:=hat.below hX
      have hkw6:=hkw.below hX
      have hsg6 : (k = 0 ∨ (segsT t k).length = 0) ∨ ∃ b',L ≤ b' ∧ SA = some ⟨b',1,none⟩ ∧ Blk (wr.alloc (.cells #[.int .i64 no,.slice none 0 0] 62)) b' 9 (strs (wordsT t 0)).toArray:=hsg.imp id (fun ⟨b',e1,e2,e3⟩ => ⟨b',e1,e2,e3.below hX⟩)
      have hownl:=own_keep hown hX
      have hz6 : L ≤ (wr.alloc (.cells #[.int .i64 no,.slice none 0 0] 62)).heap.size:=by simp; omega
      clear hX hst hb2 hbx hat hsg hown hrow p0 p1 pz pf r0 r1 rz hkw hB
      generalize wr.alloc (.cells #[.int .i64 no,.slice none 0 0] 62) = w6 at *
      have hkd:=own_kindOf hat6.row
      have hb7:=hb6.otherOf hg5 hkd (by decide)
      have hbx7:=hbx6.otherOf hg5 hkd (by decide)
      have hkw7:=hkw6.otherOf hg5 hkd (by decide)
      obtain ⟨p0,p1⟩:=hb7.two_
      have pz:=hb7.lt
      have pf:=hb7.thaw 1
      have hbb : bw ≠ b2:=by omega
      go_upto_region 23 with (fail)
      have hst8 : Stays L [b1,b2] W (w7.setCell ⟨b2,1,none⟩ (.slice A5 (zs.length + 1) d5)):=Stays.set (hst6.grown hg5 hz6 (fun q hq => (hat6.row.lt q hq).1)) (.inl (by simp)) _
      have hkw8:=hkw7.past b2 1 (.slice A5 (zs.length + 1) d5) hbb
      have HPUSH : Hid (attR (wordsT t k) = (no,[]) → RRf t b1 b2 L (k + 1) (w7.setCell ⟨b2,1,none⟩ (.slice A5 (zs.length + 1) d5))):=Lib.hid (fun hr => by
       have hP:=HRd.push HKP.out hb2L hb6 hat6 hze hsg6 hsc hg5 (x:=((no,[]),(none,0))) hownl hr.symm hown5
       exact ⟨by have:=hbx7.past b2 1 (.slice A5 (zs.length + 1) d5) hne; simpa using this,hb1L,hne,hP⟩)
      have cw:=(hkw8.cell 0).trans C0.out
      have cwz:=hkw8.lt
      clear p0 p1 pz pf hkw8 hkw7 hb7 hbx7 hkw6 hb6 hbx6 hat6 hsg6 hownl hst6 hown5 hg5
      generalize w7.setCell ⟨b2,1,none⟩ (.slice A5 (zs.length + 1) d5) = w8 at *
      obtain ⟨bq,hbq⟩ : ∃ bq,(x0 == [97,116,116,101,109,112,116]) = bq:=⟨_,rfl⟩
      have HBQ : Hid (decide (x0 = attW) = bq):=Lib.hid (by rw [← hbq,Bool.eq_iff_iff,decide_eq_true_eq,beq_iff_eq]; exact Iff.rfl)
      have HOKF : Hid (okH t k = (bq && ok0)):=Lib.hid (by rw [HOKW.out,HAB.out.1,HBQ.out,← HOKE.out])
      have HFIN : Hid (okH t k = true → attR (wordsT t k) = (no,[])):=Lib.hid (fun h => by
       rw [HOKW.out] at h
       have h2:=h
       rw [HAB.out.1,Bool.and_eq_true,Bool.and_eq_true] at h2
       rw [HAB.out.2 h,HNO.out h2.2.1,← spI_map h2.2.2,HLI.out])
      cases ok0 <;> cases bq
      all_goals
       go_wp2_with fail
       first
       | exact GOOD.out true _ hst8 (by rw [HOKF.out]; rfl) (fun _ => HPUSH.out (HFIN.out (by rw [HOKF.out]; rfl)))
       | exact BAD.out _ hst8 (by rw [HOKF.out]; rfl)
    ·have hw4 : 2 < (wordsT t k).length:=by omega
     go_wp2_with fail
     refine (int_any x1 9 _ (by omega) (by omega) hE.out.env).mono ?_
     rintro e w4 ⟨rfl,hb⟩
     have hst:=hst.trans (Stays.of_below hb hz)
     have hbx:=hbx.below hb
     have hH:=hH.below hb
     have hkw:=hkw.below hb
     have hE:=Lib.hid (hE.out.below (Below.mono hb (by omega)))
     have hz : L ≤ w4.heap.size:=Nat.le_trans hz hb.size
     have hno:=i64_numI x1
     have HNO : Hid (numB x1 9 = true → intV x1 9 = numV x1 9):=Lib.hid intV_num
     clear hb c1 cw cwz
     generalize hniv : intV x1 9 = no at *
     obtain ⟨ok0,hok0⟩ : ∃ ok0,ok0 = numB x1 9:=⟨_,rfl⟩
     have HOK0:=Lib.hid hok0
     rw [← hok0]
     clear hok0 hniv
     obtain ⟨ba,hBA⟩ : ∃ ba,ba = w4.heap.size:=⟨_,rfl⟩
     go_wp2_with fail
     have hB : Blk (w4.alloc (.cells #[.int .i64 no,.slice none 0 0] 62)) w4.heap.size 62 #[.int .i64 no,.slice none 0 0]:=Blk.new _ _ _
     have hbel : Below w4.heap.size w4 (w4.alloc (.cells #[.int .i64 no,.slice none 0 0] 62)):=(Below.refl _ _).alloc (Nat.le_refl _) (.cells #[.int .i64 no,.slice none 0 0] 62)
     have hbz : w4.heap.size < (w4.alloc (.cells #[.int .i64 no,.slice none 0 0] 62)).heap.size:=by simp
     rw [← hBA] at hB hbel hbz
     simp only [← hBA]
     have hLba : L ≤ ba:=by omega
     have HBA:=Lib.hid hBA
     clear hBA
     generalize w4.alloc (.cells #[.int .i64 no,.slice none 0 0] 62) = w5 at *
     go_loopw [8,56] (fun o i wr => ∃ (j : Nat) (Bq : Option Addr) (cq : Nat) (l : List Int) (okj : Bool),j ≤ rest.length ∧ l.length ≤ 1000001 ∧ Hid (l.length = j ∧ l = (rest.take j).map spI ∧ okj = (numB x1 9 && (rest.take j).all spOK)) ∧ o = .bool okj ∧ i = .int .i64 j ∧ Blk wr ba 62 #[.int .i64 no,.slice Bq l.length cq] ∧ wr.ownsRow ba 3 1 (.slice Bq l.length cq) l.length (ints l) ∧ Below ba w4 wr ∧ ba < wr.heap.size) (fun _ i _ => rest.length - (intOf i).toNat)
     case atStart => exact ⟨0,none,0,[],ok0,Nat.zero_le _,by simp,Lib.hid ⟨rfl,rfl,by rw [HOK0.out]; simp⟩,rfl,rfl,hB,World.ownsRow_nil _ _ _ _,hbel,hbz⟩
     case round =>
      clear hB hbel hbz
      obtain ⟨j,Bq,cq,l,okj,hj,hl9,HLJ,rfl,rfl,hB,hown,hbel,hbz⟩:=hrel
      by_cases hlt : j < rest.length
      ·obtain ⟨hsl2,hcell⟩:=HRS.out j hlt
       have hkwr:=hkw.below (HBA.out ▸ hbel)
       have hcell:=(hkwr.cell (2 + j)).trans hcell
       have hbwz:=hkwr.lt
       have HTK : Hid ((rest.take (j + 1)).map spI = (rest.take j).map spI ++ [spI rest[j]] ∧ (rest.take (j + 1)).all spOK = ((rest.take j).all spOK && spOK rest[j])):=Lib.hid (by rw [List.take_succ_eq_append_getElem hlt,List.map_append,List.all_append]; simp)
       clear hkwr
       generalize rest[j] = s2 at *
       go_wp2_with fail
       refine (int_any s2 9 _ (by omega) (by omega) (hE.out.below (Below.mono hbel (by omega))).env).mono ?_
       rintro e w6 ⟨rfl,hb⟩
       have hB:=hB.below hb
       have hown:=own_keep hown hb
       have hbel:=hbel.trans (hb.mono (by omega))
       have hbz : ba < w6.heap.size:=by have:=hb.size; omega
       clear hb hcell hbwz
       have hni:=i64_numI s2
       by_cases hs : s2 = [45]
       ·have e0 : (s2 == [45]) = true:=str_word_eq hs
        have HD : Hid (spOK s2 = true ∧ spI s2 = 0):=Lib.hid ⟨by rw [hs]; exact spOK_dash.1,by unfold spI; rw [if_pos hs]⟩
        clear hs
        generalize intV s2 9 = m0 at *
        generalize numB s2 9 = is at *
        obtain ⟨r0,r1⟩:=hB.two_
        have rz:=hB.lt
        have rf:=hB.thaw 1
        cases okj
        all_goals
         go_wp2_with (at_builtin; go_must (refine wpList_app (lo:=ba) (base:=ba) (n:=l.length) (xs:=ints l) _ _ rfl _ _ ty_ints rfl (by repeat (first | exact hown | refine World.ownsRow.alloc ?_ _ | refine own_drewN ?_ _ | refine World.ownsRow.drew ?_)) rfl (by first | exact row_new' _ (by first | rfl | simp) (by first | omega | (simp; omega)) rfl | exact row_newN _ _ (by first | rfl | simp) (by first | omega | (simp; omega)) rfl | exact row_newD _ (by first | rfl | simp) (by first | omega | (simp; omega)) rfl) rfl rfl (by first | omega | decide) (by first | omega | decide) (by first | omega | (simp; omega)) ?_))
         intro A5 c5 w7 hown5 hg5 _
         have hkd:=own_kindOf (hown.alloc (.cells #[.int .i64 0] 3))
         have hB5:=(hB.alloc (.cells #[.int .i64 0] 3)).otherOf hg5 hkd (by decide)
         have hx5 : Below ba w4 w7:=below_app (hown.alloc (.cells #[.int .i64 0] 3)) (hbel.alloc (by omega) _) hg5 (Nat.le_refl _) (by simp; omega)
         have hz7 : ba < w7.heap.size:=by have:=hg5.size; simp at this; omega
         clear r0 r1 rz rf
         obtain ⟨r0,r1⟩:=hB5.two_
         have rz:=hB5.lt
         have rf:=hB5.thaw 1
         go_wp2_with fail
         go_roundw
         case rel =>
          refine ⟨j + 1,A5,c5,l ++ [0],_,by omega,by rw [List.length_append]; have:=HLJ.out.1; simp; omega,Lib.hid ⟨by rw [List.length_append,HLJ.out.1]; rfl,by rw [HTK.out.1,← HLJ.out.2.1,HD.out.2],by rw [HTK.out.2,← Bool.and_assoc,← HLJ.out.2.2,HD.out.1]; rfl⟩,rfl,by go_num,?_,?_,?_,?_⟩
          ·have:=hB5.poke 1 (.slice A5 (l.length + 1) c5)
           rw [List.length_append]; simpa using this
          ·have:=own_past hown5 hB5 (by decide) 1 (.slice A5 (l.length + 1) c5)
           rw [ints_app,List.length_append]; exact this
          ·exact Below.setCell (p:=⟨ba,1,none⟩) hx5 (Nat.le_refl _) _
          ·simpa [World.setCell] using hz7
         case measure => simp [intOf]; omega
       ·have e0 : (s2 == [45]) = false:=str_word_ne hs
        obtain ⟨sp1,sp2⟩:=spOK_int hs
        have HSP:=Lib.hid sp1
        have HSI:=Lib.hid sp2
        clear hs sp1 sp2
        obtain ⟨bz,hbz0⟩ : ∃ bz,(intV s2 9 == 0) = bz:=⟨_,rfl⟩
        generalize intV s2 9 = m at *
        generalize numB s2 9 = is at *
        have HSP2 : Hid (spOK s2 = (!bz && is)):=Lib.hid (by rw [HSP.out,hbz0])
        clear HSP
        obtain ⟨r0,r1⟩:=hB.two_
        have rz:=hB.lt
        have rf:=hB.thaw 1
        cases okj <;> cases is <;> cases bz
        all_goals
         go_wp2_with (at_builtin; go_must (refine wpList_app (lo:=ba) (base:=ba) (n:=l.length) (xs:=ints l) _ _ rfl _ _ ty_ints rfl (by repeat (first | exact hown | refine World.ownsRow.alloc ?_ _ | refine own_drewN ?_ _ | refine World.ownsRow.drew ?_)) rfl (by first | exact row_new' _ (by first | rfl | simp) (by first | omega | (simp; omega)) rfl | exact row_newN _ _ (by first | rfl | simp) (by first | omega | (simp; omega)) rfl | exact row_newD _ (by first | rfl | simp) (by first | omega | (simp; omega)) rfl) rfl rfl (by first | omega | decide) (by first | omega | decide) (by first | omega | (simp; omega)) ?_))
         intro A5 c5 w7 hown5 hg5 _
         have hkd:=own_kindOf (hown.alloc (.cells #[.int .i64 m] 3))
         have hB5:=(hB.alloc (.cells #[.int .i64 m] 3)).otherOf hg5 hkd (by decide)
         have hx5 : Below ba w4 w7:=below_app (hown.alloc (.cells #[.int .i64 m] 3)) (hbel.alloc (by omega) _) hg5 (Nat.le_refl _) (by simp; omega)
         have hz7 : ba < w7.heap.size:=by have:=hg5.size; simp at this; omega
         clear r0 r1 rz rf
         obtain ⟨r0,r1⟩:=hB5.two_
         have rz:=hB5.lt
         have rf:=hB5.thaw 1
         go_wp2_with fail
         go_roundw
         case rel =>
          refine ⟨j + 1,A5,c5,l ++ [m],_,by omega,by rw [List.length_append]; have:=HLJ.out.1; simp; omega,Lib.hid ⟨by rw [List.length_append,HLJ.out.1]; rfl,by rw [HTK.out.1,← HLJ.out.2.1,HSI.out],by rw [HTK.out.2,← Bool.and_assoc,← HLJ.out.2.2,HSP2.out]; rfl⟩,rfl,by go_num,?_,?_,?_,?_⟩
          ·have:=hB5.poke 1 (.slice A5 (l.length + 1) c5)
           rw [List.length_append]; simpa using this
          ·have:=own_past hown5 hB5 (by decide) 1 (.slice A5 (l.length + 1) c5)
           rw [ints_app,List.length_append]; exact this
          ·exact Below.setCell (p:=⟨ba,1,none⟩) hx5 (Nat.le_refl _) _
          ·simpa [World.setCell] using hz7
         case measure => simp [intOf]; omega
      ·have hjj : j = rest.length:=by omega
       subst hjj
       have HLI : Hid (rest.map spI = l):=Lib.hid (by have:=HLJ.out.2.1; rw [List.take_length] at this; exact this.symm)
       have HOKE : Hid (okj = (numB x1 9 && rest.all spOK)):=Lib.hid (by have:=HLJ.out.2.2; rw [List.take_length] at this; exact this)
       clear HLJ
       have hbel' : Below w4.heap.size w4 wr:=HBA.out ▸ hbel
       have hst:=hst.trans (Stays.of_below hbel' hz)
       have hbx:=hbx.below hbel'
       have hH:=hH.below hbel'
       have hkw:=hkw.below hbel'
       have hz : L ≤ wr.heap.size:=Nat.le_trans hz hbel'.size
       have hown:=own_weak hown (show L ≤ ba by omega)
       clear hbel hbel' hE
       obtain ⟨hb2L,SA,TA,sc,td,zs,hb2,hat,hze,hsg,hsc⟩:=hH
       have hzl : zs.length ≤ 1000001:=by
        have:=congrArg List.length hze
        rw [attE_len,attsR_len] at this; omega
       obtain ⟨p0,p1⟩:=hb2.two_
       have pz:=hb2.lt
       have pf:=hb2.thaw 1
       obtain ⟨r0,r1⟩:=hB.two_
       have rz:=hB.lt
       have hrow:=hat.row
       go_wp2_with (at_builtin; go_must (refine wpList_app (lo:=L) (base:=L) (n:=zs.length) (xs:=zs.flatMap encE) _ _ rfl _ _ ty_atts rfl (by repeat (first | exact hrow | refine World.ownsRow.alloc ?_ _ | refine own_drewN ?_ _ | refine World.ownsRow.drew ?_)) rfl (by first | exact row_new' _ (by first | rfl | simp) (by first | omega | (simp; omega)) rfl | exact row_newN _ _ (by first | rfl | simp) (by first | omega | (simp; omega)) rfl | exact row_newD _ (by first | rfl | simp) (by first | omega | (simp; omega)) rfl) rfl rfl (by first | omega | decide) (by first | omega | decide) (by first | omega | (simp; omega)) ?_))
       intro A5 d5 w7 hown5 hg5 _
       have hX:=(Below.refl wr.heap.size wr).alloc (Nat.le_refl _) (.cells #[.int .i64 no,.slice Bq l.length cq] 62)
       have hst6:=hst.trans (Stays.of_below hX hz)
       have hb6:=hb2.below hX
       have hbx6:=hbx.below hX
       have hat6:=hat.below hX
       have hkw6:=hkw.below hX
       have hsg6 : (k = 0 ∨ (segsT t k).length = 0) ∨ ∃ b',L ≤ b' ∧ SA = some ⟨b',1,none⟩ ∧ Blk (wr.alloc (.cells #[.int .i64 no,.slice Bq l.length cq] 62)) b' 9 (strs (wordsT t 0)).toArray:=hsg.imp id (fun ⟨b',e1,e2,e3⟩ => ⟨b',e1,e2,e3.below hX⟩)
       have hownl:=own_keep hown hX
       have hz6 : L ≤ (wr.alloc (.cells #[.int .i64 no,.slice Bq l.length cq] 62)).heap.size:=by simp; omega
       clear hX hst hb2 hbx hat hsg hown hrow p0 p1 pz pf r0 r1 rz hkw hB
       generalize wr.alloc (.cells #[.int .i64 no,.slice Bq l.length cq] 62) = w6 at *
       have hkd:=own_kindOf hat6.row
       have hb7:=hb6.otherOf hg5 hkd (by decide)
       have hbx7:=hbx6.otherOf hg5 hkd (by decide)
       have hkw7:=hkw6.otherOf hg5 hkd (by decide)
       obtain ⟨p0,p1⟩:=hb7.two_
       have pz:=hb7.lt
       have pf:=hb7.thaw 1
       have hbb : bw ≠ b2:=by omega
       go_upto_region 23 with (fail)
       have hst8 : Stays L [b1,b2] W (w7.setCell ⟨b2,1,none⟩ (.slice A5 (zs.length + 1) d5)):=Stays.set (hst6.grown hg5 hz6 (fun q hq => (hat6.row.lt q hq).1)) (.inl (by simp)) _
       have hkw8:=hkw7.past b2 1 (.slice A5 (zs.length + 1) d5) hbb
       have HPUSH : Hid (attR (wordsT t k) = (no,l) → RRf t b1 b2 L (k + 1) (w7.setCell ⟨b2,1,none⟩ (.slice A5 (zs.length + 1) d5))):=Lib.hid (fun hr => by
        have hP:=HRd.push HKP.out hb2L hb6 hat6 hze hsg6 hsc hg5 (x:=((no,l),(Bq,cq))) hownl hr.symm hown5
        exact ⟨by have:=hbx7.past b2 1 (.slice A5 (zs.length + 1) d5) hne; simpa using this,hb1L,hne,hP⟩)
       have cw:=(hkw8.cell 0).trans C0.out
       have cwz:=hkw8.lt
       clear p0 p1 pz pf hkw8 hkw7 hb7 hbx7 hkw6 hb6 hbx6 hat6 hsg6 hownl hst6 hown5 hg5
       generalize w7.setCell ⟨b2,1,none⟩ (.slice A5 (zs.length + 1) d5) = w8 at *
       obtain ⟨bq,hbq⟩ : ∃ bq,(x0 == [97,116,116,101,109,112,116]) = bq:=⟨_,rfl⟩
       have HBQ : Hid (decide (x0 = attW) = bq):=Lib.hid (by rw [← hbq,Bool.eq_iff_iff,decide_eq_true_eq,beq_iff_eq]; exact Iff.rfl)
       have HOKF : Hid (okH t k = (bq && okj)):=Lib.hid (by rw [HOKW.out,HAB.out.1,HBQ.out,← HOKE.out])
       have HFIN : Hid (okH t k = true → attR (wordsT t k) = (no,l)):=Lib.hid (fun h => by
        rw [HOKW.out] at h
        have h2:=h
        rw [HAB.out.1,Bool.and_eq_true,Bool.and_eq_true] at h2
        rw [HAB.out.2 h,HNO.out h2.2.1,← spI_map h2.2.2,HLI.out])
       cases okj <;> cases bq
       all_goals
        go_wp2_with fail
        first
        | exact GOOD.out true _ hst8 (by rw [HOKF.out]; rfl) (fun _ => HPUSH.out (HFIN.out (by rw [HOKF.out]; rfl)))
        | exact BAD.out _ hst8 (by rw [HOKF.out]; rfl)
end Go.Proofs.YtggnccafmadacaaGreatDoor
