/- Texts of this seat, laid together: Wt. -/
import Derived.Handy
import Derived.Test.YtggnccafmadacaaGreatDoorBi19
import Derived.Test.YtggnccafmadacaaGreatDoorBi20
import Derived.Test.YtggnccafmadacaaGreatDoorBi06
import Derived.Test.YtggnccafmadacaaGreatDoorBi21
import Derived.Test.YtggnccafmadacaaGreatDoorBi15
import Derived.Test.YtggnccafmadacaaGreatDoorBi08
import Derived.Test.YtggnccafmadacaaGreatDoorBi09
import Derived.Test.YtggnccafmadacaaGreatDoorBi22
/- The walks of segment.Text and splitref1.HistoryLines at a right history. -/
namespace Go.Proofs.YtggnccafmadacaaGreatDoor
set_option linter.unusedVariables false
set_option linter.unusedSimpArgs false
open Go.RowKit Go.Sort

theorem ba_app (a b : List UInt8) : (⟨a.toArray⟩ : ByteArray) ++ ⟨b.toArray⟩ = ⟨(a ++ b).toArray⟩:=by
 apply ByteArray.ext
 simp
theorem joinHist_any {w : World} {lo : Nat} {A : Option Addr} (c : Nat) {segs : List (List UInt8)} (hr : Row w lo 1 A segs.length (strs segs)) (hn : 1 ≤ segs.length) (hl : segs.length ≤ 1000000) (hc : segs.length ≤ c) (hj : (Lib.join segs [32]).length ≤ 140737488355328) :
  Calls Tryz.prog 98 #[.slice A segs.length c,.string ⟨#[32]⟩] w fun e w' => e = .returned (encStr (Lib.join segs [32])) ∧ Below w.heap.size w w':=by
 obtain ⟨b,off,rfl,_,hb,hcell⟩:=hr.2 (by omega)
 have hm : (segs.map fun s => (⟨s.toArray⟩ : ByteArray)).map (·.data.toList) = segs:=by
  rw [List.map_map]; exact List.map_id' segs
 have h:=Tryz.strings_Join b off c (segs.map fun s => ⟨s.toArray⟩) ⟨#[32]⟩ w (fun j x hx => by
   rw [List.getElem?_map] at hx
   cases hs : segs[j]? with
   | none => rw [hs] at hx; cases hx
   | some s =>
    rw [hs] at hx
    have : x = ⟨s.toArray⟩:=by simpa using hx.symm
    subst this
    exact hcell j _ (by simp [strs,hs])) hb (by simp; omega) (by simpa using hc) (by rw [hm]; exact hj)
 rw [hm,List.length_map] at h
 exact h
def textV (T : List UInt8) : Value:=if 200000 < T.length then .tuple #[.string ⟨#[]⟩,.int .i64 2] else .tuple #[encStr T,.int .i64 0]
def TextPost (w : World) (segs : List (List UInt8)) (atts : List Att) (e : Ending) (w' : World) : Prop:=e = .returned (textV (histT segs atts)) ∧ Below w.heap.size w w'
set_option maxHeartbeats 4000000 in
set_option maxRecDepth 100000 in
theorem Text_ok (SA TA : Option Addr) (c d lo : Nat) (segs : List (List UInt8)) (atts : List Att) (w : World) (hh : Hist w lo SA TA segs atts) (hc : segs.length ≤ c) (hok : HistOk segs atts) (hE : Env w) :
  Calls Tryz.prog 35 #[.agg #[.slice SA segs.length c,.slice TA atts.length d]] w (TextPost w segs atts):=by
 have n1:=hok.n1
 have n2:=hok.n2
 have m:=hok.m
 have HO:=Lib.hid hok
 have HEAD:=headT_len hok
 have ALL : Hid (∀ k,k ≤ atts.length → (attsT atts k).length ≤ k * 1300):=Lib.hid (attsT_len hok)
 have KEY : Hid (∀ s ∈ segs,s.length ≤ 40):=Lib.hid (fun s hs => by
  obtain ⟨i,hi,rfl⟩:=List.mem_iff_getElem.1 hs
  exact (keyB_le (hok.key i hi)).1)
 have hjl : (Lib.join segs [32]).length ≤ segs.length * 41:=join_le segs KEY.out
 have HHD : Hid (headT segs = (segW ++ [32]) ++ Lib.join segs [32] ++ [10]):=Lib.hid rfl
 have HTX : Hid (histT segs atts = headT segs ++ attsT atts atts.length):=Lib.hid rfl
 have HT0 : Hid ((200000 < (histT segs atts).length → textV (histT segs atts) = .tuple #[.string ⟨#[]⟩,.int .i64 2]) ∧ (¬ 200000 < (histT segs atts).length → textV (histT segs atts) = .tuple #[encStr (histT segs atts),.int .i64 0])):=Lib.hid ⟨fun h => by unfold textV; rw [if_pos h],fun h => by unfold textV; rw [if_neg h]⟩
 clear hok
 go_enter Tryz.func35,Tryz.ntmps35
 go_wp2_with fail
 have kA : Blk (w.alloc (.cells #[.slice SA segs.length c,.slice TA atts.length d] 56)) w.heap.size 56 #[.slice SA segs.length c,.slice TA atts.length d]:=Blk.new _ _ _
 have hx : Below w.heap.size w (w.alloc (.cells #[.slice SA segs.length c,.slice TA atts.length d] 56)):=(Below.refl _ _).alloc (Nat.le_refl _) (.cells #[.slice SA segs.length c,.slice TA atts.length d] 56)
 have hh:=hh.alloc (.cells #[.slice SA segs.length c,.slice TA atts.length d] 56)
 have hE:=hE.alloc (.cells #[.slice SA segs.length c,.slice TA atts.length d] 56)
 generalize w.alloc (.cells #[.slice SA segs.length c,.slice TA atts.length d] 56) = w0 at *
 refine (checkHistory_any SA TA c d _ segs atts _ hh hc (by omega) (by omega) (fun i h => by have:=(HO.out.spl i h).len; omega) (fun s hs => by have:=KEY.out s hs; omega)).mono ?_
 rintro e wz ⟨rfl,hb⟩
 rw [histF_zero HO.out]
 have kA:=kA.below hb
 have hh:=hh.below hb
 have hE:=hE.below hb
 have hx:=below_up hx hb
 clear hb
 obtain ⟨q0,q1⟩:=kA.two_
 have hz:=kA.lt
 go_wp2_with fail
 clear q0 q1 hz
 generalize wz = w0 at *
 have hsz:=hx.size
 have hB:=Bld.new w0 w0.heap.size (Nat.le_refl _)
 have hy : Below w0.heap.size w0 (w0.alloc (.cells #[.pointer none,.slice none 0 0] 88)):=(Below.refl _ _).alloc (Nat.le_refl _) _
 have hyz : w0.heap.size < (w0.alloc (.cells #[.pointer none,.slice none 0 0] 88)).heap.size:=by simp
 generalize w0.alloc (.cells #[.pointer none,.slice none 0 0] 88) = w1 at *
 obtain ⟨q0,q1⟩:=(kA.below hy).two_
 have hz:=(kA.below hy).lt
 refine (joinHist_any c (hh.below hy).1 n1 (by omega) hc (by omega)).mono ?_
 rintro e w2 ⟨rfl,hb⟩
 have hB:=hB.below hb
 have hy:=hy.trans (hb.mono (by omega))
 have hyz : w0.heap.size < w2.heap.size:=by have:=hb.size; omega
 clear hb q0 q1 hz
 generalize Lib.join segs [32] = js at *
 go_wp2_with fail
 have e1 : (⟨#[115,101,103,109,101,110,116,115,32]⟩ : ByteArray) ++ ⟨js.toArray⟩ ++ ⟨#[10]⟩ = ⟨(headT segs).toArray⟩:=by
  have h1:=ba_app (segW ++ [32]) js
  have h2:=ba_app ((segW ++ [32]) ++ js) [10]
  rw [HHD.out,← h2,← h1]; rfl
 rw [e1]
 clear e1 hjl
 refine (write_any w0.heap.size w0.heap.size [] (headT segs) _ hB (by simp; omega) (by omega)).mono ?_
 rintro e w3 ⟨rfl,hB,hb,-⟩
 rw [List.nil_append] at hB
 have hy:=hy.trans hb
 have hyz : w0.heap.size < w3.heap.size:=by have:=hb.size; omega
 clear hb
 have HA0 : Hid (headT segs = headT segs ++ attsT atts 0):=Lib.hid (by simp [attsT])
 rw [HA0.out] at hB
 obtain ⟨q0,q1⟩:=(kA.below hy).two_
 have hz:=(kA.below hy).lt
 go_wp2_with fail
 clear q0 q1 hz
 go_loopw [25] (fun i wr => ∃ k : Nat,k ≤ atts.length ∧ i = .int .i64 k ∧ Bld wr w0.heap.size w0.heap.size (headT segs ++ attsT atts k) ∧ Below w0.heap.size w0 wr ∧ w0.heap.size < wr.heap.size) (fun i _ => atts.length - (intOf i).toNat)
 case atStart => exact ⟨0,Nat.zero_le _,rfl,hB,hy,hyz⟩
 case round =>
  clear hB hy hyz
  obtain ⟨k,hk,rfl,hB,hy,hyz⟩:=hrel
  by_cases hlt : k < atts.length
  ·obtain ⟨b,off,Bx,cB,rfl,hbs0,d0,d1,hrB⟩:=hh.att hlt
   have c0:=(hy.cell (p:=⟨b,off + k * 2,none⟩) hbs0).trans d0
   have c1:=(hy.cell (p:=⟨b,off + k * 2 + 1,none⟩) hbs0).trans d1
   have hbs : b < wr.heap.size:=by omega
   clear d0 d1
   have HN:=Lib.hid (attsT_next hlt)
   have hla:=ALL.out k (by omega)
   have hlb:=ALL.out (k + 1) (by omega)
   have HSP:=Lib.hid (HO.out.spl k hlt)
   have hno:=HO.out.no k hlt
   obtain ⟨hno1,hno2⟩:=hno
   rw [HN.out,List.length_append] at hlb
   have hatl:=attT_len HSP.out n2 ⟨hno1,hno2⟩
   have HAT : Hid (attT atts[k] = (attW ++ [32]) ++ Lib.itoa atts[k].1 ++ spsT atts[k].2 atts[k].2.length ++ [10]):=Lib.hid rfl
   have hil:=itoa_len atts[k].1 (by omega) (by omega)
   generalize atts[k] = x at *
   obtain ⟨no,l⟩:=x
   dsimp only at *
   have hl60 : l.length ≤ 60:=by have:=HSP.out.len; omega
   have SPL : Hid (∀ j,(spsT l j).length ≤ j * 20):=Lib.hid (spsT_len l HSP.out.bd)
   have BD : Hid (∀ i (h : i < l.length),0 ≤ l[i] ∧ l[i] ≤ 864000000):=Lib.hid HSP.out.bd
   clear HSP hlb hatl
   generalize hP : headT segs ++ attsT atts k = pre at *
   have hpl : pre.length ≤ 1000000:=by rw [← hP,List.length_append]; omega
   have HP:=Lib.hid hP
   clear hP hla
   go_wp2_with fail
   have kT : Blk (wr.alloc (.cells #[.int .i64 no,.slice Bx l.length cB] 62)) wr.heap.size 62 #[.int .i64 no,.slice Bx l.length cB]:=Blk.new _ _ _
   have hB:=hB.alloc (.cells #[.int .i64 no,.slice Bx l.length cB] 62)
   have hy:=hy.alloc (by omega) (.cells #[.int .i64 no,.slice Bx l.length cB] 62)
   have hyz : w0.heap.size < (wr.alloc (.cells #[.int .i64 no,.slice Bx l.length cB] 62)).heap.size:=by simp; omega
   have hne : wr.heap.size ≠ w0.heap.size:=by omega
   generalize wr.alloc (.cells #[.int .i64 no,.slice Bx l.length cB] 62) = w4 at *
   generalize wr.heap.size = bt at *
   obtain ⟨t0,t1⟩:=kT.two_
   have tz:=kT.lt
   go_wp2_with fail
   refine (itoaE_any no (by omega) (by omega) _ (hE.below hy)).mono ?_
   rintro e w5 ⟨rfl,hb⟩
   have kT:=kT.below hb
   have hB:=hB.below hb
   have hy:=hy.trans (hb.mono (by omega))
   have hyz : w0.heap.size < w5.heap.size:=by have:=hb.size; omega
   clear hb t0 t1 tz
   have HI:=Lib.hid (rfl : Lib.itoa no = Lib.itoa no)
   generalize hin : Lib.itoa no = y at *
   have HIN:=Lib.hid hin
   clear hin HI
   go_wp2_with fail
   have e1 : (⟨#[97,116,116,101,109,112,116,32]⟩ : ByteArray) ++ ⟨y.toArray⟩ = ⟨((attW ++ [32]) ++ y).toArray⟩:=ba_app (attW ++ [32]) y
   rw [e1]
   clear e1
   refine (write_any w0.heap.size w0.heap.size pre ((attW ++ [32]) ++ y) _ hB (by simp [attW]; omega) (by omega)).mono ?_
   rintro e w6 ⟨rfl,hB,hb,hw⟩
   have kT:=kT.wrote hw hne (by decide)
   have hy:=hy.trans hb
   have hyz : w0.heap.size < w6.heap.size:=by have:=hb.size; omega
   clear hb hw
   obtain ⟨t0,t1⟩:=kT.two_
   have tz:=kT.lt
   have hS0 : spsT l 0 = []:=rfl
   have hB : Bld w6 w0.heap.size w0.heap.size (pre ++ ((attW ++ [32]) ++ y) ++ spsT l 0):=by rw [hS0,List.append_nil]; exact hB
   clear hS0
   generalize hP2 : pre ++ ((attW ++ [32]) ++ y) = pre2 at *
   have hpl2 : pre2.length ≤ 1000100:=by rw [← hP2]; simp [attW]; omega
   have HP2:=Lib.hid hP2
   clear hP2
   go_wp2_with fail
   clear t0 t1 tz
   go_loopw [37] (fun i wv => ∃ j : Nat,j ≤ l.length ∧ i = .int .i64 j ∧ Bld wv w0.heap.size w0.heap.size (pre2 ++ spsT l j) ∧ Below w0.heap.size w0 wv ∧ w0.heap.size < wv.heap.size) (fun i _ => l.length - (intOf i).toNat)
   case atStart => exact ⟨0,Nat.zero_le _,rfl,hB,hy,hyz⟩
   case round =>
    clear hB hy hyz kT
    obtain ⟨j,hj,rfl,hB,hy,hyz⟩:=hrel
    by_cases hjl : j < l.length
    ·obtain ⟨b',off',rfl,_,hbs',cj⟩:=(hrB.below hy).int_at hjl
     have HS:=Lib.hid (spsT_next hjl)
     have hs1:=SPL.out j
     have hv:=BD.out j hjl
     obtain ⟨hv1,hv2⟩:=hv
     generalize l[j] = v at *
     by_cases hv0 : v = 0
     ·have HS2 : Hid (spT v = [45]):=Lib.hid (by unfold spT; rw [if_pos hv0])
      have dv : (v != 0) = false:=by simp [hv0]
      have dv2 : (v == 0) = true:=by simp [hv0]
      clear hv0 hv1 hv2
      go_wp2_with fail
      have e1 : (⟨#[32]⟩ : ByteArray) ++ ⟨#[45]⟩ = ⟨([32,45] : List UInt8).toArray⟩:=ba_app [32] [45]
      try rw [e1]
      try clear e1
      refine (write_any w0.heap.size w0.heap.size (pre2 ++ spsT l j) [32,45] _ hB (by simp; omega) (by omega)).mono ?_
      rintro e w7 ⟨rfl,hB,hb,-⟩
      have hy:=hy.trans hb
      have hyz : w0.heap.size < w7.heap.size:=by have:=hb.size; omega
      clear hb
      go_wp2_with fail
      go_roundw
      case rel => exact ⟨j + 1,by omega,by go_num,by rw [HS.out,HS2.out,← List.append_assoc]; exact hB,hy,hyz⟩
      case measure => simp [intOf]; omega
     ·have HS2 : Hid (spT v = Lib.itoa v):=Lib.hid (by unfold spT; rw [if_neg hv0])
      have dv : (v != 0) = true:=by simp [hv0]
      have dv2 : (v == 0) = false:=by simp [hv0]
      have hvl:=itoa_len v (by omega) (by omega)
      clear hv0
      go_wp2_with fail
      refine (itoaE_any v (by omega) (by omega) _ (hE.below hy)).mono ?_
      rintro e w7 ⟨rfl,hb⟩
      have hB:=hB.below hb
      have hy:=hy.trans (hb.mono (by omega))
      have hyz : w0.heap.size < w7.heap.size:=by have:=hb.size; omega
      clear hb
      generalize hzz : Lib.itoa v = z at *
      have HZ:=Lib.hid hzz
      clear hzz
      go_wp2_with fail
      have e1 : (⟨#[32]⟩ : ByteArray) ++ ⟨z.toArray⟩ = ⟨(32 :: z).toArray⟩:=ba_app [32] z
      rw [e1]
      clear e1
      refine (write_any w0.heap.size w0.heap.size (pre2 ++ spsT l j) (32 :: z) _ hB (by simp; omega) (by omega)).mono ?_
      rintro e w8 ⟨rfl,hB,hb,-⟩
      have hy:=hy.trans hb
      have hyz : w0.heap.size < w8.heap.size:=by have:=hb.size; omega
      clear hb
      go_wp2_with fail
      go_roundw
      case rel => exact ⟨j + 1,by omega,by go_num,by rw [HS.out,HS2.out,← List.append_assoc]; exact hB,hy,hyz⟩
      case measure => simp [intOf]; omega
    ·have hjj : j = l.length:=by omega
     subst hjj
     have hs1:=SPL.out l.length
     go_wp2_with fail
     refine (write_any w0.heap.size w0.heap.size (pre2 ++ spsT l l.length) [10] _ hB (by simp; omega) (by omega)).mono ?_
     rintro e w7 ⟨rfl,hB,hb,-⟩
     have hy:=hy.trans hb
     have hyz : w0.heap.size < w7.heap.size:=by have:=hb.size; omega
     clear hb
     go_wp2_with fail
     go_roundw
     case rel => exact ⟨k + 1,by omega,by go_num,by rw [HN.out,HAT.out,← List.append_assoc,HP.out]; rw [← HP2.out] at hB; simpa using hB,hy,hyz⟩
     case measure => simp [intOf]; omega
  ·have hkk : k = atts.length:=by omega
   subst hkk
   have hla:=ALL.out atts.length (Nat.le_refl _)
   rw [← HTX.out] at hB
   have hTl : (histT segs atts).length ≤ 1000000:=by rw [HTX.out,List.length_append]; omega
   generalize hTT : histT segs atts = T at *
   have HTE:=Lib.hid hTT
   have HTT:=HT0
   clear hTT
   go_wp2_with fail
   refine (bldLen_any w0.heap.size w0.heap.size T _ hB).mono ?_
   rintro e w7 ⟨rfl,rfl⟩
   by_cases hbig : 200000 < T.length
   ·have dd : decide ((200000 : Int) < (T.length : Int)) = true:=by simp; omega
    have HBG:=Lib.hid (HTT.out.1 hbig)
    clear hbig
    go_wp2_with fail
    go_returns
    exact ⟨by rw [HTE.out,HBG.out]; rfl,below_up hx (Below.mono hy (by omega))⟩
   ·have dd : decide ((200000 : Int) < (T.length : Int)) = false:=by simp; omega
    have HBG:=Lib.hid (HTT.out.2 hbig)
    clear hbig
    go_wp2_with fail
    refine (bldString_any w0.heap.size w0.heap.size T _ hB (by omega)).mono ?_
    rintro e w8 ⟨rfl,hb⟩
    go_wp2_with fail
    go_returns
    exact ⟨by rw [HTE.out,HBG.out]; rfl,below_up hx (hy.trans hb)⟩
set_option maxHeartbeats 4000000 in
set_option maxRecDepth 100000 in
theorem HistoryLines_ok (SA TA : Option Addr) (c d lo : Nat) (segs : List (List UInt8)) (atts : List Att) (w : World) (hh : Hist w lo SA TA segs atts) (hc : segs.length ≤ c) (hok : HistOk segs atts) (hE : Env w) :
  Calls Tryz.prog 36 #[.agg #[.slice SA segs.length c,.slice TA atts.length d]] w fun e w' => e = .returned (encStr (histT segs atts)) ∧ Below w.heap.size w w':=by
 have n1:=hok.n1
 have n2:=hok.n2
 have m:=hok.m
 have HO:=Lib.hid hok
 have HEAD:=headT_len hok
 have ALL : Hid (∀ k,k ≤ atts.length → (attsT atts k).length ≤ k * 1300):=Lib.hid (attsT_len hok)
 have KEY : Hid (∀ s ∈ segs,s.length ≤ 40):=Lib.hid (fun s hs => by
  obtain ⟨i,hi,rfl⟩:=List.mem_iff_getElem.1 hs
  exact (keyB_le (hok.key i hi)).1)
 have hjl : (Lib.join segs [32]).length ≤ segs.length * 41:=join_le segs KEY.out
 have HHD : Hid (headT segs = (segW ++ [32]) ++ Lib.join segs [32] ++ [10]):=Lib.hid rfl
 have HTX : Hid (histT segs atts = headT segs ++ attsT atts atts.length):=Lib.hid rfl
 clear hok
 go_enter Tryz.func36,Tryz.ntmps36
 go_upto_region 1 with (fail)
 have kA : Blk (w.alloc (.cells #[.slice SA segs.length c,.slice TA atts.length d] 56)) w.heap.size 56 #[.slice SA segs.length c,.slice TA atts.length d]:=Blk.new _ _ _
 have hx : Below w.heap.size w (w.alloc (.cells #[.slice SA segs.length c,.slice TA atts.length d] 56)):=(Below.refl _ _).alloc (Nat.le_refl _) (.cells #[.slice SA segs.length c,.slice TA atts.length d] 56)
 have hh:=hh.alloc (.cells #[.slice SA segs.length c,.slice TA atts.length d] 56)
 have hE:=hE.alloc (.cells #[.slice SA segs.length c,.slice TA atts.length d] 56)
 generalize w.alloc (.cells #[.slice SA segs.length c,.slice TA atts.length d] 56) = w0 at *
 obtain ⟨q0,q1⟩:=kA.two_
 have hz:=kA.lt
 go_wp2_with fail
 clear q0 q1 hz
 have hsz:=hx.size
 have hB:=Bld.new w0 w0.heap.size (Nat.le_refl _)
 have hy : Below w0.heap.size w0 (w0.alloc (.cells #[.pointer none,.slice none 0 0] 88)):=(Below.refl _ _).alloc (Nat.le_refl _) _
 have hyz : w0.heap.size < (w0.alloc (.cells #[.pointer none,.slice none 0 0] 88)).heap.size:=by simp
 generalize w0.alloc (.cells #[.pointer none,.slice none 0 0] 88) = w1 at *
 obtain ⟨q0,q1⟩:=(kA.below hy).two_
 have hz:=(kA.below hy).lt
 refine (joinHist_any c (hh.below hy).1 n1 (by omega) hc (by omega)).mono ?_
 rintro e w2 ⟨rfl,hb⟩
 have hB:=hB.below hb
 have hy:=hy.trans (hb.mono (by omega))
 have hyz : w0.heap.size < w2.heap.size:=by have:=hb.size; omega
 clear hb q0 q1 hz
 generalize Lib.join segs [32] = js at *
 go_wp2_with fail
 have e1 : (⟨#[115,101,103,109,101,110,116,115,32]⟩ : ByteArray) ++ ⟨js.toArray⟩ ++ ⟨#[10]⟩ = ⟨(headT segs).toArray⟩:=by
  have h1:=ba_app (segW ++ [32]) js
  have h2:=ba_app ((segW ++ [32]) ++ js) [10]
  rw [HHD.out,← h2,← h1]; rfl
 rw [e1]
 clear e1 hjl
 refine (write_any w0.heap.size w0.heap.size [] (headT segs) _ hB (by simp; omega) (by omega)).mono ?_
 rintro e w3 ⟨rfl,hB,hb,-⟩
 rw [List.nil_append] at hB
 have hy:=hy.trans hb
 have hyz : w0.heap.size < w3.heap.size:=by have:=hb.size; omega
 clear hb
 have HA0 : Hid (headT segs = headT segs ++ attsT atts 0):=Lib.hid (by simp [attsT])
 rw [HA0.out] at hB
 obtain ⟨q0,q1⟩:=(kA.below hy).two_
 have hz:=(kA.below hy).lt
 go_wp2_with fail
 clear q0 q1 hz
 go_loopw [17] (fun i wr => ∃ k : Nat,k ≤ atts.length ∧ i = .int .i64 k ∧ Bld wr w0.heap.size w0.heap.size (headT segs ++ attsT atts k) ∧ Below w0.heap.size w0 wr ∧ w0.heap.size < wr.heap.size) (fun i _ => atts.length - (intOf i).toNat)
 case atStart => exact ⟨0,Nat.zero_le _,rfl,hB,hy,hyz⟩
 case round =>
  clear hB hy hyz
  obtain ⟨k,hk,rfl,hB,hy,hyz⟩:=hrel
  by_cases hlt : k < atts.length
  ·obtain ⟨b,off,Bx,cB,rfl,hbs0,d0,d1,hrB⟩:=hh.att hlt
   have c0:=(hy.cell (p:=⟨b,off + k * 2,none⟩) hbs0).trans d0
   have c1:=(hy.cell (p:=⟨b,off + k * 2 + 1,none⟩) hbs0).trans d1
   have hbs : b < wr.heap.size:=by omega
   clear d0 d1
   have HN:=Lib.hid (attsT_next hlt)
   have hla:=ALL.out k (by omega)
   have hlb:=ALL.out (k + 1) (by omega)
   have HSP:=Lib.hid (HO.out.spl k hlt)
   have hno:=HO.out.no k hlt
   obtain ⟨hno1,hno2⟩:=hno
   rw [HN.out,List.length_append] at hlb
   have hatl:=attT_len HSP.out n2 ⟨hno1,hno2⟩
   have HAT : Hid (attT atts[k] = (attW ++ [32]) ++ Lib.itoa atts[k].1 ++ spsT atts[k].2 atts[k].2.length ++ [10]):=Lib.hid rfl
   have hil:=itoa_len atts[k].1 (by omega) (by omega)
   generalize atts[k] = x at *
   obtain ⟨no,l⟩:=x
   dsimp only at *
   have hl60 : l.length ≤ 60:=by have:=HSP.out.len; omega
   have SPL : Hid (∀ j,(spsT l j).length ≤ j * 20):=Lib.hid (spsT_len l HSP.out.bd)
   have BD : Hid (∀ i (h : i < l.length),0 ≤ l[i] ∧ l[i] ≤ 864000000):=Lib.hid HSP.out.bd
   clear HSP hlb hatl
   generalize hP : headT segs ++ attsT atts k = pre at *
   have hpl : pre.length ≤ 1000000:=by rw [← hP,List.length_append]; omega
   have HP:=Lib.hid hP
   clear hP hla
   go_wp2_with fail
   have kT : Blk (wr.alloc (.cells #[.int .i64 no,.slice Bx l.length cB] 62)) wr.heap.size 62 #[.int .i64 no,.slice Bx l.length cB]:=Blk.new _ _ _
   have hB:=hB.alloc (.cells #[.int .i64 no,.slice Bx l.length cB] 62)
   have hy:=hy.alloc (by omega) (.cells #[.int .i64 no,.slice Bx l.length cB] 62)
   have hyz : w0.heap.size < (wr.alloc (.cells #[.int .i64 no,.slice Bx l.length cB] 62)).heap.size:=by simp; omega
   have hne : wr.heap.size ≠ w0.heap.size:=by omega
   generalize wr.alloc (.cells #[.int .i64 no,.slice Bx l.length cB] 62) = w4 at *
   generalize wr.heap.size = bt at *
   obtain ⟨t0,t1⟩:=kT.two_
   have tz:=kT.lt
   go_wp2_with fail
   refine (itoaE_any no (by omega) (by omega) _ (hE.below hy)).mono ?_
   rintro e w5 ⟨rfl,hb⟩
   have kT:=kT.below hb
   have hB:=hB.below hb
   have hy:=hy.trans (hb.mono (by omega))
   have hyz : w0.heap.size < w5.heap.size:=by have:=hb.size; omega
   clear hb t0 t1 tz
   have HI:=Lib.hid (rfl : Lib.itoa no = Lib.itoa no)
   generalize hin : Lib.itoa no = y at *
   have HIN:=Lib.hid hin
   clear hin HI
   go_wp2_with fail
   have e1 : (⟨#[97,116,116,101,109,112,116,32]⟩ : ByteArray) ++ ⟨y.toArray⟩ = ⟨((attW ++ [32]) ++ y).toArray⟩:=ba_app (attW ++ [32]) y
   rw [e1]
   clear e1
   refine (write_any w0.heap.size w0.heap.size pre ((attW ++ [32]) ++ y) _ hB (by simp [attW]; omega) (by omega)).mono ?_
   rintro e w6 ⟨rfl,hB,hb,hw⟩
   have kT:=kT.wrote hw hne (by decide)
   have hy:=hy.trans hb
   have hyz : w0.heap.size < w6.heap.size:=by have:=hb.size; omega
   clear hb hw
   obtain ⟨t0,t1⟩:=kT.two_
   have tz:=kT.lt
   have hS0 : spsT l 0 = []:=rfl
   have hB : Bld w6 w0.heap.size w0.heap.size (pre ++ ((attW ++ [32]) ++ y) ++ spsT l 0):=by rw [hS0,List.append_nil]; exact hB
   clear hS0
   generalize hP2 : pre ++ ((attW ++ [32]) ++ y) = pre2 at *
   have hpl2 : pre2.length ≤ 1000100:=by rw [← hP2]; simp [attW]; omega
   have HP2:=Lib.hid hP2
   clear hP2
   go_wp2_with fail
   clear t0 t1 tz
   go_loopw [29] (fun i wv => ∃ j : Nat,j ≤ l.length ∧ i = .int .i64 j ∧ Bld wv w0.heap.size w0.heap.size (pre2 ++ spsT l j) ∧ Below w0.heap.size w0 wv ∧ w0.heap.size < wv.heap.size) (fun i _ => l.length - (intOf i).toNat)
   case atStart => exact ⟨0,Nat.zero_le _,rfl,hB,hy,hyz⟩
   case round =>
    clear hB hy hyz kT
    obtain ⟨j,hj,rfl,hB,hy,hyz⟩:=hrel
    by_cases hjl : j < l.length
    ·obtain ⟨b',off',rfl,_,hbs',cj⟩:=(hrB.below hy).int_at hjl
     have HS:=Lib.hid (spsT_next hjl)
     have hs1:=SPL.out j
     have hv:=BD.out j hjl
     obtain ⟨hv1,hv2⟩:=hv
     generalize l[j] = v at *
     by_cases hv0 : v = 0
     ·have HS2 : Hid (spT v = [45]):=Lib.hid (by unfold spT; rw [if_pos hv0])
      have dv : (v != 0) = false:=by simp [hv0]
      have dv2 : (v == 0) = true:=by simp [hv0]
      clear hv0 hv1 hv2
      go_wp2_with fail
      refine (write_any w0.heap.size w0.heap.size (pre2 ++ spsT l j) [32,45] _ hB (by simp; omega) (by omega)).mono ?_
      rintro e w7 ⟨rfl,hB,hb,-⟩
      have hy:=hy.trans hb
      have hyz : w0.heap.size < w7.heap.size:=by have:=hb.size; omega
      clear hb
      go_wp2_with fail
      go_roundw
      case rel => exact ⟨j + 1,by omega,by go_num,by rw [HS.out,HS2.out,← List.append_assoc]; exact hB,hy,hyz⟩
      case measure => simp [intOf]; omega
     ·have HS2 : Hid (spT v = Lib.itoa v):=Lib.hid (by unfold spT; rw [if_neg hv0])
      have dv : (v != 0) = true:=by simp [hv0]
      have dv2 : (v == 0) = false:=by simp [hv0]
      have hvl:=itoa_len v (by omega) (by omega)
      clear hv0
      go_wp2_with fail
      refine (itoaE_any v (by omega) (by omega) _ (hE.below hy)).mono ?_
      rintro e w7 ⟨rfl,hb⟩
      have hB:=hB.below hb
      have hy:=hy.trans (hb.mono (by omega))
      have hyz : w0.heap.size < w7.heap.size:=by have:=hb.size; omega
      clear hb
      generalize hzz : Lib.itoa v = z at *
      have HZ:=Lib.hid hzz
      clear hzz
      go_wp2_with fail
      have e1 : (⟨#[32]⟩ : ByteArray) ++ ⟨z.toArray⟩ = ⟨(32 :: z).toArray⟩:=ba_app [32] z
      rw [e1]
      clear e1
      refine (write_any w0.heap.size w0.heap.size (pre2 ++ spsT l j) (32 :: z) _ hB (by simp; omega) (by omega)).mono ?_
      rintro e w8 ⟨rfl,hB,hb,-⟩
      have hy:=hy.trans hb
      have hyz : w0.heap.size < w8.heap.size:=by have:=hb.size; omega
      clear hb
      go_wp2_with fail
      go_roundw
      case rel => exact ⟨j + 1,by omega,by go_num,by rw [HS.out,HS2.out,← List.append_assoc]; exact hB,hy,hyz⟩
      case measure => simp [intOf]; omega
    ·have hjj : j = l.length:=by omega
     subst hjj
     have hs1:=SPL.out l.length
     go_wp2_with fail
     refine (write_any w0.heap.size w0.heap.size (pre2 ++ spsT l l.length) [10] _ hB (by simp; omega) (by omega)).mono ?_
     rintro e w7 ⟨rfl,hB,hb,-⟩
     have hy:=hy.trans hb
     have hyz : w0.heap.size < w7.heap.size:=by have:=hb.size; omega
     clear hb
     go_wp2_with fail
     go_roundw
     case rel => exact ⟨k + 1,by omega,by go_num,by rw [HN.out,HAT.out,← List.append_assoc,HP.out]; rw [← HP2.out] at hB; simpa using hB,hy,hyz⟩
     case measure => simp [intOf]; omega
  ·have hkk : k = atts.length:=by omega
   subst hkk
   have hla:=ALL.out atts.length (Nat.le_refl _)
   rw [← HTX.out] at hB
   have hTl : (histT segs atts).length ≤ 1000000:=by rw [HTX.out,List.length_append]; omega
   generalize hTT : histT segs atts = T at *
   have HTT:=Lib.hid hTT
   clear hTT
   go_wp2_with fail
   refine (bldString_any w0.heap.size w0.heap.size T _ hB (by omega)).mono ?_
   rintro e w8 ⟨rfl,hb⟩
   go_wp2_with fail
   go_returns
   exact ⟨by rw [HTT.out]; rfl,below_up hx (hy.trans hb)⟩
end Go.Proofs.YtggnccafmadacaaGreatDoor
