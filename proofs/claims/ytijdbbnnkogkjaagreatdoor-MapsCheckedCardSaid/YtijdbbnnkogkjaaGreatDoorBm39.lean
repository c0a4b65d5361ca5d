/- Texts of this seat, laid together: WkO. -/
import Derived.Test.YtijdbbnnkogkjaaGreatDoorBm38
import Derived.Test.YtijdbbnnkogkjaaGreatDoorBm32
/- The walk of the reference's WalkedOf. -/
namespace Go.Proofs.YtijdbbnnkogkjaaGreatDoor
set_option linter.unusedVariables false
set_option linter.unusedSimpArgs false
open Go.RowKit

theorem res_walkO (tmps : Array Value) (w : World) (g : Nat) (a b u v : Value) (ka : List UInt8) (B : Option Addr) (n c : Nat) (ha : a = .string ⟨ka.toArray⟩) (hb : b = .slice B n c) (hx : tmps.getD 6 undef = .pointer (some ⟨g,0,none⟩)) (hu : tmps.getD 7 undef = u) (hv : tmps.getD 8 undef = v) (f0 : w.cell? ⟨g,0,none⟩ = some a) (f1 : w.cell? ⟨g,1,none⟩ = some b) :
  (results Tryz.f15 tmps).run Tryz.prog w = .ok (.tuple #[.agg #[a,b],u,v]) w:=by
 have e : Tryz.f15.results = #[.cell 6 42,.tmp 7,.tmp 8]:=by kernel_rfl
 have hx' : tmps[6]?.getD undef = .pointer (some ⟨g,0,none⟩):=by simpa using hx
 have hu' : tmps[7]?.getD undef = u:=by simpa using hu
 have hv' : tmps[8]?.getD undef = v:=by simpa using hv
 subst ha hb
 simp [results,e,hx',hu',hv',go_sem,f0,f1]
theorem ThOk.len {T th : List (List UInt8)} (hT : T.Pairwise (· < ·)) (h : ThOk T th) : th.length ≤ T.length:=by
 rw [← list_bits hT h]; exact List.length_filter_le _ _
set_option maxHeartbeats 8000000 in
set_option maxRecDepth 100000 in
theorem walkedOf_any (lo ca cd lo2 c2 lo3 c3 : Nat) (A : Option Addr) (rs : List RoomE) (D : Option Addr) (ds : List DoorE) (st gl : List UInt8) (TR : Option Addr) (tr : List (List UInt8)) (LA : Option Addr) (l : List (List UInt8)) (w : World) (hA : MapW w lo A rs D ds) (hRI : Right rs ds st gl) (hr : Row w lo2 1 TR tr.length (strs tr)) (hrl : tr.length ≤ 1000000000) (hx : Row w lo3 1 LA l.length (strs l)) (hxl : l.length ≤ 1000000000) :
  Calls Tryz.prog 15 #[mapV A rs ca D ds cd st gl,.slice TR tr.length c2,.slice LA l.length c3] w (WaPost w (walkF rs ds st tr l)):=by
 have hC : McC w (w.alloc (.cells #[.slice A rs.length ca,.slice D ds.length cd,.string ⟨st.toArray⟩,.string ⟨gl.toArray⟩] 29)) w.heap.size lo A rs ca D ds cd st gl:=⟨hA.alloc _,Blk.new _ _ _,(Below.refl _ w).alloc (Nat.le_refl _) _⟩
 replace hC:=hC.below ((Below.refl _ _).alloc (Nat.le_refl _) (.cells #[.string ⟨#[]⟩,.slice none 0 0] 42))
 have hP : Blk ((w.alloc (.cells #[.slice A rs.length ca,.slice D ds.length cd,.string ⟨st.toArray⟩,.string ⟨gl.toArray⟩] 29)).alloc (.cells #[.string ⟨#[]⟩,.slice none 0 0] 42)) (w.heap.size + 1) 42 #[.string ⟨#[]⟩,.slice none 0 0]:=Blk.at_ _ (by simp)
 have HTR:=Lib.hid hr
 have HLX:=Lib.hid hx
 have HRI:=Lib.hid hRI
 have HMA:=Lib.hid hA
 clear hA hr hx hRI
 obtain ⟨R,hR⟩ : ∃ R,R = walkF rs ds st tr l:=⟨_,rfl⟩
 rw [← hR]
 have HF:=Lib.hid hR
 clear hR
 unfold mapV
 simp only [encStr]
 by_cases hbig : 500 < l.length
 ·have HV : Hid (R = wkBad 2):=Lib.hid (by rw [HF.out]; unfold walkF; rw [if_pos hbig])
  go_enter Tryz.func15,Tryz.ntmps15
  go_upto_region 1 with (fail)
  generalize ((w.alloc (.cells #[.slice A rs.length ca,.slice D ds.length cd,.string ⟨st.toArray⟩,.string ⟨gl.toArray⟩] 29)).alloc (.cells #[.string ⟨#[]⟩,.slice none 0 0] 42)) = w1 at *
  obtain ⟨z0,z1⟩:=hP.two_
  have f0:=hP.thaw 0
  have f1:=hP.thaw 1
  have hz6:=(hP.poke 0 (.string ⟨#[]⟩)).poke 1 (.slice none 0 0)
  have hb6 : Below w.heap.size w ((w1.setCell ⟨w.heap.size + 1,0,none⟩ (.string ⟨#[]⟩)).setCell ⟨w.heap.size + 1,1,none⟩ (.slice none 0 0)):=Below.setCell (Below.setCell hC.b (by simp) _) (by simp) _
  go_wp2_with fail
  refine bodyPost_ret (res_walkO _ _ (w.heap.size + 1) _ _ _ _ [] none 0 0 rfl rfl rfl rfl rfl (hz6.cell 0) (hz6.cell 1)) rfl ?_
  exact WaPost.bad HV.out hb6
 have HF2 : Hid (R = walkS rs ds tr l st (onceT (givesOf rs st)) 0):=Lib.hid (by rw [HF.out]; unfold walkF; rw [if_neg hbig])
 clear HF
 obtain ⟨T,hT⟩ : ∃ T,onceT (allT rs ds) = T:=⟨_,rfl⟩
 have hfew : T.length ≤ 10:=by rw [← hT]; exact HRI.out.few
 have HTU : Hid (T.Pairwise (· < ·)):=Lib.hid (by rw [← hT]; exact (onceT_spec _).1)
 have HT:=Lib.hid hT
 clear hT
 go_enter Tryz.func15,Tryz.ntmps15
 go_upto_region 3 with (fail)
 generalize ((w.alloc (.cells #[.slice A rs.length ca,.slice D ds.length cd,.string ⟨st.toArray⟩,.string ⟨gl.toArray⟩] 29)).alloc (.cells #[.string ⟨#[]⟩,.slice none 0 0] 42)) = w1 at *
 have hfp:=firstPoint_any lo ca cd A rs D ds st gl w1 hC.m HRI.out.rup HRI.out.st
 obtain ⟨m0,m1,m2,m3⟩:=hC.cells
 obtain ⟨th0,hth0⟩ : ∃ th0,th0 = onceT (givesOf rs st):=⟨_,rfl⟩
 rw [← hth0] at hfp HF2
 have HOK0 : Hid (ThOk T th0):=Lib.hid (by rw [hth0,← HT.out]; exact begin_ok st)
 clear hth0
 go_wp2_with fail
 refine hfp.mono ?_
 rintro e w3 ⟨PA,pc,rfl,hpr,hb3⟩
 clear hfp m0 m1 m2 m3
 have HC:=Lib.hid (hC.below hb3)
 have HP3:=Lib.hid (hP.below hb3)
 have hwz:=HC.out.b.size
 have hpb : Blk (w3.alloc (.cells #[.string ⟨st.toArray⟩,.slice PA th0.length pc] 42)) w3.heap.size 42 #[.string ⟨st.toArray⟩,.slice PA th0.length pc]:=Blk.new _ _ _
 have hbr : Below w3.heap.size w3 (w3.alloc (.cells #[.string ⟨st.toArray⟩,.slice PA th0.length pc] 42)):=(Below.refl _ _).alloc (Nat.le_refl _) _
 have HPA : Hid (Row (w3.alloc (.cells #[.string ⟨st.toArray⟩,.slice PA th0.length pc] 42)) (w.heap.size + 2) 1 PA th0.length (strs th0)):=Lib.hid ((hpr.weak hP.lt).alloc _)
 have HNE : Hid (0 < th0.length → ∀ a,PA = some a → a.block ≠ w3.heap.size):=Lib.hid (fun h0 a ha => by
  obtain ⟨b,off,e,_,hb,_⟩:=hpr.2 h0
  rw [e] at ha; injection ha with ha; subst ha
  simp; omega)
 clear hC hP hpr hb3
 go_wp2_with fail
 generalize w3.alloc (.cells #[.string ⟨st.toArray⟩,.slice PA th0.length pc] 42) = w4 at *
 go_loopw [10,23] (fun tv i wr => ∃ (k : Nat) (room : List UInt8) (th : List (List UInt8)) (PA : Option Addr) (pc : Nat) (t : Int),k ≤ l.length ∧ i = .int .i64 k ∧ tv = .int .i64 t ∧ Blk wr w3.heap.size 42 #[.string ⟨room.toArray⟩,.slice PA th.length pc] ∧ Hid (Row wr (w.heap.size + 2) 1 PA th.length (strs th)) ∧ Hid (0 < th.length → ∀ a,PA = some a → a.block ≠ w3.heap.size) ∧ Hid (ThOk T th) ∧ Hid (R = walkS rs ds tr (l.drop k) room th t) ∧ 0 ≤ t ∧ t ≤ k * 864000000 ∧ Below w3.heap.size w3 wr) (fun _ i _ => l.length - (intOf i).toNat)
 case atStart => exact ⟨0,st,th0,PA,pc,0,Nat.zero_le _,rfl,rfl,hpb,HPA,HNE,HOK0,Lib.hid HF2.out,Int.le_refl _,by simp,hbr⟩
 case round =>
  clear hpb hbr HPA HNE HOK0
  obtain ⟨k,room,th,PA,pc,t,hk,rfl,rfl,hB,HPA,HNE,HOK,HWS,ht0,ht1,hbr⟩:=hrel
  have hC:=HC.out.below hbr
  have hP:=HP3.out.below hbr
  have zs:=hB.lt
  have zr:=hbr.size
  have hpl:=HP3.out.lt
  have hthl : th.length ≤ 10:=Nat.le_trans (ThOk.len HTU.out HOK.out) hfew
  by_cases hkn : k < l.length
  ·obtain ⟨b,off,rfl,hbs,hcell⟩:=strs_at (HLX.out.below hC.b) hkn
   have y0:=hcell k hkn
   have HDR:=Lib.hid (drop_at l hkn)
   have hk500 : k ≤ 500:=by omega
   clear hcell
   generalize l[k] = key at *
   simp only [encStr] at y0
   obtain ⟨x0,x1,x2,x3⟩:=hC.cells
   go_wp2_with fail
   have hse:=rDoorAt_any lo ca cd A rs D ds st gl key wr hC.m
   unfold mapV at hse
   simp only [encStr] at hse
   refine hse.mono ?_
   rintro e w5 ⟨rfl,hb5⟩
   clear hse x0 x1 x2 x3 y0
   replace hbr:=hbr.trans (hb5.mono zr)
   replace hB:=hB.below hb5
   replace hP:=hP.below hb5
   replace hC:=hC.below hb5
   replace HPA:=Lib.hid (HPA.out.below hb5)
   clear hb5
   obtain ⟨z0,z1⟩:=hP.two_
   have f0:=hP.thaw 0
   have f1:=hP.thaw 1
   have hz6:=(hP.poke 0 (.string ⟨#[]⟩)).poke 1 (.slice none 0 0)
   have hb6 : Below w.heap.size w ((w5.setCell ⟨w.heap.size + 1,0,none⟩ (.string ⟨#[]⟩)).setCell ⟨w.heap.size + 1,1,none⟩ (.slice none 0 0)):=Below.setCell (Below.setCell hC.b (by simp) _) (by simp) _
   by_cases hin : key ∈ ds.map DoorE.key
   ·have hidx:=List.idxOf_lt_length_of_mem hin
    obtain ⟨r,hrr⟩ : ∃ r,(ds.map DoorE.key).idxOf key = r:=⟨_,rfl⟩
    have HKI : Hid (keyI (ds.map DoorE.key) key = (r : Int)):=Lib.hid (by rw [← hrr]; exact if_pos hin)
    have hrd : r < ds.length:=by rw [hrr] at hidx; simpa using hidx
    have hke2 : ds[r].key = key:=by
     have:=List.getElem_idxOf hidx
     rw [List.getElem_map] at this
     simp only [hrr] at this
     exact this
    rw [HKI.out]
    have HWK:=Lib.hid (walk_some (rs:=rs) (tr:=tr) (ks:=l.drop (k + 1)) (room:=room) (th:=th) (t:=t) HRI.out.dup hrd)
    rw [hke2] at HWK
    have HMEM:=Lib.hid (List.getElem_mem hrd)
    obtain ⟨bd,doff,rfl,hbd,hdc⟩:=(HC.out.m).door (by omega)
    have hdcell:=hdc r hrd
    clear hin hidx hrr hke2 hdc HKI
    have hrd500 : ds.length ≤ 500:=HRI.out.dl
    have hr0 : (0 : Int) ≤ (r : Int):=by omega
    have hr1 : (r : Int) < (ds.length : Int):=by omega
    have hnr : ¬ (r : Int) < 0:=by omega
    generalize ds[r] = d at *
    simp only [encStr] at hdcell
    have HNR : Hid (∀ W,Below w.heap.size w W → Row W lo 1 d.N d.needs.length (strs d.needs) ∧ Row W lo 1 d.T d.takes.length (strs d.takes) ∧ MapW W lo A rs (some ⟨bd,doff,none⟩) ds):=Lib.hid (fun W hW => ⟨((HMA.out.below hW).needs _ HMEM.out).1,((HMA.out.below hW).takes _ HMEM.out).1,HMA.out.below hW⟩)
    have HNL:=Lib.hid (⟨(hC.m.s.dn _ HMEM.out).1,(hC.m.s.dx _ HMEM.out).1⟩ : _ ∧ _)
    have HSC : Hid (∀ W,Below w5.heap.size w5 W → (fun w' : World => w'.cell? ⟨w3.heap.size,0,none⟩ = some (.string ⟨room.toArray⟩) ∧ w'.cell? ⟨w3.heap.size,1,none⟩ = some (.slice PA th.length pc) ∧ w'.cell? ⟨w.heap.size,0,none⟩ = some (.slice A rs.length ca) ∧ w'.cell? ⟨w.heap.size,1,none⟩ = some (.slice (some ⟨bd,doff,none⟩) ds.length cd) ∧ w'.cell? ⟨w.heap.size,2,none⟩ = some (.string ⟨st.toArray⟩) ∧ w'.cell? ⟨w.heap.size,3,none⟩ = some (.string ⟨gl.toArray⟩) ∧ w'.cell? ⟨bd,doff + r * 7,none⟩ = some (.string ⟨d.key.toArray⟩) ∧ w'.cell? ⟨bd,doff + r * 7 + 1,none⟩ = some (.string ⟨d.src.toArray⟩) ∧ w'.cell? ⟨bd,doff + r * 7 + 2,none⟩ = some (.string ⟨d.dst.toArray⟩) ∧ w'.cell? ⟨bd,doff + r * 7 + 3,none⟩ = some (.int .i64 d.time) ∧ w'.cell? ⟨bd,doff + r * 7 + 4,none⟩ = some (.slice d.N d.needs.length d.nc) ∧ w'.cell? ⟨bd,doff + r * 7 + 5,none⟩ = some (.slice d.T d.takes.length d.tc) ∧ w'.cell? ⟨bd,doff + r * 7 + 6,none⟩ = some (.string ⟨d.trick.toArray⟩)) W):=Lib.hid (fun W hW => by
     have hw3 : Below w3.heap.size w3 W:=hbr.trans (hW.mono hbr.size)
     obtain ⟨m0,m1,m2,m3⟩:=(HC.out.below hw3).cells
     obtain ⟨b0,b1⟩:=(hB.below hW).two_
     obtain ⟨q0,q1,q2,q3,q4,q5,q6⟩:=hdcell
     exact ⟨b0,b1,m0,m1,m2,m3,(hw3.cell (p:=⟨bd,doff + r * 7,none⟩) hbd).trans q0,(hw3.cell (p:=⟨bd,doff + r * 7 + 1,none⟩) hbd).trans q1,(hw3.cell (p:=⟨bd,doff + r * 7 + 2,none⟩) hbd).trans q2,(hw3.cell (p:=⟨bd,doff + r * 7 + 3,none⟩) hbd).trans q3,(hw3.cell (p:=⟨bd,doff + r * 7 + 4,none⟩) hbd).trans q4,(hw3.cell (p:=⟨bd,doff + r * 7 + 5,none⟩) hbd).trans q5,(hw3.cell (p:=⟨bd,doff + r * 7 + 6,none⟩) hbd).trans q6⟩)
    have HPW : Hid (∀ W,Below w5.heap.size w5 W → Row W (w.heap.size + 2) 1 PA th.length (strs th)):=Lib.hid (fun W hW => HPA.out.below hW)
    have HB5 : Hid (∀ W,Below w5.heap.size w5 W → Blk W w3.heap.size 42 #[.string ⟨room.toArray⟩,.slice PA th.length pc]):=Lib.hid (fun W hW => hB.below hW)
    have hbw5:=hC.b
    clear hdcell z0 z1 f0 f1 hz6 hb6 hB hP hC
    go_upto_region 10 with (fail)
    go_cut [14] from 33 to 41 (fun v wx => v = .int .i64 (goE tr room th d) ∧ Below w5.heap.size w5 wx)
    case first =>
     have hbx : Below w5.heap.size w5 w5.drew:=below_drewN' (Below.refl _ _) 1
     have hsc:=HSC.out _ hbx
     refine wp_region_held_drew (S:=(fun w' => w'.cell? ⟨w3.heap.size,0,none⟩ = some (.string ⟨room.toArray⟩) ∧ w'.cell? ⟨w3.heap.size,1,none⟩ = some (.slice PA th.length pc) ∧ w'.cell? ⟨w.heap.size,0,none⟩ = some (.slice A rs.length ca) ∧ w'.cell? ⟨w.heap.size,1,none⟩ = some (.slice (some ⟨bd,doff,none⟩) ds.length cd) ∧ w'.cell? ⟨w.heap.size,2,none⟩ = some (.string ⟨st.toArray⟩) ∧ w'.cell? ⟨w.heap.size,3,none⟩ = some (.string ⟨gl.toArray⟩) ∧ w'.cell? ⟨bd,doff + r * 7,none⟩ = some (.string ⟨d.key.toArray⟩) ∧ w'.cell? ⟨bd,doff + r * 7 + 1,none⟩ = some (.string ⟨d.src.toArray⟩) ∧ w'.cell? ⟨bd,doff + r * 7 + 2,none⟩ = some (.string ⟨d.dst.toArray⟩) ∧ w'.cell? ⟨bd,doff + r * 7 + 3,none⟩ = some (.int .i64 d.time) ∧ w'.cell? ⟨bd,doff + r * 7 + 4,none⟩ = some (.slice d.N d.needs.length d.nc) ∧ w'.cell? ⟨bd,doff + r * 7 + 5,none⟩ = some (.slice d.T d.takes.length d.tc) ∧ w'.cell? ⟨bd,doff + r * 7 + 6,none⟩ = some (.string ⟨d.trick.toArray⟩))) (by kernel_rfl) (hsc) (fun hHeld => ?_)
     (refine wpAnyH_take (i:=0) (v:=?_) (by (simp only [List.getElem?_toArray,List.getElem?_cons_zero]; rfl)) (by kernel_rfl) (by kernel_rfl) (by kernel_rfl) (by exact fun _ _ _ h => h) (Or.inl ⟨by rfl,?_⟩) (by assumption) ?_; (rotate_left 1; (intro w hSw; (try dsimp only at hSw); go_simp); (try with_reducible rfl)); (try simp only [Act.put,List.setIfInBounds_toArray,List.set_cons_zero,List.set_cons_succ]))
     (refine wpAnyH_take (i:=1) (v:=?_) (by (simp only [List.getElem?_toArray,List.getElem?_cons_succ,List.getElem?_cons_zero]; rfl)) (by kernel_rfl) (by kernel_rfl) (by kernel_rfl) (by exact fun _ _ _ h => h) (Or.inl ⟨by rfl,?_⟩) (by assumption) ?_; (rotate_left 1; (intro w hSw; (try dsimp only at hSw); go_simp); (try with_reducible rfl)); (try simp only [Act.put,List.setIfInBounds_toArray,List.set_cons_zero,List.set_cons_succ]))
     (refine wpAnyH_take (i:=2) (v:=?_) (by (simp only [List.getElem?_toArray,List.getElem?_cons_succ,List.getElem?_cons_zero]; rfl)) (by kernel_rfl) (by kernel_rfl) (by kernel_rfl) (by exact fun _ _ _ h => h) (Or.inl ⟨by rfl,?_⟩) (by assumption) ?_; (rotate_left 1; (intro w hSw; (try dsimp only at hSw); go_simp); (try with_reducible rfl)); (try simp only [Act.put,List.setIfInBounds_toArray,List.set_cons_zero,List.set_cons_succ]))
     (refine wpAnyH_take (i:=3) (v:=?_) (by (simp only [List.getElem?_toArray,List.getElem?_cons_succ,List.getElem?_cons_zero]; rfl)) (by kernel_rfl) (by kernel_rfl) (by kernel_rfl) (by exact fun _ _ _ h => h) (Or.inl ⟨by rfl,?_⟩) (by assumption) ?_; (rotate_left 1; (intro w hSw; (try dsimp only at hSw); go_simp); (try with_reducible rfl)); (try simp only [Act.put,List.setIfInBounds_toArray,List.set_cons_zero,List.set_cons_succ]))
     (refine wpAnyH_take (i:=4) (v:=?_) (by (simp only [List.getElem?_toArray,List.getElem?_cons_succ,List.getElem?_cons_zero]; rfl)) (by kernel_rfl) (by kernel_rfl) (by kernel_rfl) (by exact fun _ _ _ h => h) (Or.inl ⟨by rfl,?_⟩) (by assumption) ?_; (rotate_left 1; (intro w hSw; (try dsimp only at hSw); go_simp); (try with_reducible rfl)); (try simp only [Act.put,List.setIfInBounds_toArray,List.set_cons_zero,List.set_cons_succ]))
     (refine wpAnyH_take (i:=5) (v:=?_) (by (simp only [List.getElem?_toArray,List.getElem?_cons_succ,List.getElem?_cons_zero]; rfl)) (by kernel_rfl) (by kernel_rfl) (by kernel_rfl) (by exact fun _ _ _ h => h) (Or.inl ⟨by rfl,?_⟩) (by assumption) ?_; (rotate_left 1; (intro w hSw; (try dsimp only at hSw); go_simp); (try with_reducible rfl)); (try simp only [Act.put,List.setIfInBounds_toArray,List.set_cons_zero,List.set_cons_succ]))
     (refine wpAnyH_take (i:=6) (v:=?_) (by (simp only [List.getElem?_toArray,List.getElem?_cons_succ,List.getElem?_cons_zero]; rfl)) (by kernel_rfl) (by kernel_rfl) (by kernel_rfl) (by exact fun _ _ _ h => h) (Or.inl ⟨by rfl,?_⟩) (by assumption) ?_; (rotate_left 1; (intro w hSw; (try dsimp only at hSw); go_simp); (try with_reducible rfl)); (try simp only [Act.put,List.setIfInBounds_toArray,List.set_cons_zero,List.set_cons_succ]))
     refine wpAnyH_ready (rs:=[7]) (by kernel_rfl) (by simp) ?_
     refine AllReadyH.cons rfl (fun K hK => ?_) AllReadyH.nil
     go_simp
     go_at_call 56
     refine (rdoorFault_any lo2 (w.heap.size + 2) lo c2 pc TR PA tr th room d _ (HTR.out.below (hbw5.trans (hbx.mono hbw5.size))) hrl (HPW.out _ hbx) (by omega) (HNR.out _ (hbw5.trans (hbx.mono hbw5.size))).1 (by have:=HNL.out.1; omega)).mono ?_
     rintro e wa ⟨rfl,hb⟩
     replace hbx:=hbx.trans (hb.mono hbx.size)
     have hsc:=HSC.out _ hbx
     clear hb
     go_wp2_with fail
     refine hK.out _ _ (hsc) (fun hHeld => ?_)
     clear hK K
     (try simp only [Act.put,List.setIfInBounds_toArray,List.set_cons_zero,List.set_cons_succ])
     (refine wpAnyH_take (i:=8) (v:=?_) (by (simp only [List.getElem?_toArray,List.getElem?_cons_succ,List.getElem?_cons_zero]; rfl)) (by kernel_rfl) (by kernel_rfl) (by kernel_rfl) (by exact fun _ _ _ h => h) (Or.inl ⟨by rfl,?_⟩) (by assumption) ?_; (rotate_left 1; (intro w hSw; (try dsimp only at hSw); go_simp); (try with_reducible rfl)); (try simp only [Act.put,List.setIfInBounds_toArray,List.set_cons_zero,List.set_cons_succ]))
     refine wpAnyH_done (by kernel_rfl) ?_ _
     go_wp2_with fail
     go_meet
     exact ⟨rfl,hbx⟩
    case rest =>
    obtain ⟨rfl,hbx⟩:=hcut
    obtain ⟨ge,hge⟩ : ∃ ge,ge = goE tr room th d:=⟨_,rfl⟩
    rw [← hge] at HWK ⊢
    have HGE:=Lib.hid hge
    clear hge
    have hbr8 : Below w3.heap.size w3 wc:=hbr.trans (hbx.mono hbr.size)
    have hC:=HC.out.below hbr8
    have hP:=HP3.out.below hbr8
    by_cases h0 : ge = 0
    ·have d0 : (ge != 0) = false:=by rw [h0]; rfl
     have HW8 : Hid (R = walkS rs ds tr (l.drop (k + 1)) d.dst (thru rs th d) (t + d.time)):=Lib.hid (by rw [HWS.out,HDR.out,HWK.out,if_neg (fun h => h h0)])
     have HOK8 : Hid (ThOk T (thru rs th d)):=Lib.hid (by have:=HOK.out; rw [← HT.out] at this ⊢; exact thru_ok d this)
     have hdt:=HRI.out.time _ HMEM.out
     have HDST:=Lib.hid (HRI.out.dst _ HMEM.out)
     clear h0
     go_upto_region 13 with (fail)
     have hbz : Below w5.heap.size w5 wc.drew:=hbx.drew
     have hsc:=HSC.out _ hbz
     refine wp_region_heldK 8 (fun w' => w'.cell? ⟨w3.heap.size,0,none⟩ = some (.string ⟨room.toArray⟩) ∧ w'.cell? ⟨w3.heap.size,1,none⟩ = some (.slice PA th.length pc) ∧ w'.cell? ⟨w.heap.size,0,none⟩ = some (.slice A rs.length ca) ∧ w'.cell? ⟨w.heap.size,1,none⟩ = some (.slice (some ⟨bd,doff,none⟩) ds.length cd) ∧ w'.cell? ⟨w.heap.size,2,none⟩ = some (.string ⟨st.toArray⟩) ∧ w'.cell? ⟨w.heap.size,3,none⟩ = some (.string ⟨gl.toArray⟩) ∧ w'.cell? ⟨bd,doff + r * 7,none⟩ = some (.string ⟨d.key.toArray⟩) ∧ w'.cell? ⟨bd,doff + r * 7 + 1,none⟩ = some (.string ⟨d.src.toArray⟩) ∧ w'.cell? ⟨bd,doff + r * 7 + 2,none⟩ = some (.string ⟨d.dst.toArray⟩) ∧ w'.cell? ⟨bd,doff + r * 7 + 3,none⟩ = some (.int .i64 d.time) ∧ w'.cell? ⟨bd,doff + r * 7 + 4,none⟩ = some (.slice d.N d.needs.length d.nc) ∧ w'.cell? ⟨bd,doff + r * 7 + 5,none⟩ = some (.slice d.T d.takes.length d.tc) ∧ w'.cell? ⟨bd,doff + r * 7 + 6,none⟩ = some (.string ⟨d.trick.toArray⟩)) (fun _ => True) (by kernel_rfl) (trivial) (hsc) (fun hT hS => ?_)
     (refine wpAnyK_take1 (i:=0) (v:=?_) (by (simp only [List.getElem?_toArray,List.getElem?_cons_zero]; rfl)) (by kernel_rfl) (by kernel_rfl) (by kernel_rfl) (by decide) (by kernel_rfl) (by kernel_rfl) (by exact fun _ _ _ h => h) (Or.inl ⟨by rfl,?_⟩) (by assumption) (by assumption) ?_; (rotate_left 1; (intro w hSw; (try dsimp only at hSw); go_simp); (try with_reducible rfl)); (try simp only [Act.put,List.setIfInBounds_toArray,List.set_cons_zero,List.set_cons_succ]))
     (refine wpAnyK_take1 (i:=1) (v:=?_) (by (simp only [List.getElem?_toArray,List.getElem?_cons_succ,List.getElem?_cons_zero]; rfl)) (by kernel_rfl) (by kernel_rfl) (by kernel_rfl) (by decide) (by kernel_rfl) (by kernel_rfl) (by exact fun _ _ _ h => h) (Or.inl ⟨by rfl,?_⟩) (by assumption) (by assumption) ?_; (rotate_left 1; (intro w hSw; (try dsimp only at hSw); go_simp); (try with_reducible rfl)); (try simp only [Act.put,List.setIfInBounds_toArray,List.set_cons_zero,List.set_cons_succ]))
     (refine wpAnyK_take2 (i:=2) (v:=?_) (by (simp only [List.getElem?_toArray,List.getElem?_cons_succ,List.getElem?_cons_zero]; rfl)) (by kernel_rfl) (by kernel_rfl) (by kernel_rfl) (by decide) (by exact fun _ _ _ h => h) (Or.inl ⟨by rfl,?_⟩) (by assumption) (by assumption) ?_; (rotate_left 1; (intro w hSw; (try dsimp only at hSw); go_simp); (try with_reducible rfl)); (try simp only [Act.put,List.setIfInBounds_toArray,List.set_cons_zero,List.set_cons_succ]))
     (refine wpAnyK_take1 (i:=3) (v:=?_) (by (simp only [List.getElem?_toArray,List.getElem?_cons_succ,List.getElem?_cons_zero]; rfl)) (by kernel_rfl) (by kernel_rfl) (by kernel_rfl) (by decide) (by kernel_rfl) (by kernel_rfl) (by exact fun _ _ _ h => h) (Or.inl ⟨by rfl,?_⟩) (by assumption) (by assumption) ?_; (rotate_left 1; (intro w hSw; (try dsimp only at hSw); go_simp); (try with_reducible rfl)); (try simp only [Act.put,List.setIfInBounds_toArray,List.set_cons_zero,List.set_cons_succ]))
     (refine wpAnyK_take2 (i:=4) (v:=?_) (by (simp only [List.getElem?_toArray,List.getElem?_cons_succ,List.getElem?_cons_zero]; rfl)) (by kernel_rfl) (by kernel_rfl) (by kernel_rfl) (by decide) (by exact fun _ _ _ h => h) (Or.inl ⟨by rfl,?_⟩) (by assumption) (by assumption) ?_; (rotate_left 1; (intro w hSw; (try dsimp only at hSw); go_simp); (try with_reducible rfl)); (try simp only [Act.put,List.setIfInBounds_toArray,List.set_cons_zero,List.set_cons_succ]))
     (refine wpAnyK_take2 (i:=5) (v:=?_) (by (simp only [List.getElem?_toArray,List.getElem?_cons_succ,List.getElem?_cons_zero]; rfl)) (by kernel_rfl) (by kernel_rfl) (by kernel_rfl) (by decide) (by exact fun _ _ _ h => h) (Or.inl ⟨by rfl,?_⟩) (by assumption) (by assumption) ?_; (rotate_left 1; (intro w hSw; (try dsimp only at hSw); go_simp); (try with_reducible rfl)); (try simp only [Act.put,List.setIfInBounds_toArray,List.set_cons_zero,List.set_cons_succ]))
     (refine wpAnyK_take1 (i:=6) (v:=?_) (by (simp only [List.getElem?_toArray,List.getElem?_cons_succ,List.getElem?_cons_zero]; rfl)) (by kernel_rfl) (by kernel_rfl) (by kernel_rfl) (by decide) (by kernel_rfl) (by kernel_rfl) (by exact fun _ _ _ h => h) (Or.inl ⟨by rfl,?_⟩) (by assumption) (by assumption) ?_; (rotate_left 1; (intro w hSw; (try dsimp only at hSw); go_simp); (try with_reducible rfl)); (try simp only [Act.put,List.setIfInBounds_toArray,List.set_cons_zero,List.set_cons_succ]))
     refine wpAnyK_ready (rs:=[7]) (by kernel_rfl) (by simp) ?_
     refine AllReadyK.cons rfl (fun K hK => ?_) AllReadyK.nil
     go_simp
     go_at_call 57
     have hnr:=HNR.out _ (hbw5.trans (hbz.mono hbw5.size))
     refine (through_any lo ca cd (w.heap.size + 2) pc A rs (some ⟨bd,doff,none⟩) ds st gl PA th room d _ hnr.2.2 HRI.out.rup HDST.out (HPW.out _ hbz) (by omega) hnr.2.1 (by have:=HNL.out.2; omega)).mono ?_
     clear hnr
     rintro e wa ⟨A7,c7,rfl,hr7,hb⟩
     have hlo:=(HB5.out _ hbz).lt
     replace hbz:=hbz.trans (hb.mono hbz.size)
     have hsc:=HSC.out _ hbz
     have hbA:=HB5.out _ hbz
     have HR7:=Lib.hid hr7
     clear hb hr7
     obtain ⟨res,hres⟩ : ∃ res,res = thru rs th d:=⟨_,rfl⟩
     rw [← hres] at HW8 HOK8 HR7 ⊢
     clear hres
     go_wp2_with fail
     refine hK.out _ _ (trivial) (hsc) (fun hT hS => ?_)
     clear hK K
     (try simp only [Act.put,List.setIfInBounds_toArray,List.set_cons_zero,List.set_cons_succ])
     refine wpAnyK_ready (rs:=[8]) (by kernel_rfl) (by simp) ?_
     refine AllReadyK.consT (by kernel_rfl) rfl (fun K hK => ?_) AllReadyK.nil
     obtain ⟨z0,z1⟩:=hbA.two_
     have f0:=hbA.thaw 0
     have f1:=hbA.thaw 1
     have zA:=hbA.lt
     go_simp
     refine hK.out _ _ (trivial) (fun hT => ?_)
     clear hK K
     (try simp only [Act.put,List.setIfInBounds_toArray,List.set_cons_zero,List.set_cons_succ])
     refine wpAnyK_done (by kernel_rfl) ?_ _
     obtain ⟨k0,k1,k2,k3,k4,k5,k6,k7,k8,k9,-⟩:=hsc
     have zm : w.heap.size < w3.heap.size:=by omega
     have hbrA : Below w3.heap.size w3 wa:=hbr.trans (hbz.mono hbr.size)
     have HPA2 : Hid (Row ((wa.setCell ⟨w3.heap.size,0,none⟩ (.string ⟨d.dst.toArray⟩)).setCell ⟨w3.heap.size,1,none⟩ (.slice A7 res.length c7)) (w.heap.size + 2) 1 A7 res.length (strs res)):=Lib.hid (((HR7.out.set_low _ 0 _ hlo).set_low _ 1 _ hlo).weak (by simp at hlo ⊢; omega))
     have HNE2 : Hid (0 < res.length → ∀ a,A7 = some a → a.block ≠ w3.heap.size):=Lib.hid (fun h0 a ha => by
      obtain ⟨b,off,e,hl,_,_⟩:=HR7.out.2 h0
      rw [e] at ha; injection ha with ha; subst ha
      simp at hl hlo ⊢; omega)
     have hbP:=(hbA.poke 0 (.string ⟨d.dst.toArray⟩)).poke 1 (.slice A7 res.length c7)
     clear z0 z1 f0 f1 hbA HR7 k0 k1 k2 k4 k5 k6 k7 k8 hT
     go_wp2_with fail
     go_roundw
     case rel => exact ⟨k + 1,d.dst,res,A7,c7,t + d.time,by omega,by go_num,rfl,by simpa using hbP,HPA2,HNE2,HOK8,HW8,by omega,by omega,Below.setCell (Below.setCell hbrA (by simp) _) (by simp) _⟩
     case measure => simp [intOf]; omega
    ·have HV : Hid (R = wkBad ge):=Lib.hid (by rw [HWS.out,HDR.out,HWK.out,if_pos h0])
     have d0 : (ge != 0) = true:=bne_iff_ne.2 h0
     clear h0
     obtain ⟨z0,z1⟩:=hP.two_
     have f0:=hP.thaw 0
     have f1:=hP.thaw 1
     have hz6:=(hP.poke 0 (.string ⟨#[]⟩)).poke 1 (.slice none 0 0)
     have hb6 : Below w.heap.size w ((wc.setCell ⟨w.heap.size + 1,0,none⟩ (.string ⟨#[]⟩)).setCell ⟨w.heap.size + 1,1,none⟩ (.slice none 0 0)):=Below.setCell (Below.setCell hC.b (by simp) _) (by simp) _
     go_wp2_with fail
     refine bodyPost_ret (res_walkO _ _ (w.heap.size + 1) _ _ _ _ [] none 0 0 rfl rfl rfl rfl rfl (hz6.cell 0) (hz6.cell 1)) rfl ?_
     exact WaPost.bad HV.out hb6
   ·have HV : Hid (R = wkBad 8):=Lib.hid (by rw [HWS.out,HDR.out]; exact walk_none hin)
    rw [keyI_none hin]
    clear hin
    go_wp2_with fail
    refine bodyPost_ret (res_walkO _ _ (w.heap.size + 1) _ _ _ _ [] none 0 0 rfl rfl rfl rfl rfl (hz6.cell 0) (hz6.cell 1)) rfl ?_
    exact WaPost.bad HV.out hb6
  ·have hke : k = l.length:=by omega
   subst hke
   have HV : Hid (R = ⟨0,room,th,t⟩):=Lib.hid (by rw [HWS.out,List.drop_length]; rfl)
   obtain ⟨b0,b1⟩:=hB.two_
   obtain ⟨z0,z1⟩:=hP.two_
   have f0:=hP.thaw 0
   have f1:=hP.thaw 1
   have hz6:=(hP.poke 0 (.string ⟨room.toArray⟩)).poke 1 (.slice PA th.length pc)
   have hb6 : Below w.heap.size w ((wr.setCell ⟨w.heap.size + 1,0,none⟩ (.string ⟨room.toArray⟩)).setCell ⟨w.heap.size + 1,1,none⟩ (.slice PA th.length pc)):=Below.setCell (Below.setCell hC.b (by simp) _) (by simp) _
   have HR8 : Hid (Row ((wr.setCell ⟨w.heap.size + 1,0,none⟩ (.string ⟨room.toArray⟩)).setCell ⟨w.heap.size + 1,1,none⟩ (.slice PA th.length pc)) w.heap.size 1 PA th.length (strs th)):=Lib.hid (((HPA.out.set_low _ 0 _ (by omega)).set_low _ 1 _ (by omega)).weak (by omega))
   go_wp2_with fail
   refine bodyPost_ret (res_walkO _ _ (w.heap.size + 1) _ _ _ _ room PA th.length pc rfl rfl rfl rfl rfl (hz6.cell 0) (hz6.cell 1)) rfl ?_
   rw [HV.out]
   exact ⟨PA,pc,rfl,HR8.out,hb6⟩
end Go.Proofs.YtijdbbnnkogkjaaGreatDoor
