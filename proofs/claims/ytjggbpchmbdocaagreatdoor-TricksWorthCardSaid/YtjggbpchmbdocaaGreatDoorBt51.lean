/- Texts of this seat, laid together: MqY MqZ. -/
import Derived.Test.YtjggbpchmbdocaaGreatDoorBt28
/- The walk of the reference's MapFault. -/
set_option linter.unusedVariables false
set_option linter.unusedSimpArgs false
namespace Go.Proofs.YtjggbpchmbdocaaGreatDoor
open Go.RowKit

theorem MapW.roomC {w : World} {lo b off : Nat} {rs : List RoomE} {D : Option Addr} {ds : List DoorE} (h : MapW w lo (some ⟨b,off,none⟩) rs D ds) {k : Nat} (hk : k < rs.length) : w.cell? ⟨b,off + k * 2,none⟩ = some (encStr rs[k].key):=by
 obtain ⟨b',off',e,_,hc⟩:=h.room (by omega)
 cases e
 exact (hc k hk).1
theorem MapW.doorC {w : World} {lo b off : Nat} {A : Option Addr} {rs : List RoomE} {ds : List DoorE} (h : MapW w lo A rs (some ⟨b,off,none⟩) ds) {k : Nat} (hk : k < ds.length) : w.cell? ⟨b,off + k * 7,none⟩ = some (encStr ds[k].key):=by
 obtain ⟨b',off',e,_,hc⟩:=h.door (by omega)
 cases e
 exact (hc k hk).1
theorem rthings_any (A : Option Addr) (c lo : Nat) (l : List (List UInt8)) (w : World) (hr : Row w lo 1 A l.length (strs l)) (hl : l.length ≤ 1000 ∧ ∀ s ∈ l,s.length ≤ 1000000) :
  Calls Tryz.prog 69 #[.slice A l.length c,.int .i64 10] w fun e w' => e = .returned (.int .i64 (thingsE l)) ∧ Below w.heap.size w w' :=
 keysFault_any A c lo l 10 w hr (by omega) (fun s hs => by have:=hl.2 s hs; omega) (by decide)
section
variable {w W W' : World} {kb g lo ca cd : Nat} {A : Option Addr} {rs : List RoomE} {D : Option Addr} {ds : List DoorE} {st gl : List UInt8} {r : RoomE} {d : DoorE}
structure RoC (w W : World) (kb g lo : Nat) (A : Option Addr) (rs : List RoomE) (ca : Nat) (D : Option Addr) (ds : List DoorE) (cd : Nat) (st gl : List UInt8) (r : RoomE) : Prop where
  m : McC w W g lo A rs ca D ds cd st gl
  bl : Blk W kb 88 #[.string ⟨r.key.toArray⟩, .slice r.B r.gives.length r.c]
  gv : Row W lo 1 r.B r.gives.length (strs r.gives)
theorem RoC.below (h : RoC w W kb g lo A rs ca D ds cd st gl r) (hb : Below W.heap.size W W') : RoC w W' kb g lo A rs ca D ds cd st gl r:=⟨h.m.below hb,h.bl.below hb,h.gv.below hb⟩
theorem RoC.drewN (h : RoC w W kb g lo A rs ca D ds cd st gl r) (n : Nat) : RoC w (W.drewN n) kb g lo A rs ca D ds cd st gl r:=h.below (below_drewN' (Below.refl _ _) n)
theorem RoC.cells (h : RoC w W kb g lo A rs ca D ds cd st gl r) : W.cell? ⟨kb,0,none⟩ = some (.string ⟨r.key.toArray⟩) ∧ W.cell? ⟨kb,1,none⟩ = some (.slice r.B r.gives.length r.c):=⟨h.bl.cell 0,h.bl.cell 1⟩
structure DoC (w W : World) (kb g lo : Nat) (A : Option Addr) (rs : List RoomE) (ca : Nat) (D : Option Addr) (ds : List DoorE) (cd : Nat) (st gl : List UInt8) (d : DoorE) : Prop where
  m : McC w W g lo A rs ca D ds cd st gl
  bl : Blk W kb 120 #[.string ⟨d.key.toArray⟩, .string ⟨d.src.toArray⟩, .string ⟨d.dst.toArray⟩, .int .i64 d.time, .slice d.N d.needs.length d.nc, .slice d.T d.takes.length d.tc, .string ⟨d.trick.toArray⟩]
  n : Row W lo 1 d.N d.needs.length (strs d.needs)
  t : Row W lo 1 d.T d.takes.length (strs d.takes)
theorem DoC.below (h : DoC w W kb g lo A rs ca D ds cd st gl d) (hb : Below W.heap.size W W') : DoC w W' kb g lo A rs ca D ds cd st gl d:=⟨h.m.below hb,h.bl.below hb,h.n.below hb,h.t.below hb⟩
theorem DoC.drewN (h : DoC w W kb g lo A rs ca D ds cd st gl d) (n : Nat) : DoC w (W.drewN n) kb g lo A rs ca D ds cd st gl d:=h.below (below_drewN' (Below.refl _ _) n)
theorem DoC.drew (h : DoC w W kb g lo A rs ca D ds cd st gl d) : DoC w W.drew kb g lo A rs ca D ds cd st gl d:=h.below (below_drewN' (Below.refl _ _) 1)
theorem DoC.alloc (h : DoC w W kb g lo A rs ca D ds cd st gl d) (o : Obj) : DoC w (W.alloc o) kb g lo A rs ca D ds cd st gl d:=h.below ((Below.refl _ _).alloc (Nat.le_refl _) o)
theorem DoC.cells (h : DoC w W kb g lo A rs ca D ds cd st gl d) : W.cell? ⟨kb,0,none⟩ = some (.string ⟨d.key.toArray⟩) ∧ W.cell? ⟨kb,1,none⟩ = some (.string ⟨d.src.toArray⟩) ∧ W.cell? ⟨kb,2,none⟩ = some (.string ⟨d.dst.toArray⟩) ∧ W.cell? ⟨kb,3,none⟩ = some (.int .i64 d.time) ∧ W.cell? ⟨kb,4,none⟩ = some (.slice d.N d.needs.length d.nc) ∧ W.cell? ⟨kb,5,none⟩ = some (.slice d.T d.takes.length d.tc) ∧ W.cell? ⟨kb,6,none⟩ = some (.string ⟨d.trick.toArray⟩) :=
 ⟨h.bl.cell 0,h.bl.cell 1,h.bl.cell 2,h.bl.cell 3,h.bl.cell 4,h.bl.cell 5,h.bl.cell 6⟩
end
set_option maxHeartbeats 8000000 in
set_option maxRecDepth 100000 in
theorem mapFault_any (lo ca cd : Nat) (A : Option Addr) (rs : List RoomE) (D : Option Addr) (ds : List DoorE) (st gl : List UInt8) (w : World) (hA : MapW w lo A rs D ds) :
  Calls Tryz.prog 115 #[mapV A rs ca D ds cd st gl] w fun e w' => e = .returned (.int .i64 (mapE rs ds st gl)) ∧ Below w.heap.size w w':=by
 have hl:=hA.s.rl;have hl2:=hA.s.dl
 have hC : McC w (w.alloc (.cells #[.slice A rs.length ca,.slice D ds.length cd,.string ⟨st.toArray⟩,.string ⟨gl.toArray⟩] 29)) w.heap.size lo A rs ca D ds cd st gl:=⟨hA.alloc _,Blk.new _ _ _,(Below.refl _ w).alloc (Nat.le_refl _) _⟩
 have HM : Hid (mapE rs ds st gl = if roomsE rs ≠ 0 then roomsE rs else if doorsE rs ds ≠ 0 then doorsE rs ds else if !hasR rs st || !hasR rs gl then 8 else if 10 < (onceT (allT rs ds)).length ∨ 12 < (onceT (allK ds)).length then 2 else 0):=Lib.hid rfl;have HMR : Hid (∀ {x : Int},roomsE rs = x → x ≠ 0 → mapE rs ds st gl = x):=Lib.hid (fun h hx => by rw [HM.out,if_pos (by rw [h]; exact hx),h]);clear hA;unfold mapV;simp only [encStr]
 by_cases hbig : 100 < rs.length
 ·have HV:=Lib.hid (HMR.out (x:=2) (by unfold roomsE; rw [if_pos hbig]) (by decide))
  go_enter Tryz.func115,Tryz.ntmps115
  go_wp2_with fail;go_ret;exact ⟨ret_int' HV.out.symm,hC.b⟩
 have HBIG:=Lib.hid hbig
 go_enter Tryz.func115,Tryz.ntmps115
 go_wp2_with fail;clear hbig;generalize w.alloc (.cells #[.slice A rs.length ca,.slice D ds.length cd,.string ⟨st.toArray⟩,.string ⟨gl.toArray⟩] 29) = w0 at *
 go_loopw [16] (fun i wr => ∃ k : Nat,k ≤ rs.length ∧ i = .int .i64 k ∧ Hid (∀ j,j < k → roomAt rs j = 0) ∧ McC w wr w.heap.size lo A rs ca D ds cd st gl) (fun i _ => rs.length - (intOf i).toNat)
 case atStart => exact ⟨0,Nat.zero_le _,rfl,Lib.hid (fun j hj => by omega),hC⟩
 case round =>
  clear hC;obtain ⟨k,hk,rfl,HZ,hC⟩:=hrel
  by_cases hkn : k < rs.length
  ·obtain ⟨b,off,rfl,hbs,hcell⟩:=hC.m.room (by omega)
   obtain ⟨y0,y1⟩:=hcell k hkn;have HG:=Lib.hid (hC.m.gives _ (List.getElem_mem hkn)).1;have HRL : Hid (rs[k].key.length ≤ 1000000 ∧ rs[k].gives.length ≤ 1000 ∧ ∀ s ∈ rs[k].gives,s.length ≤ 1000000):=Lib.hid ⟨hC.m.s.rk _ (List.getElem_mem hkn),hC.m.s.rg _ (List.getElem_mem hkn)⟩;have HKEY:=Lib.hid (roomAt_key (rs:=rs) hkn);have HORD : Hid (∀ h0 : 0 < k,keyB rs[k].key = true → ¬ rs[k - 1].key < rs[k].key → roomAt rs k = 7):=Lib.hid (fun h0 => roomAt_ord h0 hkn);have HGIV:=Lib.hid (roomAt_gives (rs:=rs) hkn);have HKN:=Lib.hid hkn;have HLQ : Hid (∀ h0 : 0 < k,(Op.bytesLess rs[k].key rs[k - 1].key || rs[k].key == rs[k - 1].key) = !decide (rs[k - 1].key < rs[k].key)):=Lib.hid (fun h0 => leq_lt _ _);clear hcell;generalize rs[k] = r at *;simp only [encStr] at y0 y1;go_upto_region 6 with (fail)
   have hR : RoC w (wr.alloc (.cells #[.string ⟨r.key.toArray⟩,.slice r.B r.gives.length r.c] 88)) wr.heap.size w.heap.size lo (some ⟨b,off,none⟩) rs ca D ds cd st gl r:=⟨hC.below ((Below.refl _ _).alloc (Nat.le_refl _) _),Blk.new _ _ _,HG.out.alloc _⟩
   generalize wr.alloc (.cells #[.string ⟨r.key.toArray⟩,.slice r.B r.gives.length r.c] 88) = wa at *;generalize wr.heap.size = kb at *;clear y0 y1 hbs hC HG;obtain ⟨z0,z1⟩:=hR.cells;go_wp2_with fail;refine (rkey_any r.key _ (by have:=HRL.out.1; omega)).mono ?_;rintro e w1 ⟨rfl,hb1⟩;replace hR:=hR.below hb1;clear z0 z1 hb1;generalize w1 = wa at *;obtain ⟨z0,z1⟩:=hR.cells
   cases hkey : keyB r.key with
   | false =>
    have HV:=Lib.hid (HMR.out (roomsE_hit HBIG.out HKN.out HZ.out (HKEY.out hkey) (by decide)) (by decide));simp only [hkey];go_wp2_with fail;go_ret;exact ⟨ret_int' HV.out.symm,hR.m.b⟩
   | true =>
    simp only [hkey]
    obtain ⟨ob,hob⟩ : ∃ ob : Bool,ob = decide (0 < k ∧ ¬ rs[k - 1].key < r.key):=⟨_,rfl⟩
    have HOB:=Lib.hid hob;clear hob;go_upto_region 8 with (fail)
    go_cut [26] from 27 to 41 (fun v wx => v = .bool ob ∧ ∃ n,wx = wa.drewN n)
    case first =>
     obtain ⟨x0,x1,-⟩:=hR.m.cells
     by_cases hk0 : k = 0
     ·have d3 : ¬ 0 < k:=by omega
      have HO2 : Hid (ob = false):=Lib.hid (by rw [HOB.out]; exact decide_eq_false (fun h => d3 h.1));clear hk0
      go_quiet (fail)
      go_wp2_with fail;go_meet;exact ⟨by rw [HO2.out],_,rfl⟩
     ·have d3 : 0 < k:=by omega
      have c1:=hR.m.m.roomC (show k - 1 < rs.length by omega);simp only [encStr] at c1
      have wk : IntKind.i64.wrap ((k : Int) - 1) = ((k - 1 : Nat) : Int):=by rw [IntWalk.i64_in _ ⟨by omega,by omega⟩]; omega
      have hq:=HLQ.out d3
      obtain ⟨p1,h1⟩ : ∃ p1,Op.bytesLess r.key rs[k - 1].key = p1:=⟨_,rfl⟩
      obtain ⟨p2,h2⟩ : ∃ p2,(r.key == rs[k - 1].key) = p2:=⟨_,rfl⟩
      rw [h1,h2] at hq;have HO2 : Hid (ob = (p1 || p2)):=Lib.hid (by rw [HOB.out,hq]; by_cases hh : rs[k - 1].key < r.key <;> simp [hh,d3]);clear hq hk0
      cases p1 with
      | true =>
       go_quiet (fail)
       go_wp2_with fail;go_meet;exact ⟨by rw [HO2.out]; rfl,_,rfl⟩
      | false =>
       cases p2 with
       | true =>
        go_quiet (fail)
        go_wp2_with fail;go_meet;exact ⟨by rw [HO2.out]; rfl,_,rfl⟩
       | false =>
        go_quiet (fail)
        go_wp2_with fail;go_meet;exact ⟨by rw [HO2.out]; rfl,_,rfl⟩
    case rest =>
    obtain ⟨rfl,n8,rfl⟩:=hcut;replace hR:=hR.drewN n8;generalize wa.drewN n8 = wb at *;clear z0 z1
    cases ob with
    | true =>
     have HV:=Lib.hid (by
      have h8:=of_decide_eq_true HOB.out.symm
      exact HMR.out (roomsE_hit HBIG.out HKN.out HZ.out (HORD.out h8.1 hkey h8.2) (by decide)) (by decide))
     go_wp2_with fail;go_ret;exact ⟨ret_int' HV.out.symm,hR.m.b⟩
    | false =>
     have HTH : Hid (roomAt rs k = thingsE r.gives):=Lib.hid (HGIV.out hkey (fun h0 => by
      have h8:=of_decide_eq_false HOB.out.symm
      by_cases hh : rs[k - 1].key < r.key
      ·exact hh
      ·exact absurd ⟨h0,hh⟩ h8))
     clear HOB HLQ HORD HKEY HGIV;obtain ⟨z0,z1⟩:=hR.cells;go_wp2_with fail;refine (keysFault_any r.B r.c lo r.gives 10 _ hR.gv (by have:=HRL.out.2.1; omega) (fun s hs => by have:=HRL.out.2.2 s hs; omega) (by decide)).mono ?_;rintro e w3 ⟨rfl,hb3⟩;replace hR:=hR.below hb3;clear hb3 z0 z1
     obtain ⟨te,hte⟩ : ∃ te,te = thingsE r.gives:=⟨_,rfl⟩
     rw [← hte] at HTH;rw [show (if 10 < r.gives.length then (2 : Int) else riseF r.gives) = te from hte.symm];clear hte
     by_cases h0 : te = 0
     ·have HN:=Lib.hid (step_all HZ.out (by rw [HTH.out,h0]))
      have d0 : (te != 0) = false:=by rw [h0]; rfl
      have hM:=hR.m;clear h0 hR;go_wp2_with fail;go_roundw
      case rel => exact ⟨k + 1,by omega,by go_num,HN,hM⟩
      case measure => simp [intOf]; omega
     ·have HV:=Lib.hid (HMR.out (roomsE_hit HBIG.out HKN.out HZ.out HTH.out h0) h0)
      have d0 : (te != 0) = true:=bne_iff_ne.2 h0;clear h0;go_wp2_with fail;go_ret;exact ⟨ret_int' HV.out.symm,hR.m.b⟩
  ·have hke : k = rs.length:=by omega
   subst hke;have HR0:=Lib.hid (roomsE_none HBIG.out HZ.out);have HMD : Hid (∀ x,doorsE rs ds = x → x ≠ 0 → mapE rs ds st gl = x):=Lib.hid (fun x h hx => by rw [HM.out,if_neg (fun e => e HR0.out),if_pos (by rw [h]; exact hx),h]);have HMZ : Hid (doorsE rs ds = 0 → mapE rs ds st gl = if !hasR rs st || !hasR rs gl then 8 else if 10 < (onceT (allT rs ds)).length ∨ 12 < (onceT (allK ds)).length then 2 else 0):=Lib.hid (fun h => by rw [HM.out,if_neg (fun e => e HR0.out),if_neg (fun e => e h)]);clear HM HMR HZ HR0 HBIG hk hkn;obtain ⟨x0,x1,-⟩:=hC.cells
   by_cases hbg : 500 < ds.length
   ·have HV:=Lib.hid (HMD.out 2 (by unfold doorsE; rw [if_pos hbg]) (by decide))
    go_wp2_with fail;go_ret;exact ⟨ret_int' HV.out.symm,hC.b⟩
   have HBIG:=Lib.hid hbg;go_wp2_with fail;clear hbg x0 x1;generalize wr = w0 at *
   go_loopw [55] (fun i wr => ∃ k : Nat,k ≤ ds.length ∧ i = .int .i64 k ∧ Hid (∀ j,j < k → doorAt rs ds j = 0) ∧ McC w wr w.heap.size lo A rs ca D ds cd st gl) (fun i _ => ds.length - (intOf i).toNat)
   case atStart => exact ⟨0,Nat.zero_le _,rfl,Lib.hid (fun j hj => by omega),hC⟩
   case round =>
    clear hC;obtain ⟨k,hk,rfl,HZ,hC⟩:=hrel
    by_cases hkn : k < ds.length
    ·obtain ⟨b,off,rfl,hbs,hcell⟩:=hC.m.door (by omega)
     obtain ⟨y0,y1,y2,y3,y4,y5,y6⟩:=hcell k hkn;have HMEM:=Lib.hid (List.getElem_mem hkn);have HKEY:=Lib.hid (doorAt_key (rs:=rs) (ds:=ds) hkn);have HORD : Hid (∀ h0 : 0 < k,keyB ds[k].key = true → ¬ ds[k - 1].key < ds[k].key → doorAt rs ds k = 7):=Lib.hid (fun h0 => doorAt_ord h0 hkn);have HX:=Lib.hid (doorAt_x (rs:=rs) (ds:=ds) hkn);have HKN:=Lib.hid hkn;have HLQ : Hid (∀ h0 : 0 < k,(Op.bytesLess ds[k].key ds[k - 1].key || ds[k].key == ds[k - 1].key) = !decide (ds[k - 1].key < ds[k].key)):=Lib.hid (fun h0 => leq_lt _ _);clear hcell;generalize ds[k] = d at *;have HDS:=Lib.hid (⟨hC.m.s.dk _ HMEM.out,hC.m.s.dt _ HMEM.out,hC.m.s.dn _ HMEM.out,hC.m.s.dx _ HMEM.out⟩ : _ ∧ _ ∧ _ ∧ _);simp only [encStr] at y0 y1 y2 y6;go_upto_region 19 with (fail)
     have hR : DoC w (wr.alloc (.cells #[.string ⟨d.key.toArray⟩,.string ⟨d.src.toArray⟩,.string ⟨d.dst.toArray⟩,.int .i64 d.time,.slice d.N d.needs.length d.nc,.slice d.T d.takes.length d.tc,.string ⟨d.trick.toArray⟩] 120)) wr.heap.size w.heap.size lo A rs ca (some ⟨b,off,none⟩) ds cd st gl d:=⟨hC.below ((Below.refl _ _).alloc (Nat.le_refl _) _),Blk.new _ _ _,(hC.m.needs _ HMEM.out).1.alloc _,(hC.m.takes _ HMEM.out).1.alloc _⟩
     generalize wr.alloc (.cells #[.string ⟨d.key.toArray⟩,.string ⟨d.src.toArray⟩,.string ⟨d.dst.toArray⟩,.int .i64 d.time,.slice d.N d.needs.length d.nc,.slice d.T d.takes.length d.tc,.string ⟨d.trick.toArray⟩] 120) = wa at *;generalize wr.heap.size = kb at *;clear y0 y1 y2 y3 y4 y5 y6 hbs hC;obtain ⟨z0,-⟩:=hR.cells;go_wp2_with fail;refine (rkey_any d.key _ (by have:=HDS.out.1.1; omega)).mono ?_;rintro e w1 ⟨rfl,hb1⟩;replace hR:=hR.below hb1;clear z0 hb1;generalize w1 = wa at *;obtain ⟨z0,-⟩:=hR.cells
     cases hkey : keyB d.key with
     | false =>
      have HV:=Lib.hid (HMD.out 5 (doorsE_hit HBIG.out HKN.out HZ.out (HKEY.out hkey) (by decide)) (by decide));simp only [hkey];go_wp2_with fail;go_ret;exact ⟨ret_int' HV.out.symm,hR.m.b⟩
     | true =>
      simp only [hkey]
      obtain ⟨ob,hob⟩ : ∃ ob : Bool,ob = decide (0 < k ∧ ¬ ds[k - 1].key < d.key):=⟨_,rfl⟩
      have HOB:=Lib.hid hob;clear hob;go_upto_region 21 with (fail)
      go_cut [65] from 66 to 80 (fun v wx => v = .bool ob ∧ ∃ n,wx = wa.drewN n)
      case first =>
       obtain ⟨x0,x1,-⟩:=hR.m.cells
       by_cases hk0 : k = 0
       ·have d3 : ¬ 0 < k:=by omega
        have HO2 : Hid (ob = false):=Lib.hid (by rw [HOB.out]; exact decide_eq_false (fun h => d3 h.1));clear hk0
        go_quiet (fail)
        go_wp2_with fail;go_meet;exact ⟨by rw [HO2.out],_,rfl⟩
       ·have d3 : 0 < k:=by omega
        have c1:=hR.m.m.doorC (show k - 1 < ds.length by omega);simp only [encStr] at c1
        have wk : IntKind.i64.wrap ((k : Int) - 1) = ((k - 1 : Nat) : Int):=by rw [IntWalk.i64_in _ ⟨by omega,by omega⟩]; omega
        have hq:=HLQ.out d3
        obtain ⟨p1,h1⟩ : ∃ p1,Op.bytesLess d.key ds[k - 1].key = p1:=⟨_,rfl⟩
        obtain ⟨p2,h2⟩ : ∃ p2,(d.key == ds[k - 1].key) = p2:=⟨_,rfl⟩
        rw [h1,h2] at hq;have HO2 : Hid (ob = (p1 || p2)):=Lib.hid (by rw [HOB.out,hq]; by_cases hh : ds[k - 1].key < d.key <;> simp [hh,d3]);clear hq hk0
        cases p1 with
        | true =>
         go_quiet (fail)
         go_wp2_with fail;go_meet;exact ⟨by rw [HO2.out]; rfl,_,rfl⟩
        | false =>
         cases p2 with
         | true =>
          go_quiet (fail)
          go_wp2_with fail;go_meet;exact ⟨by rw [HO2.out]; rfl,_,rfl⟩
         | false =>
          go_quiet (fail)
          go_wp2_with fail;go_meet;exact ⟨by rw [HO2.out]; rfl,_,rfl⟩
      case rest =>
      obtain ⟨rfl,n8,rfl⟩:=hcut;replace hR:=hR.drewN n8;generalize wa.drewN n8 = wb at *;clear z0
      cases ob with
      | true =>
       have HV:=Lib.hid (by
        have h8:=of_decide_eq_true HOB.out.symm
        exact HMD.out 7 (doorsE_hit HBIG.out HKN.out HZ.out (HORD.out h8.1 hkey h8.2) (by decide)) (by decide))
       go_wp2_with fail;go_ret;exact ⟨ret_int' HV.out.symm,hR.m.b⟩
      | false =>
       have HTH : Hid (doorAt rs ds k = doorX rs d):=Lib.hid (HX.out hkey (fun h0 => by
        have h8:=of_decide_eq_false HOB.out.symm
        by_cases hh : ds[k - 1].key < d.key
        ·exact hh
        ·exact absurd ⟨h0,hh⟩ h8))
       clear HOB HLQ HORD HKEY HX
       obtain ⟨rb,hrb⟩ : ∃ rb : Bool,rb = (!hasR rs d.src || !hasR rs d.dst):=⟨_,rfl⟩
       have HRB:=Lib.hid hrb;clear hrb;go_upto_region 23 with (fail)
       go_cut [80] from 81 to 93 (fun v wx => v = .bool rb ∧ DoC w wx kb w.heap.size lo A rs ca (some ⟨b,off,none⟩) ds cd st gl d)
       case first =>
        obtain ⟨-,z1,z2,-⟩:=hR.cells;obtain ⟨x0,x1,x2,x3⟩:=hR.m.cells;go_wp2_with fail;refine (rRoomAt_any lo ca cd A rs _ ds st gl d.src _ hR.m.m).mono ?_;rintro e w3 ⟨rfl,hb3⟩;replace hR:=hR.below hb3;clear z1 z2 hb3 x0 x1 x2 x3
        obtain ⟨x1,hx1⟩ : ∃ x1,x1 = keyI (rs.map RoomE.key) d.src:=⟨_,rfl⟩
        have h1:=hasR_keyI rs d.src;rw [← hx1] at h1 ⊢;clear hx1;obtain ⟨-,z1,z2,-⟩:=hR.cells;obtain ⟨y0,y1,y2,y3⟩:=hR.m.cells
        cases hs1 : hasR rs d.src with
        | false =>
         have d1 : decide (x1 < 0) = true:=decide_eq_true (h1.2 hs1);have HV : Hid (rb = true):=Lib.hid (by rw [HRB.out,hs1]; rfl);clear h1 hs1;go_wp2_with fail;go_meet;exact ⟨by rw [HV.out],hR⟩
        | true =>
         have d1 : decide (x1 < 0) = false:=decide_eq_false (fun h => by have:=h1.1 h; rw [hs1] at this; cases this);clear h1;go_wp2_with fail;refine (rRoomAt_any lo ca cd A rs _ ds st gl d.dst _ hR.m.m).mono ?_;rintro e w4 ⟨rfl,hb4⟩;replace hR:=hR.below hb4;clear z1 z2 hb4 y0 y1 y2 y3
         obtain ⟨x2,hx2⟩ : ∃ x2,x2 = keyI (rs.map RoomE.key) d.dst:=⟨_,rfl⟩
         have h2:=hasR_keyI rs d.dst;rw [← hx2] at h2 ⊢;clear hx2
         have HV : Hid (decide (x2 < 0) = rb):=Lib.hid (by
          rw [HRB.out,hs1]
          cases hs2 : hasR rs d.dst with
          | false => simp [h2.2 hs2]
          | true => rw [decide_eq_false (fun h => by have:=h2.1 h; rw [hs2] at this; cases this)]; rfl)
         obtain ⟨x3,hx3⟩ : ∃ x3,x3 = decide (x2 < 0):=⟨_,rfl⟩
         have HX3:=Lib.hid hx3;have hx4 : decide (x2 < 0) = x3:=hx3.symm;clear h2 hs1 hx3;go_wp2_with fail;go_meet;exact ⟨by rw [← HV.out,HX3.out],hR⟩
       case rest =>
       obtain ⟨rfl,hR⟩:=hcut
       cases rb with
       | true =>
        have HV:=Lib.hid (by
         have h8:=HTH.out;unfold doorX at h8;rw [← HRB.out,if_pos rfl] at h8
         exact HMD.out 8 (doorsE_hit HBIG.out HKN.out HZ.out h8 (by decide)) (by decide))
        go_wp2_with fail;go_ret;exact ⟨ret_int' HV.out.symm,hR.m.b⟩
       | false =>
        have HT2 : Hid (doorAt rs ds k = if d.time < 1 ∨ 864000000 < d.time then 1 else if firstE [thingsE d.needs,thingsE d.takes] ≠ 0 then firstE [thingsE d.needs,thingsE d.takes] else if d.trick ≠ [] ∧ !keyB d.trick then 5 else 0):=Lib.hid (by
         rw [HTH.out]; unfold doorX; rw [← HRB.out,if_neg (by decide)])
        clear HTH HRB;obtain ⟨-,-,-,z3,-⟩:=hR.cells;go_wp2_with fail;refine (rin_any d.time 1 864000000 _).mono ?_;rintro e w5 ⟨rfl,rfl⟩;clear z3
        obtain ⟨tb,htb⟩ : ∃ tb : Bool,tb = (decide (1 ≤ d.time) && decide (d.time ≤ 864000000)):=⟨_,rfl⟩
        rw [← htb];have HTB:=Lib.hid htb;clear htb
        cases tb with
        | false =>
         have HV:=Lib.hid (by
          have h8:=HT2.out;rw [if_pos (by have:=HTB.out; simp at this; omega)] at h8
          exact HMD.out 1 (doorsE_hit HBIG.out HKN.out HZ.out h8 (by decide)) (by decide))
         go_wp2_with fail;go_ret;exact ⟨ret_int' HV.out.symm,hR.m.b⟩
        | true =>
         have HT3 : Hid (doorAt rs ds k = if firstE [thingsE d.needs,thingsE d.takes] ≠ 0 then firstE [thingsE d.needs,thingsE d.takes] else if d.trick ≠ [] ∧ !keyB d.trick then 5 else 0):=Lib.hid (by
          rw [HT2.out,if_neg (by have:=HTB.out; simp at this; omega)])
         clear HT2 HTB
         obtain ⟨ae,hae⟩ : ∃ ae,ae = thingsE d.needs:=⟨_,rfl⟩
         obtain ⟨be,hbe⟩ : ∃ be,be = thingsE d.takes:=⟨_,rfl⟩
         rw [← hae,← hbe] at HT3;have HAE : Hid (ae = thingsE d.needs):=Lib.hid hae;have HBE : Hid (be = thingsE d.takes):=Lib.hid hbe;clear hae hbe;go_upto_region 27 with (fail)
         go_cut [8] from 98 to 105 (fun v wx => v = .int .i64 (firstE [ae,be]) ∧ DoC w wx kb w.heap.size lo A rs ca (some ⟨b,off,none⟩) ds cd st gl d)
         case first =>
          clear HT3;replace hR:=hR.drew
          go_region_held3 (fun w' => w'.cell? ⟨kb,4,none⟩ = some (.slice d.N d.needs.length d.nc) ∧ w'.cell? ⟨kb,5,none⟩ = some (.slice d.T d.takes.length d.tc)) (first | exact ⟨hR.cells.2.2.2.2.1,hR.cells.2.2.2.2.2.1⟩ | exact ⟨(hR.alloc _).cells.2.2.2.2.1,(hR.alloc _).cells.2.2.2.2.2.1⟩)
           (first
           | (go_at_call 69; first | ((with_reducible refine (rthings_any d.N d.nc lo d.needs _ hR.n HDS.out.2.2.1).mono ?_); rintro e w7 ⟨rfl,hb7⟩; rw [← HAE.out]; have hR:=hR.below hb7) | ((with_reducible refine (rthings_any d.T d.tc lo d.takes _ hR.t HDS.out.2.2.2).mono ?_); rintro e w7 ⟨rfl,hb7⟩; rw [← HBE.out]; have hR:=hR.below hb7))
           | (go_at_call 20; (refine (or_any _ _ 0 [ae,be] _ (by first | exact row_new' _ (by first | rfl | simp) (by first | omega | (simp; omega)) rfl | exact row_newN _ _ (by first | rfl | simp) (by first | omega | (simp; omega)) rfl | exact row_newD _ (by first | rfl | simp) (by first | omega | (simp; omega)) rfl) (by simp)).mono ?_); rintro e w8 ⟨rfl,rfl⟩; have hR:=hR.alloc (.cells #[.int .i64 ae,.int .i64 be] 31)))
          all_goals
           go_wp2_with fail;go_meet;exact ⟨rfl,hR⟩
         case rest =>
         obtain ⟨rfl,hR⟩:=hcut
         obtain ⟨fe,hfe⟩ : ∃ fe,fe = firstE [ae,be]:=⟨_,rfl⟩
         rw [← hfe] at HT3 ⊢;clear hfe
         by_cases h0 : fe = 0
         ·have HT4 : Hid (doorAt rs ds k = if d.trick ≠ [] ∧ !keyB d.trick then 5 else 0):=Lib.hid (by rw [HT3.out,if_neg (fun h => h h0)])
          have d0 : (fe != 0) = false:=by rw [h0]; rfl
          obtain ⟨-,-,-,-,-,-,z6⟩:=hR.cells;clear h0 HT3
          by_cases ht : d.trick = []
          ·have dt : d.trick.isEmpty = true:=by rw [ht]; rfl
           have dt2 : (d.trick == []) = true:=by rw [ht]; rfl
           have HN:=Lib.hid (step_all HZ.out (by rw [HT4.out,if_neg (fun h => h.1 ht)]));have hM:=hR.m;clear ht;go_wp2_with fail;go_roundw
           case rel => exact ⟨k + 1,by omega,by go_num,HN,hM⟩
           case measure => simp [intOf]; omega
          ·have dt : d.trick.isEmpty = false:=by cases h : d.trick with | nil => exact absurd h ht | cons a l => rfl
           have dt2 : (d.trick == []) = false:=beq_eq_false_iff_ne.2 ht;have HTN:=Lib.hid ht;clear ht;go_wp2_with fail;refine (rkey_any d.trick _ (by have:=HDS.out.1.2.2.2; omega)).mono ?_;rintro e w8 ⟨rfl,hb8⟩;replace hR:=hR.below hb8;have hM:=hR.m;clear z6
           cases hkt : keyB d.trick with
           | true =>
            have HN:=Lib.hid (step_all HZ.out (by rw [HT4.out,if_neg (fun h => by rw [hkt] at h; cases h.2)]));simp only [hkt];go_wp2_with fail;go_roundw
            case rel => exact ⟨k + 1,by omega,by go_num,HN,hM⟩
            case measure => simp [intOf]; omega
           | false =>
            have HV:=Lib.hid (HMD.out 5 (doorsE_hit HBIG.out HKN.out HZ.out (by rw [HT4.out,if_pos ⟨HTN.out,by rw [hkt]; rfl⟩]) (by decide : (5 : Int) ≠ 0)) (by decide));simp only [hkt];go_wp2_with fail;go_ret;exact ⟨ret_int' HV.out.symm,hR.m.b⟩
         ·have HV:=Lib.hid (HMD.out fe (doorsE_hit HBIG.out HKN.out HZ.out (by rw [HT3.out,if_pos h0]) h0) h0)
          have d0 : (fe != 0) = true:=bne_iff_ne.2 h0;clear h0;go_wp2_with fail;go_ret;exact ⟨ret_int' HV.out.symm,hR.m.b⟩
    ·have hke : k = ds.length:=by omega
     subst hke;have HM2 : Hid (mapE rs ds st gl = if !hasR rs st || !hasR rs gl then 8 else if 10 < (onceT (allT rs ds)).length ∨ 12 < (onceT (allK ds)).length then 2 else 0):=Lib.hid (HMZ.out (doorsE_none (rs:=rs) HBIG.out HZ.out));clear HMZ HMD HBIG HZ hkn hk
     obtain ⟨rb,hrb⟩ : ∃ rb : Bool,rb = (!hasR rs st || !hasR rs gl):=⟨_,rfl⟩
     have HRB:=Lib.hid hrb;have HM3 : Hid (mapE rs ds st gl = if rb then 8 else if 10 < (onceT (allT rs ds)).length ∨ 12 < (onceT (allK ds)).length then 2 else 0):=Lib.hid (by rw [HM2.out,hrb]);clear hrb HM2;go_upto_region 33 with (fail)
     go_cut [119] from 120 to 132 (fun v wx => v = .bool rb ∧ McC w wx w.heap.size lo A rs ca D ds cd st gl)
     case first =>
      obtain ⟨y0,y1,y2,y3⟩:=hC.cells;go_wp2_with fail;refine (rRoomAt_any lo ca cd A rs _ ds st gl st _ hC.m).mono ?_;rintro e w3 ⟨rfl,hb3⟩;replace hC:=hC.below hb3;clear hb3 y0 y1 y2 y3
      obtain ⟨x1,hx1⟩ : ∃ x1,x1 = keyI (rs.map RoomE.key) st:=⟨_,rfl⟩
      have h1:=hasR_keyI rs st;rw [← hx1] at h1 ⊢;clear hx1;obtain ⟨y0,y1,y2,y3⟩:=hC.cells
      cases hs1 : hasR rs st with
      | false =>
       have d1 : decide (x1 < 0) = true:=decide_eq_true (h1.2 hs1);have HV : Hid (rb = true):=Lib.hid (by rw [HRB.out,hs1]; rfl);clear h1 hs1;go_wp2_with fail;go_meet;exact ⟨by rw [HV.out],hC⟩
      | true =>
       have d1 : decide (x1 < 0) = false:=decide_eq_false (fun h => by have:=h1.1 h; rw [hs1] at this; cases this);clear h1;go_wp2_with fail;refine (rRoomAt_any lo ca cd A rs _ ds st gl gl _ hC.m).mono ?_;rintro e w4 ⟨rfl,hb4⟩;replace hC:=hC.below hb4;clear hb4 y0 y1 y2 y3
       obtain ⟨x2,hx2⟩ : ∃ x2,x2 = keyI (rs.map RoomE.key) gl:=⟨_,rfl⟩
       have h2:=hasR_keyI rs gl;rw [← hx2] at h2 ⊢;clear hx2
       have HV : Hid (decide (x2 < 0) = rb):=Lib.hid (by
        rw [HRB.out,hs1]
        cases hs2 : hasR rs gl with
        | false => simp [h2.2 hs2]
        | true => rw [decide_eq_false (fun h => by have:=h2.1 h; rw [hs2] at this; cases this)]; rfl)
       obtain ⟨x3,hx3⟩ : ∃ x3,x3 = decide (x2 < 0):=⟨_,rfl⟩
       have HX3:=Lib.hid hx3;have hx4 : decide (x2 < 0) = x3:=hx3.symm;clear h2 hs1 hx3;go_wp2_with fail;go_meet;exact ⟨by rw [← HV.out,HX3.out],hC⟩
     case rest =>
     obtain ⟨rfl,hC⟩:=hcut
     cases rb with
     | true =>
      have HV : Hid (mapE rs ds st gl = 8):=Lib.hid (by rw [HM3.out]; rfl);go_wp2_with fail;go_ret;exact ⟨ret_int' HV.out.symm,hC.b⟩
     | false =>
      have HM4 : Hid (mapE rs ds st gl = if 10 < (onceT (allT rs ds)).length ∨ 12 < (onceT (allK ds)).length then 2 else 0):=Lib.hid (by rw [HM3.out,if_neg (by decide)]);clear HM3 HRB;obtain ⟨y0,y1,y2,y3⟩:=hC.cells;go_wp2_with fail;refine (rThings_any lo ca cd A rs D ds st gl _ hC.m).mono ?_;rintro e w5 ⟨A5,c5,rfl,-,hb5⟩;replace hC:=hC.below hb5;clear hb5 y0 y1 y2 y3;obtain ⟨y0,y1,y2,y3⟩:=hC.cells;generalize (onceT (allT rs ds)).length = n1 at *
      by_cases h1 : 10 < n1
      ·have HV : Hid (mapE rs ds st gl = 2):=Lib.hid (by rw [HM4.out,if_pos (.inl h1)])
       go_wp2_with fail;go_ret;exact ⟨ret_int' HV.out.symm,hC.b⟩
      ·go_wp2_with fail
       refine (rTricks_any lo ca cd A rs D ds st gl _ hC.m).mono ?_;rintro e w6 ⟨A6,c6,rfl,-,hb6⟩;replace hC:=hC.below hb6;clear hb6 y0 y1 y2 y3;generalize (onceT (allK ds)).length = n2 at *
       by_cases h2 : 12 < n2
       ·have HV : Hid (mapE rs ds st gl = 2):=Lib.hid (by rw [HM4.out,if_pos (.inr h2)])
        go_wp2_with fail;go_ret;exact ⟨ret_int' HV.out.symm,hC.b⟩
       ·have HV : Hid (mapE rs ds st gl = 0):=Lib.hid (by rw [HM4.out,if_neg (by omega)])
        go_wp2_with fail;go_ret;exact ⟨ret_int' HV.out.symm,hC.b⟩
end Go.Proofs.YtjggbpchmbdocaaGreatDoor
/- The walk of the reference's TricksFault. -/
namespace Go.Proofs.YtjggbpchmbdocaaGreatDoor
open Go.RowKit

set_option maxHeartbeats 4000000 in
set_option maxRecDepth 100000 in
theorem rTricksFault_any (lo ca cd : Nat) (A : Option Addr) (rs : List RoomE) (D : Option Addr) (ds : List DoorE) (st gl : List UInt8) (lo2 c2 : Nat) (B : Option Addr) (l : List (List UInt8)) (w : World) (hA : MapW w lo A rs D ds) (hr : Row w lo2 1 B l.length (strs l)) (hl : l.length ≤ 1000000000) :
  Calls Tryz.prog 47 #[mapV A rs ca D ds cd st gl,.slice B l.length c2] w fun e w' => e = .returned (.int .i64 (tricksE rs ds st gl l)) ∧ Below w.heap.size w w':=by
 have hC : McC w (w.alloc (.cells #[.slice A rs.length ca,.slice D ds.length cd,.string ⟨st.toArray⟩,.string ⟨gl.toArray⟩] 29)) w.heap.size lo A rs ca D ds cd st gl:=⟨hA.alloc _,Blk.new _ _ _,(Below.refl _ w).alloc (Nat.le_refl _) _⟩
 have HKB : Hid ((onceT (allK ds)).length ≤ 1000000000):=Lib.hid (by have:=allK_le ds; have:=onceT_le (allK ds); have:=hA.s.dl; omega);have HTE : Hid (tricksE rs ds st gl l = if mapE rs ds st gl ≠ 0 then mapE rs ds st gl else scanF (trickK (onceT (allK ds)) l) l.length):=Lib.hid rfl;have HR:=Lib.hid hr;clear hA hr;unfold mapV;simp only [encStr]
 go_enter Tryz.func47,Tryz.ntmps47
 go_wp2_with fail;generalize w.alloc (.cells #[.slice A rs.length ca,.slice D ds.length cd,.string ⟨st.toArray⟩,.string ⟨gl.toArray⟩] 29) = w0 at *;have hcm:=mapFault_any lo ca cd A rs D ds st gl w0 hC.m;unfold mapV at hcm;simp only [encStr] at hcm;refine hcm.mono ?_;rintro e w1 ⟨rfl,hb1⟩;replace hC:=hC.below hb1;clear hb1 hcm
 obtain ⟨me,hme⟩ : ∃ me,me = mapE rs ds st gl:=⟨_,rfl⟩
 rw [← hme] at HTE ⊢;clear hme
 by_cases h0 : me = 0
 ·have HT2 : Hid (tricksE rs ds st gl l = scanF (trickK (onceT (allK ds)) l) l.length):=Lib.hid (by rw [HTE.out,if_neg (fun h => h h0)])
  have d0 : (me != 0) = false:=by rw [h0]; rfl
  clear h0 HTE;obtain ⟨x0,x1,x2,x3⟩:=hC.cells;go_wp2_with fail;have hrt:=rTricks_any lo ca cd A rs D ds st gl w1 hC.m;unfold mapV at hrt;simp only [encStr] at hrt;refine hrt.mono ?_;clear hrt x0 x1 x2 x3;rintro e w2 ⟨A2,k2,rfl,ho2,hb2⟩;replace hC:=hC.below hb2;have HK:=Lib.hid (row_down0 (Row.of_own ho2));have hbw2:=hC.b;clear hb2 ho2 hC d0;generalize onceT (allK ds) = K at *;go_wp2_with fail
  go_loopw [18] (fun i wr => ∃ k : Nat,k ≤ l.length ∧ i = .int .i64 k ∧ Hid (∀ j,j < k → trickK K l j = 0) ∧ Below w2.heap.size w2 wr) (fun i _ => l.length - (intOf i).toNat)
  case atStart => exact ⟨0,Nat.zero_le _,rfl,Lib.hid (fun j hj => by omega),Below.refl _ _⟩
  case round =>
   obtain ⟨k,hk,rfl,HZ,hbr⟩:=hrel;have hbw:=below_up hbw2 hbr;have HBW:=Lib.hid hbw
   by_cases hkn : k < l.length
   ·obtain ⟨b,off,rfl,hbs,hcell⟩:=strs_at (HR.out.below hbw) hkn
    have c0:=hcell k hkn;have HNO:=Lib.hid (trickK_no (K:=K) hkn);have HZE : Hid (¬ 0 < k → l[k] ∈ K → trickK K l k = 0):=Lib.hid (fun h0 => trickK_zero h0 hkn);have HPO : Hid (∀ h0 : 0 < k,l[k] ∈ K → trickK K l k = if l[k - 1] < l[k] then 0 else 7):=Lib.hid (fun h0 => trickK_pos h0 hkn);have HLQ : Hid (∀ h0 : 0 < k,(Op.bytesLess l[k] l[k - 1] || l[k] == l[k - 1]) = !decide (l[k - 1] < l[k])):=Lib.hid (fun h0 => leq_lt _ _);have HCE:=Lib.hid hcell;have HKN:=Lib.hid hkn;have hcon:=containsS_any A2 k2 0 K l[k] wr (HK.out.below hbr) HKB.out;clear hcell hbw;generalize hx : l[k] = x at *;clear hx;unfold encStr at c0 hcon
    by_cases hin : x ∈ K
    ·rw [decide_eq_true hin] at hcon
     by_cases hk0 : k = 0
     ·have d3 : ¬ 0 < k:=by omega
      have HN:=Lib.hid (step_all HZ.out (HZE.out d3 hin));clear hin hk0;go_wp2_with fail;refine hcon.mono ?_;rintro e w3 ⟨rfl,rfl⟩;clear hcon;go_wp2_with fail;go_roundw
      case rel => exact ⟨k + 1,by omega,by go_num,HN,hbr⟩
      case measure => simp [intOf]; omega
     ·have d3 : 0 < k:=by omega
      have c1:=HCE.out (k - 1) (by omega)
      have wk : IntKind.i64.wrap ((k : Int) - 1) = ((k - 1 : Nat) : Int):=by rw [IntWalk.i64_in _ ⟨by omega,by omega⟩]; omega
      have HRP:=Lib.hid (HPO.out d3 hin);have hq:=HLQ.out d3;generalize l[k - 1] = y at *;unfold encStr at c1
      obtain ⟨p1,h1⟩ : ∃ p1,Op.bytesLess x y = p1:=⟨_,rfl⟩
      obtain ⟨p2,h2⟩ : ∃ p2,(x == y) = p2:=⟨_,rfl⟩
      rw [h1,h2] at hq;clear hin hk0
      by_cases hlt : y < x
      ·have hp : p1 = false ∧ p2 = false:=by
        rw [decide_eq_true hlt] at hq
        cases p1 <;> cases p2 <;> simp at hq ⊢
       obtain ⟨rfl,rfl⟩:=hp;have HN:=Lib.hid (step_all HZ.out (by rw [HRP.out,if_pos hlt]));clear hq hlt;go_wp2_with fail;refine hcon.mono ?_;rintro e w3 ⟨rfl,rfl⟩;clear hcon;go_wp2_with fail;go_roundw
       case rel => exact ⟨k + 1,by omega,by go_num,HN,hbr⟩
       case measure => simp [intOf]; omega
      ·have HV : Hid (tricksE rs ds st gl l = 7):=Lib.hid (by
        have h5:=HRP.out;rw [if_neg hlt] at h5
        rw [HT2.out,scanF_hit HKN.out HZ.out (by rw [h5]; decide),h5])
       rw [decide_eq_false hlt] at hq
       have hp : p1 = true ∨ p1 = false ∧ p2 = true:=by
        cases p1 <;> cases p2 <;> simp at hq ⊢
       clear hq hlt;rcases hp with rfl | ⟨rfl,rfl⟩
       all_goals
        go_wp2_with fail;refine hcon.mono ?_;rintro e w3 ⟨rfl,rfl⟩;clear hcon;go_wp2_with fail;go_ret;exact ⟨ret_int' HV.out.symm,HBW.out⟩
    ·rw [decide_eq_false hin] at hcon
     have HV : Hid (tricksE rs ds st gl l = 5):=Lib.hid (by
      have h5:=HNO.out hin
      rw [HT2.out,scanF_hit HKN.out HZ.out (by rw [h5]; decide),h5])
     clear hin;go_wp2_with fail;refine hcon.mono ?_;rintro e w3 ⟨rfl,rfl⟩;clear hcon;go_wp2_with fail;go_ret;exact ⟨ret_int' HV.out.symm,HBW.out⟩
   ·have hke : k = l.length:=by omega
    subst hke;have HV : Hid (tricksE rs ds st gl l = 0):=Lib.hid (by rw [HT2.out]; exact scanF_none HZ.out);clear hbw;go_wp2_with fail;go_ret;exact ⟨ret_int' HV.out.symm,HBW.out⟩
 ·have HV : Hid (tricksE rs ds st gl l = me):=Lib.hid (by rw [HTE.out,if_pos h0])
  have d0 : (me != 0) = true:=bne_iff_ne.2 h0;clear h0;go_wp2_with fail;go_ret;exact ⟨ret_int' HV.out.symm,hC.b⟩
end Go.Proofs.YtjggbpchmbdocaaGreatDoor
