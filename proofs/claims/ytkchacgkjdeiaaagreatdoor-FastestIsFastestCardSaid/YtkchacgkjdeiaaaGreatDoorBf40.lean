/- Texts of this seat, laid together: MqF MqG. -/
import Derived.Deep.DeepCutAuto
import Derived.Deep.CutRange
import Derived.Test.YtkchacgkjdeiaaaGreatDoorBf39
import Derived.Test.YtkchacgkjdeiaaaGreatDoorBf04
/- The walk of roomsFault. -/
set_option linter.unusedVariables false
set_option linter.unusedSimpArgs false
namespace Go.Proofs.YtkchacgkjdeiaaaGreatDoor
open Go.RowKit

theorem getDR {rs : List RoomE} {k : Nat} (hk : k < rs.length) : rs.getD k default = rs[k]:=by
 rw [List.getD_eq_getElem?_getD,List.getElem?_eq_getElem hk]; rfl
theorem roomAt_key {rs : List RoomE} {k : Nat} (hk : k < rs.length) (h : keyB rs[k].key = false) : roomAt rs k = 5:=by
 unfold roomAt;rw [getDR hk]; simp [h]
theorem roomAt_ord {rs : List RoomE} {k : Nat} (h0 : 0 < k) (hk : k < rs.length) (h : keyB rs[k].key = true) (ho : ¬ rs[k - 1].key < rs[k].key) : roomAt rs k = 7:=by
 unfold roomAt;rw [getDR hk,getDR (show k - 1 < rs.length by omega)]; simp [h,h0,ho]
theorem roomAt_gives {rs : List RoomE} {k : Nat} (hk : k < rs.length) (h : keyB rs[k].key = true) (ho : ∀ h0 : 0 < k,rs[k - 1].key < rs[k].key) : roomAt rs k = thingsE rs[k].gives:=by
 unfold roomAt;rw [getDR hk,getDR (show k - 1 < rs.length by omega)];rw [if_neg (by simp [h]),if_neg (fun e => e.2 (ho e.1))]
theorem roomsE_hit {rs : List RoomE} (hl : ¬ 100 < rs.length) {k : Nat} (hk : k < rs.length) (h0 : ∀ j,j < k → roomAt rs j = 0) {x : Int} (h : roomAt rs k = x) (hx : x ≠ 0) : roomsE rs = x:=by
 unfold roomsE;rw [if_neg hl,scanF_hit hk h0 (by rw [h]; exact hx),h]
theorem roomsE_none {rs : List RoomE} (hl : ¬ 100 < rs.length) (h0 : ∀ j,j < rs.length → roomAt rs j = 0) : roomsE rs = 0:=by
 unfold roomsE;rw [if_neg hl,scanF_none h0]
theorem roomsE_up {rs : List RoomE} (h : roomsE rs = 0) : UpS (rs.map RoomE.key):=by
 intro i hi
 have hi' : i + 1 < rs.length:=by simpa using hi
 simp only [List.getElem_map];unfold roomsE at h
 split at h
 ·cases h
 ·have h1:=scanF_0 h (i + 1) hi'
  unfold roomAt at h1;rw [getDR hi',getDR (show i + 1 - 1 < rs.length by omega)] at h1
  split at h1
  ·cases h1
  ·split at h1
   ·cases h1
   ·rename_i h2
    by_cases h3 : rs[i].key < rs[i + 1].key
    ·exact h3
    ·exact absurd ⟨by omega,h3⟩ h2
theorem step_all {f : Nat → Int} {k : Nat} (h : ∀ j,j < k → f j = 0) (hk : f k = 0) : ∀ j,j < k + 1 → f j = 0:=fun j hj => by
 by_cases hj' : j < k
 ·exact h j hj'
 ·obtain rfl : j = k:=by omega
  exact hk
set_option maxHeartbeats 4000000 in
set_option maxRecDepth 100000 in
theorem roomsFault_any (lo c : Nat) (A : Option Addr) (rs : List RoomE) (D : Option Addr) (ds : List DoorE) (w : World) (hA : MapW w lo A rs D ds) :
  Calls Tryz.prog 166 #[.slice A rs.length c] w fun e w' => e = .returned (.int .i64 (roomsE rs)) ∧ Below w.heap.size w w':=by
 have hl:=hA.s.rl
 by_cases hbig : 100 < rs.length
 ·have HV : Hid (roomsE rs = 2):=Lib.hid (by unfold roomsE; rw [if_pos hbig])
  go_enter Tryz.func166,Tryz.ntmps166
  go_wp2_with fail;go_ret;exact ⟨ret_int' HV.out.symm,Below.refl _ _⟩
 have HA:=Lib.hid hA;clear hA
 go_enter Tryz.func166,Tryz.ntmps166
 go_wp2_with fail
 go_loopw [11] (fun i wr => ∃ k : Nat,k ≤ rs.length ∧ i = .int .i64 k ∧ Hid (∀ j,j < k → roomAt rs j = 0) ∧ Below w.heap.size w wr) (fun i _ => rs.length - (intOf i).toNat)
 case atStart => exact ⟨0,Nat.zero_le _,rfl,Lib.hid (fun j hj => by omega),Below.refl _ _⟩
 case round =>
  obtain ⟨k,hk,rfl,HZ,hbw⟩:=hrel;have hsz:=hbw.size
  by_cases hkn : k < rs.length
  ·obtain ⟨b,off,rfl,hbs,hcell⟩:=(HA.out.below hbw).room (by omega)
   obtain ⟨y0,y1⟩:=hcell k hkn;have HG:=Lib.hid ((HA.out.below hbw).gives _ (List.getElem_mem hkn));have HGL:=Lib.hid (HA.out.s.rg _ (List.getElem_mem hkn)).1;have HKEY:=Lib.hid (roomAt_key (rs:=rs) hkn);have HORD : Hid (∀ h0 : 0 < k,keyB rs[k].key = true → ¬ rs[k - 1].key < rs[k].key → roomAt rs k = 7):=Lib.hid (fun h0 => roomAt_ord h0 hkn);have HGIV:=Lib.hid (roomAt_gives (rs:=rs) hkn);have HKN:=Lib.hid hkn;have HBIG:=Lib.hid hbig;have HCE:=Lib.hid hcell;have HLQ : Hid (∀ h0 : 0 < k,(Op.bytesLess rs[k].key rs[k - 1].key || rs[k].key == rs[k - 1].key) = !decide (rs[k - 1].key < rs[k].key)):=Lib.hid (fun h0 => leq_lt _ _);clear hcell hbig;generalize rs[k] = r at *;simp only [encStr] at y0;go_upto_region 6 with (fail);have hb2 : Below w.heap.size w (wr.alloc (.cells #[.string ⟨r.key.toArray⟩,.slice r.B r.gives.length r.c] 134)):=hbw.alloc hsz _;have hbl:=Blk.new wr 134 #[.string ⟨r.key.toArray⟩,.slice r.B r.gives.length r.c];have hgv:=HG.out.1.alloc (.cells #[.string ⟨r.key.toArray⟩,.slice r.B r.gives.length r.c] 134)
   have hcl : ∀ (h0 : 0 < k),(wr.alloc (.cells #[.string ⟨r.key.toArray⟩,.slice r.B r.gives.length r.c] 134)).cell? ⟨b,off + (k - 1) * 2,none⟩ = some (encStr rs[k - 1].key):=fun h0 => (((Below.refl wr.heap.size wr).alloc (Nat.le_refl _) _).cell (p:=⟨b,off + (k - 1) * 2,none⟩) hbs).trans (HCE.out (k - 1) (by omega)).1
   have hlt9 : b < (wr.alloc (.cells #[.string ⟨r.key.toArray⟩,.slice r.B r.gives.length r.c] 134)).heap.size:=by simp; omega
   generalize wr.alloc (.cells #[.string ⟨r.key.toArray⟩,.slice r.B r.gives.length r.c] 134) = wa at *;have hkbl:=hbl.lt;generalize wr.heap.size = kb at *
   obtain ⟨z0,z1⟩ : _ ∧ _:=⟨hbl.cell 0,hbl.cell 1⟩
   simp only [Q0,Q2,Q1] at z0 z1;have HCL:=Lib.hid hcl;have HGV:=Lib.hid hgv;clear y0 y1 hbw HG HCE hbl hcl hgv hsz;go_wp2_with fail;refine (key_any ⟨r.key.toArray⟩ _).mono ?_;rintro e w1 ⟨rfl,rfl⟩
   cases hkey : keyB r.key with
   | false =>
    have HV:=Lib.hid (roomsE_hit HBIG.out HKN.out HZ.out (HKEY.out hkey) (by decide));simp only [hkey];go_wp2_with fail;go_ret;exact ⟨ret_int' HV.out.symm,hb2⟩
   | true =>
    simp only [hkey]
    obtain ⟨ob,hob⟩ : ∃ ob : Bool,ob = decide (0 < k ∧ ¬ rs[k - 1].key < r.key):=⟨_,rfl⟩
    have HOB:=Lib.hid hob;clear hob;go_upto_region 8 with (fail)
    go_cut [21] from 22 to 34 (fun v wx => v = .bool ob ∧ ∃ n,wx = wa.drewN n)
    case first =>
     by_cases hk0 : k = 0
     ·have d3 : ¬ 0 < k:=by omega
      have HO2 : Hid (ob = false):=Lib.hid (by rw [HOB.out]; exact decide_eq_false (fun h => d3 h.1));clear hk0
      go_quiet (fail)
      go_wp2_with fail;go_meet;exact ⟨by rw [HO2.out],_,rfl⟩
     ·have d3 : 0 < k:=by omega
      have c1:=HCL.out d3;simp only [encStr] at c1
      have wk : IntKind.i64.wrap ((k : Int) - 1) = ((k - 1 : Nat) : Int):=by rw [IntWalk.i64_in _ ⟨by omega,by omega⟩]; omega
      have hq:=HLQ.out d3
      obtain ⟨p1,h1⟩ : ∃ p1,Op.bytesLess r.key rs[k - 1].key = p1:=⟨_,rfl⟩
      obtain ⟨p2,h2⟩ : ∃ p2,(r.key == rs[k - 1].key) = p2:=⟨_,rfl⟩
      rw [h1,h2] at hq;have HO2 : Hid (ob = (p1 || p2)):=Lib.hid (by rw [HOB.out,hq]; by_cases hh : rs[k - 1].key < r.key <;> simp [hh,d3]);clear hq hk0
      cases p1 with
      | true =>
       go_quiet (fail)
       go_wp2_with fail;go_meet;exact ⟨by rw [HO2.out]; rfl,_,rfl⟩
      | false =>
       cases p2 with
       | true =>
        go_quiet (fail)
        go_wp2_with fail;go_meet;exact ⟨by rw [HO2.out]; rfl,_,rfl⟩
       | false =>
        go_quiet (fail)
        go_wp2_with fail;go_meet;exact ⟨by rw [HO2.out]; rfl,_,rfl⟩
    case rest =>
    obtain ⟨rfl,n8,rfl⟩:=hcut
    cases ob with
    | true =>
     have HV:=Lib.hid (by
      have h8:=of_decide_eq_true HOB.out.symm
      exact roomsE_hit HBIG.out HKN.out HZ.out (HORD.out h8.1 hkey h8.2) (by decide))
     go_wp2_with fail;go_ret;exact ⟨ret_int' HV.out.symm,below_drewN' hb2 _⟩
    | false =>
     have HTH : Hid (roomAt rs k = thingsE r.gives):=Lib.hid (HGIV.out hkey (fun h0 => by
      have h8:=of_decide_eq_false HOB.out.symm
      by_cases hh : rs[k - 1].key < r.key
      ·exact hh
      ·exact absurd ⟨h0,hh⟩ h8))
     go_wp2_with fail;refine (thingsFault_any r.B r.c lo r.gives _ (HGV.out.drewN n8) (by have:=HGL.out; omega)).mono ?_;rintro e w3 ⟨rfl,hb3⟩;have hb4:=below_up (below_drewN' hb2 n8) hb3
     obtain ⟨te,hte⟩ : ∃ te,te = thingsE r.gives:=⟨_,rfl⟩
     rw [← hte] at HTH ⊢;clear hte z0 z1 hb3 hb2
     by_cases h0 : te = 0
     ·have HN:=Lib.hid (step_all HZ.out (by rw [HTH.out,h0]))
      have d0 : (te != 0) = false:=by rw [h0]; rfl
      clear h0;go_wp2_with fail;go_roundw
      case rel => exact ⟨k + 1,by omega,by go_num,HN,hb4⟩
      case measure => simp [intOf]; omega
     ·have HV:=Lib.hid (roomsE_hit HBIG.out HKN.out HZ.out HTH.out h0)
      have d0 : (te != 0) = true:=bne_iff_ne.2 h0;clear h0;go_wp2_with fail;go_ret;exact ⟨ret_int' HV.out.symm,hb4⟩
  ·have hke : k = rs.length:=by omega
   subst hke;have HV:=Lib.hid (roomsE_none hbig HZ.out);go_wp2_with fail;go_ret;exact ⟨ret_int' HV.out.symm,hbw⟩
end Go.Proofs.YtkchacgkjdeiaaaGreatDoor
/- The walk of doorsFault. -/
namespace Go.Proofs.YtkchacgkjdeiaaaGreatDoor
open Go.RowKit

theorem getDD {ds : List DoorE} {k : Nat} (hk : k < ds.length) : ds.getD k default = ds[k]:=by
 rw [List.getD_eq_getElem?_getD,List.getElem?_eq_getElem hk]; rfl
def doorX (rs : List RoomE) (d : DoorE) : Int :=
 if !hasR rs d.src || !hasR rs d.dst then 8 else if d.time < 1 ∨ 864000000 < d.time then 1
 else if firstE [thingsE d.needs,thingsE d.takes] ≠ 0 then firstE [thingsE d.needs,thingsE d.takes]
 else if d.trick ≠ [] ∧ !keyB d.trick then 5 else 0
theorem doorAt_key {rs : List RoomE} {ds : List DoorE} {k : Nat} (hk : k < ds.length) (h : keyB ds[k].key = false) : doorAt rs ds k = 5:=by
 unfold doorAt;rw [getDD hk]; simp [h]
theorem doorAt_ord {rs : List RoomE} {ds : List DoorE} {k : Nat} (h0 : 0 < k) (hk : k < ds.length) (h : keyB ds[k].key = true) (ho : ¬ ds[k - 1].key < ds[k].key) : doorAt rs ds k = 7:=by
 unfold doorAt;rw [getDD hk,getDD (show k - 1 < ds.length by omega)]; simp [h,h0,ho]
theorem doorAt_x {rs : List RoomE} {ds : List DoorE} {k : Nat} (hk : k < ds.length) (h : keyB ds[k].key = true) (ho : ∀ h0 : 0 < k,ds[k - 1].key < ds[k].key) : doorAt rs ds k = doorX rs ds[k]:=by
 unfold doorAt doorX;rw [getDD hk,getDD (show k - 1 < ds.length by omega)];rw [if_neg (by simp [h]),if_neg (fun e => e.2 (ho e.1))]
theorem doorsE_hit {rs : List RoomE} {ds : List DoorE} (hl : ¬ 500 < ds.length) {k : Nat} (hk : k < ds.length) (h0 : ∀ j,j < k → doorAt rs ds j = 0) {x : Int} (h : doorAt rs ds k = x) (hx : x ≠ 0) : doorsE rs ds = x:=by
 unfold doorsE;rw [if_neg hl,scanF_hit hk h0 (by rw [h]; exact hx),h]
theorem doorsE_none {rs : List RoomE} {ds : List DoorE} (hl : ¬ 500 < ds.length) (h0 : ∀ j,j < ds.length → doorAt rs ds j = 0) : doorsE rs ds = 0:=by
 unfold doorsE;rw [if_neg hl,scanF_none h0]
theorem hasR_keyI (rs : List RoomE) (k : List UInt8) : (keyI (rs.map RoomE.key) k < 0) ↔ hasR rs k = false:=by
 unfold keyI hasR
 by_cases h : k ∈ rs.map RoomE.key
 ·rw [if_pos h]
  obtain ⟨r,hr,he⟩:=List.mem_map.1 h
  constructor
  ·intro h1; omega
  ·intro h1
   rw [List.any_eq_false] at h1;exact absurd (by simp [he]) (h1 r hr)
 ·rw [if_neg h]
  constructor
  ·intro _
   rw [List.any_eq_false];intro r hr he;exact h (List.mem_map.2 ⟨r,hr,by simpa using he⟩)
  ·intro _; omega
structure DfC (w W : World) (kb lo : Nat) (d : DoorE) : Prop where
  bl : Blk W kb 137 #[.string ⟨d.key.toArray⟩, .string ⟨d.src.toArray⟩, .string ⟨d.dst.toArray⟩, .int .i64 d.time, .slice d.N d.needs.length d.nc, .slice d.T d.takes.length d.tc, .string ⟨d.trick.toArray⟩]
  n : Row W lo 1 d.N d.needs.length (strs d.needs)
  t : Row W lo 1 d.T d.takes.length (strs d.takes)
  b : Below w.heap.size w W
theorem DfC.below {w W W' : World} {kb lo : Nat} {d : DoorE} (h : DfC w W kb lo d) (hb : Below W.heap.size W W') : DfC w W' kb lo d:=⟨h.bl.below hb,h.n.below hb,h.t.below hb,below_up h.b hb⟩
theorem DfC.alloc {w W : World} {kb lo : Nat} {d : DoorE} (h : DfC w W kb lo d) (o : Obj) : DfC w (W.alloc o) kb lo d:=h.below ((Below.refl _ _).alloc (Nat.le_refl _) o)
theorem DfC.drew {w W : World} {kb lo : Nat} {d : DoorE} (h : DfC w W kb lo d) : DfC w W.drew kb lo d:=h.below (below_drewN' (Below.refl _ _) 1)
theorem DfC.cells {w W : World} {kb lo : Nat} {d : DoorE} (h : DfC w W kb lo d) : W.cell? ⟨kb,0,none⟩ = some (.string ⟨d.key.toArray⟩) ∧ W.cell? ⟨kb,1,none⟩ = some (.string ⟨d.src.toArray⟩) ∧ W.cell? ⟨kb,2,none⟩ = some (.string ⟨d.dst.toArray⟩) ∧ W.cell? ⟨kb,3,none⟩ = some (.int .i64 d.time) ∧ W.cell? ⟨kb,4,none⟩ = some (.slice d.N d.needs.length d.nc) ∧ W.cell? ⟨kb,5,none⟩ = some (.slice d.T d.takes.length d.tc) ∧ W.cell? ⟨kb,6,none⟩ = some (.string ⟨d.trick.toArray⟩) :=
 ⟨h.bl.cell 0,h.bl.cell 1,h.bl.cell 2,h.bl.cell 3,h.bl.cell 4,h.bl.cell 5,h.bl.cell 6⟩
set_option maxHeartbeats 8000000 in
set_option maxRecDepth 100000 in
theorem doorsFault_any (lo ca cd g : Nat) (A : Option Addr) (rs : List RoomE) (D : Option Addr) (ds : List DoorE) (w : World) (hA : MapW w lo A rs D ds) (hup : UpS (rs.map RoomE.key)) (hg0 : w.cell? ⟨g,0,none⟩ = some (.slice A rs.length ca)) (hg1 : w.cell? ⟨g,1,none⟩ = some (.slice D ds.length cd)) :
  Calls Tryz.prog 167 #[.pointer (some ⟨g,0,none⟩)] w fun e w' => e = .returned (.int .i64 (doorsE rs ds)) ∧ Below w.heap.size w w':=by
 have hl:=hA.s.dl;have hgl:=World.block_lt_of_cell? w ⟨g,0,none⟩ hg0;simp only at hgl
 by_cases hbig : 500 < ds.length
 ·have HV : Hid (doorsE rs ds = 2):=Lib.hid (by unfold doorsE; rw [if_pos hbig])
  go_enter Tryz.func167,Tryz.ntmps167
  go_wp2_with fail;go_ret;exact ⟨ret_int' HV.out.symm,Below.refl _ _⟩
 have HA:=Lib.hid hA;have HUP:=Lib.hid hup;have HG0:=Lib.hid hg0;have HG1:=Lib.hid hg1;clear hA hup hg0
 go_enter Tryz.func167,Tryz.ntmps167
 go_wp2_with fail;clear hg1
 go_loopw [17] (fun i wr => ∃ k : Nat,k ≤ ds.length ∧ i = .int .i64 k ∧ Hid (∀ j,j < k → doorAt rs ds j = 0) ∧ Below w.heap.size w wr) (fun i _ => ds.length - (intOf i).toNat)
 case atStart => exact ⟨0,Nat.zero_le _,rfl,Lib.hid (fun j hj => by omega),Below.refl _ _⟩
 case round =>
  obtain ⟨k,hk,rfl,HZ,hbw⟩:=hrel;have hsz:=hbw.size
  by_cases hkn : k < ds.length
  ·obtain ⟨b,off,rfl,hbs,hcell⟩:=(HA.out.below hbw).door (by omega)
   obtain ⟨y0,y1,y2,y3,y4,y5,y6⟩:=hcell k hkn;have HMEM:=Lib.hid (List.getElem_mem hkn);have HKEY:=Lib.hid (doorAt_key (rs:=rs) (ds:=ds) hkn);have HORD : Hid (∀ h0 : 0 < k,keyB ds[k].key = true → ¬ ds[k - 1].key < ds[k].key → doorAt rs ds k = 7):=Lib.hid (fun h0 => doorAt_ord h0 hkn);have HX:=Lib.hid (doorAt_x (rs:=rs) (ds:=ds) hkn);have HKN:=Lib.hid hkn;have HBIG:=Lib.hid hbig;have HCE:=Lib.hid hcell;have HLQ : Hid (∀ h0 : 0 < k,(Op.bytesLess ds[k].key ds[k - 1].key || ds[k].key == ds[k - 1].key) = !decide (ds[k - 1].key < ds[k].key)):=Lib.hid (fun h0 => leq_lt _ _);clear hcell hbig;generalize ds[k] = d at *;simp only [encStr] at y0 y1 y2 y6;go_upto_region 6 with (fail);have hb2 : Below w.heap.size w (wr.alloc (.cells #[.string ⟨d.key.toArray⟩,.string ⟨d.src.toArray⟩,.string ⟨d.dst.toArray⟩,.int .i64 d.time,.slice d.N d.needs.length d.nc,.slice d.T d.takes.length d.tc,.string ⟨d.trick.toArray⟩] 137)):=hbw.alloc hsz _;have hbl:=Blk.new wr 137 #[.string ⟨d.key.toArray⟩,.string ⟨d.src.toArray⟩,.string ⟨d.dst.toArray⟩,.int .i64 d.time,.slice d.N d.needs.length d.nc,.slice d.T d.takes.length d.tc,.string ⟨d.trick.toArray⟩]
   have hcl : ∀ (h0 : 0 < k),(wr.alloc (.cells #[.string ⟨d.key.toArray⟩,.string ⟨d.src.toArray⟩,.string ⟨d.dst.toArray⟩,.int .i64 d.time,.slice d.N d.needs.length d.nc,.slice d.T d.takes.length d.tc,.string ⟨d.trick.toArray⟩] 137)).cell? ⟨b,off + (k - 1) * 7,none⟩ = some (encStr ds[k - 1].key):=fun h0 => (((Below.refl wr.heap.size wr).alloc (Nat.le_refl _) _).cell (p:=⟨b,off + (k - 1) * 7,none⟩) hbs).trans (HCE.out (k - 1) (by omega)).1
   have hlt9 : b < (wr.alloc (.cells #[.string ⟨d.key.toArray⟩,.string ⟨d.src.toArray⟩,.string ⟨d.dst.toArray⟩,.int .i64 d.time,.slice d.N d.needs.length d.nc,.slice d.T d.takes.length d.tc,.string ⟨d.trick.toArray⟩] 137)).heap.size:=by simp; omega
   have hga : (wr.alloc (.cells #[.string ⟨d.key.toArray⟩,.string ⟨d.src.toArray⟩,.string ⟨d.dst.toArray⟩,.int .i64 d.time,.slice d.N d.needs.length d.nc,.slice d.T d.takes.length d.tc,.string ⟨d.trick.toArray⟩] 137)).cell? ⟨g,1,none⟩ = some (.slice (some ⟨b,off,none⟩) ds.length cd):=(hb2.cell (p:=⟨g,1,none⟩) (by exact hgl)).trans HG1.out;generalize wr.alloc (.cells #[.string ⟨d.key.toArray⟩,.string ⟨d.src.toArray⟩,.string ⟨d.dst.toArray⟩,.int .i64 d.time,.slice d.N d.needs.length d.nc,.slice d.T d.takes.length d.tc,.string ⟨d.trick.toArray⟩] 137) = wa at *;have hkbl:=hbl.lt;generalize wr.heap.size = kb at *
   obtain ⟨z0,z1,z2,z3,z4,z5,z6⟩ : _ ∧ _ ∧ _ ∧ _ ∧ _ ∧ _ ∧ _:=⟨hbl.cell 0,hbl.cell 1,hbl.cell 2,hbl.cell 3,hbl.cell 4,hbl.cell 5,hbl.cell 6⟩
   simp only [Q0,Q2,Q1] at z0 z1 z2 z3 z4 z5 z6;have HCL:=Lib.hid hcl;have HBL:=Lib.hid hbl;clear y0 y1 y2 y3 y4 y5 y6 hbw HCE hbl hcl hsz;go_wp2_with fail;refine (key_any ⟨d.key.toArray⟩ _).mono ?_;rintro e w1 ⟨rfl,rfl⟩
   cases hkey : keyB d.key with
   | false =>
    have HV:=Lib.hid (doorsE_hit HBIG.out HKN.out HZ.out (HKEY.out hkey) (by decide));simp only [hkey];go_wp2_with fail;go_ret;exact ⟨ret_int' HV.out.symm,hb2⟩
   | true =>
    simp only [hkey]
    obtain ⟨ob,hob⟩ : ∃ ob : Bool,ob = decide (0 < k ∧ ¬ ds[k - 1].key < d.key):=⟨_,rfl⟩
    have HOB:=Lib.hid hob;clear hob;go_upto_region 8 with (fail)
    go_cut [27] from 28 to 43 (fun v wx => v = .bool ob ∧ ∃ n,wx = wa.drewN n)
    case first =>
     by_cases hk0 : k = 0
     ·have d3 : ¬ 0 < k:=by omega
      have HO2 : Hid (ob = false):=Lib.hid (by rw [HOB.out]; exact decide_eq_false (fun h => d3 h.1));clear hk0
      go_quiet (fail)
      go_wp2_with fail;go_meet;exact ⟨by rw [HO2.out],_,rfl⟩
     ·have d3 : 0 < k:=by omega
      have c1:=HCL.out d3;simp only [encStr] at c1
      have wk : IntKind.i64.wrap ((k : Int) - 1) = ((k - 1 : Nat) : Int):=by rw [IntWalk.i64_in _ ⟨by omega,by omega⟩]; omega
      have hq:=HLQ.out d3
      obtain ⟨p1,h1⟩ : ∃ p1,Op.bytesLess d.key ds[k - 1].key = p1:=⟨_,rfl⟩
      obtain ⟨p2,h2⟩ : ∃ p2,(d.key == ds[k - 1].key) = p2:=⟨_,rfl⟩
      rw [h1,h2] at hq;have HO2 : Hid (ob = (p1 || p2)):=Lib.hid (by rw [HOB.out,hq]; by_cases hh : ds[k - 1].key < d.key <;> simp [hh,d3]);clear hq hk0
      cases p1 with
      | true =>
       go_quiet (fail)
       go_wp2_with fail;go_meet;exact ⟨by rw [HO2.out]; rfl,_,rfl⟩
      | false =>
       cases p2 with
       | true =>
        go_quiet (fail)
        go_wp2_with fail;go_meet;exact ⟨by rw [HO2.out]; rfl,_,rfl⟩
       | false =>
        go_quiet (fail)
        go_wp2_with fail;go_meet;exact ⟨by rw [HO2.out]; rfl,_,rfl⟩
    case rest =>
    obtain ⟨rfl,n8,rfl⟩:=hcut
    cases ob with
    | true =>
     have HV:=Lib.hid (by
      have h8:=of_decide_eq_true HOB.out.symm
      exact doorsE_hit HBIG.out HKN.out HZ.out (HORD.out h8.1 hkey h8.2) (by decide))
     go_wp2_with fail;go_ret;exact ⟨ret_int' HV.out.symm,below_drewN' hb2 _⟩
    | false =>
     have HTH : Hid (doorAt rs ds k = doorX rs d):=Lib.hid (HX.out hkey (fun h0 => by
      have h8:=of_decide_eq_false HOB.out.symm
      by_cases hh : ds[k - 1].key < d.key
      ·exact hh
      ·exact absurd ⟨h0,hh⟩ h8))
     have hb3 : Below w.heap.size w (wa.drewN n8):=below_drewN' hb2 _;have hbl3 : Blk (wa.drewN n8) kb 137 #[.string ⟨d.key.toArray⟩,.string ⟨d.src.toArray⟩,.string ⟨d.dst.toArray⟩,.int .i64 d.time,.slice d.N d.needs.length d.nc,.slice d.T d.takes.length d.tc,.string ⟨d.trick.toArray⟩]:=HBL.out.drewN n8;generalize wa.drewN n8 = wb at *;clear hb2 z0 z1 z2 z3 z4 z5 z6 hga hlt9 hkbl HCL HBL HOB HLQ HORD HKEY HX hbs
     have hC : DfC w wb kb lo d:=⟨hbl3,(HA.out.needs _ HMEM.out).1.below hb3,(HA.out.takes _ HMEM.out).1.below hb3,hb3⟩
     clear hb3 hbl3;have HDS:=Lib.hid (⟨HA.out.s.dk _ HMEM.out,HA.out.s.dt _ HMEM.out,HA.out.s.dn _ HMEM.out,HA.out.s.dx _ HMEM.out⟩ : _ ∧ _ ∧ _ ∧ _)
     obtain ⟨rb,hrb⟩ : ∃ rb : Bool,rb = (!hasR rs d.src || !hasR rs d.dst):=⟨_,rfl⟩
     have HRB:=Lib.hid hrb;clear hrb;go_upto_region 10 with (fail)
     go_cut [44] from 45 to 56 (fun v wx => v = .bool rb ∧ DfC w wx kb lo d)
     case first =>
      obtain ⟨-,z1,z2,-⟩:=hC.cells;go_wp2_with fail;refine (room_any lo ca g A rs _ ds d.src _ (HA.out.below hC.b) HUP.out ((hC.b.cell (p:=⟨g,0,none⟩) (by exact hgl)).trans HG0.out)).mono ?_;rintro e w3 ⟨rfl,hb3⟩;replace hC:=hC.below hb3;clear z1 z2 hb3
      obtain ⟨x1,hx1⟩ : ∃ x1,x1 = keyI (rs.map RoomE.key) d.src:=⟨_,rfl⟩
      have h1:=hasR_keyI rs d.src;rw [← hx1] at h1 ⊢;clear hx1;obtain ⟨-,z1,z2,-⟩:=hC.cells
      cases hs1 : hasR rs d.src with
      | false =>
       have d1 : decide (x1 < 0) = true:=decide_eq_true (h1.2 hs1);have HV : Hid (rb = true):=Lib.hid (by rw [HRB.out,hs1]; rfl);clear h1 hs1;go_wp2_with fail;go_meet;exact ⟨by rw [HV.out],hC⟩
      | true =>
       have d1 : decide (x1 < 0) = false:=decide_eq_false (fun h => by have:=h1.1 h; rw [hs1] at this; cases this);clear h1;go_wp2_with fail;refine (room_any lo ca g A rs _ ds d.dst _ (HA.out.below hC.b) HUP.out ((hC.b.cell (p:=⟨g,0,none⟩) (by exact hgl)).trans HG0.out)).mono ?_;rintro e w4 ⟨rfl,hb4⟩;replace hC:=hC.below hb4;clear z1 z2 hb4
       obtain ⟨x2,hx2⟩ : ∃ x2,x2 = keyI (rs.map RoomE.key) d.dst:=⟨_,rfl⟩
       have h2:=hasR_keyI rs d.dst;rw [← hx2] at h2 ⊢;clear hx2
       have HV : Hid (decide (x2 < 0) = rb):=Lib.hid (by
        rw [HRB.out,hs1]
        cases hs2 : hasR rs d.dst with
        | false => simp [h2.2 hs2]
        | true => rw [decide_eq_false (fun h => by have:=h2.1 h; rw [hs2] at this; cases this)]; rfl)
       obtain ⟨x3,hx3⟩ : ∃ x3,x3 = decide (x2 < 0):=⟨_,rfl⟩
       have HX3:=Lib.hid hx3;have hx4 : decide (x2 < 0) = x3:=hx3.symm;clear h2 hs1 hx3;go_wp2_with fail;go_meet;exact ⟨by rw [← HV.out,HX3.out],hC⟩
     case rest =>
     obtain ⟨rfl,hC⟩:=hcut
     cases rb with
     | true =>
      have HV:=Lib.hid (by
       have h8:=HTH.out;unfold doorX at h8;rw [← HRB.out,if_pos rfl] at h8
       exact doorsE_hit HBIG.out HKN.out HZ.out h8 (by decide))
      go_wp2_with fail;go_ret;exact ⟨ret_int' HV.out.symm,hC.b⟩
     | false =>
      have HT2 : Hid (doorAt rs ds k = if d.time < 1 ∨ 864000000 < d.time then 1 else if firstE [thingsE d.needs,thingsE d.takes] ≠ 0 then firstE [thingsE d.needs,thingsE d.takes] else if d.trick ≠ [] ∧ !keyB d.trick then 5 else 0):=Lib.hid (by
       rw [HTH.out]; unfold doorX; rw [← HRB.out,if_neg (by decide)])
      clear HTH HRB;obtain ⟨-,-,-,z3,-⟩:=hC.cells;go_wp2_with fail;refine (out_any d.time 1 864000000 _).mono ?_;rintro e w5 ⟨rfl,rfl⟩;clear z3
      obtain ⟨tb,htb⟩ : ∃ tb : Bool,tb = (decide (d.time < 1) || decide (864000000 < d.time)):=⟨_,rfl⟩
      rw [← htb];have HTB:=Lib.hid htb;clear htb
      cases tb with
      | true =>
       have HV:=Lib.hid (by
        have h8:=HT2.out;rw [if_pos (by have:=HTB.out; simpa using this.symm)] at h8
        exact doorsE_hit HBIG.out HKN.out HZ.out h8 (by decide))
       go_wp2_with fail;go_ret;exact ⟨ret_int' HV.out.symm,hC.b⟩
      | false =>
       have HT3 : Hid (doorAt rs ds k = if firstE [thingsE d.needs,thingsE d.takes] ≠ 0 then firstE [thingsE d.needs,thingsE d.takes] else if d.trick ≠ [] ∧ !keyB d.trick then 5 else 0):=Lib.hid (by
        rw [HT2.out,if_neg (by have:=HTB.out; simpa using this.symm)])
       clear HT2 HTB
       obtain ⟨ae,hae⟩ : ∃ ae,ae = thingsE d.needs:=⟨_,rfl⟩
       obtain ⟨be,hbe⟩ : ∃ be,be = thingsE d.takes:=⟨_,rfl⟩
       rw [← hae,← hbe] at HT3;have HAE:=Lib.hid hae;have HBE:=Lib.hid hbe;clear hae hbe;go_upto_region 14 with (fail)
       go_cut [5] from 61 to 68 (fun v wx => v = .int .i64 (firstE [ae,be]) ∧ DfC w wx kb lo d)
       case first =>
        replace hC:=hC.drew
        go_region_held3 (fun w' => w'.cell? ⟨kb,4,none⟩ = some (.slice d.N d.needs.length d.nc) ∧ w'.cell? ⟨kb,5,none⟩ = some (.slice d.T d.takes.length d.tc)) (first | exact ⟨hC.cells.2.2.2.2.1,hC.cells.2.2.2.2.2.1⟩ | exact ⟨(hC.alloc _).cells.2.2.2.2.1,(hC.alloc _).cells.2.2.2.2.2.1⟩)
         (first
         | (go_at_call 197; first | (refine (thingsFault_any d.N d.nc lo d.needs _ hC.n (by have:=HDS.out.2.2.1.1; omega)).mono ?_; rintro e w7 ⟨rfl,hb7⟩; rw [← HAE.out]; have hC:=hC.below hb7) | (refine (thingsFault_any d.T d.tc lo d.takes _ hC.t (by have:=HDS.out.2.2.2.1; omega)).mono ?_; rintro e w7 ⟨rfl,hb7⟩; rw [← HBE.out]; have hC:=hC.below hb7))
         | (go_at_call 88; refine (first_any _ _ 0 [ae,be] _ (by first | exact row_new' _ (by first | rfl | simp) (by first | omega | (simp; omega)) rfl | exact row_newN _ _ (by first | rfl | simp) (by first | omega | (simp; omega)) rfl | exact row_newD _ (by first | rfl | simp) (by first | omega | (simp; omega)) rfl) (by simp)).mono ?_; rintro e w8 ⟨rfl,rfl⟩; have hC:=hC.alloc (.cells #[.int .i64 ae,.int .i64 be] 31)))
        all_goals
         go_wp2_with fail;go_meet;exact ⟨rfl,hC⟩
       case rest =>
       obtain ⟨rfl,hC⟩:=hcut
       obtain ⟨fe,hfe⟩ : ∃ fe,fe = firstE [ae,be]:=⟨_,rfl⟩
       rw [← hfe] at HT3 ⊢;clear hfe
       by_cases h0 : fe = 0
       ·have HT4 : Hid (doorAt rs ds k = if d.trick ≠ [] ∧ !keyB d.trick then 5 else 0):=Lib.hid (by rw [HT3.out,if_neg (fun h => h h0)])
        have d0 : (fe != 0) = false:=by rw [h0]; rfl
        obtain ⟨-,-,-,-,-,-,z6⟩:=hC.cells;clear h0 HT3
        by_cases ht : d.trick = []
        ·have dt : d.trick.isEmpty = true:=by rw [ht]; rfl
         have dt2 : (d.trick == []) = true:=by rw [ht]; rfl
         have HN:=Lib.hid (step_all HZ.out (by rw [HT4.out,if_neg (fun h => h.1 ht)]));clear ht;go_wp2_with fail;go_roundw
         case rel => exact ⟨k + 1,by omega,by go_num,HN,hC.b⟩
         case measure => simp [intOf]; omega
        ·have dt : d.trick.isEmpty = false:=by cases h : d.trick with | nil => exact absurd h ht | cons a l => rfl
         have dt2 : (d.trick == []) = false:=beq_eq_false_iff_ne.2 ht;have HTN:=Lib.hid ht;clear ht;go_wp2_with fail;refine (key_any ⟨d.trick.toArray⟩ _).mono ?_;rintro e w8 ⟨rfl,rfl⟩
         cases hkt : keyB d.trick with
         | true =>
          have HN:=Lib.hid (step_all HZ.out (by rw [HT4.out,if_neg (fun h => by rw [hkt] at h; cases h.2)]));simp only [hkt];go_wp2_with fail;go_roundw
          case rel => exact ⟨k + 1,by omega,by go_num,HN,hC.b⟩
          case measure => simp [intOf]; omega
         | false =>
          have HV:=Lib.hid (doorsE_hit HBIG.out HKN.out HZ.out (by rw [HT4.out,if_pos ⟨HTN.out,by rw [hkt]; rfl⟩]) (by decide : (5 : Int) ≠ 0));simp only [hkt];go_wp2_with fail;go_ret;exact ⟨ret_int' HV.out.symm,hC.b⟩
       ·have HV:=Lib.hid (doorsE_hit HBIG.out HKN.out HZ.out (by rw [HT3.out,if_pos h0]) h0)
        have d0 : (fe != 0) = true:=bne_iff_ne.2 h0;clear h0;go_wp2_with fail;go_ret;exact ⟨ret_int' HV.out.symm,hC.b⟩
  ·have hke : k = ds.length:=by omega
   subst hke;have HV:=Lib.hid (doorsE_none (rs:=rs) hbig HZ.out);go_wp2_with fail;go_ret;exact ⟨ret_int' HV.out.symm,hbw⟩
end Go.Proofs.YtkchacgkjdeiaaaGreatDoor
