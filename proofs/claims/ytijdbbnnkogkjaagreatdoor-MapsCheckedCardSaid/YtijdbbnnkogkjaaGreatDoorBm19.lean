/- Texts of this seat, laid together: MqF. -/
import Derived.Deep.DeepCutAuto
import Derived.Deep.CutRange
import Derived.Test.YtijdbbnnkogkjaaGreatDoorBm18
/- The walk of roomsFault. -/
namespace Go.Proofs.YtijdbbnnkogkjaaGreatDoor
set_option linter.unusedVariables false
set_option linter.unusedSimpArgs false
open Go.RowKit

theorem getDR {rs : List RoomE} {k : Nat} (hk : k < rs.length) : rs.getD k default = rs[k]:=by
 rw [List.getD_eq_getElem?_getD,List.getElem?_eq_getElem hk]; rfl
theorem roomAt_key {rs : List RoomE} {k : Nat} (hk : k < rs.length) (h : keyB rs[k].key = false) : roomAt rs k = 5:=by
 unfold roomAt
 rw [getDR hk]; simp [h]
theorem roomAt_ord {rs : List RoomE} {k : Nat} (h0 : 0 < k) (hk : k < rs.length) (h : keyB rs[k].key = true) (ho : ¬ rs[k - 1].key < rs[k].key) : roomAt rs k = 7:=by
 unfold roomAt
 rw [getDR hk,getDR (show k - 1 < rs.length by omega)]; simp [h,h0,ho]
theorem roomAt_gives {rs : List RoomE} {k : Nat} (hk : k < rs.length) (h : keyB rs[k].key = true) (ho : ∀ h0 : 0 < k,rs[k - 1].key < rs[k].key) : roomAt rs k = thingsE rs[k].gives:=by
 unfold roomAt
 rw [getDR hk,getDR (show k - 1 < rs.length by omega)]
 rw [if_neg (by simp [h]),if_neg (fun e => e.2 (ho e.1))]
theorem roomsE_hit {rs : List RoomE} (hl : ¬ 100 < rs.length) {k : Nat} (hk : k < rs.length) (h0 : ∀ j,j < k → roomAt rs j = 0) {x : Int} (h : roomAt rs k = x) (hx : x ≠ 0) : roomsE rs = x:=by
 unfold roomsE
 rw [if_neg hl,scanF_hit hk h0 (by rw [h]; exact hx),h]
theorem roomsE_none {rs : List RoomE} (hl : ¬ 100 < rs.length) (h0 : ∀ j,j < rs.length → roomAt rs j = 0) : roomsE rs = 0:=by
 unfold roomsE
 rw [if_neg hl,scanF_none h0]
theorem roomsE_up {rs : List RoomE} (h : roomsE rs = 0) : UpS (rs.map RoomE.key):=by
 intro i hi
 have hi' : i + 1 < rs.length:=by simpa using hi
 simp only [List.getElem_map]
 unfold roomsE at h
 split at h
 ·cases h
 ·have h1:=scanF_0 h (i + 1) hi'
  unfold roomAt at h1
  rw [getDR hi',getDR (show i + 1 - 1 < rs.length by omega)] at h1
  split at h1
  ·cases h1
  ·split at h1
   ·cases h1
   ·rename_i h2
    by_cases h3 : rs[i].key < rs[i + 1].key
    ·exact h3
    ·exact absurd ⟨by omega,h3⟩ h2
theorem step_all {f : Nat → Int} {k : Nat} (h : ∀ j,j < k → f j = 0) (hk : f k = 0) : ∀ j,j < k + 1 → f j = 0:=fun j hj => by
 by_cases hj' : j < k
 ·exact h j hj'
 ·obtain rfl : j = k:=by omega
  exact hk
set_option maxHeartbeats 4000000 in
set_option maxRecDepth 100000 in
theorem roomsFault_any (lo c : Nat) (A : Option Addr) (rs : List RoomE) (D : Option Addr) (ds : List DoorE) (w : World) (hA : MapW w lo A rs D ds) :
  Calls Tryz.prog 29 #[.slice A rs.length c] w fun e w' => e = .returned (.int .i64 (roomsE rs)) ∧ Below w.heap.size w w':=by
 have hl:=hA.s.rl
 by_cases hbig : 100 < rs.length
 ·have HV : Hid (roomsE rs = 2):=Lib.hid (by unfold roomsE; rw [if_pos hbig])
  go_enter Tryz.func29,Tryz.ntmps29
  go_wp2_with fail
  go_ret
  exact ⟨ret_int' HV.out.symm,Below.refl _ _⟩
 have HA:=Lib.hid hA
 clear hA
 go_enter Tryz.func29,Tryz.ntmps29
 go_wp2_with fail
 go_loopw [11] (fun i wr => ∃ k : Nat,k ≤ rs.length ∧ i = .int .i64 k ∧ Hid (∀ j,j < k → roomAt rs j = 0) ∧ Below w.heap.size w wr) (fun i _ => rs.length - (intOf i).toNat)
 case atStart => exact ⟨0,Nat.zero_le _,rfl,Lib.hid (fun j hj => by omega),Below.refl _ _⟩
 case round =>
  obtain ⟨k,hk,rfl,HZ,hbw⟩:=hrel
  have hsz:=hbw.size
  by_cases hkn : k < rs.length
  ·obtain ⟨b,off,rfl,hbs,hcell⟩:=(HA.out.below hbw).room (by omega)
   obtain ⟨y0,y1⟩:=hcell k hkn
   have HG:=Lib.hid ((HA.out.below hbw).gives _ (List.getElem_mem hkn))
   have HGL:=Lib.hid (HA.out.s.rg _ (List.getElem_mem hkn)).1
   have HKEY:=Lib.hid (roomAt_key (rs:=rs) hkn)
   have HORD : Hid (∀ h0 : 0 < k,keyB rs[k].key = true → ¬ rs[k - 1].key < rs[k].key → roomAt rs k = 7):=Lib.hid (fun h0 => roomAt_ord h0 hkn)
   have HGIV:=Lib.hid (roomAt_gives (rs:=rs) hkn)
   have HKN:=Lib.hid hkn
   have HBIG:=Lib.hid hbig
   have HCE:=Lib.hid hcell
   have HLQ : Hid (∀ h0 : 0 < k,(Op.bytesLess rs[k].key rs[k - 1].key || rs[k].key == rs[k - 1].key) = !decide (rs[k - 1].key < rs[k].key)):=Lib.hid (fun h0 => leq_lt _ _)
   clear hcell hbig
   generalize rs[k] = r at *
   simp only [encStr] at y0
   go_upto_region 6 with (fail)
   have hb2 : Below w.heap.size w (wr.alloc (.cells #[.string ⟨r.key.toArray⟩,.slice r.B r.gives.length r.c] 62)):=hbw.alloc hsz _
   have hbl:=Blk.new wr 62 #[.string ⟨r.key.toArray⟩,.slice r.B r.gives.length r.c]
   have hgv:=HG.out.1.alloc (.cells #[.string ⟨r.key.toArray⟩,.slice r.B r.gives.length r.c] 62)
   have hcl : ∀ (h0 : 0 < k),(wr.alloc (.cells #[.string ⟨r.key.toArray⟩,.slice r.B r.gives.length r.c] 62)).cell? ⟨b,off + (k - 1) * 2,none⟩ = some (encStr rs[k - 1].key):=fun h0 => (((Below.refl wr.heap.size wr).alloc (Nat.le_refl _) _).cell (p:=⟨b,off + (k - 1) * 2,none⟩) hbs).trans (HCE.out (k - 1) (by omega)).1
   have hlt9 : b < (wr.alloc (.cells #[.string ⟨r.key.toArray⟩,.slice r.B r.gives.length r.c] 62)).heap.size:=by simp; omega
   generalize wr.alloc (.cells #[.string ⟨r.key.toArray⟩,.slice r.B r.gives.length r.c] 62) = wa at *
   have hkbl:=hbl.lt
   generalize wr.heap.size = kb at *
   obtain ⟨z0,z1⟩ : _ ∧ _:=⟨hbl.cell 0,hbl.cell 1⟩
   simp only [List.getElem?_toArray,List.getElem?_cons_zero,List.getElem?_cons_succ] at z0 z1
   have HCL:=Lib.hid hcl
   have HGV:=Lib.hid hgv
   clear y0 y1 hbw HG HCE hbl hcl hgv hsz
   go_wp2_with fail
   refine (key_any ⟨r.key.toArray⟩ _).mono ?_
   rintro e w1 ⟨rfl,rfl⟩
   cases hkey : keyB r.key with
   | false =>
    have HV:=Lib.hid (roomsE_hit HBIG.out HKN.out HZ.out (HKEY.out hkey) (by decide))
    simp only [hkey]
    go_wp2_with fail
    go_ret
    exact ⟨ret_int' HV.out.symm,hb2⟩
   | true =>
    simp only [hkey]
    obtain ⟨ob,hob⟩ : ∃ ob : Bool,ob = decide (0 < k ∧ ¬ rs[k - 1].key < r.key):=⟨_,rfl⟩
    have HOB:=Lib.hid hob
    clear hob
    go_upto_region 8 with (fail)
    go_cut [21] from 22 to 34 (fun v wx => v = .bool ob ∧ ∃ n,wx = wa.drewN n)
    case first =>
     by_cases hk0 : k = 0
     ·have d3 : ¬ 0 < k:=by omega
      have HO2 : Hid (ob = false):=Lib.hid (by rw [HOB.out]; exact decide_eq_false (fun h => d3 h.1))
      clear hk0
      go_quiet (fail)
      go_wp2_with fail
      go_meet
      exact ⟨by rw [HO2.out],_,rfl⟩
     ·have d3 : 0 < k:=by omega
      have c1:=HCL.out d3
      simp only [encStr] at c1
      have wk : IntKind.i64.wrap ((k : Int) - 1) = ((k - 1 : Nat) : Int):=by rw [IntWalk.i64_in _ ⟨by omega,by omega⟩]; omega
      have hq:=HLQ.out d3
      obtain ⟨p1,h1⟩ : ∃ p1,Op.bytesLess r.key rs[k - 1].key = p1:=⟨_,rfl⟩
      obtain ⟨p2,h2⟩ : ∃ p2,(r.key == rs[k - 1].key) = p2:=⟨_,rfl⟩
      rw [h1,h2] at hq
      have HO2 : Hid (ob = (p1 || p2)):=Lib.hid (by rw [HOB.out,hq]; by_cases hh : rs[k - 1].key < r.key <;> simp [hh,d3])
      clear hq hk0
      cases p1 with
      | true =>
       go_quiet (fail)
       go_wp2_with fail
       go_meet
       exact ⟨by rw [HO2.out]; rfl,_,rfl⟩
      | false =>
       cases p2 with
       | true =>
        go_quiet (fail)
        go_wp2_with fail
        go_meet
        exact ⟨by rw [HO2.out]; rfl,_,rfl⟩
       | false =>
        go_quiet (fail)
        go_wp2_with fail
        go_meet
        exact ⟨by rw [HO2.out]; rfl,_,rfl⟩
    case rest =>
    obtain ⟨rfl,n8,rfl⟩:=hcut
    cases ob with
    | true =>
     have HV:=Lib.hid (by
      have h8:=of_decide_eq_true HOB.out.symm
      exact roomsE_hit HBIG.out HKN.out HZ.out (HORD.out h8.1 hkey h8.2) (by decide))
     go_wp2_with fail
     go_ret
     exact ⟨ret_int' HV.out.symm,below_drewN' hb2 _⟩
    | false =>
     have HTH : Hid (roomAt rs k = thingsE r.gives):=Lib.hid (HGIV.out hkey (fun h0 => by
      have h8:=of_decide_eq_false HOB.out.symm
      by_cases hh : rs[k - 1].key < r.key
      ·exact hh
      ·exact absurd ⟨h0,hh⟩ h8))
     go_wp2_with fail
     refine (thingsFault_any r.B r.c lo r.gives _ (HGV.out.drewN n8) (by have:=HGL.out; omega)).mono ?_
     rintro e w3 ⟨rfl,hb3⟩
     have hb4:=below_up (below_drewN' hb2 n8) hb3
     obtain ⟨te,hte⟩ : ∃ te,te = thingsE r.gives:=⟨_,rfl⟩
     rw [← hte] at HTH ⊢
     clear hte z0 z1 hb3 hb2
     by_cases h0 : te = 0
     ·have HN:=Lib.hid (step_all HZ.out (by rw [HTH.out,h0]))
      have d0 : (te != 0) = false:=by rw [h0]; rfl
      clear h0
      go_wp2_with fail
      go_roundw
      case rel => exact ⟨k + 1,by omega,by go_num,HN,hb4⟩
      case measure => simp [intOf]; omega
     ·have HV:=Lib.hid (roomsE_hit HBIG.out HKN.out HZ.out HTH.out h0)
      have d0 : (te != 0) = true:=bne_iff_ne.2 h0
      clear h0
      go_wp2_with fail
      go_ret
      exact ⟨ret_int' HV.out.symm,hb4⟩
  ·have hke : k = rs.length:=by omega
   subst hke
   have HV:=Lib.hid (roomsE_none hbig HZ.out)
   go_wp2_with fail
   go_ret
   exact ⟨ret_int' HV.out.symm,hbw⟩
end Go.Proofs.YtijdbbnnkogkjaaGreatDoor
