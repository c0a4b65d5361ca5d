/- Texts of this seat, laid together: WkN. -/
import Derived.Test.YtjggbpchmbdocaaGreatDoorBl29
import Derived.Test.YtjggbpchmbdocaaGreatDoorBl28
import Derived.Test.YtjggbpchmbdocaaGreatDoorBl08
/- The walk of newWorld at any right map. -/
namespace Go.Proofs.YtjggbpchmbdocaaGreatDoor
set_option linter.unusedVariables false
set_option linter.unusedSimpArgs false
open Go.RowKit

theorem McC.alloc {w W : World} {g lo : Nat} {A : Option Addr} {rs : List RoomE} {ca : Nat} {D : Option Addr} {ds : List DoorE} {cd : Nat} {st gl : List UInt8} (h : McC w W g lo A rs ca D ds cd st gl) (o : Obj) : McC w (W.alloc o) g lo A rs ca D ds cd st gl:=h.below ((Below.refl _ _).alloc (Nat.le_refl _) o)
theorem McC.drew {w W : World} {g lo : Nat} {A : Option Addr} {rs : List RoomE} {ca : Nat} {D : Option Addr} {ds : List DoorE} {cd : Nat} {st gl : List UInt8} (h : McC w W g lo A rs ca D ds cd st gl) : McC w W.drew g lo A rs ca D ds cd st gl:=h.below (below_drewN' (Below.refl _ _) 1)
theorem roomI_any (lo ca g : Nat) (A : Option Addr) (rs : List RoomE) (D : Option Addr) (ds : List DoorE) (key : List UInt8) (w : World) (hA : MapW w lo A rs D ds) (hup : UpS (rs.map RoomE.key)) (hg : w.cell? ⟨g,0,none⟩ = some (.slice A rs.length ca)) :
  Calls Tryz.prog 54 #[.pointer (some ⟨g,0,none⟩),.string ⟨key.toArray⟩] w fun e w' => e = .returned (.int .i64 (roomI rs key)) ∧ Below w.heap.size w w':=room_any lo ca g A rs D ds key w hA hup hg
theorem info_intsW : (Tryz.prog.info? 22).map (fun i => (i.zero,i.size,i.bytes)) = some (some (.slice none 0 0),1,24):=by kernel_rfl
theorem und_intssW : Tryz.prog.underlying 107 = some (.slice 22):=Tryz.underlying107
def Nw1 (w : World) (M lo ca cd : Nat) (A : Option Addr) (rs : List RoomE) (D : Option Addr) (ds : List DoorE) (st gl : List UInt8) (T : List (List UInt8)) (v : Value) (wx : World) : Prop :=
 ∃ (W0 : World) (g tc : Nat) (TA : Option Addr) (cs : Array Value),v = .pointer (some ⟨W0.heap.size,0,none⟩) ∧ w.heap.size ≤ g ∧ McC w W0 M lo A rs ca D ds cd st gl ∧ Blk W0 g 22 cs ∧ (∀ i,i < rs.length → cs[i]? = some (.slice none 0 0)) ∧ W0.ownsRow w.heap.size 9 1 (.slice TA T.length tc) T.length (strs T) ∧ wx = W0.alloc (.cells #[.pointer (some ⟨M,0,none⟩),.slice TA T.length tc,.slice none 0 0,.slice none 0 0,.slice (some ⟨g,0,none⟩) rs.length rs.length,.int .i64 (roomI rs st),.int .i64 (roomI rs gl)] 109)
def NwPost (w : World) (M : Nat) (rs : List RoomE) (ds : List DoorE) (T tr : List (List UInt8)) (wo st gl : List UInt8) (e : Ending) (w' : World) : Prop:=∃ q : WorP,e = .returned (.pointer (some ⟨q.p,0,none⟩)) ∧ WorW w' w.heap.size M q T rs ds tr wo st gl ∧ w.heap.size ≤ q.p ∧ Below w.heap.size w w'
set_option maxHeartbeats 8000000 in
set_option maxRecDepth 100000 in
theorem newWorld_any (M lo ca cd lo2 c2 : Nat) (A : Option Addr) (rs : List RoomE) (D : Option Addr) (ds : List DoorE) (st gl : List UInt8) (T : List (List UInt8)) (TR : Option Addr) (tr : List (List UInt8)) (wo : List UInt8) (w : World) (hA : MapW w lo A rs D ds) (hM : Blk w M 29 #[.slice A rs.length ca,.slice D ds.length cd,.string ⟨st.toArray⟩,.string ⟨gl.toArray⟩]) (hR : Right rs ds st gl) (hT : onceT (allT rs ds) = T) (hr : Row w lo2 1 TR tr.length (strs tr)) (hrl : tr.length ≤ 1000000000) :
  Calls Tryz.prog 56 #[.pointer (some ⟨M,0,none⟩),.slice TR tr.length c2,.string ⟨wo.toArray⟩] w (NwPost w M rs ds T tr wo st gl):=by
 have hc : McC w w.drew M lo A rs ca D ds cd st gl:=(⟨hA,hM,Below.refl _ _⟩ : McC w w M lo A rs ca D ds cd st gl).drew
 have zm:=hM.lt
 have hlen : 0 < rs.length:=Nat.lt_of_le_of_lt (Nat.zero_le _) (ixR_lt hR.st)
 have hrl1 : rs.length ≤ 100:=hR.rl
 have hdl1 : ds.length ≤ 500:=hR.dl
 have hfew : T.length ≤ 10:=by rw [← hT]; exact hR.few
 have HTU : Hid (T.Pairwise (· < ·)):=Lib.hid (by rw [← hT]; exact (onceT_spec _).1)
 have hsub : ∀ x ∈ allT rs ds,x ∈ T:=by intro x hx; rw [← hT]; exact ((onceT_spec _).2 x).2 hx
 have HSG : Hid (∀ r ∈ rs,∀ x ∈ r.gives,x ∈ T):=Lib.hid (fun r hr x hx => hsub x (List.mem_append_left _ (List.mem_flatMap.2 ⟨r,hr,hx⟩)))
 have HSN : Hid (∀ d ∈ ds,∀ x ∈ d.needs,x ∈ T):=Lib.hid (fun d hd x hx => hsub x (List.mem_append_right _ (List.mem_flatMap.2 ⟨d,hd,List.mem_append_left _ hx⟩)))
 have HSX : Hid (∀ d ∈ ds,∀ x ∈ d.takes,x ∈ T):=Lib.hid (fun d hd x hx => hsub x (List.mem_append_right _ (List.mem_flatMap.2 ⟨d,hd,List.mem_append_right _ hx⟩)))
 have HT:=Lib.hid hT
 have HRI:=Lib.hid hR
 have HRT:=Lib.hid hr
 have HMA:=Lib.hid hA
 have HMB:=Lib.hid hM
 obtain ⟨i0,hi0,hz0,hz1,hz2⟩:=info_parts info_intsW
 have und:=und_intssW
 clear hsub hT hR hr hA hM
 go_enter Tryz.func56,Tryz.ntmps56
 go_upto_region 1 with (fail)
 go_cut [7] from 13 to 36 (fun v wx => Nw1 w M lo ca cd A rs D ds st gl T v wx)
 case first =>
  go_wp2_with fail
  refine wp_region_held_drew (S:=(fun w' => w'.cell? ⟨M,0,none⟩ = some (.slice A rs.length ca) ∧ w'.cell? ⟨M,1,none⟩ = some (.slice D ds.length cd) ∧ w'.cell? ⟨M,2,none⟩ = some (.string ⟨st.toArray⟩) ∧ w'.cell? ⟨M,3,none⟩ = some (.string ⟨gl.toArray⟩))) (by kernel_rfl) (hc.cells) (fun hHeld => ?_)
  (refine QT (i:=0) (v:=?_) ?_ ?_; (rotate_left 1; (intro w hSw; (try dsimp only at hSw); go_simp); (try with_reducible rfl)); (try simp only [Act.put,Q3,Q4,Q5]))
  (refine QT (i:=1) (v:=?_) ?_ ?_; (rotate_left 1; (intro w hSw; (try dsimp only at hSw); go_simp); (try with_reducible rfl)); (try simp only [Act.put,Q3,Q4,Q5]))
  (refine QT (i:=3) (v:=?_) ?_ ?_; (rotate_left 1; (intro w hSw; (try dsimp only at hSw); go_simp); (try with_reducible rfl)); (try simp only [Act.put,Q3,Q4,Q5]))
  (refine QT (i:=4) (v:=?_) ?_ ?_; (rotate_left 1; (intro w hSw; (try dsimp only at hSw); go_simp); (try with_reducible rfl)); (try simp only [Act.put,Q3,Q4,Q5]))
  (refine QT (i:=5) (v:=?_) ?_ ?_; (rotate_left 1; (intro w hSw; (try dsimp only at hSw); go_simp); (try with_reducible rfl)); (try simp only [Act.put,Q3,Q4,Q5]))
  (refine QT (i:=6) (v:=?_) ?_ ?_; (rotate_left 1; (intro w hSw; (try dsimp only at hSw); go_simp); (try with_reducible rfl)); (try simp only [Act.put,Q3,Q4,Q5]))
  (refine QT (i:=7) (v:=?_) ?_ ?_; (rotate_left 1; (intro w hSw; (try dsimp only at hSw); go_simp); (try with_reducible rfl)); (try simp only [Act.put,Q3,Q4,Q5]))
  (refine QT (i:=9) (v:=?_) ?_ ?_; (rotate_left 1; (intro w hSw; (try dsimp only at hSw); go_simp); (try with_reducible rfl)); (try simp only [Act.put,Q3,Q4,Q5]))
  (refine QT (i:=10) (v:=?_) ?_ ?_; (rotate_left 1; (intro w hSw; (try dsimp only at hSw); go_simp); (try with_reducible rfl)); (try simp only [Act.put,Q3,Q4,Q5]))
  (refine QT (i:=11) (v:=?_) ?_ ?_; (rotate_left 1; (intro w hSw; (try dsimp only at hSw); go_simp); (try with_reducible rfl)); (try simp only [Act.put,Q3,Q4,Q5]))
  (refine QT (i:=12) (v:=?_) ?_ ?_; (rotate_left 1; (intro w hSw; (try dsimp only at hSw); go_simp); (try with_reducible rfl)); (try simp only [Act.put,Q3,Q4,Q5]))
  (refine QT (i:=13) (v:=?_) ?_ ?_; (rotate_left 1; (intro w hSw; (try dsimp only at hSw); go_simp); (try with_reducible rfl)); (try simp only [Act.put,Q3,Q4,Q5]))
  (refine QT (i:=15) (v:=?_) ?_ ?_; (rotate_left 1; (intro w hSw; (try dsimp only at hSw); go_simp); (try with_reducible rfl)); (try simp only [Act.put,Q3,Q4,Q5]))
  (refine QT (i:=16) (v:=?_) ?_ ?_; (rotate_left 1; (intro w hSw; (try dsimp only at hSw); go_simp); (try with_reducible rfl)); (try simp only [Act.put,Q3,Q4,Q5]))
  (refine QT (i:=17) (v:=?_) ?_ ?_; (rotate_left 1; (intro w hSw; (try dsimp only at hSw); go_simp); (try with_reducible rfl)); (try simp only [Act.put,Q3,Q4,Q5]))
  (refine QT (i:=18) (v:=?_) ?_ ?_; (rotate_left 1; (intro w hSw; (try dsimp only at hSw); go_simp); (try with_reducible rfl)); (try simp only [Act.put,Q3,Q4,Q5]))
  (refine QT (i:=19) (v:=?_) ?_ ?_; (rotate_left 1; (intro w hSw; (try dsimp only at hSw); go_simp); (try with_reducible rfl)); (try simp only [Act.put,Q3,Q4,Q5]))
  refine wpAnyH_ready (rs:=[2,8]) (by kernel_rfl) (by simp) ?_
  refine AllReadyH.cons rfl (fun K hK => ?_) (AllReadyH.cons rfl (fun K hK => ?_) AllReadyH.nil)
  case refine_1 =>
   go_simp
   go_at_call 122
   have htt:=things_any lo ca cd M A rs D ds _ hc.m hc.cells.1 hc.cells.2.1
   rw [HT.out] at htt
   refine htt.mono ?_
   rintro e w1 ⟨TA,tc,rfl,hth,hb⟩
   replace hth:=own_down9 hth hc.b.size
   have hc:=hc.below hb
   clear htt
   go_wp2_with fail
   refine hK.out _ _ (hc.cells) (fun hHeld => ?_)
   clear hK K
   (try simp only [Act.put,Q3,Q4,Q5])
   refine wpAnyH_ready (rs:=[8,14]) (by kernel_rfl) (by simp) ?_
   refine AllReadyH.cons rfl (fun K hK => ?_) (AllReadyH.cons rfl (fun K hK => ?_) AllReadyH.nil)
   case refine_1 =>
    have zo:=hc.b.size
    refine step_make rfl _ _ 107 rfl _ 22 i0 _ 1 und hi0 hz0 hz1 .i64 .i64 _ _ rs.length rfl rfl rfl rfl (by rw [hz2]; omega) (by simp only [maxLen]; omega) (Nat.le_refl _) ?_
    intro w9 hown9 hg9
    obtain ⟨cs,ho,hcs⟩:=nest_made hlen hown9
    have hb:=below_none hg9
    have hc:=hc.below hb
    have hth:=own_keep hth hb
    clear hown9 hg9
    refine hK.out _ _ (hc.cells) (fun hHeld => ?_)
    clear hK K
    (try simp only [Act.put,Q3,Q4,Q5])
    refine wpAnyH_ready (rs:=[14]) (by kernel_rfl) (by simp) ?_
    refine AllReadyH.cons rfl (fun K hK => ?_) AllReadyH.nil
    go_simp
    go_at_call 54
    refine (roomI_any lo ca M A rs D ds st _ hc.m HRI.out.rup hc.cells.1).mono ?_
    rintro e w2 ⟨rfl,hb⟩
    have hc:=hc.below hb
    have hth:=own_keep hth hb
    have ho:=ho.below hb
    go_wp2_with fail
    refine hK.out _ _ (hc.cells) (fun hHeld => ?_)
    clear hK K
    (try simp only [Act.put,Q3,Q4,Q5])
    refine wpAnyH_ready (rs:=[20]) (by kernel_rfl) (by simp) ?_
    refine AllReadyH.cons rfl (fun K hK => ?_) AllReadyH.nil
    go_simp
    go_at_call 54
    refine (roomI_any lo ca M A rs D ds gl _ hc.m HRI.out.rup hc.cells.1).mono ?_
    rintro e w3 ⟨rfl,hb⟩
    have hc:=hc.below hb
    have hth:=own_keep hth hb
    have ho:=ho.below hb
    go_wp2_with fail
    refine hK.out _ _ (hc.cells) (fun hHeld => ?_)
    clear hK K
    (try simp only [Act.put,Q3,Q4,Q5])
    (refine QT (i:=21) (v:=?_) ?_ ?_; (rotate_left 1; (intro w hSw; (try dsimp only at hSw); go_simp); (try with_reducible rfl)); (try simp only [Act.put,Q3,Q4,Q5]))
    refine wpAnyH_ready (rs:=[22]) (by kernel_rfl) (by simp) ?_
    refine AllReadyH.cons rfl (fun K hK => ?_) AllReadyH.nil
    go_simp
    refine hK.out _ _ ((hc.alloc _).cells) (fun hHeld => ?_)
    clear hK K
    (try simp only [Act.put,Q3,Q4,Q5])
    (refine QT (i:=23) (v:=?_) ?_ ?_; (rotate_left 1; (intro w hSw; (try dsimp only at hSw); go_simp); (try with_reducible rfl)); (try simp only [Act.put,Q3,Q4,Q5]))
    refine wpAnyH_done (by kernel_rfl) ?_ _
    go_wp2_with fail
    go_meet
    exact ⟨_,_,tc,TA,cs,rfl,zo,hc,ho,hcs,hth,rfl⟩
   case refine_2 =>
    go_simp
    go_at_call 54
    refine (roomI_any lo ca M A rs D ds st _ hc.m HRI.out.rup hc.cells.1).mono ?_
    rintro e w2 ⟨rfl,hb⟩
    have hc:=hc.below hb
    have hth:=own_keep hth hb
    go_wp2_with fail
    refine hK.out _ _ (hc.cells) (fun hHeld => ?_)
    clear hK K
    (try simp only [Act.put,Q3,Q4,Q5])
    refine wpAnyH_ready (rs:=[8,20]) (by kernel_rfl) (by simp) ?_
    refine AllReadyH.cons rfl (fun K hK => ?_) (AllReadyH.cons rfl (fun K hK => ?_) AllReadyH.nil)
    case refine_1 =>
     have zo:=hc.b.size
     refine step_make rfl _ _ 107 rfl _ 22 i0 _ 1 und hi0 hz0 hz1 .i64 .i64 _ _ rs.length rfl rfl rfl rfl (by rw [hz2]; omega) (by simp only [maxLen]; omega) (Nat.le_refl _) ?_
     intro w9 hown9 hg9
     obtain ⟨cs,ho,hcs⟩:=nest_made hlen hown9
     have hb:=below_none hg9
     have hc:=hc.below hb
     have hth:=own_keep hth hb
     clear hown9 hg9
     refine hK.out _ _ (hc.cells) (fun hHeld => ?_)
     clear hK K
     (try simp only [Act.put,Q3,Q4,Q5])
     refine wpAnyH_ready (rs:=[20]) (by kernel_rfl) (by simp) ?_
     refine AllReadyH.cons rfl (fun K hK => ?_) AllReadyH.nil
     go_simp
     go_at_call 54
     refine (roomI_any lo ca M A rs D ds gl _ hc.m HRI.out.rup hc.cells.1).mono ?_
     rintro e w3 ⟨rfl,hb⟩
     have hc:=hc.below hb
     have hth:=own_keep hth hb
     have ho:=ho.below hb
     go_wp2_with fail
     refine hK.out _ _ (hc.cells) (fun hHeld => ?_)
     clear hK K
     (try simp only [Act.put,Q3,Q4,Q5])
     (refine QT (i:=21) (v:=?_) ?_ ?_; (rotate_left 1; (intro w hSw; (try dsimp only at hSw); go_simp); (try with_reducible rfl)); (try simp only [Act.put,Q3,Q4,Q5]))
     refine wpAnyH_ready (rs:=[22]) (by kernel_rfl) (by simp) ?_
     refine AllReadyH.cons rfl (fun K hK => ?_) AllReadyH.nil
     go_simp
     refine hK.out _ _ ((hc.alloc _).cells) (fun hHeld => ?_)
     clear hK K
     (try simp only [Act.put,Q3,Q4,Q5])
     (refine QT (i:=23) (v:=?_) ?_ ?_; (rotate_left 1; (intro w hSw; (try dsimp only at hSw); go_simp); (try with_reducible rfl)); (try simp only [Act.put,Q3,Q4,Q5]))
     refine wpAnyH_done (by kernel_rfl) ?_ _
     go_wp2_with fail
     go_meet
     exact ⟨_,_,tc,TA,cs,rfl,zo,hc,ho,hcs,hth,rfl⟩
    case refine_2 =>
     go_simp
     go_at_call 54
     refine (roomI_any lo ca M A rs D ds gl _ hc.m HRI.out.rup hc.cells.1).mono ?_
     rintro e w3 ⟨rfl,hb⟩
     have hc:=hc.below hb
     have hth:=own_keep hth hb
     go_wp2_with fail
     refine hK.out _ _ (hc.cells) (fun hHeld => ?_)
     clear hK K
     (try simp only [Act.put,Q3,Q4,Q5])
     refine wpAnyH_ready (rs:=[8]) (by kernel_rfl) (by simp) ?_
     refine AllReadyH.cons rfl (fun K hK => ?_) AllReadyH.nil
     have zo:=hc.b.size
     refine step_make rfl _ _ 107 rfl _ 22 i0 _ 1 und hi0 hz0 hz1 .i64 .i64 _ _ rs.length rfl rfl rfl rfl (by rw [hz2]; omega) (by simp only [maxLen]; omega) (Nat.le_refl _) ?_
     intro w9 hown9 hg9
     obtain ⟨cs,ho,hcs⟩:=nest_made hlen hown9
     have hb:=below_none hg9
     have hc:=hc.below hb
     have hth:=own_keep hth hb
     clear hown9 hg9
     refine hK.out _ _ (hc.cells) (fun hHeld => ?_)
     clear hK K
     (try simp only [Act.put,Q3,Q4,Q5])
     (refine QT (i:=21) (v:=?_) ?_ ?_; (rotate_left 1; (intro w hSw; (try dsimp only at hSw); go_simp); (try with_reducible rfl)); (try simp only [Act.put,Q3,Q4,Q5]))
     refine wpAnyH_ready (rs:=[22]) (by kernel_rfl) (by simp) ?_
     refine AllReadyH.cons rfl (fun K hK => ?_) AllReadyH.nil
     go_simp
     refine hK.out _ _ ((hc.alloc _).cells) (fun hHeld => ?_)
     clear hK K
     (try simp only [Act.put,Q3,Q4,Q5])
     (refine QT (i:=23) (v:=?_) ?_ ?_; (rotate_left 1; (intro w hSw; (try dsimp only at hSw); go_simp); (try with_reducible rfl)); (try simp only [Act.put,Q3,Q4,Q5]))
     refine wpAnyH_done (by kernel_rfl) ?_ _
     go_wp2_with fail
     go_meet
     exact ⟨_,_,tc,TA,cs,rfl,zo,hc,ho,hcs,hth,rfl⟩
  case refine_2 =>
   have zo:=hc.b.size
   refine step_make rfl _ _ 107 rfl _ 22 i0 _ 1 und hi0 hz0 hz1 .i64 .i64 _ _ rs.length rfl rfl rfl rfl (by rw [hz2]; omega) (by simp only [maxLen]; omega) (Nat.le_refl _) ?_
   intro w9 hown9 hg9
   obtain ⟨cs,ho,hcs⟩:=nest_made hlen hown9
   have hb:=below_none hg9
   have hc:=hc.below hb
   clear hown9 hg9
   refine hK.out _ _ (hc.cells) (fun hHeld => ?_)
   clear hK K
   (try simp only [Act.put,Q3,Q4,Q5])
   refine wpAnyH_ready (rs:=[2]) (by kernel_rfl) (by simp) ?_
   refine AllReadyH.cons rfl (fun K hK => ?_) AllReadyH.nil
   go_simp
   go_at_call 122
   have htt:=things_any lo ca cd M A rs D ds _ hc.m hc.cells.1 hc.cells.2.1
   rw [HT.out] at htt
   refine htt.mono ?_
   rintro e w1 ⟨TA,tc,rfl,hth,hb⟩
   replace hth:=own_down9 hth hc.b.size
   have hc:=hc.below hb
   clear htt
   have ho:=ho.below hb
   go_wp2_with fail
   refine hK.out _ _ (hc.cells) (fun hHeld => ?_)
   clear hK K
   (try simp only [Act.put,Q3,Q4,Q5])
   refine wpAnyH_ready (rs:=[14]) (by kernel_rfl) (by simp) ?_
   refine AllReadyH.cons rfl (fun K hK => ?_) AllReadyH.nil
   go_simp
   go_at_call 54
   refine (roomI_any lo ca M A rs D ds st _ hc.m HRI.out.rup hc.cells.1).mono ?_
   rintro e w2 ⟨rfl,hb⟩
   have hc:=hc.below hb
   have hth:=own_keep hth hb
   have ho:=ho.below hb
   go_wp2_with fail
   refine hK.out _ _ (hc.cells) (fun hHeld => ?_)
   clear hK K
   (try simp only [Act.put,Q3,Q4,Q5])
   refine wpAnyH_ready (rs:=[20]) (by kernel_rfl) (by simp) ?_
   refine AllReadyH.cons rfl (fun K hK => ?_) AllReadyH.nil
   go_simp
   go_at_call 54
   refine (roomI_any lo ca M A rs D ds gl _ hc.m HRI.out.rup hc.cells.1).mono ?_
   rintro e w3 ⟨rfl,hb⟩
   have hc:=hc.below hb
   have hth:=own_keep hth hb
   have ho:=ho.below hb
   go_wp2_with fail
   refine hK.out _ _ (hc.cells) (fun hHeld => ?_)
   clear hK K
   (try simp only [Act.put,Q3,Q4,Q5])
   (refine QT (i:=21) (v:=?_) ?_ ?_; (rotate_left 1; (intro w hSw; (try dsimp only at hSw); go_simp); (try with_reducible rfl)); (try simp only [Act.put,Q3,Q4,Q5]))
   refine wpAnyH_ready (rs:=[22]) (by kernel_rfl) (by simp) ?_
   refine AllReadyH.cons rfl (fun K hK => ?_) AllReadyH.nil
   go_simp
   refine hK.out _ _ ((hc.alloc _).cells) (fun hHeld => ?_)
   clear hK K
   (try simp only [Act.put,Q3,Q4,Q5])
   (refine QT (i:=23) (v:=?_) ?_ ?_; (rotate_left 1; (intro w hSw; (try dsimp only at hSw); go_simp); (try with_reducible rfl)); (try simp only [Act.put,Q3,Q4,Q5]))
   refine wpAnyH_done (by kernel_rfl) ?_ _
   go_wp2_with fail
   go_meet
   exact ⟨_,_,tc,TA,cs,rfl,zo,hc,ho,hcs,hth,rfl⟩
 case rest =>
 clear hc
 obtain ⟨W0,g,tc,TA,cs,rfl,hgw,hc0,hg0,hcs0,hth0,rfl⟩:=hcut
 have hbx0 : Blk (W0.alloc (.cells #[.pointer (some ⟨M,0,none⟩),.slice TA T.length tc,.slice none 0 0,.slice none 0 0,.slice (some ⟨g,0,none⟩) rs.length rs.length,.int .i64 (roomI rs st),.int .i64 (roomI rs gl)] 109)) W0.heap.size 109 #[.pointer (some ⟨M,0,none⟩),.slice TA T.length tc,.slice none 0 0,.slice none 0 0,.slice (some ⟨g,0,none⟩) rs.length rs.length,.int .i64 (roomI rs st),.int .i64 (roomI rs gl)]:=Blk.new _ _ _
 have hb0 : Below W0.heap.size W0 (W0.alloc (.cells #[.pointer (some ⟨M,0,none⟩),.slice TA T.length tc,.slice none 0 0,.slice none 0 0,.slice (some ⟨g,0,none⟩) rs.length rs.length,.int .i64 (roomI rs st),.int .i64 (roomI rs gl)] 109)):=(Below.refl _ _).alloc (Nat.le_refl _) _
 have zp : w.heap.size ≤ W0.heap.size:=hc0.b.size
 have zg : g < W0.heap.size:=hg0.lt
 generalize W0.alloc (.cells #[.pointer (some ⟨M,0,none⟩),.slice TA T.length tc,.slice none 0 0,.slice none 0 0,.slice (some ⟨g,0,none⟩) rs.length rs.length,.int .i64 (roomI rs st),.int .i64 (roomI rs gl)] 109) = Wi at *
 have zpi:=hbx0.lt
 generalize hpe : W0.heap.size = p at *
 have HPE:=Lib.hid hpe
 have HC0:=Lib.hid hc0
 have HG0:=Lib.hid hg0
 have HCS:=Lib.hid hcs0
 have HTH:=Lib.hid hth0
 have HKP : Hid (∀ W,Below p W0 W → McC w W M lo A rs ca D ds cd st gl ∧ W.ownsRow w.heap.size 9 1 (.slice TA T.length tc) T.length (strs T) ∧ Blk W g 22 cs):=Lib.hid (fun W hW => by
  rw [← HPE.out] at hW
  exact ⟨HC0.out.below hW,own_keep HTH.out hW,HG0.out.below hW⟩)
 obtain ⟨m0,m1,m2,m3⟩:=(HKP.out _ hb0).1.cells
 clear hpe hc0 hg0 hcs0 hth0
 go_wp2_with fail
 clear m0 m1 m2 m3
 go_loopw [41] (fun i wr => ∃ (k : Nat) (A5 : Option Addr) (c5 : Nat),k ≤ rs.length ∧ i = .int .i64 k ∧ Blk wr p 109 #[.pointer (some ⟨M,0,none⟩),.slice TA T.length tc,.slice A5 k c5,.slice none 0 0,.slice (some ⟨g,0,none⟩) rs.length rs.length,.int .i64 (roomI rs st),.int .i64 (roomI rs gl)] ∧ wr.ownsRow (p + 1) 3 1 (.slice A5 k c5) k (ints ((givesN rs T).take k)) ∧ Below p W0 wr) (fun i _ => rs.length - (intOf i).toNat)
 case atStart => exact ⟨0,none,0,Nat.zero_le _,rfl,hbx0,World.ownsRow_nil _ _ _ _,hb0⟩
 case round =>
  clear hbx0 hb0
  obtain ⟨k,A5,c5,hk,rfl,hp,hown,hbr⟩:=hrel
  obtain ⟨hcr,hthr,hgr⟩:=HKP.out _ hbr
  by_cases hkn : k < rs.length
  ·obtain ⟨b,off,rfl,hbs,hcell⟩:=hcr.m.room hlen
   obtain ⟨y0,y1⟩:=hcell k hkn
   have hgv:=(hcr.m.gives _ (List.getElem_mem hkn)).1
   have hgl:=(hcr.m.s.rg _ (List.getElem_mem hkn)).1
   have HGS:=Lib.hid (HSG.out _ (List.getElem_mem hkn))
   have HGT : Hid (ints ((givesN rs T).take (k + 1)) = ints ((givesN rs T).take k) ++ [.int .i64 (bitsT T rs[k].gives)]):=Lib.hid (by
    rw [List.take_succ_eq_append_getElem (by simpa [givesN] using hkn),ints_app]; simp [givesN,ints])
   clear hcell
   generalize rs[k] = r at *
   simp only [encStr] at y0 y1
   have zwr:=hcr.b.size
   have zpr:=hp.lt
   go_upto_region 5 with (fail)
   have hv : Blk (wr.alloc (.cells #[.string ⟨r.key.toArray⟩,.slice r.B r.gives.length r.c] 88)) wr.heap.size 88 #[.string ⟨r.key.toArray⟩,.slice r.B r.gives.length r.c]:=Blk.new _ _ _
   have hp:=hp.alloc (.cells #[.string ⟨r.key.toArray⟩,.slice r.B r.gives.length r.c] 88)
   have hown:=hown.alloc (.cells #[.string ⟨r.key.toArray⟩,.slice r.B r.gives.length r.c] 88)
   have hgv:=hgv.alloc (.cells #[.string ⟨r.key.toArray⟩,.slice r.B r.gives.length r.c] 88)
   have hbr:=hbr.alloc (show p ≤ wr.heap.size by omega) (.cells #[.string ⟨r.key.toArray⟩,.slice r.B r.gives.length r.c] 88)
   have zpv : p ≠ wr.heap.size:=by omega
   have zvv:=hv.lt
   generalize wr.heap.size = v at *
   generalize wr.alloc (.cells #[.string ⟨r.key.toArray⟩,.slice r.B r.gives.length r.c] 88) = X at *
   clear y0 y1 hcr hthr hgr
   have hpd:=hp.drew
   have hvd:=hv.drew
   have hbd:=hbr.drew
   have hownd : X.drew.ownsRow (p + 1) 3 1 (.slice A5 k c5) k (ints ((givesN rs T).take k)):=hown
   have hgvd : Row X.drew lo 1 r.B r.gives.length (strs r.gives):=hgv
   have hthd:=Row.of_own (HKP.out _ hbd).2.1
   have p1:=hpd.w7.2.1
   have p2:=hpd.w7.2.2.1
   have p2' : X.cell? ⟨p,2,none⟩ = some (.slice A5 k c5):=p2
   have zpp : p < X.heap.size:=hpd.lt
   clear hp hv hown hgv hbr
   refine wp_region_held_drew (S:=(fun w' => w'.cell? ⟨v,1,none⟩ = some (.slice r.B r.gives.length r.c))) (by kernel_rfl) (hvd.two_.2) (fun hHeld => ?_)
   (refine QT (i:=0) (v:=?_) ?_ ?_; (rotate_left 1; (intro w hSw; (try dsimp only at hSw); go_simp); (try with_reducible rfl)); (try simp only [Act.put,Q3,Q4,Q5]))
   (refine QT (i:=1) (v:=?_) ?_ ?_; (rotate_left 1; (intro w hSw; (try dsimp only at hSw); go_simp); (try with_reducible rfl)); (try simp only [Act.put,Q3,Q4,Q5]))
   (refine QT (i:=2) (v:=?_) ?_ ?_; (rotate_left 1; (intro w hSw; (try dsimp only at hSw); go_simp); (try with_reducible rfl)); (try simp only [Act.put,Q3,Q4,Q5]))
   (refine QT (i:=3) (v:=?_) ?_ ?_; (rotate_left 1; (intro w hSw; (try dsimp only at hSw); go_simp); (try with_reducible rfl)); (try simp only [Act.put,Q3,Q4,Q5]))
   (refine QT (i:=5) (v:=?_) ?_ ?_; (rotate_left 1; (intro w hSw; (try dsimp only at hSw); go_simp); (try with_reducible rfl)); (try simp only [Act.put,Q3,Q4,Q5]))
   (refine QT (i:=6) (v:=?_) ?_ ?_; (rotate_left 1; (intro w hSw; (try dsimp only at hSw); go_simp); (try with_reducible rfl)); (try simp only [Act.put,Q3,Q4,Q5]))
   (refine QT (i:=7) (v:=?_) ?_ ?_; (rotate_left 1; (intro w hSw; (try dsimp only at hSw); go_simp); (try with_reducible rfl)); (try simp only [Act.put,Q3,Q4,Q5]))
   refine wpAnyH_ready (rs:=[4,8]) (by kernel_rfl) (by simp) ?_
   refine AllReadyH.cons rfl (fun K hK => ?_) (AllReadyH.cons rfl (fun K hK => ?_) AllReadyH.nil)
   case refine_1 =>
    go_simp
    refine hK.out _ _ (hvd.two_.2) (fun hHeld => ?_)
    clear hK K
    (try simp only [Act.put,Q3,Q4,Q5])
    refine wpAnyH_ready (rs:=[8]) (by kernel_rfl) (by simp) ?_
    refine AllReadyH.cons rfl (fun K hK => ?_) AllReadyH.nil
    go_simp
    go_at_call 58
    refine (bits_any p tc w.heap.size lo r.c TA r.B T r.gives _ p1 hthd HTU.out hfew hgvd (by omega) HGS.out).mono ?_
    rintro e wb ⟨rfl,rfl⟩
    go_wp2_with fail
    refine hK.out _ _ (hvd.two_.2) (fun hHeld => ?_)
    clear hK K
    (try simp only [Act.put,Q3,Q4,Q5])
    refine wpAnyH_ready (rs:=[9]) (by kernel_rfl) (by simp) ?_
    refine AllReadyH.cons rfl (fun K hK => ?_) AllReadyH.nil
    go_simp
    refine hK.out _ _ ((hvd.alloc _).two_.2) (fun hHeld => ?_)
    clear hK K
    (try simp only [Act.put,Q3,Q4,Q5])
    refine wpAnyH_ready (rs:=[10]) (by kernel_rfl) (by simp) ?_
    refine AllReadyH.cons rfl (fun K hK => ?_) AllReadyH.nil
    refine step_app (lo:=p + 1) (base:=p + 1) (n:=k) (xs:=ints ((givesN rs T).take k)) _ rfl _ _ ty_intz rfl (hownd.alloc _) rfl (by first | exact row_new' _ (by first | rfl | simp) (by first | omega | (simp; omega)) rfl | exact row_newN _ _ (by first | rfl | simp) (by first | omega | (simp; omega)) rfl | exact row_newD _ (by first | rfl | simp) (by first | omega | (simp; omega)) rfl) rfl rfl (by omega) (by omega) (by first | omega | (simp; omega)) ?_
    intro A6 c6 w6 hown6 hg6 _
    have hv6:=Blk.app (hownd.alloc _) (hvd.alloc _) hg6 (by decide)
    have hp6:=Blk.app (hownd.alloc _) (hpd.alloc _) hg6 (by decide)
    have hb6 : Below p W0 w6:=(hbd.alloc (show p ≤ X.heap.size from Nat.le_of_lt zpp) _).grown hg6 (by simp; omega) (fun q hq => by have:=((hownd.alloc (.cells #[.int .i64 (bitsT T r.gives)] 3)).lt q hq).1; omega)
    have t2:=hp6.w7.2.2.1
    have f2:=hp6.thaw 2
    have zp6:=hp6.lt
    refine hK.out _ _ (hv6.two_.2) (fun hHeld => ?_)
    clear hK K
    (try simp only [Act.put,Q3,Q4,Q5])
    (refine QT (i:=11) (v:=?_) ?_ ?_; (rotate_left 1; (intro w hSw; (try dsimp only at hSw); go_simp); (try with_reducible rfl)); (try simp only [Act.put,Q3,Q4,Q5]))
    (refine QT (i:=12) (v:=?_) ?_ ?_; (rotate_left 1; (intro w hSw; (try dsimp only at hSw); go_simp); (try with_reducible rfl)); (try simp only [Act.put,Q3,Q4,Q5]))
    refine wpAnyH_ready (rs:=[13]) (by kernel_rfl) (by simp) ?_
    refine AllReadyH.cons rfl (fun K hK => ?_) AllReadyH.nil
    go_simp
    refine hK.out _ _ ((hv6.past p 2 _ zpv.symm).two_.2) (fun hHeld => ?_)
    clear hK K
    (try simp only [Act.put,Q3,Q4,Q5])
    refine wpAnyH_done (by kernel_rfl) ?_ _
    go_wp2_with fail
    go_roundw
    case rel => exact ⟨k + 1,A6,c6,by omega,by go_num,by simpa using hp6.poke 2 (.slice A6 (k + 1) c6),by rw [HGT.out]; exact own_past hown6 hp6 (by decide) 2 _,Below.setCell hb6 (by simp) _⟩
    case measure => simp [intOf]; omega
   case refine_2 =>
    go_simp
    go_at_call 58
    refine (bits_any p tc w.heap.size lo r.c TA r.B T r.gives _ p1 hthd HTU.out hfew hgvd (by omega) HGS.out).mono ?_
    rintro e wb ⟨rfl,rfl⟩
    go_wp2_with fail
    refine hK.out _ _ (hvd.two_.2) (fun hHeld => ?_)
    clear hK K
    (try simp only [Act.put,Q3,Q4,Q5])
    refine wpAnyH_ready (rs:=[4,9]) (by kernel_rfl) (by simp) ?_
    refine AllReadyH.cons rfl (fun K hK => ?_) (AllReadyH.cons rfl (fun K hK => ?_) AllReadyH.nil)
    case refine_1 =>
     go_simp
     refine hK.out _ _ (hvd.two_.2) (fun hHeld => ?_)
     clear hK K
     (try simp only [Act.put,Q3,Q4,Q5])
     refine wpAnyH_ready (rs:=[9]) (by kernel_rfl) (by simp) ?_
     refine AllReadyH.cons rfl (fun K hK => ?_) AllReadyH.nil
     go_simp
     refine hK.out _ _ ((hvd.alloc _).two_.2) (fun hHeld => ?_)
     clear hK K
     (try simp only [Act.put,Q3,Q4,Q5])
     refine wpAnyH_ready (rs:=[10]) (by kernel_rfl) (by simp) ?_
     refine AllReadyH.cons rfl (fun K hK => ?_) AllReadyH.nil
     refine step_app (lo:=p + 1) (base:=p + 1) (n:=k) (xs:=ints ((givesN rs T).take k)) _ rfl _ _ ty_intz rfl (hownd.alloc _) rfl (by first | exact row_new' _ (by first | rfl | simp) (by first | omega | (simp; omega)) rfl | exact row_newN _ _ (by first | rfl | simp) (by first | omega | (simp; omega)) rfl | exact row_newD _ (by first | rfl | simp) (by first | omega | (simp; omega)) rfl) rfl rfl (by omega) (by omega) (by first | omega | (simp; omega)) ?_
     intro A6 c6 w6 hown6 hg6 _
     have hv6:=Blk.app (hownd.alloc _) (hvd.alloc _) hg6 (by decide)
     have hp6:=Blk.app (hownd.alloc _) (hpd.alloc _) hg6 (by decide)
     have hb6 : Below p W0 w6:=(hbd.alloc (show p ≤ X.heap.size from Nat.le_of_lt zpp) _).grown hg6 (by simp; omega) (fun q hq => by have:=((hownd.alloc (.cells #[.int .i64 (bitsT T r.gives)] 3)).lt q hq).1; omega)
     have t2:=hp6.w7.2.2.1
     have f2:=hp6.thaw 2
     have zp6:=hp6.lt
     refine hK.out _ _ (hv6.two_.2) (fun hHeld => ?_)
     clear hK K
     (try simp only [Act.put,Q3,Q4,Q5])
     (refine QT (i:=11) (v:=?_) ?_ ?_; (rotate_left 1; (intro w hSw; (try dsimp only at hSw); go_simp); (try with_reducible rfl)); (try simp only [Act.put,Q3,Q4,Q5]))
     (refine QT (i:=12) (v:=?_) ?_ ?_; (rotate_left 1; (intro w hSw; (try dsimp only at hSw); go_simp); (try with_reducible rfl)); (try simp only [Act.put,Q3,Q4,Q5]))
     refine wpAnyH_ready (rs:=[13]) (by kernel_rfl) (by simp) ?_
     refine AllReadyH.cons rfl (fun K hK => ?_) AllReadyH.nil
     go_simp
     refine hK.out _ _ ((hv6.past p 2 _ zpv.symm).two_.2) (fun hHeld => ?_)
     clear hK K
     (try simp only [Act.put,Q3,Q4,Q5])
     refine wpAnyH_done (by kernel_rfl) ?_ _
     go_wp2_with fail
     go_roundw
     case rel => exact ⟨k + 1,A6,c6,by omega,by go_num,by simpa using hp6.poke 2 (.slice A6 (k + 1) c6),by rw [HGT.out]; exact own_past hown6 hp6 (by decide) 2 _,Below.setCell hb6 (by simp) _⟩
     case measure => simp [intOf]; omega
    case refine_2 =>
     go_simp
     refine hK.out _ _ ((hvd.alloc _).two_.2) (fun hHeld => ?_)
     clear hK K
     (try simp only [Act.put,Q3,Q4,Q5])
     refine wpAnyH_ready (rs:=[4]) (by kernel_rfl) (by simp) ?_
     refine AllReadyH.cons rfl (fun K hK => ?_) AllReadyH.nil
     go_simp
     refine hK.out _ _ ((hvd.alloc _).two_.2) (fun hHeld => ?_)
     clear hK K
     (try simp only [Act.put,Q3,Q4,Q5])
     refine wpAnyH_ready (rs:=[10]) (by kernel_rfl) (by simp) ?_
     refine AllReadyH.cons rfl (fun K hK => ?_) AllReadyH.nil
     refine step_app (lo:=p + 1) (base:=p + 1) (n:=k) (xs:=ints ((givesN rs T).take k)) _ rfl _ _ ty_intz rfl (hownd.alloc _) rfl (by first | exact row_new' _ (by first | rfl | simp) (by first | omega | (simp; omega)) rfl | exact row_newN _ _ (by first | rfl | simp) (by first | omega | (simp; omega)) rfl | exact row_newD _ (by first | rfl | simp) (by first | omega | (simp; omega)) rfl) rfl rfl (by omega) (by omega) (by first | omega | (simp; omega)) ?_
     intro A6 c6 w6 hown6 hg6 _
     have hv6:=Blk.app (hownd.alloc _) (hvd.alloc _) hg6 (by decide)
     have hp6:=Blk.app (hownd.alloc _) (hpd.alloc _) hg6 (by decide)
     have hb6 : Below p W0 w6:=(hbd.alloc (show p ≤ X.heap.size from Nat.le_of_lt zpp) _).grown hg6 (by simp; omega) (fun q hq => by have:=((hownd.alloc (.cells #[.int .i64 (bitsT T r.gives)] 3)).lt q hq).1; omega)
     have t2:=hp6.w7.2.2.1
     have f2:=hp6.thaw 2
     have zp6:=hp6.lt
     refine hK.out _ _ (hv6.two_.2) (fun hHeld => ?_)
     clear hK K
     (try simp only [Act.put,Q3,Q4,Q5])
     (refine QT (i:=11) (v:=?_) ?_ ?_; (rotate_left 1; (intro w hSw; (try dsimp only at hSw); go_simp); (try with_reducible rfl)); (try simp only [Act.put,Q3,Q4,Q5]))
     (refine QT (i:=12) (v:=?_) ?_ ?_; (rotate_left 1; (intro w hSw; (try dsimp only at hSw); go_simp); (try with_reducible rfl)); (try simp only [Act.put,Q3,Q4,Q5]))
     refine wpAnyH_ready (rs:=[13]) (by kernel_rfl) (by simp) ?_
     refine AllReadyH.cons rfl (fun K hK => ?_) AllReadyH.nil
     go_simp
     refine hK.out _ _ ((hv6.past p 2 _ zpv.symm).two_.2) (fun hHeld => ?_)
     clear hK K
     (try simp only [Act.put,Q3,Q4,Q5])
     refine wpAnyH_done (by kernel_rfl) ?_ _
     go_wp2_with fail
     go_roundw
     case rel => exact ⟨k + 1,A6,c6,by omega,by go_num,by simpa using hp6.poke 2 (.slice A6 (k + 1) c6),by rw [HGT.out]; exact own_past hown6 hp6 (by decide) 2 _,Below.setCell hb6 (by simp) _⟩
     case measure => simp [intOf]; omega
  ·have hke : k = rs.length:=by omega
   subst hke
   have htk : (givesN rs T).take rs.length = givesN rs T:=List.take_of_length_le (by simp [givesN])
   rw [htk] at hown
   have zpr:=hp.lt
   have hne1 : ∀ ad,TA = some ad → ad.block ≠ p ∧ ad.block ≠ g:=by
    intro ad he
    subst he
    exact ⟨own_blkne hthr hp (by decide) _ rfl,own_blkne hthr hgr (by decide) _ rfl⟩
   have hne2 : ∀ ad,A5 = some ad → ad.block ≠ p ∧ ad.block ≠ g:=by
    intro ad he
    subst he
    have:=(hown.lt ad.block rfl).1
    exact ⟨by omega,by omega⟩
   have HNE1:=Lib.hid hne1
   have HNE2:=Lib.hid hne2
   have HTR1:=Lib.hid (Row.of_own hthr)
   have HGR1 : Hid (Row wr w.heap.size 1 A5 rs.length (ints (givesN rs T))):=Lib.hid ((Row.of_own hown).weak (by omega))
   have hn1 : N1 w wr wr p g #[.pointer (some ⟨M,0,none⟩),.slice TA T.length tc,.slice A5 rs.length c5,.slice none 0 0,.slice (some ⟨g,0,none⟩) rs.length rs.length,.int .i64 (roomI rs st),.int .i64 (roomI rs gl)] (outR rs ds tr wo 0) (.slice none 0 0) 0 []:=⟨hcr.b,Oth.refl _ _ _,hp,by rw [outR_0]; exact Nest.made (by decide) hgr HCS.out,World.ownsRow_nil _ _ _ _⟩
   have zw1 : w.heap.size ≤ wr.heap.size:=hcr.b.size
   obtain ⟨m0,m1,m2,m3⟩:=hcr.cells
   clear hne1 hne2 htk hown hp hthr hgr hbr HKP HCS HTH HG0 HC0 HPE HSG
   go_wp2_with fail
   clear m0 m1 m2 m3 hcr
   obtain ⟨W1,hW1⟩ : ∃ W1,W1 = wr:=⟨_,rfl⟩
   subst hW1
   go_loopw [64] (fun i wr => ∃ (k : Nat) (DA : Option Addr) (dc : Nat),k ≤ ds.length ∧ i = .int .i64 k ∧ N1 w W1 wr p g #[.pointer (some ⟨M,0,none⟩),.slice TA T.length tc,.slice A5 rs.length c5,.slice DA k dc,.slice (some ⟨g,0,none⟩) rs.length rs.length,.int .i64 (roomI rs st),.int .i64 (roomI rs gl)] (outR rs ds tr wo k) (.slice DA k dc) k ((ds.take k).flatMap (encN rs T))) (fun i _ => ds.length - (intOf i).toNat)
   case atStart => exact ⟨0,none,0,Nat.zero_le _,rfl,hn1⟩
   case round =>
    clear hn1 hk hkn
    obtain ⟨k,DA,dc,hk,rfl,hn⟩:=hrel
    have hbw:=hn.bw
    have zwr:=hbw.size
    by_cases hkn : k < ds.length
    ·obtain ⟨b,off,rfl,hbs,hcell⟩:=(HMA.out.below hbw).door (by omega)
     obtain ⟨y0,y1,y2,y3,y4,y5,y6⟩:=hcell k hkn
     have hmem:=List.getElem_mem hkn
     have HND : Hid (∀ W,Below w.heap.size w W → Row W lo 1 ds[k].N ds[k].needs.length (strs ds[k].needs) ∧ Row W lo 1 ds[k].T ds[k].takes.length (strs ds[k].takes)):=Lib.hid (fun W hW => ⟨((HMA.out.below hW).needs _ hmem).1,((HMA.out.below hW).takes _ hmem).1⟩)
     have HNL : Hid (ds[k].needs.length ≤ 1000 ∧ ds[k].takes.length ≤ 1000):=Lib.hid ⟨(HMA.out.s.dn _ hmem).1,(HMA.out.s.dx _ hmem).1⟩
     have HS1:=Lib.hid (HSN.out _ hmem)
     have HS2:=Lib.hid (HSX.out _ hmem)
     have HSRC:=Lib.hid (HRI.out.src _ hmem)
     have hgd : ds.getD k default = ds[k]:=by rw [List.getD_eq_getElem?_getD,List.getElem?_eq_getElem hkn]; rfl
     have HNO : Hid (okD tr wo ds[k] = false → outR rs ds tr wo (k + 1) = outR rs ds tr wo k):=Lib.hid (fun h => outR_no (by rw [hgd]; exact h))
     have HYES : Hid (okD tr wo ds[k] = true → outR rs ds tr wo (k + 1) = (outR rs ds tr wo k).set (ixR rs ds[k].src) (outQ rs ds tr wo k (ixR rs ds[k].src) ++ [(k : Int)])):=Lib.hid (fun h => by
      have:=outR_yes (rs:=rs) (ds:=ds) (tr:=tr) (wo:=wo) (k:=k) (by rw [hgd]; exact h) (by rw [hgd]; exact HSRC.out)
      rw [hgd] at this; exact this)
     have HFT : Hid ((ds.take (k + 1)).flatMap (encN rs T) = (ds.take k).flatMap (encN rs T) ++ encN rs T ds[k]):=Lib.hid (flat_take (encN rs T) ds hkn)
     have HCL : Hid (∀ q : Nat,True):=Lib.hid (fun _ => trivial)
     clear hcell hmem hgd
     generalize ds[k] = d at *
     generalize (ds.take k).flatMap (encN rs T) = cells at *
     simp only [encStr] at y0 y1 y2 y6
     go_upto_region 10 with (fail)
     have hv : Blk (wr.alloc (.cells #[.string ⟨d.key.toArray⟩,.string ⟨d.src.toArray⟩,.string ⟨d.dst.toArray⟩,.int .i64 d.time,.slice d.N d.needs.length d.nc,.slice d.T d.takes.length d.tc,.string ⟨d.trick.toArray⟩] 120)) wr.heap.size 120 #[.string ⟨d.key.toArray⟩,.string ⟨d.src.toArray⟩,.string ⟨d.dst.toArray⟩,.int .i64 d.time,.slice d.N d.needs.length d.nc,.slice d.T d.takes.length d.tc,.string ⟨d.trick.toArray⟩]:=Blk.new _ _ _
     have hn:=hn.alloc (.cells #[.string ⟨d.key.toArray⟩,.string ⟨d.src.toArray⟩,.string ⟨d.dst.toArray⟩,.int .i64 d.time,.slice d.N d.needs.length d.nc,.slice d.T d.takes.length d.tc,.string ⟨d.trick.toArray⟩] 120)
     generalize wr.alloc (.cells #[.string ⟨d.key.toArray⟩,.string ⟨d.src.toArray⟩,.string ⟨d.dst.toArray⟩,.int .i64 d.time,.slice d.N d.needs.length d.nc,.slice d.T d.takes.length d.tc,.string ⟨d.trick.toArray⟩] 120) = X at *
     generalize wr.heap.size = v at *
     clear y0 y1 y2 y3 y4 y5 y6 hbw
     have HKM : Hid (∀ W,Below w.heap.size w W → MapW W lo A rs (some ⟨b,off,none⟩) ds ∧ W.cell? ⟨M,0,none⟩ = some (.slice A rs.length ca)):=Lib.hid (fun W hW => ⟨HMA.out.below hW,(hW.cell (p:=⟨M,0,none⟩) zm).trans (HMB.out.cell 0)⟩)
     go_cut [12] from 69 to 88 (fun u wx => ∃ q : Nat,u = .pointer (some ⟨q,0,none⟩) ∧ (N1 w W1 wx p g #[.pointer (some ⟨M,0,none⟩),.slice TA T.length tc,.slice A5 rs.length c5,.slice DA k dc,.slice (some ⟨g,0,none⟩) rs.length rs.length,.int .i64 (roomI rs st),.int .i64 (roomI rs gl)] (outR rs ds tr wo k) (.slice DA k dc) k cells) ∧ Blk wx v 120 #[.string ⟨d.key.toArray⟩,.string ⟨d.src.toArray⟩,.string ⟨d.dst.toArray⟩,.int .i64 d.time,.slice d.N d.needs.length d.nc,.slice d.T d.takes.length d.tc,.string ⟨d.trick.toArray⟩] ∧ Blk wx q 166 #[.int .i64 (roomI rs d.src),.int .i64 (roomI rs d.dst),.int .i64 d.time,.int .i64 (bitsT T d.needs),.int .i64 (bitsT T d.takes)] ∧ W1.heap.size ≤ q ∧ ∀ x,(Value.slice DA k dc).ownBlock = some x → x ≠ q)
     case first =>
      have hnd:=hn.drew
      have hvd:=hv.drew
      clear hn hv
      refine wp_region_held_drew (S:=(fun w' => w'.cell? ⟨v,1,none⟩ = some (.string ⟨d.src.toArray⟩) ∧ w'.cell? ⟨v,2,none⟩ = some (.string ⟨d.dst.toArray⟩) ∧ w'.cell? ⟨v,3,none⟩ = some (.int .i64 d.time) ∧ w'.cell? ⟨v,4,none⟩ = some (.slice d.N d.needs.length d.nc) ∧ w'.cell? ⟨v,5,none⟩ = some (.slice d.T d.takes.length d.tc))) (by kernel_rfl) (⟨hvd.w7.2.1,hvd.w7.2.2.1,hvd.w7.2.2.2.1,hvd.w7.2.2.2.2.1,hvd.w7.2.2.2.2.2.1⟩) (fun hHeld => ?_)
      (refine QT (i:=0) (v:=?_) ?_ ?_; (rotate_left 1; (intro w hSw; (try dsimp only at hSw); go_simp); (try with_reducible rfl)); (try simp only [Act.put,Q3,Q4,Q5]))
      (refine QT (i:=1) (v:=?_) ?_ ?_; (rotate_left 1; (intro w hSw; (try dsimp only at hSw); go_simp); (try with_reducible rfl)); (try simp only [Act.put,Q3,Q4,Q5]))
      (refine QT (i:=2) (v:=?_) ?_ ?_; (rotate_left 1; (intro w hSw; (try dsimp only at hSw); go_simp); (try with_reducible rfl)); (try simp only [Act.put,Q3,Q4,Q5]))
      (refine QT (i:=4) (v:=?_) ?_ ?_; (rotate_left 1; (intro w hSw; (try dsimp only at hSw); go_simp); (try with_reducible rfl)); (try simp only [Act.put,Q3,Q4,Q5]))
      (refine QT (i:=5) (v:=?_) ?_ ?_; (rotate_left 1; (intro w hSw; (try dsimp only at hSw); go_simp); (try with_reducible rfl)); (try simp only [Act.put,Q3,Q4,Q5]))
      (refine QT (i:=6) (v:=?_) ?_ ?_; (rotate_left 1; (intro w hSw; (try dsimp only at hSw); go_simp); (try with_reducible rfl)); (try simp only [Act.put,Q3,Q4,Q5]))
      (refine QT (i:=8) (v:=?_) ?_ ?_; (rotate_left 1; (intro w hSw; (try dsimp only at hSw); go_simp); (try with_reducible rfl)); (try simp only [Act.put,Q3,Q4,Q5]))
      (refine QT (i:=9) (v:=?_) ?_ ?_; (rotate_left 1; (intro w hSw; (try dsimp only at hSw); go_simp); (try with_reducible rfl)); (try simp only [Act.put,Q3,Q4,Q5]))
      (refine QT (i:=10) (v:=?_) ?_ ?_; (rotate_left 1; (intro w hSw; (try dsimp only at hSw); go_simp); (try with_reducible rfl)); (try simp only [Act.put,Q3,Q4,Q5]))
      (refine QT (i:=11) (v:=?_) ?_ ?_; (rotate_left 1; (intro w hSw; (try dsimp only at hSw); go_simp); (try with_reducible rfl)); (try simp only [Act.put,Q3,Q4,Q5]))
      (refine QT (i:=12) (v:=?_) ?_ ?_; (rotate_left 1; (intro w hSw; (try dsimp only at hSw); go_simp); (try with_reducible rfl)); (try simp only [Act.put,Q3,Q4,Q5]))
      (refine QT (i:=14) (v:=?_) ?_ ?_; (rotate_left 1; (intro w hSw; (try dsimp only at hSw); go_simp); (try with_reducible rfl)); (try simp only [Act.put,Q3,Q4,Q5]))
      (refine QT (i:=15) (v:=?_) ?_ ?_; (rotate_left 1; (intro w hSw; (try dsimp only at hSw); go_simp); (try with_reducible rfl)); (try simp only [Act.put,Q3,Q4,Q5]))
      (refine QT (i:=16) (v:=?_) ?_ ?_; (rotate_left 1; (intro w hSw; (try dsimp only at hSw); go_simp); (try with_reducible rfl)); (try simp only [Act.put,Q3,Q4,Q5]))
      refine wpAnyH_ready (rs:=[3,19]) (by kernel_rfl) (by simp) ?_
      refine AllReadyH.cons rfl (fun K hK => ?_) (AllReadyH.cons rfl (fun K hK => ?_) AllReadyH.nil)
      case refine_1 =>
       go_simp
       go_at_call 54
       have hk3:=HKM.out _ hnd.bw
       refine (roomI_any lo ca M A rs _ ds d.src _ hk3.1 HRI.out.rup hk3.2).mono ?_
       clear hk3
       rintro e wa ⟨rfl,hb⟩
       have hnd:=hnd.below hb
       have hvd:=hvd.below hb
       go_wp2_with fail
       refine hK.out _ _ (⟨hvd.w7.2.1,hvd.w7.2.2.1,hvd.w7.2.2.2.1,hvd.w7.2.2.2.2.1,hvd.w7.2.2.2.2.2.1⟩) (fun hHeld => ?_)
       clear hK K
       (try simp only [Act.put,Q3,Q4,Q5])
       refine wpAnyH_ready (rs:=[7,19]) (by kernel_rfl) (by simp) ?_
       refine AllReadyH.cons rfl (fun K hK => ?_) (AllReadyH.cons rfl (fun K hK => ?_) AllReadyH.nil)
       case refine_1 =>
        go_simp
        go_at_call 54
        have hk3:=HKM.out _ hnd.bw
        refine (roomI_any lo ca M A rs _ ds d.dst _ hk3.1 HRI.out.rup hk3.2).mono ?_
        clear hk3
        rintro e wb ⟨rfl,hb⟩
        have hnd:=hnd.below hb
        have hvd:=hvd.below hb
        go_wp2_with fail
        refine hK.out _ _ (⟨hvd.w7.2.1,hvd.w7.2.2.1,hvd.w7.2.2.2.1,hvd.w7.2.2.2.2.1,hvd.w7.2.2.2.2.2.1⟩) (fun hHeld => ?_)
        clear hK K
        (try simp only [Act.put,Q3,Q4,Q5])
        refine wpAnyH_ready (rs:=[13,19]) (by kernel_rfl) (by simp) ?_
        refine AllReadyH.cons rfl (fun K hK => ?_) (AllReadyH.cons rfl (fun K hK => ?_) AllReadyH.nil)
        case refine_1 =>
         go_simp
         go_at_call 58
         refine (bits_any p tc w.heap.size lo d.nc TA d.N T d.needs _ hnd.box.w7.2.1 (HTR1.out.oth hnd.oth HNE1.out) HTU.out hfew (HND.out _ hnd.bw).1 (by have:=HNL.out.1; omega) HS1.out).mono ?_
         rintro e wz ⟨rfl,rfl⟩
         go_wp2_with fail
         refine hK.out _ _ (⟨hvd.w7.2.1,hvd.w7.2.2.1,hvd.w7.2.2.2.1,hvd.w7.2.2.2.2.1,hvd.w7.2.2.2.2.2.1⟩) (fun hHeld => ?_)
         clear hK K
         (try simp only [Act.put,Q3,Q4,Q5])
         refine wpAnyH_ready (rs:=[17,19]) (by kernel_rfl) (by simp) ?_
         refine AllReadyH.cons rfl (fun K hK => ?_) (AllReadyH.cons rfl (fun K hK => ?_) AllReadyH.nil)
         case refine_1 =>
          go_simp
          go_at_call 58
          refine (bits_any p tc w.heap.size lo d.tc TA d.T T d.takes _ hnd.box.w7.2.1 (HTR1.out.oth hnd.oth HNE1.out) HTU.out hfew (HND.out _ hnd.bw).2 (by have:=HNL.out.2; omega) HS2.out).mono ?_
          rintro e wz ⟨rfl,rfl⟩
          go_wp2_with fail
          refine hK.out _ _ (⟨hvd.w7.2.1,hvd.w7.2.2.1,hvd.w7.2.2.2.1,hvd.w7.2.2.2.2.1,hvd.w7.2.2.2.2.2.1⟩) (fun hHeld => ?_)
          clear hK K
          (try simp only [Act.put,Q3,Q4,Q5])
          (refine QT (i:=18) (v:=?_) ?_ ?_; (rotate_left 1; (intro w hSw; (try dsimp only at hSw); go_simp); (try with_reducible rfl)); (try simp only [Act.put,Q3,Q4,Q5]))
          refine wpAnyH_ready (rs:=[19]) (by kernel_rfl) (by simp) ?_
          refine AllReadyH.cons rfl (fun K hK => ?_) AllReadyH.nil
          go_simp
          have hq : Blk (wb.alloc (.cells #[.int .i64 0,.int .i64 0,.int .i64 0,.int .i64 0,.int .i64 0] 166)) wb.heap.size 166 #[.int .i64 0,.int .i64 0,.int .i64 0,.int .i64 0,.int .i64 0]:=Blk.new _ _ _
          have hqo : ∀ x,(Value.slice DA k dc).ownBlock = some x → x ≠ wb.heap.size:=fun x hx => Nat.ne_of_lt (hnd.own.lt x hx).2
          have zq1 : W1.heap.size ≤ wb.heap.size:=hnd.oth.1
          have hnd0:=hnd
          have hvd0:=hvd
          have hnd:=hnd.alloc (.cells #[.int .i64 0,.int .i64 0,.int .i64 0,.int .i64 0,.int .i64 0] 166)
          have hvd:=hvd.alloc (.cells #[.int .i64 0,.int .i64 0,.int .i64 0,.int .i64 0,.int .i64 0] 166)
          refine hK.out _ _ (⟨hvd.w7.2.1,hvd.w7.2.2.1,hvd.w7.2.2.2.1,hvd.w7.2.2.2.2.1,hvd.w7.2.2.2.2.2.1⟩) (fun hHeld => ?_)
          clear hK K
          (try simp only [Act.put,Q3,Q4,Q5])
          refine wpAnyH_ready (rs:=[20]) (by kernel_rfl) (by simp) ?_
          refine AllReadyH.cons rfl (fun K hK => ?_) AllReadyH.nil
          go_simp
          have hq : Blk (wb.alloc (.cells #[.int .i64 (roomI rs d.src),.int .i64 (roomI rs d.dst),.int .i64 d.time,.int .i64 (bitsT T d.needs),.int .i64 (bitsT T d.takes)] 166)) wb.heap.size 166 #[.int .i64 (roomI rs d.src),.int .i64 (roomI rs d.dst),.int .i64 d.time,.int .i64 (bitsT T d.needs),.int .i64 (bitsT T d.takes)]:=Blk.new _ _ _
          have hnd:=hnd0.alloc (.cells #[.int .i64 (roomI rs d.src),.int .i64 (roomI rs d.dst),.int .i64 d.time,.int .i64 (bitsT T d.needs),.int .i64 (bitsT T d.takes)] 166)
          have hvd:=hvd0.alloc (.cells #[.int .i64 (roomI rs d.src),.int .i64 (roomI rs d.dst),.int .i64 d.time,.int .i64 (bitsT T d.needs),.int .i64 (bitsT T d.takes)] 166)
          refine hK.out _ _ (⟨hvd.w7.2.1,hvd.w7.2.2.1,hvd.w7.2.2.2.1,hvd.w7.2.2.2.2.1,hvd.w7.2.2.2.2.2.1⟩) (fun hHeld => ?_)
          clear hK K
          (try simp only [Act.put,Q3,Q4,Q5])
          refine wpAnyH_done (by kernel_rfl) ?_ _
          go_wp2_with fail
          go_meet
          exact ⟨_,rfl,hnd,hvd,hq,zq1,hqo⟩
         case refine_2 =>
          go_simp
          have hq : Blk (wb.alloc (.cells #[.int .i64 0,.int .i64 0,.int .i64 0,.int .i64 0,.int .i64 0] 166)) wb.heap.size 166 #[.int .i64 0,.int .i64 0,.int .i64 0,.int .i64 0,.int .i64 0]:=Blk.new _ _ _
          have hqo : ∀ x,(Value.slice DA k dc).ownBlock = some x → x ≠ wb.heap.size:=fun x hx => Nat.ne_of_lt (hnd.own.lt x hx).2
          have zq1 : W1.heap.size ≤ wb.heap.size:=hnd.oth.1
          have hnd0:=hnd
          have hvd0:=hvd
          have hnd:=hnd.alloc (.cells #[.int .i64 0,.int .i64 0,.int .i64 0,.int .i64 0,.int .i64 0] 166)
          have hvd:=hvd.alloc (.cells #[.int .i64 0,.int .i64 0,.int .i64 0,.int .i64 0,.int .i64 0] 166)
          refine hK.out _ _ (⟨hvd.w7.2.1,hvd.w7.2.2.1,hvd.w7.2.2.2.1,hvd.w7.2.2.2.2.1,hvd.w7.2.2.2.2.2.1⟩) (fun hHeld => ?_)
          clear hK K
          (try simp only [Act.put,Q3,Q4,Q5])
          refine wpAnyH_ready (rs:=[17]) (by kernel_rfl) (by simp) ?_
          refine AllReadyH.cons rfl (fun K hK => ?_) AllReadyH.nil
          go_simp
          go_at_call 58
          refine (bits_any p tc w.heap.size lo d.tc TA d.T T d.takes _ hnd.box.w7.2.1 (HTR1.out.oth hnd.oth HNE1.out) HTU.out hfew (HND.out _ hnd.bw).2 (by have:=HNL.out.2; omega) HS2.out).mono ?_
          rintro e wz ⟨rfl,rfl⟩
          go_wp2_with fail
          refine hK.out _ _ (⟨hvd.w7.2.1,hvd.w7.2.2.1,hvd.w7.2.2.2.1,hvd.w7.2.2.2.2.1,hvd.w7.2.2.2.2.2.1⟩) (fun hHeld => ?_)
          clear hK K
          (try simp only [Act.put,Q3,Q4,Q5])
          (refine QT (i:=18) (v:=?_) ?_ ?_; (rotate_left 1; (intro w hSw; (try dsimp only at hSw); go_simp); (try with_reducible rfl)); (try simp only [Act.put,Q3,Q4,Q5]))
          refine wpAnyH_ready (rs:=[20]) (by kernel_rfl) (by simp) ?_
          refine AllReadyH.cons rfl (fun K hK => ?_) AllReadyH.nil
          go_simp
          have hq : Blk (wb.alloc (.cells #[.int .i64 (roomI rs d.src),.int .i64 (roomI rs d.dst),.int .i64 d.time,.int .i64 (bitsT T d.needs),.int .i64 (bitsT T d.takes)] 166)) wb.heap.size 166 #[.int .i64 (roomI rs d.src),.int .i64 (roomI rs d.dst),.int .i64 d.time,.int .i64 (bitsT T d.needs),.int .i64 (bitsT T d.takes)]:=Blk.new _ _ _
          have hnd:=hnd0.alloc (.cells #[.int .i64 (roomI rs d.src),.int .i64 (roomI rs d.dst),.int .i64 d.time,.int .i64 (bitsT T d.needs),.int .i64 (bitsT T d.takes)] 166)
          have hvd:=hvd0.alloc (.cells #[.int .i64 (roomI rs d.src),.int .i64 (roomI rs d.dst),.int .i64 d.time,.int .i64 (bitsT T d.needs),.int .i64 (bitsT T d.takes)] 166)
          refine hK.out _ _ (⟨hvd.w7.2.1,hvd.w7.2.2.1,hvd.w7.2.2.2.1,hvd.w7.2.2.2.2.1,hvd.w7.2.2.2.2.2.1⟩) (fun hHeld => ?_)
          clear hK K
          (try simp only [Act.put,Q3,Q4,Q5])
          refine wpAnyH_done (by kernel_rfl) ?_ _
          go_wp2_with fail
          go_meet
          exact ⟨_,rfl,hnd,hvd,hq,zq1,hqo⟩
        case refine_2 =>
         go_simp
         have hq : Blk (wb.alloc (.cells #[.int .i64 0,.int .i64 0,.int .i64 0,.int .i64 0,.int .i64 0] 166)) wb.heap.size 166 #[.int .i64 0,.int .i64 0,.int .i64 0,.int .i64 0,.int .i64 0]:=Blk.new _ _ _
         have hqo : ∀ x,(Value.slice DA k dc).ownBlock = some x → x ≠ wb.heap.size:=fun x hx => Nat.ne_of_lt (hnd.own.lt x hx).2
         have zq1 : W1.heap.size ≤ wb.heap.size:=hnd.oth.1
         have hnd0:=hnd
         have hvd0:=hvd
         have hnd:=hnd.alloc (.cells #[.int .i64 0,.int .i64 0,.int .i64 0,.int .i64 0,.int .i64 0] 166)
         have hvd:=hvd.alloc (.cells #[.int .i64 0,.int .i64 0,.int .i64 0,.int .i64 0,.int .i64 0] 166)
         refine hK.out _ _ (⟨hvd.w7.2.1,hvd.w7.2.2.1,hvd.w7.2.2.2.1,hvd.w7.2.2.2.2.1,hvd.w7.2.2.2.2.2.1⟩) (fun hHeld => ?_)
         clear hK K
         (try simp only [Act.put,Q3,Q4,Q5])
         refine wpAnyH_ready (rs:=[13]) (by kernel_rfl) (by simp) ?_
         refine AllReadyH.cons rfl (fun K hK => ?_) AllReadyH.nil
         go_simp
         go_at_call 58
         refine (bits_any p tc w.heap.size lo d.nc TA d.N T d.needs _ hnd.box.w7.2.1 (HTR1.out.oth hnd.oth HNE1.out) HTU.out hfew (HND.out _ hnd.bw).1 (by have:=HNL.out.1; omega) HS1.out).mono ?_
         rintro e wz ⟨rfl,rfl⟩
         go_wp2_with fail
         refine hK.out _ _ (⟨hvd.w7.2.1,hvd.w7.2.2.1,hvd.w7.2.2.2.1,hvd.w7.2.2.2.2.1,hvd.w7.2.2.2.2.2.1⟩) (fun hHeld => ?_)
         clear hK K
         (try simp only [Act.put,Q3,Q4,Q5])
         refine wpAnyH_ready (rs:=[17]) (by kernel_rfl) (by simp) ?_
         refine AllReadyH.cons rfl (fun K hK => ?_) AllReadyH.nil
         go_simp
         go_at_call 58
         refine (bits_any p tc w.heap.size lo d.tc TA d.T T d.takes _ hnd.box.w7.2.1 (HTR1.out.oth hnd.oth HNE1.out) HTU.out hfew (HND.out _ hnd.bw).2 (by have:=HNL.out.2; omega) HS2.out).mono ?_
         rintro e wz ⟨rfl,rfl⟩
         go_wp2_with fail
         refine hK.out _ _ (⟨hvd.w7.2.1,hvd.w7.2.2.1,hvd.w7.2.2.2.1,hvd.w7.2.2.2.2.1,hvd.w7.2.2.2.2.2.1⟩) (fun hHeld => ?_)
         clear hK K
         (try simp only [Act.put,Q3,Q4,Q5])
         (refine QT (i:=18) (v:=?_) ?_ ?_; (rotate_left 1; (intro w hSw; (try dsimp only at hSw); go_simp); (try with_reducible rfl)); (try simp only [Act.put,Q3,Q4,Q5]))
         refine wpAnyH_ready (rs:=[20]) (by kernel_rfl) (by simp) ?_
         refine AllReadyH.cons rfl (fun K hK => ?_) AllReadyH.nil
         go_simp
         have hq : Blk (wb.alloc (.cells #[.int .i64 (roomI rs d.src),.int .i64 (roomI rs d.dst),.int .i64 d.time,.int .i64 (bitsT T d.needs),.int .i64 (bitsT T d.takes)] 166)) wb.heap.size 166 #[.int .i64 (roomI rs d.src),.int .i64 (roomI rs d.dst),.int .i64 d.time,.int .i64 (bitsT T d.needs),.int .i64 (bitsT T d.takes)]:=Blk.new _ _ _
         have hnd:=hnd0.alloc (.cells #[.int .i64 (roomI rs d.src),.int .i64 (roomI rs d.dst),.int .i64 d.time,.int .i64 (bitsT T d.needs),.int .i64 (bitsT T d.takes)] 166)
         have hvd:=hvd0.alloc (.cells #[.int .i64 (roomI rs d.src),.int .i64 (roomI rs d.dst),.int .i64 d.time,.int .i64 (bitsT T d.needs),.int .i64 (bitsT T d.takes)] 166)
         refine hK.out _ _ (⟨hvd.w7.2.1,hvd.w7.2.2.1,hvd.w7.2.2.2.1,hvd.w7.2.2.2.2.1,hvd.w7.2.2.2.2.2.1⟩) (fun hHeld => ?_)
         clear hK K
         (try simp only [Act.put,Q3,Q4,Q5])
         refine wpAnyH_done (by kernel_rfl) ?_ _
         go_wp2_with fail
         go_meet
         exact ⟨_,rfl,hnd,hvd,hq,zq1,hqo⟩
       case refine_2 =>
        go_simp
        have hq : Blk (wa.alloc (.cells #[.int .i64 0,.int .i64 0,.int .i64 0,.int .i64 0,.int .i64 0] 166)) wa.heap.size 166 #[.int .i64 0,.int .i64 0,.int .i64 0,.int .i64 0,.int .i64 0]:=Blk.new _ _ _
        have hqo : ∀ x,(Value.slice DA k dc).ownBlock = some x → x ≠ wa.heap.size:=fun x hx => Nat.ne_of_lt (hnd.own.lt x hx).2
        have zq1 : W1.heap.size ≤ wa.heap.size:=hnd.oth.1
        have hnd0:=hnd
        have hvd0:=hvd
        have hnd:=hnd.alloc (.cells #[.int .i64 0,.int .i64 0,.int .i64 0,.int .i64 0,.int .i64 0] 166)
        have hvd:=hvd.alloc (.cells #[.int .i64 0,.int .i64 0,.int .i64 0,.int .i64 0,.int .i64 0] 166)
        refine hK.out _ _ (⟨hvd.w7.2.1,hvd.w7.2.2.1,hvd.w7.2.2.2.1,hvd.w7.2.2.2.2.1,hvd.w7.2.2.2.2.2.1⟩) (fun hHeld => ?_)
        clear hK K
        (try simp only [Act.put,Q3,Q4,Q5])
        refine wpAnyH_ready (rs:=[7]) (by kernel_rfl) (by simp) ?_
        refine AllReadyH.cons rfl (fun K hK => ?_) AllReadyH.nil
        go_simp
        go_at_call 54
        have hk3:=HKM.out _ hnd.bw
        refine (roomI_any lo ca M A rs _ ds d.dst _ hk3.1 HRI.out.rup hk3.2).mono ?_
        clear hk3
        rintro e wb ⟨rfl,hb⟩
        have hnd:=hnd.below hb
        have hvd:=hvd.below hb
        have hq:=hq.below hb
        go_wp2_with fail
        refine hK.out _ _ (⟨hvd.w7.2.1,hvd.w7.2.2.1,hvd.w7.2.2.2.1,hvd.w7.2.2.2.2.1,hvd.w7.2.2.2.2.2.1⟩) (fun hHeld => ?_)
        clear hK K
        (try simp only [Act.put,Q3,Q4,Q5])
        refine wpAnyH_ready (rs:=[13]) (by kernel_rfl) (by simp) ?_
        refine AllReadyH.cons rfl (fun K hK => ?_) AllReadyH.nil
        go_simp
        go_at_call 58
        refine (bits_any p tc w.heap.size lo d.nc TA d.N T d.needs _ hnd.box.w7.2.1 (HTR1.out.oth hnd.oth HNE1.out) HTU.out hfew (HND.out _ hnd.bw).1 (by have:=HNL.out.1; omega) HS1.out).mono ?_
        rintro e wz ⟨rfl,rfl⟩
        go_wp2_with fail
        refine hK.out _ _ (⟨hvd.w7.2.1,hvd.w7.2.2.1,hvd.w7.2.2.2.1,hvd.w7.2.2.2.2.1,hvd.w7.2.2.2.2.2.1⟩) (fun hHeld => ?_)
        clear hK K
        (try simp only [Act.put,Q3,Q4,Q5])
        refine wpAnyH_ready (rs:=[17]) (by kernel_rfl) (by simp) ?_
        refine AllReadyH.cons rfl (fun K hK => ?_) AllReadyH.nil
        go_simp
        go_at_call 58
        refine (bits_any p tc w.heap.size lo d.tc TA d.T T d.takes _ hnd.box.w7.2.1 (HTR1.out.oth hnd.oth HNE1.out) HTU.out hfew (HND.out _ hnd.bw).2 (by have:=HNL.out.2; omega) HS2.out).mono ?_
        rintro e wz ⟨rfl,rfl⟩
        go_wp2_with fail
        refine hK.out _ _ (⟨hvd.w7.2.1,hvd.w7.2.2.1,hvd.w7.2.2.2.1,hvd.w7.2.2.2.2.1,hvd.w7.2.2.2.2.2.1⟩) (fun hHeld => ?_)
        clear hK K
        (try simp only [Act.put,Q3,Q4,Q5])
        (refine QT (i:=18) (v:=?_) ?_ ?_; (rotate_left 1; (intro w hSw; (try dsimp only at hSw); go_simp); (try with_reducible rfl)); (try simp only [Act.put,Q3,Q4,Q5]))
        refine wpAnyH_ready (rs:=[20]) (by kernel_rfl) (by simp) ?_
        refine AllReadyH.cons rfl (fun K hK => ?_) AllReadyH.nil
        have hq : Blk wb (wa.heap.size) 166 #[.int .i64 0,.int .i64 0,.int .i64 0,.int .i64 0,.int .i64 0]:=hq
        obtain ⟨k0,k1,k2,k3,k4⟩:=hq.w5
        have f0:=hq.thaw 0
        have f1:=hq.thaw 1
        have f2:=hq.thaw 2
        have f3:=hq.thaw 3
        have f4:=hq.thaw 4
        have zqq:=hq.lt
        go_simp
        obtain ⟨hq,hnd,hvd⟩:=hnd.put5 hvd hq zw1 zq1 hqo (.int .i64 (roomI rs d.src)) (.int .i64 (roomI rs d.dst)) (.int .i64 d.time) (.int .i64 (bitsT T d.needs)) (.int .i64 (bitsT T d.takes))
        refine hK.out _ _ (⟨hvd.w7.2.1,hvd.w7.2.2.1,hvd.w7.2.2.2.1,hvd.w7.2.2.2.2.1,hvd.w7.2.2.2.2.2.1⟩) (fun hHeld => ?_)
        clear hK K
        (try simp only [Act.put,Q3,Q4,Q5])
        refine wpAnyH_done (by kernel_rfl) ?_ _
        go_wp2_with fail
        go_meet
        exact ⟨_,rfl,hnd,hvd,hq,zq1,hqo⟩
      case refine_2 =>
       go_simp
       have hq : Blk (X.drew.alloc (.cells #[.int .i64 0,.int .i64 0,.int .i64 0,.int .i64 0,.int .i64 0] 166)) X.drew.heap.size 166 #[.int .i64 0,.int .i64 0,.int .i64 0,.int .i64 0,.int .i64 0]:=Blk.new _ _ _
       have hqo : ∀ x,(Value.slice DA k dc).ownBlock = some x → x ≠ X.drew.heap.size:=fun x hx => Nat.ne_of_lt (hnd.own.lt x hx).2
       have zq1 : W1.heap.size ≤ X.drew.heap.size:=hnd.oth.1
       have hnd0:=hnd
       have hvd0:=hvd
       have hnd:=hnd.alloc (.cells #[.int .i64 0,.int .i64 0,.int .i64 0,.int .i64 0,.int .i64 0] 166)
       have hvd:=hvd.alloc (.cells #[.int .i64 0,.int .i64 0,.int .i64 0,.int .i64 0,.int .i64 0] 166)
       refine hK.out _ _ (⟨hvd.w7.2.1,hvd.w7.2.2.1,hvd.w7.2.2.2.1,hvd.w7.2.2.2.2.1,hvd.w7.2.2.2.2.2.1⟩) (fun hHeld => ?_)
       clear hK K
       (try simp only [Act.put,Q3,Q4,Q5])
       refine wpAnyH_ready (rs:=[3]) (by kernel_rfl) (by simp) ?_
       refine AllReadyH.cons rfl (fun K hK => ?_) AllReadyH.nil
       go_simp
       go_at_call 54
       have hk3:=HKM.out _ hnd.bw
       refine (roomI_any lo ca M A rs _ ds d.src _ hk3.1 HRI.out.rup hk3.2).mono ?_
       clear hk3
       rintro e wa ⟨rfl,hb⟩
       have hnd:=hnd.below hb
       have hvd:=hvd.below hb
       have hq:=hq.below hb
       go_wp2_with fail
       refine hK.out _ _ (⟨hvd.w7.2.1,hvd.w7.2.2.1,hvd.w7.2.2.2.1,hvd.w7.2.2.2.2.1,hvd.w7.2.2.2.2.2.1⟩) (fun hHeld => ?_)
       clear hK K
       (try simp only [Act.put,Q3,Q4,Q5])
       refine wpAnyH_ready (rs:=[7]) (by kernel_rfl) (by simp) ?_
       refine AllReadyH.cons rfl (fun K hK => ?_) AllReadyH.nil
       go_simp
       go_at_call 54
       have hk3:=HKM.out _ hnd.bw
       refine (roomI_any lo ca M A rs _ ds d.dst _ hk3.1 HRI.out.rup hk3.2).mono ?_
       clear hk3
       rintro e wb ⟨rfl,hb⟩
       have hnd:=hnd.below hb
       have hvd:=hvd.below hb
       have hq:=hq.below hb
       go_wp2_with fail
       refine hK.out _ _ (⟨hvd.w7.2.1,hvd.w7.2.2.1,hvd.w7.2.2.2.1,hvd.w7.2.2.2.2.1,hvd.w7.2.2.2.2.2.1⟩) (fun hHeld => ?_)
       clear hK K
       (try simp only [Act.put,Q3,Q4,Q5])
       refine wpAnyH_ready (rs:=[13]) (by kernel_rfl) (by simp) ?_
       refine AllReadyH.cons rfl (fun K hK => ?_) AllReadyH.nil
       go_simp
       go_at_call 58
       refine (bits_any p tc w.heap.size lo d.nc TA d.N T d.needs _ hnd.box.w7.2.1 (HTR1.out.oth hnd.oth HNE1.out) HTU.out hfew (HND.out _ hnd.bw).1 (by have:=HNL.out.1; omega) HS1.out).mono ?_
       rintro e wz ⟨rfl,rfl⟩
       go_wp2_with fail
       refine hK.out _ _ (⟨hvd.w7.2.1,hvd.w7.2.2.1,hvd.w7.2.2.2.1,hvd.w7.2.2.2.2.1,hvd.w7.2.2.2.2.2.1⟩) (fun hHeld => ?_)
       clear hK K
       (try simp only [Act.put,Q3,Q4,Q5])
       refine wpAnyH_ready (rs:=[17]) (by kernel_rfl) (by simp) ?_
       refine AllReadyH.cons rfl (fun K hK => ?_) AllReadyH.nil
       go_simp
       go_at_call 58
       refine (bits_any p tc w.heap.size lo d.tc TA d.T T d.takes _ hnd.box.w7.2.1 (HTR1.out.oth hnd.oth HNE1.out) HTU.out hfew (HND.out _ hnd.bw).2 (by have:=HNL.out.2; omega) HS2.out).mono ?_
       rintro e wz ⟨rfl,rfl⟩
       go_wp2_with fail
       refine hK.out _ _ (⟨hvd.w7.2.1,hvd.w7.2.2.1,hvd.w7.2.2.2.1,hvd.w7.2.2.2.2.1,hvd.w7.2.2.2.2.2.1⟩) (fun hHeld => ?_)
       clear hK K
       (try simp only [Act.put,Q3,Q4,Q5])
       (refine QT (i:=18) (v:=?_) ?_ ?_; (rotate_left 1; (intro w hSw; (try dsimp only at hSw); go_simp); (try with_reducible rfl)); (try simp only [Act.put,Q3,Q4,Q5]))
       refine wpAnyH_ready (rs:=[20]) (by kernel_rfl) (by simp) ?_
       refine AllReadyH.cons rfl (fun K hK => ?_) AllReadyH.nil
       have hq : Blk wb (X.heap.size) 166 #[.int .i64 0,.int .i64 0,.int .i64 0,.int .i64 0,.int .i64 0]:=hq
       obtain ⟨k0,k1,k2,k3,k4⟩:=hq.w5
       have f0:=hq.thaw 0
       have f1:=hq.thaw 1
       have f2:=hq.thaw 2
       have f3:=hq.thaw 3
       have f4:=hq.thaw 4
       have zqq:=hq.lt
       go_simp
       obtain ⟨hq,hnd,hvd⟩:=hnd.put5 hvd hq zw1 zq1 hqo (.int .i64 (roomI rs d.src)) (.int .i64 (roomI rs d.dst)) (.int .i64 d.time) (.int .i64 (bitsT T d.needs)) (.int .i64 (bitsT T d.takes))
       refine hK.out _ _ (⟨hvd.w7.2.1,hvd.w7.2.2.1,hvd.w7.2.2.2.1,hvd.w7.2.2.2.2.1,hvd.w7.2.2.2.2.2.1⟩) (fun hHeld => ?_)
       clear hK K
       (try simp only [Act.put,Q3,Q4,Q5])
       refine wpAnyH_done (by kernel_rfl) ?_ _
       go_wp2_with fail
       go_meet
       exact ⟨_,rfl,hnd,hvd,hq,zq1,hqo⟩
     case rest =>
     clear hn hv
     obtain ⟨q,rfl,hn,hv,hq,zq1,hqo⟩:=hcut
     go_upto_region 11 with (fail)
     go_cut [12] from 88 to 98 (fun u wx => u = .pointer (some ⟨q,0,none⟩) ∧ ∃ (DA1 : Option Addr) (dc1 : Nat),N1 w W1 wx p g #[.pointer (some ⟨M,0,none⟩),.slice TA T.length tc,.slice A5 rs.length c5,.slice DA1 (k + 1) dc1,.slice (some ⟨g,0,none⟩) rs.length rs.length,.int .i64 (roomI rs st),.int .i64 (roomI rs gl)] (outR rs ds tr wo k) (.slice DA1 (k + 1) dc1) (k + 1) (cells ++ encN rs T d) ∧ Blk wx v 120 #[.string ⟨d.key.toArray⟩,.string ⟨d.src.toArray⟩,.string ⟨d.dst.toArray⟩,.int .i64 d.time,.slice d.N d.needs.length d.nc,.slice d.T d.takes.length d.tc,.string ⟨d.trick.toArray⟩] ∧ Blk wx q 166 #[.int .i64 (roomI rs d.src),.int .i64 (roomI rs d.dst),.int .i64 d.time,.int .i64 (bitsT T d.needs),.int .i64 (bitsT T d.takes)])
     case first =>
      have hnd:=hn.drew
      have hvd:=hv.drew
      have hqd:=hq.drew
      have zbb:=hn.bw.size
      have zoo:=hn.oth.1
      have zpp : p < wc.heap.size:=hn.box.lt
      have p3 : wc.cell? ⟨p,3,none⟩ = some (.slice DA k dc):=hn.box.w7.2.2.2.1
      have p3' : wc.drew.cell? ⟨p,3,none⟩ = some (.slice DA k dc):=p3
      clear hn hv hq
      refine wp_region_held_drew (S:=(fun w' => w'.cell? ⟨q,0,none⟩ = some (.int .i64 (roomI rs d.src)) ∧ w'.cell? ⟨q,1,none⟩ = some (.int .i64 (roomI rs d.dst)) ∧ w'.cell? ⟨q,2,none⟩ = some (.int .i64 d.time) ∧ w'.cell? ⟨q,3,none⟩ = some (.int .i64 (bitsT T d.needs)) ∧ w'.cell? ⟨q,4,none⟩ = some (.int .i64 (bitsT T d.takes)))) (by kernel_rfl) (hqd.w5) (fun hHeld => ?_)
      (refine QT (i:=0) (v:=?_) ?_ ?_; (rotate_left 1; (intro w hSw; (try dsimp only at hSw); go_simp); (try with_reducible rfl)); (try simp only [Act.put,Q3,Q4,Q5]))
      (refine QT (i:=1) (v:=?_) ?_ ?_; (rotate_left 1; (intro w hSw; (try dsimp only at hSw); go_simp); (try with_reducible rfl)); (try simp only [Act.put,Q3,Q4,Q5]))
      (refine QT (i:=2) (v:=?_) ?_ ?_; (rotate_left 1; (intro w hSw; (try dsimp only at hSw); go_simp); (try with_reducible rfl)); (try simp only [Act.put,Q3,Q4,Q5]))
      (refine QT (i:=3) (v:=?_) ?_ ?_; (rotate_left 1; (intro w hSw; (try dsimp only at hSw); go_simp); (try with_reducible rfl)); (try simp only [Act.put,Q3,Q4,Q5]))
      (refine QT (i:=5) (v:=?_) ?_ ?_; (rotate_left 1; (intro w hSw; (try dsimp only at hSw); go_simp); (try with_reducible rfl)); (try simp only [Act.put,Q3,Q4,Q5]))
      refine wpAnyH_ready (rs:=[4,6]) (by kernel_rfl) (by simp) ?_
      refine AllReadyH.cons rfl (fun K hK => ?_) (AllReadyH.cons rfl (fun K hK => ?_) AllReadyH.nil)
      case refine_1 =>
       go_simp
       refine hK.out _ _ (hqd.w5) (fun hHeld => ?_)
       clear hK K
       (try simp only [Act.put,Q3,Q4,Q5])
       refine wpAnyH_ready (rs:=[6]) (by kernel_rfl) (by simp) ?_
       refine AllReadyH.cons rfl (fun K hK => ?_) AllReadyH.nil
       go_simp
       have hnd:=hnd.alloc (.cells #[.int .i64 (roomI rs d.src),.int .i64 (roomI rs d.dst),.int .i64 d.time,.int .i64 (bitsT T d.needs),.int .i64 (bitsT T d.takes)] 166)
       have hvd:=hvd.alloc (.cells #[.int .i64 (roomI rs d.src),.int .i64 (roomI rs d.dst),.int .i64 d.time,.int .i64 (bitsT T d.needs),.int .i64 (bitsT T d.takes)] 166)
       have hqd:=hqd.alloc (.cells #[.int .i64 (roomI rs d.src),.int .i64 (roomI rs d.dst),.int .i64 d.time,.int .i64 (bitsT T d.needs),.int .i64 (bitsT T d.takes)] 166)
       refine hK.out _ _ (hqd.w5) (fun hHeld => ?_)
       clear hK K
       (try simp only [Act.put,Q3,Q4,Q5])
       refine wpAnyH_ready (rs:=[7]) (by kernel_rfl) (by simp) ?_
       refine AllReadyH.cons rfl (fun K hK => ?_) AllReadyH.nil
       refine step_app (lo:=w.heap.size) (base:=W1.heap.size) (n:=k) (xs:=cells) _ rfl _ _ ty_doorz rfl hnd.own rfl (by first | exact row_new' _ (by first | rfl | simp) (by first | omega | (simp; omega)) rfl | exact row_newN _ _ (by first | rfl | simp) (by first | omega | (simp; omega)) rfl | exact row_newD _ (by first | rfl | simp) (by first | omega | (simp; omega)) rfl) rfl rfl (by omega) (by omega) (by first | omega | (simp; omega)) ?_
       intro A6 c6 w6 hown6 hg6 _
       have hqd:=hqd.grownN hg6 hqo
       have hvd:=Blk.app hnd.own hvd hg6 (by decide)
       have hnd:=hnd.appD zw1 hg6 hown6
       obtain ⟨t0,t1,t2,t3,t4,t5,t6⟩:=hnd.box.w7
       have f3:=hnd.box.thaw 3
       have zp6:=hnd.box.lt
       refine hK.out _ _ (hqd.w5) (fun hHeld => ?_)
       clear hK K
       (try simp only [Act.put,Q3,Q4,Q5])
       (refine QT (i:=8) (v:=?_) ?_ ?_; (rotate_left 1; (intro w hSw; (try dsimp only at hSw); go_simp); (try with_reducible rfl)); (try simp only [Act.put,Q3,Q4,Q5]))
       (refine QT (i:=9) (v:=?_) ?_ ?_; (rotate_left 1; (intro w hSw; (try dsimp only at hSw); go_simp); (try with_reducible rfl)); (try simp only [Act.put,Q3,Q4,Q5]))
       refine wpAnyH_ready (rs:=[10]) (by kernel_rfl) (by simp) ?_
       refine AllReadyH.cons rfl (fun K hK => ?_) AllReadyH.nil
       go_simp
       have hqd:=hqd.past p 3 (.slice A6 (k + 1) c6) (hqd.ne hnd.box (by decide))
       have hvd:=hvd.past p 3 (.slice A6 (k + 1) c6) (hvd.ne hnd.box (by decide))
       have hnd:=hnd.setP zp 3 (.slice A6 (k + 1) c6)
       refine hK.out _ _ (hqd.w5) (fun hHeld => ?_)
       clear hK K
       (try simp only [Act.put,Q3,Q4,Q5])
       refine wpAnyH_done (by kernel_rfl) ?_ _
       go_wp2_with fail
       go_meet
       exact ⟨rfl,A6,c6,by simpa [encN] using hnd,hvd,hqd⟩
      case refine_2 =>
       go_simp
       have hnd:=hnd.alloc (.cells #[.int .i64 (roomI rs d.src),.int .i64 (roomI rs d.dst),.int .i64 d.time,.int .i64 (bitsT T d.needs),.int .i64 (bitsT T d.takes)] 166)
       have hvd:=hvd.alloc (.cells #[.int .i64 (roomI rs d.src),.int .i64 (roomI rs d.dst),.int .i64 d.time,.int .i64 (bitsT T d.needs),.int .i64 (bitsT T d.takes)] 166)
       have hqd:=hqd.alloc (.cells #[.int .i64 (roomI rs d.src),.int .i64 (roomI rs d.dst),.int .i64 d.time,.int .i64 (bitsT T d.needs),.int .i64 (bitsT T d.takes)] 166)
       refine hK.out _ _ (hqd.w5) (fun hHeld => ?_)
       clear hK K
       (try simp only [Act.put,Q3,Q4,Q5])
       refine wpAnyH_ready (rs:=[4]) (by kernel_rfl) (by simp) ?_
       refine AllReadyH.cons rfl (fun K hK => ?_) AllReadyH.nil
       go_simp
       refine hK.out _ _ (hqd.w5) (fun hHeld => ?_)
       clear hK K
       (try simp only [Act.put,Q3,Q4,Q5])
       refine wpAnyH_ready (rs:=[7]) (by kernel_rfl) (by simp) ?_
       refine AllReadyH.cons rfl (fun K hK => ?_) AllReadyH.nil
       refine step_app (lo:=w.heap.size) (base:=W1.heap.size) (n:=k) (xs:=cells) _ rfl _ _ ty_doorz rfl hnd.own rfl (by first | exact row_new' _ (by first | rfl | simp) (by first | omega | (simp; omega)) rfl | exact row_newN _ _ (by first | rfl | simp) (by first | omega | (simp; omega)) rfl | exact row_newD _ (by first | rfl | simp) (by first | omega | (simp; omega)) rfl) rfl rfl (by omega) (by omega) (by first | omega | (simp; omega)) ?_
       intro A6 c6 w6 hown6 hg6 _
       have hqd:=hqd.grownN hg6 hqo
       have hvd:=Blk.app hnd.own hvd hg6 (by decide)
       have hnd:=hnd.appD zw1 hg6 hown6
       obtain ⟨t0,t1,t2,t3,t4,t5,t6⟩:=hnd.box.w7
       have f3:=hnd.box.thaw 3
       have zp6:=hnd.box.lt
       refine hK.out _ _ (hqd.w5) (fun hHeld => ?_)
       clear hK K
       (try simp only [Act.put,Q3,Q4,Q5])
       (refine QT (i:=8) (v:=?_) ?_ ?_; (rotate_left 1; (intro w hSw; (try dsimp only at hSw); go_simp); (try with_reducible rfl)); (try simp only [Act.put,Q3,Q4,Q5]))
       (refine QT (i:=9) (v:=?_) ?_ ?_; (rotate_left 1; (intro w hSw; (try dsimp only at hSw); go_simp); (try with_reducible rfl)); (try simp only [Act.put,Q3,Q4,Q5]))
       refine wpAnyH_ready (rs:=[10]) (by kernel_rfl) (by simp) ?_
       refine AllReadyH.cons rfl (fun K hK => ?_) AllReadyH.nil
       go_simp
       have hqd:=hqd.past p 3 (.slice A6 (k + 1) c6) (hqd.ne hnd.box (by decide))
       have hvd:=hvd.past p 3 (.slice A6 (k + 1) c6) (hvd.ne hnd.box (by decide))
       have hnd:=hnd.setP zp 3 (.slice A6 (k + 1) c6)
       refine hK.out _ _ (hqd.w5) (fun hHeld => ?_)
       clear hK K
       (try simp only [Act.put,Q3,Q4,Q5])
       refine wpAnyH_done (by kernel_rfl) ?_ _
       go_wp2_with fail
       go_meet
       exact ⟨rfl,A6,c6,by simpa [encN] using hnd,hvd,hqd⟩
     case rest =>
     clear hn hv hq hqo
     obtain ⟨rfl,DA1,dc1,hn,hv,hq⟩:=hcut
     have hroom : (outR rs ds tr wo k)[ixR rs d.src]? = some (outQ rs ds tr wo k (ixR rs d.src)):=by
      rw [List.getElem?_eq_getElem (by rw [outR_len]; exact ixR_lt HSRC.out)]; exact congrArg some (outR_at _)
     obtain ⟨cells1,hc1⟩ : ∃ c,c = (ds.take (k + 1)).flatMap (encN rs T):=⟨_,rfl⟩
     rw [← HFT.out,← hc1] at hn
     have HCE:=Lib.hid hc1
     clear hc1
     have HRO:=Lib.hid hroom
     have HQL:=Lib.hid (outQ_len (rs:=rs) (ds:=ds) (tr:=tr) (wo:=wo) (k:=k) (ixR rs d.src))
     have HSI:=Lib.hid (roomI_mem HSRC.out)
     have HIX:=Lib.hid (ixR_lt HSRC.out)
     clear hroom
     obtain ⟨ob,hob⟩ : ∃ ob,okD tr wo d = ob:=⟨_,rfl⟩
     have HOB:=Lib.hid hob
     clear hob
     go_upto_region 12 with (fail)
     go_cut [112] from 98 to 113 (fun u wx => u = .bool ob ∧ wx = wc)
     case first =>
      obtain ⟨v0,v1,v2,v3,v4,v5,v6⟩:=hv.w7
      clear v1 v2 v3 v4 v5
      have hcon:=containsS_any TR c2 lo2 tr d.trick wc (HRT.out.below hn.bw) hrl
      unfold encStr at hcon
      by_cases c1 : d.key = wo
      ·have e1 : (d.key == wo) = true:=beq_iff_eq.2 c1
       have HV : Hid (ob = false):=Lib.hid (by rw [← HOB.out]; unfold okD; rw [c1]; simp)
       clear c1
       go_wp2_with fail
       go_meet
       exact ⟨by rw [HV.out],rfl⟩
      ·have e1 : (d.key == wo) = false:=beq_eq_false_iff_ne.2 c1
       have HC1:=Lib.hid c1
       clear c1
       by_cases c2 : d.trick = []
       ·have e2 : (d.trick == []) = true:=beq_iff_eq.2 c2
        have e3 : d.trick.isEmpty = true:=by rw [c2]; rfl
        have HV : Hid (ob = true):=Lib.hid (by rw [← HOB.out]; unfold okD; rw [c2]; simp [HC1.out])
        clear c2
        go_wp2_with fail
        go_meet
        exact ⟨by rw [HV.out],rfl⟩
       ·have e2 : (d.trick == []) = false:=beq_eq_false_iff_ne.2 c2
        have e3 : d.trick.isEmpty = false:=by cases h : d.trick with | nil => exact absurd h c2 | cons a l => rfl
        have HC2:=Lib.hid c2
        clear c2
        have HV : Hid (ob = decide (d.trick ∈ tr)):=Lib.hid (by rw [← HOB.out]; unfold okD; rw [e2,show (d.key != wo) = true from bne_iff_ne.2 HC1.out]; rfl)
        go_wp2_with fail
        refine hcon.mono ?_
        rintro e wk ⟨rfl,rfl⟩
        clear hcon
        rw [← HV.out]
        go_wp2_with fail
        go_meet
        exact ⟨rfl,rfl⟩
     case rest =>
     obtain ⟨rfl,rfl⟩:=hcut
     cases ob with
     | false =>
      have HN:=Lib.hid (HNO.out HOB.out)
      go_wp2_with fail
      go_roundw
      case rel => exact ⟨k + 1,DA1,dc1,by omega,by go_num,by rw [HN.out,← HCE.out]; exact hn⟩
      case measure => simp [intOf]; omega
     | true =>
      have HN:=Lib.hid (HYES.out HOB.out)
      go_upto_region 13 with (fail)
      have hnd:=hn.drew
      have hqd:=hq.drew
      have zbb:=hn.bw.size
      have zoo:=hn.oth.1
      have zpp : p < wc.heap.size:=hn.box.lt
      have hix:=HIX.out
      have hsi:=HSI.out
      have hql:=HQL.out
      obtain ⟨A5',c5',o0',hox⟩:=hnd.row HRO.out
      generalize hxs : outQ rs ds tr wo k (ixR rs d.src) = xs0 at *
      rw [hsi] at hqd
      generalize hixe : ixR rs d.src = ix at *
      have o0 : wc.cell? ⟨g,ix,none⟩ = some (.slice A5' xs0.length c5'):=o0'
      have zgg : g < wc.heap.size:=World.block_lt_of_cell? wc _ o0
      have hj0 : (0 : Int) ≤ (ix : Int):=by omega
      have hj1 : (ix : Int) < (rs.length : Int):=by omega
      have HXS:=Lib.hid hxs
      have HIE:=Lib.hid hixe
      clear hxs hixe hsi hn hq hv
      refine wp_region_held_drew (S:=(fun w' => w'.cell? ⟨p,4,none⟩ = some (.slice (some ⟨g,0,none⟩) rs.length rs.length) ∧ w'.cell? ⟨q,0,none⟩ = some (.int .i64 (ix : Int)))) (by kernel_rfl) (⟨hnd.box.w7.2.2.2.2.1,hqd.w5.1⟩) (fun hHeld => ?_)
      (refine QT (i:=0) (v:=?_) ?_ ?_; (rotate_left 1; (intro w hSw; (try dsimp only at hSw); go_simp); (try with_reducible rfl)); (try simp only [Act.put,Q3,Q4,Q5]))
      (refine QT (i:=1) (v:=?_) ?_ ?_; (rotate_left 1; (intro w hSw; (try dsimp only at hSw); go_simp); (try with_reducible rfl)); (try simp only [Act.put,Q3,Q4,Q5]))
      (refine QT (i:=2) (v:=?_) ?_ ?_; (rotate_left 1; (intro w hSw; (try dsimp only at hSw); go_simp); (try with_reducible rfl)); (try simp only [Act.put,Q3,Q4,Q5]))
      (refine QT (i:=3) (v:=?_) ?_ ?_; (rotate_left 1; (intro w hSw; (try dsimp only at hSw); go_simp); (try with_reducible rfl)); (try simp only [Act.put,Q3,Q4,Q5]))
      (refine QT (i:=4) (v:=?_) ?_ ?_; (rotate_left 1; (intro w hSw; (try dsimp only at hSw); go_simp); (try with_reducible rfl)); (try simp only [Act.put,Q3,Q4,Q5]))
      (refine QT (i:=5) (v:=?_) ?_ ?_; (rotate_left 1; (intro w hSw; (try dsimp only at hSw); go_simp); (try with_reducible rfl)); (try simp only [Act.put,Q3,Q4,Q5]))
      (refine QT (i:=6) (v:=?_) ?_ ?_; (rotate_left 1; (intro w hSw; (try dsimp only at hSw); go_simp); (try with_reducible rfl)); (try simp only [Act.put,Q3,Q4,Q5]))
      (refine QT (i:=7) (v:=?_) ?_ ?_; (rotate_left 1; (intro w hSw; (try dsimp only at hSw); go_simp); (try with_reducible rfl)); (try simp only [Act.put,Q3,Q4,Q5]))
      (refine QT (i:=8) (v:=?_) ?_ ?_; (rotate_left 1; (intro w hSw; (try dsimp only at hSw); go_simp); (try with_reducible rfl)); (try simp only [Act.put,Q3,Q4,Q5]))
      (refine QT (i:=9) (v:=?_) ?_ ?_; (rotate_left 1; (intro w hSw; (try dsimp only at hSw); go_simp); (try with_reducible rfl)); (try simp only [Act.put,Q3,Q4,Q5]))
      (refine QT (i:=10) (v:=?_) ?_ ?_; (rotate_left 1; (intro w hSw; (try dsimp only at hSw); go_simp); (try with_reducible rfl)); (try simp only [Act.put,Q3,Q4,Q5]))
      (refine QT (i:=11) (v:=?_) ?_ ?_; (rotate_left 1; (intro w hSw; (try dsimp only at hSw); go_simp); (try with_reducible rfl)); (try simp only [Act.put,Q3,Q4,Q5]))
      (refine QT (i:=12) (v:=?_) ?_ ?_; (rotate_left 1; (intro w hSw; (try dsimp only at hSw); go_simp); (try with_reducible rfl)); (try simp only [Act.put,Q3,Q4,Q5]))
      (refine QT (i:=14) (v:=?_) ?_ ?_; (rotate_left 1; (intro w hSw; (try dsimp only at hSw); go_simp); (try with_reducible rfl)); (try simp only [Act.put,Q3,Q4,Q5]))
      refine wpAnyH_ready (rs:=[13,15]) (by kernel_rfl) (by simp) ?_
      refine AllReadyH.cons rfl (fun K hK => ?_) (AllReadyH.cons rfl (fun K hK => ?_) AllReadyH.nil)
      case refine_1 =>
       go_simp
       refine hK.out _ _ (⟨hnd.box.w7.2.2.2.2.1,hqd.w5.1⟩) (fun hHeld => ?_)
       clear hK K
       (try simp only [Act.put,Q3,Q4,Q5])
       refine wpAnyH_ready (rs:=[15]) (by kernel_rfl) (by simp) ?_
       refine AllReadyH.cons rfl (fun K hK => ?_) AllReadyH.nil
       go_simp
       have hnd:=hnd.alloc (.cells #[.int .i64 (k : Int)] 3)
       have hqd:=hqd.alloc (.cells #[.int .i64 (k : Int)] 3)
       have hox:=hox.alloc (.cells #[.int .i64 (k : Int)] 3)
       have o1:=cell_al o0' (.cells #[.int .i64 (k : Int)] 3)
       refine hK.out _ _ (⟨hnd.box.w7.2.2.2.2.1,hqd.w5.1⟩) (fun hHeld => ?_)
       clear hK K
       (try simp only [Act.put,Q3,Q4,Q5])
       refine wpAnyH_ready (rs:=[16]) (by kernel_rfl) (by simp) ?_
       refine AllReadyH.cons rfl (fun K hK => ?_) AllReadyH.nil
       refine step_app (lo:=w.heap.size) (base:=W1.heap.size) (n:=xs0.length) (xs:=ints xs0) _ rfl _ _ ty_intz rfl hox rfl (by first | exact row_new' _ (by first | rfl | simp) (by first | omega | (simp; omega)) rfl | exact row_newN _ _ (by first | rfl | simp) (by first | omega | (simp; omega)) rfl | exact row_newD _ (by first | rfl | simp) (by first | omega | (simp; omega)) rfl) rfl rfl (by omega) (by omega) (by first | omega | (simp; omega)) ?_
       intro A6 c6 w6 hown6 hg6 hbl6
       obtain ⟨hp6,⟨cs6,hg6b⟩,hsame6,hkeep6⟩:=hnd.mid HRO.out o1 hg6
       have hqd:=hkeep6 q _ _ (by decide) hqd
       have t4:=(hsame6 ix).trans o1
       have f4:=hg6b.thaw ix
       have zg6:=hg6b.lt
       have HPU : Hid (w6.ownsRow W1.heap.size 3 1 (.slice A6 (xs0 ++ [(k : Int)]).length c6) (xs0 ++ [(k : Int)]).length (ints (xs0 ++ [(k : Int)]))):=Lib.hid (by simpa [ints] using hown6)
       refine hK.out _ _ (⟨hp6.w7.2.2.2.2.1,hqd.w5.1⟩) (fun hHeld => ?_)
       clear hK K
       (try simp only [Act.put,Q3,Q4,Q5])
       (refine QT (i:=17) (v:=?_) ?_ ?_; (rotate_left 1; (intro w hSw; (try dsimp only at hSw); go_simp); (try with_reducible rfl)); (try simp only [Act.put,Q3,Q4,Q5]))
       refine wpAnyH_ready (rs:=[18]) (by kernel_rfl) (by simp) ?_
       refine AllReadyH.cons rfl (fun K hK => ?_) AllReadyH.nil
       go_simp
       have hnn:=hnd.push hgw zw1 HRO.out o1 hg6 HPU.out (by rw [show (xs0 ++ [(k : Int)]).length = xs0.length + 1 by simp]; exact hbl6)
       rw [show (xs0 ++ [(k : Int)]).length = xs0.length + 1 by simp] at hnn
       have hqq:=hqd.past g ix (.slice A6 (xs0.length + 1) c6) (hqd.ne hg6b (by decide))
       refine hK.out _ _ (⟨hnn.box.w7.2.2.2.2.1,hqq.w5.1⟩) (fun hHeld => ?_)
       clear hK K
       (try simp only [Act.put,Q3,Q4,Q5])
       refine wpAnyH_done (by kernel_rfl) ?_ _
       clear hqd hqq hnd hg6 hp6
       go_wp2_with fail
       go_roundw
       case rel => exact ⟨k + 1,DA1,dc1,by omega,by go_num,by rw [HN.out,← HCE.out]; exact hnn⟩
       case measure => simp [intOf]; omega
      case refine_2 =>
       go_simp
       have hnd:=hnd.alloc (.cells #[.int .i64 (k : Int)] 3)
       have hqd:=hqd.alloc (.cells #[.int .i64 (k : Int)] 3)
       have hox:=hox.alloc (.cells #[.int .i64 (k : Int)] 3)
       have o1:=cell_al o0' (.cells #[.int .i64 (k : Int)] 3)
       refine hK.out _ _ (⟨hnd.box.w7.2.2.2.2.1,hqd.w5.1⟩) (fun hHeld => ?_)
       clear hK K
       (try simp only [Act.put,Q3,Q4,Q5])
       refine wpAnyH_ready (rs:=[13]) (by kernel_rfl) (by simp) ?_
       refine AllReadyH.cons rfl (fun K hK => ?_) AllReadyH.nil
       go_simp
       refine hK.out _ _ (⟨hnd.box.w7.2.2.2.2.1,hqd.w5.1⟩) (fun hHeld => ?_)
       clear hK K
       (try simp only [Act.put,Q3,Q4,Q5])
       refine wpAnyH_ready (rs:=[16]) (by kernel_rfl) (by simp) ?_
       refine AllReadyH.cons rfl (fun K hK => ?_) AllReadyH.nil
       refine step_app (lo:=w.heap.size) (base:=W1.heap.size) (n:=xs0.length) (xs:=ints xs0) _ rfl _ _ ty_intz rfl hox rfl (by first | exact row_new' _ (by first | rfl | simp) (by first | omega | (simp; omega)) rfl | exact row_newN _ _ (by first | rfl | simp) (by first | omega | (simp; omega)) rfl | exact row_newD _ (by first | rfl | simp) (by first | omega | (simp; omega)) rfl) rfl rfl (by omega) (by omega) (by first | omega | (simp; omega)) ?_
       intro A6 c6 w6 hown6 hg6 hbl6
       obtain ⟨hp6,⟨cs6,hg6b⟩,hsame6,hkeep6⟩:=hnd.mid HRO.out o1 hg6
       have hqd:=hkeep6 q _ _ (by decide) hqd
       have t4:=(hsame6 ix).trans o1
       have f4:=hg6b.thaw ix
       have zg6:=hg6b.lt
       have HPU : Hid (w6.ownsRow W1.heap.size 3 1 (.slice A6 (xs0 ++ [(k : Int)]).length c6) (xs0 ++ [(k : Int)]).length (ints (xs0 ++ [(k : Int)]))):=Lib.hid (by simpa [ints] using hown6)
       refine hK.out _ _ (⟨hp6.w7.2.2.2.2.1,hqd.w5.1⟩) (fun hHeld => ?_)
       clear hK K
       (try simp only [Act.put,Q3,Q4,Q5])
       (refine QT (i:=17) (v:=?_) ?_ ?_; (rotate_left 1; (intro w hSw; (try dsimp only at hSw); go_simp); (try with_reducible rfl)); (try simp only [Act.put,Q3,Q4,Q5]))
       refine wpAnyH_ready (rs:=[18]) (by kernel_rfl) (by simp) ?_
       refine AllReadyH.cons rfl (fun K hK => ?_) AllReadyH.nil
       go_simp
       have hnn:=hnd.push hgw zw1 HRO.out o1 hg6 HPU.out (by rw [show (xs0 ++ [(k : Int)]).length = xs0.length + 1 by simp]; exact hbl6)
       rw [show (xs0 ++ [(k : Int)]).length = xs0.length + 1 by simp] at hnn
       have hqq:=hqd.past g ix (.slice A6 (xs0.length + 1) c6) (hqd.ne hg6b (by decide))
       refine hK.out _ _ (⟨hnn.box.w7.2.2.2.2.1,hqq.w5.1⟩) (fun hHeld => ?_)
       clear hK K
       (try simp only [Act.put,Q3,Q4,Q5])
       refine wpAnyH_done (by kernel_rfl) ?_ _
       clear hqd hqq hnd hg6 hp6
       go_wp2_with fail
       go_roundw
       case rel => exact ⟨k + 1,DA1,dc1,by omega,by go_num,by rw [HN.out,← HCE.out]; exact hnn⟩
       case measure => simp [intOf]; omega
    ·have hke : k = ds.length:=by omega
     subst hke
     have HW : Hid (WorW wr w.heap.size M ⟨p,g,TA,tc,A5,c5,DA,dc,rs.length⟩ T rs ds tr wo st gl):=Lib.hid (by
      have hd:=(Row.of_own hn.own).weak zw1
      rw [List.take_length] at hd
      exact ⟨hn.box,HTR1.out.oth hn.oth HNE1.out,HGR1.out.oth hn.oth HNE2.out,hd,hn.nest.lt,fun r hr => by
       have e : (outR rs ds tr wo ds.length)[r]? = some (outN rs ds tr wo r):=by
        rw [List.getElem?_eq_getElem (by rw [outR_len]; exact hr)]; exact congrArg some (outR_at _)
       obtain ⟨B,c,h1,h2⟩:=hn.row e
       exact ⟨B,c,h1,(Row.of_own h2).weak zw1⟩⟩)
     clear hn hk hkn
     go_wp2_with fail
     go_ret
     exact ⟨⟨p,g,TA,tc,A5,c5,DA,dc,rs.length⟩,rfl,HW.out,zp,hbw⟩
end Go.Proofs.YtjggbpchmbdocaaGreatDoor
