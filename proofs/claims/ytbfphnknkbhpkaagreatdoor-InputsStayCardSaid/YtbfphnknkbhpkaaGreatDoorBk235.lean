/- Texts of this seat, laid together: RtB RtC. -/
import Derived.Deep.DeepCutAuto
import Derived.Test.YtbfphnknkbhpkaaGreatDoorBk234
import Derived.Test.YtbfphnknkbhpkaaGreatDoorBk214
/- The walks of doorsFault, things, tricks, CheckMap and CheckTricks at the one map. -/
namespace Go.Proofs.YtbfphnknkbhpkaaGreatDoor
set_option linter.unusedVariables false
set_option linter.unusedSimpArgs false
open Go.RowKit

theorem MapB.drewN {w : World} {M R D : Nat} (h : MapB w M R D) (q : Nat) : MapB (w.drewN q) M R D:=h
theorem MapB.drew {w : World} {M R D : Nat} (h : MapB w M R D) : MapB w.drew M R D:=h
theorem Blk.door {w : World} {g : Nat} (h : Blk w g 127 #[.string ⟨#[100]⟩,.string ⟨#[97]⟩,.string ⟨#[98]⟩,.int .i64 7,.slice none 0 0,.slice none 0 0,.string ⟨#[]⟩]) : w.cell? ⟨g,0,none⟩ = some (.string ⟨#[100]⟩) ∧ w.cell? ⟨g,1,none⟩ = some (.string ⟨#[97]⟩) ∧ w.cell? ⟨g,2,none⟩ = some (.string ⟨#[98]⟩) ∧ w.cell? ⟨g,3,none⟩ = some (.int .i64 7) ∧ w.cell? ⟨g,4,none⟩ = some (.slice none 0 0) ∧ w.cell? ⟨g,5,none⟩ = some (.slice none 0 0) ∧ w.cell? ⟨g,6,none⟩ = some (.string ⟨#[]⟩) :=
 ⟨by simpa using h.cell 0,by simpa using h.cell 1,by simpa using h.cell 2,by simpa using h.cell 3,by simpa using h.cell 4,by simpa using h.cell 5,by simpa using h.cell 6⟩
theorem first_two (w : World) (A : Option Addr) (c lo : Nat) (hr : Row w lo 1 A 2 (ints [0,0])) : Calls Tryz.prog 37 #[.slice A 2 c] w fun e w' => e = .returned (.int .i64 0) ∧ w = w' :=
 first_any A c lo [0,0] w hr (by decide)

set_option maxHeartbeats 4000000 in
theorem doorsFault_fx (M R D : Nat) (w : World) (hm : MapB w M R D) (hf : FM w R D) : Calls Tryz.prog 156 #[.pointer (some ⟨M,0,none⟩)] w fun e w' => e = .returned (.int .i64 0) ∧ Below w.heap.size w w':=by
 obtain ⟨m0,m1,m2,m3⟩:=hm.cells
 have zm:=hm.lt
 obtain ⟨d0,d1,d2,d3,d4,d5,d6⟩:=hf.door
 have zd:=hf.doors.lt
 go_enter Tryz.func156,Tryz.ntmps156
 go_wp2_with fail
 refine wp_loop_rounds 2 ?_
 rw [rounds_succ]
 go_wp2_with fail
 refine (key_ok ⟨#[100]⟩ _ key_d).mono ?_
 rintro e w1 ⟨rfl,rfl⟩
 have hb1 : Below w.heap.size w (w.alloc (.cells #[.string ⟨#[100]⟩,.string ⟨#[97]⟩,.string ⟨#[98]⟩,.int .i64 7,.slice none 0 0,.slice none 0 0,.string ⟨#[]⟩] 127)):=(Below.refl _ _).alloc (Nat.le_refl _) _
 have hk1 : Blk (w.alloc (.cells #[.string ⟨#[100]⟩,.string ⟨#[97]⟩,.string ⟨#[98]⟩,.int .i64 7,.slice none 0 0,.slice none 0 0,.string ⟨#[]⟩] 127)) w.heap.size 127 #[.string ⟨#[100]⟩,.string ⟨#[97]⟩,.string ⟨#[98]⟩,.int .i64 7,.slice none 0 0,.slice none 0 0,.string ⟨#[]⟩]:=Blk.new _ _ _
 have hm1:=hm.alloc (.cells #[.string ⟨#[100]⟩,.string ⟨#[97]⟩,.string ⟨#[98]⟩,.int .i64 7,.slice none 0 0,.slice none 0 0,.string ⟨#[]⟩] 127)
 have hf1:=hf.alloc (.cells #[.string ⟨#[100]⟩,.string ⟨#[97]⟩,.string ⟨#[98]⟩,.int .i64 7,.slice none 0 0,.slice none 0 0,.string ⟨#[]⟩] 127)
 go_wp2_with fail
 go_quiet (fail)
 have hb2:=below_drewN' hb1 nq
 have hk2:=hk1.drewN nq
 have hm2:=hm1.drewN nq
 have hf2:=hf1.drewN nq
 (try simp only [World.drewN_drewN])
 clear hb1 hk1 hm1 hf1 hm hf m0 m1 m2 m3 zm d0 d1 d2 d3 d4 d5 d6 zd
 generalize (w.alloc (.cells #[.string ⟨#[100]⟩,.string ⟨#[97]⟩,.string ⟨#[98]⟩,.int .i64 7,.slice none 0 0,.slice none 0 0,.string ⟨#[]⟩] 127)).drewN nq = W at *
 obtain ⟨d0,d1,d2,d3,d4,d5,d6⟩:=hk2.door
 have zd:=hk2.lt
 go_wp2_with fail
 refine (room_a M R D _ hm2 hf2).mono ?_
 rintro e w3 ⟨rfl,hb3⟩
 have hx3:=below_up hb2 hb3
 have hk3:=hk2.below hb3
 have hm3:=hm2.below hb3
 have hf3:=hf2.below hb3
 clear hb2 hk2 hm2 hf2 hb3 d0 d1 d2 d3 d4 d5 d6 zd
 obtain ⟨d0,d1,d2,d3,d4,d5,d6⟩:=hk3.door
 have zd:=hk3.lt
 go_wp2_with fail
 refine (room_b M R D _ hm3 hf3).mono ?_
 rintro e w4 ⟨rfl,hb4⟩
 have hx4:=below_up hx3 hb4
 have hk4:=hk3.below hb4
 clear hx3 hk3 hm3 hf3 hb4 d0 d1 d2 d3 d4 d5 d6 zd
 obtain ⟨d0,d1,d2,d3,d4,d5,d6⟩:=hk4.door
 have zd:=hk4.lt
 go_wp2_with fail
 refine (out_any _ _ _ _).mono ?_
 rintro e w5 ⟨rfl,rfl⟩
 have q1 : (decide ((7 : Int) < 1) || decide ((864000000 : Int) < 7)) = false:=by decide
 rw [q1]
 have z4:=hx4.size
 go_wp2_with fail
 have hk4d:=hk4.drew
 go_region_held3 (fun w' => w'.cell? ⟨w.heap.size,4,none⟩ = some (.slice none 0 0) ∧ w'.cell? ⟨w.heap.size,5,none⟩ = some (.slice none 0 0)) (first | exact ⟨hk4d.door.2.2.2.2.1,hk4d.door.2.2.2.2.2.1⟩ | exact ⟨(hk4d.alloc _).door.2.2.2.2.1,(hk4d.alloc _).door.2.2.2.2.2.1⟩)
  (first
  | (go_at_call 188; refine (things_none _).mono ?_; rintro e w5 ⟨rfl,rfl⟩)
  | (go_at_call 37; refine (first_two _ _ _ 0 (by first | exact row_new' _ (by first | rfl | simp) (by first | omega | (simp; omega)) rfl | exact row_newN _ _ (by first | rfl | simp) (by first | omega | (simp; omega)) rfl | exact row_newD _ (by first | rfl | simp) (by first | omega | (simp; omega)) rfl)).mono ?_; rintro e w6 ⟨rfl,rfl⟩))
 all_goals
  go_wp2_with fail
  rw [rounds_succ]
  go_wp2_with fail
  go_ret
  exact ⟨rfl,(by repeat (first | exact hx4 | refine Below.alloc ?_ (by first | omega | (simp; omega) | simp) _ | refine below_drewN' ?_ _ | refine Below.drew ?_))⟩

set_option maxHeartbeats 2000000 in
theorem tricks_fx (M R D : Nat) (w : World) (hm : MapB w M R D) (hf : FM w R D) : Calls Tryz.prog 127 #[.pointer (some ⟨M,0,none⟩)] w fun e w' => e = .returned (.slice none 0 0) ∧ Below w.heap.size w w':=by
 obtain ⟨m0,m1,m2,m3⟩:=hm.cells
 have zm:=hm.lt
 obtain ⟨d0,d1,d2,d3,d4,d5,d6⟩:=hf.door
 have zd:=hf.doors.lt
 go_enter Tryz.func127,Tryz.ntmps127
 go_wp2_with fail
 refine wp_loop_rounds 2 ?_
 rw [rounds_succ]
 go_wp2_with fail
 rw [rounds_succ]
 go_wp2_with fail
 refine (Tryz.slices_Sort_string_none _ _ _).mono ?_
 rintro e w1 ⟨rfl,rfl⟩
 go_wp2_with fail
 refine (Tryz.slices_Compact_string_empty _ _ _).mono ?_
 rintro e w1 ⟨rfl,rfl⟩
 go_wp2_with fail
 go_ret
 exact ⟨rfl,(by repeat (first | exact Below.refl _ _ | refine Below.alloc ?_ (by first | omega | (simp; omega) | simp) _ | refine below_drewN' ?_ _ | refine Below.drew ?_))⟩
end Go.Proofs.YtbfphnknkbhpkaaGreatDoor
/- The walks of things, CheckMap and CheckTricks at the one map. -/
namespace Go.Proofs.YtbfphnknkbhpkaaGreatDoor
set_option linter.unusedVariables false
set_option linter.unusedSimpArgs false
open Go.RowKit

theorem ty_strz : SliceTy Tryz.prog 28 9 1 16:=.mk' Tryz.underlying28 (z:=.string ⟨#[]⟩) (by kernel_rfl) rfl (by decide)
set_option maxHeartbeats 4000000 in
theorem things_fx (M R D : Nat) (w : World) (hm : MapB w M R D) (hf : FM w R D) : Calls Tryz.prog 158 #[.pointer (some ⟨M,0,none⟩)] w fun e w' => e = .returned (.slice none 0 0) ∧ Below w.heap.size w w':=by
 obtain ⟨m0,m1,m2,m3⟩:=hm.cells
 have zm:=hm.lt
 obtain ⟨r0,r1,r2,r3⟩:=hf.room
 have zr:=hf.rooms.lt
 obtain ⟨d0,d1,d2,d3,d4,d5,d6⟩:=hf.door
 have zd:=hf.doors.lt
 go_enter Tryz.func158,Tryz.ntmps158
 go_wp2_with fail
 refine wp_loop_rounds 3 ?_
 rw [rounds_succ]
 go_wp2_with (at_builtin; refine wpList_appN _ _ rfl _ _ ty_strz rfl (World.ownsRow_nil _ 0 _ _) rfl rfl ?_)
 rw [rounds_succ]
 go_wp2_with (at_builtin; refine wpList_appN _ _ rfl _ _ ty_strz rfl (World.ownsRow_nil _ 0 _ _) rfl rfl ?_)
 rw [rounds_succ]
 go_wp2_with fail
 refine wp_loop_rounds 2 ?_
 rw [rounds_succ]
 go_wp2_with fail
 have hk : Blk (((w.alloc (.cells #[.string ⟨#[97]⟩,.slice none 0 0] 124)).alloc (.cells #[.string ⟨#[98]⟩,.slice none 0 0] 124)).alloc (.cells #[.string ⟨#[100]⟩,.string ⟨#[97]⟩,.string ⟨#[98]⟩,.int .i64 7,.slice none 0 0,.slice none 0 0,.string ⟨#[]⟩] 127)) (w.heap.size + 1 + 1) 127 #[.string ⟨#[100]⟩,.string ⟨#[97]⟩,.string ⟨#[98]⟩,.int .i64 7,.slice none 0 0,.slice none 0 0,.string ⟨#[]⟩]:=by
  have:=Blk.new ((w.alloc (.cells #[.string ⟨#[97]⟩,.slice none 0 0] 124)).alloc (.cells #[.string ⟨#[98]⟩,.slice none 0 0] 124)) 127 #[.string ⟨#[100]⟩,.string ⟨#[97]⟩,.string ⟨#[98]⟩,.int .i64 7,.slice none 0 0,.slice none 0 0,.string ⟨#[]⟩]
  simpa using this
 have hb : Below w.heap.size w (((w.alloc (.cells #[.string ⟨#[97]⟩,.slice none 0 0] 124)).alloc (.cells #[.string ⟨#[98]⟩,.slice none 0 0] 124)).alloc (.cells #[.string ⟨#[100]⟩,.string ⟨#[97]⟩,.string ⟨#[98]⟩,.int .i64 7,.slice none 0 0,.slice none 0 0,.string ⟨#[]⟩] 127)):=(by repeat (first | exact Below.refl _ _ | refine Below.alloc ?_ (by first | omega | (simp; omega) | simp) _ | refine below_drewN' ?_ _ | refine Below.drew ?_))
 generalize ((w.alloc (.cells #[.string ⟨#[97]⟩,.slice none 0 0] 124)).alloc (.cells #[.string ⟨#[98]⟩,.slice none 0 0] 124)).alloc (.cells #[.string ⟨#[100]⟩,.string ⟨#[97]⟩,.string ⟨#[98]⟩,.int .i64 7,.slice none 0 0,.slice none 0 0,.string ⟨#[]⟩] 127) = W at *
 have hkd:=hk.drew
 go_region_held3 (fun w' => w'.cell? ⟨w.heap.size + 1 + 1,4,none⟩ = some (.slice none 0 0) ∧ w'.cell? ⟨w.heap.size + 1 + 1,5,none⟩ = some (.slice none 0 0)) (exact ⟨hkd.door.2.2.2.2.1,hkd.door.2.2.2.2.2.1⟩)
  (refine step_appN _ rfl _ _ ty_strz rfl (World.ownsRow_nil _ 0 _ _) rfl rfl ?_)
 all_goals
  go_wp2_with fail
  rw [rounds_succ]
  go_wp2_with fail
  refine (Tryz.slices_Sort_string_none _ _ _).mono ?_
  rintro e w1 ⟨rfl,rfl⟩
  go_wp2_with fail
  refine (Tryz.slices_Compact_string_empty _ _ _).mono ?_
  rintro e w1 ⟨rfl,rfl⟩
  go_wp2_with fail
  go_ret
  exact ⟨rfl,(by repeat (first | exact hb | refine Below.alloc ?_ (by first | omega | (simp; omega) | simp) _ | refine below_drewN' ?_ _ | refine Below.drew ?_))⟩

set_option maxHeartbeats 2000000 in
theorem checkMap_fx (R D : Nat) (w : World) (hf : FM w R D) : Calls Tryz.prog 126 #[.agg #[.slice (some ⟨R,0,none⟩) 2 2,.slice (some ⟨D,0,none⟩) 1 1,.string ⟨#[97]⟩,.string ⟨#[98]⟩]] w fun e w' => e = .returned (.int .i64 0) ∧ Below w.heap.size w w':=by
 have hm : MapB (w.alloc (.cells #[.slice (some ⟨R,0,none⟩) 2 2,.slice (some ⟨D,0,none⟩) 1 1,.string ⟨#[97]⟩,.string ⟨#[98]⟩] 130)) w.heap.size R D:=Blk.new _ _ _
 have hb : Below w.heap.size w (w.alloc (.cells #[.slice (some ⟨R,0,none⟩) 2 2,.slice (some ⟨D,0,none⟩) 1 1,.string ⟨#[97]⟩,.string ⟨#[98]⟩] 130)):=(Below.refl _ _).alloc (Nat.le_refl _) _
 have hf0:=hf.alloc (.cells #[.slice (some ⟨R,0,none⟩) 2 2,.slice (some ⟨D,0,none⟩) 1 1,.string ⟨#[97]⟩,.string ⟨#[98]⟩] 130)
 go_enter Tryz.func126,Tryz.ntmps126
 go_wp2_with fail
 generalize w.alloc (.cells #[.slice (some ⟨R,0,none⟩) 2 2,.slice (some ⟨D,0,none⟩) 1 1,.string ⟨#[97]⟩,.string ⟨#[98]⟩] 130) = W at *
 refine (roomsFault_fx R D _ hf0).mono ?_
 rintro e w1 ⟨rfl,hb1⟩
 have hf1:=hf0.below hb1
 have hm1:=hm.below hb1
 have hx1:=below_up hb hb1
 go_wp2_with fail
 refine (doorsFault_fx _ R D _ hm1 hf1).mono ?_
 rintro e w2 ⟨rfl,hb2⟩
 have hf2:=hf1.below hb2
 have hm2:=hm1.below hb2
 have hx2:=below_up hx1 hb2
 obtain ⟨m0,m1,m2,m3⟩:=hm2.cells
 have zm:=hm2.lt
 go_wp2_with fail
 refine (room_a _ R D _ hm2 hf2).mono ?_
 rintro e w3 ⟨rfl,hb3⟩
 have hf3:=hf2.below hb3
 have hm3:=hm2.below hb3
 have hx3:=below_up hx2 hb3
 clear m0 m1 m2 m3 zm
 obtain ⟨m0,m1,m2,m3⟩:=hm3.cells
 have zm:=hm3.lt
 go_wp2_with fail
 refine (room_b _ R D _ hm3 hf3).mono ?_
 rintro e w4 ⟨rfl,hb4⟩
 have hf4:=hf3.below hb4
 have hm4:=hm3.below hb4
 have hx4:=below_up hx3 hb4
 go_wp2_with fail
 refine (things_fx _ R D _ hm4 hf4).mono ?_
 rintro e w5 ⟨rfl,hb5⟩
 have hf5:=hf4.below hb5
 have hm5:=hm4.below hb5
 have hx5:=below_up hx4 hb5
 go_wp2_with fail
 refine (tricks_fx _ R D _ hm5 hf5).mono ?_
 rintro e w6 ⟨rfl,hb6⟩
 go_wp2_with fail
 go_ret
 exact ⟨rfl,below_up hx5 hb6⟩

set_option maxHeartbeats 2000000 in
theorem checkTricks_fx (R D : Nat) (w : World) (hf : FM w R D) : Calls Tryz.prog 84 #[.agg #[.slice (some ⟨R,0,none⟩) 2 2,.slice (some ⟨D,0,none⟩) 1 1,.string ⟨#[97]⟩,.string ⟨#[98]⟩],.slice none 0 0] w fun e w' => e = .returned (.int .i64 0) ∧ Below w.heap.size w w':=by
 have hm : MapB (w.alloc (.cells #[.slice (some ⟨R,0,none⟩) 2 2,.slice (some ⟨D,0,none⟩) 1 1,.string ⟨#[97]⟩,.string ⟨#[98]⟩] 130)) w.heap.size R D:=Blk.new _ _ _
 have hb : Below w.heap.size w (w.alloc (.cells #[.slice (some ⟨R,0,none⟩) 2 2,.slice (some ⟨D,0,none⟩) 1 1,.string ⟨#[97]⟩,.string ⟨#[98]⟩] 130)):=(Below.refl _ _).alloc (Nat.le_refl _) _
 have hf0:=hf.alloc (.cells #[.slice (some ⟨R,0,none⟩) 2 2,.slice (some ⟨D,0,none⟩) 1 1,.string ⟨#[97]⟩,.string ⟨#[98]⟩] 130)
 go_enter Tryz.func84,Tryz.ntmps84
 go_wp2_with fail
 generalize w.alloc (.cells #[.slice (some ⟨R,0,none⟩) 2 2,.slice (some ⟨D,0,none⟩) 1 1,.string ⟨#[97]⟩,.string ⟨#[98]⟩] 130) = W at *
 refine (checkMap_fx R D _ hf0).mono ?_
 rintro e w1 ⟨rfl,hb1⟩
 have hf1:=hf0.below hb1
 have hm1:=hm.below hb1
 have hx1:=below_up hb hb1
 go_wp2_with fail
 refine (tricks_fx _ R D _ hm1 hf1).mono ?_
 rintro e w2 ⟨rfl,hb2⟩
 go_wp2_with fail
 refine wp_loop_rounds 1 ?_
 rw [rounds_succ]
 go_wp2_with fail
 go_ret
 exact ⟨rfl,below_up hx1 hb2⟩
end Go.Proofs.YtbfphnknkbhpkaaGreatDoor
