/- Texts of this seat, laid together: RtA. -/
import Derived.LoopN
import Derived.WalkLawsBesides
import Derived.Deep.QuietTactic
import Derived.BigQuiet
import Derived.Test.YtbfphnknkbhpkaaGreatDoorBk201
import Derived.Test.YtbfphnknkbhpkaaGreatDoorBk202
import Derived.Test.YtbfphnknkbhpkaaGreatDoorBk205
import Derived.Test.YtbfphnknkbhpkaaGreatDoorBk214
/- The walks of what checks a map, at the one map that the laws use as their last test: rooms a and b, a door d from a to b of time 7. -/
namespace Go.Proofs.YtbfphnknkbhpkaaGreatDoor
set_option linter.unusedVariables false
set_option linter.unusedSimpArgs false
open Go.RowKit

structure FM (w : World) (R D : Nat) : Prop where
  rooms : Blk w R 124 #[.string ⟨#[97]⟩, .slice none 0 0, .string ⟨#[98]⟩, .slice none 0 0]
  doors : Blk w D 127 #[.string ⟨#[100]⟩, .string ⟨#[97]⟩, .string ⟨#[98]⟩, .int .i64 7, .slice none 0 0, .slice none 0 0, .string ⟨#[]⟩]
theorem FM.below {w w' : World} {R D : Nat} (h : FM w R D) (hb : Below w.heap.size w w') : FM w' R D:=⟨h.rooms.below hb,h.doors.below hb⟩
theorem FM.alloc {w : World} {R D : Nat} (h : FM w R D) (o : Obj) : FM (w.alloc o) R D:=⟨h.rooms.alloc o,h.doors.alloc o⟩
theorem FM.drew {w : World} {R D : Nat} (h : FM w R D) : FM w.drew R D:=⟨h.rooms,h.doors⟩
theorem FM.drewN {w : World} {R D : Nat} (h : FM w R D) (q : Nat) : FM (w.drewN q) R D:=⟨h.rooms,h.doors⟩
theorem FM.room {w : World} {R D : Nat} (h : FM w R D) : w.cell? ⟨R,0,none⟩ = some (.string ⟨#[97]⟩) ∧ w.cell? ⟨R,1,none⟩ = some (.slice none 0 0) ∧ w.cell? ⟨R,2,none⟩ = some (.string ⟨#[98]⟩) ∧ w.cell? ⟨R,3,none⟩ = some (.slice none 0 0) :=
 ⟨by simpa using h.rooms.cell 0,by simpa using h.rooms.cell 1,by simpa using h.rooms.cell 2,by simpa using h.rooms.cell 3⟩
theorem FM.door {w : World} {R D : Nat} (h : FM w R D) : w.cell? ⟨D,0,none⟩ = some (.string ⟨#[100]⟩) ∧ w.cell? ⟨D,1,none⟩ = some (.string ⟨#[97]⟩) ∧ w.cell? ⟨D,2,none⟩ = some (.string ⟨#[98]⟩) ∧ w.cell? ⟨D,3,none⟩ = some (.int .i64 7) ∧ w.cell? ⟨D,4,none⟩ = some (.slice none 0 0) ∧ w.cell? ⟨D,5,none⟩ = some (.slice none 0 0) ∧ w.cell? ⟨D,6,none⟩ = some (.string ⟨#[]⟩) :=
 ⟨by simpa using h.doors.cell 0,by simpa using h.doors.cell 1,by simpa using h.doors.cell 2,by simpa using h.doors.cell 3,by simpa using h.doors.cell 4,by simpa using h.doors.cell 5,by simpa using h.doors.cell 6⟩
def MapB (w : World) (M R D : Nat) : Prop:=Blk w M 130 #[.slice (some ⟨R,0,none⟩) 2 2,.slice (some ⟨D,0,none⟩) 1 1,.string ⟨#[97]⟩,.string ⟨#[98]⟩]
theorem MapB.cells {w : World} {M R D : Nat} (h : MapB w M R D) : w.cell? ⟨M,0,none⟩ = some (.slice (some ⟨R,0,none⟩) 2 2) ∧ w.cell? ⟨M,1,none⟩ = some (.slice (some ⟨D,0,none⟩) 1 1) ∧ w.cell? ⟨M,2,none⟩ = some (.string ⟨#[97]⟩) ∧ w.cell? ⟨M,3,none⟩ = some (.string ⟨#[98]⟩) :=
 ⟨by simpa using Blk.cell h 0,by simpa using Blk.cell h 1,by simpa using Blk.cell h 2,by simpa using Blk.cell h 3⟩
theorem MapB.below {w w' : World} {M R D : Nat} (h : MapB w M R D) (hb : Below w.heap.size w w') : MapB w' M R D:=Blk.below h hb
theorem MapB.alloc {w : World} {M R D : Nat} (h : MapB w M R D) (o : Obj) : MapB (w.alloc o) M R D:=Blk.alloc h o
theorem MapB.lt {w : World} {M R D : Nat} (h : MapB w M R D) : M < w.heap.size:=Blk.lt h

theorem key_a : keyB (⟨#[97]⟩ : ByteArray).data.toList = true:=by decide
theorem key_b : keyB (⟨#[98]⟩ : ByteArray).data.toList = true:=by decide
theorem key_d : keyB (⟨#[100]⟩ : ByteArray).data.toList = true:=by decide

theorem roomCmp_any (x y : ByteArray) (w : World) : Calls Tryz.prog 190 #[.agg #[.string x,.slice none 0 0],.string y] w fun e w' => e = .returned (.int .i64 (Lib.compareBytes x.data.toList y.data.toList)) ∧ Below w.heap.size w w':=by
 go_enter Tryz.func190,Tryz.ntmps190
 go_wp2_with fail
 refine (Tryz.strings_Compare x y _).mono ?_
 rintro e w1 ⟨rfl,rfl⟩
 go_wp2_with fail
 go_ret
 exact ⟨rfl,(Below.refl _ _).alloc (Nat.le_refl _) _⟩
theorem cmp_ba : Lib.compareBytes (⟨#[98]⟩ : ByteArray).data.toList (⟨#[97]⟩ : ByteArray).data.toList = 1:=by decide
theorem cmp_aa : Lib.compareBytes (⟨#[97]⟩ : ByteArray).data.toList (⟨#[97]⟩ : ByteArray).data.toList = 0:=by decide
theorem cmp_bb : Lib.compareBytes (⟨#[98]⟩ : ByteArray).data.toList (⟨#[98]⟩ : ByteArray).data.toList = 0:=by decide
theorem cmp_ab : Lib.compareBytes (⟨#[97]⟩ : ByteArray).data.toList (⟨#[98]⟩ : ByteArray).data.toList = -1:=by decide

set_option maxHeartbeats 1000000 in
theorem search_a (R D : Nat) (w : World) (hf : FM w R D) : Calls Tryz.prog 189 #[.slice (some ⟨R,0,none⟩) 2 2,.string ⟨#[97]⟩,.func (.func 190) #[] #[]] w fun e w' => e = .returned (.tuple #[.int .i64 0,.bool true]) ∧ Below w.heap.size w w':=by
 obtain ⟨r0,r1,r2,r3⟩:=hf.room
 have zr:=hf.rooms.lt
 go_enter Tryz.func189,Tryz.ntmps189
 go_wp2_with fail
 refine wp_loop_rounds 3 ?_
 rw [rounds_succ]
 go_wp2_with fail
 refine (roomCmp_any ⟨#[98]⟩ ⟨#[97]⟩ _).mono ?_
 rintro e w1 ⟨rfl,hb1⟩
 rw [cmp_ba]
 have hf1:=hf.below hb1
 clear r0 r1 r2 r3 zr
 obtain ⟨r0,r1,r2,r3⟩:=hf1.room
 have zr:=hf1.rooms.lt
 go_wp2_with fail
 rw [rounds_succ]
 go_wp2_with fail
 refine (roomCmp_any ⟨#[97]⟩ ⟨#[97]⟩ _).mono ?_
 rintro e w2 ⟨rfl,hb2⟩
 rw [cmp_aa]
 have hf2:=hf1.below hb2
 clear r0 r1 r2 r3 zr
 obtain ⟨r0,r1,r2,r3⟩:=hf2.room
 have zr:=hf2.rooms.lt
 go_wp2_with fail
 rw [rounds_succ]
 go_wp2_with fail
 refine (roomCmp_any ⟨#[97]⟩ ⟨#[97]⟩ _).mono ?_
 rintro e w3 ⟨rfl,hb3⟩
 rw [cmp_aa]
 go_wp2_with fail
 go_ret2
 exact ⟨rfl,below_up (below_up hb1 hb2) hb3⟩
set_option maxHeartbeats 1000000 in
theorem search_b (R D : Nat) (w : World) (hf : FM w R D) : Calls Tryz.prog 189 #[.slice (some ⟨R,0,none⟩) 2 2,.string ⟨#[98]⟩,.func (.func 190) #[] #[]] w fun e w' => e = .returned (.tuple #[.int .i64 1,.bool true]) ∧ Below w.heap.size w w':=by
 obtain ⟨r0,r1,r2,r3⟩:=hf.room
 have zr:=hf.rooms.lt
 go_enter Tryz.func189,Tryz.ntmps189
 go_wp2_with fail
 refine wp_loop_rounds 3 ?_
 rw [rounds_succ]
 go_wp2_with fail
 refine (roomCmp_any ⟨#[98]⟩ ⟨#[98]⟩ _).mono ?_
 rintro e w1 ⟨rfl,hb1⟩
 rw [cmp_bb]
 have hf1:=hf.below hb1
 clear r0 r1 r2 r3 zr
 obtain ⟨r0,r1,r2,r3⟩:=hf1.room
 have zr:=hf1.rooms.lt
 go_wp2_with fail
 rw [rounds_succ]
 go_wp2_with fail
 refine (roomCmp_any ⟨#[97]⟩ ⟨#[98]⟩ _).mono ?_
 rintro e w2 ⟨rfl,hb2⟩
 rw [cmp_ab]
 have hf2:=hf1.below hb2
 clear r0 r1 r2 r3 zr
 obtain ⟨r0,r1,r2,r3⟩:=hf2.room
 have zr:=hf2.rooms.lt
 go_wp2_with fail
 rw [rounds_succ]
 go_wp2_with fail
 refine (roomCmp_any ⟨#[98]⟩ ⟨#[98]⟩ _).mono ?_
 rintro e w3 ⟨rfl,hb3⟩
 rw [cmp_bb]
 go_wp2_with fail
 go_ret2
 exact ⟨rfl,below_up (below_up hb1 hb2) hb3⟩
set_option maxHeartbeats 1000000 in
theorem room_a (M R D : Nat) (w : World) (hm : MapB w M R D) (hf : FM w R D) : Calls Tryz.prog 157 #[.pointer (some ⟨M,0,none⟩),.string ⟨#[97]⟩] w fun e w' => e = .returned (.int .i64 0) ∧ Below w.heap.size w w':=by
 obtain ⟨m0,m1,m2,m3⟩:=hm.cells
 have zm:=hm.lt
 go_enter Tryz.func157,Tryz.ntmps157
 go_wp2_with fail
 refine (search_a R D _ hf).mono ?_
 rintro e w1 ⟨rfl,hb1⟩
 go_wp2_with fail
 go_ret
 exact ⟨rfl,hb1⟩
set_option maxHeartbeats 1000000 in
theorem room_b (M R D : Nat) (w : World) (hm : MapB w M R D) (hf : FM w R D) : Calls Tryz.prog 157 #[.pointer (some ⟨M,0,none⟩),.string ⟨#[98]⟩] w fun e w' => e = .returned (.int .i64 1) ∧ Below w.heap.size w w':=by
 obtain ⟨m0,m1,m2,m3⟩:=hm.cells
 have zm:=hm.lt
 go_enter Tryz.func157,Tryz.ntmps157
 go_wp2_with fail
 refine (search_b R D _ hf).mono ?_
 rintro e w1 ⟨rfl,hb1⟩
 go_wp2_with fail
 go_ret
 exact ⟨rfl,hb1⟩
theorem rising_none (w : World) : Calls Tryz.prog 205 #[.slice none 0 0] w fun e w' => e = .returned (.int .i64 0) ∧ w = w':=by
 go_enter Tryz.func205,Tryz.ntmps205
 go_wp2_with fail
 refine wp_loop_rounds 1 ?_
 rw [rounds_succ]
 go_wp2_with fail
 go_ret
 exact ⟨rfl,rfl⟩
theorem things_none (w : World) : Calls Tryz.prog 188 #[.slice none 0 0] w fun e w' => e = .returned (.int .i64 0) ∧ w = w':=by
 go_enter Tryz.func188,Tryz.ntmps188
 go_wp2_with fail
 refine (rising_none _).mono ?_
 rintro e w1 ⟨rfl,rfl⟩
 go_wp2_with fail
 go_ret
 exact ⟨rfl,rfl⟩

set_option maxHeartbeats 2000000 in
theorem roomsFault_fx (R D : Nat) (w : World) (hf : FM w R D) : Calls Tryz.prog 155 #[.slice (some ⟨R,0,none⟩) 2 2] w fun e w' => e = .returned (.int .i64 0) ∧ Below w.heap.size w w':=by
 obtain ⟨r0,r1,r2,r3⟩:=hf.room
 have zr:=hf.rooms.lt
 have s1 : Op.bytesLess [98] [97] = false:=by decide
 have s2 : Op.bytesLess [97] [98] = true:=by decide
 go_enter Tryz.func155,Tryz.ntmps155
 go_wp2_with fail
 refine wp_loop_rounds 3 ?_
 rw [rounds_succ]
 go_wp2_with fail
 refine (key_ok ⟨#[97]⟩ _ key_a).mono ?_
 rintro e w1 ⟨rfl,rfl⟩
 go_wp2_with fail
 go_quiet (fail)
 go_wp2_with fail
 refine (things_none _).mono ?_
 rintro e w1 ⟨rfl,rfl⟩
 go_wp2_with fail
 rw [rounds_succ]
 go_wp2_with fail
 refine (key_ok ⟨#[98]⟩ _ key_b).mono ?_
 rintro e w1 ⟨rfl,rfl⟩
 go_wp2_with fail
 go_quiet (fail)
 go_wp2_with fail
 refine (things_none _).mono ?_
 rintro e w1 ⟨rfl,rfl⟩
 go_wp2_with fail
 rw [rounds_succ]
 go_wp2_with fail
 go_ret
 exact ⟨rfl,(by repeat (first | exact Below.refl _ _ | refine Below.alloc ?_ (by first | omega | (simp; omega) | simp) _ | refine below_drewN' ?_ _ | refine Below.drew ?_))⟩
end Go.Proofs.YtbfphnknkbhpkaaGreatDoor
