/- Texts of this seat, laid together: VoB VoE. -/
import Derived.Handy
import Derived.Test.YtgeaeockmadhcaaGreatDoorBp15
import Derived.Test.YtgeaeockmadhcaaGreatDoorBp06
import Derived.Test.YtgeaeockmadhcaaGreatDoorBp04
import Derived.Test.YtgeaeockmadhcaaGreatDoorBp01
import Derived.Test.YtgeaeockmadhcaaGreatDoorBp16
import Derived.Test.YtgeaeockmadhcaaGreatDoorBp12
/- The walks of what orders votes and of what tells whether moments and windows are right. -/
namespace Go.Proofs.YtgeaeockmadhcaaGreatDoor
set_option linter.unusedVariables false
set_option linter.unusedSimpArgs false
open Go.RowKit

set_option maxHeartbeats 400000 in
theorem orI_any (A : Option Addr) (c lo : Nat) (l : List Int) (w : World) (hr : Row w lo 1 A l.length (ints l)) (hl : l.length ≤ 1000000000) :
  Calls Tryz.prog 42 #[.slice A l.length c] w fun e w' => e = .returned (.int .i64 (firstE l)) ∧ w = w':=by
 go_enter Tryz.func42,Tryz.ntmps42
 go_wp2_with fail
 go_loop [8] (fun i => ∃ k : Nat,k ≤ l.length ∧ i = .int .i64 k ∧ Hid (∀ y ∈ l.take k,y = 0)) (fun i => l.length - (intOf i).toNat)
 case atStart => exact ⟨0,Nat.zero_le _,rfl,Lib.hid (by simp)⟩
 case round =>
  obtain ⟨k,hk,rfl,hno⟩:=hrel
  by_cases hlt : k < l.length
  ·obtain ⟨b,off,rfl,_,hbs,c0⟩:=hr.int_at hlt
   by_cases he : l[k] = 0
   ·have he' : (l[k] != 0) = false:=by simpa using he
    have HN:=Lib.hid (take_zero_snoc hno.out hlt he)
    clear he
    go_wp2_with fail
    go_round
    case rel => exact ⟨k + 1,by omega,by go_num,HN⟩
    case measure => simp [intOf]; omega
   ·have he' : (l[k] != 0) = true:=by simpa using he
    have HV:=Lib.hid (firstE_hit l k hlt hno.out he)
    clear he
    go_wp2_with fail
    go_ret
    exact ⟨ret_int' HV.out.symm,rfl⟩
  ·have HV : Hid (firstE l = 0):=Lib.hid (firstE_none l (by have:=hno.out; rwa [List.take_of_length_le (by omega)] at this))
   go_wp2_with fail
   go_ret
   exact ⟨ret_int' HV.out.symm,rfl⟩
set_option maxHeartbeats 400000 in
theorem moment_any (n : Int) (w : World) : Calls Tryz.prog 47 #[.int .i64 n] w fun e w' => e = .returned (.bool (!decide (n < 0 ∨ 345686399999 < n))) ∧ w = w':=by
 go_enter Tryz.func47,Tryz.ntmps47
 go_wp2_with fail
 refine (out_any n 0 345686399999 _).mono ?_
 rintro e w1 ⟨rfl,rfl⟩
 go_wp2_with fail
 go_ret
 exact ⟨ret_bool' (by simp [Bool.decide_or]),rfl⟩
set_option maxHeartbeats 400000 in
theorem momentFault_any (n : Int) (w : World) : Calls Tryz.prog 22 #[.int .i64 n] w fun e w' => e = .returned (.int .i64 (if n < 0 ∨ 345686399999 < n then 1 else 0)) ∧ w = w':=by
 obtain ⟨r,hr⟩ : ∃ r : Int,r = if n < 0 ∨ 345686399999 < n then 1 else 0:=⟨_,rfl⟩
 rw [← hr]
 have HR:=Lib.hid hr
 clear hr
 go_enter Tryz.func22,Tryz.ntmps22
 go_wp2_with fail
 refine (span_any n 0 345686399999 _).mono ?_
 rintro e w1 ⟨rfl,rfl⟩
 go_wp2_with fail
 go_ret
 exact ⟨ret_int' (by rw [HR.out]; unfold spanFault; split <;> split <;> first | rfl | omega),rfl⟩
set_option maxHeartbeats 4000000 in
set_option maxRecDepth 100000 in
theorem byVoteD_any (x1 x2 y1 y2 : List UInt8) (x3 x4 y3 y4 : Int) (w : World) :
  Calls Tryz.prog 49 #[.agg #[.string ⟨x1.toArray⟩,.string ⟨x2.toArray⟩,.int .i64 x3,.int .i64 x4],.agg #[.string ⟨y1.toArray⟩,.string ⟨y2.toArray⟩,.int .i64 y3,.int .i64 y4]] w fun e w' => e = .returned (.int .i64 (firstE [Lib.compareBytes x1 y1,cmpI x3 y3,Lib.compareBytes x2 y2])) ∧ Below w.heap.size w w' ∧ w.drawn ≤ w'.drawn:=by
 have hk1 : Blk ((w.alloc (.cells #[.string ⟨x1.toArray⟩,.string ⟨x2.toArray⟩,.int .i64 x3,.int .i64 x4] 37)).alloc (.cells #[.string ⟨y1.toArray⟩,.string ⟨y2.toArray⟩,.int .i64 y3,.int .i64 y4] 37)) w.heap.size 37 #[.string ⟨x1.toArray⟩,.string ⟨x2.toArray⟩,.int .i64 x3,.int .i64 x4]:=(Blk.new _ _ _).alloc _
 have hk2 : Blk ((w.alloc (.cells #[.string ⟨x1.toArray⟩,.string ⟨x2.toArray⟩,.int .i64 x3,.int .i64 x4] 37)).alloc (.cells #[.string ⟨y1.toArray⟩,.string ⟨y2.toArray⟩,.int .i64 y3,.int .i64 y4] 37)) (w.heap.size + 1) 37 #[.string ⟨y1.toArray⟩,.string ⟨y2.toArray⟩,.int .i64 y3,.int .i64 y4]:=Blk.at1 _ (by simp)
 have hx : Below w.heap.size w ((w.alloc (.cells #[.string ⟨x1.toArray⟩,.string ⟨x2.toArray⟩,.int .i64 x3,.int .i64 x4] 37)).alloc (.cells #[.string ⟨y1.toArray⟩,.string ⟨y2.toArray⟩,.int .i64 y3,.int .i64 y4] 37)):=(by repeat (first | exact Below.refl _ _ | refine Below.alloc ?_ (by first | omega | (simp; omega) | simp) _ | refine below_drewN' ?_ _ | refine Below.drew ?_))
 have HDW : Hid (w.drawn ≤ ((w.alloc (.cells #[.string ⟨x1.toArray⟩,.string ⟨x2.toArray⟩,.int .i64 x3,.int .i64 x4] 37)).alloc (.cells #[.string ⟨y1.toArray⟩,.string ⟨y2.toArray⟩,.int .i64 y3,.int .i64 y4] 37)).drawn):=Lib.hid (Nat.le_refl _)
 go_enter Tryz.func49,Tryz.ntmps49
 go_upto_region 1 with (fail)
 generalize ((w.alloc (.cells #[.string ⟨x1.toArray⟩,.string ⟨x2.toArray⟩,.int .i64 x3,.int .i64 x4] 37)).alloc (.cells #[.string ⟨y1.toArray⟩,.string ⟨y2.toArray⟩,.int .i64 y3,.int .i64 y4] 37)) = w2 at *
 have HSC : Hid (∀ W,Below w2.heap.size w2 W → (fun w' : World => w'.cell? ⟨w.heap.size,0,none⟩ = some (.string ⟨x1.toArray⟩) ∧ w'.cell? ⟨w.heap.size,1,none⟩ = some (.string ⟨x2.toArray⟩) ∧ w'.cell? ⟨w.heap.size,2,none⟩ = some (.int .i64 x3) ∧ w'.cell? ⟨w.heap.size + 1,0,none⟩ = some (.string ⟨y1.toArray⟩) ∧ w'.cell? ⟨w.heap.size + 1,1,none⟩ = some (.string ⟨y2.toArray⟩) ∧ w'.cell? ⟨w.heap.size + 1,2,none⟩ = some (.int .i64 y3)) W):=Lib.hid (fun W hW => ⟨(hk1.below hW).cell 0,(hk1.below hW).cell 1,(hk1.below hW).cell 2,(hk2.below hW).cell 0,(hk2.below hW).cell 1,(hk2.below hW).cell 2⟩)
 have HBW : Hid (∀ W,Below w2.heap.size w2 W → Below w.heap.size w W):=Lib.hid (fun W hW => below_up hx hW)
 have hbz : Below w2.heap.size w2 w2.drew:=below_drewN' (Below.refl _ _) 1
 have hsc:=HSC.out _ hbz
 simp only at hsc
 clear hk1 hk2 hx
 refine wp_region_held_drew (S:=(fun w' => w'.cell? ⟨w.heap.size,0,none⟩ = some (.string ⟨x1.toArray⟩) ∧ w'.cell? ⟨w.heap.size,1,none⟩ = some (.string ⟨x2.toArray⟩) ∧ w'.cell? ⟨w.heap.size,2,none⟩ = some (.int .i64 x3) ∧ w'.cell? ⟨w.heap.size + 1,0,none⟩ = some (.string ⟨y1.toArray⟩) ∧ w'.cell? ⟨w.heap.size + 1,1,none⟩ = some (.string ⟨y2.toArray⟩) ∧ w'.cell? ⟨w.heap.size + 1,2,none⟩ = some (.int .i64 y3))) (by kernel_rfl) (hsc) (fun hHeld => ?_)
 (refine wpAnyH_take (i:=0) (v:=?_) (by (simp only [Q0,Q2]; rfl)) (by kernel_rfl) (by kernel_rfl) (by kernel_rfl) (by exact fun _ _ _ h => h) (Or.inl ⟨by rfl,?_⟩) (by assumption) ?_; (rotate_left 1; (intro w hSw; (try dsimp only at hSw); go_simp); (try with_reducible rfl)); (try simp only [Act.put,Q3,Q4,Q5]))
 (refine wpAnyH_take (i:=1) (v:=?_) (by (simp only [Q0,Q1,Q2]; rfl)) (by kernel_rfl) (by kernel_rfl) (by kernel_rfl) (by exact fun _ _ _ h => h) (Or.inl ⟨by rfl,?_⟩) (by assumption) ?_; (rotate_left 1; (intro w hSw; (try dsimp only at hSw); go_simp); (try with_reducible rfl)); (try simp only [Act.put,Q3,Q4,Q5]))
 (refine wpAnyH_take (i:=2) (v:=?_) (by (simp only [Q0,Q1,Q2]; rfl)) (by kernel_rfl) (by kernel_rfl) (by kernel_rfl) (by exact fun _ _ _ h => h) (Or.inl ⟨by rfl,?_⟩) (by assumption) ?_; (rotate_left 1; (intro w hSw; (try dsimp only at hSw); go_simp); (try with_reducible rfl)); (try simp only [Act.put,Q3,Q4,Q5]))
 (refine wpAnyH_take (i:=3) (v:=?_) (by (simp only [Q0,Q1,Q2]; rfl)) (by kernel_rfl) (by kernel_rfl) (by kernel_rfl) (by exact fun _ _ _ h => h) (Or.inl ⟨by rfl,?_⟩) (by assumption) ?_; (rotate_left 1; (intro w hSw; (try dsimp only at hSw); go_simp); (try with_reducible rfl)); (try simp only [Act.put,Q3,Q4,Q5]))
 (refine wpAnyH_take (i:=5) (v:=?_) (by (simp only [Q0,Q1,Q2]; rfl)) (by kernel_rfl) (by kernel_rfl) (by kernel_rfl) (by exact fun _ _ _ h => h) (Or.inl ⟨by rfl,?_⟩) (by assumption) ?_; (rotate_left 1; (intro w hSw; (try dsimp only at hSw); go_simp); (try with_reducible rfl)); (try simp only [Act.put,Q3,Q4,Q5]))
 (refine wpAnyH_take (i:=6) (v:=?_) (by (simp only [Q0,Q1,Q2]; rfl)) (by kernel_rfl) (by kernel_rfl) (by kernel_rfl) (by exact fun _ _ _ h => h) (Or.inl ⟨by rfl,?_⟩) (by assumption) ?_; (rotate_left 1; (intro w hSw; (try dsimp only at hSw); go_simp); (try with_reducible rfl)); (try simp only [Act.put,Q3,Q4,Q5]))
 (refine wpAnyH_take (i:=7) (v:=?_) (by (simp only [Q0,Q1,Q2]; rfl)) (by kernel_rfl) (by kernel_rfl) (by kernel_rfl) (by exact fun _ _ _ h => h) (Or.inl ⟨by rfl,?_⟩) (by assumption) ?_; (rotate_left 1; (intro w hSw; (try dsimp only at hSw); go_simp); (try with_reducible rfl)); (try simp only [Act.put,Q3,Q4,Q5]))
 (refine wpAnyH_take (i:=8) (v:=?_) (by (simp only [Q0,Q1,Q2]; rfl)) (by kernel_rfl) (by kernel_rfl) (by kernel_rfl) (by exact fun _ _ _ h => h) (Or.inl ⟨by rfl,?_⟩) (by assumption) ?_; (rotate_left 1; (intro w hSw; (try dsimp only at hSw); go_simp); (try with_reducible rfl)); (try simp only [Act.put,Q3,Q4,Q5]))
 (refine wpAnyH_take (i:=10) (v:=?_) (by (simp only [Q0,Q1,Q2]; rfl)) (by kernel_rfl) (by kernel_rfl) (by kernel_rfl) (by exact fun _ _ _ h => h) (Or.inl ⟨by rfl,?_⟩) (by assumption) ?_; (rotate_left 1; (intro w hSw; (try dsimp only at hSw); go_simp); (try with_reducible rfl)); (try simp only [Act.put,Q3,Q4,Q5]))
 (refine wpAnyH_take (i:=11) (v:=?_) (by (simp only [Q0,Q1,Q2]; rfl)) (by kernel_rfl) (by kernel_rfl) (by kernel_rfl) (by exact fun _ _ _ h => h) (Or.inl ⟨by rfl,?_⟩) (by assumption) ?_; (rotate_left 1; (intro w hSw; (try dsimp only at hSw); go_simp); (try with_reducible rfl)); (try simp only [Act.put,Q3,Q4,Q5]))
 (refine wpAnyH_take (i:=12) (v:=?_) (by (simp only [Q0,Q1,Q2]; rfl)) (by kernel_rfl) (by kernel_rfl) (by kernel_rfl) (by exact fun _ _ _ h => h) (Or.inl ⟨by rfl,?_⟩) (by assumption) ?_; (rotate_left 1; (intro w hSw; (try dsimp only at hSw); go_simp); (try with_reducible rfl)); (try simp only [Act.put,Q3,Q4,Q5]))
 (refine wpAnyH_take (i:=13) (v:=?_) (by (simp only [Q0,Q1,Q2]; rfl)) (by kernel_rfl) (by kernel_rfl) (by kernel_rfl) (by exact fun _ _ _ h => h) (Or.inl ⟨by rfl,?_⟩) (by assumption) ?_; (rotate_left 1; (intro w hSw; (try dsimp only at hSw); go_simp); (try with_reducible rfl)); (try simp only [Act.put,Q3,Q4,Q5]))
 refine wpAnyH_ready (rs:=[4]) (by kernel_rfl) (by simp) ?_
 refine AllReadyH.cons rfl (fun K hK => ?_) AllReadyH.nil
 go_simp
 go_at_call 43
 refine (Tryz.strings_Compare ⟨x1.toArray⟩ ⟨y1.toArray⟩ _).mono ?_
 rintro e wa ⟨rfl,rfl⟩
 go_wp2_with fail
 refine hK.out _ _ (hsc) (fun hHeld => ?_)
 clear hK K
 (try simp only [Act.put,Q3,Q4,Q5])
 refine wpAnyH_ready (rs:=[9]) (by kernel_rfl) (by simp) ?_
 refine AllReadyH.cons rfl (fun K hK => ?_) AllReadyH.nil
 go_simp
 go_at_call 44
 refine (cmpInt_any x3 y3 _).mono ?_
 rintro e wb ⟨rfl,rfl⟩
 go_wp2_with fail
 refine hK.out _ _ (hsc) (fun hHeld => ?_)
 clear hK K
 (try simp only [Act.put,Q3,Q4,Q5])
 refine wpAnyH_ready (rs:=[14]) (by kernel_rfl) (by simp) ?_
 refine AllReadyH.cons rfl (fun K hK => ?_) AllReadyH.nil
 go_simp
 go_at_call 43
 refine (Tryz.strings_Compare ⟨x2.toArray⟩ ⟨y2.toArray⟩ _).mono ?_
 rintro e wd ⟨rfl,rfl⟩
 go_wp2_with fail
 refine hK.out _ _ (hsc) (fun hHeld => ?_)
 clear hK K
 (try simp only [Act.put,Q3,Q4,Q5])
 refine wpAnyH_ready (rs:=[15]) (by kernel_rfl) (by simp) ?_
 refine AllReadyH.cons rfl (fun K hK => ?_) AllReadyH.nil
 go_simp
 replace hbz:=hbz.alloc hbz.size (.cells #[.int .i64 (Lib.compareBytes x1 y1),.int .i64 (cmpI x3 y3),.int .i64 (Lib.compareBytes x2 y2)] 3)
 have hro:=row_new w2.drew #[.int .i64 (Lib.compareBytes x1 y1),.int .i64 (cmpI x3 y3),.int .i64 (Lib.compareBytes x2 y2)] 3 0 1 3 (Nat.zero_le _) rfl
 have hsc:=(HSC.out _ hbz)
 try simp only at hsc
 refine hK.out _ _ (hsc) (fun hHeld => ?_)
 clear hK K
 (try simp only [Act.put,Q3,Q4,Q5])
 refine wpAnyH_ready (rs:=[16]) (by kernel_rfl) (by simp) ?_
 refine AllReadyH.cons rfl (fun K hK => ?_) AllReadyH.nil
 go_simp
 go_at_call 42
 refine (orI_any _ 3 0 [Lib.compareBytes x1 y1,cmpI x3 y3,Lib.compareBytes x2 y2] _ hro (by simp)).mono ?_
 rintro e we ⟨rfl,rfl⟩
 go_wp2_with fail
 refine hK.out _ _ (hsc) (fun hHeld => ?_)
 clear hK K
 (try simp only [Act.put,Q3,Q4,Q5])
 (refine wpAnyH_take (i:=17) (v:=?_) (by (simp only [Q0,Q1,Q2]; rfl)) (by kernel_rfl) (by kernel_rfl) (by kernel_rfl) (by exact fun _ _ _ h => h) (Or.inl ⟨by rfl,?_⟩) (by assumption) ?_; (rotate_left 1; (intro w hSw; (try dsimp only at hSw); go_simp); (try with_reducible rfl)); (try simp only [Act.put,Q3,Q4,Q5]))
 refine wpAnyH_done (by kernel_rfl) ?_ _
 go_wp2_with fail
 go_ret
 exact ⟨rfl,HBW.out _ hbz,Nat.le_trans HDW.out (Nat.le_succ _)⟩
theorem byVote_any (x1 x2 y1 y2 : List UInt8) (x3 x4 y3 y4 : Int) (w : World) :
  Calls Tryz.prog 49 #[.agg #[.string ⟨x1.toArray⟩,.string ⟨x2.toArray⟩,.int .i64 x3,.int .i64 x4],.agg #[.string ⟨y1.toArray⟩,.string ⟨y2.toArray⟩,.int .i64 y3,.int .i64 y4]] w fun e w' => e = .returned (.int .i64 (firstE [Lib.compareBytes x1 y1,cmpI x3 y3,Lib.compareBytes x2 y2])) ∧ Below w.heap.size w w':=(byVoteD_any x1 x2 y1 y2 x3 x4 y3 y4 w).mono (fun _ _ h => ⟨h.1,h.2.1⟩)
set_option maxHeartbeats 4000000 in
set_option maxRecDepth 100000 in
theorem rbyVoteD_any (x1 x2 y1 y2 : List UInt8) (x3 x4 y3 y4 : Int) (w : World) :
  Calls Tryz.prog 41 #[.agg #[.string ⟨x1.toArray⟩,.string ⟨x2.toArray⟩,.int .i64 x3,.int .i64 x4],.agg #[.string ⟨y1.toArray⟩,.string ⟨y2.toArray⟩,.int .i64 y3,.int .i64 y4]] w fun e w' => e = .returned (.int .i64 (firstE [Lib.compareBytes x1 y1,cmpI x3 y3,Lib.compareBytes x2 y2])) ∧ Below w.heap.size w w' ∧ w.drawn ≤ w'.drawn:=by
 have hk1 : Blk ((w.alloc (.cells #[.string ⟨x1.toArray⟩,.string ⟨x2.toArray⟩,.int .i64 x3,.int .i64 x4] 37)).alloc (.cells #[.string ⟨y1.toArray⟩,.string ⟨y2.toArray⟩,.int .i64 y3,.int .i64 y4] 37)) w.heap.size 37 #[.string ⟨x1.toArray⟩,.string ⟨x2.toArray⟩,.int .i64 x3,.int .i64 x4]:=(Blk.new _ _ _).alloc _
 have hk2 : Blk ((w.alloc (.cells #[.string ⟨x1.toArray⟩,.string ⟨x2.toArray⟩,.int .i64 x3,.int .i64 x4] 37)).alloc (.cells #[.string ⟨y1.toArray⟩,.string ⟨y2.toArray⟩,.int .i64 y3,.int .i64 y4] 37)) (w.heap.size + 1) 37 #[.string ⟨y1.toArray⟩,.string ⟨y2.toArray⟩,.int .i64 y3,.int .i64 y4]:=Blk.at1 _ (by simp)
 have hx : Below w.heap.size w ((w.alloc (.cells #[.string ⟨x1.toArray⟩,.string ⟨x2.toArray⟩,.int .i64 x3,.int .i64 x4] 37)).alloc (.cells #[.string ⟨y1.toArray⟩,.string ⟨y2.toArray⟩,.int .i64 y3,.int .i64 y4] 37)):=(by repeat (first | exact Below.refl _ _ | refine Below.alloc ?_ (by first | omega | (simp; omega) | simp) _ | refine below_drewN' ?_ _ | refine Below.drew ?_))
 have HDW : Hid (w.drawn ≤ ((w.alloc (.cells #[.string ⟨x1.toArray⟩,.string ⟨x2.toArray⟩,.int .i64 x3,.int .i64 x4] 37)).alloc (.cells #[.string ⟨y1.toArray⟩,.string ⟨y2.toArray⟩,.int .i64 y3,.int .i64 y4] 37)).drawn):=Lib.hid (Nat.le_refl _)
 go_enter Tryz.func41,Tryz.ntmps41
 go_upto_region 1 with (fail)
 generalize ((w.alloc (.cells #[.string ⟨x1.toArray⟩,.string ⟨x2.toArray⟩,.int .i64 x3,.int .i64 x4] 37)).alloc (.cells #[.string ⟨y1.toArray⟩,.string ⟨y2.toArray⟩,.int .i64 y3,.int .i64 y4] 37)) = w2 at *
 have HSC : Hid (∀ W,Below w2.heap.size w2 W → (fun w' : World => w'.cell? ⟨w.heap.size,0,none⟩ = some (.string ⟨x1.toArray⟩) ∧ w'.cell? ⟨w.heap.size,1,none⟩ = some (.string ⟨x2.toArray⟩) ∧ w'.cell? ⟨w.heap.size,2,none⟩ = some (.int .i64 x3) ∧ w'.cell? ⟨w.heap.size + 1,0,none⟩ = some (.string ⟨y1.toArray⟩) ∧ w'.cell? ⟨w.heap.size + 1,1,none⟩ = some (.string ⟨y2.toArray⟩) ∧ w'.cell? ⟨w.heap.size + 1,2,none⟩ = some (.int .i64 y3)) W):=Lib.hid (fun W hW => ⟨(hk1.below hW).cell 0,(hk1.below hW).cell 1,(hk1.below hW).cell 2,(hk2.below hW).cell 0,(hk2.below hW).cell 1,(hk2.below hW).cell 2⟩)
 have HBW : Hid (∀ W,Below w2.heap.size w2 W → Below w.heap.size w W):=Lib.hid (fun W hW => below_up hx hW)
 have hbz : Below w2.heap.size w2 w2.drew:=below_drewN' (Below.refl _ _) 1
 have hsc:=HSC.out _ hbz
 simp only at hsc
 clear hk1 hk2 hx
 refine wp_region_held_drew (S:=(fun w' => w'.cell? ⟨w.heap.size,0,none⟩ = some (.string ⟨x1.toArray⟩) ∧ w'.cell? ⟨w.heap.size,1,none⟩ = some (.string ⟨x2.toArray⟩) ∧ w'.cell? ⟨w.heap.size,2,none⟩ = some (.int .i64 x3) ∧ w'.cell? ⟨w.heap.size + 1,0,none⟩ = some (.string ⟨y1.toArray⟩) ∧ w'.cell? ⟨w.heap.size + 1,1,none⟩ = some (.string ⟨y2.toArray⟩) ∧ w'.cell? ⟨w.heap.size + 1,2,none⟩ = some (.int .i64 y3))) (by kernel_rfl) (hsc) (fun hHeld => ?_)
 (refine wpAnyH_take (i:=0) (v:=?_) (by (simp only [Q0,Q2]; rfl)) (by kernel_rfl) (by kernel_rfl) (by kernel_rfl) (by exact fun _ _ _ h => h) (Or.inl ⟨by rfl,?_⟩) (by assumption) ?_; (rotate_left 1; (intro w hSw; (try dsimp only at hSw); go_simp); (try with_reducible rfl)); (try simp only [Act.put,Q3,Q4,Q5]))
 (refine wpAnyH_take (i:=1) (v:=?_) (by (simp only [Q0,Q1,Q2]; rfl)) (by kernel_rfl) (by kernel_rfl) (by kernel_rfl) (by exact fun _ _ _ h => h) (Or.inl ⟨by rfl,?_⟩) (by assumption) ?_; (rotate_left 1; (intro w hSw; (try dsimp only at hSw); go_simp); (try with_reducible rfl)); (try simp only [Act.put,Q3,Q4,Q5]))
 (refine wpAnyH_take (i:=2) (v:=?_) (by (simp only [Q0,Q1,Q2]; rfl)) (by kernel_rfl) (by kernel_rfl) (by kernel_rfl) (by exact fun _ _ _ h => h) (Or.inl ⟨by rfl,?_⟩) (by assumption) ?_; (rotate_left 1; (intro w hSw; (try dsimp only at hSw); go_simp); (try with_reducible rfl)); (try simp only [Act.put,Q3,Q4,Q5]))
 (refine wpAnyH_take (i:=3) (v:=?_) (by (simp only [Q0,Q1,Q2]; rfl)) (by kernel_rfl) (by kernel_rfl) (by kernel_rfl) (by exact fun _ _ _ h => h) (Or.inl ⟨by rfl,?_⟩) (by assumption) ?_; (rotate_left 1; (intro w hSw; (try dsimp only at hSw); go_simp); (try with_reducible rfl)); (try simp only [Act.put,Q3,Q4,Q5]))
 (refine wpAnyH_take (i:=5) (v:=?_) (by (simp only [Q0,Q1,Q2]; rfl)) (by kernel_rfl) (by kernel_rfl) (by kernel_rfl) (by exact fun _ _ _ h => h) (Or.inl ⟨by rfl,?_⟩) (by assumption) ?_; (rotate_left 1; (intro w hSw; (try dsimp only at hSw); go_simp); (try with_reducible rfl)); (try simp only [Act.put,Q3,Q4,Q5]))
 (refine wpAnyH_take (i:=6) (v:=?_) (by (simp only [Q0,Q1,Q2]; rfl)) (by kernel_rfl) (by kernel_rfl) (by kernel_rfl) (by exact fun _ _ _ h => h) (Or.inl ⟨by rfl,?_⟩) (by assumption) ?_; (rotate_left 1; (intro w hSw; (try dsimp only at hSw); go_simp); (try with_reducible rfl)); (try simp only [Act.put,Q3,Q4,Q5]))
 (refine wpAnyH_take (i:=7) (v:=?_) (by (simp only [Q0,Q1,Q2]; rfl)) (by kernel_rfl) (by kernel_rfl) (by kernel_rfl) (by exact fun _ _ _ h => h) (Or.inl ⟨by rfl,?_⟩) (by assumption) ?_; (rotate_left 1; (intro w hSw; (try dsimp only at hSw); go_simp); (try with_reducible rfl)); (try simp only [Act.put,Q3,Q4,Q5]))
 (refine wpAnyH_take (i:=8) (v:=?_) (by (simp only [Q0,Q1,Q2]; rfl)) (by kernel_rfl) (by kernel_rfl) (by kernel_rfl) (by exact fun _ _ _ h => h) (Or.inl ⟨by rfl,?_⟩) (by assumption) ?_; (rotate_left 1; (intro w hSw; (try dsimp only at hSw); go_simp); (try with_reducible rfl)); (try simp only [Act.put,Q3,Q4,Q5]))
 (refine wpAnyH_take (i:=10) (v:=?_) (by (simp only [Q0,Q1,Q2]; rfl)) (by kernel_rfl) (by kernel_rfl) (by kernel_rfl) (by exact fun _ _ _ h => h) (Or.inl ⟨by rfl,?_⟩) (by assumption) ?_; (rotate_left 1; (intro w hSw; (try dsimp only at hSw); go_simp); (try with_reducible rfl)); (try simp only [Act.put,Q3,Q4,Q5]))
 (refine wpAnyH_take (i:=11) (v:=?_) (by (simp only [Q0,Q1,Q2]; rfl)) (by kernel_rfl) (by kernel_rfl) (by kernel_rfl) (by exact fun _ _ _ h => h) (Or.inl ⟨by rfl,?_⟩) (by assumption) ?_; (rotate_left 1; (intro w hSw; (try dsimp only at hSw); go_simp); (try with_reducible rfl)); (try simp only [Act.put,Q3,Q4,Q5]))
 (refine wpAnyH_take (i:=12) (v:=?_) (by (simp only [Q0,Q1,Q2]; rfl)) (by kernel_rfl) (by kernel_rfl) (by kernel_rfl) (by exact fun _ _ _ h => h) (Or.inl ⟨by rfl,?_⟩) (by assumption) ?_; (rotate_left 1; (intro w hSw; (try dsimp only at hSw); go_simp); (try with_reducible rfl)); (try simp only [Act.put,Q3,Q4,Q5]))
 (refine wpAnyH_take (i:=13) (v:=?_) (by (simp only [Q0,Q1,Q2]; rfl)) (by kernel_rfl) (by kernel_rfl) (by kernel_rfl) (by exact fun _ _ _ h => h) (Or.inl ⟨by rfl,?_⟩) (by assumption) ?_; (rotate_left 1; (intro w hSw; (try dsimp only at hSw); go_simp); (try with_reducible rfl)); (try simp only [Act.put,Q3,Q4,Q5]))
 refine wpAnyH_ready (rs:=[4]) (by kernel_rfl) (by simp) ?_
 refine AllReadyH.cons rfl (fun K hK => ?_) AllReadyH.nil
 go_simp
 go_at_call 43
 refine (Tryz.strings_Compare ⟨x1.toArray⟩ ⟨y1.toArray⟩ _).mono ?_
 rintro e wa ⟨rfl,rfl⟩
 go_wp2_with fail
 refine hK.out _ _ (hsc) (fun hHeld => ?_)
 clear hK K
 (try simp only [Act.put,Q3,Q4,Q5])
 refine wpAnyH_ready (rs:=[9]) (by kernel_rfl) (by simp) ?_
 refine AllReadyH.cons rfl (fun K hK => ?_) AllReadyH.nil
 go_simp
 go_at_call 44
 refine (cmpInt_any x3 y3 _).mono ?_
 rintro e wb ⟨rfl,rfl⟩
 go_wp2_with fail
 refine hK.out _ _ (hsc) (fun hHeld => ?_)
 clear hK K
 (try simp only [Act.put,Q3,Q4,Q5])
 refine wpAnyH_ready (rs:=[14]) (by kernel_rfl) (by simp) ?_
 refine AllReadyH.cons rfl (fun K hK => ?_) AllReadyH.nil
 go_simp
 go_at_call 43
 refine (Tryz.strings_Compare ⟨x2.toArray⟩ ⟨y2.toArray⟩ _).mono ?_
 rintro e wd ⟨rfl,rfl⟩
 go_wp2_with fail
 refine hK.out _ _ (hsc) (fun hHeld => ?_)
 clear hK K
 (try simp only [Act.put,Q3,Q4,Q5])
 refine wpAnyH_ready (rs:=[15]) (by kernel_rfl) (by simp) ?_
 refine AllReadyH.cons rfl (fun K hK => ?_) AllReadyH.nil
 go_simp
 replace hbz:=hbz.alloc hbz.size (.cells #[.int .i64 (Lib.compareBytes x1 y1),.int .i64 (cmpI x3 y3),.int .i64 (Lib.compareBytes x2 y2)] 3)
 have hro:=row_new w2.drew #[.int .i64 (Lib.compareBytes x1 y1),.int .i64 (cmpI x3 y3),.int .i64 (Lib.compareBytes x2 y2)] 3 0 1 3 (Nat.zero_le _) rfl
 have hsc:=(HSC.out _ hbz)
 try simp only at hsc
 refine hK.out _ _ (hsc) (fun hHeld => ?_)
 clear hK K
 (try simp only [Act.put,Q3,Q4,Q5])
 refine wpAnyH_ready (rs:=[16]) (by kernel_rfl) (by simp) ?_
 refine AllReadyH.cons rfl (fun K hK => ?_) AllReadyH.nil
 go_simp
 go_at_call 42
 refine (orI_any _ 3 0 [Lib.compareBytes x1 y1,cmpI x3 y3,Lib.compareBytes x2 y2] _ hro (by simp)).mono ?_
 rintro e we ⟨rfl,rfl⟩
 go_wp2_with fail
 refine hK.out _ _ (hsc) (fun hHeld => ?_)
 clear hK K
 (try simp only [Act.put,Q3,Q4,Q5])
 (refine wpAnyH_take (i:=17) (v:=?_) (by (simp only [Q0,Q1,Q2]; rfl)) (by kernel_rfl) (by kernel_rfl) (by kernel_rfl) (by exact fun _ _ _ h => h) (Or.inl ⟨by rfl,?_⟩) (by assumption) ?_; (rotate_left 1; (intro w hSw; (try dsimp only at hSw); go_simp); (try with_reducible rfl)); (try simp only [Act.put,Q3,Q4,Q5]))
 refine wpAnyH_done (by kernel_rfl) ?_ _
 go_wp2_with fail
 go_ret
 exact ⟨rfl,HBW.out _ hbz,Nat.le_trans HDW.out (Nat.le_succ _)⟩
theorem rbyVote_any (x1 x2 y1 y2 : List UInt8) (x3 x4 y3 y4 : Int) (w : World) :
  Calls Tryz.prog 41 #[.agg #[.string ⟨x1.toArray⟩,.string ⟨x2.toArray⟩,.int .i64 x3,.int .i64 x4],.agg #[.string ⟨y1.toArray⟩,.string ⟨y2.toArray⟩,.int .i64 y3,.int .i64 y4]] w fun e w' => e = .returned (.int .i64 (firstE [Lib.compareBytes x1 y1,cmpI x3 y3,Lib.compareBytes x2 y2])) ∧ Below w.heap.size w w':=(rbyVoteD_any x1 x2 y1 y2 x3 x4 y3 y4 w).mono (fun _ _ h => ⟨h.1,h.2.1⟩)
end Go.Proofs.YtgeaeockmadhcaaGreatDoor
/- The walks of weight and decided. -/
namespace Go.Proofs.YtgeaeockmadhcaaGreatDoor
set_option linter.unusedVariables false
set_option linter.unusedSimpArgs false
open Go.RowKit

def inJ (who : List UInt8) (t : Int) (x : JudgeE) : Bool:=x.who == who && decide (x.frm ≤ t) && decide (t < x.to_)
theorem weightF_hit {js : List JudgeE} {who : List UInt8} {t : Int} {k : Nat} (hk : k < js.length) (h0 : ∀ i (h : i < js.length),i < k → inJ who t js[i] = false) (h : inJ who t js[k] = true) : weightF js who t = js[k].wt:=by
 unfold weightF
 have e : js.find? (fun x => x.who == who && decide (x.frm ≤ t) && decide (t < x.to_)) = some js[k]:=by
  rw [List.find?_eq_some_iff_getElem]
  refine ⟨h,k,hk,rfl,fun i hi => ?_⟩
  have:=h0 i (by omega) hi
  unfold inJ at this
  rw [this]; rfl
 rw [e]
theorem weightF_none {js : List JudgeE} {who : List UInt8} {t : Int} (h0 : ∀ i (h : i < js.length),inJ who t js[i] = false) : weightF js who t = 0:=by
 unfold weightF
 have e : js.find? (fun x => x.who == who && decide (x.frm ≤ t) && decide (t < x.to_)) = none:=by
  rw [List.find?_eq_none]
  intro x hx
  obtain ⟨i,hi,rfl⟩:=List.mem_iff_getElem.1 hx
  have:=h0 i hi
  unfold inJ at this
  rw [this]; simp
 rw [e]
theorem all_nextJ {js : List JudgeE} {who : List UInt8} {t : Int} {k : Nat} (h0 : ∀ i (h : i < js.length),i < k → inJ who t js[i] = false) (hk : k < js.length) (h : inJ who t js[k] = false) : ∀ i (h : i < js.length),i < k + 1 → inJ who t js[i] = false:=fun i hi hik => by
 by_cases h1 : i < k
 ·exact h0 i hi h1
 ·obtain rfl : i = k:=by omega
  exact h
theorem weightF_bd {js : List JudgeE} (h : ∀ j ∈ js,0 ≤ j.wt ∧ j.wt ≤ 1000) (who : List UInt8) (t : Int) : 0 ≤ weightF js who t ∧ weightF js who t ≤ 1000:=by
 unfold weightF
 cases e : js.find? fun x => x.who == who && decide (x.frm ≤ t) && decide (t < x.to_) with
 | none => simp
 | some x => exact h x (List.mem_of_find?_eq_some e)
set_option maxHeartbeats 2000000 in
theorem weight_any (lo c : Nat) (A : Option Addr) (js : List JudgeE) (who : List UInt8) (t : Int) (w : World) (hA : Row w lo 4 A js.length (js.flatMap encJ)) (hl : js.length ≤ 1000000) :
  Calls Tryz.prog 81 #[.slice A js.length c,.string ⟨who.toArray⟩,.int .i64 t] w fun e w' => e = .returned (.int .i64 (weightF js who t)) ∧ Below w.heap.size w w':=by
 have HA:=Lib.hid hA
 clear hA
 go_enter Tryz.func81,Tryz.ntmps81
 go_wp2_with fail
 go_loopw [11] (fun i wr => ∃ k : Nat,k ≤ js.length ∧ i = .int .i64 k ∧ Hid (∀ i (h : i < js.length),i < k → inJ who t js[i] = false) ∧ Below w.heap.size w wr) (fun i _ => js.length - (intOf i).toNat)
 case atStart => exact ⟨0,Nat.zero_le _,rfl,Lib.hid (fun i h hi => by omega),Below.refl _ _⟩
 case round =>
  obtain ⟨k,hk,rfl,HZ,hbw⟩:=hrel
  have hsz:=hbw.size
  by_cases hkn : k < js.length
  ·obtain ⟨b,off,rfl,hbs,-,hcell⟩:=judges_at (HA.out.below hbw) (by omega)
   obtain ⟨y0,y1,y2,y3⟩:=hcell k hkn
   have HHIT:=Lib.hid (fun h => weightF_hit (t:=t) (who:=who) hkn HZ.out h)
   have HNX:=Lib.hid (fun h => all_nextJ (t:=t) (who:=who) HZ.out hkn h)
   clear hcell
   generalize js[k] = j at *
   by_cases h1 : j.who = who
   ·have d1 : (j.who == who) = true:=by simpa using h1
    by_cases h2 : j.frm ≤ t
    ·have d2 : decide (j.frm ≤ t) = true:=decide_eq_true h2
     by_cases h3 : t < j.to_
     ·have d3 : decide (t < j.to_) = true:=decide_eq_true h3
      have HV:=Lib.hid (HHIT.out (by unfold inJ; rw [d1,d2,d3]; rfl))
      clear h1 h2 h3
      go_wp2_with fail
      go_ret
      exact ⟨ret_int' HV.out.symm,(by repeat (first | exact hbw | refine Below.alloc ?_ (by first | omega | (simp; omega) | simp) _ | refine below_drewN' ?_ _ | refine Below.drew ?_))⟩
     ·have d3 : decide (t < j.to_) = false:=decide_eq_false h3
      have HN:=Lib.hid (HNX.out (by unfold inJ; rw [d1,d2,d3]; rfl))
      clear h1 h2 h3
      go_wp2_with fail
      go_roundw
      case rel => exact ⟨k + 1,by omega,by go_num,HN,(by repeat (first | exact hbw | refine Below.alloc ?_ (by first | omega | (simp; omega) | simp) _ | refine below_drewN' ?_ _ | refine Below.drew ?_))⟩
      case measure => simp [intOf]; omega
    ·have d2 : decide (j.frm ≤ t) = false:=decide_eq_false h2
     have HN:=Lib.hid (HNX.out (by unfold inJ; rw [d1,d2]; rfl))
     clear h1 h2
     go_wp2_with fail
     go_roundw
     case rel => exact ⟨k + 1,by omega,by go_num,HN,(by repeat (first | exact hbw | refine Below.alloc ?_ (by first | omega | (simp; omega) | simp) _ | refine below_drewN' ?_ _ | refine Below.drew ?_))⟩
     case measure => simp [intOf]; omega
   ·have d1 : (j.who == who) = false:=by simpa using h1
    have HN:=Lib.hid (HNX.out (by unfold inJ; rw [d1]; rfl))
    clear h1
    go_wp2_with fail
    go_roundw
    case rel => exact ⟨k + 1,by omega,by go_num,HN,(by repeat (first | exact hbw | refine Below.alloc ?_ (by first | omega | (simp; omega) | simp) _ | refine below_drewN' ?_ _ | refine Below.drew ?_))⟩
    case measure => simp [intOf]; omega
  ·have HV:=Lib.hid (weightF_none (t:=t) (who:=who) (fun i h => HZ.out i h (by omega)))
   go_wp2_with fail
   go_ret
   exact ⟨ret_int' HV.out.symm,hbw⟩
theorem mul_small {a b : Int} (h0 : 0 ≤ a) (h1 : a ≤ 1000000000) (h2 : 0 ≤ b) (h3 : b ≤ 1000) : 0 ≤ a * b ∧ a * b ≤ 1000000000000:=by
 refine ⟨Int.mul_nonneg h0 h2,?_⟩
 have h4 : a * b ≤ 1000000000 * 1000:=Int.mul_le_mul h1 h3 h2 (by decide)
 omega
set_option maxHeartbeats 1000000 in
theorem decided_any (q : QuoE) (yes no : Int) (w : World) (hn : 0 ≤ q.num ∧ q.num ≤ 1000) (hd : 0 ≤ q.den ∧ q.den ≤ 1000) (hy : 0 ≤ yes ∧ yes ≤ 100000000) (hno : 0 ≤ no ∧ no ≤ 100000000) :
  Calls Tryz.prog 64 #[quoV q,.int .i64 yes,.int .i64 no] w fun e w' => e = .returned (.int .i64 (decF q yes no)) ∧ Below w.heap.size w w':=by
 obtain ⟨m1,m2⟩:=mul_small (a:=yes) (b:=q.den) (by omega) (by omega) hd.1 hd.2
 obtain ⟨m3,m4⟩:=mul_small (a:=yes + no) (b:=q.num) (by omega) (by omega) hn.1 hn.2
 rw [Int.mul_comm] at m3 m4
 have s1 : IntKind.i64.wrap (yes + no) = yes + no:=IntWalk.i64_in _ ⟨by omega,by omega⟩
 have s2 : IntKind.i64.wrap (yes * q.den) = yes * q.den:=IntWalk.i64_in _ ⟨by omega,by omega⟩
 have s3 : IntKind.i64.wrap (q.num * (yes + no)) = q.num * (yes + no):=IntWalk.i64_in _ ⟨by omega,by omega⟩
 have HB : Hid (Below w.heap.size w (w.alloc (.cells #[.int .i64 q.least,.int .i64 q.num,.int .i64 q.den] 33))):=Lib.hid ((Below.refl _ _).alloc (Nat.le_refl _) _)
 unfold quoV
 by_cases h1 : yes + no < q.least
 ·have d1 : decide (yes + no < q.least) = true:=decide_eq_true h1
  have HV : Hid (decF q yes no = 0):=Lib.hid (by unfold decF; rw [if_pos h1])
  clear h1 m1 m2 m3 m4
  go_enter Tryz.func64,Tryz.ntmps64
  go_wp2_with fail
  go_ret
  exact ⟨ret_int' HV.out.symm,HB.out⟩
 ·have d1 : decide (yes + no < q.least) = false:=decide_eq_false h1
  by_cases h2 : q.num * (yes + no) ≤ yes * q.den
  ·have d2 : decide (q.num * (yes + no) ≤ yes * q.den) = true:=decide_eq_true h2
   have HV : Hid (decF q yes no = 1):=Lib.hid (by unfold decF; rw [if_neg h1,if_pos h2])
   clear h1 h2 m1 m2 m3 m4
   go_enter Tryz.func64,Tryz.ntmps64
   go_wp2_with fail
   go_ret
   exact ⟨ret_int' HV.out.symm,HB.out⟩
  ·have d2 : decide (q.num * (yes + no) ≤ yes * q.den) = false:=decide_eq_false h2
   have HV : Hid (decF q yes no = 2):=Lib.hid (by unfold decF; rw [if_neg h1,if_neg h2])
   clear h1 h2 m1 m2 m3 m4
   go_enter Tryz.func64,Tryz.ntmps64
   go_wp2_with fail
   go_ret
   exact ⟨ret_int' HV.out.symm,HB.out⟩
end Go.Proofs.YtgeaeockmadhcaaGreatDoor
