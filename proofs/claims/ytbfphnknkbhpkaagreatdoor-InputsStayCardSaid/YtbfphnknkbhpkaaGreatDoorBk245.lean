/- Texts of this seat, laid together: Ready. -/
import Derived.Test.YtbfphnknkbhpkaaGreatDoorBk233
import Derived.Test.YtbfphnknkbhpkaaGreatDoorBk243
import Derived.Test.YtbfphnknkbhpkaaGreatDoorBk202
import Derived.Test.YtbfphnknkbhpkaaGreatDoorBk244
/- The walks of ready and h06facts: the last test of the laws of splitkeep1 and splittop. -/
namespace Go.Proofs.YtbfphnknkbhpkaaGreatDoor
set_option linter.unusedVariables false
set_option linter.unusedSimpArgs false
open Go.RowKit

set_option maxHeartbeats 4000000 in
set_option maxRecDepth 100000 in
theorem ready_any (w : World) : Calls Tryz.prog 14 #[] w fun e w' => e = .returned (.bool true) ∧ Below w.heap.size w w':=by
 have H1:=Lib.hid pressR_ex
 have H2:=Lib.hid pressE_ex
 have H3:=Lib.hid film_ex
 have H4:=Lib.hid time_ex
 go_enter Tryz.func14,Tryz.ntmps14
 go_wp2_with fail
 have hx0 : Below w.heap.size w (((((w.alloc (.cells #[.string ⟨#[97]⟩,.string ⟨#[98]⟩] 9)).alloc (.cells #[.int .i64 10,.int .i64 25] 3)).alloc (.cells #[.int .i64 0,.int .i64 20] 3)).alloc (.cells #[.int .i64 9] 3)).alloc (.cells #[.int .i64 1,.slice (some ⟨w.heap.size + 1,0,none⟩) 2 2,.int .i64 2,.slice (some ⟨w.heap.size + 1 + 1,0,none⟩) 2 2,.int .i64 3,.slice (some ⟨w.heap.size + 1 + 1 + 1,0,none⟩) 1 1] 113)):=(by repeat (first | exact Below.refl _ _ | refine Below.alloc ?_ (by first | omega | (simp; omega) | simp) _ | refine below_drewN' ?_ _ | refine Below.drew ?_))
 refine (ex_sumOfBest (W:=(((((w.alloc (.cells #[.string ⟨#[97]⟩,.string ⟨#[98]⟩] 9)).alloc (.cells #[.int .i64 10,.int .i64 25] 3)).alloc (.cells #[.int .i64 0,.int .i64 20] 3)).alloc (.cells #[.int .i64 9] 3)).alloc (.cells #[.int .i64 1,.slice (some ⟨w.heap.size + 1,0,none⟩) 2 2,.int .i64 2,.slice (some ⟨w.heap.size + 1 + 1,0,none⟩) 2 2,.int .i64 3,.slice (some ⟨w.heap.size + 1 + 1 + 1,0,none⟩) 1 1] 113))) (((((Blk.at_ _ rfl).alloc _).alloc _).alloc _).alloc _) ((((Blk.at_ _ (by simp)).alloc _).alloc _).alloc _) (((Blk.at_ _ (by simp)).alloc _).alloc _) ((Blk.at_ _ (by simp)).alloc _) (Blk.at_ _ (by simp))).mono ?_
 rintro e w1 ⟨rfl,hb⟩
 have hx:=below_up hx0 hb
 clear hb hx0
 go_wp2_with fail
 refine (presses_any _ _ w1.heap.size [(1,3),(0,1),(1,1)] 1 _ (by first | exact row_new' _ (by first | rfl | simp) (by first | omega | (simp; omega)) rfl | exact row_newN _ _ (by first | rfl | simp) (by first | omega | (simp; omega)) rfl | exact row_newD _ (by first | rfl | simp) (by first | omega | (simp; omega)) rfl) (by decide)).mono ?_
 rintro e w2 ⟨rfl,hb⟩
 have hx:=below_up (hx.alloc hx.size _) hb
 clear hb
 rw [H1.out,H2.out]
 go_wp2_with fail
 have hr1:=(row_new w2 #[.int .i64 100,.int .i64 60,.int .i64 1] 76 w2.heap.size 3 1 (Nat.le_refl _) rfl).alloc (.cells #[.int .i64 10,.int .i64 1,.int .i64 70,.int .i64 2] 62)
 have hr2:=row_new (w2.alloc (.cells #[.int .i64 100,.int .i64 60,.int .i64 1] 76)) #[.int .i64 10,.int .i64 1,.int .i64 70,.int .i64 2] 62 0 2 2 (Nat.zero_le _) rfl
 rw [World.size_alloc] at hr2
 refine (timed_any w2.heap.size 0 _ _ _ _ [(100,60,1)] [(10,1),(70,2)] _ hr1 hr2 (by decide) (by decide) (by decide)).mono ?_
 rintro e w3 ⟨rfl,hb⟩
 have hx:=below_up (show Below w.heap.size w ((w2.alloc (.cells #[.int .i64 100,.int .i64 60,.int .i64 1] 76)).alloc (.cells #[.int .i64 10,.int .i64 1,.int .i64 70,.int .i64 2] 62)) by have:=hx.size; exact (hx.alloc this _).alloc (by simp; omega) _) hb
 rw [H3.out,H4.out]
 clear hb hr1 hr2
 go_wp2_with fail
 have hfm : FM ((w3.alloc (.cells #[.string ⟨#[97]⟩,.slice none 0 0,.string ⟨#[98]⟩,.slice none 0 0] 124)).alloc (.cells #[.string ⟨#[100]⟩,.string ⟨#[97]⟩,.string ⟨#[98]⟩,.int .i64 7,.slice none 0 0,.slice none 0 0,.string ⟨#[]⟩] 127)) w3.heap.size (w3.heap.size + 1):=⟨(Blk.at_ _ rfl).alloc _,Blk.at_ _ (by simp)⟩
 refine (Fastest_fx _ _ _ hfm).mono ?_
 rintro e w4 ⟨A,c,rfl,hb⟩
 have hx:=below_up (show Below w.heap.size w ((w3.alloc (.cells #[.string ⟨#[97]⟩,.slice none 0 0,.string ⟨#[98]⟩,.slice none 0 0] 124)).alloc (.cells #[.string ⟨#[100]⟩,.string ⟨#[97]⟩,.string ⟨#[98]⟩,.int .i64 7,.slice none 0 0,.slice none 0 0,.string ⟨#[]⟩] 127)) by have:=hx.size; exact (hx.alloc this _).alloc (by simp; omega) _) hb
 clear hb hfm
 go_wp2_with fail
 go_ret
 exact ⟨rfl,hx.alloc hx.size _⟩
end Go.Proofs.YtbfphnknkbhpkaaGreatDoor
