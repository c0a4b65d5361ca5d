/- Texts of this seat, laid together: MkE. -/
import Derived.Test.YtlinbaojkmcbeaaGreatDoorBv31
/- The walk of the closure by which the stream draws marks. -/
namespace Go.Proofs.YtlinbaojkmcbeaaGreatDoor
set_option linter.unusedVariables false
set_option linter.unusedSimpArgs false
open Go.RowKit

set_option maxHeartbeats 6000000 in
theorem step_any (w0 : World) (g N p5 p6 p2 p7 : Nat) (n at_ kind : Int) (A : Option Addr) (c : Nat) (l : List Mk) (w : World) (h : Ms w0 w g N p5 p6 p2 p7 n at_ A c l) (hN : N < 4611686018427387000) (hl : l.length ≤ 1000) :
    Calls Tryz.prog 24 #[.int .i64 kind, .pointer (some ⟨p5, 0, none⟩), .pointer (some ⟨p6, 0, none⟩), .pointer (some ⟨p2, 0, none⟩), .pointer (some ⟨p7, 0, none⟩)] w fun e w' => ∃ A' c' a', e = .returned (.tuple #[]) ∧ Ms w0 w' g (N + 1) p5 p6 p2 p7 n a' A' c' (l ++ [(a', kind)]) := by
  obtain ⟨k5, k6, k2, k7, f6, f7⟩ := h.cells
  have hn := h.hn
  have hlo := h.lo
  have hne := h.ne
  have a5 := cell_al k5 (.cells #[.int .i64 0, .int .i64 1, .int .i64 2, .int .i64 10, .int .i64 59, .int .i64 200] 3)
  have a6 := cell_al k6 (.cells #[.int .i64 0, .int .i64 1, .int .i64 2, .int .i64 10, .int .i64 59, .int .i64 200] 3)
  have a2 := cell_al k2 (.cells #[.int .i64 0, .int .i64 1, .int .i64 2, .int .i64 10, .int .i64 59, .int .i64 200] 3)
  go_enter Tryz.func24, Tryz.ntmps24
  go_wp2_with fail
  go_region_law (first | (go_simp; go_at_call 19; refine (pick_any g N (g + 1) _ _ [0, 1, 2, 10, 59, 200] _ (h.drew.alloc _).str (by omega) (row_new _ _ _ _ _ _ h.str.lt rfl) (by omega) (by simp) (by simp)).mono ?_; rintro e w1 ⟨r, rfl, hr, hs1, hg1⟩; have h1 := (h.drew.alloc _).drawn hg1 hs1; obtain ⟨x5, x6, x2, x7, y6, y7⟩ := h1.cells; have hr0 : 0 ≤ r ∧ r ≤ 200 := (by simp at hr; omega); clear hr))
  all_goals
    rw [show IntKind.i64.wrap (at_ + r) = at_ + r from IntWalk.i64_in _ ⟨by omega, by omega⟩]
    have hab : 0 ≤ (if at_ + r < n then at_ + r else n) ∧ (if at_ + r < n then at_ + r else n) ≤ 10000000 := by split <;> omega
    generalize (if at_ + r < n then at_ + r else n) = a at *
    have h2 := h1.setAt a hab
    clear h1 h x5 x6 x2 x7 y6 y7 k5 k6 k2 k7 f6 f7 a5 a6 a2 hs1 hg1
    generalize w1.setCell ⟨p6, 0, none⟩ (.int .i64 a) = w2 at *
    obtain ⟨x5, x6, x2, x7, y6, y7⟩ := h2.cells
    have z0 := h2.gr.size
    have ho := h2.own
    go_wp2_with (at_builtin; go_must (refine wpList_app (lo := w0.heap.size) (base := w0.heap.size) (n := l.length) (xs := prs l) _ _ rfl _ _ ty_mks rfl (by repeat (first | exact ho | refine World.ownsRow.alloc ?_ _ | refine own_drewN ?_ _ | refine World.ownsRow.drew ?_)) rfl (by first | exact row_new' _ (by first | rfl | simp) (by first | omega | (simp; omega)) rfl | exact row_newN _ _ (by first | rfl | simp) (by first | omega | (simp; omega)) rfl | exact row_newD _ (by first | rfl | simp) (by first | omega | (simp; omega)) rfl) rfl rfl (by first | omega | decide) (by first | omega | decide) (by first | omega | (simp; omega)) ?_))
    intro A5 c5 w5 hown5 hg5 _
    have h5 := (h2.alloc _).push a kind (by simpa [prs] using hown5) hg5
    have y75 := (Blk.app (h2.own.alloc _) (h2.b7.alloc _) hg5 (by decide)).froze 0
    have y76 := (Blk.app (h2.own.alloc _) (h2.b7.alloc _) hg5 (by decide)).cell 0
    go_wp2_with fail
    first | refine bodyPost_end (v := .tuple #[]) rfl rfl ?_ | refine bodyPost_ret (v := .tuple #[]) rfl rfl ?_ | go_end0
    exact ⟨A5, c5, a, rfl, h5⟩
end Go.Proofs.YtlinbaojkmcbeaaGreatDoor
