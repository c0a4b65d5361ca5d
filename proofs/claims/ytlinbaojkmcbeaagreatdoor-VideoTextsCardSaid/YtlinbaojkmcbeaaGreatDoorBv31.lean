/- Texts of this seat, laid together: MkD. -/
import Derived.Deep.DeepCutAuto
import Derived.Test.YtlinbaojkmcbeaaGreatDoorBv08
import Derived.Test.YtlinbaojkmcbeaaGreatDoorBv20
/- The walk of the closure by which the stream draws marks. -/
namespace Go.Proofs.YtlinbaojkmcbeaaGreatDoor
set_option linter.unusedVariables false
set_option linter.unusedSimpArgs false
open Go.RowKit

theorem ty_mks : SliceTy Tryz.prog 28 45 2 16 := .mk' Tryz.underlying28 (z := .agg #[.int .i64 0, .int .i64 0]) (by kernel_rfl) rfl (by decide)
theorem Blk.setO {w : World} {k : Nat} {t : TypeId} {cs : Array Value} (h : Blk w k t cs) {p : Addr} (hp : k ≠ p.block) (u : Value) : Blk (w.setCell p u) k t cs := (Below.heap_setCell w p u k hp).trans h
theorem own_ne {w : World} {g base n size : Nat} {t e : TypeId} {cs : Array Value} {v : Value} {xs : List Value} (hown : w.ownsRow base e size v n xs) (h : Blk w g t cs) (hne : e ≠ t) : v.ownBlock ≠ some g := by
  rcases hown.2 with ⟨rfl, _⟩ | ⟨g', cap, cur, rfl, _, hh, _⟩
  · simp [Value.ownBlock]
  · intro he
    have : g' = g := by simpa [Value.ownBlock] using he
    subst this
    rw [h.out_] at hh
    injection hh with hh
    injection hh with _ h1
    exact hne h1.symm

/-- What the closure of Stream.Marks captures, and what stands around it. -/
structure Ms (w0 w : World) (g N p5 p6 p2 p7 : Nat) (n at_ : Int) (A : Option Addr) (c : Nat) (l : List Mk) : Prop where
  str : Str w g N
  b5 : Blk w p5 3 #[.int .i64 n]
  b6 : Blk w p6 3 #[.int .i64 at_]
  b2 : Blk w p2 23 #[.pointer (some ⟨g, 0, none⟩)]
  b7 : Blk w p7 28 #[.slice A l.length c]
  own : w.ownsRow w0.heap.size 45 2 (.slice A l.length c) l.length (prs l)
  gr : w0.grownBy w (some g)
  hn : 0 ≤ n ∧ n ≤ 10000000 ∧ 0 ≤ at_ ∧ at_ ≤ 10000000
  lo : g < w0.heap.size ∧ w0.heap.size ≤ p5 ∧ w0.heap.size ≤ p6 ∧ w0.heap.size ≤ p2 ∧ w0.heap.size ≤ p7
  ne : p5 ≠ p6 ∧ p5 ≠ p7 ∧ p6 ≠ p7 ∧ p2 ≠ p6 ∧ p2 ≠ p7
section
variable {w0 w w' : World} {g N N' p5 p6 p2 p7 : Nat} {n at_ : Int} {A : Option Addr} {c : Nat} {l : List Mk}
theorem Ms.drawn (h : Ms w0 w g N p5 p6 p2 p7 n at_ A c l) (hg : w.grownBy w' (some g)) (hs : Str w' g N') : Ms w0 w' g N' p5 p6 p2 p7 n at_ A c l := by
  have := h.lo
  exact ⟨hs, h.b5.grown hg (by omega), h.b6.grown hg (by omega), h.b2.grown hg (by omega), h.b7.grown hg (by omega), own_grown h.own hg (by omega), grown_trans' h.gr hg, h.hn, h.lo, h.ne⟩
theorem Ms.alloc (h : Ms w0 w g N p5 p6 p2 p7 n at_ A c l) (o : Obj) : Ms w0 (w.alloc o) g N p5 p6 p2 p7 n at_ A c l := h.drawn (World.grownBy_alloc _ _ _) (h.str.alloc _)
theorem Ms.drew (h : Ms w0 w g N p5 p6 p2 p7 n at_ A c l) : Ms w0 w.drew g N p5 p6 p2 p7 n at_ A c l := ⟨h.1, h.2, h.3, h.4, h.5, h.6, grown_drew h.7, h.8, h.9, h.10⟩
theorem Ms.setAt (h : Ms w0 w g N p5 p6 p2 p7 n at_ A c l) (a : Int) (ha : 0 ≤ a ∧ a ≤ 10000000) : Ms w0 (w.setCell ⟨p6, 0, none⟩ (.int .i64 a)) g N p5 p6 p2 p7 n a A c l := by
  have hl := h.lo
  have hne := h.ne
  have hg6 : w.grownBy (w.setCell ⟨p6, 0, none⟩ (.int .i64 a)) (some p6) := grown_set (World.grownBy.refl _ _) _ _
  exact ⟨h.str.set (by simp; omega) _, h.b5.setO (by simp; omega) _, h.b6.set 0 _, h.b2.setO (by simp; omega) _, h.b7.setO (by simp; omega) _, h.own.kept hg6 (.inr (own_ne h.own h.b6 (by decide))), grown_set_new h.gr (by simp; omega) _, by have := h.hn; omega, h.lo, h.ne⟩
theorem Ms.push (h : Ms w0 w g N p5 p6 p2 p7 n at_ A c l) {A5 : Option Addr} {c5 : Nat} {w5 : World} (x k : Int) (ho : w5.ownsRow w0.heap.size 45 2 (.slice A5 (l.length + 1) c5) (l.length + 1) (prs (l ++ [(x, k)]))) (hg : w.grownBy w5 (Value.slice A l.length c).ownBlock) :
    Ms w0 (w5.setCell ⟨p7, 0, none⟩ (.slice A5 (l.length + 1) c5)) g N p5 p6 p2 p7 n at_ A5 c5 (l ++ [(x, k)]) := by
  have hl := h.lo
  have hne := h.ne
  have b5 := Blk.app h.own h.b5 hg (by decide)
  have b6 := Blk.app h.own h.b6 hg (by decide)
  have b2 := Blk.app h.own h.b2 hg (by decide)
  have b7 := Blk.app h.own h.b7 hg (by decide)
  have hg7 : w5.grownBy (w5.setCell ⟨p7, 0, none⟩ (.slice A5 (l.length + 1) c5)) (some p7) := grown_set (World.grownBy.refl _ _) _ _
  refine ⟨(h.str.app h.own hg (by omega)).set (by simp; omega) _, b5.setO (by simp; omega) _, b6.setO (by simp; omega) _, b2.setO (by simp; omega) _, ?_, ?_, grown_set_new (grown_app h.gr h.own hg (Nat.le_refl _)) (by simp; omega) _, h.hn, h.lo, h.ne⟩
  · have := b7.set 0 (.slice A5 (l.length + 1) c5)
    simpa using this
  · have := ho.kept hg7 (.inr (own_ne ho b7 (by decide)))
    simpa using this
theorem Ms.cells (h : Ms w0 w g N p5 p6 p2 p7 n at_ A c l) : w.cell? ⟨p5, 0, none⟩ = some (.int .i64 n) ∧ w.cell? ⟨p6, 0, none⟩ = some (.int .i64 at_) ∧ w.cell? ⟨p2, 0, none⟩ = some (.pointer (some ⟨g, 0, none⟩)) ∧ w.cell? ⟨p7, 0, none⟩ = some (.slice A l.length c) ∧ w.frozen? ⟨p6, 0, none⟩ = false ∧ w.frozen? ⟨p7, 0, none⟩ = false :=
  ⟨h.b5.cell 0, h.b6.cell 0, h.b2.cell 0, h.b7.cell 0, h.b6.froze 0, h.b7.froze 0⟩
end
end Go.Proofs.YtlinbaojkmcbeaaGreatDoor
