/- Texts of this seat, laid together: MkD MkH MkJ. -/
import Derived.Deep.DeepCutAuto
import Derived.Test.YtoppiafgeeodlaaGreatBu26
import Derived.Test.YtoppiafgeeodlaaGreatBu29
/- The walk of the closure by which the stream draws marks. -/
namespace Go.Proofs.YtoppiafgeeodlaaGreat
set_option linter.unusedVariables false
set_option linter.unusedSimpArgs false
open Go.RowKit

theorem ty_mks : SliceTy Tryz.prog 27 57 2 16 := .mk' Tryz.underlying27 (z := .agg #[.int .i64 0, .int .i64 0]) (by kernel_rfl) rfl (by decide)
theorem Blk.setO {w : World} {k : Nat} {t : TypeId} {cs : Array Value} (h : Blk w k t cs) {p : Addr} (hp : k ≠ p.block) (u : Value) : Blk (w.setCell p u) k t cs := (Below.heap_setCell w p u k hp).trans h
theorem own_ne {w : World} {g base n size : Nat} {t e : TypeId} {cs : Array Value} {v : Value} {xs : List Value} (hown : w.ownsRow base e size v n xs) (h : Blk w g t cs) (hne : e ≠ t) : v.ownBlock ≠ some g := by
  rcases hown.2 with ⟨rfl, _⟩ | ⟨g', cap, cur, rfl, _, hh, _⟩
  · simp [Value.ownBlock]
  · intro he
    have : g' = g := by simpa [Value.ownBlock] using he
    subst this
    rw [h.out_] at hh
    injection hh with hh
    injection hh with _ h1
    exact hne h1.symm

/-- What the closure of Stream.Marks captures, and what stands around it. -/
structure Ms (w0 w : World) (g N p5 p6 p2 p7 : Nat) (n at_ : Int) (A : Option Addr) (c : Nat) (l : List Mk) : Prop where
  str : Str w g N
  b5 : Blk w p5 3 #[.int .i64 n]
  b6 : Blk w p6 3 #[.int .i64 at_]
  b2 : Blk w p2 23 #[.pointer (some ⟨g, 0, none⟩)]
  b7 : Blk w p7 27 #[.slice A l.length c]
  own : w.ownsRow w0.heap.size 57 2 (.slice A l.length c) l.length (prs l)
  gr : w0.grownBy w (some g)
  hn : 0 ≤ n ∧ n ≤ 10000000 ∧ 0 ≤ at_ ∧ at_ ≤ 10000000
  lo : g < w0.heap.size ∧ w0.heap.size ≤ p5 ∧ w0.heap.size ≤ p6 ∧ w0.heap.size ≤ p2 ∧ w0.heap.size ≤ p7
  ne : p5 ≠ p6 ∧ p5 ≠ p7 ∧ p6 ≠ p7 ∧ p2 ≠ p6 ∧ p2 ≠ p7
section
variable {w0 w w' : World} {g N N' p5 p6 p2 p7 : Nat} {n at_ : Int} {A : Option Addr} {c : Nat} {l : List Mk}
theorem Ms.drawn (h : Ms w0 w g N p5 p6 p2 p7 n at_ A c l) (hg : w.grownBy w' (some g)) (hs : Str w' g N') : Ms w0 w' g N' p5 p6 p2 p7 n at_ A c l := by
  have := h.lo
  exact ⟨hs, h.b5.grown hg (by omega), h.b6.grown hg (by omega), h.b2.grown hg (by omega), h.b7.grown hg (by omega), own_grown h.own hg (by omega), grown_trans' h.gr hg, h.hn, h.lo, h.ne⟩
theorem Ms.alloc (h : Ms w0 w g N p5 p6 p2 p7 n at_ A c l) (o : Obj) : Ms w0 (w.alloc o) g N p5 p6 p2 p7 n at_ A c l := h.drawn (World.grownBy_alloc _ _ _) (h.str.alloc _)
theorem Ms.drew (h : Ms w0 w g N p5 p6 p2 p7 n at_ A c l) : Ms w0 w.drew g N p5 p6 p2 p7 n at_ A c l := ⟨h.1, h.2, h.3, h.4, h.5, h.6, grown_drew h.7, h.8, h.9, h.10⟩
theorem Ms.setAt (h : Ms w0 w g N p5 p6 p2 p7 n at_ A c l) (a : Int) (ha : 0 ≤ a ∧ a ≤ 10000000) : Ms w0 (w.setCell ⟨p6, 0, none⟩ (.int .i64 a)) g N p5 p6 p2 p7 n a A c l := by
  have hl := h.lo
  have hne := h.ne
  have hg6 : w.grownBy (w.setCell ⟨p6, 0, none⟩ (.int .i64 a)) (some p6) := grown_set (World.grownBy.refl _ _) _ _
  exact ⟨h.str.set (by simp; omega) _, h.b5.setO (by simp; omega) _, h.b6.set 0 _, h.b2.setO (by simp; omega) _, h.b7.setO (by simp; omega) _, h.own.kept hg6 (.inr (own_ne h.own h.b6 (by decide))), grown_set_new h.gr (by simp; omega) _, by have := h.hn; omega, h.lo, h.ne⟩
theorem Ms.push (h : Ms w0 w g N p5 p6 p2 p7 n at_ A c l) {A5 : Option Addr} {c5 : Nat} {w5 : World} (x k : Int) (ho : w5.ownsRow w0.heap.size 57 2 (.slice A5 (l.length + 1) c5) (l.length + 1) (prs (l ++ [(x, k)]))) (hg : w.grownBy w5 (Value.slice A l.length c).ownBlock) :
    Ms w0 (w5.setCell ⟨p7, 0, none⟩ (.slice A5 (l.length + 1) c5)) g N p5 p6 p2 p7 n at_ A5 c5 (l ++ [(x, k)]) := by
  have hl := h.lo
  have hne := h.ne
  have b5 := Blk.app h.own h.b5 hg (by decide)
  have b6 := Blk.app h.own h.b6 hg (by decide)
  have b2 := Blk.app h.own h.b2 hg (by decide)
  have b7 := Blk.app h.own h.b7 hg (by decide)
  have hg7 : w5.grownBy (w5.setCell ⟨p7, 0, none⟩ (.slice A5 (l.length + 1) c5)) (some p7) := grown_set (World.grownBy.refl _ _) _ _
  refine ⟨(h.str.app h.own hg (by omega)).set (by simp; omega) _, b5.setO (by simp; omega) _, b6.setO (by simp; omega) _, b2.setO (by simp; omega) _, ?_, ?_, grown_set_new (grown_app h.gr h.own hg (Nat.le_refl _)) (by simp; omega) _, h.hn, h.lo, h.ne⟩
  · have := b7.set 0 (.slice A5 (l.length + 1) c5)
    simpa using this
  · have := ho.kept hg7 (.inr (own_ne ho b7 (by decide)))
    simpa using this
theorem Ms.cells (h : Ms w0 w g N p5 p6 p2 p7 n at_ A c l) : w.cell? ⟨p5, 0, none⟩ = some (.int .i64 n) ∧ w.cell? ⟨p6, 0, none⟩ = some (.int .i64 at_) ∧ w.cell? ⟨p2, 0, none⟩ = some (.pointer (some ⟨g, 0, none⟩)) ∧ w.cell? ⟨p7, 0, none⟩ = some (.slice A l.length c) ∧ w.frozen? ⟨p6, 0, none⟩ = false ∧ w.frozen? ⟨p7, 0, none⟩ = false :=
  ⟨h.b5.cell 0, h.b6.cell 0, h.b2.cell 0, h.b7.cell 0, h.b6.froze 0, h.b7.froze 0⟩
end
end Go.Proofs.YtoppiafgeeodlaaGreat
/- The walks of Splits, Whole, Moved and MovedMarks. -/
namespace Go.Proofs.YtoppiafgeeodlaaGreat
set_option linter.unusedVariables false
set_option linter.unusedSimpArgs false
open Go.RowKit

theorem own_setnew {w : World} {base : Nat} {e : TypeId} {size : Nat} {v : Value} {n : Nat} {xs : List Value} (h : w.ownsRow base e size v n xs) (o : Obj) (i : Nat) (u : Value) : ((w.alloc o).setCell ⟨w.heap.size, i, none⟩ u).ownsRow base e size v n xs :=
  (h.alloc o).kept (row := some w.heap.size) (grown_set (World.grownBy.refl _ _) i u) (by
    cases hv : v.ownBlock with
    | none => exact .inl rfl
    | some k => right; intro he; have := (h.lt k hv).2; injection he with he; omega)
theorem own_set_other {w : World} {base : Nat} {e : TypeId} {size : Nat} {v : Value} {n : Nat} {xs : List Value} (h : w.ownsRow base e size v n xs) {p : Addr} (hp : ∀ k, v.ownBlock = some k → k ≠ p.block) (u : Value) : (w.setCell p u).ownsRow base e size v n xs :=
  h.kept (row := some p.block) ⟨rfl, rfl, rfl, by simp [World.setCell], fun k _ hk => Below.heap_setCell w p u k (fun e => hk (by rw [e]))⟩ (by
    cases hv : v.ownBlock with
    | none => exact .inl rfl
    | some k => right; intro he; exact hp k hv (by injection he))
theorem rises_le {l : List Mk} (h : Rises l) : ∀ j, (hj : j < l.length) → (l[0]'(by omega)).1 ≤ l[j].1 := by
  intro j
  induction j with
  | zero => intro _; exact Int.le_refl _
  | succ j ih => intro hj; exact Int.le_trans (ih (by omega)) (h j hj)
def spE (v : List St) (l : List Mk) : List Int := if mkFault v l = 0 then (tS v l).2.2 else []
theorem spE_ok {v : List St} {l : List Mk} (h : mkFault v l = 0) : spE v l = (tS v l).2.2 := by simp [spE, h]
theorem spE_bad {v : List St} {l : List Mk} (h : ¬ mkFault v l = 0) : spE v l = [] := by simp [spE, h]
def whE (v : List St) (l : List Mk) : Int := if mkFault v l = 0 then msM (multK v) (pS v l true (l.length - 1)) else 0
theorem whE_ok {v : List St} {l : List Mk} (h : mkFault v l = 0) : whE v l = msM (multK v) (pS v l true (l.length - 1)) := by simp [whE, h]
theorem whE_bad {v : List St} {l : List Mk} (h : ¬ mkFault v l = 0) : whE v l = 0 := by simp [whE, h]
theorem mkF_turn {all : Int} {l : List Mk} (h : mkF all l = 0) : Turn l := by
  obtain ⟨_, _, h3, _, h5⟩ := mkF_ok h
  exact ⟨fun x hx => ⟨(h3 x hx).1, (h3 x hx).2.1⟩, h5⟩

set_option maxHeartbeats 1000000 in
theorem splits_any (lo lo' c d : Nat) (A B : Option Addr) (v : List St) (l : List Mk) (w : World) (hr : Row w lo 3 A v.length (trs v)) (hrm : Row w lo' 2 B l.length (prs l)) (hl : v.length ≤ 1000000000) (hlm : l.length ≤ 1000000000) (hi : ∀ s ∈ v, s.2.1 ≤ 9223372036854775807) :
    Calls Tryz.prog 5 #[.slice A v.length c, .slice B l.length d] w fun e w' => ∃ A' c', e = .returned (.tuple #[.slice A' (spE v l).length c', .int .i64 (mkFault v l)]) ∧ Row w' w.heap.size 1 A' (spE v l).length (ints (spE v l)) ∧ Below w.heap.size w w' := by
  go_enter Tryz.func5, Tryz.ntmps5
  go_wp2_with fail
  refine (checkMarks_any lo lo' _ _ _ _ v l _ hr hrm hl hlm hi).mono ?_
  rintro e w1 ⟨rfl, hb1⟩
  clear hi
  by_cases h0 : mkFault v l = 0
  · have h0' : (mkFault v l != 0) = false := by simpa using h0
    obtain ⟨hv, hm⟩ := mkFault_zero h0
    have HG := Lib.hid (vFault_ok hv)
    have HM := Lib.hid (mkF_ok hm)
    have H0 := Lib.hid h0
    have HS := Lib.hid (spE_ok h0)
    clear h0 hv hm
    have hln := HM.out.1
    have hsum := HG.out.sum
    go_wp2_with fail
    refine (newFilm_any _ _ _ v _ (hr.below hb1) HG.out).mono ?_
    rintro e w2 ⟨g, rfl, hfm, hb2⟩
    have hx := below_up hb1 hb2
    have zx := hx.size
    go_wp2_with fail
    refine (times_any g lo lo' _ _ _ _ v l _ hfm (hrm.below hx) HG.out (by omega) HM.out.2.2.2.1 (fun x hx => by have := HM.out.2.2.1 x hx; omega)).mono ?_
    rintro e w3 ⟨A', c', rfl, hown, hb3⟩
    go_wp2_with fail
    go_ret2
    rw [HS.out]
    exact ⟨A', c', ret2_is rfl (by rw [H0.out]; rfl), (Row.of_own hown).weak (by omega), below_up hx hb3⟩
  · have h0' : (mkFault v l != 0) = true := by simpa using h0
    have HS := Lib.hid (spE_bad h0)
    clear h0
    go_wp2_with fail
    go_ret2
    rw [HS.out]
    exact ⟨none, 0, ret2_is rfl rfl, Row.none_ _ _ _ _, hb1⟩

end Go.Proofs.YtoppiafgeeodlaaGreat
/- The walks of film.shifted, shifted, Doubt and DoubtOf. -/
namespace Go.Proofs.YtoppiafgeeodlaaGreat
set_option linter.unusedVariables false
set_option linter.unusedSimpArgs false
open Go.RowKit

theorem shF_max (all d last : Int) (x : Mk) (f : Int) (hf : f = if x.2 = 2 ∨ x.2 = 3 then x.1 + d else x.1 - d) : (if last < (if f < all then f else all) then (if f < all then f else all) else last) = shF all d last x := by
  unfold shF; rw [← hf]; split <;> split <;> omega

end Go.Proofs.YtoppiafgeeodlaaGreat
