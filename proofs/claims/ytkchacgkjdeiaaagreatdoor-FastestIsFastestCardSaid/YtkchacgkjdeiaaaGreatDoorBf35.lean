/- Texts of this seat, laid together: RtJ. -/
import Derived.WalkSmall
import Derived.Handy
import Derived.Test.YtkchacgkjdeiaaaGreatDoorBf33
import Derived.Test.YtkchacgkjdeiaaaGreatDoorBf28
/- The walks of the queue's methods and of container/heap at a queue of one item. -/
namespace Go.Proofs.YtkchacgkjdeiaaaGreatDoor
set_option linter.unusedVariables false
set_option linter.unusedSimpArgs false
open Go.RowKit

structure QF (lo : Nat) (w w' : World) : Prop where
  bel : Below lo w w'
  block : ∀ b, b < w.heap.size → tag w b ≠ some (some 306) → tag w b ≠ some (some 310) → w'.heap[b]? = w.heap[b]?
section
variable {lo : Nat} {w w' w'' : World} {b base n size : Nat} {t e : TypeId} {cs : Array Value} {v : Value} {xs : List Value}
theorem QF.refl (lo : Nat) (w : World) : QF lo w w:=⟨Below.refl _ _,fun _ _ _ _ => rfl⟩
theorem tag_of (h : w'.heap[b]? = w.heap[b]?) : tag w' b = tag w b:=by simp [tag,h]
theorem QF.trans (h : QF lo w w') (k : QF lo w' w'') : QF lo w w'':=⟨h.bel.trans k.bel,fun b hb h1 h2 => by
 have e:=h.block b hb h1 h2
 exact (k.block b (Nat.lt_of_lt_of_le hb h.bel.size) (by rw [tag_of e]; exact h1) (by rw [tag_of e]; exact h2)).trans e⟩
theorem QF.of_below (h : Below w.heap.size w w') (hl : lo ≤ w.heap.size) : QF lo w w':=⟨h.mono hl,fun b hb _ _ => h.block b hb⟩
theorem QF.alloc (h : QF lo w w') (hl : lo ≤ w.heap.size) (o : Obj) : QF lo w (w'.alloc o):=h.trans (.of_below ((Below.refl _ _).alloc (Nat.le_refl _) o) (Nat.le_trans hl h.bel.size))
theorem QF.drew (h : QF lo w w') : QF lo w w'.drew:=⟨h.bel.drew,h.block⟩
theorem QF.of_grown {row : Option Nat} {x : TypeId} (h : w.grownBy w' row) (hk : Kind w row (some x)) (hx : x = 306 ∨ x = 310) (hl : lo ≤ w.heap.size) (hr : ∀ k,row = some k → lo ≤ k) : QF lo w w' :=
 ⟨below_of_grown h hl hr,fun b hb h1 h2 => h.block b hb (fun e => by
  have:=hk b e.symm;rcases hx with rfl | rfl
  ·exact h1 this
  ·exact h2 this)⟩
theorem Blk.qf (h : Blk w b t cs) (hq : QF lo w w') (h1 : t ≠ 306) (h2 : t ≠ 310) : Blk w' b t cs :=
 (hq.block b h.lt (by rw [h.tag]; simpa using h1) (by rw [h.tag]; simpa using h2)).trans h
theorem own_qf (h : w.ownsRow base e size v n xs) (hq : QF lo w w') (h1 : e ≠ 306) (h2 : e ≠ 310) : w'.ownsRow base e size v n xs:=by
 refine ⟨h.1,?_⟩;rcases h.2 with h0 | ⟨g,cap,cur,hv,hb,hh,h3⟩
 ·exact .inl h0
 ·have hb' : Blk w g e cur:=hh
  exact .inr ⟨g,cap,cur,hv,hb,hb'.qf hq h1 h2,h3⟩
theorem own_base {v : Value} (h : w.ownsRow base e size v n xs) : ∀ k,v.ownBlock = some k → base ≤ k:=fun k hk => (h.lt k hk).1
end
def QK (q : Nat) (row : Option Nat) (w w' : World) : Prop:=w.heap.size ≤ w'.heap.size ∧ ∀ b,b < w.heap.size → b ≠ q → row ≠ some b → w'.heap[b]? = w.heap[b]?
theorem QK.refl (q : Nat) (row : Option Nat) (w : World) : QK q row w w:=⟨Nat.le_refl _,fun _ _ _ _ => rfl⟩
theorem QK.trans {q : Nat} {row : Option Nat} {w w' w'' : World} (h : QK q row w w') (k : QK q row w' w'') : QK q row w w'':=⟨Nat.le_trans h.1 k.1,fun b hb h1 h2 => (k.2 b (Nat.lt_of_lt_of_le hb h.1) h1 h2).trans (h.2 b hb h1 h2)⟩
theorem QK.of_grown {q : Nat} {row : Option Nat} {w w' : World} (h : w.grownBy w' row) : QK q row w w':=⟨h.size,fun b hb _ h2 => h.block b hb (fun e => h2 e.symm)⟩
theorem QK.of_poke {q : Nat} {row : Option Nat} (w : World) (i : Nat) (u : Value) : QK q row w (w.setCell ⟨q,i,none⟩ u):=⟨by simp [World.setCell],fun b hb h1 _ => (grown_poke w q i u).block b hb (fun e => h1 (by injection e))⟩
theorem Blk.qk {q b : Nat} {row : Option Nat} {w w' : World} {t : TypeId} {cs : Array Value} (h : Blk w b t cs) (k : QK q row w w') (h1 : b ≠ q) (h2 : row ≠ some b) : Blk w' b t cs:=(k.2 b h.lt h1 h2).trans h
theorem ty_items : SliceTy Tryz.prog 306 310 3 24:=.mk' Tryz.underlying306 (z:=.agg #[.int .i64 0,.int .i64 0,.int .i64 0]) (by kernel_rfl) rfl (by decide)
theorem Blk.w1' {w : World} {g : Nat} {t : TypeId} {a : Value} (hk : Blk w g t #[a]) : w.cell? ⟨g,0,none⟩ = some a:=by simpa using hk.cell 0
theorem qlen_fx (A : Option Addr) (n c : Nat) (w : World) : Calls Tryz.prog 240 #[.slice A n c] w fun e w' => e = .returned (.int .i64 n) ∧ w' = w:=by
 go_enter Tryz.func240,Tryz.ntmps240
 go_wp2_with fail;go_ret;exact ⟨rfl,rfl⟩
theorem own_at {w : World} {base n size c b : Nat} {e : TypeId} {ys : List Value} (h : w.ownsRow base e size (.slice (some ⟨b,0,none⟩) n c) n ys) (j : Nat) {u : Value} (hu : ys[j]? = some u) : w.cell? ⟨b,j,none⟩ = some u:=by
 have hj : j < n * size:=by rw [← h.1]; exact (List.getElem?_eq_some_iff.1 hu).1
 rw [h.cellAt j hj,hu]
theorem load_pr {q f : Nat} {v : Value} {w : World} (h : w.cell? ⟨q,0,none⟩ = some v) : (Sem.load .plain ⟨q,0,none⟩ fun v => .pure (f,v)).run Tryz.prog w = .ok (f,v) w:=by simp [Sem.run,h]
theorem meth_len {q : Nat} {v : Value} {w : World} (h : w.cell? ⟨q, 0, none⟩ = some v) : (method 442 308 (.pointer (some ⟨q, 0, none⟩)) "Len").run Tryz.prog w = .ok (240, v) w :=
 Eq.trans (show _ = (Sem.load .plain ⟨q, 0, none⟩ fun v => .pure (240, v)).run Tryz.prog w by kernel_rfl) (load_pr h)
theorem meth_swap {q : Nat} {v : Value} {w : World} (h : w.cell? ⟨q, 0, none⟩ = some v) : (method 442 308 (.pointer (some ⟨q, 0, none⟩)) "Swap").run Tryz.prog w = .ok (242, v) w :=
 Eq.trans (show _ = (Sem.load .plain ⟨q, 0, none⟩ fun v => .pure (242, v)).run Tryz.prog w by kernel_rfl) (load_pr h)
end Go.Proofs.YtkchacgkjdeiaaaGreatDoor
