/- Texts of this seat, laid together: RtJ. -/
import Derived.WalkSmall
import Derived.Handy
import Derived.Test.YtbfphnknkbhpkaaGreatDoorBk238
import Derived.Test.YtbfphnknkbhpkaaGreatDoorBk214
import Derived.Test.YtbfphnknkbhpkaaGreatDoorBk213
/- The walks of the queue's methods and of container/heap at a queue of one item. -/
namespace Go.Proofs.YtbfphnknkbhpkaaGreatDoor
set_option linter.unusedVariables false
set_option linter.unusedSimpArgs false
open Go.RowKit

structure QF (lo : Nat) (w w' : World) : Prop where
  bel : Below lo w w'
  block : ∀ b, b < w.heap.size → tag w b ≠ some (some 306) → tag w b ≠ some (some 310) → w'.heap[b]? = w.heap[b]?
section
variable {lo : Nat} {w w' w'' : World} {b base n size : Nat} {t e : TypeId} {cs : Array Value} {v : Value} {xs : List Value}
theorem QF.refl (lo : Nat) (w : World) : QF lo w w:=⟨Below.refl _ _,fun _ _ _ _ => rfl⟩
theorem tag_of (h : w'.heap[b]? = w.heap[b]?) : tag w' b = tag w b:=by simp [tag,h]
theorem QF.trans (h : QF lo w w') (k : QF lo w' w'') : QF lo w w'':=⟨h.bel.trans k.bel,fun b hb h1 h2 => by
 have e:=h.block b hb h1 h2
 exact (k.block b (Nat.lt_of_lt_of_le hb h.bel.size) (by rw [tag_of e]; exact h1) (by rw [tag_of e]; exact h2)).trans e⟩
theorem QF.of_below (h : Below w.heap.size w w') (hl : lo ≤ w.heap.size) : QF lo w w':=⟨h.mono hl,fun b hb _ _ => h.block b hb⟩
theorem QF.alloc (h : QF lo w w') (hl : lo ≤ w.heap.size) (o : Obj) : QF lo w (w'.alloc o):=h.trans (.of_below ((Below.refl _ _).alloc (Nat.le_refl _) o) (Nat.le_trans hl h.bel.size))
theorem QF.drew (h : QF lo w w') : QF lo w w'.drew:=⟨h.bel.drew,h.block⟩
theorem QF.of_grown {row : Option Nat} {x : TypeId} (h : w.grownBy w' row) (hk : Kind w row (some x)) (hx : x = 306 ∨ x = 310) (hl : lo ≤ w.heap.size) (hr : ∀ k,row = some k → lo ≤ k) : QF lo w w' :=
 ⟨below_of_grown h hl hr,fun b hb h1 h2 => h.block b hb (fun e => by
  have:=hk b e.symm
  rcases hx with rfl | rfl
  ·exact h1 this
  ·exact h2 this)⟩
theorem Blk.qf (h : Blk w b t cs) (hq : QF lo w w') (h1 : t ≠ 306) (h2 : t ≠ 310) : Blk w' b t cs :=
 (hq.block b h.lt (by rw [h.tag]; simpa using h1) (by rw [h.tag]; simpa using h2)).trans h
theorem own_qf (h : w.ownsRow base e size v n xs) (hq : QF lo w w') (h1 : e ≠ 306) (h2 : e ≠ 310) : w'.ownsRow base e size v n xs:=by
 refine ⟨h.1,?_⟩
 rcases h.2 with h0 | ⟨g,cap,cur,hv,hb,hh,h3⟩
 ·exact .inl h0
 ·have hb' : Blk w g e cur:=hh
  exact .inr ⟨g,cap,cur,hv,hb,hb'.qf hq h1 h2,h3⟩
theorem own_base {v : Value} (h : w.ownsRow base e size v n xs) : ∀ k,v.ownBlock = some k → base ≤ k:=fun k hk => (h.lt k hk).1
end
def QK (q : Nat) (row : Option Nat) (w w' : World) : Prop:=w.heap.size ≤ w'.heap.size ∧ ∀ b,b < w.heap.size → b ≠ q → row ≠ some b → w'.heap[b]? = w.heap[b]?
theorem QK.refl (q : Nat) (row : Option Nat) (w : World) : QK q row w w:=⟨Nat.le_refl _,fun _ _ _ _ => rfl⟩
theorem QK.trans {q : Nat} {row : Option Nat} {w w' w'' : World} (h : QK q row w w') (k : QK q row w' w'') : QK q row w w'':=⟨Nat.le_trans h.1 k.1,fun b hb h1 h2 => (k.2 b (Nat.lt_of_lt_of_le hb h.1) h1 h2).trans (h.2 b hb h1 h2)⟩
theorem QK.of_grown {q : Nat} {row : Option Nat} {w w' : World} (h : w.grownBy w' row) : QK q row w w':=⟨h.size,fun b hb _ h2 => h.block b hb (fun e => h2 e.symm)⟩
theorem QK.of_poke {q : Nat} {row : Option Nat} (w : World) (i : Nat) (u : Value) : QK q row w (w.setCell ⟨q,i,none⟩ u):=⟨by simp [World.setCell],fun b hb h1 _ => (grown_poke w q i u).block b hb (fun e => h1 (by injection e))⟩
theorem Blk.qk {q b : Nat} {row : Option Nat} {w w' : World} {t : TypeId} {cs : Array Value} (h : Blk w b t cs) (k : QK q row w w') (h1 : b ≠ q) (h2 : row ≠ some b) : Blk w' b t cs:=(k.2 b h.lt h1 h2).trans h
theorem ty_items : SliceTy Tryz.prog 306 310 3 24:=.mk' Tryz.underlying306 (z:=.agg #[.int .i64 0,.int .i64 0,.int .i64 0]) (by kernel_rfl) rfl (by decide)
theorem Blk.w1' {w : World} {g : Nat} {t : TypeId} {a : Value} (hk : Blk w g t #[a]) : w.cell? ⟨g,0,none⟩ = some a:=by simpa using hk.cell 0
theorem qlen_fx (A : Option Addr) (n c : Nat) (w : World) : Calls Tryz.prog 245 #[.slice A n c] w fun e w' => e = .returned (.int .i64 n) ∧ w' = w:=by
 go_enter Tryz.func245,Tryz.ntmps245
 go_wp2_with fail
 go_ret
 exact ⟨rfl,rfl⟩
theorem own_at {w : World} {base n size c b : Nat} {e : TypeId} {ys : List Value} (h : w.ownsRow base e size (.slice (some ⟨b,0,none⟩) n c) n ys) (j : Nat) {u : Value} (hu : ys[j]? = some u) : w.cell? ⟨b,j,none⟩ = some u:=by
 have hj : j < n * size:=by rw [← h.1]; exact (List.getElem?_eq_some_iff.1 hu).1
 rw [h.cellAt j hj,hu]
set_option maxHeartbeats 2000000 in
theorem qpop_fx {lo q b c : Nat} {x y z : Int} (w : World) (hl : lo ≤ q) (hq : Blk w q 306 #[.slice (some ⟨b,0,none⟩) 1 c]) (ho : w.ownsRow lo 310 3 (.slice (some ⟨b,0,none⟩) 1 c) 1 (ints [x,y,z])) :
  Calls Tryz.prog 248 #[.pointer (some ⟨q,0,none⟩)] w fun e w' => e = .returned (.iface 310 (.agg #[.int .i64 x,.int .i64 y,.int .i64 z])) ∧ Blk w' q 306 #[.slice (some ⟨b,0,none⟩) 0 c] ∧ w'.ownsRow lo 310 3 (.slice (some ⟨b,0,none⟩) 0 c) 0 [] ∧ QF lo w w':=by
 have q0:=hq.w1'
 have qf:=hq.thaw 0
 have zq:=hq.lt
 have b0:=own_at ho 0 (u:=.int .i64 x) rfl
 have b1:=own_at ho 1 (u:=.int .i64 y) rfl
 have b2:=own_at ho 2 (u:=.int .i64 z) rfl
 have zb:=(ho.lt b rfl).2
 go_enter Tryz.func248,Tryz.ntmps248
 go_wp2_with fail
 go_ret
 have hp : Blk (w.setCell ⟨q,0,none⟩ (.slice (some ⟨b,0,none⟩) 0 c)) q 306 #[.slice (some ⟨b,0,none⟩) 0 c]:=by simpa using hq.poke 0 (.slice (some ⟨b,0,none⟩) 0 c)
 have ho0 : w.ownsRow lo 310 3 (.slice (some ⟨b,0,none⟩) 0 c) 0 []:=ownsRow_pop (xs:=[]) (last:=ints [x,y,z]) rfl ho
 exact ⟨rfl,hp.alloc _,(own_other ho0 (grown_poke w q 0 _) hq.kind (by decide)).alloc _,(QF.of_grown (grown_poke w q 0 _) hq.kind (.inl rfl) (by omega) (fun k hk => by injection hk with hk; omega)).alloc (by omega) _⟩
theorem load_pr {q f : Nat} {v : Value} {w : World} (h : w.cell? ⟨q,0,none⟩ = some v) : (Sem.load .plain ⟨q,0,none⟩ fun v => .pure (f,v)).run Tryz.prog w = .ok (f,v) w:=by simp [Sem.run,h]
theorem meth_len {q : Nat} {v : Value} {w : World} (h : w.cell? ⟨q, 0, none⟩ = some v) : (method 452 308 (.pointer (some ⟨q, 0, none⟩)) "Len").run Tryz.prog w = .ok (245, v) w :=
 Eq.trans (show _ = (Sem.load .plain ⟨q, 0, none⟩ fun v => .pure (245, v)).run Tryz.prog w by kernel_rfl) (load_pr h)
theorem meth_swap {q : Nat} {v : Value} {w : World} (h : w.cell? ⟨q, 0, none⟩ = some v) : (method 452 308 (.pointer (some ⟨q, 0, none⟩)) "Swap").run Tryz.prog w = .ok (247, v) w :=
 Eq.trans (show _ = (Sem.load .plain ⟨q, 0, none⟩ fun v => .pure (247, v)).run Tryz.prog w by kernel_rfl) (load_pr h)
theorem ints3_set {w : World} {lo b c : Nat} {x y z : Int} (ho : w.ownsRow lo 310 3 (.slice (some ⟨b,0,none⟩) 1 c) 1 (ints [x,y,z])) : 
  (((w.setCell ⟨b,0,none⟩ (.int .i64 x)).setCell ⟨b,1,none⟩ (.int .i64 y)).setCell ⟨b,2,none⟩ (.int .i64 z)).ownsRow lo 310 3 (.slice (some ⟨b,0,none⟩) 1 c) 1 (ints [x,y,z]) ∧ w.grownBy (((w.setCell ⟨b,0,none⟩ (.int .i64 x)).setCell ⟨b,1,none⟩ (.int .i64 y)).setCell ⟨b,2,none⟩ (.int .i64 z)) (some b):=by
 have s0:=ho.stored 0 (.int .i64 x)
 have s1:=s0.1.stored 1 (.int .i64 y)
 have s2:=s1.1.stored 2 (.int .i64 z)
 have e : (((ints [x,y,z]).set 0 (.int .i64 x)).set 1 (.int .i64 y)).set 2 (.int .i64 z) = ints [x,y,z]:=rfl
 rw [e] at s2
 exact ⟨s2.1,grown_trans' (grown_trans' s0.2 s1.2) s2.2⟩
set_option maxHeartbeats 2000000 in
theorem qswap_fx {lo b c : Nat} {x y z : Int} (w : World) (ho : w.ownsRow lo 310 3 (.slice (some ⟨b,0,none⟩) 1 c) 1 (ints [x,y,z])) :
  Calls Tryz.prog 247 #[.slice (some ⟨b,0,none⟩) 1 c,.int .i64 0,.int .i64 0] w fun e w' => e = .returned (.tuple #[]) ∧ w'.ownsRow lo 310 3 (.slice (some ⟨b,0,none⟩) 1 c) 1 (ints [x,y,z]) ∧ w.grownBy w' (some b):=by
 have b0:=own_at ho 0 (u:=.int .i64 x) rfl
 have b1:=own_at ho 1 (u:=.int .i64 y) rfl
 have b2:=own_at ho 2 (u:=.int .i64 z) rfl
 have f0:=ho.frozenAt 0
 have f1:=ho.frozenAt 1
 have f2:=ho.frozenAt 2
 have zb:=(ho.lt b rfl).2
 go_enter Tryz.func247,Tryz.ntmps247
 go_region
 go_returns
 have s0:=ints3_set ho
 have s1:=ints3_set s0.1
 exact ⟨rfl,s1.1.drew,grown_drew (grown_trans' s0.2 s1.2)⟩
set_option maxHeartbeats 2000000 in
theorem qpush_fx {lo q c : Nat} {A : Option Addr} (x y z : Int) (w : World) (hq : Blk w q 306 #[.slice A 0 c]) (ho : w.ownsRow lo 310 3 (.slice A 0 c) 0 []) (hl : lo ≤ w.heap.size) (hlq : lo ≤ q) :
  Calls Tryz.prog 249 #[.pointer (some ⟨q,0,none⟩),.iface 310 (.agg #[.int .i64 x,.int .i64 y,.int .i64 z])] w fun e w' => e = .returned (.tuple #[]) ∧ ∃ b c',Blk w' q 306 #[.slice (some ⟨b,0,none⟩) 1 c'] ∧ w'.ownsRow lo 310 3 (.slice (some ⟨b,0,none⟩) 1 c') 1 (ints [x,y,z]) ∧ QF lo w w' ∧ QK q (Value.slice A 0 c).ownBlock w w':=by
 have hta : ∀ w : World,(Instr.typeAssert (.iface 310 (.agg #[.int .i64 x,.int .i64 y,.int .i64 z])) 20 310 false).run Tryz.prog w = .ok (.agg #[.int .i64 x,.int .i64 y,.int .i64 z]) w:=fun _ => by kernel_rfl
 go_enter Tryz.func249,Tryz.ntmps249
 go_upto_region 0 with (fail)
 have hq:=hq.drew
 have ho : w.drew.ownsRow _ _ _ _ _ _:=ho
 have hqf:=(QF.refl lo w).drew
 have hl0:=hl
 have hl : lo ≤ w.drew.heap.size:=hl
 refine wp_region_heldK 9 (fun w' => w'.cell? ⟨q,0,none⟩ = some (.slice A 0 c)) (fun _ => True) (by kernel_rfl) (trivial) (hq.w1') (fun hT hS => ?_)
 (refine wpAnyK_take2 (i:=0) (v:=?_) (by (simp only [Q0,Q2]; rfl)) (by kernel_rfl) (by kernel_rfl) (by kernel_rfl) (by decide) (by exact fun _ _ _ h => h) (Or.inl ⟨by rfl,?_⟩) (by assumption) (by assumption) ?_; (rotate_left 1; (intro w hSw; (try dsimp only at hSw); go_simp); (try with_reducible rfl)); (try simp only [Act.put,Q3,Q4,Q5]))
 (refine wpAnyK_take2 (i:=1) (v:=?_) (by (simp only [Q0,Q1,Q2]; rfl)) (by kernel_rfl) (by kernel_rfl) (by kernel_rfl) (by decide) (by exact fun _ _ _ h => h) (Or.inl ⟨by rfl,?_⟩) (by assumption) (by assumption) ?_; (rotate_left 1; (intro w hSw; (try dsimp only at hSw); go_simp); (try with_reducible rfl)); (try simp only [Act.put,Q3,Q4,Q5]))
 (refine wpAnyK_take2 (i:=2) (v:=?_) (by (simp only [Q0,Q1,Q2]; rfl)) (by kernel_rfl) (by kernel_rfl) (by kernel_rfl) (by decide) (by exact fun _ _ _ h => h) (Or.inl ⟨by rfl,?_⟩) (by assumption) (by assumption) ?_; (rotate_left 1; (intro w hSw; (try dsimp only at hSw); go_simp); (try with_reducible rfl)); (try simp only [Act.put,Q3,Q4,Q5]))
 (refine wpAnyK_take1 (i:=3) (v:=?_) (by (simp only [Q0,Q1,Q2]; rfl)) (by kernel_rfl) (by kernel_rfl) (by kernel_rfl) (by decide) (by kernel_rfl) (by kernel_rfl) (by exact fun _ _ _ h => h) (Or.inl ⟨by rfl,?_⟩) (by assumption) (by assumption) ?_; (rotate_left 1; (intro w hSw; (try dsimp only at hSw); go_simp); (try with_reducible rfl)); (try simp only [Act.put,Q3,Q4,Q5]))
 (refine wpAnyK_take2 (i:=4) (v:=?_) (by (simp only [Q0,Q1,Q2]; rfl)) (by kernel_rfl) (by kernel_rfl) (by kernel_rfl) (by decide) (by exact fun _ _ _ h => h) (Or.inl ⟨by rfl,?_⟩) (by assumption) (by assumption) ?_; (rotate_left 1; (intro w hSw; (try dsimp only at hSw); go_simp); (try with_reducible rfl)); (try simp only [Act.put,Q3,Q4,Q5]))
 (refine wpAnyK_take2 (i:=5) (v:=?_) (by (simp only [Q0,Q1,Q2]; rfl)) (by kernel_rfl) (by kernel_rfl) (by kernel_rfl) (by decide) (by exact fun _ _ _ h => h) (Or.inl ⟨by rfl,?_⟩) (by assumption) (by assumption) ?_; (rotate_left 1; (intro w hSw; (try dsimp only at hSw); go_simp); (try with_reducible rfl)); (try simp only [Act.put,Q3,Q4,Q5]))
 refine wpAnyK_ready (rs:=[6]) (by kernel_rfl) (by simp) ?_
 refine AllReadyK.cons rfl (fun K hK => ?_) AllReadyK.nil
 go_simp
 have hbx : Blk (w.drew.alloc (.cells #[.int .i64 x,.int .i64 y,.int .i64 z] 310)) w.heap.size 310 #[.int .i64 x,.int .i64 y,.int .i64 z]:=Blk.at_ _ (by simp)
 have hq:=hq.alloc (.cells #[.int .i64 x,.int .i64 y,.int .i64 z] 310)
 have ho:=ho.alloc (.cells #[.int .i64 x,.int .i64 y,.int .i64 z] 310)
 have hqf:=hqf.alloc hl0 (.cells #[.int .i64 x,.int .i64 y,.int .i64 z] 310)
 have hqk : QK q (Value.slice A 0 c).ownBlock w (w.drew.alloc (.cells #[.int .i64 x,.int .i64 y,.int .i64 z] 310)):=QK.of_grown (grown_alloc (grown_drew (World.grownBy.refl w _)) _)
 have hl : lo ≤ (w.drew.alloc (.cells #[.int .i64 x,.int .i64 y,.int .i64 z] 310)).heap.size:=by simp at hl ⊢; omega
 refine hK.out _ _ (trivial) (hq.w1') (fun hT hS => ?_)
 clear hK K
 (try simp only [Act.put,Q3,Q4,Q5])
 refine wpAnyK_ready (rs:=[7]) (by kernel_rfl) (by simp) ?_
 refine AllReadyK.cons rfl (fun K hK => ?_) AllReadyK.nil
 refine step_app (lo:=0) (base:=lo) (n:=0) (xs:=[]) _ rfl _ _ ty_items rfl ho rfl (Row.lit (n:=1) (size:=3) hbx (Nat.zero_le _) rfl) rfl rfl (by decide) (by decide) hl ?_
 intro A5 c5 w5 ho5 g5 _
 have hqf:=hqf.trans (QF.of_grown g5 (own_kind ho) (.inr rfl) hl (own_base ho))
 have hl : lo ≤ w5.heap.size:=Nat.le_trans hl g5.size
 have hqk:=hqk.trans (QK.of_grown g5)
 have hq:=hq.other g5 (own_kind ho) (by decide)
 obtain ⟨b,hA5,_⟩:=ownBlk ho5 (by decide)
 subst hA5
 refine hK.out _ _ (trivial) (hq.w1') (fun hT hS => ?_)
 clear hK K
 (try simp only [Act.put,Q3,Q4,Q5])
 (refine wpAnyK_take2 (i:=8) (v:=?_) (by (simp only [Q0,Q1,Q2]; rfl)) (by kernel_rfl) (by kernel_rfl) (by kernel_rfl) (by decide) (by exact fun _ _ _ h => h) (Or.inl ⟨by rfl,?_⟩) (by assumption) (by assumption) ?_; (rotate_left 1; (intro w hSw; (try dsimp only at hSw); go_simp); (try with_reducible rfl)); (try simp only [Act.put,Q3,Q4,Q5]))
 refine wpAnyK_ready (rs:=[9]) (by kernel_rfl) (by simp) ?_
 refine AllReadyK.consT (by kernel_rfl) rfl (fun K hK => ?_) AllReadyK.nil
 have q0:=hq.w1'
 have qf:=hq.thaw 0
 have zq:=hq.lt
 go_simp
 have hqf:=hqf.trans (QF.of_grown (grown_poke w5 q 0 (.slice (some ⟨b,0,none⟩) 1 c5)) hq.kind (.inl rfl) hl (fun k hk => by injection hk with hk; omega))
 have hqk:=hqk.trans (QK.of_poke w5 0 (.slice (some ⟨b,0,none⟩) 1 c5))
 have ho5:=own_other ho5 (grown_poke w5 q 0 (.slice (some ⟨b,0,none⟩) 1 c5)) hq.kind (by decide)
 have hq : Blk (w5.setCell ⟨q,0,none⟩ (.slice (some ⟨b,0,none⟩) 1 c5)) q 306 #[.slice (some ⟨b,0,none⟩) 1 c5]:=by simpa using hq.poke 0 (.slice (some ⟨b,0,none⟩) 1 c5)
 refine hK.out _ _ (trivial) (fun hT => ?_)
 clear hK K
 (try simp only [Act.put,Q3,Q4,Q5])
 refine wpAnyK_done (by kernel_rfl) ?_ _
 go_returns
 exact ⟨rfl,b,c5,hq,ho5,hqf,hqk⟩
set_option maxHeartbeats 2000000 in
theorem hup_fx {q : Nat} (w : World) : Calls Tryz.prog 216 #[.iface 308 (.pointer (some ⟨q,0,none⟩)),.int .i64 0] w fun e w' => e = .returned (.tuple #[]) ∧ w' = w:=by
 go_enter Tryz.func216,Tryz.ntmps216
 go_wp2_with fail
 refine wp_loop_rounds 1 ?_
 rw [rounds_succ]
 go_wp2_with fail
 go_returns
 exact ⟨rfl,rfl⟩
set_option maxHeartbeats 2000000 in
theorem hdown_fx {q : Nat} (w : World) : Calls Tryz.prog 217 #[.iface 308 (.pointer (some ⟨q,0,none⟩)),.int .i64 0,.int .i64 0] w fun e w' => e = .returned (.bool false) ∧ w' = w:=by
 go_enter Tryz.func217,Tryz.ntmps217
 go_wp2_with fail
 refine wp_loop_rounds 1 ?_
 rw [rounds_succ]
 go_wp2_with fail
 go_returns
 exact ⟨rfl,rfl⟩
set_option maxRecDepth 100000 in
set_option maxHeartbeats 2000000 in
theorem hpush_fx {lo q c : Nat} {A : Option Addr} (x y z : Int) (w : World) (hq : Blk w q 306 #[.slice A 0 c]) (ho : w.ownsRow lo 310 3 (.slice A 0 c) 0 []) (hl : lo ≤ w.heap.size) (hlq : lo ≤ q) :
  Calls Tryz.prog 194 #[.iface 308 (.pointer (some ⟨q,0,none⟩)),.iface 310 (.agg #[.int .i64 x,.int .i64 y,.int .i64 z])] w fun e w' => e = .returned (.tuple #[]) ∧ ∃ b c',Blk w' q 306 #[.slice (some ⟨b,0,none⟩) 1 c'] ∧ w'.ownsRow lo 310 3 (.slice (some ⟨b,0,none⟩) 1 c') 1 (ints [x,y,z]) ∧ QF lo w w' ∧ QK q (Value.slice A 0 c).ownBlock w w':=by
 go_enter Tryz.func194,Tryz.ntmps194
 go_wp2_with fail
 refine (qpush_fx x y z _ hq ho hl hlq).mono ?_
 rintro e w1 ⟨rfl,b,c',hq1,ho1,hf1,hk1⟩
 have hm:=meth_len hq1.w1'
 go_wp2_with fail
 refine (qlen_fx _ _ _ _).mono ?_
 rintro e w2 ⟨rfl,rfl⟩
 go_wp2_with fail
 refine (hup_fx _).mono ?_
 rintro e w2 ⟨rfl,rfl⟩
 go_wp2_with fail
 go_returns
 exact ⟨rfl,b,c',hq1,ho1,hf1,hk1⟩
set_option maxRecDepth 100000 in
set_option maxHeartbeats 2000000 in
theorem hpop_fx {lo q b c : Nat} {x y z : Int} (w : World) (hlq : lo ≤ q) (hq : Blk w q 306 #[.slice (some ⟨b,0,none⟩) 1 c]) (ho : w.ownsRow lo 310 3 (.slice (some ⟨b,0,none⟩) 1 c) 1 (ints [x,y,z])) :
  Calls Tryz.prog 195 #[.iface 308 (.pointer (some ⟨q,0,none⟩))] w fun e w' => e = .returned (.iface 310 (.agg #[.int .i64 x,.int .i64 y,.int .i64 z])) ∧ Blk w' q 306 #[.slice (some ⟨b,0,none⟩) 0 c] ∧ w'.ownsRow lo 310 3 (.slice (some ⟨b,0,none⟩) 0 c) 0 [] ∧ QF lo w w':=by
 have hm:=meth_len hq.w1'
 have hm':=meth_swap hq.w1'
 go_enter Tryz.func195,Tryz.ntmps195
 go_wp2_with fail
 refine (qlen_fx _ _ _ _).mono ?_
 rintro e w2 ⟨rfl,rfl⟩
 go_wp2_with fail
 refine (qswap_fx _ ho).mono ?_
 rintro e w3 ⟨rfl,ho3,hg3⟩
 have hq3:=hq.other hg3 (own_kind ho) (by decide)
 have hf3:=QF.of_grown (lo:=lo) hg3 (own_kind ho) (.inr rfl) (by have:=ho.lt b rfl; omega) (fun k hk => by injection hk with hk; have:=ho.lt b rfl; omega)
 go_wp2_with fail
 refine (hdown_fx _).mono ?_
 rintro e w4 ⟨rfl,rfl⟩
 go_wp2_with fail
 refine (qpop_fx _ hlq hq3 ho3).mono ?_
 rintro e w5 ⟨rfl,hq5,ho5,hf5⟩
 go_wp2_with fail
 go_returns
 exact ⟨rfl,hq5,ho5,hf3.trans hf5⟩
end Go.Proofs.YtbfphnknkbhpkaaGreatDoor
