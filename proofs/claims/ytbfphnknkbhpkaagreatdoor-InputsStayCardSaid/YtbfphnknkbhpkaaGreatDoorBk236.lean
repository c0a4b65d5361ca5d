/- Texts of this seat, laid together: RtD. -/
import Derived.Test.YtbfphnknkbhpkaaGreatDoorBk235
import Derived.Test.YtbfphnknkbhpkaaGreatDoorBk202
/- The walk of newWorld at the one map. -/
namespace Go.Proofs.YtbfphnknkbhpkaaGreatDoor
set_option linter.unusedVariables false
set_option linter.unusedSimpArgs false
open Go.RowKit

theorem bits_none (p : Nat) (w : World) : Calls Tryz.prog 161 #[.pointer (some ⟨p,0,none⟩),.slice none 0 0] w fun e w' => e = .returned (.int .i64 0) ∧ w = w':=by
 go_enter Tryz.func161,Tryz.ntmps161
 go_wp2_with fail
 refine wp_loop_rounds 1 ?_
 rw [rounds_succ]
 go_wp2_with fail
 go_ret
 exact ⟨rfl,rfl⟩

structure NC (w W : World) (M R D : Nat) : Prop where
  map : MapB W M R D
  fm : FM W R D
  bel : Below w.heap.size w W
theorem NC.below {w W W' : World} {M R D : Nat} (h : NC w W M R D) (hb : Below W.heap.size W W') : NC w W' M R D:=⟨h.map.below hb,h.fm.below hb,below_up h.bel hb⟩
theorem NC.alloc {w W : World} {M R D : Nat} (h : NC w W M R D) (o : Obj) : NC w (W.alloc o) M R D:=h.below ((Below.refl _ _).alloc (Nat.le_refl _) o)
theorem NC.drew {w W : World} {M R D : Nat} (h : NC w W M R D) : NC w W.drew M R D:=⟨h.map,h.fm.drew,h.bel.drew⟩
theorem NC.drewN {w W : World} {M R D : Nat} (h : NC w W M R D) (q : Nat) : NC w (W.drewN q) M R D:=⟨h.map,h.fm.drewN q,below_drewN' h.bel q⟩

theorem Blk.at_ (w : World) {t : TypeId} {cs : Array Value} {b : Nat} (hb : w.heap.size = b) : Blk (w.alloc (.cells cs t)) b t cs:=by subst hb; exact Blk.new _ _ _
theorem Blk.ne {w : World} {g k : Nat} {t u : TypeId} {cs ds : Array Value} (h : Blk w g t cs) (h2 : Blk w k u ds) (hne : t ≠ u) : g ≠ k:=by
 intro e
 subst e
 have h' : w.heap[g]? = some (.cells cs t (0,0)):=h
 have h2' : w.heap[g]? = some (.cells ds u (0,0)):=h2
 rw [h'] at h2'
 injection h2' with h3
 injection h3 with _ h4
 exact hne h4
theorem Blk.w7 {w : World} {g : Nat} {t : TypeId} {a b c d e f h : Value} (hk : Blk w g t #[a,b,c,d,e,f,h]) : w.cell? ⟨g,0,none⟩ = some a ∧ w.cell? ⟨g,1,none⟩ = some b ∧ w.cell? ⟨g,2,none⟩ = some c ∧ w.cell? ⟨g,3,none⟩ = some d ∧ w.cell? ⟨g,4,none⟩ = some e ∧ w.cell? ⟨g,5,none⟩ = some f ∧ w.cell? ⟨g,6,none⟩ = some h :=
 ⟨by simpa using hk.cell 0,by simpa using hk.cell 1,by simpa using hk.cell 2,by simpa using hk.cell 3,by simpa using hk.cell 4,by simpa using hk.cell 5,by simpa using hk.cell 6⟩
theorem Blk.w5 {w : World} {g : Nat} {t : TypeId} {a b c d e : Value} (hk : Blk w g t #[a,b,c,d,e]) : w.cell? ⟨g,0,none⟩ = some a ∧ w.cell? ⟨g,1,none⟩ = some b ∧ w.cell? ⟨g,2,none⟩ = some c ∧ w.cell? ⟨g,3,none⟩ = some d ∧ w.cell? ⟨g,4,none⟩ = some e :=
 ⟨by simpa using hk.cell 0,by simpa using hk.cell 1,by simpa using hk.cell 2,by simpa using hk.cell 3,by simpa using hk.cell 4⟩
theorem Blk.w2 {w : World} {g : Nat} {t : TypeId} {a b : Value} (hk : Blk w g t #[a,b]) : w.cell? ⟨g,0,none⟩ = some a ∧ w.cell? ⟨g,1,none⟩ = some b:=⟨by simpa using hk.cell 0,by simpa using hk.cell 1⟩
theorem NC.app {w W W' : World} {M R D base n size : Nat} {e : TypeId} {v : Value} {xs : List Value} (hown : W.ownsRow base e size v n xs) (h : NC w W M R D) (hg : W.grownBy W' v.ownBlock) (hb : w.heap.size ≤ base) (hM : M < w.heap.size) (hR : R < w.heap.size) (hD : D < w.heap.size) : NC w W' M R D:=by
 have hb' : Below w.heap.size w W':=h.bel.grown hg h.bel.size (fun k hk => Nat.le_trans hb (hown.lt k hk).1)
 have hl : ∀ k,k < w.heap.size → W'.heap[k]? = W.heap[k]?:=fun k hk => (hb'.block k hk).trans (h.bel.block k hk).symm
 exact ⟨(hl M hM).trans h.map,⟨(hl R hR).trans h.fm.rooms,(hl D hD).trans h.fm.doors⟩,hb'⟩
theorem NC.poke {w W : World} {M R D : Nat} (h : NC w W M R D) (p i : Nat) (u : Value) (hp : w.heap.size ≤ p) (hM : M < w.heap.size) (hR : R < w.heap.size) (hD : D < w.heap.size) : NC w (W.setCell ⟨p,i,none⟩ u) M R D :=
 ⟨Blk.past h.map p i u (by omega),⟨h.fm.rooms.past p i u (by omega),h.fm.doors.past p i u (by omega)⟩,Below.setCell h.bel (by simpa using hp) _⟩
theorem own_blk {w : World} {base n size : Nat} {e : TypeId} {v : Value} {xs : List Value} (h : w.ownsRow base e size v n xs) (hn : n ≠ 0) : ∃ g cap cur,v = .slice (some ⟨g,0,none⟩) n cap ∧ base ≤ g ∧ Blk w g e cur ∧ n ≤ cap ∧ ∀ i,i < n * size → cur[i]? = xs[i]?:=by
 rcases h.2 with h0 | ⟨g,cap,cur,hv,hg,hh,hc,_,_,ht⟩
 ·exact absurd h0.2 hn
 ·refine ⟨g,cap,cur,hv,hg,hh,hc,fun i hi => ?_⟩
  rw [← ht,List.getElem?_take,if_pos hi]
  simp
theorem Blk.app0 {w w' : World} {g : Nat} {t : TypeId} {cs : Array Value} (h : Blk w g t cs) (hg : w.grownBy w' none) : Blk w' g t cs:=(hg.block g h.lt (by simp)).trans h
structure DB (w W : World) (M R D p go g c v : Nat) (cur : Array Value) (ds : Value) : Prop where
  p : Blk W p 255 #[.pointer (some ⟨M, 0, none⟩), .slice none 0 0, .slice (some ⟨g, 0, none⟩) 2 c, ds, .slice (some ⟨go, 0, none⟩) 2 2, .int .i64 0, .int .i64 1]
  o : Blk W go 22 #[.slice none 0 0, .slice none 0 0]
  g : Blk W g 3 cur
  v : Blk W v 127 #[.string ⟨#[100]⟩, .string ⟨#[97]⟩, .string ⟨#[98]⟩, .int .i64 7, .slice none 0 0, .slice none 0 0, .string ⟨#[]⟩]
  n : NC w W M R D
section
variable {w W W' : World} {M R D p go g c v q : Nat} {cur : Array Value} {ds : Value}
theorem DB.below (h : DB w W M R D p go g c v cur ds) (hb : Below W.heap.size W W') : DB w W' M R D p go g c v cur ds:=⟨h.p.below hb,h.o.below hb,h.g.below hb,h.v.below hb,h.n.below hb⟩
theorem DB.alloc (h : DB w W M R D p go g c v cur ds) (o : Obj) : DB w (W.alloc o) M R D p go g c v cur ds:=h.below ((Below.refl _ _).alloc (Nat.le_refl _) o)
theorem DB.drew (h : DB w W M R D p go g c v cur ds) : DB w W.drew M R D p go g c v cur ds:=⟨h.p,h.o,h.g,h.v,h.n.drew⟩
theorem DB.past (h : DB w W M R D p go g c v cur ds) {cs : Array Value} (hq : Blk W q 251 cs) (zq : w.heap.size ≤ q) (hM : M < w.heap.size) (hR : R < w.heap.size) (hD : D < w.heap.size) (i : Nat) (u : Value) : DB w (W.setCell ⟨q,i,none⟩ u) M R D p go g c v cur ds :=
 ⟨h.p.past q i u (h.p.ne hq (by decide)),h.o.past q i u (h.o.ne hq (by decide)),h.g.past q i u (h.g.ne hq (by decide)),h.v.past q i u (h.v.ne hq (by decide)),h.n.poke q i u zq hM hR hD⟩
theorem DB.put5 (h : DB w W M R D p go g c v cur ds) {y0 y1 y2 y3 y4 : Value} (hq : Blk W q 251 #[y0,y1,y2,y3,y4]) (zq : w.heap.size ≤ q) (hM : M < w.heap.size) (hR : R < w.heap.size) (hD : D < w.heap.size) (x0 x1 x2 x3 x4 : Value) : Blk (((((W.setCell ⟨q,0,none⟩ x0).setCell ⟨q,1,none⟩ x1).setCell ⟨q,2,none⟩ x2).setCell ⟨q,3,none⟩ x3).setCell ⟨q,4,none⟩ x4) q 251 #[x0,x1,x2,x3,x4] ∧ DB w (((((W.setCell ⟨q,0,none⟩ x0).setCell ⟨q,1,none⟩ x1).setCell ⟨q,2,none⟩ x2).setCell ⟨q,3,none⟩ x3).setCell ⟨q,4,none⟩ x4) M R D p go g c v cur ds:=by
 have q0:=hq.poke 0 x0
 have q1:=q0.poke 1 x1
 have q2:=q1.poke 2 x2
 have q3:=q2.poke 3 x3
 have q4:=q3.poke 4 x4
 refine ⟨?_,((((h.past hq zq hM hR hD 0 x0).past q0 zq hM hR hD 1 x1).past q1 zq hM hR hD 2 x2).past q2 zq hM hR hD 3 x3).past q3 zq hM hR hD 4 x4⟩
 simpa using q4
theorem DB.app0 (h : DB w W M R D p go g c v cur ds) (hg : W.grownBy W' none) (hM : M < w.heap.size) (hR : R < w.heap.size) (hD : D < w.heap.size) : DB w W' M R D p go g c v cur ds :=
 ⟨h.p.app0 hg,h.o.app0 hg,h.g.app0 hg,h.v.app0 hg,NC.app (World.ownsRow_nil W w.heap.size 3 1) h.n hg (Nat.le_refl _) hM hR hD⟩
theorem DB.putp (h : DB w W M R D p go g c v cur ds) (zp : w.heap.size ≤ p) (hM : M < w.heap.size) (hR : R < w.heap.size) (hD : D < w.heap.size) (u : Value) : DB w (W.setCell ⟨p,3,none⟩ u) M R D p go g c v cur u :=
 ⟨by simpa using h.p.poke 3 u,h.o.past p 3 u (h.o.ne h.p (by decide)),h.g.past p 3 u (h.g.ne h.p (by decide)),h.v.past p 3 u (h.v.ne h.p (by decide)),h.n.poke p 3 u zp hM hR hD⟩
end
structure WB (lo : Nat) (W : World) (M P O g1 c1 g2 c2 g3 c3 : Nat) (x1 x2 x3 : Array Value) : Prop where
  p : Blk W P 255 #[.pointer (some ⟨M, 0, none⟩), .slice none 0 0, .slice (some ⟨g1, 0, none⟩) 2 c1, .slice (some ⟨g2, 0, none⟩) 1 c2, .slice (some ⟨O, 0, none⟩) 2 2, .int .i64 0, .int .i64 1]
  g : Blk W g1 3 x1
  hx1 : ∀ i, i < 2 → x1[i]? = (ints [0, 0])[i]?
  d : Blk W g2 251 x2
  hx2 : ∀ i, i < 5 → x2[i]? = (ints [0, 1, 7, 0, 0])[i]?
  o : Blk W O 22 #[.slice (some ⟨g3, 0, none⟩) 1 c3, .slice none 0 0]
  h : Blk W g3 3 x3
  hx3 : ∀ i, i < 1 → x3[i]? = (ints [0])[i]?
  z : lo ≤ P ∧ lo ≤ O ∧ lo ≤ g1 ∧ lo ≤ g2 ∧ lo ≤ g3
theorem ty_doorz : SliceTy Tryz.prog 252 251 5 40:=.mk' Tryz.underlying252 (z:=.agg #[.int .i64 0,.int .i64 0,.int .i64 0,.int .i64 0,.int .i64 0]) (by kernel_rfl) rfl (by decide)
theorem ty_intz : SliceTy Tryz.prog 22 3 1 8:=.mk' Tryz.underlying22 (z:=.int .i64 0) (by kernel_rfl) rfl (by decide)
theorem make_two (w : World) : (Instr.makeSlice 253 (.int .i64 2) (.int .i64 2)).run Tryz.prog w = .ok (.slice (some ⟨w.heap.size,0,none⟩) 2 2) (w.alloc (.cells #[.slice none 0 0,.slice none 0 0] 22)):=by kernel_rfl
set_option maxHeartbeats 4000000 in
set_option maxRecDepth 100000 in
theorem newWorld_fx (M R D : Nat) (w : World) (hm : MapB w M R D) (hf : FM w R D) : Calls Tryz.prog 128 #[.pointer (some ⟨M,0,none⟩),.slice none 0 0,.string ⟨#[]⟩] w fun e w' => ∃ p go g1 c1 g2 c2 g3 c3 x1 x2 x3,e = .returned (.pointer (some ⟨p,0,none⟩)) ∧ WB w.heap.size w' M p go g1 c1 g2 c2 g3 c3 x1 x2 x3 ∧ Below w.heap.size w w':=by
 have hc : NC w w.drew M R D:=(⟨hm,hf,Below.refl _ _⟩ : NC w w M R D).drew
 have zm:=hm.lt
 have hmk:=make_two
 go_enter Tryz.func128,Tryz.ntmps128
 go_upto_region 1 with (fail)
 go_cut [7] (fun v wx => ∃ (p go : Nat),v = .pointer (some ⟨p,0,none⟩) ∧ w.heap.size ≤ p ∧ w.heap.size ≤ go ∧ Blk wx p 255 #[.pointer (some ⟨M,0,none⟩),.slice none 0 0,.slice none 0 0,.slice none 0 0,.slice (some ⟨go,0,none⟩) 2 2,.int .i64 0,.int .i64 1] ∧ Blk wx go 22 #[.slice none 0 0,.slice none 0 0] ∧ NC w wx M R D)
 case first =>
  go_wp2_with fail
  refine wp_region_held_drew (S:=(fun w' => w'.cell? ⟨M,0,none⟩ = some (.slice (some ⟨R,0,none⟩) 2 2) ∧ w'.cell? ⟨M,1,none⟩ = some (.slice (some ⟨D,0,none⟩) 1 1) ∧ w'.cell? ⟨M,2,none⟩ = some (.string ⟨#[97]⟩) ∧ w'.cell? ⟨M,3,none⟩ = some (.string ⟨#[98]⟩))) (by kernel_rfl) (hc.map.cells) (fun hHeld => ?_)
  (refine wpAnyH_take (i:=0) (v:=?_) (by (simp only [Q0,Q2]; rfl)) (by kernel_rfl) (by kernel_rfl) (by kernel_rfl) (by exact fun _ _ _ h => h) (Or.inl ⟨by rfl,?_⟩) (by assumption) ?_; (rotate_left 1; (intro w hSw; (try dsimp only at hSw); go_simp); (try with_reducible rfl)); (try simp only [Act.put,Q3,Q4,Q5]))
  (refine wpAnyH_take (i:=1) (v:=?_) (by (simp only [Q0,Q1,Q2]; rfl)) (by kernel_rfl) (by kernel_rfl) (by kernel_rfl) (by exact fun _ _ _ h => h) (Or.inl ⟨by rfl,?_⟩) (by assumption) ?_; (rotate_left 1; (intro w hSw; (try dsimp only at hSw); go_simp); (try with_reducible rfl)); (try simp only [Act.put,Q3,Q4,Q5]))
  (refine wpAnyH_take (i:=3) (v:=?_) (by (simp only [Q0,Q1,Q2]; rfl)) (by kernel_rfl) (by kernel_rfl) (by kernel_rfl) (by exact fun _ _ _ h => h) (Or.inl ⟨by rfl,?_⟩) (by assumption) ?_; (rotate_left 1; (intro w hSw; (try dsimp only at hSw); go_simp); (try with_reducible rfl)); (try simp only [Act.put,Q3,Q4,Q5]))
  (refine wpAnyH_take (i:=4) (v:=?_) (by (simp only [Q0,Q1,Q2]; rfl)) (by kernel_rfl) (by kernel_rfl) (by kernel_rfl) (by exact fun _ _ _ h => h) (Or.inl ⟨by rfl,?_⟩) (by assumption) ?_; (rotate_left 1; (intro w hSw; (try dsimp only at hSw); go_simp); (try with_reducible rfl)); (try simp only [Act.put,Q3,Q4,Q5]))
  (refine wpAnyH_take (i:=5) (v:=?_) (by (simp only [Q0,Q1,Q2]; rfl)) (by kernel_rfl) (by kernel_rfl) (by kernel_rfl) (by exact fun _ _ _ h => h) (Or.inl ⟨by rfl,?_⟩) (by assumption) ?_; (rotate_left 1; (intro w hSw; (try dsimp only at hSw); go_simp); (try with_reducible rfl)); (try simp only [Act.put,Q3,Q4,Q5]))
  (refine wpAnyH_take (i:=6) (v:=?_) (by (simp only [Q0,Q1,Q2]; rfl)) (by kernel_rfl) (by kernel_rfl) (by kernel_rfl) (by exact fun _ _ _ h => h) (Or.inl ⟨by rfl,?_⟩) (by assumption) ?_; (rotate_left 1; (intro w hSw; (try dsimp only at hSw); go_simp); (try with_reducible rfl)); (try simp only [Act.put,Q3,Q4,Q5]))
  (refine wpAnyH_take (i:=7) (v:=?_) (by (simp only [Q0,Q1,Q2]; rfl)) (by kernel_rfl) (by kernel_rfl) (by kernel_rfl) (by exact fun _ _ _ h => h) (Or.inl ⟨by rfl,?_⟩) (by assumption) ?_; (rotate_left 1; (intro w hSw; (try dsimp only at hSw); go_simp); (try with_reducible rfl)); (try simp only [Act.put,Q3,Q4,Q5]))
  (refine wpAnyH_take (i:=9) (v:=?_) (by (simp only [Q0,Q1,Q2]; rfl)) (by kernel_rfl) (by kernel_rfl) (by kernel_rfl) (by exact fun _ _ _ h => h) (Or.inl ⟨by rfl,?_⟩) (by assumption) ?_; (rotate_left 1; (intro w hSw; (try dsimp only at hSw); go_simp); (try with_reducible rfl)); (try simp only [Act.put,Q3,Q4,Q5]))
  (refine wpAnyH_take (i:=10) (v:=?_) (by (simp only [Q0,Q1,Q2]; rfl)) (by kernel_rfl) (by kernel_rfl) (by kernel_rfl) (by exact fun _ _ _ h => h) (Or.inl ⟨by rfl,?_⟩) (by assumption) ?_; (rotate_left 1; (intro w hSw; (try dsimp only at hSw); go_simp); (try with_reducible rfl)); (try simp only [Act.put,Q3,Q4,Q5]))
  (refine wpAnyH_take (i:=11) (v:=?_) (by (simp only [Q0,Q1,Q2]; rfl)) (by kernel_rfl) (by kernel_rfl) (by kernel_rfl) (by exact fun _ _ _ h => h) (Or.inl ⟨by rfl,?_⟩) (by assumption) ?_; (rotate_left 1; (intro w hSw; (try dsimp only at hSw); go_simp); (try with_reducible rfl)); (try simp only [Act.put,Q3,Q4,Q5]))
  (refine wpAnyH_take (i:=12) (v:=?_) (by (simp only [Q0,Q1,Q2]; rfl)) (by kernel_rfl) (by kernel_rfl) (by kernel_rfl) (by exact fun _ _ _ h => h) (Or.inl ⟨by rfl,?_⟩) (by assumption) ?_; (rotate_left 1; (intro w hSw; (try dsimp only at hSw); go_simp); (try with_reducible rfl)); (try simp only [Act.put,Q3,Q4,Q5]))
  (refine wpAnyH_take (i:=13) (v:=?_) (by (simp only [Q0,Q1,Q2]; rfl)) (by kernel_rfl) (by kernel_rfl) (by kernel_rfl) (by exact fun _ _ _ h => h) (Or.inl ⟨by rfl,?_⟩) (by assumption) ?_; (rotate_left 1; (intro w hSw; (try dsimp only at hSw); go_simp); (try with_reducible rfl)); (try simp only [Act.put,Q3,Q4,Q5]))
  (refine wpAnyH_take (i:=15) (v:=?_) (by (simp only [Q0,Q1,Q2]; rfl)) (by kernel_rfl) (by kernel_rfl) (by kernel_rfl) (by exact fun _ _ _ h => h) (Or.inl ⟨by rfl,?_⟩) (by assumption) ?_; (rotate_left 1; (intro w hSw; (try dsimp only at hSw); go_simp); (try with_reducible rfl)); (try simp only [Act.put,Q3,Q4,Q5]))
  (refine wpAnyH_take (i:=16) (v:=?_) (by (simp only [Q0,Q1,Q2]; rfl)) (by kernel_rfl) (by kernel_rfl) (by kernel_rfl) (by exact fun _ _ _ h => h) (Or.inl ⟨by rfl,?_⟩) (by assumption) ?_; (rotate_left 1; (intro w hSw; (try dsimp only at hSw); go_simp); (try with_reducible rfl)); (try simp only [Act.put,Q3,Q4,Q5]))
  (refine wpAnyH_take (i:=17) (v:=?_) (by (simp only [Q0,Q1,Q2]; rfl)) (by kernel_rfl) (by kernel_rfl) (by kernel_rfl) (by exact fun _ _ _ h => h) (Or.inl ⟨by rfl,?_⟩) (by assumption) ?_; (rotate_left 1; (intro w hSw; (try dsimp only at hSw); go_simp); (try with_reducible rfl)); (try simp only [Act.put,Q3,Q4,Q5]))
  (refine wpAnyH_take (i:=18) (v:=?_) (by (simp only [Q0,Q1,Q2]; rfl)) (by kernel_rfl) (by kernel_rfl) (by kernel_rfl) (by exact fun _ _ _ h => h) (Or.inl ⟨by rfl,?_⟩) (by assumption) ?_; (rotate_left 1; (intro w hSw; (try dsimp only at hSw); go_simp); (try with_reducible rfl)); (try simp only [Act.put,Q3,Q4,Q5]))
  (refine wpAnyH_take (i:=19) (v:=?_) (by (simp only [Q0,Q1,Q2]; rfl)) (by kernel_rfl) (by kernel_rfl) (by kernel_rfl) (by exact fun _ _ _ h => h) (Or.inl ⟨by rfl,?_⟩) (by assumption) ?_; (rotate_left 1; (intro w hSw; (try dsimp only at hSw); go_simp); (try with_reducible rfl)); (try simp only [Act.put,Q3,Q4,Q5]))
  refine wpAnyH_ready (rs:=[2,8]) (by kernel_rfl) (by simp) ?_
  refine AllReadyH.cons rfl (fun K hK => ?_) (AllReadyH.cons rfl (fun K hK => ?_) AllReadyH.nil)
  case refine_1 =>
   go_simp
   go_at_call 158
   refine (things_fx M R D _ hc.map hc.fm).mono ?_
   rintro e w1 ⟨rfl,hb⟩
   have hc:=hc.below hb
   go_wp2_with fail
   refine hK.out _ _ (hc.map.cells) (fun hHeld => ?_)
   clear hK K
   (try simp only [Act.put,Q3,Q4,Q5])
   refine wpAnyH_ready (rs:=[8,14]) (by kernel_rfl) (by simp) ?_
   refine AllReadyH.cons rfl (fun K hK => ?_) (AllReadyH.cons rfl (fun K hK => ?_) AllReadyH.nil)
   case refine_1 =>
    go_simp
    have zo:=hc.bel.size
    have ho : Blk (w1.alloc (.cells #[.slice none 0 0,.slice none 0 0] 22)) w1.heap.size 22 #[.slice none 0 0,.slice none 0 0]:=Blk.new _ _ _
    have hc:=hc.alloc (.cells #[.slice none 0 0,.slice none 0 0] 22)
    refine hK.out _ _ (hc.map.cells) (fun hHeld => ?_)
    clear hK K
    (try simp only [Act.put,Q3,Q4,Q5])
    refine wpAnyH_ready (rs:=[14]) (by kernel_rfl) (by simp) ?_
    refine AllReadyH.cons rfl (fun K hK => ?_) AllReadyH.nil
    go_simp
    go_at_call 157
    refine (room_a M R D _ hc.map hc.fm).mono ?_
    rintro e w2 ⟨rfl,hb⟩
    have hc:=hc.below hb
    have ho:=ho.below hb
    go_wp2_with fail
    refine hK.out _ _ (hc.map.cells) (fun hHeld => ?_)
    clear hK K
    (try simp only [Act.put,Q3,Q4,Q5])
    refine wpAnyH_ready (rs:=[20]) (by kernel_rfl) (by simp) ?_
    refine AllReadyH.cons rfl (fun K hK => ?_) AllReadyH.nil
    go_simp
    go_at_call 157
    refine (room_b M R D _ hc.map hc.fm).mono ?_
    rintro e w3 ⟨rfl,hb⟩
    have hc:=hc.below hb
    have ho:=ho.below hb
    go_wp2_with fail
    refine hK.out _ _ (hc.map.cells) (fun hHeld => ?_)
    clear hK K
    (try simp only [Act.put,Q3,Q4,Q5])
    (refine wpAnyH_take (i:=21) (v:=?_) (by (simp only [Q0,Q1,Q2]; rfl)) (by kernel_rfl) (by kernel_rfl) (by kernel_rfl) (by exact fun _ _ _ h => h) (Or.inl ⟨by rfl,?_⟩) (by assumption) ?_; (rotate_left 1; (intro w hSw; (try dsimp only at hSw); go_simp); (try with_reducible rfl)); (try simp only [Act.put,Q3,Q4,Q5]))
    refine wpAnyH_ready (rs:=[22]) (by kernel_rfl) (by simp) ?_
    refine AllReadyH.cons rfl (fun K hK => ?_) AllReadyH.nil
    go_simp
    have zp:=hc.bel.size
    refine hK.out _ _ ((hc.alloc _).map.cells) (fun hHeld => ?_)
    clear hK K
    (try simp only [Act.put,Q3,Q4,Q5])
    (refine wpAnyH_take (i:=23) (v:=?_) (by (simp only [Q0,Q1,Q2]; rfl)) (by kernel_rfl) (by kernel_rfl) (by kernel_rfl) (by exact fun _ _ _ h => h) (Or.inl ⟨by rfl,?_⟩) (by assumption) ?_; (rotate_left 1; (intro w hSw; (try dsimp only at hSw); go_simp); (try with_reducible rfl)); (try simp only [Act.put,Q3,Q4,Q5]))
    refine wpAnyH_done (by kernel_rfl) ?_ _
    go_wp2_with fail
    go_meet
    exact ⟨_,_,rfl,by omega,by first | omega | (simp; omega) | simp,(by first | exact Blk.new _ _ _ | exact Blk.at_ _ (by simp)),ho.alloc _,hc.alloc _⟩
   case refine_2 =>
    go_simp
    go_at_call 157
    refine (room_a M R D _ hc.map hc.fm).mono ?_
    rintro e w2 ⟨rfl,hb⟩
    have hc:=hc.below hb
    go_wp2_with fail
    refine hK.out _ _ (hc.map.cells) (fun hHeld => ?_)
    clear hK K
    (try simp only [Act.put,Q3,Q4,Q5])
    refine wpAnyH_ready (rs:=[8,20]) (by kernel_rfl) (by simp) ?_
    refine AllReadyH.cons rfl (fun K hK => ?_) (AllReadyH.cons rfl (fun K hK => ?_) AllReadyH.nil)
    case refine_1 =>
     go_simp
     have zo:=hc.bel.size
     have ho : Blk (w2.alloc (.cells #[.slice none 0 0,.slice none 0 0] 22)) w2.heap.size 22 #[.slice none 0 0,.slice none 0 0]:=Blk.new _ _ _
     have hc:=hc.alloc (.cells #[.slice none 0 0,.slice none 0 0] 22)
     refine hK.out _ _ (hc.map.cells) (fun hHeld => ?_)
     clear hK K
     (try simp only [Act.put,Q3,Q4,Q5])
     refine wpAnyH_ready (rs:=[20]) (by kernel_rfl) (by simp) ?_
     refine AllReadyH.cons rfl (fun K hK => ?_) AllReadyH.nil
     go_simp
     go_at_call 157
     refine (room_b M R D _ hc.map hc.fm).mono ?_
     rintro e w3 ⟨rfl,hb⟩
     have hc:=hc.below hb
     have ho:=ho.below hb
     go_wp2_with fail
     refine hK.out _ _ (hc.map.cells) (fun hHeld => ?_)
     clear hK K
     (try simp only [Act.put,Q3,Q4,Q5])
     (refine wpAnyH_take (i:=21) (v:=?_) (by (simp only [Q0,Q1,Q2]; rfl)) (by kernel_rfl) (by kernel_rfl) (by kernel_rfl) (by exact fun _ _ _ h => h) (Or.inl ⟨by rfl,?_⟩) (by assumption) ?_; (rotate_left 1; (intro w hSw; (try dsimp only at hSw); go_simp); (try with_reducible rfl)); (try simp only [Act.put,Q3,Q4,Q5]))
     refine wpAnyH_ready (rs:=[22]) (by kernel_rfl) (by simp) ?_
     refine AllReadyH.cons rfl (fun K hK => ?_) AllReadyH.nil
     go_simp
     have zp:=hc.bel.size
     refine hK.out _ _ ((hc.alloc _).map.cells) (fun hHeld => ?_)
     clear hK K
     (try simp only [Act.put,Q3,Q4,Q5])
     (refine wpAnyH_take (i:=23) (v:=?_) (by (simp only [Q0,Q1,Q2]; rfl)) (by kernel_rfl) (by kernel_rfl) (by kernel_rfl) (by exact fun _ _ _ h => h) (Or.inl ⟨by rfl,?_⟩) (by assumption) ?_; (rotate_left 1; (intro w hSw; (try dsimp only at hSw); go_simp); (try with_reducible rfl)); (try simp only [Act.put,Q3,Q4,Q5]))
     refine wpAnyH_done (by kernel_rfl) ?_ _
     go_wp2_with fail
     go_meet
     exact ⟨_,_,rfl,by omega,by first | omega | (simp; omega) | simp,(by first | exact Blk.new _ _ _ | exact Blk.at_ _ (by simp)),ho.alloc _,hc.alloc _⟩
    case refine_2 =>
     go_simp
     go_at_call 157
     refine (room_b M R D _ hc.map hc.fm).mono ?_
     rintro e w3 ⟨rfl,hb⟩
     have hc:=hc.below hb
     go_wp2_with fail
     refine hK.out _ _ (hc.map.cells) (fun hHeld => ?_)
     clear hK K
     (try simp only [Act.put,Q3,Q4,Q5])
     refine wpAnyH_ready (rs:=[8]) (by kernel_rfl) (by simp) ?_
     refine AllReadyH.cons rfl (fun K hK => ?_) AllReadyH.nil
     go_simp
     have zo:=hc.bel.size
     have ho : Blk (w3.alloc (.cells #[.slice none 0 0,.slice none 0 0] 22)) w3.heap.size 22 #[.slice none 0 0,.slice none 0 0]:=Blk.new _ _ _
     have hc:=hc.alloc (.cells #[.slice none 0 0,.slice none 0 0] 22)
     refine hK.out _ _ (hc.map.cells) (fun hHeld => ?_)
     clear hK K
     (try simp only [Act.put,Q3,Q4,Q5])
     (refine wpAnyH_take (i:=21) (v:=?_) (by (simp only [Q0,Q1,Q2]; rfl)) (by kernel_rfl) (by kernel_rfl) (by kernel_rfl) (by exact fun _ _ _ h => h) (Or.inl ⟨by rfl,?_⟩) (by assumption) ?_; (rotate_left 1; (intro w hSw; (try dsimp only at hSw); go_simp); (try with_reducible rfl)); (try simp only [Act.put,Q3,Q4,Q5]))
     refine wpAnyH_ready (rs:=[22]) (by kernel_rfl) (by simp) ?_
     refine AllReadyH.cons rfl (fun K hK => ?_) AllReadyH.nil
     go_simp
     have zp:=hc.bel.size
     refine hK.out _ _ ((hc.alloc _).map.cells) (fun hHeld => ?_)
     clear hK K
     (try simp only [Act.put,Q3,Q4,Q5])
     (refine wpAnyH_take (i:=23) (v:=?_) (by (simp only [Q0,Q1,Q2]; rfl)) (by kernel_rfl) (by kernel_rfl) (by kernel_rfl) (by exact fun _ _ _ h => h) (Or.inl ⟨by rfl,?_⟩) (by assumption) ?_; (rotate_left 1; (intro w hSw; (try dsimp only at hSw); go_simp); (try with_reducible rfl)); (try simp only [Act.put,Q3,Q4,Q5]))
     refine wpAnyH_done (by kernel_rfl) ?_ _
     go_wp2_with fail
     go_meet
     exact ⟨_,_,rfl,by omega,by first | omega | (simp; omega) | simp,(by first | exact Blk.new _ _ _ | exact Blk.at_ _ (by simp)),ho.alloc _,hc.alloc _⟩
  case refine_2 =>
   go_simp
   have zo:=hc.bel.size
   have ho : Blk (w.drew.alloc (.cells #[.slice none 0 0,.slice none 0 0] 22)) w.drew.heap.size 22 #[.slice none 0 0,.slice none 0 0]:=Blk.new _ _ _
   have hc:=hc.alloc (.cells #[.slice none 0 0,.slice none 0 0] 22)
   refine hK.out _ _ (hc.map.cells) (fun hHeld => ?_)
   clear hK K
   (try simp only [Act.put,Q3,Q4,Q5])
   refine wpAnyH_ready (rs:=[2]) (by kernel_rfl) (by simp) ?_
   refine AllReadyH.cons rfl (fun K hK => ?_) AllReadyH.nil
   go_simp
   go_at_call 158
   refine (things_fx M R D _ hc.map hc.fm).mono ?_
   rintro e w1 ⟨rfl,hb⟩
   have hc:=hc.below hb
   have ho:=ho.below hb
   go_wp2_with fail
   refine hK.out _ _ (hc.map.cells) (fun hHeld => ?_)
   clear hK K
   (try simp only [Act.put,Q3,Q4,Q5])
   refine wpAnyH_ready (rs:=[14]) (by kernel_rfl) (by simp) ?_
   refine AllReadyH.cons rfl (fun K hK => ?_) AllReadyH.nil
   go_simp
   go_at_call 157
   refine (room_a M R D _ hc.map hc.fm).mono ?_
   rintro e w2 ⟨rfl,hb⟩
   have hc:=hc.below hb
   have ho:=ho.below hb
   go_wp2_with fail
   refine hK.out _ _ (hc.map.cells) (fun hHeld => ?_)
   clear hK K
   (try simp only [Act.put,Q3,Q4,Q5])
   refine wpAnyH_ready (rs:=[20]) (by kernel_rfl) (by simp) ?_
   refine AllReadyH.cons rfl (fun K hK => ?_) AllReadyH.nil
   go_simp
   go_at_call 157
   refine (room_b M R D _ hc.map hc.fm).mono ?_
   rintro e w3 ⟨rfl,hb⟩
   have hc:=hc.below hb
   have ho:=ho.below hb
   go_wp2_with fail
   refine hK.out _ _ (hc.map.cells) (fun hHeld => ?_)
   clear hK K
   (try simp only [Act.put,Q3,Q4,Q5])
   (refine wpAnyH_take (i:=21) (v:=?_) (by (simp only [Q0,Q1,Q2]; rfl)) (by kernel_rfl) (by kernel_rfl) (by kernel_rfl) (by exact fun _ _ _ h => h) (Or.inl ⟨by rfl,?_⟩) (by assumption) ?_; (rotate_left 1; (intro w hSw; (try dsimp only at hSw); go_simp); (try with_reducible rfl)); (try simp only [Act.put,Q3,Q4,Q5]))
   refine wpAnyH_ready (rs:=[22]) (by kernel_rfl) (by simp) ?_
   refine AllReadyH.cons rfl (fun K hK => ?_) AllReadyH.nil
   go_simp
   have zp:=hc.bel.size
   refine hK.out _ _ ((hc.alloc _).map.cells) (fun hHeld => ?_)
   clear hK K
   (try simp only [Act.put,Q3,Q4,Q5])
   (refine wpAnyH_take (i:=23) (v:=?_) (by (simp only [Q0,Q1,Q2]; rfl)) (by kernel_rfl) (by kernel_rfl) (by kernel_rfl) (by exact fun _ _ _ h => h) (Or.inl ⟨by rfl,?_⟩) (by assumption) ?_; (rotate_left 1; (intro w hSw; (try dsimp only at hSw); go_simp); (try with_reducible rfl)); (try simp only [Act.put,Q3,Q4,Q5]))
   refine wpAnyH_done (by kernel_rfl) ?_ _
   go_wp2_with fail
   go_meet
   exact ⟨_,_,rfl,by omega,by first | omega | (simp; omega) | simp,(by first | exact Blk.new _ _ _ | exact Blk.at_ _ (by simp)),ho.alloc _,hc.alloc _⟩
 case rest =>
  clear hmk
  obtain ⟨p,go,rfl,hzp,hzo,hp,ho,hn⟩:=hcut
  have hgp:=Blk.ne ho hp (by decide)
  have zR:=hf.rooms.lt
  have zD:=hf.doors.lt
  obtain ⟨m0,m1,m2,m3⟩:=hn.map.cells
  have zm':=hn.map.lt
  clear hc
  go_wp2_with fail
  go_loopw [41] (fun i wr => (i = .int .i64 0 ∧ ∃ (A5 : Option Addr) (c5 : Nat),Blk wr p 255 #[.pointer (some ⟨M,0,none⟩),.slice none 0 0,.slice A5 0 c5,.slice none 0 0,.slice (some ⟨go,0,none⟩) 2 2,.int .i64 0,.int .i64 1] ∧ Blk wr go 22 #[.slice none 0 0,.slice none 0 0] ∧ NC w wr M R D ∧ wr.ownsRow w.heap.size 3 1 (.slice A5 0 c5) 0 ([])) ∨ (i = .int .i64 1 ∧ ∃ (A5 : Option Addr) (c5 : Nat),Blk wr p 255 #[.pointer (some ⟨M,0,none⟩),.slice none 0 0,.slice A5 1 c5,.slice none 0 0,.slice (some ⟨go,0,none⟩) 2 2,.int .i64 0,.int .i64 1] ∧ Blk wr go 22 #[.slice none 0 0,.slice none 0 0] ∧ NC w wr M R D ∧ wr.ownsRow w.heap.size 3 1 (.slice A5 1 c5) 1 (ints [0])) ∨ (i = .int .i64 2 ∧ ∃ (A5 : Option Addr) (c5 : Nat),Blk wr p 255 #[.pointer (some ⟨M,0,none⟩),.slice none 0 0,.slice A5 2 c5,.slice none 0 0,.slice (some ⟨go,0,none⟩) 2 2,.int .i64 0,.int .i64 1] ∧ Blk wr go 22 #[.slice none 0 0,.slice none 0 0] ∧ NC w wr M R D ∧ wr.ownsRow w.heap.size 3 1 (.slice A5 2 c5) 2 (ints [0,0]))) (fun i _ => 2 - (intOf i).toNat)
  case atStart => exact .inl ⟨rfl,none,0,hp,ho,hn,World.ownsRow_nil _ _ _ _⟩
  case round =>
   clear hp ho hn
   rcases hrel with ⟨rfl,A,c,hp,ho,hn,hown⟩ | ⟨rfl,A,c,hp,ho,hn,hown⟩ | ⟨rfl,A,c,hp,ho,hn,hown⟩
   ·obtain ⟨r0,r1,r2,r3⟩:=hn.fm.room
    have zr':=hn.fm.rooms.lt
    have zpp:=hp.lt
    have zoo:=ho.lt
    have zbb:=hn.bel.size
    go_upto_region 5 with (fail)
    have hv : Blk (wr.alloc (.cells #[.string ⟨#[97]⟩,.slice none 0 0] 124)) wr.heap.size 124 #[.string ⟨#[97]⟩,.slice none 0 0]:=Blk.new _ _ _
    have hp:=hp.alloc (.cells #[.string ⟨#[97]⟩,.slice none 0 0] 124)
    have ho:=ho.alloc (.cells #[.string ⟨#[97]⟩,.slice none 0 0] 124)
    have hn:=hn.alloc (.cells #[.string ⟨#[97]⟩,.slice none 0 0] 124)
    have hown:=hown.alloc (.cells #[.string ⟨#[97]⟩,.slice none 0 0] 124)
    have zvv:=hv.lt
    have zpv : p ≠ wr.heap.size:=by omega
    generalize hV : wr.heap.size = v at *
    generalize wr.alloc (.cells #[.string ⟨#[97]⟩,.slice none 0 0] 124) = X at *
    clear hV r0 r1 r2 r3 zr' zpp zoo zbb m0 m1 m2 m3 zm'
    have hpd:=hp.drew
    have hvd:=hv.drew
    have hod:=ho.drew
    have hnd:=hn.drew
    have hownd : X.drew.ownsRow w.heap.size 3 1 (.slice A 0 c) 0 ([]):=hown
    obtain ⟨p0,p1,p2,p3,p4,p5,p6⟩:=hpd.w7
    have p2' : X.cell? ⟨p,2,none⟩ = some (.slice A 0 c):=p2
    have zpp : p < X.heap.size:=hpd.lt
    have zvv' : v < X.heap.size:=hvd.lt
    have zoo : go < X.heap.size:=hod.lt
    have zbb : w.heap.size ≤ X.heap.size:=hnd.bel.size
    clear hp hv ho hn hown zvv
    refine wp_region_held_drew (S:=(fun w' => w'.cell? ⟨v,1,none⟩ = some (.slice none 0 0))) (by kernel_rfl) (hvd.w2.2) (fun hHeld => ?_)
    (refine wpAnyH_take (i:=0) (v:=?_) (by (simp only [Q0,Q2]; rfl)) (by kernel_rfl) (by kernel_rfl) (by kernel_rfl) (by exact fun _ _ _ h => h) (Or.inl ⟨by rfl,?_⟩) (by assumption) ?_; (rotate_left 1; (intro w hSw; (try dsimp only at hSw); go_simp); (try with_reducible rfl)); (try simp only [Act.put,Q3,Q4,Q5]))
    (refine wpAnyH_take (i:=1) (v:=?_) (by (simp only [Q0,Q1,Q2]; rfl)) (by kernel_rfl) (by kernel_rfl) (by kernel_rfl) (by exact fun _ _ _ h => h) (Or.inl ⟨by rfl,?_⟩) (by assumption) ?_; (rotate_left 1; (intro w hSw; (try dsimp only at hSw); go_simp); (try with_reducible rfl)); (try simp only [Act.put,Q3,Q4,Q5]))
    (refine wpAnyH_take (i:=2) (v:=?_) (by (simp only [Q0,Q1,Q2]; rfl)) (by kernel_rfl) (by kernel_rfl) (by kernel_rfl) (by exact fun _ _ _ h => h) (Or.inl ⟨by rfl,?_⟩) (by assumption) ?_; (rotate_left 1; (intro w hSw; (try dsimp only at hSw); go_simp); (try with_reducible rfl)); (try simp only [Act.put,Q3,Q4,Q5]))
    (refine wpAnyH_take (i:=3) (v:=?_) (by (simp only [Q0,Q1,Q2]; rfl)) (by kernel_rfl) (by kernel_rfl) (by kernel_rfl) (by exact fun _ _ _ h => h) (Or.inl ⟨by rfl,?_⟩) (by assumption) ?_; (rotate_left 1; (intro w hSw; (try dsimp only at hSw); go_simp); (try with_reducible rfl)); (try simp only [Act.put,Q3,Q4,Q5]))
    (refine wpAnyH_take (i:=5) (v:=?_) (by (simp only [Q0,Q1,Q2]; rfl)) (by kernel_rfl) (by kernel_rfl) (by kernel_rfl) (by exact fun _ _ _ h => h) (Or.inl ⟨by rfl,?_⟩) (by assumption) ?_; (rotate_left 1; (intro w hSw; (try dsimp only at hSw); go_simp); (try with_reducible rfl)); (try simp only [Act.put,Q3,Q4,Q5]))
    (refine wpAnyH_take (i:=6) (v:=?_) (by (simp only [Q0,Q1,Q2]; rfl)) (by kernel_rfl) (by kernel_rfl) (by kernel_rfl) (by exact fun _ _ _ h => h) (Or.inl ⟨by rfl,?_⟩) (by assumption) ?_; (rotate_left 1; (intro w hSw; (try dsimp only at hSw); go_simp); (try with_reducible rfl)); (try simp only [Act.put,Q3,Q4,Q5]))
    (refine wpAnyH_take (i:=7) (v:=?_) (by (simp only [Q0,Q1,Q2]; rfl)) (by kernel_rfl) (by kernel_rfl) (by kernel_rfl) (by exact fun _ _ _ h => h) (Or.inl ⟨by rfl,?_⟩) (by assumption) ?_; (rotate_left 1; (intro w hSw; (try dsimp only at hSw); go_simp); (try with_reducible rfl)); (try simp only [Act.put,Q3,Q4,Q5]))
    refine wpAnyH_ready (rs:=[4,8]) (by kernel_rfl) (by simp) ?_
    refine AllReadyH.cons rfl (fun K hK => ?_) (AllReadyH.cons rfl (fun K hK => ?_) AllReadyH.nil)
    case refine_1 =>
     go_simp
     refine hK.out _ _ (hvd.w2.2) (fun hHeld => ?_)
     clear hK K
     (try simp only [Act.put,Q3,Q4,Q5])
     refine wpAnyH_ready (rs:=[8]) (by kernel_rfl) (by simp) ?_
     refine AllReadyH.cons rfl (fun K hK => ?_) AllReadyH.nil
     go_simp
     go_at_call 161
     refine (bits_none p _).mono ?_
     rintro e wb ⟨rfl,rfl⟩
     go_wp2_with fail
     refine hK.out _ _ (hvd.w2.2) (fun hHeld => ?_)
     clear hK K
     (try simp only [Act.put,Q3,Q4,Q5])
     refine wpAnyH_ready (rs:=[9]) (by kernel_rfl) (by simp) ?_
     refine AllReadyH.cons rfl (fun K hK => ?_) AllReadyH.nil
     go_simp
     refine hK.out _ _ ((hvd.alloc _).w2.2) (fun hHeld => ?_)
     clear hK K
     (try simp only [Act.put,Q3,Q4,Q5])
     refine wpAnyH_ready (rs:=[10]) (by kernel_rfl) (by simp) ?_
     refine AllReadyH.cons rfl (fun K hK => ?_) AllReadyH.nil
     refine step_app (lo:=w.heap.size) (base:=w.heap.size) (n:=0) (xs:=[]) _ rfl _ _ ty_intz rfl (hownd.alloc _) rfl (by first | exact row_new' _ (by first | rfl | simp) (by first | omega | (simp; omega)) rfl | exact row_newN _ _ (by first | rfl | simp) (by first | omega | (simp; omega)) rfl | exact row_newD _ (by first | rfl | simp) (by first | omega | (simp; omega)) rfl) rfl rfl (by decide) (by decide) (by first | omega | (simp; omega)) ?_
     intro A5 c5 w5 hown5 hg5 _
     have hv5:=Blk.app (hownd.alloc _) (hvd.alloc _) hg5 (by decide)
     have hp5:=Blk.app (hownd.alloc _) (hpd.alloc _) hg5 (by decide)
     have ho5:=Blk.app (hownd.alloc _) (hod.alloc _) hg5 (by decide)
     have hn5:=NC.app (hownd.alloc _) (hnd.alloc _) hg5 (Nat.le_refl _) zm zR zD
     obtain ⟨t0,t1,t2,t3,t4,t5,t6⟩:=hp5.w7
     have f2:=hp5.thaw 2
     have zp5:=hp5.lt
     refine hK.out _ _ (hv5.w2.2) (fun hHeld => ?_)
     clear hK K
     (try simp only [Act.put,Q3,Q4,Q5])
     (refine wpAnyH_take (i:=11) (v:=?_) (by (simp only [Q0,Q1,Q2]; rfl)) (by kernel_rfl) (by kernel_rfl) (by kernel_rfl) (by exact fun _ _ _ h => h) (Or.inl ⟨by rfl,?_⟩) (by assumption) ?_; (rotate_left 1; (intro w hSw; (try dsimp only at hSw); go_simp); (try with_reducible rfl)); (try simp only [Act.put,Q3,Q4,Q5]))
     (refine wpAnyH_take (i:=12) (v:=?_) (by (simp only [Q0,Q1,Q2]; rfl)) (by kernel_rfl) (by kernel_rfl) (by kernel_rfl) (by exact fun _ _ _ h => h) (Or.inl ⟨by rfl,?_⟩) (by assumption) ?_; (rotate_left 1; (intro w hSw; (try dsimp only at hSw); go_simp); (try with_reducible rfl)); (try simp only [Act.put,Q3,Q4,Q5]))
     refine wpAnyH_ready (rs:=[13]) (by kernel_rfl) (by simp) ?_
     refine AllReadyH.cons rfl (fun K hK => ?_) AllReadyH.nil
     go_simp
     refine hK.out _ _ ((hv5.past p 2 _ zpv.symm).w2.2) (fun hHeld => ?_)
     clear hK K
     (try simp only [Act.put,Q3,Q4,Q5])
     refine wpAnyH_done (by kernel_rfl) ?_ _
     go_wp2_with fail
     go_roundw
     case rel => exact .inr (.inl ⟨rfl,A5,c5,by simpa using hp5.poke 2 (.slice A5 1 c5),ho5.past p 2 _ hgp,hn5.poke p 2 _ hzp zm zR zD,own_past hown5 hp5 (by decide) 2 _⟩)
     case measure => simp [intOf]
    case refine_2 =>
     go_simp
     go_at_call 161
     refine (bits_none p _).mono ?_
     rintro e wb ⟨rfl,rfl⟩
     go_wp2_with fail
     refine hK.out _ _ (hvd.w2.2) (fun hHeld => ?_)
     clear hK K
     (try simp only [Act.put,Q3,Q4,Q5])
     refine wpAnyH_ready (rs:=[4,9]) (by kernel_rfl) (by simp) ?_
     refine AllReadyH.cons rfl (fun K hK => ?_) (AllReadyH.cons rfl (fun K hK => ?_) AllReadyH.nil)
     case refine_1 =>
      go_simp
      refine hK.out _ _ (hvd.w2.2) (fun hHeld => ?_)
      clear hK K
      (try simp only [Act.put,Q3,Q4,Q5])
      refine wpAnyH_ready (rs:=[9]) (by kernel_rfl) (by simp) ?_
      refine AllReadyH.cons rfl (fun K hK => ?_) AllReadyH.nil
      go_simp
      refine hK.out _ _ ((hvd.alloc _).w2.2) (fun hHeld => ?_)
      clear hK K
      (try simp only [Act.put,Q3,Q4,Q5])
      refine wpAnyH_ready (rs:=[10]) (by kernel_rfl) (by simp) ?_
      refine AllReadyH.cons rfl (fun K hK => ?_) AllReadyH.nil
      refine step_app (lo:=w.heap.size) (base:=w.heap.size) (n:=0) (xs:=[]) _ rfl _ _ ty_intz rfl (hownd.alloc _) rfl (by first | exact row_new' _ (by first | rfl | simp) (by first | omega | (simp; omega)) rfl | exact row_newN _ _ (by first | rfl | simp) (by first | omega | (simp; omega)) rfl | exact row_newD _ (by first | rfl | simp) (by first | omega | (simp; omega)) rfl) rfl rfl (by decide) (by decide) (by first | omega | (simp; omega)) ?_
      intro A5 c5 w5 hown5 hg5 _
      have hv5:=Blk.app (hownd.alloc _) (hvd.alloc _) hg5 (by decide)
      have hp5:=Blk.app (hownd.alloc _) (hpd.alloc _) hg5 (by decide)
      have ho5:=Blk.app (hownd.alloc _) (hod.alloc _) hg5 (by decide)
      have hn5:=NC.app (hownd.alloc _) (hnd.alloc _) hg5 (Nat.le_refl _) zm zR zD
      obtain ⟨t0,t1,t2,t3,t4,t5,t6⟩:=hp5.w7
      have f2:=hp5.thaw 2
      have zp5:=hp5.lt
      refine hK.out _ _ (hv5.w2.2) (fun hHeld => ?_)
      clear hK K
      (try simp only [Act.put,Q3,Q4,Q5])
      (refine wpAnyH_take (i:=11) (v:=?_) (by (simp only [Q0,Q1,Q2]; rfl)) (by kernel_rfl) (by kernel_rfl) (by kernel_rfl) (by exact fun _ _ _ h => h) (Or.inl ⟨by rfl,?_⟩) (by assumption) ?_; (rotate_left 1; (intro w hSw; (try dsimp only at hSw); go_simp); (try with_reducible rfl)); (try simp only [Act.put,Q3,Q4,Q5]))
      (refine wpAnyH_take (i:=12) (v:=?_) (by (simp only [Q0,Q1,Q2]; rfl)) (by kernel_rfl) (by kernel_rfl) (by kernel_rfl) (by exact fun _ _ _ h => h) (Or.inl ⟨by rfl,?_⟩) (by assumption) ?_; (rotate_left 1; (intro w hSw; (try dsimp only at hSw); go_simp); (try with_reducible rfl)); (try simp only [Act.put,Q3,Q4,Q5]))
      refine wpAnyH_ready (rs:=[13]) (by kernel_rfl) (by simp) ?_
      refine AllReadyH.cons rfl (fun K hK => ?_) AllReadyH.nil
      go_simp
      refine hK.out _ _ ((hv5.past p 2 _ zpv.symm).w2.2) (fun hHeld => ?_)
      clear hK K
      (try simp only [Act.put,Q3,Q4,Q5])
      refine wpAnyH_done (by kernel_rfl) ?_ _
      go_wp2_with fail
      go_roundw
      case rel => exact .inr (.inl ⟨rfl,A5,c5,by simpa using hp5.poke 2 (.slice A5 1 c5),ho5.past p 2 _ hgp,hn5.poke p 2 _ hzp zm zR zD,own_past hown5 hp5 (by decide) 2 _⟩)
      case measure => simp [intOf]
     case refine_2 =>
      go_simp
      refine hK.out _ _ ((hvd.alloc _).w2.2) (fun hHeld => ?_)
      clear hK K
      (try simp only [Act.put,Q3,Q4,Q5])
      refine wpAnyH_ready (rs:=[4]) (by kernel_rfl) (by simp) ?_
      refine AllReadyH.cons rfl (fun K hK => ?_) AllReadyH.nil
      go_simp
      refine hK.out _ _ ((hvd.alloc _).w2.2) (fun hHeld => ?_)
      clear hK K
      (try simp only [Act.put,Q3,Q4,Q5])
      refine wpAnyH_ready (rs:=[10]) (by kernel_rfl) (by simp) ?_
      refine AllReadyH.cons rfl (fun K hK => ?_) AllReadyH.nil
      refine step_app (lo:=w.heap.size) (base:=w.heap.size) (n:=0) (xs:=[]) _ rfl _ _ ty_intz rfl (hownd.alloc _) rfl (by first | exact row_new' _ (by first | rfl | simp) (by first | omega | (simp; omega)) rfl | exact row_newN _ _ (by first | rfl | simp) (by first | omega | (simp; omega)) rfl | exact row_newD _ (by first | rfl | simp) (by first | omega | (simp; omega)) rfl) rfl rfl (by decide) (by decide) (by first | omega | (simp; omega)) ?_
      intro A5 c5 w5 hown5 hg5 _
      have hv5:=Blk.app (hownd.alloc _) (hvd.alloc _) hg5 (by decide)
      have hp5:=Blk.app (hownd.alloc _) (hpd.alloc _) hg5 (by decide)
      have ho5:=Blk.app (hownd.alloc _) (hod.alloc _) hg5 (by decide)
      have hn5:=NC.app (hownd.alloc _) (hnd.alloc _) hg5 (Nat.le_refl _) zm zR zD
      obtain ⟨t0,t1,t2,t3,t4,t5,t6⟩:=hp5.w7
      have f2:=hp5.thaw 2
      have zp5:=hp5.lt
      refine hK.out _ _ (hv5.w2.2) (fun hHeld => ?_)
      clear hK K
      (try simp only [Act.put,Q3,Q4,Q5])
      (refine wpAnyH_take (i:=11) (v:=?_) (by (simp only [Q0,Q1,Q2]; rfl)) (by kernel_rfl) (by kernel_rfl) (by kernel_rfl) (by exact fun _ _ _ h => h) (Or.inl ⟨by rfl,?_⟩) (by assumption) ?_; (rotate_left 1; (intro w hSw; (try dsimp only at hSw); go_simp); (try with_reducible rfl)); (try simp only [Act.put,Q3,Q4,Q5]))
      (refine wpAnyH_take (i:=12) (v:=?_) (by (simp only [Q0,Q1,Q2]; rfl)) (by kernel_rfl) (by kernel_rfl) (by kernel_rfl) (by exact fun _ _ _ h => h) (Or.inl ⟨by rfl,?_⟩) (by assumption) ?_; (rotate_left 1; (intro w hSw; (try dsimp only at hSw); go_simp); (try with_reducible rfl)); (try simp only [Act.put,Q3,Q4,Q5]))
      refine wpAnyH_ready (rs:=[13]) (by kernel_rfl) (by simp) ?_
      refine AllReadyH.cons rfl (fun K hK => ?_) AllReadyH.nil
      go_simp
      refine hK.out _ _ ((hv5.past p 2 _ zpv.symm).w2.2) (fun hHeld => ?_)
      clear hK K
      (try simp only [Act.put,Q3,Q4,Q5])
      refine wpAnyH_done (by kernel_rfl) ?_ _
      go_wp2_with fail
      go_roundw
      case rel => exact .inr (.inl ⟨rfl,A5,c5,by simpa using hp5.poke 2 (.slice A5 1 c5),ho5.past p 2 _ hgp,hn5.poke p 2 _ hzp zm zR zD,own_past hown5 hp5 (by decide) 2 _⟩)
      case measure => simp [intOf]
   ·obtain ⟨r0,r1,r2,r3⟩:=hn.fm.room
    have zr':=hn.fm.rooms.lt
    have zpp:=hp.lt
    have zoo:=ho.lt
    have zbb:=hn.bel.size
    go_upto_region 5 with (fail)
    have hv : Blk (wr.alloc (.cells #[.string ⟨#[98]⟩,.slice none 0 0] 124)) wr.heap.size 124 #[.string ⟨#[98]⟩,.slice none 0 0]:=Blk.new _ _ _
    have hp:=hp.alloc (.cells #[.string ⟨#[98]⟩,.slice none 0 0] 124)
    have ho:=ho.alloc (.cells #[.string ⟨#[98]⟩,.slice none 0 0] 124)
    have hn:=hn.alloc (.cells #[.string ⟨#[98]⟩,.slice none 0 0] 124)
    have hown:=hown.alloc (.cells #[.string ⟨#[98]⟩,.slice none 0 0] 124)
    have zvv:=hv.lt
    have zpv : p ≠ wr.heap.size:=by omega
    generalize hV : wr.heap.size = v at *
    generalize wr.alloc (.cells #[.string ⟨#[98]⟩,.slice none 0 0] 124) = X at *
    clear hV r0 r1 r2 r3 zr' zpp zoo zbb m0 m1 m2 m3 zm'
    have hpd:=hp.drew
    have hvd:=hv.drew
    have hod:=ho.drew
    have hnd:=hn.drew
    have hownd : X.drew.ownsRow w.heap.size 3 1 (.slice A 1 c) 1 (ints [0]):=hown
    obtain ⟨p0,p1,p2,p3,p4,p5,p6⟩:=hpd.w7
    have p2' : X.cell? ⟨p,2,none⟩ = some (.slice A 1 c):=p2
    have zpp : p < X.heap.size:=hpd.lt
    have zvv' : v < X.heap.size:=hvd.lt
    have zoo : go < X.heap.size:=hod.lt
    have zbb : w.heap.size ≤ X.heap.size:=hnd.bel.size
    clear hp hv ho hn hown zvv
    refine wp_region_held_drew (S:=(fun w' => w'.cell? ⟨v,1,none⟩ = some (.slice none 0 0))) (by kernel_rfl) (hvd.w2.2) (fun hHeld => ?_)
    (refine wpAnyH_take (i:=0) (v:=?_) (by (simp only [Q0,Q2]; rfl)) (by kernel_rfl) (by kernel_rfl) (by kernel_rfl) (by exact fun _ _ _ h => h) (Or.inl ⟨by rfl,?_⟩) (by assumption) ?_; (rotate_left 1; (intro w hSw; (try dsimp only at hSw); go_simp); (try with_reducible rfl)); (try simp only [Act.put,Q3,Q4,Q5]))
    (refine wpAnyH_take (i:=1) (v:=?_) (by (simp only [Q0,Q1,Q2]; rfl)) (by kernel_rfl) (by kernel_rfl) (by kernel_rfl) (by exact fun _ _ _ h => h) (Or.inl ⟨by rfl,?_⟩) (by assumption) ?_; (rotate_left 1; (intro w hSw; (try dsimp only at hSw); go_simp); (try with_reducible rfl)); (try simp only [Act.put,Q3,Q4,Q5]))
    (refine wpAnyH_take (i:=2) (v:=?_) (by (simp only [Q0,Q1,Q2]; rfl)) (by kernel_rfl) (by kernel_rfl) (by kernel_rfl) (by exact fun _ _ _ h => h) (Or.inl ⟨by rfl,?_⟩) (by assumption) ?_; (rotate_left 1; (intro w hSw; (try dsimp only at hSw); go_simp); (try with_reducible rfl)); (try simp only [Act.put,Q3,Q4,Q5]))
    (refine wpAnyH_take (i:=3) (v:=?_) (by (simp only [Q0,Q1,Q2]; rfl)) (by kernel_rfl) (by kernel_rfl) (by kernel_rfl) (by exact fun _ _ _ h => h) (Or.inl ⟨by rfl,?_⟩) (by assumption) ?_; (rotate_left 1; (intro w hSw; (try dsimp only at hSw); go_simp); (try with_reducible rfl)); (try simp only [Act.put,Q3,Q4,Q5]))
    (refine wpAnyH_take (i:=5) (v:=?_) (by (simp only [Q0,Q1,Q2]; rfl)) (by kernel_rfl) (by kernel_rfl) (by kernel_rfl) (by exact fun _ _ _ h => h) (Or.inl ⟨by rfl,?_⟩) (by assumption) ?_; (rotate_left 1; (intro w hSw; (try dsimp only at hSw); go_simp); (try with_reducible rfl)); (try simp only [Act.put,Q3,Q4,Q5]))
    (refine wpAnyH_take (i:=6) (v:=?_) (by (simp only [Q0,Q1,Q2]; rfl)) (by kernel_rfl) (by kernel_rfl) (by kernel_rfl) (by exact fun _ _ _ h => h) (Or.inl ⟨by rfl,?_⟩) (by assumption) ?_; (rotate_left 1; (intro w hSw; (try dsimp only at hSw); go_simp); (try with_reducible rfl)); (try simp only [Act.put,Q3,Q4,Q5]))
    (refine wpAnyH_take (i:=7) (v:=?_) (by (simp only [Q0,Q1,Q2]; rfl)) (by kernel_rfl) (by kernel_rfl) (by kernel_rfl) (by exact fun _ _ _ h => h) (Or.inl ⟨by rfl,?_⟩) (by assumption) ?_; (rotate_left 1; (intro w hSw; (try dsimp only at hSw); go_simp); (try with_reducible rfl)); (try simp only [Act.put,Q3,Q4,Q5]))
    refine wpAnyH_ready (rs:=[4,8]) (by kernel_rfl) (by simp) ?_
    refine AllReadyH.cons rfl (fun K hK => ?_) (AllReadyH.cons rfl (fun K hK => ?_) AllReadyH.nil)
    case refine_1 =>
     go_simp
     refine hK.out _ _ (hvd.w2.2) (fun hHeld => ?_)
     clear hK K
     (try simp only [Act.put,Q3,Q4,Q5])
     refine wpAnyH_ready (rs:=[8]) (by kernel_rfl) (by simp) ?_
     refine AllReadyH.cons rfl (fun K hK => ?_) AllReadyH.nil
     go_simp
     go_at_call 161
     refine (bits_none p _).mono ?_
     rintro e wb ⟨rfl,rfl⟩
     go_wp2_with fail
     refine hK.out _ _ (hvd.w2.2) (fun hHeld => ?_)
     clear hK K
     (try simp only [Act.put,Q3,Q4,Q5])
     refine wpAnyH_ready (rs:=[9]) (by kernel_rfl) (by simp) ?_
     refine AllReadyH.cons rfl (fun K hK => ?_) AllReadyH.nil
     go_simp
     refine hK.out _ _ ((hvd.alloc _).w2.2) (fun hHeld => ?_)
     clear hK K
     (try simp only [Act.put,Q3,Q4,Q5])
     refine wpAnyH_ready (rs:=[10]) (by kernel_rfl) (by simp) ?_
     refine AllReadyH.cons rfl (fun K hK => ?_) AllReadyH.nil
     refine step_app (lo:=w.heap.size) (base:=w.heap.size) (n:=1) (xs:=ints [0]) _ rfl _ _ ty_intz rfl (hownd.alloc _) rfl (by first | exact row_new' _ (by first | rfl | simp) (by first | omega | (simp; omega)) rfl | exact row_newN _ _ (by first | rfl | simp) (by first | omega | (simp; omega)) rfl | exact row_newD _ (by first | rfl | simp) (by first | omega | (simp; omega)) rfl) rfl rfl (by decide) (by decide) (by first | omega | (simp; omega)) ?_
     intro A5 c5 w5 hown5 hg5 _
     have hv5:=Blk.app (hownd.alloc _) (hvd.alloc _) hg5 (by decide)
     have hp5:=Blk.app (hownd.alloc _) (hpd.alloc _) hg5 (by decide)
     have ho5:=Blk.app (hownd.alloc _) (hod.alloc _) hg5 (by decide)
     have hn5:=NC.app (hownd.alloc _) (hnd.alloc _) hg5 (Nat.le_refl _) zm zR zD
     obtain ⟨t0,t1,t2,t3,t4,t5,t6⟩:=hp5.w7
     have f2:=hp5.thaw 2
     have zp5:=hp5.lt
     refine hK.out _ _ (hv5.w2.2) (fun hHeld => ?_)
     clear hK K
     (try simp only [Act.put,Q3,Q4,Q5])
     (refine wpAnyH_take (i:=11) (v:=?_) (by (simp only [Q0,Q1,Q2]; rfl)) (by kernel_rfl) (by kernel_rfl) (by kernel_rfl) (by exact fun _ _ _ h => h) (Or.inl ⟨by rfl,?_⟩) (by assumption) ?_; (rotate_left 1; (intro w hSw; (try dsimp only at hSw); go_simp); (try with_reducible rfl)); (try simp only [Act.put,Q3,Q4,Q5]))
     (refine wpAnyH_take (i:=12) (v:=?_) (by (simp only [Q0,Q1,Q2]; rfl)) (by kernel_rfl) (by kernel_rfl) (by kernel_rfl) (by exact fun _ _ _ h => h) (Or.inl ⟨by rfl,?_⟩) (by assumption) ?_; (rotate_left 1; (intro w hSw; (try dsimp only at hSw); go_simp); (try with_reducible rfl)); (try simp only [Act.put,Q3,Q4,Q5]))
     refine wpAnyH_ready (rs:=[13]) (by kernel_rfl) (by simp) ?_
     refine AllReadyH.cons rfl (fun K hK => ?_) AllReadyH.nil
     go_simp
     refine hK.out _ _ ((hv5.past p 2 _ zpv.symm).w2.2) (fun hHeld => ?_)
     clear hK K
     (try simp only [Act.put,Q3,Q4,Q5])
     refine wpAnyH_done (by kernel_rfl) ?_ _
     go_wp2_with fail
     go_roundw
     case rel => exact .inr (.inr ⟨rfl,A5,c5,by simpa using hp5.poke 2 (.slice A5 2 c5),ho5.past p 2 _ hgp,hn5.poke p 2 _ hzp zm zR zD,own_past hown5 hp5 (by decide) 2 _⟩)
     case measure => simp [intOf]
    case refine_2 =>
     go_simp
     go_at_call 161
     refine (bits_none p _).mono ?_
     rintro e wb ⟨rfl,rfl⟩
     go_wp2_with fail
     refine hK.out _ _ (hvd.w2.2) (fun hHeld => ?_)
     clear hK K
     (try simp only [Act.put,Q3,Q4,Q5])
     refine wpAnyH_ready (rs:=[4,9]) (by kernel_rfl) (by simp) ?_
     refine AllReadyH.cons rfl (fun K hK => ?_) (AllReadyH.cons rfl (fun K hK => ?_) AllReadyH.nil)
     case refine_1 =>
      go_simp
      refine hK.out _ _ (hvd.w2.2) (fun hHeld => ?_)
      clear hK K
      (try simp only [Act.put,Q3,Q4,Q5])
      refine wpAnyH_ready (rs:=[9]) (by kernel_rfl) (by simp) ?_
      refine AllReadyH.cons rfl (fun K hK => ?_) AllReadyH.nil
      go_simp
      refine hK.out _ _ ((hvd.alloc _).w2.2) (fun hHeld => ?_)
      clear hK K
      (try simp only [Act.put,Q3,Q4,Q5])
      refine wpAnyH_ready (rs:=[10]) (by kernel_rfl) (by simp) ?_
      refine AllReadyH.cons rfl (fun K hK => ?_) AllReadyH.nil
      refine step_app (lo:=w.heap.size) (base:=w.heap.size) (n:=1) (xs:=ints [0]) _ rfl _ _ ty_intz rfl (hownd.alloc _) rfl (by first | exact row_new' _ (by first | rfl | simp) (by first | omega | (simp; omega)) rfl | exact row_newN _ _ (by first | rfl | simp) (by first | omega | (simp; omega)) rfl | exact row_newD _ (by first | rfl | simp) (by first | omega | (simp; omega)) rfl) rfl rfl (by decide) (by decide) (by first | omega | (simp; omega)) ?_
      intro A5 c5 w5 hown5 hg5 _
      have hv5:=Blk.app (hownd.alloc _) (hvd.alloc _) hg5 (by decide)
      have hp5:=Blk.app (hownd.alloc _) (hpd.alloc _) hg5 (by decide)
      have ho5:=Blk.app (hownd.alloc _) (hod.alloc _) hg5 (by decide)
      have hn5:=NC.app (hownd.alloc _) (hnd.alloc _) hg5 (Nat.le_refl _) zm zR zD
      obtain ⟨t0,t1,t2,t3,t4,t5,t6⟩:=hp5.w7
      have f2:=hp5.thaw 2
      have zp5:=hp5.lt
      refine hK.out _ _ (hv5.w2.2) (fun hHeld => ?_)
      clear hK K
      (try simp only [Act.put,Q3,Q4,Q5])
      (refine wpAnyH_take (i:=11) (v:=?_) (by (simp only [Q0,Q1,Q2]; rfl)) (by kernel_rfl) (by kernel_rfl) (by kernel_rfl) (by exact fun _ _ _ h => h) (Or.inl ⟨by rfl,?_⟩) (by assumption) ?_; (rotate_left 1; (intro w hSw; (try dsimp only at hSw); go_simp); (try with_reducible rfl)); (try simp only [Act.put,Q3,Q4,Q5]))
      (refine wpAnyH_take (i:=12) (v:=?_) (by (simp only [Q0,Q1,Q2]; rfl)) (by kernel_rfl) (by kernel_rfl) (by kernel_rfl) (by exact fun _ _ _ h => h) (Or.inl ⟨by rfl,?_⟩) (by assumption) ?_; (rotate_left 1; (intro w hSw; (try dsimp only at hSw); go_simp); (try with_reducible rfl)); (try simp only [Act.put,Q3,Q4,Q5]))
      refine wpAnyH_ready (rs:=[13]) (by kernel_rfl) (by simp) ?_
      refine AllReadyH.cons rfl (fun K hK => ?_) AllReadyH.nil
      go_simp
      refine hK.out _ _ ((hv5.past p 2 _ zpv.symm).w2.2) (fun hHeld => ?_)
      clear hK K
      (try simp only [Act.put,Q3,Q4,Q5])
      refine wpAnyH_done (by kernel_rfl) ?_ _
      go_wp2_with fail
      go_roundw
      case rel => exact .inr (.inr ⟨rfl,A5,c5,by simpa using hp5.poke 2 (.slice A5 2 c5),ho5.past p 2 _ hgp,hn5.poke p 2 _ hzp zm zR zD,own_past hown5 hp5 (by decide) 2 _⟩)
      case measure => simp [intOf]
     case refine_2 =>
      go_simp
      refine hK.out _ _ ((hvd.alloc _).w2.2) (fun hHeld => ?_)
      clear hK K
      (try simp only [Act.put,Q3,Q4,Q5])
      refine wpAnyH_ready (rs:=[4]) (by kernel_rfl) (by simp) ?_
      refine AllReadyH.cons rfl (fun K hK => ?_) AllReadyH.nil
      go_simp
      refine hK.out _ _ ((hvd.alloc _).w2.2) (fun hHeld => ?_)
      clear hK K
      (try simp only [Act.put,Q3,Q4,Q5])
      refine wpAnyH_ready (rs:=[10]) (by kernel_rfl) (by simp) ?_
      refine AllReadyH.cons rfl (fun K hK => ?_) AllReadyH.nil
      refine step_app (lo:=w.heap.size) (base:=w.heap.size) (n:=1) (xs:=ints [0]) _ rfl _ _ ty_intz rfl (hownd.alloc _) rfl (by first | exact row_new' _ (by first | rfl | simp) (by first | omega | (simp; omega)) rfl | exact row_newN _ _ (by first | rfl | simp) (by first | omega | (simp; omega)) rfl | exact row_newD _ (by first | rfl | simp) (by first | omega | (simp; omega)) rfl) rfl rfl (by decide) (by decide) (by first | omega | (simp; omega)) ?_
      intro A5 c5 w5 hown5 hg5 _
      have hv5:=Blk.app (hownd.alloc _) (hvd.alloc _) hg5 (by decide)
      have hp5:=Blk.app (hownd.alloc _) (hpd.alloc _) hg5 (by decide)
      have ho5:=Blk.app (hownd.alloc _) (hod.alloc _) hg5 (by decide)
      have hn5:=NC.app (hownd.alloc _) (hnd.alloc _) hg5 (Nat.le_refl _) zm zR zD
      obtain ⟨t0,t1,t2,t3,t4,t5,t6⟩:=hp5.w7
      have f2:=hp5.thaw 2
      have zp5:=hp5.lt
      refine hK.out _ _ (hv5.w2.2) (fun hHeld => ?_)
      clear hK K
      (try simp only [Act.put,Q3,Q4,Q5])
      (refine wpAnyH_take (i:=11) (v:=?_) (by (simp only [Q0,Q1,Q2]; rfl)) (by kernel_rfl) (by kernel_rfl) (by kernel_rfl) (by exact fun _ _ _ h => h) (Or.inl ⟨by rfl,?_⟩) (by assumption) ?_; (rotate_left 1; (intro w hSw; (try dsimp only at hSw); go_simp); (try with_reducible rfl)); (try simp only [Act.put,Q3,Q4,Q5]))
      (refine wpAnyH_take (i:=12) (v:=?_) (by (simp only [Q0,Q1,Q2]; rfl)) (by kernel_rfl) (by kernel_rfl) (by kernel_rfl) (by exact fun _ _ _ h => h) (Or.inl ⟨by rfl,?_⟩) (by assumption) ?_; (rotate_left 1; (intro w hSw; (try dsimp only at hSw); go_simp); (try with_reducible rfl)); (try simp only [Act.put,Q3,Q4,Q5]))
      refine wpAnyH_ready (rs:=[13]) (by kernel_rfl) (by simp) ?_
      refine AllReadyH.cons rfl (fun K hK => ?_) AllReadyH.nil
      go_simp
      refine hK.out _ _ ((hv5.past p 2 _ zpv.symm).w2.2) (fun hHeld => ?_)
      clear hK K
      (try simp only [Act.put,Q3,Q4,Q5])
      refine wpAnyH_done (by kernel_rfl) ?_ _
      go_wp2_with fail
      go_roundw
      case rel => exact .inr (.inr ⟨rfl,A5,c5,by simpa using hp5.poke 2 (.slice A5 2 c5),ho5.past p 2 _ hgp,hn5.poke p 2 _ hzp zm zR zD,own_past hown5 hp5 (by decide) 2 _⟩)
      case measure => simp [intOf]
   ·obtain ⟨g1,c1,cur1,hA,zg1,hg1,zc1,hcur1⟩:=own_blk hown (by decide)
    injection hA with e1 _ e2
    subst e1 e2
    clear hown m0 m1 m2 m3
    obtain ⟨m0,m1,m2,m3⟩:=hn.map.cells
    obtain ⟨d0,d1,d2,d3,d4,d5,d6⟩:=hn.fm.door
    have zm' : M < wr.heap.size:=hn.map.lt
    have zd':=hn.fm.doors.lt
    have zpp:=hp.lt
    have zoo:=ho.lt
    have zbb:=hn.bel.size
    go_wp2_with fail
    refine wp_loop_rounds 2 ?_
    rw [rounds_succ]
    go_upto_region 10 with (fail)
    have hd : DB w (wr.alloc (.cells #[.string ⟨#[100]⟩,.string ⟨#[97]⟩,.string ⟨#[98]⟩,.int .i64 7,.slice none 0 0,.slice none 0 0,.string ⟨#[]⟩] 127)) M R D p go g1 c wr.heap.size cur1 (.slice none 0 0):=⟨hp.alloc _,ho.alloc _,hg1.alloc _,Blk.new _ _ _,hn.alloc _⟩
    have zpv : p ≠ wr.heap.size:=by omega
    clear hp ho hg1 hn m0 m1 m2 m3 d0 d1 d2 d3 d4 d5 d6 zm' zd'
    generalize hV : wr.heap.size = v at *
    generalize wr.alloc (.cells #[.string ⟨#[100]⟩,.string ⟨#[97]⟩,.string ⟨#[98]⟩,.int .i64 7,.slice none 0 0,.slice none 0 0,.string ⟨#[]⟩] 127) = X at *
    clear hV zpp zoo zbb
    go_cut [12] (fun u wx => ∃ (q : Nat),u = .pointer (some ⟨q,0,none⟩) ∧ w.heap.size ≤ q ∧ Blk wx q 251 #[.int .i64 0,.int .i64 1,.int .i64 7,.int .i64 0,.int .i64 0] ∧ DB w wx M R D p go g1 c v cur1 (.slice none 0 0))
    case first =>
     have hdd:=hd.drew
     refine wp_region_held_drew (S:=(fun w' => w'.cell? ⟨v,1,none⟩ = some (.string ⟨#[97]⟩) ∧ w'.cell? ⟨v,2,none⟩ = some (.string ⟨#[98]⟩) ∧ w'.cell? ⟨v,3,none⟩ = some (.int .i64 7) ∧ w'.cell? ⟨v,4,none⟩ = some (.slice none 0 0) ∧ w'.cell? ⟨v,5,none⟩ = some (.slice none 0 0))) (by kernel_rfl) (⟨hdd.v.door.2.1,hdd.v.door.2.2.1,hdd.v.door.2.2.2.1,hdd.v.door.2.2.2.2.1,hdd.v.door.2.2.2.2.2.1⟩) (fun hHeld => ?_)
     (refine wpAnyH_take (i:=0) (v:=?_) (by (simp only [Q0,Q2]; rfl)) (by kernel_rfl) (by kernel_rfl) (by kernel_rfl) (by exact fun _ _ _ h => h) (Or.inl ⟨by rfl,?_⟩) (by assumption) ?_; (rotate_left 1; (intro w hSw; (try dsimp only at hSw); go_simp); (try with_reducible rfl)); (try simp only [Act.put,Q3,Q4,Q5]))
     (refine wpAnyH_take (i:=1) (v:=?_) (by (simp only [Q0,Q1,Q2]; rfl)) (by kernel_rfl) (by kernel_rfl) (by kernel_rfl) (by exact fun _ _ _ h => h) (Or.inl ⟨by rfl,?_⟩) (by assumption) ?_; (rotate_left 1; (intro w hSw; (try dsimp only at hSw); go_simp); (try with_reducible rfl)); (try simp only [Act.put,Q3,Q4,Q5]))
     (refine wpAnyH_take (i:=2) (v:=?_) (by (simp only [Q0,Q1,Q2]; rfl)) (by kernel_rfl) (by kernel_rfl) (by kernel_rfl) (by exact fun _ _ _ h => h) (Or.inl ⟨by rfl,?_⟩) (by assumption) ?_; (rotate_left 1; (intro w hSw; (try dsimp only at hSw); go_simp); (try with_reducible rfl)); (try simp only [Act.put,Q3,Q4,Q5]))
     (refine wpAnyH_take (i:=4) (v:=?_) (by (simp only [Q0,Q1,Q2]; rfl)) (by kernel_rfl) (by kernel_rfl) (by kernel_rfl) (by exact fun _ _ _ h => h) (Or.inl ⟨by rfl,?_⟩) (by assumption) ?_; (rotate_left 1; (intro w hSw; (try dsimp only at hSw); go_simp); (try with_reducible rfl)); (try simp only [Act.put,Q3,Q4,Q5]))
     (refine wpAnyH_take (i:=5) (v:=?_) (by (simp only [Q0,Q1,Q2]; rfl)) (by kernel_rfl) (by kernel_rfl) (by kernel_rfl) (by exact fun _ _ _ h => h) (Or.inl ⟨by rfl,?_⟩) (by assumption) ?_; (rotate_left 1; (intro w hSw; (try dsimp only at hSw); go_simp); (try with_reducible rfl)); (try simp only [Act.put,Q3,Q4,Q5]))
     (refine wpAnyH_take (i:=6) (v:=?_) (by (simp only [Q0,Q1,Q2]; rfl)) (by kernel_rfl) (by kernel_rfl) (by kernel_rfl) (by exact fun _ _ _ h => h) (Or.inl ⟨by rfl,?_⟩) (by assumption) ?_; (rotate_left 1; (intro w hSw; (try dsimp only at hSw); go_simp); (try with_reducible rfl)); (try simp only [Act.put,Q3,Q4,Q5]))
     (refine wpAnyH_take (i:=8) (v:=?_) (by (simp only [Q0,Q1,Q2]; rfl)) (by kernel_rfl) (by kernel_rfl) (by kernel_rfl) (by exact fun _ _ _ h => h) (Or.inl ⟨by rfl,?_⟩) (by assumption) ?_; (rotate_left 1; (intro w hSw; (try dsimp only at hSw); go_simp); (try with_reducible rfl)); (try simp only [Act.put,Q3,Q4,Q5]))
     (refine wpAnyH_take (i:=9) (v:=?_) (by (simp only [Q0,Q1,Q2]; rfl)) (by kernel_rfl) (by kernel_rfl) (by kernel_rfl) (by exact fun _ _ _ h => h) (Or.inl ⟨by rfl,?_⟩) (by assumption) ?_; (rotate_left 1; (intro w hSw; (try dsimp only at hSw); go_simp); (try with_reducible rfl)); (try simp only [Act.put,Q3,Q4,Q5]))
     (refine wpAnyH_take (i:=10) (v:=?_) (by (simp only [Q0,Q1,Q2]; rfl)) (by kernel_rfl) (by kernel_rfl) (by kernel_rfl) (by exact fun _ _ _ h => h) (Or.inl ⟨by rfl,?_⟩) (by assumption) ?_; (rotate_left 1; (intro w hSw; (try dsimp only at hSw); go_simp); (try with_reducible rfl)); (try simp only [Act.put,Q3,Q4,Q5]))
     (refine wpAnyH_take (i:=11) (v:=?_) (by (simp only [Q0,Q1,Q2]; rfl)) (by kernel_rfl) (by kernel_rfl) (by kernel_rfl) (by exact fun _ _ _ h => h) (Or.inl ⟨by rfl,?_⟩) (by assumption) ?_; (rotate_left 1; (intro w hSw; (try dsimp only at hSw); go_simp); (try with_reducible rfl)); (try simp only [Act.put,Q3,Q4,Q5]))
     (refine wpAnyH_take (i:=12) (v:=?_) (by (simp only [Q0,Q1,Q2]; rfl)) (by kernel_rfl) (by kernel_rfl) (by kernel_rfl) (by exact fun _ _ _ h => h) (Or.inl ⟨by rfl,?_⟩) (by assumption) ?_; (rotate_left 1; (intro w hSw; (try dsimp only at hSw); go_simp); (try with_reducible rfl)); (try simp only [Act.put,Q3,Q4,Q5]))
     (refine wpAnyH_take (i:=14) (v:=?_) (by (simp only [Q0,Q1,Q2]; rfl)) (by kernel_rfl) (by kernel_rfl) (by kernel_rfl) (by exact fun _ _ _ h => h) (Or.inl ⟨by rfl,?_⟩) (by assumption) ?_; (rotate_left 1; (intro w hSw; (try dsimp only at hSw); go_simp); (try with_reducible rfl)); (try simp only [Act.put,Q3,Q4,Q5]))
     (refine wpAnyH_take (i:=15) (v:=?_) (by (simp only [Q0,Q1,Q2]; rfl)) (by kernel_rfl) (by kernel_rfl) (by kernel_rfl) (by exact fun _ _ _ h => h) (Or.inl ⟨by rfl,?_⟩) (by assumption) ?_; (rotate_left 1; (intro w hSw; (try dsimp only at hSw); go_simp); (try with_reducible rfl)); (try simp only [Act.put,Q3,Q4,Q5]))
     (refine wpAnyH_take (i:=16) (v:=?_) (by (simp only [Q0,Q1,Q2]; rfl)) (by kernel_rfl) (by kernel_rfl) (by kernel_rfl) (by exact fun _ _ _ h => h) (Or.inl ⟨by rfl,?_⟩) (by assumption) ?_; (rotate_left 1; (intro w hSw; (try dsimp only at hSw); go_simp); (try with_reducible rfl)); (try simp only [Act.put,Q3,Q4,Q5]))
     refine wpAnyH_ready (rs:=[3,19]) (by kernel_rfl) (by simp) ?_
     refine AllReadyH.cons rfl (fun K hK => ?_) (AllReadyH.cons rfl (fun K hK => ?_) AllReadyH.nil)
     case refine_1 =>
      go_simp
      go_at_call 157
      refine (room_a M R D _ hdd.n.map hdd.n.fm).mono ?_
      rintro e wa ⟨rfl,hb⟩
      have hdd:=hdd.below hb
      go_wp2_with fail
      refine hK.out _ _ (⟨hdd.v.door.2.1,hdd.v.door.2.2.1,hdd.v.door.2.2.2.1,hdd.v.door.2.2.2.2.1,hdd.v.door.2.2.2.2.2.1⟩) (fun hHeld => ?_)
      clear hK K
      (try simp only [Act.put,Q3,Q4,Q5])
      refine wpAnyH_ready (rs:=[7,19]) (by kernel_rfl) (by simp) ?_
      refine AllReadyH.cons rfl (fun K hK => ?_) (AllReadyH.cons rfl (fun K hK => ?_) AllReadyH.nil)
      case refine_1 =>
       go_simp
       go_at_call 157
       refine (room_b M R D _ hdd.n.map hdd.n.fm).mono ?_
       rintro e wb ⟨rfl,hb⟩
       have hdd:=hdd.below hb
       go_wp2_with fail
       refine hK.out _ _ (⟨hdd.v.door.2.1,hdd.v.door.2.2.1,hdd.v.door.2.2.2.1,hdd.v.door.2.2.2.2.1,hdd.v.door.2.2.2.2.2.1⟩) (fun hHeld => ?_)
       clear hK K
       (try simp only [Act.put,Q3,Q4,Q5])
       refine wpAnyH_ready (rs:=[13,19]) (by kernel_rfl) (by simp) ?_
       refine AllReadyH.cons rfl (fun K hK => ?_) (AllReadyH.cons rfl (fun K hK => ?_) AllReadyH.nil)
       case refine_1 =>
        go_simp
        go_at_call 161
        refine (bits_none p _).mono ?_
        rintro e wz ⟨rfl,rfl⟩
        go_wp2_with fail
        refine hK.out _ _ (⟨hdd.v.door.2.1,hdd.v.door.2.2.1,hdd.v.door.2.2.2.1,hdd.v.door.2.2.2.2.1,hdd.v.door.2.2.2.2.2.1⟩) (fun hHeld => ?_)
        clear hK K
        (try simp only [Act.put,Q3,Q4,Q5])
        refine wpAnyH_ready (rs:=[17,19]) (by kernel_rfl) (by simp) ?_
        refine AllReadyH.cons rfl (fun K hK => ?_) (AllReadyH.cons rfl (fun K hK => ?_) AllReadyH.nil)
        case refine_1 =>
         go_simp
         go_at_call 161
         refine (bits_none p _).mono ?_
         rintro e wz ⟨rfl,rfl⟩
         go_wp2_with fail
         refine hK.out _ _ (⟨hdd.v.door.2.1,hdd.v.door.2.2.1,hdd.v.door.2.2.2.1,hdd.v.door.2.2.2.2.1,hdd.v.door.2.2.2.2.2.1⟩) (fun hHeld => ?_)
         clear hK K
         (try simp only [Act.put,Q3,Q4,Q5])
         (refine wpAnyH_take (i:=18) (v:=?_) (by (simp only [Q0,Q1,Q2]; rfl)) (by kernel_rfl) (by kernel_rfl) (by kernel_rfl) (by exact fun _ _ _ h => h) (Or.inl ⟨by rfl,?_⟩) (by assumption) ?_; (rotate_left 1; (intro w hSw; (try dsimp only at hSw); go_simp); (try with_reducible rfl)); (try simp only [Act.put,Q3,Q4,Q5]))
         refine wpAnyH_ready (rs:=[19]) (by kernel_rfl) (by simp) ?_
         refine AllReadyH.cons rfl (fun K hK => ?_) AllReadyH.nil
         go_simp
         have hq : Blk (wb.alloc (.cells #[.int .i64 0,.int .i64 0,.int .i64 0,.int .i64 0,.int .i64 0] 251)) wb.heap.size 251 #[.int .i64 0,.int .i64 0,.int .i64 0,.int .i64 0,.int .i64 0]:=Blk.new _ _ _
         have zq : w.heap.size ≤ wb.heap.size:=hdd.n.bel.size
         have hd0:=hdd
         have hdd:=hdd.alloc (.cells #[.int .i64 0,.int .i64 0,.int .i64 0,.int .i64 0,.int .i64 0] 251)
         refine hK.out _ _ (⟨hdd.v.door.2.1,hdd.v.door.2.2.1,hdd.v.door.2.2.2.1,hdd.v.door.2.2.2.2.1,hdd.v.door.2.2.2.2.2.1⟩) (fun hHeld => ?_)
         clear hK K
         (try simp only [Act.put,Q3,Q4,Q5])
         refine wpAnyH_ready (rs:=[20]) (by kernel_rfl) (by simp) ?_
         refine AllReadyH.cons rfl (fun K hK => ?_) AllReadyH.nil
         go_simp
         have hq : Blk (wb.alloc (.cells #[.int .i64 0,.int .i64 1,.int .i64 7,.int .i64 0,.int .i64 0] 251)) wb.heap.size 251 #[.int .i64 0,.int .i64 1,.int .i64 7,.int .i64 0,.int .i64 0]:=Blk.new _ _ _
         have hdd:=hd0.alloc (.cells #[.int .i64 0,.int .i64 1,.int .i64 7,.int .i64 0,.int .i64 0] 251)
         refine hK.out _ _ (⟨hdd.v.door.2.1,hdd.v.door.2.2.1,hdd.v.door.2.2.2.1,hdd.v.door.2.2.2.2.1,hdd.v.door.2.2.2.2.2.1⟩) (fun hHeld => ?_)
         clear hK K
         (try simp only [Act.put,Q3,Q4,Q5])
         refine wpAnyH_done (by kernel_rfl) ?_ _
         go_wp2_with fail
         go_meet
         exact ⟨_,rfl,zq,hq,hdd⟩
        case refine_2 =>
         go_simp
         have hq : Blk (wb.alloc (.cells #[.int .i64 0,.int .i64 0,.int .i64 0,.int .i64 0,.int .i64 0] 251)) wb.heap.size 251 #[.int .i64 0,.int .i64 0,.int .i64 0,.int .i64 0,.int .i64 0]:=Blk.new _ _ _
         have zq : w.heap.size ≤ wb.heap.size:=hdd.n.bel.size
         have hd0:=hdd
         have hdd:=hdd.alloc (.cells #[.int .i64 0,.int .i64 0,.int .i64 0,.int .i64 0,.int .i64 0] 251)
         refine hK.out _ _ (⟨hdd.v.door.2.1,hdd.v.door.2.2.1,hdd.v.door.2.2.2.1,hdd.v.door.2.2.2.2.1,hdd.v.door.2.2.2.2.2.1⟩) (fun hHeld => ?_)
         clear hK K
         (try simp only [Act.put,Q3,Q4,Q5])
         refine wpAnyH_ready (rs:=[17]) (by kernel_rfl) (by simp) ?_
         refine AllReadyH.cons rfl (fun K hK => ?_) AllReadyH.nil
         go_simp
         go_at_call 161
         refine (bits_none p _).mono ?_
         rintro e wz ⟨rfl,rfl⟩
         go_wp2_with fail
         refine hK.out _ _ (⟨hdd.v.door.2.1,hdd.v.door.2.2.1,hdd.v.door.2.2.2.1,hdd.v.door.2.2.2.2.1,hdd.v.door.2.2.2.2.2.1⟩) (fun hHeld => ?_)
         clear hK K
         (try simp only [Act.put,Q3,Q4,Q5])
         (refine wpAnyH_take (i:=18) (v:=?_) (by (simp only [Q0,Q1,Q2]; rfl)) (by kernel_rfl) (by kernel_rfl) (by kernel_rfl) (by exact fun _ _ _ h => h) (Or.inl ⟨by rfl,?_⟩) (by assumption) ?_; (rotate_left 1; (intro w hSw; (try dsimp only at hSw); go_simp); (try with_reducible rfl)); (try simp only [Act.put,Q3,Q4,Q5]))
         refine wpAnyH_ready (rs:=[20]) (by kernel_rfl) (by simp) ?_
         refine AllReadyH.cons rfl (fun K hK => ?_) AllReadyH.nil
         go_simp
         have hq : Blk (wb.alloc (.cells #[.int .i64 0,.int .i64 1,.int .i64 7,.int .i64 0,.int .i64 0] 251)) wb.heap.size 251 #[.int .i64 0,.int .i64 1,.int .i64 7,.int .i64 0,.int .i64 0]:=Blk.new _ _ _
         have hdd:=hd0.alloc (.cells #[.int .i64 0,.int .i64 1,.int .i64 7,.int .i64 0,.int .i64 0] 251)
         refine hK.out _ _ (⟨hdd.v.door.2.1,hdd.v.door.2.2.1,hdd.v.door.2.2.2.1,hdd.v.door.2.2.2.2.1,hdd.v.door.2.2.2.2.2.1⟩) (fun hHeld => ?_)
         clear hK K
         (try simp only [Act.put,Q3,Q4,Q5])
         refine wpAnyH_done (by kernel_rfl) ?_ _
         go_wp2_with fail
         go_meet
         exact ⟨_,rfl,zq,hq,hdd⟩
       case refine_2 =>
        go_simp
        have hq : Blk (wb.alloc (.cells #[.int .i64 0,.int .i64 0,.int .i64 0,.int .i64 0,.int .i64 0] 251)) wb.heap.size 251 #[.int .i64 0,.int .i64 0,.int .i64 0,.int .i64 0,.int .i64 0]:=Blk.new _ _ _
        have zq : w.heap.size ≤ wb.heap.size:=hdd.n.bel.size
        have hd0:=hdd
        have hdd:=hdd.alloc (.cells #[.int .i64 0,.int .i64 0,.int .i64 0,.int .i64 0,.int .i64 0] 251)
        refine hK.out _ _ (⟨hdd.v.door.2.1,hdd.v.door.2.2.1,hdd.v.door.2.2.2.1,hdd.v.door.2.2.2.2.1,hdd.v.door.2.2.2.2.2.1⟩) (fun hHeld => ?_)
        clear hK K
        (try simp only [Act.put,Q3,Q4,Q5])
        refine wpAnyH_ready (rs:=[13]) (by kernel_rfl) (by simp) ?_
        refine AllReadyH.cons rfl (fun K hK => ?_) AllReadyH.nil
        go_simp
        go_at_call 161
        refine (bits_none p _).mono ?_
        rintro e wz ⟨rfl,rfl⟩
        go_wp2_with fail
        refine hK.out _ _ (⟨hdd.v.door.2.1,hdd.v.door.2.2.1,hdd.v.door.2.2.2.1,hdd.v.door.2.2.2.2.1,hdd.v.door.2.2.2.2.2.1⟩) (fun hHeld => ?_)
        clear hK K
        (try simp only [Act.put,Q3,Q4,Q5])
        refine wpAnyH_ready (rs:=[17]) (by kernel_rfl) (by simp) ?_
        refine AllReadyH.cons rfl (fun K hK => ?_) AllReadyH.nil
        go_simp
        go_at_call 161
        refine (bits_none p _).mono ?_
        rintro e wz ⟨rfl,rfl⟩
        go_wp2_with fail
        refine hK.out _ _ (⟨hdd.v.door.2.1,hdd.v.door.2.2.1,hdd.v.door.2.2.2.1,hdd.v.door.2.2.2.2.1,hdd.v.door.2.2.2.2.2.1⟩) (fun hHeld => ?_)
        clear hK K
        (try simp only [Act.put,Q3,Q4,Q5])
        (refine wpAnyH_take (i:=18) (v:=?_) (by (simp only [Q0,Q1,Q2]; rfl)) (by kernel_rfl) (by kernel_rfl) (by kernel_rfl) (by exact fun _ _ _ h => h) (Or.inl ⟨by rfl,?_⟩) (by assumption) ?_; (rotate_left 1; (intro w hSw; (try dsimp only at hSw); go_simp); (try with_reducible rfl)); (try simp only [Act.put,Q3,Q4,Q5]))
        refine wpAnyH_ready (rs:=[20]) (by kernel_rfl) (by simp) ?_
        refine AllReadyH.cons rfl (fun K hK => ?_) AllReadyH.nil
        go_simp
        have hq : Blk (wb.alloc (.cells #[.int .i64 0,.int .i64 1,.int .i64 7,.int .i64 0,.int .i64 0] 251)) wb.heap.size 251 #[.int .i64 0,.int .i64 1,.int .i64 7,.int .i64 0,.int .i64 0]:=Blk.new _ _ _
        have hdd:=hd0.alloc (.cells #[.int .i64 0,.int .i64 1,.int .i64 7,.int .i64 0,.int .i64 0] 251)
        refine hK.out _ _ (⟨hdd.v.door.2.1,hdd.v.door.2.2.1,hdd.v.door.2.2.2.1,hdd.v.door.2.2.2.2.1,hdd.v.door.2.2.2.2.2.1⟩) (fun hHeld => ?_)
        clear hK K
        (try simp only [Act.put,Q3,Q4,Q5])
        refine wpAnyH_done (by kernel_rfl) ?_ _
        go_wp2_with fail
        go_meet
        exact ⟨_,rfl,zq,hq,hdd⟩
      case refine_2 =>
       go_simp
       have hq : Blk (wa.alloc (.cells #[.int .i64 0,.int .i64 0,.int .i64 0,.int .i64 0,.int .i64 0] 251)) wa.heap.size 251 #[.int .i64 0,.int .i64 0,.int .i64 0,.int .i64 0,.int .i64 0]:=Blk.new _ _ _
       have zq : w.heap.size ≤ wa.heap.size:=hdd.n.bel.size
       have hd0:=hdd
       have hdd:=hdd.alloc (.cells #[.int .i64 0,.int .i64 0,.int .i64 0,.int .i64 0,.int .i64 0] 251)
       refine hK.out _ _ (⟨hdd.v.door.2.1,hdd.v.door.2.2.1,hdd.v.door.2.2.2.1,hdd.v.door.2.2.2.2.1,hdd.v.door.2.2.2.2.2.1⟩) (fun hHeld => ?_)
       clear hK K
       (try simp only [Act.put,Q3,Q4,Q5])
       refine wpAnyH_ready (rs:=[7]) (by kernel_rfl) (by simp) ?_
       refine AllReadyH.cons rfl (fun K hK => ?_) AllReadyH.nil
       go_simp
       go_at_call 157
       refine (room_b M R D _ hdd.n.map hdd.n.fm).mono ?_
       rintro e wb ⟨rfl,hb⟩
       have hdd:=hdd.below hb
       have hq:=hq.below hb
       go_wp2_with fail
       refine hK.out _ _ (⟨hdd.v.door.2.1,hdd.v.door.2.2.1,hdd.v.door.2.2.2.1,hdd.v.door.2.2.2.2.1,hdd.v.door.2.2.2.2.2.1⟩) (fun hHeld => ?_)
       clear hK K
       (try simp only [Act.put,Q3,Q4,Q5])
       refine wpAnyH_ready (rs:=[13]) (by kernel_rfl) (by simp) ?_
       refine AllReadyH.cons rfl (fun K hK => ?_) AllReadyH.nil
       go_simp
       go_at_call 161
       refine (bits_none p _).mono ?_
       rintro e wz ⟨rfl,rfl⟩
       go_wp2_with fail
       refine hK.out _ _ (⟨hdd.v.door.2.1,hdd.v.door.2.2.1,hdd.v.door.2.2.2.1,hdd.v.door.2.2.2.2.1,hdd.v.door.2.2.2.2.2.1⟩) (fun hHeld => ?_)
       clear hK K
       (try simp only [Act.put,Q3,Q4,Q5])
       refine wpAnyH_ready (rs:=[17]) (by kernel_rfl) (by simp) ?_
       refine AllReadyH.cons rfl (fun K hK => ?_) AllReadyH.nil
       go_simp
       go_at_call 161
       refine (bits_none p _).mono ?_
       rintro e wz ⟨rfl,rfl⟩
       go_wp2_with fail
       refine hK.out _ _ (⟨hdd.v.door.2.1,hdd.v.door.2.2.1,hdd.v.door.2.2.2.1,hdd.v.door.2.2.2.2.1,hdd.v.door.2.2.2.2.2.1⟩) (fun hHeld => ?_)
       clear hK K
       (try simp only [Act.put,Q3,Q4,Q5])
       (refine wpAnyH_take (i:=18) (v:=?_) (by (simp only [Q0,Q1,Q2]; rfl)) (by kernel_rfl) (by kernel_rfl) (by kernel_rfl) (by exact fun _ _ _ h => h) (Or.inl ⟨by rfl,?_⟩) (by assumption) ?_; (rotate_left 1; (intro w hSw; (try dsimp only at hSw); go_simp); (try with_reducible rfl)); (try simp only [Act.put,Q3,Q4,Q5]))
       refine wpAnyH_ready (rs:=[20]) (by kernel_rfl) (by simp) ?_
       refine AllReadyH.cons rfl (fun K hK => ?_) AllReadyH.nil
       have hq : Blk wb (wa.heap.size) 251 #[.int .i64 0,.int .i64 0,.int .i64 0,.int .i64 0,.int .i64 0]:=hq
       obtain ⟨k0,k1,k2,k3,k4⟩:=hq.w5
       have f0:=hq.thaw 0
       have f1:=hq.thaw 1
       have f2:=hq.thaw 2
       have f3:=hq.thaw 3
       have f4:=hq.thaw 4
       have zqq:=hq.lt
       go_simp
       obtain ⟨hq,hdd⟩:=hdd.put5 hq zq zm zR zD (.int .i64 0) (.int .i64 1) (.int .i64 7) (.int .i64 0) (.int .i64 0)
       refine hK.out _ _ (⟨hdd.v.door.2.1,hdd.v.door.2.2.1,hdd.v.door.2.2.2.1,hdd.v.door.2.2.2.2.1,hdd.v.door.2.2.2.2.2.1⟩) (fun hHeld => ?_)
       clear hK K
       (try simp only [Act.put,Q3,Q4,Q5])
       refine wpAnyH_done (by kernel_rfl) ?_ _
       go_wp2_with fail
       go_meet
       exact ⟨_,rfl,zq,hq,hdd⟩
     case refine_2 =>
      go_simp
      have hq : Blk (X.drew.alloc (.cells #[.int .i64 0,.int .i64 0,.int .i64 0,.int .i64 0,.int .i64 0] 251)) X.drew.heap.size 251 #[.int .i64 0,.int .i64 0,.int .i64 0,.int .i64 0,.int .i64 0]:=Blk.new _ _ _
      have zq : w.heap.size ≤ X.heap.size:=hdd.n.bel.size
      have hd0:=hdd
      have hdd:=hdd.alloc (.cells #[.int .i64 0,.int .i64 0,.int .i64 0,.int .i64 0,.int .i64 0] 251)
      refine hK.out _ _ (⟨hdd.v.door.2.1,hdd.v.door.2.2.1,hdd.v.door.2.2.2.1,hdd.v.door.2.2.2.2.1,hdd.v.door.2.2.2.2.2.1⟩) (fun hHeld => ?_)
      clear hK K
      (try simp only [Act.put,Q3,Q4,Q5])
      refine wpAnyH_ready (rs:=[3]) (by kernel_rfl) (by simp) ?_
      refine AllReadyH.cons rfl (fun K hK => ?_) AllReadyH.nil
      go_simp
      go_at_call 157
      refine (room_a M R D _ hdd.n.map hdd.n.fm).mono ?_
      rintro e wa ⟨rfl,hb⟩
      have hdd:=hdd.below hb
      have hq:=hq.below hb
      go_wp2_with fail
      refine hK.out _ _ (⟨hdd.v.door.2.1,hdd.v.door.2.2.1,hdd.v.door.2.2.2.1,hdd.v.door.2.2.2.2.1,hdd.v.door.2.2.2.2.2.1⟩) (fun hHeld => ?_)
      clear hK K
      (try simp only [Act.put,Q3,Q4,Q5])
      refine wpAnyH_ready (rs:=[7]) (by kernel_rfl) (by simp) ?_
      refine AllReadyH.cons rfl (fun K hK => ?_) AllReadyH.nil
      go_simp
      go_at_call 157
      refine (room_b M R D _ hdd.n.map hdd.n.fm).mono ?_
      rintro e wb ⟨rfl,hb⟩
      have hdd:=hdd.below hb
      have hq:=hq.below hb
      go_wp2_with fail
      refine hK.out _ _ (⟨hdd.v.door.2.1,hdd.v.door.2.2.1,hdd.v.door.2.2.2.1,hdd.v.door.2.2.2.2.1,hdd.v.door.2.2.2.2.2.1⟩) (fun hHeld => ?_)
      clear hK K
      (try simp only [Act.put,Q3,Q4,Q5])
      refine wpAnyH_ready (rs:=[13]) (by kernel_rfl) (by simp) ?_
      refine AllReadyH.cons rfl (fun K hK => ?_) AllReadyH.nil
      go_simp
      go_at_call 161
      refine (bits_none p _).mono ?_
      rintro e wz ⟨rfl,rfl⟩
      go_wp2_with fail
      refine hK.out _ _ (⟨hdd.v.door.2.1,hdd.v.door.2.2.1,hdd.v.door.2.2.2.1,hdd.v.door.2.2.2.2.1,hdd.v.door.2.2.2.2.2.1⟩) (fun hHeld => ?_)
      clear hK K
      (try simp only [Act.put,Q3,Q4,Q5])
      refine wpAnyH_ready (rs:=[17]) (by kernel_rfl) (by simp) ?_
      refine AllReadyH.cons rfl (fun K hK => ?_) AllReadyH.nil
      go_simp
      go_at_call 161
      refine (bits_none p _).mono ?_
      rintro e wz ⟨rfl,rfl⟩
      go_wp2_with fail
      refine hK.out _ _ (⟨hdd.v.door.2.1,hdd.v.door.2.2.1,hdd.v.door.2.2.2.1,hdd.v.door.2.2.2.2.1,hdd.v.door.2.2.2.2.2.1⟩) (fun hHeld => ?_)
      clear hK K
      (try simp only [Act.put,Q3,Q4,Q5])
      (refine wpAnyH_take (i:=18) (v:=?_) (by (simp only [Q0,Q1,Q2]; rfl)) (by kernel_rfl) (by kernel_rfl) (by kernel_rfl) (by exact fun _ _ _ h => h) (Or.inl ⟨by rfl,?_⟩) (by assumption) ?_; (rotate_left 1; (intro w hSw; (try dsimp only at hSw); go_simp); (try with_reducible rfl)); (try simp only [Act.put,Q3,Q4,Q5]))
      refine wpAnyH_ready (rs:=[20]) (by kernel_rfl) (by simp) ?_
      refine AllReadyH.cons rfl (fun K hK => ?_) AllReadyH.nil
      have hq : Blk wb (X.heap.size) 251 #[.int .i64 0,.int .i64 0,.int .i64 0,.int .i64 0,.int .i64 0]:=hq
      obtain ⟨k0,k1,k2,k3,k4⟩:=hq.w5
      have f0:=hq.thaw 0
      have f1:=hq.thaw 1
      have f2:=hq.thaw 2
      have f3:=hq.thaw 3
      have f4:=hq.thaw 4
      have zqq:=hq.lt
      go_simp
      obtain ⟨hq,hdd⟩:=hdd.put5 hq zq zm zR zD (.int .i64 0) (.int .i64 1) (.int .i64 7) (.int .i64 0) (.int .i64 0)
      refine hK.out _ _ (⟨hdd.v.door.2.1,hdd.v.door.2.2.1,hdd.v.door.2.2.2.1,hdd.v.door.2.2.2.2.1,hdd.v.door.2.2.2.2.2.1⟩) (fun hHeld => ?_)
      clear hK K
      (try simp only [Act.put,Q3,Q4,Q5])
      refine wpAnyH_done (by kernel_rfl) ?_ _
      go_wp2_with fail
      go_meet
      exact ⟨_,rfl,zq,hq,hdd⟩
    case rest =>
     clear hd
     obtain ⟨q,rfl,zq,hq,hd⟩:=hcut
     go_upto_region 11 with (fail)
     go_cut [] (fun wx => ∃ (g2 c2 : Nat) (cur2 : Array Value),w.heap.size ≤ g2 ∧ Blk wx g2 251 cur2 ∧ (∀ i,i < 5 → cur2[i]? = (ints [0,1,7,0,0])[i]?) ∧ Blk wx q 251 #[.int .i64 0,.int .i64 1,.int .i64 7,.int .i64 0,.int .i64 0] ∧ DB w wx M R D p go g1 c v cur1 (.slice (some ⟨g2,0,none⟩) 1 c2))
     case first =>
      have hdd:=hd.drew
      have hqd:=hq.drew
      have zbb : w.heap.size ≤ wc.heap.size:=hd.n.bel.size
      have zpp : p < wc.heap.size:=hd.p.lt
      have zqq : q < wc.heap.size:=hq.lt
      have p3 : wc.cell? ⟨p,3,none⟩ = some (.slice none 0 0):=hd.p.w7.2.2.2.1
      have p3' : wc.drew.cell? ⟨p,3,none⟩ = some (.slice none 0 0):=p3
      have hnil:=World.ownsRow_nil (wc.drew.alloc (.cells #[.int .i64 0,.int .i64 1,.int .i64 7,.int .i64 0,.int .i64 0] 251)) w.heap.size 251 5
      refine wp_region_held_drew (S:=(fun w' => w'.cell? ⟨q,0,none⟩ = some (.int .i64 0) ∧ w'.cell? ⟨q,1,none⟩ = some (.int .i64 1) ∧ w'.cell? ⟨q,2,none⟩ = some (.int .i64 7) ∧ w'.cell? ⟨q,3,none⟩ = some (.int .i64 0) ∧ w'.cell? ⟨q,4,none⟩ = some (.int .i64 0))) (by kernel_rfl) (hqd.w5) (fun hHeld => ?_)
      (refine wpAnyH_take (i:=0) (v:=?_) (by (simp only [Q0,Q2]; rfl)) (by kernel_rfl) (by kernel_rfl) (by kernel_rfl) (by exact fun _ _ _ h => h) (Or.inl ⟨by rfl,?_⟩) (by assumption) ?_; (rotate_left 1; (intro w hSw; (try dsimp only at hSw); go_simp); (try with_reducible rfl)); (try simp only [Act.put,Q3,Q4,Q5]))
      (refine wpAnyH_take (i:=1) (v:=?_) (by (simp only [Q0,Q1,Q2]; rfl)) (by kernel_rfl) (by kernel_rfl) (by kernel_rfl) (by exact fun _ _ _ h => h) (Or.inl ⟨by rfl,?_⟩) (by assumption) ?_; (rotate_left 1; (intro w hSw; (try dsimp only at hSw); go_simp); (try with_reducible rfl)); (try simp only [Act.put,Q3,Q4,Q5]))
      (refine wpAnyH_take (i:=2) (v:=?_) (by (simp only [Q0,Q1,Q2]; rfl)) (by kernel_rfl) (by kernel_rfl) (by kernel_rfl) (by exact fun _ _ _ h => h) (Or.inl ⟨by rfl,?_⟩) (by assumption) ?_; (rotate_left 1; (intro w hSw; (try dsimp only at hSw); go_simp); (try with_reducible rfl)); (try simp only [Act.put,Q3,Q4,Q5]))
      (refine wpAnyH_take (i:=3) (v:=?_) (by (simp only [Q0,Q1,Q2]; rfl)) (by kernel_rfl) (by kernel_rfl) (by kernel_rfl) (by exact fun _ _ _ h => h) (Or.inl ⟨by rfl,?_⟩) (by assumption) ?_; (rotate_left 1; (intro w hSw; (try dsimp only at hSw); go_simp); (try with_reducible rfl)); (try simp only [Act.put,Q3,Q4,Q5]))
      (refine wpAnyH_take (i:=5) (v:=?_) (by (simp only [Q0,Q1,Q2]; rfl)) (by kernel_rfl) (by kernel_rfl) (by kernel_rfl) (by exact fun _ _ _ h => h) (Or.inl ⟨by rfl,?_⟩) (by assumption) ?_; (rotate_left 1; (intro w hSw; (try dsimp only at hSw); go_simp); (try with_reducible rfl)); (try simp only [Act.put,Q3,Q4,Q5]))
      refine wpAnyH_ready (rs:=[4,6]) (by kernel_rfl) (by simp) ?_
      refine AllReadyH.cons rfl (fun K hK => ?_) (AllReadyH.cons rfl (fun K hK => ?_) AllReadyH.nil)
      case refine_1 =>
       go_simp
       refine hK.out _ _ (hqd.w5) (fun hHeld => ?_)
       clear hK K
       (try simp only [Act.put,Q3,Q4,Q5])
       refine wpAnyH_ready (rs:=[6]) (by kernel_rfl) (by simp) ?_
       refine AllReadyH.cons rfl (fun K hK => ?_) AllReadyH.nil
       go_simp
       have hdd:=hdd.alloc (.cells #[.int .i64 0,.int .i64 1,.int .i64 7,.int .i64 0,.int .i64 0] 251)
       have hqd:=hqd.alloc (.cells #[.int .i64 0,.int .i64 1,.int .i64 7,.int .i64 0,.int .i64 0] 251)
       refine hK.out _ _ (hqd.w5) (fun hHeld => ?_)
       clear hK K
       (try simp only [Act.put,Q3,Q4,Q5])
       refine wpAnyH_ready (rs:=[7]) (by kernel_rfl) (by simp) ?_
       refine AllReadyH.cons rfl (fun K hK => ?_) AllReadyH.nil
       refine step_app (lo:=w.heap.size) (base:=w.heap.size) (n:=0) (xs:=[]) _ rfl _ _ ty_doorz rfl hnil rfl (by first | exact row_new' _ (by first | rfl | simp) (by first | omega | (simp; omega)) rfl | exact row_newN _ _ (by first | rfl | simp) (by first | omega | (simp; omega)) rfl | exact row_newD _ (by first | rfl | simp) (by first | omega | (simp; omega)) rfl) rfl rfl (by decide) (by decide) (by first | omega | (simp; omega)) ?_
       intro A5 c5 w5 hown5 hg5 _
       have hdd:=hdd.app0 hg5 zm zR zD
       have hqd:=hqd.app0 hg5
       obtain ⟨t0,t1,t2,t3,t4,t5,t6⟩:=hdd.p.w7
       have f3:=hdd.p.thaw 3
       have zp5:=hdd.p.lt
       refine hK.out _ _ (hqd.w5) (fun hHeld => ?_)
       clear hK K
       (try simp only [Act.put,Q3,Q4,Q5])
       (refine wpAnyH_take (i:=8) (v:=?_) (by (simp only [Q0,Q1,Q2]; rfl)) (by kernel_rfl) (by kernel_rfl) (by kernel_rfl) (by exact fun _ _ _ h => h) (Or.inl ⟨by rfl,?_⟩) (by assumption) ?_; (rotate_left 1; (intro w hSw; (try dsimp only at hSw); go_simp); (try with_reducible rfl)); (try simp only [Act.put,Q3,Q4,Q5]))
       (refine wpAnyH_take (i:=9) (v:=?_) (by (simp only [Q0,Q1,Q2]; rfl)) (by kernel_rfl) (by kernel_rfl) (by kernel_rfl) (by exact fun _ _ _ h => h) (Or.inl ⟨by rfl,?_⟩) (by assumption) ?_; (rotate_left 1; (intro w hSw; (try dsimp only at hSw); go_simp); (try with_reducible rfl)); (try simp only [Act.put,Q3,Q4,Q5]))
       refine wpAnyH_ready (rs:=[10]) (by kernel_rfl) (by simp) ?_
       refine AllReadyH.cons rfl (fun K hK => ?_) AllReadyH.nil
       go_simp
       obtain ⟨g2,c2,cur2,hA,zg2,hg2,_,hcur2⟩:=own_blk hown5 (by decide)
       injection hA with e1 _ e2
       subst e1 e2
       have hg2:=hg2.past p 3 (.slice (some ⟨g2,0,none⟩) 1 c5) (hg2.ne hdd.p (by decide))
       have hqd:=hqd.past p 3 (.slice (some ⟨g2,0,none⟩) 1 c5) (hqd.ne hdd.p (by decide))
       have hdd:=hdd.putp hzp zm zR zD (.slice (some ⟨g2,0,none⟩) 1 c5)
       refine hK.out _ _ (hqd.w5) (fun hHeld => ?_)
       clear hK K
       (try simp only [Act.put,Q3,Q4,Q5])
       refine wpAnyH_done (by kernel_rfl) ?_ _
       go_wp2_with fail
       go_meet
       exact ⟨g2,c5,cur2,zg2,hg2,hcur2,hqd,hdd⟩
      case refine_2 =>
       go_simp
       have hdd:=hdd.alloc (.cells #[.int .i64 0,.int .i64 1,.int .i64 7,.int .i64 0,.int .i64 0] 251)
       have hqd:=hqd.alloc (.cells #[.int .i64 0,.int .i64 1,.int .i64 7,.int .i64 0,.int .i64 0] 251)
       refine hK.out _ _ (hqd.w5) (fun hHeld => ?_)
       clear hK K
       (try simp only [Act.put,Q3,Q4,Q5])
       refine wpAnyH_ready (rs:=[4]) (by kernel_rfl) (by simp) ?_
       refine AllReadyH.cons rfl (fun K hK => ?_) AllReadyH.nil
       go_simp
       refine hK.out _ _ (hqd.w5) (fun hHeld => ?_)
       clear hK K
       (try simp only [Act.put,Q3,Q4,Q5])
       refine wpAnyH_ready (rs:=[7]) (by kernel_rfl) (by simp) ?_
       refine AllReadyH.cons rfl (fun K hK => ?_) AllReadyH.nil
       refine step_app (lo:=w.heap.size) (base:=w.heap.size) (n:=0) (xs:=[]) _ rfl _ _ ty_doorz rfl hnil rfl (by first | exact row_new' _ (by first | rfl | simp) (by first | omega | (simp; omega)) rfl | exact row_newN _ _ (by first | rfl | simp) (by first | omega | (simp; omega)) rfl | exact row_newD _ (by first | rfl | simp) (by first | omega | (simp; omega)) rfl) rfl rfl (by decide) (by decide) (by first | omega | (simp; omega)) ?_
       intro A5 c5 w5 hown5 hg5 _
       have hdd:=hdd.app0 hg5 zm zR zD
       have hqd:=hqd.app0 hg5
       obtain ⟨t0,t1,t2,t3,t4,t5,t6⟩:=hdd.p.w7
       have f3:=hdd.p.thaw 3
       have zp5:=hdd.p.lt
       refine hK.out _ _ (hqd.w5) (fun hHeld => ?_)
       clear hK K
       (try simp only [Act.put,Q3,Q4,Q5])
       (refine wpAnyH_take (i:=8) (v:=?_) (by (simp only [Q0,Q1,Q2]; rfl)) (by kernel_rfl) (by kernel_rfl) (by kernel_rfl) (by exact fun _ _ _ h => h) (Or.inl ⟨by rfl,?_⟩) (by assumption) ?_; (rotate_left 1; (intro w hSw; (try dsimp only at hSw); go_simp); (try with_reducible rfl)); (try simp only [Act.put,Q3,Q4,Q5]))
       (refine wpAnyH_take (i:=9) (v:=?_) (by (simp only [Q0,Q1,Q2]; rfl)) (by kernel_rfl) (by kernel_rfl) (by kernel_rfl) (by exact fun _ _ _ h => h) (Or.inl ⟨by rfl,?_⟩) (by assumption) ?_; (rotate_left 1; (intro w hSw; (try dsimp only at hSw); go_simp); (try with_reducible rfl)); (try simp only [Act.put,Q3,Q4,Q5]))
       refine wpAnyH_ready (rs:=[10]) (by kernel_rfl) (by simp) ?_
       refine AllReadyH.cons rfl (fun K hK => ?_) AllReadyH.nil
       go_simp
       obtain ⟨g2,c2,cur2,hA,zg2,hg2,_,hcur2⟩:=own_blk hown5 (by decide)
       injection hA with e1 _ e2
       subst e1 e2
       have hg2:=hg2.past p 3 (.slice (some ⟨g2,0,none⟩) 1 c5) (hg2.ne hdd.p (by decide))
       have hqd:=hqd.past p 3 (.slice (some ⟨g2,0,none⟩) 1 c5) (hqd.ne hdd.p (by decide))
       have hdd:=hdd.putp hzp zm zR zD (.slice (some ⟨g2,0,none⟩) 1 c5)
       refine hK.out _ _ (hqd.w5) (fun hHeld => ?_)
       clear hK K
       (try simp only [Act.put,Q3,Q4,Q5])
       refine wpAnyH_done (by kernel_rfl) ?_ _
       go_wp2_with fail
       go_meet
       exact ⟨g2,c5,cur2,zg2,hg2,hcur2,hqd,hdd⟩
     case rest =>
      clear hd hq
      obtain ⟨g2,c2,cur2,zg2,hg2,hcur2,hq,hd⟩:=hcut
      obtain ⟨v0,v1,v2,v3,v4,v5,v6⟩:=hd.v.door
      have zvv : v < wc.heap.size:=hd.v.lt
      go_upto_region 13 with (fail)
      have hdd:=hd.drew
      have hqd:=hq.drew
      have hgd:=hg2.drew
      have zbb : w.heap.size ≤ wc.heap.size:=hd.n.bel.size
      have zpp : p < wc.heap.size:=hd.p.lt
      have zqq : q < wc.heap.size:=hq.lt
      have zoo : go < wc.heap.size:=hd.o.lt
      have o0 : wc.cell? ⟨go,0,none⟩ = some (.slice none 0 0):=hd.o.w2.1
      have o0' : wc.drew.cell? ⟨go,0,none⟩ = some (.slice none 0 0):=o0
      have hnil:=World.ownsRow_nil (wc.drew.alloc (.cells #[.int .i64 0] 3)) w.heap.size 3 1
      clear v0 v1 v2 v3 v4 v5 v6
      refine wp_region_held_drew (S:=(fun w' => w'.cell? ⟨p,4,none⟩ = some (.slice (some ⟨go,0,none⟩) 2 2) ∧ w'.cell? ⟨q,0,none⟩ = some (.int .i64 0))) (by kernel_rfl) (⟨hdd.p.w7.2.2.2.2.1,hqd.w5.1⟩) (fun hHeld => ?_)
      (refine wpAnyH_take (i:=0) (v:=?_) (by (simp only [Q0,Q2]; rfl)) (by kernel_rfl) (by kernel_rfl) (by kernel_rfl) (by exact fun _ _ _ h => h) (Or.inl ⟨by rfl,?_⟩) (by assumption) ?_; (rotate_left 1; (intro w hSw; (try dsimp only at hSw); go_simp); (try with_reducible rfl)); (try simp only [Act.put,Q3,Q4,Q5]))
      (refine wpAnyH_take (i:=1) (v:=?_) (by (simp only [Q0,Q1,Q2]; rfl)) (by kernel_rfl) (by kernel_rfl) (by kernel_rfl) (by exact fun _ _ _ h => h) (Or.inl ⟨by rfl,?_⟩) (by assumption) ?_; (rotate_left 1; (intro w hSw; (try dsimp only at hSw); go_simp); (try with_reducible rfl)); (try simp only [Act.put,Q3,Q4,Q5]))
      (refine wpAnyH_take (i:=2) (v:=?_) (by (simp only [Q0,Q1,Q2]; rfl)) (by kernel_rfl) (by kernel_rfl) (by kernel_rfl) (by exact fun _ _ _ h => h) (Or.inl ⟨by rfl,?_⟩) (by assumption) ?_; (rotate_left 1; (intro w hSw; (try dsimp only at hSw); go_simp); (try with_reducible rfl)); (try simp only [Act.put,Q3,Q4,Q5]))
      (refine wpAnyH_take (i:=3) (v:=?_) (by (simp only [Q0,Q1,Q2]; rfl)) (by kernel_rfl) (by kernel_rfl) (by kernel_rfl) (by exact fun _ _ _ h => h) (Or.inl ⟨by rfl,?_⟩) (by assumption) ?_; (rotate_left 1; (intro w hSw; (try dsimp only at hSw); go_simp); (try with_reducible rfl)); (try simp only [Act.put,Q3,Q4,Q5]))
      (refine wpAnyH_take (i:=4) (v:=?_) (by (simp only [Q0,Q1,Q2]; rfl)) (by kernel_rfl) (by kernel_rfl) (by kernel_rfl) (by exact fun _ _ _ h => h) (Or.inl ⟨by rfl,?_⟩) (by assumption) ?_; (rotate_left 1; (intro w hSw; (try dsimp only at hSw); go_simp); (try with_reducible rfl)); (try simp only [Act.put,Q3,Q4,Q5]))
      (refine wpAnyH_take (i:=5) (v:=?_) (by (simp only [Q0,Q1,Q2]; rfl)) (by kernel_rfl) (by kernel_rfl) (by kernel_rfl) (by exact fun _ _ _ h => h) (Or.inl ⟨by rfl,?_⟩) (by assumption) ?_; (rotate_left 1; (intro w hSw; (try dsimp only at hSw); go_simp); (try with_reducible rfl)); (try simp only [Act.put,Q3,Q4,Q5]))
      (refine wpAnyH_take (i:=6) (v:=?_) (by (simp only [Q0,Q1,Q2]; rfl)) (by kernel_rfl) (by kernel_rfl) (by kernel_rfl) (by exact fun _ _ _ h => h) (Or.inl ⟨by rfl,?_⟩) (by assumption) ?_; (rotate_left 1; (intro w hSw; (try dsimp only at hSw); go_simp); (try with_reducible rfl)); (try simp only [Act.put,Q3,Q4,Q5]))
      (refine wpAnyH_take (i:=7) (v:=?_) (by (simp only [Q0,Q1,Q2]; rfl)) (by kernel_rfl) (by kernel_rfl) (by kernel_rfl) (by exact fun _ _ _ h => h) (Or.inl ⟨by rfl,?_⟩) (by assumption) ?_; (rotate_left 1; (intro w hSw; (try dsimp only at hSw); go_simp); (try with_reducible rfl)); (try simp only [Act.put,Q3,Q4,Q5]))
      (refine wpAnyH_take (i:=8) (v:=?_) (by (simp only [Q0,Q1,Q2]; rfl)) (by kernel_rfl) (by kernel_rfl) (by kernel_rfl) (by exact fun _ _ _ h => h) (Or.inl ⟨by rfl,?_⟩) (by assumption) ?_; (rotate_left 1; (intro w hSw; (try dsimp only at hSw); go_simp); (try with_reducible rfl)); (try simp only [Act.put,Q3,Q4,Q5]))
      (refine wpAnyH_take (i:=9) (v:=?_) (by (simp only [Q0,Q1,Q2]; rfl)) (by kernel_rfl) (by kernel_rfl) (by kernel_rfl) (by exact fun _ _ _ h => h) (Or.inl ⟨by rfl,?_⟩) (by assumption) ?_; (rotate_left 1; (intro w hSw; (try dsimp only at hSw); go_simp); (try with_reducible rfl)); (try simp only [Act.put,Q3,Q4,Q5]))
      (refine wpAnyH_take (i:=10) (v:=?_) (by (simp only [Q0,Q1,Q2]; rfl)) (by kernel_rfl) (by kernel_rfl) (by kernel_rfl) (by exact fun _ _ _ h => h) (Or.inl ⟨by rfl,?_⟩) (by assumption) ?_; (rotate_left 1; (intro w hSw; (try dsimp only at hSw); go_simp); (try with_reducible rfl)); (try simp only [Act.put,Q3,Q4,Q5]))
      (refine wpAnyH_take (i:=11) (v:=?_) (by (simp only [Q0,Q1,Q2]; rfl)) (by kernel_rfl) (by kernel_rfl) (by kernel_rfl) (by exact fun _ _ _ h => h) (Or.inl ⟨by rfl,?_⟩) (by assumption) ?_; (rotate_left 1; (intro w hSw; (try dsimp only at hSw); go_simp); (try with_reducible rfl)); (try simp only [Act.put,Q3,Q4,Q5]))
      (refine wpAnyH_take (i:=12) (v:=?_) (by (simp only [Q0,Q1,Q2]; rfl)) (by kernel_rfl) (by kernel_rfl) (by kernel_rfl) (by exact fun _ _ _ h => h) (Or.inl ⟨by rfl,?_⟩) (by assumption) ?_; (rotate_left 1; (intro w hSw; (try dsimp only at hSw); go_simp); (try with_reducible rfl)); (try simp only [Act.put,Q3,Q4,Q5]))
      (refine wpAnyH_take (i:=14) (v:=?_) (by (simp only [Q0,Q1,Q2]; rfl)) (by kernel_rfl) (by kernel_rfl) (by kernel_rfl) (by exact fun _ _ _ h => h) (Or.inl ⟨by rfl,?_⟩) (by assumption) ?_; (rotate_left 1; (intro w hSw; (try dsimp only at hSw); go_simp); (try with_reducible rfl)); (try simp only [Act.put,Q3,Q4,Q5]))
      refine wpAnyH_ready (rs:=[13,15]) (by kernel_rfl) (by simp) ?_
      refine AllReadyH.cons rfl (fun K hK => ?_) (AllReadyH.cons rfl (fun K hK => ?_) AllReadyH.nil)
      case refine_1 =>
       go_simp
       refine hK.out _ _ (⟨hdd.p.w7.2.2.2.2.1,hqd.w5.1⟩) (fun hHeld => ?_)
       clear hK K
       (try simp only [Act.put,Q3,Q4,Q5])
       refine wpAnyH_ready (rs:=[15]) (by kernel_rfl) (by simp) ?_
       refine AllReadyH.cons rfl (fun K hK => ?_) AllReadyH.nil
       go_simp
       have hdd:=hdd.alloc (.cells #[.int .i64 0] 3)
       have hqd:=hqd.alloc (.cells #[.int .i64 0] 3)
       have hgd:=hgd.alloc (.cells #[.int .i64 0] 3)
       refine hK.out _ _ (⟨hdd.p.w7.2.2.2.2.1,hqd.w5.1⟩) (fun hHeld => ?_)
       clear hK K
       (try simp only [Act.put,Q3,Q4,Q5])
       refine wpAnyH_ready (rs:=[16]) (by kernel_rfl) (by simp) ?_
       refine AllReadyH.cons rfl (fun K hK => ?_) AllReadyH.nil
       refine step_app (lo:=w.heap.size) (base:=w.heap.size) (n:=0) (xs:=[]) _ rfl _ _ ty_intz rfl hnil rfl (by first | exact row_new' _ (by first | rfl | simp) (by first | omega | (simp; omega)) rfl | exact row_newN _ _ (by first | rfl | simp) (by first | omega | (simp; omega)) rfl | exact row_newD _ (by first | rfl | simp) (by first | omega | (simp; omega)) rfl) rfl rfl (by decide) (by decide) (by first | omega | (simp; omega)) ?_
       intro A5 c5 w5 hown5 hg5 _
       have hdd:=hdd.app0 hg5 zm zR zD
       have hqd:=hqd.app0 hg5
       have hgd:=hgd.app0 hg5
       obtain ⟨t0,t1⟩:=hdd.o.w2
       have f3:=hdd.o.thaw 0
       have zp5:=hdd.o.lt
       refine hK.out _ _ (⟨hdd.p.w7.2.2.2.2.1,hqd.w5.1⟩) (fun hHeld => ?_)
       clear hK K
       (try simp only [Act.put,Q3,Q4,Q5])
       (refine wpAnyH_take (i:=17) (v:=?_) (by (simp only [Q0,Q1,Q2]; rfl)) (by kernel_rfl) (by kernel_rfl) (by kernel_rfl) (by exact fun _ _ _ h => h) (Or.inl ⟨by rfl,?_⟩) (by assumption) ?_; (rotate_left 1; (intro w hSw; (try dsimp only at hSw); go_simp); (try with_reducible rfl)); (try simp only [Act.put,Q3,Q4,Q5]))
       refine wpAnyH_ready (rs:=[18]) (by kernel_rfl) (by simp) ?_
       refine AllReadyH.cons rfl (fun K hK => ?_) AllReadyH.nil
       go_simp
       obtain ⟨g3,c3,cur3,hA,zg3,hg3,_,hcur3⟩:=own_blk hown5 (by decide)
       injection hA with e1 _ e2
       subst e1 e2
       have U:=Value.slice (some ⟨g3,0,none⟩) 1 c5
       have hg3:=hg3.past go 0 (.slice (some ⟨g3,0,none⟩) 1 c5) (hg3.ne hdd.o (by decide))
       have hqd:=hqd.past go 0 (.slice (some ⟨g3,0,none⟩) 1 c5) (hqd.ne hdd.o (by decide))
       have hgd:=hgd.past go 0 (.slice (some ⟨g3,0,none⟩) 1 c5) (hgd.ne hdd.o (by decide))
       have hpp:=hdd.p.past go 0 (.slice (some ⟨g3,0,none⟩) 1 c5) (hdd.p.ne hdd.o (by decide))
       have hg1:=hdd.g.past go 0 (.slice (some ⟨g3,0,none⟩) 1 c5) (hdd.g.ne hdd.o (by decide))
       have hoo:=hdd.o.poke 0 (.slice (some ⟨g3,0,none⟩) 1 c5)
       have hbb:=(hdd.n.poke go 0 (.slice (some ⟨g3,0,none⟩) 1 c5) hzo zm zR zD).bel
       refine hK.out _ _ (⟨hpp.w7.2.2.2.2.1,hqd.w5.1⟩) (fun hHeld => ?_)
       clear hK K
       (try simp only [Act.put,Q3,Q4,Q5])
       refine wpAnyH_done (by kernel_rfl) ?_ _
       go_wp2_with fail
       rw [rounds_succ]
       go_wp2_with fail
       go_ret
       exact ⟨p,go,g1,c,g2,c2,g3,c5,cur1,cur2,cur3,rfl,⟨hpp,hg1,hcur1,hgd,hcur2,hoo,hg3,hcur3,hzp,hzo,zg1,zg2,zg3⟩,hbb⟩
      case refine_2 =>
       go_simp
       have hdd:=hdd.alloc (.cells #[.int .i64 0] 3)
       have hqd:=hqd.alloc (.cells #[.int .i64 0] 3)
       have hgd:=hgd.alloc (.cells #[.int .i64 0] 3)
       refine hK.out _ _ (⟨hdd.p.w7.2.2.2.2.1,hqd.w5.1⟩) (fun hHeld => ?_)
       clear hK K
       (try simp only [Act.put,Q3,Q4,Q5])
       refine wpAnyH_ready (rs:=[13]) (by kernel_rfl) (by simp) ?_
       refine AllReadyH.cons rfl (fun K hK => ?_) AllReadyH.nil
       go_simp
       refine hK.out _ _ (⟨hdd.p.w7.2.2.2.2.1,hqd.w5.1⟩) (fun hHeld => ?_)
       clear hK K
       (try simp only [Act.put,Q3,Q4,Q5])
       refine wpAnyH_ready (rs:=[16]) (by kernel_rfl) (by simp) ?_
       refine AllReadyH.cons rfl (fun K hK => ?_) AllReadyH.nil
       refine step_app (lo:=w.heap.size) (base:=w.heap.size) (n:=0) (xs:=[]) _ rfl _ _ ty_intz rfl hnil rfl (by first | exact row_new' _ (by first | rfl | simp) (by first | omega | (simp; omega)) rfl | exact row_newN _ _ (by first | rfl | simp) (by first | omega | (simp; omega)) rfl | exact row_newD _ (by first | rfl | simp) (by first | omega | (simp; omega)) rfl) rfl rfl (by decide) (by decide) (by first | omega | (simp; omega)) ?_
       intro A5 c5 w5 hown5 hg5 _
       have hdd:=hdd.app0 hg5 zm zR zD
       have hqd:=hqd.app0 hg5
       have hgd:=hgd.app0 hg5
       obtain ⟨t0,t1⟩:=hdd.o.w2
       have f3:=hdd.o.thaw 0
       have zp5:=hdd.o.lt
       refine hK.out _ _ (⟨hdd.p.w7.2.2.2.2.1,hqd.w5.1⟩) (fun hHeld => ?_)
       clear hK K
       (try simp only [Act.put,Q3,Q4,Q5])
       (refine wpAnyH_take (i:=17) (v:=?_) (by (simp only [Q0,Q1,Q2]; rfl)) (by kernel_rfl) (by kernel_rfl) (by kernel_rfl) (by exact fun _ _ _ h => h) (Or.inl ⟨by rfl,?_⟩) (by assumption) ?_; (rotate_left 1; (intro w hSw; (try dsimp only at hSw); go_simp); (try with_reducible rfl)); (try simp only [Act.put,Q3,Q4,Q5]))
       refine wpAnyH_ready (rs:=[18]) (by kernel_rfl) (by simp) ?_
       refine AllReadyH.cons rfl (fun K hK => ?_) AllReadyH.nil
       go_simp
       obtain ⟨g3,c3,cur3,hA,zg3,hg3,_,hcur3⟩:=own_blk hown5 (by decide)
       injection hA with e1 _ e2
       subst e1 e2
       have U:=Value.slice (some ⟨g3,0,none⟩) 1 c5
       have hg3:=hg3.past go 0 (.slice (some ⟨g3,0,none⟩) 1 c5) (hg3.ne hdd.o (by decide))
       have hqd:=hqd.past go 0 (.slice (some ⟨g3,0,none⟩) 1 c5) (hqd.ne hdd.o (by decide))
       have hgd:=hgd.past go 0 (.slice (some ⟨g3,0,none⟩) 1 c5) (hgd.ne hdd.o (by decide))
       have hpp:=hdd.p.past go 0 (.slice (some ⟨g3,0,none⟩) 1 c5) (hdd.p.ne hdd.o (by decide))
       have hg1:=hdd.g.past go 0 (.slice (some ⟨g3,0,none⟩) 1 c5) (hdd.g.ne hdd.o (by decide))
       have hoo:=hdd.o.poke 0 (.slice (some ⟨g3,0,none⟩) 1 c5)
       have hbb:=(hdd.n.poke go 0 (.slice (some ⟨g3,0,none⟩) 1 c5) hzo zm zR zD).bel
       refine hK.out _ _ (⟨hpp.w7.2.2.2.2.1,hqd.w5.1⟩) (fun hHeld => ?_)
       clear hK K
       (try simp only [Act.put,Q3,Q4,Q5])
       refine wpAnyH_done (by kernel_rfl) ?_ _
       go_wp2_with fail
       rw [rounds_succ]
       go_wp2_with fail
       go_ret
       exact ⟨p,go,g1,c,g2,c2,g3,c5,cur1,cur2,cur3,rfl,⟨hpp,hg1,hcur1,hgd,hcur2,hoo,hg3,hcur3,hzp,hzo,zg1,zg2,zg3⟩,hbb⟩
end Go.Proofs.YtbfphnknkbhpkaaGreatDoor
