/- Texts of this seat, laid together: RtI. -/
import Derived.Test.YtbfphnknkbhpkaaGreatDoorBk239
import Derived.Test.YtbfphnknkbhpkaaGreatDoorBk241
/- The walk of explore at the one map. -/
namespace Go.Proofs.YtbfphnknkbhpkaaGreatDoor
set_option linter.unusedVariables false
set_option linter.unusedSimpArgs false
open Go.RowKit

theorem map_at (w : World) {b : Nat} {o : Obj} (hb : w.heap.size = b) : (w.alloc o).heap[b]? = some o:=by subst hb; exact heap_alloc_new w _
abbrev c000 : List Value := [.int .i64 0, .int .i64 0, .int .i64 0]
def X1 (w wr : World) (L : Nat) (M p go g1 c1 g2 c2 g3 c3 : Nat) (x1 x2 x3 : Array Value) (g mv gv t mb : Nat) : Prop :=
 GR L wr M p go g1 c1 g2 c2 g3 c3 x1 x2 x3 g mv gv t mb ∧ Below w.heap.size w wr ∧ IxPost w.heap.size wr p g mb 1 es1 [.int .i64 0,.int .i64 0,.int .i64 0] [.slice none 0 0] [.bool false]
def X2 (w wr : World) (L : Nat) (M p go g1 c1 g2 c2 g3 c3 : Nat) (x1 x2 x3 : Array Value) (g mv gv t mb : Nat) : Prop :=
 GR L wr M p go g1 c1 g2 c2 g3 c3 x1 x2 x3 g mv gv t mb ∧ Below w.heap.size w wr ∧ ∃ AY cy,IxPost w.heap.size wr p g mb 2 es2 [.int .i64 0,.int .i64 0,.int .i64 0,.int .i64 1,.int .i64 0,.int .i64 0] [.slice AY 1 cy,.slice none 0 0] [.bool false,.bool true] ∧ wr.ownsRow w.heap.size 249 2 (.slice AY 1 cy) 1 [.int .i64 0,.int .i64 1]
theorem ty_steps : SliceTy Tryz.prog 247 249 2 16:=.mk' Tryz.underlying247 (z:=.agg #[.int .i64 0,.int .i64 0]) (by kernel_rfl) rfl (by decide)

theorem GR.drewN {L : Nat} {w : World} {M p go g1 c1 g2 c2 g3 c3 : Nat} {x1 x2 x3 : Array Value} {g mv gv t mb : Nat} (h : GR L w M p go g1 c1 g2 c2 g3 c3 x1 x2 x3 g mv gv t mb) (k : Nat) : GR L (w.drewN k) M p go g1 c1 g2 c2 g3 c3 x1 x2 x3 g mv gv t mb:=⟨⟨h.wb.p,h.wb.g,h.wb.hx1,h.wb.d,h.wb.hx2,h.wb.o,h.wb.h,h.wb.hx3,h.wb.z⟩,h.mv,h.gv,h.t⟩
section
variable {lo : Nat} {w w' : World} {p g mb n s : Nat} {es : Array MapEntry} {xs ed bs : List Value} {N E B : Value}
theorem GN.drewN (h : GN lo w p g mb n es xs ed bs N E B) (k : Nat) : GN lo (w.drewN k) p g mb n es xs ed bs N E B:=⟨h.g,h.mb,h.N,h.E,h.B⟩
theorem poke_hs {a b c : Value} (hs : Blk w s 234 #[a,b,c]) (x y z : Value) : Blk (((w.setCell ⟨s,0,none⟩ x).setCell ⟨s,1,none⟩ y).setCell ⟨s,2,none⟩ z) s 234 #[x,y,z]:=by simpa using ((hs.poke 0 x).poke 1 y).poke 2 z
theorem poke_gr {L : Nat} {M go g1 c1 g2 c2 g3 c3 : Nat} {x1 x2 x3 : Array Value} {mv gv t : Nat} {a b c : Value} (h : GR L w M p go g1 c1 g2 c2 g3 c3 x1 x2 x3 g mv gv t mb) (hs : Blk w s 234 #[a,b,c]) (x y z : Value) : GR L (((w.setCell ⟨s,0,none⟩ x).setCell ⟨s,1,none⟩ y).setCell ⟨s,2,none⟩ z) M p go g1 c1 g2 c2 g3 c3 x1 x2 x3 g mv gv t mb :=
 have h1:=h.other (grown_poke _ s 0 x) hs.kind (by decide)
 have h2:=h1.other (grown_poke _ s 1 y) (hs.poke 0 x).kind (by decide)
 h2.other (grown_poke _ s 2 z) ((hs.poke 0 x).poke 1 y).kind (by decide)
theorem GN.poke1 {n1 k d : Nat} {cs : Array Value} (h : GN lo w p g mb n es xs ed bs (.slice (some ⟨n1,0,none⟩) k d) E B) (hs : Blk w s 234 cs) (hne : s ≠ n1) (i : Nat) (u : Value) : GN lo (w.setCell ⟨s,i,none⟩ u) p g mb n es xs ed bs (.slice (some ⟨n1,0,none⟩) k d) E B :=
 ⟨h.g.other (grown_poke w s i u) hs.kind (by decide),map_other h.mb (grown_poke w s i u) hs.kind (by decide),h.N.kept (grown_poke w s i u) (.inr (by simpa [Value.ownBlock] using Ne.symm hne)),own_other h.E (grown_poke w s i u) hs.kind (by decide),own_other h.B (grown_poke w s i u) hs.kind (by decide)⟩
theorem poke_gn {n1 k d : Nat} {a b c : Value} (h : GN lo w p g mb n es xs ed bs (.slice (some ⟨n1,0,none⟩) k d) E B) (hs : Blk w s 234 #[a,b,c]) (hne : s ≠ n1) (x y z : Value) : GN lo (((w.setCell ⟨s,0,none⟩ x).setCell ⟨s,1,none⟩ y).setCell ⟨s,2,none⟩ z) p g mb n es xs ed bs (.slice (some ⟨n1,0,none⟩) k d) E B :=
 ((h.poke1 hs hne 0 x).poke1 (hs.poke 0 x) hne 1 y).poke1 ((hs.poke 0 x).poke 1 y) hne 2 z
theorem poke_be {a : World} (h : Below lo a w) (hs : lo ≤ s) (x y z : Value) : Below lo a (((w.setCell ⟨s,0,none⟩ x).setCell ⟨s,1,none⟩ y).setCell ⟨s,2,none⟩ z):=Below.setCell (Below.setCell (Below.setCell h (show lo ≤ (⟨s,0,none⟩ : Addr).block from hs) x) (show lo ≤ (⟨s,1,none⟩ : Addr).block from hs) y) (show lo ≤ (⟨s,2,none⟩ : Addr).block from hs) z
theorem put_gn {n2 d : Nat} (h : GN lo w p g mb n es xs ed bs N (.slice (some ⟨n2,0,none⟩) n d) B) (u : Value) : GN lo (w.setCell ⟨n2,0,none⟩ u) p g mb n es xs (ed.set 0 u) bs N (.slice (some ⟨n2,0,none⟩) n d) B :=
 have hk:=own_kind h.E
 ⟨h.g.other (grown_poke w n2 0 u) hk (by decide),map_other h.mb (grown_poke w n2 0 u) hk (by decide),own_other h.N (grown_poke w n2 0 u) hk (by decide),(h.E.stored 0 u).1,own_other h.B (grown_poke w n2 0 u) hk (by decide)⟩
theorem grown_none (h : w.grownBy w' none) : Below w.heap.size w w':=⟨h.os,h.tape,h.output,h.size,fun k hk => h.block k hk (by simp)⟩
theorem s12 {L : Nat} {M go g1 c1 g2 c2 g3 c3 : Nat} {x1 x2 x3 : Array Value} {mv gv t n1 d1 : Nat} (hgr : GR L w M p go g1 c1 g2 c2 g3 c3 x1 x2 x3 g mv gv t mb) (hgn : GN lo w p g mb 1 es c000 ed bs (.slice (some ⟨n1,0,none⟩) 1 d1) E B) : w.cell? ⟨gv,0,none⟩ = some (.pointer (some ⟨g,0,none⟩)) ∧ w.cell? ⟨g,1,none⟩ = some (.slice (some ⟨n1,0,none⟩) 1 d1) ∧ w.cell? ⟨n1,0,none⟩ = some (.int .i64 0) ∧ w.cell? ⟨n1,1,none⟩ = some (.int .i64 0) ∧ w.cell? ⟨n1,2,none⟩ = some (.int .i64 0) ∧ w.cell? ⟨p,3,none⟩ = some (.slice (some ⟨g2,0,none⟩) 1 c2) ∧ w.cell? ⟨g2,0,none⟩ = some (.int .i64 0) ∧ w.cell? ⟨g2,1,none⟩ = some (.int .i64 1) ∧ w.cell? ⟨g2,2,none⟩ = some (.int .i64 7) ∧ w.cell? ⟨g2,3,none⟩ = some (.int .i64 0) ∧ w.cell? ⟨g2,4,none⟩ = some (.int .i64 0) :=
 ⟨hgr.gv.w1,hgn.g.w5.2.1,own_at hgn.N 0 rfl,own_at hgn.N 1 rfl,own_at hgn.N 2 rfl,hgr.wb.p.w7.2.2.2.1,hgr.wb.door.1,hgr.wb.door.2.1,hgr.wb.door.2.2.1,hgr.wb.door.2.2.2.1,hgr.wb.door.2.2.2.2⟩
end
structure GE (lo : Nat) (W : World) (p g n1 n2 n3 d1 d2 d3 yb yc fb fc : Nat) : Prop where
  g : Blk W g 246 #[.pointer (some ⟨p, 0, none⟩), .slice (some ⟨n1, 0, none⟩) 2 d1, .slice (some ⟨n2, 0, none⟩) 2 d2, .slice (some ⟨n3, 0, none⟩) 2 d3, .slice (some ⟨fb, 0, none⟩) 2 fc]
  E : W.ownsRow lo 247 1 (.slice (some ⟨n2, 0, none⟩) 2 d2) 2 [.slice (some ⟨yb, 0, none⟩) 1 yc, .slice none 0 0]
  B : W.ownsRow lo 4 1 (.slice (some ⟨n3, 0, none⟩) 2 d3) 2 [.bool false, .bool true]
  Y : W.ownsRow lo 249 2 (.slice (some ⟨yb, 0, none⟩) 1 yc) 1 [.int .i64 0, .int .i64 1]
  F : W.ownsRow lo 240 2 (.slice (some ⟨fb, 0, none⟩) 2 fc) 2 (prs [(7, 1), (0, 0)])
set_option maxHeartbeats 4000000 in
set_option maxRecDepth 100000 in
theorem explore_fx {L : Nat} {M p go g1 c1 g2 c2 g3 c3 : Nat} {x1 x2 x3 : Array Value} (w : World) (hw : WB L w M p go g1 c1 g2 c2 g3 c3 x1 x2 x3) :
  Calls Tryz.prog 129 #[.pointer (some ⟨p,0,none⟩),.agg #[.int .i64 0,.int .i64 0,.int .i64 0,.slice none 0 0,.func (.func 131) #[.pointer (some ⟨p,0,none⟩)] #[]]] w fun e w' => ∃ g n1 n2 n3 d1 d2 d3 yb yc fb fc,e = .returned (.pointer (some ⟨g,0,none⟩)) ∧ WB L w' M p go g1 c1 g2 c2 g3 c3 x1 x2 x3 ∧ GE w.heap.size w' p g n1 n2 n3 d1 d2 d3 yb yc fb fc ∧ Below w.heap.size w w':=by
 have hmk : ∀ w : World,(Instr.makeMap 277 none).run Tryz.prog w = .ok (.map (some w.heap.size)) (w.alloc (.map #[] 0)):=fun w => by kernel_rfl
 go_enter Tryz.func129,Tryz.ntmps129
 go_wp2_with fail
 clear hmk
 have hgr : GR L (((((w.alloc (.cells #[.int .i64 0,.int .i64 0,.int .i64 0,.slice none 0 0,.func (.func 131) #[.pointer (some ⟨p,0,none⟩)] #[]] 238)).alloc (.cells #[.pointer (some ⟨p,0,none⟩),.slice none 0 0,.slice none 0 0,.slice none 0 0,.slice none 0 0] 246)).alloc (.cells #[.pointer (some ⟨w.heap.size + 1,0,none⟩)] 180)).alloc (.map #[] 0)).alloc (.cells #[.map (some (w.heap.size + 1 + 1 + 1))] 277)) M p go g1 c1 g2 c2 g3 c3 x1 x2 x3 (w.heap.size + 1) (w.heap.size + 1 + 1 + 1 + 1) (w.heap.size + 1 + 1) w.heap.size (w.heap.size + 1 + 1 + 1) :=
  ⟨((((hw.alloc _).alloc _).alloc _).alloc _).alloc _,Blk.at_ _ (by simp),((Blk.at_ _ (by simp)).alloc _).alloc _,((((Blk.new _ _ _).alloc _).alloc _).alloc _).alloc _⟩
 have hgn : GN w.heap.size (((((w.alloc (.cells #[.int .i64 0,.int .i64 0,.int .i64 0,.slice none 0 0,.func (.func 131) #[.pointer (some ⟨p,0,none⟩)] #[]] 238)).alloc (.cells #[.pointer (some ⟨p,0,none⟩),.slice none 0 0,.slice none 0 0,.slice none 0 0,.slice none 0 0] 246)).alloc (.cells #[.pointer (some ⟨w.heap.size + 1,0,none⟩)] 180)).alloc (.map #[] 0)).alloc (.cells #[.map (some (w.heap.size + 1 + 1 + 1))] 277)) p (w.heap.size + 1) (w.heap.size + 1 + 1 + 1) 0 #[] [] [] [] (.slice none 0 0) (.slice none 0 0) (.slice none 0 0) :=
  ⟨(((Blk.at_ _ (by simp)).alloc _).alloc _).alloc _,map_below (map_at _ (by simp)) ((Below.refl _ _).alloc (Nat.le_refl _) _),World.ownsRow_nil _ _ _ _,World.ownsRow_nil _ _ _ _,World.ownsRow_nil _ _ _ _⟩
 have zl : w.heap.size ≤ (((((w.alloc (.cells #[.int .i64 0,.int .i64 0,.int .i64 0,.slice none 0 0,.func (.func 131) #[.pointer (some ⟨p,0,none⟩)] #[]] 238)).alloc (.cells #[.pointer (some ⟨p,0,none⟩),.slice none 0 0,.slice none 0 0,.slice none 0 0,.slice none 0 0] 246)).alloc (.cells #[.pointer (some ⟨w.heap.size + 1,0,none⟩)] 180)).alloc (.map #[] 0)).alloc (.cells #[.map (some (w.heap.size + 1 + 1 + 1))] 277)).heap.size:=by simp; omega
 have hbel : Below w.heap.size w (((((w.alloc (.cells #[.int .i64 0,.int .i64 0,.int .i64 0,.slice none 0 0,.func (.func 131) #[.pointer (some ⟨p,0,none⟩)] #[]] 238)).alloc (.cells #[.pointer (some ⟨p,0,none⟩),.slice none 0 0,.slice none 0 0,.slice none 0 0,.slice none 0 0] 246)).alloc (.cells #[.pointer (some ⟨w.heap.size + 1,0,none⟩)] 180)).alloc (.map #[] 0)).alloc (.cells #[.map (some (w.heap.size + 1 + 1 + 1))] 277)):=(by repeat (first | exact Below.refl _ _ | refine Below.alloc ?_ (by first | omega | (simp; omega) | simp) _ | refine below_drewN' ?_ _ | refine Below.drew ?_))
 generalize (((((w.alloc (.cells #[.int .i64 0,.int .i64 0,.int .i64 0,.slice none 0 0,.func (.func 131) #[.pointer (some ⟨p,0,none⟩)] #[]] 238)).alloc (.cells #[.pointer (some ⟨p,0,none⟩),.slice none 0 0,.slice none 0 0,.slice none 0 0,.slice none 0 0] 246)).alloc (.cells #[.pointer (some ⟨w.heap.size + 1,0,none⟩)] 180)).alloc (.map #[] 0)).alloc (.cells #[.map (some (w.heap.size + 1 + 1 + 1))] 277)) = X at *
 refine (see_fx _ 0 _ hgr.t.w5.2.2.2.1).mono ?_
 rintro e wa ⟨rfl,hb⟩
 have hgr:=hgr.below hb
 have hgn:=hgn.below hb
 have hbel:=hbel.trans (hb.mono zl)
 have zl : w.heap.size ≤ wa.heap.size:=Nat.le_trans zl hb.size
 have hzg : w.heap.size ≤ w.heap.size + 1:=Nat.le_succ _
 have hzm : w.heap.size ≤ w.heap.size + 1 + 1 + 1:=by omega
 go_wp2_with fail
 refine (index_0 none none none 0 0 0 undef _ zl hzg hzm hgr hgn).mono ?_
 rintro e wb ⟨rfl,hgr,hix,hbx⟩
 have hbel:=hbel.trans hbx
 clear hgn hb hbx zl hw
 generalize w.heap.size + 1 + 1 + 1 + 1 = mv at *
 generalize w.heap.size + 1 + 1 + 1 = mb at *
 generalize w.heap.size + 1 + 1 = gv at *
 generalize w.heap.size + 1 = g at *
 go_wp2_with fail
 go_loopw [8] (fun i wr => (i = .int .i64 0 ∧ X1 w wr L M p go g1 c1 g2 c2 g3 c3 x1 x2 x3 g mv gv w.heap.size mb) ∨ (i = .int .i64 1 ∧ X2 w wr L M p go g1 c1 g2 c2 g3 c3 x1 x2 x3 g mv gv w.heap.size mb) ∨ (i = .int .i64 2 ∧ X2 w wr L M p go g1 c1 g2 c2 g3 c3 x1 x2 x3 g mv gv w.heap.size mb)) (fun i _ => 2 - (intOf i).toNat)
 case atStart => exact .inl ⟨rfl,hgr,hbel,hix⟩
 case round =>
  clear hgr hbel hix
  rcases hrel with ⟨rfl,hgr,hbel,A1,A2,A3,d1,d2,d3,hgn⟩ | ⟨rfl,hgr,hbel,AY,cy,⟨A1,A2,A3,d1,d2,d3,hgn⟩,hY⟩ | ⟨rfl,hgr,hbel,AY,cy,⟨A1,A2,A3,d1,d2,d3,hgn⟩,hY⟩
  ·obtain ⟨n1,hA1,z1,zz1,hN,_⟩:=ownBlk hgn.N (by decide)
   obtain ⟨n2,hA2,z2,zz2,hE,fE⟩:=ownBlk hgn.E (by decide)
   obtain ⟨n3,hA3,z3,zz3,hB,_⟩:=ownBlk hgn.B (by decide)
   subst hA1 hA2 hA3
   have qg:=hgr.gv.w1
   obtain ⟨k0,k1,k2,k3,k4⟩:=hgn.g.w5
   have b0:=hB 0 (.bool false) rfl
   have s0:=hN 0 (.int .i64 0) rfl
   obtain ⟨o0,o1⟩:=hgr.wb.o.w2
   have p4:=hgr.wb.p.w7.2.2.2.2.1
   go_upto_region 9 with (fail)
   go_quiet (fail)
   have hgr:=hgr.drewN nq
   have hgn:=hgn.drewN nq
   have hbel:=below_drewN' hbel nq
   clear b0 s0 o0 o1 p4 k0 k1 k2 k3 k4 qg hN hE hB fE zz1 zz2 zz3
   generalize wr.drewN nq = Z at *
   go_wp2_with fail
   refine wp_loop_rounds 2 ?_
   rw [rounds_succ]
   have h0:=hgr.wb.out0
   go_upto_region 12 with (fail)
   clear h0
   go_cut [11,12] (fun u v wx => ∃ s : Nat,u = .pointer (some ⟨s,0,none⟩) ∧ v = .bool true ∧ Blk wx s 234 #[.int .i64 1,.int .i64 0,.int .i64 0] ∧ GR L wx M p go g1 c1 g2 c2 g3 c3 x1 x2 x3 g mv gv w.heap.size mb ∧ GN w.heap.size wx p g mb 1 es1 c000 [.slice none 0 0] [.bool false] (.slice (some ⟨n1,0,none⟩) 1 d1) (.slice (some ⟨n2,0,none⟩) 1 d2) (.slice (some ⟨n3,0,none⟩) 1 d3) ∧ Below w.heap.size w wx)
   case first =>
    go_wp2_with fail
    have hgr:=hgr.drew
    have hgn:=hgn.drew
    have hbel:=hbel.drew
    have zl : w.heap.size ≤ Z.drew.heap.size:=hbel.size
    refine wp_region_held_drew (S:=(fun w' => w'.cell? ⟨gv,0,none⟩ = some (.pointer (some ⟨g,0,none⟩)) ∧ w'.cell? ⟨g,1,none⟩ = some (.slice (some ⟨n1,0,none⟩) 1 d1) ∧ w'.cell? ⟨n1,0,none⟩ = some (.int .i64 0) ∧ w'.cell? ⟨n1,1,none⟩ = some (.int .i64 0) ∧ w'.cell? ⟨n1,2,none⟩ = some (.int .i64 0) ∧ w'.cell? ⟨p,3,none⟩ = some (.slice (some ⟨g2,0,none⟩) 1 c2) ∧ w'.cell? ⟨g2,0,none⟩ = some (.int .i64 0) ∧ w'.cell? ⟨g2,1,none⟩ = some (.int .i64 1) ∧ w'.cell? ⟨g2,2,none⟩ = some (.int .i64 7) ∧ w'.cell? ⟨g2,3,none⟩ = some (.int .i64 0) ∧ w'.cell? ⟨g2,4,none⟩ = some (.int .i64 0))) (by kernel_rfl) (s12 hgr hgn) (fun hHeld => ?_)
    (refine wpAnyH_take (i:=0) (v:=?_) (by (simp only [Q0,Q2]; rfl)) (by kernel_rfl) (by kernel_rfl) (by kernel_rfl) (by exact fun _ _ _ h => h) (Or.inl ⟨by rfl,?_⟩) (by assumption) ?_; (rotate_left 1; (intro w hSw; (try dsimp only at hSw); go_simp); (try with_reducible rfl)); (try simp only [Act.put,Q3,Q4,Q5]))
    (refine wpAnyH_take (i:=1) (v:=?_) (by (simp only [Q0,Q1,Q2]; rfl)) (by kernel_rfl) (by kernel_rfl) (by kernel_rfl) (by exact fun _ _ _ h => h) (Or.inl ⟨by rfl,?_⟩) (by assumption) ?_; (rotate_left 1; (intro w hSw; (try dsimp only at hSw); go_simp); (try with_reducible rfl)); (try simp only [Act.put,Q3,Q4,Q5]))
    (refine wpAnyH_take (i:=2) (v:=?_) (by (simp only [Q0,Q1,Q2]; rfl)) (by kernel_rfl) (by kernel_rfl) (by kernel_rfl) (by exact fun _ _ _ h => h) (Or.inl ⟨by rfl,?_⟩) (by assumption) ?_; (rotate_left 1; (intro w hSw; (try dsimp only at hSw); go_simp); (try with_reducible rfl)); (try simp only [Act.put,Q3,Q4,Q5]))
    (refine wpAnyH_take (i:=3) (v:=?_) (by (simp only [Q0,Q1,Q2]; rfl)) (by kernel_rfl) (by kernel_rfl) (by kernel_rfl) (by exact fun _ _ _ h => h) (Or.inl ⟨by rfl,?_⟩) (by assumption) ?_; (rotate_left 1; (intro w hSw; (try dsimp only at hSw); go_simp); (try with_reducible rfl)); (try simp only [Act.put,Q3,Q4,Q5]))
    (refine wpAnyH_take (i:=4) (v:=?_) (by (simp only [Q0,Q1,Q2]; rfl)) (by kernel_rfl) (by kernel_rfl) (by kernel_rfl) (by exact fun _ _ _ h => h) (Or.inl ⟨by rfl,?_⟩) (by assumption) ?_; (rotate_left 1; (intro w hSw; (try dsimp only at hSw); go_simp); (try with_reducible rfl)); (try simp only [Act.put,Q3,Q4,Q5]))
    (refine wpAnyH_take (i:=5) (v:=?_) (by (simp only [Q0,Q1,Q2]; rfl)) (by kernel_rfl) (by kernel_rfl) (by kernel_rfl) (by exact fun _ _ _ h => h) (Or.inl ⟨by rfl,?_⟩) (by assumption) ?_; (rotate_left 1; (intro w hSw; (try dsimp only at hSw); go_simp); (try with_reducible rfl)); (try simp only [Act.put,Q3,Q4,Q5]))
    (refine wpAnyH_take (i:=6) (v:=?_) (by (simp only [Q0,Q1,Q2]; rfl)) (by kernel_rfl) (by kernel_rfl) (by kernel_rfl) (by exact fun _ _ _ h => h) (Or.inl ⟨by rfl,?_⟩) (by assumption) ?_; (rotate_left 1; (intro w hSw; (try dsimp only at hSw); go_simp); (try with_reducible rfl)); (try simp only [Act.put,Q3,Q4,Q5]))
    (refine wpAnyH_take (i:=7) (v:=?_) (by (simp only [Q0,Q1,Q2]; rfl)) (by kernel_rfl) (by kernel_rfl) (by kernel_rfl) (by exact fun _ _ _ h => h) (Or.inl ⟨by rfl,?_⟩) (by assumption) ?_; (rotate_left 1; (intro w hSw; (try dsimp only at hSw); go_simp); (try with_reducible rfl)); (try simp only [Act.put,Q3,Q4,Q5]))
    (refine wpAnyH_take (i:=8) (v:=?_) (by (simp only [Q0,Q1,Q2]; rfl)) (by kernel_rfl) (by kernel_rfl) (by kernel_rfl) (by exact fun _ _ _ h => h) (Or.inl ⟨by rfl,?_⟩) (by assumption) ?_; (rotate_left 1; (intro w hSw; (try dsimp only at hSw); go_simp); (try with_reducible rfl)); (try simp only [Act.put,Q3,Q4,Q5]))
    (refine wpAnyH_take (i:=9) (v:=?_) (by (simp only [Q0,Q1,Q2]; rfl)) (by kernel_rfl) (by kernel_rfl) (by kernel_rfl) (by exact fun _ _ _ h => h) (Or.inl ⟨by rfl,?_⟩) (by assumption) ?_; (rotate_left 1; (intro w hSw; (try dsimp only at hSw); go_simp); (try with_reducible rfl)); (try simp only [Act.put,Q3,Q4,Q5]))
    (refine wpAnyH_take (i:=10) (v:=?_) (by (simp only [Q0,Q1,Q2]; rfl)) (by kernel_rfl) (by kernel_rfl) (by kernel_rfl) (by exact fun _ _ _ h => h) (Or.inl ⟨by rfl,?_⟩) (by assumption) ?_; (rotate_left 1; (intro w hSw; (try dsimp only at hSw); go_simp); (try with_reducible rfl)); (try simp only [Act.put,Q3,Q4,Q5]))
    (refine wpAnyH_take (i:=11) (v:=?_) (by (simp only [Q0,Q1,Q2]; rfl)) (by kernel_rfl) (by kernel_rfl) (by kernel_rfl) (by exact fun _ _ _ h => h) (Or.inl ⟨by rfl,?_⟩) (by assumption) ?_; (rotate_left 1; (intro w hSw; (try dsimp only at hSw); go_simp); (try with_reducible rfl)); (try simp only [Act.put,Q3,Q4,Q5]))
    (refine wpAnyH_take (i:=12) (v:=?_) (by (simp only [Q0,Q1,Q2]; rfl)) (by kernel_rfl) (by kernel_rfl) (by kernel_rfl) (by exact fun _ _ _ h => h) (Or.inl ⟨by rfl,?_⟩) (by assumption) ?_; (rotate_left 1; (intro w hSw; (try dsimp only at hSw); go_simp); (try with_reducible rfl)); (try simp only [Act.put,Q3,Q4,Q5]))
    (refine wpAnyH_take (i:=13) (v:=?_) (by (simp only [Q0,Q1,Q2]; rfl)) (by kernel_rfl) (by kernel_rfl) (by kernel_rfl) (by exact fun _ _ _ h => h) (Or.inl ⟨by rfl,?_⟩) (by assumption) ?_; (rotate_left 1; (intro w hSw; (try dsimp only at hSw); go_simp); (try with_reducible rfl)); (try simp only [Act.put,Q3,Q4,Q5]))
    (refine wpAnyH_take (i:=14) (v:=?_) (by (simp only [Q0,Q1,Q2]; rfl)) (by kernel_rfl) (by kernel_rfl) (by kernel_rfl) (by exact fun _ _ _ h => h) (Or.inl ⟨by rfl,?_⟩) (by assumption) ?_; (rotate_left 1; (intro w hSw; (try dsimp only at hSw); go_simp); (try with_reducible rfl)); (try simp only [Act.put,Q3,Q4,Q5]))
    refine wpAnyH_ready (rs:=[15,19]) (by kernel_rfl) (by simp) ?_
    refine AllReadyH.cons rfl (fun K hK => ?_) (AllReadyH.cons rfl (fun K hK => ?_) AllReadyH.nil)
    case refine_1 =>
     go_simp
     go_at_call 164
     refine (pass_fx _ hgr.wb).mono ?_
     rintro e wp ⟨rfl,hb⟩
     have hbel:=hbel.trans (hb.mono zl)
     have zl : w.heap.size ≤ wp.heap.size:=Nat.le_trans zl hb.size
     have hgr:=hgr.below hb
     have hgn:=hgn.below hb
     go_wp2_with fail
     refine hK.out _ _ (s12 hgr hgn) (fun hHeld => ?_)
     clear hK K
     (try simp only [Act.put,Q3,Q4,Q5])
     (refine wpAnyH_take (i:=16) (v:=?_) (by (simp only [Q0,Q1,Q2]; rfl)) (by kernel_rfl) (by kernel_rfl) (by kernel_rfl) (by exact fun _ _ _ h => h) (Or.inl ⟨by rfl,?_⟩) (by assumption) ?_; (rotate_left 1; (intro w hSw; (try dsimp only at hSw); go_simp); (try with_reducible rfl)); (try simp only [Act.put,Q3,Q4,Q5]))
     (refine wpAnyH_take (i:=17) (v:=?_) (by (simp only [Q0,Q1,Q2]; rfl)) (by kernel_rfl) (by kernel_rfl) (by kernel_rfl) (by exact fun _ _ _ h => h) (Or.inl ⟨by rfl,?_⟩) (by assumption) ?_; (rotate_left 1; (intro w hSw; (try dsimp only at hSw); go_simp); (try with_reducible rfl)); (try simp only [Act.put,Q3,Q4,Q5]))
     (refine wpAnyH_take (i:=18) (v:=?_) (by (simp only [Q0,Q1,Q2]; rfl)) (by kernel_rfl) (by kernel_rfl) (by kernel_rfl) (by exact fun _ _ _ h => h) (Or.inl ⟨by rfl,?_⟩) (by assumption) ?_; (rotate_left 1; (intro w hSw; (try dsimp only at hSw); go_simp); (try with_reducible rfl)); (try simp only [Act.put,Q3,Q4,Q5]))
     refine wpAnyH_ready (rs:=[19]) (by kernel_rfl) (by simp) ?_
     refine AllReadyH.cons rfl (fun K hK => ?_) AllReadyH.nil
     go_simp
     have hgr0:=hgr
     have hgn0:=hgn
     have hbel0:=hbel
     have zl0:=zl
     have zs : w.heap.size ≤ wp.heap.size:=zl
     have hsn : wp.heap.size ≠ n1:=by have:=(hgn.N.lt n1 rfl).2; (try simp at this); omega
     have hs : Blk (wp.alloc (.cells #[.int .i64 0,.int .i64 0,.int .i64 0] 234)) (wp.heap.size) 234 #[.int .i64 0,.int .i64 0,.int .i64 0]:=Blk.at_ _ (by simp)
     have hbel:=hbel.alloc zl (.cells #[.int .i64 0,.int .i64 0,.int .i64 0] 234)
     have hgr:=hgr.alloc (.cells #[.int .i64 0,.int .i64 0,.int .i64 0] 234)
     have hgn:=hgn.alloc (.cells #[.int .i64 0,.int .i64 0,.int .i64 0] 234)
     have zl : w.heap.size ≤ (wp.alloc (.cells #[.int .i64 0,.int .i64 0,.int .i64 0] 234)).heap.size:=by simp at zl ⊢; omega
     refine hK.out _ _ (s12 hgr hgn) (fun hHeld => ?_)
     clear hK K
     (try simp only [Act.put,Q3,Q4,Q5])
     refine wpAnyH_ready (rs:=[20]) (by kernel_rfl) (by simp) ?_
     refine AllReadyH.cons rfl (fun K hK => ?_) AllReadyH.nil
     go_simp
     have hgr:=hgr0.alloc (.cells #[.int .i64 1,.int .i64 0,.int .i64 0] 234)
     have hgn:=hgn0.alloc (.cells #[.int .i64 1,.int .i64 0,.int .i64 0] 234)
     have hbel:=hbel0.alloc zl0 (.cells #[.int .i64 1,.int .i64 0,.int .i64 0] 234)
     have hs : Blk (wp.alloc (.cells #[.int .i64 1,.int .i64 0,.int .i64 0] 234)) wp.heap.size 234 #[.int .i64 1,.int .i64 0,.int .i64 0]:=Blk.new _ _ _
     refine hK.out _ _ (s12 hgr hgn) (fun hHeld => ?_)
     clear hK K
     (try simp only [Act.put,Q3,Q4,Q5])
     (refine wpAnyH_take (i:=21) (v:=?_) (by (simp only [Q0,Q1,Q2]; rfl)) (by kernel_rfl) (by kernel_rfl) (by kernel_rfl) (by exact fun _ _ _ h => h) (Or.inl ⟨by rfl,?_⟩) (by assumption) ?_; (rotate_left 1; (intro w hSw; (try dsimp only at hSw); go_simp); (try with_reducible rfl)); (try simp only [Act.put,Q3,Q4,Q5]))
     refine wpAnyH_done (by kernel_rfl) ?_ _
     go_wp2_with fail
     go_meet
     exact ⟨_,rfl,rfl,hs,hgr,hgn,hbel⟩
    case refine_2 =>
     go_simp
     have hgr0:=hgr
     have hgn0:=hgn
     have hbel0:=hbel
     have zl0:=zl
     have zs : w.heap.size ≤ Z.heap.size:=zl
     have hsn : Z.heap.size ≠ n1:=by have:=(hgn.N.lt n1 rfl).2; (try simp at this); omega
     have hs : Blk (Z.drew.alloc (.cells #[.int .i64 0,.int .i64 0,.int .i64 0] 234)) (Z.heap.size) 234 #[.int .i64 0,.int .i64 0,.int .i64 0]:=Blk.at_ _ (by simp)
     have hbel:=hbel.alloc zl (.cells #[.int .i64 0,.int .i64 0,.int .i64 0] 234)
     have hgr:=hgr.alloc (.cells #[.int .i64 0,.int .i64 0,.int .i64 0] 234)
     have hgn:=hgn.alloc (.cells #[.int .i64 0,.int .i64 0,.int .i64 0] 234)
     have zl : w.heap.size ≤ (Z.drew.alloc (.cells #[.int .i64 0,.int .i64 0,.int .i64 0] 234)).heap.size:=by simp at zl ⊢; omega
     refine hK.out _ _ (s12 hgr hgn) (fun hHeld => ?_)
     clear hK K
     (try simp only [Act.put,Q3,Q4,Q5])
     refine wpAnyH_ready (rs:=[15]) (by kernel_rfl) (by simp) ?_
     refine AllReadyH.cons rfl (fun K hK => ?_) AllReadyH.nil
     go_simp
     go_at_call 164
     refine (pass_fx _ hgr.wb).mono ?_
     rintro e wp ⟨rfl,hb⟩
     have hbel:=hbel.trans (hb.mono zl)
     have zl : w.heap.size ≤ wp.heap.size:=Nat.le_trans zl hb.size
     have hgr:=hgr.below hb
     have hgn:=hgn.below hb
     have hs:=hs.below hb
     go_wp2_with fail
     refine hK.out _ _ (s12 hgr hgn) (fun hHeld => ?_)
     clear hK K
     (try simp only [Act.put,Q3,Q4,Q5])
     (refine wpAnyH_take (i:=16) (v:=?_) (by (simp only [Q0,Q1,Q2]; rfl)) (by kernel_rfl) (by kernel_rfl) (by kernel_rfl) (by exact fun _ _ _ h => h) (Or.inl ⟨by rfl,?_⟩) (by assumption) ?_; (rotate_left 1; (intro w hSw; (try dsimp only at hSw); go_simp); (try with_reducible rfl)); (try simp only [Act.put,Q3,Q4,Q5]))
     (refine wpAnyH_take (i:=17) (v:=?_) (by (simp only [Q0,Q1,Q2]; rfl)) (by kernel_rfl) (by kernel_rfl) (by kernel_rfl) (by exact fun _ _ _ h => h) (Or.inl ⟨by rfl,?_⟩) (by assumption) ?_; (rotate_left 1; (intro w hSw; (try dsimp only at hSw); go_simp); (try with_reducible rfl)); (try simp only [Act.put,Q3,Q4,Q5]))
     (refine wpAnyH_take (i:=18) (v:=?_) (by (simp only [Q0,Q1,Q2]; rfl)) (by kernel_rfl) (by kernel_rfl) (by kernel_rfl) (by exact fun _ _ _ h => h) (Or.inl ⟨by rfl,?_⟩) (by assumption) ?_; (rotate_left 1; (intro w hSw; (try dsimp only at hSw); go_simp); (try with_reducible rfl)); (try simp only [Act.put,Q3,Q4,Q5]))
     refine wpAnyH_ready (rs:=[20]) (by kernel_rfl) (by simp) ?_
     refine AllReadyH.cons rfl (fun K hK => ?_) AllReadyH.nil
     have f0:=hs.thaw 0
     have f1:=hs.thaw 1
     have f2:=hs.thaw 2
     obtain ⟨t0,t1,t2⟩:=hs.w3
     have zs0:=hs.lt
     go_simp
     clear f0 f1 f2 t0 t1 t2 zs0
     have hgr:=poke_gr hgr hs (.int .i64 1) (.int .i64 0) (.int .i64 0)
     have hgn:=poke_gn hgn hs hsn (.int .i64 1) (.int .i64 0) (.int .i64 0)
     have hbel:=poke_be hbel zs (.int .i64 1) (.int .i64 0) (.int .i64 0)
     have hs:=poke_hs hs (.int .i64 1) (.int .i64 0) (.int .i64 0)
     refine hK.out _ _ (s12 hgr hgn) (fun hHeld => ?_)
     clear hK K
     (try simp only [Act.put,Q3,Q4,Q5])
     (refine wpAnyH_take (i:=21) (v:=?_) (by (simp only [Q0,Q1,Q2]; rfl)) (by kernel_rfl) (by kernel_rfl) (by kernel_rfl) (by exact fun _ _ _ h => h) (Or.inl ⟨by rfl,?_⟩) (by assumption) ?_; (rotate_left 1; (intro w hSw; (try dsimp only at hSw); go_simp); (try with_reducible rfl)); (try simp only [Act.put,Q3,Q4,Q5]))
     refine wpAnyH_done (by kernel_rfl) ?_ _
     go_wp2_with fail
     go_meet
     exact ⟨_,rfl,rfl,hs,hgr,hgn,hbel⟩
   case rest =>
    obtain ⟨s,rfl,rfl,hs,hgr,hgn,hbel⟩:=hcut
    have zl : w.heap.size ≤ wc.heap.size:=hbel.size
    obtain ⟨s0,s1,s2⟩:=hs.w3
    go_wp2_with fail
    refine (see_fx _ 1 _ hgr.t.w5.2.2.2.1).mono ?_
    rintro e wd ⟨rfl,hb⟩
    have hgr:=hgr.below hb
    have hgn:=hgn.below hb
    have hbel:=hbel.trans (hb.mono zl)
    have zl : w.heap.size ≤ wd.heap.size:=Nat.le_trans zl hb.size
    go_wp2_with fail
    refine (index_1 _ _ _ _ _ _ (.slice none 0 0) _ zl hzg hzm hgr hgn).mono ?_
    rintro e we ⟨rfl,hgr,hix,hbx⟩
    have hbel:=hbel.trans hbx
    have zl : w.heap.size ≤ we.heap.size:=hbel.size
    clear hgn hb hbx s0 s1 s2 hs
    obtain ⟨A1,A2,A3,d1,d2,d3,hgn⟩:=hix
    obtain ⟨n1,hA1,z1,zz1,hN,_⟩:=ownBlk hgn.N (by decide)
    obtain ⟨n2,hA2,z2,zz2,hE,fE⟩:=ownBlk hgn.E (by decide)
    obtain ⟨n3,hA3,z3,zz3,hB,_⟩:=ownBlk hgn.B (by decide)
    subst hA1 hA2 hA3
    clear hN hE hB fE
    generalize we = Z at *
    go_upto_region 15 with (fail)
    have hgr:=hgr.drew
    have hgn:=hgn.drew
    have hbel:=hbel.drew
    have zl : w.heap.size ≤ Z.drew.heap.size:=zl
    refine wp_region_heldK 18 (fun w' => w'.cell? ⟨n2,0,none⟩ = some (.slice none 0 0)) (fun w' => w'.cell? ⟨gv,0,none⟩ = some (.pointer (some ⟨g,0,none⟩)) ∧ w'.cell? ⟨g,2,none⟩ = some (.slice (some ⟨n2,0,none⟩) 2 d2)) (by kernel_rfl) (⟨hgr.gv.w1,hgn.g.w5.2.2.1⟩) (own_at hgn.E 0 rfl) (fun hT hS => ?_)
    (refine wpAnyK_take2 (i:=0) (v:=?_) (by (simp only [Q0,Q2]; rfl)) (by kernel_rfl) (by kernel_rfl) (by kernel_rfl) (by decide) (by exact fun _ _ _ h => h) (Or.inl ⟨by rfl,?_⟩) (by assumption) (by assumption) ?_; (rotate_left 1; (intro w hSw; (try dsimp only at hSw); go_simp); (try with_reducible rfl)); (try simp only [Act.put,Q3,Q4,Q5]))
    (refine wpAnyK_take2 (i:=1) (v:=?_) (by (simp only [Q0,Q1,Q2]; rfl)) (by kernel_rfl) (by kernel_rfl) (by kernel_rfl) (by decide) (by exact fun _ _ _ h => h) (Or.inl ⟨by rfl,?_⟩) (by assumption) (by assumption) ?_; (rotate_left 1; (intro w hSw; (try dsimp only at hSw); go_simp); (try with_reducible rfl)); (try simp only [Act.put,Q3,Q4,Q5]))
    (refine wpAnyK_take2 (i:=2) (v:=?_) (by (simp only [Q0,Q1,Q2]; rfl)) (by kernel_rfl) (by kernel_rfl) (by kernel_rfl) (by decide) (by exact fun _ _ _ h => h) (Or.inl ⟨by rfl,?_⟩) (by assumption) (by assumption) ?_; (rotate_left 1; (intro w hSw; (try dsimp only at hSw); go_simp); (try with_reducible rfl)); (try simp only [Act.put,Q3,Q4,Q5]))
    (refine wpAnyK_take2 (i:=3) (v:=?_) (by (simp only [Q0,Q1,Q2]; rfl)) (by kernel_rfl) (by kernel_rfl) (by kernel_rfl) (by decide) (by exact fun _ _ _ h => h) (Or.inl ⟨by rfl,?_⟩) (by assumption) (by assumption) ?_; (rotate_left 1; (intro w hSw; (try dsimp only at hSw); go_simp); (try with_reducible rfl)); (try simp only [Act.put,Q3,Q4,Q5]))
    (refine wpAnyK_take2 (i:=4) (v:=?_) (by (simp only [Q0,Q1,Q2]; rfl)) (by kernel_rfl) (by kernel_rfl) (by kernel_rfl) (by decide) (by exact fun _ _ _ h => h) (Or.inl ⟨by rfl,?_⟩) (by assumption) (by assumption) ?_; (rotate_left 1; (intro w hSw; (try dsimp only at hSw); go_simp); (try with_reducible rfl)); (try simp only [Act.put,Q3,Q4,Q5]))
    (refine wpAnyK_take2 (i:=5) (v:=?_) (by (simp only [Q0,Q1,Q2]; rfl)) (by kernel_rfl) (by kernel_rfl) (by kernel_rfl) (by decide) (by exact fun _ _ _ h => h) (Or.inl ⟨by rfl,?_⟩) (by assumption) (by assumption) ?_; (rotate_left 1; (intro w hSw; (try dsimp only at hSw); go_simp); (try with_reducible rfl)); (try simp only [Act.put,Q3,Q4,Q5]))
    (refine wpAnyK_take2 (i:=6) (v:=?_) (by (simp only [Q0,Q1,Q2]; rfl)) (by kernel_rfl) (by kernel_rfl) (by kernel_rfl) (by decide) (by exact fun _ _ _ h => h) (Or.inl ⟨by rfl,?_⟩) (by assumption) (by assumption) ?_; (rotate_left 1; (intro w hSw; (try dsimp only at hSw); go_simp); (try with_reducible rfl)); (try simp only [Act.put,Q3,Q4,Q5]))
    (refine wpAnyK_take2 (i:=7) (v:=?_) (by (simp only [Q0,Q1,Q2]; rfl)) (by kernel_rfl) (by kernel_rfl) (by kernel_rfl) (by decide) (by exact fun _ _ _ h => h) (Or.inl ⟨by rfl,?_⟩) (by assumption) (by assumption) ?_; (rotate_left 1; (intro w hSw; (try dsimp only at hSw); go_simp); (try with_reducible rfl)); (try simp only [Act.put,Q3,Q4,Q5]))
    (refine wpAnyK_take2 (i:=8) (v:=?_) (by (simp only [Q0,Q1,Q2]; rfl)) (by kernel_rfl) (by kernel_rfl) (by kernel_rfl) (by decide) (by exact fun _ _ _ h => h) (Or.inl ⟨by rfl,?_⟩) (by assumption) (by assumption) ?_; (rotate_left 1; (intro w hSw; (try dsimp only at hSw); go_simp); (try with_reducible rfl)); (try simp only [Act.put,Q3,Q4,Q5]))
    (refine wpAnyK_take2 (i:=9) (v:=?_) (by (simp only [Q0,Q1,Q2]; rfl)) (by kernel_rfl) (by kernel_rfl) (by kernel_rfl) (by decide) (by exact fun _ _ _ h => h) (Or.inl ⟨by rfl,?_⟩) (by assumption) (by assumption) ?_; (rotate_left 1; (intro w hSw; (try dsimp only at hSw); go_simp); (try with_reducible rfl)); (try simp only [Act.put,Q3,Q4,Q5]))
    (refine wpAnyK_take2 (i:=10) (v:=?_) (by (simp only [Q0,Q1,Q2]; rfl)) (by kernel_rfl) (by kernel_rfl) (by kernel_rfl) (by decide) (by exact fun _ _ _ h => h) (Or.inl ⟨by rfl,?_⟩) (by assumption) (by assumption) ?_; (rotate_left 1; (intro w hSw; (try dsimp only at hSw); go_simp); (try with_reducible rfl)); (try simp only [Act.put,Q3,Q4,Q5]))
    (refine wpAnyK_take1 (i:=11) (v:=?_) (by (simp only [Q0,Q1,Q2]; rfl)) (by kernel_rfl) (by kernel_rfl) (by kernel_rfl) (by decide) (by kernel_rfl) (by kernel_rfl) (by exact fun _ _ _ h => h) (Or.inl ⟨by rfl,?_⟩) (by assumption) (by assumption) ?_; (rotate_left 1; (intro w hSw; (try dsimp only at hSw); go_simp); (try with_reducible rfl)); (try simp only [Act.put,Q3,Q4,Q5]))
    (refine wpAnyK_take2 (i:=12) (v:=?_) (by (simp only [Q0,Q1,Q2]; rfl)) (by kernel_rfl) (by kernel_rfl) (by kernel_rfl) (by decide) (by exact fun _ _ _ h => h) (Or.inl ⟨by rfl,?_⟩) (by assumption) (by assumption) ?_; (rotate_left 1; (intro w hSw; (try dsimp only at hSw); go_simp); (try with_reducible rfl)); (try simp only [Act.put,Q3,Q4,Q5]))
    (refine wpAnyK_take2 (i:=13) (v:=?_) (by (simp only [Q0,Q1,Q2]; rfl)) (by kernel_rfl) (by kernel_rfl) (by kernel_rfl) (by decide) (by exact fun _ _ _ h => h) (Or.inl ⟨by rfl,?_⟩) (by assumption) (by assumption) ?_; (rotate_left 1; (intro w hSw; (try dsimp only at hSw); go_simp); (try with_reducible rfl)); (try simp only [Act.put,Q3,Q4,Q5]))
    (refine wpAnyK_take2 (i:=14) (v:=?_) (by (simp only [Q0,Q1,Q2]; rfl)) (by kernel_rfl) (by kernel_rfl) (by kernel_rfl) (by decide) (by exact fun _ _ _ h => h) (Or.inl ⟨by rfl,?_⟩) (by assumption) (by assumption) ?_; (rotate_left 1; (intro w hSw; (try dsimp only at hSw); go_simp); (try with_reducible rfl)); (try simp only [Act.put,Q3,Q4,Q5]))
    refine wpAnyK_ready (rs:=[15]) (by kernel_rfl) (by simp) ?_
    refine AllReadyK.cons rfl (fun K hK => ?_) AllReadyK.nil
    go_simp
    have hy : Blk (Z.drew.alloc (.cells #[.int .i64 0,.int .i64 1] 249)) Z.heap.size 249 #[.int .i64 0,.int .i64 1]:=Blk.at_ _ (by simp)
    have hbel:=hbel.alloc zl (.cells #[.int .i64 0,.int .i64 1] 249)
    have hgr:=hgr.alloc (.cells #[.int .i64 0,.int .i64 1] 249)
    have hgn:=hgn.alloc (.cells #[.int .i64 0,.int .i64 1] 249)
    have zl : w.heap.size ≤ (Z.drew.alloc (.cells #[.int .i64 0,.int .i64 1] 249)).heap.size:=by simp at zl ⊢; omega
    refine hK.out _ _ (⟨hgr.gv.w1,hgn.g.w5.2.2.1⟩) (own_at hgn.E 0 rfl) (fun hT hS => ?_)
    clear hK K
    (try simp only [Act.put,Q3,Q4,Q5])
    refine wpAnyK_ready (rs:=[16]) (by kernel_rfl) (by simp) ?_
    refine AllReadyK.cons rfl (fun K hK => ?_) AllReadyK.nil
    refine step_app (lo:=0) (base:=w.heap.size) (n:=0) (xs:=[]) _ rfl _ _ ty_steps rfl (World.ownsRow_nil _ _ _ _) rfl (Row.lit (n:=1) (size:=2) hy (Nat.zero_le _) rfl) rfl rfl (by decide) (by decide) zl ?_
    intro AY cY wy hY gY _
    have gY:=grown_none gY
    have hgr:=hgr.below gY
    have hgn:=hgn.below gY
    have hbel:=hbel.trans (gY.mono zl)
    have zl : w.heap.size ≤ wy.heap.size:=Nat.le_trans zl gY.size
    refine hK.out _ _ (⟨hgr.gv.w1,hgn.g.w5.2.2.1⟩) (own_at hgn.E 0 rfl) (fun hT hS => ?_)
    clear hK K
    (try simp only [Act.put,Q3,Q4,Q5])
    (refine wpAnyK_take2 (i:=17) (v:=?_) (by (simp only [Q0,Q1,Q2]; rfl)) (by kernel_rfl) (by kernel_rfl) (by kernel_rfl) (by decide) (by exact fun _ _ _ h => h) (Or.inl ⟨by rfl,?_⟩) (by assumption) (by assumption) ?_; (rotate_left 1; (intro w hSw; (try dsimp only at hSw); go_simp); (try with_reducible rfl)); (try simp only [Act.put,Q3,Q4,Q5]))
    refine wpAnyK_ready (rs:=[18]) (by kernel_rfl) (by simp) ?_
    refine AllReadyK.consT (by kernel_rfl) rfl (fun K hK => ?_) AllReadyK.nil
    have kE:=own_kind hgn.E
    have fE:=hgn.E.frozenAt 0
    have cE : wy.cell? ⟨n2,0,none⟩ = some (.slice none 0 0):=own_at hgn.E 0 rfl
    have zE:=(hgn.E.lt n2 rfl)
    go_simp
    clear fE cE
    have hgr:=hgr.other (grown_poke wy n2 0 (.slice AY 1 cY)) kE (by decide)
    have hY:=own_other hY (grown_poke wy n2 0 (.slice AY 1 cY)) kE (by decide)
    have hgn:=put_gn hgn (.slice AY 1 cY)
    have hbel:=Below.setCell hbel (show w.heap.size ≤ (⟨n2,0,none⟩ : Addr).block from zE.1) (.slice AY 1 cY)
    refine hK.out _ _ (⟨hgr.gv.w1,hgn.g.w5.2.2.1⟩) (fun hT => ?_)
    clear hK K
    (try simp only [Act.put,Q3,Q4,Q5])
    refine wpAnyK_done (by kernel_rfl) ?_ _
    go_wp2_with fail
    rw [rounds_succ]
    go_wp2_with fail
    go_roundw
    case rel => exact .inr (.inl ⟨rfl,hgr,hbel,AY,cY,⟨_,_,_,_,_,_,hgn⟩,hY⟩)
    case measure => simp [intOf]
  ·obtain ⟨n1,hA1,z1,zz1,hN,_⟩:=ownBlk hgn.N (by decide)
   obtain ⟨n2,hA2,z2,zz2,hE,fE⟩:=ownBlk hgn.E (by decide)
   obtain ⟨n3,hA3,z3,zz3,hB,_⟩:=ownBlk hgn.B (by decide)
   subst hA1 hA2 hA3
   have qg:=hgr.gv.w1
   obtain ⟨k0,k1,k2,k3,k4⟩:=hgn.g.w5
   have b1:=hB 1 (.bool true) rfl
   go_wp2_with fail
   go_roundw
   case rel => exact .inr (.inr ⟨rfl,hgr,hbel,AY,cy,⟨_,_,_,d1,d2,d3,hgn⟩,hY⟩)
   case measure => simp [intOf]
  ·obtain ⟨n1,hA1,z1,zz1,hN,_⟩:=ownBlk hgn.N (by decide)
   obtain ⟨n2,hA2,z2,zz2,hE,fE⟩:=ownBlk hgn.E (by decide)
   obtain ⟨n3,hA3,z3,zz3,hB,_⟩:=ownBlk hgn.B (by decide)
   subst hA1 hA2 hA3
   have qg:=hgr.gv.w1
   obtain ⟨k0,k1,k2,k3,k4⟩:=hgn.g.w5
   go_wp2_with fail
   obtain ⟨yb,hAY,_⟩:=ownBlk hY (by decide)
   subst hAY
   have kg:=hgn.g.kind
   clear k0 k1 k2 k3 k4 hN hE hB fE qg
   refine (measure_fx _ hgr.wb hgn.g hgn.E hgn.B hY).mono ?_
   rintro e wz ⟨rfl,fb,fc,hg,hF,hG⟩
   have hgr:=hgr.other hG kg (by decide)
   have hge : GE w.heap.size wz p g n1 n2 n3 d1 d2 d3 yb cy fb fc:=⟨hg,own_other hgn.E hG kg (by decide),own_other hgn.B hG kg (by decide),own_other hY hG kg (by decide),own_weak hF hbel.size⟩
   have hbel:=hbel.grown hG hbel.size (fun k hk => by injection hk with hk; omega)
   have qg:=hgr.gv.w1
   have zgv:=hgr.gv.lt
   go_wp2_with fail
   go_ret
   exact ⟨g,n1,n2,n3,d1,d2,d3,yb,cy,fb,fc,rfl,hgr.wb,hge,hbel⟩

end Go.Proofs.YtbfphnknkbhpkaaGreatDoor
