/- Texts of this seat, laid together: VoJ VoI. -/
import Derived.Test.YtgeaeockmadhcaaGreatDoorBp20
/- The walk of the stream's QuorumOf. -/
namespace Go.Proofs.YtgeaeockmadhcaaGreatDoor
set_option linter.unusedVariables false
set_option linter.unusedSimpArgs false
open Go.RowKit

structure QuC (w W : World) (g N rb qb : Nat) (cs : Array Value) : Prop where
  s : Str W g N
  gr : w.grownBy W (some g)
  r : Blk W rb 33 #[.int .i64 0, .int .i64 0, .int .i64 0]
  q : Blk W qb 33 cs
  lt : g < w.heap.size
  h1 : w.heap.size ≤ rb
  h2 : rb < qb
section
variable {w W W' : World} {g N N' rb qb : Nat} {cs : Array Value}
theorem QuC.keep (h : QuC w W g N rb qb cs) (hb : Below W.heap.size W W') : QuC w W' g N rb qb cs:=⟨h.s.keep hb,grown_trans' h.gr (grown_of_below hb _),h.r.below hb,h.q.below hb,h.lt,h.h1,h.h2⟩
theorem QuC.alloc (h : QuC w W g N rb qb cs) (o : Obj) : QuC w (W.alloc o) g N rb qb cs:=h.keep ((Below.refl _ _).alloc (Nat.le_refl _) o)
theorem QuC.drew (h : QuC w W g N rb qb cs) : QuC w W.drew g N rb qb cs:=h.keep (below_drewN' (Below.refl _ _) 1)
theorem QuC.str (h : QuC w W g N rb qb cs) (hs : Str W' g N') (hg : W.grownBy W' (some g)) : QuC w W' g N' rb qb cs:=by
 have:=h.lt; have:=h.h1; have:=h.h2
 exact ⟨hs,grown_trans' h.gr hg,h.r.gr9 hg (by omega),h.q.gr9 hg (by omega),h.lt,h.h1,h.h2⟩
theorem QuC.more (h : QuC w W g N rb qb cs) (hN : N ≤ N') : QuC w W g N' rb qb cs:=⟨h.s.more hN,h.gr,h.r,h.q,h.lt,h.h1,h.h2⟩
theorem QuC.set (h : QuC w W g N rb qb cs) (i : Nat) (u : Value) : QuC w (W.setCell ⟨qb,i,none⟩ u) g N rb qb (cs.setIfInBounds i u):=by
 have:=h.lt; have:=h.h1; have:=h.h2
 exact ⟨h.s.set (by show g < qb; omega) u,grown_set_new h.gr (show w.heap.size ≤ qb by omega) u,h.r.past qb i u (by omega),h.q.poke i u,h.lt,h.h1,h.h2⟩
theorem QuC.fin {a b c : Int} (h : QuC w W g N rb qb #[.int .i64 a,.int .i64 b,.int .i64 c]) : Str (((W.setCell ⟨rb,0,none⟩ (.int .i64 a)).setCell ⟨rb,1,none⟩ (.int .i64 b)).setCell ⟨rb,2,none⟩ (.int .i64 c)) g N ∧ w.grownBy (((W.setCell ⟨rb,0,none⟩ (.int .i64 a)).setCell ⟨rb,1,none⟩ (.int .i64 b)).setCell ⟨rb,2,none⟩ (.int .i64 c)) (some g) ∧ Blk (((W.setCell ⟨rb,0,none⟩ (.int .i64 a)).setCell ⟨rb,1,none⟩ (.int .i64 b)).setCell ⟨rb,2,none⟩ (.int .i64 c)) rb 33 #[.int .i64 a,.int .i64 b,.int .i64 c]:=by
 have h0:=h.lt; have h1:=h.h1
 have hg : g < rb:=by omega
 exact ⟨((h.s.set (p:=⟨rb,0,none⟩) hg _).set (p:=⟨rb,1,none⟩) hg _).set (p:=⟨rb,2,none⟩) hg _,grown_set_new (p:=⟨rb,2,none⟩) (grown_set_new (p:=⟨rb,1,none⟩) (grown_set_new (p:=⟨rb,0,none⟩) h.gr h1 _) h1 _) h1 _,((h.r.poke 0 (.int .i64 a)).poke 1 (.int .i64 b)).poke 2 (.int .i64 c)⟩
theorem QuC.facts {a b c : Int} (h : QuC w W g N rb qb #[.int .i64 a,.int .i64 b,.int .i64 c]) : ((W.cell? ⟨qb,0,none⟩ = some (.int .i64 a) ∧ W.cell? ⟨qb,1,none⟩ = some (.int .i64 b) ∧ W.cell? ⟨qb,2,none⟩ = some (.int .i64 c)) ∧ W.cell? ⟨rb,0,none⟩ = some (.int .i64 0) ∧ W.cell? ⟨rb,1,none⟩ = some (.int .i64 0) ∧ W.cell? ⟨rb,2,none⟩ = some (.int .i64 0)) ∧ (W.frozen? ⟨qb,0,none⟩ = false ∧ W.frozen? ⟨qb,1,none⟩ = false ∧ W.frozen? ⟨qb,2,none⟩ = false) ∧ W.frozen? ⟨rb,0,none⟩ = false ∧ W.frozen? ⟨rb,1,none⟩ = false ∧ W.frozen? ⟨rb,2,none⟩ = false :=
 ⟨⟨⟨h.q.cell 0,h.q.cell 1,h.q.cell 2⟩,h.r.cell 0,h.r.cell 1,h.r.cell 2⟩,⟨h.q.thaw 0,h.q.thaw 1,h.q.thaw 2⟩,h.r.thaw 0,h.r.thaw 1,h.r.thaw 2⟩
end
theorem fr_at {W : World} {lb : Nat} {t : TypeId} {cs : Array Value} (h : Blk W lb t cs) (ha : ∀ i,i < 8 → ∃ x : Int,cs[i]? = some (.int .i64 x)) {k : Nat} (hk : k < 4) : ∃ nu de : Int,W.cell? ⟨lb,k * 2,none⟩ = some (.int .i64 nu) ∧ W.cell? ⟨lb,k * 2 + 1,none⟩ = some (.int .i64 de):=by
 obtain ⟨x,hx⟩:=ha (k * 2) (by omega)
 obtain ⟨y,hy⟩:=ha (k * 2 + 1) (by omega)
 exact ⟨x,y,by rw [h.cell,hx],by rw [h.cell,hy]⟩
theorem fr1 : ∀ i,i < 8 → ∃ x : Int,(#[.int .i64 1,.int .i64 2,.int .i64 2,.int .i64 3,.int .i64 1,.int .i64 1,.int .i64 0,.int .i64 1] : Array Value)[i]? = some (.int .i64 x):=fun i hi => by
 match i,hi with
 | 0,_ => exact ⟨_,rfl⟩
 | 1,_ => exact ⟨_,rfl⟩
 | 2,_ => exact ⟨_,rfl⟩
 | 3,_ => exact ⟨_,rfl⟩
 | 4,_ => exact ⟨_,rfl⟩
 | 5,_ => exact ⟨_,rfl⟩
 | 6,_ => exact ⟨_,rfl⟩
 | 7,_ => exact ⟨_,rfl⟩
theorem fr2 : ∀ i,i < 8 → ∃ x : Int,(#[.int .i64 2,.int .i64 4,.int .i64 3,.int .i64 2,.int .i64 1,.int .i64 1001,.int .i64 1,.int .i64 3] : Array Value)[i]? = some (.int .i64 x):=fun i hi => by
 match i,hi with
 | 0,_ => exact ⟨_,rfl⟩
 | 1,_ => exact ⟨_,rfl⟩
 | 2,_ => exact ⟨_,rfl⟩
 | 3,_ => exact ⟨_,rfl⟩
 | 4,_ => exact ⟨_,rfl⟩
 | 5,_ => exact ⟨_,rfl⟩
 | 6,_ => exact ⟨_,rfl⟩
 | 7,_ => exact ⟨_,rfl⟩
def QuPost (w : World) (g N : Nat) (e : Ending) (w' : World) : Prop:=∃ q : QuoE,e = .returned (quoV q) ∧ Str w' g N ∧ w.grownBy w' (some g)
theorem res_quo (fn : Func) (s : Nat) (tmps : Array Value) (w : World) (m : Nat) (x y z : Int) (e : fn.results = #[.cell s 33]) (hx : tmps.getD s undef = .pointer (some ⟨m,0,none⟩)) (f0 : w.cell? ⟨m,0,none⟩ = some (.int .i64 x)) (f1 : w.cell? ⟨m,1,none⟩ = some (.int .i64 y)) (f2 : w.cell? ⟨m,2,none⟩ = some (.int .i64 z)) :
  (results fn tmps).run Tryz.prog w = .ok (.agg #[.int .i64 x,.int .i64 y,.int .i64 z]) w:=by
 have hx' : tmps[s]?.getD undef = .pointer (some ⟨m,0,none⟩):=by simpa using hx
 simp [results,e,hx',go_sem,f0,f1,f2]
set_option maxHeartbeats 4000000 in
set_option maxRecDepth 100000 in
theorem quorumOf_any (g N : Nat) (w : World) (hs : Str w g N) (hN : N < 4611686018427000000) :
  Calls Tryz.prog 7 #[.pointer (some ⟨g,0,none⟩)] w (QuPost w g (N + 10)):=by
 have hlt:=hs.lt
 have hr0 : Blk (w.alloc (.cells #[.int .i64 0,.int .i64 0,.int .i64 0] 33)) w.heap.size 33 #[.int .i64 0,.int .i64 0,.int .i64 0]:=Blk.new _ _ _
 have hs0:=hs.alloc (.cells #[.int .i64 0,.int .i64 0,.int .i64 0] 33)
 have hg0 : w.grownBy (w.alloc (.cells #[.int .i64 0,.int .i64 0,.int .i64 0] 33)) (some g):=World.grownBy_alloc _ _ _
 clear hs
 go_enter Tryz.func7,Tryz.ntmps7
 go_wp2_with fail
 refine (pick_any g _ _ _ _ [1,1,2,3] _ (hs0.alloc _) (by omega) (Row.lit (Blk.at1 (cs:=#[.int .i64 1,.int .i64 1,.int .i64 2,.int .i64 3]) _ (by simp)) (Nat.le_refl _) rfl) (by omega) (by simp) (by simp)).mono ?_
 rintro e w1 ⟨le,rfl,-,hs1,hg1⟩
 replace hg0:=grown_trans' (grown_alloc hg0 (.cells #[.int .i64 1,.int .i64 1,.int .i64 2,.int .i64 3] 3)) hg1
 replace hr0:=(hr0.alloc (.cells #[.int .i64 1,.int .i64 1,.int .i64 2,.int .i64 3] 3)).gr9 hg1 hlt
 clear hg1 hs0
 have hb1 : Blk (w1.alloc (.cells #[.int .i64 1,.int .i64 2,.int .i64 2,.int .i64 3,.int .i64 1,.int .i64 1,.int .i64 0,.int .i64 1] 31)) w1.heap.size 31 #[.int .i64 1,.int .i64 2,.int .i64 2,.int .i64 3,.int .i64 1,.int .i64 1,.int .i64 0,.int .i64 1]:=Blk.new _ _ _
 have hgl : g < w1.heap.size:=hs1.lt
 go_wp2_with fail
 refine (next_any g _ 4 _ (hs1.alloc _) (by omega) (by omega)).mono ?_
 rintro e w2 ⟨r,rfl,h40,h41,-,hs2,hg2⟩
 have h42:=h41 (by omega)
 obtain ⟨k,rfl⟩:=Int.eq_ofNat_of_zero_le h40
 have hk0 : k < 4:=by omega
 replace hg0:=grown_trans' (grown_alloc hg0 (.cells #[.int .i64 1,.int .i64 2,.int .i64 2,.int .i64 3,.int .i64 1,.int .i64 1,.int .i64 0,.int .i64 1] 31)) hg2
 replace hr0:=(hr0.alloc (.cells #[.int .i64 1,.int .i64 2,.int .i64 2,.int .i64 3,.int .i64 1,.int .i64 1,.int .i64 0,.int .i64 1] 31)).gr9 hg2 hlt
 replace hb1:=hb1.gr9 hg2 hgl
 obtain ⟨nu,de,c0,c1⟩:=fr_at hb1 fr1 hk0
 have zb:=hb1.lt
 clear h40 h41 h42 hg2 hs1 hb1 hgl
 have hQ : QuC w (w2.alloc (.cells #[.int .i64 le,.int .i64 nu,.int .i64 de] 33)) g _ w.heap.size w2.heap.size #[.int .i64 le,.int .i64 nu,.int .i64 de]:=⟨hs2.alloc _,grown_alloc hg0 _,hr0.alloc _,Blk.new _ _ _,hlt,Nat.le_refl _,hr0.lt⟩
 have hlq : g < w2.heap.size:=hs2.lt
 have HQ:=Lib.hid hQ
 clear hs2 hg0 hr0 hQ
 go_wp2_with fail
 refine (flip_any g _ 20 _ HQ.out.s (by omega) (by omega)).mono ?_
 rintro e w3 ⟨r,rfl,hs3,hg3⟩
 have hQ:=HQ.out.str hs3 hg3
 clear HQ hs3 hg3 c0 c1 zb
 cases r
 ·obtain ⟨⟨⟨z0,z1,z2⟩,v0,v1,v2⟩,-,y0,y1,y2⟩:=hQ.facts
  obtain ⟨hsF,hgF,hbF⟩:=hQ.fin
  have HSF:=Lib.hid (hsF.more (show _ ≤ N + 10 by omega))
  have HGF:=Lib.hid hgF
  have HBF:=Lib.hid hbF
  clear hsF hgF hbF hQ
  go_wp2_with fail
  refine bodyPost_ret (res_quo _ 2 _ _ w.heap.size le nu de rfl rfl (HBF.out.cell 0) (HBF.out.cell 1) (HBF.out.cell 2)) rfl ?_
  exact ⟨⟨le,nu,de⟩,rfl,HSF.out,HGF.out⟩
 ·go_upto_region 3 with (fail)
  replace hQ:=hQ.drew
  refine wp_region_held_drew (S:=(fun _ => True)) (by kernel_rfl) (trivial) (fun hHeld => ?_)
  generalize w3.drew = w4 at *
  (refine wpAnyH_take (i:=0) (v:=?_) (by (simp only [Q0,Q2]; rfl)) (by kernel_rfl) (by kernel_rfl) (by kernel_rfl) (by exact fun _ _ _ h => h) (Or.inl ⟨by rfl,?_⟩) (by assumption) ?_; (rotate_left 1; (intro w hSw; (try dsimp only at hSw); go_simp); (try with_reducible rfl)); (try simp only [Act.put,Q3,Q4,Q5]))
  (refine wpAnyH_take (i:=2) (v:=?_) (by (simp only [Q0,Q1,Q2]; rfl)) (by kernel_rfl) (by kernel_rfl) (by kernel_rfl) (by exact fun _ _ _ h => h) (Or.inl ⟨by rfl,?_⟩) (by assumption) ?_; (rotate_left 1; (intro w hSw; (try dsimp only at hSw); go_simp); (try with_reducible rfl)); (try simp only [Act.put,Q3,Q4,Q5]))
  (refine wpAnyH_take (i:=3) (v:=?_) (by (simp only [Q0,Q1,Q2]; rfl)) (by kernel_rfl) (by kernel_rfl) (by kernel_rfl) (by exact fun _ _ _ h => h) (Or.inl ⟨by rfl,?_⟩) (by assumption) ?_; (rotate_left 1; (intro w hSw; (try dsimp only at hSw); go_simp); (try with_reducible rfl)); (try simp only [Act.put,Q3,Q4,Q5]))
  (refine wpAnyH_take (i:=4) (v:=?_) (by (simp only [Q0,Q1,Q2]; rfl)) (by kernel_rfl) (by kernel_rfl) (by kernel_rfl) (by exact fun _ _ _ h => h) (Or.inl ⟨by rfl,?_⟩) (by assumption) ?_; (rotate_left 1; (intro w hSw; (try dsimp only at hSw); go_simp); (try with_reducible rfl)); (try simp only [Act.put,Q3,Q4,Q5]))
  (refine wpAnyH_take (i:=5) (v:=?_) (by (simp only [Q0,Q1,Q2]; rfl)) (by kernel_rfl) (by kernel_rfl) (by kernel_rfl) (by exact fun _ _ _ h => h) (Or.inl ⟨by rfl,?_⟩) (by assumption) ?_; (rotate_left 1; (intro w hSw; (try dsimp only at hSw); go_simp); (try with_reducible rfl)); (try simp only [Act.put,Q3,Q4,Q5]))
  (refine wpAnyH_take (i:=7) (v:=?_) (by (simp only [Q0,Q1,Q2]; rfl)) (by kernel_rfl) (by kernel_rfl) (by kernel_rfl) (by exact fun _ _ _ h => h) (Or.inl ⟨by rfl,?_⟩) (by assumption) ?_; (rotate_left 1; (intro w hSw; (try dsimp only at hSw); go_simp); (try with_reducible rfl)); (try simp only [Act.put,Q3,Q4,Q5]))
  refine wpAnyH_ready (rs:=[1,6]) (by kernel_rfl) (by simp) ?_
  refine AllReadyH.cons rfl (fun K hK => ?_) (AllReadyH.cons rfl (fun K hK => ?_) AllReadyH.nil)
  case refine_1 =>
   go_simp
   go_at_call 38
   refine (odd_any g _ 1 1000000 _ hQ.s (by omega) (by omega) (by omega) (by omega)).mono ?_
   rintro e w31 ⟨x1,rfl,-,-,hs,hg⟩
   replace hQ:=hQ.str hs hg
   clear hs hg
   go_wp2_with fail
   refine hK.out _ _ (trivial) (fun hHeld => ?_)
   clear hK K
   (try simp only [Act.put,Q3,Q4,Q5])
   (refine wpAnyH_take (i:=11) (v:=?_) (by (simp only [Q0,Q1,Q2]; rfl)) (by kernel_rfl) (by kernel_rfl) (by kernel_rfl) (by exact fun _ _ _ h => h) (Or.inl ⟨by rfl,?_⟩) (by assumption) ?_; (rotate_left 1; (intro w hSw; (try dsimp only at hSw); go_simp); (try with_reducible rfl)); (try simp only [Act.put,Q3,Q4,Q5]))
   refine wpAnyH_ready (rs:=[6,8]) (by kernel_rfl) (by simp) ?_
   refine AllReadyH.cons rfl (fun K hK => ?_) (AllReadyH.cons rfl (fun K hK => ?_) AllReadyH.nil)
   case refine_1 =>
    go_simp
    have hL : Blk (w31.alloc (.cells #[.int .i64 2,.int .i64 4,.int .i64 3,.int .i64 2,.int .i64 1,.int .i64 1001,.int .i64 1,.int .i64 3] 31)) w31.heap.size 31 #[.int .i64 2,.int .i64 4,.int .i64 3,.int .i64 2,.int .i64 1,.int .i64 1001,.int .i64 1,.int .i64 3]:=Blk.at1 _ (by simp)
    have gL : g < w31.heap.size:=by have:=hQ.s.lt; simpa using this
    have hq6 : w2.heap.size < w31.heap.size:=by have:=hQ.q.lt; simpa using this
    replace hQ:=hQ.alloc (.cells #[.int .i64 2,.int .i64 4,.int .i64 3,.int .i64 2,.int .i64 1,.int .i64 1001,.int .i64 1,.int .i64 3] 31)
    refine hK.out _ _ (trivial) (fun hHeld => ?_)
    clear hK K
    (try simp only [Act.put,Q3,Q4,Q5])
    generalize w31.alloc (.cells #[.int .i64 2,.int .i64 4,.int .i64 3,.int .i64 2,.int .i64 1,.int .i64 1001,.int .i64 1,.int .i64 3] 31) = wA at *
    refine wpAnyH_ready (rs:=[8]) (by kernel_rfl) (by simp) ?_
    refine AllReadyH.cons rfl (fun K hK => ?_) AllReadyH.nil
    go_simp
    go_at_call 37
    refine (next_any g _ 4 _ hQ.s (by omega) (by omega)).mono ?_
    rintro e w32 ⟨r2,rfl,h40,h41,-,hs,hg⟩
    have h42:=h41 (by omega)
    obtain ⟨k2,rfl⟩:=Int.eq_ofNat_of_zero_le h40
    have hk2 : k2 < 4:=by omega
    have hk3 : (k2 : Int) < 4:=by omega
    clear h40 h41 h42
    replace hQ:=hQ.str hs hg
    replace hL:=hL.gr9 hg gL
    clear hs hg
    go_wp2_with fail
    refine hK.out _ _ (trivial) (fun hHeld => ?_)
    clear hK K
    (try simp only [Act.put,Q3,Q4,Q5])
    (refine wpAnyH_take (i:=9) (v:=?_) (by (simp only [Q0,Q1,Q2]; rfl)) (by kernel_rfl) (by kernel_rfl) (by kernel_rfl) (by exact fun _ _ _ h => h) (Or.inl ⟨by rfl,?_⟩) (by assumption) ?_; (rotate_left 1; (intro w hSw; (try dsimp only at hSw); go_simp); (try with_reducible rfl)); (try simp only [Act.put,Q3,Q4,Q5]))
    refine wpAnyH_ready (rs:=[10,12]) (by kernel_rfl) (by simp) ?_
    refine AllReadyH.cons rfl (fun K hK => ?_) (AllReadyH.cons rfl (fun K hK => ?_) AllReadyH.nil)
    case refine_1 =>
     obtain ⟨nu2,de2,d0,d1⟩:=fr_at hL fr2 hk2
     have zL:=hL.lt
     go_simp
     clear hL gL d0 d1 zL
     refine hK.out _ _ (trivial) (fun hHeld => ?_)
     clear hK K
     (try simp only [Act.put,Q3,Q4,Q5])
     refine wpAnyH_ready (rs:=[12]) (by kernel_rfl) (by simp) ?_
     refine AllReadyH.cons rfl (fun K hK => ?_) AllReadyH.nil
     obtain ⟨⟨⟨z0,z1,z2⟩,-⟩,⟨y0,y1,y2⟩,-⟩:=hQ.facts
     have hQ9 : QuC w (w32.setCell ⟨w2.heap.size,0,none⟩ (.int .i64 x1)) g _ w.heap.size w2.heap.size #[.int .i64 x1,.int .i64 nu,.int .i64 de]:=hQ.set 0 (.int .i64 x1)
     replace hQ:=hQ9
     clear hQ9
     go_simp
     clear z0 z1 z2 y0 y1 y2
     refine hK.out _ _ (trivial) (fun hHeld => ?_)
     clear hK K
     (try simp only [Act.put,Q3,Q4,Q5])
     generalize w32.setCell ⟨w2.heap.size,0,none⟩ (.int .i64 x1) = wB at *
     (refine wpAnyH_take (i:=13) (v:=?_) (by (simp only [Q0,Q1,Q2]; rfl)) (by kernel_rfl) (by kernel_rfl) (by kernel_rfl) (by exact fun _ _ _ h => h) (Or.inl ⟨by rfl,?_⟩) (by assumption) ?_; (rotate_left 1; (intro w hSw; (try dsimp only at hSw); go_simp); (try with_reducible rfl)); (try simp only [Act.put,Q3,Q4,Q5]))
     refine wpAnyH_ready (rs:=[14]) (by kernel_rfl) (by simp) ?_
     refine AllReadyH.cons rfl (fun K hK => ?_) AllReadyH.nil
     obtain ⟨⟨⟨z0,z1,z2⟩,-⟩,⟨y0,y1,y2⟩,-⟩:=hQ.facts
     have hQ9 : QuC w ((wB.setCell ⟨w2.heap.size,1,none⟩ (.int .i64 nu2)).setCell ⟨w2.heap.size,2,none⟩ (.int .i64 de2)) g _ w.heap.size w2.heap.size #[.int .i64 x1,.int .i64 nu2,.int .i64 de2]:=(hQ.set 1 (.int .i64 nu2)).set 2 (.int .i64 de2)
     replace hQ:=hQ9
     clear hQ9
     go_simp
     clear z0 z1 z2 y0 y1 y2
     refine hK.out _ _ (trivial) (fun hHeld => ?_)
     clear hK K
     (try simp only [Act.put,Q3,Q4,Q5])
     generalize (wB.setCell ⟨w2.heap.size,1,none⟩ (.int .i64 nu2)).setCell ⟨w2.heap.size,2,none⟩ (.int .i64 de2) = wC at *
     refine wpAnyH_done (by kernel_rfl) ?_ _
     obtain ⟨⟨⟨z0,z1,z2⟩,v0,v1,v2⟩,-,y0,y1,y2⟩:=hQ.facts
     obtain ⟨hsF,hgF,hbF⟩:=hQ.fin
     have HSF:=Lib.hid (hsF.more (show _ ≤ N + 10 by omega))
     have HGF:=Lib.hid hgF
     have HBF:=Lib.hid hbF
     clear hsF hgF hbF hQ
     go_wp2_with fail
     refine bodyPost_ret (res_quo _ 2 _ _ w.heap.size x1 nu2 de2 rfl rfl (HBF.out.cell 0) (HBF.out.cell 1) (HBF.out.cell 2)) rfl ?_
     exact ⟨⟨x1,nu2,de2⟩,rfl,HSF.out,HGF.out⟩
    case refine_2 =>
     obtain ⟨⟨⟨z0,z1,z2⟩,-⟩,⟨y0,y1,y2⟩,-⟩:=hQ.facts
     replace hL:=hL.past w2.heap.size 0 (.int .i64 x1) (by have:=hq6; omega)
     have hQ9 : QuC w (w32.setCell ⟨w2.heap.size,0,none⟩ (.int .i64 x1)) g _ w.heap.size w2.heap.size #[.int .i64 x1,.int .i64 nu,.int .i64 de]:=hQ.set 0 (.int .i64 x1)
     replace hQ:=hQ9
     clear hQ9
     go_simp
     clear z0 z1 z2 y0 y1 y2
     refine hK.out _ _ (trivial) (fun hHeld => ?_)
     clear hK K
     (try simp only [Act.put,Q3,Q4,Q5])
     generalize w32.setCell ⟨w2.heap.size,0,none⟩ (.int .i64 x1) = wB at *
     refine wpAnyH_ready (rs:=[10]) (by kernel_rfl) (by simp) ?_
     refine AllReadyH.cons rfl (fun K hK => ?_) AllReadyH.nil
     obtain ⟨nu2,de2,d0,d1⟩:=fr_at hL fr2 hk2
     have zL:=hL.lt
     go_simp
     clear hL gL d0 d1 zL
     refine hK.out _ _ (trivial) (fun hHeld => ?_)
     clear hK K
     (try simp only [Act.put,Q3,Q4,Q5])
     (refine wpAnyH_take (i:=13) (v:=?_) (by (simp only [Q0,Q1,Q2]; rfl)) (by kernel_rfl) (by kernel_rfl) (by kernel_rfl) (by exact fun _ _ _ h => h) (Or.inl ⟨by rfl,?_⟩) (by assumption) ?_; (rotate_left 1; (intro w hSw; (try dsimp only at hSw); go_simp); (try with_reducible rfl)); (try simp only [Act.put,Q3,Q4,Q5]))
     refine wpAnyH_ready (rs:=[14]) (by kernel_rfl) (by simp) ?_
     refine AllReadyH.cons rfl (fun K hK => ?_) AllReadyH.nil
     obtain ⟨⟨⟨z0,z1,z2⟩,-⟩,⟨y0,y1,y2⟩,-⟩:=hQ.facts
     have hQ9 : QuC w ((wB.setCell ⟨w2.heap.size,1,none⟩ (.int .i64 nu2)).setCell ⟨w2.heap.size,2,none⟩ (.int .i64 de2)) g _ w.heap.size w2.heap.size #[.int .i64 x1,.int .i64 nu2,.int .i64 de2]:=(hQ.set 1 (.int .i64 nu2)).set 2 (.int .i64 de2)
     replace hQ:=hQ9
     clear hQ9
     go_simp
     clear z0 z1 z2 y0 y1 y2
     refine hK.out _ _ (trivial) (fun hHeld => ?_)
     clear hK K
     (try simp only [Act.put,Q3,Q4,Q5])
     generalize (wB.setCell ⟨w2.heap.size,1,none⟩ (.int .i64 nu2)).setCell ⟨w2.heap.size,2,none⟩ (.int .i64 de2) = wC at *
     refine wpAnyH_done (by kernel_rfl) ?_ _
     obtain ⟨⟨⟨z0,z1,z2⟩,v0,v1,v2⟩,-,y0,y1,y2⟩:=hQ.facts
     obtain ⟨hsF,hgF,hbF⟩:=hQ.fin
     have HSF:=Lib.hid (hsF.more (show _ ≤ N + 10 by omega))
     have HGF:=Lib.hid hgF
     have HBF:=Lib.hid hbF
     clear hsF hgF hbF hQ
     go_wp2_with fail
     refine bodyPost_ret (res_quo _ 2 _ _ w.heap.size x1 nu2 de2 rfl rfl (HBF.out.cell 0) (HBF.out.cell 1) (HBF.out.cell 2)) rfl ?_
     exact ⟨⟨x1,nu2,de2⟩,rfl,HSF.out,HGF.out⟩
   case refine_2 =>
    go_simp
    go_at_call 37
    refine (next_any g _ 4 _ hQ.s (by omega) (by omega)).mono ?_
    rintro e w32 ⟨r2,rfl,h40,h41,-,hs,hg⟩
    have h42:=h41 (by omega)
    obtain ⟨k2,rfl⟩:=Int.eq_ofNat_of_zero_le h40
    have hk2 : k2 < 4:=by omega
    have hk3 : (k2 : Int) < 4:=by omega
    clear h40 h41 h42
    replace hQ:=hQ.str hs hg
    clear hs hg
    go_wp2_with fail
    refine hK.out _ _ (trivial) (fun hHeld => ?_)
    clear hK K
    (try simp only [Act.put,Q3,Q4,Q5])
    refine wpAnyH_ready (rs:=[6,12]) (by kernel_rfl) (by simp) ?_
    refine AllReadyH.cons rfl (fun K hK => ?_) (AllReadyH.cons rfl (fun K hK => ?_) AllReadyH.nil)
    case refine_1 =>
     go_simp
     have hL : Blk (w32.alloc (.cells #[.int .i64 2,.int .i64 4,.int .i64 3,.int .i64 2,.int .i64 1,.int .i64 1001,.int .i64 1,.int .i64 3] 31)) w32.heap.size 31 #[.int .i64 2,.int .i64 4,.int .i64 3,.int .i64 2,.int .i64 1,.int .i64 1001,.int .i64 1,.int .i64 3]:=Blk.at1 _ (by simp)
     have gL : g < w32.heap.size:=by have:=hQ.s.lt; simpa using this
     have hq6 : w2.heap.size < w32.heap.size:=by have:=hQ.q.lt; simpa using this
     replace hQ:=hQ.alloc (.cells #[.int .i64 2,.int .i64 4,.int .i64 3,.int .i64 2,.int .i64 1,.int .i64 1001,.int .i64 1,.int .i64 3] 31)
     refine hK.out _ _ (trivial) (fun hHeld => ?_)
     clear hK K
     (try simp only [Act.put,Q3,Q4,Q5])
     generalize w32.alloc (.cells #[.int .i64 2,.int .i64 4,.int .i64 3,.int .i64 2,.int .i64 1,.int .i64 1001,.int .i64 1,.int .i64 3] 31) = wA at *
     (refine wpAnyH_take (i:=9) (v:=?_) (by (simp only [Q0,Q1,Q2]; rfl)) (by kernel_rfl) (by kernel_rfl) (by kernel_rfl) (by exact fun _ _ _ h => h) (Or.inl ⟨by rfl,?_⟩) (by assumption) ?_; (rotate_left 1; (intro w hSw; (try dsimp only at hSw); go_simp); (try with_reducible rfl)); (try simp only [Act.put,Q3,Q4,Q5]))
     refine wpAnyH_ready (rs:=[10,12]) (by kernel_rfl) (by simp) ?_
     refine AllReadyH.cons rfl (fun K hK => ?_) (AllReadyH.cons rfl (fun K hK => ?_) AllReadyH.nil)
     case refine_1 =>
      obtain ⟨nu2,de2,d0,d1⟩:=fr_at hL fr2 hk2
      have zL:=hL.lt
      go_simp
      clear hL gL d0 d1 zL
      refine hK.out _ _ (trivial) (fun hHeld => ?_)
      clear hK K
      (try simp only [Act.put,Q3,Q4,Q5])
      refine wpAnyH_ready (rs:=[12]) (by kernel_rfl) (by simp) ?_
      refine AllReadyH.cons rfl (fun K hK => ?_) AllReadyH.nil
      obtain ⟨⟨⟨z0,z1,z2⟩,-⟩,⟨y0,y1,y2⟩,-⟩:=hQ.facts
      have hQ9 : QuC w (wA.setCell ⟨w2.heap.size,0,none⟩ (.int .i64 x1)) g _ w.heap.size w2.heap.size #[.int .i64 x1,.int .i64 nu,.int .i64 de]:=hQ.set 0 (.int .i64 x1)
      replace hQ:=hQ9
      clear hQ9
      go_simp
      clear z0 z1 z2 y0 y1 y2
      refine hK.out _ _ (trivial) (fun hHeld => ?_)
      clear hK K
      (try simp only [Act.put,Q3,Q4,Q5])
      generalize wA.setCell ⟨w2.heap.size,0,none⟩ (.int .i64 x1) = wB at *
      (refine wpAnyH_take (i:=13) (v:=?_) (by (simp only [Q0,Q1,Q2]; rfl)) (by kernel_rfl) (by kernel_rfl) (by kernel_rfl) (by exact fun _ _ _ h => h) (Or.inl ⟨by rfl,?_⟩) (by assumption) ?_; (rotate_left 1; (intro w hSw; (try dsimp only at hSw); go_simp); (try with_reducible rfl)); (try simp only [Act.put,Q3,Q4,Q5]))
      refine wpAnyH_ready (rs:=[14]) (by kernel_rfl) (by simp) ?_
      refine AllReadyH.cons rfl (fun K hK => ?_) AllReadyH.nil
      obtain ⟨⟨⟨z0,z1,z2⟩,-⟩,⟨y0,y1,y2⟩,-⟩:=hQ.facts
      have hQ9 : QuC w ((wB.setCell ⟨w2.heap.size,1,none⟩ (.int .i64 nu2)).setCell ⟨w2.heap.size,2,none⟩ (.int .i64 de2)) g _ w.heap.size w2.heap.size #[.int .i64 x1,.int .i64 nu2,.int .i64 de2]:=(hQ.set 1 (.int .i64 nu2)).set 2 (.int .i64 de2)
      replace hQ:=hQ9
      clear hQ9
      go_simp
      clear z0 z1 z2 y0 y1 y2
      refine hK.out _ _ (trivial) (fun hHeld => ?_)
      clear hK K
      (try simp only [Act.put,Q3,Q4,Q5])
      generalize (wB.setCell ⟨w2.heap.size,1,none⟩ (.int .i64 nu2)).setCell ⟨w2.heap.size,2,none⟩ (.int .i64 de2) = wC at *
      refine wpAnyH_done (by kernel_rfl) ?_ _
      obtain ⟨⟨⟨z0,z1,z2⟩,v0,v1,v2⟩,-,y0,y1,y2⟩:=hQ.facts
      obtain ⟨hsF,hgF,hbF⟩:=hQ.fin
      have HSF:=Lib.hid (hsF.more (show _ ≤ N + 10 by omega))
      have HGF:=Lib.hid hgF
      have HBF:=Lib.hid hbF
      clear hsF hgF hbF hQ
      go_wp2_with fail
      refine bodyPost_ret (res_quo _ 2 _ _ w.heap.size x1 nu2 de2 rfl rfl (HBF.out.cell 0) (HBF.out.cell 1) (HBF.out.cell 2)) rfl ?_
      exact ⟨⟨x1,nu2,de2⟩,rfl,HSF.out,HGF.out⟩
     case refine_2 =>
      obtain ⟨⟨⟨z0,z1,z2⟩,-⟩,⟨y0,y1,y2⟩,-⟩:=hQ.facts
      replace hL:=hL.past w2.heap.size 0 (.int .i64 x1) (by have:=hq6; omega)
      have hQ9 : QuC w (wA.setCell ⟨w2.heap.size,0,none⟩ (.int .i64 x1)) g _ w.heap.size w2.heap.size #[.int .i64 x1,.int .i64 nu,.int .i64 de]:=hQ.set 0 (.int .i64 x1)
      replace hQ:=hQ9
      clear hQ9
      go_simp
      clear z0 z1 z2 y0 y1 y2
      refine hK.out _ _ (trivial) (fun hHeld => ?_)
      clear hK K
      (try simp only [Act.put,Q3,Q4,Q5])
      generalize wA.setCell ⟨w2.heap.size,0,none⟩ (.int .i64 x1) = wB at *
      refine wpAnyH_ready (rs:=[10]) (by kernel_rfl) (by simp) ?_
      refine AllReadyH.cons rfl (fun K hK => ?_) AllReadyH.nil
      obtain ⟨nu2,de2,d0,d1⟩:=fr_at hL fr2 hk2
      have zL:=hL.lt
      go_simp
      clear hL gL d0 d1 zL
      refine hK.out _ _ (trivial) (fun hHeld => ?_)
      clear hK K
      (try simp only [Act.put,Q3,Q4,Q5])
      (refine wpAnyH_take (i:=13) (v:=?_) (by (simp only [Q0,Q1,Q2]; rfl)) (by kernel_rfl) (by kernel_rfl) (by kernel_rfl) (by exact fun _ _ _ h => h) (Or.inl ⟨by rfl,?_⟩) (by assumption) ?_; (rotate_left 1; (intro w hSw; (try dsimp only at hSw); go_simp); (try with_reducible rfl)); (try simp only [Act.put,Q3,Q4,Q5]))
      refine wpAnyH_ready (rs:=[14]) (by kernel_rfl) (by simp) ?_
      refine AllReadyH.cons rfl (fun K hK => ?_) AllReadyH.nil
      obtain ⟨⟨⟨z0,z1,z2⟩,-⟩,⟨y0,y1,y2⟩,-⟩:=hQ.facts
      have hQ9 : QuC w ((wB.setCell ⟨w2.heap.size,1,none⟩ (.int .i64 nu2)).setCell ⟨w2.heap.size,2,none⟩ (.int .i64 de2)) g _ w.heap.size w2.heap.size #[.int .i64 x1,.int .i64 nu2,.int .i64 de2]:=(hQ.set 1 (.int .i64 nu2)).set 2 (.int .i64 de2)
      replace hQ:=hQ9
      clear hQ9
      go_simp
      clear z0 z1 z2 y0 y1 y2
      refine hK.out _ _ (trivial) (fun hHeld => ?_)
      clear hK K
      (try simp only [Act.put,Q3,Q4,Q5])
      generalize (wB.setCell ⟨w2.heap.size,1,none⟩ (.int .i64 nu2)).setCell ⟨w2.heap.size,2,none⟩ (.int .i64 de2) = wC at *
      refine wpAnyH_done (by kernel_rfl) ?_ _
      obtain ⟨⟨⟨z0,z1,z2⟩,v0,v1,v2⟩,-,y0,y1,y2⟩:=hQ.facts
      obtain ⟨hsF,hgF,hbF⟩:=hQ.fin
      have HSF:=Lib.hid (hsF.more (show _ ≤ N + 10 by omega))
      have HGF:=Lib.hid hgF
      have HBF:=Lib.hid hbF
      clear hsF hgF hbF hQ
      go_wp2_with fail
      refine bodyPost_ret (res_quo _ 2 _ _ w.heap.size x1 nu2 de2 rfl rfl (HBF.out.cell 0) (HBF.out.cell 1) (HBF.out.cell 2)) rfl ?_
      exact ⟨⟨x1,nu2,de2⟩,rfl,HSF.out,HGF.out⟩
    case refine_2 =>
     obtain ⟨⟨⟨z0,z1,z2⟩,-⟩,⟨y0,y1,y2⟩,-⟩:=hQ.facts
     have hQ9 : QuC w (w32.setCell ⟨w2.heap.size,0,none⟩ (.int .i64 x1)) g _ w.heap.size w2.heap.size #[.int .i64 x1,.int .i64 nu,.int .i64 de]:=hQ.set 0 (.int .i64 x1)
     replace hQ:=hQ9
     clear hQ9
     go_simp
     clear z0 z1 z2 y0 y1 y2
     refine hK.out _ _ (trivial) (fun hHeld => ?_)
     clear hK K
     (try simp only [Act.put,Q3,Q4,Q5])
     generalize w32.setCell ⟨w2.heap.size,0,none⟩ (.int .i64 x1) = wB at *
     refine wpAnyH_ready (rs:=[6]) (by kernel_rfl) (by simp) ?_
     refine AllReadyH.cons rfl (fun K hK => ?_) AllReadyH.nil
     go_simp
     have hL : Blk (wB.alloc (.cells #[.int .i64 2,.int .i64 4,.int .i64 3,.int .i64 2,.int .i64 1,.int .i64 1001,.int .i64 1,.int .i64 3] 31)) wB.heap.size 31 #[.int .i64 2,.int .i64 4,.int .i64 3,.int .i64 2,.int .i64 1,.int .i64 1001,.int .i64 1,.int .i64 3]:=Blk.at1 _ (by simp)
     have gL : g < wB.heap.size:=by have:=hQ.s.lt; simpa using this
     have hq6 : w2.heap.size < wB.heap.size:=by have:=hQ.q.lt; simpa using this
     replace hQ:=hQ.alloc (.cells #[.int .i64 2,.int .i64 4,.int .i64 3,.int .i64 2,.int .i64 1,.int .i64 1001,.int .i64 1,.int .i64 3] 31)
     refine hK.out _ _ (trivial) (fun hHeld => ?_)
     clear hK K
     (try simp only [Act.put,Q3,Q4,Q5])
     generalize wB.alloc (.cells #[.int .i64 2,.int .i64 4,.int .i64 3,.int .i64 2,.int .i64 1,.int .i64 1001,.int .i64 1,.int .i64 3] 31) = wA at *
     (refine wpAnyH_take (i:=9) (v:=?_) (by (simp only [Q0,Q1,Q2]; rfl)) (by kernel_rfl) (by kernel_rfl) (by kernel_rfl) (by exact fun _ _ _ h => h) (Or.inl ⟨by rfl,?_⟩) (by assumption) ?_; (rotate_left 1; (intro w hSw; (try dsimp only at hSw); go_simp); (try with_reducible rfl)); (try simp only [Act.put,Q3,Q4,Q5]))
     refine wpAnyH_ready (rs:=[10]) (by kernel_rfl) (by simp) ?_
     refine AllReadyH.cons rfl (fun K hK => ?_) AllReadyH.nil
     obtain ⟨nu2,de2,d0,d1⟩:=fr_at hL fr2 hk2
     have zL:=hL.lt
     go_simp
     clear hL gL d0 d1 zL
     refine hK.out _ _ (trivial) (fun hHeld => ?_)
     clear hK K
     (try simp only [Act.put,Q3,Q4,Q5])
     (refine wpAnyH_take (i:=13) (v:=?_) (by (simp only [Q0,Q1,Q2]; rfl)) (by kernel_rfl) (by kernel_rfl) (by kernel_rfl) (by exact fun _ _ _ h => h) (Or.inl ⟨by rfl,?_⟩) (by assumption) ?_; (rotate_left 1; (intro w hSw; (try dsimp only at hSw); go_simp); (try with_reducible rfl)); (try simp only [Act.put,Q3,Q4,Q5]))
     refine wpAnyH_ready (rs:=[14]) (by kernel_rfl) (by simp) ?_
     refine AllReadyH.cons rfl (fun K hK => ?_) AllReadyH.nil
     obtain ⟨⟨⟨z0,z1,z2⟩,-⟩,⟨y0,y1,y2⟩,-⟩:=hQ.facts
     have hQ9 : QuC w ((wA.setCell ⟨w2.heap.size,1,none⟩ (.int .i64 nu2)).setCell ⟨w2.heap.size,2,none⟩ (.int .i64 de2)) g _ w.heap.size w2.heap.size #[.int .i64 x1,.int .i64 nu2,.int .i64 de2]:=(hQ.set 1 (.int .i64 nu2)).set 2 (.int .i64 de2)
     replace hQ:=hQ9
     clear hQ9
     go_simp
     clear z0 z1 z2 y0 y1 y2
     refine hK.out _ _ (trivial) (fun hHeld => ?_)
     clear hK K
     (try simp only [Act.put,Q3,Q4,Q5])
     generalize (wA.setCell ⟨w2.heap.size,1,none⟩ (.int .i64 nu2)).setCell ⟨w2.heap.size,2,none⟩ (.int .i64 de2) = wC at *
     refine wpAnyH_done (by kernel_rfl) ?_ _
     obtain ⟨⟨⟨z0,z1,z2⟩,v0,v1,v2⟩,-,y0,y1,y2⟩:=hQ.facts
     obtain ⟨hsF,hgF,hbF⟩:=hQ.fin
     have HSF:=Lib.hid (hsF.more (show _ ≤ N + 10 by omega))
     have HGF:=Lib.hid hgF
     have HBF:=Lib.hid hbF
     clear hsF hgF hbF hQ
     go_wp2_with fail
     refine bodyPost_ret (res_quo _ 2 _ _ w.heap.size x1 nu2 de2 rfl rfl (HBF.out.cell 0) (HBF.out.cell 1) (HBF.out.cell 2)) rfl ?_
     exact ⟨⟨x1,nu2,de2⟩,rfl,HSF.out,HGF.out⟩
  case refine_2 =>
   go_simp
   have hL : Blk (w4.alloc (.cells #[.int .i64 2,.int .i64 4,.int .i64 3,.int .i64 2,.int .i64 1,.int .i64 1001,.int .i64 1,.int .i64 3] 31)) w4.heap.size 31 #[.int .i64 2,.int .i64 4,.int .i64 3,.int .i64 2,.int .i64 1,.int .i64 1001,.int .i64 1,.int .i64 3]:=Blk.at1 _ (by simp)
   have gL : g < w4.heap.size:=by have:=hQ.s.lt; simpa using this
   have hq6 : w2.heap.size < w4.heap.size:=by have:=hQ.q.lt; simpa using this
   replace hQ:=hQ.alloc (.cells #[.int .i64 2,.int .i64 4,.int .i64 3,.int .i64 2,.int .i64 1,.int .i64 1001,.int .i64 1,.int .i64 3] 31)
   refine hK.out _ _ (trivial) (fun hHeld => ?_)
   clear hK K
   (try simp only [Act.put,Q3,Q4,Q5])
   generalize w4.alloc (.cells #[.int .i64 2,.int .i64 4,.int .i64 3,.int .i64 2,.int .i64 1,.int .i64 1001,.int .i64 1,.int .i64 3] 31) = wA at *
   refine wpAnyH_ready (rs:=[1]) (by kernel_rfl) (by simp) ?_
   refine AllReadyH.cons rfl (fun K hK => ?_) AllReadyH.nil
   go_simp
   go_at_call 38
   refine (odd_any g _ 1 1000000 _ hQ.s (by omega) (by omega) (by omega) (by omega)).mono ?_
   rintro e w31 ⟨x1,rfl,-,-,hs,hg⟩
   replace hQ:=hQ.str hs hg
   replace hL:=hL.gr9 hg gL
   clear hs hg
   go_wp2_with fail
   refine hK.out _ _ (trivial) (fun hHeld => ?_)
   clear hK K
   (try simp only [Act.put,Q3,Q4,Q5])
   (refine wpAnyH_take (i:=11) (v:=?_) (by (simp only [Q0,Q1,Q2]; rfl)) (by kernel_rfl) (by kernel_rfl) (by kernel_rfl) (by exact fun _ _ _ h => h) (Or.inl ⟨by rfl,?_⟩) (by assumption) ?_; (rotate_left 1; (intro w hSw; (try dsimp only at hSw); go_simp); (try with_reducible rfl)); (try simp only [Act.put,Q3,Q4,Q5]))
   refine wpAnyH_ready (rs:=[8]) (by kernel_rfl) (by simp) ?_
   refine AllReadyH.cons rfl (fun K hK => ?_) AllReadyH.nil
   go_simp
   go_at_call 37
   refine (next_any g _ 4 _ hQ.s (by omega) (by omega)).mono ?_
   rintro e w32 ⟨r2,rfl,h40,h41,-,hs,hg⟩
   have h42:=h41 (by omega)
   obtain ⟨k2,rfl⟩:=Int.eq_ofNat_of_zero_le h40
   have hk2 : k2 < 4:=by omega
   have hk3 : (k2 : Int) < 4:=by omega
   clear h40 h41 h42
   replace hQ:=hQ.str hs hg
   replace hL:=hL.gr9 hg gL
   clear hs hg
   go_wp2_with fail
   refine hK.out _ _ (trivial) (fun hHeld => ?_)
   clear hK K
   (try simp only [Act.put,Q3,Q4,Q5])
   (refine wpAnyH_take (i:=9) (v:=?_) (by (simp only [Q0,Q1,Q2]; rfl)) (by kernel_rfl) (by kernel_rfl) (by kernel_rfl) (by exact fun _ _ _ h => h) (Or.inl ⟨by rfl,?_⟩) (by assumption) ?_; (rotate_left 1; (intro w hSw; (try dsimp only at hSw); go_simp); (try with_reducible rfl)); (try simp only [Act.put,Q3,Q4,Q5]))
   refine wpAnyH_ready (rs:=[10,12]) (by kernel_rfl) (by simp) ?_
   refine AllReadyH.cons rfl (fun K hK => ?_) (AllReadyH.cons rfl (fun K hK => ?_) AllReadyH.nil)
   case refine_1 =>
    obtain ⟨nu2,de2,d0,d1⟩:=fr_at hL fr2 hk2
    have zL:=hL.lt
    go_simp
    clear hL gL d0 d1 zL
    refine hK.out _ _ (trivial) (fun hHeld => ?_)
    clear hK K
    (try simp only [Act.put,Q3,Q4,Q5])
    refine wpAnyH_ready (rs:=[12]) (by kernel_rfl) (by simp) ?_
    refine AllReadyH.cons rfl (fun K hK => ?_) AllReadyH.nil
    obtain ⟨⟨⟨z0,z1,z2⟩,-⟩,⟨y0,y1,y2⟩,-⟩:=hQ.facts
    have hQ9 : QuC w (w32.setCell ⟨w2.heap.size,0,none⟩ (.int .i64 x1)) g _ w.heap.size w2.heap.size #[.int .i64 x1,.int .i64 nu,.int .i64 de]:=hQ.set 0 (.int .i64 x1)
    replace hQ:=hQ9
    clear hQ9
    go_simp
    clear z0 z1 z2 y0 y1 y2
    refine hK.out _ _ (trivial) (fun hHeld => ?_)
    clear hK K
    (try simp only [Act.put,Q3,Q4,Q5])
    generalize w32.setCell ⟨w2.heap.size,0,none⟩ (.int .i64 x1) = wB at *
    (refine wpAnyH_take (i:=13) (v:=?_) (by (simp only [Q0,Q1,Q2]; rfl)) (by kernel_rfl) (by kernel_rfl) (by kernel_rfl) (by exact fun _ _ _ h => h) (Or.inl ⟨by rfl,?_⟩) (by assumption) ?_; (rotate_left 1; (intro w hSw; (try dsimp only at hSw); go_simp); (try with_reducible rfl)); (try simp only [Act.put,Q3,Q4,Q5]))
    refine wpAnyH_ready (rs:=[14]) (by kernel_rfl) (by simp) ?_
    refine AllReadyH.cons rfl (fun K hK => ?_) AllReadyH.nil
    obtain ⟨⟨⟨z0,z1,z2⟩,-⟩,⟨y0,y1,y2⟩,-⟩:=hQ.facts
    have hQ9 : QuC w ((wB.setCell ⟨w2.heap.size,1,none⟩ (.int .i64 nu2)).setCell ⟨w2.heap.size,2,none⟩ (.int .i64 de2)) g _ w.heap.size w2.heap.size #[.int .i64 x1,.int .i64 nu2,.int .i64 de2]:=(hQ.set 1 (.int .i64 nu2)).set 2 (.int .i64 de2)
    replace hQ:=hQ9
    clear hQ9
    go_simp
    clear z0 z1 z2 y0 y1 y2
    refine hK.out _ _ (trivial) (fun hHeld => ?_)
    clear hK K
    (try simp only [Act.put,Q3,Q4,Q5])
    generalize (wB.setCell ⟨w2.heap.size,1,none⟩ (.int .i64 nu2)).setCell ⟨w2.heap.size,2,none⟩ (.int .i64 de2) = wC at *
    refine wpAnyH_done (by kernel_rfl) ?_ _
    obtain ⟨⟨⟨z0,z1,z2⟩,v0,v1,v2⟩,-,y0,y1,y2⟩:=hQ.facts
    obtain ⟨hsF,hgF,hbF⟩:=hQ.fin
    have HSF:=Lib.hid (hsF.more (show _ ≤ N + 10 by omega))
    have HGF:=Lib.hid hgF
    have HBF:=Lib.hid hbF
    clear hsF hgF hbF hQ
    go_wp2_with fail
    refine bodyPost_ret (res_quo _ 2 _ _ w.heap.size x1 nu2 de2 rfl rfl (HBF.out.cell 0) (HBF.out.cell 1) (HBF.out.cell 2)) rfl ?_
    exact ⟨⟨x1,nu2,de2⟩,rfl,HSF.out,HGF.out⟩
   case refine_2 =>
    obtain ⟨⟨⟨z0,z1,z2⟩,-⟩,⟨y0,y1,y2⟩,-⟩:=hQ.facts
    replace hL:=hL.past w2.heap.size 0 (.int .i64 x1) (by have:=hq6; omega)
    have hQ9 : QuC w (w32.setCell ⟨w2.heap.size,0,none⟩ (.int .i64 x1)) g _ w.heap.size w2.heap.size #[.int .i64 x1,.int .i64 nu,.int .i64 de]:=hQ.set 0 (.int .i64 x1)
    replace hQ:=hQ9
    clear hQ9
    go_simp
    clear z0 z1 z2 y0 y1 y2
    refine hK.out _ _ (trivial) (fun hHeld => ?_)
    clear hK K
    (try simp only [Act.put,Q3,Q4,Q5])
    generalize w32.setCell ⟨w2.heap.size,0,none⟩ (.int .i64 x1) = wB at *
    refine wpAnyH_ready (rs:=[10]) (by kernel_rfl) (by simp) ?_
    refine AllReadyH.cons rfl (fun K hK => ?_) AllReadyH.nil
    obtain ⟨nu2,de2,d0,d1⟩:=fr_at hL fr2 hk2
    have zL:=hL.lt
    go_simp
    clear hL gL d0 d1 zL
    refine hK.out _ _ (trivial) (fun hHeld => ?_)
    clear hK K
    (try simp only [Act.put,Q3,Q4,Q5])
    (refine wpAnyH_take (i:=13) (v:=?_) (by (simp only [Q0,Q1,Q2]; rfl)) (by kernel_rfl) (by kernel_rfl) (by kernel_rfl) (by exact fun _ _ _ h => h) (Or.inl ⟨by rfl,?_⟩) (by assumption) ?_; (rotate_left 1; (intro w hSw; (try dsimp only at hSw); go_simp); (try with_reducible rfl)); (try simp only [Act.put,Q3,Q4,Q5]))
    refine wpAnyH_ready (rs:=[14]) (by kernel_rfl) (by simp) ?_
    refine AllReadyH.cons rfl (fun K hK => ?_) AllReadyH.nil
    obtain ⟨⟨⟨z0,z1,z2⟩,-⟩,⟨y0,y1,y2⟩,-⟩:=hQ.facts
    have hQ9 : QuC w ((wB.setCell ⟨w2.heap.size,1,none⟩ (.int .i64 nu2)).setCell ⟨w2.heap.size,2,none⟩ (.int .i64 de2)) g _ w.heap.size w2.heap.size #[.int .i64 x1,.int .i64 nu2,.int .i64 de2]:=(hQ.set 1 (.int .i64 nu2)).set 2 (.int .i64 de2)
    replace hQ:=hQ9
    clear hQ9
    go_simp
    clear z0 z1 z2 y0 y1 y2
    refine hK.out _ _ (trivial) (fun hHeld => ?_)
    clear hK K
    (try simp only [Act.put,Q3,Q4,Q5])
    generalize (wB.setCell ⟨w2.heap.size,1,none⟩ (.int .i64 nu2)).setCell ⟨w2.heap.size,2,none⟩ (.int .i64 de2) = wC at *
    refine wpAnyH_done (by kernel_rfl) ?_ _
    obtain ⟨⟨⟨z0,z1,z2⟩,v0,v1,v2⟩,-,y0,y1,y2⟩:=hQ.facts
    obtain ⟨hsF,hgF,hbF⟩:=hQ.fin
    have HSF:=Lib.hid (hsF.more (show _ ≤ N + 10 by omega))
    have HGF:=Lib.hid hgF
    have HBF:=Lib.hid hbF
    clear hsF hgF hbF hQ
    go_wp2_with fail
    refine bodyPost_ret (res_quo _ 2 _ _ w.heap.size x1 nu2 de2 rfl rfl (HBF.out.cell 0) (HBF.out.cell 1) (HBF.out.cell 2)) rfl ?_
    exact ⟨⟨x1,nu2,de2⟩,rfl,HSF.out,HGF.out⟩
end Go.Proofs.YtgeaeockmadhcaaGreatDoor
/- The walk of the stream's JudgeList. -/
namespace Go.Proofs.YtgeaeockmadhcaaGreatDoor
set_option linter.unusedVariables false
set_option linter.unusedSimpArgs false
open Go.RowKit

theorem OwC.jc2 {nm : Array Value} {w W : World} {g N c b n : Nat} {us : List JudgeE} (h : OwC 77 nm w W g N (some ⟨b,0,none⟩) c n (us.flatMap encJ)) (hn : us.length = n) {k : Nat} (hk : k < us.length) {x : JudgeE} (hx : us[k] = x) : W.cell? ⟨b,k * 4,none⟩ = some (.string ⟨x.who.toArray⟩) ∧ W.cell? ⟨b,k * 4 + 1 + 1,none⟩ = some (.int .i64 x.to_):=by
 subst hn
 obtain ⟨b',off,e,h1,-,h2⟩:=judges_at (Row.of_own h.own) (by omega)
 injection e with e; injection e with e1 e2
 subst e1 e2
 obtain ⟨c0,c1,c2,-⟩:=h2 k hk
 rw [hx] at c0 c1 c2
 rw [Nat.zero_add] at c0 c1 c2
 exact ⟨c0,c2⟩
theorem OwC.setJ {nm : Array Value} {w W : World} {g N c b n : Nat} {us : List JudgeE} (h : OwC 77 nm w W g N (some ⟨b,0,none⟩) c n (us.flatMap encJ)) (hb : w.heap.size < b) {k : Nat} (hk : k < us.length) {i : Nat} (hi : i < 4) (u : Value) {x x' : JudgeE} (hx : us[k] = x) (he : encJ x' = (encJ x).set i u) : OwC 77 nm w (W.setCell ⟨b,k * 4 + i,none⟩ u) g N (some ⟨b,0,none⟩) c n ((us.set k x').flatMap encJ):=by
 have h1:=h.set hb (k * 4 + i) u
 rw [flat_setV encJ 4 encJ_len u x' us k hk i hi (by rw [hx]; exact he)] at h1
 exact h1
theorem flat_getJ {us : List JudgeE} {k : Nat} (hk : k < us.length) {x : JudgeE} (hx : us[k] = x) (i : Nat) (hi : i < 4) {u : Value} (hu : (encJ x)[i]? = some u) : (us.flatMap encJ)[k * 4 + i]? = some u:=by
 rw [flat_at encJ 4 encJ_len us k hk i hi,hx,hu]
theorem set_atJ {us : List JudgeE} {k : Nat} (hk : k < us.length) (x : JudgeE) : (us.set k x)[k]'(by simpa using hk) = x:=by simp
def judL : List (List UInt8):=[[106,97],[106,98],[106,99],[]]
theorem jud_set {us : List JudgeE} {k : Nat} {x : JudgeE} (h : ∀ v ∈ us,v.who ∈ judL) (hx : x.who ∈ judL) : ∀ v ∈ us.set k x,v.who ∈ judL:=fun v hv => by
 rcases List.mem_or_eq_of_mem_set hv with h1 | h1
 ·exact h v h1
 ·rw [h1]; exact hx
theorem jud_len {s : List UInt8} (h : s ∈ judL) : s.length ≤ 3:=by
 have h6 : ∀ s ∈ judL,s.length ≤ 3:=by decide
 exact h6 s h
theorem ty_judges : SliceTy Tryz.prog 28 77 4 40:=.mk' Tryz.underlying28 (z:=.agg #[.string ⟨#[]⟩,.int .i64 0,.int .i64 0,.int .i64 0]) (by kernel_rfl) rfl (by decide)
def judsL : List (List UInt8):=[[106,97],[106,98],[106,99]]
def JudgeLPost (w : World) (g N : Nat) (e : Ending) (w' : World) : Prop:=∃ (A : Option Addr) (c : Nat) (vs : List JudgeE),e = .returned (.slice A vs.length c) ∧ w'.ownsRow w.heap.size 77 4 (.slice A vs.length c) vs.length (vs.flatMap encJ) ∧ vs.length ≤ 6 ∧ (∀ v ∈ vs,v.who ∈ judL) ∧ Str w' g N ∧ w.grownBy w' (some g)
set_option maxHeartbeats 8000000 in
set_option maxRecDepth 100000 in
theorem judgeList_any (g N : Nat) (w : World) (hs : Str w g N) (hN : N < 4611686018427000000) :
  Calls Tryz.prog 6 #[.pointer (some ⟨g,0,none⟩)] w (JudgeLPost w g (N + 40)):=by
 have hlt:=hs.lt
 have hC0 : OwC 77 #[.string ⟨#[106,97]⟩,.string ⟨#[106,98]⟩,.string ⟨#[106,99]⟩] w (w.alloc (.cells #[.string ⟨#[106,97]⟩,.string ⟨#[106,98]⟩,.string ⟨#[106,99]⟩] 9)) g N none 0 0 ([] : List Value):=⟨World.ownsRow_nil _ _ _ _,hs.alloc _,World.grownBy_alloc _ _ _,Blk.new _ _ _,hlt⟩
 clear hs
 go_enter Tryz.func6,Tryz.ntmps6
 go_wp2_with fail
 generalize w.alloc (.cells #[.string ⟨#[106,97]⟩,.string ⟨#[106,98]⟩,.string ⟨#[106,99]⟩] 9) = w0 at *
 go_loopw [3,11] (fun o i wr => ∃ (k : Nat) (A : Option Addr) (c : Nat) (vs : List JudgeE),k ≤ 3 ∧ i = .int .i64 k ∧ o = .slice A vs.length c ∧ vs.length ≤ k * 2 ∧ Hid (∀ v ∈ vs,v.who ∈ judL) ∧ OwC 77 #[.string ⟨#[106,97]⟩,.string ⟨#[106,98]⟩,.string ⟨#[106,99]⟩] w wr g (N + k * 8) A c vs.length (vs.flatMap encJ)) (fun _ i _ => 3 - (intOf i).toNat)
 case atStart => exact ⟨0,none,0,[],by omega,rfl,rfl,by simp,Lib.hid (by simp),by simpa using hC0⟩
 case round =>
  clear hC0
  obtain ⟨k,A,c,vs,hk,rfl,rfl,hvl,HVB,hC⟩:=hrel
  by_cases hk3 : k < 3
  ·have hrow : Row wr w.heap.size 1 (some ⟨w.heap.size,0,none⟩) 3 (strs judsL):=Row.lit hC.nm (Nat.le_refl _) rfl
   obtain ⟨b,off,he,hbs,hcell⟩:=strs_at (l:=judsL) hrow (k:=k) hk3
   injection he with he
   injection he with e1 e2
   subst e1 e2
   have y0:=hcell k hk3
   have HWL : Hid (judsL[k] ∈ judL):=Lib.hid (by
    have h6 : ∀ s ∈ judsL,s ∈ judL:=by decide
    exact h6 _ (List.getElem_mem _))
   rw [Nat.zero_add] at y0
   clear hcell hrow
   generalize judsL[k] = who at *
   simp only [encStr] at y0
   go_wp2_with fail
   refine (pick_any g _ _ _ _ [0,0,10] _ (hC.s.alloc _) (by omega) (row_new _ _ _ _ _ _ (Nat.le_refl _) rfl) hC.s.lt (by simp) (by simp)).mono ?_
   rintro e w2 ⟨f0,rfl,hat,hs2,hg2⟩
   have hab : 0 ≤ f0 ∧ f0 ≤ 10:=by
    have h6 : ∀ x ∈ ([0,0,10] : List Int),0 ≤ x ∧ x ≤ 10:=by decide
    exact h6 _ hat
   replace hC:=(hC.alloc (.cells #[.int .i64 0,.int .i64 0,.int .i64 10] 3)).str hs2 hg2
   clear hs2 hg2 hat y0
   go_wp2_with fail
   refine (pick_any g _ _ _ _ [1,1,1,2,0] _ (hC.s.alloc _) (by omega) (row_new _ _ _ _ _ _ (Nat.le_refl _) rfl) hC.s.lt (by simp) (by simp)).mono ?_
   rintro e w3 ⟨mm,rfl,hat,hs3,hg3⟩
   have hmm0 : 0 ≤ mm ∧ mm ≤ 2:=by
    have h6 : ∀ x ∈ ([1,1,1,2,0] : List Int),0 ≤ x ∧ x ≤ 2:=by decide
    exact h6 _ hat
   obtain ⟨hm0,hm1⟩:=hmm0
   obtain ⟨m,rfl⟩:=Int.eq_ofNat_of_zero_le hm0
   have hmm : m ≤ 2:=by omega
   replace hC:=(hC.alloc (.cells #[.int .i64 1,.int .i64 1,.int .i64 1,.int .i64 2,.int .i64 0] 3)).str hs3 hg3
   have hmi : (m : Int) ≤ 2:=by omega
   clear hs3 hg3 hm0 hm1 hat
   obtain ⟨n0,hn0⟩ : ∃ n0,n0 = vs.length:=⟨_,rfl⟩
   have hvn : vs.length ≤ n0 + 0:=by omega
   have hn0b : n0 ≤ k * 2:=by omega
   clear hn0 hvl
   go_wp2_with fail
   obtain ⟨NB,hNB⟩ : ∃ NB,NB = N + k * 8 + 1 + 1:=⟨_,rfl⟩
   rw [← hNB] at hC
   have hNBb : NB ≤ N + 100:=by omega
   have habm : 0 ≤ f0 ∧ f0 < 345686400000:=by omega
   go_loopw [3,6,21] (fun o a i wr => ∃ (j : Nat) (A : Option Addr) (c : Nat) (vs : List JudgeE) (f : Int),j ≤ m ∧ i = .int .i64 j ∧ a = .int .i64 f ∧ 0 ≤ f ∧ f < 345686400000 ∧ o = .slice A vs.length c ∧ vs.length ≤ n0 + j ∧ Hid (∀ v ∈ vs,v.who ∈ judL) ∧ OwC 77 #[.string ⟨#[106,97]⟩,.string ⟨#[106,98]⟩,.string ⟨#[106,99]⟩] w wr g (NB + 3 * j) A c vs.length (vs.flatMap encJ)) (fun _ _ i _ => m - (intOf i).toNat)
   case atStart => exact ⟨0,A,c,vs,f0,Nat.zero_le _,rfl,rfl,habm.1,habm.2,rfl,by omega,HVB,hC⟩
   case round =>
    clear hC HVB hab hvn hk3 habm
    obtain ⟨j,A,c,vs,f,hj,rfl,rfl,hf0,hf1,rfl,hvn,HVB,hC⟩:=hrel
    by_cases hjm : j < m
    ·have wf : IntKind.i64.wrap (f + 20) = f + 20:=IntWalk.i64_in _ ⟨by omega,by omega⟩
     go_wp2_with fail
     refine (pick_any g _ _ _ _ [f + 20,345686400000,345686400000,f] _ (hC.s.alloc _) (by omega) (row_new _ _ _ _ _ _ (Nat.le_refl _) rfl) hC.s.lt (by simp) (by simp)).mono ?_
     rintro e w5 ⟨t,rfl,hat,hs5,hg5⟩
     have ht : 0 ≤ t ∧ t ≤ 400000000000:=by
      simp only [List.mem_cons,List.not_mem_nil,or_false] at hat
      omega
     replace hC:=(hC.alloc (.cells #[.int .i64 (f + 20),.int .i64 345686400000,.int .i64 345686400000,.int .i64 f] 3)).str hs5 hg5
     clear hs5 hg5 hat wf
     go_wp2_with fail
     refine (pick_any g _ _ _ _ [1,1,2,5] _ (hC.s.alloc _) (by omega) (row_new _ _ _ _ _ _ (Nat.le_refl _) rfl) hC.s.lt (by simp) (by simp)).mono ?_
     rintro e w6 ⟨wt,rfl,-,hs6,hg6⟩
     replace hC:=(hC.alloc (.cells #[.int .i64 1,.int .i64 1,.int .i64 2,.int .i64 5] 3)).str hs6 hg6
     clear hs6 hg6
     have hgt0 : Hid (w.heap.size < w6.heap.size):=Lib.hid hC.nm.lt
     have HCA:=Lib.hid (hC.alloc (.cells #[.string ⟨who.toArray⟩,.int .i64 f,.int .i64 t,.int .i64 wt] 77))
     clear hC
     have hlt6 : vs.length ≤ 1000:=by omega
     have hgt6 : w.heap.size < w6.heap.size:=hgt0.out
     go_wp2_with (at_builtin; go_must (refine wpList_app (lo:=w.heap.size + 1) (base:=w.heap.size + 1) (n:=vs.length) (xs:=vs.flatMap encJ) _ _ rfl _ _ ty_judges rfl (by repeat (first | exact HCA.out.own | refine World.ownsRow.alloc ?_ _ | refine own_drewN ?_ _ | refine World.ownsRow.drew ?_)) rfl (by first | exact row_new' _ (by first | rfl | simp) (by first | omega | (simp; omega)) rfl | exact row_newN _ _ (by first | rfl | simp) (by first | omega | (simp; omega)) rfl | exact row_newD _ (by first | rfl | simp) (by first | omega | (simp; omega)) rfl) rfl rfl (by first | omega | decide) (by first | omega | decide) (by first | omega | (simp; omega)) ?_))
     intro A5 c5 w8 hown5 hg5 _
     have HO5 : Hid (w8.ownsRow (w.heap.size + 1) 77 4 (.slice A5 (vs ++ [(⟨who,f,t,wt⟩ : JudgeE)]).length c5) (vs ++ [(⟨who,f,t,wt⟩ : JudgeE)]).length ((vs ++ [(⟨who,f,t,wt⟩ : JudgeE)]).flatMap encJ)):=Lib.hid (by simpa [encJ,encStr] using hown5)
     have hC8:=HCA.out.app hg5 HO5.out
     have HV5 : Hid (∀ v ∈ vs ++ [(⟨who,f,t,wt⟩ : JudgeE)],v.who ∈ judL):=Lib.hid (by
      intro v hv; rcases List.mem_append.1 hv with h | h
      ·exact HVB.out v h
      ·simp at h; subst h; exact HWL.out)
     have HLN : Hid ((vs ++ [(⟨who,f,t,wt⟩ : JudgeE)]).length = vs.length + 1):=Lib.hid (by simp)
     clear hown5 hg5 HCA HO5
     go_wp2_with fail
     refine (pick_any g _ _ _ _ [0,5] _ (hC8.s.alloc _) (by omega) (row_new _ _ _ _ _ _ (Nat.le_refl _) rfl) hC8.s.lt (by simp) (by simp)).mono ?_
     rintro e w9 ⟨dt,rfl,hdt,hs9,hg9⟩
     have hdb : 0 ≤ dt ∧ dt ≤ 5:=by
      have h6 : ∀ x ∈ ([0,5] : List Int),0 ≤ x ∧ x ≤ 5:=by decide
      exact h6 _ hdt
     have hC9:=(hC8.alloc (.cells #[.int .i64 0,.int .i64 5] 3)).str hs9 hg9
     have wt9 : IntKind.i64.wrap (t + dt) = t + dt:=IntWalk.i64_in _ ⟨by omega,by omega⟩
     clear hs9 hg9 hdt hC8
     by_cases hend : (345686400000 : Int) ≤ t + dt
     ·have hC2:=hC9.more (show NB + 3 * j + 1 + 1 + 1 ≤ N + (k + 1) * 8 by omega)
      have HKN : Hid ((vs ++ [(⟨who,f,t,wt⟩ : JudgeE)]).length ≤ (k + 1) * 2):=Lib.hid (by rw [HLN.out]; omega)
      clear hC9
      go_wp2_with fail
      go_roundw
      case rel => exact ⟨k + 1,A5,c5,vs ++ [(⟨who,f,t,wt⟩ : JudgeE)],by omega,by go_num,by rw [HLN.out],HKN.out,HV5,by rw [HLN.out] at hC2 ⊢; exact hC2⟩
      case measure => simp [intOf]; omega
     ·have hend' : t + dt < 345686400000:=by omega
      go_wp2_with fail
      go_roundw
      case rel => exact ⟨j + 1,A5,c5,vs ++ [(⟨who,f,t,wt⟩ : JudgeE)],t + dt,by omega,by go_num,rfl,by omega,by omega,by rw [HLN.out],by rw [HLN.out]; omega,HV5,by rw [show NB + 3 * (j + 1) = NB + 3 * j + 1 + 1 + 1 by omega]; exact hC9⟩
      case measure => simp [intOf]; omega
    ·have HKN : Hid (vs.length ≤ (k + 1) * 2):=Lib.hid (by omega)
     have hC2:=hC.more (show NB + 3 * j ≤ N + (k + 1) * 8 by omega)
     clear hC
     go_wp2_with fail
     go_roundw
     case rel => exact ⟨k + 1,A,c,vs,by omega,by go_num,rfl,HKN.out,HVB,hC2⟩
     case measure => simp [intOf]; omega
  ·have hkk : k = 3:=by omega
   subst hkk
   have hvl2 : vs.length ≤ 6:=by omega
   by_cases hn0 : vs.length = 0
   ·have d0 : ¬ 0 < vs.length:=by omega
    have HF:=Lib.hid (own_weak hC.own (show w.heap.size ≤ w.heap.size + 1 by omega))
    clear hn0
    go_wp2_with fail
    go_ret
    exact ⟨A,c,vs,rfl,HF.out,hvl2,HVB.out,hC.s.more (by omega),hC.gr⟩
   ·have d0 : 0 < vs.length:=by omega
    clear hn0
    go_wp2_with fail
    refine (flip_any g _ 20 _ hC.s (by omega) (by omega)).mono ?_
    rintro e w20 ⟨r2,rfl,hs,hg⟩
    replace hC:=hC.str hs hg
    clear hs hg
    cases r2
    ·have HF:=Lib.hid (own_weak hC.own (show w.heap.size ≤ w.heap.size + 1 by omega))
     go_wp2_with fail
     go_ret
     exact ⟨A,c,vs,rfl,HF.out,hvl2,HVB.out,hC.s.more (by omega),hC.gr⟩
    ·go_wp2_with fail
     refine (next_any g _ (vs.length : Int) _ hC.s (by omega) (by omega)).mono ?_
     rintro e w30 ⟨r,rfl,h40,h41,-,hs,hg⟩
     have h42:=h41 (by omega)
     obtain ⟨k,rfl⟩:=Int.eq_ofNat_of_zero_le h40
     have hk0 : k < vs.length:=by omega
     replace hC:=hC.str hs hg
     obtain ⟨b,rfl,hbb,hbz,-,-⟩:=hC.free d0
     clear h40 h41 h42 hs hg
     obtain ⟨us,hus⟩ : ∃ us,us = vs:=⟨_,rfl⟩
     have hul : us.length = vs.length:=by rw [hus]
     have HUL : Hid (us.length = vs.length):=Lib.hid hul
     rw [← hus] at hk0
     have hCu:=hC
     rw [show (vs.flatMap encJ) = us.flatMap encJ by rw [hus]] at hCu
     have HVU : Hid (∀ v ∈ us,v.who ∈ judL):=Lib.hid (by rw [hus]; exact HVB.out)
     clear hC
     have hC:=hCu
     clear hCu
     obtain ⟨x,hxk⟩ : ∃ x,us[k] = x:=⟨_,rfl⟩
     have hVx : Hid (x.who ∈ judL):=Lib.hid (by rw [← hxk]; exact HVU.out _ (List.getElem_mem _))
     have hpos : 0 < vs.length:=d0
     have hkv : k < vs.length:=by omega
     have hnle : vs.length ≤ 1000:=by omega
     clear hus hul
     go_upto_region 16 with (fail)
     replace hC:=hC.drew
     refine wp_region_heldK 22 (fun w' => w'.cell? ⟨b,k * 4,none⟩ = some (.string ⟨x.who.toArray⟩) ∧ w'.cell? ⟨b,k * 4 + 1 + 1,none⟩ = some (.int .i64 x.to_)) (fun _ => True) (by kernel_rfl) (trivial) (hC.jc2 HUL.out hk0 hxk) (fun hT hS => ?_)
     (refine wpAnyK_take2 (i:=0) (v:=?_) (by (simp only [Q0,Q2]; rfl)) (by kernel_rfl) (by kernel_rfl) (by kernel_rfl) (by decide) (by exact fun _ _ _ h => h) (Or.inl ⟨by rfl,?_⟩) (by assumption) (by assumption) ?_; (rotate_left 1; (intro w hSw; (try dsimp only at hSw); go_simp); (try with_reducible rfl)); (try simp only [Act.put,Q3,Q4,Q5]))
     (refine wpAnyK_take2 (i:=1) (v:=?_) (by (simp only [Q0,Q1,Q2]; rfl)) (by kernel_rfl) (by kernel_rfl) (by kernel_rfl) (by decide) (by exact fun _ _ _ h => h) (Or.inl ⟨by rfl,?_⟩) (by assumption) (by assumption) ?_; (rotate_left 1; (intro w hSw; (try dsimp only at hSw); go_simp); (try with_reducible rfl)); (try simp only [Act.put,Q3,Q4,Q5]))
     (refine wpAnyK_take2 (i:=2) (v:=?_) (by (simp only [Q0,Q1,Q2]; rfl)) (by kernel_rfl) (by kernel_rfl) (by kernel_rfl) (by decide) (by exact fun _ _ _ h => h) (Or.inl ⟨by rfl,?_⟩) (by assumption) (by assumption) ?_; (rotate_left 1; (intro w hSw; (try dsimp only at hSw); go_simp); (try with_reducible rfl)); (try simp only [Act.put,Q3,Q4,Q5]))
     (refine wpAnyK_take2 (i:=3) (v:=?_) (by (simp only [Q0,Q1,Q2]; rfl)) (by kernel_rfl) (by kernel_rfl) (by kernel_rfl) (by decide) (by exact fun _ _ _ h => h) (Or.inl ⟨by rfl,?_⟩) (by assumption) (by assumption) ?_; (rotate_left 1; (intro w hSw; (try dsimp only at hSw); go_simp); (try with_reducible rfl)); (try simp only [Act.put,Q3,Q4,Q5]))
     (refine wpAnyK_take2 (i:=4) (v:=?_) (by (simp only [Q0,Q1,Q2]; rfl)) (by kernel_rfl) (by kernel_rfl) (by kernel_rfl) (by decide) (by exact fun _ _ _ h => h) (Or.inl ⟨by rfl,?_⟩) (by assumption) (by assumption) ?_; (rotate_left 1; (intro w hSw; (try dsimp only at hSw); go_simp); (try with_reducible rfl)); (try simp only [Act.put,Q3,Q4,Q5]))
     (refine wpAnyK_take2 (i:=5) (v:=?_) (by (simp only [Q0,Q1,Q2]; rfl)) (by kernel_rfl) (by kernel_rfl) (by kernel_rfl) (by decide) (by exact fun _ _ _ h => h) (Or.inl ⟨by rfl,?_⟩) (by assumption) (by assumption) ?_; (rotate_left 1; (intro w hSw; (try dsimp only at hSw); go_simp); (try with_reducible rfl)); (try simp only [Act.put,Q3,Q4,Q5]))
     (refine wpAnyK_take2 (i:=6) (v:=?_) (by (simp only [Q0,Q1,Q2]; rfl)) (by kernel_rfl) (by kernel_rfl) (by kernel_rfl) (by decide) (by exact fun _ _ _ h => h) (Or.inl ⟨by rfl,?_⟩) (by assumption) (by assumption) ?_; (rotate_left 1; (intro w hSw; (try dsimp only at hSw); go_simp); (try with_reducible rfl)); (try simp only [Act.put,Q3,Q4,Q5]))
     (refine wpAnyK_take1 (i:=7) (v:=?_) (by (simp only [Q0,Q1,Q2]; rfl)) (by kernel_rfl) (by kernel_rfl) (by kernel_rfl) (by decide) (by kernel_rfl) (by kernel_rfl) (by exact fun _ _ _ h => h) (Or.inl ⟨by rfl,?_⟩) (by assumption) (by assumption) ?_; (rotate_left 1; (intro w hSw; (try dsimp only at hSw); go_simp); (try with_reducible rfl)); (try simp only [Act.put,Q3,Q4,Q5]))
     (refine wpAnyK_take2 (i:=10) (v:=?_) (by (simp only [Q0,Q1,Q2]; rfl)) (by kernel_rfl) (by kernel_rfl) (by kernel_rfl) (by decide) (by exact fun _ _ _ h => h) (Or.inl ⟨by rfl,?_⟩) (by assumption) (by assumption) ?_; (rotate_left 1; (intro w hSw; (try dsimp only at hSw); go_simp); (try with_reducible rfl)); (try simp only [Act.put,Q3,Q4,Q5]))
     (refine wpAnyK_take2 (i:=11) (v:=?_) (by (simp only [Q0,Q1,Q2]; rfl)) (by kernel_rfl) (by kernel_rfl) (by kernel_rfl) (by decide) (by exact fun _ _ _ h => h) (Or.inl ⟨by rfl,?_⟩) (by assumption) (by assumption) ?_; (rotate_left 1; (intro w hSw; (try dsimp only at hSw); go_simp); (try with_reducible rfl)); (try simp only [Act.put,Q3,Q4,Q5]))
     (refine wpAnyK_take2 (i:=12) (v:=?_) (by (simp only [Q0,Q1,Q2]; rfl)) (by kernel_rfl) (by kernel_rfl) (by kernel_rfl) (by decide) (by exact fun _ _ _ h => h) (Or.inl ⟨by rfl,?_⟩) (by assumption) (by assumption) ?_; (rotate_left 1; (intro w hSw; (try dsimp only at hSw); go_simp); (try with_reducible rfl)); (try simp only [Act.put,Q3,Q4,Q5]))
     (refine wpAnyK_take2 (i:=13) (v:=?_) (by (simp only [Q0,Q1,Q2]; rfl)) (by kernel_rfl) (by kernel_rfl) (by kernel_rfl) (by decide) (by exact fun _ _ _ h => h) (Or.inl ⟨by rfl,?_⟩) (by assumption) (by assumption) ?_; (rotate_left 1; (intro w hSw; (try dsimp only at hSw); go_simp); (try with_reducible rfl)); (try simp only [Act.put,Q3,Q4,Q5]))
     (refine wpAnyK_take2 (i:=14) (v:=?_) (by (simp only [Q0,Q1,Q2]; rfl)) (by kernel_rfl) (by kernel_rfl) (by kernel_rfl) (by decide) (by exact fun _ _ _ h => h) (Or.inl ⟨by rfl,?_⟩) (by assumption) (by assumption) ?_; (rotate_left 1; (intro w hSw; (try dsimp only at hSw); go_simp); (try with_reducible rfl)); (try simp only [Act.put,Q3,Q4,Q5]))
     (refine wpAnyK_take1 (i:=15) (v:=?_) (by (simp only [Q0,Q1,Q2]; rfl)) (by kernel_rfl) (by kernel_rfl) (by kernel_rfl) (by decide) (by kernel_rfl) (by kernel_rfl) (by exact fun _ _ _ h => h) (Or.inl ⟨by rfl,?_⟩) (by assumption) (by assumption) ?_; (rotate_left 1; (intro w hSw; (try dsimp only at hSw); go_simp); (try with_reducible rfl)); (try simp only [Act.put,Q3,Q4,Q5]))
     (refine wpAnyK_take2 (i:=18) (v:=?_) (by (simp only [Q0,Q1,Q2]; rfl)) (by kernel_rfl) (by kernel_rfl) (by kernel_rfl) (by decide) (by exact fun _ _ _ h => h) (Or.inl ⟨by rfl,?_⟩) (by assumption) (by assumption) ?_; (rotate_left 1; (intro w hSw; (try dsimp only at hSw); go_simp); (try with_reducible rfl)); (try simp only [Act.put,Q3,Q4,Q5]))
     refine wpAnyK_ready (rs:=[8,16]) (by kernel_rfl) (by simp) ?_
     refine AllReadyK.cons rfl (fun K hK => ?_) (AllReadyK.cons rfl (fun K hK => ?_) AllReadyK.nil)
     case refine_1 =>
      go_simp
      have hL8 : Blk (w30.drew.alloc (.cells #[.string ⟨x.who.toArray⟩,.string ⟨#[]⟩,.string ⟨#[106,97]⟩] 9)) (w30.heap.size) 9 #[.string ⟨x.who.toArray⟩,.string ⟨#[]⟩,.string ⟨#[106,97]⟩]:=Blk.at1 _ (by simp)
      have gL8 : g < w30.heap.size:=by have:=hC.s.lt; simp at this ⊢; omega
      replace hC:=hC.alloc (.cells #[.string ⟨x.who.toArray⟩,.string ⟨#[]⟩,.string ⟨#[106,97]⟩] 9)
      refine hK.out _ _ (trivial) (hC.jc2 HUL.out hk0 hxk) (fun hT hS => ?_)
      clear hK K
      (try simp only [Act.put,Q3,Q4,Q5])
      refine wpAnyK_ready (rs:=[9,16]) (by kernel_rfl) (by simp) ?_
      refine AllReadyK.cons rfl (fun K hK => ?_) (AllReadyK.cons rfl (fun K hK => ?_) AllReadyK.nil)
      case refine_1 =>
       go_simp
       go_at_call 11
       refine (some_litN g _ _ #[.string ⟨x.who.toArray⟩,.string ⟨#[]⟩,.string ⟨#[106,97]⟩] [x.who,[],[106,97]] _ hC.s (by omega) hL8 rfl gL8 (by simp) (by simp)).mono ?_
       rintro e w31 ⟨x9,rfl,hx9,hs,hg⟩
       replace hC:=hC.str hs hg
       clear hs hg hL8 gL8
       go_wp2_with fail
       refine hK.out _ _ (trivial) (hC.jc2 HUL.out hk0 hxk) (fun hT hS => ?_)
       clear hK K
       (try simp only [Act.put,Q3,Q4,Q5])
       refine wpAnyK_ready (rs:=[16]) (by kernel_rfl) (by simp) ?_
       refine AllReadyK.cons rfl (fun K hK => ?_) AllReadyK.nil
       go_simp
       have hL16 : Blk (w31.alloc (.cells #[.int .i64 x.to_,.int .i64 345686400001] 3)) (w31.heap.size) 3 #[.int .i64 x.to_,.int .i64 345686400001]:=Blk.at1 _ (by simp)
       have gL16 : g < w31.heap.size:=by have:=hC.s.lt; simp at this ⊢; omega
       replace hC:=hC.alloc (.cells #[.int .i64 x.to_,.int .i64 345686400001] 3)
       refine hK.out _ _ (trivial) (hC.jc2 HUL.out hk0 hxk) (fun hT hS => ?_)
       clear hK K
       (try simp only [Act.put,Q3,Q4,Q5])
       refine wpAnyK_ready (rs:=[17]) (by kernel_rfl) (by simp) ?_
       refine AllReadyK.cons rfl (fun K hK => ?_) AllReadyK.nil
       go_simp
       go_at_call 12
       refine (pick_any g _ _ _ _ [x.to_,345686400001] _ hC.s (by omega) (Row.lit hL16 (Nat.le_refl _) rfl) gL16 (by simp) (by simp)).mono ?_
       rintro e w32 ⟨x17,rfl,-,hs,hg⟩
       replace hC:=hC.str hs hg
       clear hs hg hL16 gL16
       go_wp2_with fail
       refine hK.out _ _ (trivial) (hC.jc2 HUL.out hk0 hxk) (fun hT hS => ?_)
       clear hK K
       (try simp only [Act.put,Q3,Q4,Q5])
       refine wpAnyK_ready (rs:=[19]) (by kernel_rfl) (by simp) ?_
       refine AllReadyK.cons rfl (fun K hK => ?_) AllReadyK.nil
       go_simp
       go_at_call 38
       refine (odd_any g _ 1 1000 _ hC.s (by omega) (by omega) (by omega) (by omega)).mono ?_
       rintro e w33 ⟨x19,rfl,-,-,hs,hg⟩
       replace hC:=hC.str hs hg
       clear hs hg
       go_wp2_with fail
       refine hK.out _ _ (trivial) (hC.jc2 HUL.out hk0 hxk) (fun hT hS => ?_)
       clear hK K
       (try simp only [Act.put,Q3,Q4,Q5])
       (refine wpAnyK_take2 (i:=20) (v:=?_) (by (simp only [Q0,Q1,Q2]; rfl)) (by kernel_rfl) (by kernel_rfl) (by kernel_rfl) (by decide) (by exact fun _ _ _ h => h) (Or.inl ⟨by rfl,?_⟩) (by assumption) (by assumption) ?_; (rotate_left 1; (intro w hSw; (try dsimp only at hSw); go_simp); (try with_reducible rfl)); (try simp only [Act.put,Q3,Q4,Q5]))
       (refine wpAnyK_take2 (i:=21) (v:=?_) (by (simp only [Q0,Q1,Q2]; rfl)) (by kernel_rfl) (by kernel_rfl) (by kernel_rfl) (by decide) (by exact fun _ _ _ h => h) (Or.inl ⟨by rfl,?_⟩) (by assumption) (by assumption) ?_; (rotate_left 1; (intro w hSw; (try dsimp only at hSw); go_simp); (try with_reducible rfl)); (try simp only [Act.put,Q3,Q4,Q5]))
       refine wpAnyK_ready (rs:=[22]) (by kernel_rfl) (by simp) ?_
       refine AllReadyK.consT (by kernel_rfl) rfl (fun K hK => ?_) AllReadyK.nil
       obtain ⟨zb3,zb4⟩:=hC.freeB hpos
       have fz0:=zb4 (k * 4)
       have fz2:=zb4 (k * 4 + 1 + 1)
       have fz3:=zb4 (k * 4 + 1 + 1 + 1)
       have cz0:=zb3 (k * 4) _ (flat_getJ hk0 hxk 0 (by decide) rfl)
       have cz2:=zb3 (k * 4 + 1 + 1) _ (flat_getJ hk0 hxk 2 (by decide) rfl)
       have cz3:=zb3 (k * 4 + 1 + 1 + 1) _ (flat_getJ hk0 hxk 3 (by decide) rfl)
       clear zb3 zb4
       have hC0:=hC.setJ hbb hk0 (i:=0) (by decide) (.string ⟨x9.toArray⟩) (x':={ x with who:=x9 }) hxk rfl
       have hk1 : k < ((us.set k { x with who:=x9 })).length:=by simpa using hk0
       have hx1:=set_atJ hk0 { x with who:=x9 }
       replace hC:=hC0
       clear hC0
       go_simp
       refine hK.out _ _ (trivial) (fun hT => ?_)
       clear hK K
       (try simp only [Act.put,Q3,Q4,Q5])
       (refine wpAnyK_take3 (i:=23) (v:=?_) (by (simp only [Q0,Q1,Q2]; rfl)) (by kernel_rfl) (by kernel_rfl) (by kernel_rfl) (by decide) (by kernel_rfl) (by exact fun _ _ _ h => h) (Or.inl ⟨by rfl,?_⟩) (by assumption) ?_; (rotate_left 1; (intro w hSw; (try dsimp only at hSw); go_simp); (try with_reducible rfl)); (try simp only [Act.put,Q3,Q4,Q5]))
       (refine wpAnyK_take3 (i:=24) (v:=?_) (by (simp only [Q0,Q1,Q2]; rfl)) (by kernel_rfl) (by kernel_rfl) (by kernel_rfl) (by decide) (by kernel_rfl) (by exact fun _ _ _ h => h) (Or.inl ⟨by rfl,?_⟩) (by assumption) ?_; (rotate_left 1; (intro w hSw; (try dsimp only at hSw); go_simp); (try with_reducible rfl)); (try simp only [Act.put,Q3,Q4,Q5]))
       (refine wpAnyK_take3 (i:=25) (v:=?_) (by (simp only [Q0,Q1,Q2]; rfl)) (by kernel_rfl) (by kernel_rfl) (by kernel_rfl) (by decide) (by kernel_rfl) (by exact fun _ _ _ h => h) (Or.inl ⟨by rfl,?_⟩) (by assumption) ?_; (rotate_left 1; (intro w hSw; (try dsimp only at hSw); go_simp); (try with_reducible rfl)); (try simp only [Act.put,Q3,Q4,Q5]))
       refine wpAnyK_ready (rs:=[26]) (by kernel_rfl) (by simp) ?_
       refine AllReadyK.consT (by kernel_rfl) rfl (fun K hK => ?_) AllReadyK.nil
       have hC2:=hC.setJ hbb hk1 (i:=2) (by decide) (.int .i64 x17) (x':={ x with who:=x9,to_:=x17 }) hx1 rfl
       have hk2 : k < (((us.set k { x with who:=x9 }).set k { x with who:=x9,to_:=x17 })).length:=by simpa using hk1
       have hx2:=set_atJ hk1 { x with who:=x9,to_:=x17 }
       replace hC:=hC2
       clear hC2
       go_simp
       refine hK.out _ _ (trivial) (fun hT => ?_)
       clear hK K
       (try simp only [Act.put,Q3,Q4,Q5])
       (refine wpAnyK_take3 (i:=27) (v:=?_) (by (simp only [Q0,Q1,Q2]; rfl)) (by kernel_rfl) (by kernel_rfl) (by kernel_rfl) (by decide) (by kernel_rfl) (by exact fun _ _ _ h => h) (Or.inl ⟨by rfl,?_⟩) (by assumption) ?_; (rotate_left 1; (intro w hSw; (try dsimp only at hSw); go_simp); (try with_reducible rfl)); (try simp only [Act.put,Q3,Q4,Q5]))
       (refine wpAnyK_take3 (i:=28) (v:=?_) (by (simp only [Q0,Q1,Q2]; rfl)) (by kernel_rfl) (by kernel_rfl) (by kernel_rfl) (by decide) (by kernel_rfl) (by exact fun _ _ _ h => h) (Or.inl ⟨by rfl,?_⟩) (by assumption) ?_; (rotate_left 1; (intro w hSw; (try dsimp only at hSw); go_simp); (try with_reducible rfl)); (try simp only [Act.put,Q3,Q4,Q5]))
       refine wpAnyK_ready (rs:=[29]) (by kernel_rfl) (by simp) ?_
       refine AllReadyK.consT (by kernel_rfl) rfl (fun K hK => ?_) AllReadyK.nil
       have hC3:=hC.setJ hbb hk2 (i:=3) (by decide) (.int .i64 x19) (x':=(⟨x9,x.frm,x17,x19⟩ : JudgeE)) hx2 rfl
       have hk3 : k < ((((us.set k { x with who:=x9 }).set k { x with who:=x9,to_:=x17 }).set k (⟨x9,x.frm,x17,x19⟩ : JudgeE))).length:=by simpa using hk2
       have hx3:=set_atJ hk2 (⟨x9,x.frm,x17,x19⟩ : JudgeE)
       replace hC:=hC3
       clear hC3
       go_simp
       refine hK.out _ _ (trivial) (fun hT => ?_)
       clear hK K
       (try simp only [Act.put,Q3,Q4,Q5])
       refine wpAnyK_done (by kernel_rfl) ?_ _
       have HF:=Lib.hid (own_weak hC.own (show w.heap.size ≤ w.heap.size + 1 by omega))
       have hul:=HUL.out
       have HW9 : Hid (x9 ∈ judL):=Lib.hid (by simp only [List.mem_cons,List.not_mem_nil,or_false] at hx9; rcases hx9 with h | h | h <;> rw [h] <;> first | exact hVx.out | decide)
       have HVF : Hid (∀ v ∈ (((us.set k { x with who:=x9 }).set k { x with who:=x9,to_:=x17 }).set k (⟨x9,x.frm,x17,x19⟩ : JudgeE)),v.who ∈ judL):=Lib.hid (jud_set (jud_set (jud_set HVU.out HW9.out) HW9.out) HW9.out)
       have HLL : Hid (((((us.set k { x with who:=x9 }).set k { x with who:=x9,to_:=x17 }).set k (⟨x9,x.frm,x17,x19⟩ : JudgeE))).length = vs.length):=Lib.hid (by simpa using hul)
       clear hxk hx1 hx2 hx3 hk0 hk1 hk2 hk3
       go_wp2_with fail
       go_ret
       exact ⟨some ⟨b,0,none⟩,c,(((us.set k { x with who:=x9 }).set k { x with who:=x9,to_:=x17 }).set k (⟨x9,x.frm,x17,x19⟩ : JudgeE)),by rw [HLL.out] <;> rfl,by rw [HLL.out]; exact HF.out,by rw [HLL.out]; exact hvl2,HVF.out,hC.s.more (by omega),hC.gr⟩
      case refine_2 =>
       go_simp
       have hL16 : Blk ((w30.drew.alloc (.cells #[.string ⟨x.who.toArray⟩,.string ⟨#[]⟩,.string ⟨#[106,97]⟩] 9)).alloc (.cells #[.int .i64 x.to_,.int .i64 345686400001] 3)) (w30.heap.size + 1) 3 #[.int .i64 x.to_,.int .i64 345686400001]:=Blk.at1 _ (by simp)
       have gL16 : g < w30.heap.size + 1:=by have:=hC.s.lt; simp at this ⊢; omega
       replace hC:=hC.alloc (.cells #[.int .i64 x.to_,.int .i64 345686400001] 3)
       replace hL8:=hL8.alloc (.cells #[.int .i64 x.to_,.int .i64 345686400001] 3)
       refine hK.out _ _ (trivial) (hC.jc2 HUL.out hk0 hxk) (fun hT hS => ?_)
       clear hK K
       (try simp only [Act.put,Q3,Q4,Q5])
       refine wpAnyK_ready (rs:=[9]) (by kernel_rfl) (by simp) ?_
       refine AllReadyK.cons rfl (fun K hK => ?_) AllReadyK.nil
       go_simp
       go_at_call 11
       refine (some_litN g _ _ #[.string ⟨x.who.toArray⟩,.string ⟨#[]⟩,.string ⟨#[106,97]⟩] [x.who,[],[106,97]] _ hC.s (by omega) hL8 rfl gL8 (by simp) (by simp)).mono ?_
       rintro e w31 ⟨x9,rfl,hx9,hs,hg⟩
       replace hC:=hC.str hs hg
       replace hL16:=hL16.gr9 hg (by omega)
       clear hs hg hL8 gL8
       go_wp2_with fail
       refine hK.out _ _ (trivial) (hC.jc2 HUL.out hk0 hxk) (fun hT hS => ?_)
       clear hK K
       (try simp only [Act.put,Q3,Q4,Q5])
       refine wpAnyK_ready (rs:=[17]) (by kernel_rfl) (by simp) ?_
       refine AllReadyK.cons rfl (fun K hK => ?_) AllReadyK.nil
       go_simp
       go_at_call 12
       refine (pick_any g _ _ _ _ [x.to_,345686400001] _ hC.s (by omega) (Row.lit hL16 (Nat.le_refl _) rfl) gL16 (by simp) (by simp)).mono ?_
       rintro e w32 ⟨x17,rfl,-,hs,hg⟩
       replace hC:=hC.str hs hg
       clear hs hg hL16 gL16
       go_wp2_with fail
       refine hK.out _ _ (trivial) (hC.jc2 HUL.out hk0 hxk) (fun hT hS => ?_)
       clear hK K
       (try simp only [Act.put,Q3,Q4,Q5])
       refine wpAnyK_ready (rs:=[19]) (by kernel_rfl) (by simp) ?_
       refine AllReadyK.cons rfl (fun K hK => ?_) AllReadyK.nil
       go_simp
       go_at_call 38
       refine (odd_any g _ 1 1000 _ hC.s (by omega) (by omega) (by omega) (by omega)).mono ?_
       rintro e w33 ⟨x19,rfl,-,-,hs,hg⟩
       replace hC:=hC.str hs hg
       clear hs hg
       go_wp2_with fail
       refine hK.out _ _ (trivial) (hC.jc2 HUL.out hk0 hxk) (fun hT hS => ?_)
       clear hK K
       (try simp only [Act.put,Q3,Q4,Q5])
       (refine wpAnyK_take2 (i:=20) (v:=?_) (by (simp only [Q0,Q1,Q2]; rfl)) (by kernel_rfl) (by kernel_rfl) (by kernel_rfl) (by decide) (by exact fun _ _ _ h => h) (Or.inl ⟨by rfl,?_⟩) (by assumption) (by assumption) ?_; (rotate_left 1; (intro w hSw; (try dsimp only at hSw); go_simp); (try with_reducible rfl)); (try simp only [Act.put,Q3,Q4,Q5]))
       (refine wpAnyK_take2 (i:=21) (v:=?_) (by (simp only [Q0,Q1,Q2]; rfl)) (by kernel_rfl) (by kernel_rfl) (by kernel_rfl) (by decide) (by exact fun _ _ _ h => h) (Or.inl ⟨by rfl,?_⟩) (by assumption) (by assumption) ?_; (rotate_left 1; (intro w hSw; (try dsimp only at hSw); go_simp); (try with_reducible rfl)); (try simp only [Act.put,Q3,Q4,Q5]))
       refine wpAnyK_ready (rs:=[22]) (by kernel_rfl) (by simp) ?_
       refine AllReadyK.consT (by kernel_rfl) rfl (fun K hK => ?_) AllReadyK.nil
       obtain ⟨zb3,zb4⟩:=hC.freeB hpos
       have fz0:=zb4 (k * 4)
       have fz2:=zb4 (k * 4 + 1 + 1)
       have fz3:=zb4 (k * 4 + 1 + 1 + 1)
       have cz0:=zb3 (k * 4) _ (flat_getJ hk0 hxk 0 (by decide) rfl)
       have cz2:=zb3 (k * 4 + 1 + 1) _ (flat_getJ hk0 hxk 2 (by decide) rfl)
       have cz3:=zb3 (k * 4 + 1 + 1 + 1) _ (flat_getJ hk0 hxk 3 (by decide) rfl)
       clear zb3 zb4
       have hC0:=hC.setJ hbb hk0 (i:=0) (by decide) (.string ⟨x9.toArray⟩) (x':={ x with who:=x9 }) hxk rfl
       have hk1 : k < ((us.set k { x with who:=x9 })).length:=by simpa using hk0
       have hx1:=set_atJ hk0 { x with who:=x9 }
       replace hC:=hC0
       clear hC0
       go_simp
       refine hK.out _ _ (trivial) (fun hT => ?_)
       clear hK K
       (try simp only [Act.put,Q3,Q4,Q5])
       (refine wpAnyK_take3 (i:=23) (v:=?_) (by (simp only [Q0,Q1,Q2]; rfl)) (by kernel_rfl) (by kernel_rfl) (by kernel_rfl) (by decide) (by kernel_rfl) (by exact fun _ _ _ h => h) (Or.inl ⟨by rfl,?_⟩) (by assumption) ?_; (rotate_left 1; (intro w hSw; (try dsimp only at hSw); go_simp); (try with_reducible rfl)); (try simp only [Act.put,Q3,Q4,Q5]))
       (refine wpAnyK_take3 (i:=24) (v:=?_) (by (simp only [Q0,Q1,Q2]; rfl)) (by kernel_rfl) (by kernel_rfl) (by kernel_rfl) (by decide) (by kernel_rfl) (by exact fun _ _ _ h => h) (Or.inl ⟨by rfl,?_⟩) (by assumption) ?_; (rotate_left 1; (intro w hSw; (try dsimp only at hSw); go_simp); (try with_reducible rfl)); (try simp only [Act.put,Q3,Q4,Q5]))
       (refine wpAnyK_take3 (i:=25) (v:=?_) (by (simp only [Q0,Q1,Q2]; rfl)) (by kernel_rfl) (by kernel_rfl) (by kernel_rfl) (by decide) (by kernel_rfl) (by exact fun _ _ _ h => h) (Or.inl ⟨by rfl,?_⟩) (by assumption) ?_; (rotate_left 1; (intro w hSw; (try dsimp only at hSw); go_simp); (try with_reducible rfl)); (try simp only [Act.put,Q3,Q4,Q5]))
       refine wpAnyK_ready (rs:=[26]) (by kernel_rfl) (by simp) ?_
       refine AllReadyK.consT (by kernel_rfl) rfl (fun K hK => ?_) AllReadyK.nil
       have hC2:=hC.setJ hbb hk1 (i:=2) (by decide) (.int .i64 x17) (x':={ x with who:=x9,to_:=x17 }) hx1 rfl
       have hk2 : k < (((us.set k { x with who:=x9 }).set k { x with who:=x9,to_:=x17 })).length:=by simpa using hk1
       have hx2:=set_atJ hk1 { x with who:=x9,to_:=x17 }
       replace hC:=hC2
       clear hC2
       go_simp
       refine hK.out _ _ (trivial) (fun hT => ?_)
       clear hK K
       (try simp only [Act.put,Q3,Q4,Q5])
       (refine wpAnyK_take3 (i:=27) (v:=?_) (by (simp only [Q0,Q1,Q2]; rfl)) (by kernel_rfl) (by kernel_rfl) (by kernel_rfl) (by decide) (by kernel_rfl) (by exact fun _ _ _ h => h) (Or.inl ⟨by rfl,?_⟩) (by assumption) ?_; (rotate_left 1; (intro w hSw; (try dsimp only at hSw); go_simp); (try with_reducible rfl)); (try simp only [Act.put,Q3,Q4,Q5]))
       (refine wpAnyK_take3 (i:=28) (v:=?_) (by (simp only [Q0,Q1,Q2]; rfl)) (by kernel_rfl) (by kernel_rfl) (by kernel_rfl) (by decide) (by kernel_rfl) (by exact fun _ _ _ h => h) (Or.inl ⟨by rfl,?_⟩) (by assumption) ?_; (rotate_left 1; (intro w hSw; (try dsimp only at hSw); go_simp); (try with_reducible rfl)); (try simp only [Act.put,Q3,Q4,Q5]))
       refine wpAnyK_ready (rs:=[29]) (by kernel_rfl) (by simp) ?_
       refine AllReadyK.consT (by kernel_rfl) rfl (fun K hK => ?_) AllReadyK.nil
       have hC3:=hC.setJ hbb hk2 (i:=3) (by decide) (.int .i64 x19) (x':=(⟨x9,x.frm,x17,x19⟩ : JudgeE)) hx2 rfl
       have hk3 : k < ((((us.set k { x with who:=x9 }).set k { x with who:=x9,to_:=x17 }).set k (⟨x9,x.frm,x17,x19⟩ : JudgeE))).length:=by simpa using hk2
       have hx3:=set_atJ hk2 (⟨x9,x.frm,x17,x19⟩ : JudgeE)
       replace hC:=hC3
       clear hC3
       go_simp
       refine hK.out _ _ (trivial) (fun hT => ?_)
       clear hK K
       (try simp only [Act.put,Q3,Q4,Q5])
       refine wpAnyK_done (by kernel_rfl) ?_ _
       have HF:=Lib.hid (own_weak hC.own (show w.heap.size ≤ w.heap.size + 1 by omega))
       have hul:=HUL.out
       have HW9 : Hid (x9 ∈ judL):=Lib.hid (by simp only [List.mem_cons,List.not_mem_nil,or_false] at hx9; rcases hx9 with h | h | h <;> rw [h] <;> first | exact hVx.out | decide)
       have HVF : Hid (∀ v ∈ (((us.set k { x with who:=x9 }).set k { x with who:=x9,to_:=x17 }).set k (⟨x9,x.frm,x17,x19⟩ : JudgeE)),v.who ∈ judL):=Lib.hid (jud_set (jud_set (jud_set HVU.out HW9.out) HW9.out) HW9.out)
       have HLL : Hid (((((us.set k { x with who:=x9 }).set k { x with who:=x9,to_:=x17 }).set k (⟨x9,x.frm,x17,x19⟩ : JudgeE))).length = vs.length):=Lib.hid (by simpa using hul)
       clear hxk hx1 hx2 hx3 hk0 hk1 hk2 hk3
       go_wp2_with fail
       go_ret
       exact ⟨some ⟨b,0,none⟩,c,(((us.set k { x with who:=x9 }).set k { x with who:=x9,to_:=x17 }).set k (⟨x9,x.frm,x17,x19⟩ : JudgeE)),by rw [HLL.out] <;> rfl,by rw [HLL.out]; exact HF.out,by rw [HLL.out]; exact hvl2,HVF.out,hC.s.more (by omega),hC.gr⟩
     case refine_2 =>
      go_simp
      have hL16 : Blk (w30.drew.alloc (.cells #[.int .i64 x.to_,.int .i64 345686400001] 3)) (w30.heap.size) 3 #[.int .i64 x.to_,.int .i64 345686400001]:=Blk.at1 _ (by simp)
      have gL16 : g < w30.heap.size:=by have:=hC.s.lt; simp at this ⊢; omega
      replace hC:=hC.alloc (.cells #[.int .i64 x.to_,.int .i64 345686400001] 3)
      refine hK.out _ _ (trivial) (hC.jc2 HUL.out hk0 hxk) (fun hT hS => ?_)
      clear hK K
      (try simp only [Act.put,Q3,Q4,Q5])
      refine wpAnyK_ready (rs:=[8]) (by kernel_rfl) (by simp) ?_
      refine AllReadyK.cons rfl (fun K hK => ?_) AllReadyK.nil
      go_simp
      have hL8 : Blk ((w30.drew.alloc (.cells #[.int .i64 x.to_,.int .i64 345686400001] 3)).alloc (.cells #[.string ⟨x.who.toArray⟩,.string ⟨#[]⟩,.string ⟨#[106,97]⟩] 9)) (w30.heap.size + 1) 9 #[.string ⟨x.who.toArray⟩,.string ⟨#[]⟩,.string ⟨#[106,97]⟩]:=Blk.at1 _ (by simp)
      have gL8 : g < w30.heap.size + 1:=by have:=hC.s.lt; simp at this ⊢; omega
      replace hC:=hC.alloc (.cells #[.string ⟨x.who.toArray⟩,.string ⟨#[]⟩,.string ⟨#[106,97]⟩] 9)
      replace hL16:=hL16.alloc (.cells #[.string ⟨x.who.toArray⟩,.string ⟨#[]⟩,.string ⟨#[106,97]⟩] 9)
      refine hK.out _ _ (trivial) (hC.jc2 HUL.out hk0 hxk) (fun hT hS => ?_)
      clear hK K
      (try simp only [Act.put,Q3,Q4,Q5])
      refine wpAnyK_ready (rs:=[9]) (by kernel_rfl) (by simp) ?_
      refine AllReadyK.cons rfl (fun K hK => ?_) AllReadyK.nil
      go_simp
      go_at_call 11
      refine (some_litN g _ _ #[.string ⟨x.who.toArray⟩,.string ⟨#[]⟩,.string ⟨#[106,97]⟩] [x.who,[],[106,97]] _ hC.s (by omega) hL8 rfl gL8 (by simp) (by simp)).mono ?_
      rintro e w31 ⟨x9,rfl,hx9,hs,hg⟩
      replace hC:=hC.str hs hg
      replace hL16:=hL16.gr9 hg (by omega)
      clear hs hg hL8 gL8
      go_wp2_with fail
      refine hK.out _ _ (trivial) (hC.jc2 HUL.out hk0 hxk) (fun hT hS => ?_)
      clear hK K
      (try simp only [Act.put,Q3,Q4,Q5])
      refine wpAnyK_ready (rs:=[17]) (by kernel_rfl) (by simp) ?_
      refine AllReadyK.cons rfl (fun K hK => ?_) AllReadyK.nil
      go_simp
      go_at_call 12
      refine (pick_any g _ _ _ _ [x.to_,345686400001] _ hC.s (by omega) (Row.lit hL16 (Nat.le_refl _) rfl) gL16 (by simp) (by simp)).mono ?_
      rintro e w32 ⟨x17,rfl,-,hs,hg⟩
      replace hC:=hC.str hs hg
      clear hs hg hL16 gL16
      go_wp2_with fail
      refine hK.out _ _ (trivial) (hC.jc2 HUL.out hk0 hxk) (fun hT hS => ?_)
      clear hK K
      (try simp only [Act.put,Q3,Q4,Q5])
      refine wpAnyK_ready (rs:=[19]) (by kernel_rfl) (by simp) ?_
      refine AllReadyK.cons rfl (fun K hK => ?_) AllReadyK.nil
      go_simp
      go_at_call 38
      refine (odd_any g _ 1 1000 _ hC.s (by omega) (by omega) (by omega) (by omega)).mono ?_
      rintro e w33 ⟨x19,rfl,-,-,hs,hg⟩
      replace hC:=hC.str hs hg
      clear hs hg
      go_wp2_with fail
      refine hK.out _ _ (trivial) (hC.jc2 HUL.out hk0 hxk) (fun hT hS => ?_)
      clear hK K
      (try simp only [Act.put,Q3,Q4,Q5])
      (refine wpAnyK_take2 (i:=20) (v:=?_) (by (simp only [Q0,Q1,Q2]; rfl)) (by kernel_rfl) (by kernel_rfl) (by kernel_rfl) (by decide) (by exact fun _ _ _ h => h) (Or.inl ⟨by rfl,?_⟩) (by assumption) (by assumption) ?_; (rotate_left 1; (intro w hSw; (try dsimp only at hSw); go_simp); (try with_reducible rfl)); (try simp only [Act.put,Q3,Q4,Q5]))
      (refine wpAnyK_take2 (i:=21) (v:=?_) (by (simp only [Q0,Q1,Q2]; rfl)) (by kernel_rfl) (by kernel_rfl) (by kernel_rfl) (by decide) (by exact fun _ _ _ h => h) (Or.inl ⟨by rfl,?_⟩) (by assumption) (by assumption) ?_; (rotate_left 1; (intro w hSw; (try dsimp only at hSw); go_simp); (try with_reducible rfl)); (try simp only [Act.put,Q3,Q4,Q5]))
      refine wpAnyK_ready (rs:=[22]) (by kernel_rfl) (by simp) ?_
      refine AllReadyK.consT (by kernel_rfl) rfl (fun K hK => ?_) AllReadyK.nil
      obtain ⟨zb3,zb4⟩:=hC.freeB hpos
      have fz0:=zb4 (k * 4)
      have fz2:=zb4 (k * 4 + 1 + 1)
      have fz3:=zb4 (k * 4 + 1 + 1 + 1)
      have cz0:=zb3 (k * 4) _ (flat_getJ hk0 hxk 0 (by decide) rfl)
      have cz2:=zb3 (k * 4 + 1 + 1) _ (flat_getJ hk0 hxk 2 (by decide) rfl)
      have cz3:=zb3 (k * 4 + 1 + 1 + 1) _ (flat_getJ hk0 hxk 3 (by decide) rfl)
      clear zb3 zb4
      have hC0:=hC.setJ hbb hk0 (i:=0) (by decide) (.string ⟨x9.toArray⟩) (x':={ x with who:=x9 }) hxk rfl
      have hk1 : k < ((us.set k { x with who:=x9 })).length:=by simpa using hk0
      have hx1:=set_atJ hk0 { x with who:=x9 }
      replace hC:=hC0
      clear hC0
      go_simp
      refine hK.out _ _ (trivial) (fun hT => ?_)
      clear hK K
      (try simp only [Act.put,Q3,Q4,Q5])
      (refine wpAnyK_take3 (i:=23) (v:=?_) (by (simp only [Q0,Q1,Q2]; rfl)) (by kernel_rfl) (by kernel_rfl) (by kernel_rfl) (by decide) (by kernel_rfl) (by exact fun _ _ _ h => h) (Or.inl ⟨by rfl,?_⟩) (by assumption) ?_; (rotate_left 1; (intro w hSw; (try dsimp only at hSw); go_simp); (try with_reducible rfl)); (try simp only [Act.put,Q3,Q4,Q5]))
      (refine wpAnyK_take3 (i:=24) (v:=?_) (by (simp only [Q0,Q1,Q2]; rfl)) (by kernel_rfl) (by kernel_rfl) (by kernel_rfl) (by decide) (by kernel_rfl) (by exact fun _ _ _ h => h) (Or.inl ⟨by rfl,?_⟩) (by assumption) ?_; (rotate_left 1; (intro w hSw; (try dsimp only at hSw); go_simp); (try with_reducible rfl)); (try simp only [Act.put,Q3,Q4,Q5]))
      (refine wpAnyK_take3 (i:=25) (v:=?_) (by (simp only [Q0,Q1,Q2]; rfl)) (by kernel_rfl) (by kernel_rfl) (by kernel_rfl) (by decide) (by kernel_rfl) (by exact fun _ _ _ h => h) (Or.inl ⟨by rfl,?_⟩) (by assumption) ?_; (rotate_left 1; (intro w hSw; (try dsimp only at hSw); go_simp); (try with_reducible rfl)); (try simp only [Act.put,Q3,Q4,Q5]))
      refine wpAnyK_ready (rs:=[26]) (by kernel_rfl) (by simp) ?_
      refine AllReadyK.consT (by kernel_rfl) rfl (fun K hK => ?_) AllReadyK.nil
      have hC2:=hC.setJ hbb hk1 (i:=2) (by decide) (.int .i64 x17) (x':={ x with who:=x9,to_:=x17 }) hx1 rfl
      have hk2 : k < (((us.set k { x with who:=x9 }).set k { x with who:=x9,to_:=x17 })).length:=by simpa using hk1
      have hx2:=set_atJ hk1 { x with who:=x9,to_:=x17 }
      replace hC:=hC2
      clear hC2
      go_simp
      refine hK.out _ _ (trivial) (fun hT => ?_)
      clear hK K
      (try simp only [Act.put,Q3,Q4,Q5])
      (refine wpAnyK_take3 (i:=27) (v:=?_) (by (simp only [Q0,Q1,Q2]; rfl)) (by kernel_rfl) (by kernel_rfl) (by kernel_rfl) (by decide) (by kernel_rfl) (by exact fun _ _ _ h => h) (Or.inl ⟨by rfl,?_⟩) (by assumption) ?_; (rotate_left 1; (intro w hSw; (try dsimp only at hSw); go_simp); (try with_reducible rfl)); (try simp only [Act.put,Q3,Q4,Q5]))
      (refine wpAnyK_take3 (i:=28) (v:=?_) (by (simp only [Q0,Q1,Q2]; rfl)) (by kernel_rfl) (by kernel_rfl) (by kernel_rfl) (by decide) (by kernel_rfl) (by exact fun _ _ _ h => h) (Or.inl ⟨by rfl,?_⟩) (by assumption) ?_; (rotate_left 1; (intro w hSw; (try dsimp only at hSw); go_simp); (try with_reducible rfl)); (try simp only [Act.put,Q3,Q4,Q5]))
      refine wpAnyK_ready (rs:=[29]) (by kernel_rfl) (by simp) ?_
      refine AllReadyK.consT (by kernel_rfl) rfl (fun K hK => ?_) AllReadyK.nil
      have hC3:=hC.setJ hbb hk2 (i:=3) (by decide) (.int .i64 x19) (x':=(⟨x9,x.frm,x17,x19⟩ : JudgeE)) hx2 rfl
      have hk3 : k < ((((us.set k { x with who:=x9 }).set k { x with who:=x9,to_:=x17 }).set k (⟨x9,x.frm,x17,x19⟩ : JudgeE))).length:=by simpa using hk2
      have hx3:=set_atJ hk2 (⟨x9,x.frm,x17,x19⟩ : JudgeE)
      replace hC:=hC3
      clear hC3
      go_simp
      refine hK.out _ _ (trivial) (fun hT => ?_)
      clear hK K
      (try simp only [Act.put,Q3,Q4,Q5])
      refine wpAnyK_done (by kernel_rfl) ?_ _
      have HF:=Lib.hid (own_weak hC.own (show w.heap.size ≤ w.heap.size + 1 by omega))
      have hul:=HUL.out
      have HW9 : Hid (x9 ∈ judL):=Lib.hid (by simp only [List.mem_cons,List.not_mem_nil,or_false] at hx9; rcases hx9 with h | h | h <;> rw [h] <;> first | exact hVx.out | decide)
      have HVF : Hid (∀ v ∈ (((us.set k { x with who:=x9 }).set k { x with who:=x9,to_:=x17 }).set k (⟨x9,x.frm,x17,x19⟩ : JudgeE)),v.who ∈ judL):=Lib.hid (jud_set (jud_set (jud_set HVU.out HW9.out) HW9.out) HW9.out)
      have HLL : Hid (((((us.set k { x with who:=x9 }).set k { x with who:=x9,to_:=x17 }).set k (⟨x9,x.frm,x17,x19⟩ : JudgeE))).length = vs.length):=Lib.hid (by simpa using hul)
      clear hxk hx1 hx2 hx3 hk0 hk1 hk2 hk3
      go_wp2_with fail
      go_ret
      exact ⟨some ⟨b,0,none⟩,c,(((us.set k { x with who:=x9 }).set k { x with who:=x9,to_:=x17 }).set k (⟨x9,x.frm,x17,x19⟩ : JudgeE)),by rw [HLL.out] <;> rfl,by rw [HLL.out]; exact HF.out,by rw [HLL.out]; exact hvl2,HVF.out,hC.s.more (by omega),hC.gr⟩
end Go.Proofs.YtgeaeockmadhcaaGreatDoor
