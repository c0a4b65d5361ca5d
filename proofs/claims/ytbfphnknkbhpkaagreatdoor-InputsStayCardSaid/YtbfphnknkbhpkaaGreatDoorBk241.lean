/- Texts of this seat, laid together: RtK. -/
import Derived.Test.YtbfphnknkbhpkaaGreatDoorBk240
import Derived.Test.YtbfphnknkbhpkaaGreatDoorBk202
/- The walk of measure at the one graph. -/
namespace Go.Proofs.YtbfphnknkbhpkaaGreatDoor
set_option linter.unusedVariables false
set_option linter.unusedSimpArgs false
open Go.RowKit

theorem make_back (w : World) : (Instr.makeSlice 242 (.int .i64 2) (.int .i64 2)).run Tryz.prog w = .ok (.slice (some ⟨w.heap.size,0,none⟩) 2 2) (w.alloc (.cells #[.slice none 0 0,.slice none 0 0] 247)):=by kernel_rfl
theorem ty_stepsK : SliceTy Tryz.prog 247 249 2 16:=.mk' Tryz.underlying247 (z:=.agg #[.int .i64 0,.int .i64 0]) (by kernel_rfl) rfl (by decide)
theorem own_new {w : World} {lo size n : Nat} {e : TypeId} {cs : Array Value} {b : Nat} (hb : w.heap.size = b) (hl : lo ≤ w.heap.size) (hn : cs.size = n * size) (hm : n ≤ 9223372036854775807) : (w.alloc (.cells cs e)).ownsRow lo e size (.slice (some ⟨b,0,none⟩) n n) n cs.toList:=by
 subst hb
 exact own_of_wholeN (by simpa using heap_alloc_new w (.cells cs e)) (by simpa using hn) hl hm
theorem grown_low {w W W' : World} {g : Nat} (h : w.grownBy W (some g)) (hb : Below w.heap.size W W') : w.grownBy W' (some g):=⟨hb.os.trans h.os,hb.tape.trans h.tape,hb.output.trans h.output,Nat.le_trans h.size hb.size,fun i hi hne => (hb.block i hi).trans (h.block i hi hne)⟩
structure MB (w W : World) (cg : Array Value) (g kb sb sc fb fc : Nat) (fs : List (Int × Int)) : Prop where
  G : w.grownBy W (some g)
  g : Blk W g 246 cg
  bk : W.ownsRow w.heap.size 247 1 (.slice (some ⟨kb, 0, none⟩) 2 2) 2 [.slice none 0 0, .slice (some ⟨sb, 0, none⟩) 1 sc]
  bs : W.ownsRow w.heap.size 249 2 (.slice (some ⟨sb, 0, none⟩) 1 sc) 1 [.int .i64 0, .int .i64 0]
  F : W.ownsRow w.heap.size 240 2 (.slice (some ⟨fb, 0, none⟩) 2 fc) 2 (prs fs)
section
variable {w W W' : World} {cg : Array Value} {g kb sb sc fb fc : Nat} {fs : List (Int × Int)}
theorem MB.below (h : MB w W cg g kb sb sc fb fc fs) (hb : Below W.heap.size W W') : MB w W' cg g kb sb sc fb fc fs:=⟨grown_trans' h.G (grown_of_below hb _),h.g.below hb,own_keep h.bk hb,own_keep h.bs hb,own_keep h.F hb⟩
theorem MB.alloc (h : MB w W cg g kb sb sc fb fc fs) (o : Obj) : MB w (W.alloc o) cg g kb sb sc fb fc fs:=h.below ((Below.refl _ _).alloc (Nat.le_refl _) o)
theorem MB.drew (h : MB w W cg g kb sb sc fb fc fs) : MB w W.drew cg g kb sb sc fb fc fs:=⟨grown_drew h.G,h.g,h.bk,h.bs,h.F⟩
theorem MB.drewN (h : MB w W cg g kb sb sc fb fc fs) (n : Nat) : MB w (W.drewN n) cg g kb sb sc fb fc fs:=⟨grown_drewN h.G n,h.g,h.bk,h.bs,h.F⟩
theorem MB.qf (h : MB w W cg g kb sb sc fb fc fs) (hq : QF w.heap.size W W') : MB w W' cg g kb sb sc fb fc fs:=⟨grown_low h.G hq.bel,h.g.qf hq (by decide) (by decide),own_qf h.bk hq (by decide) (by decide),own_qf h.bs hq (by decide) (by decide),own_qf h.F hq (by decide) (by decide)⟩
theorem MB.put (h : MB w W cg g kb sb sc fb fc fs) (i : Nat) (hi : i < fs.length) (hn : fs.length = 2) (x y : Int) : MB w ((W.setCell ⟨fb,i * 2,none⟩ (.int .i64 x)).setCell ⟨fb,i * 2 + 1,none⟩ (.int .i64 y)) cg g kb sb sc fb fc (fs.set i (x,y)):=by
 have k:=own_kind h.F
 have h1 : ((W.setCell ⟨fb,i * 2,none⟩ (.int .i64 x)).setCell ⟨fb,i * 2 + 1,none⟩ (.int .i64 y)).ownsRow w.heap.size 240 2 (.slice (some ⟨fb,0,none⟩) 2 fc) 2 (prs (fs.set i (x,y))):=by
  match fs,hn,hi,h.F with
  | [a,b],_,hi,hF => exact own_prs_set2 (ps:=[a,b]) hF i hi x y
 have k1:=own_kind (h.F.stored (i * 2) (.int .i64 x)).1
 have a1:=grown_poke W fb (i * 2) (.int .i64 x)
 have a2:=grown_poke (W.setCell ⟨fb,i * 2,none⟩ (.int .i64 x)) fb (i * 2 + 1) (.int .i64 y)
 have zf:=(h.F.lt fb rfl).1
 exact ⟨grown_set_new (grown_set_new h.G (p:=⟨fb,i * 2,none⟩) zf _) (p:=⟨fb,i * 2 + 1,none⟩) zf _,(h.g.other a1 k (by decide)).other a2 k1 (by decide),own_other (own_other h.bk a1 k (by decide)) a2 k1 (by decide),own_other (own_other h.bs a1 k (by decide)) a2 k1 (by decide),h1⟩
theorem MB.size (h : MB w W cg g kb sb sc fb fc fs) : w.heap.size ≤ W.heap.size:=h.G.size
theorem MB.low (h : MB w W cg g kb sb sc fb fc fs) : w.heap.size ≤ fb ∧ fb < W.heap.size ∧ sb < W.heap.size ∧ kb < W.heap.size ∧ g < W.heap.size:=⟨(h.F.lt fb rfl).1,(h.F.lt fb rfl).2,(h.bs.lt sb rfl).2,(h.bk.lt kb rfl).2,h.g.lt⟩
end
theorem grown_none' {w w' : World} (h : w.grownBy w' none) : Below w.heap.size w w':=⟨h.os,h.tape,h.output,h.size,fun k hk => h.block k hk (by simp)⟩
set_option maxHeartbeats 4000000 in
set_option maxRecDepth 100000 in
theorem measure_fx {L lo : Nat} {M p go g1 c1 g2 c2 g3 c3 : Nat} {x1 x2 x3 : Array Value} {g n1 n2 n3 d1 d2 d3 yb yc : Nat} (w : World) (hw : WB L w M p go g1 c1 g2 c2 g3 c3 x1 x2 x3)
  (hg : Blk w g 246 #[.pointer (some ⟨p,0,none⟩),.slice (some ⟨n1,0,none⟩) 2 d1,.slice (some ⟨n2,0,none⟩) 2 d2,.slice (some ⟨n3,0,none⟩) 2 d3,.slice none 0 0])
  (hE : w.ownsRow lo 247 1 (.slice (some ⟨n2,0,none⟩) 2 d2) 2 [.slice (some ⟨yb,0,none⟩) 1 yc,.slice none 0 0])
  (hB : w.ownsRow lo 4 1 (.slice (some ⟨n3,0,none⟩) 2 d3) 2 [.bool false,.bool true])
  (hY : w.ownsRow lo 249 2 (.slice (some ⟨yb,0,none⟩) 1 yc) 1 [.int .i64 0,.int .i64 1]) :
  Calls Tryz.prog 165 #[.pointer (some ⟨g,0,none⟩)] w fun e w' => e = .returned (.tuple #[]) ∧ ∃ fb fc,Blk w' g 246 #[.pointer (some ⟨p,0,none⟩),.slice (some ⟨n1,0,none⟩) 2 d1,.slice (some ⟨n2,0,none⟩) 2 d2,.slice (some ⟨n3,0,none⟩) 2 d3,.slice (some ⟨fb,0,none⟩) 2 fc] ∧ w'.ownsRow w.heap.size 240 2 (.slice (some ⟨fb,0,none⟩) 2 fc) 2 (prs [(7,1),(0,0)]) ∧ w.grownBy w' (some g):=by
 have hmk:=make_back
 have zg:=hg.lt
 have kg:=hg.kind
 have hg0:=hg
 obtain ⟨k0,k1,k2,k3,k4⟩:=hg.w5
 have e0:=own_at hE 0 (u:=.slice (some ⟨yb,0,none⟩) 1 yc) rfl
 have y0:=own_at hY 0 (u:=.int .i64 0) rfl
 have y1:=own_at hY 1 (u:=.int .i64 1) rfl
 have zE:=(hE.lt n2 rfl).2
 have zY:=(hY.lt yb rfl).2
 go_enter Tryz.func165,Tryz.ntmps165
 go_wp2_with fail
 refine wp_loop_rounds 3 ?_
 rw [rounds_succ]
 go_wp2_with fail
 refine wp_loop_rounds 2 ?_
 rw [rounds_succ]
 go_upto_region 7 with (fail)
 have hbk : ((w.alloc (.cells #[.slice none 0 0,.slice none 0 0] 247)).alloc (.cells #[.int .i64 0,.int .i64 1] 249)).ownsRow w.heap.size 247 1 (.slice (some ⟨w.heap.size,0,none⟩) 2 2) 2 [.slice none 0 0,.slice none 0 0]:=(own_new rfl (Nat.le_refl _) rfl (by decide)).alloc _
 have hst : Blk ((w.alloc (.cells #[.slice none 0 0,.slice none 0 0] 247)).alloc (.cells #[.int .i64 0,.int .i64 1] 249)) (w.heap.size + 1) 249 #[.int .i64 0,.int .i64 1]:=Blk.at_ _ (by simp)
 have hG : w.grownBy ((w.alloc (.cells #[.slice none 0 0,.slice none 0 0] 247)).alloc (.cells #[.int .i64 0,.int .i64 1] 249)) (some g):=grown_alloc (grown_alloc (World.grownBy.refl w _) _) _
 have hg:=(hg.alloc (.cells #[.slice none 0 0,.slice none 0 0] 247)).alloc (.cells #[.int .i64 0,.int .i64 1] 249)
 have hl : w.heap.size ≤ ((w.alloc (.cells #[.slice none 0 0,.slice none 0 0] 247)).alloc (.cells #[.int .i64 0,.int .i64 1] 249)).heap.size:=by simp; omega
 generalize (w.alloc (.cells #[.slice none 0 0,.slice none 0 0] 247)).alloc (.cells #[.int .i64 0,.int .i64 1] 249) = W1 at *
 generalize w.heap.size + 1 = sv at *
 clear hmk k0 k1 k2 k3 k4 e0 y0 y1
 have hbk:=hbk.drew
 have hst:=hst.drew
 have hG:=grown_drew hG
 have hg:=hg.drew
 have hl : w.heap.size ≤ W1.drew.heap.size:=hl
 refine wp_region_heldK 15 (fun w' => w'.cell? ⟨w.heap.size,1,none⟩ = some (.slice none 0 0)) (fun w' => w'.cell? ⟨sv,0,none⟩ = some (.int .i64 0) ∧ w'.cell? ⟨sv,1,none⟩ = some (.int .i64 1)) (by kernel_rfl) (hst.w2) (own_at hbk 1 rfl) (fun hT hS => ?_)
 (refine wpAnyK_take2 (i:=0) (v:=?_) (by (simp only [Q0,Q2]; rfl)) (by kernel_rfl) (by kernel_rfl) (by kernel_rfl) (by decide) (by exact fun _ _ _ h => h) (Or.inl ⟨by rfl,?_⟩) (by assumption) (by assumption) ?_; (rotate_left 1; (intro w hSw; (try dsimp only at hSw); go_simp); (try with_reducible rfl)); (try simp only [Act.put,Q3,Q4,Q5]))
 (refine wpAnyK_take2 (i:=1) (v:=?_) (by (simp only [Q0,Q1,Q2]; rfl)) (by kernel_rfl) (by kernel_rfl) (by kernel_rfl) (by decide) (by exact fun _ _ _ h => h) (Or.inl ⟨by rfl,?_⟩) (by assumption) (by assumption) ?_; (rotate_left 1; (intro w hSw; (try dsimp only at hSw); go_simp); (try with_reducible rfl)); (try simp only [Act.put,Q3,Q4,Q5]))
 (refine wpAnyK_take2 (i:=2) (v:=?_) (by (simp only [Q0,Q1,Q2]; rfl)) (by kernel_rfl) (by kernel_rfl) (by kernel_rfl) (by decide) (by exact fun _ _ _ h => h) (Or.inl ⟨by rfl,?_⟩) (by assumption) (by assumption) ?_; (rotate_left 1; (intro w hSw; (try dsimp only at hSw); go_simp); (try with_reducible rfl)); (try simp only [Act.put,Q3,Q4,Q5]))
 (refine wpAnyK_take2 (i:=3) (v:=?_) (by (simp only [Q0,Q1,Q2]; rfl)) (by kernel_rfl) (by kernel_rfl) (by kernel_rfl) (by decide) (by exact fun _ _ _ h => h) (Or.inl ⟨by rfl,?_⟩) (by assumption) (by assumption) ?_; (rotate_left 1; (intro w hSw; (try dsimp only at hSw); go_simp); (try with_reducible rfl)); (try simp only [Act.put,Q3,Q4,Q5]))
 (refine wpAnyK_take2 (i:=4) (v:=?_) (by (simp only [Q0,Q1,Q2]; rfl)) (by kernel_rfl) (by kernel_rfl) (by kernel_rfl) (by decide) (by exact fun _ _ _ h => h) (Or.inl ⟨by rfl,?_⟩) (by assumption) (by assumption) ?_; (rotate_left 1; (intro w hSw; (try dsimp only at hSw); go_simp); (try with_reducible rfl)); (try simp only [Act.put,Q3,Q4,Q5]))
 (refine wpAnyK_take2 (i:=5) (v:=?_) (by (simp only [Q0,Q1,Q2]; rfl)) (by kernel_rfl) (by kernel_rfl) (by kernel_rfl) (by decide) (by exact fun _ _ _ h => h) (Or.inl ⟨by rfl,?_⟩) (by assumption) (by assumption) ?_; (rotate_left 1; (intro w hSw; (try dsimp only at hSw); go_simp); (try with_reducible rfl)); (try simp only [Act.put,Q3,Q4,Q5]))
 (refine wpAnyK_take2 (i:=6) (v:=?_) (by (simp only [Q0,Q1,Q2]; rfl)) (by kernel_rfl) (by kernel_rfl) (by kernel_rfl) (by decide) (by exact fun _ _ _ h => h) (Or.inl ⟨by rfl,?_⟩) (by assumption) (by assumption) ?_; (rotate_left 1; (intro w hSw; (try dsimp only at hSw); go_simp); (try with_reducible rfl)); (try simp only [Act.put,Q3,Q4,Q5]))
 (refine wpAnyK_take1 (i:=7) (v:=?_) (by (simp only [Q0,Q1,Q2]; rfl)) (by kernel_rfl) (by kernel_rfl) (by kernel_rfl) (by decide) (by kernel_rfl) (by kernel_rfl) (by exact fun _ _ _ h => h) (Or.inl ⟨by rfl,?_⟩) (by assumption) (by assumption) ?_; (rotate_left 1; (intro w hSw; (try dsimp only at hSw); go_simp); (try with_reducible rfl)); (try simp only [Act.put,Q3,Q4,Q5]))
 (refine wpAnyK_take2 (i:=8) (v:=?_) (by (simp only [Q0,Q1,Q2]; rfl)) (by kernel_rfl) (by kernel_rfl) (by kernel_rfl) (by decide) (by exact fun _ _ _ h => h) (Or.inl ⟨by rfl,?_⟩) (by assumption) (by assumption) ?_; (rotate_left 1; (intro w hSw; (try dsimp only at hSw); go_simp); (try with_reducible rfl)); (try simp only [Act.put,Q3,Q4,Q5]))
 (refine wpAnyK_take2 (i:=9) (v:=?_) (by (simp only [Q0,Q1,Q2]; rfl)) (by kernel_rfl) (by kernel_rfl) (by kernel_rfl) (by decide) (by exact fun _ _ _ h => h) (Or.inl ⟨by rfl,?_⟩) (by assumption) (by assumption) ?_; (rotate_left 1; (intro w hSw; (try dsimp only at hSw); go_simp); (try with_reducible rfl)); (try simp only [Act.put,Q3,Q4,Q5]))
 (refine wpAnyK_take2 (i:=10) (v:=?_) (by (simp only [Q0,Q1,Q2]; rfl)) (by kernel_rfl) (by kernel_rfl) (by kernel_rfl) (by decide) (by exact fun _ _ _ h => h) (Or.inl ⟨by rfl,?_⟩) (by assumption) (by assumption) ?_; (rotate_left 1; (intro w hSw; (try dsimp only at hSw); go_simp); (try with_reducible rfl)); (try simp only [Act.put,Q3,Q4,Q5]))
 (refine wpAnyK_take2 (i:=11) (v:=?_) (by (simp only [Q0,Q1,Q2]; rfl)) (by kernel_rfl) (by kernel_rfl) (by kernel_rfl) (by decide) (by exact fun _ _ _ h => h) (Or.inl ⟨by rfl,?_⟩) (by assumption) (by assumption) ?_; (rotate_left 1; (intro w hSw; (try dsimp only at hSw); go_simp); (try with_reducible rfl)); (try simp only [Act.put,Q3,Q4,Q5]))
 refine wpAnyK_ready (rs:=[12]) (by kernel_rfl) (by simp) ?_
 refine AllReadyK.cons rfl (fun K hK => ?_) AllReadyK.nil
 go_simp
 have hby : Blk (W1.drew.alloc (.cells #[.int .i64 0,.int .i64 0] 249)) W1.heap.size 249 #[.int .i64 0,.int .i64 0]:=Blk.at_ _ (by simp)
 have hst:=hst.alloc (.cells #[.int .i64 0,.int .i64 0] 249)
 have hbk:=hbk.alloc (.cells #[.int .i64 0,.int .i64 0] 249)
 have hG:=grown_alloc hG (.cells #[.int .i64 0,.int .i64 0] 249)
 have hg:=hg.alloc (.cells #[.int .i64 0,.int .i64 0] 249)
 have hl : w.heap.size ≤ (W1.drew.alloc (.cells #[.int .i64 0,.int .i64 0] 249)).heap.size:=by simp at hl ⊢; omega
 refine hK.out _ _ (hst.w2) (own_at hbk 1 rfl) (fun hT hS => ?_)
 clear hK K
 (try simp only [Act.put,Q3,Q4,Q5])
 refine wpAnyK_ready (rs:=[13]) (by kernel_rfl) (by simp) ?_
 refine AllReadyK.cons rfl (fun K hK => ?_) AllReadyK.nil
 refine step_app (lo:=0) (base:=w.heap.size) (n:=0) (xs:=[]) _ rfl _ _ ty_stepsK rfl (World.ownsRow_nil _ _ _ _) rfl (Row.lit (n:=1) (size:=2) hby (Nat.zero_le _) rfl) rfl rfl (by decide) (by decide) hl ?_
 intro A5 c5 w5 hbs g5 _
 have g5:=grown_none' g5
 have hst:=hst.below g5
 have hbk:=own_keep hbk g5
 have hG:=grown_trans' hG (grown_of_below g5 _)
 have hg:=hg.below g5
 have hl : w.heap.size ≤ w5.heap.size:=Nat.le_trans hl g5.size
 refine hK.out _ _ (hst.w2) (own_at hbk 1 rfl) (fun hT hS => ?_)
 clear hK K
 (try simp only [Act.put,Q3,Q4,Q5])
 (refine wpAnyK_take2 (i:=14) (v:=?_) (by (simp only [Q0,Q1,Q2]; rfl)) (by kernel_rfl) (by kernel_rfl) (by kernel_rfl) (by decide) (by exact fun _ _ _ h => h) (Or.inl ⟨by rfl,?_⟩) (by assumption) (by assumption) ?_; (rotate_left 1; (intro w hSw; (try dsimp only at hSw); go_simp); (try with_reducible rfl)); (try simp only [Act.put,Q3,Q4,Q5]))
 refine wpAnyK_ready (rs:=[15]) (by kernel_rfl) (by simp) ?_
 refine AllReadyK.consT (by kernel_rfl) rfl (fun K hK => ?_) AllReadyK.nil
 have fK:=hbk.frozenAt 1
 have cK:=own_at hbk 1 (u:=.slice none 0 0) rfl
 have zK:=hbk.lt w.heap.size rfl
 go_simp
 clear fK cK
 have kK:=own_kind hbk
 have hst:=hst.other (grown_poke w5 w.heap.size 1 (.slice A5 1 c5)) kK (by decide)
 have hG:=grown_set_new hG (p:=⟨w.heap.size,1,none⟩) (Nat.le_refl _) (.slice A5 1 c5)
 have hg:=hg.other (grown_poke w5 w.heap.size 1 (.slice A5 1 c5)) kK (by decide)
 have hbs:=own_other hbs (grown_poke w5 w.heap.size 1 (.slice A5 1 c5)) kK (by decide)
 have hbk:=(hbk.stored 1 (.slice A5 1 c5)).1
 refine hK.out _ _ (hst.w2) (fun hT => ?_)
 clear hK K
 (try simp only [Act.put,Q3,Q4,Q5])
 refine wpAnyK_done (by kernel_rfl) ?_ _
 generalize w5.setCell ⟨w.heap.size,1,none⟩ (.slice A5 1 c5) = W2 at *
 have e1:=own_at (own_other hE hG kg (by decide)) 1 (u:=.slice none 0 0) rfl
 obtain ⟨k0,k1,k2,k3,k4⟩:=hg.w5
 have zE:=((own_other hE hG kg (by decide)).lt n2 rfl).2
 go_wp2_with fail
 have zg:=hg.lt
 rw [rounds_succ]
 go_wp2_with fail
 rw [rounds_succ]
 go_wp2_with fail
 refine wp_loop_rounds 1 ?_
 rw [rounds_succ]
 go_wp2_with fail
 rw [rounds_succ]
 go_wp2_with fail
 refine (repeatF_any _ _ 0 (-1,0) 2 _ (row_new _ _ _ _ _ _ (Nat.zero_le _) rfl) (by decide) (by decide)).mono ?_
 rintro e w3 ⟨fA,fc,rfl,hF,hb3⟩
 obtain ⟨sb,hsb,_⟩:=ownBlk hbs (by decide)
 obtain ⟨fb,hfb,zf1,_⟩:=ownBlk hF (by decide)
 subst hsb hfb
 have hF:=own_weak hF (show w.heap.size ≤ _ by have:=hG.size; simp; omega)
 have hb3 : Below W2.heap.size W2 w3:=((Below.refl _ _).alloc (Nat.le_refl _) _).trans (hb3.mono (by simp))
 have hG:=grown_trans' hG (grown_of_below hb3 _)
 have hg:=hg.below hb3
 have hbk:=own_keep hbk hb3
 have hbs:=own_keep hbs hb3
 clear k0 k1 k2 k3 k4 e1 hb3 hst zE
 obtain ⟨k0,k1,k2,k3,k4⟩:=hg.w5
 have fg:=hg.thaw 4
 have zg:=hg.lt
 have mb : MB w (w3.setCell ⟨g,4,none⟩ (.slice (some ⟨fb,0,none⟩) 2 fc)) #[.pointer (some ⟨p,0,none⟩),.slice (some ⟨n1,0,none⟩) 2 d1,.slice (some ⟨n2,0,none⟩) 2 d2,.slice (some ⟨n3,0,none⟩) 2 d3,.slice (some ⟨fb,0,none⟩) 2 fc] g w.heap.size sb c5 fb fc [(-1,0),(-1,0)] :=
  ⟨grown_set hG 4 _,by simpa using hg.poke 4 (.slice (some ⟨fb,0,none⟩) 2 fc),own_other hbk (grown_poke w3 g 4 _) hg.kind (by decide),own_other hbs (grown_poke w3 g 4 _) hg.kind (by decide),own_other hF (grown_poke w3 g 4 _) hg.kind (by decide)⟩
 go_wp2_with fail
 clear fg k0 k1 k2 k3 k4
 have hsz : (w3.setCell ⟨g,4,none⟩ (.slice (some ⟨fb,0,none⟩) 2 fc)).heap.size = w3.heap.size:=by simp
 have hlq : w.heap.size ≤ w3.heap.size:=hG.size
 generalize w3.setCell ⟨g,4,none⟩ (.slice (some ⟨fb,0,none⟩) 2 fc) = W3 at *
 generalize w3.heap.size = q at *
 have mb:=mb.alloc (.cells #[.slice none 0 0] 306)
 have hq : Blk (W3.alloc (.cells #[.slice none 0 0] 306)) q 306 #[.slice none 0 0]:=Blk.at_ _ hsz
 have hBr:=own_other hB mb.G kg (by decide)
 have b0:=own_at hBr 0 (u:=.bool false) rfl
 have b1:=own_at hBr 1 (u:=.bool true) rfl
 have zB:=(hBr.lt n3 rfl).2
 generalize W3.alloc (.cells #[.slice none 0 0] 306) = W4 at *
 clear hg hG hbk hbs hF hsz
 refine wp_loop_rounds 3 ?_
 rw [rounds_succ]
 go_wp2_with fail
 rw [rounds_succ]
 go_wp2_with fail
 refine (hpush_fx (lo:=w.heap.size) 0 0 1 _ hq (World.ownsRow_nil _ _ _ _) mb.size hlq).mono ?_
 rintro e W5 ⟨rfl,ib,ic,hq,ho,hf,_⟩
 have mb:=mb.qf hf
 clear hf b0 b1 zB hBr
 go_wp2_with fail
 rw [rounds_succ]
 go_wp2_with fail
 refine wp_loop_rounds 3 ?_
 rw [rounds_succ]
 have q0:=hq.w1'
 have zq:=hq.lt
 have hta : ∀ w : World,(Instr.typeAssert (.iface 310 (.agg #[.int .i64 0,.int .i64 0,.int .i64 1])) 20 310 false).run Tryz.prog w = .ok (.agg #[.int .i64 0,.int .i64 0,.int .i64 1]) w:=fun _ => by kernel_rfl
 go_wp2_with fail
 refine (hpop_fx (lo:=w.heap.size) _ hlq hq ho).mono ?_
 rintro e W6 ⟨rfl,hq,ho,hf⟩
 have mb:=mb.qf hf
 have hxq : W6.heap.size ≠ q:=by have:=hq.lt; omega
 have hxi : (Value.slice (some ⟨ib,0,none⟩) 0 ic).ownBlock ≠ some W6.heap.size:=by have:=(ho.lt ib rfl).2; simp [Value.ownBlock]; omega
 clear hf q0 zq
 go_upto_region 20 with (fail)
 clear hta
 have mb:=mb.alloc (.cells #[.int .i64 0,.int .i64 0,.int .i64 1] 310)
 have hq:=hq.alloc (.cells #[.int .i64 0,.int .i64 0,.int .i64 1] 310)
 have ho:=ho.alloc (.cells #[.int .i64 0,.int .i64 0,.int .i64 1] 310)
 have hx : Blk (W6.alloc (.cells #[.int .i64 0,.int .i64 0,.int .i64 1] 310)) W6.heap.size 310 #[.int .i64 0,.int .i64 0,.int .i64 1]:=Blk.at_ _ rfl
 generalize W6.alloc (.cells #[.int .i64 0,.int .i64 0,.int .i64 1] 310) = W7 at *
 generalize W6.heap.size = x at *
 obtain ⟨k0,k1,k2,k3,k4⟩:=mb.g.w5
 obtain ⟨i0,i1,i2⟩:=hx.w3
 have f0:=own_at mb.F 2 (u:=.int .i64 (-1)) rfl
 obtain ⟨_,zf,zs,zk,zg⟩:=mb.low
 have zx:=hx.lt
 go_quiet (fail)
 have mb:=mb.drewN nq
 have hq : Blk (W7.drewN nq) _ _ _:=hq
 have ho:=own_drewN ho nq
 have hx : Blk (W7.drewN nq) _ _ _:=hx
 clear k0 k1 k2 k3 k4 i0 i1 i2 f0
 generalize W7.drewN nq = W7 at *
 go_wp2_with fail
 have mb:=mb.drew
 have hq:=hq.drew
 have ho:=ho.drew
 have hx:=hx.drew
 refine wp_region_held_drew (S:=(fun w' => w'.cell? ⟨g,4,none⟩ = some (.slice (some ⟨fb,0,none⟩) 2 fc) ∧ w'.cell? ⟨x,0,none⟩ = some (.int .i64 0) ∧ w'.cell? ⟨x,1,none⟩ = some (.int .i64 0) ∧ w'.cell? ⟨x,2,none⟩ = some (.int .i64 1))) (by kernel_rfl) (⟨mb.g.w5.2.2.2.2,hx.w3⟩) (fun hHeld => ?_)
 (refine wpAnyH_take (i:=0) (v:=?_) (by (simp only [Q0,Q2]; rfl)) (by kernel_rfl) (by kernel_rfl) (by kernel_rfl) (by exact fun _ _ _ h => h) (Or.inl ⟨by rfl,?_⟩) (by assumption) ?_; (rotate_left 1; (intro w hSw; (try dsimp only at hSw); go_simp); (try with_reducible rfl)); (try simp only [Act.put,Q3,Q4,Q5]))
 (refine wpAnyH_take (i:=1) (v:=?_) (by (simp only [Q0,Q1,Q2]; rfl)) (by kernel_rfl) (by kernel_rfl) (by kernel_rfl) (by exact fun _ _ _ h => h) (Or.inl ⟨by rfl,?_⟩) (by assumption) ?_; (rotate_left 1; (intro w hSw; (try dsimp only at hSw); go_simp); (try with_reducible rfl)); (try simp only [Act.put,Q3,Q4,Q5]))
 (refine wpAnyH_take (i:=2) (v:=?_) (by (simp only [Q0,Q1,Q2]; rfl)) (by kernel_rfl) (by kernel_rfl) (by kernel_rfl) (by exact fun _ _ _ h => h) (Or.inl ⟨by rfl,?_⟩) (by assumption) ?_; (rotate_left 1; (intro w hSw; (try dsimp only at hSw); go_simp); (try with_reducible rfl)); (try simp only [Act.put,Q3,Q4,Q5]))
 (refine wpAnyH_take (i:=3) (v:=?_) (by (simp only [Q0,Q1,Q2]; rfl)) (by kernel_rfl) (by kernel_rfl) (by kernel_rfl) (by exact fun _ _ _ h => h) (Or.inl ⟨by rfl,?_⟩) (by assumption) ?_; (rotate_left 1; (intro w hSw; (try dsimp only at hSw); go_simp); (try with_reducible rfl)); (try simp only [Act.put,Q3,Q4,Q5]))
 (refine wpAnyH_take (i:=4) (v:=?_) (by (simp only [Q0,Q1,Q2]; rfl)) (by kernel_rfl) (by kernel_rfl) (by kernel_rfl) (by exact fun _ _ _ h => h) (Or.inl ⟨by rfl,?_⟩) (by assumption) ?_; (rotate_left 1; (intro w hSw; (try dsimp only at hSw); go_simp); (try with_reducible rfl)); (try simp only [Act.put,Q3,Q4,Q5]))
 (refine wpAnyH_take (i:=5) (v:=?_) (by (simp only [Q0,Q1,Q2]; rfl)) (by kernel_rfl) (by kernel_rfl) (by kernel_rfl) (by exact fun _ _ _ h => h) (Or.inl ⟨by rfl,?_⟩) (by assumption) ?_; (rotate_left 1; (intro w hSw; (try dsimp only at hSw); go_simp); (try with_reducible rfl)); (try simp only [Act.put,Q3,Q4,Q5]))
 (refine wpAnyH_take (i:=6) (v:=?_) (by (simp only [Q0,Q1,Q2]; rfl)) (by kernel_rfl) (by kernel_rfl) (by kernel_rfl) (by exact fun _ _ _ h => h) (Or.inl ⟨by rfl,?_⟩) (by assumption) ?_; (rotate_left 1; (intro w hSw; (try dsimp only at hSw); go_simp); (try with_reducible rfl)); (try simp only [Act.put,Q3,Q4,Q5]))
 (refine wpAnyH_take (i:=7) (v:=?_) (by (simp only [Q0,Q1,Q2]; rfl)) (by kernel_rfl) (by kernel_rfl) (by kernel_rfl) (by exact fun _ _ _ h => h) (Or.inl ⟨by rfl,?_⟩) (by assumption) ?_; (rotate_left 1; (intro w hSw; (try dsimp only at hSw); go_simp); (try with_reducible rfl)); (try simp only [Act.put,Q3,Q4,Q5]))
 (refine wpAnyH_take (i:=8) (v:=?_) (by (simp only [Q0,Q1,Q2]; rfl)) (by kernel_rfl) (by kernel_rfl) (by kernel_rfl) (by exact fun _ _ _ h => h) (Or.inl ⟨by rfl,?_⟩) (by assumption) ?_; (rotate_left 1; (intro w hSw; (try dsimp only at hSw); go_simp); (try with_reducible rfl)); (try simp only [Act.put,Q3,Q4,Q5]))
 refine wpAnyH_ready (rs:=[9]) (by kernel_rfl) (by simp) ?_
 refine AllReadyH.cons rfl (fun K hK => ?_) AllReadyH.nil
 have fF : W7.frozen? ⟨fb,2,none⟩ = false:=mb.F.frozenAt _
 have fF1 : W7.frozen? ⟨fb,3,none⟩ = false:=mb.F.frozenAt _
 have cF : W7.cell? ⟨fb,2,none⟩ = some (.int .i64 (-1)):=own_at mb.F _ rfl
 have cF1 : W7.cell? ⟨fb,3,none⟩ = some (.int .i64 0):=own_at mb.F _ rfl
 have zF : fb < W7.heap.size:=(mb.F.lt fb rfl).2
 go_simp
 clear fF fF1 cF cF1
 have kF:=own_kind mb.F
 have kF1:=own_kind (mb.F.stored 2 (.int .i64 0)).1
 have a1:=grown_poke W7.drew fb 2 (.int .i64 0)
 have a2:=grown_poke (W7.drew.setCell ⟨fb,2,none⟩ (.int .i64 0)) fb 3 (.int .i64 0)
 have hq:=(hq.other a1 kF (by decide)).other a2 kF1 (by decide)
 have ho:=own_other (own_other ho a1 kF (by decide)) a2 kF1 (by decide)
 have hx:=(hx.other a1 kF (by decide)).other a2 kF1 (by decide)
 have mb:=mb.put 1 (by decide) rfl 0 0
 clear a1 a2 kF kF1
 have mb : MB w ((W7.setCell ⟨fb,2,none⟩ (.int .i64 0)).setCell ⟨fb,3,none⟩ (.int .i64 0)).drew _ _ _ _ _ _ _ _:=mb
 have hq : Blk ((W7.setCell ⟨fb,2,none⟩ (.int .i64 0)).setCell ⟨fb,3,none⟩ (.int .i64 0)).drew _ _ _:=hq
 have ho : World.ownsRow ((W7.setCell ⟨fb,2,none⟩ (.int .i64 0)).setCell ⟨fb,3,none⟩ (.int .i64 0)).drew _ _ _ _ _ _:=ho
 have hx : Blk ((W7.setCell ⟨fb,2,none⟩ (.int .i64 0)).setCell ⟨fb,3,none⟩ (.int .i64 0)).drew _ _ _:=hx
 refine hK.out _ _ (⟨mb.g.w5.2.2.2.2,hx.w3⟩) (fun hHeld => ?_)
 clear hK K
 (try simp only [Act.put,Q3,Q4,Q5])
 refine wpAnyH_done (by kernel_rfl) ?_ _
 generalize ((W7.setCell ⟨fb,2,none⟩ (.int .i64 0)).setCell ⟨fb,3,none⟩ (.int .i64 0)).drew = W9 at *
 obtain ⟨i0,i1,i2⟩:=hx.w3
 have kk:=own_at mb.bk 1 (u:=.slice (some ⟨sb,0,none⟩) 1 c5) rfl
 have s0:=own_at mb.bs 0 (u:=.int .i64 0) rfl
 have s1:=own_at mb.bs 1 (u:=.int .i64 0) rfl
 obtain ⟨_,zf,zs,zk,zg⟩:=mb.low
 have zx:=hx.lt
 go_wp2_with fail
 refine wp_loop_rounds 2 ?_
 rw [rounds_succ]
 go_upto_region 25 with (fail)
 clear i0 i1 i2 kk s0 s1
 have hs : Blk (W9.alloc (.cells #[.int .i64 0,.int .i64 0] 249)) W9.heap.size 249 #[.int .i64 0,.int .i64 0]:=Blk.at_ _ rfl
 have mb:=mb.alloc (.cells #[.int .i64 0,.int .i64 0] 249)
 have hq:=hq.alloc (.cells #[.int .i64 0,.int .i64 0] 249)
 have ho:=ho.alloc (.cells #[.int .i64 0,.int .i64 0] 249)
 have hx:=hx.alloc (.cells #[.int .i64 0,.int .i64 0] 249)
 generalize W9.alloc (.cells #[.int .i64 0,.int .i64 0] 249) = W7 at *
 generalize W9.heap.size = s at *
 obtain ⟨k0,k1,k2,k3,k4⟩:=mb.g.w5
 obtain ⟨t0,t1⟩:=hs.w2
 have f0:=own_at mb.F 0 (u:=.int .i64 (-1)) rfl
 obtain ⟨_,zf,zs,zk,zg⟩:=mb.low
 have zss:=hs.lt
 go_quiet (fail)
 have mb:=mb.drewN nq
 have hq : Blk (W7.drewN nq) _ _ _:=hq
 have ho:=own_drewN ho nq
 have hx : Blk (W7.drewN nq) _ _ _:=hx
 have hs : Blk (W7.drewN nq) _ _ _:=hs
 clear k0 k1 k2 k3 k4 t0 t1 f0
 generalize W7.drewN nq = W7 at *
 go_wp2_with fail
 have mb:=mb.drew
 have hq:=hq.drew
 have ho:=ho.drew
 have hx:=hx.drew
 have hs:=hs.drew
 refine wp_region_held_drew (S:=(fun w' => w'.cell? ⟨g,0,none⟩ = some (.pointer (some ⟨p,0,none⟩)) ∧ (w'.cell? ⟨x,0,none⟩ = some (.int .i64 0) ∧ w'.cell? ⟨x,1,none⟩ = some (.int .i64 0) ∧ w'.cell? ⟨x,2,none⟩ = some (.int .i64 1)) ∧ (w'.cell? ⟨s,0,none⟩ = some (.int .i64 0) ∧ w'.cell? ⟨s,1,none⟩ = some (.int .i64 0)) ∧ w'.cell? ⟨p,3,none⟩ = some (.slice (some ⟨g2,0,none⟩) 1 c2) ∧ w'.cell? ⟨g2,2,none⟩ = some (.int .i64 7))) (by kernel_rfl) (⟨mb.g.w5.1,hx.w3,hs.w2,(hw.other mb.G kg (by decide)).p.w7.2.2.2.1,(hw.other mb.G kg (by decide)).door.2.2.1⟩) (fun hHeld => ?_)
 (refine wpAnyH_take (i:=0) (v:=?_) (by (simp only [Q0,Q2]; rfl)) (by kernel_rfl) (by kernel_rfl) (by kernel_rfl) (by exact fun _ _ _ h => h) (Or.inl ⟨by rfl,?_⟩) (by assumption) ?_; (rotate_left 1; (intro w hSw; (try dsimp only at hSw); go_simp); (try with_reducible rfl)); (try simp only [Act.put,Q3,Q4,Q5]))
 (refine wpAnyH_take (i:=1) (v:=?_) (by (simp only [Q0,Q1,Q2]; rfl)) (by kernel_rfl) (by kernel_rfl) (by kernel_rfl) (by exact fun _ _ _ h => h) (Or.inl ⟨by rfl,?_⟩) (by assumption) ?_; (rotate_left 1; (intro w hSw; (try dsimp only at hSw); go_simp); (try with_reducible rfl)); (try simp only [Act.put,Q3,Q4,Q5]))
 (refine wpAnyH_take (i:=2) (v:=?_) (by (simp only [Q0,Q1,Q2]; rfl)) (by kernel_rfl) (by kernel_rfl) (by kernel_rfl) (by exact fun _ _ _ h => h) (Or.inl ⟨by rfl,?_⟩) (by assumption) ?_; (rotate_left 1; (intro w hSw; (try dsimp only at hSw); go_simp); (try with_reducible rfl)); (try simp only [Act.put,Q3,Q4,Q5]))
 (refine wpAnyH_take (i:=3) (v:=?_) (by (simp only [Q0,Q1,Q2]; rfl)) (by kernel_rfl) (by kernel_rfl) (by kernel_rfl) (by exact fun _ _ _ h => h) (Or.inl ⟨by rfl,?_⟩) (by assumption) ?_; (rotate_left 1; (intro w hSw; (try dsimp only at hSw); go_simp); (try with_reducible rfl)); (try simp only [Act.put,Q3,Q4,Q5]))
 (refine wpAnyH_take (i:=4) (v:=?_) (by (simp only [Q0,Q1,Q2]; rfl)) (by kernel_rfl) (by kernel_rfl) (by kernel_rfl) (by exact fun _ _ _ h => h) (Or.inl ⟨by rfl,?_⟩) (by assumption) ?_; (rotate_left 1; (intro w hSw; (try dsimp only at hSw); go_simp); (try with_reducible rfl)); (try simp only [Act.put,Q3,Q4,Q5]))
 (refine wpAnyH_take (i:=5) (v:=?_) (by (simp only [Q0,Q1,Q2]; rfl)) (by kernel_rfl) (by kernel_rfl) (by kernel_rfl) (by exact fun _ _ _ h => h) (Or.inl ⟨by rfl,?_⟩) (by assumption) ?_; (rotate_left 1; (intro w hSw; (try dsimp only at hSw); go_simp); (try with_reducible rfl)); (try simp only [Act.put,Q3,Q4,Q5]))
 (refine wpAnyH_take (i:=6) (v:=?_) (by (simp only [Q0,Q1,Q2]; rfl)) (by kernel_rfl) (by kernel_rfl) (by kernel_rfl) (by exact fun _ _ _ h => h) (Or.inl ⟨by rfl,?_⟩) (by assumption) ?_; (rotate_left 1; (intro w hSw; (try dsimp only at hSw); go_simp); (try with_reducible rfl)); (try simp only [Act.put,Q3,Q4,Q5]))
 (refine wpAnyH_take (i:=7) (v:=?_) (by (simp only [Q0,Q1,Q2]; rfl)) (by kernel_rfl) (by kernel_rfl) (by kernel_rfl) (by exact fun _ _ _ h => h) (Or.inl ⟨by rfl,?_⟩) (by assumption) ?_; (rotate_left 1; (intro w hSw; (try dsimp only at hSw); go_simp); (try with_reducible rfl)); (try simp only [Act.put,Q3,Q4,Q5]))
 (refine wpAnyH_take (i:=8) (v:=?_) (by (simp only [Q0,Q1,Q2]; rfl)) (by kernel_rfl) (by kernel_rfl) (by kernel_rfl) (by exact fun _ _ _ h => h) (Or.inl ⟨by rfl,?_⟩) (by assumption) ?_; (rotate_left 1; (intro w hSw; (try dsimp only at hSw); go_simp); (try with_reducible rfl)); (try simp only [Act.put,Q3,Q4,Q5]))
 (refine wpAnyH_take (i:=9) (v:=?_) (by (simp only [Q0,Q1,Q2]; rfl)) (by kernel_rfl) (by kernel_rfl) (by kernel_rfl) (by exact fun _ _ _ h => h) (Or.inl ⟨by rfl,?_⟩) (by assumption) ?_; (rotate_left 1; (intro w hSw; (try dsimp only at hSw); go_simp); (try with_reducible rfl)); (try simp only [Act.put,Q3,Q4,Q5]))
 (refine wpAnyH_take (i:=10) (v:=?_) (by (simp only [Q0,Q1,Q2]; rfl)) (by kernel_rfl) (by kernel_rfl) (by kernel_rfl) (by exact fun _ _ _ h => h) (Or.inl ⟨by rfl,?_⟩) (by assumption) ?_; (rotate_left 1; (intro w hSw; (try dsimp only at hSw); go_simp); (try with_reducible rfl)); (try simp only [Act.put,Q3,Q4,Q5]))
 (refine wpAnyH_take (i:=11) (v:=?_) (by (simp only [Q0,Q1,Q2]; rfl)) (by kernel_rfl) (by kernel_rfl) (by kernel_rfl) (by exact fun _ _ _ h => h) (Or.inl ⟨by rfl,?_⟩) (by assumption) ?_; (rotate_left 1; (intro w hSw; (try dsimp only at hSw); go_simp); (try with_reducible rfl)); (try simp only [Act.put,Q3,Q4,Q5]))
 (refine wpAnyH_take (i:=12) (v:=?_) (by (simp only [Q0,Q1,Q2]; rfl)) (by kernel_rfl) (by kernel_rfl) (by kernel_rfl) (by exact fun _ _ _ h => h) (Or.inl ⟨by rfl,?_⟩) (by assumption) ?_; (rotate_left 1; (intro w hSw; (try dsimp only at hSw); go_simp); (try with_reducible rfl)); (try simp only [Act.put,Q3,Q4,Q5]))
 (refine wpAnyH_take (i:=13) (v:=?_) (by (simp only [Q0,Q1,Q2]; rfl)) (by kernel_rfl) (by kernel_rfl) (by kernel_rfl) (by exact fun _ _ _ h => h) (Or.inl ⟨by rfl,?_⟩) (by assumption) ?_; (rotate_left 1; (intro w hSw; (try dsimp only at hSw); go_simp); (try with_reducible rfl)); (try simp only [Act.put,Q3,Q4,Q5]))
 (refine wpAnyH_take (i:=14) (v:=?_) (by (simp only [Q0,Q1,Q2]; rfl)) (by kernel_rfl) (by kernel_rfl) (by kernel_rfl) (by exact fun _ _ _ h => h) (Or.inl ⟨by rfl,?_⟩) (by assumption) ?_; (rotate_left 1; (intro w hSw; (try dsimp only at hSw); go_simp); (try with_reducible rfl)); (try simp only [Act.put,Q3,Q4,Q5]))
 (refine wpAnyH_take (i:=15) (v:=?_) (by (simp only [Q0,Q1,Q2]; rfl)) (by kernel_rfl) (by kernel_rfl) (by kernel_rfl) (by exact fun _ _ _ h => h) (Or.inl ⟨by rfl,?_⟩) (by assumption) ?_; (rotate_left 1; (intro w hSw; (try dsimp only at hSw); go_simp); (try with_reducible rfl)); (try simp only [Act.put,Q3,Q4,Q5]))
 (refine wpAnyH_take (i:=16) (v:=?_) (by (simp only [Q0,Q1,Q2]; rfl)) (by kernel_rfl) (by kernel_rfl) (by kernel_rfl) (by exact fun _ _ _ h => h) (Or.inl ⟨by rfl,?_⟩) (by assumption) ?_; (rotate_left 1; (intro w hSw; (try dsimp only at hSw); go_simp); (try with_reducible rfl)); (try simp only [Act.put,Q3,Q4,Q5]))
 (refine wpAnyH_take (i:=17) (v:=?_) (by (simp only [Q0,Q1,Q2]; rfl)) (by kernel_rfl) (by kernel_rfl) (by kernel_rfl) (by exact fun _ _ _ h => h) (Or.inl ⟨by rfl,?_⟩) (by assumption) ?_; (rotate_left 1; (intro w hSw; (try dsimp only at hSw); go_simp); (try with_reducible rfl)); (try simp only [Act.put,Q3,Q4,Q5]))
 (refine wpAnyH_take (i:=18) (v:=?_) (by (simp only [Q0,Q1,Q2]; rfl)) (by kernel_rfl) (by kernel_rfl) (by kernel_rfl) (by exact fun _ _ _ h => h) (Or.inl ⟨by rfl,?_⟩) (by assumption) ?_; (rotate_left 1; (intro w hSw; (try dsimp only at hSw); go_simp); (try with_reducible rfl)); (try simp only [Act.put,Q3,Q4,Q5]))
 (refine wpAnyH_take (i:=19) (v:=?_) (by (simp only [Q0,Q1,Q2]; rfl)) (by kernel_rfl) (by kernel_rfl) (by kernel_rfl) (by exact fun _ _ _ h => h) (Or.inl ⟨by rfl,?_⟩) (by assumption) ?_; (rotate_left 1; (intro w hSw; (try dsimp only at hSw); go_simp); (try with_reducible rfl)); (try simp only [Act.put,Q3,Q4,Q5]))
 (refine wpAnyH_take (i:=20) (v:=?_) (by (simp only [Q0,Q1,Q2]; rfl)) (by kernel_rfl) (by kernel_rfl) (by kernel_rfl) (by exact fun _ _ _ h => h) (Or.inl ⟨by rfl,?_⟩) (by assumption) ?_; (rotate_left 1; (intro w hSw; (try dsimp only at hSw); go_simp); (try with_reducible rfl)); (try simp only [Act.put,Q3,Q4,Q5]))
 (refine wpAnyH_take (i:=21) (v:=?_) (by (simp only [Q0,Q1,Q2]; rfl)) (by kernel_rfl) (by kernel_rfl) (by kernel_rfl) (by exact fun _ _ _ h => h) (Or.inl ⟨by rfl,?_⟩) (by assumption) ?_; (rotate_left 1; (intro w hSw; (try dsimp only at hSw); go_simp); (try with_reducible rfl)); (try simp only [Act.put,Q3,Q4,Q5]))
 (refine wpAnyH_take (i:=22) (v:=?_) (by (simp only [Q0,Q1,Q2]; rfl)) (by kernel_rfl) (by kernel_rfl) (by kernel_rfl) (by exact fun _ _ _ h => h) (Or.inl ⟨by rfl,?_⟩) (by assumption) ?_; (rotate_left 1; (intro w hSw; (try dsimp only at hSw); go_simp); (try with_reducible rfl)); (try simp only [Act.put,Q3,Q4,Q5]))
 (refine wpAnyH_take (i:=23) (v:=?_) (by (simp only [Q0,Q1,Q2]; rfl)) (by kernel_rfl) (by kernel_rfl) (by kernel_rfl) (by exact fun _ _ _ h => h) (Or.inl ⟨by rfl,?_⟩) (by assumption) ?_; (rotate_left 1; (intro w hSw; (try dsimp only at hSw); go_simp); (try with_reducible rfl)); (try simp only [Act.put,Q3,Q4,Q5]))
 (refine wpAnyH_take (i:=24) (v:=?_) (by (simp only [Q0,Q1,Q2]; rfl)) (by kernel_rfl) (by kernel_rfl) (by kernel_rfl) (by exact fun _ _ _ h => h) (Or.inl ⟨by rfl,?_⟩) (by assumption) ?_; (rotate_left 1; (intro w hSw; (try dsimp only at hSw); go_simp); (try with_reducible rfl)); (try simp only [Act.put,Q3,Q4,Q5]))
 (refine wpAnyH_take (i:=25) (v:=?_) (by (simp only [Q0,Q1,Q2]; rfl)) (by kernel_rfl) (by kernel_rfl) (by kernel_rfl) (by exact fun _ _ _ h => h) (Or.inl ⟨by rfl,?_⟩) (by assumption) ?_; (rotate_left 1; (intro w hSw; (try dsimp only at hSw); go_simp); (try with_reducible rfl)); (try simp only [Act.put,Q3,Q4,Q5]))
 refine wpAnyH_ready (rs:=[26]) (by kernel_rfl) (by simp) ?_
 refine AllReadyH.cons rfl (fun K hK => ?_) AllReadyH.nil
 go_simp
 go_at_call 194
 refine (hpush_fx (lo:=w.heap.size) 7 1 0 _ hq ho mb.size hlq).mono ?_
 rintro e W8 ⟨rfl,ib,ic,hq,ho,hf,hqk⟩
 have mb:=mb.qf hf
 have hx:=hx.qk hqk hxq hxi
 have hs:=hs.qf hf (by decide) (by decide)
 go_wp2_with fail
 refine hK.out _ _ (⟨mb.g.w5.1,hx.w3,hs.w2,(hw.other mb.G kg (by decide)).p.w7.2.2.2.1,(hw.other mb.G kg (by decide)).door.2.2.1⟩) (fun hHeld => ?_)
 clear hK K
 (try simp only [Act.put,Q3,Q4,Q5])
 refine wpAnyH_done (by kernel_rfl) ?_ _
 go_wp2_with fail
 rw [rounds_succ]
 go_wp2_with fail
 rw [rounds_succ]
 have q0:=hq.w1'
 have zq:=hq.lt
 have hta : ∀ w : World,(Instr.typeAssert (.iface 310 (.agg #[.int .i64 7,.int .i64 1,.int .i64 0])) 20 310 false).run Tryz.prog w = .ok (.agg #[.int .i64 7,.int .i64 1,.int .i64 0]) w:=fun _ => by kernel_rfl
 go_wp2_with fail
 refine (hpop_fx (lo:=w.heap.size) _ hlq hq ho).mono ?_
 rintro e W6 ⟨rfl,hq,ho,hf⟩
 have mb:=mb.qf hf
 have hxq : W6.heap.size ≠ q:=by have:=hq.lt; omega
 have hxi : (Value.slice (some ⟨ib,0,none⟩) 0 ic).ownBlock ≠ some W6.heap.size:=by have:=(ho.lt ib rfl).2; simp [Value.ownBlock]; omega
 clear hf q0 zq
 go_upto_region 20 with (fail)
 clear hta
 have mb:=mb.alloc (.cells #[.int .i64 7,.int .i64 1,.int .i64 0] 310)
 have hq:=hq.alloc (.cells #[.int .i64 7,.int .i64 1,.int .i64 0] 310)
 have ho:=ho.alloc (.cells #[.int .i64 7,.int .i64 1,.int .i64 0] 310)
 have hx : Blk (W6.alloc (.cells #[.int .i64 7,.int .i64 1,.int .i64 0] 310)) W6.heap.size 310 #[.int .i64 7,.int .i64 1,.int .i64 0]:=Blk.at_ _ rfl
 generalize W6.alloc (.cells #[.int .i64 7,.int .i64 1,.int .i64 0] 310) = W7 at *
 generalize W6.heap.size = x at *
 obtain ⟨k0,k1,k2,k3,k4⟩:=mb.g.w5
 obtain ⟨i0,i1,i2⟩:=hx.w3
 have f0:=own_at mb.F 0 (u:=.int .i64 (-1)) rfl
 obtain ⟨_,zf,zs,zk,zg⟩:=mb.low
 have zx:=hx.lt
 go_quiet (fail)
 have mb:=mb.drewN nq
 have hq : Blk (W7.drewN nq) _ _ _:=hq
 have ho:=own_drewN ho nq
 have hx : Blk (W7.drewN nq) _ _ _:=hx
 clear k0 k1 k2 k3 k4 i0 i1 i2 f0
 generalize W7.drewN nq = W7 at *
 go_wp2_with fail
 have mb:=mb.drew
 have hq:=hq.drew
 have ho:=ho.drew
 have hx:=hx.drew
 refine wp_region_held_drew (S:=(fun w' => w'.cell? ⟨g,4,none⟩ = some (.slice (some ⟨fb,0,none⟩) 2 fc) ∧ w'.cell? ⟨x,0,none⟩ = some (.int .i64 7) ∧ w'.cell? ⟨x,1,none⟩ = some (.int .i64 1) ∧ w'.cell? ⟨x,2,none⟩ = some (.int .i64 0))) (by kernel_rfl) (⟨mb.g.w5.2.2.2.2,hx.w3⟩) (fun hHeld => ?_)
 (refine wpAnyH_take (i:=0) (v:=?_) (by (simp only [Q0,Q2]; rfl)) (by kernel_rfl) (by kernel_rfl) (by kernel_rfl) (by exact fun _ _ _ h => h) (Or.inl ⟨by rfl,?_⟩) (by assumption) ?_; (rotate_left 1; (intro w hSw; (try dsimp only at hSw); go_simp); (try with_reducible rfl)); (try simp only [Act.put,Q3,Q4,Q5]))
 (refine wpAnyH_take (i:=1) (v:=?_) (by (simp only [Q0,Q1,Q2]; rfl)) (by kernel_rfl) (by kernel_rfl) (by kernel_rfl) (by exact fun _ _ _ h => h) (Or.inl ⟨by rfl,?_⟩) (by assumption) ?_; (rotate_left 1; (intro w hSw; (try dsimp only at hSw); go_simp); (try with_reducible rfl)); (try simp only [Act.put,Q3,Q4,Q5]))
 (refine wpAnyH_take (i:=2) (v:=?_) (by (simp only [Q0,Q1,Q2]; rfl)) (by kernel_rfl) (by kernel_rfl) (by kernel_rfl) (by exact fun _ _ _ h => h) (Or.inl ⟨by rfl,?_⟩) (by assumption) ?_; (rotate_left 1; (intro w hSw; (try dsimp only at hSw); go_simp); (try with_reducible rfl)); (try simp only [Act.put,Q3,Q4,Q5]))
 (refine wpAnyH_take (i:=3) (v:=?_) (by (simp only [Q0,Q1,Q2]; rfl)) (by kernel_rfl) (by kernel_rfl) (by kernel_rfl) (by exact fun _ _ _ h => h) (Or.inl ⟨by rfl,?_⟩) (by assumption) ?_; (rotate_left 1; (intro w hSw; (try dsimp only at hSw); go_simp); (try with_reducible rfl)); (try simp only [Act.put,Q3,Q4,Q5]))
 (refine wpAnyH_take (i:=4) (v:=?_) (by (simp only [Q0,Q1,Q2]; rfl)) (by kernel_rfl) (by kernel_rfl) (by kernel_rfl) (by exact fun _ _ _ h => h) (Or.inl ⟨by rfl,?_⟩) (by assumption) ?_; (rotate_left 1; (intro w hSw; (try dsimp only at hSw); go_simp); (try with_reducible rfl)); (try simp only [Act.put,Q3,Q4,Q5]))
 (refine wpAnyH_take (i:=5) (v:=?_) (by (simp only [Q0,Q1,Q2]; rfl)) (by kernel_rfl) (by kernel_rfl) (by kernel_rfl) (by exact fun _ _ _ h => h) (Or.inl ⟨by rfl,?_⟩) (by assumption) ?_; (rotate_left 1; (intro w hSw; (try dsimp only at hSw); go_simp); (try with_reducible rfl)); (try simp only [Act.put,Q3,Q4,Q5]))
 (refine wpAnyH_take (i:=6) (v:=?_) (by (simp only [Q0,Q1,Q2]; rfl)) (by kernel_rfl) (by kernel_rfl) (by kernel_rfl) (by exact fun _ _ _ h => h) (Or.inl ⟨by rfl,?_⟩) (by assumption) ?_; (rotate_left 1; (intro w hSw; (try dsimp only at hSw); go_simp); (try with_reducible rfl)); (try simp only [Act.put,Q3,Q4,Q5]))
 (refine wpAnyH_take (i:=7) (v:=?_) (by (simp only [Q0,Q1,Q2]; rfl)) (by kernel_rfl) (by kernel_rfl) (by kernel_rfl) (by exact fun _ _ _ h => h) (Or.inl ⟨by rfl,?_⟩) (by assumption) ?_; (rotate_left 1; (intro w hSw; (try dsimp only at hSw); go_simp); (try with_reducible rfl)); (try simp only [Act.put,Q3,Q4,Q5]))
 (refine wpAnyH_take (i:=8) (v:=?_) (by (simp only [Q0,Q1,Q2]; rfl)) (by kernel_rfl) (by kernel_rfl) (by kernel_rfl) (by exact fun _ _ _ h => h) (Or.inl ⟨by rfl,?_⟩) (by assumption) ?_; (rotate_left 1; (intro w hSw; (try dsimp only at hSw); go_simp); (try with_reducible rfl)); (try simp only [Act.put,Q3,Q4,Q5]))
 refine wpAnyH_ready (rs:=[9]) (by kernel_rfl) (by simp) ?_
 refine AllReadyH.cons rfl (fun K hK => ?_) AllReadyH.nil
 have fF : W7.frozen? ⟨fb,0,none⟩ = false:=mb.F.frozenAt _
 have fF1 : W7.frozen? ⟨fb,1,none⟩ = false:=mb.F.frozenAt _
 have cF : W7.cell? ⟨fb,0,none⟩ = some (.int .i64 (-1)):=own_at mb.F _ rfl
 have cF1 : W7.cell? ⟨fb,1,none⟩ = some (.int .i64 0):=own_at mb.F _ rfl
 have zF : fb < W7.heap.size:=(mb.F.lt fb rfl).2
 go_simp
 clear fF fF1 cF cF1
 have kF:=own_kind mb.F
 have kF1:=own_kind (mb.F.stored 0 (.int .i64 7)).1
 have a1:=grown_poke W7.drew fb 0 (.int .i64 7)
 have a2:=grown_poke (W7.drew.setCell ⟨fb,0,none⟩ (.int .i64 7)) fb 1 (.int .i64 1)
 have hq:=(hq.other a1 kF (by decide)).other a2 kF1 (by decide)
 have ho:=own_other (own_other ho a1 kF (by decide)) a2 kF1 (by decide)
 have hx:=(hx.other a1 kF (by decide)).other a2 kF1 (by decide)
 have mb:=mb.put 0 (by decide) rfl 7 1
 clear a1 a2 kF kF1
 have mb : MB w ((W7.setCell ⟨fb,0,none⟩ (.int .i64 7)).setCell ⟨fb,1,none⟩ (.int .i64 1)).drew _ _ _ _ _ _ _ _:=mb
 have hq : Blk ((W7.setCell ⟨fb,0,none⟩ (.int .i64 7)).setCell ⟨fb,1,none⟩ (.int .i64 1)).drew _ _ _:=hq
 have ho : World.ownsRow ((W7.setCell ⟨fb,0,none⟩ (.int .i64 7)).setCell ⟨fb,1,none⟩ (.int .i64 1)).drew _ _ _ _ _ _:=ho
 have hx : Blk ((W7.setCell ⟨fb,0,none⟩ (.int .i64 7)).setCell ⟨fb,1,none⟩ (.int .i64 1)).drew _ _ _:=hx
 refine hK.out _ _ (⟨mb.g.w5.2.2.2.2,hx.w3⟩) (fun hHeld => ?_)
 clear hK K
 (try simp only [Act.put,Q3,Q4,Q5])
 refine wpAnyH_done (by kernel_rfl) ?_ _
 generalize ((W7.setCell ⟨fb,0,none⟩ (.int .i64 7)).setCell ⟨fb,1,none⟩ (.int .i64 1)).drew = W9 at *
 obtain ⟨i0,i1,i2⟩:=hx.w3
 have kk:=own_at mb.bk 0 (u:=.slice none 0 0) rfl
 have q0:=hq.w1'
 obtain ⟨_,zf,zs,zk,zg⟩:=mb.low
 have zx:=hx.lt
 have zq:=hq.lt
 go_wp2_with fail
 refine wp_loop_rounds 1 ?_
 rw [rounds_succ]
 go_wp2_with fail
 rw [rounds_succ]
 go_wp2_with fail
 go_returns
 exact ⟨rfl,fb,fc,mb.g,mb.F,mb.G⟩

end Go.Proofs.YtbfphnknkbhpkaaGreatDoor
