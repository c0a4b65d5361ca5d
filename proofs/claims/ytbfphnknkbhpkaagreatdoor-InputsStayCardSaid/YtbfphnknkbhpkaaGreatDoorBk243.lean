/- Texts of this seat, laid together: RtL. -/
import Derived.Test.YtbfphnknkbhpkaaGreatDoorBk242
import Derived.Test.YtbfphnknkbhpkaaGreatDoorBk214
/- The walks of path, fastest and Fastest at the one map. -/
namespace Go.Proofs.YtbfphnknkbhpkaaGreatDoor
set_option linter.unusedVariables false
set_option linter.unusedSimpArgs false
open Go.RowKit

theorem Row.set_lowL {w : World} {lo size : Nat} {A : Option Addr} {n : Nat} {xs : List Value} (h : Row w lo size A n xs) (g i : Nat) (u : Value) (hg : g < lo) : Row (w.setCell ⟨g,i,none⟩ u) lo size A n xs :=
 h.keep (by simp [World.setCell]) (fun b hb _ => Below.heap_setCell w ⟨g,i,none⟩ u b (by simp; omega))
theorem ty_strsL : SliceTy Tryz.prog 28 9 1 16:=.mk' Tryz.underlying28 (z:=.string ⟨#[]⟩) (by kernel_rfl) rfl (by decide)
structure PB (lo L : Nat) (W : World) (M p go g1 c1 g2 c2 g3 c3 : Nat) (x1 x2 x3 : Array Value) (g n1 n2 n3 d1 d2 d3 yb yc fb fc R D : Nat) : Prop where
  wb : WB L W M p go g1 c1 g2 c2 g3 c3 x1 x2 x3
  ge : GE lo W p g n1 n2 n3 d1 d2 d3 yb yc fb fc
  mb : MapB W M R D
  fm : FM W R D
section
variable {lo L : Nat} {w W : World} {M p go g1 c1 g2 c2 g3 c3 : Nat} {x1 x2 x3 : Array Value} {g n1 n2 n3 d1 d2 d3 yb yc fb fc R D : Nat}
theorem GE.below (h : GE lo w p g n1 n2 n3 d1 d2 d3 yb yc fb fc) (hb : Below w.heap.size w W) : GE lo W p g n1 n2 n3 d1 d2 d3 yb yc fb fc:=⟨h.g.below hb,own_keep h.E hb,own_keep h.B hb,own_keep h.Y hb,own_keep h.F hb⟩
theorem PB.below (h : PB lo L w M p go g1 c1 g2 c2 g3 c3 x1 x2 x3 g n1 n2 n3 d1 d2 d3 yb yc fb fc R D) (hb : Below w.heap.size w W) : PB lo L W M p go g1 c1 g2 c2 g3 c3 x1 x2 x3 g n1 n2 n3 d1 d2 d3 yb yc fb fc R D:=⟨h.wb.below hb,h.ge.below hb,h.mb.below hb,h.fm.below hb⟩
theorem PB.path {row : Option Nat} (h : PB lo L w M p go g1 c1 g2 c2 g3 c3 x1 x2 x3 g n1 n2 n3 d1 d2 d3 yb yc fb fc R D) (hg : w.grownBy W row) (hk : Kind w row (some 120)) : PB lo L W M p go g1 c1 g2 c2 g3 c3 x1 x2 x3 g n1 n2 n3 d1 d2 d3 yb yc fb fc R D :=
 ⟨h.wb.other hg hk (by decide),⟨h.ge.g.other hg hk (by decide),own_other h.ge.E hg hk (by decide),own_other h.ge.B hg hk (by decide),own_other h.ge.Y hg hk (by decide),own_other h.ge.F hg hk (by decide)⟩,Blk.other h.mb hg hk (by decide),⟨h.fm.rooms.other hg hk (by decide),h.fm.doors.other hg hk (by decide)⟩⟩
end

set_option maxHeartbeats 4000000 in
set_option maxRecDepth 100000 in
theorem path_fx2 {lo L : Nat} {M p go g1 c1 g2 c2 g3 c3 : Nat} {x1 x2 x3 : Array Value} {g n1 n2 n3 d1 d2 d3 yb yc fb fc R D : Nat} (w : World) (pb : PB lo L w M p go g1 c1 g2 c2 g3 c3 x1 x2 x3 g n1 n2 n3 d1 d2 d3 yb yc fb fc R D) :
  Calls Tryz.prog 86 #[.pointer (some ⟨g,0,none⟩)] w fun e w' => ∃ A c,e = .returned (.tuple #[.agg #[.slice A 1 c,.int .i64 7],.bool true]) ∧ Row w' w.heap.size 1 A 1 [.string ⟨#[100]⟩] ∧ Below w.heap.size w w':=by
 obtain ⟨k0,k1,k2,k3,k4⟩:=pb.ge.g.w5
 have f0:=own_at pb.ge.F 0 (u:=.int .i64 7) rfl
 have f1:=own_at pb.ge.F 1 (u:=.int .i64 1) rfl
 have f2:=own_at pb.ge.F 2 (u:=.int .i64 0) rfl
 have f3:=own_at pb.ge.F 3 (u:=.int .i64 0) rfl
 have b0:=own_at pb.ge.B 0 (u:=.bool false) rfl
 have b1:=own_at pb.ge.B 1 (u:=.bool true) rfl
 have e0:=own_at pb.ge.E 0 (u:=.slice (some ⟨yb,0,none⟩) 1 yc) rfl
 have y0:=own_at pb.ge.Y 0 (u:=.int .i64 0) rfl
 have y1:=own_at pb.ge.Y 1 (u:=.int .i64 1) rfl
 have w3:=pb.wb.p.w7.2.2.2.1
 have w0:=pb.wb.p.w7.1
 have wd:=pb.wb.door.2.2.1
 have m1:=pb.mb.cells.2.1
 have o0:=pb.fm.door.1
 have zg:=pb.ge.g.lt
 have zF:=(pb.ge.F.lt fb rfl).2
 have zB:=(pb.ge.B.lt n3 rfl).2
 have zE:=(pb.ge.E.lt n2 rfl).2
 have zY:=(pb.ge.Y.lt yb rfl).2
 have zp:=pb.wb.p.lt
 have zd:=pb.wb.d.lt
 have zm:=pb.mb.lt
 have zo:=pb.fm.doors.lt
 go_enter Tryz.func86,Tryz.ntmps86
 go_wp2_with fail
 clear k0 k1 k2 k3 k4 f0 f1 f2 f3 b0 b1 e0 y0 y1 w3 w0 wd m1 o0 zg zF zB zE zY zp zd zm zo
 have hr : Blk ((w.alloc (.cells #[.slice none 0 0,.int .i64 0] 120)).alloc (.cells #[.slice none 0 0,.int .i64 7] 120)) w.heap.size 120 #[.slice none 0 0,.int .i64 0]:=(Blk.at_ _ rfl).alloc _
 have ho : Blk ((w.alloc (.cells #[.slice none 0 0,.int .i64 0] 120)).alloc (.cells #[.slice none 0 0,.int .i64 7] 120)) (w.heap.size + 1) 120 #[.slice none 0 0,.int .i64 7]:=Blk.at_ _ (by simp)
 have hbel : Below w.heap.size w ((w.alloc (.cells #[.slice none 0 0,.int .i64 0] 120)).alloc (.cells #[.slice none 0 0,.int .i64 7] 120)):=(by repeat (first | exact Below.refl _ _ | refine Below.alloc ?_ (by first | omega | (simp; omega) | simp) _ | refine below_drewN' ?_ _ | refine Below.drew ?_))
 have pb:=pb.below hbel
 generalize (w.alloc (.cells #[.slice none 0 0,.int .i64 0] 120)).alloc (.cells #[.slice none 0 0,.int .i64 7] 120) = W1 at *
 have hou : w.heap.size < w.heap.size + 1:=Nat.lt_succ_self _
 generalize w.heap.size + 1 = out at *
 refine wp_loop_rounds 2 ?_
 rw [rounds_succ]
 obtain ⟨k0,k1,k2,k3,k4⟩:=pb.ge.g.w5
 have f0:=own_at pb.ge.F 0 (u:=.int .i64 7) rfl
 have f1:=own_at pb.ge.F 1 (u:=.int .i64 1) rfl
 have f2:=own_at pb.ge.F 2 (u:=.int .i64 0) rfl
 have f3:=own_at pb.ge.F 3 (u:=.int .i64 0) rfl
 have b0:=own_at pb.ge.B 0 (u:=.bool false) rfl
 have b1:=own_at pb.ge.B 1 (u:=.bool true) rfl
 have e0:=own_at pb.ge.E 0 (u:=.slice (some ⟨yb,0,none⟩) 1 yc) rfl
 have y0:=own_at pb.ge.Y 0 (u:=.int .i64 0) rfl
 have y1:=own_at pb.ge.Y 1 (u:=.int .i64 1) rfl
 have w3:=pb.wb.p.w7.2.2.2.1
 have w0:=pb.wb.p.w7.1
 have wd:=pb.wb.door.2.2.1
 have m1:=pb.mb.cells.2.1
 have o0:=pb.fm.door.1
 have zg:=pb.ge.g.lt
 have zF:=(pb.ge.F.lt fb rfl).2
 have zB:=(pb.ge.B.lt n3 rfl).2
 have zE:=(pb.ge.E.lt n2 rfl).2
 have zY:=(pb.ge.Y.lt yb rfl).2
 have zp:=pb.wb.p.lt
 have zd:=pb.wb.d.lt
 have zm:=pb.mb.lt
 have zo:=pb.fm.doors.lt
 go_wp2_with fail
 refine wp_loop_rounds 2 ?_
 rw [rounds_succ]
 go_upto_region 9 with (fail)
 clear k0 k1 k2 k3 k4 f0 f1 f2 f3 b0 b1 e0 y0 y1 w3 w0 wd m1 o0 zg zF zB zE zY zp zd zm zo
 have hs : Blk (W1.alloc (.cells #[.int .i64 0,.int .i64 1] 249)) W1.heap.size 249 #[.int .i64 0,.int .i64 1]:=Blk.at_ _ rfl
 have hb : Below W1.heap.size W1 (W1.alloc (.cells #[.int .i64 0,.int .i64 1] 249)):=(Below.refl _ _).alloc (Nat.le_refl _) _
 have pb:=pb.below hb
 have hr:=hr.below hb
 have ho:=ho.below hb
 have hbel:=hbel.trans (hb.mono hbel.size)
 generalize W1.alloc (.cells #[.int .i64 0,.int .i64 1] 249) = W2 at *
 generalize W1.heap.size = s at *
 clear hb
 refine wp_region_held_drew (S:=(fun w' => (w'.cell? ⟨g,4,none⟩ = some (.slice (some ⟨fb,0,none⟩) 2 fc) ∧ w'.cell? ⟨s,1,none⟩ = some (.int .i64 1)) ∧ w'.cell? ⟨fb,2,none⟩ = some (.int .i64 0) ∧ w'.cell? ⟨fb,3,none⟩ = some (.int .i64 0))) (by kernel_rfl) (⟨⟨(pb.below (Below.refl W2.heap.size W2).drew).ge.g.w5.2.2.2.2,(hs.below (Below.refl W2.heap.size W2).drew).w2.2⟩,own_at (pb.below (Below.refl W2.heap.size W2).drew).ge.F 2 rfl,own_at (pb.below (Below.refl W2.heap.size W2).drew).ge.F 3 rfl⟩) (fun hHeld => ?_)
 (refine wpAnyH_take (i:=0) (v:=?_) (by (simp only [Q0,Q2]; rfl)) (by kernel_rfl) (by kernel_rfl) (by kernel_rfl) (by exact fun _ _ _ h => h) (Or.inl ⟨by rfl,?_⟩) (by assumption) ?_; (rotate_left 1; (intro w hSw; (try dsimp only at hSw); go_simp); (try with_reducible rfl)); (try simp only [Act.put,Q3,Q4,Q5]))
 (refine wpAnyH_take (i:=1) (v:=?_) (by (simp only [Q0,Q1,Q2]; rfl)) (by kernel_rfl) (by kernel_rfl) (by kernel_rfl) (by exact fun _ _ _ h => h) (Or.inl ⟨by rfl,?_⟩) (by assumption) ?_; (rotate_left 1; (intro w hSw; (try dsimp only at hSw); go_simp); (try with_reducible rfl)); (try simp only [Act.put,Q3,Q4,Q5]))
 (refine wpAnyH_take (i:=2) (v:=?_) (by (simp only [Q0,Q1,Q2]; rfl)) (by kernel_rfl) (by kernel_rfl) (by kernel_rfl) (by exact fun _ _ _ h => h) (Or.inl ⟨by rfl,?_⟩) (by assumption) ?_; (rotate_left 1; (intro w hSw; (try dsimp only at hSw); go_simp); (try with_reducible rfl)); (try simp only [Act.put,Q3,Q4,Q5]))
 (refine wpAnyH_take (i:=3) (v:=?_) (by (simp only [Q0,Q1,Q2]; rfl)) (by kernel_rfl) (by kernel_rfl) (by kernel_rfl) (by exact fun _ _ _ h => h) (Or.inl ⟨by rfl,?_⟩) (by assumption) ?_; (rotate_left 1; (intro w hSw; (try dsimp only at hSw); go_simp); (try with_reducible rfl)); (try simp only [Act.put,Q3,Q4,Q5]))
 (refine wpAnyH_take (i:=4) (v:=?_) (by (simp only [Q0,Q1,Q2]; rfl)) (by kernel_rfl) (by kernel_rfl) (by kernel_rfl) (by exact fun _ _ _ h => h) (Or.inl ⟨by rfl,?_⟩) (by assumption) ?_; (rotate_left 1; (intro w hSw; (try dsimp only at hSw); go_simp); (try with_reducible rfl)); (try simp only [Act.put,Q3,Q4,Q5]))
 (refine wpAnyH_take (i:=5) (v:=?_) (by (simp only [Q0,Q1,Q2]; rfl)) (by kernel_rfl) (by kernel_rfl) (by kernel_rfl) (by exact fun _ _ _ h => h) (Or.inl ⟨by rfl,?_⟩) (by assumption) ?_; (rotate_left 1; (intro w hSw; (try dsimp only at hSw); go_simp); (try with_reducible rfl)); (try simp only [Act.put,Q3,Q4,Q5]))
 (refine wpAnyH_take (i:=6) (v:=?_) (by (simp only [Q0,Q1,Q2]; rfl)) (by kernel_rfl) (by kernel_rfl) (by kernel_rfl) (by exact fun _ _ _ h => h) (Or.inl ⟨by rfl,?_⟩) (by assumption) ?_; (rotate_left 1; (intro w hSw; (try dsimp only at hSw); go_simp); (try with_reducible rfl)); (try simp only [Act.put,Q3,Q4,Q5]))
 (refine wpAnyH_take (i:=7) (v:=?_) (by (simp only [Q0,Q1,Q2]; rfl)) (by kernel_rfl) (by kernel_rfl) (by kernel_rfl) (by exact fun _ _ _ h => h) (Or.inl ⟨by rfl,?_⟩) (by assumption) ?_; (rotate_left 1; (intro w hSw; (try dsimp only at hSw); go_simp); (try with_reducible rfl)); (try simp only [Act.put,Q3,Q4,Q5]))
 refine wpAnyH_ready (rs:=[8]) (by kernel_rfl) (by simp) ?_
 refine AllReadyH.cons rfl (fun K hK => ?_) AllReadyH.nil
 go_simp
 have W2b:=(Below.refl W2.heap.size W2).drew.alloc (Nat.le_refl _) (.cells #[.int .i64 0,.int .i64 0] 240)
 refine hK.out _ _ (⟨⟨(pb.below ((Below.refl W2.heap.size W2).drew.alloc (Nat.le_refl _) (.cells #[.int .i64 0,.int .i64 0] 240))).ge.g.w5.2.2.2.2,(hs.below ((Below.refl W2.heap.size W2).drew.alloc (Nat.le_refl _) (.cells #[.int .i64 0,.int .i64 0] 240))).w2.2⟩,own_at (pb.below ((Below.refl W2.heap.size W2).drew.alloc (Nat.le_refl _) (.cells #[.int .i64 0,.int .i64 0] 240))).ge.F 2 rfl,own_at (pb.below ((Below.refl W2.heap.size W2).drew.alloc (Nat.le_refl _) (.cells #[.int .i64 0,.int .i64 0] 240))).ge.F 3 rfl⟩) (fun hHeld => ?_)
 clear hK K
 (try simp only [Act.put,Q3,Q4,Q5])
 refine wpAnyH_ready (rs:=[9]) (by kernel_rfl) (by simp) ?_
 refine AllReadyH.cons rfl (fun K hK => ?_) AllReadyH.nil
 go_simp
 refine hK.out _ _ (⟨⟨(pb.below ((Below.refl W2.heap.size W2).drew.alloc (Nat.le_refl _) (.cells #[.int .i64 0,.int .i64 0] 240))).ge.g.w5.2.2.2.2,(hs.below ((Below.refl W2.heap.size W2).drew.alloc (Nat.le_refl _) (.cells #[.int .i64 0,.int .i64 0] 240))).w2.2⟩,own_at (pb.below ((Below.refl W2.heap.size W2).drew.alloc (Nat.le_refl _) (.cells #[.int .i64 0,.int .i64 0] 240))).ge.F 2 rfl,own_at (pb.below ((Below.refl W2.heap.size W2).drew.alloc (Nat.le_refl _) (.cells #[.int .i64 0,.int .i64 0] 240))).ge.F 3 rfl⟩) (fun hHeld => ?_)
 clear hK K
 (try simp only [Act.put,Q3,Q4,Q5])
 refine wpAnyH_done (by kernel_rfl) ?_ _
 have hb : Below W2.heap.size W2 (W2.alloc (.cells #[.int .i64 0,.int .i64 0] 240)).drew:=((Below.refl _ _).alloc (Nat.le_refl _) _).drew
 have hf : Blk (W2.alloc (.cells #[.int .i64 0,.int .i64 0] 240)).drew W2.heap.size 240 #[.int .i64 0,.int .i64 0]:=Blk.at_ _ rfl
 have pb:=pb.below hb
 have hr:=hr.below hb
 have ho:=ho.below hb
 have hs:=hs.below hb
 have hbel:=hbel.trans (hb.mono hbel.size)
 generalize (W2.alloc (.cells #[.int .i64 0,.int .i64 0] 240)).drew = W3 at *
 generalize W2.heap.size = rb at *
 clear hb
 obtain ⟨k0,k1,k2,k3,k4⟩:=pb.ge.g.w5
 have f0:=own_at pb.ge.F 0 (u:=.int .i64 7) rfl
 have f1:=own_at pb.ge.F 1 (u:=.int .i64 1) rfl
 have f2:=own_at pb.ge.F 2 (u:=.int .i64 0) rfl
 have f3:=own_at pb.ge.F 3 (u:=.int .i64 0) rfl
 have b0:=own_at pb.ge.B 0 (u:=.bool false) rfl
 have b1:=own_at pb.ge.B 1 (u:=.bool true) rfl
 have e0:=own_at pb.ge.E 0 (u:=.slice (some ⟨yb,0,none⟩) 1 yc) rfl
 have y0:=own_at pb.ge.Y 0 (u:=.int .i64 0) rfl
 have y1:=own_at pb.ge.Y 1 (u:=.int .i64 1) rfl
 have w3:=pb.wb.p.w7.2.2.2.1
 have w0:=pb.wb.p.w7.1
 have wd:=pb.wb.door.2.2.1
 have m1:=pb.mb.cells.2.1
 have o0:=pb.fm.door.1
 have zg:=pb.ge.g.lt
 have zF:=(pb.ge.F.lt fb rfl).2
 have zB:=(pb.ge.B.lt n3 rfl).2
 have zE:=(pb.ge.E.lt n2 rfl).2
 have zY:=(pb.ge.Y.lt yb rfl).2
 have zp:=pb.wb.p.lt
 have zd:=pb.wb.d.lt
 have zm:=pb.mb.lt
 have zo:=pb.fm.doors.lt
 obtain ⟨r0,r1⟩:=hf.w2
 obtain ⟨s0,s1⟩:=hs.w2
 have zr:=hf.lt
 have zs:=hs.lt
 go_wp2_with fail
 go_quiet (fail)
 clear k0 k1 k2 k3 k4 f0 f1 f2 f3 b0 b1 e0 y0 y1 w3 w0 wd m1 o0 zg zF zB zE zY zp zd zm zo r0 r1 s0 s1
 have hb : Below W3.heap.size W3 (W3.drewN nq):=below_drewN' (Below.refl _ _) nq
 have pb:=pb.below hb
 have hr:=hr.below hb
 have ho:=ho.below hb
 have hs:=hs.below hb
 have hbel:=hbel.trans (hb.mono hbel.size)
 generalize W3.drewN nq = W3 at *
 go_wp2_with fail
 have hb : Below W3.heap.size W3 W3.drew:=(Below.refl _ _).drew
 have pb:=pb.below hb
 have hr:=hr.below hb
 have ho:=ho.below hb
 have hs:=hs.below hb
 have hbel:=hbel.trans (hb.mono hbel.size)
 refine wp_region_heldK 20 (fun w' => w'.cell? ⟨out,0,none⟩ = some (.slice none 0 0)) (fun w' => w'.cell? ⟨g,0,none⟩ = some (.pointer (some ⟨p,0,none⟩)) ∧ w'.cell? ⟨p,0,none⟩ = some (.pointer (some ⟨M,0,none⟩)) ∧ w'.cell? ⟨M,1,none⟩ = some (.slice (some ⟨D,0,none⟩) 1 1) ∧ w'.cell? ⟨s,0,none⟩ = some (.int .i64 0) ∧ w'.cell? ⟨D,0,none⟩ = some (.string ⟨#[100]⟩)) (by kernel_rfl) (⟨pb.ge.g.w5.1,pb.wb.p.w7.1,pb.mb.cells.2.1,hs.w2.1,pb.fm.door.1⟩) (ho.w2.1) (fun hT hS => ?_)
 (refine wpAnyK_take2 (i:=0) (v:=?_) (by (simp only [Q0,Q2]; rfl)) (by kernel_rfl) (by kernel_rfl) (by kernel_rfl) (by decide) (by exact fun _ _ _ h => h) (Or.inl ⟨by rfl,?_⟩) (by assumption) (by assumption) ?_; (rotate_left 1; (intro w hSw; (try dsimp only at hSw); go_simp); (try with_reducible rfl)); (try simp only [Act.put,Q3,Q4,Q5]))
 (refine wpAnyK_take1 (i:=1) (v:=?_) (by (simp only [Q0,Q1,Q2]; rfl)) (by kernel_rfl) (by kernel_rfl) (by kernel_rfl) (by decide) (by kernel_rfl) (by kernel_rfl) (by exact fun _ _ _ h => h) (Or.inl ⟨by rfl,?_⟩) (by assumption) (by assumption) ?_; (rotate_left 1; (intro w hSw; (try dsimp only at hSw); go_simp); (try with_reducible rfl)); (try simp only [Act.put,Q3,Q4,Q5]))
 (refine wpAnyK_take2 (i:=2) (v:=?_) (by (simp only [Q0,Q1,Q2]; rfl)) (by kernel_rfl) (by kernel_rfl) (by kernel_rfl) (by decide) (by exact fun _ _ _ h => h) (Or.inl ⟨by rfl,?_⟩) (by assumption) (by assumption) ?_; (rotate_left 1; (intro w hSw; (try dsimp only at hSw); go_simp); (try with_reducible rfl)); (try simp only [Act.put,Q3,Q4,Q5]))
 (refine wpAnyK_take2 (i:=3) (v:=?_) (by (simp only [Q0,Q1,Q2]; rfl)) (by kernel_rfl) (by kernel_rfl) (by kernel_rfl) (by decide) (by exact fun _ _ _ h => h) (Or.inl ⟨by rfl,?_⟩) (by assumption) (by assumption) ?_; (rotate_left 1; (intro w hSw; (try dsimp only at hSw); go_simp); (try with_reducible rfl)); (try simp only [Act.put,Q3,Q4,Q5]))
 (refine wpAnyK_take2 (i:=4) (v:=?_) (by (simp only [Q0,Q1,Q2]; rfl)) (by kernel_rfl) (by kernel_rfl) (by kernel_rfl) (by decide) (by exact fun _ _ _ h => h) (Or.inl ⟨by rfl,?_⟩) (by assumption) (by assumption) ?_; (rotate_left 1; (intro w hSw; (try dsimp only at hSw); go_simp); (try with_reducible rfl)); (try simp only [Act.put,Q3,Q4,Q5]))
 (refine wpAnyK_take2 (i:=5) (v:=?_) (by (simp only [Q0,Q1,Q2]; rfl)) (by kernel_rfl) (by kernel_rfl) (by kernel_rfl) (by decide) (by exact fun _ _ _ h => h) (Or.inl ⟨by rfl,?_⟩) (by assumption) (by assumption) ?_; (rotate_left 1; (intro w hSw; (try dsimp only at hSw); go_simp); (try with_reducible rfl)); (try simp only [Act.put,Q3,Q4,Q5]))
 (refine wpAnyK_take2 (i:=6) (v:=?_) (by (simp only [Q0,Q1,Q2]; rfl)) (by kernel_rfl) (by kernel_rfl) (by kernel_rfl) (by decide) (by exact fun _ _ _ h => h) (Or.inl ⟨by rfl,?_⟩) (by assumption) (by assumption) ?_; (rotate_left 1; (intro w hSw; (try dsimp only at hSw); go_simp); (try with_reducible rfl)); (try simp only [Act.put,Q3,Q4,Q5]))
 (refine wpAnyK_take2 (i:=7) (v:=?_) (by (simp only [Q0,Q1,Q2]; rfl)) (by kernel_rfl) (by kernel_rfl) (by kernel_rfl) (by decide) (by exact fun _ _ _ h => h) (Or.inl ⟨by rfl,?_⟩) (by assumption) (by assumption) ?_; (rotate_left 1; (intro w hSw; (try dsimp only at hSw); go_simp); (try with_reducible rfl)); (try simp only [Act.put,Q3,Q4,Q5]))
 (refine wpAnyK_take2 (i:=8) (v:=?_) (by (simp only [Q0,Q1,Q2]; rfl)) (by kernel_rfl) (by kernel_rfl) (by kernel_rfl) (by decide) (by exact fun _ _ _ h => h) (Or.inl ⟨by rfl,?_⟩) (by assumption) (by assumption) ?_; (rotate_left 1; (intro w hSw; (try dsimp only at hSw); go_simp); (try with_reducible rfl)); (try simp only [Act.put,Q3,Q4,Q5]))
 (refine wpAnyK_take2 (i:=9) (v:=?_) (by (simp only [Q0,Q1,Q2]; rfl)) (by kernel_rfl) (by kernel_rfl) (by kernel_rfl) (by decide) (by exact fun _ _ _ h => h) (Or.inl ⟨by rfl,?_⟩) (by assumption) (by assumption) ?_; (rotate_left 1; (intro w hSw; (try dsimp only at hSw); go_simp); (try with_reducible rfl)); (try simp only [Act.put,Q3,Q4,Q5]))
 (refine wpAnyK_take2 (i:=10) (v:=?_) (by (simp only [Q0,Q1,Q2]; rfl)) (by kernel_rfl) (by kernel_rfl) (by kernel_rfl) (by decide) (by exact fun _ _ _ h => h) (Or.inl ⟨by rfl,?_⟩) (by assumption) (by assumption) ?_; (rotate_left 1; (intro w hSw; (try dsimp only at hSw); go_simp); (try with_reducible rfl)); (try simp only [Act.put,Q3,Q4,Q5]))
 (refine wpAnyK_take2 (i:=11) (v:=?_) (by (simp only [Q0,Q1,Q2]; rfl)) (by kernel_rfl) (by kernel_rfl) (by kernel_rfl) (by decide) (by exact fun _ _ _ h => h) (Or.inl ⟨by rfl,?_⟩) (by assumption) (by assumption) ?_; (rotate_left 1; (intro w hSw; (try dsimp only at hSw); go_simp); (try with_reducible rfl)); (try simp only [Act.put,Q3,Q4,Q5]))
 (refine wpAnyK_take2 (i:=12) (v:=?_) (by (simp only [Q0,Q1,Q2]; rfl)) (by kernel_rfl) (by kernel_rfl) (by kernel_rfl) (by decide) (by exact fun _ _ _ h => h) (Or.inl ⟨by rfl,?_⟩) (by assumption) (by assumption) ?_; (rotate_left 1; (intro w hSw; (try dsimp only at hSw); go_simp); (try with_reducible rfl)); (try simp only [Act.put,Q3,Q4,Q5]))
 (refine wpAnyK_take2 (i:=13) (v:=?_) (by (simp only [Q0,Q1,Q2]; rfl)) (by kernel_rfl) (by kernel_rfl) (by kernel_rfl) (by decide) (by exact fun _ _ _ h => h) (Or.inl ⟨by rfl,?_⟩) (by assumption) (by assumption) ?_; (rotate_left 1; (intro w hSw; (try dsimp only at hSw); go_simp); (try with_reducible rfl)); (try simp only [Act.put,Q3,Q4,Q5]))
 (refine wpAnyK_take2 (i:=14) (v:=?_) (by (simp only [Q0,Q1,Q2]; rfl)) (by kernel_rfl) (by kernel_rfl) (by kernel_rfl) (by decide) (by exact fun _ _ _ h => h) (Or.inl ⟨by rfl,?_⟩) (by assumption) (by assumption) ?_; (rotate_left 1; (intro w hSw; (try dsimp only at hSw); go_simp); (try with_reducible rfl)); (try simp only [Act.put,Q3,Q4,Q5]))
 (refine wpAnyK_take2 (i:=15) (v:=?_) (by (simp only [Q0,Q1,Q2]; rfl)) (by kernel_rfl) (by kernel_rfl) (by kernel_rfl) (by decide) (by exact fun _ _ _ h => h) (Or.inl ⟨by rfl,?_⟩) (by assumption) (by assumption) ?_; (rotate_left 1; (intro w hSw; (try dsimp only at hSw); go_simp); (try with_reducible rfl)); (try simp only [Act.put,Q3,Q4,Q5]))
 (refine wpAnyK_take2 (i:=16) (v:=?_) (by (simp only [Q0,Q1,Q2]; rfl)) (by kernel_rfl) (by kernel_rfl) (by kernel_rfl) (by decide) (by exact fun _ _ _ h => h) (Or.inl ⟨by rfl,?_⟩) (by assumption) (by assumption) ?_; (rotate_left 1; (intro w hSw; (try dsimp only at hSw); go_simp); (try with_reducible rfl)); (try simp only [Act.put,Q3,Q4,Q5]))
 refine wpAnyK_ready (rs:=[17]) (by kernel_rfl) (by simp) ?_
 refine AllReadyK.cons rfl (fun K hK => ?_) AllReadyK.nil
 go_simp
 have hb : Below W3.drew.heap.size W3.drew (W3.drew.alloc (.cells #[.string ⟨#[100]⟩] 9)):=(Below.refl _ _).alloc (Nat.le_refl _) _
 have hk : Blk (W3.drew.alloc (.cells #[.string ⟨#[100]⟩] 9)) W3.heap.size 9 #[.string ⟨#[100]⟩]:=Blk.at_ _ rfl
 have pb:=pb.below hb
 have hr:=hr.below hb
 have ho:=ho.below hb
 have hs:=hs.below hb
 have hbel:=hbel.trans (hb.mono hbel.size)
 refine hK.out _ _ (⟨pb.ge.g.w5.1,pb.wb.p.w7.1,pb.mb.cells.2.1,hs.w2.1,pb.fm.door.1⟩) (ho.w2.1) (fun hT hS => ?_)
 clear hK K
 (try simp only [Act.put,Q3,Q4,Q5])
 refine wpAnyK_ready (rs:=[18]) (by kernel_rfl) (by simp) ?_
 refine AllReadyK.cons rfl (fun K hK => ?_) AllReadyK.nil
 refine step_app (lo:=0) (base:=w.heap.size) (n:=0) (xs:=[]) _ rfl _ _ ty_strsL rfl (World.ownsRow_nil _ _ _ _) rfl (Row.lit (n:=1) (size:=1) hk (Nat.zero_le _) rfl) rfl rfl (by decide) (by decide) hbel.size ?_
 intro A5 c5 w5 hd g5 _
 have hd : w5.ownsRow w.heap.size 9 1 (.slice A5 1 c5) 1 [.string ⟨#[100]⟩]:=hd
 have hb:=grown_none' g5
 have pb:=pb.below hb
 have hr:=hr.below hb
 have ho:=ho.below hb
 have hs:=hs.below hb
 have hbel:=hbel.trans (hb.mono hbel.size)
 refine hK.out _ _ (⟨pb.ge.g.w5.1,pb.wb.p.w7.1,pb.mb.cells.2.1,hs.w2.1,pb.fm.door.1⟩) (ho.w2.1) (fun hT hS => ?_)
 clear hK K
 (try simp only [Act.put,Q3,Q4,Q5])
 (refine wpAnyK_take2 (i:=19) (v:=?_) (by (simp only [Q0,Q1,Q2]; rfl)) (by kernel_rfl) (by kernel_rfl) (by kernel_rfl) (by decide) (by exact fun _ _ _ h => h) (Or.inl ⟨by rfl,?_⟩) (by assumption) (by assumption) ?_; (rotate_left 1; (intro w hSw; (try dsimp only at hSw); go_simp); (try with_reducible rfl)); (try simp only [Act.put,Q3,Q4,Q5]))
 refine wpAnyK_ready (rs:=[20]) (by kernel_rfl) (by simp) ?_
 refine AllReadyK.consT (by kernel_rfl) rfl (fun K hK => ?_) AllReadyK.nil
 have fo:=ho.thaw 0
 have co:=ho.w2.1
 have zo:=ho.lt
 go_simp
 clear fo co
 have hr:=hr.past out 0 (.slice A5 1 c5) (by omega)
 have hd:=own_past hd ho (by decide) 0 (.slice A5 1 c5)
 have kk:=ho.kind
 have gg:=grown_poke w5 out 0 (.slice A5 1 c5)
 have pb:=pb.path gg kk
 have hs:=hs.other gg kk (by decide)
 have hbel:=Below.setCell hbel (show w.heap.size ≤ (⟨out,0,none⟩ : Addr).block from by simp; omega) (.slice A5 1 c5)
 have ho : Blk (w5.setCell ⟨out,0,none⟩ (.slice A5 1 c5)) out 120 #[.slice A5 1 c5,.int .i64 7]:=by simpa using ho.poke 0 (.slice A5 1 c5)
 refine hK.out _ _ (⟨pb.ge.g.w5.1,pb.wb.p.w7.1,pb.mb.cells.2.1,hs.w2.1,pb.fm.door.1⟩) (fun hT => ?_)
 clear hK K
 (try simp only [Act.put,Q3,Q4,Q5])
 refine wpAnyK_done (by kernel_rfl) ?_ _
 generalize w5.setCell ⟨out,0,none⟩ (.slice A5 1 c5) = W4 at *
 obtain ⟨k0,k1,k2,k3,k4⟩:=pb.ge.g.w5
 have f0:=own_at pb.ge.F 0 (u:=.int .i64 7) rfl
 have f1:=own_at pb.ge.F 1 (u:=.int .i64 1) rfl
 have f2:=own_at pb.ge.F 2 (u:=.int .i64 0) rfl
 have f3:=own_at pb.ge.F 3 (u:=.int .i64 0) rfl
 have b0:=own_at pb.ge.B 0 (u:=.bool false) rfl
 have b1:=own_at pb.ge.B 1 (u:=.bool true) rfl
 have e0:=own_at pb.ge.E 0 (u:=.slice (some ⟨yb,0,none⟩) 1 yc) rfl
 have y0:=own_at pb.ge.Y 0 (u:=.int .i64 0) rfl
 have y1:=own_at pb.ge.Y 1 (u:=.int .i64 1) rfl
 have w3:=pb.wb.p.w7.2.2.2.1
 have w0:=pb.wb.p.w7.1
 have wd:=pb.wb.door.2.2.1
 have m1:=pb.mb.cells.2.1
 have o0:=pb.fm.door.1
 have zg:=pb.ge.g.lt
 have zF:=(pb.ge.F.lt fb rfl).2
 have zB:=(pb.ge.B.lt n3 rfl).2
 have zE:=(pb.ge.E.lt n2 rfl).2
 have zY:=(pb.ge.Y.lt yb rfl).2
 have zp:=pb.wb.p.lt
 have zd:=pb.wb.d.lt
 have zm:=pb.mb.lt
 have zo:=pb.fm.doors.lt
 obtain ⟨s0,s1⟩:=hs.w2
 have zs:=hs.lt
 obtain ⟨q0,q1⟩:=ho.w2
 have zq:=ho.lt
 obtain ⟨u0,u1⟩:=hr.w2
 have fu0:=hr.thaw 0
 have fu1:=hr.thaw 1
 have zu:=hr.lt
 go_wp2_with fail
 rw [rounds_succ]
 go_wp2_with fail
 have hr2 : Blk ((W4.setCell ⟨w.heap.size,0,none⟩ (.slice A5 1 c5)).setCell ⟨w.heap.size,1,none⟩ (.int .i64 7)) w.heap.size 120 #[.slice A5 1 c5,.int .i64 7]:=by simpa using (hr.poke 0 (.slice A5 1 c5)).poke 1 (.int .i64 7)
 have hbel:=Below.setCell (Below.setCell hbel (show w.heap.size ≤ (⟨w.heap.size,0,none⟩ : Addr).block from Nat.le_refl _) (.slice A5 1 c5)) (show w.heap.size ≤ (⟨w.heap.size,1,none⟩ : Addr).block from Nat.le_refl _) (.int .i64 7)
 have hd:=own_past (own_past hd hr (by decide) 0 (.slice A5 1 c5)) (hr.poke 0 (.slice A5 1 c5)) (by decide) 1 (.int .i64 7)
 generalize (W4.setCell ⟨w.heap.size,0,none⟩ (.slice A5 1 c5)).setCell ⟨w.heap.size,1,none⟩ (.int .i64 7) = W5 at *
 obtain ⟨v0,v1⟩:=hr2.w2
 refine bodyPost_ret (v:=.tuple #[.agg #[.slice A5 1 c5,.int .i64 7],.bool true]) (by simp [results,Tryz.results86,go_sem,v0,v1]) rfl ?_
 exact ⟨A5,c5,rfl,Row.of_own hd,hbel⟩
def FastPost (w w' : World) (M R D : Nat) (e : Ending) : Prop:=∃ lo L p go g1 c1 g2 c2 g3 c3 x1 x2 x3 g n1 n2 n3 d1 d2 d3 yb yc fb fc,e = .returned (.pointer (some ⟨g,0,none⟩)) ∧ PB lo L w' M p go g1 c1 g2 c2 g3 c3 x1 x2 x3 g n1 n2 n3 d1 d2 d3 yb yc fb fc R D ∧ Below w.heap.size w w'
set_option maxHeartbeats 2000000 in
theorem fastest_fx (M R D : Nat) (w : World) (hm : MapB w M R D) (hf : FM w R D) : Calls Tryz.prog 85 #[.pointer (some ⟨M,0,none⟩),.slice none 0 0,.string ⟨#[]⟩] w fun e w' => FastPost w w' M R D e:=by
 go_enter Tryz.func85,Tryz.ntmps85
 go_wp2_with fail
 refine (newWorld_fx M R D _ hm hf).mono ?_
 rintro e w1 ⟨p,go,g1,c1,g2,c2,g3,c3,x1,x2,x3,rfl,hwb,hb1⟩
 go_wp2_with fail
 refine (begin_fx _ hwb).mono ?_
 rintro e w2 ⟨rfl,hb2⟩
 have hwb:=hwb.below hb2
 go_wp2_with fail
 refine (explore_fx _ hwb).mono ?_
 rintro e w3 ⟨g,n1,n2,n3,d1,d2,d3,yb,yc,fb,fc,rfl,hwb,hge,hb3⟩
 have hb:=below_up (below_up hb1 hb2) hb3
 go_wp2_with fail
 go_ret
 exact ⟨_,_,p,go,g1,c1,g2,c2,g3,c3,x1,x2,x3,g,n1,n2,n3,d1,d2,d3,yb,yc,fb,fc,rfl,⟨hwb,hge,hm.below hb,hf.below hb⟩,hb⟩
set_option maxHeartbeats 2000000 in
theorem Fastest_fx2 (R D : Nat) (w : World) (hf : FM w R D) : Calls Tryz.prog 46 #[.agg #[.slice (some ⟨R,0,none⟩) 2 2,.slice (some ⟨D,0,none⟩) 1 1,.string ⟨#[97]⟩,.string ⟨#[98]⟩],.slice none 0 0] w fun e w' => ∃ A c,e = .returned (.tuple #[.agg #[.slice A 1 c,.int .i64 7],.bool true,.int .i64 0]) ∧ Row w' w.heap.size 1 A 1 [.string ⟨#[100]⟩] ∧ Below w.heap.size w w':=by
 go_enter Tryz.func46,Tryz.ntmps46
 go_wp2_with fail
 have hm : MapB ((w.alloc (.cells #[.slice (some ⟨R,0,none⟩) 2 2,.slice (some ⟨D,0,none⟩) 1 1,.string ⟨#[97]⟩,.string ⟨#[98]⟩] 130)).alloc (.cells #[.slice none 0 0,.int .i64 0] 120)) w.heap.size R D:=(show Blk _ _ _ _ from Blk.at_ _ rfl).alloc _
 have hr : Blk ((w.alloc (.cells #[.slice (some ⟨R,0,none⟩) 2 2,.slice (some ⟨D,0,none⟩) 1 1,.string ⟨#[97]⟩,.string ⟨#[98]⟩] 130)).alloc (.cells #[.slice none 0 0,.int .i64 0] 120)) (w.heap.size + 1) 120 #[.slice none 0 0,.int .i64 0]:=Blk.at_ _ (by simp)
 have hbel : Below w.heap.size w ((w.alloc (.cells #[.slice (some ⟨R,0,none⟩) 2 2,.slice (some ⟨D,0,none⟩) 1 1,.string ⟨#[97]⟩,.string ⟨#[98]⟩] 130)).alloc (.cells #[.slice none 0 0,.int .i64 0] 120)):=(by repeat (first | exact Below.refl _ _ | refine Below.alloc ?_ (by first | omega | (simp; omega) | simp) _ | refine below_drewN' ?_ _ | refine Below.drew ?_))
 have hf:=(hf.alloc (.cells #[.slice (some ⟨R,0,none⟩) 2 2,.slice (some ⟨D,0,none⟩) 1 1,.string ⟨#[97]⟩,.string ⟨#[98]⟩] 130)).alloc (.cells #[.slice none 0 0,.int .i64 0] 120)
 generalize (w.alloc (.cells #[.slice (some ⟨R,0,none⟩) 2 2,.slice (some ⟨D,0,none⟩) 1 1,.string ⟨#[97]⟩,.string ⟨#[98]⟩] 130)).alloc (.cells #[.slice none 0 0,.int .i64 0] 120) = W1 at *
 have hrz : w.heap.size ≤ w.heap.size + 1:=Nat.le_succ _
 generalize w.heap.size + 1 = r at *
 refine (checkTricks_fx R D _ hf).mono ?_
 rintro e w2 ⟨rfl,hb⟩
 have hm:=hm.below hb
 have hf:=hf.below hb
 have hr:=hr.below hb
 have hbel:=hbel.trans (hb.mono hbel.size)
 clear hb
 go_wp2_with fail
 refine (fastest_fx _ R D _ hm hf).mono ?_
 rintro e w3 ⟨lo,L,p,go,g1,c1,g2,c2,g3,c3,x1,x2,x3,g,n1,n2,n3,d1,d2,d3,yb,yc,fb,fc,rfl,pb,hb⟩
 have hr:=hr.below hb
 have hbel:=hbel.trans (hb.mono hbel.size)
 clear hb hm hf
 go_wp2_with fail
 refine (path_fx2 _ pb).mono ?_
 rintro e w4 ⟨A,c,rfl,hd,hb⟩
 have hrl:=hr.lt
 have hdw:=hbel.size
 have hd:=(((hd.set_lowL r 0 (.slice A 1 c) hrl).set_lowL r 1 (.int .i64 7) hrl).alloc (.cells #[.slice A 1 c,.int .i64 7] 120)).weak hdw
 have HD:=Lib.hid hd
 clear hd hdw hrl
 have hr:=hr.below hb
 have hbel:=hbel.trans (hb.mono hbel.size)
 obtain ⟨u0,u1⟩:=hr.w2
 have fu0:=hr.thaw 0
 have fu1:=hr.thaw 1
 have zu:=hr.lt
 clear hb pb
 go_wp2_with fail
 have hr2 : Blk (((w4.setCell ⟨r,0,none⟩ (.slice A 1 c)).setCell ⟨r,1,none⟩ (.int .i64 7)).alloc (.cells #[.slice A 1 c,.int .i64 7] 120)) r 120 #[.slice A 1 c,.int .i64 7]:=(show Blk _ _ _ _ by simpa using (hr.poke 0 (.slice A 1 c)).poke 1 (.int .i64 7)).alloc _
 have hbel:=Below.setCell (Below.setCell hbel (show w.heap.size ≤ (⟨r,0,none⟩ : Addr).block from hrz) (.slice A 1 c)) (show w.heap.size ≤ (⟨r,1,none⟩ : Addr).block from hrz) (.int .i64 7)
 have hbel:=hbel.alloc hbel.size (.cells #[.slice A 1 c,.int .i64 7] 120)
 generalize (((w4.setCell ⟨r,0,none⟩ (.slice A 1 c)).setCell ⟨r,1,none⟩ (.int .i64 7)).alloc (.cells #[.slice A 1 c,.int .i64 7] 120)) = W5 at *
 obtain ⟨v0,v1⟩:=hr2.w2
 refine bodyPost_ret (v:=.tuple #[.agg #[.slice A 1 c,.int .i64 7],.bool true,.int .i64 0]) (by simp [results,Tryz.results46,go_sem,v0,v1]) rfl ?_
 exact ⟨A,c,rfl,HD.out,hbel⟩
theorem Fastest_fx (R D : Nat) (w : World) (hf : FM w R D) : Calls Tryz.prog 46 #[.agg #[.slice (some ⟨R,0,none⟩) 2 2,.slice (some ⟨D,0,none⟩) 1 1,.string ⟨#[97]⟩,.string ⟨#[98]⟩],.slice none 0 0] w fun e w' => ∃ A c,e = .returned (.tuple #[.agg #[.slice A 1 c,.int .i64 7],.bool true,.int .i64 0]) ∧ Below w.heap.size w w' :=
 (Fastest_fx2 R D w hf).mono fun _ _ ⟨A,c,h1,_,h2⟩ => ⟨A,c,h1,h2⟩
end Go.Proofs.YtbfphnknkbhpkaaGreatDoor
