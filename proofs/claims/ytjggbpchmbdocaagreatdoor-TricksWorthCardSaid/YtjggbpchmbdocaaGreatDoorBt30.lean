/- Texts of this seat, laid together: RtK RtI RtL. -/
import Derived.Test.YtjggbpchmbdocaaGreatDoorBt11
import Derived.Test.YtjggbpchmbdocaaGreatDoorBt02
import Derived.Test.YtjggbpchmbdocaaGreatDoorBt08
import Derived.Test.YtjggbpchmbdocaaGreatDoorBt04
/- The walk of measure at the one graph. -/
set_option linter.unusedVariables false
set_option linter.unusedSimpArgs false
namespace Go.Proofs.YtjggbpchmbdocaaGreatDoor
open Go.RowKit

theorem ty_stepsK : SliceTy Tryz.prog 162 164 2 16:=.mk' Tryz.underlying162 (z:=.agg #[.int .i64 0,.int .i64 0]) (by kernel_rfl) rfl (by decide)
theorem grown_low {w W W' : World} {g : Nat} (h : w.grownBy W (some g)) (hb : Below w.heap.size W W') : w.grownBy W' (some g):=⟨hb.os.trans h.os,hb.tape.trans h.tape,hb.output.trans h.output,Nat.le_trans h.size hb.size,fun i hi hne => (hb.block i hi).trans (h.block i hi hne)⟩
structure MB (w W : World) (cg : Array Value) (g kb sb sc fb fc : Nat) (fs : List (Int × Int)) : Prop where
  G : w.grownBy W (some g)
  g : Blk W g 117 cg
  bk : W.ownsRow w.heap.size 162 1 (.slice (some ⟨kb, 0, none⟩) 2 2) 2 [.slice none 0 0, .slice (some ⟨sb, 0, none⟩) 1 sc]
  bs : W.ownsRow w.heap.size 164 2 (.slice (some ⟨sb, 0, none⟩) 1 sc) 1 [.int .i64 0, .int .i64 0]
  F : W.ownsRow w.heap.size 111 2 (.slice (some ⟨fb, 0, none⟩) 2 fc) 2 (prs fs)
section
variable {w W W' : World} {cg : Array Value} {g kb sb sc fb fc : Nat} {fs : List (Int × Int)}
theorem MB.below (h : MB w W cg g kb sb sc fb fc fs) (hb : Below W.heap.size W W') : MB w W' cg g kb sb sc fb fc fs:=⟨grown_trans' h.G (grown_of_below hb _),h.g.below hb,own_keep h.bk hb,own_keep h.bs hb,own_keep h.F hb⟩
theorem MB.alloc (h : MB w W cg g kb sb sc fb fc fs) (o : Obj) : MB w (W.alloc o) cg g kb sb sc fb fc fs:=h.below ((Below.refl _ _).alloc (Nat.le_refl _) o)
theorem MB.drew (h : MB w W cg g kb sb sc fb fc fs) : MB w W.drew cg g kb sb sc fb fc fs:=⟨grown_drew h.G,h.g,h.bk,h.bs,h.F⟩
theorem MB.drewN (h : MB w W cg g kb sb sc fb fc fs) (n : Nat) : MB w (W.drewN n) cg g kb sb sc fb fc fs:=⟨grown_drewN h.G n,h.g,h.bk,h.bs,h.F⟩
theorem MB.qf (h : MB w W cg g kb sb sc fb fc fs) (hq : QF w.heap.size W W') : MB w W' cg g kb sb sc fb fc fs:=⟨grown_low h.G hq.bel,h.g.qf hq (by decide) (by decide),own_qf h.bk hq (by decide) (by decide),own_qf h.bs hq (by decide) (by decide),own_qf h.F hq (by decide) (by decide)⟩
theorem MB.put (h : MB w W cg g kb sb sc fb fc fs) (i : Nat) (hi : i < fs.length) (hn : fs.length = 2) (x y : Int) : MB w ((W.setCell ⟨fb,i * 2,none⟩ (.int .i64 x)).setCell ⟨fb,i * 2 + 1,none⟩ (.int .i64 y)) cg g kb sb sc fb fc (fs.set i (x,y)):=by
 have k:=own_kind h.F
 have h1 : ((W.setCell ⟨fb,i * 2,none⟩ (.int .i64 x)).setCell ⟨fb,i * 2 + 1,none⟩ (.int .i64 y)).ownsRow w.heap.size 111 2 (.slice (some ⟨fb,0,none⟩) 2 fc) 2 (prs (fs.set i (x,y))):=by
  match fs,hn,hi,h.F with
  | [a,b],_,hi,hF => exact own_prs_set2 (ps:=[a,b]) hF i hi x y
 have k1:=own_kind (h.F.stored (i * 2) (.int .i64 x)).1;have a1:=grown_poke W fb (i * 2) (.int .i64 x);have a2:=grown_poke (W.setCell ⟨fb,i * 2,none⟩ (.int .i64 x)) fb (i * 2 + 1) (.int .i64 y);have zf:=(h.F.lt fb rfl).1;exact ⟨grown_set_new (grown_set_new h.G (p:=⟨fb,i * 2,none⟩) zf _) (p:=⟨fb,i * 2 + 1,none⟩) zf _,(h.g.other a1 k (by decide)).other a2 k1 (by decide),own_other (own_other h.bk a1 k (by decide)) a2 k1 (by decide),own_other (own_other h.bs a1 k (by decide)) a2 k1 (by decide),h1⟩
theorem MB.size (h : MB w W cg g kb sb sc fb fc fs) : w.heap.size ≤ W.heap.size:=h.G.size
theorem MB.low (h : MB w W cg g kb sb sc fb fc fs) : w.heap.size ≤ fb ∧ fb < W.heap.size ∧ sb < W.heap.size ∧ kb < W.heap.size ∧ g < W.heap.size:=⟨(h.F.lt fb rfl).1,(h.F.lt fb rfl).2,(h.bs.lt sb rfl).2,(h.bk.lt kb rfl).2,h.g.lt⟩
end
end Go.Proofs.YtjggbpchmbdocaaGreatDoor
/- The walk of explore at the one map. -/
namespace Go.Proofs.YtjggbpchmbdocaaGreatDoor
open Go.RowKit

def X2 (w wr : World) (L : Nat) (M p go g1 c1 g2 c2 g3 c3 : Nat) (x1 x2 x3 : Array Value) (g mv gv t mb : Nat) : Prop :=
 GR L wr M p go g1 c1 g2 c2 g3 c3 x1 x2 x3 g mv gv t mb ∧ Below w.heap.size w wr ∧ ∃ AY cy,IxPost w.heap.size wr p g mb 2 es2 [.int .i64 0,.int .i64 0,.int .i64 0,.int .i64 1,.int .i64 0,.int .i64 0] [.slice AY 1 cy,.slice none 0 0] [.bool false,.bool true] ∧ wr.ownsRow w.heap.size 164 2 (.slice AY 1 cy) 1 [.int .i64 0,.int .i64 1]
theorem ty_steps : SliceTy Tryz.prog 162 164 2 16:=.mk' Tryz.underlying162 (z:=.agg #[.int .i64 0,.int .i64 0]) (by kernel_rfl) rfl (by decide)

theorem GR.drewN {L : Nat} {w : World} {M p go g1 c1 g2 c2 g3 c3 : Nat} {x1 x2 x3 : Array Value} {g mv gv t mb : Nat} (h : GR L w M p go g1 c1 g2 c2 g3 c3 x1 x2 x3 g mv gv t mb) (k : Nat) : GR L (w.drewN k) M p go g1 c1 g2 c2 g3 c3 x1 x2 x3 g mv gv t mb:=⟨⟨h.wb.p,h.wb.g,h.wb.hx1,h.wb.d,h.wb.hx2,h.wb.o,h.wb.h,h.wb.hx3,h.wb.z⟩,h.mv,h.gv,h.t⟩
section
variable {lo : Nat} {w w' : World} {p g mb n s : Nat} {es : Array MapEntry} {xs ed bs : List Value} {N E B : Value}
theorem GN.drewN (h : GN lo w p g mb n es xs ed bs N E B) (k : Nat) : GN lo (w.drewN k) p g mb n es xs ed bs N E B:=⟨h.g,h.mb,h.N,h.E,h.B⟩
theorem poke_hs {a b c : Value} (hs : Blk w s 101 #[a,b,c]) (x y z : Value) : Blk (((w.setCell ⟨s,0,none⟩ x).setCell ⟨s,1,none⟩ y).setCell ⟨s,2,none⟩ z) s 101 #[x,y,z]:=by simpa using ((hs.poke 0 x).poke 1 y).poke 2 z
end
structure GE (lo : Nat) (W : World) (p g n1 n2 n3 d1 d2 d3 yb yc fb fc : Nat) : Prop where
  g : Blk W g 117 #[.pointer (some ⟨p, 0, none⟩), .slice (some ⟨n1, 0, none⟩) 2 d1, .slice (some ⟨n2, 0, none⟩) 2 d2, .slice (some ⟨n3, 0, none⟩) 2 d3, .slice (some ⟨fb, 0, none⟩) 2 fc]
  E : W.ownsRow lo 162 1 (.slice (some ⟨n2, 0, none⟩) 2 d2) 2 [.slice (some ⟨yb, 0, none⟩) 1 yc, .slice none 0 0]
  B : W.ownsRow lo 4 1 (.slice (some ⟨n3, 0, none⟩) 2 d3) 2 [.bool false, .bool true]
  Y : W.ownsRow lo 164 2 (.slice (some ⟨yb, 0, none⟩) 1 yc) 1 [.int .i64 0, .int .i64 1]
  F : W.ownsRow lo 111 2 (.slice (some ⟨fb, 0, none⟩) 2 fc) 2 (prs [(7, 1), (0, 0)])
end Go.Proofs.YtjggbpchmbdocaaGreatDoor
/- The walks of path, fastest and Fastest at the one map. -/
namespace Go.Proofs.YtjggbpchmbdocaaGreatDoor
open Go.RowKit

theorem ty_strsL : SliceTy Tryz.prog 30 9 1 16:=.mk' Tryz.underlying30 (z:=.string ⟨#[]⟩) (by kernel_rfl) rfl (by decide)
structure PB (lo L : Nat) (W : World) (M p go g1 c1 g2 c2 g3 c3 : Nat) (x1 x2 x3 : Array Value) (g n1 n2 n3 d1 d2 d3 yb yc fb fc R D : Nat) : Prop where
  wb : WB L W M p go g1 c1 g2 c2 g3 c3 x1 x2 x3
  ge : GE lo W p g n1 n2 n3 d1 d2 d3 yb yc fb fc
  mb : MapB W M R D
  fm : FM W R D
section
variable {lo L : Nat} {w W : World} {M p go g1 c1 g2 c2 g3 c3 : Nat} {x1 x2 x3 : Array Value} {g n1 n2 n3 d1 d2 d3 yb yc fb fc R D : Nat}
theorem GE.below (h : GE lo w p g n1 n2 n3 d1 d2 d3 yb yc fb fc) (hb : Below w.heap.size w W) : GE lo W p g n1 n2 n3 d1 d2 d3 yb yc fb fc:=⟨h.g.below hb,own_keep h.E hb,own_keep h.B hb,own_keep h.Y hb,own_keep h.F hb⟩
theorem PB.below (h : PB lo L w M p go g1 c1 g2 c2 g3 c3 x1 x2 x3 g n1 n2 n3 d1 d2 d3 yb yc fb fc R D) (hb : Below w.heap.size w W) : PB lo L W M p go g1 c1 g2 c2 g3 c3 x1 x2 x3 g n1 n2 n3 d1 d2 d3 yb yc fb fc R D:=⟨h.wb.below hb,h.ge.below hb,h.mb.below hb,h.fm.below hb⟩
theorem PB.path {row : Option Nat} (h : PB lo L w M p go g1 c1 g2 c2 g3 c3 x1 x2 x3 g n1 n2 n3 d1 d2 d3 yb yc fb fc R D) (hg : w.grownBy W row) (hk : Kind w row (some 40)) : PB lo L W M p go g1 c1 g2 c2 g3 c3 x1 x2 x3 g n1 n2 n3 d1 d2 d3 yb yc fb fc R D :=
 ⟨h.wb.other hg hk (by decide),⟨h.ge.g.other hg hk (by decide),own_other h.ge.E hg hk (by decide),own_other h.ge.B hg hk (by decide),own_other h.ge.Y hg hk (by decide),own_other h.ge.F hg hk (by decide)⟩,Blk.other h.mb hg hk (by decide),⟨h.fm.rooms.other hg hk (by decide),h.fm.doors.other hg hk (by decide)⟩⟩
end

end Go.Proofs.YtjggbpchmbdocaaGreatDoor
