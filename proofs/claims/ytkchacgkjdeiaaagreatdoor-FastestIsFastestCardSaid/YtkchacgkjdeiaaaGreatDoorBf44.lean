/- Texts of this seat, laid together: RtK RtI RtL HpF HpG HpI HpP. -/
import Derived.Test.YtkchacgkjdeiaaaGreatDoorBf35
import Derived.Test.YtkchacgkjdeiaaaGreatDoorBf04
import Derived.Test.YtkchacgkjdeiaaaGreatDoorBf33
import Derived.Test.YtkchacgkjdeiaaaGreatDoorBf28
import Derived.Test.YtkchacgkjdeiaaaGreatDoorBf37
import Derived.Test.YtkchacgkjdeiaaaGreatDoorBf32
import Derived.Test.YtkchacgkjdeiaaaGreatDoorBf43
import Derived.Test.YtkchacgkjdeiaaaGreatDoorBf34
/- The walk of measure at the one graph. -/
set_option linter.unusedVariables false
set_option linter.unusedSimpArgs false
namespace Go.Proofs.YtkchacgkjdeiaaaGreatDoor
open Go.RowKit

theorem ty_stepsK : SliceTy Tryz.prog 244 246 2 16:=.mk' Tryz.underlying244 (z:=.agg #[.int .i64 0,.int .i64 0]) (by kernel_rfl) rfl (by decide)
theorem grown_low {w W W' : World} {g : Nat} (h : w.grownBy W (some g)) (hb : Below w.heap.size W W') : w.grownBy W' (some g):=⟨hb.os.trans h.os,hb.tape.trans h.tape,hb.output.trans h.output,Nat.le_trans h.size hb.size,fun i hi hne => (hb.block i hi).trans (h.block i hi hne)⟩
structure MB (w W : World) (cg : Array Value) (g kb sb sc fb fc : Nat) (fs : List (Int × Int)) : Prop where
  G : w.grownBy W (some g)
  g : Blk W g 243 cg
  bk : W.ownsRow w.heap.size 244 1 (.slice (some ⟨kb, 0, none⟩) 2 2) 2 [.slice none 0 0, .slice (some ⟨sb, 0, none⟩) 1 sc]
  bs : W.ownsRow w.heap.size 246 2 (.slice (some ⟨sb, 0, none⟩) 1 sc) 1 [.int .i64 0, .int .i64 0]
  F : W.ownsRow w.heap.size 238 2 (.slice (some ⟨fb, 0, none⟩) 2 fc) 2 (prs fs)
section
variable {w W W' : World} {cg : Array Value} {g kb sb sc fb fc : Nat} {fs : List (Int × Int)}
theorem MB.below (h : MB w W cg g kb sb sc fb fc fs) (hb : Below W.heap.size W W') : MB w W' cg g kb sb sc fb fc fs:=⟨grown_trans' h.G (grown_of_below hb _),h.g.below hb,own_keep h.bk hb,own_keep h.bs hb,own_keep h.F hb⟩
theorem MB.alloc (h : MB w W cg g kb sb sc fb fc fs) (o : Obj) : MB w (W.alloc o) cg g kb sb sc fb fc fs:=h.below ((Below.refl _ _).alloc (Nat.le_refl _) o)
theorem MB.drew (h : MB w W cg g kb sb sc fb fc fs) : MB w W.drew cg g kb sb sc fb fc fs:=⟨grown_drew h.G,h.g,h.bk,h.bs,h.F⟩
theorem MB.drewN (h : MB w W cg g kb sb sc fb fc fs) (n : Nat) : MB w (W.drewN n) cg g kb sb sc fb fc fs:=⟨grown_drewN h.G n,h.g,h.bk,h.bs,h.F⟩
theorem MB.qf (h : MB w W cg g kb sb sc fb fc fs) (hq : QF w.heap.size W W') : MB w W' cg g kb sb sc fb fc fs:=⟨grown_low h.G hq.bel,h.g.qf hq (by decide) (by decide),own_qf h.bk hq (by decide) (by decide),own_qf h.bs hq (by decide) (by decide),own_qf h.F hq (by decide) (by decide)⟩
theorem MB.put (h : MB w W cg g kb sb sc fb fc fs) (i : Nat) (hi : i < fs.length) (hn : fs.length = 2) (x y : Int) : MB w ((W.setCell ⟨fb,i * 2,none⟩ (.int .i64 x)).setCell ⟨fb,i * 2 + 1,none⟩ (.int .i64 y)) cg g kb sb sc fb fc (fs.set i (x,y)):=by
 have k:=own_kind h.F
 have h1 : ((W.setCell ⟨fb,i * 2,none⟩ (.int .i64 x)).setCell ⟨fb,i * 2 + 1,none⟩ (.int .i64 y)).ownsRow w.heap.size 238 2 (.slice (some ⟨fb,0,none⟩) 2 fc) 2 (prs (fs.set i (x,y))):=by
  match fs,hn,hi,h.F with
  | [a,b],_,hi,hF => exact own_prs_set2 (ps:=[a,b]) hF i hi x y
 have k1:=own_kind (h.F.stored (i * 2) (.int .i64 x)).1;have a1:=grown_poke W fb (i * 2) (.int .i64 x);have a2:=grown_poke (W.setCell ⟨fb,i * 2,none⟩ (.int .i64 x)) fb (i * 2 + 1) (.int .i64 y);have zf:=(h.F.lt fb rfl).1;exact ⟨grown_set_new (grown_set_new h.G (p:=⟨fb,i * 2,none⟩) zf _) (p:=⟨fb,i * 2 + 1,none⟩) zf _,(h.g.other a1 k (by decide)).other a2 k1 (by decide),own_other (own_other h.bk a1 k (by decide)) a2 k1 (by decide),own_other (own_other h.bs a1 k (by decide)) a2 k1 (by decide),h1⟩
theorem MB.size (h : MB w W cg g kb sb sc fb fc fs) : w.heap.size ≤ W.heap.size:=h.G.size
end
end Go.Proofs.YtkchacgkjdeiaaaGreatDoor
/- The walk of explore at the one map. -/
namespace Go.Proofs.YtkchacgkjdeiaaaGreatDoor
open Go.RowKit

def X2 (w wr : World) (L : Nat) (M p go g1 c1 g2 c2 g3 c3 : Nat) (x1 x2 x3 : Array Value) (g mv gv t mb : Nat) : Prop :=
 GR L wr M p go g1 c1 g2 c2 g3 c3 x1 x2 x3 g mv gv t mb ∧ Below w.heap.size w wr ∧ ∃ AY cy,IxPost w.heap.size wr p g mb 2 es2 [.int .i64 0,.int .i64 0,.int .i64 0,.int .i64 1,.int .i64 0,.int .i64 0] [.slice AY 1 cy,.slice none 0 0] [.bool false,.bool true] ∧ wr.ownsRow w.heap.size 246 2 (.slice AY 1 cy) 1 [.int .i64 0,.int .i64 1]
theorem ty_steps : SliceTy Tryz.prog 244 246 2 16:=.mk' Tryz.underlying244 (z:=.agg #[.int .i64 0,.int .i64 0]) (by kernel_rfl) rfl (by decide)

theorem GR.drewN {L : Nat} {w : World} {M p go g1 c1 g2 c2 g3 c3 : Nat} {x1 x2 x3 : Array Value} {g mv gv t mb : Nat} (h : GR L w M p go g1 c1 g2 c2 g3 c3 x1 x2 x3 g mv gv t mb) (k : Nat) : GR L (w.drewN k) M p go g1 c1 g2 c2 g3 c3 x1 x2 x3 g mv gv t mb:=⟨⟨h.wb.p,h.wb.g,h.wb.hx1,h.wb.d,h.wb.hx2,h.wb.o,h.wb.h,h.wb.hx3,h.wb.z⟩,h.mv,h.gv,h.t⟩
section
variable {lo : Nat} {w w' : World} {p g mb n s : Nat} {es : Array MapEntry} {xs ed bs : List Value} {N E B : Value}
theorem GN.drewN (h : GN lo w p g mb n es xs ed bs N E B) (k : Nat) : GN lo (w.drewN k) p g mb n es xs ed bs N E B:=⟨h.g,h.mb,h.N,h.E,h.B⟩
theorem poke_hs {a b c : Value} (hs : Blk w s 232 #[a,b,c]) (x y z : Value) : Blk (((w.setCell ⟨s,0,none⟩ x).setCell ⟨s,1,none⟩ y).setCell ⟨s,2,none⟩ z) s 232 #[x,y,z]:=by simpa using ((hs.poke 0 x).poke 1 y).poke 2 z
end
structure GE (lo : Nat) (W : World) (p g n1 n2 n3 d1 d2 d3 yb yc fb fc : Nat) : Prop where
  g : Blk W g 243 #[.pointer (some ⟨p, 0, none⟩), .slice (some ⟨n1, 0, none⟩) 2 d1, .slice (some ⟨n2, 0, none⟩) 2 d2, .slice (some ⟨n3, 0, none⟩) 2 d3, .slice (some ⟨fb, 0, none⟩) 2 fc]
  E : W.ownsRow lo 244 1 (.slice (some ⟨n2, 0, none⟩) 2 d2) 2 [.slice (some ⟨yb, 0, none⟩) 1 yc, .slice none 0 0]
  B : W.ownsRow lo 4 1 (.slice (some ⟨n3, 0, none⟩) 2 d3) 2 [.bool false, .bool true]
  Y : W.ownsRow lo 246 2 (.slice (some ⟨yb, 0, none⟩) 1 yc) 1 [.int .i64 0, .int .i64 1]
  F : W.ownsRow lo 238 2 (.slice (some ⟨fb, 0, none⟩) 2 fc) 2 (prs [(7, 1), (0, 0)])
end Go.Proofs.YtkchacgkjdeiaaaGreatDoor
/- The walks of path, fastest and Fastest at the one map. -/
namespace Go.Proofs.YtkchacgkjdeiaaaGreatDoor
open Go.RowKit

theorem ty_strsL : SliceTy Tryz.prog 26 9 1 16:=.mk' Tryz.underlying26 (z:=.string ⟨#[]⟩) (by kernel_rfl) rfl (by decide)
structure PB (lo L : Nat) (W : World) (M p go g1 c1 g2 c2 g3 c3 : Nat) (x1 x2 x3 : Array Value) (g n1 n2 n3 d1 d2 d3 yb yc fb fc R D : Nat) : Prop where
  wb : WB L W M p go g1 c1 g2 c2 g3 c3 x1 x2 x3
  ge : GE lo W p g n1 n2 n3 d1 d2 d3 yb yc fb fc
  mb : MapB W M R D
  fm : FM W R D
section
variable {lo L : Nat} {w W : World} {M p go g1 c1 g2 c2 g3 c3 : Nat} {x1 x2 x3 : Array Value} {g n1 n2 n3 d1 d2 d3 yb yc fb fc R D : Nat}
theorem GE.below (h : GE lo w p g n1 n2 n3 d1 d2 d3 yb yc fb fc) (hb : Below w.heap.size w W) : GE lo W p g n1 n2 n3 d1 d2 d3 yb yc fb fc:=⟨h.g.below hb,own_keep h.E hb,own_keep h.B hb,own_keep h.Y hb,own_keep h.F hb⟩
theorem PB.below (h : PB lo L w M p go g1 c1 g2 c2 g3 c3 x1 x2 x3 g n1 n2 n3 d1 d2 d3 yb yc fb fc R D) (hb : Below w.heap.size w W) : PB lo L W M p go g1 c1 g2 c2 g3 c3 x1 x2 x3 g n1 n2 n3 d1 d2 d3 yb yc fb fc R D:=⟨h.wb.below hb,h.ge.below hb,h.mb.below hb,h.fm.below hb⟩
theorem PB.path {row : Option Nat} (h : PB lo L w M p go g1 c1 g2 c2 g3 c3 x1 x2 x3 g n1 n2 n3 d1 d2 d3 yb yc fb fc R D) (hg : w.grownBy W row) (hk : Kind w row (some 130)) : PB lo L W M p go g1 c1 g2 c2 g3 c3 x1 x2 x3 g n1 n2 n3 d1 d2 d3 yb yc fb fc R D :=
 ⟨h.wb.other hg hk (by decide),⟨h.ge.g.other hg hk (by decide),own_other h.ge.E hg hk (by decide),own_other h.ge.B hg hk (by decide),own_other h.ge.Y hg hk (by decide),own_other h.ge.F hg hk (by decide)⟩,Blk.other h.mb hg hk (by decide),⟨h.fm.rooms.other hg hk (by decide),h.fm.doors.other hg hk (by decide)⟩⟩
end

end Go.Proofs.YtkchacgkjdeiaaaGreatDoor
/- The walk of measure at any graph of states. -/
namespace Go.Proofs.YtkchacgkjdeiaaaGreatDoor
open Go.RowKit Go.Sort

def encG (p : Nat × Nat) : List Value:=[.int .i64 (p.1 : Int),.int .i64 (p.2 : Int)]
theorem encG_len (p : Nat × Nat) : (encG p).length = 2:=rfl
def StpR (w : World) (lo eb : Nat) (stp : List (List (Nat × Nat))) : Prop:=∀ i (h : i < stp.length),∃ A c,w.cell? ⟨eb,i,none⟩ = some (.slice A stp[i].length c) ∧ Row w lo 2 A stp[i].length (stp[i].flatMap encG)
theorem StpR.grown {w W : World} {lo eb g : Nat} {stp : List (List (Nat × Nat))} (h : StpR w lo eb stp) (G : w.grownBy W (some g)) (hg : g < lo) (he : eb ≠ g) : StpR W lo eb stp:=fun i hi =>
 let ⟨A,c,a,b⟩:=h i hi; ⟨A,c,G.cell a (fun e => he (by injection e)),b.grown G hg⟩
theorem StpR.at {w : World} {lo : Nat} {A : Option Addr} {l : List (Nat × Nat)} (h : Row w lo 2 A l.length (l.flatMap encG)) {m : Nat} (hm : m < l.length) : ∃ b off,A = some ⟨b,off,none⟩ ∧ b < w.heap.size ∧ w.cell? ⟨b,off + m * 2,none⟩ = some (.int .i64 ((l[m].1 : Nat) : Int)) ∧ w.cell? ⟨b,off + m * 2 + 1,none⟩ = some (.int .i64 ((l[m].2 : Nat) : Int)):=by
 obtain ⟨b,off,e,_,hb,hc⟩:=h.2 (by omega)
 have g : ∀ j (hj : j < 2) u,(encG l[m])[j]? = some u → w.cell? ⟨b,off + m * 2 + j,none⟩ = some u:=fun j hj u hu => by
  rw [Nat.add_assoc]; exact hc (m * 2 + j) u (by rw [flat_at encG 2 encG_len l m hm j hj,hu])
 exact ⟨b,off,e,hb,g 0 (by omega) _ rfl,g 1 (by omega) _ rfl⟩
structure BkOk (n : Nat) (stp rows : List (List (Nat × Nat))) (i m : Nat) : Prop where
  len : rows.length = n
  mem : ∀ k a j, (k, a) ∈ rows.getD j [] ↔ (a < i ∧ (k, j) ∈ stp.getD a []) ∨ (a = i ∧ (k, j) ∈ (stp.getD i []).take m)
  sum : (rows.map List.length).sum ≤ 500 * i + m
theorem getD_rep {n j : Nat} : (List.replicate n ([] : List (Nat × Nat))).getD j [] = []:=by
 rw [List.getD_eq_getElem?_getD,List.getElem?_replicate]; split <;> rfl
theorem BkOk.start (n : Nat) (stp : List (List (Nat × Nat))) : BkOk n stp (List.replicate n []) 0 0:=by
 refine ⟨by simp,fun k a j => ?_,?_⟩
 ·rw [getD_rep]; simp
 ·simp
theorem BkOk.over {n i m : Nat} {stp rows : List (List (Nat × Nat))} (h : BkOk n stp rows i m) (hm : m = (stp.getD i []).length) (hl : m ≤ 500) : BkOk n stp rows (i + 1) 0:=by
 refine ⟨h.len,fun k a j => ?_,by have:=h.sum; omega⟩;rw [h.mem,hm,List.take_length]
 constructor
 ·rintro (⟨h1,h2⟩ | ⟨rfl,h2⟩)
  ·exact .inl ⟨by omega,h2⟩
  ·exact .inl ⟨by omega,h2⟩
 ·rintro (⟨h1,h2⟩ | ⟨_,h2⟩)
  ·by_cases e : a = i
   ·subst e; exact .inr ⟨rfl,h2⟩
   ·exact .inl ⟨by omega,h2⟩
  ·simp at h2
theorem sum_set : ∀ (rows : List (List (Nat × Nat))) (j : Nat) (h : j < rows.length) (x : Nat × Nat),((rows.set j (rows[j] ++ [x])).map List.length).sum = (rows.map List.length).sum + 1
 | r :: rows,0,_,x => by simp; omega
 | r :: rows,j + 1,h,x => by
  simp only [Q5,List.map_cons,List.sum_cons,List.getElem_cons_succ];rw [sum_set rows j (by simpa using h) x]; omega
theorem BkOk.next {n i m k j : Nat} {stp rows : List (List (Nat × Nat))} {R : List (Nat × Nat)} (h : BkOk n stp rows i m) (hm : (stp.getD i [])[m]? = some (k,j)) (hR : rows[j]? = some R) : BkOk n stp (rows.set j (R ++ [(k,i)])) i (m + 1):=by
 obtain ⟨hj,rfl⟩:=List.getElem?_eq_some_iff.1 hR;obtain ⟨hml,hme⟩:=List.getElem?_eq_some_iff.1 hm;refine ⟨by simp [h.len],fun k' a j' => ?_,by rw [sum_set]; have:=h.sum; omega⟩
 have hr : (rows.set j (rows[j] ++ [(k,i)])).getD j' [] = if j' = j then rows.getD j [] ++ [(k,i)] else rows.getD j' []:=by
  simp only [List.getD_eq_getElem?_getD]
  by_cases e : j' = j
  ·subst e; rw [if_pos rfl,List.getElem?_set_self hj,List.getElem?_eq_getElem hj]; rfl
  ·rw [if_neg e,List.getElem?_set_ne (Ne.symm e)]
 rw [hr,List.take_add_one,hm];simp only [Option.toList_some,List.mem_append,List.mem_singleton,Prod.mk.injEq]
 by_cases e : j' = j
 ·subst e
  rw [if_pos rfl,List.mem_append,h.mem,List.mem_singleton,Prod.mk.injEq]
  constructor
  ·rintro ((h1 | h1) | ⟨rfl,rfl⟩)
   ·exact .inl h1
   ·exact .inr ⟨h1.1,.inl h1.2⟩
   ·exact .inr ⟨rfl,.inr ⟨rfl,rfl⟩⟩
  ·rintro (h1 | ⟨rfl,h1 | ⟨rfl,_⟩⟩)
   ·exact .inl (.inl h1)
   ·exact .inl (.inr ⟨rfl,h1⟩)
   ·exact .inr ⟨rfl,rfl⟩
 ·rw [if_neg e,h.mem]
  constructor
  ·rintro (h1 | h1)
   ·exact .inl h1
   ·exact .inr ⟨h1.1,.inl h1.2⟩
  ·rintro (h1 | ⟨h0,h1 | h1⟩)
   ·exact .inl h1
   ·exact .inr ⟨h0,h1⟩
   ·exact absurd h1.2 e
structure M1 (w W : World) (g : Nat) (cg : Array Value) (kb : Nat) (rows : List (List (Nat × Nat))) : Prop where
  G : w.grownBy W (some g)
  g : Blk W g 243 cg
  bk : NestG encG 2 246 244 W w.heap.size kb rows
  kge : w.heap.size ≤ kb
section
variable {w W W' : World} {g kb : Nat} {cg : Array Value} {rows : List (List (Nat × Nat))}
theorem M1.below (h : M1 w W g cg kb rows) (hb : Below W.heap.size W W') : M1 w W' g cg kb rows:=⟨grown_trans' h.G (grown_of_below hb _),h.g.below hb,h.bk.below hb,h.kge⟩
theorem M1.alloc (h : M1 w W g cg kb rows) (o : Obj) : M1 w (W.alloc o) g cg kb rows:=h.below ((Below.refl _ _).alloc (Nat.le_refl _) o)
theorem M1.drew (h : M1 w W g cg kb rows) : M1 w W.drew g cg kb rows:=h.below (below_drewN' (Below.refl _ _) 1)
theorem M1.drewN (h : M1 w W g cg kb rows) (n : Nat) : M1 w (W.drewN n) g cg kb rows:=h.below (below_drewN' (Below.refl _ _) n)
theorem M1.row (h : M1 w W g cg kb rows) {i : Nat} {R : List (Nat × Nat)} (hR : rows[i]? = some R) : ∃ A c,W.cell? ⟨kb,i,none⟩ = some (.slice A R.length c) ∧ W.ownsRow w.heap.size 246 2 (.slice A R.length c) R.length (R.flatMap encG):=by
 obtain ⟨hi,rfl⟩:=List.getElem?_eq_some_iff.1 hR;exact h.bk.row hi
theorem M1.mid (h : M1 w W g cg kb rows) {i : Nat} {R : List (Nat × Nat)} (hR : rows[i]? = some R) {A : Option Addr} {c : Nat} (hc : W.cell? ⟨kb,i,none⟩ = some (.slice A R.length c)) (ho : W.ownsRow w.heap.size 246 2 (.slice A R.length c) R.length (R.flatMap encG)) (hg : W.grownBy W' (Value.slice A R.length c).ownBlock) :
  w.grownBy W' (some g) ∧ Blk W' g 243 cg ∧ (∃ cs,Blk W' kb 244 cs) ∧ ∀ j,W'.cell? ⟨kb,j,none⟩ = W.cell? ⟨kb,j,none⟩:=by
 obtain ⟨hi,rfl⟩:=List.getElem?_eq_some_iff.1 hR;obtain ⟨a,b⟩:=h.bk.grown_ hi hc hg;exact ⟨grown_low h.G (below_of_grown hg h.G.size (own_base ho)),h.g.other hg (own_kind ho) (by decide),a,b⟩
theorem M1.push (h : M1 w W g cg kb rows) {i : Nat} {R : List (Nat × Nat)} (hR : rows[i]? = some R) {A A' : Option Addr} {c c' : Nat} (hc : W.cell? ⟨kb,i,none⟩ = some (.slice A R.length c)) (ho : W.ownsRow w.heap.size 246 2 (.slice A R.length c) R.length (R.flatMap encG)) {xs : List (Nat × Nat)}
  (hg : W.grownBy W' (Value.slice A R.length c).ownBlock) (ho' : W'.ownsRow w.heap.size 246 2 (.slice A' xs.length c') xs.length (xs.flatMap encG))
  (hb : (Value.slice A' xs.length c').ownBlock = (Value.slice A R.length c).ownBlock ∨ (Value.slice A' xs.length c').ownBlock = some W.heap.size) : M1 w (W'.setCell ⟨kb,i,none⟩ (.slice A' xs.length c')) g cg kb (rows.set i xs):=by
 obtain ⟨a,b,⟨cs,d⟩,_⟩:=h.mid hR hc ho hg;obtain ⟨hi,rfl⟩:=List.getElem?_eq_some_iff.1 hR;exact ⟨grown_low a (Below.setCell (Below.refl _ _) (by simpa using h.kge) _),b.past kb i _ (b.ne d (by decide)),h.bk.push hi hc hg ho' hb,h.kge⟩
end
theorem NestG.qf {w w' : World} {lo base g : Nat} {rows : List (List (Nat × Nat))} (h : NestG encG 2 246 244 w base g rows) (hq : QF lo w w') : NestG encG 2 246 244 w' base g rows:=by
 obtain ⟨ne,cs,h1,h2,h3⟩:=h;exact ⟨ne,cs,h1.qf hq (by decide) (by decide),fun i hi => let ⟨A,c,a,b⟩:=h2 i hi; ⟨A,c,a,own_qf b hq (by decide) (by decide)⟩,h3⟩
theorem NestG.otherG {w w' : World} {base g : Nat} {rows : List (List (Nat × Nat))} {row : Option Nat} {x : Option TypeId} (h : NestG encG 2 246 244 w base g rows) (hg : w.grownBy w' row) (hk : Kind w row x) (h1 : x ≠ some 246) (h2 : x ≠ some 244) : NestG encG 2 246 244 w' base g rows:=by
 obtain ⟨ne,cs,k1,k2,k3⟩:=h;exact ⟨ne,cs,k1.other hg hk h2,fun i hi => let ⟨A,c,a,b⟩:=k2 i hi; ⟨A,c,a,own_other b hg hk h1⟩,k3⟩
structure M2 (w W : World) (g : Nat) (cg : Array Value) (kb : Nat) (rows : List (List (Nat × Nat))) (fb fc n : Nat) (far : List (Int × Int)) : Prop where
  a : M1 w W g cg kb rows
  F : W.ownsRow w.heap.size 238 2 (.slice (some ⟨fb, 0, none⟩) n fc) n (prs far)
  len : far.length = n
section
variable {w W W' : World} {g kb fb fc n : Nat} {cg : Array Value} {rows : List (List (Nat × Nat))} {far : List (Int × Int)}
theorem M2.below (h : M2 w W g cg kb rows fb fc n far) (hb : Below W.heap.size W W') : M2 w W' g cg kb rows fb fc n far:=⟨h.a.below hb,own_keep h.F hb,h.len⟩
theorem M2.alloc (h : M2 w W g cg kb rows fb fc n far) (o : Obj) : M2 w (W.alloc o) g cg kb rows fb fc n far:=h.below ((Below.refl _ _).alloc (Nat.le_refl _) o)
theorem M2.drew (h : M2 w W g cg kb rows fb fc n far) : M2 w W.drew g cg kb rows fb fc n far:=h.below (below_drewN' (Below.refl _ _) 1)
theorem M2.drewN (h : M2 w W g cg kb rows fb fc n far) (m : Nat) : M2 w (W.drewN m) g cg kb rows fb fc n far:=h.below (below_drewN' (Below.refl _ _) m)
theorem M2.qf (h : M2 w W g cg kb rows fb fc n far) (hq : QF w.heap.size W W') : M2 w W' g cg kb rows fb fc n far:=⟨⟨grown_low h.a.G hq.bel,h.a.g.qf hq (by decide) (by decide),h.a.bk.qf hq,h.a.kge⟩,own_qf h.F hq (by decide) (by decide),h.len⟩
theorem M2.at (h : M2 w W g cg kb rows fb fc n far) {i : Nat} (hi : i < n) : w.heap.size ≤ fb ∧ fb < W.heap.size ∧ W.cell? ⟨fb,i * 2,none⟩ = some (.int .i64 (fA far i).1) ∧ W.cell? ⟨fb,i * 2 + 1,none⟩ = some (.int .i64 (fA far i).2) ∧ ∀ j,W.frozen? ⟨fb,j,none⟩ = false:=by
 have hl : i < far.length:=by rw [h.len]; exact hi
 obtain ⟨b,e,h1,h2,h3,h4⟩:=ownBlk h.F (by omega);injection e with e; injection e with e;subst e;obtain ⟨g0,g1⟩:=prs_at far i hl;rw [fA_lt hl];exact ⟨h1,h2,h3 _ _ g0,h3 _ _ g1,h4⟩
theorem M2.put (h : M2 w W g cg kb rows fb fc n far) {i : Nat} (hi : i < n) (x y : Int) : M2 w ((W.setCell ⟨fb,i * 2,none⟩ (.int .i64 x)).setCell ⟨fb,i * 2 + 1,none⟩ (.int .i64 y)) g cg kb rows fb fc n (far.set i (x,y)) ∧ W.grownBy ((W.setCell ⟨fb,i * 2,none⟩ (.int .i64 x)).setCell ⟨fb,i * 2 + 1,none⟩ (.int .i64 y)) (some fb) ∧ Kind W (some fb) (some 238):=by
 have hl : i < far.length:=by rw [h.len]; exact hi
 have hln:=h.len;subst hln;have s1:=h.F.stored (i * 2) (.int .i64 x);have s2:=s1.1.stored (i * 2 + 1) (.int .i64 y);have hg:=grown_trans' s1.2 s2.2;have hk:=own_kind h.F;have hb:=(h.F.lt fb rfl).1;refine ⟨⟨⟨grown_low h.a.G (below_of_grown hg h.a.G.size (fun k hk => by injection hk with hk; omega)),h.a.g.other hg hk (by decide),h.a.bk.otherG hg hk (by decide) (by decide),h.a.kge⟩,own_prs_set2 h.F i hi x y,by simp⟩,hg,hk⟩
end
theorem least_of {P : Nat → Prop} : ∀ n,P n → ∃ m,P m ∧ ∀ k,P k → m ≤ k:=by
 intro n
 induction n using Nat.strongRecOn with
 | _ n ih =>
  intro hn
  by_cases h : ∃ k,k < n ∧ P k
  ·obtain ⟨k,hk,hp⟩:=h; exact ih k hk hp
  ·exact ⟨n,hn,fun k hk => Nat.le_of_not_lt fun hlt => h ⟨k,hlt,hk⟩⟩
noncomputable def gm (P : World → Nat → Prop) (w : World) : Nat:=open Classical in if h : ∃ m,P w m ∧ ∀ k,P w k → m ≤ k then h.choose else 0
theorem gm_ex {P : World → Nat → Prop} {w : World} {n : Nat} (h : P w n) : P w (gm P w) ∧ ∀ k,P w k → gm P w ≤ k:=by
 have hx:=least_of n h;unfold gm; rw [dif_pos hx]; exact hx.choose_spec
theorem gm_at {P : World → Nat → Prop} {w : World} (h : ∃ n,P w n) : P w (gm P w):=let ⟨_,h⟩:=h; (gm_ex h).1
theorem gm_le {P : World → Nat → Prop} {w : World} {n : Nat} (h : P w n) : gm P w ≤ n:=(gm_ex h).2 n h
theorem DjI.mono {n : Nat} {stp : List (List (Nat × Nat))} {lst : List Bool} {tm : Nat → Int} {H H' : Nat → Nat → Nat → Prop} {far : List (Int × Int)} {q : List ItE} (h : DjI n stp lst tm H far q) (hH : ∀ i k j,i < n → (k,j) ∈ stp.getD i [] → H' i k j → H i k j) : DjI n stp lst tm H' far q :=
 ⟨h.flen,h.fin,h.qin,h.ord,h.last,fun i k j hi he hj h1 => h.edge i k j hi he (hH i k j hi he hj) h1,h.bnd⟩
theorem remE_le (rows : List (List (Nat × Nat))) (far : List (Int × Int)) : remE rows.length rows far ≤ (rows.map List.length).sum:=by
 have key : ∀ n,n ≤ rows.length → remE n rows far ≤ ((rows.take n).map List.length).sum:=by
  intro n
  induction n with
  | zero => intro _; simp [remE]
  | succ n ih =>
   intro hn;have h1:=ih (by omega);unfold remE at h1 ⊢;rw [List.range_succ,List.map_append,List.sum_append,List.take_add_one,List.getElem?_eq_getElem (by omega),List.map_append,List.sum_append];simp only [List.map_cons,List.map_nil,List.sum_cons,List.sum_nil,Option.toList_some]
   have e : rows.getD n [] = rows[n]:=by rw [List.getD_eq_getElem?_getD,List.getElem?_eq_getElem (by omega)]; rfl
   rw [e]
   split <;> omega
 have:=key rows.length (Nat.le_refl _)
 rwa [List.take_length] at this
structure L3 (lst : List Bool) (i : Nat) (us : List ItE) : Prop where
  len : us.length ≤ i
  inn : ∀ x ∈ us, x.s < i ∧ x.t = 0 ∧ x.d = 0 ∧ lst[x.s]? = some true
  all : ∀ s, s < i → lst[s]? = some true → ∃ x ∈ us, x.s = s
theorem L3.start (lst : List Bool) : L3 lst 0 []:=⟨by simp,by simp,fun s h => by omega⟩
theorem L3.no {lst : List Bool} {i : Nat} {us : List ItE} (h : L3 lst i us) (hl : lst[i]? ≠ some true) : L3 lst (i + 1) us :=
 ⟨by have:=h.len; omega,fun x hx => let ⟨a,b⟩:=h.inn x hx; ⟨by omega,b⟩,fun s hs ht => by
  by_cases e : s = i
  ·subst e; exact absurd ht hl
  ·exact h.all s (by omega) ht⟩
theorem L3.yes {lst : List Bool} {i : Nat} {us us' : List ItE} (h : L3 lst i us) (hl : lst[i]? = some true) (hp : us'.Perm (⟨0,0,i⟩ :: us)) : L3 lst (i + 1) us' :=
 ⟨by rw [hp.length_eq]; have:=h.len; simp; omega,fun x hx => by
  rcases List.mem_cons.1 (hp.mem_iff.1 hx) with rfl | hx
  ·exact ⟨by simp,rfl,rfl,hl⟩
  ·obtain ⟨a,b⟩:=h.inn x hx; exact ⟨by omega,b⟩,fun s hs ht => by
  by_cases e : s = i
  ·subst e; exact ⟨_,hp.mem_iff.2 (List.mem_cons_self ..),rfl⟩
  ·obtain ⟨x,hx,e2⟩:=h.all s (by omega) ht
   exact ⟨x,hp.mem_iff.2 (List.mem_cons_of_mem _ hx),e2⟩⟩
def L4 (w : World) (g : Nat) (cg : Array Value) (kb : Nat) (rows : List (List (Nat × Nat))) (fb fc n q : Nat) (stp : List (List (Nat × Nat))) (lst : List Bool) (tm : Nat → Int) (wr : World) (mu : Nat) : Prop :=
 ∃ (m c : Nat) (A : Option Addr) (us : List ItE) (far : List (Int × Int)),M2 w wr g cg kb rows fb fc n far ∧ QuW wr w.heap.size q A m c us ∧ Hid (HeapL ltI us ∧ DjI n stp lst tm (fun _ _ _ => True) far us ∧ mu = m + remE n rows far ∧ mu ≤ 600 * n)
def HlR (s : Nat) (L : List (Nat × Nat)) (l : Nat) : Nat → Nat → Nat → Prop:=fun i k j => j ≠ s ∨ (k,i) ∈ L.take l
theorem hl_zero {s : Nat} {L : List (Nat × Nat)} : ∀ i k j : Nat,HlR s L 0 i k j → j ≠ s:=fun i k j h => by
 rcases h with h | h
 ·exact h
 ·simp at h
theorem hl_step {L : List (Nat × Nat)} {l s k a : Nat} (h : L[l]? = some (k,a)) : ∀ i k' j,HlR s L (l + 1) i k' j → HlR s L l i k' j ∨ (i = a ∧ k' = k ∧ j = s):=fun i k' j hh => by
 unfold HlR at *;rw [List.take_add_one,h] at hh;simp only [Option.toList_some,List.mem_append,List.mem_singleton,Prod.mk.injEq] at hh
 by_cases e : j = s
 ·rcases hh with h1 | h1 | ⟨h1,h2⟩
  ·exact absurd e h1
  ·exact .inl (.inr h1)
  ·exact .inr ⟨h2,h1,e⟩
 ·exact .inl (.inl e)
theorem hl_all {n s : Nat} {stp rows : List (List (Nat × Nat))} {L : List (Nat × Nat)} (h : BkOk n stp rows n 0) (hL : rows[s]? = some L) : ∀ i k j,i < n → (k,j) ∈ stp.getD i [] → True → HlR s L L.length i k j:=fun i k j hi he _ => by
 unfold HlR
 by_cases e : j = s
 ·subst e
  right
  have:=(h.mem k i j).2 (.inl ⟨hi,he⟩);rw [List.getD_eq_getElem?_getD,hL] at this;rw [List.take_length];exact this
 ·exact .inl e
theorem bk_in {n s k a : Nat} {stp rows : List (List (Nat × Nat))} {L : List (Nat × Nat)} (h : BkOk n stp rows n 0) (hL : rows[s]? = some L) (hm : (k,a) ∈ L) : a < n ∧ (k,s) ∈ stp.getD a []:=by
 have h1:=(h.mem k a s).1 (by rw [List.getD_eq_getElem?_getD,hL]; exact hm);rcases h1 with h1 | ⟨_,h1⟩
 ·exact h1
 ·simp at h1
theorem info_steps : (Tryz.prog.info? 244).map (fun i => (i.zero,i.size,i.bytes)) = some (some (.slice none 0 0),1,24):=by kernel_rfl
theorem und_stepss : Tryz.prog.underlying 240 = some (.slice 244):=Tryz.underlying240
theorem nestG_made {b : Nat} {w' : World} {n : Nat} (h0 : 0 < n) (ho : w'.ownsRow b 244 1 (.slice (some ⟨b,0,none⟩) n n) n (madeCells #[Value.slice none 0 0] n).toList) :
  NestG encG 2 246 244 w' b b (List.replicate n []):=by
 obtain ⟨g,cs,eg,hg,hblk,hcs,hsz⟩:=own_blkS ho h0;have eg' : b = g:=congrArg Addr.block (Option.some.inj eg);subst eg';refine NestG.made (by decide) hblk (fun i hi => ?_);rw [hcs i hi,toList_madeCells_one]
 simp [hi]
theorem len_le_sum : ∀ (rows : List (List (Nat × Nat))) (j : Nat) (h : j < rows.length),rows[j].length ≤ (rows.map List.length).sum
 | r :: rows,0,_ => by simp
 | r :: rows,j + 1,h => by
  have:=len_le_sum rows j (by simpa using h);simp only [List.getElem_cons_succ,List.map_cons,List.sum_cons]; omega
theorem grown_any {w w' : World} (h : w.grownBy w' none) (row : Option Nat) : w.grownBy w' row:=⟨h.os,h.tape,h.output,h.size,fun k hk _ => h.block k hk (by simp)⟩

def MPost (w : World) (g p n nc eb ec bc lo : Nat) (NA BA : Option Addr) (stp : List (List (Nat × Nat))) (lst : List Bool) (tm : Nat → Int) (e : Ending) (w' : World) : Prop :=
 e = .returned (.tuple #[]) ∧ ∃ (fb fc : Nat) (far : List (Int × Int)),Blk w' g 243 #[.pointer (some ⟨p,0,none⟩),.slice NA n nc,.slice (some ⟨eb,0,none⟩) n ec,.slice BA n bc,.slice (some ⟨fb,0,none⟩) n fc] ∧ w'.ownsRow w.heap.size 238 2 (.slice (some ⟨fb,0,none⟩) n fc) n (prs far) ∧ FarOk n stp lst tm far ∧ w.grownBy w' (some g)
set_option maxHeartbeats 8000000 in
set_option maxRecDepth 100000 in
theorem measure_any (w0 w : World) (g p n nc eb ec bc lo lo0 mp : Nat) (NA BA : Option Addr) (stp : List (List (Nat × Nat))) (lst : List Bool) (q0 : WorP) (T : List (List UInt8)) (rs : List RoomE) (ds : List DoorE) (tr : List (List UInt8)) (wo st gl : List UInt8)
  (hg : Blk w g 243 #[.pointer (some ⟨p,0,none⟩),.slice NA n nc,.slice (some ⟨eb,0,none⟩) n ec,.slice BA n bc,.slice none 0 0]) (hE : StpR w lo eb stp) (hBr : Row w lo 1 BA n (lst.map Value.bool)) (hw0 : WorW w0 lo0 mp q0 T rs ds tr wo st gl) (hbel : Below w0.heap.size w0 w) (hgw : w0.heap.size ≤ g) (hp : p = q0.p) (hds : ∀ d ∈ ds,1 ≤ d.time ∧ d.time ≤ 864000000)
  (hn : stp.length = n) (hll : lst.length = n) (hn0 : 0 < n) (hnb : n ≤ 1000000) (hgl : g < lo) (heg : g < eb) (h5 : ∀ l ∈ stp,l.length ≤ 500) (hdl : ds.length ≤ 500) (hto : ∀ i k j,(k,j) ∈ stp.getD i [] → j < n ∧ k < ds.length) (hend : ∀ i,lst[i]? = some true → stp.getD i [] = []) :
  Calls Tryz.prog 175 #[.pointer (some ⟨g,0,none⟩)] w (MPost w g p n nc eb ec bc lo NA BA stp lst (fun k => (ds.getD k default).time)):=by
 obtain ⟨i0,hi0,hz0,hz1,hz2⟩:=info_parts info_steps;have und:=und_stepss;have HE:=Lib.hid hE;have HBR:=Lib.hid hBr;have HW0:=Lib.hid hw0;have HBL:=Lib.hid hbel;have HH:=Lib.hid (And.intro hds (And.intro hto (And.intro hend hll)));have HN:=Lib.hid hn;have H5:=Lib.hid h5;have HP:=Lib.hid (And.intro hgw hp);obtain ⟨k0,k1,k2,k3,k4⟩:=hg.w5;have HWW : Hid (∀ W,w.grownBy W (some g) → WorW W lo0 mp q0 T rs ds tr wo st gl):=Lib.hid (fun W G => hw0.below (hbel.grown G hbel.size (fun k hk => by injection hk with hk; omega)));clear hE hBr hw0 hbel hgw hp hds hto hend hll hn h5
 go_enter Tryz.func175,Tryz.ntmps175
 go_wp2_with (at_make; go_must (refine wpList_make_full _ rfl _ _ 240 rfl w.heap.size 244 i0 _ 1 und hi0 hz0 hz1 .i64 .i64 _ _ n rfl rfl rfl rfl (by rw [hz2]; omega) (by simp only [maxLen]; omega) (Nat.le_refl _) ?_))
 intro w1 hown1 hg1
 have hm : M1 w w1 g #[.pointer (some ⟨p,0,none⟩),.slice NA n nc,.slice (some ⟨eb,0,none⟩) n ec,.slice BA n bc,.slice none 0 0] w.heap.size (List.replicate n []):=⟨grown_any hg1 _,hg.grownN hg1 (fun b hb => by cases hb),nestG_made hn0 hown1,Nat.le_refl _⟩
 have hkb : w.heap.size ≤ w.heap.size:=Nat.le_refl _;clear hown1 hg1 k0 k1 k2 k3 k4 hz0 hz1 hz2 hi0 und;obtain ⟨k0,k1,k2,k3,k4⟩:=hm.g.w5;generalize hkbe : w.heap.size = kb at hm ⊢;have hkb : w.heap.size ≤ kb:=Nat.le_of_eq hkbe;go_wp2_with fail;clear k0 k1 k2 k3 k4
 go_loopw [24] (fun v wr => ∃ (i : Nat) (rows : List (List (Nat × Nat))),i ≤ n ∧ v = .int .i64 i ∧ M1 w wr g #[.pointer (some ⟨p,0,none⟩),.slice NA n nc,.slice (some ⟨eb,0,none⟩) n ec,.slice BA n bc,.slice none 0 0] kb rows ∧ Hid (BkOk n stp rows i 0)) (fun v _ => n - (intOf v).toNat)
 case atStart => exact ⟨0,_,Nat.zero_le _,rfl,hm,Lib.hid (BkOk.start n stp)⟩
 case round =>
  clear hm;obtain ⟨i,rows,hi,rfl,hm,HB⟩:=hrel
  by_cases hlt : i < n
  ·obtain ⟨LA,lc,hc1,hr1⟩:=HE.out i (by rw [HN.out]; exact hlt)
   generalize hL : stp[i]'(by rw [HN.out]; exact hlt) = L at *;have HL : Hid (stp.getD i [] = L ∧ L.length ≤ 500):=Lib.hid ⟨by rw [List.getD_eq_getElem?_getD,List.getElem?_eq_getElem (by rw [HN.out]; exact hlt),hL]; rfl,by rw [← hL]; exact H5.out _ (List.getElem_mem _)⟩;have hl5:=HL.out.2;have HR1:=Lib.hid hr1;have hc1:=hm.G.cell hc1 (fun e => by injection e with e; simp at e; omega);have zeb:=World.block_lt_of_cell? wr _ hc1;clear hL hr1;go_wp2_with fail;clear hc1 zeb
   go_loopw [31] (fun v wr => ∃ (m : Nat) (rows : List (List (Nat × Nat))),m ≤ L.length ∧ v = .int .i64 m ∧ M1 w wr g #[.pointer (some ⟨p,0,none⟩),.slice NA n nc,.slice (some ⟨eb,0,none⟩) n ec,.slice BA n bc,.slice none 0 0] kb rows ∧ Hid (BkOk n stp rows i m)) (fun v _ => L.length - (intOf v).toNat)
   case atStart => exact ⟨0,rows,Nat.zero_le _,rfl,hm,HB⟩
   case round =>
    clear hm HB;obtain ⟨m,rows,hml,rfl,hm,HB⟩:=hrel
    by_cases hlm : m < L.length
    ·obtain ⟨sb,so,rfl,hsb,s0,s1⟩:=StpR.at (HR1.out.grown hm.G hgl) hlm
     obtain ⟨k,j,hkj⟩ : ∃ k j,L[m] = (k,j):=⟨_,_,rfl⟩
     rw [hkj] at s0 s1;have HMJ : Hid ((stp.getD i [])[m]? = some (k,j)):=Lib.hid (by rw [HL.out.1,List.getElem?_eq_getElem hlm,hkj]);have hjk : j < n ∧ k < ds.length:=HH.out.2.1 i k j (List.mem_of_getElem? HMJ.out);obtain ⟨hjn,hkd⟩:=hjk;have hrl:=Lib.hid HB.out.len
     have hj : j < rows.length:=by rw [hrl.out]; exact hjn
     obtain ⟨R,HRJ⟩ : ∃ R,Hid (rows[j]? = some R):=⟨_,Lib.hid (List.getElem?_eq_getElem hj)⟩
     obtain ⟨B,d,hc0,ho⟩:=hm.row HRJ.out;have HOS : Hid (∀ b,(Value.slice B R.length d).ownBlock = some b → b < wr.heap.size):=Lib.hid (fun b hb => (ho.lt b hb).2)
     have hsm : R.length ≤ (rows.map List.length).sum:=by
      have h1:=len_le_sum rows j hj;have h2:=HRJ.out;rw [List.getElem?_eq_getElem hj] at h2;injection h2 with h2;rw [← h2]; exact h1
     have hrb : R.length ≤ 500 * n + 500:=by have:=HB.out.sum; omega
     have hrb1 : (R.length + 1) * 16 ≤ 140737488355328:=by omega
     have hrb2 : R.length + 1 ≤ 9223372036854775807:=by omega
     have hj0 : (0 : Int) ≤ (j : Int):=by omega
     have hj1 : (j : Int) < (n : Int):=by omega
     have HJ:=Lib.hid hj;clear hsm hrb hkj;go_upto_region 7 with (fail);clear s0 s1 hsb;have hs : Blk (wr.alloc (.cells #[.int .i64 (k : Int),.int .i64 (j : Int)] 246)) wr.heap.size 246 #[.int .i64 (k : Int),.int .i64 (j : Int)]:=Blk.new _ _ _;have hm:=hm.alloc (.cells #[.int .i64 (k : Int),.int .i64 (j : Int)] 246);have ho:=ho.alloc (.cells #[.int .i64 (k : Int),.int .i64 (j : Int)] 246);have hc0:=cell_al hc0 (.cells #[.int .i64 (k : Int),.int .i64 (j : Int)] 246);generalize wr.alloc (.cells #[.int .i64 (k : Int),.int .i64 (j : Int)] 246) = W1 at *;generalize wr.heap.size = s at *;have hm:=hm.drew;have hs : Blk W1.drew s 246 _:=hs;have ho:=own_drewN ho 1;have hc0 : W1.drew.cell? ⟨kb,j,none⟩ = some (.slice B R.length d):=hc0;refine wp_region_heldK 15 (fun w' => w'.cell? ⟨kb,j,none⟩ = some (.slice B R.length d)) (fun w' => w'.cell? ⟨s,0,none⟩ = some (.int .i64 (k : Int)) ∧ w'.cell? ⟨s,1,none⟩ = some (.int .i64 (j : Int))) (by kernel_rfl) (⟨hs.w2.1,hs.w2.2⟩) (hc0) (fun hT hS => ?_);(refine KU2 0 ?_; (try simp only [Act.put,Q3,Q4,Q5]));(refine KU2 1 ?_; (try simp only [Act.put,Q3,Q4,Q5]));(refine KU2 2 ?_; (try simp only [Act.put,Q3,Q4,Q5]));(refine KU2 3 ?_; (try simp only [Act.put,Q3,Q4,Q5]));(refine KU2 4 ?_; (try simp only [Act.put,Q3,Q4,Q5]));(refine KU2 5 ?_; (try simp only [Act.put,Q3,Q4,Q5]));(refine KU2 6 ?_; (try simp only [Act.put,Q3,Q4,Q5]));(refine KU1 7 ?_; (try simp only [Act.put,Q3,Q4,Q5]));(refine KU2 8 ?_; (try simp only [Act.put,Q3,Q4,Q5]));(refine KU2 9 ?_; (try simp only [Act.put,Q3,Q4,Q5]));(refine KU2 10 ?_; (try simp only [Act.put,Q3,Q4,Q5]));(refine KU2 11 ?_; (try simp only [Act.put,Q3,Q4,Q5]));refine wpAnyK_ready (rs:=[12]) (by kernel_rfl) (by simp) ?_;refine AllReadyK.cons rfl (fun K hK => ?_) AllReadyK.nil;go_simp;have hby : Blk (W1.drew.alloc (.cells #[.int .i64 (k : Int),.int .i64 (i : Int)] 246)) W1.heap.size 246 #[.int .i64 (k : Int),.int .i64 (i : Int)]:=Blk.at_ _ (by simp);have hs:=hs.alloc (.cells #[.int .i64 (k : Int),.int .i64 (i : Int)] 246);have hm:=hm.alloc (.cells #[.int .i64 (k : Int),.int .i64 (i : Int)] 246);have ho:=ho.alloc (.cells #[.int .i64 (k : Int),.int .i64 (i : Int)] 246);have hc0 : (W1.drew.alloc (.cells #[.int .i64 (k : Int),.int .i64 (i : Int)] 246)).cell? ⟨kb,j,none⟩ = some (.slice B R.length d):=cell_al hc0 _;refine hK.out _ _ (⟨hs.w2.1,hs.w2.2⟩) (hc0) (fun hT hS => ?_);clear hK K;(try simp only [Act.put,Q3,Q4,Q5]);refine wpAnyK_ready (rs:=[13]) (by kernel_rfl) (by simp) ?_;refine AllReadyK.cons rfl (fun K hK => ?_) AllReadyK.nil;refine step_app (lo:=0) (base:=w.heap.size) (n:=R.length) (xs:=R.flatMap encG) _ rfl _ _ ty_stepsK rfl ho rfl (Row.lit (n:=1) (size:=2) hby (Nat.zero_le _) rfl) rfl rfl hrb1 hrb2 hm.G.size ?_;intro A5 c5 w5 hbs g5 hb5;obtain ⟨hG5,hg5,⟨cs5,hk5⟩,hsame5⟩:=hm.mid HRJ.out hc0 ho g5;have hs5 : Blk w5 s 246 _:=hs.grownN g5 (fun b hb => by have:=HOS.out b hb; omega);have f5:=hk5.thaw j
     have HPU : w5.ownsRow w.heap.size 246 2 (.slice A5 (R ++ [(k,i)]).length c5) (R ++ [(k,i)]).length ((R ++ [(k,i)]).flatMap encG):=by simpa [encG] using hbs
     have t5:=(hsame5 j).trans hc0;have z5:=hk5.lt;refine hK.out _ _ (⟨hs5.w2.1,hs5.w2.2⟩) (t5) (fun hT hS => ?_);clear hK K;(try simp only [Act.put,Q3,Q4,Q5]);(refine KU2 14 ?_; (try simp only [Act.put,Q3,Q4,Q5]));refine wpAnyK_ready (rs:=[15]) (by kernel_rfl) (by simp) ?_;refine AllReadyK.consT (by kernel_rfl) rfl (fun K hK => ?_) AllReadyK.nil;go_simp;have hnn:=hm.push HRJ.out hc0 ho (xs:=R ++ [(k,i)]) g5 HPU (by rw [List.length_append]; exact hb5);rw [show (R ++ [(k,i)]).length = R.length + 1 by simp] at hnn;have hs6:=hs5.past kb j (.slice A5 (R.length + 1) c5) (hs5.ne hk5 (by decide));refine hK.out _ _ (⟨hs6.w2.1,hs6.w2.2⟩) (fun hT => ?_);clear hK K;(try simp only [Act.put,Q3,Q4,Q5]);refine wpAnyK_done (by kernel_rfl) ?_ _;go_wp2_with fail;go_roundw
     case rel => exact ⟨m + 1,_,by omega,by go_num,hnn,Lib.hid (HB.out.next HMJ.out HRJ.out)⟩
     case measure => simp [intOf]; omega
    ·have hme : m = L.length:=by omega
     subst hme;go_wp2_with fail;go_roundw
     case rel => exact ⟨i + 1,rows,by omega,by go_num,hm,Lib.hid (HB.out.over (by rw [HL.out.1]) hl5)⟩
     case measure => simp [intOf]; omega
  ·have hie : n = i:=by omega
   subst hie;clear hlt hi;have hsz:=hm.G.size;obtain ⟨k0,k1,k2,k3,k4⟩:=hm.g.w5;have zg:=hm.g.lt;go_wp2_with fail;refine (repeatF_any _ _ 0 (-1,0) n _ (row_new _ _ _ _ _ _ (Nat.zero_le _) rfl) (by omega) (by omega)).mono ?_;rintro e w3 ⟨fA0,fc,rfl,hF,hb3⟩;obtain ⟨fb,hfb,zf1,_⟩:=ownBlk hF (by omega);subst hfb;have hb3' : Below wr.heap.size wr w3:=((Below.refl wr.heap.size wr).alloc (Nat.le_refl _) (.cells #[.int .i64 (-1),.int .i64 0] 238)).trans (hb3.mono (by simp));have hF:=own_weak hF (show w.heap.size ≤ (wr.alloc (.cells #[.int .i64 (-1),.int .i64 0] 238)).heap.size by simp; omega);have hm:=hm.below hb3';clear k0 k1 k2 k3 k4 hb3 hb3' zg;obtain ⟨k0,k1,k2,k3,k4⟩:=hm.g.w5;have fg:=hm.g.thaw 4;have zg:=hm.g.lt;have hlq : w.heap.size ≤ w3.heap.size:=hm.G.size;have hgp:=grown_poke w3 g 4 (.slice (some ⟨fb,0,none⟩) n fc)
   have hm : M2 w ((w3.setCell ⟨g,4,none⟩ (.slice (some ⟨fb,0,none⟩) n fc))) g #[.pointer (some ⟨p,0,none⟩),.slice NA n nc,.slice (some ⟨eb,0,none⟩) n ec,.slice BA n bc,.slice (some ⟨fb,0,none⟩) n fc] kb rows fb fc n (List.replicate n (-1,0)) :=
    ⟨⟨grown_set hm.G 4 _,by simpa using hm.g.poke 4 (.slice (some ⟨fb,0,none⟩) n fc),hm.bk.otherG hgp hm.g.kind (by decide) (by decide),hm.kge⟩,own_other hF hgp hm.g.kind (by decide),by simp⟩
   have hsz4 : (w3.setCell ⟨g,4,none⟩ (.slice (some ⟨fb,0,none⟩) n fc)).heap.size = w3.heap.size:=by simp
   clear zf1 hsz hgp hF;go_upto_region 13 with (fail);clear k0 k1 k2 k3 k4 fg zg
   have hq : QuW ((w3.setCell ⟨g,4,none⟩ (.slice (some ⟨fb,0,none⟩) n fc)).alloc (.cells #[.slice none 0 0] 306)) w.heap.size w3.heap.size none 0 0 []:=⟨Blk.at_ _ hsz4,World.ownsRow_nil _ _ _ _,rfl⟩
   have hm:=hm.alloc (.cells #[.slice none 0 0] 306);generalize (w3.setCell ⟨g,4,none⟩ (.slice (some ⟨fb,0,none⟩) n fc)).alloc (.cells #[.slice none 0 0] 306) = W3 at *;clear hsz4;generalize w3.heap.size = q at *
   go_loopw [68] (fun v wr => ∃ (i m c : Nat) (A : Option Addr) (us : List ItE),i ≤ n ∧ m ≤ i ∧ v = .int .i64 i ∧ M2 w wr g #[.pointer (some ⟨p,0,none⟩),.slice NA n nc,.slice (some ⟨eb,0,none⟩) n ec,.slice BA n bc,.slice (some ⟨fb,0,none⟩) n fc] kb rows fb fc n (List.replicate n (-1,0)) ∧ QuW wr w.heap.size q A m c us ∧ Hid (HeapL ltI us ∧ L3 lst i us)) (fun v _ => n - (intOf v).toNat)
   case atStart => exact ⟨0,0,0,none,[],Nat.zero_le _,Nat.le_refl _,rfl,hm,hq,Lib.hid ⟨fun k h0 hk => by simp at hk,L3.start lst⟩⟩
   case round =>
    clear hm hq;obtain ⟨i,m,c,A,us,hi,hmi,rfl,hm,hq,H3⟩:=hrel
    by_cases hlt : i < n
    ·have hll : i < lst.length:=by rw [HH.out.2.2.2]; exact hlt
     obtain ⟨bb,boff,rfl,-,hbb,hbc⟩:=(HBR.out.grown hm.a.G hgl).2 (by omega);have hb0:=hbc i (.bool lst[i]) (by rw [List.getElem?_map,List.getElem?_eq_getElem hll]; rfl);have HLI : Hid (lst[i]? = some lst[i]):=Lib.hid (List.getElem?_eq_getElem hll);clear hbc;generalize lst[i] = bv at *;have zq:=hq.box.lt
     cases bv with
     | false =>
      go_wp2_with fail;go_roundw
      case rel => exact ⟨i + 1,m,c,A,us,by omega,by omega,by go_num,hm,hq,Lib.hid ⟨H3.out.1,H3.out.2.no (by rw [HLI.out]; simp)⟩⟩
      case measure => simp [intOf]; omega
     | true =>
      go_wp2_with fail;refine (hpush_any w.heap.size q m c A us ⟨0,0,i⟩ _ hq H3.out.1 (by omega) hm.a.G.size hlq).mono ?_;rintro e w5 ⟨rfl,A',c',us',hq',hpm,hhp,hqg⟩;have HN3:=Lib.hid (And.intro hhp (H3.out.2.yes HLI.out hpm));have hm:=hm.qf hqg.f;clear hpm hhp hqg hq hb0 zq;go_wp2_with fail;go_roundw
      case rel => exact ⟨i + 1,m + 1,c',A',us',by omega,by omega,by go_num,hm,hq',HN3⟩
      case measure => simp [intOf]; omega
    ·have hie : n = i:=by omega
     subst hie
     have HM5 : Hid (L4 w g #[.pointer (some ⟨p,0,none⟩),.slice NA n nc,.slice (some ⟨eb,0,none⟩) n ec,.slice BA n bc,.slice (some ⟨fb,0,none⟩) n fc] kb rows fb fc n q stp lst (fun k => (ds.getD k default).time) wr (m + remE n rows (List.replicate n (-1,0)))):=Lib.hid ⟨m,c,A,us,_,hm,hq,Lib.hid ⟨H3.out.1,DjI.start (fun x hx => H3.out.2.inn x hx) (fun i hi hl => H3.out.2.all i hi hl),rfl,by
      have h1:=remE_le rows (List.replicate n (-1,0));rw [HB.out.len] at h1;have:=HB.out.sum
      omega⟩⟩
     clear hm hq H3 hmi hlt hi;go_wp2_with fail
     go_loopw [10] (fun _ wr => ∃ mu,L4 w g #[.pointer (some ⟨p,0,none⟩),.slice NA n nc,.slice (some ⟨eb,0,none⟩) n ec,.slice BA n bc,.slice (some ⟨fb,0,none⟩) n fc] kb rows fb fc n q stp lst (fun k => (ds.getD k default).time) wr mu) (fun _ wr => gm (L4 w g #[.pointer (some ⟨p,0,none⟩),.slice NA n nc,.slice (some ⟨eb,0,none⟩) n ec,.slice BA n bc,.slice (some ⟨fb,0,none⟩) n fc] kb rows fb fc n q stp lst (fun k => (ds.getD k default).time)) wr)
     case atStart => exact ⟨_,HM5.out⟩
     case round =>
      clear HM5;have hL:=gm_at hrel;clear hrel;generalize hmu : gm (L4 w g #[.pointer (some ⟨p,0,none⟩),.slice NA n nc,.slice (some ⟨eb,0,none⟩) n ec,.slice BA n bc,.slice (some ⟨fb,0,none⟩) n fc] kb rows fb fc n q stp lst (fun k => (ds.getD k default).time)) wr = mu0 at hL;have HMU:=Lib.hid hmu;clear hmu;obtain ⟨m,c,A,us,far,hm,hq,H4⟩:=hL;have q0:=hq.box0;have zq:=hq.box.lt;rcases m with _ | m
      ·have hus : us = []:=List.eq_nil_of_length_eq_zero hq.len
       subst hus;go_wp2_with fail
       go_returns
       exact ⟨rfl,fb,fc,far,hm.a.g,hm.F,H4.out.2.1.done HH.out.2.2.1 (fun i k j h => (HH.out.2.1 i k j h).1),hm.a.G⟩
      ·have hmb : m ≤ 600000000:=by have:=H4.out.2.2; omega
       have d0 : decide ((0 : Int) < ((m + 1 : Nat) : Int)) = true:=decide_eq_true (by omega);go_wp2_with fail;refine (hpop_any w.heap.size q m c A us _ hq H4.out.1 (by omega) hm.a.G.size hlq).mono ?_;rintro e W6 ⟨x,us',rfl,hq,hpm,hhp,hmin,hqg⟩;have HDJ:=Lib.hid (H4.out.2.1.perm hpm.symm);have HMIN : Hid (∀ y ∈ us',ltI y x = false):=Lib.hid (fun y hy => hmin y (hpm.mem_iff.2 (List.mem_cons_of_mem _ hy)));have HHP:=Lib.hid hhp;have hm:=hm.qf hqg.f;have hqx:=HDJ.out.qin x (List.mem_cons_self ..);obtain ⟨hxs,hxt0,_,hxd0,hxd1,hxt1⟩:=hqx
       have hcl : cntF far ≤ n:=by have:=cntF_le far; rw [HDJ.out.flen] at this; exact this
       have HXD:=Lib.hid hxd1
       have hxn : x.d ≤ (n : Int):=by omega
       have hxs0 : (0 : Int) ≤ (x.s : Int):=by omega
       have hxs1 : (x.s : Int) < (n : Int):=by omega
       have hta : ∀ w : World,(Instr.typeAssert (itV x) 20 310 false).run Tryz.prog w = .ok (.agg #[.int .i64 x.t,.int .i64 x.d,.int .i64 (x.s : Int)]) w:=fun _ => by unfold itV; kernel_rfl
       have hxi : obk A ≠ some W6.heap.size:=fun e => by
        have:=(hq.own.lt W6.heap.size (by rw [obk_is]; exact e)).2;omega
       have hxq : W6.heap.size ≠ q:=by have:=hq.box.lt; omega
       clear q0 zq hpm hhp hmin hqg hxd1 hcl d0;unfold itV at hta ⊢;go_upto_region 20 with (fail);clear hta;have hm:=hm.alloc (.cells #[.int .i64 x.t,.int .i64 x.d,.int .i64 (x.s : Int)] 310);have hq:=hq.alloc (.cells #[.int .i64 x.t,.int .i64 x.d,.int .i64 (x.s : Int)] 310);have hx : Blk (W6.alloc (.cells #[.int .i64 x.t,.int .i64 x.d,.int .i64 (x.s : Int)] 310)) W6.heap.size 310 #[.int .i64 x.t,.int .i64 x.d,.int .i64 (x.s : Int)]:=Blk.at_ _ rfl;generalize W6.alloc (.cells #[.int .i64 x.t,.int .i64 x.d,.int .i64 (x.s : Int)] 310) = W7 at *;generalize W6.heap.size = xb at *;obtain ⟨k0,k1,k2,k3,k4⟩:=hm.a.g.w5;obtain ⟨i0,i1,i2⟩:=hx.w3;obtain ⟨hf0,hf1,hf2,hf3,-⟩:=hm.at hxs;have zg:=hm.a.g.lt;have zx:=hx.lt
       by_cases h0 : 0 ≤ (fA far x.s).1
       ·have d0 : decide (0 ≤ (fA far x.s).1) = true:=decide_eq_true h0
        go_quiet (fail)
        have HL : Hid (L4 w g #[.pointer (some ⟨p,0,none⟩),.slice NA n nc,.slice (some ⟨eb,0,none⟩) n ec,.slice BA n bc,.slice (some ⟨fb,0,none⟩) n fc] kb rows fb fc n q stp lst (fun k => (ds.getD k default).time) (W7.drewN nq) (m + remE n rows far)):=Lib.hid ⟨m,c,A,us',far,hm.drewN nq,hq.drewN nq,Lib.hid ⟨HHP.out,HDJ.out.skip h0,rfl,by have:=H4.out.2.2; omega⟩⟩;clear k0 k1 k2 k3 k4 i0 i1 i2 hf0 hf1 hf2 hf3 zg zx;go_wp2_with fail;go_roundw
        case rel => exact ⟨_,HL.out⟩
        case measure => have:=gm_le HL.out; have:=H4.out.2.2; omega
       ·have d0 : decide (0 ≤ (fA far x.s).1) = false:=decide_eq_false h0
        have hneg : (fA far x.s).1 < 0:=by omega
        go_quiet (fail)
        have hm:=hm.drewN nq;have hq:=hq.drewN nq;have hx : Blk (W7.drewN nq) xb _ _:=hx;have HST:=Lib.hid (HDJ.out.settle HMIN.out hneg);have HRE:=Lib.hid (remE_set (back:=rows) hxs hm.len hneg (v:=(x.t,x.d)) hxt0);have HCN:=Lib.hid (cntF_set (far:=far) (s:=x.s) (v:=(x.t,x.d)) (by rw [hm.len]; exact hxs) hneg hxt0);have HFS:=Lib.hid (fA_set (far:=far) (x.t,x.d) (show x.s < far.length by rw [hm.len]; exact hxs));clear k0 k1 k2 k3 k4 i0 i1 i2 hf0 hf1 hf2 hf3 zg zx h0 d0 HDJ HMIN;generalize W7.drewN nq = W7 at *;go_upto_region 21 with (fail);have hm7:=hm;have hq7:=hq;have hx7:=hx;have hm:=hm.drew;have hq:=hq.drew;have hx : Blk W7.drew xb _ _:=hx;refine wp_region_held_drew (S:=(fun w' => w'.cell? ⟨g,4,none⟩ = some (.slice (some ⟨fb,0,none⟩) n fc) ∧ w'.cell? ⟨xb,0,none⟩ = some (.int .i64 x.t) ∧ w'.cell? ⟨xb,1,none⟩ = some (.int .i64 x.d) ∧ w'.cell? ⟨xb,2,none⟩ = some (.int .i64 (x.s : Int)))) (by kernel_rfl) (⟨hm.a.g.w5.2.2.2.2,hx.w3⟩) (fun hHeld => ?_);(refine QU 0 ?_; (try simp only [Act.put,Q3,Q4,Q5]));(refine QU 1 ?_; (try simp only [Act.put,Q3,Q4,Q5]));(refine QU 2 ?_; (try simp only [Act.put,Q3,Q4,Q5]));(refine QU 3 ?_; (try simp only [Act.put,Q3,Q4,Q5]));(refine QU 4 ?_; (try simp only [Act.put,Q3,Q4,Q5]));(refine QU 5 ?_; (try simp only [Act.put,Q3,Q4,Q5]));(refine QU 6 ?_; (try simp only [Act.put,Q3,Q4,Q5]));(refine QU 7 ?_; (try simp only [Act.put,Q3,Q4,Q5]));(refine QU 8 ?_; (try simp only [Act.put,Q3,Q4,Q5]));refine QR 9 fun K hK => ?_;have cF:=(hm7.at hxs).2.2.1;have cF1:=(hm7.at hxs).2.2.2.1;have fF:=(hm7.at hxs).2.2.2.2 (x.s * 2);have fF1:=(hm7.at hxs).2.2.2.2 (x.s * 2 + 1);have zF:=(hm7.at hxs).2.1;go_simp;clear cF cF1 fF fF1 zF hm hx hq;obtain ⟨hm,hgp,hkp⟩:=hm7.put hxs x.t x.d;have hx:=(hx7.other hgp hkp (by decide)).drew;have hq : QuW _ _ _ _ _ _ _:=(QuW.mk (hq7.box.other hgp hkp (by decide)) (own_other hq7.own hgp hkp (by decide)) hq7.len).drew;have hm:=hm.drew;clear hgp hkp hm7 hx7 hq7;refine hK.out _ _ (⟨hm.a.g.w5.2.2.2.2,hx.w3⟩) (fun hHeld => ?_);clear hK K;(try simp only [Act.put,Q3,Q4,Q5]);refine wpAnyH_done (by kernel_rfl) ?_ _;generalize ((W7.setCell ⟨fb,x.s * 2,none⟩ (.int .i64 x.t)).setCell ⟨fb,x.s * 2 + 1,none⟩ (.int .i64 x.d)).drew = W9 at *;have HFA : Hid (fA (far.set x.s (x.t,x.d)) x.s = (x.t,x.d)):=Lib.hid (by rw [HFS.out,if_pos rfl]);generalize far.set x.s (x.t,x.d) = far' at *;have HTOP : Hid (∀ i,i < n → 0 ≤ (fA far' i).1 → leK (fA far' i) (fA far' x.s)):=Lib.hid (by rw [HFA.out]; exact HST.out.2);have HFX : Hid (0 ≤ (fA far' x.s).1 ∧ (fA far' x.s).2 + 1 ≤ (cntF far' : Int)):=Lib.hid (by rw [HFA.out,HCN.out]; exact ⟨hxt0,by have:=HXD.out; simp only; omega⟩);have HS5:=Lib.hid HST.out.1
        obtain ⟨L,HLR⟩ : ∃ L,Hid (rows[x.s]? = some L):=⟨_,Lib.hid (List.getElem?_eq_getElem (by rw [HB.out.len]; exact hxs))⟩
        obtain ⟨B,d,hc0,ho⟩:=hm.a.row HLR.out
        have HM0 : Hid (m + L.length + remE n rows far' < mu0 ∧ mu0 ≤ 600 * n):=Lib.hid (by
         have h1:=H4.out.2.2;have h2:=HRE.out
         have h3 : rows.getD x.s [] = L:=by rw [List.getD_eq_getElem?_getD,HLR.out]; rfl
         rw [h3] at h2
         omega)
        have hLb : L.length ≤ 600000000:=by have:=HM0.out; omega
        clear HST HRE HCN HFS H4 HXD;obtain ⟨i0,i1,i2⟩:=hx.w3;have zk:=World.block_lt_of_cell? _ _ hc0;have zx:=hx.lt;go_wp2_with fail;clear i0 i1 i2 zk zx hc0
        go_loopw [112] (fun v wr => ∃ (l m c : Nat) (A : Option Addr) (us : List ItE),l ≤ L.length ∧ v = .int .i64 l ∧ M2 w wr g #[.pointer (some ⟨p,0,none⟩),.slice NA n nc,.slice (some ⟨eb,0,none⟩) n ec,.slice BA n bc,.slice (some ⟨fb,0,none⟩) n fc] kb rows fb fc n far' ∧ QuW wr w.heap.size q A m c us ∧ Blk wr xb 310 #[.int .i64 x.t,.int .i64 x.d,.int .i64 (x.s : Int)] ∧ obk A ≠ some xb ∧ wr.ownsRow w.heap.size 246 2 (.slice B L.length d) L.length (L.flatMap encG) ∧ Hid (HeapL ltI us ∧ DjI n stp lst (fun k => (ds.getD k default).time) (HlR x.s L l) far' us ∧ m + (L.length - l) + remE n rows far' < mu0)) (fun v _ => L.length - (intOf v).toNat)
        case atStart => exact ⟨0,m,c,A,us',Nat.zero_le _,rfl,hm,hq,hx,hxi,ho,Lib.hid ⟨HHP.out,HS5.out.mono (fun i k j _ _ h => hl_zero i k j h),by have:=HM0.out; omega⟩⟩
        case round =>
         clear hm hq hx hxi ho HHP HS5;obtain ⟨l,m,c,A,us,hll,rfl,hm,hq,hx,hxi,ho,HQ5⟩:=hrel
         by_cases hlt : l < L.length
         ·obtain ⟨sb,so,rfl,hsb,s0,s1⟩:=StpR.at (Row.of_own ho) hlt
          obtain ⟨k,a,hka⟩ : ∃ k a,L[l] = (k,a):=⟨_,_,rfl⟩
          rw [hka] at s0 s1;have HKA : Hid (L[l]? = some (k,a)):=Lib.hid (by rw [List.getElem?_eq_getElem hlt,hka]);have HAN:=Lib.hid (bk_in HB.out HLR.out (List.mem_of_getElem? HKA.out));have han:=HAN.out.1;have hkd : k < ds.length:=(HH.out.2.1 a k x.s HAN.out.2).2
          obtain ⟨dt,hdt⟩ : ∃ dt,dt = ds[k].time:=⟨_,rfl⟩
          have HDT : Hid (1 ≤ (fun k => (ds.getD k default).time) k ∧ (fun k => (ds.getD k default).time) k ≤ 864000000 ∧ (fun k => (ds.getD k default).time) k = dt):=Lib.hid (by
           have e : ds.getD k default = ds[k]:=by rw [List.getD_eq_getElem?_getD,List.getElem?_eq_getElem hkd]; rfl
           have:=HH.out.1 _ (List.getElem_mem hkd);simp only [e]
           exact ⟨this.1,this.2,hdt.symm⟩)
          have hdt1 : 1 ≤ dt:=by have:=HDT.out; omega
          have hdt2 : dt ≤ 864000000:=by have:=HDT.out; omega
          obtain ⟨db,doff,eDA,-,hdc⟩:=(HWW.out _ hm.a.G).door (by omega)
          have HDO : Hid (∀ W,w.grownBy W (some g) → W.cell? ⟨p,3,none⟩ = some (.slice (some ⟨db,doff,none⟩) ds.length q0.dc) ∧ W.cell? ⟨db,doff + k * 5 + 2,none⟩ = some (.int .i64 dt)):=Lib.hid (fun W G => by
           have h1:=(HWW.out W G).cells.2.2.2.1;obtain ⟨b',o',e',-,h2⟩:=(HWW.out W G).door (by omega);rw [eDA] at e' h1;injection e' with e';injection e' with e1 e2;subst e1 e2;rw [HP.out.2,hdt]
           exact ⟨h1,(h2 k hkd).2.2.1⟩)
          have hmb : m ≤ 600000000:=by have:=HQ5.out.2.2; have:=HM0.out; omega
          have ha0 : (0 : Int) ≤ (a : Int):=by omega
          have ha1 : (a : Int) < (n : Int):=by omega
          have hk0 : (0 : Int) ≤ (k : Int):=by omega
          have hk1 : (k : Int) < (ds.length : Int):=by omega
          have wt : IntKind.i64.wrap (x.t + dt) = x.t + dt:=IntWalk.i64_in _ ⟨by omega,by omega⟩;have wd : IntKind.i64.wrap (x.d + 1) = x.d + 1:=IntWalk.i64_in _ ⟨by omega,by omega⟩;clear hka hdc eDA hdt;go_upto_region 25 with (fail);clear s0 s1 hsb;have hsx : Blk (wr.alloc (.cells #[.int .i64 (k : Int),.int .i64 (a : Int)] 246)) wr.heap.size 246 #[.int .i64 (k : Int),.int .i64 (a : Int)]:=Blk.new _ _ _;have hm:=hm.alloc (.cells #[.int .i64 (k : Int),.int .i64 (a : Int)] 246);have hq:=hq.alloc (.cells #[.int .i64 (k : Int),.int .i64 (a : Int)] 246);have hx:=hx.alloc (.cells #[.int .i64 (k : Int),.int .i64 (a : Int)] 246);have ho:=ho.alloc (.cells #[.int .i64 (k : Int),.int .i64 (a : Int)] 246);generalize wr.alloc (.cells #[.int .i64 (k : Int),.int .i64 (a : Int)] 246) = W7 at *;generalize wr.heap.size = sx at *;obtain ⟨k0,k1,k2,k3,k4⟩:=hm.a.g.w5;obtain ⟨i0,i1⟩:=hsx.w2;obtain ⟨hf0,hf1,hf2,hf3,-⟩:=hm.at han;have zg:=hm.a.g.lt;have zx:=hsx.lt
          by_cases h1 : (fA far' a).1 < 0
          ·have d1 : decide ((fA far' a).1 < 0) = true:=decide_eq_true h1
           go_quiet (fail)
           have hm:=hm.drewN nq;have hq:=hq.drewN nq;have hx : Blk (W7.drewN nq) xb _ _:=hx;have hsx : Blk (W7.drewN nq) sx _ _:=hsx;have ho:=own_drewN ho nq;clear k0 k1 k2 k3 k4 i0 i1 hf0 hf1 hf2 hf3 zg zx d1 h1;generalize W7.drewN nq = W7 at *;go_upto_region 26 with (fail);have hm:=hm.drew;have hq:=hq.drew;have hx : Blk W7.drew xb _ _:=hx;have hsx : Blk W7.drew sx _ _:=hsx;have ho:=own_drewN ho 1;refine wp_region_held_drew (S:=(fun w' => w'.cell? ⟨g,0,none⟩ = some (.pointer (some ⟨p,0,none⟩)) ∧ (w'.cell? ⟨xb,0,none⟩ = some (.int .i64 x.t) ∧ w'.cell? ⟨xb,1,none⟩ = some (.int .i64 x.d) ∧ w'.cell? ⟨xb,2,none⟩ = some (.int .i64 (x.s : Int))) ∧ (w'.cell? ⟨sx,0,none⟩ = some (.int .i64 (k : Int)) ∧ w'.cell? ⟨sx,1,none⟩ = some (.int .i64 (a : Int))) ∧ w'.cell? ⟨p,3,none⟩ = some (.slice (some ⟨db,doff,none⟩) ds.length q0.dc) ∧ w'.cell? ⟨db,doff + k * 5 + 2,none⟩ = some (.int .i64 dt))) (by kernel_rfl) (⟨hm.a.g.w5.1,hx.w3,hsx.w2,HDO.out _ hm.a.G⟩) (fun hHeld => ?_);(refine QU 0 ?_; (try simp only [Act.put,Q3,Q4,Q5]));(refine QU 1 ?_; (try simp only [Act.put,Q3,Q4,Q5]));(refine QU 2 ?_; (try simp only [Act.put,Q3,Q4,Q5]));(refine QU 3 ?_; (try simp only [Act.put,Q3,Q4,Q5]));(refine QU 4 ?_; (try simp only [Act.put,Q3,Q4,Q5]));(refine QU 5 ?_; (try simp only [Act.put,Q3,Q4,Q5]));(refine QU 6 ?_; (try simp only [Act.put,Q3,Q4,Q5]));(refine QU 7 ?_; (try simp only [Act.put,Q3,Q4,Q5]));(refine QU 8 ?_; (try simp only [Act.put,Q3,Q4,Q5]));(refine QU 9 ?_; (try simp only [Act.put,Q3,Q4,Q5]));(refine QU 10 ?_; (try simp only [Act.put,Q3,Q4,Q5]));(refine QU 11 ?_; (try simp only [Act.put,Q3,Q4,Q5]));(refine QU 12 ?_; (try simp only [Act.put,Q3,Q4,Q5]));(refine QU 13 ?_; (try simp only [Act.put,Q3,Q4,Q5]));(refine QU 14 ?_; (try simp only [Act.put,Q3,Q4,Q5]));(refine QU 15 ?_; (try simp only [Act.put,Q3,Q4,Q5]));(refine QU 16 ?_; (try simp only [Act.put,Q3,Q4,Q5]));(refine QU 17 ?_; (try simp only [Act.put,Q3,Q4,Q5]));(refine QU 18 ?_; (try simp only [Act.put,Q3,Q4,Q5]));(refine QU 19 ?_; (try simp only [Act.put,Q3,Q4,Q5]));(refine QU 20 ?_; (try simp only [Act.put,Q3,Q4,Q5]));(refine QU 21 ?_; (try simp only [Act.put,Q3,Q4,Q5]));(refine QU 22 ?_; (try simp only [Act.put,Q3,Q4,Q5]));(refine QU 23 ?_; (try simp only [Act.put,Q3,Q4,Q5]));(refine QU 24 ?_; (try simp only [Act.put,Q3,Q4,Q5]));(refine QU 25 ?_; (try simp only [Act.put,Q3,Q4,Q5]));refine QR 26 fun K hK => ?_;go_simp;go_at_call 203;have hx0:=hx.lt;refine (hpush_any w.heap.size q m c A us ⟨x.t + dt,x.d + 1,a⟩ _ hq HQ5.out.1 (by omega) hm.a.G.size hlq).mono ?_;rintro e W8 ⟨rfl,A',c',us',hq,hpm,hhp,hqg⟩;have hm:=hm.qf hqg.f;have hx:=hx.qg hqg hxq hxi;have hsx:=hsx.qf hqg.f (by decide) (by decide);have ho:=own_qf ho hqg.f (by decide) (by decide);have hxi':=hqg.far hx0 hxi
           have HNX : Hid (HeapL ltI us' ∧ DjI n stp lst (fun k => (ds.getD k default).time) (HlR x.s L (l + 1)) far' us'):=Lib.hid ⟨hhp,by
            have h:=HQ5.out.2.1.push (s:=x.s) (k0:=k) (i0:=a) HTOP.out HDT.out.1 HDT.out.2.1 (hl_step HKA.out) HAN.out.1 HAN.out.2 hxs HFX.out.1 HFX.out.2
            have e : (⟨(fA far' x.s).1 + (fun k => (ds.getD k default).time) k,(fA far' x.s).2 + 1,a⟩ : ItE) = ⟨x.t + dt,x.d + 1,a⟩:=by rw [HFA.out,HDT.out.2.2]
            rw [e] at h
            exact h.perm hpm⟩
           clear hpm hhp hqg hx0;go_wp2_with fail;refine hK.out _ _ (⟨hm.a.g.w5.1,hx.w3,hsx.w2,HDO.out _ hm.a.G⟩) (fun hHeld => ?_);clear hK K;(try simp only [Act.put,Q3,Q4,Q5]);refine wpAnyH_done (by kernel_rfl) ?_ _;go_wp2_with fail;go_roundw
           case rel => exact ⟨l + 1,m + 1,c',A',us',by omega,by go_num,hm,hq,hx,hxi',ho,Lib.hid ⟨HNX.out.1,HNX.out.2,by have:=HQ5.out.2.2; omega⟩⟩
           case measure => simp [intOf]; omega
          ·have d1 : decide ((fA far' a).1 < 0) = false:=decide_eq_false h1
           have HSE : Hid (DjI n stp lst (fun k => (ds.getD k default).time) (HlR x.s L (l + 1)) far' us):=Lib.hid (HQ5.out.2.1.seen (s:=x.s) (k0:=k) (i0:=a) HTOP.out HDT.out.1 (hl_step HKA.out) (by omega))
           go_quiet (fail)
           have hm:=hm.drewN nq;have hq:=hq.drewN nq;have hx : Blk (W7.drewN nq) xb _ _:=hx;have ho:=own_drewN ho nq;clear k0 k1 k2 k3 k4 i0 i1 hf0 hf1 hf2 hf3 zg zx d1 h1;go_wp2_with fail;go_roundw
           case rel => exact ⟨l + 1,m,c,A,us,by omega,by go_num,hm,hq,hx,hxi,ho,Lib.hid ⟨HQ5.out.1,HSE.out,by have:=HQ5.out.2.2; omega⟩⟩
           case measure => simp [intOf]; omega
         ·have hle : l = L.length:=by omega
          subst hle;have HL : Hid (L4 w g #[.pointer (some ⟨p,0,none⟩),.slice NA n nc,.slice (some ⟨eb,0,none⟩) n ec,.slice BA n bc,.slice (some ⟨fb,0,none⟩) n fc] kb rows fb fc n q stp lst (fun k => (ds.getD k default).time) wr (m + remE n rows far')):=Lib.hid ⟨m,c,A,us,far',hm,hq,Lib.hid ⟨HQ5.out.1,HQ5.out.2.1.mono (hl_all HB.out HLR.out),rfl,by have:=HQ5.out.2.2; have:=HM0.out; omega⟩⟩;go_wp2_with fail;go_roundw
          case rel => exact ⟨_,HL.out⟩
          case measure => have:=gm_le HL.out; have:=HQ5.out.2.2; omega

end Go.Proofs.YtkchacgkjdeiaaaGreatDoor
/- The walk of explore's closure at any number of states. -/
namespace Go.Proofs.YtkchacgkjdeiaaaGreatDoor
open Go.RowKit Go.Sort Go.Maps

structure StpW (W : World) (lo : Nat) (eds : List Value) (stp : List (List (Nat × Nat))) : Prop where
  len : eds.length = stp.length
  row : ∀ i (h : i < stp.length), ∃ A c, eds[i]? = some (.slice A stp[i].length c) ∧ W.ownsRow lo 246 2 (.slice A stp[i].length c) stp[i].length (stp[i].flatMap encG)
  far : ∀ (i j : Nat) (u v : Value) (b : Nat), i ≠ j → eds[i]? = some u → eds[j]? = some v → u.ownBlock = some b → v.ownBlock ≠ some b
section
variable {W W' : World} {lo : Nat} {eds : List Value} {stp : List (List (Nat × Nat))} {row : Option Nat} {x : Option TypeId}
theorem StpW.nil_ (W : World) (lo : Nat) : StpW W lo [] []:=⟨rfl,fun i h => by simp at h,fun i j u v b _ h => by simp at h⟩
theorem StpW.below (h : StpW W lo eds stp) (hb : Below W.heap.size W W') : StpW W' lo eds stp:=⟨h.len,fun i hi => let ⟨A,c,a,b⟩:=h.row i hi; ⟨A,c,a,own_keep b hb⟩,h.far⟩
theorem StpW.alloc (h : StpW W lo eds stp) (o : Obj) : StpW (W.alloc o) lo eds stp:=h.below ((Below.refl _ _).alloc (Nat.le_refl _) o)
theorem StpW.drewN (h : StpW W lo eds stp) (n : Nat) : StpW (W.drewN n) lo eds stp:=h.below (below_drewN' (Below.refl _ _) n)
theorem StpW.drew (h : StpW W lo eds stp) : StpW W.drew lo eds stp:=h.drewN 1
theorem StpW.other (h : StpW W lo eds stp) (hg : W.grownBy W' row) (hk : Kind W row x) (hne : x ≠ some 246) : StpW W' lo eds stp:=⟨h.len,fun i hi => let ⟨A,c,a,b⟩:=h.row i hi; ⟨A,c,a,own_other b hg hk hne⟩,h.far⟩
theorem StpW.snoc (h : StpW W lo eds stp) : StpW W lo (eds ++ [.slice none 0 0]) (stp ++ [[]]):=by
 have hl:=h.len;refine ⟨by simp [hl],fun i hi => ?_,fun i j u v b hne hu hv hub => ?_⟩
 ·by_cases e : i < stp.length
  ·obtain ⟨A,c,a,b⟩:=h.row i e
   refine ⟨A,c,?_,?_⟩
   ·rw [List.getElem?_append_left (by omega)]; simp only [List.getElem_append_left e]; exact a
   ·simp only [List.getElem_append_left e]; exact b
  ·have e2 : i = stp.length:=by simp at hi; omega
   subst e2;refine ⟨none,0,?_,?_⟩
   ·rw [List.getElem?_append_right (by omega)]; simp [hl]
   ·simp only [List.getElem_append_right (Nat.le_refl _),Nat.sub_self]
    exact World.ownsRow_nil _ _ _ _
 ·have key : ∀ (i : Nat) (u : Value),(eds ++ [Value.slice none 0 0])[i]? = some u → u.ownBlock = some b → eds[i]? = some u:=fun i u hu hub => by
   by_cases e : i < eds.length
   ·rwa [List.getElem?_append_left e] at hu
   ·rw [List.getElem?_append_right (by omega)] at hu
    by_cases e2 : i - eds.length = 0
    ·rw [e2] at hu; simp at hu; subst hu; cases hub
    ·have : i - eds.length = (i - eds.length - 1) + 1:=by omega
     rw [this] at hu; simp at hu
  intro hvb;exact h.far i j u v b hne (key i u hu hub) (key j v hv hvb) hub hvb
end
structure GX (w0 W : World) (t mv gv g mb : Nat) (TC : Array Value) : Prop where
  bel : Below w0.heap.size w0 W
  mv : Blk W mv 277 #[.map (some mb)]
  gv : Blk W gv 191 #[.pointer (some ⟨g, 0, none⟩)]
  t : Blk W t 236 TC
section
variable {w0 W W' : World} {t mv gv g mb : Nat} {TC : Array Value} {row : Option Nat} {x : Option TypeId}
def okX (x : Option TypeId) : Bool:=x != some 277 && x != some 191 && x != some 236
theorem GX.below (h : GX w0 W t mv gv g mb TC) (hb : Below W.heap.size W W') : GX w0 W' t mv gv g mb TC:=⟨below_up h.bel hb,h.mv.below hb,h.gv.below hb,h.t.below hb⟩
theorem GX.alloc (h : GX w0 W t mv gv g mb TC) (o : Obj) : GX w0 (W.alloc o) t mv gv g mb TC:=h.below ((Below.refl _ _).alloc (Nat.le_refl _) o)
theorem GX.drewN (h : GX w0 W t mv gv g mb TC) (n : Nat) : GX w0 (W.drewN n) t mv gv g mb TC:=h.below (below_drewN' (Below.refl _ _) n)
theorem GX.drew (h : GX w0 W t mv gv g mb TC) : GX w0 W.drew t mv gv g mb TC:=h.drewN 1
theorem GX.other (h : GX w0 W t mv gv g mb TC) (hg : W.grownBy W' row) (hr : ∀ k,row = some k → w0.heap.size ≤ k) (hk : Kind W row x) (hx : okX x = true) : GX w0 W' t mv gv g mb TC:=by
 simp only [okX,Bool.and_eq_true,bne_iff_ne] at hx;exact ⟨h.bel.grown hg h.bel.size hr,h.mv.other hg hk hx.1.1,h.gv.other hg hk hx.1.2,h.t.other hg hk hx.2⟩
end
def ixF (sts : List StE) : StE → Option Nat:=fun x => if x ∈ sts then some (sts.idxOf x) else none
theorem ixF_put {sts : List StE} {x : StE} (h : x ∉ sts) : putT (ixF sts) x sts.length = ixF (sts ++ [x]):=by
 funext y
 unfold putT ixF
 by_cases e : y = x
 ·subst e
  rw [if_pos rfl,if_pos (by simp),List.idxOf_append,if_neg h]
  simp
 ·rw [if_neg e]
  by_cases h2 : y ∈ sts
  ·rw [if_pos h2,if_pos (by simp [h2]),List.idxOf_append,if_pos h2]
  ·rw [if_neg h2,if_neg (by simp [h2,e])]
structure GY (lo : Nat) (W : World) (p g mb n : Nat) (sts : List StE) (eds : List Value) (stp : List (List (Nat × Nat))) (bs : List Bool) (NA EA BA : Option Addr) (nc ec bc : Nat) : Prop where
  g : Blk W g 243 #[.pointer (some ⟨p, 0, none⟩), .slice NA n nc, .slice EA n ec, .slice BA n bc, .slice none 0 0]
  mb : MapT W mb n (ixF sts)
  N : W.ownsRow lo 232 3 (.slice NA n nc) n (sts.flatMap encT)
  E : W.ownsRow lo 244 1 (.slice EA n ec) n eds
  S : StpW W lo eds stp
  B : W.ownsRow lo 4 1 (.slice BA n bc) n (bs.map Value.bool)
section
variable {lo : Nat} {W W' : World} {p g mb n : Nat} {sts : List StE} {eds : List Value} {stp : List (List (Nat × Nat))} {bs : List Bool} {NA EA BA : Option Addr} {nc ec bc : Nat}
theorem GY.below (h : GY lo W p g mb n sts eds stp bs NA EA BA nc ec bc) (hb : Below W.heap.size W W') : GY lo W' p g mb n sts eds stp bs NA EA BA nc ec bc:=⟨h.g.below hb,h.mb.below hb,own_keep h.N hb,own_keep h.E hb,h.S.below hb,own_keep h.B hb⟩
theorem GY.alloc (h : GY lo W p g mb n sts eds stp bs NA EA BA nc ec bc) (o : Obj) : GY lo (W.alloc o) p g mb n sts eds stp bs NA EA BA nc ec bc:=h.below ((Below.refl _ _).alloc (Nat.le_refl _) o)
theorem GY.drewN (h : GY lo W p g mb n sts eds stp bs NA EA BA nc ec bc) (k : Nat) : GY lo (W.drewN k) p g mb n sts eds stp bs NA EA BA nc ec bc:=h.below (below_drewN' (Below.refl _ _) k)
theorem GY.drew (h : GY lo W p g mb n sts eds stp bs NA EA BA nc ec bc) : GY lo W.drew p g mb n sts eds stp bs NA EA BA nc ec bc:=h.drewN 1
end
def EndsOk (w0 : World) (t : Nat) (TC : Array Value) (fid : FuncId) (pre post : Array Value) (ef : StE → Bool) : Prop :=
 (∀ (args : Array Value) (W : World),(callFunc fid args).run Tryz.prog W = .ok (.enter fid args) W) ∧ ∀ (W : World) (x : StE),Below w0.heap.size w0 W → Blk W t 236 TC → OkT x → Calls Tryz.prog fid ((pre ++ #[stV x]) ++ post) W fun e w' => e = .returned (.bool (ef x)) ∧ Below W.heap.size W w'
def IxPostG (w0 : World) (lo p t mv gv g mb n : Nat) (TC : Array Value) (sts : List StE) (eds : List Value) (stp : List (List (Nat × Nat))) (bs : List Bool) (r : Nat) (e : Ending) (w' : World) : Prop :=
 e = .returned (.int .i64 (r : Int)) ∧ lo ≤ w'.heap.size ∧ GX w0 w' t mv gv g mb TC ∧ ∃ (NA EA BA : Option Addr) (nc ec bc : Nat),GY lo w' p g mb n sts eds stp bs NA EA BA nc ec bc

set_option maxHeartbeats 4000000 in
set_option maxRecDepth 100000 in
theorem index_old (w0 w : World) (lo p t mv gv g mb n : Nat) (sts : List StE) (eds : List Value) (stp : List (List (Nat × Nat))) (bs : List Bool) (NA EA BA : Option Addr) (nc ec bc : Nat) (fid : FuncId) (pre post : Array Value) (t0 t1 t2 t3 : Value) (ef : StE → Bool) (x : StE)
  (hgr : GX w0 w t mv gv g mb #[t0,t1,t2,t3,.func (.func fid) pre post]) (hgn : GY lo w p g mb n sts eds stp bs NA EA BA nc ec bc) (hx : OkT x) (hm : x ∈ sts) (hl : lo ≤ w.heap.size) :
  Calls Tryz.prog 172 #[stV x,.pointer (some ⟨mv,0,none⟩),.pointer (some ⟨gv,0,none⟩),.pointer (some ⟨t,0,none⟩)] w (IxPostG w0 lo p t mv gv g mb n #[t0,t1,t2,t3,.func (.func fid) pre post] sts eds stp bs (sts.idxOf x)):=by
 have hgr:=hgr.alloc (.cells #[.int .i64 (x.r : Int),.int .i64 (x.b : Int),.int .i64 (x.s : Int)] 232);have hgn:=hgn.alloc (.cells #[.int .i64 (x.r : Int),.int .i64 (x.b : Int),.int .i64 (x.s : Int)] 232);have hv : Blk (w.alloc (.cells #[.int .i64 (x.r : Int),.int .i64 (x.b : Int),.int .i64 (x.s : Int)] 232)) w.heap.size 232 #[.int .i64 (x.r : Int),.int .i64 (x.b : Int),.int .i64 (x.s : Int)]:=Blk.new _ _ _
 have zl : lo ≤ (w.alloc (.cells #[.int .i64 (x.r : Int),.int .i64 (x.b : Int),.int .i64 (x.s : Int)] 232)).heap.size:=by simp; omega
 have HX:=Lib.hid hx
 have hf : ixF sts x = if true then some (sts.idxOf x) else none:=by unfold ixF; rw [if_pos hm]; rfl
 have HF:=Lib.hid hf;clear hm hx hf;unfold stV
 go_enter Tryz.func172,Tryz.ntmps172
 go_upto_region 1 with (fail);generalize hV : w.heap.size = v at *;generalize w.alloc (.cells #[.int .i64 (x.r : Int),.int .i64 (x.b : Int),.int .i64 (x.s : Int)] 232) = X at *;have q0:=hgr.mv.w1;obtain ⟨v0,v1,v2⟩:=hv.w3;have hmb:=hgn.mb;generalize sts.idxOf x = r at *
 go_wp2_with (first | (at_lookup; refine wpList_lookT rfl _ _ rfl rfl hmb x r true HX.out rfl HF.out (fun h => by cases h) ?_) | fail)
 go_ret;exact ⟨rfl,zl,hgr,NA,EA,BA,nc,ec,bc,hgn⟩

set_option maxHeartbeats 8000000 in
set_option maxRecDepth 100000 in
theorem index_new (w0 w : World) (lo p t mv gv g mb n : Nat) (sts : List StE) (eds : List Value) (stp : List (List (Nat × Nat))) (bs : List Bool) (NA EA BA : Option Addr) (nc ec bc : Nat) (fid : FuncId) (pre post : Array Value) (t0 t1 t2 t3 : Value) (ef : StE → Bool) (x : StE)
  (hgr : GX w0 w t mv gv g mb #[t0,t1,t2,t3,.func (.func fid) pre post]) (hgn : GY lo w p g mb n sts eds stp bs NA EA BA nc ec bc) (hx : OkT x) (hm : x ∉ sts) (hef : EndsOk w0 t #[t0,t1,t2,t3,.func (.func fid) pre post] fid pre post ef) (hlo : w0.heap.size ≤ lo) (hlg : w0.heap.size ≤ g) (hlm : w0.heap.size ≤ mb) (hl : lo ≤ w.heap.size) (hn : sts.length = n) (hnb : n ≤ 1000000) :
  Calls Tryz.prog 172 #[stV x,.pointer (some ⟨mv,0,none⟩),.pointer (some ⟨gv,0,none⟩),.pointer (some ⟨t,0,none⟩)] w (IxPostG w0 lo p t mv gv g mb (n + 1) #[t0,t1,t2,t3,.func (.func fid) pre post] (sts ++ [x]) (eds ++ [.slice none 0 0]) (stp ++ [[]]) (bs ++ [ef x]) n):=by
 have hvN : some w.heap.size ≠ (Value.slice NA n nc).ownBlock:=fun e => absurd (hgn.N.lt _ e.symm).2 (Nat.lt_irrefl _)
 have hgr:=hgr.alloc (.cells #[.int .i64 (x.r : Int),.int .i64 (x.b : Int),.int .i64 (x.s : Int)] 232);have hgn:=hgn.alloc (.cells #[.int .i64 (x.r : Int),.int .i64 (x.b : Int),.int .i64 (x.s : Int)] 232);have hv : Blk (w.alloc (.cells #[.int .i64 (x.r : Int),.int .i64 (x.b : Int),.int .i64 (x.s : Int)] 232)) w.heap.size 232 #[.int .i64 (x.r : Int),.int .i64 (x.b : Int),.int .i64 (x.s : Int)]:=Blk.new _ _ _
 have zl : lo ≤ (w.alloc (.cells #[.int .i64 (x.r : Int),.int .i64 (x.b : Int),.int .i64 (x.s : Int)] 232)).heap.size:=by simp; omega
 have HX:=Lib.hid hx
 have hf : ixF sts x = if false then some 0 else none:=by unfold ixF; rw [if_neg hm]; rfl
 have HF:=Lib.hid hf;have HEF:=Lib.hid hef;have HPU : Hid (putT (ixF sts) x n = ixF (sts ++ [x])):=Lib.hid (by rw [← hn]; exact ixF_put hm)
 have hnb1 : (n + 1) * 24 ≤ 140737488355328:=by omega
 have hnb2 : n + 1 ≤ 9223372036854775807:=by omega
 have hnb3 : (n + 1) * 1 ≤ 140737488355328:=by omega
 have hlo0:=hlo;clear hm hx hf hef hn;unfold stV
 go_enter Tryz.func172,Tryz.ntmps172
 go_upto_region 1 with (fail);generalize hV : w.heap.size = v at *;generalize w.alloc (.cells #[.int .i64 (x.r : Int),.int .i64 (x.b : Int),.int .i64 (x.s : Int)] 232) = X at *;have q0:=hgr.mv.w1;have q1:=hgr.gv.w1;obtain ⟨v0,v1,v2⟩:=hv.w3;obtain ⟨k0,k1,k2,k3,k4⟩:=hgn.g.w5;have hmb:=hgn.mb;go_upto_region 5 with (first | (at_lookup; refine wpList_lookT rfl _ _ rfl rfl hmb x 0 false HX.out rfl HF.out (fun _ => rfl) ?_) | (at_mapUpdate; refine wpList_putT rfl _ _ _ rfl rfl hmb (by unfold maxLen; omega) x n HX.out (by omega) rfl rfl ?_; intro X2 hm2 hg2) | fail);clear q0 q1 v0 v1 v2 k0 k1 k2 k3 k4;rw [HPU.out] at hm2;have hk2:=hmb.kind
 have hr2 : ∀ k,some mb = some k → w0.heap.size ≤ k:=fun k hk => by injection hk with hk; omega
 have hgr:=(hgr.other hg2 hr2 hk2 (by decide)).drew;have hv:=(hv.other hg2 hk2 (by decide)).drew;have hg:=(hgn.g.other hg2 hk2 (by decide)).drew;have hN : X2.drew.ownsRow lo 232 3 _ _ _:=own_drewN (own_other hgn.N hg2 hk2 (by decide)) 1;have hE : X2.drew.ownsRow lo 244 1 _ _ _:=own_drewN (own_other hgn.E hg2 hk2 (by decide)) 1;have hB : X2.drew.ownsRow lo 4 1 _ _ _:=own_drewN (own_other hgn.B hg2 hk2 (by decide)) 1;have hWS:=(hgn.S.other hg2 hk2 (by decide)).drew;have hm:=hm2.drewN 1;have zl : lo ≤ X2.drew.heap.size:=Nat.le_trans zl hg2.size;have hm : MapT X2.drew mb (n + 1) (ixF (sts ++ [x])):=hm;clear hgn hmb hm2 hg2 hk2 hr2

 refine wp_region_heldK 28 (fun w' => w'.cell? ⟨g,1,none⟩ = some (.slice NA n nc) ∧ w'.cell? ⟨g,2,none⟩ = some (.slice EA n ec) ∧ w'.cell? ⟨g,3,none⟩ = some (.slice BA n bc)) (fun w' => w'.cell? ⟨gv,0,none⟩ = some (.pointer (some ⟨g,0,none⟩)) ∧ w'.cell? ⟨v,0,none⟩ = some (.int .i64 (x.r : Int)) ∧ w'.cell? ⟨v,1,none⟩ = some (.int .i64 (x.b : Int)) ∧ w'.cell? ⟨v,2,none⟩ = some (.int .i64 (x.s : Int)) ∧ w'.cell? ⟨t,4,none⟩ = some (.func (.func fid) pre post)) (by kernel_rfl) (⟨hgr.gv.w1,hv.w3.1,hv.w3.2.1,hv.w3.2.2,hgr.t.w5.2.2.2.2⟩) (⟨hg.w5.2.1,hg.w5.2.2.1,hg.w5.2.2.2.1⟩) (fun hT hS => ?_);(refine KU2 0 ?_; (try simp only [Act.put,Q3,Q4,Q5]));(refine KU2 1 ?_; (try simp only [Act.put,Q3,Q4,Q5]));(refine KU2 2 ?_; (try simp only [Act.put,Q3,Q4,Q5]));(refine KU2 3 ?_; (try simp only [Act.put,Q3,Q4,Q5]));(refine KU2 4 ?_; (try simp only [Act.put,Q3,Q4,Q5]));(refine KU2 5 ?_; (try simp only [Act.put,Q3,Q4,Q5]));(refine KU1 6 ?_; (try simp only [Act.put,Q3,Q4,Q5]));(refine KU2 7 ?_; (try simp only [Act.put,Q3,Q4,Q5]));(refine KU2 10 ?_; (try simp only [Act.put,Q3,Q4,Q5]));(refine KU2 11 ?_; (try simp only [Act.put,Q3,Q4,Q5]));(refine KU2 12 ?_; (try simp only [Act.put,Q3,Q4,Q5]));(refine KU1 13 ?_; (try simp only [Act.put,Q3,Q4,Q5]));(refine KU2 16 ?_; (try simp only [Act.put,Q3,Q4,Q5]));(refine KU2 17 ?_; (try simp only [Act.put,Q3,Q4,Q5]));(refine KU2 18 ?_; (try simp only [Act.put,Q3,Q4,Q5]));(refine KU1 19 ?_; (try simp only [Act.put,Q3,Q4,Q5]));(refine KU2 20 ?_; (try simp only [Act.put,Q3,Q4,Q5]));(refine KU2 21 ?_; (try simp only [Act.put,Q3,Q4,Q5]));(refine KU2 22 ?_; (try simp only [Act.put,Q3,Q4,Q5]));refine wpAnyK_ready (rs:=[8,14]) (by kernel_rfl) (by simp) ?_;refine AllReadyK.cons rfl (fun K hK => ?_) (AllReadyK.cons rfl (fun K hK => ?_) AllReadyK.nil)
 case refine_1 =>
  go_simp;have nhgr:=hgr.alloc (.cells #[.int .i64 (x.r : Int),.int .i64 (x.b : Int),.int .i64 (x.s : Int)] 232);have nhv:=hv.alloc (.cells #[.int .i64 (x.r : Int),.int .i64 (x.b : Int),.int .i64 (x.s : Int)] 232);have nhg:=hg.alloc (.cells #[.int .i64 (x.r : Int),.int .i64 (x.b : Int),.int .i64 (x.s : Int)] 232);have nhm:=hm.alloc (.cells #[.int .i64 (x.r : Int),.int .i64 (x.b : Int),.int .i64 (x.s : Int)] 232);have nhN:=hN.alloc (.cells #[.int .i64 (x.r : Int),.int .i64 (x.b : Int),.int .i64 (x.s : Int)] 232);have nhE:=hE.alloc (.cells #[.int .i64 (x.r : Int),.int .i64 (x.b : Int),.int .i64 (x.s : Int)] 232);have nhB:=hB.alloc (.cells #[.int .i64 (x.r : Int),.int .i64 (x.b : Int),.int .i64 (x.s : Int)] 232);have nhWS:=hWS.alloc (.cells #[.int .i64 (x.r : Int),.int .i64 (x.b : Int),.int .i64 (x.s : Int)] 232);clear hgr hv hg hm hN hE hB hWS;have hgr:=nhgr;have hv:=nhv;have hg:=nhg;have hm:=nhm;have hN:=nhN;have hE:=nhE;have hB:=nhB;have hWS:=nhWS;clear nhgr nhv nhg nhm nhN nhE nhB nhWS;have b1 : Blk (X2.drew.alloc (.cells #[.int .i64 (x.r : Int),.int .i64 (x.b : Int),.int .i64 (x.s : Int)] 232)) (X2.heap.size) 232 #[.int .i64 (x.r : Int),.int .i64 (x.b : Int),.int .i64 (x.s : Int)]:=Blk.at_ _ (by simp)
  have zl : lo ≤ (X2.drew.alloc (.cells #[.int .i64 (x.r : Int),.int .i64 (x.b : Int),.int .i64 (x.s : Int)] 232)).heap.size:=by first | omega | (simp; omega) | (simp at zl ⊢; omega)
  refine hK.out _ _ (⟨hgr.gv.w1,hv.w3.1,hv.w3.2.1,hv.w3.2.2,hgr.t.w5.2.2.2.2⟩) (⟨hg.w5.2.1,hg.w5.2.2.1,hg.w5.2.2.2.1⟩) (fun hT hS => ?_);clear hK K;(try simp only [Act.put,Q3,Q4,Q5]);refine wpAnyK_ready (rs:=[9,14]) (by kernel_rfl) (by simp) ?_;refine AllReadyK.cons rfl (fun K hK => ?_) (AllReadyK.cons rfl (fun K hK => ?_) AllReadyK.nil)
  case refine_1 =>
   refine step_app (lo:=0) (base:=lo) (n:=n) (xs:=sts.flatMap encT) _ rfl _ _ ty_states rfl hN rfl (Row.lit (n:=1) (size:=3) b1 (Nat.zero_le _) rfl) rfl rfl hnb1 hnb2 zl ?_;intro A1 d1 wn oN gN _;have kN:=own_kind hN
   have lN:=fun k hk => Nat.le_trans hlo0 (hN.lt k hk).1
   have zl : lo ≤ wn.heap.size:=Nat.le_trans zl gN.size;clear b1;have nhv : Blk wn v 232 #[.int .i64 (x.r : Int),.int .i64 (x.b : Int),.int .i64 (x.s : Int)]:=(gN.block v hv.lt hvN).trans hv;have nhgr:=hgr.other gN (lN) kN (by decide);have nhg:=hg.other gN kN (by decide);have nhm:=hm.other gN kN (by decide);have nhE:=own_other hE gN kN (by decide);have nhB:=own_other hB gN kN (by decide);have nhWS:=hWS.other gN kN (by decide);clear hgr hg hm hE hB hWS;have hgr:=nhgr;have hg:=nhg;have hm:=nhm;have hE:=nhE;have hB:=nhB;have hWS:=nhWS;clear nhgr nhg nhm nhE nhB nhWS;clear hv hN;have hv:=nhv;have hN:=oN;clear nhv oN;refine hK.out _ _ (⟨hgr.gv.w1,hv.w3.1,hv.w3.2.1,hv.w3.2.2,hgr.t.w5.2.2.2.2⟩) (⟨hg.w5.2.1,hg.w5.2.2.1,hg.w5.2.2.2.1⟩) (fun hT hS => ?_);clear hK K;(try simp only [Act.put,Q3,Q4,Q5]);refine wpAnyK_ready (rs:=[14]) (by kernel_rfl) (by simp) ?_;refine AllReadyK.cons rfl (fun K hK => ?_) AllReadyK.nil;go_simp;have nhgr:=hgr.alloc (.cells #[.slice none 0 0] 244);have nhv:=hv.alloc (.cells #[.slice none 0 0] 244);have nhg:=hg.alloc (.cells #[.slice none 0 0] 244);have nhm:=hm.alloc (.cells #[.slice none 0 0] 244);have nhN:=hN.alloc (.cells #[.slice none 0 0] 244);have nhE:=hE.alloc (.cells #[.slice none 0 0] 244);have nhB:=hB.alloc (.cells #[.slice none 0 0] 244);have nhWS:=hWS.alloc (.cells #[.slice none 0 0] 244);clear hgr hv hg hm hN hE hB hWS;have hgr:=nhgr;have hv:=nhv;have hg:=nhg;have hm:=nhm;have hN:=nhN;have hE:=nhE;have hB:=nhB;have hWS:=nhWS;clear nhgr nhv nhg nhm nhN nhE nhB nhWS;have b2 : Blk (wn.alloc (.cells #[.slice none 0 0] 244)) (wn.heap.size) 244 #[.slice none 0 0]:=Blk.at_ _ (by simp)
   have zl : lo ≤ (wn.alloc (.cells #[.slice none 0 0] 244)).heap.size:=by first | omega | (simp; omega) | (simp at zl ⊢; omega)
   refine hK.out _ _ (⟨hgr.gv.w1,hv.w3.1,hv.w3.2.1,hv.w3.2.2,hgr.t.w5.2.2.2.2⟩) (⟨hg.w5.2.1,hg.w5.2.2.1,hg.w5.2.2.2.1⟩) (fun hT hS => ?_);clear hK K;(try simp only [Act.put,Q3,Q4,Q5]);refine wpAnyK_ready (rs:=[15]) (by kernel_rfl) (by simp) ?_;refine AllReadyK.cons rfl (fun K hK => ?_) AllReadyK.nil;refine step_app (lo:=0) (base:=lo) (n:=n) (xs:=eds) _ rfl _ _ ty_stepss rfl hE rfl (Row.lit (n:=1) (size:=1) b2 (Nat.zero_le _) rfl) rfl rfl hnb1 hnb2 zl ?_;intro A2 d2 we oE gE _;have kE:=own_kind hE
   have lE:=fun k hk => Nat.le_trans hlo0 (hE.lt k hk).1
   have zl : lo ≤ we.heap.size:=Nat.le_trans zl gE.size;clear b2;have nhgr:=hgr.other gE (lE) kE (by decide);have nhv:=hv.other gE kE (by decide);have nhg:=hg.other gE kE (by decide);have nhm:=hm.other gE kE (by decide);have nhN:=own_other hN gE kE (by decide);have nhB:=own_other hB gE kE (by decide);have nhWS:=hWS.other gE kE (by decide);clear hgr hv hg hm hN hB hWS;have hgr:=nhgr;have hv:=nhv;have hg:=nhg;have hm:=nhm;have hN:=nhN;have hB:=nhB;have hWS:=nhWS;clear nhgr nhv nhg nhm nhN nhB nhWS;clear hE;have hE:=oE;clear oE;refine hK.out _ _ (⟨hgr.gv.w1,hv.w3.1,hv.w3.2.1,hv.w3.2.2,hgr.t.w5.2.2.2.2⟩) (⟨hg.w5.2.1,hg.w5.2.2.1,hg.w5.2.2.2.1⟩) (fun hT hS => ?_);clear hK K;(try simp only [Act.put,Q3,Q4,Q5]);refine wpAnyK_ready (rs:=[23]) (by kernel_rfl) (by simp) ?_;refine AllReadyK.cons rfl (fun K hK => ?_) AllReadyK.nil;have hcf:=HEF.out.1;go_simp;clear hcf;refine (HEF.out.2 _ x hgr.bel hgr.t HX.out).mono ?_;rintro e wg ⟨rfl,hb⟩;have zl : lo ≤ wg.heap.size:=Nat.le_trans zl hb.size;have nhgr:=hgr.below hb;have nhv:=hv.below hb;have nhg:=hg.below hb;have nhm:=hm.below hb;have nhN:=own_keep hN hb;have nhE:=own_keep hE hb;have nhB:=own_keep hB hb;have nhWS:=hWS.below hb;clear hgr hv hg hm hN hE hB hWS;have hgr:=nhgr;have hv:=nhv;have hg:=nhg;have hm:=nhm;have hN:=nhN;have hE:=nhE;have hB:=nhB;have hWS:=nhWS;clear nhgr nhv nhg nhm nhN nhE nhB nhWS;go_wp2_with fail;refine hK.out _ _ (⟨hgr.gv.w1,hv.w3.1,hv.w3.2.1,hv.w3.2.2,hgr.t.w5.2.2.2.2⟩) (⟨hg.w5.2.1,hg.w5.2.2.1,hg.w5.2.2.2.1⟩) (fun hT hS => ?_);clear hK K;(try simp only [Act.put,Q3,Q4,Q5]);refine wpAnyK_ready (rs:=[24]) (by kernel_rfl) (by simp) ?_;refine AllReadyK.cons rfl (fun K hK => ?_) AllReadyK.nil;go_simp;have nhgr:=hgr.alloc (.cells #[.bool (ef x)] 4);have nhv:=hv.alloc (.cells #[.bool (ef x)] 4);have nhg:=hg.alloc (.cells #[.bool (ef x)] 4);have nhm:=hm.alloc (.cells #[.bool (ef x)] 4);have nhN:=hN.alloc (.cells #[.bool (ef x)] 4);have nhE:=hE.alloc (.cells #[.bool (ef x)] 4);have nhB:=hB.alloc (.cells #[.bool (ef x)] 4);have nhWS:=hWS.alloc (.cells #[.bool (ef x)] 4);clear hgr hv hg hm hN hE hB hWS;have hgr:=nhgr;have hv:=nhv;have hg:=nhg;have hm:=nhm;have hN:=nhN;have hE:=nhE;have hB:=nhB;have hWS:=nhWS;clear nhgr nhv nhg nhm nhN nhE nhB nhWS;have b3 : Blk (wg.alloc (.cells #[.bool (ef x)] 4)) (wg.heap.size) 4 #[.bool (ef x)]:=Blk.at_ _ (by simp)
   have zl : lo ≤ (wg.alloc (.cells #[.bool (ef x)] 4)).heap.size:=by first | omega | (simp; omega) | (simp at zl ⊢; omega)
   refine hK.out _ _ (⟨hgr.gv.w1,hv.w3.1,hv.w3.2.1,hv.w3.2.2,hgr.t.w5.2.2.2.2⟩) (⟨hg.w5.2.1,hg.w5.2.2.1,hg.w5.2.2.2.1⟩) (fun hT hS => ?_);clear hK K;(try simp only [Act.put,Q3,Q4,Q5]);refine wpAnyK_ready (rs:=[25]) (by kernel_rfl) (by simp) ?_;refine AllReadyK.cons rfl (fun K hK => ?_) AllReadyK.nil;refine step_app (lo:=0) (base:=lo) (n:=n) (xs:=bs.map Value.bool) _ rfl _ _ ty_boolz rfl hB rfl (Row.lit (n:=1) (size:=1) b3 (Nat.zero_le _) rfl) rfl rfl hnb3 hnb2 zl ?_;intro A3 d3 wb oB gB _;have kB:=own_kind hB
   have lB:=fun k hk => Nat.le_trans hlo0 (hB.lt k hk).1
   have zl : lo ≤ wb.heap.size:=Nat.le_trans zl gB.size;clear b3;have nhgr:=hgr.other gB (lB) kB (by decide);have nhv:=hv.other gB kB (by decide);have nhg:=hg.other gB kB (by decide);have nhm:=hm.other gB kB (by decide);have nhN:=own_other hN gB kB (by decide);have nhE:=own_other hE gB kB (by decide);have nhWS:=hWS.other gB kB (by decide);clear hgr hv hg hm hN hE hWS;have hgr:=nhgr;have hv:=nhv;have hg:=nhg;have hm:=nhm;have hN:=nhN;have hE:=nhE;have hWS:=nhWS;clear nhgr nhv nhg nhm nhN nhE nhWS;clear hB;have hB:=oB;clear oB;refine hK.out _ _ (⟨hgr.gv.w1,hv.w3.1,hv.w3.2.1,hv.w3.2.2,hgr.t.w5.2.2.2.2⟩) (⟨hg.w5.2.1,hg.w5.2.2.1,hg.w5.2.2.2.1⟩) (fun hT hS => ?_);clear hK K;(try simp only [Act.put,Q3,Q4,Q5]);(refine KU2 26 ?_; (try simp only [Act.put,Q3,Q4,Q5]));(refine KU2 27 ?_; (try simp only [Act.put,Q3,Q4,Q5]));refine wpAnyK_ready (rs:=[28]) (by kernel_rfl) (by simp) ?_;refine AllReadyK.consT (by kernel_rfl) rfl (fun K hK => ?_) AllReadyK.nil;obtain ⟨k0,k1,k2,k3,k4⟩:=hg.w5;have kf:=hg.thaw 1;have zg:=hg.lt;go_simp;clear k0 k1 k2 k3 k4 kf zg;have kg:=hg.kind;have ghg:=hg.poke 1 (.slice A1 (n + 1) d1);have nhgr:=hgr.other (grown_poke _ g 1 (.slice A1 (n + 1) d1)) (fun k hk => by injection hk with hk; omega) kg (by decide);have nhv:=hv.other (grown_poke _ g 1 (.slice A1 (n + 1) d1)) kg (by decide);have nhm:=hm.other (grown_poke _ g 1 (.slice A1 (n + 1) d1)) kg (by decide);have nhN:=own_other hN (grown_poke _ g 1 (.slice A1 (n + 1) d1)) kg (by decide);have nhE:=own_other hE (grown_poke _ g 1 (.slice A1 (n + 1) d1)) kg (by decide);have nhB:=own_other hB (grown_poke _ g 1 (.slice A1 (n + 1) d1)) kg (by decide);have nhWS:=hWS.other (grown_poke _ g 1 (.slice A1 (n + 1) d1)) kg (by decide);clear hgr hv hm hN hE hB hWS;have hgr:=nhgr;have hv:=nhv;have hm:=nhm;have hN:=nhN;have hE:=nhE;have hB:=nhB;have hWS:=nhWS;clear nhgr nhv nhm nhN nhE nhB nhWS;have hg:=ghg;clear ghg kg;simp only [Q3,Q4,Q5] at hg;refine hK.out _ _ (⟨hgr.gv.w1,hv.w3.1,hv.w3.2.1,hv.w3.2.2,hgr.t.w5.2.2.2.2⟩) (fun hT => ?_);clear hK K;(try simp only [Act.put,Q3,Q4,Q5]);(refine KU3 29 ?_; (try simp only [Act.put,Q3,Q4,Q5]));(refine KU3 30 ?_; (try simp only [Act.put,Q3,Q4,Q5]));refine wpAnyK_ready (rs:=[31]) (by kernel_rfl) (by simp) ?_;refine AllReadyK.consT (by kernel_rfl) rfl (fun K hK => ?_) AllReadyK.nil;obtain ⟨k0,k1,k2,k3,k4⟩:=hg.w5;have kf:=hg.thaw 2;have zg:=hg.lt;go_simp;clear k0 k1 k2 k3 k4 kf zg;have kg:=hg.kind;have ghg:=hg.poke 2 (.slice A2 (n + 1) d2);have nhgr:=hgr.other (grown_poke _ g 2 (.slice A2 (n + 1) d2)) (fun k hk => by injection hk with hk; omega) kg (by decide);have nhv:=hv.other (grown_poke _ g 2 (.slice A2 (n + 1) d2)) kg (by decide);have nhm:=hm.other (grown_poke _ g 2 (.slice A2 (n + 1) d2)) kg (by decide);have nhN:=own_other hN (grown_poke _ g 2 (.slice A2 (n + 1) d2)) kg (by decide);have nhE:=own_other hE (grown_poke _ g 2 (.slice A2 (n + 1) d2)) kg (by decide);have nhB:=own_other hB (grown_poke _ g 2 (.slice A2 (n + 1) d2)) kg (by decide);have nhWS:=hWS.other (grown_poke _ g 2 (.slice A2 (n + 1) d2)) kg (by decide);clear hgr hv hm hN hE hB hWS;have hgr:=nhgr;have hv:=nhv;have hm:=nhm;have hN:=nhN;have hE:=nhE;have hB:=nhB;have hWS:=nhWS;clear nhgr nhv nhm nhN nhE nhB nhWS;have hg:=ghg;clear ghg kg;simp only [Q3,Q4,Q5] at hg;refine hK.out _ _ (⟨hgr.gv.w1,hv.w3.1,hv.w3.2.1,hv.w3.2.2,hgr.t.w5.2.2.2.2⟩) (fun hT => ?_);clear hK K;(try simp only [Act.put,Q3,Q4,Q5]);(refine KU3 32 ?_; (try simp only [Act.put,Q3,Q4,Q5]));(refine KU3 33 ?_; (try simp only [Act.put,Q3,Q4,Q5]));refine wpAnyK_ready (rs:=[34]) (by kernel_rfl) (by simp) ?_;refine AllReadyK.consT (by kernel_rfl) rfl (fun K hK => ?_) AllReadyK.nil;obtain ⟨k0,k1,k2,k3,k4⟩:=hg.w5;have kf:=hg.thaw 3;have zg:=hg.lt;go_simp;clear k0 k1 k2 k3 k4 kf zg;have kg:=hg.kind;have ghg:=hg.poke 3 (.slice A3 (n + 1) d3);have nhgr:=hgr.other (grown_poke _ g 3 (.slice A3 (n + 1) d3)) (fun k hk => by injection hk with hk; omega) kg (by decide);have nhv:=hv.other (grown_poke _ g 3 (.slice A3 (n + 1) d3)) kg (by decide);have nhm:=hm.other (grown_poke _ g 3 (.slice A3 (n + 1) d3)) kg (by decide);have nhN:=own_other hN (grown_poke _ g 3 (.slice A3 (n + 1) d3)) kg (by decide);have nhE:=own_other hE (grown_poke _ g 3 (.slice A3 (n + 1) d3)) kg (by decide);have nhB:=own_other hB (grown_poke _ g 3 (.slice A3 (n + 1) d3)) kg (by decide);have nhWS:=hWS.other (grown_poke _ g 3 (.slice A3 (n + 1) d3)) kg (by decide);clear hgr hv hm hN hE hB hWS;have hgr:=nhgr;have hv:=nhv;have hm:=nhm;have hN:=nhN;have hE:=nhE;have hB:=nhB;have hWS:=nhWS;clear nhgr nhv nhm nhN nhE nhB nhWS;have hg:=ghg;clear ghg kg;simp only [Q3,Q4,Q5] at hg;refine hK.out _ _ (⟨hgr.gv.w1,hv.w3.1,hv.w3.2.1,hv.w3.2.2,hgr.t.w5.2.2.2.2⟩) (fun hT => ?_);clear hK K;(try simp only [Act.put,Q3,Q4,Q5]);refine wpAnyK_done (by kernel_rfl) ?_ _;go_wp2_with fail;go_ret;exact ⟨rfl,by simpa using zl,hgr,A1,A2,A3,d1,d2,d3,⟨hg,hm,by rw [List.flatMap_append]; exact hN,hE,hWS.snoc,by rw [List.map_append]; exact hB⟩⟩
  case refine_2 =>
   go_simp;have nhgr:=hgr.alloc (.cells #[.slice none 0 0] 244);have nhv:=hv.alloc (.cells #[.slice none 0 0] 244);have nhg:=hg.alloc (.cells #[.slice none 0 0] 244);have nhm:=hm.alloc (.cells #[.slice none 0 0] 244);have nhN:=hN.alloc (.cells #[.slice none 0 0] 244);have nhE:=hE.alloc (.cells #[.slice none 0 0] 244);have nhB:=hB.alloc (.cells #[.slice none 0 0] 244);have nhWS:=hWS.alloc (.cells #[.slice none 0 0] 244);have nb1:=b1.alloc (.cells #[.slice none 0 0] 244);clear hgr hv hg hm hN hE hB hWS b1;have hgr:=nhgr;have hv:=nhv;have hg:=nhg;have hm:=nhm;have hN:=nhN;have hE:=nhE;have hB:=nhB;have hWS:=nhWS;have b1:=nb1;clear nhgr nhv nhg nhm nhN nhE nhB nhWS nb1;have b2 : Blk ((X2.drew.alloc (.cells #[.int .i64 (x.r : Int),.int .i64 (x.b : Int),.int .i64 (x.s : Int)] 232)).alloc (.cells #[.slice none 0 0] 244)) (X2.heap.size + 1) 244 #[.slice none 0 0]:=Blk.at_ _ (by simp)
   have zl : lo ≤ ((X2.drew.alloc (.cells #[.int .i64 (x.r : Int),.int .i64 (x.b : Int),.int .i64 (x.s : Int)] 232)).alloc (.cells #[.slice none 0 0] 244)).heap.size:=by first | omega | (simp; omega) | (simp at zl ⊢; omega)
   refine hK.out _ _ (⟨hgr.gv.w1,hv.w3.1,hv.w3.2.1,hv.w3.2.2,hgr.t.w5.2.2.2.2⟩) (⟨hg.w5.2.1,hg.w5.2.2.1,hg.w5.2.2.2.1⟩) (fun hT hS => ?_);clear hK K;(try simp only [Act.put,Q3,Q4,Q5]);refine wpAnyK_ready (rs:=[9]) (by kernel_rfl) (by simp) ?_;refine AllReadyK.cons rfl (fun K hK => ?_) AllReadyK.nil;refine step_app (lo:=0) (base:=lo) (n:=n) (xs:=sts.flatMap encT) _ rfl _ _ ty_states rfl hN rfl (Row.lit (n:=1) (size:=3) b1 (Nat.zero_le _) rfl) rfl rfl hnb1 hnb2 zl ?_;intro A1 d1 wn oN gN _;have kN:=own_kind hN
   have lN:=fun k hk => Nat.le_trans hlo0 (hN.lt k hk).1
   have zl : lo ≤ wn.heap.size:=Nat.le_trans zl gN.size;clear b1;have nhv : Blk wn v 232 #[.int .i64 (x.r : Int),.int .i64 (x.b : Int),.int .i64 (x.s : Int)]:=(gN.block v hv.lt hvN).trans hv;have nhgr:=hgr.other gN (lN) kN (by decide);have nhg:=hg.other gN kN (by decide);have nhm:=hm.other gN kN (by decide);have nhE:=own_other hE gN kN (by decide);have nhB:=own_other hB gN kN (by decide);have nhWS:=hWS.other gN kN (by decide);have nb2:=b2.other gN kN (by decide);clear hgr hg hm hE hB hWS b2;have hgr:=nhgr;have hg:=nhg;have hm:=nhm;have hE:=nhE;have hB:=nhB;have hWS:=nhWS;have b2:=nb2;clear nhgr nhg nhm nhE nhB nhWS nb2;clear hv hN;have hv:=nhv;have hN:=oN;clear nhv oN;refine hK.out _ _ (⟨hgr.gv.w1,hv.w3.1,hv.w3.2.1,hv.w3.2.2,hgr.t.w5.2.2.2.2⟩) (⟨hg.w5.2.1,hg.w5.2.2.1,hg.w5.2.2.2.1⟩) (fun hT hS => ?_);clear hK K;(try simp only [Act.put,Q3,Q4,Q5]);refine wpAnyK_ready (rs:=[15]) (by kernel_rfl) (by simp) ?_;refine AllReadyK.cons rfl (fun K hK => ?_) AllReadyK.nil;refine step_app (lo:=0) (base:=lo) (n:=n) (xs:=eds) _ rfl _ _ ty_stepss rfl hE rfl (Row.lit (n:=1) (size:=1) b2 (Nat.zero_le _) rfl) rfl rfl hnb1 hnb2 zl ?_;intro A2 d2 we oE gE _;have kE:=own_kind hE
   have lE:=fun k hk => Nat.le_trans hlo0 (hE.lt k hk).1
   have zl : lo ≤ we.heap.size:=Nat.le_trans zl gE.size;clear b2;have nhgr:=hgr.other gE (lE) kE (by decide);have nhv:=hv.other gE kE (by decide);have nhg:=hg.other gE kE (by decide);have nhm:=hm.other gE kE (by decide);have nhN:=own_other hN gE kE (by decide);have nhB:=own_other hB gE kE (by decide);have nhWS:=hWS.other gE kE (by decide);clear hgr hv hg hm hN hB hWS;have hgr:=nhgr;have hv:=nhv;have hg:=nhg;have hm:=nhm;have hN:=nhN;have hB:=nhB;have hWS:=nhWS;clear nhgr nhv nhg nhm nhN nhB nhWS;clear hE;have hE:=oE;clear oE;refine hK.out _ _ (⟨hgr.gv.w1,hv.w3.1,hv.w3.2.1,hv.w3.2.2,hgr.t.w5.2.2.2.2⟩) (⟨hg.w5.2.1,hg.w5.2.2.1,hg.w5.2.2.2.1⟩) (fun hT hS => ?_);clear hK K;(try simp only [Act.put,Q3,Q4,Q5]);refine wpAnyK_ready (rs:=[23]) (by kernel_rfl) (by simp) ?_;refine AllReadyK.cons rfl (fun K hK => ?_) AllReadyK.nil;have hcf:=HEF.out.1;go_simp;clear hcf;refine (HEF.out.2 _ x hgr.bel hgr.t HX.out).mono ?_;rintro e wg ⟨rfl,hb⟩;have zl : lo ≤ wg.heap.size:=Nat.le_trans zl hb.size;have nhgr:=hgr.below hb;have nhv:=hv.below hb;have nhg:=hg.below hb;have nhm:=hm.below hb;have nhN:=own_keep hN hb;have nhE:=own_keep hE hb;have nhB:=own_keep hB hb;have nhWS:=hWS.below hb;clear hgr hv hg hm hN hE hB hWS;have hgr:=nhgr;have hv:=nhv;have hg:=nhg;have hm:=nhm;have hN:=nhN;have hE:=nhE;have hB:=nhB;have hWS:=nhWS;clear nhgr nhv nhg nhm nhN nhE nhB nhWS;go_wp2_with fail;refine hK.out _ _ (⟨hgr.gv.w1,hv.w3.1,hv.w3.2.1,hv.w3.2.2,hgr.t.w5.2.2.2.2⟩) (⟨hg.w5.2.1,hg.w5.2.2.1,hg.w5.2.2.2.1⟩) (fun hT hS => ?_);clear hK K;(try simp only [Act.put,Q3,Q4,Q5]);refine wpAnyK_ready (rs:=[24]) (by kernel_rfl) (by simp) ?_;refine AllReadyK.cons rfl (fun K hK => ?_) AllReadyK.nil;go_simp;have nhgr:=hgr.alloc (.cells #[.bool (ef x)] 4);have nhv:=hv.alloc (.cells #[.bool (ef x)] 4);have nhg:=hg.alloc (.cells #[.bool (ef x)] 4);have nhm:=hm.alloc (.cells #[.bool (ef x)] 4);have nhN:=hN.alloc (.cells #[.bool (ef x)] 4);have nhE:=hE.alloc (.cells #[.bool (ef x)] 4);have nhB:=hB.alloc (.cells #[.bool (ef x)] 4);have nhWS:=hWS.alloc (.cells #[.bool (ef x)] 4);clear hgr hv hg hm hN hE hB hWS;have hgr:=nhgr;have hv:=nhv;have hg:=nhg;have hm:=nhm;have hN:=nhN;have hE:=nhE;have hB:=nhB;have hWS:=nhWS;clear nhgr nhv nhg nhm nhN nhE nhB nhWS;have b3 : Blk (wg.alloc (.cells #[.bool (ef x)] 4)) (wg.heap.size) 4 #[.bool (ef x)]:=Blk.at_ _ (by simp)
   have zl : lo ≤ (wg.alloc (.cells #[.bool (ef x)] 4)).heap.size:=by first | omega | (simp; omega) | (simp at zl ⊢; omega)
   refine hK.out _ _ (⟨hgr.gv.w1,hv.w3.1,hv.w3.2.1,hv.w3.2.2,hgr.t.w5.2.2.2.2⟩) (⟨hg.w5.2.1,hg.w5.2.2.1,hg.w5.2.2.2.1⟩) (fun hT hS => ?_);clear hK K;(try simp only [Act.put,Q3,Q4,Q5]);refine wpAnyK_ready (rs:=[25]) (by kernel_rfl) (by simp) ?_;refine AllReadyK.cons rfl (fun K hK => ?_) AllReadyK.nil;refine step_app (lo:=0) (base:=lo) (n:=n) (xs:=bs.map Value.bool) _ rfl _ _ ty_boolz rfl hB rfl (Row.lit (n:=1) (size:=1) b3 (Nat.zero_le _) rfl) rfl rfl hnb3 hnb2 zl ?_;intro A3 d3 wb oB gB _;have kB:=own_kind hB
   have lB:=fun k hk => Nat.le_trans hlo0 (hB.lt k hk).1
   have zl : lo ≤ wb.heap.size:=Nat.le_trans zl gB.size;clear b3;have nhgr:=hgr.other gB (lB) kB (by decide);have nhv:=hv.other gB kB (by decide);have nhg:=hg.other gB kB (by decide);have nhm:=hm.other gB kB (by decide);have nhN:=own_other hN gB kB (by decide);have nhE:=own_other hE gB kB (by decide);have nhWS:=hWS.other gB kB (by decide);clear hgr hv hg hm hN hE hWS;have hgr:=nhgr;have hv:=nhv;have hg:=nhg;have hm:=nhm;have hN:=nhN;have hE:=nhE;have hWS:=nhWS;clear nhgr nhv nhg nhm nhN nhE nhWS;clear hB;have hB:=oB;clear oB;refine hK.out _ _ (⟨hgr.gv.w1,hv.w3.1,hv.w3.2.1,hv.w3.2.2,hgr.t.w5.2.2.2.2⟩) (⟨hg.w5.2.1,hg.w5.2.2.1,hg.w5.2.2.2.1⟩) (fun hT hS => ?_);clear hK K;(try simp only [Act.put,Q3,Q4,Q5]);(refine KU2 26 ?_; (try simp only [Act.put,Q3,Q4,Q5]));(refine KU2 27 ?_; (try simp only [Act.put,Q3,Q4,Q5]));refine wpAnyK_ready (rs:=[28]) (by kernel_rfl) (by simp) ?_;refine AllReadyK.consT (by kernel_rfl) rfl (fun K hK => ?_) AllReadyK.nil;obtain ⟨k0,k1,k2,k3,k4⟩:=hg.w5;have kf:=hg.thaw 1;have zg:=hg.lt;go_simp;clear k0 k1 k2 k3 k4 kf zg;have kg:=hg.kind;have ghg:=hg.poke 1 (.slice A1 (n + 1) d1);have nhgr:=hgr.other (grown_poke _ g 1 (.slice A1 (n + 1) d1)) (fun k hk => by injection hk with hk; omega) kg (by decide);have nhv:=hv.other (grown_poke _ g 1 (.slice A1 (n + 1) d1)) kg (by decide);have nhm:=hm.other (grown_poke _ g 1 (.slice A1 (n + 1) d1)) kg (by decide);have nhN:=own_other hN (grown_poke _ g 1 (.slice A1 (n + 1) d1)) kg (by decide);have nhE:=own_other hE (grown_poke _ g 1 (.slice A1 (n + 1) d1)) kg (by decide);have nhB:=own_other hB (grown_poke _ g 1 (.slice A1 (n + 1) d1)) kg (by decide);have nhWS:=hWS.other (grown_poke _ g 1 (.slice A1 (n + 1) d1)) kg (by decide);clear hgr hv hm hN hE hB hWS;have hgr:=nhgr;have hv:=nhv;have hm:=nhm;have hN:=nhN;have hE:=nhE;have hB:=nhB;have hWS:=nhWS;clear nhgr nhv nhm nhN nhE nhB nhWS;have hg:=ghg;clear ghg kg;simp only [Q3,Q4,Q5] at hg;refine hK.out _ _ (⟨hgr.gv.w1,hv.w3.1,hv.w3.2.1,hv.w3.2.2,hgr.t.w5.2.2.2.2⟩) (fun hT => ?_);clear hK K;(try simp only [Act.put,Q3,Q4,Q5]);(refine KU3 29 ?_; (try simp only [Act.put,Q3,Q4,Q5]));(refine KU3 30 ?_; (try simp only [Act.put,Q3,Q4,Q5]));refine wpAnyK_ready (rs:=[31]) (by kernel_rfl) (by simp) ?_;refine AllReadyK.consT (by kernel_rfl) rfl (fun K hK => ?_) AllReadyK.nil;obtain ⟨k0,k1,k2,k3,k4⟩:=hg.w5;have kf:=hg.thaw 2;have zg:=hg.lt;go_simp;clear k0 k1 k2 k3 k4 kf zg;have kg:=hg.kind;have ghg:=hg.poke 2 (.slice A2 (n + 1) d2);have nhgr:=hgr.other (grown_poke _ g 2 (.slice A2 (n + 1) d2)) (fun k hk => by injection hk with hk; omega) kg (by decide);have nhv:=hv.other (grown_poke _ g 2 (.slice A2 (n + 1) d2)) kg (by decide);have nhm:=hm.other (grown_poke _ g 2 (.slice A2 (n + 1) d2)) kg (by decide);have nhN:=own_other hN (grown_poke _ g 2 (.slice A2 (n + 1) d2)) kg (by decide);have nhE:=own_other hE (grown_poke _ g 2 (.slice A2 (n + 1) d2)) kg (by decide);have nhB:=own_other hB (grown_poke _ g 2 (.slice A2 (n + 1) d2)) kg (by decide);have nhWS:=hWS.other (grown_poke _ g 2 (.slice A2 (n + 1) d2)) kg (by decide);clear hgr hv hm hN hE hB hWS;have hgr:=nhgr;have hv:=nhv;have hm:=nhm;have hN:=nhN;have hE:=nhE;have hB:=nhB;have hWS:=nhWS;clear nhgr nhv nhm nhN nhE nhB nhWS;have hg:=ghg;clear ghg kg;simp only [Q3,Q4,Q5] at hg;refine hK.out _ _ (⟨hgr.gv.w1,hv.w3.1,hv.w3.2.1,hv.w3.2.2,hgr.t.w5.2.2.2.2⟩) (fun hT => ?_);clear hK K;(try simp only [Act.put,Q3,Q4,Q5]);(refine KU3 32 ?_; (try simp only [Act.put,Q3,Q4,Q5]));(refine KU3 33 ?_; (try simp only [Act.put,Q3,Q4,Q5]));refine wpAnyK_ready (rs:=[34]) (by kernel_rfl) (by simp) ?_;refine AllReadyK.consT (by kernel_rfl) rfl (fun K hK => ?_) AllReadyK.nil;obtain ⟨k0,k1,k2,k3,k4⟩:=hg.w5;have kf:=hg.thaw 3;have zg:=hg.lt;go_simp;clear k0 k1 k2 k3 k4 kf zg;have kg:=hg.kind;have ghg:=hg.poke 3 (.slice A3 (n + 1) d3);have nhgr:=hgr.other (grown_poke _ g 3 (.slice A3 (n + 1) d3)) (fun k hk => by injection hk with hk; omega) kg (by decide);have nhv:=hv.other (grown_poke _ g 3 (.slice A3 (n + 1) d3)) kg (by decide);have nhm:=hm.other (grown_poke _ g 3 (.slice A3 (n + 1) d3)) kg (by decide);have nhN:=own_other hN (grown_poke _ g 3 (.slice A3 (n + 1) d3)) kg (by decide);have nhE:=own_other hE (grown_poke _ g 3 (.slice A3 (n + 1) d3)) kg (by decide);have nhB:=own_other hB (grown_poke _ g 3 (.slice A3 (n + 1) d3)) kg (by decide);have nhWS:=hWS.other (grown_poke _ g 3 (.slice A3 (n + 1) d3)) kg (by decide);clear hgr hv hm hN hE hB hWS;have hgr:=nhgr;have hv:=nhv;have hm:=nhm;have hN:=nhN;have hE:=nhE;have hB:=nhB;have hWS:=nhWS;clear nhgr nhv nhm nhN nhE nhB nhWS;have hg:=ghg;clear ghg kg;simp only [Q3,Q4,Q5] at hg;refine hK.out _ _ (⟨hgr.gv.w1,hv.w3.1,hv.w3.2.1,hv.w3.2.2,hgr.t.w5.2.2.2.2⟩) (fun hT => ?_);clear hK K;(try simp only [Act.put,Q3,Q4,Q5]);refine wpAnyK_done (by kernel_rfl) ?_ _;go_wp2_with fail;go_ret;exact ⟨rfl,by simpa using zl,hgr,A1,A2,A3,d1,d2,d3,⟨hg,hm,by rw [List.flatMap_append]; exact hN,hE,hWS.snoc,by rw [List.map_append]; exact hB⟩⟩
 case refine_2 =>
  go_simp;have nhgr:=hgr.alloc (.cells #[.slice none 0 0] 244);have nhv:=hv.alloc (.cells #[.slice none 0 0] 244);have nhg:=hg.alloc (.cells #[.slice none 0 0] 244);have nhm:=hm.alloc (.cells #[.slice none 0 0] 244);have nhN:=hN.alloc (.cells #[.slice none 0 0] 244);have nhE:=hE.alloc (.cells #[.slice none 0 0] 244);have nhB:=hB.alloc (.cells #[.slice none 0 0] 244);have nhWS:=hWS.alloc (.cells #[.slice none 0 0] 244);clear hgr hv hg hm hN hE hB hWS;have hgr:=nhgr;have hv:=nhv;have hg:=nhg;have hm:=nhm;have hN:=nhN;have hE:=nhE;have hB:=nhB;have hWS:=nhWS;clear nhgr nhv nhg nhm nhN nhE nhB nhWS;have b2 : Blk (X2.drew.alloc (.cells #[.slice none 0 0] 244)) (X2.heap.size) 244 #[.slice none 0 0]:=Blk.at_ _ (by simp)
  have zl : lo ≤ (X2.drew.alloc (.cells #[.slice none 0 0] 244)).heap.size:=by first | omega | (simp; omega) | (simp at zl ⊢; omega)
  refine hK.out _ _ (⟨hgr.gv.w1,hv.w3.1,hv.w3.2.1,hv.w3.2.2,hgr.t.w5.2.2.2.2⟩) (⟨hg.w5.2.1,hg.w5.2.2.1,hg.w5.2.2.2.1⟩) (fun hT hS => ?_);clear hK K;(try simp only [Act.put,Q3,Q4,Q5]);refine wpAnyK_ready (rs:=[8]) (by kernel_rfl) (by simp) ?_;refine AllReadyK.cons rfl (fun K hK => ?_) AllReadyK.nil;go_simp;have nhgr:=hgr.alloc (.cells #[.int .i64 (x.r : Int),.int .i64 (x.b : Int),.int .i64 (x.s : Int)] 232);have nhv:=hv.alloc (.cells #[.int .i64 (x.r : Int),.int .i64 (x.b : Int),.int .i64 (x.s : Int)] 232);have nhg:=hg.alloc (.cells #[.int .i64 (x.r : Int),.int .i64 (x.b : Int),.int .i64 (x.s : Int)] 232);have nhm:=hm.alloc (.cells #[.int .i64 (x.r : Int),.int .i64 (x.b : Int),.int .i64 (x.s : Int)] 232);have nhN:=hN.alloc (.cells #[.int .i64 (x.r : Int),.int .i64 (x.b : Int),.int .i64 (x.s : Int)] 232);have nhE:=hE.alloc (.cells #[.int .i64 (x.r : Int),.int .i64 (x.b : Int),.int .i64 (x.s : Int)] 232);have nhB:=hB.alloc (.cells #[.int .i64 (x.r : Int),.int .i64 (x.b : Int),.int .i64 (x.s : Int)] 232);have nhWS:=hWS.alloc (.cells #[.int .i64 (x.r : Int),.int .i64 (x.b : Int),.int .i64 (x.s : Int)] 232);have nb2:=b2.alloc (.cells #[.int .i64 (x.r : Int),.int .i64 (x.b : Int),.int .i64 (x.s : Int)] 232);clear hgr hv hg hm hN hE hB hWS b2;have hgr:=nhgr;have hv:=nhv;have hg:=nhg;have hm:=nhm;have hN:=nhN;have hE:=nhE;have hB:=nhB;have hWS:=nhWS;have b2:=nb2;clear nhgr nhv nhg nhm nhN nhE nhB nhWS nb2;have b1 : Blk ((X2.drew.alloc (.cells #[.slice none 0 0] 244)).alloc (.cells #[.int .i64 (x.r : Int),.int .i64 (x.b : Int),.int .i64 (x.s : Int)] 232)) (X2.heap.size + 1) 232 #[.int .i64 (x.r : Int),.int .i64 (x.b : Int),.int .i64 (x.s : Int)]:=Blk.at_ _ (by simp)
  have zl : lo ≤ ((X2.drew.alloc (.cells #[.slice none 0 0] 244)).alloc (.cells #[.int .i64 (x.r : Int),.int .i64 (x.b : Int),.int .i64 (x.s : Int)] 232)).heap.size:=by first | omega | (simp; omega) | (simp at zl ⊢; omega)
  refine hK.out _ _ (⟨hgr.gv.w1,hv.w3.1,hv.w3.2.1,hv.w3.2.2,hgr.t.w5.2.2.2.2⟩) (⟨hg.w5.2.1,hg.w5.2.2.1,hg.w5.2.2.2.1⟩) (fun hT hS => ?_);clear hK K;(try simp only [Act.put,Q3,Q4,Q5]);refine wpAnyK_ready (rs:=[9]) (by kernel_rfl) (by simp) ?_;refine AllReadyK.cons rfl (fun K hK => ?_) AllReadyK.nil;refine step_app (lo:=0) (base:=lo) (n:=n) (xs:=sts.flatMap encT) _ rfl _ _ ty_states rfl hN rfl (Row.lit (n:=1) (size:=3) b1 (Nat.zero_le _) rfl) rfl rfl hnb1 hnb2 zl ?_;intro A1 d1 wn oN gN _;have kN:=own_kind hN
  have lN:=fun k hk => Nat.le_trans hlo0 (hN.lt k hk).1
  have zl : lo ≤ wn.heap.size:=Nat.le_trans zl gN.size;clear b1;have nhv : Blk wn v 232 #[.int .i64 (x.r : Int),.int .i64 (x.b : Int),.int .i64 (x.s : Int)]:=(gN.block v hv.lt hvN).trans hv;have nhgr:=hgr.other gN (lN) kN (by decide);have nhg:=hg.other gN kN (by decide);have nhm:=hm.other gN kN (by decide);have nhE:=own_other hE gN kN (by decide);have nhB:=own_other hB gN kN (by decide);have nhWS:=hWS.other gN kN (by decide);have nb2:=b2.other gN kN (by decide);clear hgr hg hm hE hB hWS b2;have hgr:=nhgr;have hg:=nhg;have hm:=nhm;have hE:=nhE;have hB:=nhB;have hWS:=nhWS;have b2:=nb2;clear nhgr nhg nhm nhE nhB nhWS nb2;clear hv hN;have hv:=nhv;have hN:=oN;clear nhv oN;refine hK.out _ _ (⟨hgr.gv.w1,hv.w3.1,hv.w3.2.1,hv.w3.2.2,hgr.t.w5.2.2.2.2⟩) (⟨hg.w5.2.1,hg.w5.2.2.1,hg.w5.2.2.2.1⟩) (fun hT hS => ?_);clear hK K;(try simp only [Act.put,Q3,Q4,Q5]);refine wpAnyK_ready (rs:=[15]) (by kernel_rfl) (by simp) ?_;refine AllReadyK.cons rfl (fun K hK => ?_) AllReadyK.nil;refine step_app (lo:=0) (base:=lo) (n:=n) (xs:=eds) _ rfl _ _ ty_stepss rfl hE rfl (Row.lit (n:=1) (size:=1) b2 (Nat.zero_le _) rfl) rfl rfl hnb1 hnb2 zl ?_;intro A2 d2 we oE gE _;have kE:=own_kind hE
  have lE:=fun k hk => Nat.le_trans hlo0 (hE.lt k hk).1
  have zl : lo ≤ we.heap.size:=Nat.le_trans zl gE.size;clear b2;have nhgr:=hgr.other gE (lE) kE (by decide);have nhv:=hv.other gE kE (by decide);have nhg:=hg.other gE kE (by decide);have nhm:=hm.other gE kE (by decide);have nhN:=own_other hN gE kE (by decide);have nhB:=own_other hB gE kE (by decide);have nhWS:=hWS.other gE kE (by decide);clear hgr hv hg hm hN hB hWS;have hgr:=nhgr;have hv:=nhv;have hg:=nhg;have hm:=nhm;have hN:=nhN;have hB:=nhB;have hWS:=nhWS;clear nhgr nhv nhg nhm nhN nhB nhWS;clear hE;have hE:=oE;clear oE;refine hK.out _ _ (⟨hgr.gv.w1,hv.w3.1,hv.w3.2.1,hv.w3.2.2,hgr.t.w5.2.2.2.2⟩) (⟨hg.w5.2.1,hg.w5.2.2.1,hg.w5.2.2.2.1⟩) (fun hT hS => ?_);clear hK K;(try simp only [Act.put,Q3,Q4,Q5]);refine wpAnyK_ready (rs:=[23]) (by kernel_rfl) (by simp) ?_;refine AllReadyK.cons rfl (fun K hK => ?_) AllReadyK.nil;have hcf:=HEF.out.1;go_simp;clear hcf;refine (HEF.out.2 _ x hgr.bel hgr.t HX.out).mono ?_;rintro e wg ⟨rfl,hb⟩;have zl : lo ≤ wg.heap.size:=Nat.le_trans zl hb.size;have nhgr:=hgr.below hb;have nhv:=hv.below hb;have nhg:=hg.below hb;have nhm:=hm.below hb;have nhN:=own_keep hN hb;have nhE:=own_keep hE hb;have nhB:=own_keep hB hb;have nhWS:=hWS.below hb;clear hgr hv hg hm hN hE hB hWS;have hgr:=nhgr;have hv:=nhv;have hg:=nhg;have hm:=nhm;have hN:=nhN;have hE:=nhE;have hB:=nhB;have hWS:=nhWS;clear nhgr nhv nhg nhm nhN nhE nhB nhWS;go_wp2_with fail;refine hK.out _ _ (⟨hgr.gv.w1,hv.w3.1,hv.w3.2.1,hv.w3.2.2,hgr.t.w5.2.2.2.2⟩) (⟨hg.w5.2.1,hg.w5.2.2.1,hg.w5.2.2.2.1⟩) (fun hT hS => ?_);clear hK K;(try simp only [Act.put,Q3,Q4,Q5]);refine wpAnyK_ready (rs:=[24]) (by kernel_rfl) (by simp) ?_;refine AllReadyK.cons rfl (fun K hK => ?_) AllReadyK.nil;go_simp;have nhgr:=hgr.alloc (.cells #[.bool (ef x)] 4);have nhv:=hv.alloc (.cells #[.bool (ef x)] 4);have nhg:=hg.alloc (.cells #[.bool (ef x)] 4);have nhm:=hm.alloc (.cells #[.bool (ef x)] 4);have nhN:=hN.alloc (.cells #[.bool (ef x)] 4);have nhE:=hE.alloc (.cells #[.bool (ef x)] 4);have nhB:=hB.alloc (.cells #[.bool (ef x)] 4);have nhWS:=hWS.alloc (.cells #[.bool (ef x)] 4);clear hgr hv hg hm hN hE hB hWS;have hgr:=nhgr;have hv:=nhv;have hg:=nhg;have hm:=nhm;have hN:=nhN;have hE:=nhE;have hB:=nhB;have hWS:=nhWS;clear nhgr nhv nhg nhm nhN nhE nhB nhWS;have b3 : Blk (wg.alloc (.cells #[.bool (ef x)] 4)) (wg.heap.size) 4 #[.bool (ef x)]:=Blk.at_ _ (by simp)
  have zl : lo ≤ (wg.alloc (.cells #[.bool (ef x)] 4)).heap.size:=by first | omega | (simp; omega) | (simp at zl ⊢; omega)
  refine hK.out _ _ (⟨hgr.gv.w1,hv.w3.1,hv.w3.2.1,hv.w3.2.2,hgr.t.w5.2.2.2.2⟩) (⟨hg.w5.2.1,hg.w5.2.2.1,hg.w5.2.2.2.1⟩) (fun hT hS => ?_);clear hK K;(try simp only [Act.put,Q3,Q4,Q5]);refine wpAnyK_ready (rs:=[25]) (by kernel_rfl) (by simp) ?_;refine AllReadyK.cons rfl (fun K hK => ?_) AllReadyK.nil;refine step_app (lo:=0) (base:=lo) (n:=n) (xs:=bs.map Value.bool) _ rfl _ _ ty_boolz rfl hB rfl (Row.lit (n:=1) (size:=1) b3 (Nat.zero_le _) rfl) rfl rfl hnb3 hnb2 zl ?_;intro A3 d3 wb oB gB _;have kB:=own_kind hB
  have lB:=fun k hk => Nat.le_trans hlo0 (hB.lt k hk).1
  have zl : lo ≤ wb.heap.size:=Nat.le_trans zl gB.size;clear b3;have nhgr:=hgr.other gB (lB) kB (by decide);have nhv:=hv.other gB kB (by decide);have nhg:=hg.other gB kB (by decide);have nhm:=hm.other gB kB (by decide);have nhN:=own_other hN gB kB (by decide);have nhE:=own_other hE gB kB (by decide);have nhWS:=hWS.other gB kB (by decide);clear hgr hv hg hm hN hE hWS;have hgr:=nhgr;have hv:=nhv;have hg:=nhg;have hm:=nhm;have hN:=nhN;have hE:=nhE;have hWS:=nhWS;clear nhgr nhv nhg nhm nhN nhE nhWS;clear hB;have hB:=oB;clear oB;refine hK.out _ _ (⟨hgr.gv.w1,hv.w3.1,hv.w3.2.1,hv.w3.2.2,hgr.t.w5.2.2.2.2⟩) (⟨hg.w5.2.1,hg.w5.2.2.1,hg.w5.2.2.2.1⟩) (fun hT hS => ?_);clear hK K;(try simp only [Act.put,Q3,Q4,Q5]);(refine KU2 26 ?_; (try simp only [Act.put,Q3,Q4,Q5]));(refine KU2 27 ?_; (try simp only [Act.put,Q3,Q4,Q5]));refine wpAnyK_ready (rs:=[28]) (by kernel_rfl) (by simp) ?_;refine AllReadyK.consT (by kernel_rfl) rfl (fun K hK => ?_) AllReadyK.nil;obtain ⟨k0,k1,k2,k3,k4⟩:=hg.w5;have kf:=hg.thaw 1;have zg:=hg.lt;go_simp;clear k0 k1 k2 k3 k4 kf zg;have kg:=hg.kind;have ghg:=hg.poke 1 (.slice A1 (n + 1) d1);have nhgr:=hgr.other (grown_poke _ g 1 (.slice A1 (n + 1) d1)) (fun k hk => by injection hk with hk; omega) kg (by decide);have nhv:=hv.other (grown_poke _ g 1 (.slice A1 (n + 1) d1)) kg (by decide);have nhm:=hm.other (grown_poke _ g 1 (.slice A1 (n + 1) d1)) kg (by decide);have nhN:=own_other hN (grown_poke _ g 1 (.slice A1 (n + 1) d1)) kg (by decide);have nhE:=own_other hE (grown_poke _ g 1 (.slice A1 (n + 1) d1)) kg (by decide);have nhB:=own_other hB (grown_poke _ g 1 (.slice A1 (n + 1) d1)) kg (by decide);have nhWS:=hWS.other (grown_poke _ g 1 (.slice A1 (n + 1) d1)) kg (by decide);clear hgr hv hm hN hE hB hWS;have hgr:=nhgr;have hv:=nhv;have hm:=nhm;have hN:=nhN;have hE:=nhE;have hB:=nhB;have hWS:=nhWS;clear nhgr nhv nhm nhN nhE nhB nhWS;have hg:=ghg;clear ghg kg;simp only [Q3,Q4,Q5] at hg;refine hK.out _ _ (⟨hgr.gv.w1,hv.w3.1,hv.w3.2.1,hv.w3.2.2,hgr.t.w5.2.2.2.2⟩) (fun hT => ?_);clear hK K;(try simp only [Act.put,Q3,Q4,Q5]);(refine KU3 29 ?_; (try simp only [Act.put,Q3,Q4,Q5]));(refine KU3 30 ?_; (try simp only [Act.put,Q3,Q4,Q5]));refine wpAnyK_ready (rs:=[31]) (by kernel_rfl) (by simp) ?_;refine AllReadyK.consT (by kernel_rfl) rfl (fun K hK => ?_) AllReadyK.nil;obtain ⟨k0,k1,k2,k3,k4⟩:=hg.w5;have kf:=hg.thaw 2;have zg:=hg.lt;go_simp;clear k0 k1 k2 k3 k4 kf zg;have kg:=hg.kind;have ghg:=hg.poke 2 (.slice A2 (n + 1) d2);have nhgr:=hgr.other (grown_poke _ g 2 (.slice A2 (n + 1) d2)) (fun k hk => by injection hk with hk; omega) kg (by decide);have nhv:=hv.other (grown_poke _ g 2 (.slice A2 (n + 1) d2)) kg (by decide);have nhm:=hm.other (grown_poke _ g 2 (.slice A2 (n + 1) d2)) kg (by decide);have nhN:=own_other hN (grown_poke _ g 2 (.slice A2 (n + 1) d2)) kg (by decide);have nhE:=own_other hE (grown_poke _ g 2 (.slice A2 (n + 1) d2)) kg (by decide);have nhB:=own_other hB (grown_poke _ g 2 (.slice A2 (n + 1) d2)) kg (by decide);have nhWS:=hWS.other (grown_poke _ g 2 (.slice A2 (n + 1) d2)) kg (by decide);clear hgr hv hm hN hE hB hWS;have hgr:=nhgr;have hv:=nhv;have hm:=nhm;have hN:=nhN;have hE:=nhE;have hB:=nhB;have hWS:=nhWS;clear nhgr nhv nhm nhN nhE nhB nhWS;have hg:=ghg;clear ghg kg;simp only [Q3,Q4,Q5] at hg;refine hK.out _ _ (⟨hgr.gv.w1,hv.w3.1,hv.w3.2.1,hv.w3.2.2,hgr.t.w5.2.2.2.2⟩) (fun hT => ?_);clear hK K;(try simp only [Act.put,Q3,Q4,Q5]);(refine KU3 32 ?_; (try simp only [Act.put,Q3,Q4,Q5]));(refine KU3 33 ?_; (try simp only [Act.put,Q3,Q4,Q5]));refine wpAnyK_ready (rs:=[34]) (by kernel_rfl) (by simp) ?_;refine AllReadyK.consT (by kernel_rfl) rfl (fun K hK => ?_) AllReadyK.nil;obtain ⟨k0,k1,k2,k3,k4⟩:=hg.w5;have kf:=hg.thaw 3;have zg:=hg.lt;go_simp;clear k0 k1 k2 k3 k4 kf zg;have kg:=hg.kind;have ghg:=hg.poke 3 (.slice A3 (n + 1) d3);have nhgr:=hgr.other (grown_poke _ g 3 (.slice A3 (n + 1) d3)) (fun k hk => by injection hk with hk; omega) kg (by decide);have nhv:=hv.other (grown_poke _ g 3 (.slice A3 (n + 1) d3)) kg (by decide);have nhm:=hm.other (grown_poke _ g 3 (.slice A3 (n + 1) d3)) kg (by decide);have nhN:=own_other hN (grown_poke _ g 3 (.slice A3 (n + 1) d3)) kg (by decide);have nhE:=own_other hE (grown_poke _ g 3 (.slice A3 (n + 1) d3)) kg (by decide);have nhB:=own_other hB (grown_poke _ g 3 (.slice A3 (n + 1) d3)) kg (by decide);have nhWS:=hWS.other (grown_poke _ g 3 (.slice A3 (n + 1) d3)) kg (by decide);clear hgr hv hm hN hE hB hWS;have hgr:=nhgr;have hv:=nhv;have hm:=nhm;have hN:=nhN;have hE:=nhE;have hB:=nhB;have hWS:=nhWS;clear nhgr nhv nhm nhN nhE nhB nhWS;have hg:=ghg;clear ghg kg;simp only [Q3,Q4,Q5] at hg;refine hK.out _ _ (⟨hgr.gv.w1,hv.w3.1,hv.w3.2.1,hv.w3.2.2,hgr.t.w5.2.2.2.2⟩) (fun hT => ?_);clear hK K;(try simp only [Act.put,Q3,Q4,Q5]);refine wpAnyK_done (by kernel_rfl) ?_ _;go_wp2_with fail;go_ret;exact ⟨rfl,by simpa using zl,hgr,A1,A2,A3,d1,d2,d3,⟨hg,hm,by rw [List.flatMap_append]; exact hN,hE,hWS.snoc,by rw [List.map_append]; exact hB⟩⟩
end Go.Proofs.YtkchacgkjdeiaaaGreatDoor
/- The plain theory of explore: which states are found, and with which steps. -/
namespace Go.Proofs.YtkchacgkjdeiaaaGreatDoor

def numS (sts : List StE) (l : List (Nat × StE)) : List (Nat × Nat):=l.map fun p => (p.1,sts.idxOf p.2)
structure ExI (nx : StE → List (Nat × StE)) (ef : StE → Bool) (gd : StE → Prop) (s0 : StE) (sts : List StE) (stp : List (List (Nat × Nat))) (bs : List Bool) (i : Nat) (dn : List (Nat × StE)) : Prop where
  nodup : sts.Nodup
  len : stp.length = sts.length
  bs : bs = sts.map ef
  first : sts[0]? = some s0
  steps : ∀ j x, sts[j]? = some x → stp[j]? = some (if j < i then (if ef x then [] else numS sts (nx x)) else if j = i then numS sts dn else [])
  closed : ∀ j x, sts[j]? = some x → j < i → ef x = false → ∀ p ∈ nx x, p.2 ∈ sts
  dnin : ∀ p ∈ dn, p.2 ∈ sts
  reach : ∀ j, 0 < j → j < sts.length → ∃ j' k, j' < j ∧ (k, j) ∈ stp.getD j' []
  good : ∀ x ∈ sts, gd x
section
variable {nx : StE → List (Nat × StE)} {ef : StE → Bool} {gd : StE → Prop} {s0 : StE} {sts : List StE} {stp : List (List (Nat × Nat))} {bs : List Bool} {i : Nat} {dn : List (Nat × StE)}
theorem ExI.start (h0 : gd s0) : ExI nx ef gd s0 [s0] [[]] [ef s0] 0 []:=by
 refine ⟨by simp,rfl,rfl,rfl,fun j x hj => ?_,fun j x _ h => by omega,by simp,fun j h1 h2 => by simp at h2; omega,fun x hx => by simp at hx; subst hx; exact h0⟩
 cases j with
 | zero => simp [numS]
 | succ j => simp at hj
theorem numS_app {l : List (Nat × StE)} {y : StE} (h : ∀ p ∈ l,p.2 ∈ sts) : numS (sts ++ [y]) l = numS sts l:=by
 unfold numS
 refine List.map_congr_left fun p hp => ?_
 rw [List.idxOf_append,if_pos (h p hp)]
theorem ExI.old (h : ExI nx ef gd s0 sts stp bs i dn) {k : Nat} {y : StE} (hy : y ∈ sts) {R : List (Nat × Nat)} (hR : stp[i]? = some R) : ExI nx ef gd s0 sts (stp.set i (R ++ [(k,sts.idxOf y)])) bs i (dn ++ [(k,y)]):=by
 obtain ⟨hi,hRe⟩:=List.getElem?_eq_some_iff.1 hR;refine ⟨h.nodup,by simp [h.len],h.bs,h.first,fun j x hj => ?_,h.closed,fun p hp => ?_,fun j h1 h2 => ?_,h.good⟩
 ·have h3:=h.steps j x hj
  by_cases e : j = i
  ·subst e
   rw [if_neg (Nat.lt_irrefl _),if_pos rfl] at h3 ⊢;rw [List.getElem?_set_self hi,show R = numS sts dn by rw [hR] at h3; exact Option.some.inj h3]
   simp [numS]
  ·rw [List.getElem?_set_ne (Ne.symm e),h3,if_neg e,if_neg e]
 ·rcases List.mem_append.1 hp with hp | hp
  ·exact h.dnin p hp
  ·simp at hp; subst hp; exact hy
 ·obtain ⟨j',k',h3,h4⟩:=h.reach j h1 h2
  refine ⟨j',k',h3,?_⟩;simp only [List.getD_eq_getElem?_getD] at h4 ⊢
  by_cases e : j' = i
  ·subst e
   rw [List.getElem?_set_self hi];rw [hR] at h4;exact List.mem_append_left _ h4
  ·rw [List.getElem?_set_ne (Ne.symm e)]; exact h4
theorem ExI.new (h : ExI nx ef gd s0 sts stp bs i dn) {k : Nat} {y : StE} (hy : y ∉ sts) (hg : gd y) {R : List (Nat × Nat)} (hR : stp[i]? = some R) : ExI nx ef gd s0 (sts ++ [y]) ((stp ++ [[]]).set i (R ++ [(k,sts.length)])) (bs ++ [ef y]) i (dn ++ [(k,y)]):=by
 obtain ⟨hi,hRe⟩:=List.getElem?_eq_some_iff.1 hR;have hl:=h.len
 have hil : i < (stp ++ [[]]).length:=by simp; omega
 have hix : (sts ++ [y]).idxOf y = sts.length:=by rw [List.idxOf_append,if_neg hy]; simp
 refine ⟨?_,by simp [hl],by rw [h.bs]; simp,?_,fun j x hj => ?_,fun j x hj hji hx p hp => ?_,fun p hp => ?_,fun j h1 h2 => ?_,fun x hx => ?_⟩
 ·rw [List.nodup_append]
  exact ⟨h.nodup,by simp,fun a ha b hb => by simp at hb; subst hb; rintro rfl; exact hy ha⟩
 ·have:=h.first
  have h0 : 0 < sts.length:=by omega
  rw [List.getElem?_append_left h0]; exact this
 ·by_cases e : j = i
  ·subst e
   rw [if_neg (Nat.lt_irrefl _),if_pos rfl,List.getElem?_set_self hil];rw [List.getElem?_append_left (by omega)] at hj;have h3:=h.steps j x hj;rw [if_neg (Nat.lt_irrefl _),if_pos rfl,hR] at h3;rw [Option.some.inj h3]
   have e2 : numS (sts ++ [y]) (dn ++ [(k,y)]) = numS (sts ++ [y]) dn ++ [(k,(sts ++ [y]).idxOf y)]:=by simp [numS]
   rw [e2,hix,numS_app h.dnin]
  ·rw [List.getElem?_set_ne (Ne.symm e)]
   by_cases e2 : j < sts.length
   ·rw [List.getElem?_append_left e2] at hj
    rw [List.getElem?_append_left (by omega),h.steps j x hj,if_neg e,if_neg e]
    by_cases e3 : j < i
    ·rw [if_pos e3,if_pos e3]
     by_cases e4 : ef x = true
     ·rw [if_pos e4,if_pos e4]
     ·rw [if_neg e4,if_neg e4,numS_app (h.closed j x hj e3 (by simpa using e4))]
    ·rw [if_neg e3,if_neg e3]
   ·have e3 : j = sts.length:=by
     have:=(List.getElem?_eq_some_iff.1 hj).1
     simp at this; omega
    subst e3;rw [if_neg (by omega),if_neg e,List.getElem?_append_right (by omega)]
    simp [hl]
 ·have hjl : j < sts.length:=by omega
  rw [List.getElem?_append_left hjl] at hj;exact List.mem_append_left _ (h.closed j x hj hji hx p hp)
 ·rcases List.mem_append.1 hp with hp | hp
  ·exact List.mem_append_left _ (h.dnin p hp)
  ·simp at hp; subst hp; simp
 ·by_cases e : j < sts.length
  ·obtain ⟨j',k',h3,h4⟩:=h.reach j h1 e
   refine ⟨j',k',h3,?_⟩;simp only [List.getD_eq_getElem?_getD] at h4 ⊢
   by_cases e2 : j' = i
   ·subst e2
    rw [List.getElem?_set_self hil];rw [hR] at h4;exact List.mem_append_left _ h4
   ·rw [List.getElem?_set_ne (Ne.symm e2),List.getElem?_append_left (by omega)]; exact h4
  ·have e3 : j = sts.length:=by simp at h2; omega
   subst e3;refine ⟨i,k,by omega,?_⟩;rw [List.getD_eq_getElem?_getD,List.getElem?_set_self hil]
   simp
 ·rcases List.mem_append.1 hx with hx | hx
  ·exact h.good x hx
  ·simp at hx; subst hx; exact hg
theorem ExI.next (h : ExI nx ef gd s0 sts stp bs i dn) {x : StE} (hx : sts[i]? = some x) (hd : if ef x then dn = [] else dn = nx x) : ExI nx ef gd s0 sts stp bs (i + 1) []:=by
 refine ⟨h.nodup,h.len,h.bs,h.first,fun j y hj => ?_,fun j y hj hji hy p hp => ?_,by simp,h.reach,h.good⟩
 ·rw [h.steps j y hj]
  by_cases e : j = i
  ·subst e
   rw [hx] at hj;injection hj with hj;subst hj;rw [if_neg (Nat.lt_irrefl _),if_pos rfl,if_pos (Nat.lt_succ_self _)]
   by_cases e2 : ef x = true
   ·rw [if_pos e2] at hd; rw [if_pos e2,hd]; rfl
   ·rw [if_neg e2] at hd; rw [if_neg e2,hd]
  ·by_cases e2 : j < i
   ·have e3 : j < i + 1:=by omega
    simp only [e2,e3,if_true]
   ·have e3 : ¬ j < i + 1:=by omega
    simp only [e2,e,e3,if_false]
    split <;> rfl
 ·by_cases e : j = i
  ·subst e
   rw [hx] at hj;injection hj with hj;subst hj;rw [if_neg (by simp [hy])] at hd;rw [← hd] at hp;exact h.dnin p hp
  ·exact h.closed j y hj (by omega) hy p hp
structure ExOk (nx : StE → List (Nat × StE)) (ef : StE → Bool) (gd : StE → Prop) (s0 : StE) (sts : List StE) (stp : List (List (Nat × Nat))) : Prop where
  nodup : sts.Nodup
  len : stp.length = sts.length
  first : sts[0]? = some s0
  steps : ∀ (j : Nat) (x : StE), sts[j]? = some x → stp[j]? = some (if ef x then [] else numS sts (nx x))
  closed : ∀ x ∈ sts, ef x = false → ∀ p ∈ nx x, p.2 ∈ sts
  reach : ∀ j : Nat, 0 < j → j < sts.length → ∃ j' k, j' < j ∧ (k, j) ∈ stp.getD j' []
  good : ∀ x ∈ sts, gd x
theorem ExI.done (h : ExI nx ef gd s0 sts stp bs sts.length dn) : ExOk nx ef gd s0 sts stp:=by
 refine ⟨h.nodup,h.len,h.first,fun j x hj => ?_,fun x hx he p hp => ?_,h.reach,h.good⟩
 ·rw [h.steps j x hj,if_pos (List.getElem?_eq_some_iff.1 hj).1]
 ·obtain ⟨j,hj,rfl⟩:=List.mem_iff_getElem.1 hx
  exact h.closed j _ (List.getElem?_eq_getElem hj) hj he p hp
end
theorem nodup_le : ∀ (N : Nat) (l : List Nat),l.Nodup → (∀ x ∈ l,x < N) → l.length ≤ N
 | 0,l,_,h => by
  cases l with
  | nil => simp
  | cons x l => exact absurd (h x (List.mem_cons_self ..)) (by omega)
 | N + 1,l,hn,h => by
  by_cases hN : N ∈ l
  ·have h1:=nodup_le N (l.erase N) (hn.erase N) (fun x hx => by
    have h2:=h x (List.mem_of_mem_erase hx)
    have h3 : x ≠ N:=fun e => by subst e; exact (List.Nodup.mem_erase_iff hn).1 hx |>.1 rfl
    omega)
   rw [List.length_erase_of_mem hN] at h1;have : 0 < l.length:=List.length_pos_of_mem hN;omega
  ·have:=nodup_le N l hn (fun x hx => by
    have h2:=h x hx
    have h3 : x ≠ N:=fun e => by subst e; exact hN hx
    omega)
   omega
theorem nodup_map_inj {α β : Type} {f : α → β} : ∀ {l : List α},l.Nodup → (∀ x ∈ l,∀ y ∈ l,f x = f y → x = y) → (l.map f).Nodup
 | [],_,_ => by simp
 | x :: l,hn,hi => by
  rw [List.nodup_cons] at hn;rw [List.map_cons,List.nodup_cons];refine ⟨fun hm => ?_,nodup_map_inj hn.2 (fun a ha b hb => hi a (List.mem_cons_of_mem _ ha) b (List.mem_cons_of_mem _ hb))⟩;obtain ⟨y,hy,e⟩:=List.mem_map.1 hm;have:=hi y (List.mem_cons_of_mem _ hy) x (List.mem_cons_self ..) e;subst this;exact hn.1 hy
theorem few_states {sts : List StE} (hn : sts.Nodup) (h : ∀ x ∈ sts,x.r < 100 ∧ x.b < 1024 ∧ x.s < 6) : sts.length ≤ 614400:=by
 have h1:=nodup_le 614400 (sts.map fun x => (x.r * 1024 + x.b) * 6 + x.s) (nodup_map_inj hn (fun x hx y hy e => by
  obtain ⟨a1,a2,a3⟩:=h x hx;obtain ⟨b1,b2,b3⟩:=h y hy
  cases x; cases y
  simp only at *
  congr 1 <;> omega)) (fun z hz => by
  obtain ⟨x,hx,rfl⟩:=List.mem_map.1 hz;obtain ⟨a1,a2,a3⟩:=h x hx
  omega)
 simpa using h1
end Go.Proofs.YtkchacgkjdeiaaaGreatDoor
/- The plain theory of path: the doors of a best way, one tight step after the other. -/
namespace Go.Proofs.YtkchacgkjdeiaaaGreatDoor

def tightB (tm : Nat → Int) (far : List (Int × Int)) (i : Nat) (p : Nat × Nat) : Bool:=decide (0 ≤ (fA far p.2).1) && (decide ((fA far p.2).1 + tm p.1 = (fA far i).1) && decide ((fA far p.2).2 + 1 = (fA far i).2))
theorem tightB_iff {tm : Nat → Int} {far : List (Int × Int)} {i : Nat} {p : Nat × Nat} : tightB tm far i p = true ↔ 0 ≤ (fA far p.2).1 ∧ (fA far p.2).1 + tm p.1 = (fA far i).1 ∧ (fA far p.2).2 + 1 = (fA far i).2:=by
 unfold tightB;simp only [Bool.and_eq_true,decide_eq_true_eq]
def pathG (stp : List (List (Nat × Nat))) (lst : List Bool) (tm : Nat → Int) (far : List (Int × Int)) : Nat → Nat → List Nat
 | 0,_ => []
 | d + 1,i => if lst[i]? = some true then [] else match (stp.getD i []).find? (tightB tm far i) with
  | none => []
  | some p => p.1 :: pathG stp lst tm far d p.2
section
variable {n : Nat} {stp : List (List (Nat × Nat))} {lst : List Bool} {tm : Nat → Int} {far : List (Int × Int)}
theorem FarOk.way (h : FarOk n stp lst tm far) {i : Nat} (hi : i < n) (h0 : 0 ≤ (fA far i).1) : (∃ ks,WayG stp lst tm i (fA far i).1 (fA far i).2 ks) ∧ ∀ t d ks,WayG stp lst tm i t d ks → leK (fA far i) (t,d):=by
 rcases h.val i hi with ⟨e,_⟩ | ⟨_,h1,h2⟩
 ·rw [e] at h0; exact absurd h0 (by decide)
 ·exact ⟨h1,h2⟩
theorem FarOk.isway (h : FarOk n stp lst tm far) {i : Nat} (hi : i < n) {t d : Int} {ks : List Nat} (hw : WayG stp lst tm i t d ks) : 0 ≤ (fA far i).1:=by
 rcases h.val i hi with ⟨_,h1⟩ | ⟨h1,_⟩
 ·exact absurd hw (h1 _ _ _)
 ·exact h1
theorem FarOk.neg (h : FarOk n stp lst tm far) {i : Nat} (hi : i < n) (h0 : (fA far i).1 < 0) : fA far i = (-1,0) ∧ ∀ t d ks,¬ WayG stp lst tm i t d ks:=by
 rcases h.val i hi with h1 | ⟨h1,_⟩
 ·exact h1
 ·omega
theorem FarOk.tight (h : FarOk n stp lst tm far) (hto : ∀ i k j,(k,j) ∈ stp.getD i [] → j < n) {i : Nat} (hi : i < n) (h0 : 0 ≤ (fA far i).1) (hl : lst[i]? ≠ some true) :
  ∃ p,(stp.getD i []).find? (tightB tm far i) = some p ∧ p ∈ stp.getD i [] ∧ p.2 < n ∧ 0 ≤ (fA far p.2).1 ∧ (fA far p.2).1 + tm p.1 = (fA far i).1 ∧ (fA far p.2).2 + 1 = (fA far i).2:=by
 obtain ⟨⟨ks,hk⟩,hb⟩:=h.way hi h0
 have hex : ∃ p ∈ stp.getD i [],tightB tm far i p = true:=by
  generalize e1 : (fA far i).1 = t at hk;generalize e2 : (fA far i).2 = d at hk
  cases hk with
  | stop h1 => exact absurd h1 hl
  | @go _ k j t d ks he hw =>
   have hj:=hto i k j he;have hj0:=h.isway hj hw;obtain ⟨⟨ks2,hk2⟩,hb2⟩:=h.way hj hj0;have h1:=hb2 _ _ _ hw;have h2:=hb _ _ _ (WayG.go he hk2);unfold leK at h1 h2;simp only at h1 h2
   refine ⟨(k,j),he,tightB_iff.2 ⟨hj0,?_,?_⟩⟩ <;> simp only <;> omega
 obtain ⟨q,hq,hqt⟩:=hex
 cases hf : (stp.getD i []).find? (tightB tm far i) with
 | none => exact absurd hqt (by simpa using List.find?_eq_none.1 hf q hq)
 | some p =>
  have hp:=List.mem_of_find?_eq_some hf;have ht:=tightB_iff.1 (List.find?_some hf);exact ⟨p,rfl,hp,hto i p.1 p.2 hp,ht⟩
theorem FarOk.atEnd (h : FarOk n stp lst tm far) (hend : ∀ i,lst[i]? = some true → stp.getD i [] = []) {i : Nat} (hi : i < n) (hl : lst[i]? = some true) : fA far i = (0,0):=by
 have h0:=h.isway hi (.stop hl);obtain ⟨⟨ks,hk⟩,_⟩:=h.way hi h0;obtain ⟨e1,e2⟩:=hk.none (hend i hl);exact Prod.ext e1 e2
theorem FarOk.path (h : FarOk n stp lst tm far) (hto : ∀ i k j,(k,j) ∈ stp.getD i [] → j < n) (hend : ∀ i,lst[i]? = some true → stp.getD i [] = []) : ∀ (d : Nat) (i : Nat),i < n → 0 ≤ (fA far i).1 → (fA far i).2 = (d : Int) →
  WayG stp lst tm i (fA far i).1 (fA far i).2 (pathG stp lst tm far d i) ∧ (pathG stp lst tm far d i).length = d
 | 0,i,hi,h0,hd => by
  by_cases hl : lst[i]? = some true
  ·rw [h.atEnd hend hi hl]; exact ⟨.stop hl,rfl⟩
  ·obtain ⟨p,_,_,hp,_,_,h3⟩:=h.tight hto hi h0 hl
   have:=(h.bnd p.2 hp).1;omega
 | d + 1,i,hi,h0,hd => by
  by_cases hl : lst[i]? = some true
  ·rw [h.atEnd hend hi hl] at hd
   simp only at hd;omega
  ·obtain ⟨p,hf,hm,hp,h1,h2,h3⟩:=h.tight hto hi h0 hl
   obtain ⟨hw,hlen⟩:=h.path hto hend d p.2 hp h1 (by omega)
   have e : pathG stp lst tm far (d + 1) i = p.1 :: pathG stp lst tm far d p.2:=by
    show (if lst[i]? = some true then [] else match (stp.getD i []).find? (tightB tm far i) with | none => [] | some p => p.1 :: pathG stp lst tm far d p.2) = _;rw [if_neg hl,hf]
   rw [e];refine ⟨?_,by simp [hlen]⟩;have:=WayG.go (stp:=stp) (lst:=lst) (tm:=tm) (i:=i) (k:=p.1) (j:=p.2) hm hw;rw [h2,h3] at this;exact this
theorem pathG_next {d i : Nat} (hl : lst[i]? ≠ some true) {p : Nat × Nat} (hf : (stp.getD i []).find? (tightB tm far i) = some p) : pathG stp lst tm far (d + 1) i = p.1 :: pathG stp lst tm far d p.2:=by
 show (if lst[i]? = some true then [] else match (stp.getD i []).find? (tightB tm far i) with | none => [] | some p => p.1 :: pathG stp lst tm far d p.2) = _;rw [if_neg hl,hf]
theorem pathG_end {d i : Nat} (hl : lst[i]? = some true) : pathG stp lst tm far d i = []:=by
 cases d with
 | zero => rfl
 | succ d =>
  show (if lst[i]? = some true then [] else _) = _;rw [if_pos hl]
theorem find_hit {α : Type} {f : α → Bool} {l : List α} {m : Nat} (hm : m < l.length) (h : (l.take m).find? f = none) (hf : f l[m] = true) : l.find? f = some l[m]:=by
 have e : l = l.take m ++ l[m] :: l.drop (m + 1):=by rw [← List.drop_eq_getElem_cons hm,List.take_append_drop]
 generalize l[m] = x at *;rw [e,List.find?_append,h]
 simp [hf]
theorem find_on {α : Type} {f : α → Bool} {l : List α} {m : Nat} (hm : m < l.length) (h : (l.take m).find? f = none) (hf : f l[m] = false) : (l.take (m + 1)).find? f = none:=by
 rw [List.take_add_one,List.find?_append,h,List.getElem?_eq_getElem hm]
 simp [hf]
end
structure PathR where
  ks : List Nat
  t : Int
  is : Bool
def pathR (stp : List (List (Nat × Nat))) (lst : List Bool) (tm : Nat → Int) (far : List (Int × Int)) : PathR :=
 if (fA far 0).1 < 0 then ⟨[],0,false⟩ else ⟨pathG stp lst tm far (fA far 0).2.toNat 0,(fA far 0).1,true⟩
end Go.Proofs.YtkchacgkjdeiaaaGreatDoor
