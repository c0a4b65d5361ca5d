/- Texts of this seat, laid together: WkB WkC. -/
import Derived.Test.YtijdbbnnkogkjaaGreatDoorBn31
import Derived.Test.YtijdbbnnkogkjaaGreatDoorBn35
import Derived.Test.YtijdbbnnkogkjaaGreatDoorBn04
/- The world of a map in memory; where one begins, what is behind a door, and a point as it is told. -/
namespace Go.Proofs.YtijdbbnnkogkjaaGreatDoor
set_option linter.unusedVariables false
set_option linter.unusedSimpArgs false
open Go.RowKit

structure WorP where
  p : Nat
  g : Nat
  TA : Option Addr
  tc : Nat
  GA : Option Addr
  gc : Nat
  DA : Option Addr
  dc : Nat
  oc : Nat
def okD (tr : List (List UInt8)) (wo : List UInt8) (d : DoorE) : Bool:=(d.key != wo) && (d.trick == [] || decide (d.trick ∈ tr))
def roomI (rs : List RoomE) (key : List UInt8) : Int:=keyI (rs.map RoomE.key) key
def outN (rs : List RoomE) (ds : List DoorE) (tr : List (List UInt8)) (wo : List UInt8) (r : Nat) : List Int:=((List.range ds.length).filter fun i => (roomI rs (ds.getD i default).src == (r : Int)) && okD tr wo (ds.getD i default)).map fun (i : Nat) => (i : Int)
def encN (rs : List RoomE) (T : List (List UInt8)) (d : DoorE) : List Value:=[.int .i64 (roomI rs d.src),.int .i64 (roomI rs d.dst),.int .i64 d.time,.int .i64 (bitsT T d.needs),.int .i64 (bitsT T d.takes)]
theorem encN_len (rs : List RoomE) (T : List (List UInt8)) (d : DoorE) : (encN rs T d).length = 5:=rfl
def givesN (rs : List RoomE) (T : List (List UInt8)) : List Int:=rs.map fun r => (bitsT T r.gives : Int)
structure WorW (W : World) (lo mp : Nat) (q : WorP) (T : List (List UInt8)) (rs : List RoomE) (ds : List DoorE) (tr : List (List UInt8)) (wo st gl : List UInt8) : Prop where
  bl : Blk W q.p 89 #[.pointer (some ⟨mp, 0, none⟩), .slice q.TA T.length q.tc, .slice q.GA rs.length q.gc, .slice q.DA ds.length q.dc, .slice (some ⟨q.g, 0, none⟩) rs.length q.oc, .int .i64 (roomI rs st), .int .i64 (roomI rs gl)]
  things : Row W lo 1 q.TA T.length (strs T)
  gives : Row W lo 1 q.GA rs.length (ints (givesN rs T))
  doors : Row W lo 5 q.DA ds.length (ds.flatMap (encN rs T))
  glt : q.g < W.heap.size
  out : ∀ r, r < rs.length → ∃ B c, W.cell? ⟨q.g, r, none⟩ = some (.slice B (outN rs ds tr wo r).length c) ∧ Row W lo 1 B (outN rs ds tr wo r).length (ints (outN rs ds tr wo r))
section
variable {W W' : World} {lo mp : Nat} {q : WorP} {T : List (List UInt8)} {rs : List RoomE} {ds : List DoorE} {tr : List (List UInt8)} {wo st gl : List UInt8}
theorem WorW.below (h : WorW W lo mp q T rs ds tr wo st gl) (hb : Below W.heap.size W W') : WorW W' lo mp q T rs ds tr wo st gl :=
 ⟨h.bl.below hb,h.things.below hb,h.gives.below hb,h.doors.below hb,Nat.lt_of_lt_of_le h.glt hb.size,fun r hr => let ⟨B,c,h1,h2⟩:=h.out r hr; ⟨B,c,(hb.cell (p:=⟨q.g,r,none⟩) h.glt).trans h1,h2.below hb⟩⟩
theorem WorW.alloc (h : WorW W lo mp q T rs ds tr wo st gl) (o : Obj) : WorW (W.alloc o) lo mp q T rs ds tr wo st gl:=h.below ((Below.refl _ _).alloc (Nat.le_refl _) o)
theorem WorW.drewN (h : WorW W lo mp q T rs ds tr wo st gl) (n : Nat) : WorW (W.drewN n) lo mp q T rs ds tr wo st gl:=h.below (below_drewN' (Below.refl _ _) n)
theorem WorW.drew (h : WorW W lo mp q T rs ds tr wo st gl) : WorW W.drew lo mp q T rs ds tr wo st gl:=h.below (below_drewN' (Below.refl _ _) 1)
theorem WorW.cells (h : WorW W lo mp q T rs ds tr wo st gl) : W.cell? ⟨q.p,0,none⟩ = some (.pointer (some ⟨mp,0,none⟩)) ∧ W.cell? ⟨q.p,1,none⟩ = some (.slice q.TA T.length q.tc) ∧ W.cell? ⟨q.p,2,none⟩ = some (.slice q.GA rs.length q.gc) ∧ W.cell? ⟨q.p,3,none⟩ = some (.slice q.DA ds.length q.dc) ∧ W.cell? ⟨q.p,4,none⟩ = some (.slice (some ⟨q.g,0,none⟩) rs.length q.oc) ∧ W.cell? ⟨q.p,5,none⟩ = some (.int .i64 (roomI rs st)) ∧ W.cell? ⟨q.p,6,none⟩ = some (.int .i64 (roomI rs gl)) :=
 ⟨h.bl.cell 0,h.bl.cell 1,h.bl.cell 2,h.bl.cell 3,h.bl.cell 4,h.bl.cell 5,h.bl.cell 6⟩
theorem WorW.door (h : WorW W lo mp q T rs ds tr wo st gl) (h0 : 0 < ds.length) : ∃ b off,q.DA = some ⟨b,off,none⟩ ∧ b < W.heap.size ∧ ∀ k (hk : k < ds.length),W.cell? ⟨b,off + k * 5,none⟩ = some (.int .i64 (roomI rs ds[k].src)) ∧ W.cell? ⟨b,off + k * 5 + 1,none⟩ = some (.int .i64 (roomI rs ds[k].dst)) ∧ W.cell? ⟨b,off + k * 5 + 2,none⟩ = some (.int .i64 ds[k].time) ∧ W.cell? ⟨b,off + k * 5 + 3,none⟩ = some (.int .i64 (bitsT T ds[k].needs)) ∧ W.cell? ⟨b,off + k * 5 + 4,none⟩ = some (.int .i64 (bitsT T ds[k].takes)):=by
 obtain ⟨b,off,e,_,hb,hc⟩:=h.doors.2 h0
 have g : ∀ k (hk : k < ds.length) j (hj : j < 5) u,(encN rs T ds[k])[j]? = some u → W.cell? ⟨b,off + k * 5 + j,none⟩ = some u:=fun k hk j hj u hu => by
  rw [Nat.add_assoc]; exact hc (k * 5 + j) u (by rw [flat_at (encN rs T) 5 (encN_len rs T) ds k hk j hj,hu])
 exact ⟨b,off,e,hb,fun k hk => ⟨g k hk 0 (by omega) _ rfl,g k hk 1 (by omega) _ rfl,g k hk 2 (by omega) _ rfl,g k hk 3 (by omega) _ rfl,g k hk 4 (by omega) _ rfl⟩⟩
end
theorem cell_off {w : World} {p q : Addr} {u v : Value} (h : w.cell? q = some v) (hne : p.block ≠ q.block) : (w.setCell p u).cell? q = some v :=
 (World.cell?_setCell_other w (a:=p) (b:=q) (v:=u) (fun e => hne (by rw [e]))).trans h
end Go.Proofs.YtijdbbnnkogkjaaGreatDoor
/- What a map's world leaves as it is while it is laid. -/
namespace Go.Proofs.YtijdbbnnkogkjaaGreatDoor
set_option linter.unusedVariables false
set_option linter.unusedSimpArgs false
open Go.RowKit

def Oth (a b : World) (x y : Nat) : Prop:=a.heap.size ≤ b.heap.size ∧ ∀ k,k < a.heap.size → k ≠ x → k ≠ y → b.heap[k]? = a.heap[k]?
section
variable {a b c : World} {x y : Nat}
theorem Oth.refl (a : World) (x y : Nat) : Oth a a x y:=⟨Nat.le_refl _,fun _ _ _ _ => rfl⟩
theorem Oth.below (h : Oth a b x y) (hb : Below b.heap.size b c) : Oth a c x y:=⟨Nat.le_trans h.1 hb.size,fun k hk h1 h2 => (hb.block k (Nat.lt_of_lt_of_le hk h.1)).trans (h.2 k hk h1 h2)⟩
theorem Oth.set (h : Oth a b x y) (k i : Nat) (u : Value) (hk : k = x ∨ k = y) : Oth a (b.setCell ⟨k,i,none⟩ u) x y :=
 ⟨by simpa [World.setCell] using h.1,fun j hj h1 h2 => (Below.heap_setCell b ⟨k,i,none⟩ u j (by rcases hk with rfl | rfl <;> intro e <;> simp at e <;> omega)).trans (h.2 j hj h1 h2)⟩
theorem Oth.grown {row : Option Nat} (h : Oth a b x y) (hg : b.grownBy c row) (hr : ∀ k,row = some k → a.heap.size ≤ k) : Oth a c x y :=
 ⟨Nat.le_trans h.1 hg.size,fun k hk h1 h2 => (hg.block k (Nat.lt_of_lt_of_le hk h.1) (fun e => by have:=hr k e.symm; omega)).trans (h.2 k hk h1 h2)⟩
theorem Row.oth {lo size n : Nat} {A : Option Addr} {xs : List Value} (h : Row a lo size A n xs) (ho : Oth a b x y) (hne : ∀ ad,A = some ad → ad.block ≠ x ∧ ad.block ≠ y) : Row b lo size A n xs :=
 ⟨h.1,fun hn => by
  obtain ⟨bk,off,e,hl,hb,hc⟩:=h.2 hn
  obtain ⟨h1,h2⟩:=hne _ e
  exact ⟨bk,off,e,hl,Nat.lt_of_lt_of_le hb ho.1,fun j u hu => (World.cell?_of_block (w:=a) (ho.2 bk hb h1 h2)).trans (hc j u hu)⟩⟩
end
section
variable {w w' : World}
theorem own_typ {base base' size size' n n' k : Nat} {e e' : TypeId} {v v' : Value} {xs xs' : List Value} (h : w.ownsRow base e size v n xs) (h' : w.ownsRow base' e' size' v' n' xs') (hk : v.ownBlock = some k) (hk' : v'.ownBlock = some k) : e = e':=by
 rcases h.2 with ⟨rfl,_⟩ | ⟨g,cap,cur,rfl,_,hg,_⟩
 ·simp [Value.ownBlock] at hk
 rcases h'.2 with ⟨rfl,_⟩ | ⟨g',cap',cur',rfl,_,hg',_⟩
 ·simp [Value.ownBlock] at hk'
 simp [Value.ownBlock] at hk hk'
 subst hk hk'
 rw [hg] at hg'
 injection hg' with e1
 injection e1
theorem own_app2 {base base' size size' n n' : Nat} {e e' : TypeId} {v v' : Value} {xs xs' : List Value} (h : w.ownsRow base e size v n xs) (h' : w.ownsRow base' e' size' v' n' xs') (hne : e ≠ e') (hg : w.grownBy w' v'.ownBlock) : w'.ownsRow base e size v n xs :=
 h.kept hg (by
  cases hv : v.ownBlock with
  | none => exact .inl rfl
  | some k => exact .inr fun e1 => hne (own_typ h h' hv e1.symm))
section
variable {tI tS : TypeId} {base g : Nat} {rows : List (List Int)}
theorem Nest.appT {e : TypeId} {size n b2 : Nat} {v : Value} {xs : List Value} (h : Nest tI tS w base g rows) (hown : w.ownsRow b2 e size v n xs) (hg : w.grownBy w' v.ownBlock) (he : e ≠ tS) (he2 : tI ≠ e) : Nest tI tS w' base g rows:=by
 obtain ⟨ne,cs,h1,h2,h3⟩:=h
 exact ⟨ne,cs,Blk.app hown h1 hg he,fun i hi => let ⟨A,c,a,b⟩:=h2 i hi; ⟨A,c,a,own_app2 b hown he2 hg⟩,h3⟩
theorem Nest.past {p : Nat} {t : TypeId} {ds : Array Value} (h : Nest tI tS w base g rows) (hb : Blk w p t ds) (h1 : tS ≠ t) (h2 : tI ≠ t) (i : Nat) (u : Value) : Nest tI tS (w.setCell ⟨p,i,none⟩ u) base g rows:=by
 obtain ⟨ne,cs,k1,k2,k3⟩:=h
 exact ⟨ne,cs,k1.past p i u (k1.ne hb h1),fun j hj => let ⟨A,c,a,b⟩:=k2 j hj; ⟨A,c,a,own_past b hb h2 i u⟩,k3⟩
end
end
structure N1 (w W1 W : World) (p g : Nat) (box : Array Value) (rows : List (List Int)) (DV : Value) (k : Nat) (cells : List Value) : Prop where
  bw : Below w.heap.size w W
  oth : Oth W1 W p g
  box : Blk W p 89 box
  nest : Nest 3 22 W W1.heap.size g rows
  own : W.ownsRow W1.heap.size 85 5 DV k cells
section
variable {w W1 W W' : World} {p g k : Nat} {box : Array Value} {rows : List (List Int)} {DV : Value} {cells : List Value}
theorem N1.below (h : N1 w W1 W p g box rows DV k cells) (hb : Below W.heap.size W W') : N1 w W1 W' p g box rows DV k cells :=
 ⟨below_up h.bw hb,h.oth.below hb,h.box.below hb,h.nest.below hb,own_keep h.own hb⟩
theorem N1.alloc (h : N1 w W1 W p g box rows DV k cells) (o : Obj) : N1 w W1 (W.alloc o) p g box rows DV k cells:=h.below ((Below.refl _ _).alloc (Nat.le_refl _) o)
theorem N1.drew (h : N1 w W1 W p g box rows DV k cells) : N1 w W1 W.drew p g box rows DV k cells:=h.below (below_drewN' (Below.refl _ _) 1)
theorem N1.appD (h : N1 w W1 W p g box rows DV k cells) (hw : w.heap.size ≤ W1.heap.size) {DV' : Value} {k' : Nat} {cells' : List Value} (hg : W.grownBy W' DV.ownBlock) (ho : W'.ownsRow W1.heap.size 85 5 DV' k' cells') : N1 w W1 W' p g box rows DV' k' cells' :=
 ⟨h.bw.grown hg h.bw.size (fun q hq => Nat.le_trans hw (h.own.lt q hq).1),h.oth.grown hg (fun q hq => (h.own.lt q hq).1),Blk.app h.own h.box hg (by decide),h.nest.appT h.own hg (by decide) (by decide),ho⟩
theorem own_set_otherW {w : World} {base : Nat} {e : TypeId} {size : Nat} {v : Value} {n : Nat} {xs : List Value} (h : w.ownsRow base e size v n xs) {p : Addr} (hp : ∀ k,v.ownBlock = some k → k ≠ p.block) (u : Value) : (w.setCell p u).ownsRow base e size v n xs :=
 h.kept (row:=some p.block) ⟨rfl,rfl,rfl,by simp [World.setCell],fun k _ hk => Below.heap_setCell w p u k (fun e => hk (by rw [e]))⟩ (by
  cases hv : v.ownBlock with
  | none => exact .inl rfl
  | some k => right; intro he; exact hp k hv (by injection he))
theorem Oth.setN {a b : World} {x y : Nat} (h : Oth a b x y) (k i : Nat) (u : Value) (hk : a.heap.size ≤ k) : Oth a (b.setCell ⟨k,i,none⟩ u) x y :=
 ⟨by simpa [World.setCell] using h.1,fun j hj h1 h2 => (Below.heap_setCell b ⟨k,i,none⟩ u j (by simp; omega)).trans (h.2 j hj h1 h2)⟩
theorem N1.past (h : N1 w W1 W p g box rows DV k cells) {q : Nat} {cs : Array Value} (hq : Blk W q 85 cs) (hw : w.heap.size ≤ W1.heap.size) (zq : W1.heap.size ≤ q) (hqo : ∀ x,DV.ownBlock = some x → x ≠ q) (i : Nat) (u : Value) : N1 w W1 (W.setCell ⟨q,i,none⟩ u) p g box rows DV k cells :=
 ⟨Below.setCell h.bw (by simp; omega) _,h.oth.setN q i u zq,h.box.past q i u (h.box.ne hq (by decide)),h.nest.past hq (by decide) (by decide) i u,own_set_otherW h.own hqo _⟩
theorem N1.put5 (h : N1 w W1 W p g box rows DV k cells) {v q : Nat} {vcs : Array Value} (hv : Blk W v 66 vcs) {y0 y1 y2 y3 y4 : Value} (hq : Blk W q 85 #[y0,y1,y2,y3,y4]) (hw : w.heap.size ≤ W1.heap.size) (zq : W1.heap.size ≤ q) (hqo : ∀ x,DV.ownBlock = some x → x ≠ q) (x0 x1 x2 x3 x4 : Value) :
  Blk (((((W.setCell ⟨q,0,none⟩ x0).setCell ⟨q,1,none⟩ x1).setCell ⟨q,2,none⟩ x2).setCell ⟨q,3,none⟩ x3).setCell ⟨q,4,none⟩ x4) q 85 #[x0,x1,x2,x3,x4] ∧ N1 w W1 (((((W.setCell ⟨q,0,none⟩ x0).setCell ⟨q,1,none⟩ x1).setCell ⟨q,2,none⟩ x2).setCell ⟨q,3,none⟩ x3).setCell ⟨q,4,none⟩ x4) p g box rows DV k cells ∧ Blk (((((W.setCell ⟨q,0,none⟩ x0).setCell ⟨q,1,none⟩ x1).setCell ⟨q,2,none⟩ x2).setCell ⟨q,3,none⟩ x3).setCell ⟨q,4,none⟩ x4) v 66 vcs:=by
 have q0:=hq.poke 0 x0
 have q1:=q0.poke 1 x1
 have q2:=q1.poke 2 x2
 have q3:=q2.poke 3 x3
 have q4:=q3.poke 4 x4
 have hne:=hv.ne hq (by decide)
 refine ⟨?_,((((h.past hq hw zq hqo 0 x0).past q0 hw zq hqo 1 x1).past q1 hw zq hqo 2 x2).past q2 hw zq hqo 3 x3).past q3 hw zq hqo 4 x4,((((hv.past q 0 x0 hne).past q 1 x1 hne).past q 2 x2 hne).past q 3 x3 hne).past q 4 x4 hne⟩
 simpa using q4
theorem N1.row (h : N1 w W1 W p g box rows DV k cells) {i : Nat} {xs0 : List Int} (hx0 : rows[i]? = some xs0) : ∃ A c,W.cell? ⟨g,i,none⟩ = some (.slice A xs0.length c) ∧ W.ownsRow W1.heap.size 3 1 (.slice A xs0.length c) xs0.length (ints xs0):=by
 obtain ⟨hi,hx⟩:=List.getElem?_eq_some_iff.1 hx0
 subst hx; exact h.nest.row hi
end
section
variable {rs : List RoomE} {ds : List DoorE} {tr : List (List UInt8)} {wo : List UInt8} {k : Nat}
end
end Go.Proofs.YtijdbbnnkogkjaaGreatDoor
