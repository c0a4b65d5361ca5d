/- Texts of this seat, laid together: Le. -/
import Derived.Handy
import Derived.Test.YtbfphnknkbhpkaaGreatDoorBk216
import Derived.Test.YtbfphnknkbhpkaaGreatDoorBk217
/- The walk of Stream.LevelOf over a stream whose numbers are known. -/
namespace Go.Proofs.YtbfphnknkbhpkaaGreatDoor
set_option linter.unusedVariables false
set_option linter.unusedSimpArgs false
open Go.RowKit

structure GLX (sB : Nat) (L : List Int) (w wr : World) (g G hi N : Nat) (rows : List (List UInt8)) : Prop where
  hG : w.heap.size ≤ G
  nest : NestU 5 87 wr w.heap.size G (rows.map byR)
  size : ∃ cs, Blk wr G 87 cs ∧ cs.size = hi
  hs : StrE wr g sB L N
  hg : w.grownBy wr (some g)
  lt : g < w.heap.size
theorem GLX.alloc {sB : Nat} {L : List Int} {w wr : World} {g G hi N : Nat} {rows : List (List UInt8)} (h : GLX sB L w wr g G hi N rows) (o : Obj) : GLX sB L w (wr.alloc o) g G hi N rows :=
 ⟨h.hG,h.nest.alloc o,let ⟨cs,a,b⟩:=h.size; ⟨cs,a.alloc o,b⟩,h.hs.alloc o,grown_alloc h.hg o,h.lt⟩
theorem GLX.drew {sB : Nat} {L : List Int} {w wr : World} {g G hi N : Nat} {rows : List (List UInt8)} (h : GLX sB L w wr g G hi N rows) : GLX sB L w wr.drew g G hi N rows :=
 ⟨h.hG,h.nest.drewN 1,let ⟨cs,a,b⟩:=h.size; ⟨cs,a.drew,b⟩,h.hs.keep ((Below.refl _ _).drew),grown_drew h.hg,h.lt⟩
theorem GLX.stream {sB : Nat} {L : List Int} {w wr w' : World} {g G hi N N' : Nat} {rows : List (List UInt8)} (h : GLX sB L w wr g G hi N rows) (hg : wr.grownBy w' (some g)) (hs : StrE w' g sB L N') : GLX sB L w w' g G hi N' rows:=by
 have:=h.lt
 have:=h.hG
 refine ⟨h.hG,h.nest.stream hg (by omega) (by omega),?_,hs,grown_trans' h.hg hg,h.lt⟩
 obtain ⟨cs,a,b⟩:=h.size
 exact ⟨cs,(hg.block G a.lt (fun e => by injection e with e; omega)).trans a,b⟩
theorem GLX.push {sB : Nat} {L : List Int} {w wr w' : World} {g G hi N : Nat} {rows : List (List UInt8)} (h : GLX sB L w wr g G hi N rows) {i : Nat} (hi' : i < rows.length) {A A' : Option Addr} {c c' : Nat} (hc : wr.cell? ⟨G,i,none⟩ = some (.slice A rows[i].length c)) (u : UInt8)
  (hown : wr.ownsRow w.heap.size 5 1 (.slice A rows[i].length c) rows[i].length (u8s (byR rows[i])))
  (hg : wr.grownBy w' (Value.slice A rows[i].length c).ownBlock) (ho : w'.ownsRow w.heap.size 5 1 (.slice A' (rows[i].length + 1) c') (rows[i].length + 1) (u8s (byR rows[i]) ++ [.int .u8 ((u.toNat : Nat) : Int)]))
  (hb : (Value.slice A' (rows[i].length + 1) c').ownBlock = (Value.slice A rows[i].length c).ownBlock ∨ (Value.slice A' (rows[i].length + 1) c').ownBlock = some wr.heap.size) : GLX sB L w (w'.setCell ⟨G,i,none⟩ (.slice A' (rows[i].length + 1) c')) g G hi N (rows.set i (rows[i] ++ [u])):=by
 have hm : i < (rows.map byR).length:=by simpa using hi'
 have er : (rows.map byR)[i] = byR rows[i]:=by simp
 have el : (byR (rows[i] ++ [u])).length = rows[i].length + 1:=by rw [byR_len]; simp
 have hlt:=h.lt
 have hGG:=h.hG
 have hn:=h.nest.push (i:=i) hm (A:=A) (c:=c) (A':=A') (c':=c') (xs:=byR (rows[i] ++ [u])) (by rw [er,byR_len]; exact hc) (by rw [er,byR_len]; exact hg)
  (by rw [el,byR_app,u8s_snoc]; exact ho) (by rw [el,er,byR_len]; exact hb)
 rw [el] at hn
 have hgr : w.grownBy w' (some g):=grown_app h.hg hown hg (Nat.le_refl _)
 refine ⟨hGG,?_,?_,(h.hs.app hown hg hlt).grown (grown_set (World.grownBy.refl _ _) _ _) (fun k hk => by injection hk with hk; omega),grown_set_new hgr hGG _,hlt⟩
 ·rw [List.map_set]; exact hn
 ·obtain ⟨cs,a,b⟩:=h.size
  exact ⟨_,(Blk.app hown a hg (by decide)).poke i _,by simpa using b⟩
structure LPX (sB : Nat) (L : List Int) (w wr : World) (g G hi wide N : Nat) (cs : Array Value) (rows : List (List UInt8)) : Prop where
  pu : PU wr w.heap.size G cs rows
  len : rows.length = hi
  all : ∀ r ∈ rows, r.length = wide
  hs : StrE wr g sB L N
  hg : w.grownBy wr (some g)
  lt : g < w.heap.size
  sz : cs.size = hi
theorem LPX.drew {sB : Nat} {L : List Int} {w wr : World} {g G hi wide N : Nat} {cs : Array Value} {rows : List (List UInt8)} (h : LPX sB L w wr g G hi wide N cs rows) : LPX sB L w wr.drew g G hi wide N cs rows :=
 ⟨h.pu.keep (Nat.le_refl _) (fun _ _ _ => rfl),h.len,h.all,h.hs.keep (Below.refl _ wr).drew,grown_drew h.hg,h.lt,h.sz⟩
theorem LPX.below {sB : Nat} {L : List Int} {w wr w' : World} {g G hi wide N : Nat} {cs : Array Value} {rows : List (List UInt8)} (h : LPX sB L w wr g G hi wide N cs rows) (hb : Below wr.heap.size wr w') : LPX sB L w w' g G hi wide N cs rows :=
 ⟨h.pu.below hb,h.len,h.all,h.hs.keep hb,grown_trans' h.hg (grown_of_below hb _),h.lt,h.sz⟩
theorem LPX.stream {sB : Nat} {L : List Int} {w wr w' : World} {g G hi wide N N' : Nat} {cs : Array Value} {rows : List (List UInt8)} (h : LPX sB L w wr g G hi wide N cs rows) (hg : wr.grownBy w' (some g)) (hs : StrE w' g sB L N') : LPX sB L w w' g G hi wide N' cs rows :=
 ⟨h.pu.stream hg h.lt,h.len,h.all,hs,grown_trans' h.hg hg,h.lt,h.sz⟩
theorem LPX.poke {sB : Nat} {L : List Int} {w wr : World} {g G hi wide N i j gb c : Nat} {cs : Array Value} {rows : List (List UInt8)} (h : LPX sB L w wr g G hi wide N cs rows) (hi' : i < rows.length) (hj : j < rows[i].length) (hc : wr.cell? ⟨G,i,none⟩ = some (.slice (some ⟨gb,0,none⟩) rows[i].length c)) (hgb : w.heap.size ≤ gb) (u : UInt8) :
  LPX sB L w (wr.setCell ⟨gb,j,none⟩ (.int .u8 ((u.toNat : Nat) : Int))) g G hi wide N cs (rows.set i (rows[i].set j u)) :=
 ⟨h.pu.poke hi' hj hc u,by rw [List.length_set]; exact h.len,all_set h.all hi',h.hs.grown (grown_set (World.grownBy.refl _ _) j _ : _root_.Go.World.grownBy _ _ (some gb)) (fun k hk => by injection hk with hk; have:=h.lt; omega),grown_set_new h.hg hgb _,h.lt,h.sz⟩
structure LQX (sB : Nat) (L : List Int) (w wr : World) (g G wide N : Nat) (cs : Array Value) (rows : List (List UInt8)) : Prop where
  pu : PU wr w.heap.size G cs rows
  all : ∀ r ∈ rows, r.length = wide
  hs : StrE wr g sB L N
  hg : w.grownBy wr (some g)
  lt : g < w.heap.size
theorem LPX.lq {sB : Nat} {L : List Int} {w wr : World} {g G hi wide N : Nat} {cs : Array Value} {rows : List (List UInt8)} (h : LPX sB L w wr g G hi wide N cs rows) : LQX sB L w wr g G wide N cs rows:=⟨h.pu,h.all,h.hs,h.hg,h.lt⟩
theorem LPX.own {sB : Nat} {L : List Int} {w wr : World} {g G hi wide N : Nat} {cs : Array Value} {rows : List (List UInt8)} (h : LPX sB L w wr g G hi wide N cs rows) (hh : hi ≤ 1000) : wr.ownsRow w.heap.size 87 1 (.slice (some ⟨G,0,none⟩) hi hi) hi cs.toList :=
 ⟨by have:=h.sz; simp [this],.inr ⟨G,hi,cs,rfl,h.pu.hG,h.pu.box,Nat.le_refl _,by unfold maxLen; omega,by have:=h.sz; omega,by have:=h.sz; rw [List.take_of_length_le (by simp [this])]⟩⟩
theorem LPX.grow {sB : Nat} {L : List Int} {w wa wr w' : World} {g G hi wide N : Nat} {cs : Array Value} {rows : List (List UInt8)} {v : Value} {r : List UInt8} {A' : Option Addr} {c' : Nat} (h : LPX sB L w wa g G hi wide N cs rows) (hh : hi ≤ 1000) (hb : Below wa.heap.size wa wr) (hr : BRow wr wa.heap.size v (byR r)) (hfz : ∀ g0 cap,v = .slice (some ⟨g0,0,none⟩) r.length cap → ∀ j,j < cap → wr.frozen? ⟨g0,j,none⟩ = false) (hrw : r.length = wide)
  (ho : w'.ownsRow w.heap.size 87 1 (.slice A' (hi + 1) c') (hi + 1) (cs.toList ++ [v])) (hg : wr.grownBy w' (some G)) (hk : (Value.slice A' (hi + 1) c').ownBlock = some G ∨ (Value.slice A' (hi + 1) c').ownBlock = some wr.heap.size) :
  ∃ G' cs',A' = some ⟨G',0,none⟩ ∧ LQX sB L w w' g G' wide N cs' (rows ++ [r]):=by
 obtain ⟨G',cs',rfl,hG',hblk,hcs,-⟩:=own_blkU ho (by omega)
 obtain ⟨g0,cap,rfl,hg0,hg1,hc0,hd1,hd2⟩:=hr.has
 have hGl:=h.pu.box.lt
 have hzb:=hb.size
 have hsz:=h.sz
 have hGc : G' = G ∨ G' = wr.heap.size:=by
  rcases hk with e | e
  ·left; simpa [Value.ownBlock] using e
  ·right; simpa [Value.ownBlock] using e
 have hold : ∀ i (hi' : i < rows.length),∃ gb c,cs'[i]? = some (.slice (some ⟨gb,0,none⟩) rows[i].length c) ∧ cs[i]? = some (.slice (some ⟨gb,0,none⟩) rows[i].length c) ∧ w.heap.size ≤ gb ∧ gb < wa.heap.size ∧ gb ≠ G' ∧ ∀ j (hj : j < rows[i].length),w'.cell? ⟨gb,j,none⟩ = some (.int .u8 ((rows[i][j].toNat : Nat) : Int)) ∧ w'.frozen? ⟨gb,j,none⟩ = false:=by
  intro i hi'
  obtain ⟨gb,c,h1,h2,h3,h4,h5⟩:=h.pu.at_ i hi'
  have hih : i < hi:=by rw [← h.len]; exact hi'
  refine ⟨gb,c,?_,h1,h2,h3,?_,fun j hj => ?_⟩
  ·rw [hcs i (by omega),List.getElem?_append_left (by simp; omega),Array.getElem?_toList]; exact h1
  ·rcases hGc with e | e <;> omega
  ·have e : w'.heap[gb]? = wa.heap[gb]?:=(hg.block gb (by omega) (fun e => by injection e with e; omega)).trans (hb.block gb h3)
   exact ⟨(World.cell?_of_block (a:=⟨gb,j,none⟩) e).trans (h5 j hj).1,(World.frozen?_of_block (a:=⟨gb,j,none⟩) e).trans (h5 j hj).2⟩
 have hnew : cs'[rows.length]? = some (.slice (some ⟨g0,0,none⟩) r.length cap):=by
  rw [hcs _ (by have:=h.len; omega),h.len,List.getElem?_append_right (by simp; omega)]
  simp [hsz,byR]
 have hl2 : (rows ++ [r]).length = rows.length + 1:=by simp
 have hat : ∀ i (hi' : i < (rows ++ [r]).length),i < rows.length ∨ i = rows.length:=fun i hi' => by rw [hl2] at hi'; omega
 refine ⟨G',cs',rfl,⟨⟨hblk,hG',fun i hi' => ?_,fun i j gi gj li lj ci cj hi1 hj1 hij e1 e2 => ?_⟩,fun x hx => ?_,(h.hs.keep hb).grown hg (fun k hk => by injection hk with hk; have:=h.pu.hG; have:=h.lt; omega),grown_app (grown_trans' h.hg (grown_of_below hb _)) ((h.below hb).own hh) hg (Nat.le_refl _),h.lt⟩⟩
 ·rcases hat i hi' with h1 | rfl
  ·obtain ⟨gb,c,a1,_,a2,a3,a4,a5⟩:=hold i h1
   have er : (rows ++ [r])[i] = rows[i]:=List.getElem_append_left h1
   refine ⟨gb,c,by rw [er]; exact a1,a2,by have:=hg.size; omega,a4,fun j hj => ?_⟩
   have hj2 : j < rows[i].length:=by rw [er] at hj; exact hj
   have ev : (rows ++ [r])[i][j] = rows[i][j]:=by congr 1
   rw [ev]; exact a5 j hj2
  ·have er : (rows ++ [r])[rows.length] = r:=by simp
   refine ⟨g0,cap,by rw [er]; exact hnew,by have:=h.hg.size; omega,by have:=hg.size; omega,by rcases hGc with e | e <;> omega,fun j hj => ?_⟩
   have hj2 : j < r.length:=by rw [er] at hj; exact hj
   have ev : (rows ++ [r])[rows.length][j] = r[j]:=by congr 1
   rw [ev]
   have e : w'.heap[g0]? = wr.heap[g0]?:=hg.block g0 hg1 (fun e => by injection e with e; omega)
   have hu : (u8s (byR r))[j]? = some (.int .u8 ((r[j].toNat : Nat) : Int)):=by simp [u8s,byR,hj2]
   have hf : r.length ≤ cap:=by rw [byR_len] at hc0; exact hc0
   exact ⟨(World.cell?_of_block (a:=⟨g0,j,none⟩) e).trans (hd1 j _ hu),(World.frozen?_of_block (a:=⟨g0,j,none⟩) e).trans (hfz g0 cap (by rw [byR_len]) j (by omega))⟩
 ·rcases hat i hi1 with h1 | rfl <;> rcases hat j hj1 with h2 | rfl
  ·obtain ⟨gb,c,a1,b1,_⟩:=hold i h1
   obtain ⟨gc,d,a2,b2,_⟩:=hold j h2
   rw [a1] at e1
   rw [a2] at e2
   injection e1 with e1
   injection e1 with e1
   injection e1 with e1
   injection e1 with e1
   injection e2 with e2
   injection e2 with e2
   injection e2 with e2
   injection e2 with e2
   subst e1 e2
   exact h.pu.ne i j gb gc _ _ _ _ h1 h2 hij b1 b2
  ·obtain ⟨gb,c,a1,b1,_,a3,_⟩:=hold i h1
   rw [a1] at e1
   rw [hnew] at e2
   injection e1 with e1
   injection e1 with e1
   injection e1 with e1
   injection e1 with e1
   injection e2 with e2
   injection e2 with e2
   injection e2 with e2
   injection e2 with e2
   omega
  ·obtain ⟨gb,c,a1,b1,_,a3,_⟩:=hold j h2
   rw [a1] at e2
   rw [hnew] at e1
   injection e1 with e1
   injection e1 with e1
   injection e1 with e1
   injection e1 with e1
   injection e2 with e2
   injection e2 with e2
   injection e2 with e2
   injection e2 with e2
   omega
  ·exact absurd rfl hij
 ·rcases List.mem_append.1 hx with hx | hx
  ·exact h.all x hx
  ·rw [List.mem_singleton.1 hx]; exact hrw
theorem LQX.alloc_ {sB : Nat} {L : List Int} {w wr : World} {g G wide N : Nat} {cs : Array Value} {rows : List (List UInt8)} (h : LQX sB L w wr g G wide N cs rows) (o : Obj) : LQX sB L w (wr.alloc o) g G wide N cs rows :=
 ⟨h.pu.alloc o,h.all,h.hs.alloc o,grown_alloc h.hg o,h.lt⟩
theorem LQX.app_ {sB : Nat} {L : List Int} {w wr w' : World} {g G wide N base n : Nat} {cs : Array Value} {rows : List (List UInt8)} {v : Value} {xs : List Value} (h : LQX sB L w wr g G wide N cs rows) (ho : wr.ownsRow base 9 1 v n xs) (hg : wr.grownBy w' v.ownBlock) (hB : w.heap.size ≤ base)
  (hG : G < base) (hcs : ∀ i (h : i < rows.length),∃ gb c,cs[i]? = some (.slice (some ⟨gb,0,none⟩) wide c) ∧ gb < base) : LQX sB L w w' g G wide N cs rows:=by
 have far : ∀ k,k < base → some k ≠ v.ownBlock:=fun k hk e => by have:=(ho.lt k e.symm).1; omega
 refine ⟨⟨(hg.block G h.pu.box.lt (far G hG)).trans h.pu.box,h.pu.hG,fun i hi => ?_,h.pu.ne⟩,h.all,h.hs.app ho hg (by have:=h.lt; omega),grown_app h.hg ho hg hB,h.lt⟩
 obtain ⟨gb,c,h1,h2,h3,h4,h5⟩:=h.pu.at_ i hi
 obtain ⟨gc,d,k1,k2⟩:=hcs i hi
 rw [h1] at k1
 injection k1 with k1
 injection k1 with k1
 injection k1 with k1
 injection k1 with k1
 subst k1
 have e:=hg.block gb h3 (far gb k2)
 exact ⟨gb,c,h1,h2,Nat.lt_of_lt_of_le h3 hg.size,h4,fun j hj => ⟨(World.cell?_of_block (a:=⟨gb,j,none⟩) e).trans (h5 j hj).1,(World.frozen?_of_block (a:=⟨gb,j,none⟩) e).trans (h5 j hj).2⟩⟩
def chL (q : Int) : UInt8:=([46,46,46,35,46,94,111,35] : List UInt8).getD q.toNat 0
theorem chL_eq (q : Nat) (hq : q < 8) : (⟨#[46,46,46,35,46,94,111,35]⟩ : ByteArray)[q]'hq = chL (q : Int):=by
 match q,hq with
 | 0,_ => rfl
 | 1,_ => rfl
 | 2,_ => rfl
 | 3,_ => rfl
 | 4,_ => rfl
 | 5,_ => rfl
 | 6,_ => rfl
 | 7,_ => rfl
def pokeL (rows : List (List UInt8)) (p q : Nat) (u : UInt8) : List (List UInt8):=rows.set p ((rows.getD p []).set q u)
theorem getDL {α : Type} {l : List α} {d : α} {i : Nat} (h : i < l.length) : l.getD i d = l[i]:=by rw [List.getD_eq_getElem?_getD,List.getElem?_eq_getElem h]; rfl
theorem pokeL_eq {rows : List (List UInt8)} {p q : Nat} {u : UInt8} (hp : p < rows.length) : pokeL rows p q u = rows.set p (rows[p].set q u):=by unfold pokeL; rw [getDL hp]
def fillCols (L : List Int) (k : Nat) : Nat → List (List UInt8) → Nat → List (List UInt8) × Nat
 | 0,rows,K => (rows,K)
 | m + 1,rows,K => fillCols L k m (rows.set k (rows.getD k [] ++ [chL (nx L K 8)])) (K + 1)
def fillRows (L : List Int) (wide : Nat) : Nat → Nat → List (List UInt8) × Nat → List (List UInt8) × Nat
 | 0,_,p => p
 | r + 1,k,p => fillRows L wide r (k + 1) (fillCols L k wide p.1 p.2)
def coinCols (j : Nat) : Nat → Nat → List (List UInt8) → Int → List (List UInt8) × Int
 | 0,_,rows,cc => (rows,cc)
 | d + 1,m,rows,cc => if ((rows.getD j []).getD m 0).toNat = 111 then (if 2 < cc + 1 then coinCols j d (m + 1) (pokeL rows j m 46) (cc + 1) else coinCols j d (m + 1) rows (cc + 1)) else coinCols j d (m + 1) rows cc
def coinRows (wide : Nat) : Nat → Nat → List (List UInt8) → Int → List (List UInt8) → List (List UInt8)
 | 0,_,_,_,ss => ss
 | d + 1,j,rows,cc,ss => coinRows wide d (j + 1) (coinCols j wide 0 rows cc).1 (coinCols j wide 0 rows cc).2 (ss ++ [(coinCols j wide 0 rows cc).1.getD j []])
def coinMid (wide d j : Nat) (ss : List (List UInt8)) (p : List (List UInt8) × Int) : List (List UInt8):=coinRows wide d (j + 1) p.1 p.2 (ss ++ [p.1.getD j []])
def lvW (L : List Int) (ss : List (List UInt8)) (K x : Nat) (sx : List UInt8) : List (List UInt8) × Nat:=(ss.set x (sk L (K + 2) [[],sx ++ [46],Lib.replace sx [115] [46] 1,Lib.replace sx [46] [115] 1,Lib.replace sx [46] [113] 1]),K + 3)
def lvZ (L : List Int) (ss : List (List UInt8)) (K : Nat) : List (List UInt8) × Nat:=if nx L K 20 = 0 then lvW L ss K (nx L (K + 1) ss.length).toNat (ss.getD (nx L (K + 1) ss.length).toNat []) else (ss,K + 1)
def lvO (L : List Int) (wide : Nat) (rows : List (List UInt8)) (K : Nat) : List (List UInt8) × Nat:=lvZ L (coinRows wide rows.length 0 rows 0 []) K
def lvR (L : List Int) (wide : Nat) (rows : List (List UInt8)) (K : Nat) : List (List UInt8) × Nat:=lvO L wide (if nx L K 2 = 0 then rows ++ [Lib.repeatL [35] wide] else rows) (K + 1)
def lvT (L : List Int) (wide p q : Nat) (f : Bool) (rows : List (List UInt8)) (K : Nat) : List (List UInt8) × Nat:=lvR L wide (if f then pokeL rows (p + 1) q 35 else rows) K
def lvH (L : List Int) (wide high p q : Nat) (rows : List (List UInt8)) (K : Nat) : List (List UInt8) × Nat:=if p + 1 < high then lvT L wide p q (decide (nx L K 2 = 0)) rows (K + 1) else lvT L wide p q false rows K
def lvS (L : List Int) (wide high : Nat) (rows : List (List UInt8)) (K : Nat) : List (List UInt8) × Nat:=lvH L wide high (nx L K high).toNat (nx L (K + 1) wide).toNat (pokeL rows (nx L K high).toNat (nx L (K + 1) wide).toNat 115) (K + 2)
def lvA (L : List Int) (wide high : Nat) (p : List (List UInt8) × Nat) : List (List UInt8) × Nat:=lvS L wide high (pokeL p.1 (nx L p.2 high).toNat (nx L (p.2 + 1) wide).toNat 120) (p.2 + 2)
def levelF (L : List Int) (K : Nat) : List (List UInt8) × Nat:=lvA L (rg L K 2 6).toNat (rg L (K + 1) 1 4).toNat (fillRows L (rg L K 2 6).toNat (rg L (K + 1) 1 4).toNat 0 (List.replicate (rg L (K + 1) 1 4).toNat [],K + 2))
theorem rep_ex (s : List UInt8) (o n : UInt8) (w : World) (hs : s.length ≤ 1000) (hM : ∃ m,w.cell? ⟨0,0,none⟩ = some (.int .i64 m)) :
  Calls Tryz.prog 31 #[.string ⟨s.toArray⟩,.string ⟨#[o]⟩,.string ⟨#[n]⟩,.int .i64 1] w fun e w' => ∃ r : List UInt8,e = .returned (encStr r) ∧ (r.length ≤ s.length + 1 ∧ Hid (Lib.replace s [o] [n] 1 = r)) ∧ Below w.heap.size w w':=by
 obtain ⟨m,hm⟩:=hM
 have hsz : (⟨s.toArray⟩ : ByteArray).size = s.length:=by show s.toArray.size = _; simp
 have hc:=Lib.countB_le ⟨#[o]⟩ (Nat.le_refl 1) (⟨s.toArray⟩ : ByteArray).size ⟨s.toArray⟩ (Nat.le_refl _)
 refine (Tryz.strings_Replace ⟨s.toArray⟩ ⟨#[o]⟩ ⟨#[n]⟩ 1 m w (by omega) hm (Nat.le_refl 1) (by
  have e : (⟨#[n]⟩ : ByteArray).size = 1:=rfl
  rw [e]; omega)).mono ?_
 rintro e w' ⟨rfl,hb⟩
 refine ⟨Lib.replace s [o] [n] 1,rfl,⟨?_,Lib.hid rfl⟩,hb⟩
 have:=replace_one s [o] [n]
 simpa using this
def LevelE (w : World) (g sB : Nat) (L : List Int) (N : Nat) (e : Ending) (w' : World) : Prop:=∃ (B : Option Addr) (c : Nat) (rows : List (List UInt8)) (K' : Nat),e = .returned (.slice B rows.length c) ∧ Row w' w.heap.size 1 B rows.length (strs rows) ∧ rows.length ≤ c ∧ rows.length ≤ 10 ∧ 0 < rows.length ∧ (∀ r ∈ rows,r.length ≤ 100) ∧ levelF L N = (rows,K') ∧ K' ≤ N + 200 ∧ StrE w' g sB L K' ∧ w.grownBy w' (some g)
variable {sB : Nat}
theorem coin_step {rows : List (List UInt8)} {j m d : Nat} {cc : Int} (hj : j < rows.length) (hm : m < rows[j].length) : coinCols j (d + 1) m rows cc = if rows[j][m].toNat = 111 then (if 2 < cc + 1 then coinCols j d (m + 1) (rows.set j (rows[j].set m 46)) (cc + 1) else coinCols j d (m + 1) rows (cc + 1)) else coinCols j d (m + 1) rows cc:=by
 rw [coinCols,getDL hj,getDL hm,pokeL_eq hj]
set_option maxHeartbeats 4000000 in
set_option maxRecDepth 100000 in
theorem levelOf_ex (g N : Nat) (L : List Int) (w : World) (hs : StrE w g sB L N) (hN : N < 4611686018427380000) (hM : MaxL w) (hMg : 0 < g) :
  Calls Tryz.prog 6 #[.pointer (some ⟨g,0,none⟩)] w (LevelE w g sB L N):=by
 have hlt:=hs.lt
 have HM : Hid (∀ W,w.grownBy W (some g) → ∃ m,W.cell? ⟨0,0,none⟩ = some (.int .i64 m)):=Lib.hid (fun W hW => by
  obtain ⟨m,hm⟩:=hM
  exact ⟨m,hW.cell hm (fun e => by injection e with e; simp at e; omega)⟩)
 clear hM hMg
 obtain ⟨i0,hi0,hz0,hz1,hz2⟩:=info_parts info_u8r
 have und : Tryz.prog.underlying 86 = some (.slice 87):=Tryz.underlying86
 go_enter Tryz.func6,Tryz.ntmps6
 go_wp2_with fail
 refine (range_exx g N L 2 6 _ hs (by omega) (by omega) (by omega) (by omega)).mono ?_
 rintro e w1 ⟨wd,rfl,a0,a1,⟨hs1,hk1⟩,hg1⟩
 obtain ⟨wide,rfl⟩:=Int.eq_ofNat_of_zero_le (show 0 ≤ wd by omega)
 go_wp2_with fail
 refine (range_exx g _ L 1 4 _ hs1 (by omega) (by omega) (by omega) (by omega)).mono ?_
 rintro e w2 ⟨hd,rfl,b0,b1,⟨hs2,hk2⟩,hg2⟩
 obtain ⟨high,rfl⟩:=Int.eq_ofNat_of_zero_le (show 0 ≤ hd by omega)
 have HST : Hid (levelF L N = lvA L wide high (fillRows L wide high 0 (List.replicate high [],N + 1 + 1))):=Lib.hid (by unfold levelF; rw [hk1.out,hk2.out]; rfl)
 clear hk1 hk2
 have hgg:=grown_trans' hg1 hg2
 have hz:=hgg.size
 clear hs1 hg1 hg2 hs
 go_wp2_with (at_make; go_must (refine wpList_make_full _ rfl _ _ 86 rfl w.heap.size 87 i0 _ 1 und hi0 hz0 hz1 .i64 .i64 _ _ high rfl rfl rfl rfl (by rw [hz2]; omega) (by simp only [maxLen]; omega) hz ?_))
 intro w3 hown3 hg3
 obtain ⟨G,cs,eG,hGb,hblk,hcs,hsz⟩:=own_blkU hown3 (by omega)
 have hGL : GLX sB L w w3 g G high (N + 1 + 1) (List.replicate high []):=by
  refine ⟨hGb,?_,⟨cs,hblk,hsz⟩,hs2.grown hg3 (fun k hk => by cases hk),?_,hlt⟩
  ·have e0 : (List.replicate high ([] : List UInt8)).map byR = List.replicate high []:=by rw [List.map_replicate]; rfl
   rw [e0]
   refine NestU.made (by decide) hblk (fun i hi => ?_)
   rw [hcs i hi]
   rw [toList_madeCells_one]; simp [hi]
  ·exact grown_trans' hgg ⟨hg3.os,hg3.tape,hg3.output,hg3.size,fun k hk _ => hg3.block k hk (by simp)⟩
 have hL0 : lensK (List.replicate high []) wide 0 0:=fun j h => by simp
 have hrl : (List.replicate high ([] : List UInt8)).length = high:=List.length_replicate
 have eG' : w2.heap.size = G:=congrArg Addr.block (Option.some.inj eG)
 rw [eG']
 clear hown3 hg3 eG hblk hcs hsz cs hs2 hgg hz eG'
 generalize List.replicate high ([] : List UInt8) = rows0 at *
 go_wp2_with fail
 go_loopw [24] (fun i wr => ∃ (k : Nat) (rows : List (List UInt8)),k ≤ high ∧ i = .int .i64 k ∧ rows.length = high ∧ Hid (lensK rows wide k 0) ∧ ∃ kp,kp ≤ N + 2 + 6 * k ∧ GLX sB L w wr g G high kp rows ∧ Hid (levelF L N = lvA L wide high (fillRows L wide (high - k) k (rows,kp)))) (fun i _ => high - (intOf i).toNat)
 case atStart => exact ⟨0,rows0,Nat.zero_le _,rfl,hrl,Lib.hid hL0,N + 1 + 1,by omega,hGL,HST⟩
 case round =>
  clear hGL hL0 hrl HST
  obtain ⟨k,rows,hk,rfl,hrl,HL,kp,hKb,hG,HF⟩:=hrel
  have HRL:=Lib.hid hrl
  by_cases hkh : k < high
  ·have hkr : k < rows.length:=by omega
   clear hrl
   obtain ⟨r9,hr9⟩ : ∃ r9,high - k = r9 + 1:=⟨high - k - 1,by omega⟩
   have HF0 : Hid (levelF L N = lvA L wide high (fillRows L wide r9 (k + 1) (fillCols L k (wide - 0) rows kp))):=Lib.hid (by rw [HF.out,hr9]; rfl)
   have HR9:=Lib.hid hr9
   clear hr9 HF
   go_wp2_with fail
   go_loopw [28] (fun i wr => ∃ (m : Nat) (rows : List (List UInt8)),m ≤ wide ∧ i = .int .i64 m ∧ Hid (rows.length = high) ∧ Hid (lensK rows wide k m) ∧ ∃ kp,kp ≤ N + 2 + 6 * k + m ∧ GLX sB L w wr g G high kp rows ∧ Hid (levelF L N = lvA L wide high (fillRows L wide r9 (k + 1) (fillCols L k (wide - m) rows kp)))) (fun i _ => wide - (intOf i).toNat)
   case atStart => exact ⟨0,rows,Nat.zero_le _,rfl,HRL,HL,kp,by omega,hG,HF0⟩
   case round =>
    clear hG HL HRL hkr HF0 hKb rows
    obtain ⟨m,rows,hm,rfl,HRL,HL,kp,hKb,hG,HF⟩:=hrel
    by_cases hmw : m < wide
    ·have hkr : k < rows.length:=by have:=HRL.out; omega
     have hrk : rows[k].length = m:=by have:=HL.out k hkr; simp at this; exact this
     have HRK:=Lib.hid hrk
     have hrk2 : rows[k].length ≤ 6:=by omega
     obtain ⟨A1,c1,hcy,hown⟩:=hG.nest.row (i:=k) (by simpa using hkr)
     have er : (rows.map byR)[k]'(by simpa using hkr) = byR rows[k]:=by simp
     rw [er,byR_len] at hcy hown
     clear er hrk
     go_upto_region 8 with (fail)
     have hG:=hG.drew
     have hcy : wr.drew.cell? ⟨G,k,none⟩ = some (.slice A1 rows[k].length c1):=hcy
     have hown:=hown.drew
     have hkh' : (k : Int) < (high : Int):=by omega
     have hGlt:=hG.lt
     have hGG:=hG.hG
     refine wp_region_heldK 12 (fun w' => w'.cell? ⟨G,k,none⟩ = some (.slice A1 rows[k].length c1)) (fun _ => True) (by kernel_rfl) (trivial) (hcy) (fun hT hS => ?_)
     (refine wpAnyK_take2 (i:=0) (v:=?_) (by (simp only [Q0,Q2]; rfl)) (by kernel_rfl) (by kernel_rfl) (by kernel_rfl) (by decide) (by exact fun _ _ _ h => h) (Or.inl ⟨by rfl,?_⟩) (by assumption) (by assumption) ?_; (rotate_left 1; (intro w hSw; (try dsimp only at hSw); go_simp); (try with_reducible rfl)); (try simp only [Act.put,Q3,Q4,Q5]))
     (refine wpAnyK_take2 (i:=1) (v:=?_) (by (simp only [Q0,Q1,Q2]; rfl)) (by kernel_rfl) (by kernel_rfl) (by kernel_rfl) (by decide) (by exact fun _ _ _ h => h) (Or.inl ⟨by rfl,?_⟩) (by assumption) (by assumption) ?_; (rotate_left 1; (intro w hSw; (try dsimp only at hSw); go_simp); (try with_reducible rfl)); (try simp only [Act.put,Q3,Q4,Q5]))
     (refine wpAnyK_take2 (i:=2) (v:=?_) (by (simp only [Q0,Q1,Q2]; rfl)) (by kernel_rfl) (by kernel_rfl) (by kernel_rfl) (by decide) (by exact fun _ _ _ h => h) (Or.inl ⟨by rfl,?_⟩) (by assumption) (by assumption) ?_; (rotate_left 1; (intro w hSw; (try dsimp only at hSw); go_simp); (try with_reducible rfl)); (try simp only [Act.put,Q3,Q4,Q5]))
     (refine wpAnyK_take2 (i:=3) (v:=?_) (by (simp only [Q0,Q1,Q2]; rfl)) (by kernel_rfl) (by kernel_rfl) (by kernel_rfl) (by decide) (by exact fun _ _ _ h => h) (Or.inl ⟨by rfl,?_⟩) (by assumption) (by assumption) ?_; (rotate_left 1; (intro w hSw; (try dsimp only at hSw); go_simp); (try with_reducible rfl)); (try simp only [Act.put,Q3,Q4,Q5]))
     (refine wpAnyK_take2 (i:=4) (v:=?_) (by (simp only [Q0,Q1,Q2]; rfl)) (by kernel_rfl) (by kernel_rfl) (by kernel_rfl) (by decide) (by exact fun _ _ _ h => h) (Or.inl ⟨by rfl,?_⟩) (by assumption) (by assumption) ?_; (rotate_left 1; (intro w hSw; (try dsimp only at hSw); go_simp); (try with_reducible rfl)); (try simp only [Act.put,Q3,Q4,Q5]))
     (refine wpAnyK_take1 (i:=5) (v:=?_) (by (simp only [Q0,Q1,Q2]; rfl)) (by kernel_rfl) (by kernel_rfl) (by kernel_rfl) (by decide) (by kernel_rfl) (by kernel_rfl) (by exact fun _ _ _ h => h) (Or.inl ⟨by rfl,?_⟩) (by assumption) (by assumption) ?_; (rotate_left 1; (intro w hSw; (try dsimp only at hSw); go_simp); (try with_reducible rfl)); (try simp only [Act.put,Q3,Q4,Q5]))
     (refine wpAnyK_take2 (i:=6) (v:=?_) (by (simp only [Q0,Q1,Q2]; rfl)) (by kernel_rfl) (by kernel_rfl) (by kernel_rfl) (by decide) (by exact fun _ _ _ h => h) (Or.inl ⟨by rfl,?_⟩) (by assumption) (by assumption) ?_; (rotate_left 1; (intro w hSw; (try dsimp only at hSw); go_simp); (try with_reducible rfl)); (try simp only [Act.put,Q3,Q4,Q5]))
     refine wpAnyK_ready (rs:=[7]) (by kernel_rfl) (by simp) ?_
     refine AllReadyK.cons rfl (fun K hK => ?_) AllReadyK.nil
     go_simp
     go_at_call 27
     refine (next_exx g _ L 8 _ hG.hs (by omega) (by omega)).mono ?_
     rintro e w3 ⟨r,rfl,r0,r1,-,⟨hs3,hk3⟩,hg3⟩
     obtain ⟨q,rfl⟩:=Int.eq_ofNat_of_zero_le r0
     have hq : q < 8:=by have:=r1 (by omega); omega
     have hq' : (q : Int) < 8:=by omega
     have HFN : Hid (levelF L N = lvA L wide high (fillRows L wide r9 (k + 1) (fillCols L k (wide - (m + 1)) (rows.set k (rows[k] ++ [(⟨#[46,46,46,35,46,94,111,35]⟩ : ByteArray)[q]'hq])) (kp + 1)))):=Lib.hid (by rw [HF.out,show wide - m = (wide - (m + 1)) + 1 by omega,fillCols,hk3.out,← chL_eq q hq,getDL hkr])
     clear hk3 HF
     have hG:=hG.stream hg3 hs3
     have hcy:=hg3.cell hcy (by simp; omega)
     have hown:=own_grown hown hg3 hG.lt
     clear r0 r1 hs3 hg3
     go_wp2_with fail
     refine hK.out _ _ (trivial) (hcy) (fun hT hS => ?_)
     clear hK K
     (try simp only [Act.put,Q3,Q4,Q5])
     (refine wpAnyK_take2 (i:=8) (v:=?_) (by (simp only [Q0,Q1,Q2]; rfl)) (by kernel_rfl) (by kernel_rfl) (by kernel_rfl) (by decide) (by exact fun _ _ _ h => h) (Or.inl ⟨by rfl,?_⟩) (by assumption) (by assumption) ?_; (rotate_left 1; (intro w hSw; (try dsimp only at hSw); go_simp); (try with_reducible rfl)); (try simp only [Act.put,Q3,Q4,Q5]))
     refine wpAnyK_ready (rs:=[9]) (by kernel_rfl) (by simp) ?_
     refine AllReadyK.cons rfl (fun K hK => ?_) AllReadyK.nil
     go_simp
     have hown:=hown.alloc (.cells #[.int .u8 (((⟨#[46,46,46,35,46,94,111,35]⟩ : ByteArray)[q]'hq).toNat : Int)] 5)
     have hG:=hG.alloc (.cells #[.int .u8 (((⟨#[46,46,46,35,46,94,111,35]⟩ : ByteArray)[q]'hq).toNat : Int)] 5)
     have hcy:=cell_al hcy (.cells #[.int .u8 (((⟨#[46,46,46,35,46,94,111,35]⟩ : ByteArray)[q]'hq).toNat : Int)] 5)
     have hN1:=row_new w3 #[.int .u8 (((⟨#[46,46,46,35,46,94,111,35]⟩ : ByteArray)[q]'hq).toNat : Int)] 5 0 1 1 (Nat.zero_le _) rfl
     refine hK.out _ _ (trivial) (hcy) (fun hT hS => ?_)
     clear hK K
     (try simp only [Act.put,Q3,Q4,Q5])
     refine wpAnyK_ready (rs:=[10]) (by kernel_rfl) (by simp) ?_
     refine AllReadyK.cons rfl (fun K hK => ?_) AllReadyK.nil
     refine step_app (lo:=0) (base:=w.heap.size) (n:=rows[k].length) (xs:=u8s (byR rows[k])) _ rfl _ _ ty_u8s rfl hown rfl hN1 rfl rfl (by omega) (by omega) (by have:=hG.hg.size; omega) ?_
     intro A5 c5 w5 hown5 hg5 hbk
     obtain ⟨⟨cs5,hG5⟩,hGc⟩:=hG.nest.grown_ (i:=k) (by simpa using hkr) (by rw [show (rows.map byR)[k]'(by simpa using hkr) = byR rows[k] by simp,byR_len]; exact hcy) (by rw [show (rows.map byR)[k]'(by simpa using hkr) = byR rows[k] by simp,byR_len]; exact hg5)
     have hcy5:=(hGc k).trans hcy
     have hfz5:=hG5.thaw k
     have hzG5:=hG5.lt
     have hGN:=Lib.hid (hG.push hkr hcy _ hown hg5 hown5 hbk)
     clear hG hown hN1 hGc hG5 hbk hg5 hown5
     have hcy:=hcy5
     clear hcy5
     refine hK.out _ _ (trivial) (hcy) (fun hT hS => ?_)
     clear hK K
     (try simp only [Act.put,Q3,Q4,Q5])
     (refine wpAnyK_take2 (i:=11) (v:=?_) (by (simp only [Q0,Q1,Q2]; rfl)) (by kernel_rfl) (by kernel_rfl) (by kernel_rfl) (by decide) (by exact fun _ _ _ h => h) (Or.inl ⟨by rfl,?_⟩) (by assumption) (by assumption) ?_; (rotate_left 1; (intro w hSw; (try dsimp only at hSw); go_simp); (try with_reducible rfl)); (try simp only [Act.put,Q3,Q4,Q5]))
     refine wpAnyK_ready (rs:=[12]) (by kernel_rfl) (by simp) ?_
     refine AllReadyK.consT (by kernel_rfl) rfl (fun K hK => ?_) AllReadyK.nil
     go_simp
     refine hK.out _ _ (trivial) (fun hT => ?_)
     clear hK K
     (try simp only [Act.put,Q3,Q4,Q5])
     refine wpAnyK_done (by kernel_rfl) ?_ _
     generalize (⟨#[46,46,46,35,46,94,111,35]⟩ : ByteArray)[q]'hq = u at *
     clear hcy hfz5 hzG5 hT
     have HLN : Hid (lensK (rows.set k (rows[k] ++ [u])) wide k (m + 1)):=Lib.hid (fun j hj => by
      have hj2 : j < rows.length:=by simpa using hj
      by_cases e : k = j
      ·subst e
       have:=HRK.out
       simp; omega
      ·have:=HL.out j hj2
       have e2 : ¬ j = k:=fun x => e x.symm
       rw [List.getElem_set_ne e]
       simpa [e2] using this)
     have HRN : Hid ((rows.set k (rows[k] ++ [u])).length = high):=Lib.hid (by rw [List.length_set]; exact HRL.out)
     go_wp2_with fail
     go_roundw
     case rel => exact ⟨m + 1,_,by omega,by go_num,HRN,HLN,kp + 1,by omega,hGN.out,HFN⟩
     case measure => simp [intOf]; omega
    ·have hmm : m = wide:=by omega
     subst hmm
     have HFK : Hid (levelF L N = lvA L m high (fillRows L m (high - (k + 1)) (k + 1) (rows,kp))):=Lib.hid (by rw [HF.out,Nat.sub_self,show high - (k + 1) = r9 by have:=HR9.out; omega]; rfl)
     clear HF
     have HLN : Hid (lensK rows m (k + 1) 0):=Lib.hid (fun j hj => by
      have:=HL.out j hj
      by_cases e1 : j < k
      ·rw [if_pos e1] at this; rw [if_pos (by omega)]; exact this
      ·rw [if_neg e1] at this
       by_cases e2 : j = k
       ·rw [if_pos e2] at this; rw [if_pos (by omega)]; exact this
       ·rw [if_neg e2] at this; rw [if_neg (by omega),this]; split <;> rfl)
     go_wp2_with fail
     go_roundw
     case rel => exact ⟨k + 1,rows,by omega,by go_num,HRL.out,HLN,kp,by omega,hG,HFK⟩
     case measure => simp [intOf]; omega
  ·have hkk : k = high:=by omega
   subst hkk
   have HLL : Hid (∀ r ∈ rows,r.length = wide):=Lib.hid (fun r hr => by
    obtain ⟨j,hj,rfl⟩:=List.mem_iff_getElem.1 hr
    have:=HL.out j hj
    rw [if_pos (by omega)] at this; exact this)
   obtain ⟨cs,hPU⟩:=PU.of_nest hG.nest hG.hG (fun r hr => by have:=HLL.out r hr; omega)
   have hsz : cs.size = k:=by
    obtain ⟨cs',h1,h2⟩:=hG.size
    have e : wr.heap[G]? = some (.cells cs 87 (0,0)):=hPU.box
    rw [show wr.heap[G]? = some (.cells cs' 87 (0,0)) from h1] at e
    injection e with e
    injection e with e
    rw [← e]; exact h2
   have HFA : Hid (levelF L N = lvA L wide k (rows,kp)):=Lib.hid (by rw [HF.out,Nat.sub_self]; rfl)
   have hL : LPX sB L w wr g G k wide kp cs rows:=⟨hPU,HRL.out,HLL.out,hG.hs,hG.hg,hG.lt,hsz⟩
   clear hG HL HRL HLL hsz hPU hrl HF
   have hwide : (wide : Int) < 7:=by omega
   go_upto_region 11 with (fail)
   go_cut [2] from 44 to 53 (fun s wx => s = .slice none 0 0 ∧ ∃ rows K2,K2 ≤ N + 4 + 6 * k ∧ LPX sB L w wx g G k wide K2 cs rows ∧ Hid (levelF L N = lvS L wide k rows K2))
   case first =>
    have hL:=hL.drew
    refine wp_region_held_drew (S:=(fun _ => True)) (by kernel_rfl) (trivial) (fun hHeld => ?_)
    (refine wpAnyH_take (i:=0) (v:=?_) (by (simp only [Q0,Q2]; rfl)) (by kernel_rfl) (by kernel_rfl) (by kernel_rfl) (by exact fun _ _ _ h => h) (Or.inl ⟨by rfl,?_⟩) (by assumption) ?_; (rotate_left 1; (intro w hSw; (try dsimp only at hSw); go_simp); (try with_reducible rfl)); (try simp only [Act.put,Q3,Q4,Q5]))
    (refine wpAnyH_take (i:=1) (v:=?_) (by (simp only [Q0,Q1,Q2]; rfl)) (by kernel_rfl) (by kernel_rfl) (by kernel_rfl) (by exact fun _ _ _ h => h) (Or.inl ⟨by rfl,?_⟩) (by assumption) ?_; (rotate_left 1; (intro w hSw; (try dsimp only at hSw); go_simp); (try with_reducible rfl)); (try simp only [Act.put,Q3,Q4,Q5]))
    (refine wpAnyH_take (i:=2) (v:=?_) (by (simp only [Q0,Q1,Q2]; rfl)) (by kernel_rfl) (by kernel_rfl) (by kernel_rfl) (by exact fun _ _ _ h => h) (Or.inl ⟨by rfl,?_⟩) (by assumption) ?_; (rotate_left 1; (intro w hSw; (try dsimp only at hSw); go_simp); (try with_reducible rfl)); (try simp only [Act.put,Q3,Q4,Q5]))
    (refine wpAnyH_take (i:=6) (v:=?_) (by (simp only [Q0,Q1,Q2]; rfl)) (by kernel_rfl) (by kernel_rfl) (by kernel_rfl) (by exact fun _ _ _ h => h) (Or.inl ⟨by rfl,?_⟩) (by assumption) ?_; (rotate_left 1; (intro w hSw; (try dsimp only at hSw); go_simp); (try with_reducible rfl)); (try simp only [Act.put,Q3,Q4,Q5]))
    (refine wpAnyH_take (i:=7) (v:=?_) (by (simp only [Q0,Q1,Q2]; rfl)) (by kernel_rfl) (by kernel_rfl) (by kernel_rfl) (by exact fun _ _ _ h => h) (Or.inl ⟨by rfl,?_⟩) (by assumption) ?_; (rotate_left 1; (intro w hSw; (try dsimp only at hSw); go_simp); (try with_reducible rfl)); (try simp only [Act.put,Q3,Q4,Q5]))
    refine wpAnyH_ready (rs:=[3]) (by kernel_rfl) (by simp) ?_
    refine AllReadyH.cons rfl (fun K hK => ?_) AllReadyH.nil
    go_simp
    go_at_call 27
    refine (next_exx g _ L (k : Int) _ hL.hs (by omega) (by omega)).mono ?_
    rintro e w5 ⟨r,rfl,r0,r1,-,⟨hs9,hkp⟩,hg9⟩
    obtain ⟨p,rfl⟩:=Int.eq_ofNat_of_zero_le r0
    have hp : p < k:=by have:=r1 (by omega); omega
    clear r0 r1
    have hL:=hL.stream hg9 hs9
    clear hs9 hg9
    have hpr : p < rows.length:=by rw [hL.len]; exact hp
    have hp' : (p : Int) < (k : Int):=by omega
    obtain ⟨gb,cc,hrow,hgb1,hgb2,hgb3,-⟩:=hL.pu.row hpr
    go_wp2_with fail
    refine hK.out _ _ (trivial) (fun hHeld => ?_)
    clear hK K
    (try simp only [Act.put,Q3,Q4,Q5])
    (refine wpAnyH_take (i:=4) (v:=?_) (by (simp only [Q0,Q1,Q2]; rfl)) (by kernel_rfl) (by kernel_rfl) (by kernel_rfl) (by exact fun _ _ _ h => h) (Or.inl ⟨by rfl,?_⟩) (by assumption) ?_; (rotate_left 1; (intro w hSw; (try dsimp only at hSw); go_simp); (try with_reducible rfl)); (try simp only [Act.put,Q3,Q4,Q5]))
    refine wpAnyH_ready (rs:=[5,8]) (by kernel_rfl) (by simp) ?_
    refine AllReadyH.cons rfl (fun K hK => ?_) (AllReadyH.cons rfl (fun K hK => ?_) AllReadyH.nil)
    case refine_1 =>
     go_simp
     refine hK.out _ _ (trivial) (fun hHeld => ?_)
     clear hK K
     (try simp only [Act.put,Q3,Q4,Q5])
     refine wpAnyH_ready (rs:=[8]) (by kernel_rfl) (by simp) ?_
     refine AllReadyH.cons rfl (fun K hK => ?_) AllReadyH.nil
     go_simp
     go_at_call 27
     refine (next_exx g _ L (wide : Int) _ hL.hs (by omega) (by omega)).mono ?_
     rintro e w6 ⟨r,rfl,r0,r1,-,⟨hs9,hkq⟩,hg9⟩
     obtain ⟨q,rfl⟩:=Int.eq_ofNat_of_zero_le r0
     have hq : q < wide:=by have:=r1 (by omega); omega
     clear r0 r1
     have hrow:=hg9.cell hrow (by have:=hL.pu.hG; have:=hL.lt; simp; omega)
     have hgb2:=Nat.lt_of_lt_of_le hgb2 hg9.size
     have hL:=hL.stream hg9 hs9
     clear hs9 hg9
     have hqr : q < rows[p].length:=by rw [hL.all _ (List.getElem_mem _)]; exact hq
     have hqr' : (q : Int) < (rows[p].length : Int):=by omega
     obtain ⟨hqc,hqf⟩:=hL.pu.bytes hpr hrow q hqr
     go_wp2_with fail
     refine hK.out _ _ (trivial) (fun hHeld => ?_)
     clear hK K
     (try simp only [Act.put,Q3,Q4,Q5])
     (refine wpAnyH_take (i:=9) (v:=?_) (by (simp only [Q0,Q1,Q2]; rfl)) (by kernel_rfl) (by kernel_rfl) (by kernel_rfl) (by exact fun _ _ _ h => h) (Or.inl ⟨by rfl,?_⟩) (by assumption) ?_; (rotate_left 1; (intro w hSw; (try dsimp only at hSw); go_simp); (try with_reducible rfl)); (try simp only [Act.put,Q3,Q4,Q5]))
     refine wpAnyH_ready (rs:=[10]) (by kernel_rfl) (by simp) ?_
     refine AllReadyH.cons rfl (fun K hK => ?_) AllReadyH.nil
     go_simp
     refine hK.out _ _ (trivial) (fun hHeld => ?_)
     clear hK K
     (try simp only [Act.put,Q3,Q4,Q5])
     refine wpAnyH_done (by kernel_rfl) ?_ _
     have hL2:=hL.poke hpr hqr hrow hgb1 (120 : UInt8)
     rw [show (((120 : UInt8).toNat : Nat) : Int) = 120 from rfl] at hL2
     have HFB : Hid (levelF L N = lvS L wide k (rows.set p (rows[p].set q 120)) (kp + 1 + 1)):=Lib.hid (by rw [HFA.out,lvA,hkp.out,hkq.out,Int.toNat_natCast,Int.toNat_natCast,pokeL_eq hpr])
     clear hkp hkq HFA
     go_wp2_with fail
     go_meet
     exact ⟨rfl,_,_,by omega,hL2,HFB⟩
    case refine_2 =>
     go_simp
     go_at_call 27
     refine (next_exx g _ L (wide : Int) _ hL.hs (by omega) (by omega)).mono ?_
     rintro e w6 ⟨r,rfl,r0,r1,-,⟨hs9,hkq⟩,hg9⟩
     obtain ⟨q,rfl⟩:=Int.eq_ofNat_of_zero_le r0
     have hq : q < wide:=by have:=r1 (by omega); omega
     clear r0 r1
     have hrow:=hg9.cell hrow (by have:=hL.pu.hG; have:=hL.lt; simp; omega)
     have hgb2:=Nat.lt_of_lt_of_le hgb2 hg9.size
     have hL:=hL.stream hg9 hs9
     clear hs9 hg9
     have hqr : q < rows[p].length:=by rw [hL.all _ (List.getElem_mem _)]; exact hq
     have hqr' : (q : Int) < (rows[p].length : Int):=by omega
     obtain ⟨hqc,hqf⟩:=hL.pu.bytes hpr hrow q hqr
     go_wp2_with fail
     refine hK.out _ _ (trivial) (fun hHeld => ?_)
     clear hK K
     (try simp only [Act.put,Q3,Q4,Q5])
     refine wpAnyH_ready (rs:=[5]) (by kernel_rfl) (by simp) ?_
     refine AllReadyH.cons rfl (fun K hK => ?_) AllReadyH.nil
     go_simp
     refine hK.out _ _ (trivial) (fun hHeld => ?_)
     clear hK K
     (try simp only [Act.put,Q3,Q4,Q5])
     (refine wpAnyH_take (i:=9) (v:=?_) (by (simp only [Q0,Q1,Q2]; rfl)) (by kernel_rfl) (by kernel_rfl) (by kernel_rfl) (by exact fun _ _ _ h => h) (Or.inl ⟨by rfl,?_⟩) (by assumption) ?_; (rotate_left 1; (intro w hSw; (try dsimp only at hSw); go_simp); (try with_reducible rfl)); (try simp only [Act.put,Q3,Q4,Q5]))
     refine wpAnyH_ready (rs:=[10]) (by kernel_rfl) (by simp) ?_
     refine AllReadyH.cons rfl (fun K hK => ?_) AllReadyH.nil
     go_simp
     refine hK.out _ _ (trivial) (fun hHeld => ?_)
     clear hK K
     (try simp only [Act.put,Q3,Q4,Q5])
     refine wpAnyH_done (by kernel_rfl) ?_ _
     have hL2:=hL.poke hpr hqr hrow hgb1 (120 : UInt8)
     rw [show (((120 : UInt8).toNat : Nat) : Int) = 120 from rfl] at hL2
     have HFB : Hid (levelF L N = lvS L wide k (rows.set p (rows[p].set q 120)) (kp + 1 + 1)):=Lib.hid (by rw [HFA.out,lvA,hkp.out,hkq.out,Int.toNat_natCast,Int.toNat_natCast,pokeL_eq hpr])
     clear hkp hkq HFA
     go_wp2_with fail
     go_meet
     exact ⟨rfl,_,_,by omega,hL2,HFB⟩
   case rest =>
   clear hL HFA hKb rows
   obtain ⟨rfl,rows,kp,hKb,hL,HFA⟩:=hcut
   go_wp2_with fail
   refine (next_exx g _ L (k : Int) _ hL.hs (by omega) (by omega)).mono ?_
   rintro e w7 ⟨r,rfl,r0,r1,-,⟨hs9,hkp⟩,hg9⟩
   obtain ⟨p,rfl⟩:=Int.eq_ofNat_of_zero_le r0
   have hp : p < k:=by have:=r1 (by omega); omega
   clear r0 r1
   have hL:=hL.stream hg9 hs9
   clear hs9 hg9
   go_wp2_with fail
   refine (next_exx g _ L (wide : Int) _ hL.hs (by omega) (by omega)).mono ?_
   rintro e w8 ⟨r,rfl,r0,r1,-,⟨hs9,hkq⟩,hg9⟩
   obtain ⟨q,rfl⟩:=Int.eq_ofNat_of_zero_le r0
   have hq : q < wide:=by have:=r1 (by omega); omega
   clear r0 r1
   have hL:=hL.stream hg9 hs9
   clear hs9 hg9
   have hpr : p < rows.length:=by rw [hL.len]; exact hp
   have hp' : (p : Int) < (k : Int):=by omega
   obtain ⟨gb,cc,hrow,hgb1,hgb2,hgb3,-⟩:=hL.pu.row hpr
   have hqr : q < rows[p].length:=by rw [hL.all _ (List.getElem_mem _)]; exact hq
   have hqr' : (q : Int) < (rows[p].length : Int):=by omega
   obtain ⟨hqc,hqf⟩:=hL.pu.bytes hpr hrow q hqr
   go_upto_region 14 with (fail)
   have hL2:=hL.poke hpr hqr hrow hgb1 (115 : UInt8)
   rw [show (((115 : UInt8).toNat : Nat) : Int) = 115 from rfl] at hL2
   clear hL hqc hqf hqr hqr' hrow hgb1 hgb2 hgb3
   have hL:=hL2
   clear hL2
   have HFS : Hid (levelF L N = lvH L wide k p q (rows.set p (rows[p].set q (115 : UInt8))) (kp + 1 + 1)):=Lib.hid (by rw [HFA.out,lvS,hkp.out,hkq.out,Int.toNat_natCast,Int.toNat_natCast,pokeL_eq hpr])
   clear hkp hkq HFA
   generalize rows.set p (rows[p].set q (115 : UInt8)) = rowsS at *
   generalize w8.setCell ⟨gb,q,none⟩ (.int .u8 115) = w9 at *
   have wp1 : IntKind.i64.wrap ((p : Int) + 1) = (p : Int) + 1:=IntWalk.i64_in _ ⟨by omega,by omega⟩
   have hk4 : k ≤ 4:=by omega
   go_cut [73] from 66 to 72 (fun s wx => ∃ f : Bool,s = .bool f ∧ (f = true → p + 1 < k) ∧ ∃ K3,K3 ≤ N + 7 + 6 * k ∧ LPX sB L w wx g G k wide K3 cs rowsS ∧ Hid (levelF L N = lvT L wide p q f rowsS K3))
   case first =>
    by_cases hpk : p + 1 < k
    ·have d0 : decide ((p : Int) + 1 < (k : Int)) = true:=decide_eq_true (by omega)
     have i0 : (p : Int) + 1 < (k : Int):=by omega
     go_wp2_with fail
     refine (flip_exx g _ L _ _ hL.hs (by omega) (by omega)).mono ?_
     rintro e w10 ⟨f,rfl,⟨hs9,hkf⟩,hg9⟩
     have HFT : Hid (levelF L N = lvT L wide p q f rowsS (kp + 1 + 1 + 1)):=Lib.hid (by rw [HFS.out,lvH,if_pos hpk,hkf.out])
     clear hkf HFS
     have hL:=hL.stream hg9 hs9
     clear hs9 hg9
     go_wp2_with fail
     go_meet
     exact ⟨f,rfl,fun _ => hpk,_,by omega,hL,HFT⟩
    ·have d0 : decide ((p : Int) + 1 < (k : Int)) = false:=decide_eq_false (by omega)
     have i0 : ¬ (p : Int) + 1 < (k : Int):=by omega
     have HFT : Hid (levelF L N = lvT L wide p q false rowsS (kp + 1 + 1)):=Lib.hid (by rw [HFS.out,lvH,if_neg hpk])
     clear HFS
     go_wp2_with fail
     go_meet
     exact ⟨false,rfl,fun h => absurd h (by simp),_,by omega,hL,HFT⟩
   case rest =>
   clear hL HFS hKb
   obtain ⟨f,rfl,hf,kp,hKb,hL,HFT⟩:=hcut
   have HFP:=Lib.hid hf
   clear hf
   go_upto_if 73 with (fail)
   go_cut [2] from 74 to 80 (fun s wx => s = .slice none 0 0 ∧ ∃ rows K3,K3 ≤ N + 7 + 6 * k ∧ LPX sB L w wx g G k wide K3 cs rows ∧ Hid (levelF L N = lvR L wide rows K3))
   case first =>
    cases f
    ·have HFR : Hid (levelF L N = lvR L wide rowsS kp):=HFT
     clear HFT
     go_wp2_with fail
     go_meet
     exact ⟨rfl,_,_,hKb,hL,HFR⟩
    ·have hpk:=HFP.out rfl
     have hpr : p + 1 < rowsS.length:=by rw [hL.len]; exact hpk
     have hp' : (p : Int) + 1 < (k : Int):=by omega
     have hp'' : ((p + 1 : Nat) : Int) < (k : Int):=by omega
     have ep : (p : Int) + 1 = ((p + 1 : Nat) : Int):=by omega
     obtain ⟨gb,cc,hrow,hgb1,hgb2,hgb3,-⟩:=hL.pu.row hpr
     have hqr : q < rowsS[p + 1].length:=by rw [hL.all _ (List.getElem_mem _)]; exact hq
     have hqr' : (q : Int) < (rowsS[p + 1].length : Int):=by omega
     obtain ⟨hqc,hqf⟩:=hL.pu.bytes hpr hrow q hqr
     have hL2:=hL.poke hpr hqr hrow hgb1 (35 : UInt8)
     rw [show (((35 : UInt8).toNat : Nat) : Int) = 35 from rfl] at hL2
     have HL2:=Lib.hid hL2
     have HFR : Hid (levelF L N = lvR L wide (rowsS.set (p + 1) (rowsS[p + 1].set q 35)) kp):=Lib.hid (by rw [HFT.out,lvT,if_pos rfl,pokeL_eq hpr])
     clear hL2 ep HFT
     go_wp2_with fail
     go_meet
     exact ⟨rfl,_,_,hKb,HL2.out,HFR⟩
   case rest =>
   clear hL HFP HFT hKb
   obtain ⟨rfl,rows3,kp,hKb,hL,HFR⟩:=hcut
   go_wp2_with fail
   refine (flip_exx g _ L _ _ hL.hs (by omega) (by omega)).mono ?_
   rintro e w11 ⟨f2,rfl,⟨hs9,hkf⟩,hg9⟩
   have HFO : Hid (levelF L N = lvO L wide (if f2 then rows3 ++ [Lib.repeatL [35] wide] else rows3) (kp + 1)):=Lib.hid (by
    rw [HFR.out,lvR]
    have:=hkf.out
    by_cases h : nx L kp 2 = 0
    ·rw [decide_eq_true h] at this; rw [if_pos h,← this,if_pos rfl]
    ·rw [decide_eq_false h] at this; rw [if_neg h,← this]; rfl)
   clear hkf HFR
   have hL:=hL.stream hg9 hs9
   clear hs9 hg9
   go_upto_if 82 with (fail)
   go_cut [5] from 83 to 88 (fun v wx => ∃ (G' cap : Nat) (cs' : Array Value) (rows4 : List (List UInt8)),v = .slice (some ⟨G',0,none⟩) rows4.length cap ∧ Hid (0 < rows4.length ∧ rows4.length ≤ 5) ∧ ∃ K4,K4 ≤ N + 40 ∧ LQX sB L w wx g G' wide K4 cs' rows4 ∧ Hid (levelF L N = lvO L wide rows4 K4))
   case first =>
    cases f2
    ·go_wp2_with fail
     go_meet
     exact ⟨G,k,cs,rows3,by rw [hL.len],Lib.hid (by rw [hL.len]; omega),_,by omega,hL.lq,HFO⟩
    ·have REP:=Tryz.strings_Repeat ⟨#[35]⟩ wide w11 (by omega) (by show 1 * wide ≤ _; omega)
     have er : Lib.repeatL (⟨#[35]⟩ : ByteArray).data.toList wide = Lib.repeatL [35] wide:=rfl
     rw [er] at REP
     have hrl : (Lib.repeatL [35] wide).length = wide:=by rw [Lib.repeatL_length]; simp
     have HRL:=Lib.hid hrl
     have HFO : Hid (levelF L N = lvO L wide (rows3 ++ [Lib.repeatL [35] wide]) (kp + 1)):=HFO
     clear er hrl
     generalize Lib.repeatL [35] wide = rp at *
     go_wp2_with fail
     refine REP.mono ?_
     rintro e w12 ⟨rfl,hb2⟩
     have hL:=hL.below hb2
     obtain ⟨gv,capv,wb,hcv,hbr,hbb,hfz⟩:=conv_u rp w12 9 87 (by kernel_rfl) (by kernel_rfl)
     unfold encStr at hcv
     have HFZ:=Lib.hid hfz
     have HLO:=Lib.hid ((hL.below hbb).own (by omega))
     clear REP hb2 hfz
     have hzw:=hbb.size
     have hzw2:=hL.hg.size
     go_wp2_with (at_builtin; go_must (refine wpList_app (lo:=0) (base:=w.heap.size) (n:=k) (xs:=cs.toList) _ _ rfl _ _ ty_u8rs rfl (HLO.out.alloc _) rfl (row_new _ #[.slice (some ⟨gv,0,none⟩) rp.length capv] 87 0 1 1 (Nat.zero_le _) rfl) rfl rfl (by omega) (by omega) (by simp; omega) ?_))
     intro A5 c5 w13 hown5 hg5 hbk
     have hgw:=hL.grow (by omega) (hbb.alloc hzw (.cells #[.slice (some ⟨gv,0,none⟩) rp.length capv] 87)) (hbr.below ((Below.refl _ _).alloc (Nat.le_refl _) _)) (fun g0 cap e j hj => by
      injection e with e1 _ e3
      injection e1 with e1
      injection e1 with e1
      subst e1 e3
      have:=hbr.has
      obtain ⟨ga,ca,ea,_,eb,_⟩:=this
      injection ea with ea
      injection ea with ea
      injection ea with ea
      subst ea
      rw [frozen_block (Below.heap_alloc wb _ gv eb)]
      exact HFZ.out j hj) HRL.out hown5 hg5 (hbk.imp id (fun e => by rw [e]; simp))
     obtain ⟨G',cs',rfl,hLQ⟩:=hgw
     have HLQ:=Lib.hid hLQ
     have HR4 : Hid (k + 1 = (rows3 ++ [rp]).length ∧ 0 < (rows3 ++ [rp]).length ∧ (rows3 ++ [rp]).length ≤ 5):=Lib.hid (by rw [List.length_append,hL.len]; simp; omega)
     clear hLQ hown5 hg5 hbk hbr hcv HFZ HLO
     go_wp2_with fail
     go_meet
     rw [HR4.out.1]
     exact ⟨G',c5,cs',_,rfl,Lib.hid HR4.out.2,_,by omega,HLQ.out,HFO⟩
   case rest =>
   clear hL HFO hKb
   obtain ⟨G2,cap2,cs2,rows4,rfl,H4,kp,hKb,hL,HFO⟩:=hcut
   have HFZ0 : Hid (levelF L N = lvZ L (coinRows wide (rows4.length - 0) 0 rows4 0 []) kp):=HFO
   clear HFO
   have hr4:=H4.out
   have HR4:=Lib.hid hr4.1
   have hr5:=hr4.2
   clear hr4 H4
   have HW:=Lib.hid hwide
   have HCS : Hid (∀ i (h : i < rows4.length),∃ gb c,cs2[i]? = some (.slice (some ⟨gb,0,none⟩) wide c) ∧ w.heap.size ≤ gb ∧ gb < wc.heap.size ∧ gb ≠ G2):=Lib.hid (fun i h => by
    obtain ⟨gb,c,h1,h2,h3,h4,_⟩:=hL.pu.at_ i h
    rw [hL.all _ (List.getElem_mem h)] at h1
    exact ⟨gb,c,h1,h2,h3,h4⟩)
   have HG2 : Hid (G2 < wc.heap.size):=Lib.hid hL.pu.box.lt
   have HBW : Hid (w.heap.size ≤ wc.heap.size):=Lib.hid hL.hg.size
   go_wp2_with fail
   go_loopw [9,10,91] (fun o cn i wr => ∃ (j : Nat) (cc : Int) (A' : Option Addr) (c' : Nat) (ss rows5 : List (List UInt8)),j ≤ rows4.length ∧ i = .int .i64 j ∧ cn = .int .i64 cc ∧ 0 ≤ cc ∧ cc ≤ 10 * j ∧ o = .slice A' ss.length c' ∧ Hid (ss.length = j ∧ rows5.length = rows4.length ∧ ∀ s ∈ ss,s.length = wide) ∧ wr.ownsRow wc.heap.size 9 1 (.slice A' ss.length c') ss.length (strs ss) ∧ (LQX sB L w wr g G2 wide kp cs2 rows5 ∧ Hid (levelF L N = lvZ L (coinRows wide (rows4.length - j) j rows5 cc ss) kp)) ∧ wc.heap.size ≤ wr.heap.size) (fun _ _ i _ => rows4.length - (intOf i).toNat)
   case atStart => exact ⟨0,0,none,0,[],rows4,Nat.zero_le _,rfl,rfl,by omega,by omega,rfl,Lib.hid ⟨rfl,rfl,fun s hs => by cases hs⟩,World.ownsRow_nil _ _ _ _,⟨hL,HFZ0⟩,Nat.le_refl _⟩
   case round =>
    clear hL HFZ0
    obtain ⟨j,cc,A',c',ss,rows5,hj,rfl,rfl,hc0,hc1,rfl,HS,hown,⟨hL,HFC⟩,hzw⟩:=hrel
    by_cases hjr : j < rows4.length
    ·have hjr5 : j < rows5.length:=by have:=HS.out.2.1; omega
     obtain ⟨gb,cb,hcs,hgb1,hgb2,hgb3⟩:=HCS.out j hjr
     have hrow : wr.cell? ⟨G2,j,none⟩ = some (.slice (some ⟨gb,0,none⟩) wide cb):=by rw [hL.pu.box.cell]; exact hcs
     have hjr' : (j : Int) < (rows4.length : Int):=by omega
     have HRC:=Lib.hid hcs
     clear hcs
     have HFM : Hid (levelF L N = lvZ L (coinMid wide (rows4.length - (j + 1)) j ss (coinCols j (wide - 0) 0 rows5 cc)) kp):=Lib.hid (by rw [HFC.out,show rows4.length - j = (rows4.length - (j + 1)) + 1 by omega]; rfl)
     clear HFC
     go_wp2_with fail
     clear hrow hjr5
     generalize wr = wo at *
     go_loopw [10,97] (fun cn i wr => ∃ (m : Nat) (cc : Int) (rows6 : List (List UInt8)),m ≤ wide ∧ i = .int .i64 m ∧ cn = .int .i64 cc ∧ 0 ≤ cc ∧ cc ≤ 10 * j + m ∧ Hid (rows6.length = rows4.length) ∧ wr.ownsRow wc.heap.size 9 1 (.slice A' ss.length c') ss.length (strs ss) ∧ (LQX sB L w wr g G2 wide kp cs2 rows6 ∧ Hid (levelF L N = lvZ L (coinMid wide (rows4.length - (j + 1)) j ss (coinCols j (wide - m) m rows6 cc)) kp)) ∧ wo.heap.size ≤ wr.heap.size) (fun _ i _ => wide - (intOf i).toNat)
     case atStart => exact ⟨0,cc,rows5,Nat.zero_le _,rfl,rfl,hc0,by omega,Lib.hid HS.out.2.1,hown,⟨hL,HFM⟩,Nat.le_refl _⟩
     case round =>
      clear hown hL hc0 hc1 HFM
      obtain ⟨m,cy,rows6,hm,rfl,rfl,hc0,hc1,H6,hown,⟨hL,HFM⟩,hzo⟩:=hrel
      have hj6 : j < rows6.length:=by have:=H6.out; omega
      have hw6 : rows6[j].length = wide:=hL.all _ (List.getElem_mem hj6)
      have hrow : wr.cell? ⟨G2,j,none⟩ = some (.slice (some ⟨gb,0,none⟩) rows6[j].length cb):=by rw [hL.pu.box.cell,hw6]; exact HRC.out
      have HW6:=Lib.hid hw6
      by_cases hmw : m < wide
      ·have hm6 : m < rows6[j].length:=by omega
       have hmw' : (m : Int) < (wide : Int):=by omega
       obtain ⟨q1,q2⟩:=hL.pu.bytes hj6 hrow m hm6
       have HPK:=Lib.hid (hL.pu.poke hj6 hm6 hrow (46 : UInt8))
       have HAL:=Lib.hid (all_set (u:=(46 : UInt8)) (q:=m) hL.all hj6)
       have HFC:=Lib.hid (coin_step (j:=j) (m:=m) (d:=wide - (m + 1)) (cc:=cy) hj6 hm6)
       rw [← show wide - m = (wide - (m + 1)) + 1 by omega] at HFC
       clear hw6 hrow
       generalize rows6[j][m] = u at *
       have wc1 : IntKind.i64.wrap (cy + 1) = cy + 1:=IntWalk.i64_in _ ⟨by omega,by omega⟩
       by_cases hu : u.toNat = 111
       ·have d1 : ((u.toNat : Int) == 111) = true:=by simp [hu]
        by_cases hc : 2 < cy + 1
        ·have d2 : decide (2 < cy + 1) = true:=decide_eq_true hc
         have HFQ:=Lib.hid (HFM.out.trans (by rw [HFC.out,if_pos hu,if_pos hc]))
         clear hu
         go_wp2_with fail
         go_roundw
         case rel => exact ⟨m + 1,cy + 1,rows6.set j (rows6[j].set m (46 : UInt8)),by omega,by go_num,rfl,by omega,by omega,Lib.hid (by rw [List.length_set]; exact H6.out),ownsRow_setCell_below hown (a:=⟨gb,m,none⟩) hgb2 _,⟨⟨HPK.out,HAL.out,hL.hs.grown (grown_set (World.grownBy.refl _ _) m _ : _root_.Go.World.grownBy _ _ (some gb)) (fun k hk => by injection hk with hk; have:=hL.lt; omega),grown_set_new hL.hg (p:=⟨gb,m,none⟩) hgb1 _,hL.lt⟩,HFQ⟩,by simpa using hzo⟩
         case measure => simp [intOf]; omega
        ·have d2 : decide (2 < cy + 1) = false:=decide_eq_false hc
         have HFQ:=Lib.hid (HFM.out.trans (by rw [HFC.out,if_pos hu,if_neg hc]))
         clear hu
         go_wp2_with fail
         go_roundw
         case rel => exact ⟨m + 1,cy + 1,rows6,by omega,by go_num,rfl,by omega,by omega,H6,hown,⟨hL,HFQ⟩,hzo⟩
         case measure => simp [intOf]; omega
       ·have d1 : ((u.toNat : Int) == 111) = false:=by simp; omega
        have HFQ:=Lib.hid (HFM.out.trans (by rw [HFC.out,if_neg hu]))
        clear hu
        go_wp2_with fail
        go_roundw
        case rel => exact ⟨m + 1,cy,rows6,by omega,by go_num,rfl,by omega,by omega,H6,hown,⟨hL,HFQ⟩,hzo⟩
        case measure => simp [intOf]; omega
      ·have hmm : m = wide:=by omega
       have hby:=hL.pu.bytes hj6 hrow
       have hcv:=run_convert_bytes_back (P:=Tryz.prog) wr 87 9 5 ⟨gb,0,none⟩ cb rows6[j] (by kernel_rfl) (by kernel_rfl) (by kernel_rfl) (fun i hi => by
        have e : (⟨gb,0,none⟩ : Addr).add i = ⟨gb,i,none⟩:=by rw [Addr.add_lit,Nat.zero_add]
        rw [e]; exact (hby i hi).1)
       rw [hw6] at hcv
       have hl10 : ss.length ≤ 10:=by have:=HS.out.1; omega
       have HSN : Hid ((ss ++ [rows6[j]]).length = j + 1 ∧ rows6.length = rows4.length ∧ ∀ s ∈ ss ++ [rows6[j]],s.length = wide):=Lib.hid ⟨by rw [List.length_append,HS.out.1]; rfl,H6.out,fun s hs => by
        rcases List.mem_append.1 hs with hs | hs
        ·exact HS.out.2.2 s hs
        ·rw [List.mem_singleton.1 hs]; exact hL.all _ (List.getElem_mem hj6)⟩
       have HES : Hid (strs (ss ++ [rows6[j]]) = strs ss ++ [encStr rows6[j]] ∧ (ss ++ [rows6[j]]).length = ss.length + 1):=Lib.hid ⟨by simp [strs],by rw [List.length_append]; rfl⟩
       have hzk : wc.heap.size ≤ wr.heap.size:=Nat.le_trans hzw hzo
       have HFN : Hid (levelF L N = lvZ L (coinRows wide (rows4.length - (j + 1)) (j + 1) rows6 cy (ss ++ [rows6[j]])) kp):=Lib.hid (by rw [HFM.out,hmm,Nat.sub_self,coinCols,coinMid,getDL hj6])
       clear HFM hby hw6 HW6 hrow
       generalize rows6[j] = rj at *
       go_wp2_with (at_builtin; go_must (refine wpList_app (lo:=0) (base:=wc.heap.size) (n:=ss.length) (xs:=strs ss) _ _ rfl _ _ ty_strsG rfl (hown.alloc _) rfl (row_new _ #[.string ⟨rj.toArray⟩] 9 0 1 1 (Nat.zero_le _) rfl) rfl rfl (by omega) (by omega) (by simp; omega) ?_))
       intro A5 c5 w5 hown5 hg5 _
       have hLn:=(hL.alloc_ (.cells #[.string ⟨rj.toArray⟩] 9)).app_ (hown.alloc _) hg5 HBW.out HG2.out (fun i hi => by obtain ⟨gb,c,k1,_,k3,_⟩:=HCS.out i (by rw [← H6.out]; exact hi); exact ⟨gb,c,k1,k3⟩)
       go_wp2_with fail
       go_roundw
       case rel =>
        refine ⟨j + 1,cy,A5,c5,ss ++ [rj],rows6,by omega,by go_num,rfl,by omega,by omega,by rw [HES.out.2],HSN,?_,⟨hLn,HFN⟩,by have:=hg5.size; simp at this; omega⟩
        rw [HES.out.1,HES.out.2]; exact hown5
       case measure => simp [intOf]; omega
    ·have hjj : j = rows4.length:=by omega
     have HS2 : Hid (ss.length = rows4.length ∧ ∀ s ∈ ss,s.length = wide):=Lib.hid ⟨HS.out.1.trans hjj,HS.out.2.2⟩
     have HFZ : Hid (levelF L N = lvZ L ss kp):=Lib.hid (by rw [HFC.out,hjj,Nat.sub_self]; rfl)
     clear HS hc0 hc1 HCS HFC
     have hl10 : ss.length ≤ 5:=by have:=HS2.out.1; omega
     have hl0 : 0 < ss.length:=by have:=HS2.out.1; have:=HR4.out; omega
     go_wp2_with fail
     refine (flip_exx g _ L _ _ hL.hs (by omega) (by omega)).mono ?_
     rintro e w20 ⟨f3,rfl,⟨hs9,hkf⟩,hg9⟩
     have hs3:=hs9
     have hgg:=grown_trans' hL.hg hg9
     have hown:=own_grown hown hg9 (by have:=HBW.out; have:=hL.lt; omega)
     have hlg:=hL.lt
     have hwl : (wide : Int) < 7:=HW.out
     clear hs9 hg9 hL
     cases f3
     ·have HFE : Hid (levelF L N = (ss,kp + 1)):=Lib.hid (by rw [HFZ.out,lvZ,if_neg (by simpa using hkf.out)])
      clear hkf HFZ
      go_wp2_with fail
      go_ret
      exact ⟨A',c',ss,kp + 1,rfl,(Row.of_own hown).weak HBW.out,own_cap' hown,by omega,hl0,fun r hr => by have:=HS2.out.2 r hr; omega,HFE.out,by omega,hs3,hgg⟩
     ·go_wp2_with fail
      refine (next_exx g _ L (ss.length : Int) _ hs3 (by omega) (by omega)).mono ?_
      rintro e w21 ⟨r,rfl,r0,r1,-,⟨hs9,hkx⟩,hg9⟩
      obtain ⟨x,rfl⟩:=Int.eq_ofNat_of_zero_le r0
      have hx : x < ss.length:=by have:=r1 (by omega); omega
      have hx' : (x : Int) < (ss.length : Int):=by omega
      have hs3:=hs9
      have hgg:=grown_trans' hgg hg9
      have hown:=own_grown hown hg9 (by have:=HBW.out; omega)
      clear r0 r1 hs9 hg9
      obtain ⟨gs,off,eA,hgs1,hgs2,hxc⟩:=(Row.of_own hown).str_at hx
      have hoff : off = 0:=by
       rcases hown.2 with ⟨h1,h2⟩ | ⟨g',cap,cur,hv,_⟩
       ·omega
       ·rw [eA] at hv; injection hv with hv; injection hv with hv; injection hv
      subst hoff
      subst eA
      rw [Nat.zero_add] at hxc
      have hsw:=HS2.out.2 _ (List.getElem_mem hx)
      have HSW:=Lib.hid hsw
      have hsl : ss[x].length ≤ 6:=by omega
      clear hsw
      have HFW : Hid (levelF L N = lvW L ss kp x ss[x]):=Lib.hid (by rw [HFZ.out,lvZ,if_pos (by simpa using hkf.out),hkx.out,Int.toNat_natCast,getDL hx])
      clear hkf hkx HFZ
      generalize hsx : ss[x] = sx at *
      have HSX:=Lib.hid hsx
      clear hsx
      go_upto_region 35 with (fail)
      have hb:=(Below.refl w21.heap.size w21).drew
      have hxc:=(hb.cell (p:=⟨gs,x,none⟩) hgs2).trans hxc
      have hgs2:=Nat.lt_of_lt_of_le hgs2 hb.size
      have hown:=own_keep hown hb
      have hs3:=hs3.keep hb
      have hgg:=grown_trans' hgg (grown_of_below hb _)
      clear hb
      have hcat : ¬ 9223372036854775807 < sx.length + 1:=by omega
      refine wp_region_heldK 26 (fun w' => w'.cell? ⟨gs,x,none⟩ = some (encStr sx)) (fun _ => True) (by kernel_rfl) (trivial) (hxc) (fun hT hS => ?_)
      (refine wpAnyK_take2 (i:=0) (v:=?_) (by (simp only [Q0,Q2]; rfl)) (by kernel_rfl) (by kernel_rfl) (by kernel_rfl) (by decide) (by exact fun _ _ _ h => h) (Or.inl ⟨by rfl,?_⟩) (by assumption) (by assumption) ?_; (rotate_left 1; (intro w hSw; (try dsimp only at hSw); go_simp); (try with_reducible rfl)); (try simp only [Act.put,Q3,Q4,Q5]))
      (refine wpAnyK_take2 (i:=1) (v:=?_) (by (simp only [Q0,Q1,Q2]; rfl)) (by kernel_rfl) (by kernel_rfl) (by kernel_rfl) (by decide) (by exact fun _ _ _ h => h) (Or.inl ⟨by rfl,?_⟩) (by assumption) (by assumption) ?_; (rotate_left 1; (intro w hSw; (try dsimp only at hSw); go_simp); (try with_reducible rfl)); (try simp only [Act.put,Q3,Q4,Q5]))
      (refine wpAnyK_take2 (i:=2) (v:=?_) (by (simp only [Q0,Q1,Q2]; rfl)) (by kernel_rfl) (by kernel_rfl) (by kernel_rfl) (by decide) (by exact fun _ _ _ h => h) (Or.inl ⟨by rfl,?_⟩) (by assumption) (by assumption) ?_; (rotate_left 1; (intro w hSw; (try dsimp only at hSw); go_simp); (try with_reducible rfl)); (try simp only [Act.put,Q3,Q4,Q5]))
      (refine wpAnyK_take2 (i:=3) (v:=?_) (by (simp only [Q0,Q1,Q2]; rfl)) (by kernel_rfl) (by kernel_rfl) (by kernel_rfl) (by decide) (by exact fun _ _ _ h => h) (Or.inl ⟨by rfl,?_⟩) (by assumption) (by assumption) ?_; (rotate_left 1; (intro w hSw; (try dsimp only at hSw); go_simp); (try with_reducible rfl)); (try simp only [Act.put,Q3,Q4,Q5]))
      (refine wpAnyK_take2 (i:=4) (v:=?_) (by (simp only [Q0,Q1,Q2]; rfl)) (by kernel_rfl) (by kernel_rfl) (by kernel_rfl) (by decide) (by exact fun _ _ _ h => h) (Or.inl ⟨by rfl,?_⟩) (by assumption) (by assumption) ?_; (rotate_left 1; (intro w hSw; (try dsimp only at hSw); go_simp); (try with_reducible rfl)); (try simp only [Act.put,Q3,Q4,Q5]))
      (refine wpAnyK_take2 (i:=5) (v:=?_) (by (simp only [Q0,Q1,Q2]; rfl)) (by kernel_rfl) (by kernel_rfl) (by kernel_rfl) (by decide) (by exact fun _ _ _ h => h) (Or.inl ⟨by rfl,?_⟩) (by assumption) (by assumption) ?_; (rotate_left 1; (intro w hSw; (try dsimp only at hSw); go_simp); (try with_reducible rfl)); (try simp only [Act.put,Q3,Q4,Q5]))
      (refine wpAnyK_take1 (i:=6) (v:=?_) (by (simp only [Q0,Q1,Q2]; rfl)) (by kernel_rfl) (by kernel_rfl) (by kernel_rfl) (by decide) (by kernel_rfl) (by kernel_rfl) (by exact fun _ _ _ h => h) (Or.inl ⟨by rfl,?_⟩) (by assumption) (by assumption) ?_; (rotate_left 1; (intro w hSw; (try dsimp only at hSw); go_simp); (try with_reducible rfl)); (try simp only [Act.put,Q3,Q4,Q5]))
      (refine wpAnyK_take2 (i:=7) (v:=?_) (by (simp only [Q0,Q1,Q2]; rfl)) (by kernel_rfl) (by kernel_rfl) (by kernel_rfl) (by decide) (by exact fun _ _ _ h => h) (Or.inl ⟨by rfl,?_⟩) (by assumption) (by assumption) ?_; (rotate_left 1; (intro w hSw; (try dsimp only at hSw); go_simp); (try with_reducible rfl)); (try simp only [Act.put,Q3,Q4,Q5]))
      (refine wpAnyK_take2 (i:=8) (v:=?_) (by (simp only [Q0,Q1,Q2]; rfl)) (by kernel_rfl) (by kernel_rfl) (by kernel_rfl) (by decide) (by exact fun _ _ _ h => h) (Or.inl ⟨by rfl,?_⟩) (by assumption) (by assumption) ?_; (rotate_left 1; (intro w hSw; (try dsimp only at hSw); go_simp); (try with_reducible rfl)); (try simp only [Act.put,Q3,Q4,Q5]))
      (refine wpAnyK_take2 (i:=9) (v:=?_) (by (simp only [Q0,Q1,Q2]; rfl)) (by kernel_rfl) (by kernel_rfl) (by kernel_rfl) (by decide) (by exact fun _ _ _ h => h) (Or.inl ⟨by rfl,?_⟩) (by assumption) (by assumption) ?_; (rotate_left 1; (intro w hSw; (try dsimp only at hSw); go_simp); (try with_reducible rfl)); (try simp only [Act.put,Q3,Q4,Q5]))
      (refine wpAnyK_take2 (i:=10) (v:=?_) (by (simp only [Q0,Q1,Q2]; rfl)) (by kernel_rfl) (by kernel_rfl) (by kernel_rfl) (by decide) (by exact fun _ _ _ h => h) (Or.inl ⟨by rfl,?_⟩) (by assumption) (by assumption) ?_; (rotate_left 1; (intro w hSw; (try dsimp only at hSw); go_simp); (try with_reducible rfl)); (try simp only [Act.put,Q3,Q4,Q5]))
      (refine wpAnyK_take1 (i:=11) (v:=?_) (by (simp only [Q0,Q1,Q2]; rfl)) (by kernel_rfl) (by kernel_rfl) (by kernel_rfl) (by decide) (by kernel_rfl) (by kernel_rfl) (by exact fun _ _ _ h => h) (Or.inl ⟨by rfl,?_⟩) (by assumption) (by assumption) ?_; (rotate_left 1; (intro w hSw; (try dsimp only at hSw); go_simp); (try with_reducible rfl)); (try simp only [Act.put,Q3,Q4,Q5]))
      (refine wpAnyK_take2 (i:=13) (v:=?_) (by (simp only [Q0,Q1,Q2]; rfl)) (by kernel_rfl) (by kernel_rfl) (by kernel_rfl) (by decide) (by exact fun _ _ _ h => h) (Or.inl ⟨by rfl,?_⟩) (by assumption) (by assumption) ?_; (rotate_left 1; (intro w hSw; (try dsimp only at hSw); go_simp); (try with_reducible rfl)); (try simp only [Act.put,Q3,Q4,Q5]))
      (refine wpAnyK_take2 (i:=14) (v:=?_) (by (simp only [Q0,Q1,Q2]; rfl)) (by kernel_rfl) (by kernel_rfl) (by kernel_rfl) (by decide) (by exact fun _ _ _ h => h) (Or.inl ⟨by rfl,?_⟩) (by assumption) (by assumption) ?_; (rotate_left 1; (intro w hSw; (try dsimp only at hSw); go_simp); (try with_reducible rfl)); (try simp only [Act.put,Q3,Q4,Q5]))
      (refine wpAnyK_take2 (i:=15) (v:=?_) (by (simp only [Q0,Q1,Q2]; rfl)) (by kernel_rfl) (by kernel_rfl) (by kernel_rfl) (by decide) (by exact fun _ _ _ h => h) (Or.inl ⟨by rfl,?_⟩) (by assumption) (by assumption) ?_; (rotate_left 1; (intro w hSw; (try dsimp only at hSw); go_simp); (try with_reducible rfl)); (try simp only [Act.put,Q3,Q4,Q5]))
      (refine wpAnyK_take1 (i:=16) (v:=?_) (by (simp only [Q0,Q1,Q2]; rfl)) (by kernel_rfl) (by kernel_rfl) (by kernel_rfl) (by decide) (by kernel_rfl) (by kernel_rfl) (by exact fun _ _ _ h => h) (Or.inl ⟨by rfl,?_⟩) (by assumption) (by assumption) ?_; (rotate_left 1; (intro w hSw; (try dsimp only at hSw); go_simp); (try with_reducible rfl)); (try simp only [Act.put,Q3,Q4,Q5]))
      (refine wpAnyK_take2 (i:=18) (v:=?_) (by (simp only [Q0,Q1,Q2]; rfl)) (by kernel_rfl) (by kernel_rfl) (by kernel_rfl) (by decide) (by exact fun _ _ _ h => h) (Or.inl ⟨by rfl,?_⟩) (by assumption) (by assumption) ?_; (rotate_left 1; (intro w hSw; (try dsimp only at hSw); go_simp); (try with_reducible rfl)); (try simp only [Act.put,Q3,Q4,Q5]))
      (refine wpAnyK_take2 (i:=19) (v:=?_) (by (simp only [Q0,Q1,Q2]; rfl)) (by kernel_rfl) (by kernel_rfl) (by kernel_rfl) (by decide) (by exact fun _ _ _ h => h) (Or.inl ⟨by rfl,?_⟩) (by assumption) (by assumption) ?_; (rotate_left 1; (intro w hSw; (try dsimp only at hSw); go_simp); (try with_reducible rfl)); (try simp only [Act.put,Q3,Q4,Q5]))
      (refine wpAnyK_take2 (i:=20) (v:=?_) (by (simp only [Q0,Q1,Q2]; rfl)) (by kernel_rfl) (by kernel_rfl) (by kernel_rfl) (by decide) (by exact fun _ _ _ h => h) (Or.inl ⟨by rfl,?_⟩) (by assumption) (by assumption) ?_; (rotate_left 1; (intro w hSw; (try dsimp only at hSw); go_simp); (try with_reducible rfl)); (try simp only [Act.put,Q3,Q4,Q5]))
      (refine wpAnyK_take1 (i:=21) (v:=?_) (by (simp only [Q0,Q1,Q2]; rfl)) (by kernel_rfl) (by kernel_rfl) (by kernel_rfl) (by decide) (by kernel_rfl) (by kernel_rfl) (by exact fun _ _ _ h => h) (Or.inl ⟨by rfl,?_⟩) (by assumption) (by assumption) ?_; (rotate_left 1; (intro w hSw; (try dsimp only at hSw); go_simp); (try with_reducible rfl)); (try simp only [Act.put,Q3,Q4,Q5]))
      refine wpAnyK_ready (rs:=[12]) (by kernel_rfl) (by simp) ?_
      refine AllReadyK.cons rfl (fun K hK => ?_) AllReadyK.nil
      go_simp
      go_at_call 31
      refine (rep_ex sx 115 46 _ (by omega) (HM.out _ hgg)).mono ?_
      rintro e w212 ⟨ra,rfl,⟨hra,hqra⟩,hb⟩
      have hxc:=(hb.cell (p:=⟨gs,x,none⟩) hgs2).trans hxc
      have hgs2:=Nat.lt_of_lt_of_le hgs2 hb.size
      have hown:=own_keep hown hb
      have hs3:=hs3.keep hb
      have hgg:=grown_trans' hgg (grown_of_below hb _)
      clear hb
      go_wp2_with fail
      refine hK.out _ _ (trivial) (hxc) (fun hT hS => ?_)
      clear hK K
      (try simp only [Act.put,Q3,Q4,Q5])
      refine wpAnyK_ready (rs:=[17]) (by kernel_rfl) (by simp) ?_
      refine AllReadyK.cons rfl (fun K hK => ?_) AllReadyK.nil
      go_simp
      go_at_call 31
      refine (rep_ex sx 46 115 _ (by omega) (HM.out _ hgg)).mono ?_
      rintro e w217 ⟨rb,rfl,⟨hrb,hqrb⟩,hb⟩
      have hxc:=(hb.cell (p:=⟨gs,x,none⟩) hgs2).trans hxc
      have hgs2:=Nat.lt_of_lt_of_le hgs2 hb.size
      have hown:=own_keep hown hb
      have hs3:=hs3.keep hb
      have hgg:=grown_trans' hgg (grown_of_below hb _)
      clear hb
      go_wp2_with fail
      refine hK.out _ _ (trivial) (hxc) (fun hT hS => ?_)
      clear hK K
      (try simp only [Act.put,Q3,Q4,Q5])
      refine wpAnyK_ready (rs:=[22]) (by kernel_rfl) (by simp) ?_
      refine AllReadyK.cons rfl (fun K hK => ?_) AllReadyK.nil
      go_simp
      go_at_call 31
      refine (rep_ex sx 46 113 _ (by omega) (HM.out _ hgg)).mono ?_
      rintro e w222 ⟨rc,rfl,⟨hrc,hqrc⟩,hb⟩
      have hxc:=(hb.cell (p:=⟨gs,x,none⟩) hgs2).trans hxc
      have hgs2:=Nat.lt_of_lt_of_le hgs2 hb.size
      have hown:=own_keep hown hb
      have hs3:=hs3.keep hb
      have hgg:=grown_trans' hgg (grown_of_below hb _)
      clear hb
      go_wp2_with fail
      refine hK.out _ _ (trivial) (hxc) (fun hT hS => ?_)
      clear hK K
      (try simp only [Act.put,Q3,Q4,Q5])
      refine wpAnyK_ready (rs:=[23]) (by kernel_rfl) (by simp) ?_
      refine AllReadyK.cons rfl (fun K hK => ?_) AllReadyK.nil
      go_simp
      have hb:=(Below.refl w222.heap.size w222).alloc (Nat.le_refl _) (.cells #[.string ⟨#[]⟩,.string ((⟨sx.toArray⟩ : ByteArray) ++ ⟨#[46]⟩),encStr ra,encStr rb,encStr rc] 9)
      have hN5 : Row (w222.alloc (.cells #[.string ⟨#[]⟩,.string ((⟨sx.toArray⟩ : ByteArray) ++ ⟨#[46]⟩),encStr ra,encStr rb,encStr rc] 9)) w.heap.size 1 (some ⟨w222.heap.size,0,none⟩) [[],sx ++ [46],ra,rb,rc].length (strs [[],sx ++ [46],ra,rb,rc]):=by
       have h:=row_new w222 #[.string ⟨#[]⟩,.string ((⟨sx.toArray⟩ : ByteArray) ++ ⟨#[46]⟩),encStr ra,encStr rb,encStr rc] 9 w.heap.size 1 5 hgg.size rfl
       rw [ba_app sx [46]] at h
       exact h
      have hxc:=(hb.cell (p:=⟨gs,x,none⟩) hgs2).trans hxc
      have hgs2:=Nat.lt_of_lt_of_le hgs2 hb.size
      have hown:=own_keep hown hb
      have hs3:=hs3.keep hb
      have hgg:=grown_trans' hgg (grown_of_below hb _)
      clear hb
      refine hK.out _ _ (trivial) (hxc) (fun hT hS => ?_)
      clear hK K
      (try simp only [Act.put,Q3,Q4,Q5])
      refine wpAnyK_ready (rs:=[24]) (by kernel_rfl) (by simp) ?_
      refine AllReadyK.cons rfl (fun K hK => ?_) AllReadyK.nil
      go_simp
      go_at_call 30
      refine (some_exx g _ _ L _ _ [[],sx ++ [46],ra,rb,rc] _ hs3 (by omega) hN5 hlg (by simp) (by simp)).mono ?_
      rintro e w24 ⟨sv,rfl,hsv,⟨hs9,hksv⟩,hg9⟩
      have HFE : Hid (levelF L N = (ss.set x sv,kp + 3)):=Lib.hid (by rw [HFW.out,lvW,hqra.out,hqrb.out,hqrc.out,hksv.out])
      clear hqra hqrb hqrc hksv HFW
      have hs3:=hs9
      have hgg:=grown_trans' hgg hg9
      have hxc:=hg9.cell hxc (by have:=HBW.out; simp; omega)
      have hown:=own_grown hown hg9 (by have:=HBW.out; omega)
      have hgs2:=Nat.lt_of_lt_of_le hgs2 hg9.size
      clear hs9 hg9 hN5
      go_wp2_with fail
      refine hK.out _ _ (trivial) (hxc) (fun hT hS => ?_)
      clear hK K
      (try simp only [Act.put,Q3,Q4,Q5])
      (refine wpAnyK_take2 (i:=25) (v:=?_) (by (simp only [Q0,Q1,Q2]; rfl)) (by kernel_rfl) (by kernel_rfl) (by kernel_rfl) (by decide) (by exact fun _ _ _ h => h) (Or.inl ⟨by rfl,?_⟩) (by assumption) (by assumption) ?_; (rotate_left 1; (intro w hSw; (try dsimp only at hSw); go_simp); (try with_reducible rfl)); (try simp only [Act.put,Q3,Q4,Q5]))
      refine wpAnyK_ready (rs:=[26]) (by kernel_rfl) (by simp) ?_
      refine AllReadyK.consT (by kernel_rfl) rfl (fun K hK => ?_) AllReadyK.nil
      have hfz:=hown.frozenAt x
      go_simp
      refine hK.out _ _ (trivial) (fun hT => ?_)
      clear hK K
      (try simp only [Act.put,Q3,Q4,Q5])
      refine wpAnyK_done (by kernel_rfl) ?_ _
      have hsvl : sv.length ≤ 100:=by
       simp only [List.mem_cons,List.not_mem_nil,or_false] at hsv
       rcases hsv with rfl | rfl | rfl | rfl | rfl
       ·simp
       ·rw [List.length_append]; simp; omega
       ·omega
       ·omega
       ·omega
      obtain ⟨st1,st2⟩:=hown.stored x (encStr sv)
      have HSE : Hid ((strs ss).set x (encStr sv) = strs (ss.set x sv)):=Lib.hid (by unfold strs; rw [List.map_set])
      rw [HSE.out] at st1
      have HPO : Hid (LevelE w g sB L N (.returned (.slice (some ⟨gs,0,none⟩) ss.length c')) (w24.setCell ⟨gs,x,none⟩ (encStr sv))):=Lib.hid ⟨some ⟨gs,0,none⟩,c',ss.set x sv,kp + 3,by rw [List.length_set],by
        have:=(Row.of_own (by rw [List.length_set]; exact st1 : (w24.setCell ⟨gs,x,none⟩ (encStr sv)).ownsRow wc.heap.size 9 1 (.slice (some ⟨gs,0,none⟩) (ss.set x sv).length c') (ss.set x sv).length (strs (ss.set x sv)))).weak HBW.out
        exact this,by rw [List.length_set]; exact own_cap' hown,by rw [List.length_set]; omega,by rw [List.length_set]; exact hl0,fun r hr => by
        rcases List.mem_or_eq_of_mem_set hr with hr | rfl
        ·have:=HS2.out.2 r hr; omega
        ·exact hsvl,HFE.out,by omega,hs3.grown st2 (fun k' hk' => by injection hk' with hk'; have:=HBW.out; omega),grown_set_new hgg (p:=⟨gs,x,none⟩) (show w.heap.size ≤ gs by have:=HBW.out; omega) _⟩
      clear hown st1 st2 hs3 hgg hxc hfz hsv
      go_wp2_with fail
      go_ret
      exact HPO.out
end Go.Proofs.YtbfphnknkbhpkaaGreatDoor
