/- Texts of this seat, laid together: GmL. -/
import Derived.Lib.ReplaceLaws
import Derived.Lib.SplitLaws
import Derived.Lib.Repeat
import Derived.Deep.DeepCutAuto
import Derived.Handy
import Derived.Test.YtbfphnknkbhpkaaGreatDoorBk212
import Derived.Test.YtbfphnknkbhpkaaGreatDoorBk203
import Derived.Test.YtbfphnknkbhpkaaGreatDoorBk213
import Derived.Test.YtbfphnknkbhpkaaGreatDoorBk214
import Derived.Test.YtbfphnknkbhpkaaGreatDoorBk215
import Derived.Test.YtbfphnknkbhpkaaGreatDoorBk205
/- The walk of Stream.LevelOf: a small level. -/
namespace Go.Proofs.YtbfphnknkbhpkaaGreatDoor
set_option linter.unusedVariables false
set_option linter.unusedSimpArgs false
open Go.RowKit

theorem info_u8r : (Tryz.prog.info? 87).map (fun i => (i.zero,i.size,i.bytes)) = some (some (.slice none 0 0),1,24):=by kernel_rfl
theorem ty_u8rs : SliceTy Tryz.prog 86 87 1 24:=.mk' Tryz.underlying86 (z:=.slice none 0 0) (by kernel_rfl) rfl (by decide)
theorem own_blkU {w : World} {base : Nat} {e : TypeId} {A : Option Addr} {n c : Nat} {xs : List Value} (h : w.ownsRow base e 1 (.slice A n c) n xs) (hn : 0 < n) : ∃ g cs,A = some ⟨g,0,none⟩ ∧ base ≤ g ∧ Blk w g e cs ∧ (∀ i : Nat,i < n → cs[i]? = xs[i]?) ∧ cs.size = c:=by
 rcases h.2 with ⟨_,h0⟩ | ⟨g,cap,cur,hv,hg,hh,hcap,hm,hcs,ht⟩
 ·omega
 ·injection hv with e1 e2 e3
  subst e3
  refine ⟨g,cur,e1,hg,hh,fun i hi => ?_,by omega⟩
  rw [← ht,List.getElem?_take_of_lt (by omega),Array.getElem?_toList]
structure GL (w wr : World) (g G hi N : Nat) (rows : List (List UInt8)) : Prop where
  hG : w.heap.size ≤ G
  nest : NestU 5 87 wr w.heap.size G (rows.map byR)
  size : ∃ cs, Blk wr G 87 cs ∧ cs.size = hi
  hs : Str wr g N
  hg : w.grownBy wr (some g)
  lt : g < w.heap.size
theorem GL.alloc {w wr : World} {g G hi N : Nat} {rows : List (List UInt8)} (h : GL w wr g G hi N rows) (o : Obj) : GL w (wr.alloc o) g G hi N rows :=
 ⟨h.hG,h.nest.alloc o,let ⟨cs,a,b⟩:=h.size; ⟨cs,a.alloc o,b⟩,h.hs.alloc o,grown_alloc h.hg o,h.lt⟩
theorem GL.drew {w wr : World} {g G hi N : Nat} {rows : List (List UInt8)} (h : GL w wr g G hi N rows) : GL w wr.drew g G hi N rows :=
 ⟨h.hG,h.nest.drewN 1,let ⟨cs,a,b⟩:=h.size; ⟨cs,a.drew,b⟩,h.hs.keep ((Below.refl _ _).drew),grown_drew h.hg,h.lt⟩
theorem GL.stream {w wr w' : World} {g G hi N N' : Nat} {rows : List (List UInt8)} (h : GL w wr g G hi N rows) (hg : wr.grownBy w' (some g)) (hs : Str w' g N') : GL w w' g G hi N' rows:=by
 have:=h.lt
 have:=h.hG
 refine ⟨h.hG,h.nest.stream hg (by omega) (by omega),?_,hs,grown_trans' h.hg hg,h.lt⟩
 obtain ⟨cs,a,b⟩:=h.size
 exact ⟨cs,(hg.block G a.lt (fun e => by injection e with e; omega)).trans a,b⟩
theorem byR_app (r : List UInt8) (u : UInt8) : byR (r ++ [u]) = byR r ++ [(u.toNat : Int)]:=by simp [byR]
theorem u8s_snoc (xs : List Int) (y : Int) : u8s (xs ++ [y]) = u8s xs ++ [.int .u8 y]:=by simp [u8s]
theorem GL.push {w wr w' : World} {g G hi N : Nat} {rows : List (List UInt8)} (h : GL w wr g G hi N rows) {i : Nat} (hi' : i < rows.length) {A A' : Option Addr} {c c' : Nat} (hc : wr.cell? ⟨G,i,none⟩ = some (.slice A rows[i].length c)) (u : UInt8)
  (hown : wr.ownsRow w.heap.size 5 1 (.slice A rows[i].length c) rows[i].length (u8s (byR rows[i])))
  (hg : wr.grownBy w' (Value.slice A rows[i].length c).ownBlock) (ho : w'.ownsRow w.heap.size 5 1 (.slice A' (rows[i].length + 1) c') (rows[i].length + 1) (u8s (byR rows[i]) ++ [.int .u8 ((u.toNat : Nat) : Int)]))
  (hb : (Value.slice A' (rows[i].length + 1) c').ownBlock = (Value.slice A rows[i].length c).ownBlock ∨ (Value.slice A' (rows[i].length + 1) c').ownBlock = some wr.heap.size) : GL w (w'.setCell ⟨G,i,none⟩ (.slice A' (rows[i].length + 1) c')) g G hi N (rows.set i (rows[i] ++ [u])):=by
 have hm : i < (rows.map byR).length:=by simpa using hi'
 have er : (rows.map byR)[i] = byR rows[i]:=by simp
 have el : (byR (rows[i] ++ [u])).length = rows[i].length + 1:=by rw [byR_len]; simp
 have hlt:=h.lt
 have hGG:=h.hG
 have hn:=h.nest.push (i:=i) hm (A:=A) (c:=c) (A':=A') (c':=c') (xs:=byR (rows[i] ++ [u])) (by rw [er,byR_len]; exact hc) (by rw [er,byR_len]; exact hg)
  (by rw [el,byR_app,u8s_snoc]; exact ho) (by rw [el,er,byR_len]; exact hb)
 rw [el] at hn
 have hgr : w.grownBy w' (some g):=grown_app h.hg hown hg (Nat.le_refl _)
 refine ⟨hGG,?_,?_,(h.hs.app hown hg hlt).grown (grown_set (World.grownBy.refl _ _) _ _) (fun k hk => by injection hk with hk; omega),grown_set_new hgr hGG _,hlt⟩
 ·rw [List.map_set]; exact hn
 ·obtain ⟨cs,a,b⟩:=h.size
  exact ⟨_,(Blk.app hown a hg (by decide)).poke i _,by simpa using b⟩
theorem ty_strsG : SliceTy Tryz.prog 28 9 1 16:=.mk' Tryz.underlying28 (z:=.string ⟨#[]⟩) (by kernel_rfl) rfl (by decide)
theorem own_cap' {w : World} {base : Nat} {e : TypeId} {size : Nat} {A : Option Addr} {n c : Nat} {xs : List Value} (h : w.ownsRow base e size (.slice A n c) n xs) : n ≤ c:=by
 rcases h.2 with ⟨h0,h1⟩ | ⟨g,cap,cur,hv,_,_,hc,_⟩
 ·omega
 ·injection hv with _ _ h3; omega
theorem all_set {rows : List (List UInt8)} {wide p q : Nat} {u : UInt8} (h : ∀ r ∈ rows,r.length = wide) (hp : p < rows.length) : ∀ r ∈ rows.set p (rows[p].set q u),r.length = wide:=fun r hr => by
 rcases List.mem_or_eq_of_mem_set hr with hr | rfl
 ·exact h r hr
 ·rw [List.length_set]; exact h _ (List.getElem_mem _)
structure LP (w wr : World) (g G hi wide N : Nat) (cs : Array Value) (rows : List (List UInt8)) : Prop where
  pu : PU wr w.heap.size G cs rows
  len : rows.length = hi
  all : ∀ r ∈ rows, r.length = wide
  hs : Str wr g N
  hg : w.grownBy wr (some g)
  lt : g < w.heap.size
  sz : cs.size = hi
theorem LP.drew {w wr : World} {g G hi wide N : Nat} {cs : Array Value} {rows : List (List UInt8)} (h : LP w wr g G hi wide N cs rows) : LP w wr.drew g G hi wide N cs rows :=
 ⟨h.pu.keep (Nat.le_refl _) (fun _ _ _ => rfl),h.len,h.all,h.hs.keep (Below.refl _ wr).drew,grown_drew h.hg,h.lt,h.sz⟩
theorem LP.below {w wr w' : World} {g G hi wide N : Nat} {cs : Array Value} {rows : List (List UInt8)} (h : LP w wr g G hi wide N cs rows) (hb : Below wr.heap.size wr w') : LP w w' g G hi wide N cs rows :=
 ⟨h.pu.below hb,h.len,h.all,h.hs.keep hb,grown_trans' h.hg (grown_of_below hb _),h.lt,h.sz⟩
theorem LP.stream {w wr w' : World} {g G hi wide N N' : Nat} {cs : Array Value} {rows : List (List UInt8)} (h : LP w wr g G hi wide N cs rows) (hg : wr.grownBy w' (some g)) (hs : Str w' g N') : LP w w' g G hi wide N' cs rows :=
 ⟨h.pu.stream hg h.lt,h.len,h.all,hs,grown_trans' h.hg hg,h.lt,h.sz⟩
theorem LP.more {w wr : World} {g G hi wide N N' : Nat} {cs : Array Value} {rows : List (List UInt8)} (h : LP w wr g G hi wide N cs rows) (hN : N ≤ N') : LP w wr g G hi wide N' cs rows :=
 ⟨h.pu,h.len,h.all,h.hs.more hN,h.hg,h.lt,h.sz⟩
theorem LP.poke {w wr : World} {g G hi wide N i j gb c : Nat} {cs : Array Value} {rows : List (List UInt8)} (h : LP w wr g G hi wide N cs rows) (hi' : i < rows.length) (hj : j < rows[i].length) (hc : wr.cell? ⟨G,i,none⟩ = some (.slice (some ⟨gb,0,none⟩) rows[i].length c)) (hgb : w.heap.size ≤ gb) (u : UInt8) :
  LP w (wr.setCell ⟨gb,j,none⟩ (.int .u8 ((u.toNat : Nat) : Int))) g G hi wide N cs (rows.set i (rows[i].set j u)) :=
 ⟨h.pu.poke hi' hj hc u,by rw [List.length_set]; exact h.len,all_set h.all hi',h.hs.grown (grown_set (World.grownBy.refl _ _) j _ : _root_.Go.World.grownBy _ _ (some gb)) (fun k hk => by injection hk with hk; have:=h.lt; omega),grown_set_new h.hg hgb _,h.lt,h.sz⟩
structure LQ (w wr : World) (g G wide N : Nat) (cs : Array Value) (rows : List (List UInt8)) : Prop where
  pu : PU wr w.heap.size G cs rows
  all : ∀ r ∈ rows, r.length = wide
  hs : Str wr g N
  hg : w.grownBy wr (some g)
  lt : g < w.heap.size
theorem LP.lq {w wr : World} {g G hi wide N : Nat} {cs : Array Value} {rows : List (List UInt8)} (h : LP w wr g G hi wide N cs rows) : LQ w wr g G wide N cs rows:=⟨h.pu,h.all,h.hs,h.hg,h.lt⟩
theorem LP.own {w wr : World} {g G hi wide N : Nat} {cs : Array Value} {rows : List (List UInt8)} (h : LP w wr g G hi wide N cs rows) (hh : hi ≤ 1000) : wr.ownsRow w.heap.size 87 1 (.slice (some ⟨G,0,none⟩) hi hi) hi cs.toList :=
 ⟨by have:=h.sz; simp [this],.inr ⟨G,hi,cs,rfl,h.pu.hG,h.pu.box,Nat.le_refl _,by unfold maxLen; omega,by have:=h.sz; omega,by have:=h.sz; rw [List.take_of_length_le (by simp [this])]⟩⟩
set_option maxRecDepth 100000 in
theorem conv_u (s : List UInt8) (w : World) (src dst : TypeId) (hs : Tryz.prog.underlying src = some .string) (hd : Tryz.prog.underlying dst = some (.slice 5)) :
  ∃ g cap w',(convert src dst (encStr s)).run Tryz.prog w = .ok (.slice (some ⟨g,0,none⟩) s.length cap) w' ∧ BRow w' w.heap.size (.slice (some ⟨g,0,none⟩) s.length cap) (byR s) ∧ Below w.heap.size w w' ∧ ∀ j,j < cap → w'.frozen? ⟨g,j,none⟩ = false:=by
 have hr:=run_bytes_of_string (P:=Tryz.prog) w src dst 5 ⟨s.toArray⟩ hs hd (by kernel_rfl)
 obtain ⟨v',w',h1,h2,h3⟩:=BRow.conv s w src dst hs hd
 have hge:=grownCap_ge w (⟨s.toArray⟩ : ByteArray).size 0 5
 have hsz : (⟨s.toArray⟩ : ByteArray).size = s.length:=by show s.toArray.size = _; simp
 rw [hsz] at hr hge
 have e:=h1.symm.trans hr
 injection e with e1 e2
 generalize grownCap w s.length 0 5 = cap at *
 have hrs : (bytesRow ⟨s.toArray⟩ cap).size = cap:=by
  unfold bytesRow
  rw [Array.size_append,Array.size_map,Array.size_replicate,hsz]
  show s.toArray.size + _ = _
  rw [List.size_toArray]; omega
 rw [e1] at h1 h2
 refine ⟨_,cap,w',h1,h2,h3,fun j hj => ?_⟩
 rw [e2]
 refine Eq.trans (World.frozen?_alloc_mark w.drew _ _ _ _ _) ?_
 rw [hrs,decide_eq_false (show ¬ cap ≤ j by omega)]; rfl
theorem LP.grow {w wa wr w' : World} {g G hi wide N : Nat} {cs : Array Value} {rows : List (List UInt8)} {v : Value} {r : List UInt8} {A' : Option Addr} {c' : Nat} (h : LP w wa g G hi wide N cs rows) (hh : hi ≤ 1000) (hb : Below wa.heap.size wa wr) (hr : BRow wr wa.heap.size v (byR r)) (hfz : ∀ g0 cap,v = .slice (some ⟨g0,0,none⟩) r.length cap → ∀ j,j < cap → wr.frozen? ⟨g0,j,none⟩ = false) (hrw : r.length = wide)
  (ho : w'.ownsRow w.heap.size 87 1 (.slice A' (hi + 1) c') (hi + 1) (cs.toList ++ [v])) (hg : wr.grownBy w' (some G)) (hk : (Value.slice A' (hi + 1) c').ownBlock = some G ∨ (Value.slice A' (hi + 1) c').ownBlock = some wr.heap.size) :
  ∃ G' cs',A' = some ⟨G',0,none⟩ ∧ LQ w w' g G' wide N cs' (rows ++ [r]):=by
 obtain ⟨G',cs',rfl,hG',hblk,hcs,-⟩:=own_blkU ho (by omega)
 obtain ⟨g0,cap,rfl,hg0,hg1,hc0,hd1,hd2⟩:=hr.has
 have hGl:=h.pu.box.lt
 have hzb:=hb.size
 have hsz:=h.sz
 have hGc : G' = G ∨ G' = wr.heap.size:=by
  rcases hk with e | e
  ·left; simpa [Value.ownBlock] using e
  ·right; simpa [Value.ownBlock] using e
 have hold : ∀ i (hi' : i < rows.length),∃ gb c,cs'[i]? = some (.slice (some ⟨gb,0,none⟩) rows[i].length c) ∧ cs[i]? = some (.slice (some ⟨gb,0,none⟩) rows[i].length c) ∧ w.heap.size ≤ gb ∧ gb < wa.heap.size ∧ gb ≠ G' ∧ ∀ j (hj : j < rows[i].length),w'.cell? ⟨gb,j,none⟩ = some (.int .u8 ((rows[i][j].toNat : Nat) : Int)) ∧ w'.frozen? ⟨gb,j,none⟩ = false:=by
  intro i hi'
  obtain ⟨gb,c,h1,h2,h3,h4,h5⟩:=h.pu.at_ i hi'
  have hih : i < hi:=by rw [← h.len]; exact hi'
  refine ⟨gb,c,?_,h1,h2,h3,?_,fun j hj => ?_⟩
  ·rw [hcs i (by omega),List.getElem?_append_left (by simp; omega),Array.getElem?_toList]; exact h1
  ·rcases hGc with e | e <;> omega
  ·have e : w'.heap[gb]? = wa.heap[gb]?:=(hg.block gb (by omega) (fun e => by injection e with e; omega)).trans (hb.block gb h3)
   exact ⟨(World.cell?_of_block (a:=⟨gb,j,none⟩) e).trans (h5 j hj).1,(World.frozen?_of_block (a:=⟨gb,j,none⟩) e).trans (h5 j hj).2⟩
 have hnew : cs'[rows.length]? = some (.slice (some ⟨g0,0,none⟩) r.length cap):=by
  rw [hcs _ (by have:=h.len; omega),h.len,List.getElem?_append_right (by simp; omega)]
  simp [hsz,byR]
 have hl2 : (rows ++ [r]).length = rows.length + 1:=by simp
 have hat : ∀ i (hi' : i < (rows ++ [r]).length),i < rows.length ∨ i = rows.length:=fun i hi' => by rw [hl2] at hi'; omega
 refine ⟨G',cs',rfl,⟨⟨hblk,hG',fun i hi' => ?_,fun i j gi gj li lj ci cj hi1 hj1 hij e1 e2 => ?_⟩,fun x hx => ?_,(h.hs.keep hb).grown hg (fun k hk => by injection hk with hk; have:=h.pu.hG; have:=h.lt; omega),grown_app (grown_trans' h.hg (grown_of_below hb _)) ((h.below hb).own hh) hg (Nat.le_refl _),h.lt⟩⟩
 ·rcases hat i hi' with h1 | rfl
  ·obtain ⟨gb,c,a1,_,a2,a3,a4,a5⟩:=hold i h1
   have er : (rows ++ [r])[i] = rows[i]:=List.getElem_append_left h1
   refine ⟨gb,c,by rw [er]; exact a1,a2,by have:=hg.size; omega,a4,fun j hj => ?_⟩
   have hj2 : j < rows[i].length:=by rw [er] at hj; exact hj
   have ev : (rows ++ [r])[i][j] = rows[i][j]:=by congr 1
   rw [ev]; exact a5 j hj2
  ·have er : (rows ++ [r])[rows.length] = r:=by simp
   refine ⟨g0,cap,by rw [er]; exact hnew,by have:=h.hg.size; omega,by have:=hg.size; omega,by rcases hGc with e | e <;> omega,fun j hj => ?_⟩
   have hj2 : j < r.length:=by rw [er] at hj; exact hj
   have ev : (rows ++ [r])[rows.length][j] = r[j]:=by congr 1
   rw [ev]
   have e : w'.heap[g0]? = wr.heap[g0]?:=hg.block g0 hg1 (fun e => by injection e with e; omega)
   have hu : (u8s (byR r))[j]? = some (.int .u8 ((r[j].toNat : Nat) : Int)):=by simp [u8s,byR,hj2]
   have hf : r.length ≤ cap:=by rw [byR_len] at hc0; exact hc0
   exact ⟨(World.cell?_of_block (a:=⟨g0,j,none⟩) e).trans (hd1 j _ hu),(World.frozen?_of_block (a:=⟨g0,j,none⟩) e).trans (hfz g0 cap (by rw [byR_len]) j (by omega))⟩
 ·rcases hat i hi1 with h1 | rfl <;> rcases hat j hj1 with h2 | rfl
  ·obtain ⟨gb,c,a1,b1,_⟩:=hold i h1
   obtain ⟨gc,d,a2,b2,_⟩:=hold j h2
   rw [a1] at e1
   rw [a2] at e2
   injection e1 with e1
   injection e1 with e1
   injection e1 with e1
   injection e1 with e1
   injection e2 with e2
   injection e2 with e2
   injection e2 with e2
   injection e2 with e2
   subst e1 e2
   exact h.pu.ne i j gb gc _ _ _ _ h1 h2 hij b1 b2
  ·obtain ⟨gb,c,a1,b1,_,a3,_⟩:=hold i h1
   rw [a1] at e1
   rw [hnew] at e2
   injection e1 with e1
   injection e1 with e1
   injection e1 with e1
   injection e1 with e1
   injection e2 with e2
   injection e2 with e2
   injection e2 with e2
   injection e2 with e2
   omega
  ·obtain ⟨gb,c,a1,b1,_,a3,_⟩:=hold j h2
   rw [a1] at e2
   rw [hnew] at e1
   injection e1 with e1
   injection e1 with e1
   injection e1 with e1
   injection e1 with e1
   injection e2 with e2
   injection e2 with e2
   injection e2 with e2
   injection e2 with e2
   omega
  ·exact absurd rfl hij
 ·rcases List.mem_append.1 hx with hx | hx
  ·exact h.all x hx
  ·rw [List.mem_singleton.1 hx]; exact hrw
theorem LQ.alloc_ {w wr : World} {g G wide N : Nat} {cs : Array Value} {rows : List (List UInt8)} (h : LQ w wr g G wide N cs rows) (o : Obj) : LQ w (wr.alloc o) g G wide N cs rows :=
 ⟨h.pu.alloc o,h.all,h.hs.alloc o,grown_alloc h.hg o,h.lt⟩
theorem LQ.app_ {w wr w' : World} {g G wide N base n : Nat} {cs : Array Value} {rows : List (List UInt8)} {v : Value} {xs : List Value} (h : LQ w wr g G wide N cs rows) (ho : wr.ownsRow base 9 1 v n xs) (hg : wr.grownBy w' v.ownBlock) (hB : w.heap.size ≤ base)
  (hG : G < base) (hcs : ∀ i (h : i < rows.length),∃ gb c,cs[i]? = some (.slice (some ⟨gb,0,none⟩) wide c) ∧ gb < base) : LQ w w' g G wide N cs rows:=by
 have far : ∀ k,k < base → some k ≠ v.ownBlock:=fun k hk e => by have:=(ho.lt k e.symm).1; omega
 refine ⟨⟨(hg.block G h.pu.box.lt (far G hG)).trans h.pu.box,h.pu.hG,fun i hi => ?_,h.pu.ne⟩,h.all,h.hs.app ho hg (by have:=h.lt; omega),grown_app h.hg ho hg hB,h.lt⟩
 obtain ⟨gb,c,h1,h2,h3,h4,h5⟩:=h.pu.at_ i hi
 obtain ⟨gc,d,k1,k2⟩:=hcs i hi
 rw [h1] at k1
 injection k1 with k1
 injection k1 with k1
 injection k1 with k1
 injection k1 with k1
 subst k1
 have e:=hg.block gb h3 (far gb k2)
 exact ⟨gb,c,h1,h2,Nat.lt_of_lt_of_le h3 hg.size,h4,fun j hj => ⟨(World.cell?_of_block (a:=⟨gb,j,none⟩) e).trans (h5 j hj).1,(World.frozen?_of_block (a:=⟨gb,j,none⟩) e).trans (h5 j hj).2⟩⟩
theorem replaceK_len (old new : List UInt8) : ∀ k s,(Lib.replaceK old new k s).length ≤ s.length + k * new.length
 | 0,s => by simp [Lib.replaceK]
 | k + 1,s => by
  rw [Lib.replaceK]
  split
  ·omega
  ·have:=replaceK_len old new k (s.drop ((Lib.index s old).toNat + old.length))
   rw [List.length_drop] at this
   rw [List.length_append,List.length_append,List.length_take,Nat.succ_mul]
   omega
theorem replace_one (s old new : List UInt8) : (Lib.replace s old new 1).length ≤ s.length + new.length:=by
 unfold Lib.replace
 split
 ·omega
 ·have hk : Lib.replaceNum s old 1 ≤ 1:=by
   unfold Lib.replaceNum
   split
   ·omega
   ·decide
  have:=replaceK_len old new (Lib.replaceNum s old 1) s
  have h2 : Lib.replaceNum s old 1 * new.length ≤ 1 * new.length:=Nat.mul_le_mul_right _ hk
  omega
def lensK (rows : List (List UInt8)) (wd k m : Nat) : Prop:=∀ j (h : j < rows.length),rows[j].length = if j < k then wd else if j = k then m else 0
end Go.Proofs.YtbfphnknkbhpkaaGreatDoor
