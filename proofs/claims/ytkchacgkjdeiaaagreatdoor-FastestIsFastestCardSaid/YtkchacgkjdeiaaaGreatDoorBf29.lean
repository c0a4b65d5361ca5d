/- Texts of this seat, laid together: GmL. -/
import Derived.Lib.ReplaceLaws
import Derived.Lib.SplitLaws
import Derived.Lib.Repeat
import Derived.Deep.DeepCutAuto
import Derived.Handy
import Derived.Test.YtkchacgkjdeiaaaGreatDoorBf27
import Derived.Test.YtkchacgkjdeiaaaGreatDoorBf05
import Derived.Test.YtkchacgkjdeiaaaGreatDoorBf28
import Derived.Test.YtkchacgkjdeiaaaGreatDoorBf14
import Derived.Test.YtkchacgkjdeiaaaGreatDoorBf06
/- The walk of Stream.LevelOf: a small level. -/
namespace Go.Proofs.YtkchacgkjdeiaaaGreatDoor
set_option linter.unusedVariables false
set_option linter.unusedSimpArgs false
open Go.RowKit

theorem info_u8r : (Tryz.prog.info? 62).map (fun i => (i.zero,i.size,i.bytes)) = some (some (.slice none 0 0),1,24):=by kernel_rfl
theorem ty_u8rs : SliceTy Tryz.prog 61 62 1 24:=.mk' Tryz.underlying61 (z:=.slice none 0 0) (by kernel_rfl) rfl (by decide)
theorem own_blkU {w : World} {base : Nat} {e : TypeId} {A : Option Addr} {n c : Nat} {xs : List Value} (h : w.ownsRow base e 1 (.slice A n c) n xs) (hn : 0 < n) : ∃ g cs,A = some ⟨g,0,none⟩ ∧ base ≤ g ∧ Blk w g e cs ∧ (∀ i : Nat,i < n → cs[i]? = xs[i]?) ∧ cs.size = c:=by
 rcases h.2 with ⟨_,h0⟩ | ⟨g,cap,cur,hv,hg,hh,hcap,hm,hcs,ht⟩
 ·omega
 ·injection hv with e1 e2 e3
  subst e3;refine ⟨g,cur,e1,hg,hh,fun i hi => ?_,by omega⟩;rw [← ht,List.getElem?_take_of_lt (by omega),Array.getElem?_toList]
structure GL (w wr : World) (g G hi N : Nat) (rows : List (List UInt8)) : Prop where
  hG : w.heap.size ≤ G
  nest : NestU 5 62 wr w.heap.size G (rows.map byR)
  size : ∃ cs, Blk wr G 62 cs ∧ cs.size = hi
  hs : Str wr g N
  hg : w.grownBy wr (some g)
  lt : g < w.heap.size
theorem GL.alloc {w wr : World} {g G hi N : Nat} {rows : List (List UInt8)} (h : GL w wr g G hi N rows) (o : Obj) : GL w (wr.alloc o) g G hi N rows :=
 ⟨h.hG,h.nest.alloc o,let ⟨cs,a,b⟩:=h.size; ⟨cs,a.alloc o,b⟩,h.hs.alloc o,grown_alloc h.hg o,h.lt⟩
theorem GL.drew {w wr : World} {g G hi N : Nat} {rows : List (List UInt8)} (h : GL w wr g G hi N rows) : GL w wr.drew g G hi N rows :=
 ⟨h.hG,h.nest.drewN 1,let ⟨cs,a,b⟩:=h.size; ⟨cs,a.drew,b⟩,h.hs.keep ((Below.refl _ _).drew),grown_drew h.hg,h.lt⟩
theorem GL.stream {w wr w' : World} {g G hi N N' : Nat} {rows : List (List UInt8)} (h : GL w wr g G hi N rows) (hg : wr.grownBy w' (some g)) (hs : Str w' g N') : GL w w' g G hi N' rows:=by
 have:=h.lt;have:=h.hG;refine ⟨h.hG,h.nest.stream hg (by omega) (by omega),?_,hs,grown_trans' h.hg hg,h.lt⟩;obtain ⟨cs,a,b⟩:=h.size;exact ⟨cs,(hg.block G a.lt (fun e => by injection e with e; omega)).trans a,b⟩
theorem byR_app (r : List UInt8) (u : UInt8) : byR (r ++ [u]) = byR r ++ [(u.toNat : Int)]:=by simp [byR]
theorem u8s_snoc (xs : List Int) (y : Int) : u8s (xs ++ [y]) = u8s xs ++ [.int .u8 y]:=by simp [u8s]
theorem GL.push {w wr w' : World} {g G hi N : Nat} {rows : List (List UInt8)} (h : GL w wr g G hi N rows) {i : Nat} (hi' : i < rows.length) {A A' : Option Addr} {c c' : Nat} (hc : wr.cell? ⟨G,i,none⟩ = some (.slice A rows[i].length c)) (u : UInt8)
  (hown : wr.ownsRow w.heap.size 5 1 (.slice A rows[i].length c) rows[i].length (u8s (byR rows[i])))
  (hg : wr.grownBy w' (Value.slice A rows[i].length c).ownBlock) (ho : w'.ownsRow w.heap.size 5 1 (.slice A' (rows[i].length + 1) c') (rows[i].length + 1) (u8s (byR rows[i]) ++ [.int .u8 ((u.toNat : Nat) : Int)]))
  (hb : (Value.slice A' (rows[i].length + 1) c').ownBlock = (Value.slice A rows[i].length c).ownBlock ∨ (Value.slice A' (rows[i].length + 1) c').ownBlock = some wr.heap.size) : GL w (w'.setCell ⟨G,i,none⟩ (.slice A' (rows[i].length + 1) c')) g G hi N (rows.set i (rows[i] ++ [u])):=by
 have hm : i < (rows.map byR).length:=by simpa using hi'
 have er : (rows.map byR)[i] = byR rows[i]:=by simp
 have el : (byR (rows[i] ++ [u])).length = rows[i].length + 1:=by rw [byR_len]; simp
 have hlt:=h.lt;have hGG:=h.hG;have hn:=h.nest.push (i:=i) hm (A:=A) (c:=c) (A':=A') (c':=c') (xs:=byR (rows[i] ++ [u])) (by rw [er,byR_len]; exact hc) (by rw [er,byR_len]; exact hg)
  (by rw [el,byR_app,u8s_snoc]; exact ho) (by rw [el,er,byR_len]; exact hb)
 rw [el] at hn;have hgr : w.grownBy w' (some g):=grown_app h.hg hown hg (Nat.le_refl _);refine ⟨hGG,?_,?_,(h.hs.app hown hg hlt).grown (grown_set (World.grownBy.refl _ _) _ _) (fun k hk => by injection hk with hk; omega),grown_set_new hgr hGG _,hlt⟩
 ·rw [List.map_set]; exact hn
 ·obtain ⟨cs,a,b⟩:=h.size
  exact ⟨_,(Blk.app hown a hg (by decide)).poke i _,by simpa using b⟩
theorem ty_strsG : SliceTy Tryz.prog 26 9 1 16:=.mk' Tryz.underlying26 (z:=.string ⟨#[]⟩) (by kernel_rfl) rfl (by decide)
theorem own_cap' {w : World} {base : Nat} {e : TypeId} {size : Nat} {A : Option Addr} {n c : Nat} {xs : List Value} (h : w.ownsRow base e size (.slice A n c) n xs) : n ≤ c:=by
 rcases h.2 with ⟨h0,h1⟩ | ⟨g,cap,cur,hv,_,_,hc,_⟩
 ·omega
 ·injection hv with _ _ h3; omega
def LevelPost2 (w : World) (g N : Nat) (e : Ending) (w' : World) : Prop:=∃ (B : Option Addr) (c : Nat) (rows : List (List UInt8)),e = .returned (.slice B rows.length c) ∧ Row w' w.heap.size 1 B rows.length (strs rows) ∧ rows.length ≤ c ∧ rows.length ≤ 10 ∧ 0 < rows.length ∧ (∀ r ∈ rows,r.length ≤ 100) ∧ (rows.flatten.count 111 ≤ 2 ∧ (∀ r ∈ rows,r.length ≤ 8) ∧ rows.length ≤ 5) ∧ Str w' g N ∧ w.grownBy w' (some g)
theorem cnt_take (l : List UInt8) {m : Nat} (h : m < l.length) : (l.take (m + 1)).count 111 = (l.take m).count 111 + if l[m] = 111 then 1 else 0:=by
 rw [List.take_add_one,List.getElem?_eq_getElem h,Option.toList_some,List.count_append,List.count_singleton]
 congr 1
 by_cases e : l[m] = 111 <;> simp [e]
theorem cnt_set (rows : List (List UInt8)) {j m : Nat} (hj : j < rows.length) (hm : m < rows[j].length) : (((rows.set j (rows[j].set m (46 : UInt8))).getD j []).take (m + 1)).count 111 = ((rows.getD j []).take m).count 111:=by
 have e1 : (rows.set j (rows[j].set m (46 : UInt8))).getD j [] = rows[j].set m (46 : UInt8):=by simp [hj]
 have e2 : rows.getD j [] = rows[j]:=by simp [hj]
 rw [e1,e2,cnt_take _ (by rw [List.length_set]; exact hm),List.getElem_set_self,if_neg (by decide),Nat.add_zero,List.take_set_of_le (Nat.le_refl _)]
theorem cnt_app (ss : List (List UInt8)) (r : List UInt8) : (ss ++ [r]).flatten.count 111 = ss.flatten.count 111 + r.count 111:=by
 rw [List.flatten_append,List.count_append]; simp
theorem cnt_put : ∀ (ss : List (List UInt8)) (x : Nat) (hx : x < ss.length) (sv : List UInt8),sv.count 111 ≤ ss[x].count 111 → (ss.set x sv).flatten.count 111 ≤ ss.flatten.count 111
 | [],_,hx,_,_ => absurd hx (Nat.not_lt_zero _)
 | r :: ss,0,_,sv,h => by simp only [Q4,List.flatten_cons,List.count_append,List.getElem_cons_zero] at h ⊢; omega
 | r :: ss,x + 1,hx,sv,h => by
  have:=cnt_put ss x (by simpa using hx) sv (by simpa using h);simp only [Q5,List.flatten_cons,List.count_append]; omega
theorem all_set {rows : List (List UInt8)} {wide p q : Nat} {u : UInt8} (h : ∀ r ∈ rows,r.length = wide) (hp : p < rows.length) : ∀ r ∈ rows.set p (rows[p].set q u),r.length = wide:=fun r hr => by
 rcases List.mem_or_eq_of_mem_set hr with hr | rfl
 ·exact h r hr
 ·rw [List.length_set]; exact h _ (List.getElem_mem _)
structure LP (w wr : World) (g G hi wide N : Nat) (cs : Array Value) (rows : List (List UInt8)) : Prop where
  pu : PU wr w.heap.size G cs rows
  len : rows.length = hi
  all : ∀ r ∈ rows, r.length = wide
  hs : Str wr g N
  hg : w.grownBy wr (some g)
  lt : g < w.heap.size
  sz : cs.size = hi
theorem LP.drew {w wr : World} {g G hi wide N : Nat} {cs : Array Value} {rows : List (List UInt8)} (h : LP w wr g G hi wide N cs rows) : LP w wr.drew g G hi wide N cs rows :=
 ⟨h.pu.keep (Nat.le_refl _) (fun _ _ _ => rfl),h.len,h.all,h.hs.keep (Below.refl _ wr).drew,grown_drew h.hg,h.lt,h.sz⟩
theorem LP.below {w wr w' : World} {g G hi wide N : Nat} {cs : Array Value} {rows : List (List UInt8)} (h : LP w wr g G hi wide N cs rows) (hb : Below wr.heap.size wr w') : LP w w' g G hi wide N cs rows :=
 ⟨h.pu.below hb,h.len,h.all,h.hs.keep hb,grown_trans' h.hg (grown_of_below hb _),h.lt,h.sz⟩
theorem LP.stream {w wr w' : World} {g G hi wide N N' : Nat} {cs : Array Value} {rows : List (List UInt8)} (h : LP w wr g G hi wide N cs rows) (hg : wr.grownBy w' (some g)) (hs : Str w' g N') : LP w w' g G hi wide N' cs rows :=
 ⟨h.pu.stream hg h.lt,h.len,h.all,hs,grown_trans' h.hg hg,h.lt,h.sz⟩
theorem LP.more {w wr : World} {g G hi wide N N' : Nat} {cs : Array Value} {rows : List (List UInt8)} (h : LP w wr g G hi wide N cs rows) (hN : N ≤ N') : LP w wr g G hi wide N' cs rows :=
 ⟨h.pu,h.len,h.all,h.hs.more hN,h.hg,h.lt,h.sz⟩
theorem LP.poke {w wr : World} {g G hi wide N i j gb c : Nat} {cs : Array Value} {rows : List (List UInt8)} (h : LP w wr g G hi wide N cs rows) (hi' : i < rows.length) (hj : j < rows[i].length) (hc : wr.cell? ⟨G,i,none⟩ = some (.slice (some ⟨gb,0,none⟩) rows[i].length c)) (hgb : w.heap.size ≤ gb) (u : UInt8) :
  LP w (wr.setCell ⟨gb,j,none⟩ (.int .u8 ((u.toNat : Nat) : Int))) g G hi wide N cs (rows.set i (rows[i].set j u)) :=
 ⟨h.pu.poke hi' hj hc u,by rw [List.length_set]; exact h.len,all_set h.all hi',h.hs.grown (grown_set (World.grownBy.refl _ _) j _ : _root_.Go.World.grownBy _ _ (some gb)) (fun k hk => by injection hk with hk; have:=h.lt; omega),grown_set_new h.hg hgb _,h.lt,h.sz⟩
structure LQ (w wr : World) (g G wide N : Nat) (cs : Array Value) (rows : List (List UInt8)) : Prop where
  pu : PU wr w.heap.size G cs rows
  all : ∀ r ∈ rows, r.length = wide
  hs : Str wr g N
  hg : w.grownBy wr (some g)
  lt : g < w.heap.size
theorem LP.lq {w wr : World} {g G hi wide N : Nat} {cs : Array Value} {rows : List (List UInt8)} (h : LP w wr g G hi wide N cs rows) : LQ w wr g G wide N cs rows:=⟨h.pu,h.all,h.hs,h.hg,h.lt⟩
theorem LP.own {w wr : World} {g G hi wide N : Nat} {cs : Array Value} {rows : List (List UInt8)} (h : LP w wr g G hi wide N cs rows) (hh : hi ≤ 1000) : wr.ownsRow w.heap.size 62 1 (.slice (some ⟨G,0,none⟩) hi hi) hi cs.toList :=
 ⟨by have:=h.sz; simp [this],.inr ⟨G,hi,cs,rfl,h.pu.hG,h.pu.box,Nat.le_refl _,by unfold maxLen; omega,by have:=h.sz; omega,by have:=h.sz; rw [List.take_of_length_le (by simp [this])]⟩⟩
set_option maxRecDepth 100000 in
theorem conv_u (s : List UInt8) (w : World) (src dst : TypeId) (hs : Tryz.prog.underlying src = some .string) (hd : Tryz.prog.underlying dst = some (.slice 5)) :
  ∃ g cap w',(convert src dst (encStr s)).run Tryz.prog w = .ok (.slice (some ⟨g,0,none⟩) s.length cap) w' ∧ BRow w' w.heap.size (.slice (some ⟨g,0,none⟩) s.length cap) (byR s) ∧ Below w.heap.size w w' ∧ ∀ j,j < cap → w'.frozen? ⟨g,j,none⟩ = false:=by
 have hr:=run_bytes_of_string (P:=Tryz.prog) w src dst 5 ⟨s.toArray⟩ hs hd (by kernel_rfl);obtain ⟨v',w',h1,h2,h3⟩:=BRow.conv s w src dst hs hd;have hge:=grownCap_ge w (⟨s.toArray⟩ : ByteArray).size 0 5
 have hsz : (⟨s.toArray⟩ : ByteArray).size = s.length:=by show s.toArray.size = _; simp
 rw [hsz] at hr hge;have e:=h1.symm.trans hr;injection e with e1 e2;generalize grownCap w s.length 0 5 = cap at *
 have hrs : (bytesRow ⟨s.toArray⟩ cap).size = cap:=by
  unfold bytesRow;rw [Array.size_append,Array.size_map,Array.size_replicate,hsz];show s.toArray.size + _ = _;rw [List.size_toArray]; omega
 rw [e1] at h1 h2;refine ⟨_,cap,w',h1,h2,h3,fun j hj => ?_⟩;rw [e2];refine Eq.trans (World.frozen?_alloc_mark w.drew _ _ _ _ _) ?_;rw [hrs,decide_eq_false (show ¬ cap ≤ j by omega)]; rfl
theorem LP.grow {w wa wr w' : World} {g G hi wide N : Nat} {cs : Array Value} {rows : List (List UInt8)} {v : Value} {r : List UInt8} {A' : Option Addr} {c' : Nat} (h : LP w wa g G hi wide N cs rows) (hh : hi ≤ 1000) (hb : Below wa.heap.size wa wr) (hr : BRow wr wa.heap.size v (byR r)) (hfz : ∀ g0 cap,v = .slice (some ⟨g0,0,none⟩) r.length cap → ∀ j,j < cap → wr.frozen? ⟨g0,j,none⟩ = false) (hrw : r.length = wide)
  (ho : w'.ownsRow w.heap.size 62 1 (.slice A' (hi + 1) c') (hi + 1) (cs.toList ++ [v])) (hg : wr.grownBy w' (some G)) (hk : (Value.slice A' (hi + 1) c').ownBlock = some G ∨ (Value.slice A' (hi + 1) c').ownBlock = some wr.heap.size) :
  ∃ G' cs',A' = some ⟨G',0,none⟩ ∧ LQ w w' g G' wide N cs' (rows ++ [r]):=by
 obtain ⟨G',cs',rfl,hG',hblk,hcs,-⟩:=own_blkU ho (by omega);obtain ⟨g0,cap,rfl,hg0,hg1,hc0,hd1,hd2⟩:=hr.has;have hGl:=h.pu.box.lt;have hzb:=hb.size;have hsz:=h.sz
 have hGc : G' = G ∨ G' = wr.heap.size:=by
  rcases hk with e | e
  ·left; simpa [Value.ownBlock] using e
  ·right; simpa [Value.ownBlock] using e
 have hold : ∀ i (hi' : i < rows.length),∃ gb c,cs'[i]? = some (.slice (some ⟨gb,0,none⟩) rows[i].length c) ∧ cs[i]? = some (.slice (some ⟨gb,0,none⟩) rows[i].length c) ∧ w.heap.size ≤ gb ∧ gb < wa.heap.size ∧ gb ≠ G' ∧ ∀ j (hj : j < rows[i].length),w'.cell? ⟨gb,j,none⟩ = some (.int .u8 ((rows[i][j].toNat : Nat) : Int)) ∧ w'.frozen? ⟨gb,j,none⟩ = false:=by
  intro i hi';obtain ⟨gb,c,h1,h2,h3,h4,h5⟩:=h.pu.at_ i hi'
  have hih : i < hi:=by rw [← h.len]; exact hi'
  refine ⟨gb,c,?_,h1,h2,h3,?_,fun j hj => ?_⟩
  ·rw [hcs i (by omega),List.getElem?_append_left (by simp; omega),Array.getElem?_toList]; exact h1
  ·rcases hGc with e | e <;> omega
  ·have e : w'.heap[gb]? = wa.heap[gb]?:=(hg.block gb (by omega) (fun e => by injection e with e; omega)).trans (hb.block gb h3)
   exact ⟨(World.cell?_of_block (a:=⟨gb,j,none⟩) e).trans (h5 j hj).1,(World.frozen?_of_block (a:=⟨gb,j,none⟩) e).trans (h5 j hj).2⟩
 have hnew : cs'[rows.length]? = some (.slice (some ⟨g0,0,none⟩) r.length cap):=by
  rw [hcs _ (by have:=h.len; omega),h.len,List.getElem?_append_right (by simp; omega)]
  simp [hsz,byR]
 have hl2 : (rows ++ [r]).length = rows.length + 1:=by simp
 have hat : ∀ i (hi' : i < (rows ++ [r]).length),i < rows.length ∨ i = rows.length:=fun i hi' => by rw [hl2] at hi'; omega
 refine ⟨G',cs',rfl,⟨⟨hblk,hG',fun i hi' => ?_,fun i j gi gj li lj ci cj hi1 hj1 hij e1 e2 => ?_⟩,fun x hx => ?_,(h.hs.keep hb).grown hg (fun k hk => by injection hk with hk; have:=h.pu.hG; have:=h.lt; omega),grown_app (grown_trans' h.hg (grown_of_below hb _)) ((h.below hb).own hh) hg (Nat.le_refl _),h.lt⟩⟩
 ·rcases hat i hi' with h1 | rfl
  ·obtain ⟨gb,c,a1,_,a2,a3,a4,a5⟩:=hold i h1
   have er : (rows ++ [r])[i] = rows[i]:=List.getElem_append_left h1;refine ⟨gb,c,by rw [er]; exact a1,a2,by have:=hg.size; omega,a4,fun j hj => ?_⟩
   have hj2 : j < rows[i].length:=by rw [er] at hj; exact hj
   have ev : (rows ++ [r])[i][j] = rows[i][j]:=by congr 1
   rw [ev]; exact a5 j hj2
  ·have er : (rows ++ [r])[rows.length] = r:=by simp
   refine ⟨g0,cap,by rw [er]; exact hnew,by have:=h.hg.size; omega,by have:=hg.size; omega,by rcases hGc with e | e <;> omega,fun j hj => ?_⟩
   have hj2 : j < r.length:=by rw [er] at hj; exact hj
   have ev : (rows ++ [r])[rows.length][j] = r[j]:=by congr 1
   rw [ev];have e : w'.heap[g0]? = wr.heap[g0]?:=hg.block g0 hg1 (fun e => by injection e with e; omega)
   have hu : (u8s (byR r))[j]? = some (.int .u8 ((r[j].toNat : Nat) : Int)):=by simp [u8s,byR,hj2]
   have hf : r.length ≤ cap:=by rw [byR_len] at hc0; exact hc0
   exact ⟨(World.cell?_of_block (a:=⟨g0,j,none⟩) e).trans (hd1 j _ hu),(World.frozen?_of_block (a:=⟨g0,j,none⟩) e).trans (hfz g0 cap (by rw [byR_len]) j (by omega))⟩
 ·rcases hat i hi1 with h1 | rfl <;> rcases hat j hj1 with h2 | rfl
  ·obtain ⟨gb,c,a1,b1,_⟩:=hold i h1
   obtain ⟨gc,d,a2,b2,_⟩:=hold j h2;rw [a1] at e1;rw [a2] at e2;injection e1 with e1;injection e1 with e1;injection e1 with e1;injection e1 with e1;injection e2 with e2;injection e2 with e2;injection e2 with e2;injection e2 with e2;subst e1 e2;exact h.pu.ne i j gb gc _ _ _ _ h1 h2 hij b1 b2
  ·obtain ⟨gb,c,a1,b1,_,a3,_⟩:=hold i h1
   rw [a1] at e1;rw [hnew] at e2;injection e1 with e1;injection e1 with e1;injection e1 with e1;injection e1 with e1;injection e2 with e2;injection e2 with e2;injection e2 with e2;injection e2 with e2;omega
  ·obtain ⟨gb,c,a1,b1,_,a3,_⟩:=hold j h2
   rw [a1] at e2;rw [hnew] at e1;injection e1 with e1;injection e1 with e1;injection e1 with e1;injection e1 with e1;injection e2 with e2;injection e2 with e2;injection e2 with e2;injection e2 with e2;omega
  ·exact absurd rfl hij
 ·rcases List.mem_append.1 hx with hx | hx
  ·exact h.all x hx
  ·rw [List.mem_singleton.1 hx]; exact hrw
theorem LQ.alloc_ {w wr : World} {g G wide N : Nat} {cs : Array Value} {rows : List (List UInt8)} (h : LQ w wr g G wide N cs rows) (o : Obj) : LQ w (wr.alloc o) g G wide N cs rows :=
 ⟨h.pu.alloc o,h.all,h.hs.alloc o,grown_alloc h.hg o,h.lt⟩
theorem LQ.app_ {w wr w' : World} {g G wide N base n : Nat} {cs : Array Value} {rows : List (List UInt8)} {v : Value} {xs : List Value} (h : LQ w wr g G wide N cs rows) (ho : wr.ownsRow base 9 1 v n xs) (hg : wr.grownBy w' v.ownBlock) (hB : w.heap.size ≤ base)
  (hG : G < base) (hcs : ∀ i (h : i < rows.length),∃ gb c,cs[i]? = some (.slice (some ⟨gb,0,none⟩) wide c) ∧ gb < base) : LQ w w' g G wide N cs rows:=by
 have far : ∀ k,k < base → some k ≠ v.ownBlock:=fun k hk e => by have:=(ho.lt k e.symm).1; omega
 refine ⟨⟨(hg.block G h.pu.box.lt (far G hG)).trans h.pu.box,h.pu.hG,fun i hi => ?_,h.pu.ne⟩,h.all,h.hs.app ho hg (by have:=h.lt; omega),grown_app h.hg ho hg hB,h.lt⟩;obtain ⟨gb,c,h1,h2,h3,h4,h5⟩:=h.pu.at_ i hi;obtain ⟨gc,d,k1,k2⟩:=hcs i hi;rw [h1] at k1;injection k1 with k1;injection k1 with k1;injection k1 with k1;injection k1 with k1;subst k1;have e:=hg.block gb h3 (far gb k2);exact ⟨gb,c,h1,h2,Nat.lt_of_lt_of_le h3 hg.size,h4,fun j hj => ⟨(World.cell?_of_block (a:=⟨gb,j,none⟩) e).trans (h5 j hj).1,(World.frozen?_of_block (a:=⟨gb,j,none⟩) e).trans (h5 j hj).2⟩⟩
theorem replaceK_len (old new : List UInt8) : ∀ k s,(Lib.replaceK old new k s).length ≤ s.length + k * new.length
 | 0,s => by simp [Lib.replaceK]
 | k + 1,s => by
  rw [Lib.replaceK]
  split
  ·omega
  ·have:=replaceK_len old new k (s.drop ((Lib.index s old).toNat + old.length))
   rw [List.length_drop] at this;rw [List.length_append,List.length_append,List.length_take,Nat.succ_mul];omega
theorem replace_one (s old new : List UInt8) : (Lib.replace s old new 1).length ≤ s.length + new.length:=by
 unfold Lib.replace
 split
 ·omega
 ·have hk : Lib.replaceNum s old 1 ≤ 1:=by
   unfold Lib.replaceNum
   split
   ·omega
   ·decide
  have:=replaceK_len old new (Lib.replaceNum s old 1) s;have h2 : Lib.replaceNum s old 1 * new.length ≤ 1 * new.length:=Nat.mul_le_mul_right _ hk;omega
theorem replaceK_cnt (old new : List UInt8) (c : UInt8) (h0 : new.count c = 0) : ∀ k s,(Lib.replaceK old new k s).count c ≤ s.count c
 | 0,s => by simp [Lib.replaceK]
 | k + 1,s => by
  rw [Lib.replaceK]
  split
  ·omega
  ·have h1:=replaceK_cnt old new c h0 k (s.drop ((Lib.index s old).toNat + old.length))
   generalize (Lib.index s old).toNat = i at *
   have h2 : (s.take i).count c + (s.drop i).count c = s.count c:=by rw [← List.count_append,List.take_append_drop]
   have h3 : (s.drop (i + old.length)).count c ≤ (s.drop i).count c:=by
    rw [← List.drop_drop]; exact (List.drop_sublist _ _).count_le c
   rw [List.count_append,List.count_append,h0];omega
theorem replace_cnt (s old new : List UInt8) (c : UInt8) (h0 : new.count c = 0) : (Lib.replace s old new 1).count c ≤ s.count c:=by
 unfold Lib.replace
 split
 ·exact Nat.le_refl _
 ·exact replaceK_cnt old new c h0 _ s
theorem rep_any (s : List UInt8) (o n : UInt8) (w : World) (hs : s.length ≤ 1000) (hM : ∃ m,w.cell? ⟨0,0,none⟩ = some (.int .i64 m)) :
  Calls Tryz.prog 30 #[.string ⟨s.toArray⟩,.string ⟨#[o]⟩,.string ⟨#[n]⟩,.int .i64 1] w fun e w' => ∃ r : List UInt8,e = .returned (encStr r) ∧ (r.length ≤ s.length + 1 ∧ ∀ c,c ≠ n → r.count c ≤ s.count c) ∧ Below w.heap.size w w':=by
 obtain ⟨m,hm⟩:=hM
 have hsz : (⟨s.toArray⟩ : ByteArray).size = s.length:=by show s.toArray.size = _; simp
 have hc:=Lib.countB_le ⟨#[o]⟩ (Nat.le_refl 1) (⟨s.toArray⟩ : ByteArray).size ⟨s.toArray⟩ (Nat.le_refl _)
 refine (Tryz.strings_Replace ⟨s.toArray⟩ ⟨#[o]⟩ ⟨#[n]⟩ 1 m w (by omega) hm (Nat.le_refl 1) (by
  have e : (⟨#[n]⟩ : ByteArray).size = 1:=rfl
  rw [e]; omega)).mono ?_
 rintro e w' ⟨rfl,hb⟩;refine ⟨_,rfl,⟨?_,fun c hc => ?_⟩,hb⟩
 ·have:=replace_one s [o] [n]
  simpa using this
 ·have:=replace_cnt s [o] [n] c (by rw [List.count_singleton]; simpa using fun e => hc e.symm)
  simpa using this
def lensK (rows : List (List UInt8)) (wd k m : Nat) : Prop:=∀ j (h : j < rows.length),rows[j].length = if j < k then wd else if j = k then m else 0
set_option maxHeartbeats 4000000 in
set_option maxRecDepth 100000 in
theorem levelOf2_any (g N : Nat) (w : World) (hs : Str w g N) (hN : N < 4611686018427380000) (hM : MaxL w) (hMg : 0 < g) :
  Calls Tryz.prog 5 #[.pointer (some ⟨g,0,none⟩)] w (LevelPost2 w g (N + 200)):=by
 have hlt:=hs.lt
 have HM : Hid (∀ W,w.grownBy W (some g) → ∃ m,W.cell? ⟨0,0,none⟩ = some (.int .i64 m)):=Lib.hid (fun W hW => by
  obtain ⟨m,hm⟩:=hM
  exact ⟨m,hW.cell hm (fun e => by injection e with e; simp at e; omega)⟩)
 clear hM hMg;obtain ⟨i0,hi0,hz0,hz1,hz2⟩:=info_parts info_u8r;have und : Tryz.prog.underlying 61 = some (.slice 62):=Tryz.underlying61
 go_enter Tryz.func5,Tryz.ntmps5
 go_wp2_with fail;refine (range_any g N 2 6 _ hs (by omega) (by omega) (by omega) (by omega)).mono ?_;rintro e w1 ⟨wd,rfl,a0,a1,hs1,hg1⟩;obtain ⟨wide,rfl⟩:=Int.eq_ofNat_of_zero_le (show 0 ≤ wd by omega);go_wp2_with fail;refine (range_any g _ 1 4 _ hs1 (by omega) (by omega) (by omega) (by omega)).mono ?_;rintro e w2 ⟨hd,rfl,b0,b1,hs2,hg2⟩;obtain ⟨high,rfl⟩:=Int.eq_ofNat_of_zero_le (show 0 ≤ hd by omega);have hgg:=grown_trans' hg1 hg2;have hz:=hgg.size;clear hs1 hg1 hg2 hs
 go_wp2_with (at_make; go_must (refine wpList_make_full _ rfl _ _ 61 rfl w.heap.size 62 i0 _ 1 und hi0 hz0 hz1 .i64 .i64 _ _ high rfl rfl rfl rfl (by rw [hz2]; omega) (by simp only [maxLen]; omega) hz ?_))
 intro w3 hown3 hg3;obtain ⟨G,cs,eG,hGb,hblk,hcs,hsz⟩:=own_blkU hown3 (by omega)
 have hGL : GL w w3 g G high (N + 2) (List.replicate high []):=by
  refine ⟨hGb,?_,⟨cs,hblk,hsz⟩,hs2.grown hg3 (fun k hk => by cases hk),?_,hlt⟩
  ·have e0 : (List.replicate high ([] : List UInt8)).map byR = List.replicate high []:=by rw [List.map_replicate]; rfl
   rw [e0];refine NestU.made (by decide) hblk (fun i hi => ?_);rw [hcs i hi];rw [toList_madeCells_one]; simp [hi]
  ·exact grown_trans' hgg ⟨hg3.os,hg3.tape,hg3.output,hg3.size,fun k hk _ => hg3.block k hk (by simp)⟩
 have hL0 : lensK (List.replicate high []) wide 0 0:=fun j h => by simp
 have hrl : (List.replicate high ([] : List UInt8)).length = high:=List.length_replicate;have eG' : w2.heap.size = G:=congrArg Addr.block (Option.some.inj eG);rw [eG'];clear hown3 hg3 eG hblk hcs hsz cs hs2 hgg hz eG';generalize List.replicate high ([] : List UInt8) = rows0 at *;go_wp2_with fail
 go_loopw [24] (fun i wr => ∃ (k : Nat) (rows : List (List UInt8)),k ≤ high ∧ i = .int .i64 k ∧ rows.length = high ∧ Hid (lensK rows wide k 0) ∧ GL w wr g G high (N + 2 + 6 * k) rows) (fun i _ => high - (intOf i).toNat)
 case atStart => exact ⟨0,rows0,Nat.zero_le _,rfl,hrl,Lib.hid hL0,hGL⟩
 case round =>
  clear hGL hL0 hrl;obtain ⟨k,rows,hk,rfl,hrl,HL,hG⟩:=hrel;have HRL:=Lib.hid hrl
  by_cases hkh : k < high
  ·have hkr : k < rows.length:=by omega
   clear hrl;go_wp2_with fail
   go_loopw [28] (fun i wr => ∃ (m : Nat) (rows : List (List UInt8)),m ≤ wide ∧ i = .int .i64 m ∧ Hid (rows.length = high) ∧ Hid (lensK rows wide k m) ∧ GL w wr g G high (N + 2 + 6 * k + m) rows) (fun i _ => wide - (intOf i).toNat)
   case atStart => exact ⟨0,rows,Nat.zero_le _,rfl,HRL,HL,hG⟩
   case round =>
    clear hG HL HRL hkr rows;obtain ⟨m,rows,hm,rfl,HRL,HL,hG⟩:=hrel
    by_cases hmw : m < wide
    ·have hkr : k < rows.length:=by have:=HRL.out; omega
     have hrk : rows[k].length = m:=by have:=HL.out k hkr; simp at this; exact this
     have HRK:=Lib.hid hrk
     have hrk2 : rows[k].length ≤ 6:=by omega
     obtain ⟨A1,c1,hcy,hown⟩:=hG.nest.row (i:=k) (by simpa using hkr)
     have er : (rows.map byR)[k]'(by simpa using hkr) = byR rows[k]:=by simp
     rw [er,byR_len] at hcy hown;clear er hrk;go_upto_region 8 with (fail);have hG:=hG.drew;have hcy : wr.drew.cell? ⟨G,k,none⟩ = some (.slice A1 rows[k].length c1):=hcy;have hown:=hown.drew
     have hkh' : (k : Int) < (high : Int):=by omega
     have hGlt:=hG.lt;have hGG:=hG.hG;refine wp_region_heldK 12 (fun w' => w'.cell? ⟨G,k,none⟩ = some (.slice A1 rows[k].length c1)) (fun _ => True) (by kernel_rfl) (trivial) (hcy) (fun hT hS => ?_);(refine KU2 0 ?_; (try simp only [Act.put,Q3,Q4,Q5]));(refine KU2 1 ?_; (try simp only [Act.put,Q3,Q4,Q5]));(refine KU2 2 ?_; (try simp only [Act.put,Q3,Q4,Q5]));(refine KU2 3 ?_; (try simp only [Act.put,Q3,Q4,Q5]));(refine KU2 4 ?_; (try simp only [Act.put,Q3,Q4,Q5]));(refine KU1 5 ?_; (try simp only [Act.put,Q3,Q4,Q5]));(refine KU2 6 ?_; (try simp only [Act.put,Q3,Q4,Q5]));refine wpAnyK_ready (rs:=[7]) (by kernel_rfl) (by simp) ?_;refine AllReadyK.cons rfl (fun K hK => ?_) AllReadyK.nil;go_simp;go_at_call 27;refine (next_any g _ 8 _ hG.hs (by omega) (by omega)).mono ?_;rintro e w3 ⟨r,rfl,r0,r1,-,hs3,hg3⟩;obtain ⟨q,rfl⟩:=Int.eq_ofNat_of_zero_le r0
     have hq : q < 8:=by have:=r1 (by omega); omega
     have hq' : (q : Int) < 8:=by omega
     have hG:=hG.stream hg3 hs3;have hcy:=hg3.cell hcy (by simp; omega);have hown:=own_grown hown hg3 hG.lt;clear r0 r1 hs3 hg3;go_wp2_with fail;refine hK.out _ _ (trivial) (hcy) (fun hT hS => ?_);clear hK K;(try simp only [Act.put,Q3,Q4,Q5]);(refine KU2 8 ?_; (try simp only [Act.put,Q3,Q4,Q5]));refine wpAnyK_ready (rs:=[9]) (by kernel_rfl) (by simp) ?_;refine AllReadyK.cons rfl (fun K hK => ?_) AllReadyK.nil;go_simp;have hown:=hown.alloc (.cells #[.int .u8 (((⟨#[46,46,46,35,46,94,111,35]⟩ : ByteArray)[q]'hq).toNat : Int)] 5);have hG:=hG.alloc (.cells #[.int .u8 (((⟨#[46,46,46,35,46,94,111,35]⟩ : ByteArray)[q]'hq).toNat : Int)] 5);have hcy:=cell_al hcy (.cells #[.int .u8 (((⟨#[46,46,46,35,46,94,111,35]⟩ : ByteArray)[q]'hq).toNat : Int)] 5);have hN1:=row_new w3 #[.int .u8 (((⟨#[46,46,46,35,46,94,111,35]⟩ : ByteArray)[q]'hq).toNat : Int)] 5 0 1 1 (Nat.zero_le _) rfl;refine hK.out _ _ (trivial) (hcy) (fun hT hS => ?_);clear hK K;(try simp only [Act.put,Q3,Q4,Q5]);refine wpAnyK_ready (rs:=[10]) (by kernel_rfl) (by simp) ?_;refine AllReadyK.cons rfl (fun K hK => ?_) AllReadyK.nil;refine step_app (lo:=0) (base:=w.heap.size) (n:=rows[k].length) (xs:=u8s (byR rows[k])) _ rfl _ _ ty_u8s rfl hown rfl hN1 rfl rfl (by omega) (by omega) (by have:=hG.hg.size; omega) ?_;intro A5 c5 w5 hown5 hg5 hbk;obtain ⟨⟨cs5,hG5⟩,hGc⟩:=hG.nest.grown_ (i:=k) (by simpa using hkr) (by rw [show (rows.map byR)[k]'(by simpa using hkr) = byR rows[k] by simp,byR_len]; exact hcy) (by rw [show (rows.map byR)[k]'(by simpa using hkr) = byR rows[k] by simp,byR_len]; exact hg5);have hcy5:=(hGc k).trans hcy;have hfz5:=hG5.thaw k;have hzG5:=hG5.lt;have hGN:=Lib.hid (hG.push hkr hcy _ hown hg5 hown5 hbk);clear hG hown hN1 hGc hG5 hbk hg5 hown5;have hcy:=hcy5;clear hcy5;refine hK.out _ _ (trivial) (hcy) (fun hT hS => ?_);clear hK K;(try simp only [Act.put,Q3,Q4,Q5]);(refine KU2 11 ?_; (try simp only [Act.put,Q3,Q4,Q5]));refine wpAnyK_ready (rs:=[12]) (by kernel_rfl) (by simp) ?_;refine AllReadyK.consT (by kernel_rfl) rfl (fun K hK => ?_) AllReadyK.nil;go_simp;refine hK.out _ _ (trivial) (fun hT => ?_);clear hK K;(try simp only [Act.put,Q3,Q4,Q5]);refine wpAnyK_done (by kernel_rfl) ?_ _;generalize (⟨#[46,46,46,35,46,94,111,35]⟩ : ByteArray)[q]'hq = u at *;clear hcy hfz5 hzG5 hT
     have HLN : Hid (lensK (rows.set k (rows[k] ++ [u])) wide k (m + 1)):=Lib.hid (fun j hj => by
      have hj2 : j < rows.length:=by simpa using hj
      by_cases e : k = j
      ·subst e
       have:=HRK.out
       simp; omega
      ·have:=HL.out j hj2
       have e2 : ¬ j = k:=fun x => e x.symm
       rw [List.getElem_set_ne e]
       simpa [e2] using this)
     have HRN : Hid ((rows.set k (rows[k] ++ [u])).length = high):=Lib.hid (by rw [List.length_set]; exact HRL.out);go_wp2_with fail;go_roundw
     case rel => exact ⟨m + 1,_,by omega,by go_num,HRN,HLN,hGN.out⟩
     case measure => simp [intOf]; omega
    ·have hmm : m = wide:=by omega
     subst hmm
     have HLN : Hid (lensK rows m (k + 1) 0):=Lib.hid (fun j hj => by
      have:=HL.out j hj
      by_cases e1 : j < k
      ·rw [if_pos e1] at this; rw [if_pos (by omega)]; exact this
      ·rw [if_neg e1] at this
       by_cases e2 : j = k
       ·rw [if_pos e2] at this; rw [if_pos (by omega)]; exact this
       ·rw [if_neg e2] at this; rw [if_neg (by omega),this]; split <;> rfl)
     go_wp2_with fail;go_roundw
     case rel => exact ⟨k + 1,rows,by omega,by go_num,HRL.out,HLN,⟨hG.hG,hG.nest,hG.size,hG.hs.more (by omega),hG.hg,hG.lt⟩⟩
     case measure => simp [intOf]; omega
  ·have hkk : k = high:=by omega
   subst hkk
   have HLL : Hid (∀ r ∈ rows,r.length = wide):=Lib.hid (fun r hr => by
    obtain ⟨j,hj,rfl⟩:=List.mem_iff_getElem.1 hr;have:=HL.out j hj
    rw [if_pos (by omega)] at this; exact this)
   obtain ⟨cs,hPU⟩:=PU.of_nest hG.nest hG.hG (fun r hr => by have:=HLL.out r hr; omega)
   have hsz : cs.size = k:=by
    obtain ⟨cs',h1,h2⟩:=hG.size;have e : wr.heap[G]? = some (.cells cs 62 (0,0)):=hPU.box;rw [show wr.heap[G]? = some (.cells cs' 62 (0,0)) from h1] at e;injection e with e;injection e with e;rw [← e]; exact h2
   have hL : LP w wr g G k wide (N + 2 + 6 * k) cs rows:=⟨hPU,HRL.out,HLL.out,hG.hs,hG.hg,hG.lt,hsz⟩
   clear hG HL HRL HLL hsz hPU hrl
   have hwide : (wide : Int) < 7:=by omega
   go_upto_region 11 with (fail)
   go_cut [2] from 44 to 53 (fun s wx => s = .slice none 0 0 ∧ ∃ rows,LP w wx g G k wide (N + 4 + 6 * k) cs rows)
   case first =>
    have hL:=hL.drew;refine wp_region_held_drew (S:=(fun _ => True)) (by kernel_rfl) (trivial) (fun hHeld => ?_);(refine QU 0 ?_; (try simp only [Act.put,Q3,Q4,Q5]));(refine QU 1 ?_; (try simp only [Act.put,Q3,Q4,Q5]));(refine QU 2 ?_; (try simp only [Act.put,Q3,Q4,Q5]));(refine QU 6 ?_; (try simp only [Act.put,Q3,Q4,Q5]));(refine QU 7 ?_; (try simp only [Act.put,Q3,Q4,Q5]));refine QR 3 fun K hK => ?_;go_simp;go_at_call 27;refine (next_any g _ (k : Int) _ hL.hs (by omega) (by omega)).mono ?_;rintro e w5 ⟨r,rfl,r0,r1,-,hs9,hg9⟩;obtain ⟨p,rfl⟩:=Int.eq_ofNat_of_zero_le r0
    have hp : p < k:=by have:=r1 (by omega); omega
    clear r0 r1;have hL:=hL.stream hg9 hs9;clear hs9 hg9
    have hpr : p < rows.length:=by rw [hL.len]; exact hp
    have hp' : (p : Int) < (k : Int):=by omega
    obtain ⟨gb,cc,hrow,hgb1,hgb2,hgb3,-⟩:=hL.pu.row hpr;go_wp2_with fail;refine hK.out _ _ (trivial) (fun hHeld => ?_);clear hK K;(try simp only [Act.put,Q3,Q4,Q5]);(refine QU 4 ?_; (try simp only [Act.put,Q3,Q4,Q5]));refine wpAnyH_ready (rs:=[5,8]) (by kernel_rfl) (by simp) ?_;refine AllReadyH.cons rfl (fun K hK => ?_) (AllReadyH.cons rfl (fun K hK => ?_) AllReadyH.nil)
    case refine_1 =>
     go_simp;refine hK.out _ _ (trivial) (fun hHeld => ?_);clear hK K;(try simp only [Act.put,Q3,Q4,Q5]);refine QR 8 fun K hK => ?_;go_simp;go_at_call 27;refine (next_any g _ (wide : Int) _ hL.hs (by omega) (by omega)).mono ?_;rintro e w6 ⟨r,rfl,r0,r1,-,hs9,hg9⟩;obtain ⟨q,rfl⟩:=Int.eq_ofNat_of_zero_le r0
     have hq : q < wide:=by have:=r1 (by omega); omega
     clear r0 r1;have hrow:=hg9.cell hrow (by have:=hL.pu.hG; have:=hL.lt; simp; omega);have hgb2:=Nat.lt_of_lt_of_le hgb2 hg9.size;have hL:=hL.stream hg9 hs9;clear hs9 hg9
     have hqr : q < rows[p].length:=by rw [hL.all _ (List.getElem_mem _)]; exact hq
     have hqr' : (q : Int) < (rows[p].length : Int):=by omega
     obtain ⟨hqc,hqf⟩:=hL.pu.bytes hpr hrow q hqr;go_wp2_with fail;refine hK.out _ _ (trivial) (fun hHeld => ?_);clear hK K;(try simp only [Act.put,Q3,Q4,Q5]);(refine QU 9 ?_; (try simp only [Act.put,Q3,Q4,Q5]));refine QR 10 fun K hK => ?_;go_simp;refine hK.out _ _ (trivial) (fun hHeld => ?_);clear hK K;(try simp only [Act.put,Q3,Q4,Q5]);refine wpAnyH_done (by kernel_rfl) ?_ _;have hL2:=hL.poke hpr hqr hrow hgb1 (120 : UInt8);rw [show (((120 : UInt8).toNat : Nat) : Int) = 120 from rfl] at hL2;go_wp2_with fail;go_meet;exact ⟨rfl,_,hL2.more (by omega)⟩
    case refine_2 =>
     go_simp;go_at_call 27;refine (next_any g _ (wide : Int) _ hL.hs (by omega) (by omega)).mono ?_;rintro e w6 ⟨r,rfl,r0,r1,-,hs9,hg9⟩;obtain ⟨q,rfl⟩:=Int.eq_ofNat_of_zero_le r0
     have hq : q < wide:=by have:=r1 (by omega); omega
     clear r0 r1;have hrow:=hg9.cell hrow (by have:=hL.pu.hG; have:=hL.lt; simp; omega);have hgb2:=Nat.lt_of_lt_of_le hgb2 hg9.size;have hL:=hL.stream hg9 hs9;clear hs9 hg9
     have hqr : q < rows[p].length:=by rw [hL.all _ (List.getElem_mem _)]; exact hq
     have hqr' : (q : Int) < (rows[p].length : Int):=by omega
     obtain ⟨hqc,hqf⟩:=hL.pu.bytes hpr hrow q hqr;go_wp2_with fail;refine hK.out _ _ (trivial) (fun hHeld => ?_);clear hK K;(try simp only [Act.put,Q3,Q4,Q5]);refine QR 5 fun K hK => ?_;go_simp;refine hK.out _ _ (trivial) (fun hHeld => ?_);clear hK K;(try simp only [Act.put,Q3,Q4,Q5]);(refine QU 9 ?_; (try simp only [Act.put,Q3,Q4,Q5]));refine QR 10 fun K hK => ?_;go_simp;refine hK.out _ _ (trivial) (fun hHeld => ?_);clear hK K;(try simp only [Act.put,Q3,Q4,Q5]);refine wpAnyH_done (by kernel_rfl) ?_ _;have hL2:=hL.poke hpr hqr hrow hgb1 (120 : UInt8);rw [show (((120 : UInt8).toNat : Nat) : Int) = 120 from rfl] at hL2;go_wp2_with fail;go_meet;exact ⟨rfl,_,hL2.more (by omega)⟩
   case rest =>
   clear hL rows;obtain ⟨rfl,rows,hL⟩:=hcut;go_wp2_with fail;refine (next_any g _ (k : Int) _ hL.hs (by omega) (by omega)).mono ?_;rintro e w7 ⟨r,rfl,r0,r1,-,hs9,hg9⟩;obtain ⟨p,rfl⟩:=Int.eq_ofNat_of_zero_le r0
   have hp : p < k:=by have:=r1 (by omega); omega
   clear r0 r1;have hL:=hL.stream hg9 hs9;clear hs9 hg9;go_wp2_with fail;refine (next_any g _ (wide : Int) _ hL.hs (by omega) (by omega)).mono ?_;rintro e w8 ⟨r,rfl,r0,r1,-,hs9,hg9⟩;obtain ⟨q,rfl⟩:=Int.eq_ofNat_of_zero_le r0
   have hq : q < wide:=by have:=r1 (by omega); omega
   clear r0 r1;have hL:=hL.stream hg9 hs9;clear hs9 hg9
   have hpr : p < rows.length:=by rw [hL.len]; exact hp
   have hp' : (p : Int) < (k : Int):=by omega
   obtain ⟨gb,cc,hrow,hgb1,hgb2,hgb3,-⟩:=hL.pu.row hpr
   have hqr : q < rows[p].length:=by rw [hL.all _ (List.getElem_mem _)]; exact hq
   have hqr' : (q : Int) < (rows[p].length : Int):=by omega
   obtain ⟨hqc,hqf⟩:=hL.pu.bytes hpr hrow q hqr;go_upto_region 14 with (fail);have hL2:=hL.poke hpr hqr hrow hgb1 (115 : UInt8);rw [show (((115 : UInt8).toNat : Nat) : Int) = 115 from rfl] at hL2;clear hL hqc hqf hqr hqr' hrow hgb1 hgb2 hgb3;have hL:=hL2;clear hL2;generalize rows.set p (rows[p].set q (115 : UInt8)) = rowsS at *;generalize w8.setCell ⟨gb,q,none⟩ (.int .u8 115) = w9 at *;have wp1 : IntKind.i64.wrap ((p : Int) + 1) = (p : Int) + 1:=IntWalk.i64_in _ ⟨by omega,by omega⟩
   have hk4 : k ≤ 4:=by omega
   go_cut [73] from 66 to 72 (fun s wx => ∃ f : Bool,s = .bool f ∧ (f = true → p + 1 < k) ∧ LP w wx g G k wide (N + 7 + 6 * k) cs rowsS)
   case first =>
    by_cases hpk : p + 1 < k
    ·have d0 : decide ((p : Int) + 1 < (k : Int)) = true:=decide_eq_true (by omega)
     have i0 : (p : Int) + 1 < (k : Int):=by omega
     go_wp2_with fail;refine (flip_any g _ _ _ hL.hs (by omega) (by omega)).mono ?_;rintro e w10 ⟨f,rfl,hs9,hg9⟩;have hL:=hL.stream hg9 hs9;clear hs9 hg9;go_wp2_with fail;go_meet;exact ⟨f,rfl,fun _ => hpk,hL.more (by omega)⟩
    ·have d0 : decide ((p : Int) + 1 < (k : Int)) = false:=decide_eq_false (by omega)
     have i0 : ¬ (p : Int) + 1 < (k : Int):=by omega
     go_wp2_with fail;go_meet;exact ⟨false,rfl,fun h => absurd h (by simp),hL.more (by omega)⟩
   case rest =>
   clear hL;obtain ⟨f,rfl,hf,hL⟩:=hcut;have HFP:=Lib.hid hf;clear hf
   go_upto_if 73 with (fail)
   go_cut [2] from 74 to 80 (fun s wx => s = .slice none 0 0 ∧ ∃ rows,LP w wx g G k wide (N + 7 + 6 * k) cs rows)
   case first =>
    cases f
    ·go_wp2_with fail
     go_meet;exact ⟨rfl,_,hL⟩
    ·have hpk:=HFP.out rfl
     have hpr : p + 1 < rowsS.length:=by rw [hL.len]; exact hpk
     have hp' : (p : Int) + 1 < (k : Int):=by omega
     have hp'' : ((p + 1 : Nat) : Int) < (k : Int):=by omega
     have ep : (p : Int) + 1 = ((p + 1 : Nat) : Int):=by omega
     obtain ⟨gb,cc,hrow,hgb1,hgb2,hgb3,-⟩:=hL.pu.row hpr
     have hqr : q < rowsS[p + 1].length:=by rw [hL.all _ (List.getElem_mem _)]; exact hq
     have hqr' : (q : Int) < (rowsS[p + 1].length : Int):=by omega
     obtain ⟨hqc,hqf⟩:=hL.pu.bytes hpr hrow q hqr;have hL2:=hL.poke hpr hqr hrow hgb1 (35 : UInt8);rw [show (((35 : UInt8).toNat : Nat) : Int) = 35 from rfl] at hL2;have HL2:=Lib.hid hL2;clear hL2 ep;go_wp2_with fail;go_meet;exact ⟨rfl,_,HL2.out⟩
   case rest =>
   clear hL HFP;obtain ⟨rfl,rows3,hL⟩:=hcut;go_wp2_with fail;refine (flip_any g _ _ _ hL.hs (by omega) (by omega)).mono ?_;rintro e w11 ⟨f2,rfl,hs9,hg9⟩;have hL:=hL.stream hg9 hs9;clear hs9 hg9
   go_upto_if 82 with (fail)
   go_cut [5] from 83 to 88 (fun v wx => ∃ (G' cap : Nat) (cs' : Array Value) (rows4 : List (List UInt8)),v = .slice (some ⟨G',0,none⟩) rows4.length cap ∧ Hid (0 < rows4.length ∧ rows4.length ≤ 5) ∧ LQ w wx g G' wide (N + 40) cs' rows4)
   case first =>
    cases f2
    ·go_wp2_with fail
     go_meet;exact ⟨G,k,cs,rows3,by rw [hL.len],Lib.hid (by rw [hL.len]; omega),(hL.more (by omega)).lq⟩
    ·have REP:=Tryz.strings_Repeat ⟨#[35]⟩ wide w11 (by omega) (by show 1 * wide ≤ _; omega)
     have er : Lib.repeatL (⟨#[35]⟩ : ByteArray).data.toList wide = Lib.repeatL [35] wide:=rfl;rw [er] at REP
     have hrl : (Lib.repeatL [35] wide).length = wide:=by rw [Lib.repeatL_length]; simp
     have HRL:=Lib.hid hrl;clear er hrl;generalize Lib.repeatL [35] wide = rp at *;go_wp2_with fail;refine REP.mono ?_;rintro e w12 ⟨rfl,hb2⟩;have hL:=hL.below hb2;obtain ⟨gv,capv,wb,hcv,hbr,hbb,hfz⟩:=conv_u rp w12 9 62 (by kernel_rfl) (by kernel_rfl);unfold encStr at hcv;have HFZ:=Lib.hid hfz;have HLO:=Lib.hid ((hL.below hbb).own (by omega));clear REP hb2 hfz;have hzw:=hbb.size;have hzw2:=hL.hg.size
     go_wp2_with (at_builtin; go_must (refine wpList_app (lo:=0) (base:=w.heap.size) (n:=k) (xs:=cs.toList) _ _ rfl _ _ ty_u8rs rfl (HLO.out.alloc _) rfl (row_new _ #[.slice (some ⟨gv,0,none⟩) rp.length capv] 62 0 1 1 (Nat.zero_le _) rfl) rfl rfl (by omega) (by omega) (by simp; omega) ?_))
     intro A5 c5 w13 hown5 hg5 hbk
     have hgw:=hL.grow (by omega) (hbb.alloc hzw (.cells #[.slice (some ⟨gv,0,none⟩) rp.length capv] 62)) (hbr.below ((Below.refl _ _).alloc (Nat.le_refl _) _)) (fun g0 cap e j hj => by
      injection e with e1 _ e3;injection e1 with e1;injection e1 with e1;subst e1 e3;have:=hbr.has;obtain ⟨ga,ca,ea,_,eb,_⟩:=this;injection ea with ea;injection ea with ea;injection ea with ea;subst ea;rw [frozen_block (Below.heap_alloc wb _ gv eb)]
      exact HFZ.out j hj) HRL.out hown5 hg5 (hbk.imp id (fun e => by rw [e]; simp))
     obtain ⟨G',cs',rfl,hLQ⟩:=hgw;have HLQ:=Lib.hid hLQ;have HR4 : Hid (k + 1 = (rows3 ++ [rp]).length ∧ 0 < (rows3 ++ [rp]).length ∧ (rows3 ++ [rp]).length ≤ 5):=Lib.hid (by rw [List.length_append,hL.len]; simp; omega);clear hLQ hown5 hg5 hbk hbr hcv HFZ HLO;go_wp2_with fail;go_meet;rw [HR4.out.1];exact ⟨G',c5,cs',_,rfl,Lib.hid HR4.out.2,HLQ.out.pu,HLQ.out.all,HLQ.out.hs.more (by omega),HLQ.out.hg,HLQ.out.lt⟩
   case rest =>
   clear hL;obtain ⟨G2,cap2,cs2,rows4,rfl,H4,hL⟩:=hcut;have hr4:=H4.out;have HR4:=Lib.hid hr4.1;have hr5:=hr4.2;clear hr4 H4;have HW:=Lib.hid hwide
   have HCS : Hid (∀ i (h : i < rows4.length),∃ gb c,cs2[i]? = some (.slice (some ⟨gb,0,none⟩) wide c) ∧ w.heap.size ≤ gb ∧ gb < wc.heap.size ∧ gb ≠ G2):=Lib.hid (fun i h => by
    obtain ⟨gb,c,h1,h2,h3,h4,_⟩:=hL.pu.at_ i h;rw [hL.all _ (List.getElem_mem h)] at h1
    exact ⟨gb,c,h1,h2,h3,h4⟩)
   have HG2 : Hid (G2 < wc.heap.size):=Lib.hid hL.pu.box.lt;have HBW : Hid (w.heap.size ≤ wc.heap.size):=Lib.hid hL.hg.size;go_wp2_with fail
   go_loopw [9,10,91] (fun o cn i wr => ∃ (j : Nat) (cc : Int) (A' : Option Addr) (c' : Nat) (ss rows5 : List (List UInt8)),j ≤ rows4.length ∧ i = .int .i64 j ∧ cn = .int .i64 cc ∧ 0 ≤ cc ∧ cc ≤ 10 * j ∧ Hid (ss.flatten.count 111 ≤ 2 ∧ ((ss.flatten.count 111 : Nat) : Int) ≤ cc) ∧ o = .slice A' ss.length c' ∧ Hid (ss.length = j ∧ rows5.length = rows4.length ∧ ∀ s ∈ ss,s.length = wide) ∧ wr.ownsRow wc.heap.size 9 1 (.slice A' ss.length c') ss.length (strs ss) ∧ LQ w wr g G2 wide (N + 40) cs2 rows5 ∧ wc.heap.size ≤ wr.heap.size) (fun _ _ i _ => rows4.length - (intOf i).toNat)
   case atStart => exact ⟨0,0,none,0,[],rows4,Nat.zero_le _,rfl,rfl,by omega,by omega,Lib.hid ⟨by simp,by simp⟩,rfl,Lib.hid ⟨rfl,rfl,fun s hs => by cases hs⟩,World.ownsRow_nil _ _ _ _,hL,Nat.le_refl _⟩
   case round =>
    clear hL;obtain ⟨j,cc,A',c',ss,rows5,hj,rfl,rfl,hc0,hc1,HK0,rfl,HS,hown,hL,hzw⟩:=hrel
    by_cases hjr : j < rows4.length
    ·have hjr5 : j < rows5.length:=by have:=HS.out.2.1; omega
     obtain ⟨gb,cb,hcs,hgb1,hgb2,hgb3⟩:=HCS.out j hjr
     have hrow : wr.cell? ⟨G2,j,none⟩ = some (.slice (some ⟨gb,0,none⟩) wide cb):=by rw [hL.pu.box.cell]; exact hcs
     have hjr' : (j : Int) < (rows4.length : Int):=by omega
     have HRC:=Lib.hid hcs;clear hcs;go_wp2_with fail;clear hrow hjr5;generalize wr = wo at *
     go_loopw [10,97] (fun cn i wr => ∃ (m : Nat) (cc : Int) (rows6 : List (List UInt8)),m ≤ wide ∧ i = .int .i64 m ∧ cn = .int .i64 cc ∧ 0 ≤ cc ∧ cc ≤ 10 * j + m ∧ Hid (ss.flatten.count 111 + ((rows6.getD j []).take m).count 111 ≤ 2 ∧ ((ss.flatten.count 111 + ((rows6.getD j []).take m).count 111 : Nat) : Int) ≤ cc) ∧ Hid (rows6.length = rows4.length) ∧ wr.ownsRow wc.heap.size 9 1 (.slice A' ss.length c') ss.length (strs ss) ∧ LQ w wr g G2 wide (N + 40) cs2 rows6 ∧ wo.heap.size ≤ wr.heap.size) (fun _ i _ => wide - (intOf i).toNat)
     case atStart => exact ⟨0,cc,rows5,Nat.zero_le _,rfl,rfl,hc0,by omega,Lib.hid (by simpa using HK0.out),Lib.hid HS.out.2.1,hown,hL,Nat.le_refl _⟩
     case round =>
      clear hown hL hc0 hc1;obtain ⟨m,cy,rows6,hm,rfl,rfl,hc0,hc1,HK6,H6,hown,hL,hzo⟩:=hrel
      have hj6 : j < rows6.length:=by have:=H6.out; omega
      have hw6 : rows6[j].length = wide:=hL.all _ (List.getElem_mem hj6)
      have hrow : wr.cell? ⟨G2,j,none⟩ = some (.slice (some ⟨gb,0,none⟩) rows6[j].length cb):=by rw [hL.pu.box.cell,hw6]; exact HRC.out
      have HW6:=Lib.hid hw6
      by_cases hmw : m < wide
      ·have hm6 : m < rows6[j].length:=by omega
       have hmw' : (m : Int) < (wide : Int):=by omega
       obtain ⟨q1,q2⟩:=hL.pu.bytes hj6 hrow m hm6;have HPK:=Lib.hid (hL.pu.poke hj6 hm6 hrow (46 : UInt8));have HAL:=Lib.hid (all_set (u:=(46 : UInt8)) (q:=m) hL.all hj6)
       have HT1 : Hid (((rows6.getD j []).take (m + 1)).count 111 = ((rows6.getD j []).take m).count 111 + if rows6[j][m] = 111 then 1 else 0):=Lib.hid (by
        have e2 : rows6.getD j [] = rows6[j]:=by simp [hj6]
        rw [e2]; exact cnt_take _ hm6)
       have HT2:=Lib.hid (cnt_set rows6 hj6 hm6);clear hw6 hrow;generalize rows6[j][m] = u at *;have wc1 : IntKind.i64.wrap (cy + 1) = cy + 1:=IntWalk.i64_in _ ⟨by omega,by omega⟩
       by_cases hu : u.toNat = 111
       ·have d1 : ((u.toNat : Int) == 111) = true:=by simp [hu]
        have HU : Hid (u = 111):=Lib.hid (by rw [← UInt8.toNat_inj]; exact hu)
        by_cases hc : 2 < cy + 1
        ·have d2 : decide (2 < cy + 1) = true:=decide_eq_true hc
         clear hu;go_wp2_with fail;go_roundw
         case rel => exact ⟨m + 1,cy + 1,rows6.set j (rows6[j].set m (46 : UInt8)),by omega,by go_num,rfl,by omega,by omega,Lib.hid (by rw [HT2.out]; have:=HK6.out; omega),Lib.hid (by rw [List.length_set]; exact H6.out),ownsRow_setCell_below hown (a:=⟨gb,m,none⟩) hgb2 _,⟨HPK.out,HAL.out,hL.hs.grown (grown_set (World.grownBy.refl _ _) m _ : _root_.Go.World.grownBy _ _ (some gb)) (fun k hk => by injection hk with hk; have:=hL.lt; omega),grown_set_new hL.hg (p:=⟨gb,m,none⟩) hgb1 _,hL.lt⟩,by simpa using hzo⟩
         case measure => simp [intOf]; omega
        ·have d2 : decide (2 < cy + 1) = false:=decide_eq_false hc
         clear hu;go_wp2_with fail;go_roundw
         case rel => exact ⟨m + 1,cy + 1,rows6,by omega,by go_num,rfl,by omega,by omega,Lib.hid (by rw [HT1.out,if_pos HU.out]; have:=HK6.out; omega),H6,hown,hL,hzo⟩
         case measure => simp [intOf]; omega
       ·have d1 : ((u.toNat : Int) == 111) = false:=by simp; omega
        have HU : Hid (¬ u = 111):=Lib.hid (fun e => hu (by rw [e]; rfl));clear hu;go_wp2_with fail;go_roundw
        case rel => exact ⟨m + 1,cy,rows6,by omega,by go_num,rfl,by omega,by omega,Lib.hid (by rw [HT1.out,if_neg HU.out,Nat.add_zero]; exact HK6.out),H6,hown,hL,hzo⟩
        case measure => simp [intOf]; omega
      ·have hmm : m = wide:=by omega
       have hby:=hL.pu.bytes hj6 hrow
       have hcv:=run_convert_bytes_back (P:=Tryz.prog) wr 62 9 5 ⟨gb,0,none⟩ cb rows6[j] (by kernel_rfl) (by kernel_rfl) (by kernel_rfl) (fun i hi => by
        have e : (⟨gb,0,none⟩ : Addr).add i = ⟨gb,i,none⟩:=by rw [Addr.add_lit,Nat.zero_add]
        rw [e]; exact (hby i hi).1)
       rw [hw6] at hcv
       have hl10 : ss.length ≤ 10:=by have:=HS.out.1; omega
       have HSN : Hid ((ss ++ [rows6[j]]).length = j + 1 ∧ rows6.length = rows4.length ∧ ∀ s ∈ ss ++ [rows6[j]],s.length = wide):=Lib.hid ⟨by rw [List.length_append,HS.out.1]; rfl,H6.out,fun s hs => by
        rcases List.mem_append.1 hs with hs | hs
        ·exact HS.out.2.2 s hs
        ·rw [List.mem_singleton.1 hs]; exact hL.all _ (List.getElem_mem hj6)⟩
       have HKN : Hid ((ss ++ [rows6[j]]).flatten.count 111 ≤ 2 ∧ (((ss ++ [rows6[j]]).flatten.count 111 : Nat) : Int) ≤ cy):=Lib.hid (by
        have h1:=HK6.out
        have e2 : rows6.getD j [] = rows6[j]:=by simp [hj6]
        rw [e2,hmm,← hw6,List.take_length] at h1
        rw [cnt_app]; exact h1)
       have HES : Hid (strs (ss ++ [rows6[j]]) = strs ss ++ [encStr rows6[j]] ∧ (ss ++ [rows6[j]]).length = ss.length + 1):=Lib.hid ⟨by simp [strs],by rw [List.length_append]; rfl⟩;have hzk : wc.heap.size ≤ wr.heap.size:=Nat.le_trans hzw hzo;clear hby hw6 HW6 hrow;generalize rows6[j] = rj at *
       go_wp2_with (at_builtin; go_must (refine wpList_app (lo:=0) (base:=wc.heap.size) (n:=ss.length) (xs:=strs ss) _ _ rfl _ _ ty_strsG rfl (hown.alloc _) rfl (row_new _ #[.string ⟨rj.toArray⟩] 9 0 1 1 (Nat.zero_le _) rfl) rfl rfl (by omega) (by omega) (by simp; omega) ?_))
       intro A5 c5 w5 hown5 hg5 _;have hLn:=(hL.alloc_ (.cells #[.string ⟨rj.toArray⟩] 9)).app_ (hown.alloc _) hg5 HBW.out HG2.out (fun i hi => by obtain ⟨gb,c,k1,_,k3,_⟩:=HCS.out i (by rw [← H6.out]; exact hi); exact ⟨gb,c,k1,k3⟩);go_wp2_with fail;go_roundw
       case rel =>
        refine ⟨j + 1,cy,A5,c5,ss ++ [rj],rows6,by omega,by go_num,rfl,by omega,by omega,HKN,by rw [HES.out.2],HSN,?_,hLn,by have:=hg5.size; simp at this; omega⟩;rw [HES.out.1,HES.out.2]; exact hown5
       case measure => simp [intOf]; omega
    ·have hjj : j = rows4.length:=by omega
     have HS2 : Hid (ss.length = rows4.length ∧ ∀ s ∈ ss,s.length = wide):=Lib.hid ⟨HS.out.1.trans hjj,HS.out.2.2⟩;have HK2 : Hid (ss.flatten.count 111 ≤ 2):=Lib.hid HK0.out.1;clear HS hc0 hc1 HCS
     have hl10 : ss.length ≤ 5:=by have:=HS2.out.1; omega
     have hl0 : 0 < ss.length:=by have:=HS2.out.1; have:=HR4.out; omega
     go_wp2_with fail;refine (flip_any g _ _ _ hL.hs (by omega) (by omega)).mono ?_;rintro e w20 ⟨f3,rfl,hs9,hg9⟩;have hs3:=hs9;have hgg:=grown_trans' hL.hg hg9;have hown:=own_grown hown hg9 (by have:=HBW.out; have:=hL.lt; omega);have hlg:=hL.lt;have hwl : (wide : Int) < 7:=HW.out;clear hs9 hg9 hL
     cases f3
     ·go_wp2_with fail
      go_ret;exact ⟨A',c',ss,rfl,(Row.of_own hown).weak HBW.out,own_cap' hown,by omega,hl0,fun r hr => by have:=HS2.out.2 r hr; omega,⟨HK2.out,fun r hr => by have:=HS2.out.2 r hr; omega,by omega⟩,hs3.more (by omega),hgg⟩
     ·go_wp2_with fail
      refine (next_any g _ (ss.length : Int) _ hs3 (by omega) (by omega)).mono ?_;rintro e w21 ⟨r,rfl,r0,r1,-,hs9,hg9⟩;obtain ⟨x,rfl⟩:=Int.eq_ofNat_of_zero_le r0
      have hx : x < ss.length:=by have:=r1 (by omega); omega
      have hx' : (x : Int) < (ss.length : Int):=by omega
      have hs3:=hs9;have hgg:=grown_trans' hgg hg9;have hown:=own_grown hown hg9 (by have:=HBW.out; omega);clear r0 r1 hs9 hg9;obtain ⟨gs,off,eA,hgs1,hgs2,hxc⟩:=(Row.of_own hown).str_at hx
      have hoff : off = 0:=by
       rcases hown.2 with ⟨h1,h2⟩ | ⟨g',cap,cur,hv,_⟩
       ·omega
       ·rw [eA] at hv; injection hv with hv; injection hv with hv; injection hv
      subst hoff;subst eA;rw [Nat.zero_add] at hxc;have hsw:=HS2.out.2 _ (List.getElem_mem hx);have HSW:=Lib.hid hsw
      have hsl : ss[x].length ≤ 6:=by omega
      clear hsw;generalize hsx : ss[x] = sx at *;have HSX:=Lib.hid hsx;clear hsx;go_upto_region 35 with (fail);have hb:=(Below.refl w21.heap.size w21).drew;have hxc:=(hb.cell (p:=⟨gs,x,none⟩) hgs2).trans hxc;have hgs2:=Nat.lt_of_lt_of_le hgs2 hb.size;have hown:=own_keep hown hb;have hs3:=hs3.keep hb;have hgg:=grown_trans' hgg (grown_of_below hb _);clear hb
      have hcat : ¬ 9223372036854775807 < sx.length + 1:=by omega
      refine wp_region_heldK 26 (fun w' => w'.cell? ⟨gs,x,none⟩ = some (encStr sx)) (fun _ => True) (by kernel_rfl) (trivial) (hxc) (fun hT hS => ?_);(refine KU2 0 ?_; (try simp only [Act.put,Q3,Q4,Q5]));(refine KU2 1 ?_; (try simp only [Act.put,Q3,Q4,Q5]));(refine KU2 2 ?_; (try simp only [Act.put,Q3,Q4,Q5]));(refine KU2 3 ?_; (try simp only [Act.put,Q3,Q4,Q5]));(refine KU2 4 ?_; (try simp only [Act.put,Q3,Q4,Q5]));(refine KU2 5 ?_; (try simp only [Act.put,Q3,Q4,Q5]));(refine KU1 6 ?_; (try simp only [Act.put,Q3,Q4,Q5]));(refine KU2 7 ?_; (try simp only [Act.put,Q3,Q4,Q5]));(refine KU2 8 ?_; (try simp only [Act.put,Q3,Q4,Q5]));(refine KU2 9 ?_; (try simp only [Act.put,Q3,Q4,Q5]));(refine KU2 10 ?_; (try simp only [Act.put,Q3,Q4,Q5]));(refine KU1 11 ?_; (try simp only [Act.put,Q3,Q4,Q5]));(refine KU2 13 ?_; (try simp only [Act.put,Q3,Q4,Q5]));(refine KU2 14 ?_; (try simp only [Act.put,Q3,Q4,Q5]));(refine KU2 15 ?_; (try simp only [Act.put,Q3,Q4,Q5]));(refine KU1 16 ?_; (try simp only [Act.put,Q3,Q4,Q5]));(refine KU2 18 ?_; (try simp only [Act.put,Q3,Q4,Q5]));(refine KU2 19 ?_; (try simp only [Act.put,Q3,Q4,Q5]));(refine KU2 20 ?_; (try simp only [Act.put,Q3,Q4,Q5]));(refine KU1 21 ?_; (try simp only [Act.put,Q3,Q4,Q5]));refine wpAnyK_ready (rs:=[12]) (by kernel_rfl) (by simp) ?_;refine AllReadyK.cons rfl (fun K hK => ?_) AllReadyK.nil;go_simp;go_at_call 30;refine (rep_any sx 115 46 _ (by omega) (HM.out _ hgg)).mono ?_;rintro e w212 ⟨ra,rfl,⟨hra,kra⟩,hb⟩;have hxc:=(hb.cell (p:=⟨gs,x,none⟩) hgs2).trans hxc;have hgs2:=Nat.lt_of_lt_of_le hgs2 hb.size;have hown:=own_keep hown hb;have hs3:=hs3.keep hb;have hgg:=grown_trans' hgg (grown_of_below hb _);clear hb;go_wp2_with fail;refine hK.out _ _ (trivial) (hxc) (fun hT hS => ?_);clear hK K;(try simp only [Act.put,Q3,Q4,Q5]);refine wpAnyK_ready (rs:=[17]) (by kernel_rfl) (by simp) ?_;refine AllReadyK.cons rfl (fun K hK => ?_) AllReadyK.nil;go_simp;go_at_call 30;refine (rep_any sx 46 115 _ (by omega) (HM.out _ hgg)).mono ?_;rintro e w217 ⟨rb,rfl,⟨hrb,krb⟩,hb⟩;have hxc:=(hb.cell (p:=⟨gs,x,none⟩) hgs2).trans hxc;have hgs2:=Nat.lt_of_lt_of_le hgs2 hb.size;have hown:=own_keep hown hb;have hs3:=hs3.keep hb;have hgg:=grown_trans' hgg (grown_of_below hb _);clear hb;go_wp2_with fail;refine hK.out _ _ (trivial) (hxc) (fun hT hS => ?_);clear hK K;(try simp only [Act.put,Q3,Q4,Q5]);refine wpAnyK_ready (rs:=[22]) (by kernel_rfl) (by simp) ?_;refine AllReadyK.cons rfl (fun K hK => ?_) AllReadyK.nil;go_simp;go_at_call 30;refine (rep_any sx 46 113 _ (by omega) (HM.out _ hgg)).mono ?_;rintro e w222 ⟨rc,rfl,⟨hrc,krc⟩,hb⟩;have hxc:=(hb.cell (p:=⟨gs,x,none⟩) hgs2).trans hxc;have hgs2:=Nat.lt_of_lt_of_le hgs2 hb.size;have hown:=own_keep hown hb;have hs3:=hs3.keep hb;have hgg:=grown_trans' hgg (grown_of_below hb _);clear hb;go_wp2_with fail;refine hK.out _ _ (trivial) (hxc) (fun hT hS => ?_);clear hK K;(try simp only [Act.put,Q3,Q4,Q5]);refine wpAnyK_ready (rs:=[23]) (by kernel_rfl) (by simp) ?_;refine AllReadyK.cons rfl (fun K hK => ?_) AllReadyK.nil;go_simp;have hb:=(Below.refl w222.heap.size w222).alloc (Nat.le_refl _) (.cells #[.string ⟨#[]⟩,.string ((⟨sx.toArray⟩ : ByteArray) ++ ⟨#[46]⟩),encStr ra,encStr rb,encStr rc] 9)
      have hN5 : Row (w222.alloc (.cells #[.string ⟨#[]⟩,.string ((⟨sx.toArray⟩ : ByteArray) ++ ⟨#[46]⟩),encStr ra,encStr rb,encStr rc] 9)) w.heap.size 1 (some ⟨w222.heap.size,0,none⟩) [[],sx ++ [46],ra,rb,rc].length (strs [[],sx ++ [46],ra,rb,rc]):=by
       have h:=row_new w222 #[.string ⟨#[]⟩,.string ((⟨sx.toArray⟩ : ByteArray) ++ ⟨#[46]⟩),encStr ra,encStr rb,encStr rc] 9 w.heap.size 1 5 hgg.size rfl;rw [ba_app sx [46]] at h;exact h
      have hxc:=(hb.cell (p:=⟨gs,x,none⟩) hgs2).trans hxc;have hgs2:=Nat.lt_of_lt_of_le hgs2 hb.size;have hown:=own_keep hown hb;have hs3:=hs3.keep hb;have hgg:=grown_trans' hgg (grown_of_below hb _);clear hb;refine hK.out _ _ (trivial) (hxc) (fun hT hS => ?_);clear hK K;(try simp only [Act.put,Q3,Q4,Q5]);refine wpAnyK_ready (rs:=[24]) (by kernel_rfl) (by simp) ?_;refine AllReadyK.cons rfl (fun K hK => ?_) AllReadyK.nil;go_simp;go_at_call 29;refine (some_any g _ _ _ _ [[],sx ++ [46],ra,rb,rc] _ hs3 (by omega) hN5 hlg (by simp) (by simp)).mono ?_;rintro e w24 ⟨sv,rfl,hsv,hs9,hg9⟩;have hs3:=hs9;have hgg:=grown_trans' hgg hg9;have hxc:=hg9.cell hxc (by have:=HBW.out; simp; omega);have hown:=own_grown hown hg9 (by have:=HBW.out; omega);have hgs2:=Nat.lt_of_lt_of_le hgs2 hg9.size;clear hs9 hg9 hN5;go_wp2_with fail;refine hK.out _ _ (trivial) (hxc) (fun hT hS => ?_);clear hK K;(try simp only [Act.put,Q3,Q4,Q5]);(refine KU2 25 ?_; (try simp only [Act.put,Q3,Q4,Q5]));refine wpAnyK_ready (rs:=[26]) (by kernel_rfl) (by simp) ?_;refine AllReadyK.consT (by kernel_rfl) rfl (fun K hK => ?_) AllReadyK.nil;have hfz:=hown.frozenAt x;go_simp;refine hK.out _ _ (trivial) (fun hT => ?_);clear hK K;(try simp only [Act.put,Q3,Q4,Q5]);refine wpAnyK_done (by kernel_rfl) ?_ _
      have hsvc : sv.count 111 ≤ sx.count 111:=by
       simp only [List.mem_cons,List.not_mem_nil,or_false] at hsv;rcases hsv with rfl | rfl | rfl | rfl | rfl
       ·simp
       ·rw [List.count_append]; simp
       ·exact kra 111 (by decide)
       ·exact krb 111 (by decide)
       ·exact krc 111 (by decide)
      have HCT : Hid ((ss.set x sv).flatten.count 111 ≤ 2):=Lib.hid (Nat.le_trans (cnt_put ss x hx sv (by rw [HSX.out]; exact hsvc)) HK2.out)
      have hsvl : sv.length ≤ 8:=by
       simp only [List.mem_cons,List.not_mem_nil,or_false] at hsv;rcases hsv with rfl | rfl | rfl | rfl | rfl
       ·simp
       ·rw [List.length_append]; simp; omega
       ·omega
       ·omega
       ·omega
      obtain ⟨st1,st2⟩:=hown.stored x (encStr sv);have HSE : Hid ((strs ss).set x (encStr sv) = strs (ss.set x sv)):=Lib.hid (by unfold strs; rw [List.map_set]);rw [HSE.out] at st1
      have HPO : Hid (LevelPost2 w g (N + 200) (.returned (.slice (some ⟨gs,0,none⟩) ss.length c')) (w24.setCell ⟨gs,x,none⟩ (encStr sv))):=Lib.hid ⟨some ⟨gs,0,none⟩,c',ss.set x sv,by rw [List.length_set],by
        have:=(Row.of_own (by rw [List.length_set]; exact st1 : (w24.setCell ⟨gs,x,none⟩ (encStr sv)).ownsRow wc.heap.size 9 1 (.slice (some ⟨gs,0,none⟩) (ss.set x sv).length c') (ss.set x sv).length (strs (ss.set x sv)))).weak HBW.out
        exact this,by rw [List.length_set]; exact own_cap' hown,by rw [List.length_set]; omega,by rw [List.length_set]; exact hl0,fun r hr => by
        rcases List.mem_or_eq_of_mem_set hr with hr | rfl
        ·have:=HS2.out.2 r hr; omega
        ·omega,⟨HCT.out,fun r hr => by
        rcases List.mem_or_eq_of_mem_set hr with hr | rfl
        ·have:=HS2.out.2 r hr; omega
        ·exact hsvl,by rw [List.length_set]; omega⟩,(hs3.grown st2 (fun k' hk' => by injection hk' with hk'; have:=HBW.out; omega)).more (by omega),grown_set_new hgg (p:=⟨gs,x,none⟩) (show w.heap.size ≤ gs by have:=HBW.out; omega) _⟩
      clear hown st1 st2 hs3 hgg hxc hfz hsv;go_wp2_with fail;go_ret;exact HPO.out
end Go.Proofs.YtkchacgkjdeiaaaGreatDoor
