/- Texts of this seat, laid together: Br GmU. -/
import Derived.ArgAppend
import Derived.Laws.IdiomStrings
import Derived.Test.YtkchacgkjdeiaaaGreatDoorBf04
import Derived.Test.YtkchacgkjdeiaaaGreatDoorBf05
/- Bytes made out of a string, and what is appended to them. -/
set_option linter.unusedVariables false
set_option linter.unusedSimpArgs false
namespace Go.Proofs.YtkchacgkjdeiaaaGreatDoor
open Go.RowKit

structure BRow (w : World) (B : Nat) (v : Value) (xs : List Int) : Prop where
  has : ∃ g cap, v = .slice (some ⟨g, 0, none⟩) xs.length cap ∧ B ≤ g ∧ g < w.heap.size ∧ xs.length ≤ cap ∧ (∀ j u, (u8s xs)[j]? = some u → w.cell? ⟨g, j, none⟩ = some u) ∧
    (∀ j, xs.length ≤ j → j < cap → (w.cell? ⟨g, j, none⟩).isSome = true ∧ w.frozen? ⟨g, j, none⟩ = false)
theorem u8s_len (xs : List Int) : (u8s xs).length = xs.length:=by simp [u8s]
theorem frozen_block {w w' : World} {g : Nat} (h : w'.heap[g]? = w.heap[g]?) (j : Nat) : w'.frozen? ⟨g,j,none⟩ = w.frozen? ⟨g,j,none⟩:=by
 unfold World.frozen?;rw [h]
theorem BRow.keep {w w' : World} {B : Nat} {v : Value} {xs : List Int} (h : BRow w B v xs) (hs : w.heap.size ≤ w'.heap.size) (hb : ∀ k,B ≤ k → k < w.heap.size → w'.heap[k]? = w.heap[k]?) : BRow w' B v xs:=by
 obtain ⟨g,cap,e,hB,hg,hc,h1,h2⟩:=h.has;have hk:=hb g hB hg;refine ⟨g,cap,e,hB,by omega,hc,fun j u hu => ?_,fun j h3 h4 => ?_⟩
 ·rw [World.cell?_of_block (a:=⟨g,j,none⟩) hk]; exact h1 j u hu
 ·rw [World.cell?_of_block (a:=⟨g,j,none⟩) hk,frozen_block hk]; exact h2 j h3 h4
theorem BRow.below {w w' : World} {B : Nat} {v : Value} {xs : List Int} (h : BRow w B v xs) (hb : Below w.heap.size w w') : BRow w' B v xs:=h.keep hb.size (fun k _ hk => hb.block k hk)
theorem BRow.row {w : World} {B : Nat} {v : Value} {xs : List Int} (h : BRow w B v xs) : ∃ g cap,v = .slice (some ⟨g,0,none⟩) xs.length cap ∧ B ≤ g ∧ g < w.heap.size ∧ Row w B 1 (some ⟨g,0,none⟩) xs.length (u8s xs):=by
 obtain ⟨g,cap,e,hB,hg,hc,h1,h2⟩:=h.has;exact ⟨g,cap,e,hB,hg,by rw [u8s_len,Nat.mul_one],fun _ => ⟨g,0,rfl,hB,hg,fun j u hu => by rw [Nat.zero_add]; exact h1 j u hu⟩⟩
set_option maxRecDepth 100000 in
theorem BRow.conv (s : List UInt8) (w : World) (src dst : TypeId) (hs : Tryz.prog.underlying src = some .string) (hd : Tryz.prog.underlying dst = some (.slice 5)) :
  ∃ v w',(convert src dst (encStr s)).run Tryz.prog w = .ok v w' ∧ BRow w' w.heap.size v (s.map fun c => (c.toNat : Int)) ∧ Below w.heap.size w w':=by
 have hr:=run_bytes_of_string (P:=Tryz.prog) w src dst 5 ⟨s.toArray⟩ hs hd (by kernel_rfl);have hge:=grownCap_ge w (⟨s.toArray⟩ : ByteArray).size 0 5
 have hsz : (⟨s.toArray⟩ : ByteArray).size = s.length:=by show s.toArray.size = _; simp
 rw [hsz] at hr hge;generalize grownCap w s.length 0 5 = cap at *
 have hrs : (bytesRow ⟨s.toArray⟩ cap).size = cap:=by
  unfold bytesRow;rw [Array.size_append,Array.size_map,Array.size_replicate,hsz];show s.toArray.size + _ = _;rw [List.size_toArray]; omega
 refine ⟨_,_,hr,⟨w.heap.size,cap,?_,Nat.le_refl _,?_,?_,fun j u hu => ?_,fun j h3 h4 => ?_⟩,?_⟩
 ·rw [List.length_map]
 ·show w.heap.size < (w.drew.alloc _).heap.size
  rw [World.size_alloc]; exact Nat.lt_succ_self _
 ·rw [List.length_map]; exact hge
 ·refine Eq.trans (World.cell?_alloc_mark w.drew _ _ _ _) ?_
  unfold bytesRow;simp only [u8s,List.map_map,List.getElem?_map] at hu
  cases hj : s[j]? with
  | none => rw [hj] at hu; cases hu
  | some c =>
   rw [hj] at hu;have hlt : j < s.length:=(List.getElem?_eq_some_iff.1 hj).1;rw [Array.getElem?_append_left (by simp; exact hlt)];simp only [Array.getElem?_map,Q0,hj];exact hu
 ·refine ⟨?_,?_⟩
  ·refine Eq.trans (congrArg Option.isSome (World.cell?_alloc_mark w.drew _ _ _ _)) ?_
   rw [Array.getElem?_eq_getElem (by rw [hrs]; exact h4)]; rfl
  ·refine Eq.trans (World.frozen?_alloc_mark w.drew _ _ _ _ _) ?_
   rw [hrs,decide_eq_false (show ¬ cap ≤ j by omega)]; rfl
 ·exact (Below.refl w.heap.size w).drew.alloc (Nat.le_refl _) _
theorem setCells_same (b : Nat) : ∀ (vs : List Value) (o : Nat) (w : World),(w.setCells b o vs).os = w.os ∧ (w.setCells b o vs).tape = w.tape ∧ (w.setCells b o vs).output = w.output ∧ (w.setCells b o vs).heap.size = w.heap.size ∧ ∀ k,k ≠ b → (w.setCells b o vs).heap[k]? = w.heap[k]?
 | [],o,w => ⟨rfl,rfl,rfl,rfl,fun _ _ => rfl⟩
 | v :: vs,o,w => by
  obtain ⟨h1,h2,h3,h4,h5⟩:=setCells_same b vs (o + 1) (w.setCell ⟨b,o,none⟩ v);refine ⟨h1,h2,h3,h4.trans (by simp [World.setCell]),fun k hk => (h5 k hk).trans ?_⟩
  have hk' : ¬ b = k:=fun e => hk e.symm
  simp [World.setCell,Array.getElem?_modify,hk']
theorem BRow.of_own {w : World} {B B' : Nat} {v : Value} {n : Nat} {xs : List Int} (h : w.ownsRow B' 5 1 v n (u8s xs)) (hB : B ≤ B') (hn : 0 < n) : BRow w B v xs:=by
 have hl:=h.1;rw [u8s_len,Nat.mul_one] at hl;rcases h.2 with ⟨_,h0⟩ | ⟨g,cap,cur,hv,hg,hb,hc,_,hsz,htk⟩
 ·omega
 ·have hlt:=(Array.getElem?_eq_some_iff.1 hb).1
  rw [Nat.mul_one] at hsz htk;refine ⟨g,cap,by rw [hv,hl],by omega,hlt,by omega,fun j u hu => ?_,fun j h1 h2 => ⟨?_,?_⟩⟩
  ·rw [cell_of_row w g j cur _ (0,0) hb]
   have : (cur.toList.take n)[j]? = some u:=by rw [htk]; exact hu
   have hjn : j < n:=by
    have:=(List.getElem?_eq_some_iff.1 hu).1;rw [u8s_len] at this; omega
   rw [List.getElem?_take,if_pos hjn] at this
   simpa using this
  ·rw [cell_of_row w g j cur _ (0,0) hb,Array.getElem?_eq_getElem (by omega)]; rfl
  ·simp [World.frozen?,hb]
set_option maxRecDepth 100000 in
theorem BRow.app {w : World} {B lo : Nat} {v : Value} {xs ys : List Int} {A : Option Addr} {c : Nat} {ty : TypeId} (h : BRow w B v xs) (hB : B ≤ w.heap.size) (hr : Row w lo 1 A ys.length (u8s ys)) (hy : 0 < ys.length) (hl : xs.length + ys.length ≤ 1000000000) (hty : Tryz.prog.underlying ty = some (.slice 5)) :
  ∃ v' w',(Builtin.append_ #[62,62] ty #[v,.slice A ys.length c]).run Tryz.prog w = .ok v' w' ∧ BRow w' B v' (xs ++ ys) ∧ w.grownBy w' v.ownBlock ∧ ∀ k,v.ownBlock = some k → B ≤ k:=by
 obtain ⟨und,⟨i,z,hi,hz,hsize,hby,hzs⟩,hpos⟩:=ty_u8s;obtain ⟨g,cap,rfl,hBg,hg,hc,h1,h2⟩:=h.has;obtain ⟨b,off,rfl,_,hb,hcell⟩:=hr.2 hy
 have hown : ∀ k,(Value.slice (some (⟨g,0,none⟩ : Addr)) xs.length cap).ownBlock = some k → B ≤ k:=fun k hk => by
  have : g = k:=by simpa [Value.ownBlock] using hk
  omega
 have hnews : ∀ j u,(u8s ys)[j]? = some u → w.cell? ((⟨b,off,none⟩ : Addr).add j) = some u:=fun j u hu => by rw [Addr.add_lit]; exact hcell j u hu
 by_cases hroom : xs.length + ys.length ≤ cap
 ·have hsp : ∀ j,j < (u8s ys).length → (w.cell? ⟨g,0 + xs.length * i.size + j,none⟩).isSome = true ∧ w.frozen? ⟨g,0 + xs.length * i.size + j,none⟩ = false:=fun j hj => by
   rw [u8s_len] at hj;rw [hsize,Nat.mul_one,Nat.zero_add];exact h2 (xs.length + j) (by omega) (by omega)
  have hrun:=run_append_room_cells (P:=Tryz.prog) w 62 ty 5 i und hi g 0 xs.length cap ⟨b,off,none⟩ ys.length c (u8s ys) (by rw [u8s_len,hsize,Nat.mul_one]) hnews (fun u hu => List.all_eq_true.1 (u8s_all ys) u hu) hroom (fun j hj => (hsp j hj).1) (fun j hj => (hsp j hj).2);rw [hsize,Nat.mul_one,Nat.zero_add] at hrun;obtain ⟨s1,s2,s3,s4,s5⟩:=setCells_same g (u8s ys) xs.length w;refine ⟨_,_,hrun,⟨g,cap,by rw [List.length_append],hBg,by rw [s4]; exact hg,by rw [List.length_append]; exact hroom,fun j u hu => ?_,fun j h3 h4 => ?_⟩,⟨s1,s2,s3,Nat.le_of_eq s4.symm,fun k _ hk => s5 k (fun e => hk (by simp [Value.ownBlock,e]))⟩,hown⟩
  ·rw [u8s_app] at hu
   by_cases hj : j < xs.length
   ·rw [List.getElem?_append_left (by rw [u8s_len]; exact hj)] at hu
    rw [World.cell?_setCells_out g (u8s ys) xs.length w ⟨g,j,none⟩ (fun _ _ => .inl hj)];exact h1 j u hu
   ·rw [List.getElem?_append_right (by rw [u8s_len]; omega),u8s_len] at hu
    have hlt:=(List.getElem?_eq_some_iff.1 hu).1;have:=World.cell?_setCells_in g (u8s ys) xs.length w (fun q hq => by rw [u8s_len] at hq; exact (h2 (xs.length + q) (by omega) (by omega)).1) (j - xs.length) hlt;rw [show xs.length + (j - xs.length) = j by omega] at this;rw [this,← hu,List.getElem?_eq_getElem hlt]
  ·rw [List.length_append] at h3
   rw [World.frozen?_setCells,World.cell?_setCells_out g (u8s ys) xs.length w ⟨g,j,none⟩ (fun _ _ => .inr (by rw [u8s_len]; exact h3))];exact h2 j (by omega) h4
 ·obtain ⟨v',w',hrun,r1,r2⟩:=run_append_arg_grows (P:=Tryz.prog) w 62 ty 5 i z 1 1 und hi hz hsize hby hzs hpos ⟨g,0,none⟩ xs.length cap (u8s xs) (by rw [u8s_len,Nat.mul_one]) (fun j u hu => by rw [Addr.add_lit,Nat.zero_add]; exact h1 j u hu) ⟨b,off,none⟩ ys.length c (u8s ys) (by rw [u8s_len,Nat.mul_one]) hnews (by omega) (by simp only [maxLen]; omega) (by omega)
  rw [← u8s_app] at r1;exact ⟨v',w',hrun,BRow.of_own r1 hB (by omega),⟨r2.os,r2.tape,r2.output,r2.size,fun k hk _ => r2.block k hk (by simp)⟩,hown⟩
end Go.Proofs.YtkchacgkjdeiaaaGreatDoor
/- Rows of bytes, none empty, that a call made: what is read of them and written to them. -/
namespace Go.Proofs.YtkchacgkjdeiaaaGreatDoor
open Go.RowKit

def byR (r : List UInt8) : List Int:=r.map fun c => (c.toNat : Int)
theorem byR_len (r : List UInt8) : (byR r).length = r.length:=by simp [byR]
structure PU (w : World) (base G : Nat) (cs : Array Value) (rows : List (List UInt8)) : Prop where
  box : Blk w G 62 cs
  hG : base ≤ G
  at_ : ∀ i (h : i < rows.length), ∃ gb c, cs[i]? = some (.slice (some ⟨gb, 0, none⟩) rows[i].length c) ∧ base ≤ gb ∧ gb < w.heap.size ∧ gb ≠ G ∧ ∀ j (hj : j < rows[i].length), w.cell? ⟨gb, j, none⟩ = some (.int .u8 ((rows[i][j].toNat : Nat) : Int)) ∧ w.frozen? ⟨gb, j, none⟩ = false
  ne : ∀ (i j gi gj li lj ci cj : Nat), i < rows.length → j < rows.length → i ≠ j → cs[i]? = some (.slice (some ⟨gi, 0, none⟩) li ci) → cs[j]? = some (.slice (some ⟨gj, 0, none⟩) lj cj) → gi ≠ gj
section
variable {w w' : World} {base G : Nat} {cs : Array Value} {rows : List (List UInt8)}
theorem PU.keep (h : PU w base G cs rows) (hs : w.heap.size ≤ w'.heap.size) (hb : ∀ k,base ≤ k → k < w.heap.size → w'.heap[k]? = w.heap[k]?) : PU w' base G cs rows:=by
 refine ⟨(hb G h.hG h.box.lt).trans h.box,h.hG,fun i hi => ?_,h.ne⟩;obtain ⟨gb,c,h1,h2,h3,h4,h5⟩:=h.at_ i hi;refine ⟨gb,c,h1,h2,by omega,h4,fun j hj => ?_⟩;have e:=hb gb h2 h3;exact ⟨(World.cell?_of_block (a:=⟨gb,j,none⟩) e).trans (h5 j hj).1,(World.frozen?_of_block (a:=⟨gb,j,none⟩) e).trans (h5 j hj).2⟩
theorem PU.below (h : PU w base G cs rows) (hb : Below w.heap.size w w') : PU w' base G cs rows:=h.keep hb.size (fun k _ hk => hb.block k hk)
theorem PU.alloc (h : PU w base G cs rows) (o : Obj) : PU (w.alloc o) base G cs rows:=h.below ((Below.refl _ _).alloc (Nat.le_refl _) o)
theorem PU.stream {g : Nat} (h : PU w base G cs rows) (hg : w.grownBy w' (some g)) (hlt : g < base) : PU w' base G cs rows :=
 h.keep hg.size (fun k h1 h2 => hg.block k h2 (fun e => by injection e with e; omega))
theorem PU.row (h : PU w base G cs rows) {i : Nat} (hi : i < rows.length) : ∃ gb c,w.cell? ⟨G,i,none⟩ = some (.slice (some ⟨gb,0,none⟩) rows[i].length c) ∧ base ≤ gb ∧ gb < w.heap.size ∧ gb ≠ G ∧ ∀ j (hj : j < rows[i].length),w.cell? ⟨gb,j,none⟩ = some (.int .u8 ((rows[i][j].toNat : Nat) : Int)) ∧ w.frozen? ⟨gb,j,none⟩ = false:=by
 obtain ⟨gb,c,h1,h2⟩:=h.at_ i hi;exact ⟨gb,c,by rw [h.box.cell]; exact h1,h2⟩
theorem PU.poke (h : PU w base G cs rows) {i j gb c : Nat} (hi : i < rows.length) (hj : j < rows[i].length) (hc : w.cell? ⟨G,i,none⟩ = some (.slice (some ⟨gb,0,none⟩) rows[i].length c)) (u : UInt8) :
  PU (w.setCell ⟨gb,j,none⟩ (.int .u8 ((u.toNat : Nat) : Int))) base G cs (rows.set i (rows[i].set j u)):=by
 rw [h.box.cell] at hc;obtain ⟨gb',c',h1,h2,h3,h4,h5⟩:=h.at_ i hi;rw [hc] at h1;injection h1 with h1;injection h1 with e1 _ e3;injection e1 with e1;injection e1 with e1;subst e1 e3;refine ⟨h.box.past gb j _ (fun e => h4 e.symm),h.hG,fun i' hi' => ?_,fun a b ga gb' la lb ca cb ha hb hne h6 h7 => h.ne a b ga gb' la lb ca cb (by simpa using ha) (by simpa using hb) hne h6 h7⟩
 have hi2 : i' < rows.length:=by simpa using hi'
 by_cases e : i = i'
 ·subst e
  have er : (rows.set i (rows[i].set j u))[i] = rows[i].set j u:=by simp
  refine ⟨gb,c,by rw [er,List.length_set]; exact hc,h2,by simpa using h3,h4,fun k hk => ?_⟩
  have hk2 : k < rows[i].length:=by rw [er,List.length_set] at hk; exact hk
  obtain ⟨k1,k2⟩:=h5 k hk2
  by_cases ek : j = k
  ·subst ek
   have ev : (rows.set i (rows[i].set j u))[i][j] = u:=by simp
   rw [ev];exact ⟨by first | exact World.cell?_setCell_same _ _ k1 | exact World.cell?_setCell_same _ _ _ k1,by rw [World.frozen?_setCell]; exact k2⟩
  ·have ev : (rows.set i (rows[i].set j u))[i][k] = rows[i][k]:=by simp [List.getElem_set,ek]
   rw [ev];exact ⟨(by first | exact World.cell?_setCell_other _ _ (fun e' => ek (by injection e')) | exact World.cell?_setCell_other _ _ _ _ (fun e' => ek (by injection e')) : (w.setCell ⟨gb,j,none⟩ (.int .u8 ((u.toNat : Nat) : Int))).cell? ⟨gb,k,none⟩ = w.cell? ⟨gb,k,none⟩).trans k1,by rw [World.frozen?_setCell]; exact k2⟩
 ·have er : (rows.set i (rows[i].set j u))[i'] = rows[i']:=by simp [List.getElem_set,e]
  obtain ⟨gx,cx,x1,x2,x3,x4,x5⟩:=h.at_ i' hi2;have hne:=h.ne i i' gb gx _ _ _ _ hi hi2 e hc x1;refine ⟨gx,cx,by rw [er]; exact x1,x2,by simpa using x3,x4,fun k hk => ?_⟩
  have hk2 : k < rows[i'].length:=by rw [er] at hk; exact hk
  have ev : (rows.set i (rows[i].set j u))[i'][k] = rows[i'][k]:=by simp [List.getElem_set,e]
  rw [ev];have eb:=Below.heap_setCell w ⟨gb,j,none⟩ (.int .u8 ((u.toNat : Nat) : Int)) gx (fun ee => hne ee.symm);exact ⟨(World.cell?_of_block (a:=⟨gx,k,none⟩) eb).trans (x5 k hk2).1,(World.frozen?_of_block (a:=⟨gx,k,none⟩) eb).trans (x5 k hk2).2⟩
theorem PU.of_nest (hN : NestU 5 62 w base G (rows.map byR)) (hG : base ≤ G) (h0 : ∀ r ∈ rows,0 < r.length) : ∃ cs,PU w base G cs rows:=by
 obtain ⟨ne,cs,h1,h2,h3⟩:=hN
 have hat : ∀ i (h : i < rows.length),∃ gb c,cs[i]? = some (.slice (some ⟨gb,0,none⟩) rows[i].length c) ∧ base ≤ gb ∧ gb < w.heap.size ∧ gb ≠ G ∧ ∀ j (hj : j < rows[i].length),w.cell? ⟨gb,j,none⟩ = some (.int .u8 ((rows[i][j].toNat : Nat) : Int)) ∧ w.frozen? ⟨gb,j,none⟩ = false:=by
  intro i hi;obtain ⟨A,c,a1,a2⟩:=h2 i (by simpa using hi)
  have er : (rows.map byR)[i]'(by simpa using hi) = byR rows[i]:=by simp
  rw [er,byR_len] at a1 a2;have hp:=h0 _ (List.getElem_mem hi);rcases a2.2 with ⟨_,hz⟩ | ⟨gb,cap,cur,hv,hb,hh,hcap,_,hsz,ht⟩
  ·omega
  ·injection hv with e1 _ e3
   subst e1 e3;refine ⟨gb,c,a1,hb,(Array.getElem?_eq_some_iff.1 hh).1,fun e => ?_,fun j hj => ?_⟩
   ·subst e
    rw [show w.heap[gb]? = some (.cells cs 62 (0,0)) from h1] at hh;injection hh with hh;injection hh with _ e2;exact ne e2.symm
   ·have hu : (u8s (byR rows[i]))[j]? = some (.int .u8 ((rows[i][j].toNat : Nat) : Int)):=by simp [u8s,byR,hj]
    refine ⟨?_,by simp [World.frozen?,hh]⟩;rw [cell_of_row w gb j cur _ (0,0) hh];rw [← ht,Nat.mul_one,List.getElem?_take,if_pos hj] at hu
    simpa using hu
 refine ⟨cs,h1,hG,hat,fun i j gi gj li lj ci cj hi hj hij e1 e2 e => ?_⟩;exact h3 i j _ _ gi (by simpa using hi) (by simpa using hj) hij e1 e2 rfl (by simp [Value.ownBlock,e])
theorem PU.bytes (h : PU w base G cs rows) {i gb c : Nat} (hi : i < rows.length) (hc : w.cell? ⟨G,i,none⟩ = some (.slice (some ⟨gb,0,none⟩) rows[i].length c)) : ∀ j (hj : j < rows[i].length),w.cell? ⟨gb,j,none⟩ = some (.int .u8 ((rows[i][j].toNat : Nat) : Int)) ∧ w.frozen? ⟨gb,j,none⟩ = false:=by
 obtain ⟨gb',c',h1,_,_,_,h5⟩:=h.row hi;rw [hc] at h1;injection h1 with h1;injection h1 with e1;injection e1 with e1;injection e1 with e1;subst e1;exact h5
end
theorem NestU.stream {w w' : World} {tI tS : TypeId} {base g k : Nat} {rows : List (List Int)} (h : NestU tI tS w base g rows) (hg : w.grownBy w' (some k)) (hk : k < base) (hkg : k ≠ g) : NestU tI tS w' base g rows:=by
 obtain ⟨ne,cs,h1,h2,h3⟩:=h;refine ⟨ne,cs,(hg.block g h1.lt (fun e => by injection e with e; exact hkg e.symm)).trans h1,fun i hi => ?_,h3⟩;obtain ⟨A,c,a,b⟩:=h2 i hi;refine ⟨A,c,a,b.kept hg ?_⟩
 cases hv : (Value.slice A rows[i].length c).ownBlock with
 | none => exact .inl rfl
 | some x =>
  right
  intro he;have:=(b.lt x hv).1;injection he with he;omega
end Go.Proofs.YtkchacgkjdeiaaaGreatDoor
