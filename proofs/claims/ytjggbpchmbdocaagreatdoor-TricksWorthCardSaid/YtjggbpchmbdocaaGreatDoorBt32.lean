/- Texts of this seat, laid together: HpG HpI HpP. -/
import Derived.Test.YtjggbpchmbdocaaGreatDoorBt09
import Derived.Test.YtjggbpchmbdocaaGreatDoorBt31
import Derived.Test.YtjggbpchmbdocaaGreatDoorBt08
/- The walk of explore's closure at any number of states. -/
set_option linter.unusedVariables false
set_option linter.unusedSimpArgs false
namespace Go.Proofs.YtjggbpchmbdocaaGreatDoor
open Go.RowKit Go.Sort Go.Maps

structure StpW (W : World) (lo : Nat) (eds : List Value) (stp : List (List (Nat × Nat))) : Prop where
  len : eds.length = stp.length
  row : ∀ i (h : i < stp.length), ∃ A c, eds[i]? = some (.slice A stp[i].length c) ∧ W.ownsRow lo 164 2 (.slice A stp[i].length c) stp[i].length (stp[i].flatMap encG)
  far : ∀ (i j : Nat) (u v : Value) (b : Nat), i ≠ j → eds[i]? = some u → eds[j]? = some v → u.ownBlock = some b → v.ownBlock ≠ some b
section
variable {W W' : World} {lo : Nat} {eds : List Value} {stp : List (List (Nat × Nat))} {row : Option Nat} {x : Option TypeId}
theorem StpW.nil_ (W : World) (lo : Nat) : StpW W lo [] []:=⟨rfl,fun i h => by simp at h,fun i j u v b _ h => by simp at h⟩
theorem StpW.below (h : StpW W lo eds stp) (hb : Below W.heap.size W W') : StpW W' lo eds stp:=⟨h.len,fun i hi => let ⟨A,c,a,b⟩:=h.row i hi; ⟨A,c,a,own_keep b hb⟩,h.far⟩
theorem StpW.alloc (h : StpW W lo eds stp) (o : Obj) : StpW (W.alloc o) lo eds stp:=h.below ((Below.refl _ _).alloc (Nat.le_refl _) o)
theorem StpW.drewN (h : StpW W lo eds stp) (n : Nat) : StpW (W.drewN n) lo eds stp:=h.below (below_drewN' (Below.refl _ _) n)
theorem StpW.drew (h : StpW W lo eds stp) : StpW W.drew lo eds stp:=h.drewN 1
theorem StpW.other (h : StpW W lo eds stp) (hg : W.grownBy W' row) (hk : Kind W row x) (hne : x ≠ some 164) : StpW W' lo eds stp:=⟨h.len,fun i hi => let ⟨A,c,a,b⟩:=h.row i hi; ⟨A,c,a,own_other b hg hk hne⟩,h.far⟩
theorem StpW.snoc (h : StpW W lo eds stp) : StpW W lo (eds ++ [.slice none 0 0]) (stp ++ [[]]):=by
 have hl:=h.len;refine ⟨by simp [hl],fun i hi => ?_,fun i j u v b hne hu hv hub => ?_⟩
 ·by_cases e : i < stp.length
  ·obtain ⟨A,c,a,b⟩:=h.row i e
   refine ⟨A,c,?_,?_⟩
   ·rw [List.getElem?_append_left (by omega)]; simp only [List.getElem_append_left e]; exact a
   ·simp only [List.getElem_append_left e]; exact b
  ·have e2 : i = stp.length:=by simp at hi; omega
   subst e2;refine ⟨none,0,?_,?_⟩
   ·rw [List.getElem?_append_right (by omega)]; simp [hl]
   ·simp only [List.getElem_append_right (Nat.le_refl _),Nat.sub_self]
    exact World.ownsRow_nil _ _ _ _
 ·have key : ∀ (i : Nat) (u : Value),(eds ++ [Value.slice none 0 0])[i]? = some u → u.ownBlock = some b → eds[i]? = some u:=fun i u hu hub => by
   by_cases e : i < eds.length
   ·rwa [List.getElem?_append_left e] at hu
   ·rw [List.getElem?_append_right (by omega)] at hu
    by_cases e2 : i - eds.length = 0
    ·rw [e2] at hu; simp at hu; subst hu; cases hub
    ·have : i - eds.length = (i - eds.length - 1) + 1:=by omega
     rw [this] at hu; simp at hu
  intro hvb;exact h.far i j u v b hne (key i u hu hub) (key j v hv hvb) hub hvb
end
structure GX (w0 W : World) (t mv gv g mb : Nat) (TC : Array Value) : Prop where
  bel : Below w0.heap.size w0 W
  mv : Blk W mv 170 #[.map (some mb)]
  gv : Blk W gv 90 #[.pointer (some ⟨g, 0, none⟩)]
  t : Blk W t 104 TC
section
variable {w0 W W' : World} {t mv gv g mb : Nat} {TC : Array Value} {row : Option Nat} {x : Option TypeId}
def okX (x : Option TypeId) : Bool:=x != some 170 && x != some 90 && x != some 104
theorem GX.below (h : GX w0 W t mv gv g mb TC) (hb : Below W.heap.size W W') : GX w0 W' t mv gv g mb TC:=⟨below_up h.bel hb,h.mv.below hb,h.gv.below hb,h.t.below hb⟩
theorem GX.alloc (h : GX w0 W t mv gv g mb TC) (o : Obj) : GX w0 (W.alloc o) t mv gv g mb TC:=h.below ((Below.refl _ _).alloc (Nat.le_refl _) o)
theorem GX.drewN (h : GX w0 W t mv gv g mb TC) (n : Nat) : GX w0 (W.drewN n) t mv gv g mb TC:=h.below (below_drewN' (Below.refl _ _) n)
theorem GX.drew (h : GX w0 W t mv gv g mb TC) : GX w0 W.drew t mv gv g mb TC:=h.drewN 1
theorem GX.other (h : GX w0 W t mv gv g mb TC) (hg : W.grownBy W' row) (hr : ∀ k,row = some k → w0.heap.size ≤ k) (hk : Kind W row x) (hx : okX x = true) : GX w0 W' t mv gv g mb TC:=by
 simp only [okX,Bool.and_eq_true,bne_iff_ne] at hx;exact ⟨h.bel.grown hg h.bel.size hr,h.mv.other hg hk hx.1.1,h.gv.other hg hk hx.1.2,h.t.other hg hk hx.2⟩
end
def ixF (sts : List StE) : StE → Option Nat:=fun x => if x ∈ sts then some (sts.idxOf x) else none
theorem ixF_put {sts : List StE} {x : StE} (h : x ∉ sts) : putT (ixF sts) x sts.length = ixF (sts ++ [x]):=by
 funext y
 unfold putT ixF
 by_cases e : y = x
 ·subst e
  rw [if_pos rfl,if_pos (by simp),List.idxOf_append,if_neg h]
  simp
 ·rw [if_neg e]
  by_cases h2 : y ∈ sts
  ·rw [if_pos h2,if_pos (by simp [h2]),List.idxOf_append,if_pos h2]
  ·rw [if_neg h2,if_neg (by simp [h2,e])]
structure GY (lo : Nat) (W : World) (p g mb n : Nat) (sts : List StE) (eds : List Value) (stp : List (List (Nat × Nat))) (bs : List Bool) (NA EA BA : Option Addr) (nc ec bc : Nat) : Prop where
  g : Blk W g 117 #[.pointer (some ⟨p, 0, none⟩), .slice NA n nc, .slice EA n ec, .slice BA n bc, .slice none 0 0]
  mb : MapT W mb n (ixF sts)
  N : W.ownsRow lo 101 3 (.slice NA n nc) n (sts.flatMap encT)
  E : W.ownsRow lo 162 1 (.slice EA n ec) n eds
  S : StpW W lo eds stp
  B : W.ownsRow lo 4 1 (.slice BA n bc) n (bs.map Value.bool)
section
variable {lo : Nat} {W W' : World} {p g mb n : Nat} {sts : List StE} {eds : List Value} {stp : List (List (Nat × Nat))} {bs : List Bool} {NA EA BA : Option Addr} {nc ec bc : Nat}
theorem GY.below (h : GY lo W p g mb n sts eds stp bs NA EA BA nc ec bc) (hb : Below W.heap.size W W') : GY lo W' p g mb n sts eds stp bs NA EA BA nc ec bc:=⟨h.g.below hb,h.mb.below hb,own_keep h.N hb,own_keep h.E hb,h.S.below hb,own_keep h.B hb⟩
theorem GY.alloc (h : GY lo W p g mb n sts eds stp bs NA EA BA nc ec bc) (o : Obj) : GY lo (W.alloc o) p g mb n sts eds stp bs NA EA BA nc ec bc:=h.below ((Below.refl _ _).alloc (Nat.le_refl _) o)
theorem GY.drewN (h : GY lo W p g mb n sts eds stp bs NA EA BA nc ec bc) (k : Nat) : GY lo (W.drewN k) p g mb n sts eds stp bs NA EA BA nc ec bc:=h.below (below_drewN' (Below.refl _ _) k)
theorem GY.drew (h : GY lo W p g mb n sts eds stp bs NA EA BA nc ec bc) : GY lo W.drew p g mb n sts eds stp bs NA EA BA nc ec bc:=h.drewN 1
end
def EndsOk (w0 : World) (t : Nat) (TC : Array Value) (fid : FuncId) (pre post : Array Value) (ef : StE → Bool) : Prop :=
 (∀ (args : Array Value) (W : World),(callFunc fid args).run Tryz.prog W = .ok (.enter fid args) W) ∧ ∀ (W : World) (x : StE),Below w0.heap.size w0 W → Blk W t 104 TC → OkT x → Calls Tryz.prog fid ((pre ++ #[stV x]) ++ post) W fun e w' => e = .returned (.bool (ef x)) ∧ Below W.heap.size W w'
def IxPostG (w0 : World) (lo p t mv gv g mb n : Nat) (TC : Array Value) (sts : List StE) (eds : List Value) (stp : List (List (Nat × Nat))) (bs : List Bool) (r : Nat) (e : Ending) (w' : World) : Prop :=
 e = .returned (.int .i64 (r : Int)) ∧ lo ≤ w'.heap.size ∧ GX w0 w' t mv gv g mb TC ∧ ∃ (NA EA BA : Option Addr) (nc ec bc : Nat),GY lo w' p g mb n sts eds stp bs NA EA BA nc ec bc

set_option maxHeartbeats 4000000 in
set_option maxRecDepth 100000 in
theorem index_old (w0 w : World) (lo p t mv gv g mb n : Nat) (sts : List StE) (eds : List Value) (stp : List (List (Nat × Nat))) (bs : List Bool) (NA EA BA : Option Addr) (nc ec bc : Nat) (fid : FuncId) (pre post : Array Value) (t0 t1 t2 t3 : Value) (ef : StE → Bool) (x : StE)
  (hgr : GX w0 w t mv gv g mb #[t0,t1,t2,t3,.func (.func fid) pre post]) (hgn : GY lo w p g mb n sts eds stp bs NA EA BA nc ec bc) (hx : OkT x) (hm : x ∈ sts) (hl : lo ≤ w.heap.size) :
  Calls Tryz.prog 124 #[stV x,.pointer (some ⟨mv,0,none⟩),.pointer (some ⟨gv,0,none⟩),.pointer (some ⟨t,0,none⟩)] w (IxPostG w0 lo p t mv gv g mb n #[t0,t1,t2,t3,.func (.func fid) pre post] sts eds stp bs (sts.idxOf x)):=by
 have hgr:=hgr.alloc (.cells #[.int .i64 (x.r : Int),.int .i64 (x.b : Int),.int .i64 (x.s : Int)] 101);have hgn:=hgn.alloc (.cells #[.int .i64 (x.r : Int),.int .i64 (x.b : Int),.int .i64 (x.s : Int)] 101);have hv : Blk (w.alloc (.cells #[.int .i64 (x.r : Int),.int .i64 (x.b : Int),.int .i64 (x.s : Int)] 101)) w.heap.size 101 #[.int .i64 (x.r : Int),.int .i64 (x.b : Int),.int .i64 (x.s : Int)]:=Blk.new _ _ _
 have zl : lo ≤ (w.alloc (.cells #[.int .i64 (x.r : Int),.int .i64 (x.b : Int),.int .i64 (x.s : Int)] 101)).heap.size:=by simp; omega
 have HX:=Lib.hid hx
 have hf : ixF sts x = if true then some (sts.idxOf x) else none:=by unfold ixF; rw [if_pos hm]; rfl
 have HF:=Lib.hid hf;clear hm hx hf;unfold stV
 go_enter Tryz.func124,Tryz.ntmps124
 go_upto_region 1 with (fail);generalize hV : w.heap.size = v at *;generalize w.alloc (.cells #[.int .i64 (x.r : Int),.int .i64 (x.b : Int),.int .i64 (x.s : Int)] 101) = X at *;have q0:=hgr.mv.w1;obtain ⟨v0,v1,v2⟩:=hv.w3;have hmb:=hgn.mb;generalize sts.idxOf x = r at *
 go_wp2_with (first | (at_lookup; refine wpList_lookT rfl _ _ rfl rfl hmb x r true HX.out rfl HF.out (fun h => by cases h) ?_) | fail)
 go_ret;exact ⟨rfl,zl,hgr,NA,EA,BA,nc,ec,bc,hgn⟩

set_option maxHeartbeats 8000000 in
set_option maxRecDepth 100000 in
theorem index_new (w0 w : World) (lo p t mv gv g mb n : Nat) (sts : List StE) (eds : List Value) (stp : List (List (Nat × Nat))) (bs : List Bool) (NA EA BA : Option Addr) (nc ec bc : Nat) (fid : FuncId) (pre post : Array Value) (t0 t1 t2 t3 : Value) (ef : StE → Bool) (x : StE)
  (hgr : GX w0 w t mv gv g mb #[t0,t1,t2,t3,.func (.func fid) pre post]) (hgn : GY lo w p g mb n sts eds stp bs NA EA BA nc ec bc) (hx : OkT x) (hm : x ∉ sts) (hef : EndsOk w0 t #[t0,t1,t2,t3,.func (.func fid) pre post] fid pre post ef) (hlo : w0.heap.size ≤ lo) (hlg : w0.heap.size ≤ g) (hlm : w0.heap.size ≤ mb) (hl : lo ≤ w.heap.size) (hn : sts.length = n) (hnb : n ≤ 1000000) :
  Calls Tryz.prog 124 #[stV x,.pointer (some ⟨mv,0,none⟩),.pointer (some ⟨gv,0,none⟩),.pointer (some ⟨t,0,none⟩)] w (IxPostG w0 lo p t mv gv g mb (n + 1) #[t0,t1,t2,t3,.func (.func fid) pre post] (sts ++ [x]) (eds ++ [.slice none 0 0]) (stp ++ [[]]) (bs ++ [ef x]) n):=by
 have hvN : some w.heap.size ≠ (Value.slice NA n nc).ownBlock:=fun e => absurd (hgn.N.lt _ e.symm).2 (Nat.lt_irrefl _)
 have hgr:=hgr.alloc (.cells #[.int .i64 (x.r : Int),.int .i64 (x.b : Int),.int .i64 (x.s : Int)] 101);have hgn:=hgn.alloc (.cells #[.int .i64 (x.r : Int),.int .i64 (x.b : Int),.int .i64 (x.s : Int)] 101);have hv : Blk (w.alloc (.cells #[.int .i64 (x.r : Int),.int .i64 (x.b : Int),.int .i64 (x.s : Int)] 101)) w.heap.size 101 #[.int .i64 (x.r : Int),.int .i64 (x.b : Int),.int .i64 (x.s : Int)]:=Blk.new _ _ _
 have zl : lo ≤ (w.alloc (.cells #[.int .i64 (x.r : Int),.int .i64 (x.b : Int),.int .i64 (x.s : Int)] 101)).heap.size:=by simp; omega
 have HX:=Lib.hid hx
 have hf : ixF sts x = if false then some 0 else none:=by unfold ixF; rw [if_neg hm]; rfl
 have HF:=Lib.hid hf;have HEF:=Lib.hid hef;have HPU : Hid (putT (ixF sts) x n = ixF (sts ++ [x])):=Lib.hid (by rw [← hn]; exact ixF_put hm)
 have hnb1 : (n + 1) * 24 ≤ 140737488355328:=by omega
 have hnb2 : n + 1 ≤ 9223372036854775807:=by omega
 have hnb3 : (n + 1) * 1 ≤ 140737488355328:=by omega
 have hlo0:=hlo;clear hm hx hf hef hn;unfold stV
 go_enter Tryz.func124,Tryz.ntmps124
 go_upto_region 1 with (fail);generalize hV : w.heap.size = v at *;generalize w.alloc (.cells #[.int .i64 (x.r : Int),.int .i64 (x.b : Int),.int .i64 (x.s : Int)] 101) = X at *;have q0:=hgr.mv.w1;have q1:=hgr.gv.w1;obtain ⟨v0,v1,v2⟩:=hv.w3;obtain ⟨k0,k1,k2,k3,k4⟩:=hgn.g.w5;have hmb:=hgn.mb;go_upto_region 5 with (first | (at_lookup; refine wpList_lookT rfl _ _ rfl rfl hmb x 0 false HX.out rfl HF.out (fun _ => rfl) ?_) | (at_mapUpdate; refine wpList_putT rfl _ _ _ rfl rfl hmb (by unfold maxLen; omega) x n HX.out (by omega) rfl rfl ?_; intro X2 hm2 hg2) | fail);clear q0 q1 v0 v1 v2 k0 k1 k2 k3 k4;rw [HPU.out] at hm2;have hk2:=hmb.kind
 have hr2 : ∀ k,some mb = some k → w0.heap.size ≤ k:=fun k hk => by injection hk with hk; omega
 have hgr:=(hgr.other hg2 hr2 hk2 (by decide)).drew;have hv:=(hv.other hg2 hk2 (by decide)).drew;have hg:=(hgn.g.other hg2 hk2 (by decide)).drew;have hN : X2.drew.ownsRow lo 101 3 _ _ _:=own_drewN (own_other hgn.N hg2 hk2 (by decide)) 1;have hE : X2.drew.ownsRow lo 162 1 _ _ _:=own_drewN (own_other hgn.E hg2 hk2 (by decide)) 1;have hB : X2.drew.ownsRow lo 4 1 _ _ _:=own_drewN (own_other hgn.B hg2 hk2 (by decide)) 1;have hWS:=(hgn.S.other hg2 hk2 (by decide)).drew;have hm:=hm2.drewN 1;have zl : lo ≤ X2.drew.heap.size:=Nat.le_trans zl hg2.size;have hm : MapT X2.drew mb (n + 1) (ixF (sts ++ [x])):=hm;clear hgn hmb hm2 hg2 hk2 hr2

 refine wp_region_heldK 28 (fun w' => w'.cell? ⟨g,1,none⟩ = some (.slice NA n nc) ∧ w'.cell? ⟨g,2,none⟩ = some (.slice EA n ec) ∧ w'.cell? ⟨g,3,none⟩ = some (.slice BA n bc)) (fun w' => w'.cell? ⟨gv,0,none⟩ = some (.pointer (some ⟨g,0,none⟩)) ∧ w'.cell? ⟨v,0,none⟩ = some (.int .i64 (x.r : Int)) ∧ w'.cell? ⟨v,1,none⟩ = some (.int .i64 (x.b : Int)) ∧ w'.cell? ⟨v,2,none⟩ = some (.int .i64 (x.s : Int)) ∧ w'.cell? ⟨t,4,none⟩ = some (.func (.func fid) pre post)) (by kernel_rfl) (⟨hgr.gv.w1,hv.w3.1,hv.w3.2.1,hv.w3.2.2,hgr.t.w5.2.2.2.2⟩) (⟨hg.w5.2.1,hg.w5.2.2.1,hg.w5.2.2.2.1⟩) (fun hT hS => ?_);(refine KU2 0 ?_; (try simp only [Act.put,Q3,Q4,Q5]));(refine KU2 1 ?_; (try simp only [Act.put,Q3,Q4,Q5]));(refine KU2 2 ?_; (try simp only [Act.put,Q3,Q4,Q5]));(refine KU2 3 ?_; (try simp only [Act.put,Q3,Q4,Q5]));(refine KU2 4 ?_; (try simp only [Act.put,Q3,Q4,Q5]));(refine KU2 5 ?_; (try simp only [Act.put,Q3,Q4,Q5]));(refine KU1 6 ?_; (try simp only [Act.put,Q3,Q4,Q5]));(refine KU2 7 ?_; (try simp only [Act.put,Q3,Q4,Q5]));(refine KU2 10 ?_; (try simp only [Act.put,Q3,Q4,Q5]));(refine KU2 11 ?_; (try simp only [Act.put,Q3,Q4,Q5]));(refine KU2 12 ?_; (try simp only [Act.put,Q3,Q4,Q5]));(refine KU1 13 ?_; (try simp only [Act.put,Q3,Q4,Q5]));(refine KU2 16 ?_; (try simp only [Act.put,Q3,Q4,Q5]));(refine KU2 17 ?_; (try simp only [Act.put,Q3,Q4,Q5]));(refine KU2 18 ?_; (try simp only [Act.put,Q3,Q4,Q5]));(refine KU1 19 ?_; (try simp only [Act.put,Q3,Q4,Q5]));(refine KU2 20 ?_; (try simp only [Act.put,Q3,Q4,Q5]));(refine KU2 21 ?_; (try simp only [Act.put,Q3,Q4,Q5]));(refine KU2 22 ?_; (try simp only [Act.put,Q3,Q4,Q5]));refine wpAnyK_ready (rs:=[8,14]) (by kernel_rfl) (by simp) ?_;refine AllReadyK.cons rfl (fun K hK => ?_) (AllReadyK.cons rfl (fun K hK => ?_) AllReadyK.nil)
 case refine_1 =>
  go_simp;have nhgr:=hgr.alloc (.cells #[.int .i64 (x.r : Int),.int .i64 (x.b : Int),.int .i64 (x.s : Int)] 101);have nhv:=hv.alloc (.cells #[.int .i64 (x.r : Int),.int .i64 (x.b : Int),.int .i64 (x.s : Int)] 101);have nhg:=hg.alloc (.cells #[.int .i64 (x.r : Int),.int .i64 (x.b : Int),.int .i64 (x.s : Int)] 101);have nhm:=hm.alloc (.cells #[.int .i64 (x.r : Int),.int .i64 (x.b : Int),.int .i64 (x.s : Int)] 101);have nhN:=hN.alloc (.cells #[.int .i64 (x.r : Int),.int .i64 (x.b : Int),.int .i64 (x.s : Int)] 101);have nhE:=hE.alloc (.cells #[.int .i64 (x.r : Int),.int .i64 (x.b : Int),.int .i64 (x.s : Int)] 101);have nhB:=hB.alloc (.cells #[.int .i64 (x.r : Int),.int .i64 (x.b : Int),.int .i64 (x.s : Int)] 101);have nhWS:=hWS.alloc (.cells #[.int .i64 (x.r : Int),.int .i64 (x.b : Int),.int .i64 (x.s : Int)] 101);clear hgr hv hg hm hN hE hB hWS;have hgr:=nhgr;have hv:=nhv;have hg:=nhg;have hm:=nhm;have hN:=nhN;have hE:=nhE;have hB:=nhB;have hWS:=nhWS;clear nhgr nhv nhg nhm nhN nhE nhB nhWS;have b1 : Blk (X2.drew.alloc (.cells #[.int .i64 (x.r : Int),.int .i64 (x.b : Int),.int .i64 (x.s : Int)] 101)) (X2.heap.size) 101 #[.int .i64 (x.r : Int),.int .i64 (x.b : Int),.int .i64 (x.s : Int)]:=Blk.at_ _ (by simp)
  have zl : lo ≤ (X2.drew.alloc (.cells #[.int .i64 (x.r : Int),.int .i64 (x.b : Int),.int .i64 (x.s : Int)] 101)).heap.size:=by first | omega | (simp; omega) | (simp at zl ⊢; omega)
  refine hK.out _ _ (⟨hgr.gv.w1,hv.w3.1,hv.w3.2.1,hv.w3.2.2,hgr.t.w5.2.2.2.2⟩) (⟨hg.w5.2.1,hg.w5.2.2.1,hg.w5.2.2.2.1⟩) (fun hT hS => ?_);clear hK K;(try simp only [Act.put,Q3,Q4,Q5]);refine wpAnyK_ready (rs:=[9,14]) (by kernel_rfl) (by simp) ?_;refine AllReadyK.cons rfl (fun K hK => ?_) (AllReadyK.cons rfl (fun K hK => ?_) AllReadyK.nil)
  case refine_1 =>
   refine step_app (lo:=0) (base:=lo) (n:=n) (xs:=sts.flatMap encT) _ rfl _ _ ty_states rfl hN rfl (Row.lit (n:=1) (size:=3) b1 (Nat.zero_le _) rfl) rfl rfl hnb1 hnb2 zl ?_;intro A1 d1 wn oN gN _;have kN:=own_kind hN
   have lN:=fun k hk => Nat.le_trans hlo0 (hN.lt k hk).1
   have zl : lo ≤ wn.heap.size:=Nat.le_trans zl gN.size;clear b1;have nhv : Blk wn v 101 #[.int .i64 (x.r : Int),.int .i64 (x.b : Int),.int .i64 (x.s : Int)]:=(gN.block v hv.lt hvN).trans hv;have nhgr:=hgr.other gN (lN) kN (by decide);have nhg:=hg.other gN kN (by decide);have nhm:=hm.other gN kN (by decide);have nhE:=own_other hE gN kN (by decide);have nhB:=own_other hB gN kN (by decide);have nhWS:=hWS.other gN kN (by decide);clear hgr hg hm hE hB hWS;have hgr:=nhgr;have hg:=nhg;have hm:=nhm;have hE:=nhE;have hB:=nhB;have hWS:=nhWS;clear nhgr nhg nhm nhE nhB nhWS;clear hv hN;have hv:=nhv;have hN:=oN;clear nhv oN;refine hK.out _ _ (⟨hgr.gv.w1,hv.w3.1,hv.w3.2.1,hv.w3.2.2,hgr.t.w5.2.2.2.2⟩) (⟨hg.w5.2.1,hg.w5.2.2.1,hg.w5.2.2.2.1⟩) (fun hT hS => ?_);clear hK K;(try simp only [Act.put,Q3,Q4,Q5]);refine wpAnyK_ready (rs:=[14]) (by kernel_rfl) (by simp) ?_;refine AllReadyK.cons rfl (fun K hK => ?_) AllReadyK.nil;go_simp;have nhgr:=hgr.alloc (.cells #[.slice none 0 0] 162);have nhv:=hv.alloc (.cells #[.slice none 0 0] 162);have nhg:=hg.alloc (.cells #[.slice none 0 0] 162);have nhm:=hm.alloc (.cells #[.slice none 0 0] 162);have nhN:=hN.alloc (.cells #[.slice none 0 0] 162);have nhE:=hE.alloc (.cells #[.slice none 0 0] 162);have nhB:=hB.alloc (.cells #[.slice none 0 0] 162);have nhWS:=hWS.alloc (.cells #[.slice none 0 0] 162);clear hgr hv hg hm hN hE hB hWS;have hgr:=nhgr;have hv:=nhv;have hg:=nhg;have hm:=nhm;have hN:=nhN;have hE:=nhE;have hB:=nhB;have hWS:=nhWS;clear nhgr nhv nhg nhm nhN nhE nhB nhWS;have b2 : Blk (wn.alloc (.cells #[.slice none 0 0] 162)) (wn.heap.size) 162 #[.slice none 0 0]:=Blk.at_ _ (by simp)
   have zl : lo ≤ (wn.alloc (.cells #[.slice none 0 0] 162)).heap.size:=by first | omega | (simp; omega) | (simp at zl ⊢; omega)
   refine hK.out _ _ (⟨hgr.gv.w1,hv.w3.1,hv.w3.2.1,hv.w3.2.2,hgr.t.w5.2.2.2.2⟩) (⟨hg.w5.2.1,hg.w5.2.2.1,hg.w5.2.2.2.1⟩) (fun hT hS => ?_);clear hK K;(try simp only [Act.put,Q3,Q4,Q5]);refine wpAnyK_ready (rs:=[15]) (by kernel_rfl) (by simp) ?_;refine AllReadyK.cons rfl (fun K hK => ?_) AllReadyK.nil;refine step_app (lo:=0) (base:=lo) (n:=n) (xs:=eds) _ rfl _ _ ty_stepss rfl hE rfl (Row.lit (n:=1) (size:=1) b2 (Nat.zero_le _) rfl) rfl rfl hnb1 hnb2 zl ?_;intro A2 d2 we oE gE _;have kE:=own_kind hE
   have lE:=fun k hk => Nat.le_trans hlo0 (hE.lt k hk).1
   have zl : lo ≤ we.heap.size:=Nat.le_trans zl gE.size;clear b2;have nhgr:=hgr.other gE (lE) kE (by decide);have nhv:=hv.other gE kE (by decide);have nhg:=hg.other gE kE (by decide);have nhm:=hm.other gE kE (by decide);have nhN:=own_other hN gE kE (by decide);have nhB:=own_other hB gE kE (by decide);have nhWS:=hWS.other gE kE (by decide);clear hgr hv hg hm hN hB hWS;have hgr:=nhgr;have hv:=nhv;have hg:=nhg;have hm:=nhm;have hN:=nhN;have hB:=nhB;have hWS:=nhWS;clear nhgr nhv nhg nhm nhN nhB nhWS;clear hE;have hE:=oE;clear oE;refine hK.out _ _ (⟨hgr.gv.w1,hv.w3.1,hv.w3.2.1,hv.w3.2.2,hgr.t.w5.2.2.2.2⟩) (⟨hg.w5.2.1,hg.w5.2.2.1,hg.w5.2.2.2.1⟩) (fun hT hS => ?_);clear hK K;(try simp only [Act.put,Q3,Q4,Q5]);refine wpAnyK_ready (rs:=[23]) (by kernel_rfl) (by simp) ?_;refine AllReadyK.cons rfl (fun K hK => ?_) AllReadyK.nil;have hcf:=HEF.out.1;go_simp;clear hcf;refine (HEF.out.2 _ x hgr.bel hgr.t HX.out).mono ?_;rintro e wg ⟨rfl,hb⟩;have zl : lo ≤ wg.heap.size:=Nat.le_trans zl hb.size;have nhgr:=hgr.below hb;have nhv:=hv.below hb;have nhg:=hg.below hb;have nhm:=hm.below hb;have nhN:=own_keep hN hb;have nhE:=own_keep hE hb;have nhB:=own_keep hB hb;have nhWS:=hWS.below hb;clear hgr hv hg hm hN hE hB hWS;have hgr:=nhgr;have hv:=nhv;have hg:=nhg;have hm:=nhm;have hN:=nhN;have hE:=nhE;have hB:=nhB;have hWS:=nhWS;clear nhgr nhv nhg nhm nhN nhE nhB nhWS;go_wp2_with fail;refine hK.out _ _ (⟨hgr.gv.w1,hv.w3.1,hv.w3.2.1,hv.w3.2.2,hgr.t.w5.2.2.2.2⟩) (⟨hg.w5.2.1,hg.w5.2.2.1,hg.w5.2.2.2.1⟩) (fun hT hS => ?_);clear hK K;(try simp only [Act.put,Q3,Q4,Q5]);refine wpAnyK_ready (rs:=[24]) (by kernel_rfl) (by simp) ?_;refine AllReadyK.cons rfl (fun K hK => ?_) AllReadyK.nil;go_simp;have nhgr:=hgr.alloc (.cells #[.bool (ef x)] 4);have nhv:=hv.alloc (.cells #[.bool (ef x)] 4);have nhg:=hg.alloc (.cells #[.bool (ef x)] 4);have nhm:=hm.alloc (.cells #[.bool (ef x)] 4);have nhN:=hN.alloc (.cells #[.bool (ef x)] 4);have nhE:=hE.alloc (.cells #[.bool (ef x)] 4);have nhB:=hB.alloc (.cells #[.bool (ef x)] 4);have nhWS:=hWS.alloc (.cells #[.bool (ef x)] 4);clear hgr hv hg hm hN hE hB hWS;have hgr:=nhgr;have hv:=nhv;have hg:=nhg;have hm:=nhm;have hN:=nhN;have hE:=nhE;have hB:=nhB;have hWS:=nhWS;clear nhgr nhv nhg nhm nhN nhE nhB nhWS;have b3 : Blk (wg.alloc (.cells #[.bool (ef x)] 4)) (wg.heap.size) 4 #[.bool (ef x)]:=Blk.at_ _ (by simp)
   have zl : lo ≤ (wg.alloc (.cells #[.bool (ef x)] 4)).heap.size:=by first | omega | (simp; omega) | (simp at zl ⊢; omega)
   refine hK.out _ _ (⟨hgr.gv.w1,hv.w3.1,hv.w3.2.1,hv.w3.2.2,hgr.t.w5.2.2.2.2⟩) (⟨hg.w5.2.1,hg.w5.2.2.1,hg.w5.2.2.2.1⟩) (fun hT hS => ?_);clear hK K;(try simp only [Act.put,Q3,Q4,Q5]);refine wpAnyK_ready (rs:=[25]) (by kernel_rfl) (by simp) ?_;refine AllReadyK.cons rfl (fun K hK => ?_) AllReadyK.nil;refine step_app (lo:=0) (base:=lo) (n:=n) (xs:=bs.map Value.bool) _ rfl _ _ ty_boolz rfl hB rfl (Row.lit (n:=1) (size:=1) b3 (Nat.zero_le _) rfl) rfl rfl hnb3 hnb2 zl ?_;intro A3 d3 wb oB gB _;have kB:=own_kind hB
   have lB:=fun k hk => Nat.le_trans hlo0 (hB.lt k hk).1
   have zl : lo ≤ wb.heap.size:=Nat.le_trans zl gB.size;clear b3;have nhgr:=hgr.other gB (lB) kB (by decide);have nhv:=hv.other gB kB (by decide);have nhg:=hg.other gB kB (by decide);have nhm:=hm.other gB kB (by decide);have nhN:=own_other hN gB kB (by decide);have nhE:=own_other hE gB kB (by decide);have nhWS:=hWS.other gB kB (by decide);clear hgr hv hg hm hN hE hWS;have hgr:=nhgr;have hv:=nhv;have hg:=nhg;have hm:=nhm;have hN:=nhN;have hE:=nhE;have hWS:=nhWS;clear nhgr nhv nhg nhm nhN nhE nhWS;clear hB;have hB:=oB;clear oB;refine hK.out _ _ (⟨hgr.gv.w1,hv.w3.1,hv.w3.2.1,hv.w3.2.2,hgr.t.w5.2.2.2.2⟩) (⟨hg.w5.2.1,hg.w5.2.2.1,hg.w5.2.2.2.1⟩) (fun hT hS => ?_);clear hK K;(try simp only [Act.put,Q3,Q4,Q5]);(refine KU2 26 ?_; (try simp only [Act.put,Q3,Q4,Q5]));(refine KU2 27 ?_; (try simp only [Act.put,Q3,Q4,Q5]));refine wpAnyK_ready (rs:=[28]) (by kernel_rfl) (by simp) ?_;refine AllReadyK.consT (by kernel_rfl) rfl (fun K hK => ?_) AllReadyK.nil;obtain ⟨k0,k1,k2,k3,k4⟩:=hg.w5;have kf:=hg.thaw 1;have zg:=hg.lt;go_simp;clear k0 k1 k2 k3 k4 kf zg;have kg:=hg.kind;have ghg:=hg.poke 1 (.slice A1 (n + 1) d1);have nhgr:=hgr.other (grown_poke _ g 1 (.slice A1 (n + 1) d1)) (fun k hk => by injection hk with hk; omega) kg (by decide);have nhv:=hv.other (grown_poke _ g 1 (.slice A1 (n + 1) d1)) kg (by decide);have nhm:=hm.other (grown_poke _ g 1 (.slice A1 (n + 1) d1)) kg (by decide);have nhN:=own_other hN (grown_poke _ g 1 (.slice A1 (n + 1) d1)) kg (by decide);have nhE:=own_other hE (grown_poke _ g 1 (.slice A1 (n + 1) d1)) kg (by decide);have nhB:=own_other hB (grown_poke _ g 1 (.slice A1 (n + 1) d1)) kg (by decide);have nhWS:=hWS.other (grown_poke _ g 1 (.slice A1 (n + 1) d1)) kg (by decide);clear hgr hv hm hN hE hB hWS;have hgr:=nhgr;have hv:=nhv;have hm:=nhm;have hN:=nhN;have hE:=nhE;have hB:=nhB;have hWS:=nhWS;clear nhgr nhv nhm nhN nhE nhB nhWS;have hg:=ghg;clear ghg kg;simp only [Q3,Q4,Q5] at hg;refine hK.out _ _ (⟨hgr.gv.w1,hv.w3.1,hv.w3.2.1,hv.w3.2.2,hgr.t.w5.2.2.2.2⟩) (fun hT => ?_);clear hK K;(try simp only [Act.put,Q3,Q4,Q5]);(refine KU3 29 ?_; (try simp only [Act.put,Q3,Q4,Q5]));(refine KU3 30 ?_; (try simp only [Act.put,Q3,Q4,Q5]));refine wpAnyK_ready (rs:=[31]) (by kernel_rfl) (by simp) ?_;refine AllReadyK.consT (by kernel_rfl) rfl (fun K hK => ?_) AllReadyK.nil;obtain ⟨k0,k1,k2,k3,k4⟩:=hg.w5;have kf:=hg.thaw 2;have zg:=hg.lt;go_simp;clear k0 k1 k2 k3 k4 kf zg;have kg:=hg.kind;have ghg:=hg.poke 2 (.slice A2 (n + 1) d2);have nhgr:=hgr.other (grown_poke _ g 2 (.slice A2 (n + 1) d2)) (fun k hk => by injection hk with hk; omega) kg (by decide);have nhv:=hv.other (grown_poke _ g 2 (.slice A2 (n + 1) d2)) kg (by decide);have nhm:=hm.other (grown_poke _ g 2 (.slice A2 (n + 1) d2)) kg (by decide);have nhN:=own_other hN (grown_poke _ g 2 (.slice A2 (n + 1) d2)) kg (by decide);have nhE:=own_other hE (grown_poke _ g 2 (.slice A2 (n + 1) d2)) kg (by decide);have nhB:=own_other hB (grown_poke _ g 2 (.slice A2 (n + 1) d2)) kg (by decide);have nhWS:=hWS.other (grown_poke _ g 2 (.slice A2 (n + 1) d2)) kg (by decide);clear hgr hv hm hN hE hB hWS;have hgr:=nhgr;have hv:=nhv;have hm:=nhm;have hN:=nhN;have hE:=nhE;have hB:=nhB;have hWS:=nhWS;clear nhgr nhv nhm nhN nhE nhB nhWS;have hg:=ghg;clear ghg kg;simp only [Q3,Q4,Q5] at hg;refine hK.out _ _ (⟨hgr.gv.w1,hv.w3.1,hv.w3.2.1,hv.w3.2.2,hgr.t.w5.2.2.2.2⟩) (fun hT => ?_);clear hK K;(try simp only [Act.put,Q3,Q4,Q5]);(refine KU3 32 ?_; (try simp only [Act.put,Q3,Q4,Q5]));(refine KU3 33 ?_; (try simp only [Act.put,Q3,Q4,Q5]));refine wpAnyK_ready (rs:=[34]) (by kernel_rfl) (by simp) ?_;refine AllReadyK.consT (by kernel_rfl) rfl (fun K hK => ?_) AllReadyK.nil;obtain ⟨k0,k1,k2,k3,k4⟩:=hg.w5;have kf:=hg.thaw 3;have zg:=hg.lt;go_simp;clear k0 k1 k2 k3 k4 kf zg;have kg:=hg.kind;have ghg:=hg.poke 3 (.slice A3 (n + 1) d3);have nhgr:=hgr.other (grown_poke _ g 3 (.slice A3 (n + 1) d3)) (fun k hk => by injection hk with hk; omega) kg (by decide);have nhv:=hv.other (grown_poke _ g 3 (.slice A3 (n + 1) d3)) kg (by decide);have nhm:=hm.other (grown_poke _ g 3 (.slice A3 (n + 1) d3)) kg (by decide);have nhN:=own_other hN (grown_poke _ g 3 (.slice A3 (n + 1) d3)) kg (by decide);have nhE:=own_other hE (grown_poke _ g 3 (.slice A3 (n + 1) d3)) kg (by decide);have nhB:=own_other hB (grown_poke _ g 3 (.slice A3 (n + 1) d3)) kg (by decide);have nhWS:=hWS.other (grown_poke _ g 3 (.slice A3 (n + 1) d3)) kg (by decide);clear hgr hv hm hN hE hB hWS;have hgr:=nhgr;have hv:=nhv;have hm:=nhm;have hN:=nhN;have hE:=nhE;have hB:=nhB;have hWS:=nhWS;clear nhgr nhv nhm nhN nhE nhB nhWS;have hg:=ghg;clear ghg kg;simp only [Q3,Q4,Q5] at hg;refine hK.out _ _ (⟨hgr.gv.w1,hv.w3.1,hv.w3.2.1,hv.w3.2.2,hgr.t.w5.2.2.2.2⟩) (fun hT => ?_);clear hK K;(try simp only [Act.put,Q3,Q4,Q5]);refine wpAnyK_done (by kernel_rfl) ?_ _;go_wp2_with fail;go_ret;exact ⟨rfl,by simpa using zl,hgr,A1,A2,A3,d1,d2,d3,⟨hg,hm,by rw [List.flatMap_append]; exact hN,hE,hWS.snoc,by rw [List.map_append]; exact hB⟩⟩
  case refine_2 =>
   go_simp;have nhgr:=hgr.alloc (.cells #[.slice none 0 0] 162);have nhv:=hv.alloc (.cells #[.slice none 0 0] 162);have nhg:=hg.alloc (.cells #[.slice none 0 0] 162);have nhm:=hm.alloc (.cells #[.slice none 0 0] 162);have nhN:=hN.alloc (.cells #[.slice none 0 0] 162);have nhE:=hE.alloc (.cells #[.slice none 0 0] 162);have nhB:=hB.alloc (.cells #[.slice none 0 0] 162);have nhWS:=hWS.alloc (.cells #[.slice none 0 0] 162);have nb1:=b1.alloc (.cells #[.slice none 0 0] 162);clear hgr hv hg hm hN hE hB hWS b1;have hgr:=nhgr;have hv:=nhv;have hg:=nhg;have hm:=nhm;have hN:=nhN;have hE:=nhE;have hB:=nhB;have hWS:=nhWS;have b1:=nb1;clear nhgr nhv nhg nhm nhN nhE nhB nhWS nb1;have b2 : Blk ((X2.drew.alloc (.cells #[.int .i64 (x.r : Int),.int .i64 (x.b : Int),.int .i64 (x.s : Int)] 101)).alloc (.cells #[.slice none 0 0] 162)) (X2.heap.size + 1) 162 #[.slice none 0 0]:=Blk.at_ _ (by simp)
   have zl : lo ≤ ((X2.drew.alloc (.cells #[.int .i64 (x.r : Int),.int .i64 (x.b : Int),.int .i64 (x.s : Int)] 101)).alloc (.cells #[.slice none 0 0] 162)).heap.size:=by first | omega | (simp; omega) | (simp at zl ⊢; omega)
   refine hK.out _ _ (⟨hgr.gv.w1,hv.w3.1,hv.w3.2.1,hv.w3.2.2,hgr.t.w5.2.2.2.2⟩) (⟨hg.w5.2.1,hg.w5.2.2.1,hg.w5.2.2.2.1⟩) (fun hT hS => ?_);clear hK K;(try simp only [Act.put,Q3,Q4,Q5]);refine wpAnyK_ready (rs:=[9]) (by kernel_rfl) (by simp) ?_;refine AllReadyK.cons rfl (fun K hK => ?_) AllReadyK.nil;refine step_app (lo:=0) (base:=lo) (n:=n) (xs:=sts.flatMap encT) _ rfl _ _ ty_states rfl hN rfl (Row.lit (n:=1) (size:=3) b1 (Nat.zero_le _) rfl) rfl rfl hnb1 hnb2 zl ?_;intro A1 d1 wn oN gN _;have kN:=own_kind hN
   have lN:=fun k hk => Nat.le_trans hlo0 (hN.lt k hk).1
   have zl : lo ≤ wn.heap.size:=Nat.le_trans zl gN.size;clear b1;have nhv : Blk wn v 101 #[.int .i64 (x.r : Int),.int .i64 (x.b : Int),.int .i64 (x.s : Int)]:=(gN.block v hv.lt hvN).trans hv;have nhgr:=hgr.other gN (lN) kN (by decide);have nhg:=hg.other gN kN (by decide);have nhm:=hm.other gN kN (by decide);have nhE:=own_other hE gN kN (by decide);have nhB:=own_other hB gN kN (by decide);have nhWS:=hWS.other gN kN (by decide);have nb2:=b2.other gN kN (by decide);clear hgr hg hm hE hB hWS b2;have hgr:=nhgr;have hg:=nhg;have hm:=nhm;have hE:=nhE;have hB:=nhB;have hWS:=nhWS;have b2:=nb2;clear nhgr nhg nhm nhE nhB nhWS nb2;clear hv hN;have hv:=nhv;have hN:=oN;clear nhv oN;refine hK.out _ _ (⟨hgr.gv.w1,hv.w3.1,hv.w3.2.1,hv.w3.2.2,hgr.t.w5.2.2.2.2⟩) (⟨hg.w5.2.1,hg.w5.2.2.1,hg.w5.2.2.2.1⟩) (fun hT hS => ?_);clear hK K;(try simp only [Act.put,Q3,Q4,Q5]);refine wpAnyK_ready (rs:=[15]) (by kernel_rfl) (by simp) ?_;refine AllReadyK.cons rfl (fun K hK => ?_) AllReadyK.nil;refine step_app (lo:=0) (base:=lo) (n:=n) (xs:=eds) _ rfl _ _ ty_stepss rfl hE rfl (Row.lit (n:=1) (size:=1) b2 (Nat.zero_le _) rfl) rfl rfl hnb1 hnb2 zl ?_;intro A2 d2 we oE gE _;have kE:=own_kind hE
   have lE:=fun k hk => Nat.le_trans hlo0 (hE.lt k hk).1
   have zl : lo ≤ we.heap.size:=Nat.le_trans zl gE.size;clear b2;have nhgr:=hgr.other gE (lE) kE (by decide);have nhv:=hv.other gE kE (by decide);have nhg:=hg.other gE kE (by decide);have nhm:=hm.other gE kE (by decide);have nhN:=own_other hN gE kE (by decide);have nhB:=own_other hB gE kE (by decide);have nhWS:=hWS.other gE kE (by decide);clear hgr hv hg hm hN hB hWS;have hgr:=nhgr;have hv:=nhv;have hg:=nhg;have hm:=nhm;have hN:=nhN;have hB:=nhB;have hWS:=nhWS;clear nhgr nhv nhg nhm nhN nhB nhWS;clear hE;have hE:=oE;clear oE;refine hK.out _ _ (⟨hgr.gv.w1,hv.w3.1,hv.w3.2.1,hv.w3.2.2,hgr.t.w5.2.2.2.2⟩) (⟨hg.w5.2.1,hg.w5.2.2.1,hg.w5.2.2.2.1⟩) (fun hT hS => ?_);clear hK K;(try simp only [Act.put,Q3,Q4,Q5]);refine wpAnyK_ready (rs:=[23]) (by kernel_rfl) (by simp) ?_;refine AllReadyK.cons rfl (fun K hK => ?_) AllReadyK.nil;have hcf:=HEF.out.1;go_simp;clear hcf;refine (HEF.out.2 _ x hgr.bel hgr.t HX.out).mono ?_;rintro e wg ⟨rfl,hb⟩;have zl : lo ≤ wg.heap.size:=Nat.le_trans zl hb.size;have nhgr:=hgr.below hb;have nhv:=hv.below hb;have nhg:=hg.below hb;have nhm:=hm.below hb;have nhN:=own_keep hN hb;have nhE:=own_keep hE hb;have nhB:=own_keep hB hb;have nhWS:=hWS.below hb;clear hgr hv hg hm hN hE hB hWS;have hgr:=nhgr;have hv:=nhv;have hg:=nhg;have hm:=nhm;have hN:=nhN;have hE:=nhE;have hB:=nhB;have hWS:=nhWS;clear nhgr nhv nhg nhm nhN nhE nhB nhWS;go_wp2_with fail;refine hK.out _ _ (⟨hgr.gv.w1,hv.w3.1,hv.w3.2.1,hv.w3.2.2,hgr.t.w5.2.2.2.2⟩) (⟨hg.w5.2.1,hg.w5.2.2.1,hg.w5.2.2.2.1⟩) (fun hT hS => ?_);clear hK K;(try simp only [Act.put,Q3,Q4,Q5]);refine wpAnyK_ready (rs:=[24]) (by kernel_rfl) (by simp) ?_;refine AllReadyK.cons rfl (fun K hK => ?_) AllReadyK.nil;go_simp;have nhgr:=hgr.alloc (.cells #[.bool (ef x)] 4);have nhv:=hv.alloc (.cells #[.bool (ef x)] 4);have nhg:=hg.alloc (.cells #[.bool (ef x)] 4);have nhm:=hm.alloc (.cells #[.bool (ef x)] 4);have nhN:=hN.alloc (.cells #[.bool (ef x)] 4);have nhE:=hE.alloc (.cells #[.bool (ef x)] 4);have nhB:=hB.alloc (.cells #[.bool (ef x)] 4);have nhWS:=hWS.alloc (.cells #[.bool (ef x)] 4);clear hgr hv hg hm hN hE hB hWS;have hgr:=nhgr;have hv:=nhv;have hg:=nhg;have hm:=nhm;have hN:=nhN;have hE:=nhE;have hB:=nhB;have hWS:=nhWS;clear nhgr nhv nhg nhm nhN nhE nhB nhWS;have b3 : Blk (wg.alloc (.cells #[.bool (ef x)] 4)) (wg.heap.size) 4 #[.bool (ef x)]:=Blk.at_ _ (by simp)
   have zl : lo ≤ (wg.alloc (.cells #[.bool (ef x)] 4)).heap.size:=by first | omega | (simp; omega) | (simp at zl ⊢; omega)
   refine hK.out _ _ (⟨hgr.gv.w1,hv.w3.1,hv.w3.2.1,hv.w3.2.2,hgr.t.w5.2.2.2.2⟩) (⟨hg.w5.2.1,hg.w5.2.2.1,hg.w5.2.2.2.1⟩) (fun hT hS => ?_);clear hK K;(try simp only [Act.put,Q3,Q4,Q5]);refine wpAnyK_ready (rs:=[25]) (by kernel_rfl) (by simp) ?_;refine AllReadyK.cons rfl (fun K hK => ?_) AllReadyK.nil;refine step_app (lo:=0) (base:=lo) (n:=n) (xs:=bs.map Value.bool) _ rfl _ _ ty_boolz rfl hB rfl (Row.lit (n:=1) (size:=1) b3 (Nat.zero_le _) rfl) rfl rfl hnb3 hnb2 zl ?_;intro A3 d3 wb oB gB _;have kB:=own_kind hB
   have lB:=fun k hk => Nat.le_trans hlo0 (hB.lt k hk).1
   have zl : lo ≤ wb.heap.size:=Nat.le_trans zl gB.size;clear b3;have nhgr:=hgr.other gB (lB) kB (by decide);have nhv:=hv.other gB kB (by decide);have nhg:=hg.other gB kB (by decide);have nhm:=hm.other gB kB (by decide);have nhN:=own_other hN gB kB (by decide);have nhE:=own_other hE gB kB (by decide);have nhWS:=hWS.other gB kB (by decide);clear hgr hv hg hm hN hE hWS;have hgr:=nhgr;have hv:=nhv;have hg:=nhg;have hm:=nhm;have hN:=nhN;have hE:=nhE;have hWS:=nhWS;clear nhgr nhv nhg nhm nhN nhE nhWS;clear hB;have hB:=oB;clear oB;refine hK.out _ _ (⟨hgr.gv.w1,hv.w3.1,hv.w3.2.1,hv.w3.2.2,hgr.t.w5.2.2.2.2⟩) (⟨hg.w5.2.1,hg.w5.2.2.1,hg.w5.2.2.2.1⟩) (fun hT hS => ?_);clear hK K;(try simp only [Act.put,Q3,Q4,Q5]);(refine KU2 26 ?_; (try simp only [Act.put,Q3,Q4,Q5]));(refine KU2 27 ?_; (try simp only [Act.put,Q3,Q4,Q5]));refine wpAnyK_ready (rs:=[28]) (by kernel_rfl) (by simp) ?_;refine AllReadyK.consT (by kernel_rfl) rfl (fun K hK => ?_) AllReadyK.nil;obtain ⟨k0,k1,k2,k3,k4⟩:=hg.w5;have kf:=hg.thaw 1;have zg:=hg.lt;go_simp;clear k0 k1 k2 k3 k4 kf zg;have kg:=hg.kind;have ghg:=hg.poke 1 (.slice A1 (n + 1) d1);have nhgr:=hgr.other (grown_poke _ g 1 (.slice A1 (n + 1) d1)) (fun k hk => by injection hk with hk; omega) kg (by decide);have nhv:=hv.other (grown_poke _ g 1 (.slice A1 (n + 1) d1)) kg (by decide);have nhm:=hm.other (grown_poke _ g 1 (.slice A1 (n + 1) d1)) kg (by decide);have nhN:=own_other hN (grown_poke _ g 1 (.slice A1 (n + 1) d1)) kg (by decide);have nhE:=own_other hE (grown_poke _ g 1 (.slice A1 (n + 1) d1)) kg (by decide);have nhB:=own_other hB (grown_poke _ g 1 (.slice A1 (n + 1) d1)) kg (by decide);have nhWS:=hWS.other (grown_poke _ g 1 (.slice A1 (n + 1) d1)) kg (by decide);clear hgr hv hm hN hE hB hWS;have hgr:=nhgr;have hv:=nhv;have hm:=nhm;have hN:=nhN;have hE:=nhE;have hB:=nhB;have hWS:=nhWS;clear nhgr nhv nhm nhN nhE nhB nhWS;have hg:=ghg;clear ghg kg;simp only [Q3,Q4,Q5] at hg;refine hK.out _ _ (⟨hgr.gv.w1,hv.w3.1,hv.w3.2.1,hv.w3.2.2,hgr.t.w5.2.2.2.2⟩) (fun hT => ?_);clear hK K;(try simp only [Act.put,Q3,Q4,Q5]);(refine KU3 29 ?_; (try simp only [Act.put,Q3,Q4,Q5]));(refine KU3 30 ?_; (try simp only [Act.put,Q3,Q4,Q5]));refine wpAnyK_ready (rs:=[31]) (by kernel_rfl) (by simp) ?_;refine AllReadyK.consT (by kernel_rfl) rfl (fun K hK => ?_) AllReadyK.nil;obtain ⟨k0,k1,k2,k3,k4⟩:=hg.w5;have kf:=hg.thaw 2;have zg:=hg.lt;go_simp;clear k0 k1 k2 k3 k4 kf zg;have kg:=hg.kind;have ghg:=hg.poke 2 (.slice A2 (n + 1) d2);have nhgr:=hgr.other (grown_poke _ g 2 (.slice A2 (n + 1) d2)) (fun k hk => by injection hk with hk; omega) kg (by decide);have nhv:=hv.other (grown_poke _ g 2 (.slice A2 (n + 1) d2)) kg (by decide);have nhm:=hm.other (grown_poke _ g 2 (.slice A2 (n + 1) d2)) kg (by decide);have nhN:=own_other hN (grown_poke _ g 2 (.slice A2 (n + 1) d2)) kg (by decide);have nhE:=own_other hE (grown_poke _ g 2 (.slice A2 (n + 1) d2)) kg (by decide);have nhB:=own_other hB (grown_poke _ g 2 (.slice A2 (n + 1) d2)) kg (by decide);have nhWS:=hWS.other (grown_poke _ g 2 (.slice A2 (n + 1) d2)) kg (by decide);clear hgr hv hm hN hE hB hWS;have hgr:=nhgr;have hv:=nhv;have hm:=nhm;have hN:=nhN;have hE:=nhE;have hB:=nhB;have hWS:=nhWS;clear nhgr nhv nhm nhN nhE nhB nhWS;have hg:=ghg;clear ghg kg;simp only [Q3,Q4,Q5] at hg;refine hK.out _ _ (⟨hgr.gv.w1,hv.w3.1,hv.w3.2.1,hv.w3.2.2,hgr.t.w5.2.2.2.2⟩) (fun hT => ?_);clear hK K;(try simp only [Act.put,Q3,Q4,Q5]);(refine KU3 32 ?_; (try simp only [Act.put,Q3,Q4,Q5]));(refine KU3 33 ?_; (try simp only [Act.put,Q3,Q4,Q5]));refine wpAnyK_ready (rs:=[34]) (by kernel_rfl) (by simp) ?_;refine AllReadyK.consT (by kernel_rfl) rfl (fun K hK => ?_) AllReadyK.nil;obtain ⟨k0,k1,k2,k3,k4⟩:=hg.w5;have kf:=hg.thaw 3;have zg:=hg.lt;go_simp;clear k0 k1 k2 k3 k4 kf zg;have kg:=hg.kind;have ghg:=hg.poke 3 (.slice A3 (n + 1) d3);have nhgr:=hgr.other (grown_poke _ g 3 (.slice A3 (n + 1) d3)) (fun k hk => by injection hk with hk; omega) kg (by decide);have nhv:=hv.other (grown_poke _ g 3 (.slice A3 (n + 1) d3)) kg (by decide);have nhm:=hm.other (grown_poke _ g 3 (.slice A3 (n + 1) d3)) kg (by decide);have nhN:=own_other hN (grown_poke _ g 3 (.slice A3 (n + 1) d3)) kg (by decide);have nhE:=own_other hE (grown_poke _ g 3 (.slice A3 (n + 1) d3)) kg (by decide);have nhB:=own_other hB (grown_poke _ g 3 (.slice A3 (n + 1) d3)) kg (by decide);have nhWS:=hWS.other (grown_poke _ g 3 (.slice A3 (n + 1) d3)) kg (by decide);clear hgr hv hm hN hE hB hWS;have hgr:=nhgr;have hv:=nhv;have hm:=nhm;have hN:=nhN;have hE:=nhE;have hB:=nhB;have hWS:=nhWS;clear nhgr nhv nhm nhN nhE nhB nhWS;have hg:=ghg;clear ghg kg;simp only [Q3,Q4,Q5] at hg;refine hK.out _ _ (⟨hgr.gv.w1,hv.w3.1,hv.w3.2.1,hv.w3.2.2,hgr.t.w5.2.2.2.2⟩) (fun hT => ?_);clear hK K;(try simp only [Act.put,Q3,Q4,Q5]);refine wpAnyK_done (by kernel_rfl) ?_ _;go_wp2_with fail;go_ret;exact ⟨rfl,by simpa using zl,hgr,A1,A2,A3,d1,d2,d3,⟨hg,hm,by rw [List.flatMap_append]; exact hN,hE,hWS.snoc,by rw [List.map_append]; exact hB⟩⟩
 case refine_2 =>
  go_simp;have nhgr:=hgr.alloc (.cells #[.slice none 0 0] 162);have nhv:=hv.alloc (.cells #[.slice none 0 0] 162);have nhg:=hg.alloc (.cells #[.slice none 0 0] 162);have nhm:=hm.alloc (.cells #[.slice none 0 0] 162);have nhN:=hN.alloc (.cells #[.slice none 0 0] 162);have nhE:=hE.alloc (.cells #[.slice none 0 0] 162);have nhB:=hB.alloc (.cells #[.slice none 0 0] 162);have nhWS:=hWS.alloc (.cells #[.slice none 0 0] 162);clear hgr hv hg hm hN hE hB hWS;have hgr:=nhgr;have hv:=nhv;have hg:=nhg;have hm:=nhm;have hN:=nhN;have hE:=nhE;have hB:=nhB;have hWS:=nhWS;clear nhgr nhv nhg nhm nhN nhE nhB nhWS;have b2 : Blk (X2.drew.alloc (.cells #[.slice none 0 0] 162)) (X2.heap.size) 162 #[.slice none 0 0]:=Blk.at_ _ (by simp)
  have zl : lo ≤ (X2.drew.alloc (.cells #[.slice none 0 0] 162)).heap.size:=by first | omega | (simp; omega) | (simp at zl ⊢; omega)
  refine hK.out _ _ (⟨hgr.gv.w1,hv.w3.1,hv.w3.2.1,hv.w3.2.2,hgr.t.w5.2.2.2.2⟩) (⟨hg.w5.2.1,hg.w5.2.2.1,hg.w5.2.2.2.1⟩) (fun hT hS => ?_);clear hK K;(try simp only [Act.put,Q3,Q4,Q5]);refine wpAnyK_ready (rs:=[8]) (by kernel_rfl) (by simp) ?_;refine AllReadyK.cons rfl (fun K hK => ?_) AllReadyK.nil;go_simp;have nhgr:=hgr.alloc (.cells #[.int .i64 (x.r : Int),.int .i64 (x.b : Int),.int .i64 (x.s : Int)] 101);have nhv:=hv.alloc (.cells #[.int .i64 (x.r : Int),.int .i64 (x.b : Int),.int .i64 (x.s : Int)] 101);have nhg:=hg.alloc (.cells #[.int .i64 (x.r : Int),.int .i64 (x.b : Int),.int .i64 (x.s : Int)] 101);have nhm:=hm.alloc (.cells #[.int .i64 (x.r : Int),.int .i64 (x.b : Int),.int .i64 (x.s : Int)] 101);have nhN:=hN.alloc (.cells #[.int .i64 (x.r : Int),.int .i64 (x.b : Int),.int .i64 (x.s : Int)] 101);have nhE:=hE.alloc (.cells #[.int .i64 (x.r : Int),.int .i64 (x.b : Int),.int .i64 (x.s : Int)] 101);have nhB:=hB.alloc (.cells #[.int .i64 (x.r : Int),.int .i64 (x.b : Int),.int .i64 (x.s : Int)] 101);have nhWS:=hWS.alloc (.cells #[.int .i64 (x.r : Int),.int .i64 (x.b : Int),.int .i64 (x.s : Int)] 101);have nb2:=b2.alloc (.cells #[.int .i64 (x.r : Int),.int .i64 (x.b : Int),.int .i64 (x.s : Int)] 101);clear hgr hv hg hm hN hE hB hWS b2;have hgr:=nhgr;have hv:=nhv;have hg:=nhg;have hm:=nhm;have hN:=nhN;have hE:=nhE;have hB:=nhB;have hWS:=nhWS;have b2:=nb2;clear nhgr nhv nhg nhm nhN nhE nhB nhWS nb2;have b1 : Blk ((X2.drew.alloc (.cells #[.slice none 0 0] 162)).alloc (.cells #[.int .i64 (x.r : Int),.int .i64 (x.b : Int),.int .i64 (x.s : Int)] 101)) (X2.heap.size + 1) 101 #[.int .i64 (x.r : Int),.int .i64 (x.b : Int),.int .i64 (x.s : Int)]:=Blk.at_ _ (by simp)
  have zl : lo ≤ ((X2.drew.alloc (.cells #[.slice none 0 0] 162)).alloc (.cells #[.int .i64 (x.r : Int),.int .i64 (x.b : Int),.int .i64 (x.s : Int)] 101)).heap.size:=by first | omega | (simp; omega) | (simp at zl ⊢; omega)
  refine hK.out _ _ (⟨hgr.gv.w1,hv.w3.1,hv.w3.2.1,hv.w3.2.2,hgr.t.w5.2.2.2.2⟩) (⟨hg.w5.2.1,hg.w5.2.2.1,hg.w5.2.2.2.1⟩) (fun hT hS => ?_);clear hK K;(try simp only [Act.put,Q3,Q4,Q5]);refine wpAnyK_ready (rs:=[9]) (by kernel_rfl) (by simp) ?_;refine AllReadyK.cons rfl (fun K hK => ?_) AllReadyK.nil;refine step_app (lo:=0) (base:=lo) (n:=n) (xs:=sts.flatMap encT) _ rfl _ _ ty_states rfl hN rfl (Row.lit (n:=1) (size:=3) b1 (Nat.zero_le _) rfl) rfl rfl hnb1 hnb2 zl ?_;intro A1 d1 wn oN gN _;have kN:=own_kind hN
  have lN:=fun k hk => Nat.le_trans hlo0 (hN.lt k hk).1
  have zl : lo ≤ wn.heap.size:=Nat.le_trans zl gN.size;clear b1;have nhv : Blk wn v 101 #[.int .i64 (x.r : Int),.int .i64 (x.b : Int),.int .i64 (x.s : Int)]:=(gN.block v hv.lt hvN).trans hv;have nhgr:=hgr.other gN (lN) kN (by decide);have nhg:=hg.other gN kN (by decide);have nhm:=hm.other gN kN (by decide);have nhE:=own_other hE gN kN (by decide);have nhB:=own_other hB gN kN (by decide);have nhWS:=hWS.other gN kN (by decide);have nb2:=b2.other gN kN (by decide);clear hgr hg hm hE hB hWS b2;have hgr:=nhgr;have hg:=nhg;have hm:=nhm;have hE:=nhE;have hB:=nhB;have hWS:=nhWS;have b2:=nb2;clear nhgr nhg nhm nhE nhB nhWS nb2;clear hv hN;have hv:=nhv;have hN:=oN;clear nhv oN;refine hK.out _ _ (⟨hgr.gv.w1,hv.w3.1,hv.w3.2.1,hv.w3.2.2,hgr.t.w5.2.2.2.2⟩) (⟨hg.w5.2.1,hg.w5.2.2.1,hg.w5.2.2.2.1⟩) (fun hT hS => ?_);clear hK K;(try simp only [Act.put,Q3,Q4,Q5]);refine wpAnyK_ready (rs:=[15]) (by kernel_rfl) (by simp) ?_;refine AllReadyK.cons rfl (fun K hK => ?_) AllReadyK.nil;refine step_app (lo:=0) (base:=lo) (n:=n) (xs:=eds) _ rfl _ _ ty_stepss rfl hE rfl (Row.lit (n:=1) (size:=1) b2 (Nat.zero_le _) rfl) rfl rfl hnb1 hnb2 zl ?_;intro A2 d2 we oE gE _;have kE:=own_kind hE
  have lE:=fun k hk => Nat.le_trans hlo0 (hE.lt k hk).1
  have zl : lo ≤ we.heap.size:=Nat.le_trans zl gE.size;clear b2;have nhgr:=hgr.other gE (lE) kE (by decide);have nhv:=hv.other gE kE (by decide);have nhg:=hg.other gE kE (by decide);have nhm:=hm.other gE kE (by decide);have nhN:=own_other hN gE kE (by decide);have nhB:=own_other hB gE kE (by decide);have nhWS:=hWS.other gE kE (by decide);clear hgr hv hg hm hN hB hWS;have hgr:=nhgr;have hv:=nhv;have hg:=nhg;have hm:=nhm;have hN:=nhN;have hB:=nhB;have hWS:=nhWS;clear nhgr nhv nhg nhm nhN nhB nhWS;clear hE;have hE:=oE;clear oE;refine hK.out _ _ (⟨hgr.gv.w1,hv.w3.1,hv.w3.2.1,hv.w3.2.2,hgr.t.w5.2.2.2.2⟩) (⟨hg.w5.2.1,hg.w5.2.2.1,hg.w5.2.2.2.1⟩) (fun hT hS => ?_);clear hK K;(try simp only [Act.put,Q3,Q4,Q5]);refine wpAnyK_ready (rs:=[23]) (by kernel_rfl) (by simp) ?_;refine AllReadyK.cons rfl (fun K hK => ?_) AllReadyK.nil;have hcf:=HEF.out.1;go_simp;clear hcf;refine (HEF.out.2 _ x hgr.bel hgr.t HX.out).mono ?_;rintro e wg ⟨rfl,hb⟩;have zl : lo ≤ wg.heap.size:=Nat.le_trans zl hb.size;have nhgr:=hgr.below hb;have nhv:=hv.below hb;have nhg:=hg.below hb;have nhm:=hm.below hb;have nhN:=own_keep hN hb;have nhE:=own_keep hE hb;have nhB:=own_keep hB hb;have nhWS:=hWS.below hb;clear hgr hv hg hm hN hE hB hWS;have hgr:=nhgr;have hv:=nhv;have hg:=nhg;have hm:=nhm;have hN:=nhN;have hE:=nhE;have hB:=nhB;have hWS:=nhWS;clear nhgr nhv nhg nhm nhN nhE nhB nhWS;go_wp2_with fail;refine hK.out _ _ (⟨hgr.gv.w1,hv.w3.1,hv.w3.2.1,hv.w3.2.2,hgr.t.w5.2.2.2.2⟩) (⟨hg.w5.2.1,hg.w5.2.2.1,hg.w5.2.2.2.1⟩) (fun hT hS => ?_);clear hK K;(try simp only [Act.put,Q3,Q4,Q5]);refine wpAnyK_ready (rs:=[24]) (by kernel_rfl) (by simp) ?_;refine AllReadyK.cons rfl (fun K hK => ?_) AllReadyK.nil;go_simp;have nhgr:=hgr.alloc (.cells #[.bool (ef x)] 4);have nhv:=hv.alloc (.cells #[.bool (ef x)] 4);have nhg:=hg.alloc (.cells #[.bool (ef x)] 4);have nhm:=hm.alloc (.cells #[.bool (ef x)] 4);have nhN:=hN.alloc (.cells #[.bool (ef x)] 4);have nhE:=hE.alloc (.cells #[.bool (ef x)] 4);have nhB:=hB.alloc (.cells #[.bool (ef x)] 4);have nhWS:=hWS.alloc (.cells #[.bool (ef x)] 4);clear hgr hv hg hm hN hE hB hWS;have hgr:=nhgr;have hv:=nhv;have hg:=nhg;have hm:=nhm;have hN:=nhN;have hE:=nhE;have hB:=nhB;have hWS:=nhWS;clear nhgr nhv nhg nhm nhN nhE nhB nhWS;have b3 : Blk (wg.alloc (.cells #[.bool (ef x)] 4)) (wg.heap.size) 4 #[.bool (ef x)]:=Blk.at_ _ (by simp)
  have zl : lo ≤ (wg.alloc (.cells #[.bool (ef x)] 4)).heap.size:=by first | omega | (simp; omega) | (simp at zl ⊢; omega)
  refine hK.out _ _ (⟨hgr.gv.w1,hv.w3.1,hv.w3.2.1,hv.w3.2.2,hgr.t.w5.2.2.2.2⟩) (⟨hg.w5.2.1,hg.w5.2.2.1,hg.w5.2.2.2.1⟩) (fun hT hS => ?_);clear hK K;(try simp only [Act.put,Q3,Q4,Q5]);refine wpAnyK_ready (rs:=[25]) (by kernel_rfl) (by simp) ?_;refine AllReadyK.cons rfl (fun K hK => ?_) AllReadyK.nil;refine step_app (lo:=0) (base:=lo) (n:=n) (xs:=bs.map Value.bool) _ rfl _ _ ty_boolz rfl hB rfl (Row.lit (n:=1) (size:=1) b3 (Nat.zero_le _) rfl) rfl rfl hnb3 hnb2 zl ?_;intro A3 d3 wb oB gB _;have kB:=own_kind hB
  have lB:=fun k hk => Nat.le_trans hlo0 (hB.lt k hk).1
  have zl : lo ≤ wb.heap.size:=Nat.le_trans zl gB.size;clear b3;have nhgr:=hgr.other gB (lB) kB (by decide);have nhv:=hv.other gB kB (by decide);have nhg:=hg.other gB kB (by decide);have nhm:=hm.other gB kB (by decide);have nhN:=own_other hN gB kB (by decide);have nhE:=own_other hE gB kB (by decide);have nhWS:=hWS.other gB kB (by decide);clear hgr hv hg hm hN hE hWS;have hgr:=nhgr;have hv:=nhv;have hg:=nhg;have hm:=nhm;have hN:=nhN;have hE:=nhE;have hWS:=nhWS;clear nhgr nhv nhg nhm nhN nhE nhWS;clear hB;have hB:=oB;clear oB;refine hK.out _ _ (⟨hgr.gv.w1,hv.w3.1,hv.w3.2.1,hv.w3.2.2,hgr.t.w5.2.2.2.2⟩) (⟨hg.w5.2.1,hg.w5.2.2.1,hg.w5.2.2.2.1⟩) (fun hT hS => ?_);clear hK K;(try simp only [Act.put,Q3,Q4,Q5]);(refine KU2 26 ?_; (try simp only [Act.put,Q3,Q4,Q5]));(refine KU2 27 ?_; (try simp only [Act.put,Q3,Q4,Q5]));refine wpAnyK_ready (rs:=[28]) (by kernel_rfl) (by simp) ?_;refine AllReadyK.consT (by kernel_rfl) rfl (fun K hK => ?_) AllReadyK.nil;obtain ⟨k0,k1,k2,k3,k4⟩:=hg.w5;have kf:=hg.thaw 1;have zg:=hg.lt;go_simp;clear k0 k1 k2 k3 k4 kf zg;have kg:=hg.kind;have ghg:=hg.poke 1 (.slice A1 (n + 1) d1);have nhgr:=hgr.other (grown_poke _ g 1 (.slice A1 (n + 1) d1)) (fun k hk => by injection hk with hk; omega) kg (by decide);have nhv:=hv.other (grown_poke _ g 1 (.slice A1 (n + 1) d1)) kg (by decide);have nhm:=hm.other (grown_poke _ g 1 (.slice A1 (n + 1) d1)) kg (by decide);have nhN:=own_other hN (grown_poke _ g 1 (.slice A1 (n + 1) d1)) kg (by decide);have nhE:=own_other hE (grown_poke _ g 1 (.slice A1 (n + 1) d1)) kg (by decide);have nhB:=own_other hB (grown_poke _ g 1 (.slice A1 (n + 1) d1)) kg (by decide);have nhWS:=hWS.other (grown_poke _ g 1 (.slice A1 (n + 1) d1)) kg (by decide);clear hgr hv hm hN hE hB hWS;have hgr:=nhgr;have hv:=nhv;have hm:=nhm;have hN:=nhN;have hE:=nhE;have hB:=nhB;have hWS:=nhWS;clear nhgr nhv nhm nhN nhE nhB nhWS;have hg:=ghg;clear ghg kg;simp only [Q3,Q4,Q5] at hg;refine hK.out _ _ (⟨hgr.gv.w1,hv.w3.1,hv.w3.2.1,hv.w3.2.2,hgr.t.w5.2.2.2.2⟩) (fun hT => ?_);clear hK K;(try simp only [Act.put,Q3,Q4,Q5]);(refine KU3 29 ?_; (try simp only [Act.put,Q3,Q4,Q5]));(refine KU3 30 ?_; (try simp only [Act.put,Q3,Q4,Q5]));refine wpAnyK_ready (rs:=[31]) (by kernel_rfl) (by simp) ?_;refine AllReadyK.consT (by kernel_rfl) rfl (fun K hK => ?_) AllReadyK.nil;obtain ⟨k0,k1,k2,k3,k4⟩:=hg.w5;have kf:=hg.thaw 2;have zg:=hg.lt;go_simp;clear k0 k1 k2 k3 k4 kf zg;have kg:=hg.kind;have ghg:=hg.poke 2 (.slice A2 (n + 1) d2);have nhgr:=hgr.other (grown_poke _ g 2 (.slice A2 (n + 1) d2)) (fun k hk => by injection hk with hk; omega) kg (by decide);have nhv:=hv.other (grown_poke _ g 2 (.slice A2 (n + 1) d2)) kg (by decide);have nhm:=hm.other (grown_poke _ g 2 (.slice A2 (n + 1) d2)) kg (by decide);have nhN:=own_other hN (grown_poke _ g 2 (.slice A2 (n + 1) d2)) kg (by decide);have nhE:=own_other hE (grown_poke _ g 2 (.slice A2 (n + 1) d2)) kg (by decide);have nhB:=own_other hB (grown_poke _ g 2 (.slice A2 (n + 1) d2)) kg (by decide);have nhWS:=hWS.other (grown_poke _ g 2 (.slice A2 (n + 1) d2)) kg (by decide);clear hgr hv hm hN hE hB hWS;have hgr:=nhgr;have hv:=nhv;have hm:=nhm;have hN:=nhN;have hE:=nhE;have hB:=nhB;have hWS:=nhWS;clear nhgr nhv nhm nhN nhE nhB nhWS;have hg:=ghg;clear ghg kg;simp only [Q3,Q4,Q5] at hg;refine hK.out _ _ (⟨hgr.gv.w1,hv.w3.1,hv.w3.2.1,hv.w3.2.2,hgr.t.w5.2.2.2.2⟩) (fun hT => ?_);clear hK K;(try simp only [Act.put,Q3,Q4,Q5]);(refine KU3 32 ?_; (try simp only [Act.put,Q3,Q4,Q5]));(refine KU3 33 ?_; (try simp only [Act.put,Q3,Q4,Q5]));refine wpAnyK_ready (rs:=[34]) (by kernel_rfl) (by simp) ?_;refine AllReadyK.consT (by kernel_rfl) rfl (fun K hK => ?_) AllReadyK.nil;obtain ⟨k0,k1,k2,k3,k4⟩:=hg.w5;have kf:=hg.thaw 3;have zg:=hg.lt;go_simp;clear k0 k1 k2 k3 k4 kf zg;have kg:=hg.kind;have ghg:=hg.poke 3 (.slice A3 (n + 1) d3);have nhgr:=hgr.other (grown_poke _ g 3 (.slice A3 (n + 1) d3)) (fun k hk => by injection hk with hk; omega) kg (by decide);have nhv:=hv.other (grown_poke _ g 3 (.slice A3 (n + 1) d3)) kg (by decide);have nhm:=hm.other (grown_poke _ g 3 (.slice A3 (n + 1) d3)) kg (by decide);have nhN:=own_other hN (grown_poke _ g 3 (.slice A3 (n + 1) d3)) kg (by decide);have nhE:=own_other hE (grown_poke _ g 3 (.slice A3 (n + 1) d3)) kg (by decide);have nhB:=own_other hB (grown_poke _ g 3 (.slice A3 (n + 1) d3)) kg (by decide);have nhWS:=hWS.other (grown_poke _ g 3 (.slice A3 (n + 1) d3)) kg (by decide);clear hgr hv hm hN hE hB hWS;have hgr:=nhgr;have hv:=nhv;have hm:=nhm;have hN:=nhN;have hE:=nhE;have hB:=nhB;have hWS:=nhWS;clear nhgr nhv nhm nhN nhE nhB nhWS;have hg:=ghg;clear ghg kg;simp only [Q3,Q4,Q5] at hg;refine hK.out _ _ (⟨hgr.gv.w1,hv.w3.1,hv.w3.2.1,hv.w3.2.2,hgr.t.w5.2.2.2.2⟩) (fun hT => ?_);clear hK K;(try simp only [Act.put,Q3,Q4,Q5]);refine wpAnyK_done (by kernel_rfl) ?_ _;go_wp2_with fail;go_ret;exact ⟨rfl,by simpa using zl,hgr,A1,A2,A3,d1,d2,d3,⟨hg,hm,by rw [List.flatMap_append]; exact hN,hE,hWS.snoc,by rw [List.map_append]; exact hB⟩⟩
end Go.Proofs.YtjggbpchmbdocaaGreatDoor
/- The plain theory of explore: which states are found, and with which steps. -/
namespace Go.Proofs.YtjggbpchmbdocaaGreatDoor

def numS (sts : List StE) (l : List (Nat × StE)) : List (Nat × Nat):=l.map fun p => (p.1,sts.idxOf p.2)
structure ExI (nx : StE → List (Nat × StE)) (ef : StE → Bool) (gd : StE → Prop) (s0 : StE) (sts : List StE) (stp : List (List (Nat × Nat))) (bs : List Bool) (i : Nat) (dn : List (Nat × StE)) : Prop where
  nodup : sts.Nodup
  len : stp.length = sts.length
  bs : bs = sts.map ef
  first : sts[0]? = some s0
  steps : ∀ j x, sts[j]? = some x → stp[j]? = some (if j < i then (if ef x then [] else numS sts (nx x)) else if j = i then numS sts dn else [])
  closed : ∀ j x, sts[j]? = some x → j < i → ef x = false → ∀ p ∈ nx x, p.2 ∈ sts
  dnin : ∀ p ∈ dn, p.2 ∈ sts
  reach : ∀ j, 0 < j → j < sts.length → ∃ j' k, j' < j ∧ (k, j) ∈ stp.getD j' []
  good : ∀ x ∈ sts, gd x
section
variable {nx : StE → List (Nat × StE)} {ef : StE → Bool} {gd : StE → Prop} {s0 : StE} {sts : List StE} {stp : List (List (Nat × Nat))} {bs : List Bool} {i : Nat} {dn : List (Nat × StE)}
theorem ExI.start (h0 : gd s0) : ExI nx ef gd s0 [s0] [[]] [ef s0] 0 []:=by
 refine ⟨by simp,rfl,rfl,rfl,fun j x hj => ?_,fun j x _ h => by omega,by simp,fun j h1 h2 => by simp at h2; omega,fun x hx => by simp at hx; subst hx; exact h0⟩
 cases j with
 | zero => simp [numS]
 | succ j => simp at hj
theorem numS_app {l : List (Nat × StE)} {y : StE} (h : ∀ p ∈ l,p.2 ∈ sts) : numS (sts ++ [y]) l = numS sts l:=by
 unfold numS
 refine List.map_congr_left fun p hp => ?_
 rw [List.idxOf_append,if_pos (h p hp)]
theorem ExI.old (h : ExI nx ef gd s0 sts stp bs i dn) {k : Nat} {y : StE} (hy : y ∈ sts) {R : List (Nat × Nat)} (hR : stp[i]? = some R) : ExI nx ef gd s0 sts (stp.set i (R ++ [(k,sts.idxOf y)])) bs i (dn ++ [(k,y)]):=by
 obtain ⟨hi,hRe⟩:=List.getElem?_eq_some_iff.1 hR;refine ⟨h.nodup,by simp [h.len],h.bs,h.first,fun j x hj => ?_,h.closed,fun p hp => ?_,fun j h1 h2 => ?_,h.good⟩
 ·have h3:=h.steps j x hj
  by_cases e : j = i
  ·subst e
   rw [if_neg (Nat.lt_irrefl _),if_pos rfl] at h3 ⊢;rw [List.getElem?_set_self hi,show R = numS sts dn by rw [hR] at h3; exact Option.some.inj h3]
   simp [numS]
  ·rw [List.getElem?_set_ne (Ne.symm e),h3,if_neg e,if_neg e]
 ·rcases List.mem_append.1 hp with hp | hp
  ·exact h.dnin p hp
  ·simp at hp; subst hp; exact hy
 ·obtain ⟨j',k',h3,h4⟩:=h.reach j h1 h2
  refine ⟨j',k',h3,?_⟩;simp only [List.getD_eq_getElem?_getD] at h4 ⊢
  by_cases e : j' = i
  ·subst e
   rw [List.getElem?_set_self hi];rw [hR] at h4;exact List.mem_append_left _ h4
  ·rw [List.getElem?_set_ne (Ne.symm e)]; exact h4
theorem ExI.new (h : ExI nx ef gd s0 sts stp bs i dn) {k : Nat} {y : StE} (hy : y ∉ sts) (hg : gd y) {R : List (Nat × Nat)} (hR : stp[i]? = some R) : ExI nx ef gd s0 (sts ++ [y]) ((stp ++ [[]]).set i (R ++ [(k,sts.length)])) (bs ++ [ef y]) i (dn ++ [(k,y)]):=by
 obtain ⟨hi,hRe⟩:=List.getElem?_eq_some_iff.1 hR;have hl:=h.len
 have hil : i < (stp ++ [[]]).length:=by simp; omega
 have hix : (sts ++ [y]).idxOf y = sts.length:=by rw [List.idxOf_append,if_neg hy]; simp
 refine ⟨?_,by simp [hl],by rw [h.bs]; simp,?_,fun j x hj => ?_,fun j x hj hji hx p hp => ?_,fun p hp => ?_,fun j h1 h2 => ?_,fun x hx => ?_⟩
 ·rw [List.nodup_append]
  exact ⟨h.nodup,by simp,fun a ha b hb => by simp at hb; subst hb; rintro rfl; exact hy ha⟩
 ·have:=h.first
  have h0 : 0 < sts.length:=by omega
  rw [List.getElem?_append_left h0]; exact this
 ·by_cases e : j = i
  ·subst e
   rw [if_neg (Nat.lt_irrefl _),if_pos rfl,List.getElem?_set_self hil];rw [List.getElem?_append_left (by omega)] at hj;have h3:=h.steps j x hj;rw [if_neg (Nat.lt_irrefl _),if_pos rfl,hR] at h3;rw [Option.some.inj h3]
   have e2 : numS (sts ++ [y]) (dn ++ [(k,y)]) = numS (sts ++ [y]) dn ++ [(k,(sts ++ [y]).idxOf y)]:=by simp [numS]
   rw [e2,hix,numS_app h.dnin]
  ·rw [List.getElem?_set_ne (Ne.symm e)]
   by_cases e2 : j < sts.length
   ·rw [List.getElem?_append_left e2] at hj
    rw [List.getElem?_append_left (by omega),h.steps j x hj,if_neg e,if_neg e]
    by_cases e3 : j < i
    ·rw [if_pos e3,if_pos e3]
     by_cases e4 : ef x = true
     ·rw [if_pos e4,if_pos e4]
     ·rw [if_neg e4,if_neg e4,numS_app (h.closed j x hj e3 (by simpa using e4))]
    ·rw [if_neg e3,if_neg e3]
   ·have e3 : j = sts.length:=by
     have:=(List.getElem?_eq_some_iff.1 hj).1
     simp at this; omega
    subst e3;rw [if_neg (by omega),if_neg e,List.getElem?_append_right (by omega)]
    simp [hl]
 ·have hjl : j < sts.length:=by omega
  rw [List.getElem?_append_left hjl] at hj;exact List.mem_append_left _ (h.closed j x hj hji hx p hp)
 ·rcases List.mem_append.1 hp with hp | hp
  ·exact List.mem_append_left _ (h.dnin p hp)
  ·simp at hp; subst hp; simp
 ·by_cases e : j < sts.length
  ·obtain ⟨j',k',h3,h4⟩:=h.reach j h1 e
   refine ⟨j',k',h3,?_⟩;simp only [List.getD_eq_getElem?_getD] at h4 ⊢
   by_cases e2 : j' = i
   ·subst e2
    rw [List.getElem?_set_self hil];rw [hR] at h4;exact List.mem_append_left _ h4
   ·rw [List.getElem?_set_ne (Ne.symm e2),List.getElem?_append_left (by omega)]; exact h4
  ·have e3 : j = sts.length:=by simp at h2; omega
   subst e3;refine ⟨i,k,by omega,?_⟩;rw [List.getD_eq_getElem?_getD,List.getElem?_set_self hil]
   simp
 ·rcases List.mem_append.1 hx with hx | hx
  ·exact h.good x hx
  ·simp at hx; subst hx; exact hg
theorem ExI.next (h : ExI nx ef gd s0 sts stp bs i dn) {x : StE} (hx : sts[i]? = some x) (hd : if ef x then dn = [] else dn = nx x) : ExI nx ef gd s0 sts stp bs (i + 1) []:=by
 refine ⟨h.nodup,h.len,h.bs,h.first,fun j y hj => ?_,fun j y hj hji hy p hp => ?_,by simp,h.reach,h.good⟩
 ·rw [h.steps j y hj]
  by_cases e : j = i
  ·subst e
   rw [hx] at hj;injection hj with hj;subst hj;rw [if_neg (Nat.lt_irrefl _),if_pos rfl,if_pos (Nat.lt_succ_self _)]
   by_cases e2 : ef x = true
   ·rw [if_pos e2] at hd; rw [if_pos e2,hd]; rfl
   ·rw [if_neg e2] at hd; rw [if_neg e2,hd]
  ·by_cases e2 : j < i
   ·have e3 : j < i + 1:=by omega
    simp only [e2,e3,if_true]
   ·have e3 : ¬ j < i + 1:=by omega
    simp only [e2,e,e3,if_false]
    split <;> rfl
 ·by_cases e : j = i
  ·subst e
   rw [hx] at hj;injection hj with hj;subst hj;rw [if_neg (by simp [hy])] at hd;rw [← hd] at hp;exact h.dnin p hp
  ·exact h.closed j y hj (by omega) hy p hp
structure ExOk (nx : StE → List (Nat × StE)) (ef : StE → Bool) (gd : StE → Prop) (s0 : StE) (sts : List StE) (stp : List (List (Nat × Nat))) : Prop where
  nodup : sts.Nodup
  len : stp.length = sts.length
  first : sts[0]? = some s0
  steps : ∀ (j : Nat) (x : StE), sts[j]? = some x → stp[j]? = some (if ef x then [] else numS sts (nx x))
  closed : ∀ x ∈ sts, ef x = false → ∀ p ∈ nx x, p.2 ∈ sts
  reach : ∀ j : Nat, 0 < j → j < sts.length → ∃ j' k, j' < j ∧ (k, j) ∈ stp.getD j' []
  good : ∀ x ∈ sts, gd x
theorem ExI.done (h : ExI nx ef gd s0 sts stp bs sts.length dn) : ExOk nx ef gd s0 sts stp:=by
 refine ⟨h.nodup,h.len,h.first,fun j x hj => ?_,fun x hx he p hp => ?_,h.reach,h.good⟩
 ·rw [h.steps j x hj,if_pos (List.getElem?_eq_some_iff.1 hj).1]
 ·obtain ⟨j,hj,rfl⟩:=List.mem_iff_getElem.1 hx
  exact h.closed j _ (List.getElem?_eq_getElem hj) hj he p hp
end
theorem nodup_le : ∀ (N : Nat) (l : List Nat),l.Nodup → (∀ x ∈ l,x < N) → l.length ≤ N
 | 0,l,_,h => by
  cases l with
  | nil => simp
  | cons x l => exact absurd (h x (List.mem_cons_self ..)) (by omega)
 | N + 1,l,hn,h => by
  by_cases hN : N ∈ l
  ·have h1:=nodup_le N (l.erase N) (hn.erase N) (fun x hx => by
    have h2:=h x (List.mem_of_mem_erase hx)
    have h3 : x ≠ N:=fun e => by subst e; exact (List.Nodup.mem_erase_iff hn).1 hx |>.1 rfl
    omega)
   rw [List.length_erase_of_mem hN] at h1;have : 0 < l.length:=List.length_pos_of_mem hN;omega
  ·have:=nodup_le N l hn (fun x hx => by
    have h2:=h x hx
    have h3 : x ≠ N:=fun e => by subst e; exact hN hx
    omega)
   omega
theorem nodup_map_inj {α β : Type} {f : α → β} : ∀ {l : List α},l.Nodup → (∀ x ∈ l,∀ y ∈ l,f x = f y → x = y) → (l.map f).Nodup
 | [],_,_ => by simp
 | x :: l,hn,hi => by
  rw [List.nodup_cons] at hn;rw [List.map_cons,List.nodup_cons];refine ⟨fun hm => ?_,nodup_map_inj hn.2 (fun a ha b hb => hi a (List.mem_cons_of_mem _ ha) b (List.mem_cons_of_mem _ hb))⟩;obtain ⟨y,hy,e⟩:=List.mem_map.1 hm;have:=hi y (List.mem_cons_of_mem _ hy) x (List.mem_cons_self ..) e;subst this;exact hn.1 hy
theorem few_states {sts : List StE} (hn : sts.Nodup) (h : ∀ x ∈ sts,x.r < 100 ∧ x.b < 1024 ∧ x.s < 6) : sts.length ≤ 614400:=by
 have h1:=nodup_le 614400 (sts.map fun x => (x.r * 1024 + x.b) * 6 + x.s) (nodup_map_inj hn (fun x hx y hy e => by
  obtain ⟨a1,a2,a3⟩:=h x hx;obtain ⟨b1,b2,b3⟩:=h y hy
  cases x; cases y
  simp only at *
  congr 1 <;> omega)) (fun z hz => by
  obtain ⟨x,hx,rfl⟩:=List.mem_map.1 hz;obtain ⟨a1,a2,a3⟩:=h x hx
  omega)
 simpa using h1
end Go.Proofs.YtjggbpchmbdocaaGreatDoor
/- The plain theory of path: the doors of a best way, one tight step after the other. -/
namespace Go.Proofs.YtjggbpchmbdocaaGreatDoor

def tightB (tm : Nat → Int) (far : List (Int × Int)) (i : Nat) (p : Nat × Nat) : Bool:=decide (0 ≤ (fA far p.2).1) && (decide ((fA far p.2).1 + tm p.1 = (fA far i).1) && decide ((fA far p.2).2 + 1 = (fA far i).2))
theorem tightB_iff {tm : Nat → Int} {far : List (Int × Int)} {i : Nat} {p : Nat × Nat} : tightB tm far i p = true ↔ 0 ≤ (fA far p.2).1 ∧ (fA far p.2).1 + tm p.1 = (fA far i).1 ∧ (fA far p.2).2 + 1 = (fA far i).2:=by
 unfold tightB;simp only [Bool.and_eq_true,decide_eq_true_eq]
def pathG (stp : List (List (Nat × Nat))) (lst : List Bool) (tm : Nat → Int) (far : List (Int × Int)) : Nat → Nat → List Nat
 | 0,_ => []
 | d + 1,i => if lst[i]? = some true then [] else match (stp.getD i []).find? (tightB tm far i) with
  | none => []
  | some p => p.1 :: pathG stp lst tm far d p.2
section
variable {n : Nat} {stp : List (List (Nat × Nat))} {lst : List Bool} {tm : Nat → Int} {far : List (Int × Int)}
theorem FarOk.way (h : FarOk n stp lst tm far) {i : Nat} (hi : i < n) (h0 : 0 ≤ (fA far i).1) : (∃ ks,WayG stp lst tm i (fA far i).1 (fA far i).2 ks) ∧ ∀ t d ks,WayG stp lst tm i t d ks → leK (fA far i) (t,d):=by
 rcases h.val i hi with ⟨e,_⟩ | ⟨_,h1,h2⟩
 ·rw [e] at h0; exact absurd h0 (by decide)
 ·exact ⟨h1,h2⟩
theorem FarOk.isway (h : FarOk n stp lst tm far) {i : Nat} (hi : i < n) {t d : Int} {ks : List Nat} (hw : WayG stp lst tm i t d ks) : 0 ≤ (fA far i).1:=by
 rcases h.val i hi with ⟨_,h1⟩ | ⟨h1,_⟩
 ·exact absurd hw (h1 _ _ _)
 ·exact h1
theorem FarOk.neg (h : FarOk n stp lst tm far) {i : Nat} (hi : i < n) (h0 : (fA far i).1 < 0) : fA far i = (-1,0) ∧ ∀ t d ks,¬ WayG stp lst tm i t d ks:=by
 rcases h.val i hi with h1 | ⟨h1,_⟩
 ·exact h1
 ·omega
theorem FarOk.tight (h : FarOk n stp lst tm far) (hto : ∀ i k j,(k,j) ∈ stp.getD i [] → j < n) {i : Nat} (hi : i < n) (h0 : 0 ≤ (fA far i).1) (hl : lst[i]? ≠ some true) :
  ∃ p,(stp.getD i []).find? (tightB tm far i) = some p ∧ p ∈ stp.getD i [] ∧ p.2 < n ∧ 0 ≤ (fA far p.2).1 ∧ (fA far p.2).1 + tm p.1 = (fA far i).1 ∧ (fA far p.2).2 + 1 = (fA far i).2:=by
 obtain ⟨⟨ks,hk⟩,hb⟩:=h.way hi h0
 have hex : ∃ p ∈ stp.getD i [],tightB tm far i p = true:=by
  generalize e1 : (fA far i).1 = t at hk;generalize e2 : (fA far i).2 = d at hk
  cases hk with
  | stop h1 => exact absurd h1 hl
  | @go _ k j t d ks he hw =>
   have hj:=hto i k j he;have hj0:=h.isway hj hw;obtain ⟨⟨ks2,hk2⟩,hb2⟩:=h.way hj hj0;have h1:=hb2 _ _ _ hw;have h2:=hb _ _ _ (WayG.go he hk2);unfold leK at h1 h2;simp only at h1 h2
   refine ⟨(k,j),he,tightB_iff.2 ⟨hj0,?_,?_⟩⟩ <;> simp only <;> omega
 obtain ⟨q,hq,hqt⟩:=hex
 cases hf : (stp.getD i []).find? (tightB tm far i) with
 | none => exact absurd hqt (by simpa using List.find?_eq_none.1 hf q hq)
 | some p =>
  have hp:=List.mem_of_find?_eq_some hf;have ht:=tightB_iff.1 (List.find?_some hf);exact ⟨p,rfl,hp,hto i p.1 p.2 hp,ht⟩
theorem FarOk.atEnd (h : FarOk n stp lst tm far) (hend : ∀ i,lst[i]? = some true → stp.getD i [] = []) {i : Nat} (hi : i < n) (hl : lst[i]? = some true) : fA far i = (0,0):=by
 have h0:=h.isway hi (.stop hl);obtain ⟨⟨ks,hk⟩,_⟩:=h.way hi h0;obtain ⟨e1,e2⟩:=hk.none (hend i hl);exact Prod.ext e1 e2
theorem FarOk.path (h : FarOk n stp lst tm far) (hto : ∀ i k j,(k,j) ∈ stp.getD i [] → j < n) (hend : ∀ i,lst[i]? = some true → stp.getD i [] = []) : ∀ (d : Nat) (i : Nat),i < n → 0 ≤ (fA far i).1 → (fA far i).2 = (d : Int) →
  WayG stp lst tm i (fA far i).1 (fA far i).2 (pathG stp lst tm far d i) ∧ (pathG stp lst tm far d i).length = d
 | 0,i,hi,h0,hd => by
  by_cases hl : lst[i]? = some true
  ·rw [h.atEnd hend hi hl]; exact ⟨.stop hl,rfl⟩
  ·obtain ⟨p,_,_,hp,_,_,h3⟩:=h.tight hto hi h0 hl
   have:=(h.bnd p.2 hp).1;omega
 | d + 1,i,hi,h0,hd => by
  by_cases hl : lst[i]? = some true
  ·rw [h.atEnd hend hi hl] at hd
   simp only at hd;omega
  ·obtain ⟨p,hf,hm,hp,h1,h2,h3⟩:=h.tight hto hi h0 hl
   obtain ⟨hw,hlen⟩:=h.path hto hend d p.2 hp h1 (by omega)
   have e : pathG stp lst tm far (d + 1) i = p.1 :: pathG stp lst tm far d p.2:=by
    show (if lst[i]? = some true then [] else match (stp.getD i []).find? (tightB tm far i) with | none => [] | some p => p.1 :: pathG stp lst tm far d p.2) = _;rw [if_neg hl,hf]
   rw [e];refine ⟨?_,by simp [hlen]⟩;have:=WayG.go (stp:=stp) (lst:=lst) (tm:=tm) (i:=i) (k:=p.1) (j:=p.2) hm hw;rw [h2,h3] at this;exact this
theorem pathG_next {d i : Nat} (hl : lst[i]? ≠ some true) {p : Nat × Nat} (hf : (stp.getD i []).find? (tightB tm far i) = some p) : pathG stp lst tm far (d + 1) i = p.1 :: pathG stp lst tm far d p.2:=by
 show (if lst[i]? = some true then [] else match (stp.getD i []).find? (tightB tm far i) with | none => [] | some p => p.1 :: pathG stp lst tm far d p.2) = _;rw [if_neg hl,hf]
theorem pathG_end {d i : Nat} (hl : lst[i]? = some true) : pathG stp lst tm far d i = []:=by
 cases d with
 | zero => rfl
 | succ d =>
  show (if lst[i]? = some true then [] else _) = _;rw [if_pos hl]
theorem find_hit {α : Type} {f : α → Bool} {l : List α} {m : Nat} (hm : m < l.length) (h : (l.take m).find? f = none) (hf : f l[m] = true) : l.find? f = some l[m]:=by
 have e : l = l.take m ++ l[m] :: l.drop (m + 1):=by rw [← List.drop_eq_getElem_cons hm,List.take_append_drop]
 generalize l[m] = x at *;rw [e,List.find?_append,h]
 simp [hf]
theorem find_on {α : Type} {f : α → Bool} {l : List α} {m : Nat} (hm : m < l.length) (h : (l.take m).find? f = none) (hf : f l[m] = false) : (l.take (m + 1)).find? f = none:=by
 rw [List.take_add_one,List.find?_append,h,List.getElem?_eq_getElem hm]
 simp [hf]
end
structure PathR where
  ks : List Nat
  t : Int
  is : Bool
def pathR (stp : List (List (Nat × Nat))) (lst : List Bool) (tm : Nat → Int) (far : List (Int × Int)) : PathR :=
 if (fA far 0).1 < 0 then ⟨[],0,false⟩ else ⟨pathG stp lst tm far (fA far 0).2.toNat 0,(fA far 0).1,true⟩
end Go.Proofs.YtjggbpchmbdocaaGreatDoor
