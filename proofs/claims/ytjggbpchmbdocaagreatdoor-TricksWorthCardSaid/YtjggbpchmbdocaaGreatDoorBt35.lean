/- Texts of this seat, laid together: HpW HpK HpN. -/
import Derived.Test.YtjggbpchmbdocaaGreatDoorBt32
import Derived.Test.YtjggbpchmbdocaaGreatDoorBt34
import Derived.Test.YtjggbpchmbdocaaGreatDoorBt28
import Derived.Test.YtjggbpchmbdocaaGreatDoorBt30
import Derived.Test.YtjggbpchmbdocaaGreatDoorBt33
/- Ways over states, plain: what explore and measure find are the walks of the map. -/
set_option linter.unusedVariables false
set_option linter.unusedSimpArgs false
namespace Go.Proofs.YtjggbpchmbdocaaGreatDoor
open Go.RowKit

inductive WayX (nx : StE → List (Nat × StE)) (ef : StE → Bool) (tm : Nat → Int) : StE → Int → Int → List Nat → Prop
  | stop {x : StE} : ef x = true → WayX nx ef tm x 0 0 []
  | go {x y : StE} {k : Nat} {t d : Int} {ks : List Nat} : ef x = false → (k, y) ∈ nx x → WayX nx ef tm y t d ks → WayX nx ef tm x (t + tm k) (d + 1) (k :: ks)
section
variable {nx nx' : StE → List (Nat × StE)} {ef : StE → Bool} {gd : StE → Prop} {tm : Nat → Int} {s0 : StE} {sts : List StE} {stp : List (List (Nat × Nat))}
theorem ExOk.toX (h : ExOk nx ef gd s0 sts stp) {i : Nat} {t d : Int} {ks : List Nat} (hw : WayG stp (sts.map ef) tm i t d ks) : ∀ x,sts[i]? = some x → WayX nx ef tm x t d ks:=by
 induction hw with
 | @stop i hl =>
  intro x hx;rw [List.getElem?_map,hx] at hl;exact .stop (Option.some.inj hl)
 | @go i k j t d ks he _ ih =>
  intro x hx;rw [List.getD_eq_getElem?_getD,h.steps i x hx] at he
  by_cases hf : ef x = true
  ·rw [if_pos hf] at he; cases he
  ·rw [if_neg hf] at he
   obtain ⟨p,hp,e⟩:=List.mem_map.1 he;injection e with e1 e2
   have hf' : ef x = false:=by simpa using hf
   have hm:=h.closed x (List.mem_of_getElem? hx) hf' p hp
   have hj : sts[j]? = some p.2:=by
    rw [← e2,List.getElem?_eq_getElem (List.idxOf_lt_length_of_mem hm),List.getElem_idxOf]
   rw [← e1];exact .go hf' hp (ih p.2 hj)
theorem ExOk.ofX (h : ExOk nx ef gd s0 sts stp) {x : StE} {t d : Int} {ks : List Nat} (hw : WayX nx ef tm x t d ks) : ∀ i : Nat,sts[i]? = some x → WayG stp (sts.map ef) tm i t d ks:=by
 induction hw with
 | @stop x hl =>
  intro i hx;exact .stop (by rw [List.getElem?_map,hx]; exact congrArg some hl)
 | @go x y k t d ks hf hm _ ih =>
  intro i hx;have hy:=h.closed x (List.mem_of_getElem? hx) hf _ hm
  have hj : sts[sts.idxOf y]? = some y:=by rw [List.getElem?_eq_getElem (List.idxOf_lt_length_of_mem hy),List.getElem_idxOf]
  refine .go (j:=sts.idxOf y) ?_ (ih _ hj);rw [List.getD_eq_getElem?_getD,h.steps i x hx,if_neg (by simp [hf])];exact List.mem_map.2 ⟨(k,y),hm,rfl⟩
theorem WayX.mono (hs : ∀ x p,p ∈ nx x → p ∈ nx' x) {x : StE} {t d : Int} {ks : List Nat} (hw : WayX nx ef tm x t d ks) : WayX nx' ef tm x t d ks:=by
 induction hw with
 | stop h => exact .stop h
 | go h hm _ ih => exact .go h (hs _ _ hm) ih
theorem WayX.nn (ht : ∀ x p,p ∈ nx x → 1 ≤ tm p.1) {x : StE} {t d : Int} {ks : List Nat} (hw : WayX nx ef tm x t d ks) : 0 ≤ t ∧ d = ks.length:=by
 induction hw with
 | stop h => exact ⟨Int.le_refl _,rfl⟩
 | @go x y k t d ks h hm _ ih =>
  have:=ht _ _ hm;simp only at this;exact ⟨by omega,by rw [List.length_cons]; omega⟩
def LeastT (nx : StE → List (Nat × StE)) (ef : StE → Bool) (tm : Nat → Int) (x : StE) (v : Int) : Prop :=
 (v = -1 ∧ ∀ t d ks,¬ WayX nx ef tm x t d ks) ∨ (0 ≤ v ∧ (∃ d ks,WayX nx ef tm x v d ks) ∧ ∀ t d ks,WayX nx ef tm x t d ks → v ≤ t)
theorem LeastT.uniq {x : StE} {a b : Int} (ha : LeastT nx ef tm x a) (hb : LeastT nx ef tm x b) : a = b:=by
 rcases ha with ⟨rfl,h1⟩ | ⟨h0,⟨d,ks,h1⟩,h2⟩
 ·rcases hb with ⟨rfl,_⟩ | ⟨_,⟨d,ks,h3⟩,_⟩
  ·rfl
  ·exact absurd h3 (h1 _ _ _)
 ·rcases hb with ⟨rfl,h3⟩ | ⟨_,⟨d',ks',h3⟩,h4⟩
  ·exact absurd h1 (h3 _ _ _)
  ·exact Int.le_antisymm (h2 _ _ _ h3) (h4 _ _ _ h1)
theorem ExOk.least (h : ExOk nx ef gd s0 sts stp) {n : Nat} (hn : sts.length = n) {far : List (Int × Int)} (hF : FarOk n stp (sts.map ef) tm far) {i : Nat} {x : StE} (hi : sts[i]? = some x) : LeastT nx ef tm x (fA far i).1:=by
 have hin : i < n:=by have:=(List.getElem?_eq_some_iff.1 hi).1; omega
 rcases hF.val i hin with ⟨e,h1⟩ | ⟨h0,⟨ks,h1⟩,h2⟩
 ·exact .inl ⟨by rw [e],fun t d ks hw => h1 _ _ _ (h.ofX hw i hi)⟩
 ·refine .inr ⟨h0,⟨_,ks,h.toX h1 x hi⟩,fun t d ks hw => ?_⟩
  have:=h2 _ _ _ (h.ofX hw i hi);unfold leK at this;simp only at this;omega
structure PathOk (nx : StE → List (Nat × StE)) (ef : StE → Bool) (tm : Nat → Int) (x : StE) (n : Nat) (r : PathR) : Prop where
  no : r.is = false → r = ⟨[], 0, false⟩ ∧ ∀ t d ks, ¬ WayX nx ef tm x t d ks
  yes : r.is = true → (∃ d, WayX nx ef tm x r.t d r.ks) ∧ (∀ t d ks, WayX nx ef tm x t d ks → r.t ≤ t) ∧ 0 ≤ r.t ∧ r.ks.length ≤ n
theorem ExOk.path (h : ExOk nx ef gd s0 sts stp) {n : Nat} (hn : sts.length = n) {far : List (Int × Int)} (hF : FarOk n stp (sts.map ef) tm far) (hto : ∀ i k j,(k,j) ∈ stp.getD i [] → j < n) (hend : ∀ i : Nat,(sts.map ef)[i]? = some true → stp.getD i [] = []) : PathOk nx ef tm s0 n (pathR stp (sts.map ef) tm far):=by
 have h0 : 0 < n:=by have:=(List.getElem?_eq_some_iff.1 h.first).1; omega
 have hl:=h.least hn hF h.first
 unfold pathR
 by_cases c : (fA far 0).1 < 0
 ·rw [if_pos c]
  refine ⟨fun _ => ⟨rfl,?_⟩,by simp⟩;rcases hl with ⟨_,h1⟩ | ⟨h1,_⟩
  ·exact h1
  ·omega
 ·rw [if_neg c]
  refine ⟨by simp,fun _ => ?_⟩;have hb:=hF.bnd 0 h0;obtain ⟨hw,hlen⟩:=hF.path hto hend (fA far 0).2.toNat 0 h0 (by omega) (by omega);refine ⟨⟨_,h.toX hw s0 h.first⟩,?_,by simp only; omega,by simp only; omega⟩;rcases hl with ⟨h1,_⟩ | ⟨_,_,h2⟩
  ·omega
  ·exact h2
end
def goalX (rs : List RoomE) (gl : List UInt8) (x : StE) : Bool:=decide ((x.r : Int) = roomI rs gl)
def tmX (ds : List DoorE) (k : Nat) : Int:=(ds.getD k default).time
def keyX (ds : List DoorE) (k : Nat) : List UInt8:=(ds.getD k default).key
def stX (rs : List RoomE) (T : List (List UInt8)) (room : List UInt8) (th : List (List UInt8)) : StE:=⟨ixR rs room,bitsT T th,0⟩
section
variable {rs : List RoomE} {ds : List DoorE} {T : List (List UInt8)} {tr tr' : List (List UInt8)} {st gl : List UInt8}
theorem getD_door {k : Nat} (hk : k < ds.length) : ds.getD k default = ds[k]:=by rw [List.getD_eq_getElem?_getD,List.getElem?_eq_getElem hk]; rfl
theorem goalX_room (hR : Right rs ds st gl) {room : List UInt8} (hr : room ∈ rs.map RoomE.key) {th : List (List UInt8)} : goalX rs gl (stX rs T room th) = true ↔ room = gl:=by
 unfold goalX stX;rw [decide_eq_true_eq,roomI_mem hR.gl]
 constructor
 ·intro h; exact ixR_inj hr hR.gl (by have h' : (ixR rs room : Int) = (ixR rs gl : Int):=h; omega)
 ·rintro rfl; rfl
theorem nxX_iff (hR : Right rs ds st gl) (hTd : onceT (allT rs ds) = T) {room : List UInt8} (hr : room ∈ rs.map RoomE.key) {th : List (List UInt8)} {k : Nat} {y : StE} :
  (k,y) ∈ nxX rs T ds tr [] id (stX rs T room th) ↔ ∃ hk : k < ds.length,goE tr room th ds[k] = 0 ∧ y = stX rs T ds[k].dst (thru rs th ds[k]):=by
 have hT : T.length ≤ 10:=by rw [← hTd]; exact hR.few
 constructor
 ·intro h
  obtain ⟨hk,z,hp,hy,hsrc,hok⟩:=nxX_mem h;simp only at hk hp hy hsrc hok;rw [getD_door hk] at hp hsrc hok;have hd:=List.getElem_mem hk;rw [passX_th (ds:=ds) hT (needs_sub hTd hd) (show (stX rs T room th).b = bitsT T th from rfl)] at hp
  have hsr : room = ds[k].src:=by
   rw [roomI_mem (hR.src _ hd)] at hsrc;exact ixR_inj hr (hR.src _ hd) (by have : ((stX rs T room th).r : Int) = (ixR rs room : Int):=rfl; rw [this] at hsrc; omega)
  split at hp
  ·rename_i hn
   injection hp with hp;refine ⟨hk,?_,?_⟩
   ·unfold goE
    rw [if_neg (by rw [hsr]; simp),if_neg ((okD_none (hR.dkey _ hd)).1 hok),if_neg (by simpa using hn)]
   ·rw [hy,← hp]; rfl
  ·cases hp
 ·rintro ⟨hk,hg,rfl⟩
  have hd:=List.getElem_mem hk;unfold goE at hg
  split at hg
  ·cases hg
  rename_i c1
  split at hg
  ·cases hg
  rename_i c2
  split at hg
  ·cases hg
  rename_i c3;have hsr : room = ds[k].src:=Classical.not_not.1 c1;have hn:=Classical.not_not.1 c3;unfold nxX;refine List.mem_filterMap.2 ⟨(k : Int),?_,?_⟩
  ·have : roomI rs ds[k].src = ((stX rs T room th).r : Int):=by rw [roomI_mem (hR.src _ hd),← hsr]; rfl
   exact (out_mem hk this).2 ((okD_none (hR.dkey _ hd)).2 c2)
  ·rw [Int.toNat_natCast,getD_door hk,passX_th (ds:=ds) hT (needs_sub hTd hd) (show (stX rs T room th).b = bitsT T th from rfl),if_pos hn]
   rfl
theorem way_walk (hR : Right rs ds st gl) (hTd : onceT (allT rs ds) = T) {x : StE} {t d : Int} {ks : List Nat} (hw : WayX (nxX rs T ds tr [] id) (goalX rs gl) (tmX ds) x t d ks) : ∀ room th t0,room ∈ rs.map RoomE.key → x = stX rs T room th → ∃ th',walkS rs ds tr (ks.map (keyX ds)) room th t0 = ⟨0,gl,th',t0 + t⟩:=by
 induction hw with
 | @stop x h =>
  rintro room th t0 hr rfl;rw [(goalX_room hR hr).1 h];exact ⟨th,by simp [walkS]⟩
 | @go x y k t d ks hf hm _ ih =>
  rintro room th t0 hr rfl;obtain ⟨hk,hg,rfl⟩:=(nxX_iff hR hTd hr).1 hm;obtain ⟨th',e⟩:=ih ds[k].dst (thru rs th ds[k]) (t0 + ds[k].time) (hR.dst _ (List.getElem_mem hk)) rfl;refine ⟨th',?_⟩;rw [List.map_cons,show keyX ds k = ds[k].key by unfold keyX; rw [getD_door hk],walk_some hR.dup hk,if_neg (by simp [hg]),e]
  congr 1
  unfold tmX; rw [getD_door hk]; omega
theorem walk_way (hR : Right rs ds st gl) (hTd : onceT (allT rs ds) = T) : ∀ (l : List (List UInt8)) (room : List UInt8) (th th' : List (List UInt8)) (t0 t1 : Int),room ∈ rs.map RoomE.key → walkS rs ds tr l room th t0 = ⟨0,gl,th',t1⟩ → t0 ≤ t1 ∧ ∃ t d ks,WayX (nxX rs T ds tr [] id) (goalX rs gl) (tmX ds) (stX rs T room th) t d ks ∧ t ≤ t1 - t0
 | [],room,th,th',t0,t1,hr,h => by
  simp only [walkS,WkR.mk.injEq,true_and] at h;obtain ⟨rfl,_,rfl⟩:=h;exact ⟨Int.le_refl _,0,0,[],.stop ((goalX_room hR hr).2 rfl),by omega⟩
 | key :: l,room,th,th',t0,t1,hr,h => by
  by_cases hkm : key ∈ ds.map DoorE.key
  ·obtain ⟨k,hk,e⟩:=List.mem_iff_getElem.1 hkm
   rw [List.getElem_map] at e
   have hk' : k < ds.length:=by simpa using hk
   rw [← e,walk_some hR.dup hk'] at h
   by_cases hg : goE tr room th ds[k] = 0
   ·rw [if_neg (by simp [hg])] at h
    obtain ⟨h1,t,d,ks,hw,hle⟩:=walk_way hR hTd l ds[k].dst (thru rs th ds[k]) th' (t0 + ds[k].time) t1 (hR.dst _ (List.getElem_mem hk')) h;have ht:=hR.time _ (List.getElem_mem hk');refine ⟨by omega,?_⟩
    by_cases hgl : room = gl
    ·exact ⟨0,0,[],.stop ((goalX_room hR hr).2 hgl),by omega⟩
    ·refine ⟨t + tmX ds k,d + 1,k :: ks,.go ?_ ((nxX_iff hR hTd hr).2 ⟨hk',hg,rfl⟩) hw,?_⟩
     ·cases hgx : goalX rs gl (stX rs T room th) with
      | false => rfl
      | true => exact absurd ((goalX_room hR hr).1 hgx) hgl
     ·unfold tmX; rw [getD_door hk']; omega
   ·rw [if_pos hg] at h
    unfold wkBad at h;simp only [WkR.mk.injEq] at h;exact absurd h.1 hg
  ·rw [walk_none hkm] at h
   unfold wkBad at h;simp only [WkR.mk.injEq] at h;exact absurd h.1 (by decide)
theorem nxX_mono {wo : List UInt8} (hs : ∀ s ∈ tr,s ∈ tr') {sf : StE → StE} (x : StE) (p : Nat × StE) (h : p ∈ nxX rs T ds tr wo sf x) : p ∈ nxX rs T ds tr' wo sf x:=by
 unfold nxX at h ⊢;obtain ⟨k,hk,h2⟩:=List.mem_filterMap.1 h;refine List.mem_filterMap.2 ⟨k,?_,h2⟩;unfold outN at hk ⊢;obtain ⟨j,hj,e⟩:=List.mem_map.1 hk;obtain ⟨h1,h3⟩:=List.mem_filter.1 hj;refine List.mem_map.2 ⟨j,List.mem_filter.2 ⟨h1,?_⟩,e⟩;simp only [Bool.and_eq_true,okD,Bool.or_eq_true,decide_eq_true_eq] at h3 ⊢;exact ⟨h3.1,h3.2.1,h3.2.2.imp id (hs _)⟩
end
end Go.Proofs.YtjggbpchmbdocaaGreatDoor
/- The walk of path at any graph. -/
namespace Go.Proofs.YtjggbpchmbdocaaGreatDoor
open Go.RowKit

theorem StpR.below {w W : World} {lo eb : Nat} {stp : List (List (Nat × Nat))} (h : StpR w lo eb stp) (hb : Below w.heap.size w W) : StpR W lo eb stp:=fun i hi =>
 let ⟨A,c,a,b⟩:=h i hi; ⟨A,c,(hb.cell (p:=⟨eb,i,none⟩) (World.block_lt_of_cell? w _ a)).trans a,b.below hb⟩
structure GrW (W : World) (lo g p n nc eb ec bc fb fc : Nat) (NA BA : Option Addr) (sts : List StE) (stp : List (List (Nat × Nat))) (lst : List Bool) (far : List (Int × Int)) : Prop where
  g : Blk W g 117 #[.pointer (some ⟨p, 0, none⟩), .slice NA n nc, .slice (some ⟨eb, 0, none⟩) n ec, .slice BA n bc, .slice (some ⟨fb, 0, none⟩) n fc]
  N : Row W lo 3 NA n (sts.flatMap encT)
  S : StpR W lo eb stp
  B : Row W lo 1 BA n (lst.map Value.bool)
  F : Row W lo 2 (some ⟨fb, 0, none⟩) n (prs far)
section
variable {W W' : World} {lo g p n nc eb ec bc fb fc : Nat} {NA BA : Option Addr} {sts : List StE} {stp : List (List (Nat × Nat))} {lst : List Bool} {far : List (Int × Int)}
theorem GrW.below (h : GrW W lo g p n nc eb ec bc fb fc NA BA sts stp lst far) (hb : Below W.heap.size W W') : GrW W' lo g p n nc eb ec bc fb fc NA BA sts stp lst far :=
 ⟨h.g.below hb,h.N.below hb,h.S.below hb,h.B.below hb,h.F.below hb⟩
theorem GrW.farC (h : GrW W lo g p n nc eb ec bc fb fc NA BA sts stp lst far) (hl : far.length = n) {i : Nat} (hi : i < n) : fb < W.heap.size ∧ W.cell? ⟨fb,i * 2,none⟩ = some (.int .i64 (fA far i).1) ∧ W.cell? ⟨fb,i * 2 + 1,none⟩ = some (.int .i64 (fA far i).2):=by
 obtain ⟨b,off,e,_,hb,hc⟩:=h.F.2 (by omega);injection e with e;injection e with e1 e2;subst e1 e2
 have hif : i < far.length:=by omega
 have h1:=prs_at far i hif;rw [fA_lt hif];refine ⟨hb,?_,?_⟩
 ·have:=hc (i * 2) _ h1.1; rwa [Nat.zero_add] at this
 ·have:=hc (i * 2 + 1) _ h1.2; rwa [Nat.zero_add] at this
theorem GrW.lastC (h : GrW W lo g p n nc eb ec bc fb fc NA BA sts stp lst far) {i : Nat} (hi : i < n) {b : Bool} (hb : lst[i]? = some b) : ∃ k off,BA = some ⟨k,off,none⟩ ∧ k < W.heap.size ∧ W.cell? ⟨k,off + i,none⟩ = some (.bool b):=by
 obtain ⟨k,off,e,_,hk,hc⟩:=h.B.2 (by omega);exact ⟨k,off,e,hk,hc i _ (by rw [List.getElem?_map,hb]; rfl)⟩
theorem GrW.stepC (h : GrW W lo g p n nc eb ec bc fb fc NA BA sts stp lst far) {i : Nat} {L : List (Nat × Nat)} (hL : stp[i]? = some L) : eb < W.heap.size ∧ ∃ A c,W.cell? ⟨eb,i,none⟩ = some (.slice A L.length c) ∧ Row W lo 2 A L.length (L.flatMap encG):=by
 obtain ⟨hi,rfl⟩:=List.getElem?_eq_some_iff.1 hL;obtain ⟨A,c,a,b⟩:=h.S i hi;exact ⟨World.block_lt_of_cell? W _ a,A,c,a,b⟩
theorem MapW.doorK {w : World} {lo b off : Nat} {A : Option Addr} {rs : List RoomE} {ds : List DoorE} (h : MapW w lo A rs (some ⟨b,off,none⟩) ds) {k : Nat} (hk : k < ds.length) : w.cell? ⟨b,off + k * 7,none⟩ = some (.string ⟨ds[k].key.toArray⟩):=by
 obtain ⟨b',o',e,_,hc⟩:=h.door (by omega);injection e with e;injection e with e1 e2;subst e1 e2;exact (hc k hk).1
structure PaS (w W : World) (rb ob : Nat) (A : Option Addr) (c : Nat) (t : Int) (l : List (List UInt8)) : Prop where
  b : Below w.heap.size w W
  r : Blk W rb 40 #[.slice none 0 0, .int .i64 0]
  o : Blk W ob 40 #[.slice A l.length c, .int .i64 t]
  own : W.ownsRow w.heap.size 9 1 (.slice A l.length c) l.length (strs l)
  rg : w.heap.size ≤ rb
  og : rb < ob
variable {w : World} {rb ob c c' : Nat} {A A' : Option Addr} {t : Int} {l : List (List UInt8)}
theorem PaS.below (h : PaS w W rb ob A c t l) (hb : Below W.heap.size W W') : PaS w W' rb ob A c t l:=⟨below_up h.b hb,h.r.below hb,h.o.below hb,own_keep h.own hb,h.rg,h.og⟩
theorem PaS.alloc (h : PaS w W rb ob A c t l) (x : Obj) : PaS w (W.alloc x) rb ob A c t l:=h.below ((Below.refl _ _).alloc (Nat.le_refl _) x)
theorem PaS.drewN (h : PaS w W rb ob A c t l) (k : Nat) : PaS w (W.drewN k) rb ob A c t l:=h.below (below_drewN' (Below.refl _ _) k)
theorem PaS.drew (h : PaS w W rb ob A c t l) : PaS w W.drew rb ob A c t l:=h.below (below_drewN' (Below.refl _ _) 1)
theorem PaS.mid (h : PaS w W rb ob A c t l) (G : W.grownBy W' (Value.slice A l.length c).ownBlock) : Below w.heap.size w W' ∧ Blk W' rb 40 #[.slice none 0 0,.int .i64 0] ∧ Blk W' ob 40 #[.slice A l.length c,.int .i64 t] :=
 ⟨h.b.grown G h.b.size (own_base h.own),h.r.other G (own_kind h.own) (by decide),h.o.other G (own_kind h.own) (by decide)⟩
theorem PaS.push (h : PaS w W rb ob A c t l) (G : W.grownBy W' (Value.slice A l.length c).ownBlock) {k : List UInt8} (hd : W'.ownsRow w.heap.size 9 1 (.slice A' (l ++ [k]).length c') (l ++ [k]).length (strs (l ++ [k]))) : PaS w (W'.setCell ⟨ob,0,none⟩ (.slice A' (l ++ [k]).length c')) rb ob A' c' t (l ++ [k]):=by
 obtain ⟨h1,h2,h3⟩:=h.mid G;have hg:=h.og;have hr:=h.rg;exact ⟨Below.setCell h1 (by simp; omega) _,h2.past ob 0 _ (by omega),by simpa using h3.poke 0 (.slice A' (l ++ [k]).length c'),own_past hd h3 (by decide) 0 _,h.rg,h.og⟩
end
def PaPost (w : World) (ks : List (List UInt8)) (t : Int) (is : Bool) (e : Ending) (w' : World) : Prop :=
 ∃ A c,e = .returned (.tuple #[.agg #[.slice A ks.length c,.int .i64 t],.bool is]) ∧ w'.ownsRow w.heap.size 9 1 (.slice A ks.length c) ks.length (strs ks) ∧ Below w.heap.size w w'

set_option maxHeartbeats 8000000 in
set_option maxRecDepth 100000 in
theorem path_any (w : World) (lo g n nc eb ec bc fb fc : Nat) (NA BA : Option Addr) (sts : List StE) (stp : List (List (Nat × Nat))) (lst : List Bool) (far : List (Int × Int)) (lo0 mp : Nat) (q0 : WorP) (T : List (List UInt8)) (rs : List RoomE) (ds : List DoorE) (tr : List (List UInt8)) (wo st gl : List UInt8) (lo1 ca cd : Nat) (A D : Option Addr)
  (hG : GrW w lo g q0.p n nc eb ec bc fb fc NA BA sts stp lst far) (hW : WorW w lo0 mp q0 T rs ds tr wo st gl) (hC : McC w w mp lo1 A rs ca D ds cd st gl) (hR : Right rs ds st gl) (hF : FarOk n stp lst (tmX ds) far)
  (hn0 : 0 < n) (hnb : n ≤ 614400) (hsl : stp.length = n) (hll : lst.length = n) (h5 : ∀ l ∈ stp,l.length ≤ 500) (hto : ∀ i k j,(k,j) ∈ stp.getD i [] → j < n ∧ k < ds.length) (hend : ∀ i,lst[i]? = some true → stp.getD i [] = []) :
  Calls Tryz.prog 53 #[.pointer (some ⟨g,0,none⟩)] w (PaPost w ((pathR stp lst (tmX ds) far).ks.map (keyX ds)) (pathR stp lst (tmX ds) far).t (pathR stp lst (tmX ds) far).is):=by
 have HG:=Lib.hid hG;have HFL:=Lib.hid hF.flen;have HX:=Lib.hid (And.intro hsl (And.intro hll (And.intro hto hend)));have HTO : Hid (∀ i k j,(k,j) ∈ stp.getD i [] → j < n):=Lib.hid (fun i k j h => (hto i k j h).1);have HTM : Hid (∀ k,k < ds.length → 1 ≤ tmX ds k ∧ tmX ds k ≤ 864000000):=Lib.hid (fun k hk => by unfold tmX; rw [getD_door hk]; exact hR.time _ (List.getElem_mem hk));have H5:=Lib.hid h5;have HW:=Lib.hid hW;have HC:=Lib.hid hC;have HR:=Lib.hid hR;have hdl:=hR.dl;have HF:=Lib.hid hF;have HTX : Hid (∀ k (hk : k < ds.length),tmX ds k = ds[k].time):=Lib.hid (fun k hk => by unfold tmX; rw [getD_door hk]);have HKX : Hid (∀ k (hk : k < ds.length),keyX ds k = ds[k].key):=Lib.hid (fun k hk => by unfold keyX; rw [getD_door hk]);have HPN : Hid (∀ d i : Nat,lst[i]? ≠ some true → ∀ p,(stp.getD i []).find? (tightB (tmX ds) far i) = some p → (pathG stp lst (tmX ds) far (d + 1) i).map (keyX ds) = keyX ds p.1 :: (pathG stp lst (tmX ds) far d p.2).map (keyX ds)):=Lib.hid (fun d i h1 p h2 => by rw [pathG_next h1 h2]; rfl);obtain ⟨k0,k1,k2,k3,k4⟩:=hG.g.w5;have zg:=hG.g.lt;obtain ⟨zf,f0,f1⟩:=hG.farC HFL.out hn0;rw [Nat.zero_mul] at f0;clear hG hF hsl hll hto hend h5 hR hW hC
 by_cases h0 : (fA far 0).1 < 0
 ·have d0 : decide ((fA far 0).1 < 0) = true:=decide_eq_true h0
  have e0 : pathR stp lst (tmX ds) far = ⟨[],0,false⟩:=if_pos h0;rw [e0]
  go_enter Tryz.func53,Tryz.ntmps53
  go_wp2_with fail;obtain ⟨v0,v1⟩:=(Blk.new w 40 #[.slice none 0 0,.int .i64 0]).w2;refine bodyPost_ret (v:=.tuple #[.agg #[.slice none 0 0,.int .i64 0],.bool false]) (by simp [results,Tryz.results53,go_sem,v0,v1]) rfl ?_;exact ⟨none,0,rfl,World.ownsRow_nil _ _ _ _,(by repeat (first | exact Below.refl _ _ | refine Below.alloc ?_ (by first | omega | (simp; omega) | simp) _ | refine below_drewN' ?_ _ | refine Below.drew ?_))⟩
 ·have d0 : decide ((fA far 0).1 < 0) = false:=decide_eq_false h0
  have e0 : pathR stp lst (tmX ds) far = ⟨pathG stp lst (tmX ds) far (fA far 0).2.toNat 0,(fA far 0).1,true⟩:=if_neg h0;rw [e0];simp only
  obtain ⟨KS,hKS⟩ : ∃ KS,KS = (pathG stp lst (tmX ds) far (fA far 0).2.toNat 0).map (keyX ds):=⟨_,rfl⟩
  rw [← hKS];have HKS:=Lib.hid hKS
  have HKL : Hid (KS.length ≤ 614400):=Lib.hid (by
   have h1:=HF.out.bnd 0 hn0;have h2:=(HF.out.path HTO.out HX.out.2.2.2 (fA far 0).2.toNat 0 hn0 (by omega) (by omega)).2;rw [hKS,List.length_map,h2]
   omega)
  clear hKS e0
  obtain ⟨tm,htm⟩ : ∃ tm,tm = tmX ds:=⟨_,rfl⟩
  obtain ⟨ky,hky⟩ : ∃ ky,ky = keyX ds:=⟨_,rfl⟩
  rw [← htm] at HF HTM HTX;rw [← htm,← hky] at HKS HPN;rw [← hky] at HKX;clear htm hky
  go_enter Tryz.func53,Tryz.ntmps53
  go_wp2_with fail
  have hp : PaS w ((w.alloc (.cells #[.slice none 0 0,.int .i64 0] 40)).alloc (.cells #[.slice none 0 0,.int .i64 (fA far 0).1] 40)) w.heap.size (w.heap.size + 1) none 0 (fA far 0).1 []:=⟨(by repeat (first | exact Below.refl _ _ | refine Below.alloc ?_ (by first | omega | (simp; omega) | simp) _ | refine below_drewN' ?_ _ | refine Below.drew ?_)),(Blk.new _ _ _).alloc _,Blk.at_ _ (by simp),World.ownsRow_nil _ _ _ _,Nat.le_refl _,Nat.lt_succ_self _⟩
  generalize ((w.alloc (.cells #[.slice none 0 0,.int .i64 0] 40)).alloc (.cells #[.slice none 0 0,.int .i64 (fA far 0).1] 40)) = W1 at *
  obtain ⟨rb,hrb⟩ : ∃ rb,rb = w.heap.size:=⟨_,rfl⟩
  rw [← hrb] at hp ⊢;clear hrb;generalize rb + 1 = ob at *;clear k0 k1 k2 k3 k4 zg zf f0 f1
  go_loopw [5] (fun v wr => ∃ (i : Nat) (PA : Option Addr) (pc : Nat) (l : List (List UInt8)),i < n ∧ v = .int .i64 i ∧ PaS w wr rb ob PA pc (fA far 0).1 l ∧ Hid (0 ≤ (fA far i).1 ∧ l ++ (pathG stp lst tm far (fA far i).2.toNat i).map ky = KS)) (fun v _ => (fA far (intOf v).toNat).2.toNat)
  case atStart => exact ⟨0,none,0,[],hn0,rfl,hp,Lib.hid ⟨by omega,HKS.out.symm⟩⟩
  case round =>
   clear hp;obtain ⟨i,PA,pc,l,hi,rfl,hp,HI⟩:=hrel;have HGR:=Lib.hid (HG.out.below hp.b);obtain ⟨k0,k1,k2,k3,k4⟩:=HGR.out.g.w5;have zg:=HGR.out.g.lt
   obtain ⟨lb,HLB⟩ : ∃ b,Hid (lst[i]? = some b):=⟨lst[i]'(by rw [HX.out.2.1]; exact hi),Lib.hid (List.getElem?_eq_getElem _)⟩
   obtain ⟨bb,boff,rfl,zb,cb⟩:=HGR.out.lastC hi HLB.out
   cases hlb : lb with
   | true =>
    rw [hlb] at cb HLB
    have HLE : Hid (l = KS):=Lib.hid (by
     have:=HI.out.2
     rwa [pathG_end HLB.out,List.map_nil,List.append_nil] at this)
    obtain ⟨u0,u1⟩:=hp.r.w2;obtain ⟨v0,v1⟩:=hp.o.w2;have fu0:=hp.r.thaw 0;have fu1:=hp.r.thaw 1;have zu:=hp.r.lt;have zo:=hp.o.lt;have hne : rb ≠ ob:=Nat.ne_of_lt hp.og;clear hlb;go_wp2_with fail
    have hr2 : Blk ((wr.setCell ⟨rb,0,none⟩ (.slice PA l.length pc)).setCell ⟨rb,1,none⟩ (.int .i64 (fA far 0).1)) rb 40 #[.slice PA l.length pc,.int .i64 (fA far 0).1]:=by simpa using (hp.r.poke 0 (.slice PA l.length pc)).poke 1 (.int .i64 (fA far 0).1)
    have hbel:=Below.setCell (Below.setCell hp.b (show w.heap.size ≤ (⟨rb,0,none⟩ : Addr).block from hp.rg) (.slice PA l.length pc)) (show w.heap.size ≤ (⟨rb,1,none⟩ : Addr).block from hp.rg) (.int .i64 (fA far 0).1);have hd:=own_past (own_past hp.own hp.r (by decide) 0 (.slice PA l.length pc)) (hp.r.poke 0 (.slice PA l.length pc)) (by decide) 1 (.int .i64 (fA far 0).1);generalize (wr.setCell ⟨rb,0,none⟩ (.slice PA l.length pc)).setCell ⟨rb,1,none⟩ (.int .i64 (fA far 0).1) = W5 at *;obtain ⟨v0,v1⟩:=hr2.w2;refine bodyPost_ret (v:=.tuple #[.agg #[.slice PA l.length pc,.int .i64 (fA far 0).1],.bool true]) (by simp [results,Tryz.results53,go_sem,v0,v1]) rfl ?_;rw [← HLE.out];exact ⟨PA,pc,rfl,hd,hbel⟩
   | false =>
    rw [hlb] at cb HLB;have HNL : Hid (lst[i]? ≠ some true):=Lib.hid (by rw [HLB.out]; simp)
    obtain ⟨L,HL⟩ : ∃ L,Hid (stp[i]? = some L):=⟨stp[i]'(by rw [HX.out.1]; exact hi),Lib.hid (List.getElem?_eq_getElem _)⟩
    have HLD : Hid (stp.getD i [] = L ∧ L.length ≤ 500):=Lib.hid ⟨by rw [List.getD_eq_getElem?_getD,HL.out]; rfl,H5.out _ (List.mem_of_getElem? HL.out)⟩;obtain ⟨ze,LA,lc,hc1,hr1⟩:=HG.out.stepC HL.out;have hc1:=(hp.b.cell (p:=⟨eb,i,none⟩) ze).trans hc1;have ze:=Nat.lt_of_lt_of_le ze hp.b.size
    obtain ⟨pp,HFI⟩ : ∃ pp,Hid ((stp.getD i []).find? (tightB tm far i) = some pp ∧ pp ∈ stp.getD i [] ∧ pp.2 < n ∧ 0 ≤ (fA far pp.2).1 ∧ (fA far pp.2).1 + tm pp.1 = (fA far i).1 ∧ (fA far pp.2).2 + 1 = (fA far i).2):=by
     obtain ⟨pp,h⟩:=HF.out.tight HTO.out hi HI.out.1 HNL.out;exact ⟨pp,Lib.hid h⟩
    have hl5:=HLD.out.2;have HR1:=Lib.hid hr1;clear hr1 hlb;go_wp2_with fail;clear k0 k1 k2 k3 k4 zg zb cb ze hc1
    go_loopw [5,42] (fun u v wv => ∃ m : Nat,u = .int .i64 i ∧ m ≤ L.length ∧ v = .int .i64 m ∧ PaS w wv rb ob PA pc (fA far 0).1 l ∧ Hid ((L.take m).find? (tightB tm far i) = none)) (fun _ v _ => L.length - (intOf v).toNat)
    case atStart => exact ⟨0,rfl,Nat.zero_le _,rfl,hp,Lib.hid rfl⟩
    case round =>
     clear hp HGR;obtain ⟨m,rfl,hml,rfl,hp,HFN⟩:=hrel
     by_cases hlm : m < L.length
     ·obtain ⟨sb,so,rfl,hsb,s0,s1⟩:=StpR.at (HR1.out.below hp.b) hlm
      obtain ⟨k,j,hkj⟩ : ∃ k j,L[m] = (k,j):=⟨_,_,rfl⟩
      rw [hkj] at s0 s1;have HMK : Hid (∃ h : m < L.length,L[m] = (k,j)):=Lib.hid ⟨hlm,hkj⟩
      have hmem : (k,j) ∈ stp.getD i []:=by rw [HLD.out.1,← hkj]; exact List.getElem_mem hlm
      obtain ⟨hjn,hkd⟩:=HX.out.2.2.1 i k j hmem;have HMEM:=Lib.hid hmem
      have hj0 : (0 : Int) ≤ (j : Int):=by omega
      have hj1 : (j : Int) < (n : Int):=by omega
      have hi0 : (0 : Int) ≤ (i : Int):=by omega
      have hi1 : (i : Int) < (n : Int):=by omega
      have hk0 : (0 : Int) ≤ (k : Int):=by omega
      have hk1 : (k : Int) < (ds.length : Int):=by omega
      obtain ⟨db0,doff0,HDA⟩ : ∃ db doff,Hid (q0.DA = some ⟨db,doff,none⟩):=by
       obtain ⟨db,doff,e,-,-⟩:=HW.out.doorI HR.out hkd;exact ⟨db,doff,Lib.hid e⟩
      obtain ⟨mb0,moff0,rfl,-,-⟩:=HC.out.m.door (by omega);clear hmem hkj;go_upto_region 9 with (fail);clear s0 s1 hsb;have hs : Blk (wr.alloc (.cells #[.int .i64 (k : Int),.int .i64 (j : Int)] 164)) wr.heap.size 164 #[.int .i64 (k : Int),.int .i64 (j : Int)]:=Blk.new _ _ _;have hp:=hp.alloc (.cells #[.int .i64 (k : Int),.int .i64 (j : Int)] 164);generalize wr.alloc (.cells #[.int .i64 (k : Int),.int .i64 (j : Int)] 164) = Z at *;generalize wr.heap.size = s at *;have hs : Blk Z.drew s 164 #[.int .i64 (k : Int),.int .i64 (j : Int)]:=hs.drew;have hp:=hp.drew;refine wp_region_held_drew (S:=(fun w' => w'.cell? ⟨g,4,none⟩ = some (.slice (some ⟨fb,0,none⟩) n fc) ∧ w'.cell? ⟨s,1,none⟩ = some (.int .i64 (j : Int)) ∧ w'.cell? ⟨fb,j * 2,none⟩ = some (.int .i64 (fA far j).1) ∧ w'.cell? ⟨fb,j * 2 + 1,none⟩ = some (.int .i64 (fA far j).2))) (by kernel_rfl) (⟨(HG.out.below hp.b).g.w5.2.2.2.2,hs.w2.2,((HG.out.below hp.b).farC HFL.out hjn).2⟩) (fun hHeld => ?_);(refine QU 0 ?_; (try simp only [Act.put,Q3,Q4,Q5]));(refine QU 1 ?_; (try simp only [Act.put,Q3,Q4,Q5]));(refine QU 2 ?_; (try simp only [Act.put,Q3,Q4,Q5]));(refine QU 3 ?_; (try simp only [Act.put,Q3,Q4,Q5]));(refine QU 4 ?_; (try simp only [Act.put,Q3,Q4,Q5]));(refine QU 5 ?_; (try simp only [Act.put,Q3,Q4,Q5]));(refine QU 6 ?_; (try simp only [Act.put,Q3,Q4,Q5]));(refine QU 7 ?_; (try simp only [Act.put,Q3,Q4,Q5]));refine QR 8 fun K hK => ?_;go_simp;have hp0:=hp;have hs0:=hs;have hp:=hp.alloc (.cells #[.int .i64 0,.int .i64 0] 111);have hs:=hs.alloc (.cells #[.int .i64 0,.int .i64 0] 111);refine hK.out _ _ (⟨(HG.out.below hp.b).g.w5.2.2.2.2,hs.w2.2,((HG.out.below hp.b).farC HFL.out hjn).2⟩) (fun hHeld => ?_);clear hK K;(try simp only [Act.put,Q3,Q4,Q5]);refine QR 9 fun K hK => ?_;go_simp;have hp:=hp0.alloc (.cells #[.int .i64 (fA far j).1,.int .i64 (fA far j).2] 111);have hs:=hs0.alloc (.cells #[.int .i64 (fA far j).1,.int .i64 (fA far j).2] 111);refine hK.out _ _ (⟨(HG.out.below hp.b).g.w5.2.2.2.2,hs.w2.2,((HG.out.below hp.b).farC HFL.out hjn).2⟩) (fun hHeld => ?_);clear hK K;(try simp only [Act.put,Q3,Q4,Q5]);refine wpAnyH_done (by kernel_rfl) ?_ _;have hf : Blk (Z.alloc (.cells #[.int .i64 (fA far j).1,.int .i64 (fA far j).2] 111)).drew Z.heap.size 111 #[.int .i64 (fA far j).1,.int .i64 (fA far j).2]:=(Blk.new _ _ _).drew;have hp : PaS w (Z.alloc (.cells #[.int .i64 (fA far j).1,.int .i64 (fA far j).2] 111)).drew rb ob PA pc (fA far 0).1 l:=hp;have hs : Blk (Z.alloc (.cells #[.int .i64 (fA far j).1,.int .i64 (fA far j).2] 111)).drew s 164 #[.int .i64 (k : Int),.int .i64 (j : Int)]:=hs;clear hp0 hs0;generalize (Z.alloc (.cells #[.int .i64 (fA far j).1,.int .i64 (fA far j).2] 111)).drew = Y at *;generalize Z.heap.size = r at *;have hbj:=HF.out.bnd j hjn;have hbi:=HF.out.bnd i hi;have htk:=HTM.out k hkd;rw [HTX.out k hkd] at htk
      obtain ⟨dt,hdt⟩ : ∃ dt,dt = ds[k].time:=⟨_,rfl⟩
      rw [← hdt] at htk;have HDT : Hid (tm k = dt):=Lib.hid (by rw [HTX.out k hkd,hdt])
      have HDO : Hid (∀ W,Below w.heap.size w W → W.cell? ⟨q0.p,3,none⟩ = some (.slice (some ⟨db0,doff0,none⟩) ds.length q0.dc) ∧ W.cell? ⟨db0,doff0 + k * 5 + 2,none⟩ = some (.int .i64 dt) ∧ W.cell? ⟨q0.p,0,none⟩ = some (.pointer (some ⟨mp,0,none⟩))):=Lib.hid (fun W hb => by
       have h1:=(HW.out.below hb).cells.2.2.2.1;obtain ⟨b',o',e',-,h2⟩:=(HW.out.below hb).doorI HR.out hkd;rw [HDA.out] at e' h1;injection e' with e';injection e' with e1 e2;subst e1 e2;rw [hdt]
       exact ⟨h1,h2.2.2.1,(HW.out.below hb).cells.1⟩)
      clear hdt
      by_cases c1 : 0 ≤ (fA far j).1
      ·have d1 : decide (0 ≤ (fA far j).1) = true:=decide_eq_true c1
       have w1 : IntKind.i64.wrap ((fA far j).1 + dt) = (fA far j).1 + dt:=IntWalk.i64_in _ ⟨by omega,by omega⟩;have w2 : IntKind.i64.wrap ((fA far j).2 + 1) = (fA far j).2 + 1:=IntWalk.i64_in _ ⟨by omega,by omega⟩
       by_cases c2 : (fA far j).1 + dt = (fA far i).1
       ·have d2 : ((fA far j).1 + dt == (fA far i).1) = true:=beq_iff_eq.2 c2
        by_cases c3 : (fA far j).2 + 1 = (fA far i).2
        ·have d3 : ((fA far j).2 + 1 == (fA far i).2) = true:=beq_iff_eq.2 c3
         obtain ⟨k0,k1,k2,k3,k4⟩:=(HG.out.below hp.b).g.w5;have zg:=(HG.out.below hp.b).g.lt;obtain ⟨zf,f0,f1⟩:=(HG.out.below hp.b).farC HFL.out hi;obtain ⟨r0,r1⟩:=hf.w2;have zr:=hf.lt;obtain ⟨s0,s1⟩:=hs.w2;have zs:=hs.lt;have p3:=(HDO.out _ hp.b).1;have pt:=(HDO.out _ hp.b).2.1;have zp:=World.block_lt_of_cell? Y _ p3;have zd:=World.block_lt_of_cell? Y _ pt;go_wp2_with fail
         go_quiet (fail)
         have hp:=hp.drewN nq;have hs : Blk (Y.drewN nq) s 164 #[.int .i64 (k : Int),.int .i64 (j : Int)]:=hs.drewN nq;clear k0 k1 k2 k3 k4 zg zf f0 f1 r0 r1 zr s0 s1 zs p3 pt zp zd hf;generalize Y.drewN nq = Z at *;have HKK : Hid (ky k = ds[k].key):=Lib.hid (HKX.out k hkd)
         obtain ⟨kk,hkk⟩ : ∃ kk,kk = ky k:=⟨_,rfl⟩
         have HT11 : Hid (∀ W,Below w.heap.size w W → W.cell? ⟨s,0,none⟩ = some (.int .i64 (k : Int)) → (fun w' => w'.cell? ⟨g,0,none⟩ = some (.pointer (some ⟨q0.p,0,none⟩)) ∧ w'.cell? ⟨q0.p,0,none⟩ = some (.pointer (some ⟨mp,0,none⟩)) ∧ w'.cell? ⟨mp,1,none⟩ = some (.slice (some ⟨mb0,moff0,none⟩) ds.length cd) ∧ w'.cell? ⟨s,0,none⟩ = some (.int .i64 (k : Int)) ∧ w'.cell? ⟨mb0,moff0 + k * 7,none⟩ = some (.string ⟨kk.toArray⟩)) W):=Lib.hid (fun W hb h0 => by
          have h1:=(HC.out.below hb).cells.2.1;have h2:=(HC.out.m.below hb).doorK hkd;rw [← HKK.out,← hkk] at h2
          exact ⟨(HG.out.below hb).g.w5.1,(HDO.out W hb).2.2,h1,h0,h2⟩)
         have HKE:=Lib.hid hkk
         have hlb : l.length ≤ 614400:=by
          have h1:=HI.out.2;have h2:=HKL.out;rw [← h1,List.length_append] at h2;omega
         have hlb1 : (l.length + 1) * 16 ≤ 140737488355328:=by omega
         have hlb2 : l.length + 1 ≤ 9223372036854775807:=by omega
         clear hkk;go_wp2_with fail;have hs:=hs.drew;have hp:=hp.drew;refine wp_region_heldK 20 (fun w' => w'.cell? ⟨ob,0,none⟩ = some (.slice PA l.length pc)) (fun w' => w'.cell? ⟨g,0,none⟩ = some (.pointer (some ⟨q0.p,0,none⟩)) ∧ w'.cell? ⟨q0.p,0,none⟩ = some (.pointer (some ⟨mp,0,none⟩)) ∧ w'.cell? ⟨mp,1,none⟩ = some (.slice (some ⟨mb0,moff0,none⟩) ds.length cd) ∧ w'.cell? ⟨s,0,none⟩ = some (.int .i64 (k : Int)) ∧ w'.cell? ⟨mb0,moff0 + k * 7,none⟩ = some (.string ⟨kk.toArray⟩)) (by kernel_rfl) (HT11.out _ hp.b hs.w2.1) (hp.o.w2.1) (fun hT hS => ?_);(refine KU2 0 ?_; (try simp only [Act.put,Q3,Q4,Q5]));(refine KU1 1 ?_; (try simp only [Act.put,Q3,Q4,Q5]));(refine KU2 2 ?_; (try simp only [Act.put,Q3,Q4,Q5]));(refine KU2 3 ?_; (try simp only [Act.put,Q3,Q4,Q5]));(refine KU2 4 ?_; (try simp only [Act.put,Q3,Q4,Q5]));(refine KU2 5 ?_; (try simp only [Act.put,Q3,Q4,Q5]));(refine KU2 6 ?_; (try simp only [Act.put,Q3,Q4,Q5]));(refine KU2 7 ?_; (try simp only [Act.put,Q3,Q4,Q5]));(refine KU2 8 ?_; (try simp only [Act.put,Q3,Q4,Q5]));(refine KU2 9 ?_; (try simp only [Act.put,Q3,Q4,Q5]));(refine KU2 10 ?_; (try simp only [Act.put,Q3,Q4,Q5]));(refine KU2 11 ?_; (try simp only [Act.put,Q3,Q4,Q5]));(refine KU2 12 ?_; (try simp only [Act.put,Q3,Q4,Q5]));(refine KU2 13 ?_; (try simp only [Act.put,Q3,Q4,Q5]));(refine KU2 14 ?_; (try simp only [Act.put,Q3,Q4,Q5]));(refine KU2 15 ?_; (try simp only [Act.put,Q3,Q4,Q5]));(refine KU2 16 ?_; (try simp only [Act.put,Q3,Q4,Q5]));refine wpAnyK_ready (rs:=[17]) (by kernel_rfl) (by simp) ?_;refine AllReadyK.cons rfl (fun K hK => ?_) AllReadyK.nil;go_simp;have hk : Blk (Z.drew.alloc (.cells #[.string ⟨kk.toArray⟩] 9)) Z.heap.size 9 #[.string ⟨kk.toArray⟩]:=Blk.at_ _ (by simp);have hp:=hp.alloc (.cells #[.string ⟨kk.toArray⟩] 9);have hs:=hs.alloc (.cells #[.string ⟨kk.toArray⟩] 9);refine hK.out _ _ (HT11.out _ hp.b hs.w2.1) (hp.o.w2.1) (fun hT hS => ?_);clear hK K;(try simp only [Act.put,Q3,Q4,Q5]);refine wpAnyK_ready (rs:=[18]) (by kernel_rfl) (by simp) ?_;refine AllReadyK.cons rfl (fun K hK => ?_) AllReadyK.nil;refine step_app (lo:=0) (base:=w.heap.size) (n:=l.length) (xs:=strs l) _ rfl _ _ ty_strsL rfl hp.own rfl (Row.lit (n:=1) (size:=1) hk (Nat.zero_le _) rfl) rfl rfl hlb1 hlb2 hp.b.size ?_;intro A5 c5 w5 hd5 g5 _
         have HD : w5.ownsRow w.heap.size 9 1 (.slice A5 (l ++ [kk]).length c5) (l ++ [kk]).length (strs (l ++ [kk])):=by simpa [strs,encStr] using hd5
         obtain ⟨hb5,hr5,ho5⟩:=hp.mid g5;have hs5:=hs.other g5 (own_kind hp.own) (by decide);refine hK.out _ _ (HT11.out _ hb5 hs5.w2.1) (ho5.w2.1) (fun hT hS => ?_);clear hK K;(try simp only [Act.put,Q3,Q4,Q5]);(refine KU2 19 ?_; (try simp only [Act.put,Q3,Q4,Q5]));refine wpAnyK_ready (rs:=[20]) (by kernel_rfl) (by simp) ?_;refine AllReadyK.consT (by kernel_rfl) rfl (fun K hK => ?_) AllReadyK.nil;have fo:=ho5.thaw 0;have co:=ho5.w2.1;have zo:=ho5.lt;go_simp;clear fo co zo;have hs:=hs5.other (grown_poke w5 ob 0 (.slice A5 (l ++ [kk]).length c5)) ho5.kind (by decide);have hp:=hp.push g5 HD;rw [show (l ++ [kk]).length = l.length + 1 by simp] at hs
         have hp : PaS w (w5.setCell ⟨ob,0,none⟩ (.slice A5 (l.length + 1) c5)) rb ob A5 c5 (fA far 0).1 (l ++ [kk]):=by rw [show (l ++ [kk]).length = l.length + 1 by simp] at hp; exact hp
         refine hK.out _ _ (HT11.out _ hp.b hs.w2.1) (fun hT => ?_);clear hK K;(try simp only [Act.put,Q3,Q4,Q5]);refine wpAnyK_done (by kernel_rfl) ?_ _;generalize w5.setCell ⟨ob,0,none⟩ (.slice A5 (l.length + 1) c5) = Y at *;obtain ⟨s0,s1⟩:=hs.w2;have zs:=hs.lt;go_wp2_with fail;go_roundw
         case rel => exact ⟨j,A5,c5,_,hjn,by go_num,hp,Lib.hid ⟨c1,by
          have hd : (fA far i).2.toNat = (fA far j).2.toNat + 1:=by omega
          have hfx:=find_hit (f:=tightB tm far i) HMK.out.1 HFN.out (by rw [HMK.out.2]; exact tightB_iff.2 ⟨c1,by rw [HDT.out]; exact c2,c3⟩);rw [HMK.out.2] at hfx;have h1:=HI.out.2;rw [hd,HPN.out _ i HNL.out (k,j) (by rw [HLD.out.1]; exact hfx)] at h1;rw [HKE.out,List.append_assoc]
          exact h1⟩⟩
         case measure => simp [intOf]; omega
        ·have d3 : ((fA far j).2 + 1 == (fA far i).2) = false:=beq_eq_false_iff_ne.2 c3
         obtain ⟨k0,k1,k2,k3,k4⟩:=(HG.out.below hp.b).g.w5;have zg:=(HG.out.below hp.b).g.lt;obtain ⟨zf,f0,f1⟩:=(HG.out.below hp.b).farC HFL.out hi;obtain ⟨r0,r1⟩:=hf.w2;have zr:=hf.lt;obtain ⟨s0,s1⟩:=hs.w2;have zs:=hs.lt;have p3:=(HDO.out _ hp.b).1;have pt:=(HDO.out _ hp.b).2.1;have zp:=World.block_lt_of_cell? Y _ p3;have zd:=World.block_lt_of_cell? Y _ pt;go_wp2_with fail
         go_quiet (fail)
         have hp:=hp.drewN nq;clear k0 k1 k2 k3 k4 zg zf f0 f1 r0 r1 zr s0 s1 zs p3 pt zp zd hf hs;generalize Y.drewN nq = Y at *;go_wp2_with fail;go_roundw
         case rel => exact ⟨m + 1,rfl,hlm,by go_num,hp,Lib.hid (find_on HMK.out.1 HFN.out (by rw [HMK.out.2]; exact Bool.eq_false_iff.2 (fun h => absurd (tightB_iff.1 h) (by simp only; omega))))⟩
         case measure => simp [intOf]; omega
       ·have d2 : ((fA far j).1 + dt == (fA far i).1) = false:=beq_eq_false_iff_ne.2 c2
        obtain ⟨k0,k1,k2,k3,k4⟩:=(HG.out.below hp.b).g.w5;have zg:=(HG.out.below hp.b).g.lt;obtain ⟨zf,f0,f1⟩:=(HG.out.below hp.b).farC HFL.out hi;obtain ⟨r0,r1⟩:=hf.w2;have zr:=hf.lt;obtain ⟨s0,s1⟩:=hs.w2;have zs:=hs.lt;have p3:=(HDO.out _ hp.b).1;have pt:=(HDO.out _ hp.b).2.1;have zp:=World.block_lt_of_cell? Y _ p3;have zd:=World.block_lt_of_cell? Y _ pt;go_wp2_with fail
        go_quiet (fail)
        have hp:=hp.drewN nq;clear k0 k1 k2 k3 k4 zg zf f0 f1 r0 r1 zr s0 s1 zs p3 pt zp zd hf hs;generalize Y.drewN nq = Y at *;go_wp2_with fail;go_roundw
        case rel => exact ⟨m + 1,rfl,hlm,by go_num,hp,Lib.hid (find_on HMK.out.1 HFN.out (by rw [HMK.out.2]; exact Bool.eq_false_iff.2 (fun h => absurd (tightB_iff.1 h) (by simp only; rw [HDT.out]; omega))))⟩
        case measure => simp [intOf]; omega
      ·have d1 : decide (0 ≤ (fA far j).1) = false:=decide_eq_false c1
       obtain ⟨k0,k1,k2,k3,k4⟩:=(HG.out.below hp.b).g.w5;have zg:=(HG.out.below hp.b).g.lt;obtain ⟨zf,f0,f1⟩:=(HG.out.below hp.b).farC HFL.out hi;obtain ⟨r0,r1⟩:=hf.w2;have zr:=hf.lt;obtain ⟨s0,s1⟩:=hs.w2;have zs:=hs.lt;have p3:=(HDO.out _ hp.b).1;have pt:=(HDO.out _ hp.b).2.1;have zp:=World.block_lt_of_cell? Y _ p3;have zd:=World.block_lt_of_cell? Y _ pt;go_wp2_with fail
       go_quiet (fail)
       have hp:=hp.drewN nq;clear k0 k1 k2 k3 k4 zg zf f0 f1 r0 r1 zr s0 s1 zs p3 pt zp zd hf hs;generalize Y.drewN nq = Y at *;go_wp2_with fail;go_roundw
       case rel => exact ⟨m + 1,rfl,hlm,by go_num,hp,Lib.hid (find_on HMK.out.1 HFN.out (by rw [HMK.out.2]; exact Bool.eq_false_iff.2 (fun h => absurd (tightB_iff.1 h) (by simp only; omega))))⟩
       case measure => simp [intOf]; omega
     ·exfalso
      have hme : m = L.length:=by omega
      have h1:=HFN.out;rw [hme,List.take_length,← HLD.out.1,HFI.out.1] at h1
      cases h1

end Go.Proofs.YtjggbpchmbdocaaGreatDoor
/- fastest, time and Fastest at any map: what explore, measure and path find, put together. -/
namespace Go.Proofs.YtjggbpchmbdocaaGreatDoor
open Go.RowKit

def ExGr (w W : World) (M g : Nat) (rs : List RoomE) (ds : List DoorE) (T tr : List (List UInt8)) (wo st gl : List UInt8) (sf : StE → StE) (ef : StE → Bool) (x0 : StE) : Prop :=
 ∃ (lo lo0 : Nat) (q : WorP) (n nc eb ec bc fb fc : Nat) (NA BA : Option Addr) (sts : List StE) (stp : List (List (Nat × Nat))) (far : List (Int × Int)),
  GrW W lo g q.p n nc eb ec bc fb fc NA BA sts stp (sts.map ef) far ∧ WorW W lo0 M q T rs ds tr wo st gl ∧ Hid (sts.length = n ∧ FarOk n stp (sts.map ef) (tmX ds) far ∧ ExOk (nxX rs T ds tr wo sf) ef (GoodX rs T) (sf x0) sts stp) ∧ Below w.heap.size w W
def nS (rs : List RoomE) (T : List (List UInt8)) : Nat:=rs.length * 2 ^ T.length * 6
theorem GoodX.lt {rs : List RoomE} {T : List (List UInt8)} {x : StE} (h : GoodX rs T x) : x.r < rs.length ∧ x.b < 2 ^ T.length ∧ x.s < 6:=by
 obtain ⟨⟨key,hk,e1⟩,⟨th,_,e2⟩,e3⟩:=h;refine ⟨by rw [e1]; exact ixR_lt hk,?_,by omega⟩;rw [e2]; exact bitsN_lt _ _
theorem few_statesN {rs : List RoomE} {T : List (List UInt8)} {sts : List StE} (hn : sts.Nodup) (h : ∀ x ∈ sts,GoodX rs T x) : sts.length ≤ nS rs T:=by
 have hb : 0 < 2 ^ T.length:=Nat.two_pow_pos _
 have h1:=nodup_le (nS rs T) (sts.map fun x => (x.r * 2 ^ T.length + x.b) * 6 + x.s) (nodup_map_inj hn (fun x hx y hy e => by
  obtain ⟨a1,a2,a3⟩:=(h x hx).lt;obtain ⟨b1,b2,b3⟩:=(h y hy).lt;generalize 2 ^ T.length = B at *
  cases x; rename_i xr xb xs
  cases y; rename_i yr yb ys
  simp only at *
  have e1 : xr * B + xb = yr * B + yb:=by omega
  have e2 : xs = ys:=by omega
  have e3 : xr = yr:=by
   have h1:=congrArg (· / B) e1;simp only [Nat.mul_comm _ B,Nat.mul_add_div hb,Nat.div_eq_of_lt a2,Nat.div_eq_of_lt b2,Nat.add_zero] at h1;exact h1
  subst e3
  have e4 : xb = yb:=by omega
  rw [e2,e4])) (fun z hz => by
  obtain ⟨x,hx,rfl⟩:=List.mem_map.1 hz;obtain ⟨a1,a2,a3⟩:=(h x hx).lt;unfold nS;generalize 2 ^ T.length = B at *;have : (x.r + 1) * B ≤ rs.length * B:=Nat.mul_le_mul_right _ a1;rw [Nat.add_mul,Nat.one_mul] at this
  omega)
 simpa using h1
section
variable {w W W' : World} {M g : Nat} {rs : List RoomE} {ds : List DoorE} {T tr : List (List UInt8)} {wo st gl : List UInt8} {sf : StE → StE} {ef : StE → Bool} {x0 : StE}
theorem ExGr.below (h : ExGr w W M g rs ds T tr wo st gl sf ef x0) (hb : Below W.heap.size W W') : ExGr w W' M g rs ds T tr wo st gl sf ef x0:=by
 obtain ⟨lo,lo0,q,n,nc,eb,ec,bc,fb,fc,NA,BA,sts,stp,far,h1,h2,h3,h4⟩:=h;exact ⟨lo,lo0,q,n,nc,eb,ec,bc,fb,fc,NA,BA,sts,stp,far,h1.below hb,h2.below hb,h3,below_up h4 hb⟩
theorem path_g {lo1 ca cd : Nat} {A D : Option Addr} {v : World} (h : ExGr w W M g rs ds T tr wo st gl sf ef x0) (hC : McC v W M lo1 A rs ca D ds cd st gl) (hR : Right rs ds st gl) (hTd : onceT (allT rs ds) = T) :
  Calls Tryz.prog 53 #[.pointer (some ⟨g,0,none⟩)] W fun e w' => ∃ r : PathR,PathOk (nxX rs T ds tr wo sf) ef (tmX ds) (sf x0) (nS rs T) r ∧ PaPost W (r.ks.map (keyX ds)) r.t r.is e w':=by
 obtain ⟨lo,lo0,q,n,nc,eb,ec,bc,fb,fc,NA,BA,sts,stp,far,h1,h2,h3,h4⟩:=h;obtain ⟨e1,hF,hE⟩:=h3.out;obtain ⟨g1,g2,g3⟩:=hE.graph hR.dl
 have hTl : T.length ≤ 10:=by rw [← hTd]; exact hR.few
 have hfew:=few_statesN hE.nodup hE.good;have hfew2:=few_states hE.nodup (fun x hx => (hE.good x hx).ok hTl hR.rl);have h0 : 0 < sts.length:=(List.getElem?_eq_some_iff.1 hE.first).1;rw [e1] at g2
 have hto : ∀ i k j,(k,j) ∈ stp.getD i [] → j < n:=fun i k j h => (g2 i k j h).1
 refine (path_any W lo g n nc eb ec bc fb fc NA BA sts stp (sts.map ef) far lo0 M q T rs ds tr wo st gl lo1 ca cd A D h1 h2 ⟨hC.m,hC.bl,Below.refl _ _⟩ hR hF (by omega) (by omega) (by rw [hE.len]; exact e1) (by rw [List.length_map]; exact e1) g1 g2 g3).mono ?_;intro e w' hp;have hok:=hE.path e1 hF hto g3;exact ⟨_,⟨hok.no,fun hi => let ⟨a,b,c,d⟩:=hok.yes hi; ⟨a,b,c,by omega⟩⟩,hp⟩
end
theorem see_ok (w : World) (t : Nat) (a b c F : Value) : SeeOk w t #[a,b,c,.slice none 0 0,F] id:=fun W x _ hB _ => see_none t x W hB.w5.2.2.2.1
theorem goal_ok {w : World} {lo0 M : Nat} {q : WorP} {rs : List RoomE} {ds : List DoorE} {T tr : List (List UInt8)} {wo st gl : List UInt8} (h : WorW w lo0 M q T rs ds tr wo st gl) (t : Nat) (TC : Array Value) : EndsOk w t TC 59 #[.pointer (some ⟨q.p,0,none⟩)] #[] (goalX rs gl) :=
 ⟨fun args W => by kernel_rfl,fun W x hb _ _ => atGoal_any q.p (roomI rs gl) x W (h.below hb).cells.2.2.2.2.2.2⟩
theorem exploreG_any {w W : World} {lo0 M : Nat} {q : WorP} {rs : List RoomE} {ds : List DoorE} {T tr : List (List UInt8)} {wo st gl : List UInt8} {ef : StE → Bool} {sf : StE → StE} {fid : FuncId} {pre post : Array Value} {RV : Value} {x0 : StE} (h : WorW W lo0 M q T rs ds tr wo st gl) (hR : Right rs ds st gl) (hTd : onceT (allT rs ds) = T) (hg : GoodX rs T x0) (hb : Below w.heap.size w W)
  (hsf : ∀ x,GoodX rs T x → GoodX rs T (sf x)) (hsee : ∀ t,SeeOk W t #[.int .i64 (x0.r : Int),.int .i64 (x0.b : Int),.int .i64 (x0.s : Int),RV,.func (.func fid) pre post] sf) (hef : ∀ t,EndsOk W t #[.int .i64 (x0.r : Int),.int .i64 (x0.b : Int),.int .i64 (x0.s : Int),RV,.func (.func fid) pre post] fid pre post ef) :
  Calls Tryz.prog 57 #[.pointer (some ⟨q.p,0,none⟩),.agg #[.int .i64 (x0.r : Int),.int .i64 (x0.b : Int),.int .i64 (x0.s : Int),RV,.func (.func fid) pre post]] W fun e w' => ∃ g,e = .returned (.pointer (some ⟨g,0,none⟩)) ∧ ExGr w w' M g rs ds T tr wo st gl sf ef x0 ∧ Below W.heap.size W w':=by
 refine (explore_any W lo0 M q T rs ds tr wo st gl h hR hTd x0 hg RV pre post fid ef sf hsf hsee hef).mono ?_;rintro e w' ⟨g,n,nc,eb,ec,bc,fb,fc,NA,BA,sts,stp,far,rfl,hn,hG,hN,hS,hB,hF,hFO,hE,hbw⟩;refine ⟨g,rfl,⟨W.heap.size,lo0,q,n,nc,eb,ec,bc,fb,fc,NA,BA,sts,stp,far,⟨hG,hN,hS,hB,hF⟩,h.below hbw,Lib.hid ⟨hn,?_,hE⟩,below_up hb hbw⟩,hbw⟩;exact hFO
def st0 (rs : List RoomE) (T : List (List UInt8)) (st : List UInt8) : StE:=stX rs T st (givesOf rs st)
theorem st0_good {rs : List RoomE} {ds : List DoorE} {T : List (List UInt8)} {st gl : List UInt8} (hR : Right rs ds st gl) (hTd : onceT (allT rs ds) = T) : GoodX rs T (st0 rs T st) :=
 ⟨⟨st,hR.st,rfl⟩,⟨onceT (givesOf rs st),by rw [← hTd]; exact begin_ok st,(bitsT_once T _).symm⟩,Nat.zero_le _⟩
theorem st0_once (rs : List RoomE) (T : List (List UInt8)) (st : List UInt8) : st0 rs T st = stX rs T st (onceT (givesOf rs st)):=by
 unfold st0 stX; rw [bitsT_once]
theorem begin_w {W : World} {lo0 M : Nat} {q : WorP} {rs : List RoomE} {ds : List DoorE} {T tr : List (List UInt8)} {wo st gl : List UInt8} (h : WorW W lo0 M q T rs ds tr wo st gl) (hR : Right rs ds st gl) : Calls Tryz.prog 60 #[.pointer (some ⟨q.p,0,none⟩)] W fun e w' => e = .returned (.agg #[.int .i64 ((st0 rs T st).r : Int),.int .i64 ((st0 rs T st).b : Int),.int .i64 0]) ∧ Below W.heap.size W w':=by
 obtain ⟨b,off,e,_,hc⟩:=h.giveI hR.rup hR.st;have h2:=h.cells.2.2.1;have h5:=h.cells.2.2.2.2.2.1;rw [e] at h2;rw [roomI_mem hR.st] at h5;exact beginW_any q.p b off q.gc rs.length (ixR rs st) _ W h5 h2 hc (ixR_lt hR.st) (by have:=hR.rl; omega)
set_option maxHeartbeats 4000000 in
set_option maxRecDepth 100000 in
theorem fastest_any (M lo ca cd lo2 c2 : Nat) (A : Option Addr) (rs : List RoomE) (D : Option Addr) (ds : List DoorE) (st gl : List UInt8) (T : List (List UInt8)) (TR : Option Addr) (tr : List (List UInt8)) (wo : List UInt8) (w : World) (hA : MapW w lo A rs D ds) (hM : Blk w M 29 #[.slice A rs.length ca,.slice D ds.length cd,.string ⟨st.toArray⟩,.string ⟨gl.toArray⟩]) (hR : Right rs ds st gl) (hT : onceT (allT rs ds) = T) (hr : Row w lo2 1 TR tr.length (strs tr)) (hrl : tr.length ≤ 1000000000) :
  Calls Tryz.prog 52 #[.pointer (some ⟨M,0,none⟩),.slice TR tr.length c2,.string ⟨wo.toArray⟩] w fun e w' => ∃ g,e = .returned (.pointer (some ⟨g,0,none⟩)) ∧ ExGr w w' M g rs ds T tr wo st gl id (goalX rs gl) (st0 rs T st) ∧ Below w.heap.size w w':=by
 have HN:=Lib.hid (newWorld_any M lo ca cd lo2 c2 A rs D ds st gl T TR tr wo w hA hM hR hT hr hrl);have HR:=Lib.hid hR;have HT:=Lib.hid hT;clear hA hM hR hT hr hrl
 go_enter Tryz.func52,Tryz.ntmps52
 go_wp2_with fail;refine HN.out.mono ?_;rintro e w1 ⟨q,rfl,hW,hq,hb1⟩;have HW:=Lib.hid hW;clear hW;go_wp2_with fail;refine (begin_w HW.out HR.out).mono ?_;rintro e w2 ⟨rfl,hb2⟩;have HW2:=Lib.hid (HW.out.below hb2);have hb:=below_up hb1 hb2;go_wp2_with fail;refine (exploreG_any (x0:=st0 rs T st) (w:=w) HW2.out HR.out HT.out (st0_good HR.out HT.out) hb (fun _ h => h) (fun t => see_ok _ t _ _ _ _) (fun t => goal_ok HW2.out t _)).mono ?_;rintro e w3 ⟨g,rfl,hE,hb3⟩;have hb:=below_up hb hb3;go_wp2_with fail;go_ret;exact ⟨g,rfl,hE,hb⟩
noncomputable def timeF (rs : List RoomE) (ds : List DoorE) (T tr : List (List UInt8)) (wo st gl : List UInt8) : Int:=Classical.epsilon (LeastT (nxX rs T ds tr wo id) (goalX rs gl) (tmX ds) (st0 rs T st))
theorem timeF_eq {rs : List RoomE} {ds : List DoorE} {T tr : List (List UInt8)} {wo st gl : List UInt8} {v : Int} (h : LeastT (nxX rs T ds tr wo id) (goalX rs gl) (tmX ds) (st0 rs T st) v) : timeF rs ds T tr wo st gl = v :=
 (Classical.epsilon_spec (p:=LeastT (nxX rs T ds tr wo id) (goalX rs gl) (tmX ds) (st0 rs T st)) ⟨v,h⟩).uniq h
set_option maxHeartbeats 4000000 in
set_option maxRecDepth 100000 in
theorem time_any (M lo ca cd lo2 c2 : Nat) (A : Option Addr) (rs : List RoomE) (D : Option Addr) (ds : List DoorE) (st gl : List UInt8) (T : List (List UInt8)) (TR : Option Addr) (tr : List (List UInt8)) (wo : List UInt8) (w : World) (hA : MapW w lo A rs D ds) (hM : Blk w M 29 #[.slice A rs.length ca,.slice D ds.length cd,.string ⟨st.toArray⟩,.string ⟨gl.toArray⟩]) (hR : Right rs ds st gl) (hT : onceT (allT rs ds) = T) (hr : Row w lo2 1 TR tr.length (strs tr)) (hrl : tr.length ≤ 1000000000) :
  Calls Tryz.prog 95 #[.pointer (some ⟨M,0,none⟩),.slice TR tr.length c2,.string ⟨wo.toArray⟩] w fun e w' => e = .returned (.int .i64 (timeF rs ds T tr wo st gl)) ∧ LeastT (nxX rs T ds tr wo id) (goalX rs gl) (tmX ds) (st0 rs T st) (timeF rs ds T tr wo st gl) ∧ (-1 ≤ timeF rs ds T tr wo st gl ∧ timeF rs ds T tr wo st gl ≤ 530841600000000) ∧ Below w.heap.size w w':=by
 have HN:=Lib.hid (fastest_any M lo ca cd lo2 c2 A rs D ds st gl T TR tr wo w hA hM hR hT hr hrl)
 have hTl : T.length ≤ 10:=by rw [← hT]; exact hR.few
 have hrl1:=hR.rl;clear hA hM hR hT hr hrl
 go_enter Tryz.func95,Tryz.ntmps95
 go_wp2_with fail;refine HN.out.mono ?_;rintro e w1 ⟨g,rfl,⟨lo,lo0,q,n,nc,eb,ec,bc,fb,fc,NA,BA,sts,stp,far,hG,hW,hH,_⟩,hb⟩
 have hn0 : 0 < n:=by rw [← hH.out.1]; exact (List.getElem?_eq_some_iff.1 hH.out.2.2.first).1
 have HL:=Lib.hid (hH.out.2.2.least hH.out.1 hH.out.2.1 hH.out.2.2.first)
 have HBD : Hid (-1 ≤ (fA far 0).1 ∧ (fA far 0).1 ≤ 530841600000000):=Lib.hid (by
  have h1:=hH.out.2.1.bnd 0 hn0;have h2:=few_states hH.out.2.2.nodup (fun x hx => (hH.out.2.2.good x hx).ok hTl hrl1);rw [hH.out.1] at h2;have h3:=HL.out;unfold LeastT at h3
  omega)
 obtain ⟨k0,k1,k2,k3,k4⟩:=hG.g.w5;have zg:=hG.g.lt;obtain ⟨zf,f0,f1⟩:=hG.farC hH.out.2.1.flen hn0;rw [Nat.zero_mul] at f0;clear hG hW;go_wp2_with fail;go_ret;have e:=timeF_eq HL.out;exact ⟨by rw [e]; rfl,by rw [e]; exact HL.out,by rw [e]; exact HBD.out,hb⟩
def FaPost (w : World) (rs : List RoomE) (ds : List DoorE) (T tr : List (List UInt8)) (st gl : List UInt8) (err : Int) (e : Ending) (w' : World) : Prop :=
 ∃ (r : PathR) (A : Option Addr) (c : Nat),(err ≠ 0 → r = ⟨[],0,false⟩) ∧ (err = 0 → PathOk (nxX rs T ds tr [] id) (goalX rs gl) (tmX ds) (st0 rs T st) (nS rs T) r) ∧ e = .returned (.tuple #[.agg #[.slice A r.ks.length c,.int .i64 r.t],.bool r.is,.int .i64 err]) ∧ w'.ownsRow w.heap.size 9 1 (.slice A r.ks.length c) r.ks.length (strs (r.ks.map (keyX ds))) ∧ Below w.heap.size w w'
theorem FaPost.bad {w w' : World} {rs : List RoomE} {ds : List DoorE} {T tr : List (List UInt8)} {st gl : List UInt8} {err : Int} (h : err ≠ 0) (hb : Below w.heap.size w w') : FaPost w rs ds T tr st gl err (.returned (.tuple #[.agg #[.slice none 0 0,.int .i64 0],.bool false,.int .i64 err])) w' :=
 ⟨⟨[],0,false⟩,none,0,fun _ => rfl,fun e => absurd e h,rfl,World.ownsRow_nil _ _ _ _,hb⟩
set_option maxHeartbeats 8000000 in
set_option maxRecDepth 100000 in
theorem Fastest_any (lo ca cd lo2 c2 : Nat) (A : Option Addr) (rs : List RoomE) (D : Option Addr) (ds : List DoorE) (st gl : List UInt8) (TR : Option Addr) (tr : List (List UInt8)) (w : World) (hA : MapW w lo A rs D ds) (hr : Row w lo2 1 TR tr.length (strs tr)) (hrl : tr.length ≤ 1000000000) :
  Calls Tryz.prog 10 #[mapV A rs ca D ds cd st gl,.slice TR tr.length c2] w (FaPost w rs ds (onceT (allT rs ds)) tr st gl (tricksE rs ds st gl tr)):=by
 have hT : ∃ T,onceT (allT rs ds) = T:=⟨_,rfl⟩
 obtain ⟨T,hT⟩:=hT;have HT:=Lib.hid hT;rw [hT]
 have hC : McC w ((w.alloc (.cells #[.slice A rs.length ca,.slice D ds.length cd,.string ⟨st.toArray⟩,.string ⟨gl.toArray⟩] 29)).alloc (.cells #[.slice none 0 0,.int .i64 0] 40)) w.heap.size lo A rs ca D ds cd st gl:=⟨(hA.alloc _).alloc _,(Blk.new _ _ _).alloc _,(by repeat (first | exact Below.refl _ _ | refine Below.alloc ?_ (by first | omega | (simp; omega) | simp) _ | refine below_drewN' ?_ _ | refine Below.drew ?_))⟩
 have HP : Hid (Blk ((w.alloc (.cells #[.slice A rs.length ca,.slice D ds.length cd,.string ⟨st.toArray⟩,.string ⟨gl.toArray⟩] 29)).alloc (.cells #[.slice none 0 0,.int .i64 0] 40)) (w.heap.size + 1) 40 #[.slice none 0 0,.int .i64 0]):=Lib.hid (Blk.at_ _ (by simp));have HRR:=Lib.hid hr
 obtain ⟨err,herr⟩ : ∃ err,err = tricksE rs ds st gl tr:=⟨_,rfl⟩
 rw [← herr];have HER:=Lib.hid herr;clear hA hr hT herr;unfold mapV;simp only [encStr]
 go_enter Tryz.func10,Tryz.ntmps10
 go_wp2_with fail;have hp:=HP.out;clear HP;generalize ((w.alloc (.cells #[.slice A rs.length ca,.slice D ds.length cd,.string ⟨st.toArray⟩,.string ⟨gl.toArray⟩] 29)).alloc (.cells #[.slice none 0 0,.int .i64 0] 40)) = W1 at *;have hrz : w.heap.size ≤ w.heap.size + 1:=Nat.le_succ _;generalize w.heap.size + 1 = r at *;have hct:=checkTricks_any lo ca cd A rs D ds st gl lo2 c2 TR tr W1 hC.m (HRR.out.below hC.b) hrl;unfold mapV at hct;simp only [encStr] at hct;rw [← HER.out] at hct;refine hct.mono ?_;rintro e w2 ⟨rfl,hb⟩;have hC:=hC.below hb;have hp:=hp.below hb;clear hct hb
 by_cases h0 : err = 0
 ·subst h0
  have HR : Hid (Right rs ds st gl):=Lib.hid (right_of (tricks_right HER.out.symm));go_wp2_with fail;refine (fastest_any w.heap.size lo ca cd lo2 c2 A rs D ds st gl T TR tr [] w2 hC.m hC.bl HR.out HT.out (HRR.out.below hC.b) hrl).mono ?_;rintro e w3 ⟨g,rfl,hE,hb⟩;have hC:=hC.below hb;have hp:=hp.below hb;have z3:=hC.b.size;clear hb;go_wp2_with fail;refine (path_g hE hC HR.out HT.out).mono ?_;rintro e w4 ⟨r4,hok,PA,pc,rfl,hown,hb⟩;have hok:=Lib.hid hok;have hC:=hC.below hb;have hp:=hp.below hb;have hks : (r4.ks.map (keyX ds)).length = r4.ks.length:=List.length_map ..;have hown:=own_down9 hown z3;rw [hks] at hown;rw [hks];clear hks hE hb
  obtain ⟨KL,hKL⟩ : ∃ KL,KL = r4.ks.length:=⟨_,rfl⟩
  obtain ⟨KT,hKT⟩ : ∃ KT,KT = r4.t:=⟨_,rfl⟩
  obtain ⟨KI,hKI⟩ : ∃ KI,KI = r4.is:=⟨_,rfl⟩
  rw [← hKL] at hown ⊢;rw [← hKT,← hKI];have HK:=Lib.hid (And.intro hKL (And.intro hKT hKI));clear hKL hKT hKI;obtain ⟨u0,u1⟩:=hp.w2;have fu0:=hp.thaw 0;have fu1:=hp.thaw 1;have zu:=hp.lt;go_wp2_with fail;have hr2 : Blk (((w4.setCell ⟨r,0,none⟩ (.slice PA KL pc)).setCell ⟨r,1,none⟩ (.int .i64 KT)).alloc (.cells #[.slice PA KL pc,.int .i64 KT] 40)) r 40 #[.slice PA KL pc,.int .i64 KT]:=(show Blk _ _ _ _ by simpa using (hp.poke 0 (.slice PA KL pc)).poke 1 (.int .i64 KT)).alloc _;have hbel:=Below.setCell (Below.setCell hC.b (show w.heap.size ≤ (⟨r,0,none⟩ : Addr).block from hrz) (.slice PA KL pc)) (show w.heap.size ≤ (⟨r,1,none⟩ : Addr).block from hrz) (.int .i64 KT);have HB : Hid (Below w.heap.size w (((w4.setCell ⟨r,0,none⟩ (.slice PA KL pc)).setCell ⟨r,1,none⟩ (.int .i64 KT)).alloc (.cells #[.slice PA KL pc,.int .i64 KT] 40))):=Lib.hid (hbel.alloc hbel.size _);clear hbel;have hd:=own_past (own_past hown hp (by decide) 0 (.slice PA KL pc)) (hp.poke 0 (.slice PA KL pc)) (by decide) 1 (.int .i64 KT);have HD : Hid ((((w4.setCell ⟨r,0,none⟩ (.slice PA KL pc)).setCell ⟨r,1,none⟩ (.int .i64 KT)).alloc (.cells #[.slice PA KL pc,.int .i64 KT] 40)).ownsRow w.heap.size 9 1 (.slice PA KL pc) KL (strs (r4.ks.map (keyX ds)))):=Lib.hid (hd.alloc _);generalize ((w4.setCell ⟨r,0,none⟩ (.slice PA KL pc)).setCell ⟨r,1,none⟩ (.int .i64 KT)).alloc (.cells #[.slice PA KL pc,.int .i64 KT] 40) = W5 at *;obtain ⟨v0,v1⟩:=hr2.w2;refine bodyPost_ret (v:=.tuple #[.agg #[.slice PA KL pc,.int .i64 KT],.bool KI,.int .i64 0]) (by simp [results,Tryz.results10,go_sem,v0,v1]) rfl ?_;obtain ⟨e1,e2,e3⟩:=HK.out;subst e1 e2 e3;exact ⟨r4,PA,pc,fun h => absurd rfl h,fun _ => hok.out,rfl,HD.out,HB.out⟩
 ·have d0 : (err != 0) = true:=bne_iff_ne.2 h0
  obtain ⟨u0,u1⟩:=hp.w2;have fu0:=hp.thaw 0;have fu1:=hp.thaw 1;have zu:=hp.lt;go_wp2_with fail
  have hr2 : Blk ((w2.setCell ⟨r,0,none⟩ (.slice none 0 0)).setCell ⟨r,1,none⟩ (.int .i64 0)) r 40 #[.slice none 0 0,.int .i64 0]:=(show Blk _ _ _ _ by simpa using (hp.poke 0 (.slice none 0 0)).poke 1 (.int .i64 0))
  have hbel:=Below.setCell (Below.setCell hC.b (show w.heap.size ≤ (⟨r,0,none⟩ : Addr).block from hrz) (.slice none 0 0)) (show w.heap.size ≤ (⟨r,1,none⟩ : Addr).block from hrz) (.int .i64 0);generalize (w2.setCell ⟨r,0,none⟩ (.slice none 0 0)).setCell ⟨r,1,none⟩ (.int .i64 0) = W5 at *;obtain ⟨v0,v1⟩:=hr2.w2;refine bodyPost_ret (v:=.tuple #[.agg #[.slice none 0 0,.int .i64 0],.bool false,.int .i64 err]) (by simp [results,Tryz.results10,go_sem,v0,v1]) rfl ?_;exact FaPost.bad h0 hbel
end Go.Proofs.YtjggbpchmbdocaaGreatDoor
