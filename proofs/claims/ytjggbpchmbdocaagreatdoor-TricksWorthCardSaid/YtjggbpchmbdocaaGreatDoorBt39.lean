/- Texts of this seat, laid together: HpL HpX TwB RouN AppR HpY HpZ HpO. -/
import Derived.ArgAppend
import Derived.Deep.DeepCutAuto
import Derived.Deep.CutRange
import Derived.Laws.EntriesVeiled
import Derived.Test.YtjggbpchmbdocaaGreatDoorBt35
import Derived.Test.YtjggbpchmbdocaaGreatDoorBt38
import Derived.Test.YtjggbpchmbdocaaGreatDoorBt26
import Derived.Test.YtjggbpchmbdocaaGreatDoorBt36
import Derived.Test.YtjggbpchmbdocaaGreatDoorBt05
import Derived.Test.YtjggbpchmbdocaaGreatDoorBt28
import Derived.Test.YtjggbpchmbdocaaGreatDoorBt04
/- What the laws on ways want, plain: more tricks are no slower, a path is a walk, no walk is faster. -/
set_option linter.unusedVariables false
set_option linter.unusedSimpArgs false
namespace Go.Proofs.YtjggbpchmbdocaaGreatDoor
open Go.RowKit

theorem trickAt_0 {ds : List DoorE} {l : List (List UInt8)} {i : Nat} (hi : i < l.length) (h : trickAt ds l i = 0) : l[i] ∈ onceT (allK ds) ∧ (0 < i → l.getD (i - 1) [] < l[i]):=by
 unfold trickAt at h
 have e : l.getD i [] = l[i]:=by rw [List.getD_eq_getElem?_getD,List.getElem?_eq_getElem hi]; rfl
 rw [e] at h
 by_cases c1 : l[i] ∈ onceT (allK ds)
 ·rw [if_neg (by simpa using c1)] at h
  refine ⟨c1,fun h0 => ?_⟩
  by_cases c2 : l.getD (i - 1) [] < l[i]
  ·exact c2
  ·rw [if_pos ⟨h0,c2⟩] at h; cases h
 ·rw [if_pos c1] at h; cases h
theorem tricks_in {rs : List RoomE} {ds : List DoorE} {st gl : List UInt8} {tr : List (List UInt8)} (h : tricksE rs ds st gl tr = 0) : (∀ s ∈ tr,s ∈ onceT (allK ds)) ∧ tr.Pairwise (· < ·):=by
 have hm:=tricks_right h;unfold tricksE at h;rw [if_neg (by simp [hm])] at h;have h0:=scanF_0 h;refine ⟨fun s hs => ?_,?_⟩
 ·obtain ⟨i,hi,rfl⟩:=List.mem_iff_getElem.1 hs
  exact (trickAt_0 hi (h0 i hi)).1
 ·have hup : UpS tr:=fun i hi => by
   have:=(trickAt_0 hi (h0 (i + 1) hi)).2 (by omega)
   rwa [show i + 1 - 1 = i by omega,List.getD_eq_getElem?_getD,List.getElem?_eq_getElem (show i < tr.length by omega)] at this
  rw [List.pairwise_iff_getElem]
  exact fun i j hi hj hij => UpS.lt hup i j hj hij
section
variable {rs : List RoomE} {ds : List DoorE} {T : List (List UInt8)} {tr tr' : List (List UInt8)} {st gl : List UInt8} {n n' : Nat} {r r' : PathR}
theorem path_mono (h : PathOk (nxX rs T ds tr [] id) (goalX rs gl) (tmX ds) (st0 rs T st) n r) (h' : PathOk (nxX rs T ds tr' [] id) (goalX rs gl) (tmX ds) (st0 rs T st) n' r') (hs : ∀ s ∈ tr,s ∈ tr') (hi : r.is = true) : r'.is = true ∧ r'.t ≤ r.t:=by
 obtain ⟨⟨d,hw⟩,_,_,_⟩:=h.yes hi;have hw':=hw.mono (nx':=nxX rs T ds tr' [] id) (fun x p => nxX_mono hs x p)
 cases hx : r'.is with
 | false => exact absurd hw' ((h'.no hx).2 _ _ _)
 | true => exact ⟨rfl,(h'.yes hx).2.1 _ _ _ hw'⟩
theorem path_walks (h : PathOk (nxX rs T ds tr [] id) (goalX rs gl) (tmX ds) (st0 rs T st) n r) (hE : tricksE rs ds st gl tr = 0) (hT : onceT (allT rs ds) = T) (hn : n ≤ 500) (hi : r.is = true) : ∃ th,walkE rs ds st gl tr (r.ks.map (keyX ds)) = ⟨0,gl,th,r.t⟩:=by
 obtain ⟨⟨d,hw⟩,_,_,hl⟩:=h.yes hi;have hR:=right_of (tricks_right hE);rw [st0_once] at hw;obtain ⟨th,e⟩:=way_walk hR hT hw st (onceT (givesOf rs st)) 0 hR.st rfl;refine ⟨th,?_⟩;unfold walkE walkF;rw [if_neg (by simp [hE]),if_neg (by rw [List.length_map]; omega),e,Int.zero_add]
theorem walk_slow (h : PathOk (nxX rs T ds tr [] id) (goalX rs gl) (tmX ds) (st0 rs T st) n r) (hE : tricksE rs ds st gl tr = 0) (hT : onceT (allT rs ds) = T) {l : List (List UInt8)} (he : (walkE rs ds st gl tr l).err = 0) (hr : (walkE rs ds st gl tr l).room = gl) : r.is = true → r.t ≤ (walkE rs ds st gl tr l).time:=by
 intro hi;have hR:=right_of (tricks_right hE)
 have e : walkE rs ds st gl tr l = ⟨0,gl,(walkE rs ds st gl tr l).th,(walkE rs ds st gl tr l).time⟩:=by
  conv => lhs; rw [show walkE rs ds st gl tr l = ⟨(walkE rs ds st gl tr l).err,(walkE rs ds st gl tr l).room,(walkE rs ds st gl tr l).th,(walkE rs ds st gl tr l).time⟩ from rfl]
  rw [he,hr]
 have e2 : walkS rs ds tr l st (onceT (givesOf rs st)) 0 = walkE rs ds st gl tr l:=by
  unfold walkE walkF;rw [if_neg (by simp [hE])]
  by_cases c : 500 < l.length
  ·exfalso
   unfold walkE walkF at he;rw [if_neg (by simp [hE]),if_pos c] at he
   cases he
  ·rw [if_neg c]
 rw [e] at e2;obtain ⟨_,t,d,ks,hw,hle⟩:=walk_way hR hT l st (onceT (givesOf rs st)) _ 0 _ hR.st e2;rw [← st0_once] at hw;have:=(h.yes hi).2.1 _ _ _ hw;omega
theorem walk_is (h : PathOk (nxX rs T ds tr [] id) (goalX rs gl) (tmX ds) (st0 rs T st) n r) (hE : tricksE rs ds st gl tr = 0) (hT : onceT (allT rs ds) = T) {l : List (List UInt8)} (he : (walkE rs ds st gl tr l).err = 0) (hr : (walkE rs ds st gl tr l).room = gl) : r.is = true:=by
 have hR:=right_of (tricks_right hE)
 have e : walkE rs ds st gl tr l = ⟨0,gl,(walkE rs ds st gl tr l).th,(walkE rs ds st gl tr l).time⟩:=by
  conv => lhs; rw [show walkE rs ds st gl tr l = ⟨(walkE rs ds st gl tr l).err,(walkE rs ds st gl tr l).room,(walkE rs ds st gl tr l).th,(walkE rs ds st gl tr l).time⟩ from rfl]
  rw [he,hr]
 have e2 : walkS rs ds tr l st (onceT (givesOf rs st)) 0 = walkE rs ds st gl tr l:=by
  unfold walkE walkF;rw [if_neg (by simp [hE])]
  by_cases c : 500 < l.length
  ·exfalso
   unfold walkE walkF at he;rw [if_neg (by simp [hE]),if_pos c] at he
   cases he
  ·rw [if_neg c]
 rw [e] at e2;obtain ⟨_,t,d,ks,hw,hle⟩:=walk_way hR hT l st (onceT (givesOf rs st)) _ 0 _ hR.st e2;rw [← st0_once] at hw
 cases hx : r.is with
 | true => rfl
 | false => exact absurd hw ((h.no hx).2 _ _ _)
end
def FaQ (rs : List RoomE) (ds : List DoorE) (T tr : List (List UInt8)) (st gl : List UInt8) (K : List (List UInt8)) (t : Int) (is : Bool) : Prop :=
 ∃ r : PathR,PathOk (nxX rs T ds tr [] id) (goalX rs gl) (tmX ds) (st0 rs T st) (nS rs T) r ∧ K = r.ks.map (keyX ds) ∧ t = r.t ∧ is = r.is
theorem pathOk_len {nx : StE → List (Nat × StE)} {ef : StE → Bool} {tm : Nat → Int} {x : StE} {n : Nat} {r : PathR} (h : PathOk nx ef tm x n r) : r.ks.length ≤ n:=by
 cases hi : r.is with
 | false => rw [(h.no hi).1]; exact Nat.zero_le _
 | true => exact (h.yes hi).2.2.2
section
variable {rs : List RoomE} {ds : List DoorE} {T : List (List UInt8)} {tr tr' : List (List UInt8)} {st gl : List UInt8} {K K' l : List (List UInt8)} {t t' : Int} {is is' : Bool}
theorem FaQ.len (h : FaQ rs ds T tr st gl K t is) : K.length ≤ nS rs T:=by
 obtain ⟨r,h1,rfl,_,_⟩:=h;rw [List.length_map]; exact pathOk_len h1
theorem FaQ.mono (h : FaQ rs ds T tr st gl K t is) (h' : FaQ rs ds T tr' st gl K' t' is') (hs : ∀ s ∈ tr,s ∈ tr') (hi : is = true) : is' = true ∧ t' ≤ t:=by
 obtain ⟨r,h1,_,rfl,rfl⟩:=h;obtain ⟨r',h1',_,rfl,rfl⟩:=h';exact path_mono h1 h1' hs hi
theorem FaQ.walks (h : FaQ rs ds T tr st gl K t is) (hE : tricksE rs ds st gl tr = 0) (hT : onceT (allT rs ds) = T) (hn : nS rs T ≤ 500) (hi : is = true) : ∃ th,walkE rs ds st gl tr K = ⟨0,gl,th,t⟩:=by
 obtain ⟨r,h1,rfl,rfl,rfl⟩:=h;exact path_walks h1 hE hT hn hi
theorem FaQ.slow (h : FaQ rs ds T tr st gl K t is) (hE : tricksE rs ds st gl tr = 0) (hT : onceT (allT rs ds) = T) (he : (walkE rs ds st gl tr l).err = 0) (hr : (walkE rs ds st gl tr l).room = gl) : is = true ∧ t ≤ (walkE rs ds st gl tr l).time:=by
 obtain ⟨r,h1,rfl,rfl,rfl⟩:=h;have:=walk_is h1 hE hT he hr;exact ⟨this,walk_slow h1 hE hT he hr this⟩
theorem FaQ.zero (h : FaQ rs ds T tr st gl K t is) (hi : is = false) : K = [] ∧ t = 0:=by
 obtain ⟨r,h1,rfl,rfl,rfl⟩:=h;rw [(h1.no hi).1]; exact ⟨rfl,rfl⟩
theorem FaQ.least (h : FaQ rs ds T tr st gl K t is) : LeastT (nxX rs T ds tr [] id) (goalX rs gl) (tmX ds) (st0 rs T st) (if is then t else -1):=by
 obtain ⟨r,h1,rfl,rfl,rfl⟩:=h
 cases hi : r.is with
 | false => exact .inl ⟨rfl,(h1.no hi).2⟩
 | true =>
  obtain ⟨⟨d,hw⟩,h2,h3,_⟩:=h1.yes hi;exact .inr ⟨h3,⟨d,_,hw⟩,h2⟩
end
theorem Fastest_ok (lo ca cd lo2 c2 : Nat) (A : Option Addr) (rs : List RoomE) (D : Option Addr) (ds : List DoorE) (st gl : List UInt8) (TR : Option Addr) (tr : List (List UInt8)) (w : World) (hA : MapW w lo A rs D ds) (hr : Row w lo2 1 TR tr.length (strs tr)) (hrl : tr.length ≤ 1000000000) (hE : tricksE rs ds st gl tr = 0) :
  Calls Tryz.prog 10 #[mapV A rs ca D ds cd st gl,.slice TR tr.length c2] w fun e w' => ∃ (K : List (List UInt8)) (t : Int) (is : Bool) (B : Option Addr) (c : Nat),e = .returned (.tuple #[.agg #[.slice B K.length c,.int .i64 t],.bool is,.int .i64 0]) ∧ FaQ rs ds (onceT (allT rs ds)) tr st gl K t is ∧ w'.ownsRow w.heap.size 9 1 (.slice B K.length c) K.length (strs K) ∧ Below w.heap.size w w':=by
 refine (Fastest_any lo ca cd lo2 c2 A rs D ds st gl TR tr w hA hr hrl).mono ?_;rintro e w' ⟨r,B,c,_,hok,rfl,hown,hb⟩;refine ⟨r.ks.map (keyX ds),r.t,r.is,B,c,by rw [hE,List.length_map],⟨r,hok hE,rfl,rfl,rfl⟩,by rw [List.length_map]; exact hown,hb⟩
theorem Blk.fourR {w : World} {b : Nat} {t : TypeId} {x0 x1 x2 x3 : Value} (h : Blk w b t #[x0,x1,x2,x3]) : w.cell? ⟨b,0,none⟩ = some x0 ∧ w.cell? ⟨b,1,none⟩ = some x1 ∧ w.cell? ⟨b,2,none⟩ = some x2 ∧ w.cell? ⟨b,3,none⟩ = some x3:=⟨h.cell 0,h.cell 1,h.cell 2,h.cell 3⟩
structure LrI (w W : World) (lo mb N : Nat) (A : Option Addr) (ca : Nat) (rs : List RoomE) (D : Option Addr) (cd : Nat) (ds : List DoorE) (st gl : List UInt8) (TR : Option Addr) (tr : List (List UInt8)) : Prop where
  m : MapW W lo A rs D ds
  t : Row W lo 1 TR tr.length (strs tr)
  b : Blk W mb 29 #[.slice A rs.length ca, .slice D ds.length cd, .string ⟨st.toArray⟩, .string ⟨gl.toArray⟩]
  s : Str W w.heap.size N
  x : Below w.heap.size w W
section
variable {w W W' : World} {lo mb N : Nat} {A : Option Addr} {ca : Nat} {rs : List RoomE} {D : Option Addr} {cd : Nat} {ds : List DoorE} {st gl : List UInt8} {TR : Option Addr} {tr : List (List UInt8)}
theorem LrI.below (h : LrI w W lo mb N A ca rs D cd ds st gl TR tr) (hb : Below W.heap.size W W') : LrI w W' lo mb N A ca rs D cd ds st gl TR tr :=
 ⟨h.m.below hb,h.t.below hb,h.b.below hb,h.s.keep hb,below_up h.x hb⟩
theorem LrI.alloc (h : LrI w W lo mb N A ca rs D cd ds st gl TR tr) (o : Obj) : LrI w (W.alloc o) lo mb N A ca rs D cd ds st gl TR tr:=h.below ((Below.refl _ _).alloc (Nat.le_refl _) o)
theorem LrI.drew (h : LrI w W lo mb N A ca rs D cd ds st gl TR tr) : LrI w W.drew lo mb N A ca rs D cd ds st gl TR tr:=h.below (below_drewN' (Below.refl _ _) 1)
theorem LrI.drewN (h : LrI w W lo mb N A ca rs D cd ds st gl TR tr) (k : Nat) : LrI w (W.drewN k) lo mb N A ca rs D cd ds st gl TR tr:=h.below (below_drewN' (Below.refl _ _) k)
theorem LrI.cells (h : LrI w W lo mb N A ca rs D cd ds st gl TR tr) : W.cell? ⟨mb,0,none⟩ = some (.slice A rs.length ca) ∧ W.cell? ⟨mb,1,none⟩ = some (.slice D ds.length cd) ∧ W.cell? ⟨mb,2,none⟩ = some (.string ⟨st.toArray⟩) ∧ W.cell? ⟨mb,3,none⟩ = some (.string ⟨gl.toArray⟩):=⟨h.b.cell 0,h.b.cell 1,h.b.cell 2,h.b.cell 3⟩
theorem LrI.grown {M : Nat} (h : LrI w W lo mb N A ca rs D cd ds st gl TR tr) (hg : W.grownBy W' (some w.heap.size)) (hs : Str W' w.heap.size M) (hl : w.heap.size < lo) (hm : w.heap.size < mb) : LrI w W' lo mb M A ca rs D cd ds st gl TR tr :=
 ⟨h.m.grown hg hl,h.t.grown hg hl,h.b.grown hg (by omega),hs,h.x.grown hg (by have:=h.x.size; omega) (fun k hk => by injection hk with hk; omega)⟩
end
end Go.Proofs.YtjggbpchmbdocaaGreatDoor
/- The walks of less, Worths and Spare. -/
namespace Go.Proofs.YtjggbpchmbdocaaGreatDoor
open Go.RowKit Go.Sort Go.Shelf

theorem own_keepX {w w' : World} {base size n : Nat} {e : TypeId} {v : Value} {xs : List Value} {row : Option Nat} (h : w.ownsRow base e size v n xs) (hg : w.grownBy w' row) (hr : ∀ k j,row = some k → v.ownBlock = some j → j ≠ k) : w'.ownsRow base e size v n xs:=own_keepB h hg hr
theorem Row.grown_x {w w' : World} {lo size n : Nat} {A : Option Addr} {xs : List Value} {row : Option Nat} (h : Row w lo size A n xs) (hg : w.grownBy w' row) (hne : ∀ a j,A = some a → row = some j → a.block ≠ j) : Row w' lo size A n xs :=
 ⟨h.1,fun hn => by
  obtain ⟨b,off,e,h1,h2,h3⟩:=h.2 hn
  exact ⟨b,off,e,h1,Nat.lt_of_lt_of_le h2 hg.size,fun j u hu => (World.cell?_of_block (w:=w) (hg.block b h2 (fun e2 => hne _ _ e e2.symm rfl))).trans (h3 j u hu)⟩⟩
theorem one_encX : OneCell encStr:=fun _ => rfl
def lessL (l : List (List UInt8)) (s : List UInt8) : List (List UInt8):=l.filter fun x => !(x == s)
theorem lessL_len (l : List (List UInt8)) (s : List UInt8) : (lessL l s).length ≤ l.length:=List.length_filter_le _ _

theorem lsC_any_p (x s : List UInt8) (kb : Nat) (w : World) (h1 : w.cell? ⟨kb,0,none⟩ = some (.string ⟨s.toArray⟩)) :
  Calls Tryz.prog 147 #[encStr x,.pointer (some ⟨kb,0,none⟩)] w fun e w' => e = .returned (.bool (x == s)) ∧ ∃ q,w' = w.drewN q:=by
 have hz:=World.block_lt_of_cell? w _ h1
 obtain ⟨b,hb⟩ : ∃ b,b = (x == s):=⟨_,rfl⟩
 rw [← hb];have hb' : (x == s) = b:=hb.symm;clear hb;unfold encStr
 go_enter Tryz.func147,Tryz.ntmps147
 go_wp2_with fail;go_ret;exact ⟨rfl,0,rfl⟩
theorem lsD_any_p (A : Option Addr) (c base kb : Nat) (s : List UInt8) (zs : List (List UInt8)) (w : World) (ho : w.ownsRow base 9 1 (.slice A zs.length c) zs.length (strs zs)) (hl : zs.length ≤ 1000000000) (hk : w.cell? ⟨kb,0,none⟩ = some (.string ⟨s.toArray⟩)) (hkb : kb < base) :
  Calls Tryz.prog 134 #[.slice A zs.length c,.func (.func 147) #[] #[.pointer (some ⟨kb,0,none⟩)]] w fun e w' => e = .returned (.slice A (lessL zs s).length c) ∧ w'.ownsRow base 9 1 (.slice A (lessL zs s).length c) (lessL zs s).length (strs (lessL zs s)) ∧ w.grownBy w' (Value.slice A zs.length c).ownBlock:=by
 have eg : ∀ args w,(callFunc 147 args).run Tryz.prog w = .ok (.enter 147 args) w:=enters_of Tryz.func147 (by kernel_rfl) rfl;have hz:=World.block_lt_of_cell? w _ hk;simp only at hz;unfold lessL;rcases ho.2 with ⟨hv,h0⟩ | ⟨g,cap,cur,hv,hg,hh,hcap,hm,hcs,ht⟩
 ·have hz : zs = []:=List.eq_nil_of_length_eq_zero h0
  subst hz;injection hv with e1 _ e2;subst e1 e2;have hix:=AnyE.slices_IndexFunc_empty Tryz.layIdx none 0 (.func (.func 147) #[] #[.pointer (some ⟨kb,0,none⟩)]) w;change Calls Tryz.prog 137 _ _ _ at hix;simp only [List.length_nil,List.filter_nil];have HO:=Lib.hid ho;clear ho hk
  go_enter Tryz.func134,Tryz.ntmps134
  go_wp2_with fail;refine hix.mono ?_;rintro e w1 ⟨rfl,rfl⟩;clear hix;go_wp2_with fail;go_ret;exact ⟨rfl,HO.out,World.grownBy.refl _ _⟩
 ·injection hv with e1 _ e2
  subst e1 e2;rw [Nat.mul_one] at ht
  have hp : PredAt Tryz.prog 147 #[.pointer (some ⟨kb,0,none⟩)] encStr (fun x => x == s) w:=fun W x hW =>
   lsC_any_p x s kb W ((hW.cell (p:=⟨kb,0,none⟩) hz).trans hk)
  have hpo : PredOver Tryz.prog 147 #[.pointer (some ⟨kb,0,none⟩)] encStr (fun x => x == s) g 0 zs.toArray.size w:=fun n os dk x _ => by
   have hgb : w.grownBy (sortWorld encStr w g 0 n dk os) (some g):=grownBy_sorted dk;exact lsC_any_p x s kb _ (hgb.cell hk (fun e => by injection e with e; simp at e; omega))
  have:=AnyE.slices_DeleteFunc Tryz.layDel encStr one_encX (fun x => x == s) 147 #[.pointer (some ⟨kb,0,none⟩)] eg [] (fun w => Tryz.zeroValue9 w) g 0 c zs.toArray w hp hpo (holds_of_block hh ht) (by simp; omega) (by simpa using hcap);rw [show zs.toArray.size = zs.length by simp,show zs.toArray.toList = zs by simp] at this;refine this.mono ?_;rintro e w' ⟨rfl,q,rfl⟩;have hle : (zs.filter fun x => !(x == s)).length ≤ zs.length:=List.length_filter_le _ _;rw [← grow_nil (putRow _ _ _ _ _)];refine ⟨rfl,⟨by simp [strs],.inr ⟨g,c,_,rfl,hg,heap_sorted _ hh,by omega,hm,by simp [putCells,hcs],?_⟩⟩,grownBy_sorted _⟩;rw [Nat.mul_one];exact take_pad _ _ _ (by omega)
set_option maxHeartbeats 1000000 in
theorem less_any_p (A : Option Addr) (c lo : Nat) (l : List (List UInt8)) (s : List UInt8) (w : World) (hr : Row w lo 1 A l.length (strs l)) (hl : l.length ≤ 1000000000) :
  Calls Tryz.prog 96 #[.slice A l.length c,.string ⟨s.toArray⟩] w fun e w' => ∃ B d,e = .returned (.slice B (lessL l s).length d) ∧ w'.ownsRow w.heap.size 9 1 (.slice B (lessL l s).length d) (lessL l s).length (strs (lessL l s)) ∧ Below w.heap.size w w':=by
 go_enter Tryz.func96,Tryz.ntmps96
 go_wp2_with fail;have hx : Blk (w.alloc (.cells #[.string ⟨s.toArray⟩] 9)) w.heap.size 9 #[.string ⟨s.toArray⟩]:=Blk.new _ _ _;have hb0 : Below w.heap.size w (w.alloc (.cells #[.string ⟨s.toArray⟩] 9)):=(Below.refl _ _).alloc (Nat.le_refl _) _;have hr:=hr.alloc (.cells #[.string ⟨s.toArray⟩] 9)
 have hz0 : (w.alloc (.cells #[.string ⟨s.toArray⟩] 9)).heap.size = w.heap.size + 1:=by simp
 generalize w.alloc (.cells #[.string ⟨s.toArray⟩] 9) = w1 at *;refine (cloneS_any A c lo l _ hr hl).mono ?_;rintro e w2 ⟨B,d,rfl,ho,hb1⟩;have hx:=hx.below hb1;have hb:=below_up hb0 hb1;clear hr hb1 hb0;go_wp2_with fail;refine (lsD_any_p B d w1.heap.size w.heap.size s l w2 ho hl (hx.cell 0) (by omega)).mono ?_;rintro e w3 ⟨rfl,ho3,hg3⟩;have hb3:=hb.grown hg3 hb.size (fun k hk => Nat.le_trans (by omega) (own_base ho k hk));have HO3:=Lib.hid (own_down9 ho3 (show w.heap.size ≤ w1.heap.size by omega));clear ho ho3 hg3;go_wp2_with fail;go_ret;exact ⟨B,d,rfl,HO3.out,hb3⟩

def worthV (f : List (List UInt8) → Int) (tr : List (List UInt8)) (s : List UInt8) : Int × Bool :=
 if f tr < 0 then (0,false) else if f (lessL tr s) < 0 then (0,true) else (f (lessL tr s) - f tr,false)
def encWo (f : List (List UInt8) → Int) (tr : List (List UInt8)) (s : List UInt8) : List Value:=[.string ⟨s.toArray⟩,.int .i64 (worthV f tr s).1,.bool (worthV f tr s).2]
def spareS (f : List (List UInt8) → Int) (all : Int) (st : List (List UInt8) × List (List UInt8)) (s : List UInt8) : List (List UInt8) × List (List UInt8) :=
 if f (lessL st.2 s) = all then (st.1 ++ [s],lessL st.2 s) else st
def spareF (f : List (List UInt8) → Int) (tr : List (List UInt8)) : List (List UInt8) × List (List UInt8):=tr.foldl (spareS f (f tr)) ([],tr)
noncomputable def timeT (rs : List RoomE) (ds : List DoorE) (st gl : List UInt8) (l : List (List UInt8)) : Int:=timeF rs ds (onceT (allT rs ds)) l [] st gl
theorem ty_woL : SliceTy Tryz.prog 69 77 3 32:=.mk' Tryz.underlying69 (z:=.agg #[.string ⟨#[]⟩,.int .i64 0,.bool false]) (by kernel_rfl) rfl (by decide)
def WoPost (w : World) (rs : List RoomE) (ds : List DoorE) (st gl : List UInt8) (tr : List (List UInt8)) (err : Int) (e : Ending) (w' : World) : Prop :=
 ∃ (n : Nat) (A : Option Addr) (c : Nat),e = .returned (.tuple #[.slice A n c,.int .i64 err]) ∧ (err ≠ 0 → n = 0) ∧ (err = 0 → n = tr.length ∧ w'.ownsRow w.heap.size 77 3 (.slice A n c) n (tr.flatMap (encWo (timeT rs ds st gl) tr))) ∧ Below w.heap.size w w'
def SpPost (w : World) (rs : List RoomE) (ds : List DoorE) (st gl : List UInt8) (tr : List (List UInt8)) (err : Int) (e : Ending) (w' : World) : Prop :=
 ∃ (l : List (List UInt8)) (A : Option Addr) (c : Nat),e = .returned (.tuple #[.slice A l.length c,.int .i64 err]) ∧ (err ≠ 0 → l = []) ∧ (err = 0 → l = if timeT rs ds st gl tr < 0 then [] else (spareF (timeT rs ds st gl) tr).1) ∧ w'.ownsRow w.heap.size 9 1 (.slice A l.length c) l.length (strs l) ∧ Below w.heap.size w w'

set_option maxHeartbeats 8000000 in
set_option maxRecDepth 100000 in
theorem worths_any (lo ca cd lo2 c2 : Nat) (A : Option Addr) (rs : List RoomE) (D : Option Addr) (ds : List DoorE) (st gl : List UInt8) (TR : Option Addr) (tr : List (List UInt8)) (w : World) (hA : MapW w lo A rs D ds) (hr : Row w lo2 1 TR tr.length (strs tr)) (hrl : tr.length ≤ 1000000) :
  Calls Tryz.prog 34 #[mapV A rs ca D ds cd st gl,.slice TR tr.length c2] w (WoPost w rs ds st gl tr (tricksE rs ds st gl tr)):=by
 have hC : McC w (w.alloc (.cells #[.slice A rs.length ca,.slice D ds.length cd,.string ⟨st.toArray⟩,.string ⟨gl.toArray⟩] 29)) w.heap.size lo A rs ca D ds cd st gl:=⟨hA.alloc _,Blk.new _ _ _,(by repeat (first | exact Below.refl _ _ | refine Below.alloc ?_ (by first | omega | (simp; omega) | simp) _ | refine below_drewN' ?_ _ | refine Below.drew ?_))⟩
 have HRR:=Lib.hid hr
 obtain ⟨err,herr⟩ : ∃ err,err = tricksE rs ds st gl tr:=⟨_,rfl⟩
 rw [← herr];have HER:=Lib.hid herr;clear hA hr herr;unfold mapV;simp only [encStr]
 go_enter Tryz.func34,Tryz.ntmps34
 go_wp2_with fail;generalize w.alloc (.cells #[.slice A rs.length ca,.slice D ds.length cd,.string ⟨st.toArray⟩,.string ⟨gl.toArray⟩] 29) = W1 at *;have hct:=checkTricks_any lo ca cd A rs D ds st gl lo2 c2 TR tr W1 hC.m (HRR.out.below hC.b) (by omega);unfold mapV at hct;simp only [encStr] at hct;rw [← HER.out] at hct;refine hct.mono ?_;rintro e w2 ⟨rfl,hb⟩;have hC:=hC.below hb;clear hct hb
 by_cases h0 : err = 0
 ·subst h0
  have HR : Hid (Right rs ds st gl):=Lib.hid (right_of (tricks_right HER.out.symm));have HTM : Hid (∀ (W : World) (B : Option Addr) (lo3 c3 : Nat) (l : List (List UInt8)),Below w2.heap.size w2 W → Row W lo3 1 B l.length (strs l) → l.length ≤ 1000000 → Calls Tryz.prog 95 #[.pointer (some ⟨w.heap.size,0,none⟩),.slice B l.length c3,.string ⟨#[]⟩] W fun e w' => e = .returned (.int .i64 (timeT rs ds st gl l)) ∧ (-1 ≤ timeT rs ds st gl l ∧ timeT rs ds st gl l ≤ 530841600000000) ∧ Below W.heap.size W w'):=Lib.hid (fun W B lo3 c3 l hb hr hl => (time_any w.heap.size lo ca cd lo3 c3 A rs D ds st gl _ B l [] W (hC.below hb).m (hC.below hb).bl HR.out rfl hr (by omega)).mono fun _ _ h => ⟨h.1,h.2.2⟩);have hb2:=hC.b;have HTR : Hid (∀ W,Below w2.heap.size w2 W → Row W lo2 1 TR tr.length (strs tr)):=Lib.hid (fun W hb => HRR.out.below (below_up hb2 hb));have hwz:=hb2.size
  obtain ⟨f,hf⟩ : ∃ f,f = timeT rs ds st gl:=⟨_,rfl⟩
  rw [← hf] at HTM;have HF:=Lib.hid hf;have HC:=Lib.hid hC;clear hf hC;go_wp2_with fail;refine (HTM.out w2 TR lo2 c2 tr (Below.refl _ _) (HTR.out _ (Below.refl _ _)) hrl).mono ?_;rintro e w3 ⟨rfl,⟨hfl,hfu⟩,hb⟩;have hb3 : Below w2.heap.size w2 w3:=hb;clear hb
  obtain ⟨all,hall⟩ : ∃ all,all = f tr:=⟨_,rfl⟩
  rw [← hall] at hfl hfu ⊢;have HAL:=Lib.hid hall;clear hall;go_wp2_with fail
  go_loopw [8,23] (fun v u wr => ∃ (i : Nat) (PA : Option Addr) (pc : Nat),i ≤ tr.length ∧ v = .slice PA i pc ∧ u = .int .i64 i ∧ wr.ownsRow w3.heap.size 77 3 (.slice PA i pc) i ((tr.take i).flatMap (encWo f tr)) ∧ Below w3.heap.size w3 wr) (fun _ u _ => tr.length - (intOf u).toNat)
  case atStart => exact ⟨0,none,0,Nat.zero_le _,rfl,rfl,World.ownsRow_nil _ _ _ _,Below.refl _ _⟩
  case round =>
   obtain ⟨i,PA0,pc0,hi,rfl,rfl,hown,hbl⟩:=hrel;have hb32 : Below w2.heap.size w2 wr:=below_up hb3 hbl
   by_cases hlt : i < tr.length
   ·obtain ⟨tb,toff,rfl,htb,hts⟩:=strs_at (HTR.out _ hb32) hlt
    have t0:=hts i hlt;have HTK : Hid ((tr.take (i + 1)).flatMap (encWo f tr) = (tr.take i).flatMap (encWo f tr) ++ encWo f tr tr[i]):=Lib.hid (by rw [List.take_add_one,List.getElem?_eq_getElem hlt,List.flatMap_append]; simp);simp only [encStr] at t0;generalize tr[i] = s at *
    have hlb1 : (i + 1) * 32 ≤ 140737488355328:=by omega
    have hlb2 : i + 1 ≤ 9223372036854775807:=by omega
    clear hts
    by_cases ha : all < 0
    ·have d1 : decide (0 ≤ all) = false:=decide_eq_false (by omega)
     have HV : Hid (encWo f tr s = [.string ⟨s.toArray⟩,.int .i64 0,.bool false]):=Lib.hid (by unfold encWo worthV; rw [← HAL.out,if_pos ha]);go_upto_region 15 with (fail);clear t0 htb;have hown:=hown.alloc (.cells #[.string ⟨s.toArray⟩,.int .i64 0,.bool false] 77);have hbl:=hbl.alloc hbl.size (.cells #[.string ⟨s.toArray⟩,.int .i64 0,.bool false] 77);have hbx : Blk (wr.alloc (.cells #[.string ⟨s.toArray⟩,.int .i64 0,.bool false] 77)) wr.heap.size 77 #[.string ⟨s.toArray⟩,.int .i64 0,.bool false]:=Blk.new _ _ _;generalize wr.alloc (.cells #[.string ⟨s.toArray⟩,.int .i64 0,.bool false] 77) = w7 at *;generalize wr.heap.size = xb at *;have hsz:=hbl.size;obtain ⟨x0,x1,x2⟩:=hbx.w3;have zx:=hbx.lt
     go_wp2_with (at_builtin; go_must (refine wpList_app (lo:=w3.heap.size) (base:=w3.heap.size) (n:=i) (xs:=(tr.take i).flatMap (encWo f tr)) _ _ rfl _ _ ty_woL rfl (by repeat (first | exact hown | refine World.ownsRow.alloc ?_ _ | refine own_drewN ?_ _ | refine World.ownsRow.drew ?_)) rfl (by first | exact row_new' _ (by first | rfl | simp) (by first | omega | (simp; omega)) rfl | exact row_newN _ _ (by first | rfl | simp) (by first | omega | (simp; omega)) rfl | exact row_newD _ (by first | rfl | simp) (by first | omega | (simp; omega)) rfl) rfl rfl (by first | omega | decide) (by first | omega | decide) (by first | omega | (simp; omega)) ?_))
     intro A5 c5 w8 hown8 hg8 _;have hbl8 : Below w3.heap.size w3 w8:=Below.grown (by repeat (first | exact hbl | refine Below.alloc ?_ (by first | omega | (simp; omega)) _)) hg8 (by first | omega | (simp; omega)) (own_base (by repeat (first | exact hown | refine World.ownsRow.alloc ?_ _)));have HO8 : Hid (w8.ownsRow w3.heap.size 77 3 (.slice A5 (i + 1) c5) (i + 1) ((tr.take (i + 1)).flatMap (encWo f tr))):=Lib.hid (by rw [HTK.out,HV.out]; exact hown8);clear hown8 hg8;go_wp2_with fail;go_roundw
     case rel => exact ⟨i + 1,A5,c5,by omega,rfl,by go_num,HO8.out,hbl8⟩
     case measure => simp [intOf]; omega
    ·have d1 : decide (0 ≤ all) = true:=decide_eq_true (by omega)
     go_wp2_with fail;clear t0 htb;have hbx : Blk (wr.alloc (.cells #[.string ⟨s.toArray⟩,.int .i64 0,.bool false] 77)) wr.heap.size 77 #[.string ⟨s.toArray⟩,.int .i64 0,.bool false]:=Blk.new _ _ _;have hown0:=hown;have hbz:=hbl;have hbl:=hbl.alloc hbl.size (.cells #[.string ⟨s.toArray⟩,.int .i64 0,.bool false] 77);have hown:=hown.alloc (.cells #[.string ⟨s.toArray⟩,.int .i64 0,.bool false] 77);have HXO : Hid (∀ j,(Value.slice PA0 i pc0).ownBlock = some j → j ≠ wr.heap.size):=Lib.hid (fun j hj e => by subst e; exact absurd (hown0.lt _ hj).2 (Nat.lt_irrefl _));have hxz : w3.heap.size ≤ wr.heap.size:=hbz.size;clear hown0 hbz;generalize wr.alloc (.cells #[.string ⟨s.toArray⟩,.int .i64 0,.bool false] 77) = w4 at *;generalize wr.heap.size = xb at *;refine (less_any_p _ c2 lo2 tr s w4 (HTR.out _ (below_up hb3 hbl)) (by omega)).mono ?_;rintro e w5 ⟨B,d,rfl,hlo,hb⟩;have hbl:=below_up hbl hb;have hown:=own_keep hown hb;have hbx:=hbx.below hb;have hlr:=Row.of_own hlo;have hll:=lessL_len tr s;clear hb hlo;go_wp2_with fail;refine (HTM.out w5 B _ d (lessL tr s) (below_up hb3 hbl) hlr (by omega)).mono ?_;rintro e w6 ⟨rfl,⟨hnl,hnu⟩,hb⟩;have hbl:=below_up hbl hb;have hown:=own_keep hown hb;have hbx:=hbx.below hb;clear hb hlr
     obtain ⟨nn,hnn⟩ : ∃ nn,nn = f (lessL tr s):=⟨_,rfl⟩
     rw [← hnn] at hnl hnu ⊢;have HNN:=Lib.hid hnn;clear hnn hll;obtain ⟨x0,x1,x2⟩:=hbx.w3;have fx1:=hbx.thaw 1;have fx2:=hbx.thaw 2;have zx:=hbx.lt
     by_cases hn : nn < 0
     ·have d2 : decide (nn < 0) = true:=decide_eq_true hn
      have HV : Hid (encWo f tr s = [.string ⟨s.toArray⟩,.int .i64 0,.bool true]):=Lib.hid (by unfold encWo worthV; rw [← HAL.out,← HNN.out,if_neg (by omega),if_pos hn]);go_upto_region 15 with (fail);clear x0 x1 x2 fx1 fx2 zx;have hown:=own_keepX hown (grown_poke w6 xb 2 (.bool true)) (fun k j hk hj => by injection hk with hk; subst hk; exact HXO.out j hj);have hbl:=Below.setCell hbl (show w3.heap.size ≤ (⟨xb,2,none⟩ : Addr).block from hxz) (.bool true)
      have hbx : Blk (w6.setCell ⟨xb,2,none⟩ (.bool true)) xb 77 #[.string ⟨s.toArray⟩,.int .i64 0,.bool true]:=by simpa using hbx.poke 2 (.bool true)
      have HBL:=Lib.hid hbl;clear hbl;generalize w6.setCell ⟨xb,2,none⟩ (.bool true) = w7 at *;have hbl:=HBL.out;have hsz:=hbl.size;obtain ⟨x0,x1,x2⟩:=hbx.w3;have zx:=hbx.lt
      go_wp2_with (at_builtin; go_must (refine wpList_app (lo:=w3.heap.size) (base:=w3.heap.size) (n:=i) (xs:=(tr.take i).flatMap (encWo f tr)) _ _ rfl _ _ ty_woL rfl (by repeat (first | exact hown | refine World.ownsRow.alloc ?_ _ | refine own_drewN ?_ _ | refine World.ownsRow.drew ?_)) rfl (by first | exact row_new' _ (by first | rfl | simp) (by first | omega | (simp; omega)) rfl | exact row_newN _ _ (by first | rfl | simp) (by first | omega | (simp; omega)) rfl | exact row_newD _ (by first | rfl | simp) (by first | omega | (simp; omega)) rfl) rfl rfl (by first | omega | decide) (by first | omega | decide) (by first | omega | (simp; omega)) ?_))
      intro A5 c5 w8 hown8 hg8 _;have hbl8 : Below w3.heap.size w3 w8:=Below.grown (by repeat (first | exact hbl | refine Below.alloc ?_ (by first | omega | (simp; omega)) _)) hg8 (by first | omega | (simp; omega)) (own_base (by repeat (first | exact hown | refine World.ownsRow.alloc ?_ _)));have HO8 : Hid (w8.ownsRow w3.heap.size 77 3 (.slice A5 (i + 1) c5) (i + 1) ((tr.take (i + 1)).flatMap (encWo f tr))):=Lib.hid (by rw [HTK.out,HV.out]; exact hown8);clear hown8 hg8;go_wp2_with fail;go_roundw
      case rel => exact ⟨i + 1,A5,c5,by omega,rfl,by go_num,HO8.out,hbl8⟩
      case measure => simp [intOf]; omega
     ·have d2 : decide (nn < 0) = false:=decide_eq_false hn
      have ws : IntKind.i64.wrap (nn - all) = nn - all:=IntWalk.i64_in _ ⟨by omega,by omega⟩;have HV : Hid (encWo f tr s = [.string ⟨s.toArray⟩,.int .i64 (nn - all),.bool false]):=Lib.hid (by unfold encWo worthV; rw [← HAL.out,← HNN.out,if_neg (by omega),if_neg hn]);go_upto_region 15 with (fail);clear x0 x1 x2 fx1 fx2 zx;have hown:=own_keepX (own_keepX hown (grown_poke w6 xb 2 (.bool false)) (fun k j hk hj => by injection hk with hk; subst hk; exact HXO.out j hj)) (grown_poke _ xb 1 (.int .i64 (nn - all))) (fun k j hk hj => by injection hk with hk; subst hk; exact HXO.out j hj);have hbl:=Below.setCell (Below.setCell hbl (show w3.heap.size ≤ (⟨xb,2,none⟩ : Addr).block from hxz) (.bool false)) (show w3.heap.size ≤ (⟨xb,1,none⟩ : Addr).block from hxz) (.int .i64 (nn - all))
      have hbx : Blk ((w6.setCell ⟨xb,2,none⟩ (.bool false)).setCell ⟨xb,1,none⟩ (.int .i64 (nn - all))) xb 77 #[.string ⟨s.toArray⟩,.int .i64 (nn - all),.bool false]:=by simpa using (hbx.poke 2 (.bool false)).poke 1 (.int .i64 (nn - all))
      have HBL:=Lib.hid hbl;clear hbl;generalize (w6.setCell ⟨xb,2,none⟩ (.bool false)).setCell ⟨xb,1,none⟩ (.int .i64 (nn - all)) = w7 at *;have hbl:=HBL.out;have hsz:=hbl.size;obtain ⟨x0,x1,x2⟩:=hbx.w3;have zx:=hbx.lt
      go_wp2_with (at_builtin; go_must (refine wpList_app (lo:=w3.heap.size) (base:=w3.heap.size) (n:=i) (xs:=(tr.take i).flatMap (encWo f tr)) _ _ rfl _ _ ty_woL rfl (by repeat (first | exact hown | refine World.ownsRow.alloc ?_ _ | refine own_drewN ?_ _ | refine World.ownsRow.drew ?_)) rfl (by first | exact row_new' _ (by first | rfl | simp) (by first | omega | (simp; omega)) rfl | exact row_newN _ _ (by first | rfl | simp) (by first | omega | (simp; omega)) rfl | exact row_newD _ (by first | rfl | simp) (by first | omega | (simp; omega)) rfl) rfl rfl (by first | omega | decide) (by first | omega | decide) (by first | omega | (simp; omega)) ?_))
      intro A5 c5 w8 hown8 hg8 _;have hbl8 : Below w3.heap.size w3 w8:=Below.grown (by repeat (first | exact hbl | refine Below.alloc ?_ (by first | omega | (simp; omega)) _)) hg8 (by first | omega | (simp; omega)) (own_base (by repeat (first | exact hown | refine World.ownsRow.alloc ?_ _)));have HO8 : Hid (w8.ownsRow w3.heap.size 77 3 (.slice A5 (i + 1) c5) (i + 1) ((tr.take (i + 1)).flatMap (encWo f tr))):=Lib.hid (by rw [HTK.out,HV.out]; exact hown8);clear hown8 hg8;go_wp2_with fail;go_roundw
      case rel => exact ⟨i + 1,A5,c5,by omega,rfl,by go_num,HO8.out,hbl8⟩
      case measure => simp [intOf]; omega
   ·have hie : i = tr.length:=by omega
    subst hie;have HO : Hid (wr.ownsRow w3.heap.size 77 3 (.slice PA0 tr.length pc0) tr.length (tr.flatMap (encWo f tr))):=Lib.hid (by have:=hown; rwa [List.take_length] at this);clear hown;go_wp2_with fail;go_ret2;exact ⟨tr.length,PA0,pc0,rfl,fun h => absurd rfl h,fun _ => ⟨rfl,by rw [← HF.out]; exact own_down9 HO.out (Nat.le_trans hwz hb3.size)⟩,below_up HC.out.b hb32⟩
 ·have d0 : (err != 0) = true:=bne_iff_ne.2 h0
  go_wp2_with fail;go_ret2;exact ⟨0,none,0,rfl,fun _ => rfl,fun h => absurd h h0,hC.b⟩

set_option maxHeartbeats 8000000 in
set_option maxRecDepth 100000 in
theorem spare_any (lo ca cd lo2 c2 : Nat) (A : Option Addr) (rs : List RoomE) (D : Option Addr) (ds : List DoorE) (st gl : List UInt8) (TR : Option Addr) (tr : List (List UInt8)) (w : World) (hA : MapW w lo A rs D ds) (hr : Row w lo2 1 TR tr.length (strs tr)) (hrl : tr.length ≤ 1000000) :
  Calls Tryz.prog 36 #[mapV A rs ca D ds cd st gl,.slice TR tr.length c2] w (SpPost w rs ds st gl tr (tricksE rs ds st gl tr)):=by
 have hC : McC w (w.alloc (.cells #[.slice A rs.length ca,.slice D ds.length cd,.string ⟨st.toArray⟩,.string ⟨gl.toArray⟩] 29)) w.heap.size lo A rs ca D ds cd st gl:=⟨hA.alloc _,Blk.new _ _ _,(by repeat (first | exact Below.refl _ _ | refine Below.alloc ?_ (by first | omega | (simp; omega) | simp) _ | refine below_drewN' ?_ _ | refine Below.drew ?_))⟩
 have HRR:=Lib.hid hr
 obtain ⟨err,herr⟩ : ∃ err,err = tricksE rs ds st gl tr:=⟨_,rfl⟩
 rw [← herr];have HER:=Lib.hid herr;clear hA hr herr;unfold mapV;simp only [encStr]
 go_enter Tryz.func36,Tryz.ntmps36
 go_wp2_with fail;generalize w.alloc (.cells #[.slice A rs.length ca,.slice D ds.length cd,.string ⟨st.toArray⟩,.string ⟨gl.toArray⟩] 29) = W1 at *;have hct:=checkTricks_any lo ca cd A rs D ds st gl lo2 c2 TR tr W1 hC.m (HRR.out.below hC.b) (by omega);unfold mapV at hct;simp only [encStr] at hct;rw [← HER.out] at hct;refine hct.mono ?_;rintro e w2 ⟨rfl,hb⟩;have hC:=hC.below hb;clear hct hb
 by_cases h0 : err = 0
 ·subst h0
  have HR : Hid (Right rs ds st gl):=Lib.hid (right_of (tricks_right HER.out.symm));have HTM : Hid (∀ (W : World) (B : Option Addr) (lo3 c3 : Nat) (l : List (List UInt8)),Below w2.heap.size w2 W → Row W lo3 1 B l.length (strs l) → l.length ≤ 1000000 → Calls Tryz.prog 95 #[.pointer (some ⟨w.heap.size,0,none⟩),.slice B l.length c3,.string ⟨#[]⟩] W fun e w' => e = .returned (.int .i64 (timeT rs ds st gl l)) ∧ (-1 ≤ timeT rs ds st gl l ∧ timeT rs ds st gl l ≤ 530841600000000) ∧ Below W.heap.size W w'):=Lib.hid (fun W B lo3 c3 l hb hr hl => (time_any w.heap.size lo ca cd lo3 c3 A rs D ds st gl _ B l [] W (hC.below hb).m (hC.below hb).bl HR.out rfl hr (by omega)).mono fun _ _ h => ⟨h.1,h.2.2⟩);have hb2:=hC.b;have HTR : Hid (∀ W,Below w2.heap.size w2 W → Row W lo2 1 TR tr.length (strs tr)):=Lib.hid (fun W hb => HRR.out.below (below_up hb2 hb));have hwz:=hb2.size
  obtain ⟨f,hf⟩ : ∃ f,f = timeT rs ds st gl:=⟨_,rfl⟩
  rw [← hf] at HTM;have HF:=Lib.hid hf;have HC:=Lib.hid hC;clear hf hC;go_wp2_with fail;refine (HTM.out w2 TR lo2 c2 tr (Below.refl _ _) (HTR.out _ (Below.refl _ _)) hrl).mono ?_;rintro e w3 ⟨rfl,⟨hfl,hfu⟩,hb⟩;have hb3 : Below w2.heap.size w2 w3:=hb;clear hb
  obtain ⟨all,hall⟩ : ∃ all,all = f tr:=⟨_,rfl⟩
  rw [← hall] at hfl hfu ⊢;have HAL:=Lib.hid hall;clear hall
  by_cases ha : all < 0
  ·have d1 : decide (all < 0) = true:=decide_eq_true ha
   have hal:=HAL.out;go_wp2_with fail;go_ret2;exact ⟨[],none,0,rfl,fun h => absurd rfl h,fun _ => by rw [if_pos]; rw [← HF.out,← hal]; exact ha,World.ownsRow_nil _ _ _ _,below_up HC.out.b hb3⟩
  ·have d1 : decide (all < 0) = false:=decide_eq_false ha
   have HNA : Hid (∀ x,x = all → ¬ x < 0):=Lib.hid (fun x hx => by rw [hx]; exact ha);clear ha;go_wp2_with fail
   go_loopw [8,9,26] (fun v x u wr => ∃ (i m k : Nat) (out left : List (List UInt8)) (PA : Option Addr) (pc : Nat) (LA : Option Addr) (lc : Nat),i ≤ tr.length ∧ v = .slice PA m pc ∧ x = .slice LA k lc ∧ u = .int .i64 i ∧ wr.ownsRow w3.heap.size 9 1 (.slice PA m pc) m (strs out) ∧ Row wr 0 1 LA k (strs left) ∧ Below w3.heap.size w3 wr ∧ m ≤ i ∧ k ≤ tr.length ∧ Hid (out.length = m ∧ left.length = k ∧ (tr.take i).foldl (spareS f all) ([],tr) = (out,left))) (fun _ _ u _ => tr.length - (intOf u).toNat)
   case atStart => exact ⟨0,0,tr.length,[],tr,none,0,TR,c2,Nat.zero_le _,rfl,rfl,rfl,World.ownsRow_nil _ _ _ _,row_down0 (HTR.out _ hb3),Below.refl _ _,Nat.le_refl _,Nat.le_refl _,Lib.hid ⟨rfl,rfl,rfl⟩⟩
   case round =>
    obtain ⟨i,m,k,out,left,PA0,pc0,LA,lc,hi,rfl,rfl,rfl,hown,hleft,hbl,hmi,hkt,HS⟩:=hrel;have hb32 : Below w2.heap.size w2 wr:=below_up hb3 hbl
    by_cases hlt : i < tr.length
    ·obtain ⟨tb,toff,rfl,htb,hts⟩:=strs_at (HTR.out _ hb32) hlt
     have t0:=hts i hlt;have HTK : Hid ((tr.take (i + 1)).foldl (spareS f all) ([],tr) = spareS f all (out,left) tr[i]):=Lib.hid (by rw [List.take_add_one,List.getElem?_eq_getElem hlt,List.foldl_append,HS.out.2.2]; rfl);simp only [encStr] at t0;generalize tr[i] = s at *
     have hlb1 : (m + 1) * 16 ≤ 140737488355328:=by omega
     have hlb2 : m + 1 ≤ 9223372036854775807:=by omega
     clear hts;go_wp2_with fail;clear t0 htb;obtain ⟨hm1,hk1,-⟩:=HS.out;have hls:=less_any_p LA lc 0 left s wr (by rw [hk1]; exact hleft) (by rw [hk1]; omega);rw [hk1] at hls;refine hls.mono ?_;rintro e w5 ⟨B,d,rfl,hlo,hb⟩;have hbl5:=below_up hbl hb;have hown0:=hown;have hown:=own_keep hown hb;have hleft5:=hleft.below hb;have hlr:=row_down0 (Row.of_own hlo)
     have HLX : Hid (∀ a j,B = some a → (Value.slice PA0 m pc0).ownBlock = some j → a.block ≠ j):=Lib.hid (fun a j ha hj => by
      have h1:=(hown0.lt _ hj).2;have h2:=(hlo.lt a.block (by rw [obk_is,ha]; rfl)).1
      omega)
     have hll:=lessL_len left s;rw [hk1] at hll;clear hb hlo hls hleft hown0;go_wp2_with fail;refine (HTM.out w5 B _ d (lessL left s) (below_up hb3 hbl5) hlr (by omega)).mono ?_;rintro e w6 ⟨rfl,-,hb⟩;have hbl6:=below_up hbl5 hb;have hown:=own_keep hown hb;have hleft6:=hleft5.below hb;have hlr6:=hlr.below hb;have hsz:=hbl6.size;clear hb hlr hbl hbl5 hleft5
     obtain ⟨nn,hnn⟩ : ∃ nn,nn = f (lessL left s):=⟨_,rfl⟩
     rw [← hnn];have HNN:=Lib.hid hnn;clear hnn
     obtain ⟨lk,hlk⟩ : ∃ lk,lk = (lessL left s).length:=⟨_,rfl⟩
     rw [← hlk] at hll hlr6 ⊢;have HLK:=Lib.hid hlk;clear hlk hm1 hk1
     by_cases hn : nn = all
     ·have d2 : (nn == all) = true:=beq_iff_eq.2 hn
      have HV : Hid (spareS f all (out,left) s = (out ++ [s],lessL left s)):=Lib.hid (by unfold spareS; simp only; rw [← HNN.out,if_pos hn]);clear hn
      go_wp2_with (at_builtin; go_must (refine wpList_app (lo:=w3.heap.size) (base:=w3.heap.size) (n:=m) (xs:=strs out) _ _ rfl _ _ ty_strsL rfl (by repeat (first | exact hown | refine World.ownsRow.alloc ?_ _ | refine own_drewN ?_ _ | refine World.ownsRow.drew ?_)) rfl (by first | exact row_new' _ (by first | rfl | simp) (by first | omega | (simp; omega)) rfl | exact row_newN _ _ (by first | rfl | simp) (by first | omega | (simp; omega)) rfl | exact row_newD _ (by first | rfl | simp) (by first | omega | (simp; omega)) rfl) rfl rfl (by first | omega | decide) (by first | omega | decide) (by first | omega | (simp; omega)) ?_))
      intro A5 c5 w8 hown8 hg8 _;have hbl8 : Below w3.heap.size w3 w8:=Below.grown (by repeat (first | exact hbl6 | refine Below.alloc ?_ (by first | omega | (simp; omega)) _)) hg8 (by first | omega | (simp; omega)) (own_base (by repeat (first | exact hown | refine World.ownsRow.alloc ?_ _)));have hlr8 : Row w8 0 1 B lk (strs (lessL left s)):=Row.grown_x (by repeat (first | exact hlr6 | refine Row.alloc ?_ _)) hg8 HLX.out;have HO8 : Hid (w8.ownsRow w3.heap.size 9 1 (.slice A5 (m + 1) c5) (m + 1) (strs (out ++ [s]))):=Lib.hid (by simpa [strs,encStr] using hown8);clear hown8 hg8;go_wp2_with fail;go_roundw
      case rel => exact ⟨i + 1,m + 1,lk,out ++ [s],lessL left s,A5,c5,B,d,by omega,rfl,rfl,by go_num,HO8.out,hlr8,hbl8,by omega,by omega,Lib.hid ⟨by simp [HS.out.1],HLK.out.symm,by rw [HTK.out,HV.out]⟩⟩
      case measure => simp [intOf]; omega
     ·have d2 : (nn == all) = false:=beq_eq_false_iff_ne.2 hn
      have HV : Hid (spareS f all (out,left) s = (out,left)):=Lib.hid (by unfold spareS; simp only; rw [← HNN.out,if_neg hn]);clear hn;go_wp2_with fail;go_roundw
      case rel => exact ⟨i + 1,m,k,out,left,PA0,pc0,LA,lc,by omega,rfl,rfl,by go_num,hown,hleft6,hbl6,by omega,hkt,Lib.hid ⟨HS.out.1,HS.out.2.1,by rw [HTK.out,HV.out]⟩⟩
      case measure => simp [intOf]; omega
    ·have hie : i = tr.length:=by omega
     subst hie;have HE : Hid (out = (spareF f tr).1):=Lib.hid (by have h:=HS.out.2.2; rw [List.take_length] at h; unfold spareF; rw [← HAL.out,h]);obtain ⟨hm1,-,-⟩:=HS.out;subst hm1;go_wp2_with fail;go_ret2;exact ⟨out,PA0,pc0,rfl,fun h => absurd rfl h,fun _ => by rw [if_neg (by have h1:=HNA.out _ HAL.out.symm; rw [← HF.out]; omega),← HF.out]; exact HE.out,own_down9 hown (Nat.le_trans hwz hb3.size),below_up HC.out.b hb32⟩
 ·have d0 : (err != 0) = true:=bne_iff_ne.2 h0
  go_wp2_with fail;go_ret2;exact ⟨[],none,0,rfl,fun _ => rfl,fun h => absurd h h0,World.ownsRow_nil _ _ _ _,hC.b⟩

end Go.Proofs.YtjggbpchmbdocaaGreatDoor
/- The walk of the reference's without. -/
namespace Go.Proofs.YtjggbpchmbdocaaGreatDoor
open Go.RowKit Go.Sort Go.Shelf

theorem wtC_any (x s : List UInt8) (kb : Nat) (w : World) (h1 : w.cell? ⟨kb,0,none⟩ = some (.string ⟨s.toArray⟩)) :
  Calls Tryz.prog 148 #[encStr x,.pointer (some ⟨kb,0,none⟩)] w fun e w' => e = .returned (.bool (x == s)) ∧ ∃ q,w' = w.drewN q:=by
 have hz:=World.block_lt_of_cell? w _ h1
 obtain ⟨b,hb⟩ : ∃ b,b = (x == s):=⟨_,rfl⟩
 rw [← hb];have hb' : (x == s) = b:=hb.symm;clear hb;unfold encStr
 go_enter Tryz.func148,Tryz.ntmps148
 go_wp2_with fail;go_ret;exact ⟨rfl,0,rfl⟩
theorem wtD_any (A : Option Addr) (c base kb : Nat) (s : List UInt8) (zs : List (List UInt8)) (w : World) (ho : w.ownsRow base 9 1 (.slice A zs.length c) zs.length (strs zs)) (hl : zs.length ≤ 1000000000) (hk : w.cell? ⟨kb,0,none⟩ = some (.string ⟨s.toArray⟩)) (hkb : kb < base) :
  Calls Tryz.prog 134 #[.slice A zs.length c,.func (.func 148) #[] #[.pointer (some ⟨kb,0,none⟩)]] w fun e w' => e = .returned (.slice A (lessL zs s).length c) ∧ w'.ownsRow base 9 1 (.slice A (lessL zs s).length c) (lessL zs s).length (strs (lessL zs s)) ∧ w.grownBy w' (Value.slice A zs.length c).ownBlock:=by
 have eg : ∀ args w,(callFunc 148 args).run Tryz.prog w = .ok (.enter 148 args) w:=enters_of Tryz.func148 (by kernel_rfl) rfl;have hz:=World.block_lt_of_cell? w _ hk;simp only at hz;unfold lessL;rcases ho.2 with ⟨hv,h0⟩ | ⟨g,cap,cur,hv,hg,hh,hcap,hm,hcs,ht⟩
 ·have hz : zs = []:=List.eq_nil_of_length_eq_zero h0
  subst hz;injection hv with e1 _ e2;subst e1 e2;have hix:=AnyE.slices_IndexFunc_empty Tryz.layIdx none 0 (.func (.func 148) #[] #[.pointer (some ⟨kb,0,none⟩)]) w;change Calls Tryz.prog 137 _ _ _ at hix;simp only [List.length_nil,List.filter_nil];have HO:=Lib.hid ho;clear ho hk
  go_enter Tryz.func134,Tryz.ntmps134
  go_wp2_with fail;refine hix.mono ?_;rintro e w1 ⟨rfl,rfl⟩;clear hix;go_wp2_with fail;go_ret;exact ⟨rfl,HO.out,World.grownBy.refl _ _⟩
 ·injection hv with e1 _ e2
  subst e1 e2;rw [Nat.mul_one] at ht
  have hp : PredAt Tryz.prog 148 #[.pointer (some ⟨kb,0,none⟩)] encStr (fun x => x == s) w:=fun W x hW =>
   wtC_any x s kb W ((hW.cell (p:=⟨kb,0,none⟩) hz).trans hk)
  have hpo : PredOver Tryz.prog 148 #[.pointer (some ⟨kb,0,none⟩)] encStr (fun x => x == s) g 0 zs.toArray.size w:=fun n os dk x _ => by
   have hgb : w.grownBy (sortWorld encStr w g 0 n dk os) (some g):=grownBy_sorted dk;exact wtC_any x s kb _ (hgb.cell hk (fun e => by injection e with e; simp at e; omega))
  have:=AnyE.slices_DeleteFunc Tryz.layDel encStr one_encX (fun x => x == s) 148 #[.pointer (some ⟨kb,0,none⟩)] eg [] (fun w => Tryz.zeroValue9 w) g 0 c zs.toArray w hp hpo (holds_of_block hh ht) (by simp; omega) (by simpa using hcap);rw [show zs.toArray.size = zs.length by simp,show zs.toArray.toList = zs by simp] at this;refine this.mono ?_;rintro e w' ⟨rfl,q,rfl⟩;have hle : (zs.filter fun x => !(x == s)).length ≤ zs.length:=List.length_filter_le _ _;rw [← grow_nil (putRow _ _ _ _ _)];refine ⟨rfl,⟨by simp [strs],.inr ⟨g,c,_,rfl,hg,heap_sorted _ hh,by omega,hm,by simp [putCells,hcs],?_⟩⟩,grownBy_sorted _⟩;rw [Nat.mul_one];exact take_pad _ _ _ (by omega)
set_option maxHeartbeats 1000000 in
theorem without_any (A : Option Addr) (c lo : Nat) (l : List (List UInt8)) (s : List UInt8) (w : World) (hr : Row w lo 1 A l.length (strs l)) (hl : l.length ≤ 1000000000) :
  Calls Tryz.prog 104 #[.slice A l.length c,.string ⟨s.toArray⟩] w fun e w' => ∃ B d,e = .returned (.slice B (lessL l s).length d) ∧ w'.ownsRow w.heap.size 9 1 (.slice B (lessL l s).length d) (lessL l s).length (strs (lessL l s)) ∧ Below w.heap.size w w':=by
 go_enter Tryz.func104,Tryz.ntmps104
 go_wp2_with fail;have hx : Blk (w.alloc (.cells #[.string ⟨s.toArray⟩] 9)) w.heap.size 9 #[.string ⟨s.toArray⟩]:=Blk.new _ _ _;have hb0 : Below w.heap.size w (w.alloc (.cells #[.string ⟨s.toArray⟩] 9)):=(Below.refl _ _).alloc (Nat.le_refl _) _;have hr:=hr.alloc (.cells #[.string ⟨s.toArray⟩] 9)
 have hz0 : (w.alloc (.cells #[.string ⟨s.toArray⟩] 9)).heap.size = w.heap.size + 1:=by simp
 generalize w.alloc (.cells #[.string ⟨s.toArray⟩] 9) = w1 at *;refine (cloneS_any A c lo l _ hr hl).mono ?_;rintro e w2 ⟨B,d,rfl,ho,hb1⟩;have hx:=hx.below hb1;have hb:=below_up hb0 hb1;clear hr hb1 hb0;go_wp2_with fail;refine (wtD_any B d w1.heap.size w.heap.size s l w2 ho hl (hx.cell 0) (by omega)).mono ?_;rintro e w3 ⟨rfl,ho3,hg3⟩;have hb3:=hb.grown hg3 hb.size (fun k hk => Nat.le_trans (by omega) (own_base ho k hk));have HO3:=Lib.hid (own_down9 ho3 (show w.heap.size ≤ w1.heap.size by omega));clear ho ho3 hg3;go_wp2_with fail;go_ret;exact ⟨B,d,rfl,HO3.out,hb3⟩
end Go.Proofs.YtjggbpchmbdocaaGreatDoor
/- The walk of routed, by Fastest's contract at any map. -/
namespace Go.Proofs.YtjggbpchmbdocaaGreatDoor
open Go.RowKit Go.Sort

def rsFR : List RoomE:=[⟨[97],[],none,0⟩,⟨[98],[],none,0⟩]
def dsFR : List DoorE:=[⟨[100],[97],[98],7,[],[],[],none,0,none,0⟩]
theorem mapW_fxNR {w : World} {R D : Nat} (h : FM w R D) : MapW w 0 (some ⟨R,0,none⟩) rsFR (some ⟨D,0,none⟩) dsFR:=by
 refine ⟨Row.lit (n:=2) (size:=2) h.rooms (Nat.zero_le _) rfl,Row.lit (n:=1) (size:=7) h.doors (Nat.zero_le _) rfl,fun r hr => ?_,fun d hd => ?_,fun d hd => ?_,?_⟩
 ·simp only [rsFR,List.mem_cons,List.not_mem_nil,or_false] at hr
  rcases hr with rfl | rfl <;> exact ⟨Row.none_ _ _ _ _,Nat.le_refl _⟩
 ·simp only [dsFR,List.mem_cons,List.not_mem_nil,or_false] at hd
  subst hd; exact ⟨Row.none_ _ _ _ _,Nat.le_refl _⟩
 ·simp only [dsFR,List.mem_cons,List.not_mem_nil,or_false] at hd
  subst hd; exact ⟨Row.none_ _ _ _ _,Nat.le_refl _⟩
 ·refine ⟨?_,?_,?_,?_,?_,?_,?_,?_⟩ <;> simp [rsFR,dsFR]
  exact ⟨by decide,by decide⟩
theorem tricksE_fxNR : tricksE rsFR dsFR [97] [98] [] = 0:=by
 have e1 : onceT (allT rsFR dsFR) = []:=by rw [show allT rsFR dsFR = [] from rfl]; exact once_self (by simp)
 have e2 : onceT (allK dsFR) = []:=by rw [show allK dsFR = [] from rfl]; exact once_self (by simp)
 have e3 : roomsE rsFR = 0:=by decide
 have e4 : doorsE rsFR dsFR = 0:=by decide
 have e5 : mapE rsFR dsFR [97] [98] = 0:=by
  unfold mapE;rw [if_neg (by rw [e3]; simp),if_neg (by rw [e4]; simp),if_neg (by decide),e1,e2]; rfl
 unfold tricksE;rw [if_neg (by rw [e5]; simp)]; rfl
theorem walk_fxNR {K : List (List UInt8)} {th th' : List (List UInt8)} {t : Int} (h : walkS rsFR dsFR [] K [97] th 0 = ⟨0,[98],th',t⟩) : K = [[100]] ∧ t = 7:=by
 cases K with
 | nil => simp [walkS] at h
 | cons k K =>
  by_cases hk : k = [100]
  ·subst hk
   rw [show walkS rsFR dsFR [] ([100] :: K) [97] th 0 = walkS rsFR dsFR [] K [98] (thru rsFR th ⟨[100],[97],[98],7,[],[],[],none,0,none,0⟩) 7 by simp [walkS,dsFR,goE]] at h
   cases K with
   | nil => simp [walkS] at h; exact ⟨rfl,h.2.symm⟩
   | cons k K =>
    by_cases hk : k = [100]
    ·subst hk; simp [walkS,dsFR,goE,wkBad] at h
    ·have : ¬ [100] = k:=fun e => hk e.symm
     simp [walkS,dsFR,this,wkBad] at h
  ·have : ¬ [100] = k:=fun e => hk e.symm
   simp [walkS,dsFR,this,wkBad] at h
theorem Fastest_fxNR (R D : Nat) (w : World) (hf : FM w R D) : Calls Tryz.prog 10 #[.agg #[.slice (some ⟨R,0,none⟩) 2 2,.slice (some ⟨D,0,none⟩) 1 1,.string ⟨#[97]⟩,.string ⟨#[98]⟩],.slice none 0 0] w fun e w' => ∃ A c,e = .returned (.tuple #[.agg #[.slice A 1 c,.int .i64 7],.bool true,.int .i64 0]) ∧ Row w' 0 1 A 1 (strs [[100]]) ∧ Below w.heap.size w w':=by
 refine (Fastest_ok 0 2 1 0 0 _ rsFR _ dsFR [97] [98] none [] w (mapW_fxNR hf) (Row.none_ _ _ _ _) (by simp) tricksE_fxNR).mono ?_;rintro e w' ⟨K,t,is,B,c',rfl,hq,ho,hb⟩
 have hT : onceT (allT rsFR dsFR) = []:=by rw [show allT rsFR dsFR = [] from rfl]; exact once_self (by simp)
 have hw : walkE rsFR dsFR [97] [98] [] [[100]] = ⟨0,[98],thru rsFR (onceT (givesOf rsFR [97])) ⟨[100],[97],[98],7,[],[],[],none,0,none,0⟩,7⟩:=by
  unfold walkE walkF;rw [if_neg (by rw [tricksE_fxNR]; simp),if_neg (by simp)]
  simp [walkS,dsFR,goE]
 obtain ⟨hi,_⟩:=hq.slow tricksE_fxNR rfl (l:=[[100]]) (by rw [hw]) (by rw [hw]);subst hi;obtain ⟨th,hk⟩:=hq.walks tricksE_fxNR rfl (by rw [hT]; decide) rfl;unfold walkE walkF at hk;rw [if_neg (by rw [tricksE_fxNR]; simp)] at hk
 by_cases c : 500 < K.length
 ·rw [if_pos c] at hk; simp [wkBad] at hk
 ·rw [if_neg c] at hk
  obtain ⟨e1,e2⟩:=walk_fxNR hk;subst e1 e2;exact ⟨B,c',rfl,row_down0 (Row.of_own ho),hb⟩
set_option maxHeartbeats 4000000 in
set_option maxRecDepth 100000 in
theorem routed_any (w : World) : Calls Tryz.prog 15 #[] w fun e w' => e = .returned (.bool true) ∧ Below w.heap.size w w':=by
 go_enter Tryz.func15,Tryz.ntmps15
 go_wp2_with fail
 have hfm : FM ((w.alloc (.cells #[.string ⟨#[97]⟩,.slice none 0 0,.string ⟨#[98]⟩,.slice none 0 0] 88)).alloc (.cells #[.string ⟨#[100]⟩,.string ⟨#[97]⟩,.string ⟨#[98]⟩,.int .i64 7,.slice none 0 0,.slice none 0 0,.string ⟨#[]⟩] 120)) w.heap.size (w.heap.size + 1):=⟨(Blk.at_ _ rfl).alloc _,Blk.at_ _ (by simp)⟩
 refine (Fastest_fxNR _ _ _ hfm).mono ?_;rintro e w4 ⟨A,c,rfl,hd,hb⟩;have hx : Below w.heap.size w w4:=(show Below w.heap.size w ((w.alloc (.cells #[.string ⟨#[97]⟩,.slice none 0 0,.string ⟨#[98]⟩,.slice none 0 0] 88)).alloc (.cells #[.string ⟨#[100]⟩,.string ⟨#[97]⟩,.string ⟨#[98]⟩,.int .i64 7,.slice none 0 0,.slice none 0 0,.string ⟨#[]⟩] 120)) from (by repeat (first | exact Below.refl _ _ | refine Below.alloc ?_ (by first | omega | (simp; omega) | simp) _ | refine below_drewN' ?_ _ | refine Below.drew ?_))).trans (hb.mono (by simp; omega));have hx5 : Below w.heap.size w ((w4.alloc (.cells #[.slice A 1 c,.int .i64 7] 40)).alloc (.cells #[.string ⟨#[100]⟩] 9)):=(hx.alloc hx.size _).alloc (by have:=hx.size; simp; omega) _;have hd2 : Row ((w4.alloc (.cells #[.slice A 1 c,.int .i64 7] 40)).alloc (.cells #[.string ⟨#[100]⟩] 9)) 0 1 A ([[100]] : List (List UInt8)).length (strs [[100]]):=(hd.alloc _).alloc _;have hl2 : Blk ((w4.alloc (.cells #[.slice A 1 c,.int .i64 7] 40)).alloc (.cells #[.string ⟨#[100]⟩] 9)) (w4.heap.size + 1) 9 #[.string ⟨#[100]⟩]:=Blk.at_ _ (by simp);have hq2 : Row ((w4.alloc (.cells #[.slice A 1 c,.int .i64 7] 40)).alloc (.cells #[.string ⟨#[100]⟩] 9)) 0 1 (some ⟨w4.heap.size + 1,0,none⟩) ([[100]] : List (List UInt8)).length (strs [[100]]):=Row.lit hl2 (Nat.zero_le _) rfl;have heq:=equalS_any A (some ⟨w4.heap.size + 1,0,none⟩) c 1 0 0 [[100]] [[100]] _ hd2 hq2 (by decide) (by decide);rw [decide_eq_true rfl] at heq;have HX5:=Lib.hid hx5;clear hfm hd hb hx hx5 hd2 hl2 hq2;go_wp2_with fail;refine heq.mono ?_;rintro e w5 ⟨rfl,q,rfl⟩;clear heq;go_wp2_with fail;go_ret;exact ⟨rfl,below_drewN' HX5.out q⟩
end Go.Proofs.YtjggbpchmbdocaaGreatDoor
/- An append onto a slice whose room is taken up ('x[:n:n]'): always a new row. -/
namespace Go.Proofs.YtjggbpchmbdocaaGreatDoor
open Go.RowKit

theorem run_appR {P : Program} (w : World) (t ty e : TypeId) (size bytes : Nat) (T : SliceTy P t e size bytes) (lo0 : Nat) (A : Option Addr) (n : Nat) (xs : List Value) (hr0 : Row w lo0 size A n xs) (hA : n = 0 → A = none)
  (lo : Nat) (B : Option Addr) (m c : Nat) (news : List Value) (hr : Row w lo size B m news) (hm : 0 < m) (h1 : news.all (·.oneCell') = true) (hbytes : (n + m) * bytes ≤ 140737488355328) (h63 : n + m ≤ 9223372036854775807) :
  ∃ A' c' w',(Builtin.append_ #[t,t] ty #[.slice A n n,.slice B m c]).run P w = .ok (.slice A' (n + m) c') w' ∧ w'.ownsRow w.heap.size e size (.slice A' (n + m) c') (n + m) (xs ++ news) ∧ w.grownBy w' none:=by
 by_cases hn : n = 0
 ·subst hn
  have hx : xs = []:=List.eq_nil_of_length_eq_zero (by simpa using hr0.1);subst hx;rw [hA rfl];obtain ⟨A',c',w',h2,h3,h4,_⟩:=run_app (P:=P) w w.heap.size t ty e size bytes T (.slice none 0 0) 0 [] (World.ownsRow_nil _ _ _ _) lo B m c news hr h1 hbytes h63 (Nat.le_refl _);exact ⟨A',c',w',h2,h3,h4⟩
 ·obtain ⟨ht,⟨i,z,hi,hz,hsize,hby,hzs⟩,hsz⟩:=T
  obtain ⟨b,off,rfl,_,_,hc⟩:=hr0.2 (by omega);obtain ⟨b2,off2,rfl,_,_,hc2⟩:=hr.2 hm;obtain ⟨v',w',h2,h3,h4⟩:=run_append_arg_grows (P:=P) w t ty e i z size bytes ht hi hz hsize hby hzs hsz ⟨b,off,none⟩ n n xs hr0.1 (fun j u hu => by rw [Addr.add_lit]; exact hc j u hu) ⟨b2,off2,none⟩ m c news hr.1 (fun j u hu => by rw [Addr.add_lit]; exact hc2 j u hu) (by omega) (by simp only [maxLen]; omega) hbytes;obtain ⟨A',c',rfl⟩:=ownForm h3;exact ⟨A',c',w',h2,h3,h4⟩
theorem step_appR {P : Program} {w : World} {ops : Array Oper} {o : Oper} {a : Act} {K : Act → World → Prop} {Q : Exit → Act → World → Prop} {E : Prop} {t e : TypeId} {size bytes : Nat} {n : Nat} {xs : List Value} {lo0 lo : Nat} {A B : Option Addr} {m : Nat} (c : Nat) {news : List Value}
  (hgd : o.guard = none) (s x : Operand) (T : SliceTy P t e size bytes)
  (ho : o.op = .call { callee:=.builtin .append,args:=#[s,x],argTypes:=#[t,t] })
  (hr0 : Row w lo0 size A n xs) (hA : n = 0 → A = none) (hs : a.eval s = .slice A n n)
  (hr : Row w lo size B m news) (hm : 0 < m) (hx : a.eval x = .slice B m c) (h1 : news.all (·.oneCell') = true)
  (hbytes : (n + m) * bytes ≤ 140737488355328) (h63 : n + m ≤ 9223372036854775807)
  (h : ∀ A' c' w',w'.ownsRow w.heap.size e size (.slice A' (n + m) c') (n + m) (xs ++ news) → w.grownBy w' none → K (a.put o.dst (.slice A' (n + m) c')) w') :
  if Region.wanted o (yielded ops a.tmps) = true then Oper.wp P o a w K Q else E:=by
 have hw : Region.wanted o (yielded ops a.tmps) = true:=by simp [Region.wanted,hgd]
 rw [if_pos hw];obtain ⟨A',c',w',hrun,h2,h3⟩:=run_appR (P:=P) w t o.type e size bytes T lo0 A n xs hr0 hA lo B m c news hr hm h1 hbytes h63;unfold Oper.wp execOp;simp only [ho,resolve,invoke,builtin,Sem.run_bind,Sem.run_pure,Result.andThen_ok,List.map_toArray,List.map_cons,List.map_nil,hs,hx,hrun];exact h A' c' w' h2 h3
end Go.Proofs.YtjggbpchmbdocaaGreatDoor
/- choose, Learn's closures and Learn. -/
namespace Go.Proofs.YtjggbpchmbdocaaGreatDoor
open Go.RowKit

def combos : List (List UInt8) → Nat → List (List UInt8) → List (List (List UInt8))
 | [],0,t => [t]
 | [],_ + 1,_ => []
 | _ :: _,0,t => [t]
 | s :: l,k + 1,t => combos l k (t ++ [s]) ++ combos l (k + 1) t
theorem combos_0 (l t : List (List UInt8)) : combos l 0 t = [t]:=by cases l <;> rfl
theorem combos_drop (l : List (List UInt8)) (k : Nat) (t : List (List UInt8)) {i : Nat} (hi : i < l.length) : combos (l.drop i) (k + 1) t = combos (l.drop (i + 1)) k (t ++ [l[i]]) ++ combos (l.drop (i + 1)) (k + 1) t:=by
 rw [List.drop_eq_getElem_cons hi]; rfl
theorem combos_sub : ∀ (l s t : List (List UInt8)),s.Sublist l → t ++ s ∈ combos l s.length t
 | [],s,t,h => by
  have:=List.sublist_nil.1 h;subst this;rw [List.length_nil,combos_0]; simp
 | x :: l,s,t,h => by
  cases s with
  | nil => rw [List.length_nil,combos_0]; simp
  | cons y s =>
   rw [List.length_cons];show t ++ y :: s ∈ combos l s.length (t ++ [x]) ++ combos l (s.length + 1) t
   cases h with
   | cons _ h => exact List.mem_append_right _ (combos_sub l (y :: s) t h)
   | cons_cons _ h =>
    refine List.mem_append_left _ ?_;have:=combos_sub l s (t ++ [x]) h
    simpa using this
theorem combos_is : ∀ (l : List (List UInt8)) (k : Nat) (t c : List (List UInt8)),c ∈ combos l k t → ∃ s,c = t ++ s ∧ s.Sublist l ∧ s.length = k
 | l,0,t,c,h => by rw [combos_0] at h; simp at h; exact ⟨[],by simp [h],List.nil_sublist _,rfl⟩
 | [],k + 1,t,c,h => by cases h
 | x :: l,k + 1,t,c,h => by
  rcases List.mem_append.1 (show c ∈ combos l k (t ++ [x]) ++ combos l (k + 1) t from h) with h | h
  ·obtain ⟨s,rfl,h2,h3⟩:=combos_is l k _ c h
   exact ⟨x :: s,by simp,h2.cons_cons x,by simp [h3]⟩
  ·obtain ⟨s,rfl,h2,h3⟩:=combos_is l (k + 1) _ c h
   exact ⟨s,rfl,h2.cons x,h3⟩
def StR (ob : Nat) (W : World) (A : Option Addr) (xs : List (List UInt8)) : Prop:=∀ W',W.grownBy W' (some ob) → Row W' 0 1 A xs.length (strs xs)
theorem StR.now {ob : Nat} {W : World} {A : Option Addr} {xs : List (List UInt8)} (h : StR ob W A xs) : Row W 0 1 A xs.length (strs xs):=h W (World.grownBy.refl _ _)
theorem StR.on {ob : Nat} {W W' : World} {A : Option Addr} {xs : List (List UInt8)} (h : StR ob W A xs) (hg : W.grownBy W' (some ob)) : StR ob W' A xs:=fun V hV => h V (grown_trans' hg hV)
theorem StR.of {ob : Nat} {W : World} {A : Option Addr} {xs : List (List UInt8)} {lo : Nat} (h : Row W lo 1 A xs.length (strs xs)) (hne : ∀ a,A = some a → a.block ≠ ob) : StR ob W A xs:=fun W' hg =>
 row_down0 (h.grown_x hg (fun a j ha hj => by injection hj with hj; rw [← hj]; exact hne a ha))
theorem own_capY {w : World} {base : Nat} {e : TypeId} {A : Option Addr} {n c : Nat} {xs : List Value} (h : w.ownsRow base e 1 (.slice A n c) n xs) : n ≤ c:=by
 rcases h.2 with ⟨hv,h0⟩ | ⟨g,cap,cur,hv,_,_,hcap,_⟩
 ·omega
 ·injection hv with _ _ h3; omega
theorem rest_slice {ob : Nat} {wr : World} {lb loff lc i : Nat} {l : List (List UInt8)} (hlc : l.length ≤ lc) (h : ∀ V,Below wr.heap.size wr V → StR ob V (some ⟨lb,loff,none⟩) l) : ∃ (RA : Option Addr) (RC : Nat),(if lc = i + 1 then RA = some ⟨lb,loff,none⟩ ∧ RC = 0 else RA = some ⟨lb,loff + (i + 1),none⟩ ∧ RC = lc - (i + 1)) ∧ l.length - (i + 1) ≤ RC ∧ ∀ V,Below wr.heap.size wr V → StR ob V RA (l.drop (i + 1)):=by
 by_cases c : lc = i + 1
 ·refine ⟨some ⟨lb,loff,none⟩,0,by rw [if_pos c]; exact ⟨rfl,rfl⟩,by omega,fun V hV => ?_⟩
  have : l.drop (i + 1) = []:=List.drop_eq_nil_of_le (by omega)
  rw [this]; exact fun _ _ => Row.none_ _ _ _ _
 ·refine ⟨some ⟨lb,loff + (i + 1),none⟩,lc - (i + 1),by rw [if_neg c]; exact ⟨rfl,rfl⟩,by omega,fun V hV W' hW' => ?_⟩
  have hr:=h V hV W' hW';refine ⟨by simp [strs],fun h0 => ?_⟩;rw [List.length_drop] at h0;obtain ⟨b,off,e,h1,h2,h3⟩:=hr.2 (by omega);injection e with e;injection e with e1 e2;subst e1 e2;refine ⟨lb,loff + (i + 1),rfl,h1,h2,fun j u hu => ?_⟩;rw [Nat.add_assoc];refine h3 (i + 1 + j) u ?_
  have e : strs (l.drop (i + 1)) = (strs l).drop (i + 1):=by simp [strs]
  rwa [e,List.getElem?_drop] at hu
def OutIs (W : World) (ob : Nat) (x : List (List UInt8)) : Prop:=∃ OA oc,Blk W ob 30 #[.slice OA x.length oc] ∧ Row W 0 1 OA x.length (strs x)
structure JL (w2 W : World) (mp qb fb ob : Nat) (most : Int) : Prop where
  b : Below w2.heap.size w2 W
  q : Blk W qb 3 #[.int .i64 most]
  f : Blk W fb 151 #[.func (.func 98) #[] #[.pointer (some ⟨mp, 0, none⟩), .pointer (some ⟨qb, 0, none⟩)]]
  o : ∃ OA on oc, Blk W ob 30 #[.slice OA on oc]
  z : w2.heap.size ≤ ob
  ne : qb ≠ ob ∧ fb ≠ ob
theorem JL.below {w2 W W' : World} {mp qb fb ob : Nat} {most : Int} (h : JL w2 W mp qb fb ob most) (hb : Below W.heap.size W W') : JL w2 W' mp qb fb ob most :=
 ⟨below_up h.b hb,h.q.below hb,h.f.below hb,let ⟨a,b,c,d⟩:=h.o; ⟨a,b,c,d.below hb⟩,h.z,h.ne⟩
def TimeOk (w2 : World) (mp : Nat) (f : List (List UInt8) → Int) : Prop :=
 ∀ (W : World) (B : Option Addr) (lo3 c3 : Nat) (l : List (List UInt8)),Below w2.heap.size w2 W → Row W lo3 1 B l.length (strs l) → l.length ≤ 1000000 → Calls Tryz.prog 95 #[.pointer (some ⟨mp,0,none⟩),.slice B l.length c3,.string ⟨#[]⟩] W fun e w' => e = .returned (.int .i64 (f l)) ∧ (-1 ≤ f l ∧ f l ≤ 530841600000000) ∧ Below W.heap.size W w'
def fastB (f : List (List UInt8) → Int) (most : Int) (l : List (List UInt8)) : Bool:=decide (0 ≤ f l) && decide (f l ≤ most)
theorem fast_any0 {w2 W : World} {mp qb : Nat} {most : Int} {f : List (List UInt8) → Int} (hT : TimeOk w2 mp f) (hbl : Below w2.heap.size w2 W) (hq : Blk W qb 3 #[.int .i64 most]) (B : Option Addr) (lo c : Nat) (l : List (List UInt8)) (hr : Row W lo 1 B l.length (strs l)) (hl : l.length ≤ 1000000) :
  Calls Tryz.prog 98 #[.slice B l.length c,.pointer (some ⟨mp,0,none⟩),.pointer (some ⟨qb,0,none⟩)] W fun e w' => e = .returned (.bool (fastB f most l)) ∧ Below W.heap.size W w':=by
 have HT:=Lib.hid (hT W B lo c l hbl hr hl);have HV : Hid (fastB f most l = (decide (0 ≤ f l) && decide (f l ≤ most))):=Lib.hid rfl;generalize fastB f most l = fv at *;generalize f l = v at *;clear hr hT hbl
 go_enter Tryz.func98,Tryz.ntmps98
 go_wp2_with fail;refine HT.out.mono ?_;rintro e w1 ⟨rfl,-,hb⟩;have hq:=hq.below hb;have q0:=hq.cell 0;have zq:=hq.lt
 by_cases h0 : 0 ≤ v
 ·have d0 : decide (0 ≤ v) = true:=decide_eq_true h0
  have HV2 : Hid (fv = decide (v ≤ most)):=Lib.hid (by rw [HV.out,d0]; rfl);clear h0 HV;go_wp2_with fail;go_ret;exact ⟨by rw [HV2.out]; rfl,hb⟩
 ·have d0 : decide (0 ≤ v) = false:=decide_eq_false h0
  have HV2 : Hid (fv = false):=Lib.hid (by rw [HV.out,d0]; rfl);clear h0 HV;go_wp2_with fail;go_ret;exact ⟨by rw [HV2.out]; rfl,hb⟩
theorem fast_any {w2 W : World} {mp qb fb ob : Nat} {most : Int} {f : List (List UInt8) → Int} (hT : TimeOk w2 mp f) (hJ : JL w2 W mp qb fb ob most) (B : Option Addr) (lo c : Nat) (l : List (List UInt8)) (hr : Row W lo 1 B l.length (strs l)) (hl : l.length ≤ 1000000) :
  Calls Tryz.prog 98 #[.slice B l.length c,.pointer (some ⟨mp,0,none⟩),.pointer (some ⟨qb,0,none⟩)] W fun e w' => e = .returned (.bool (fastB f most l)) ∧ Below W.heap.size W w':=fast_any0 hT hJ.b hJ.q B lo c l hr hl
def TryPost (w2 W : World) (mp qb fb ob : Nat) (most : Int) (f : List (List UInt8) → Int) (l : List (List UInt8)) (e : Ending) (w' : World) : Prop :=
 e = .returned (.bool (fastB f most l)) ∧ W.grownBy w' (some ob) ∧ JL w2 w' mp qb fb ob most ∧ OutIs w' ob l
set_option maxHeartbeats 2000000 in
theorem try_any {w2 W : World} {mp qb fb ob : Nat} {most : Int} {f : List (List UInt8) → Int} (hT : TimeOk w2 mp f) (hJ : JL w2 W mp qb fb ob most) (B : Option Addr) (c : Nat) (l : List (List UInt8)) (hr : StR ob W B l) (hl : l.length ≤ 1000000) :
  Calls Tryz.prog 100 #[.slice B l.length c,.pointer (some ⟨ob,0,none⟩),.pointer (some ⟨fb,0,none⟩)] W (TryPost w2 W mp qb fb ob most f l):=by
 have HT:=Lib.hid hT;have HR:=Lib.hid hr;clear hr hT
 go_enter Tryz.func100,Tryz.ntmps100
 go_wp2_with fail;refine (cloneS_any B c 0 l W HR.out.now (by omega)).mono ?_;rintro e w1 ⟨OA,oc,rfl,ho,hb⟩;have hJ:=hJ.below hb;have hg1:=grown_of_below hb (some ob);obtain ⟨OA0,on0,oc0,hob⟩:=hJ.o;have o0:=hob.cell 0;have fo:=hob.thaw 0;have zo:=hob.lt;have hne:=hJ.ne;have hff:=hJ.f.past ob 0 (.slice OA l.length oc) hne.2;have hqq:=hJ.q.past ob 0 (.slice OA l.length oc) hne.1
 have hob2 : Blk (w1.setCell ⟨ob,0,none⟩ (.slice OA l.length oc)) ob 30 #[.slice OA l.length oc]:=by simpa using hob.poke 0 (.slice OA l.length oc)
 have ho2:=own_past ho hob (by decide) 0 (.slice OA l.length oc);have hg2 : w1.grownBy (w1.setCell ⟨ob,0,none⟩ (.slice OA l.length oc)) (some ob):=grown_poke w1 ob 0 _;have hbl : Below w2.heap.size w2 (w1.setCell ⟨ob,0,none⟩ (.slice OA l.length oc)):=Below.setCell hJ.b hJ.z _
 have hJ2 : JL w2 (w1.setCell ⟨ob,0,none⟩ (.slice OA l.length oc)) mp qb fb ob most:=⟨hbl,hqq,hff,⟨_,_,_,hob2⟩,hJ.z,hne⟩
 have f0:=hJ2.f.cell 0;have zf:=hJ2.f.lt;have HO:=Lib.hid (And.intro hob2 (And.intro ho2 (And.intro (grown_trans' hg1 hg2) hJ2)));have HFA:=Lib.hid (fast_any HT.out hJ2 B 0 c l (HR.out _ (grown_trans' hg1 hg2)) hl);clear hJ hg1 hob hff hqq hob2 ho2 hg2 hbl hJ2 ho hb;go_upto_region 2 with (fail);generalize w1.setCell ⟨ob,0,none⟩ (.slice OA l.length oc) = w3 at *
 obtain ⟨fv,hfv⟩ : ∃ fv,fv = fastB f most l:=⟨_,rfl⟩
 rw [← hfv] at HFA;have HFV:=Lib.hid hfv;clear hfv;go_wp2_with fail;refine HFA.out.mono ?_;rintro e w4 ⟨rfl,hb⟩;clear f0 zf o0 fo;go_wp2_with fail;go_ret;obtain ⟨a1,a2,a3,a4⟩:=HO.out;exact ⟨by rw [← HFV.out]; rfl,grown_trans' a3 (grown_of_below hb _),a4.below hb,OA,oc,a1.below hb,row_down0 ((Row.of_own a2).below hb)⟩
def ChPost (w2 W : World) (mp qb fb ob : Nat) (most : Int) (R : Option (List (List UInt8))) (e : Ending) (w' : World) : Prop :=
 e = .returned (.bool R.isSome) ∧ W.grownBy w' (some ob) ∧ JL w2 w' mp qb fb ob most ∧ ∀ x,R = some x → OutIs w' ob x

set_option maxHeartbeats 8000000 in
set_option maxRecDepth 100000 in
theorem choose_any {w2 : World} {mp qb fb ob : Nat} {most : Int} {f : List (List UInt8) → Int} (hT : TimeOk w2 mp f) : ∀ (N : Nat) (l : List (List UInt8)) (many : Nat) (t : List (List UInt8)) (LA TA : Option Addr) (lc tc : Nat) (W : World),l.length = N → l.length ≤ lc → t.length ≤ tc → t.length + l.length ≤ 1000000 → many ≤ 1000000 → (t.length = 0 → TA = none) → JL w2 W mp qb fb ob most → StR ob W LA l → StR ob W TA t →
  Calls Tryz.prog 99 #[.slice LA l.length lc,.int .i64 (many : Int),.slice TA t.length tc,.func (.func 100) #[] #[.pointer (some ⟨ob,0,none⟩),.pointer (some ⟨fb,0,none⟩)]] W (ChPost w2 W mp qb fb ob most ((combos l many t).find? (fastB f most))):=by
 have HT:=Lib.hid hT;clear hT;intro N
 induction N using Nat.strongRecOn with
 | ind N ih =>
  intro l many t LA TA lc tc W hN hlc htc htl hmb htn hJ hl ht;subst hN;have HST:=Lib.hid (And.intro hl ht);clear hl ht
  cases many with
  | zero =>
   have htry:=try_any HT.out hJ TA tc t HST.out.2 (by omega);have HV : Hid ((combos l 0 t).find? (fastB f most) = if fastB f most t then some t else none):=Lib.hid (by rw [combos_0]; cases h : fastB f most t <;> simp [h]);generalize (combos l 0 t).find? (fastB f most) = R at *;clear ih
   go_enter Tryz.func99,Tryz.ntmps99
   go_wp2_with fail;refine htry.mono ?_;rintro e w1 ⟨rfl,hg,hJ1,ho⟩
   obtain ⟨fv,hfv⟩ : ∃ fv,fv = fastB f most t:=⟨_,rfl⟩
   rw [← hfv] at HV ⊢;clear hfv htry;go_wp2_with fail;go_ret
   cases fv with
   | true => exact ⟨by rw [HV.out]; rfl,hg,hJ1,fun x hx => by rw [HV.out] at hx; injection hx with hx; subst hx; exact ho⟩
   | false => exact ⟨by rw [HV.out]; rfl,hg,hJ1,fun x hx => by rw [HV.out] at hx; cases hx⟩
  | succ k =>
   have e0 : (((k + 1 : Nat) : Int) == 0) = false:=beq_eq_false_iff_ne.2 (by omega)
   have ws : IntKind.i64.wrap (((k + 1 : Nat) : Int) - 1) = (k : Int):=by rw [IntWalk.i64_in _ ⟨by omega,by omega⟩]; omega
   obtain ⟨km,hkm⟩ : ∃ km : Int,km = ((k + 1 : Nat) : Int):=⟨_,rfl⟩
   rw [← hkm] at e0 ws ⊢;have hz:=hJ.z;clear hkm
   go_enter Tryz.func99,Tryz.ntmps99
   go_wp2_with fail
   go_loopw [18] (fun v wr => ∃ i : Nat,i ≤ l.length ∧ v = .int .i64 i ∧ W.grownBy wr (some ob) ∧ JL w2 wr mp qb fb ob most ∧ Hid ((combos l (k + 1) t).find? (fastB f most) = (combos (l.drop i) (k + 1) t).find? (fastB f most))) (fun v _ => l.length - (intOf v).toNat)
   case atStart => exact ⟨0,Nat.zero_le _,rfl,World.grownBy.refl _ _,hJ,Lib.hid rfl⟩
   case round =>
    clear hJ;obtain ⟨i,hi,rfl,hg,hJ,HC⟩:=hrel
    by_cases hlt : i < l.length
    ·obtain ⟨lb,loff,rfl,hlb,hls⟩:=strs_at (HST.out.1.on hg).now hlt
     have l0:=hls i hlt;have HCD:=Lib.hid (combos_drop l k t hlt);have HSS : Hid (∀ V,Below wr.heap.size wr V → JL w2 V mp qb fb ob most ∧ StR ob V (some ⟨lb,loff,none⟩) l ∧ StR ob V TA t):=Lib.hid (fun V hV => ⟨hJ.below hV,HST.out.1.on (grown_trans' hg (grown_of_below hV _)),HST.out.2.on (grown_trans' hg (grown_of_below hV _))⟩);have HOZ : Hid (ob < wr.heap.size):=Lib.hid (let ⟨_,_,_,d⟩:=hJ.o; d.lt);simp only [encStr] at l0;generalize l[i] = s at *;clear hls
     have hi0 : (0 : Int) ≤ (i : Int) + 1:=by omega
     have hi1 : (i : Int) + 1 ≤ (l.length : Int):=by omega
     have wi : IntKind.i64.wrap ((i : Int) + 1) = (i : Int) + 1:=IntWalk.i64_in _ ⟨by omega,by omega⟩;have HRS : Hid (∃ (RA : Option Addr) (RC : Nat),(if lc = i + 1 then RA = some ⟨lb,loff,none⟩ ∧ RC = 0 else RA = some ⟨lb,loff + (i + 1),none⟩ ∧ RC = lc - (i + 1)) ∧ l.length - (i + 1) ≤ RC ∧ ∀ V,Below wr.heap.size wr V → StR ob V RA (l.drop (i + 1))):=Lib.hid (rest_slice hlc (fun V hV => (HSS.out V hV).2.1));clear hlc;go_upto_region 6 with (fail);clear l0 hlb
     go_cut [39] from 23 to 39 (fun v wx => ∃ R1,v = .bool (Option.isSome R1) ∧ wr.grownBy wx (some ob) ∧ JL w2 wx mp qb fb ob most ∧ (∀ x,R1 = some x → OutIs wx ob x) ∧ Hid (R1 = (combos (l.drop (i + 1)) k (t ++ [s])).find? (fastB f most)))
     case first =>
      generalize wr = Z at *;have hZ : Below Z.heap.size Z Z.drew:=below_drewN' (Below.refl _ _) 1;clear hJ hg HC HCD;obtain ⟨RA,RC,hRS,hRC,hSD⟩:=HRS.out;have HSD:=Lib.hid hSD;clear hSD
      by_cases hcap : lc = i + 1
      ·rw [if_pos hcap] at hRS
       obtain ⟨rfl,rfl⟩:=hRS;subst hcap;go_wp2_with fail;refine wp_region_held_drew (S:=(fun _ => True)) (by kernel_rfl) (trivial) (fun hHeld => ?_);(refine QU 0 ?_; (try simp only [Act.put,Q3,Q4,Q5]));(refine QU 1 ?_; (try simp only [Act.put,Q3,Q4,Q5]));(refine QU 2 ?_; (try simp only [Act.put,Q3,Q4,Q5]));(refine QU 3 ?_; (try simp only [Act.put,Q3,Q4,Q5]));(refine QU 4 ?_; (try simp only [Act.put,Q3,Q4,Q5]));(refine QU 5 ?_; (try simp only [Act.put,Q3,Q4,Q5]));(refine QU 6 ?_; (try simp only [Act.put,Q3,Q4,Q5]));(refine QU 7 ?_; (try simp only [Act.put,Q3,Q4,Q5]));(refine QU 9 ?_; (try simp only [Act.put,Q3,Q4,Q5]));(refine QU 12 ?_; (try simp only [Act.put,Q3,Q4,Q5]));(refine QU 15 ?_; (try simp only [Act.put,Q3,Q4,Q5]));refine wpAnyH_ready (rs:=[8,10,13]) (by kernel_rfl) (by simp) ?_;refine AllReadyH.cons rfl (fun K hK => ?_) (AllReadyH.cons rfl (fun K hK => ?_) (AllReadyH.cons rfl (fun K hK => ?_) AllReadyH.nil))
       case refine_1 =>
        go_simp;refine hK.out _ _ (trivial) (fun hHeld => ?_);clear hK K;(try simp only [Act.put,Q3,Q4,Q5]);refine wpAnyH_ready (rs:=[10,13]) (by kernel_rfl) (by simp) ?_;refine AllReadyH.cons rfl (fun K hK => ?_) (AllReadyH.cons rfl (fun K hK => ?_) AllReadyH.nil)
        case refine_1 =>
         go_simp;refine hK.out _ _ (trivial) (fun hHeld => ?_);clear hK K;(try simp only [Act.put,Q3,Q4,Q5]);(refine QU 11 ?_; (try simp only [Act.put,Q3,Q4,Q5]));refine QR 13 fun K hK => ?_;go_simp;have hk : Blk (Z.drew.alloc (.cells #[.string ⟨s.toArray⟩] 9)) Z.heap.size 9 #[.string ⟨s.toArray⟩]:=Blk.at_ _ (by simp);have hZ:=hZ.alloc hZ.size (.cells #[.string ⟨s.toArray⟩] 9);refine hK.out _ _ (trivial) (fun hHeld => ?_);clear hK K;(try simp only [Act.put,Q3,Q4,Q5]);refine QR 14 fun K hK => ?_;refine step_appR (lo0:=0) (lo:=0) (n:=t.length) (xs:=strs t) _ rfl _ _ ty_strsL rfl (HSS.out _ hZ).2.2.now htn rfl (Row.lit (n:=1) (size:=1) hk (Nat.zero_le _) rfl) (by decide) rfl rfl (by omega) (by omega) ?_;intro A5 c5 w5 hd5 g5;have hZ:=hZ.trans ((below_none g5).mono hZ.size);have HD5 : Hid (w5.ownsRow (Z.drew.alloc (.cells #[.string ⟨s.toArray⟩] 9)).heap.size 9 1 (.slice A5 (t ++ [s]).length c5) (t ++ [s]).length (strs (t ++ [s]))):=Lib.hid (by simpa [strs,encStr] using hd5);have HOB : Hid (ob < (Z.drew.alloc (.cells #[.string ⟨s.toArray⟩] 9)).heap.size):=Lib.hid (by have:=HOZ.out; simp; omega);refine hK.out _ _ (trivial) (fun hHeld => ?_);clear hK K;(try simp only [Act.put,Q3,Q4,Q5]);refine QR 16 fun K hK => ?_;go_simp;go_at_call 99
         have hst5 : StR ob w5 A5 (t ++ [s]):=StR.of (Row.of_own HD5.out) (fun a ha => by
          have h1:=(HD5.out.lt a.block (by rw [obk_is,ha]; rfl)).1;have h2:=HOB.out
          omega)
         have hcl : (t ++ [s]).length ≤ c5:=own_capY HD5.out;have hrec:=ih (l.length - (i + 1)) (by omega) (l.drop (i + 1)) k (t ++ [s]) _ A5 _ c5 w5 (by simp) (by rw [List.length_drop]; exact hRC) hcl (by rw [List.length_append,List.length_drop]; simp; omega) (by omega) (by simp) (HSS.out _ hZ).1 (HSD.out _ hZ) hst5;rw [show (l.drop (i + 1)).length = l.length - (i + 1) by simp,show (t ++ [s]).length = t.length + 1 by simp] at hrec;refine hrec.mono ?_;rintro e w6 ⟨rfl,hg6,hJ6,hR6⟩;clear hrec;go_wp2_with fail;refine hK.out _ _ (trivial) (fun hHeld => ?_);clear hK K;(try simp only [Act.put,Q3,Q4,Q5]);refine wpAnyH_done (by kernel_rfl) ?_ _;go_wp2_with fail;go_meet;exact ⟨_,rfl,grown_trans' (grown_of_below hZ _) hg6,hJ6,hR6,Lib.hid rfl⟩
        case refine_2 =>
         go_simp;have hk : Blk (Z.drew.alloc (.cells #[.string ⟨s.toArray⟩] 9)) Z.heap.size 9 #[.string ⟨s.toArray⟩]:=Blk.at_ _ (by simp);have hZ:=hZ.alloc hZ.size (.cells #[.string ⟨s.toArray⟩] 9);refine hK.out _ _ (trivial) (fun hHeld => ?_);clear hK K;(try simp only [Act.put,Q3,Q4,Q5]);refine QR 10 fun K hK => ?_;go_simp;refine hK.out _ _ (trivial) (fun hHeld => ?_);clear hK K;(try simp only [Act.put,Q3,Q4,Q5]);(refine QU 11 ?_; (try simp only [Act.put,Q3,Q4,Q5]));refine QR 14 fun K hK => ?_;refine step_appR (lo0:=0) (lo:=0) (n:=t.length) (xs:=strs t) _ rfl _ _ ty_strsL rfl (HSS.out _ hZ).2.2.now htn rfl (Row.lit (n:=1) (size:=1) hk (Nat.zero_le _) rfl) (by decide) rfl rfl (by omega) (by omega) ?_;intro A5 c5 w5 hd5 g5;have hZ:=hZ.trans ((below_none g5).mono hZ.size);have HD5 : Hid (w5.ownsRow (Z.drew.alloc (.cells #[.string ⟨s.toArray⟩] 9)).heap.size 9 1 (.slice A5 (t ++ [s]).length c5) (t ++ [s]).length (strs (t ++ [s]))):=Lib.hid (by simpa [strs,encStr] using hd5);have HOB : Hid (ob < (Z.drew.alloc (.cells #[.string ⟨s.toArray⟩] 9)).heap.size):=Lib.hid (by have:=HOZ.out; simp; omega);refine hK.out _ _ (trivial) (fun hHeld => ?_);clear hK K;(try simp only [Act.put,Q3,Q4,Q5]);refine QR 16 fun K hK => ?_;go_simp;go_at_call 99
         have hst5 : StR ob w5 A5 (t ++ [s]):=StR.of (Row.of_own HD5.out) (fun a ha => by
          have h1:=(HD5.out.lt a.block (by rw [obk_is,ha]; rfl)).1;have h2:=HOB.out
          omega)
         have hcl : (t ++ [s]).length ≤ c5:=own_capY HD5.out;have hrec:=ih (l.length - (i + 1)) (by omega) (l.drop (i + 1)) k (t ++ [s]) _ A5 _ c5 w5 (by simp) (by rw [List.length_drop]; exact hRC) hcl (by rw [List.length_append,List.length_drop]; simp; omega) (by omega) (by simp) (HSS.out _ hZ).1 (HSD.out _ hZ) hst5;rw [show (l.drop (i + 1)).length = l.length - (i + 1) by simp,show (t ++ [s]).length = t.length + 1 by simp] at hrec;refine hrec.mono ?_;rintro e w6 ⟨rfl,hg6,hJ6,hR6⟩;clear hrec;go_wp2_with fail;refine hK.out _ _ (trivial) (fun hHeld => ?_);clear hK K;(try simp only [Act.put,Q3,Q4,Q5]);refine wpAnyH_done (by kernel_rfl) ?_ _;go_wp2_with fail;go_meet;exact ⟨_,rfl,grown_trans' (grown_of_below hZ _) hg6,hJ6,hR6,Lib.hid rfl⟩
       case refine_2 =>
        go_simp;refine hK.out _ _ (trivial) (fun hHeld => ?_);clear hK K;(try simp only [Act.put,Q3,Q4,Q5]);refine wpAnyH_ready (rs:=[8,13]) (by kernel_rfl) (by simp) ?_;refine AllReadyH.cons rfl (fun K hK => ?_) (AllReadyH.cons rfl (fun K hK => ?_) AllReadyH.nil)
        case refine_1 =>
         go_simp;refine hK.out _ _ (trivial) (fun hHeld => ?_);clear hK K;(try simp only [Act.put,Q3,Q4,Q5]);(refine QU 11 ?_; (try simp only [Act.put,Q3,Q4,Q5]));refine QR 13 fun K hK => ?_;go_simp;have hk : Blk (Z.drew.alloc (.cells #[.string ⟨s.toArray⟩] 9)) Z.heap.size 9 #[.string ⟨s.toArray⟩]:=Blk.at_ _ (by simp);have hZ:=hZ.alloc hZ.size (.cells #[.string ⟨s.toArray⟩] 9);refine hK.out _ _ (trivial) (fun hHeld => ?_);clear hK K;(try simp only [Act.put,Q3,Q4,Q5]);refine QR 14 fun K hK => ?_;refine step_appR (lo0:=0) (lo:=0) (n:=t.length) (xs:=strs t) _ rfl _ _ ty_strsL rfl (HSS.out _ hZ).2.2.now htn rfl (Row.lit (n:=1) (size:=1) hk (Nat.zero_le _) rfl) (by decide) rfl rfl (by omega) (by omega) ?_;intro A5 c5 w5 hd5 g5;have hZ:=hZ.trans ((below_none g5).mono hZ.size);have HD5 : Hid (w5.ownsRow (Z.drew.alloc (.cells #[.string ⟨s.toArray⟩] 9)).heap.size 9 1 (.slice A5 (t ++ [s]).length c5) (t ++ [s]).length (strs (t ++ [s]))):=Lib.hid (by simpa [strs,encStr] using hd5);have HOB : Hid (ob < (Z.drew.alloc (.cells #[.string ⟨s.toArray⟩] 9)).heap.size):=Lib.hid (by have:=HOZ.out; simp; omega);refine hK.out _ _ (trivial) (fun hHeld => ?_);clear hK K;(try simp only [Act.put,Q3,Q4,Q5]);refine QR 16 fun K hK => ?_;go_simp;go_at_call 99
         have hst5 : StR ob w5 A5 (t ++ [s]):=StR.of (Row.of_own HD5.out) (fun a ha => by
          have h1:=(HD5.out.lt a.block (by rw [obk_is,ha]; rfl)).1;have h2:=HOB.out
          omega)
         have hcl : (t ++ [s]).length ≤ c5:=own_capY HD5.out;have hrec:=ih (l.length - (i + 1)) (by omega) (l.drop (i + 1)) k (t ++ [s]) _ A5 _ c5 w5 (by simp) (by rw [List.length_drop]; exact hRC) hcl (by rw [List.length_append,List.length_drop]; simp; omega) (by omega) (by simp) (HSS.out _ hZ).1 (HSD.out _ hZ) hst5;rw [show (l.drop (i + 1)).length = l.length - (i + 1) by simp,show (t ++ [s]).length = t.length + 1 by simp] at hrec;refine hrec.mono ?_;rintro e w6 ⟨rfl,hg6,hJ6,hR6⟩;clear hrec;go_wp2_with fail;refine hK.out _ _ (trivial) (fun hHeld => ?_);clear hK K;(try simp only [Act.put,Q3,Q4,Q5]);refine wpAnyH_done (by kernel_rfl) ?_ _;go_wp2_with fail;go_meet;exact ⟨_,rfl,grown_trans' (grown_of_below hZ _) hg6,hJ6,hR6,Lib.hid rfl⟩
        case refine_2 =>
         go_simp;have hk : Blk (Z.drew.alloc (.cells #[.string ⟨s.toArray⟩] 9)) Z.heap.size 9 #[.string ⟨s.toArray⟩]:=Blk.at_ _ (by simp);have hZ:=hZ.alloc hZ.size (.cells #[.string ⟨s.toArray⟩] 9);refine hK.out _ _ (trivial) (fun hHeld => ?_);clear hK K;(try simp only [Act.put,Q3,Q4,Q5]);refine QR 8 fun K hK => ?_;go_simp;refine hK.out _ _ (trivial) (fun hHeld => ?_);clear hK K;(try simp only [Act.put,Q3,Q4,Q5]);(refine QU 11 ?_; (try simp only [Act.put,Q3,Q4,Q5]));refine QR 14 fun K hK => ?_;refine step_appR (lo0:=0) (lo:=0) (n:=t.length) (xs:=strs t) _ rfl _ _ ty_strsL rfl (HSS.out _ hZ).2.2.now htn rfl (Row.lit (n:=1) (size:=1) hk (Nat.zero_le _) rfl) (by decide) rfl rfl (by omega) (by omega) ?_;intro A5 c5 w5 hd5 g5;have hZ:=hZ.trans ((below_none g5).mono hZ.size);have HD5 : Hid (w5.ownsRow (Z.drew.alloc (.cells #[.string ⟨s.toArray⟩] 9)).heap.size 9 1 (.slice A5 (t ++ [s]).length c5) (t ++ [s]).length (strs (t ++ [s]))):=Lib.hid (by simpa [strs,encStr] using hd5);have HOB : Hid (ob < (Z.drew.alloc (.cells #[.string ⟨s.toArray⟩] 9)).heap.size):=Lib.hid (by have:=HOZ.out; simp; omega);refine hK.out _ _ (trivial) (fun hHeld => ?_);clear hK K;(try simp only [Act.put,Q3,Q4,Q5]);refine QR 16 fun K hK => ?_;go_simp;go_at_call 99
         have hst5 : StR ob w5 A5 (t ++ [s]):=StR.of (Row.of_own HD5.out) (fun a ha => by
          have h1:=(HD5.out.lt a.block (by rw [obk_is,ha]; rfl)).1;have h2:=HOB.out
          omega)
         have hcl : (t ++ [s]).length ≤ c5:=own_capY HD5.out;have hrec:=ih (l.length - (i + 1)) (by omega) (l.drop (i + 1)) k (t ++ [s]) _ A5 _ c5 w5 (by simp) (by rw [List.length_drop]; exact hRC) hcl (by rw [List.length_append,List.length_drop]; simp; omega) (by omega) (by simp) (HSS.out _ hZ).1 (HSD.out _ hZ) hst5;rw [show (l.drop (i + 1)).length = l.length - (i + 1) by simp,show (t ++ [s]).length = t.length + 1 by simp] at hrec;refine hrec.mono ?_;rintro e w6 ⟨rfl,hg6,hJ6,hR6⟩;clear hrec;go_wp2_with fail;refine hK.out _ _ (trivial) (fun hHeld => ?_);clear hK K;(try simp only [Act.put,Q3,Q4,Q5]);refine wpAnyH_done (by kernel_rfl) ?_ _;go_wp2_with fail;go_meet;exact ⟨_,rfl,grown_trans' (grown_of_below hZ _) hg6,hJ6,hR6,Lib.hid rfl⟩
       case refine_3 =>
        go_simp;have hk : Blk (Z.drew.alloc (.cells #[.string ⟨s.toArray⟩] 9)) Z.heap.size 9 #[.string ⟨s.toArray⟩]:=Blk.at_ _ (by simp);have hZ:=hZ.alloc hZ.size (.cells #[.string ⟨s.toArray⟩] 9);refine hK.out _ _ (trivial) (fun hHeld => ?_);clear hK K;(try simp only [Act.put,Q3,Q4,Q5]);refine wpAnyH_ready (rs:=[8,10]) (by kernel_rfl) (by simp) ?_;refine AllReadyH.cons rfl (fun K hK => ?_) (AllReadyH.cons rfl (fun K hK => ?_) AllReadyH.nil)
        case refine_1 =>
         go_simp;refine hK.out _ _ (trivial) (fun hHeld => ?_);clear hK K;(try simp only [Act.put,Q3,Q4,Q5]);refine QR 10 fun K hK => ?_;go_simp;refine hK.out _ _ (trivial) (fun hHeld => ?_);clear hK K;(try simp only [Act.put,Q3,Q4,Q5]);(refine QU 11 ?_; (try simp only [Act.put,Q3,Q4,Q5]));refine QR 14 fun K hK => ?_;refine step_appR (lo0:=0) (lo:=0) (n:=t.length) (xs:=strs t) _ rfl _ _ ty_strsL rfl (HSS.out _ hZ).2.2.now htn rfl (Row.lit (n:=1) (size:=1) hk (Nat.zero_le _) rfl) (by decide) rfl rfl (by omega) (by omega) ?_;intro A5 c5 w5 hd5 g5;have hZ:=hZ.trans ((below_none g5).mono hZ.size);have HD5 : Hid (w5.ownsRow (Z.drew.alloc (.cells #[.string ⟨s.toArray⟩] 9)).heap.size 9 1 (.slice A5 (t ++ [s]).length c5) (t ++ [s]).length (strs (t ++ [s]))):=Lib.hid (by simpa [strs,encStr] using hd5);have HOB : Hid (ob < (Z.drew.alloc (.cells #[.string ⟨s.toArray⟩] 9)).heap.size):=Lib.hid (by have:=HOZ.out; simp; omega);refine hK.out _ _ (trivial) (fun hHeld => ?_);clear hK K;(try simp only [Act.put,Q3,Q4,Q5]);refine QR 16 fun K hK => ?_;go_simp;go_at_call 99
         have hst5 : StR ob w5 A5 (t ++ [s]):=StR.of (Row.of_own HD5.out) (fun a ha => by
          have h1:=(HD5.out.lt a.block (by rw [obk_is,ha]; rfl)).1;have h2:=HOB.out
          omega)
         have hcl : (t ++ [s]).length ≤ c5:=own_capY HD5.out;have hrec:=ih (l.length - (i + 1)) (by omega) (l.drop (i + 1)) k (t ++ [s]) _ A5 _ c5 w5 (by simp) (by rw [List.length_drop]; exact hRC) hcl (by rw [List.length_append,List.length_drop]; simp; omega) (by omega) (by simp) (HSS.out _ hZ).1 (HSD.out _ hZ) hst5;rw [show (l.drop (i + 1)).length = l.length - (i + 1) by simp,show (t ++ [s]).length = t.length + 1 by simp] at hrec;refine hrec.mono ?_;rintro e w6 ⟨rfl,hg6,hJ6,hR6⟩;clear hrec;go_wp2_with fail;refine hK.out _ _ (trivial) (fun hHeld => ?_);clear hK K;(try simp only [Act.put,Q3,Q4,Q5]);refine wpAnyH_done (by kernel_rfl) ?_ _;go_wp2_with fail;go_meet;exact ⟨_,rfl,grown_trans' (grown_of_below hZ _) hg6,hJ6,hR6,Lib.hid rfl⟩
        case refine_2 =>
         go_simp;refine hK.out _ _ (trivial) (fun hHeld => ?_);clear hK K;(try simp only [Act.put,Q3,Q4,Q5]);refine QR 8 fun K hK => ?_;go_simp;refine hK.out _ _ (trivial) (fun hHeld => ?_);clear hK K;(try simp only [Act.put,Q3,Q4,Q5]);(refine QU 11 ?_; (try simp only [Act.put,Q3,Q4,Q5]));refine QR 14 fun K hK => ?_;refine step_appR (lo0:=0) (lo:=0) (n:=t.length) (xs:=strs t) _ rfl _ _ ty_strsL rfl (HSS.out _ hZ).2.2.now htn rfl (Row.lit (n:=1) (size:=1) hk (Nat.zero_le _) rfl) (by decide) rfl rfl (by omega) (by omega) ?_;intro A5 c5 w5 hd5 g5;have hZ:=hZ.trans ((below_none g5).mono hZ.size);have HD5 : Hid (w5.ownsRow (Z.drew.alloc (.cells #[.string ⟨s.toArray⟩] 9)).heap.size 9 1 (.slice A5 (t ++ [s]).length c5) (t ++ [s]).length (strs (t ++ [s]))):=Lib.hid (by simpa [strs,encStr] using hd5);have HOB : Hid (ob < (Z.drew.alloc (.cells #[.string ⟨s.toArray⟩] 9)).heap.size):=Lib.hid (by have:=HOZ.out; simp; omega);refine hK.out _ _ (trivial) (fun hHeld => ?_);clear hK K;(try simp only [Act.put,Q3,Q4,Q5]);refine QR 16 fun K hK => ?_;go_simp;go_at_call 99
         have hst5 : StR ob w5 A5 (t ++ [s]):=StR.of (Row.of_own HD5.out) (fun a ha => by
          have h1:=(HD5.out.lt a.block (by rw [obk_is,ha]; rfl)).1;have h2:=HOB.out
          omega)
         have hcl : (t ++ [s]).length ≤ c5:=own_capY HD5.out;have hrec:=ih (l.length - (i + 1)) (by omega) (l.drop (i + 1)) k (t ++ [s]) _ A5 _ c5 w5 (by simp) (by rw [List.length_drop]; exact hRC) hcl (by rw [List.length_append,List.length_drop]; simp; omega) (by omega) (by simp) (HSS.out _ hZ).1 (HSD.out _ hZ) hst5;rw [show (l.drop (i + 1)).length = l.length - (i + 1) by simp,show (t ++ [s]).length = t.length + 1 by simp] at hrec;refine hrec.mono ?_;rintro e w6 ⟨rfl,hg6,hJ6,hR6⟩;clear hrec;go_wp2_with fail;refine hK.out _ _ (trivial) (fun hHeld => ?_);clear hK K;(try simp only [Act.put,Q3,Q4,Q5]);refine wpAnyH_done (by kernel_rfl) ?_ _;go_wp2_with fail;go_meet;exact ⟨_,rfl,grown_trans' (grown_of_below hZ _) hg6,hJ6,hR6,Lib.hid rfl⟩
      ·rw [if_neg hcap] at hRS
       obtain ⟨rfl,rfl⟩:=hRS;go_wp2_with fail;refine wp_region_held_drew (S:=(fun _ => True)) (by kernel_rfl) (trivial) (fun hHeld => ?_);(refine QU 0 ?_; (try simp only [Act.put,Q3,Q4,Q5]));(refine QU 1 ?_; (try simp only [Act.put,Q3,Q4,Q5]));(refine QU 2 ?_; (try simp only [Act.put,Q3,Q4,Q5]));(refine QU 3 ?_; (try simp only [Act.put,Q3,Q4,Q5]));(refine QU 4 ?_; (try simp only [Act.put,Q3,Q4,Q5]));(refine QU 5 ?_; (try simp only [Act.put,Q3,Q4,Q5]));(refine QU 6 ?_; (try simp only [Act.put,Q3,Q4,Q5]));(refine QU 7 ?_; (try simp only [Act.put,Q3,Q4,Q5]));(refine QU 9 ?_; (try simp only [Act.put,Q3,Q4,Q5]));(refine QU 12 ?_; (try simp only [Act.put,Q3,Q4,Q5]));(refine QU 15 ?_; (try simp only [Act.put,Q3,Q4,Q5]));refine wpAnyH_ready (rs:=[8,10,13]) (by kernel_rfl) (by simp) ?_;refine AllReadyH.cons rfl (fun K hK => ?_) (AllReadyH.cons rfl (fun K hK => ?_) (AllReadyH.cons rfl (fun K hK => ?_) AllReadyH.nil))
       case refine_1 =>
        go_simp;refine hK.out _ _ (trivial) (fun hHeld => ?_);clear hK K;(try simp only [Act.put,Q3,Q4,Q5]);refine wpAnyH_ready (rs:=[10,13]) (by kernel_rfl) (by simp) ?_;refine AllReadyH.cons rfl (fun K hK => ?_) (AllReadyH.cons rfl (fun K hK => ?_) AllReadyH.nil)
        case refine_1 =>
         go_simp;refine hK.out _ _ (trivial) (fun hHeld => ?_);clear hK K;(try simp only [Act.put,Q3,Q4,Q5]);(refine QU 11 ?_; (try simp only [Act.put,Q3,Q4,Q5]));refine QR 13 fun K hK => ?_;go_simp;have hk : Blk (Z.drew.alloc (.cells #[.string ⟨s.toArray⟩] 9)) Z.heap.size 9 #[.string ⟨s.toArray⟩]:=Blk.at_ _ (by simp);have hZ:=hZ.alloc hZ.size (.cells #[.string ⟨s.toArray⟩] 9);refine hK.out _ _ (trivial) (fun hHeld => ?_);clear hK K;(try simp only [Act.put,Q3,Q4,Q5]);refine QR 14 fun K hK => ?_;refine step_appR (lo0:=0) (lo:=0) (n:=t.length) (xs:=strs t) _ rfl _ _ ty_strsL rfl (HSS.out _ hZ).2.2.now htn rfl (Row.lit (n:=1) (size:=1) hk (Nat.zero_le _) rfl) (by decide) rfl rfl (by omega) (by omega) ?_;intro A5 c5 w5 hd5 g5;have hZ:=hZ.trans ((below_none g5).mono hZ.size);have HD5 : Hid (w5.ownsRow (Z.drew.alloc (.cells #[.string ⟨s.toArray⟩] 9)).heap.size 9 1 (.slice A5 (t ++ [s]).length c5) (t ++ [s]).length (strs (t ++ [s]))):=Lib.hid (by simpa [strs,encStr] using hd5);have HOB : Hid (ob < (Z.drew.alloc (.cells #[.string ⟨s.toArray⟩] 9)).heap.size):=Lib.hid (by have:=HOZ.out; simp; omega);refine hK.out _ _ (trivial) (fun hHeld => ?_);clear hK K;(try simp only [Act.put,Q3,Q4,Q5]);refine QR 16 fun K hK => ?_;go_simp;go_at_call 99
         have hst5 : StR ob w5 A5 (t ++ [s]):=StR.of (Row.of_own HD5.out) (fun a ha => by
          have h1:=(HD5.out.lt a.block (by rw [obk_is,ha]; rfl)).1;have h2:=HOB.out
          omega)
         have hcl : (t ++ [s]).length ≤ c5:=own_capY HD5.out;have hrec:=ih (l.length - (i + 1)) (by omega) (l.drop (i + 1)) k (t ++ [s]) _ A5 _ c5 w5 (by simp) (by rw [List.length_drop]; exact hRC) hcl (by rw [List.length_append,List.length_drop]; simp; omega) (by omega) (by simp) (HSS.out _ hZ).1 (HSD.out _ hZ) hst5;rw [show (l.drop (i + 1)).length = l.length - (i + 1) by simp,show (t ++ [s]).length = t.length + 1 by simp] at hrec;refine hrec.mono ?_;rintro e w6 ⟨rfl,hg6,hJ6,hR6⟩;clear hrec;go_wp2_with fail;refine hK.out _ _ (trivial) (fun hHeld => ?_);clear hK K;(try simp only [Act.put,Q3,Q4,Q5]);refine wpAnyH_done (by kernel_rfl) ?_ _;go_wp2_with fail;go_meet;exact ⟨_,rfl,grown_trans' (grown_of_below hZ _) hg6,hJ6,hR6,Lib.hid rfl⟩
        case refine_2 =>
         go_simp;have hk : Blk (Z.drew.alloc (.cells #[.string ⟨s.toArray⟩] 9)) Z.heap.size 9 #[.string ⟨s.toArray⟩]:=Blk.at_ _ (by simp);have hZ:=hZ.alloc hZ.size (.cells #[.string ⟨s.toArray⟩] 9);refine hK.out _ _ (trivial) (fun hHeld => ?_);clear hK K;(try simp only [Act.put,Q3,Q4,Q5]);refine QR 10 fun K hK => ?_;go_simp;refine hK.out _ _ (trivial) (fun hHeld => ?_);clear hK K;(try simp only [Act.put,Q3,Q4,Q5]);(refine QU 11 ?_; (try simp only [Act.put,Q3,Q4,Q5]));refine QR 14 fun K hK => ?_;refine step_appR (lo0:=0) (lo:=0) (n:=t.length) (xs:=strs t) _ rfl _ _ ty_strsL rfl (HSS.out _ hZ).2.2.now htn rfl (Row.lit (n:=1) (size:=1) hk (Nat.zero_le _) rfl) (by decide) rfl rfl (by omega) (by omega) ?_;intro A5 c5 w5 hd5 g5;have hZ:=hZ.trans ((below_none g5).mono hZ.size);have HD5 : Hid (w5.ownsRow (Z.drew.alloc (.cells #[.string ⟨s.toArray⟩] 9)).heap.size 9 1 (.slice A5 (t ++ [s]).length c5) (t ++ [s]).length (strs (t ++ [s]))):=Lib.hid (by simpa [strs,encStr] using hd5);have HOB : Hid (ob < (Z.drew.alloc (.cells #[.string ⟨s.toArray⟩] 9)).heap.size):=Lib.hid (by have:=HOZ.out; simp; omega);refine hK.out _ _ (trivial) (fun hHeld => ?_);clear hK K;(try simp only [Act.put,Q3,Q4,Q5]);refine QR 16 fun K hK => ?_;go_simp;go_at_call 99
         have hst5 : StR ob w5 A5 (t ++ [s]):=StR.of (Row.of_own HD5.out) (fun a ha => by
          have h1:=(HD5.out.lt a.block (by rw [obk_is,ha]; rfl)).1;have h2:=HOB.out
          omega)
         have hcl : (t ++ [s]).length ≤ c5:=own_capY HD5.out;have hrec:=ih (l.length - (i + 1)) (by omega) (l.drop (i + 1)) k (t ++ [s]) _ A5 _ c5 w5 (by simp) (by rw [List.length_drop]; exact hRC) hcl (by rw [List.length_append,List.length_drop]; simp; omega) (by omega) (by simp) (HSS.out _ hZ).1 (HSD.out _ hZ) hst5;rw [show (l.drop (i + 1)).length = l.length - (i + 1) by simp,show (t ++ [s]).length = t.length + 1 by simp] at hrec;refine hrec.mono ?_;rintro e w6 ⟨rfl,hg6,hJ6,hR6⟩;clear hrec;go_wp2_with fail;refine hK.out _ _ (trivial) (fun hHeld => ?_);clear hK K;(try simp only [Act.put,Q3,Q4,Q5]);refine wpAnyH_done (by kernel_rfl) ?_ _;go_wp2_with fail;go_meet;exact ⟨_,rfl,grown_trans' (grown_of_below hZ _) hg6,hJ6,hR6,Lib.hid rfl⟩
       case refine_2 =>
        go_simp;refine hK.out _ _ (trivial) (fun hHeld => ?_);clear hK K;(try simp only [Act.put,Q3,Q4,Q5]);refine wpAnyH_ready (rs:=[8,13]) (by kernel_rfl) (by simp) ?_;refine AllReadyH.cons rfl (fun K hK => ?_) (AllReadyH.cons rfl (fun K hK => ?_) AllReadyH.nil)
        case refine_1 =>
         go_simp;refine hK.out _ _ (trivial) (fun hHeld => ?_);clear hK K;(try simp only [Act.put,Q3,Q4,Q5]);(refine QU 11 ?_; (try simp only [Act.put,Q3,Q4,Q5]));refine QR 13 fun K hK => ?_;go_simp;have hk : Blk (Z.drew.alloc (.cells #[.string ⟨s.toArray⟩] 9)) Z.heap.size 9 #[.string ⟨s.toArray⟩]:=Blk.at_ _ (by simp);have hZ:=hZ.alloc hZ.size (.cells #[.string ⟨s.toArray⟩] 9);refine hK.out _ _ (trivial) (fun hHeld => ?_);clear hK K;(try simp only [Act.put,Q3,Q4,Q5]);refine QR 14 fun K hK => ?_;refine step_appR (lo0:=0) (lo:=0) (n:=t.length) (xs:=strs t) _ rfl _ _ ty_strsL rfl (HSS.out _ hZ).2.2.now htn rfl (Row.lit (n:=1) (size:=1) hk (Nat.zero_le _) rfl) (by decide) rfl rfl (by omega) (by omega) ?_;intro A5 c5 w5 hd5 g5;have hZ:=hZ.trans ((below_none g5).mono hZ.size);have HD5 : Hid (w5.ownsRow (Z.drew.alloc (.cells #[.string ⟨s.toArray⟩] 9)).heap.size 9 1 (.slice A5 (t ++ [s]).length c5) (t ++ [s]).length (strs (t ++ [s]))):=Lib.hid (by simpa [strs,encStr] using hd5);have HOB : Hid (ob < (Z.drew.alloc (.cells #[.string ⟨s.toArray⟩] 9)).heap.size):=Lib.hid (by have:=HOZ.out; simp; omega);refine hK.out _ _ (trivial) (fun hHeld => ?_);clear hK K;(try simp only [Act.put,Q3,Q4,Q5]);refine QR 16 fun K hK => ?_;go_simp;go_at_call 99
         have hst5 : StR ob w5 A5 (t ++ [s]):=StR.of (Row.of_own HD5.out) (fun a ha => by
          have h1:=(HD5.out.lt a.block (by rw [obk_is,ha]; rfl)).1;have h2:=HOB.out
          omega)
         have hcl : (t ++ [s]).length ≤ c5:=own_capY HD5.out;have hrec:=ih (l.length - (i + 1)) (by omega) (l.drop (i + 1)) k (t ++ [s]) _ A5 _ c5 w5 (by simp) (by rw [List.length_drop]; exact hRC) hcl (by rw [List.length_append,List.length_drop]; simp; omega) (by omega) (by simp) (HSS.out _ hZ).1 (HSD.out _ hZ) hst5;rw [show (l.drop (i + 1)).length = l.length - (i + 1) by simp,show (t ++ [s]).length = t.length + 1 by simp] at hrec;refine hrec.mono ?_;rintro e w6 ⟨rfl,hg6,hJ6,hR6⟩;clear hrec;go_wp2_with fail;refine hK.out _ _ (trivial) (fun hHeld => ?_);clear hK K;(try simp only [Act.put,Q3,Q4,Q5]);refine wpAnyH_done (by kernel_rfl) ?_ _;go_wp2_with fail;go_meet;exact ⟨_,rfl,grown_trans' (grown_of_below hZ _) hg6,hJ6,hR6,Lib.hid rfl⟩
        case refine_2 =>
         go_simp;have hk : Blk (Z.drew.alloc (.cells #[.string ⟨s.toArray⟩] 9)) Z.heap.size 9 #[.string ⟨s.toArray⟩]:=Blk.at_ _ (by simp);have hZ:=hZ.alloc hZ.size (.cells #[.string ⟨s.toArray⟩] 9);refine hK.out _ _ (trivial) (fun hHeld => ?_);clear hK K;(try simp only [Act.put,Q3,Q4,Q5]);refine QR 8 fun K hK => ?_;go_simp;refine hK.out _ _ (trivial) (fun hHeld => ?_);clear hK K;(try simp only [Act.put,Q3,Q4,Q5]);(refine QU 11 ?_; (try simp only [Act.put,Q3,Q4,Q5]));refine QR 14 fun K hK => ?_;refine step_appR (lo0:=0) (lo:=0) (n:=t.length) (xs:=strs t) _ rfl _ _ ty_strsL rfl (HSS.out _ hZ).2.2.now htn rfl (Row.lit (n:=1) (size:=1) hk (Nat.zero_le _) rfl) (by decide) rfl rfl (by omega) (by omega) ?_;intro A5 c5 w5 hd5 g5;have hZ:=hZ.trans ((below_none g5).mono hZ.size);have HD5 : Hid (w5.ownsRow (Z.drew.alloc (.cells #[.string ⟨s.toArray⟩] 9)).heap.size 9 1 (.slice A5 (t ++ [s]).length c5) (t ++ [s]).length (strs (t ++ [s]))):=Lib.hid (by simpa [strs,encStr] using hd5);have HOB : Hid (ob < (Z.drew.alloc (.cells #[.string ⟨s.toArray⟩] 9)).heap.size):=Lib.hid (by have:=HOZ.out; simp; omega);refine hK.out _ _ (trivial) (fun hHeld => ?_);clear hK K;(try simp only [Act.put,Q3,Q4,Q5]);refine QR 16 fun K hK => ?_;go_simp;go_at_call 99
         have hst5 : StR ob w5 A5 (t ++ [s]):=StR.of (Row.of_own HD5.out) (fun a ha => by
          have h1:=(HD5.out.lt a.block (by rw [obk_is,ha]; rfl)).1;have h2:=HOB.out
          omega)
         have hcl : (t ++ [s]).length ≤ c5:=own_capY HD5.out;have hrec:=ih (l.length - (i + 1)) (by omega) (l.drop (i + 1)) k (t ++ [s]) _ A5 _ c5 w5 (by simp) (by rw [List.length_drop]; exact hRC) hcl (by rw [List.length_append,List.length_drop]; simp; omega) (by omega) (by simp) (HSS.out _ hZ).1 (HSD.out _ hZ) hst5;rw [show (l.drop (i + 1)).length = l.length - (i + 1) by simp,show (t ++ [s]).length = t.length + 1 by simp] at hrec;refine hrec.mono ?_;rintro e w6 ⟨rfl,hg6,hJ6,hR6⟩;clear hrec;go_wp2_with fail;refine hK.out _ _ (trivial) (fun hHeld => ?_);clear hK K;(try simp only [Act.put,Q3,Q4,Q5]);refine wpAnyH_done (by kernel_rfl) ?_ _;go_wp2_with fail;go_meet;exact ⟨_,rfl,grown_trans' (grown_of_below hZ _) hg6,hJ6,hR6,Lib.hid rfl⟩
       case refine_3 =>
        go_simp;have hk : Blk (Z.drew.alloc (.cells #[.string ⟨s.toArray⟩] 9)) Z.heap.size 9 #[.string ⟨s.toArray⟩]:=Blk.at_ _ (by simp);have hZ:=hZ.alloc hZ.size (.cells #[.string ⟨s.toArray⟩] 9);refine hK.out _ _ (trivial) (fun hHeld => ?_);clear hK K;(try simp only [Act.put,Q3,Q4,Q5]);refine wpAnyH_ready (rs:=[8,10]) (by kernel_rfl) (by simp) ?_;refine AllReadyH.cons rfl (fun K hK => ?_) (AllReadyH.cons rfl (fun K hK => ?_) AllReadyH.nil)
        case refine_1 =>
         go_simp;refine hK.out _ _ (trivial) (fun hHeld => ?_);clear hK K;(try simp only [Act.put,Q3,Q4,Q5]);refine QR 10 fun K hK => ?_;go_simp;refine hK.out _ _ (trivial) (fun hHeld => ?_);clear hK K;(try simp only [Act.put,Q3,Q4,Q5]);(refine QU 11 ?_; (try simp only [Act.put,Q3,Q4,Q5]));refine QR 14 fun K hK => ?_;refine step_appR (lo0:=0) (lo:=0) (n:=t.length) (xs:=strs t) _ rfl _ _ ty_strsL rfl (HSS.out _ hZ).2.2.now htn rfl (Row.lit (n:=1) (size:=1) hk (Nat.zero_le _) rfl) (by decide) rfl rfl (by omega) (by omega) ?_;intro A5 c5 w5 hd5 g5;have hZ:=hZ.trans ((below_none g5).mono hZ.size);have HD5 : Hid (w5.ownsRow (Z.drew.alloc (.cells #[.string ⟨s.toArray⟩] 9)).heap.size 9 1 (.slice A5 (t ++ [s]).length c5) (t ++ [s]).length (strs (t ++ [s]))):=Lib.hid (by simpa [strs,encStr] using hd5);have HOB : Hid (ob < (Z.drew.alloc (.cells #[.string ⟨s.toArray⟩] 9)).heap.size):=Lib.hid (by have:=HOZ.out; simp; omega);refine hK.out _ _ (trivial) (fun hHeld => ?_);clear hK K;(try simp only [Act.put,Q3,Q4,Q5]);refine QR 16 fun K hK => ?_;go_simp;go_at_call 99
         have hst5 : StR ob w5 A5 (t ++ [s]):=StR.of (Row.of_own HD5.out) (fun a ha => by
          have h1:=(HD5.out.lt a.block (by rw [obk_is,ha]; rfl)).1;have h2:=HOB.out
          omega)
         have hcl : (t ++ [s]).length ≤ c5:=own_capY HD5.out;have hrec:=ih (l.length - (i + 1)) (by omega) (l.drop (i + 1)) k (t ++ [s]) _ A5 _ c5 w5 (by simp) (by rw [List.length_drop]; exact hRC) hcl (by rw [List.length_append,List.length_drop]; simp; omega) (by omega) (by simp) (HSS.out _ hZ).1 (HSD.out _ hZ) hst5;rw [show (l.drop (i + 1)).length = l.length - (i + 1) by simp,show (t ++ [s]).length = t.length + 1 by simp] at hrec;refine hrec.mono ?_;rintro e w6 ⟨rfl,hg6,hJ6,hR6⟩;clear hrec;go_wp2_with fail;refine hK.out _ _ (trivial) (fun hHeld => ?_);clear hK K;(try simp only [Act.put,Q3,Q4,Q5]);refine wpAnyH_done (by kernel_rfl) ?_ _;go_wp2_with fail;go_meet;exact ⟨_,rfl,grown_trans' (grown_of_below hZ _) hg6,hJ6,hR6,Lib.hid rfl⟩
        case refine_2 =>
         go_simp;refine hK.out _ _ (trivial) (fun hHeld => ?_);clear hK K;(try simp only [Act.put,Q3,Q4,Q5]);refine QR 8 fun K hK => ?_;go_simp;refine hK.out _ _ (trivial) (fun hHeld => ?_);clear hK K;(try simp only [Act.put,Q3,Q4,Q5]);(refine QU 11 ?_; (try simp only [Act.put,Q3,Q4,Q5]));refine QR 14 fun K hK => ?_;refine step_appR (lo0:=0) (lo:=0) (n:=t.length) (xs:=strs t) _ rfl _ _ ty_strsL rfl (HSS.out _ hZ).2.2.now htn rfl (Row.lit (n:=1) (size:=1) hk (Nat.zero_le _) rfl) (by decide) rfl rfl (by omega) (by omega) ?_;intro A5 c5 w5 hd5 g5;have hZ:=hZ.trans ((below_none g5).mono hZ.size);have HD5 : Hid (w5.ownsRow (Z.drew.alloc (.cells #[.string ⟨s.toArray⟩] 9)).heap.size 9 1 (.slice A5 (t ++ [s]).length c5) (t ++ [s]).length (strs (t ++ [s]))):=Lib.hid (by simpa [strs,encStr] using hd5);have HOB : Hid (ob < (Z.drew.alloc (.cells #[.string ⟨s.toArray⟩] 9)).heap.size):=Lib.hid (by have:=HOZ.out; simp; omega);refine hK.out _ _ (trivial) (fun hHeld => ?_);clear hK K;(try simp only [Act.put,Q3,Q4,Q5]);refine QR 16 fun K hK => ?_;go_simp;go_at_call 99
         have hst5 : StR ob w5 A5 (t ++ [s]):=StR.of (Row.of_own HD5.out) (fun a ha => by
          have h1:=(HD5.out.lt a.block (by rw [obk_is,ha]; rfl)).1;have h2:=HOB.out
          omega)
         have hcl : (t ++ [s]).length ≤ c5:=own_capY HD5.out;have hrec:=ih (l.length - (i + 1)) (by omega) (l.drop (i + 1)) k (t ++ [s]) _ A5 _ c5 w5 (by simp) (by rw [List.length_drop]; exact hRC) hcl (by rw [List.length_append,List.length_drop]; simp; omega) (by omega) (by simp) (HSS.out _ hZ).1 (HSD.out _ hZ) hst5;rw [show (l.drop (i + 1)).length = l.length - (i + 1) by simp,show (t ++ [s]).length = t.length + 1 by simp] at hrec;refine hrec.mono ?_;rintro e w6 ⟨rfl,hg6,hJ6,hR6⟩;clear hrec;go_wp2_with fail;refine hK.out _ _ (trivial) (fun hHeld => ?_);clear hK K;(try simp only [Act.put,Q3,Q4,Q5]);refine wpAnyH_done (by kernel_rfl) ?_ _;go_wp2_with fail;go_meet;exact ⟨_,rfl,grown_trans' (grown_of_below hZ _) hg6,hJ6,hR6,Lib.hid rfl⟩
     case rest =>
      obtain ⟨R1,rfl,hg6,hJ6,hR6,HR1⟩:=hcut;have hgr : W.grownBy wc (some ob):=grown_trans' hg hg6
      cases hc : R1 with
      | none =>
       have HN : Hid ((combos (l.drop i) (k + 1) t).find? (fastB f most) = (combos (l.drop (i + 1)) (k + 1) t).find? (fastB f most)):=Lib.hid (by rw [HCD.out,List.find?_append,← HR1.out,hc]; rfl);simp only [Option.isSome_none];clear hc;go_wp2_with fail;go_roundw
       case rel => exact ⟨i + 1,by omega,by go_num,hgr,hJ6,Lib.hid (by rw [HC.out,HN.out])⟩
       case measure => simp [intOf]; omega
      | some x =>
       have HN : Hid ((combos l (k + 1) t).find? (fastB f most) = some x):=Lib.hid (by rw [HC.out,HCD.out,List.find?_append,← HR1.out,hc]; rfl);have hox:=hR6 x hc;simp only [Option.isSome_some];clear hc;go_wp2_with fail;go_ret;exact ⟨by rw [HN.out]; rfl,hgr,hJ6,fun y hy => by rw [HN.out] at hy; injection hy with hy; subst hy; exact hox⟩
    ·have hie : i = l.length:=by omega
     subst hie;have HN : Hid ((combos l (k + 1) t).find? (fastB f most) = none):=Lib.hid (by rw [HC.out,List.drop_length]; rfl);go_wp2_with fail;go_ret;exact ⟨by rw [HN.out]; rfl,hg,hJ,fun x hx => by rw [HN.out] at hx; cases hx⟩

end Go.Proofs.YtjggbpchmbdocaaGreatDoor
/- The walk of Learn. -/
namespace Go.Proofs.YtjggbpchmbdocaaGreatDoor
open Go.RowKit

def LearnOk (f : List (List UInt8) → Int) (most : Int) (tr l : List (List UInt8)) : Prop :=
 ∃ k,k ≤ tr.length ∧ (combos tr k []).find? (fastB f most) = some l ∧ ∀ k',k' < k → (combos tr k' []).find? (fastB f most) = none
def learnE (rs : List RoomE) (ds : List DoorE) (st gl : List UInt8) (tr : List (List UInt8)) (most : Int) : Int :=
 if tricksE rs ds st gl tr ≠ 0 then tricksE rs ds st gl tr else if most < 0 ∨ 864000000000 < most then 1 else 0
def LePost (w : World) (rs : List RoomE) (ds : List DoorE) (st gl : List UInt8) (tr : List (List UInt8)) (most : Int) (err : Int) (e : Ending) (w' : World) : Prop :=
 ∃ (l : List (List UInt8)) (A : Option Addr) (c : Nat) (is : Bool),e = .returned (.tuple #[.slice A l.length c,.bool is,.int .i64 err]) ∧ (err ≠ 0 → l = [] ∧ is = false) ∧ (err = 0 → is = fastB (timeT rs ds st gl) most tr ∧ (is = false → l = []) ∧ (is = true → LearnOk (timeT rs ds st gl) most tr l)) ∧ Row w' 0 1 A l.length (strs l) ∧ Below w.heap.size w w'
set_option maxHeartbeats 8000000 in
set_option maxRecDepth 100000 in
theorem learn_any (lo ca cd lo2 c2 : Nat) (A : Option Addr) (rs : List RoomE) (D : Option Addr) (ds : List DoorE) (st gl : List UInt8) (TR : Option Addr) (tr : List (List UInt8)) (most : Int) (w : World) (hA : MapW w lo A rs D ds) (hr : Row w lo2 1 TR tr.length (strs tr)) (hrl : tr.length ≤ 10000) (htc : tr.length ≤ c2) (hTA : ∀ a,TR = some a → a.block < w.heap.size) :
  Calls Tryz.prog 35 #[mapV A rs ca D ds cd st gl,.slice TR tr.length c2,.int .i64 most] w (LePost w rs ds st gl tr most (learnE rs ds st gl tr most)):=by
 have hC : McC w ((w.alloc (.cells #[.slice A rs.length ca,.slice D ds.length cd,.string ⟨st.toArray⟩,.string ⟨gl.toArray⟩] 29)).alloc (.cells #[.int .i64 most] 3)) w.heap.size lo A rs ca D ds cd st gl:=⟨(hA.alloc _).alloc _,(Blk.new _ _ _).alloc _,(by repeat (first | exact Below.refl _ _ | refine Below.alloc ?_ (by first | omega | (simp; omega) | simp) _ | refine below_drewN' ?_ _ | refine Below.drew ?_))⟩
 have hq : Blk ((w.alloc (.cells #[.slice A rs.length ca,.slice D ds.length cd,.string ⟨st.toArray⟩,.string ⟨gl.toArray⟩] 29)).alloc (.cells #[.int .i64 most] 3)) (w.heap.size + 1) 3 #[.int .i64 most]:=Blk.at_ _ (by simp);have HRR:=Lib.hid hr;have HTA:=Lib.hid hTA
 obtain ⟨err,herr⟩ : ∃ err,err = tricksE rs ds st gl tr:=⟨_,rfl⟩
 have HLE : Hid (learnE rs ds st gl tr most = if err ≠ 0 then err else if most < 0 ∨ 864000000000 < most then 1 else 0):=Lib.hid (by unfold learnE; rw [herr])
 obtain ⟨le,hle⟩ : ∃ le,le = learnE rs ds st gl tr most:=⟨_,rfl⟩
 rw [← hle] at HLE ⊢;have HER:=Lib.hid herr;clear hA hr herr hle hTA;unfold mapV;simp only [encStr]
 go_enter Tryz.func35,Tryz.ntmps35
 go_wp2_with fail
 have hqz : w.heap.size + 1 < ((w.alloc (.cells #[.slice A rs.length ca,.slice D ds.length cd,.string ⟨st.toArray⟩,.string ⟨gl.toArray⟩] 29)).alloc (.cells #[.int .i64 most] 3)).heap.size:=by simp
 generalize (w.alloc (.cells #[.slice A rs.length ca,.slice D ds.length cd,.string ⟨st.toArray⟩,.string ⟨gl.toArray⟩] 29)).alloc (.cells #[.int .i64 most] 3) = W1 at *;have hq1 : w.heap.size ≤ w.heap.size + 1:=Nat.le_succ _;generalize w.heap.size + 1 = qb at *;have hct:=checkTricks_any lo ca cd A rs D ds st gl lo2 c2 TR tr W1 hC.m (HRR.out.below hC.b) (by omega);unfold mapV at hct;simp only [encStr] at hct;rw [← HER.out] at hct;refine hct.mono ?_;rintro e w2 ⟨rfl,hb⟩;have hC:=hC.below hb;have hq:=hq.below hb;have hqz:=hq.lt;clear hct hb
 by_cases h0 : err = 0
 ·subst h0
  have HR : Hid (Right rs ds st gl):=Lib.hid (right_of (tricks_right HER.out.symm));have HTM : Hid (TimeOk w2 w.heap.size (timeT rs ds st gl)):=Lib.hid (fun W B lo3 c3 l hb hr hl => (time_any w.heap.size lo ca cd lo3 c3 A rs D ds st gl _ B l [] W (hC.below hb).m (hC.below hb).bl HR.out rfl hr (by omega)).mono fun _ _ h => ⟨h.1,h.2.2⟩);have hwz:=hC.b.size;have q0:=hq.cell 0;have hou:=out_any most 0 864000000000 w2
  by_cases hm : most < 0 ∨ 864000000000 < most
  ·have d0 : (decide (most < 0) || decide (864000000000 < most)) = true:=by rw [← Bool.decide_or]; exact decide_eq_true hm
   have HV : Hid (le = 1):=Lib.hid (by rw [HLE.out,if_neg (by simp),if_pos hm]);rw [d0] at hou;clear hm d0;go_wp2_with fail;refine hou.mono ?_;rintro e w3 ⟨rfl,rfl⟩;clear hou;go_wp2_with fail;go_ret3;exact ⟨[],none,0,false,by rw [HV.out]; rfl,fun _ => ⟨rfl,rfl⟩,fun h => absurd h (by rw [HV.out]; decide),Row.none_ _ _ _ _,hC.b⟩
  ·have d0 : (decide (most < 0) || decide (864000000000 < most)) = false:=by rw [← Bool.decide_or]; exact decide_eq_false hm
   have HV : Hid (le = 0):=Lib.hid (by rw [HLE.out,if_neg (by simp),if_neg hm]);rw [d0] at hou;clear hm d0;go_wp2_with fail;refine hou.mono ?_;rintro e w3 ⟨rfl,rfl⟩;clear hou;have hf0 : Blk (w2.alloc (.cells #[.func (.func 98) #[] #[.pointer (some ⟨w.heap.size,0,none⟩),.pointer (some ⟨qb,0,none⟩)]] 151)) w2.heap.size 151 #[.func (.func 98) #[] #[.pointer (some ⟨w.heap.size,0,none⟩),.pointer (some ⟨qb,0,none⟩)]]:=Blk.new _ _ _;go_upto_region 7 with (fail);have hb3 : Below w2.heap.size w2 (w2.alloc (.cells #[.func (.func 98) #[] #[.pointer (some ⟨w.heap.size,0,none⟩),.pointer (some ⟨qb,0,none⟩)]] 151)):=(Below.refl _ _).alloc (Nat.le_refl _) _;have hq3:=hq.alloc (.cells #[.func (.func 98) #[] #[.pointer (some ⟨w.heap.size,0,none⟩),.pointer (some ⟨qb,0,none⟩)]] 151)
   have hz3 : (w2.alloc (.cells #[.func (.func 98) #[] #[.pointer (some ⟨w.heap.size,0,none⟩),.pointer (some ⟨qb,0,none⟩)]] 151)).heap.size = w2.heap.size + 1:=by simp
   generalize w2.alloc (.cells #[.func (.func 98) #[] #[.pointer (some ⟨w.heap.size,0,none⟩),.pointer (some ⟨qb,0,none⟩)]] 151) = w3 at *;have HTR : Hid (∀ W,Below w2.heap.size w2 W → Row W lo2 1 TR tr.length (strs tr)):=Lib.hid (fun W hb => HRR.out.below (below_up hC.b hb))
   -- the closure's own law wants a block that is written to: any number past the heap serves until it is there
   have hfa:=fast_any0 HTM.out hb3 hq3 TR lo2 c2 tr (HTR.out _ hb3) (by omega);have f0 : w3.cell? ⟨w2.heap.size,0,none⟩ = some (.func (.func 98) #[] #[.pointer (some ⟨w.heap.size,0,none⟩),.pointer (some ⟨qb,0,none⟩)]):=hf0.cell 0;have zf:=hf0.lt
   obtain ⟨f,hf⟩ : ∃ f,f = timeT rs ds st gl:=⟨_,rfl⟩
   rw [← hf] at HTM hfa;have HFT:=Lib.hid hf;clear hf
   obtain ⟨fv,hfv⟩ : ∃ fv,fv = fastB f most tr:=⟨_,rfl⟩
   rw [← hfv] at hfa;have HFV:=Lib.hid hfv;clear hfv;go_wp2_with fail;refine hfa.mono ?_;rintro e w4 ⟨rfl,hb⟩;have hf0:=hf0.below hb;have hq3:=hq3.below hb;have hz4:=hb.size;have hb4:=below_up hb3 hb;clear hfa hb hb3 f0 zf
   cases hfv : fv with
   | false =>
    rw [hfv] at HFV;clear hfv;go_wp2_with fail;go_ret3;exact ⟨[],none,0,false,by rw [HV.out]; rfl,fun h => absurd HV.out h,fun _ => ⟨by rw [← HFT.out]; exact HFV.out,fun _ => rfl,(fun h => by cases h)⟩,Row.none_ _ _ _ _,below_up hC.b hb4⟩
   | true =>
    rw [hfv] at HFV;clear hfv;go_upto_region 10 with (fail);have ho5 : Blk (w4.alloc (.cells #[.slice none 0 0] 30)) w4.heap.size 30 #[.slice none 0 0]:=Blk.new _ _ _
    have hJ : JL w2 (w4.alloc (.cells #[.slice none 0 0] 30)) w.heap.size qb w2.heap.size w4.heap.size most:=⟨hb4.alloc hb4.size _,hq3.alloc _,hf0.alloc _,⟨_,_,_,ho5⟩,by omega,by omega,by omega⟩
    have hst : StR w4.heap.size (w4.alloc (.cells #[.slice none 0 0] 30)) TR tr:=StR.of (HTR.out _ (hb4.alloc hb4.size _)) (fun a ha => by have:=HTA.out a ha; omega);have hob : w2.heap.size ≤ w4.heap.size:=hb4.size;clear hf0 hq3 ho5;generalize w4.alloc (.cells #[.slice none 0 0] 30) = w5 at *;generalize w4.heap.size = ob at *;have HST:=Lib.hid hst;clear hst;have wl : IntKind.i64.wrap ((tr.length : Int) + 1) = (tr.length : Int) + 1:=IntWalk.i64_in _ ⟨by omega,by omega⟩;go_wp2_with fail
    go_loopw [30] (fun u wr => ∃ j : Nat,j ≤ tr.length + 1 ∧ u = .int .i64 j ∧ w5.grownBy wr (some ob) ∧ JL w2 wr w.heap.size qb w2.heap.size ob most ∧ Hid (∀ k',k' < j → (combos tr k' []).find? (fastB f most) = none)) (fun u _ => tr.length + 1 - (intOf u).toNat)
    case atStart => exact ⟨0,Nat.zero_le _,rfl,World.grownBy.refl _ _,hJ,Lib.hid (fun k' hk => by omega)⟩
    case round =>
     clear hJ;obtain ⟨j,hj,rfl,hg,hJ,HN⟩:=hrel
     by_cases hlt : j < tr.length + 1
     ·have d1 : decide ((j : Int) < (tr.length : Int) + 1) = true:=decide_eq_true (by omega)
      have hch:=choose_any HTM.out tr.length tr j [] TR none c2 0 wr rfl htc (Nat.zero_le _) (by simp; omega) (by omega) (fun _ => rfl) hJ (HST.out.on hg) (fun _ _ => Row.none_ _ _ _ _)
      obtain ⟨R1,hR1⟩ : ∃ R1,R1 = (combos tr j []).find? (fastB f most):=⟨_,rfl⟩
      rw [← hR1] at hch;have HR1:=Lib.hid hR1;clear hR1;go_wp2_with fail;refine hch.mono ?_;rintro e w6 ⟨rfl,hg6,hJ6,hR6⟩;have hgr:=grown_trans' hg hg6;clear hch
      cases hc : R1 with
      | none =>
       rw [hc] at HR1;simp only [Option.isSome_none];clear hc hR6;go_wp2_with fail;go_roundw
       case rel => exact ⟨j + 1,by omega,by go_num,hgr,hJ6,Lib.hid (fun k' hk => by
        by_cases e : k' = j
        ·subst e; exact HR1.out.symm
        ·exact HN.out k' (by omega))⟩
       case measure => simp [intOf]; omega
      | some x =>
       rw [hc] at HR1;obtain ⟨OA,oc,hox,hor⟩:=hR6 x hc;have o0 : w6.cell? ⟨ob,0,none⟩ = some (.slice OA x.length oc):=hox.cell 0;have zo:=hox.lt;have hbl : Below w.heap.size w w6:=below_up hC.b hJ6.b;simp only [Option.isSome_some];clear hc hR6;go_wp2_with fail;go_ret3;exact ⟨x,OA,oc,true,by rw [HV.out]; rfl,fun h => absurd HV.out h,fun _ => ⟨by rw [← HFT.out]; exact HFV.out,(fun h => by cases h),fun _ => ⟨j,by omega,by rw [← HFT.out]; exact HR1.out.symm,fun k' hk => by rw [← HFT.out]; exact HN.out k' hk⟩⟩,hor,hbl⟩
     ·exfalso
      have h1:=HN.out tr.length (by omega);have h2:=combos_sub tr tr [] (List.Sublist.refl _);have h3:=List.find?_eq_none.1 h1 _ h2;rw [List.nil_append,← HFV.out] at h3;exact h3 rfl
 ·have d0 : (err != 0) = true:=bne_iff_ne.2 h0
  have HV : Hid (le = err):=Lib.hid (by rw [HLE.out,if_pos h0]);go_wp2_with fail;go_ret3;exact ⟨[],none,0,false,by rw [HV.out]; rfl,fun _ => ⟨rfl,rfl⟩,fun h => absurd (HV.out ▸ h) h0,Row.none_ _ _ _ _,hC.b⟩

end Go.Proofs.YtjggbpchmbdocaaGreatDoor
/- What Worths, Spare and Learn tell, plain: times fall with more tricks; what is spared costs nothing. -/
namespace Go.Proofs.YtjggbpchmbdocaaGreatDoor
open Go.RowKit

theorem exists_leastN {P : Nat → Prop} (h : ∃ n,P n) : ∃ n,P n ∧ ∀ m,P m → n ≤ m:=by
 obtain ⟨n,hn⟩:=h
 induction n using Nat.strongRecOn with
 | ind n ih =>
  by_cases c : ∃ m,m < n ∧ P m
  ·obtain ⟨m,h1,h2⟩:=c
   exact ih m h1 h2
  ·exact ⟨n,hn,fun m hm => Classical.byContradiction fun h => c ⟨m,by omega,hm⟩⟩
theorem LeastT.exists {nx : StE → List (Nat × StE)} {ef : StE → Bool} {tm : Nat → Int} (ht : ∀ x p,p ∈ nx x → 1 ≤ tm p.1) (x : StE) : ∃ v,LeastT nx ef tm x v:=by
 by_cases c : ∃ t d ks,WayX nx ef tm x t d ks
 ·obtain ⟨t,d,ks,hw⟩:=c
  have h0:=(hw.nn ht).1;obtain ⟨n,⟨d',ks',hn⟩,hl⟩:=exists_leastN (P:=fun n => ∃ d ks,WayX nx ef tm x (n : Int) d ks) ⟨t.toNat,d,ks,by rw [Int.toNat_of_nonneg h0]; exact hw⟩;refine ⟨(n : Int),.inr ⟨by omega,⟨d',ks',hn⟩,fun t' d2 ks2 hw2 => ?_⟩⟩;have h1:=(hw2.nn ht).1;have:=hl t'.toNat ⟨d2,ks2,by rw [Int.toNat_of_nonneg h1]; exact hw2⟩;omega
 ·exact ⟨-1,.inl ⟨rfl,fun t d ks hw => c ⟨t,d,ks,hw⟩⟩⟩
theorem LeastT.mono {nx nx' : StE → List (Nat × StE)} {ef : StE → Bool} {tm : Nat → Int} {x : StE} {a b : Int} (hs : ∀ x p,p ∈ nx x → p ∈ nx' x) (ha : LeastT nx ef tm x a) (hb : LeastT nx' ef tm x b) (h0 : 0 ≤ a) : 0 ≤ b ∧ b ≤ a:=by
 rcases ha with ⟨rfl,_⟩ | ⟨_,⟨d,ks,hw⟩,_⟩
 ·omega
 ·have hw':=hw.mono hs
  rcases hb with ⟨rfl,h1⟩ | ⟨h1,_,h2⟩
  ·exact absurd hw' (h1 _ _ _)
  ·exact ⟨h1,h2 _ _ _ hw'⟩
section
variable {rs : List RoomE} {ds : List DoorE} {st gl : List UInt8}
theorem nxX_tm (hR : Right rs ds st gl) {T tr : List (List UInt8)} {wo : List UInt8} {sf : StE → StE} (x : StE) (p : Nat × StE) (h : p ∈ nxX rs T ds tr wo sf x) : 1 ≤ tmX ds p.1 ∧ tmX ds p.1 ≤ 864000000:=by
 obtain ⟨hk,_⟩:=nxX_mem h;unfold tmX; rw [getD_door hk]; exact hR.time _ (List.getElem_mem hk)
theorem timeT_is (hR : Right rs ds st gl) (l : List (List UInt8)) : LeastT (nxX rs (onceT (allT rs ds)) ds l [] id) (goalX rs gl) (tmX ds) (st0 rs (onceT (allT rs ds)) st) (timeT rs ds st gl l):=by
 obtain ⟨v,hv⟩:=LeastT.exists (nx:=nxX rs (onceT (allT rs ds)) ds l [] id) (ef:=goalX rs gl) (tm:=tmX ds) (fun x p h => (nxX_tm hR x p h).1) (st0 rs (onceT (allT rs ds)) st);have : timeT rs ds st gl l = v:=timeF_eq hv;rw [this]; exact hv
theorem timeT_mono (hR : Right rs ds st gl) {l l' : List (List UInt8)} (hs : ∀ s ∈ l,s ∈ l') (h0 : 0 ≤ timeT rs ds st gl l) : 0 ≤ timeT rs ds st gl l' ∧ timeT rs ds st gl l' ≤ timeT rs ds st gl l :=
 (timeT_is hR l).mono (fun x p => nxX_mono hs x p) (timeT_is hR l') h0
theorem FaQ.time (hR : Right rs ds st gl) {tr K : List (List UInt8)} {t : Int} {is : Bool} (h : FaQ rs ds (onceT (allT rs ds)) tr st gl K t is) : timeT rs ds st gl tr = if is then t else -1:=(timeT_is hR tr).uniq h.least
theorem WayX.ub {nx : StE → List (Nat × StE)} {ef : StE → Bool} {tm : Nat → Int} (ht : ∀ x p,p ∈ nx x → tm p.1 ≤ 864000000) {x : StE} {t d : Int} {ks : List Nat} (hw : WayX nx ef tm x t d ks) : t ≤ 864000000 * (ks.length : Int):=by
 induction hw with
 | stop _ => simp
 | @go x y k t d ks _ hm _ ih =>
  have:=ht _ _ hm;simp only at this;rw [List.length_cons]; omega
theorem FaQ.ub (hR : Right rs ds st gl) {T tr K : List (List UInt8)} {t : Int} {is : Bool} (h : FaQ rs ds T tr st gl K t is) : 0 ≤ t ∧ t ≤ 864000000 * (nS rs T : Int):=by
 obtain ⟨r,h1,rfl,rfl,rfl⟩:=h
 cases hi : r.is with
 | false => rw [(h1.no hi).1]; exact ⟨Int.le_refl _,by simp only; omega⟩
 | true =>
  obtain ⟨⟨d,hw⟩,_,h2,h3⟩:=h1.yes hi;have:=hw.ub (fun x p h => (nxX_tm hR x p h).2);exact ⟨h2,by omega⟩
theorem lessL_in {l : List (List UInt8)} {s x : List UInt8} : x ∈ lessL l s ↔ x ∈ l ∧ x ≠ s:=by
 unfold lessL;rw [List.mem_filter]
 simp
structure SpI (f : List (List UInt8) → Int) (tr : List (List UInt8)) (ol : List (List UInt8) × List (List UInt8)) : Prop where
  mem : ∀ x, x ∈ ol.2 ↔ x ∈ tr ∧ x ∉ ol.1
  all : f ol.2 = f tr
  sp : ∀ s ∈ ol.1, f (lessL tr s) = f tr
  left : ol.2 = tr.filter (fun x => !decide (x ∈ ol.1))
theorem SpI.next {f : List (List UInt8) → Int} {tr : List (List UInt8)} (hmono : ∀ l l' : List (List UInt8),(∀ s ∈ l,s ∈ l') → 0 ≤ f l → 0 ≤ f l' ∧ f l' ≤ f l) (h0 : 0 ≤ f tr) {ol : List (List UInt8) × List (List UInt8)} (h : SpI f tr ol) (s : List UInt8) : SpI f tr (spareS f (f tr) ol s):=by
 obtain ⟨out,left⟩:=ol;obtain ⟨i1,i2,i3,i4⟩:=h;simp only at i1 i2 i3 i4;unfold spareS;simp only
 by_cases c : f (lessL left s) = f tr
 ·rw [if_pos c]
  have hsub : ∀ x ∈ lessL left s,x ∈ lessL tr s:=fun x hx => by
   rw [lessL_in] at hx ⊢;exact ⟨((i1 x).1 hx.1).1,hx.2⟩
  refine ⟨fun x => ?_,c,fun x hx => ?_,?_⟩
  ·simp only
   rw [lessL_in,i1,List.mem_append,List.mem_singleton]
   constructor
   ·rintro ⟨⟨h1,h2⟩,h3⟩; exact ⟨h1,fun h => h.elim h2 h3⟩
   ·rintro ⟨h1,h2⟩; exact ⟨⟨h1,fun h => h2 (.inl h)⟩,fun h => h2 (.inr h)⟩
  ·rcases List.mem_append.1 hx with hx | hx
   ·exact i3 x hx
   ·rw [List.mem_singleton] at hx
    subst hx;have a1:=hmono _ _ hsub (by rw [c]; exact h0);have a2:=hmono (lessL tr x) tr (fun y hy => (lessL_in.1 hy).1) a1.1;omega
  ·simp only
   rw [i4];unfold lessL;rw [List.filter_filter]
   refine List.filter_congr fun x _ => ?_
   by_cases e1 : x ∈ out <;> by_cases e2 : x = s <;> simp [e1,e2]
 ·rw [if_neg c]
  exact ⟨i1,i2,i3,i4⟩
theorem learn_is {f : List (List UInt8) → Int} {most : Int} {tr l : List (List UInt8)} (h : LearnOk f most tr l) : l.Sublist tr ∧ fastB f most l = true ∧ ∀ l',l'.Sublist tr → fastB f most l' = true → l.length ≤ l'.length:=by
 obtain ⟨k,_,h1,h2⟩:=h;obtain ⟨s,e,hs,hk⟩:=combos_is tr k [] l (List.mem_of_find?_eq_some h1);rw [List.nil_append] at e;subst e;refine ⟨hs,List.find?_some h1,fun l' hl hf => ?_⟩
 by_cases c : l'.length < k
 ·have h3:=List.find?_eq_none.1 (h2 _ c) _ (combos_sub tr l' [] hl)
  rw [List.nil_append] at h3;exact absurd hf h3
 ·omega
end
end Go.Proofs.YtjggbpchmbdocaaGreatDoor
