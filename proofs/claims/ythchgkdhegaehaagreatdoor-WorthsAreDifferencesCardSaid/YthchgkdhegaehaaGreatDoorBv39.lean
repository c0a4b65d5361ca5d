/- Texts of this seat, laid together: HpL HpX MkC ReadyN. -/
import Derived.Test.YthchgkdhegaehaaGreatDoorBv34
import Derived.Test.YthchgkdhegaehaaGreatDoorBv35
import Derived.Test.YthchgkdhegaehaaGreatDoorBv37
import Derived.Test.YthchgkdhegaehaaGreatDoorBv25
import Derived.Test.YthchgkdhegaehaaGreatDoorBv36
import Derived.Test.YthchgkdhegaehaaGreatDoorBv02
import Derived.Test.YthchgkdhegaehaaGreatDoorBv19
import Derived.Test.YthchgkdhegaehaaGreatDoorBv05
/- What the laws on ways want, plain: more tricks are no slower, a path is a walk, no walk is faster. -/
namespace Go.Proofs.YthchgkdhegaehaaGreatDoor
set_option linter.unusedVariables false
set_option linter.unusedSimpArgs false
open Go.RowKit

theorem trickAt_0 {ds : List DoorE} {l : List (List UInt8)} {i : Nat} (hi : i < l.length) (h : trickAt ds l i = 0) : l[i] ∈ onceT (allK ds) ∧ (0 < i → l.getD (i - 1) [] < l[i]):=by
 unfold trickAt at h
 have e : l.getD i [] = l[i]:=by rw [List.getD_eq_getElem?_getD,List.getElem?_eq_getElem hi]; rfl
 rw [e] at h
 by_cases c1 : l[i] ∈ onceT (allK ds)
 ·rw [if_neg (by simpa using c1)] at h
  refine ⟨c1,fun h0 => ?_⟩
  by_cases c2 : l.getD (i - 1) [] < l[i]
  ·exact c2
  ·rw [if_pos ⟨h0,c2⟩] at h; cases h
 ·rw [if_pos c1] at h; cases h
theorem tricks_in {rs : List RoomE} {ds : List DoorE} {st gl : List UInt8} {tr : List (List UInt8)} (h : tricksE rs ds st gl tr = 0) : (∀ s ∈ tr,s ∈ onceT (allK ds)) ∧ tr.Pairwise (· < ·):=by
 have hm:=tricks_right h
 unfold tricksE at h
 rw [if_neg (by simp [hm])] at h
 have h0:=scanF_0 h
 refine ⟨fun s hs => ?_,?_⟩
 ·obtain ⟨i,hi,rfl⟩:=List.mem_iff_getElem.1 hs
  exact (trickAt_0 hi (h0 i hi)).1
 ·have hup : UpS tr:=fun i hi => by
   have:=(trickAt_0 hi (h0 (i + 1) hi)).2 (by omega)
   rwa [show i + 1 - 1 = i by omega,List.getD_eq_getElem?_getD,List.getElem?_eq_getElem (show i < tr.length by omega)] at this
  rw [List.pairwise_iff_getElem]
  exact fun i j hi hj hij => UpS.lt hup i j hj hij
theorem tricks_ok {rs : List RoomE} {ds : List DoorE} {st gl : List UInt8} {tr : List (List UInt8)} (hm : mapE rs ds st gl = 0) (hs : ∀ s ∈ tr,s ∈ onceT (allK ds)) (hp : tr.Pairwise (· < ·)) : tricksE rs ds st gl tr = 0:=by
 unfold tricksE
 rw [if_neg (by simp [hm])]
 refine scanF_none fun i hi => ?_
 unfold trickAt
 have e : tr.getD i [] = tr[i]:=by rw [List.getD_eq_getElem?_getD,List.getElem?_eq_getElem hi]; rfl
 rw [e,if_neg (by simpa using hs _ (List.getElem_mem hi))]
 by_cases h0 : 0 < i
 ·have h1 : tr.getD (i - 1) [] < tr[i]:=by
   rw [List.getD_eq_getElem?_getD,List.getElem?_eq_getElem (show i - 1 < tr.length by omega)]
   exact List.pairwise_iff_getElem.1 hp (i - 1) i (by omega) hi (by omega)
  rw [if_neg (fun h => h.2 h1)]
 ·rw [if_neg (fun h => h0 h.1)]
theorem tricks_all {rs : List RoomE} {ds : List DoorE} {st gl : List UInt8} (hm : mapE rs ds st gl = 0) : tricksE rs ds st gl (onceT (allK ds)) = 0:=tricks_ok hm (fun _ h => h) (onceT_spec _).1
theorem few_G {rs : List RoomE} {ds : List DoorE} (hr : RoomsG rs) (hd : DoorsG rs.length ds) : (onceT (allT rs ds)).length ≤ 3:=by
 have hT : thingsL.Pairwise (· < ·):=by decide
 exact once_short (T:=thingsL) hT (fun x hx => by
  rcases List.mem_append.1 hx with h | h
  ·obtain ⟨r,hr',hx'⟩:=List.mem_flatMap.1 h
   obtain ⟨k,hk,rfl⟩:=List.mem_iff_getElem.1 hr'
   exact (hr k hk).2.subset hx'
  ·obtain ⟨d,hd',hx'⟩:=List.mem_flatMap.1 h
   obtain ⟨k,hk,rfl⟩:=List.mem_iff_getElem.1 hd'
   rcases List.mem_append.1 hx' with h1 | h1
   ·exact (hd k hk).needs.subset h1
   ·exact (hd k hk).takes.subset h1)
theorem nS_few {rs : List RoomE} {T : List (List UInt8)} (hr : rs.length ≤ 5) (hT : T.length ≤ 3) : nS rs T ≤ 240:=by
 unfold nS
 have h1 : 2 ^ T.length ≤ 2 ^ 3:=Nat.pow_le_pow_right (by decide) hT
 have h2 : rs.length * 2 ^ T.length ≤ 5 * 8:=Nat.mul_le_mul hr h1
 omega
section
variable {rs : List RoomE} {ds : List DoorE} {T : List (List UInt8)} {tr tr' : List (List UInt8)} {st gl : List UInt8} {n n' : Nat} {r r' : PathR}
theorem path_mono (h : PathOk (nxX rs T ds tr [] id) (goalX rs gl) (tmX ds) (st0 rs T st) n r) (h' : PathOk (nxX rs T ds tr' [] id) (goalX rs gl) (tmX ds) (st0 rs T st) n' r') (hs : ∀ s ∈ tr,s ∈ tr') (hi : r.is = true) : r'.is = true ∧ r'.t ≤ r.t:=by
 obtain ⟨⟨d,hw⟩,_,_,_⟩:=h.yes hi
 have hw':=hw.mono (nx':=nxX rs T ds tr' [] id) (fun x p => nxX_mono hs x p)
 cases hx : r'.is with
 | false => exact absurd hw' ((h'.no hx).2 _ _ _)
 | true => exact ⟨rfl,(h'.yes hx).2.1 _ _ _ hw'⟩
theorem path_walks (h : PathOk (nxX rs T ds tr [] id) (goalX rs gl) (tmX ds) (st0 rs T st) n r) (hE : tricksE rs ds st gl tr = 0) (hT : onceT (allT rs ds) = T) (hn : n ≤ 500) (hi : r.is = true) : ∃ th,walkE rs ds st gl tr (r.ks.map (keyX ds)) = ⟨0,gl,th,r.t⟩:=by
 obtain ⟨⟨d,hw⟩,_,_,hl⟩:=h.yes hi
 have hR:=right_of (tricks_right hE)
 rw [st0_once] at hw
 obtain ⟨th,e⟩:=way_walk hR hT hw st (onceT (givesOf rs st)) 0 hR.st rfl
 refine ⟨th,?_⟩
 unfold walkE walkF
 rw [if_neg (by simp [hE]),if_neg (by rw [List.length_map]; omega),e,Int.zero_add]
theorem walk_slow (h : PathOk (nxX rs T ds tr [] id) (goalX rs gl) (tmX ds) (st0 rs T st) n r) (hE : tricksE rs ds st gl tr = 0) (hT : onceT (allT rs ds) = T) {l : List (List UInt8)} (he : (walkE rs ds st gl tr l).err = 0) (hr : (walkE rs ds st gl tr l).room = gl) : r.is = true → r.t ≤ (walkE rs ds st gl tr l).time:=by
 intro hi
 have hR:=right_of (tricks_right hE)
 have e : walkE rs ds st gl tr l = ⟨0,gl,(walkE rs ds st gl tr l).th,(walkE rs ds st gl tr l).time⟩:=by
  conv => lhs; rw [show walkE rs ds st gl tr l = ⟨(walkE rs ds st gl tr l).err,(walkE rs ds st gl tr l).room,(walkE rs ds st gl tr l).th,(walkE rs ds st gl tr l).time⟩ from rfl]
  rw [he,hr]
 have e2 : walkS rs ds tr l st (onceT (givesOf rs st)) 0 = walkE rs ds st gl tr l:=by
  unfold walkE walkF
  rw [if_neg (by simp [hE])]
  by_cases c : 500 < l.length
  ·exfalso
   unfold walkE walkF at he
   rw [if_neg (by simp [hE]),if_pos c] at he
   cases he
  ·rw [if_neg c]
 rw [e] at e2
 obtain ⟨_,t,d,ks,hw,hle⟩:=walk_way hR hT l st (onceT (givesOf rs st)) _ 0 _ hR.st e2
 rw [← st0_once] at hw
 have:=(h.yes hi).2.1 _ _ _ hw
 omega
theorem walk_is (h : PathOk (nxX rs T ds tr [] id) (goalX rs gl) (tmX ds) (st0 rs T st) n r) (hE : tricksE rs ds st gl tr = 0) (hT : onceT (allT rs ds) = T) {l : List (List UInt8)} (he : (walkE rs ds st gl tr l).err = 0) (hr : (walkE rs ds st gl tr l).room = gl) : r.is = true:=by
 have hR:=right_of (tricks_right hE)
 have e : walkE rs ds st gl tr l = ⟨0,gl,(walkE rs ds st gl tr l).th,(walkE rs ds st gl tr l).time⟩:=by
  conv => lhs; rw [show walkE rs ds st gl tr l = ⟨(walkE rs ds st gl tr l).err,(walkE rs ds st gl tr l).room,(walkE rs ds st gl tr l).th,(walkE rs ds st gl tr l).time⟩ from rfl]
  rw [he,hr]
 have e2 : walkS rs ds tr l st (onceT (givesOf rs st)) 0 = walkE rs ds st gl tr l:=by
  unfold walkE walkF
  rw [if_neg (by simp [hE])]
  by_cases c : 500 < l.length
  ·exfalso
   unfold walkE walkF at he
   rw [if_neg (by simp [hE]),if_pos c] at he
   cases he
  ·rw [if_neg c]
 rw [e] at e2
 obtain ⟨_,t,d,ks,hw,hle⟩:=walk_way hR hT l st (onceT (givesOf rs st)) _ 0 _ hR.st e2
 rw [← st0_once] at hw
 cases hx : r.is with
 | true => rfl
 | false => exact absurd hw ((h.no hx).2 _ _ _)
end
def FaQ (rs : List RoomE) (ds : List DoorE) (T tr : List (List UInt8)) (st gl : List UInt8) (K : List (List UInt8)) (t : Int) (is : Bool) : Prop :=
 ∃ r : PathR,PathOk (nxX rs T ds tr [] id) (goalX rs gl) (tmX ds) (st0 rs T st) (nS rs T) r ∧ K = r.ks.map (keyX ds) ∧ t = r.t ∧ is = r.is
theorem pathOk_len {nx : StE → List (Nat × StE)} {ef : StE → Bool} {tm : Nat → Int} {x : StE} {n : Nat} {r : PathR} (h : PathOk nx ef tm x n r) : r.ks.length ≤ n:=by
 cases hi : r.is with
 | false => rw [(h.no hi).1]; exact Nat.zero_le _
 | true => exact (h.yes hi).2.2.2
section
variable {rs : List RoomE} {ds : List DoorE} {T : List (List UInt8)} {tr tr' : List (List UInt8)} {st gl : List UInt8} {K K' l : List (List UInt8)} {t t' : Int} {is is' : Bool}
theorem FaQ.len (h : FaQ rs ds T tr st gl K t is) : K.length ≤ nS rs T:=by
 obtain ⟨r,h1,rfl,_,_⟩:=h
 rw [List.length_map]; exact pathOk_len h1
theorem FaQ.mono (h : FaQ rs ds T tr st gl K t is) (h' : FaQ rs ds T tr' st gl K' t' is') (hs : ∀ s ∈ tr,s ∈ tr') (hi : is = true) : is' = true ∧ t' ≤ t:=by
 obtain ⟨r,h1,_,rfl,rfl⟩:=h
 obtain ⟨r',h1',_,rfl,rfl⟩:=h'
 exact path_mono h1 h1' hs hi
theorem FaQ.walks (h : FaQ rs ds T tr st gl K t is) (hE : tricksE rs ds st gl tr = 0) (hT : onceT (allT rs ds) = T) (hn : nS rs T ≤ 500) (hi : is = true) : ∃ th,walkE rs ds st gl tr K = ⟨0,gl,th,t⟩:=by
 obtain ⟨r,h1,rfl,rfl,rfl⟩:=h
 exact path_walks h1 hE hT hn hi
theorem FaQ.slow (h : FaQ rs ds T tr st gl K t is) (hE : tricksE rs ds st gl tr = 0) (hT : onceT (allT rs ds) = T) (he : (walkE rs ds st gl tr l).err = 0) (hr : (walkE rs ds st gl tr l).room = gl) : is = true ∧ t ≤ (walkE rs ds st gl tr l).time:=by
 obtain ⟨r,h1,rfl,rfl,rfl⟩:=h
 have:=walk_is h1 hE hT he hr
 exact ⟨this,walk_slow h1 hE hT he hr this⟩
theorem FaQ.zero (h : FaQ rs ds T tr st gl K t is) (hi : is = false) : K = [] ∧ t = 0:=by
 obtain ⟨r,h1,rfl,rfl,rfl⟩:=h
 rw [(h1.no hi).1]; exact ⟨rfl,rfl⟩
theorem FaQ.least (h : FaQ rs ds T tr st gl K t is) : LeastT (nxX rs T ds tr [] id) (goalX rs gl) (tmX ds) (st0 rs T st) (if is then t else -1):=by
 obtain ⟨r,h1,rfl,rfl,rfl⟩:=h
 cases hi : r.is with
 | false => exact .inl ⟨rfl,(h1.no hi).2⟩
 | true =>
  obtain ⟨⟨d,hw⟩,h2,h3,_⟩:=h1.yes hi
  exact .inr ⟨h3,⟨d,_,hw⟩,h2⟩
end
theorem Fastest_ok (lo ca cd lo2 c2 : Nat) (A : Option Addr) (rs : List RoomE) (D : Option Addr) (ds : List DoorE) (st gl : List UInt8) (TR : Option Addr) (tr : List (List UInt8)) (w : World) (hA : MapW w lo A rs D ds) (hr : Row w lo2 1 TR tr.length (strs tr)) (hrl : tr.length ≤ 1000000000) (hE : tricksE rs ds st gl tr = 0) :
  Calls Tryz.prog 9 #[mapV A rs ca D ds cd st gl,.slice TR tr.length c2] w fun e w' => ∃ (K : List (List UInt8)) (t : Int) (is : Bool) (B : Option Addr) (c : Nat),e = .returned (.tuple #[.agg #[.slice B K.length c,.int .i64 t],.bool is,.int .i64 0]) ∧ FaQ rs ds (onceT (allT rs ds)) tr st gl K t is ∧ w'.ownsRow w.heap.size 9 1 (.slice B K.length c) K.length (strs K) ∧ Below w.heap.size w w':=by
 refine (Fastest_any lo ca cd lo2 c2 A rs D ds st gl TR tr w hA hr hrl).mono ?_
 rintro e w' ⟨r,B,c,_,hok,rfl,hown,hb⟩
 refine ⟨r.ks.map (keyX ds),r.t,r.is,B,c,by rw [hE,List.length_map],⟨r,hok hE,rfl,rfl,rfl⟩,by rw [List.length_map]; exact hown,hb⟩
theorem Blk.fourR {w : World} {b : Nat} {t : TypeId} {x0 x1 x2 x3 : Value} (h : Blk w b t #[x0,x1,x2,x3]) : w.cell? ⟨b,0,none⟩ = some x0 ∧ w.cell? ⟨b,1,none⟩ = some x1 ∧ w.cell? ⟨b,2,none⟩ = some x2 ∧ w.cell? ⟨b,3,none⟩ = some x3:=⟨h.cell 0,h.cell 1,h.cell 2,h.cell 3⟩
structure LrI (w W : World) (lo mb N : Nat) (A : Option Addr) (ca : Nat) (rs : List RoomE) (D : Option Addr) (cd : Nat) (ds : List DoorE) (st gl : List UInt8) (TR : Option Addr) (tr : List (List UInt8)) : Prop where
  m : MapW W lo A rs D ds
  t : Row W lo 1 TR tr.length (strs tr)
  b : Blk W mb 29 #[.slice A rs.length ca, .slice D ds.length cd, .string ⟨st.toArray⟩, .string ⟨gl.toArray⟩]
  s : Str W w.heap.size N
  x : Below w.heap.size w W
section
variable {w W W' : World} {lo mb N : Nat} {A : Option Addr} {ca : Nat} {rs : List RoomE} {D : Option Addr} {cd : Nat} {ds : List DoorE} {st gl : List UInt8} {TR : Option Addr} {tr : List (List UInt8)}
theorem LrI.below (h : LrI w W lo mb N A ca rs D cd ds st gl TR tr) (hb : Below W.heap.size W W') : LrI w W' lo mb N A ca rs D cd ds st gl TR tr :=
 ⟨h.m.below hb,h.t.below hb,h.b.below hb,h.s.keep hb,below_up h.x hb⟩
theorem LrI.alloc (h : LrI w W lo mb N A ca rs D cd ds st gl TR tr) (o : Obj) : LrI w (W.alloc o) lo mb N A ca rs D cd ds st gl TR tr:=h.below ((Below.refl _ _).alloc (Nat.le_refl _) o)
theorem LrI.drew (h : LrI w W lo mb N A ca rs D cd ds st gl TR tr) : LrI w W.drew lo mb N A ca rs D cd ds st gl TR tr:=h.below (below_drewN' (Below.refl _ _) 1)
theorem LrI.drewN (h : LrI w W lo mb N A ca rs D cd ds st gl TR tr) (k : Nat) : LrI w (W.drewN k) lo mb N A ca rs D cd ds st gl TR tr:=h.below (below_drewN' (Below.refl _ _) k)
theorem LrI.cells (h : LrI w W lo mb N A ca rs D cd ds st gl TR tr) : W.cell? ⟨mb,0,none⟩ = some (.slice A rs.length ca) ∧ W.cell? ⟨mb,1,none⟩ = some (.slice D ds.length cd) ∧ W.cell? ⟨mb,2,none⟩ = some (.string ⟨st.toArray⟩) ∧ W.cell? ⟨mb,3,none⟩ = some (.string ⟨gl.toArray⟩):=⟨h.b.cell 0,h.b.cell 1,h.b.cell 2,h.b.cell 3⟩
theorem LrI.grown {M : Nat} (h : LrI w W lo mb N A ca rs D cd ds st gl TR tr) (hg : W.grownBy W' (some w.heap.size)) (hs : Str W' w.heap.size M) (hl : w.heap.size < lo) (hm : w.heap.size < mb) : LrI w W' lo mb M A ca rs D cd ds st gl TR tr :=
 ⟨h.m.grown hg hl,h.t.grown hg hl,h.b.grown hg (by omega),hs,h.x.grown hg (by have:=h.x.size; omega) (fun k hk => by injection hk with hk; omega)⟩
end
end Go.Proofs.YthchgkdhegaehaaGreatDoor
/- The walks of less, Worths and Spare. -/
namespace Go.Proofs.YthchgkdhegaehaaGreatDoor
set_option linter.unusedVariables false
set_option linter.unusedSimpArgs false
open Go.RowKit Go.Sort Go.Shelf

theorem own_keepX {w w' : World} {base size n : Nat} {e : TypeId} {v : Value} {xs : List Value} {row : Option Nat} (h : w.ownsRow base e size v n xs) (hg : w.grownBy w' row) (hr : ∀ k j,row = some k → v.ownBlock = some j → j ≠ k) : w'.ownsRow base e size v n xs:=own_keepB h hg hr
theorem Row.grown_x {w w' : World} {lo size n : Nat} {A : Option Addr} {xs : List Value} {row : Option Nat} (h : Row w lo size A n xs) (hg : w.grownBy w' row) (hne : ∀ a j,A = some a → row = some j → a.block ≠ j) : Row w' lo size A n xs :=
 ⟨h.1,fun hn => by
  obtain ⟨b,off,e,h1,h2,h3⟩:=h.2 hn
  exact ⟨b,off,e,h1,Nat.lt_of_lt_of_le h2 hg.size,fun j u hu => (World.cell?_of_block (w:=w) (hg.block b h2 (fun e2 => hne _ _ e e2.symm rfl))).trans (h3 j u hu)⟩⟩
theorem one_encX : OneCell encStr:=fun _ => rfl
def lessL (l : List (List UInt8)) (s : List UInt8) : List (List UInt8):=l.filter fun x => !(x == s)
theorem lessL_len (l : List (List UInt8)) (s : List UInt8) : (lessL l s).length ≤ l.length:=List.length_filter_le _ _

theorem lsC_any_p (x s : List UInt8) (kb : Nat) (w : World) (h1 : w.cell? ⟨kb,0,none⟩ = some (.string ⟨s.toArray⟩)) :
  Calls Tryz.prog 89 #[encStr x,.pointer (some ⟨kb,0,none⟩)] w fun e w' => e = .returned (.bool (x == s)) ∧ ∃ q,w' = w.drewN q:=by
 have hz:=World.block_lt_of_cell? w _ h1
 obtain ⟨b,hb⟩ : ∃ b,b = (x == s):=⟨_,rfl⟩
 rw [← hb]
 have hb' : (x == s) = b:=hb.symm
 clear hb
 unfold encStr
 go_enter Tryz.func89,Tryz.ntmps89
 go_wp2_with fail
 go_ret
 exact ⟨rfl,0,rfl⟩
theorem lsD_any_p (A : Option Addr) (c base kb : Nat) (s : List UInt8) (zs : List (List UInt8)) (w : World) (ho : w.ownsRow base 9 1 (.slice A zs.length c) zs.length (strs zs)) (hl : zs.length ≤ 1000000000) (hk : w.cell? ⟨kb,0,none⟩ = some (.string ⟨s.toArray⟩)) (hkb : kb < base) :
  Calls Tryz.prog 88 #[.slice A zs.length c,.func (.func 89) #[] #[.pointer (some ⟨kb,0,none⟩)]] w fun e w' => e = .returned (.slice A (lessL zs s).length c) ∧ w'.ownsRow base 9 1 (.slice A (lessL zs s).length c) (lessL zs s).length (strs (lessL zs s)) ∧ w.grownBy w' (Value.slice A zs.length c).ownBlock:=by
 have eg : ∀ args w,(callFunc 89 args).run Tryz.prog w = .ok (.enter 89 args) w:=enters_of Tryz.func89 (by kernel_rfl) rfl
 have hz:=World.block_lt_of_cell? w _ hk
 simp only at hz
 unfold lessL
 rcases ho.2 with ⟨hv,h0⟩ | ⟨g,cap,cur,hv,hg,hh,hcap,hm,hcs,ht⟩
 ·have hz : zs = []:=List.eq_nil_of_length_eq_zero h0
  subst hz
  injection hv with e1 _ e2
  subst e1 e2
  have hix:=AnyE.slices_IndexFunc_empty Tryz.layIdx none 0 (.func (.func 89) #[] #[.pointer (some ⟨kb,0,none⟩)]) w
  change Calls Tryz.prog 124 _ _ _ at hix
  simp only [List.length_nil,List.filter_nil]
  have HO:=Lib.hid ho
  clear ho hk
  go_enter Tryz.func88,Tryz.ntmps88
  go_wp2_with fail
  refine hix.mono ?_
  rintro e w1 ⟨rfl,rfl⟩
  clear hix
  go_wp2_with fail
  go_ret
  exact ⟨rfl,HO.out,World.grownBy.refl _ _⟩
 ·injection hv with e1 _ e2
  subst e1 e2
  rw [Nat.mul_one] at ht
  have hp : PredAt Tryz.prog 89 #[.pointer (some ⟨kb,0,none⟩)] encStr (fun x => x == s) w:=fun W x hW =>
   lsC_any_p x s kb W ((hW.cell (p:=⟨kb,0,none⟩) hz).trans hk)
  have hpo : PredOver Tryz.prog 89 #[.pointer (some ⟨kb,0,none⟩)] encStr (fun x => x == s) g 0 zs.toArray.size w:=fun n os dk x _ => by
   have hgb : w.grownBy (sortWorld encStr w g 0 n dk os) (some g):=grownBy_sorted dk
   exact lsC_any_p x s kb _ (hgb.cell hk (fun e => by injection e with e; simp at e; omega))
  have:=AnyE.slices_DeleteFunc Tryz.layDel encStr one_encX (fun x => x == s) 89 #[.pointer (some ⟨kb,0,none⟩)] eg [] (fun w => Tryz.zeroValue9 w) g 0 c zs.toArray w hp hpo (holds_of_block hh ht) (by simp; omega) (by simpa using hcap)
  rw [show zs.toArray.size = zs.length by simp,show zs.toArray.toList = zs by simp] at this
  refine this.mono ?_
  rintro e w' ⟨rfl,q,rfl⟩
  have hle : (zs.filter fun x => !(x == s)).length ≤ zs.length:=List.length_filter_le _ _
  rw [← grow_nil (putRow _ _ _ _ _)]
  refine ⟨rfl,⟨by simp [strs],.inr ⟨g,c,_,rfl,hg,heap_sorted _ hh,by omega,hm,by simp [putCells,hcs],?_⟩⟩,grownBy_sorted _⟩
  rw [Nat.mul_one]
  exact take_pad _ _ _ (by omega)
set_option maxHeartbeats 1000000 in
theorem less_any_p (A : Option Addr) (c lo : Nat) (l : List (List UInt8)) (s : List UInt8) (w : World) (hr : Row w lo 1 A l.length (strs l)) (hl : l.length ≤ 1000000000) :
  Calls Tryz.prog 39 #[.slice A l.length c,.string ⟨s.toArray⟩] w fun e w' => ∃ B d,e = .returned (.slice B (lessL l s).length d) ∧ w'.ownsRow w.heap.size 9 1 (.slice B (lessL l s).length d) (lessL l s).length (strs (lessL l s)) ∧ Below w.heap.size w w':=by
 go_enter Tryz.func39,Tryz.ntmps39
 go_wp2_with fail
 have hx : Blk (w.alloc (.cells #[.string ⟨s.toArray⟩] 9)) w.heap.size 9 #[.string ⟨s.toArray⟩]:=Blk.new _ _ _
 have hb0 : Below w.heap.size w (w.alloc (.cells #[.string ⟨s.toArray⟩] 9)):=(Below.refl _ _).alloc (Nat.le_refl _) _
 have hr:=hr.alloc (.cells #[.string ⟨s.toArray⟩] 9)
 have hz0 : (w.alloc (.cells #[.string ⟨s.toArray⟩] 9)).heap.size = w.heap.size + 1:=by simp
 generalize w.alloc (.cells #[.string ⟨s.toArray⟩] 9) = w1 at *
 refine (cloneS_any A c lo l _ hr hl).mono ?_
 rintro e w2 ⟨B,d,rfl,ho,hb1⟩
 have hx:=hx.below hb1
 have hb:=below_up hb0 hb1
 clear hr hb1 hb0
 go_wp2_with fail
 refine (lsD_any_p B d w1.heap.size w.heap.size s l w2 ho hl (hx.cell 0) (by omega)).mono ?_
 rintro e w3 ⟨rfl,ho3,hg3⟩
 have hb3:=hb.grown hg3 hb.size (fun k hk => Nat.le_trans (by omega) (own_base ho k hk))
 have HO3:=Lib.hid (own_down9 ho3 (show w.heap.size ≤ w1.heap.size by omega))
 clear ho ho3 hg3
 go_wp2_with fail
 go_ret
 exact ⟨B,d,rfl,HO3.out,hb3⟩

def worthV (f : List (List UInt8) → Int) (tr : List (List UInt8)) (s : List UInt8) : Int × Bool :=
 if f tr < 0 then (0,false) else if f (lessL tr s) < 0 then (0,true) else (f (lessL tr s) - f tr,false)
def encWo (f : List (List UInt8) → Int) (tr : List (List UInt8)) (s : List UInt8) : List Value:=[.string ⟨s.toArray⟩,.int .i64 (worthV f tr s).1,.bool (worthV f tr s).2]
def spareS (f : List (List UInt8) → Int) (all : Int) (st : List (List UInt8) × List (List UInt8)) (s : List UInt8) : List (List UInt8) × List (List UInt8) :=
 if f (lessL st.2 s) = all then (st.1 ++ [s],lessL st.2 s) else st
def spareF (f : List (List UInt8) → Int) (tr : List (List UInt8)) : List (List UInt8) × List (List UInt8):=tr.foldl (spareS f (f tr)) ([],tr)
noncomputable def timeT (rs : List RoomE) (ds : List DoorE) (st gl : List UInt8) (l : List (List UInt8)) : Int:=timeF rs ds (onceT (allT rs ds)) l [] st gl
theorem ty_woL : SliceTy Tryz.prog 38 46 3 32:=.mk' Tryz.underlying38 (z:=.agg #[.string ⟨#[]⟩,.int .i64 0,.bool false]) (by kernel_rfl) rfl (by decide)
def WoPost (w : World) (rs : List RoomE) (ds : List DoorE) (st gl : List UInt8) (tr : List (List UInt8)) (err : Int) (e : Ending) (w' : World) : Prop :=
 ∃ (n : Nat) (A : Option Addr) (c : Nat),e = .returned (.tuple #[.slice A n c,.int .i64 err]) ∧ (err ≠ 0 → n = 0) ∧ (err = 0 → n = tr.length ∧ w'.ownsRow w.heap.size 46 3 (.slice A n c) n (tr.flatMap (encWo (timeT rs ds st gl) tr))) ∧ Below w.heap.size w w'
def SpPost (w : World) (rs : List RoomE) (ds : List DoorE) (st gl : List UInt8) (tr : List (List UInt8)) (err : Int) (e : Ending) (w' : World) : Prop :=
 ∃ (l : List (List UInt8)) (A : Option Addr) (c : Nat),e = .returned (.tuple #[.slice A l.length c,.int .i64 err]) ∧ (err ≠ 0 → l = []) ∧ (err = 0 → l = if timeT rs ds st gl tr < 0 then [] else (spareF (timeT rs ds st gl) tr).1) ∧ w'.ownsRow w.heap.size 9 1 (.slice A l.length c) l.length (strs l) ∧ Below w.heap.size w w'

set_option maxHeartbeats 8000000 in
set_option maxRecDepth 100000 in
theorem worths_any (lo ca cd lo2 c2 : Nat) (A : Option Addr) (rs : List RoomE) (D : Option Addr) (ds : List DoorE) (st gl : List UInt8) (TR : Option Addr) (tr : List (List UInt8)) (w : World) (hA : MapW w lo A rs D ds) (hr : Row w lo2 1 TR tr.length (strs tr)) (hrl : tr.length ≤ 1000000) :
  Calls Tryz.prog 10 #[mapV A rs ca D ds cd st gl,.slice TR tr.length c2] w (WoPost w rs ds st gl tr (tricksE rs ds st gl tr)):=by
 have hC : McC w (w.alloc (.cells #[.slice A rs.length ca,.slice D ds.length cd,.string ⟨st.toArray⟩,.string ⟨gl.toArray⟩] 29)) w.heap.size lo A rs ca D ds cd st gl:=⟨hA.alloc _,Blk.new _ _ _,(by repeat (first | exact Below.refl _ _ | refine Below.alloc ?_ (by first | omega | (simp; omega) | simp) _ | refine below_drewN' ?_ _ | refine Below.drew ?_))⟩
 have HRR:=Lib.hid hr
 obtain ⟨err,herr⟩ : ∃ err,err = tricksE rs ds st gl tr:=⟨_,rfl⟩
 rw [← herr]
 have HER:=Lib.hid herr
 clear hA hr herr
 unfold mapV
 simp only [encStr]
 go_enter Tryz.func10,Tryz.ntmps10
 go_wp2_with fail
 generalize w.alloc (.cells #[.slice A rs.length ca,.slice D ds.length cd,.string ⟨st.toArray⟩,.string ⟨gl.toArray⟩] 29) = W1 at *
 have hct:=checkTricks_any lo ca cd A rs D ds st gl lo2 c2 TR tr W1 hC.m (HRR.out.below hC.b) (by omega)
 unfold mapV at hct
 simp only [encStr] at hct
 rw [← HER.out] at hct
 refine hct.mono ?_
 rintro e w2 ⟨rfl,hb⟩
 have hC:=hC.below hb
 clear hct hb
 by_cases h0 : err = 0
 ·subst h0
  have HR : Hid (Right rs ds st gl):=Lib.hid (right_of (tricks_right HER.out.symm))
  have HTM : Hid (∀ (W : World) (B : Option Addr) (lo3 c3 : Nat) (l : List (List UInt8)),Below w2.heap.size w2 W → Row W lo3 1 B l.length (strs l) → l.length ≤ 1000000 → Calls Tryz.prog 38 #[.pointer (some ⟨w.heap.size,0,none⟩),.slice B l.length c3,.string ⟨#[]⟩] W fun e w' => e = .returned (.int .i64 (timeT rs ds st gl l)) ∧ (-1 ≤ timeT rs ds st gl l ∧ timeT rs ds st gl l ≤ 530841600000000) ∧ Below W.heap.size W w'):=Lib.hid (fun W B lo3 c3 l hb hr hl => (time_any w.heap.size lo ca cd lo3 c3 A rs D ds st gl _ B l [] W (hC.below hb).m (hC.below hb).bl HR.out rfl hr (by omega)).mono fun _ _ h => ⟨h.1,h.2.2⟩)
  have hb2:=hC.b
  have HTR : Hid (∀ W,Below w2.heap.size w2 W → Row W lo2 1 TR tr.length (strs tr)):=Lib.hid (fun W hb => HRR.out.below (below_up hb2 hb))
  have hwz:=hb2.size
  obtain ⟨f,hf⟩ : ∃ f,f = timeT rs ds st gl:=⟨_,rfl⟩
  rw [← hf] at HTM
  have HF:=Lib.hid hf
  have HC:=Lib.hid hC
  clear hf hC
  go_wp2_with fail
  refine (HTM.out w2 TR lo2 c2 tr (Below.refl _ _) (HTR.out _ (Below.refl _ _)) hrl).mono ?_
  rintro e w3 ⟨rfl,⟨hfl,hfu⟩,hb⟩
  have hb3 : Below w2.heap.size w2 w3:=hb
  clear hb
  obtain ⟨all,hall⟩ : ∃ all,all = f tr:=⟨_,rfl⟩
  rw [← hall] at hfl hfu ⊢
  have HAL:=Lib.hid hall
  clear hall
  go_wp2_with fail
  go_loopw [8,23] (fun v u wr => ∃ (i : Nat) (PA : Option Addr) (pc : Nat),i ≤ tr.length ∧ v = .slice PA i pc ∧ u = .int .i64 i ∧ wr.ownsRow w3.heap.size 46 3 (.slice PA i pc) i ((tr.take i).flatMap (encWo f tr)) ∧ Below w3.heap.size w3 wr) (fun _ u _ => tr.length - (intOf u).toNat)
  case atStart => exact ⟨0,none,0,Nat.zero_le _,rfl,rfl,World.ownsRow_nil _ _ _ _,Below.refl _ _⟩
  case round =>
   obtain ⟨i,PA0,pc0,hi,rfl,rfl,hown,hbl⟩:=hrel
   have hb32 : Below w2.heap.size w2 wr:=below_up hb3 hbl
   by_cases hlt : i < tr.length
   ·obtain ⟨tb,toff,rfl,htb,hts⟩:=strs_at (HTR.out _ hb32) hlt
    have t0:=hts i hlt
    have HTK : Hid ((tr.take (i + 1)).flatMap (encWo f tr) = (tr.take i).flatMap (encWo f tr) ++ encWo f tr tr[i]):=Lib.hid (by rw [List.take_add_one,List.getElem?_eq_getElem hlt,List.flatMap_append]; simp)
    simp only [encStr] at t0
    generalize tr[i] = s at *
    have hlb1 : (i + 1) * 32 ≤ 140737488355328:=by omega
    have hlb2 : i + 1 ≤ 9223372036854775807:=by omega
    clear hts
    by_cases ha : all < 0
    ·have d1 : decide (0 ≤ all) = false:=decide_eq_false (by omega)
     have HV : Hid (encWo f tr s = [.string ⟨s.toArray⟩,.int .i64 0,.bool false]):=Lib.hid (by unfold encWo worthV; rw [← HAL.out,if_pos ha])
     go_upto_region 15 with (fail)
     clear t0 htb
     have hown:=hown.alloc (.cells #[.string ⟨s.toArray⟩,.int .i64 0,.bool false] 46)
     have hbl:=hbl.alloc hbl.size (.cells #[.string ⟨s.toArray⟩,.int .i64 0,.bool false] 46)
     have hbx : Blk (wr.alloc (.cells #[.string ⟨s.toArray⟩,.int .i64 0,.bool false] 46)) wr.heap.size 46 #[.string ⟨s.toArray⟩,.int .i64 0,.bool false]:=Blk.new _ _ _
     generalize wr.alloc (.cells #[.string ⟨s.toArray⟩,.int .i64 0,.bool false] 46) = w7 at *
     generalize wr.heap.size = xb at *
     have hsz:=hbl.size
     obtain ⟨x0,x1,x2⟩:=hbx.w3
     have zx:=hbx.lt
     go_wp2_with (at_builtin; go_must (refine wpList_app (lo:=w3.heap.size) (base:=w3.heap.size) (n:=i) (xs:=(tr.take i).flatMap (encWo f tr)) _ _ rfl _ _ ty_woL rfl (by repeat (first | exact hown | refine World.ownsRow.alloc ?_ _ | refine own_drewN ?_ _ | refine World.ownsRow.drew ?_)) rfl (by first | exact row_new' _ (by first | rfl | simp) (by first | omega | (simp; omega)) rfl | exact row_newN _ _ (by first | rfl | simp) (by first | omega | (simp; omega)) rfl | exact row_newD _ (by first | rfl | simp) (by first | omega | (simp; omega)) rfl) rfl rfl (by first | omega | decide) (by first | omega | decide) (by first | omega | (simp; omega)) ?_))
     intro A5 c5 w8 hown8 hg8 _
     have hbl8 : Below w3.heap.size w3 w8:=Below.grown (by repeat (first | exact hbl | refine Below.alloc ?_ (by first | omega | (simp; omega)) _)) hg8 (by first | omega | (simp; omega)) (own_base (by repeat (first | exact hown | refine World.ownsRow.alloc ?_ _)))
     have HO8 : Hid (w8.ownsRow w3.heap.size 46 3 (.slice A5 (i + 1) c5) (i + 1) ((tr.take (i + 1)).flatMap (encWo f tr))):=Lib.hid (by rw [HTK.out,HV.out]; exact hown8)
     clear hown8 hg8
     go_wp2_with fail
     go_roundw
     case rel => exact ⟨i + 1,A5,c5,by omega,rfl,by go_num,HO8.out,hbl8⟩
     case measure => simp [intOf]; omega
    ·have d1 : decide (0 ≤ all) = true:=decide_eq_true (by omega)
     go_wp2_with fail
     clear t0 htb
     have hbx : Blk (wr.alloc (.cells #[.string ⟨s.toArray⟩,.int .i64 0,.bool false] 46)) wr.heap.size 46 #[.string ⟨s.toArray⟩,.int .i64 0,.bool false]:=Blk.new _ _ _
     have hown0:=hown
     have hbz:=hbl
     have hbl:=hbl.alloc hbl.size (.cells #[.string ⟨s.toArray⟩,.int .i64 0,.bool false] 46)
     have hown:=hown.alloc (.cells #[.string ⟨s.toArray⟩,.int .i64 0,.bool false] 46)
     have HXO : Hid (∀ j,(Value.slice PA0 i pc0).ownBlock = some j → j ≠ wr.heap.size):=Lib.hid (fun j hj e => by subst e; exact absurd (hown0.lt _ hj).2 (Nat.lt_irrefl _))
     have hxz : w3.heap.size ≤ wr.heap.size:=hbz.size
     clear hown0 hbz
     generalize wr.alloc (.cells #[.string ⟨s.toArray⟩,.int .i64 0,.bool false] 46) = w4 at *
     generalize wr.heap.size = xb at *
     refine (less_any_p _ c2 lo2 tr s w4 (HTR.out _ (below_up hb3 hbl)) (by omega)).mono ?_
     rintro e w5 ⟨B,d,rfl,hlo,hb⟩
     have hbl:=below_up hbl hb
     have hown:=own_keep hown hb
     have hbx:=hbx.below hb
     have hlr:=Row.of_own hlo
     have hll:=lessL_len tr s
     clear hb hlo
     go_wp2_with fail
     refine (HTM.out w5 B _ d (lessL tr s) (below_up hb3 hbl) hlr (by omega)).mono ?_
     rintro e w6 ⟨rfl,⟨hnl,hnu⟩,hb⟩
     have hbl:=below_up hbl hb
     have hown:=own_keep hown hb
     have hbx:=hbx.below hb
     clear hb hlr
     obtain ⟨nn,hnn⟩ : ∃ nn,nn = f (lessL tr s):=⟨_,rfl⟩
     rw [← hnn] at hnl hnu ⊢
     have HNN:=Lib.hid hnn
     clear hnn hll
     obtain ⟨x0,x1,x2⟩:=hbx.w3
     have fx1:=hbx.thaw 1
     have fx2:=hbx.thaw 2
     have zx:=hbx.lt
     by_cases hn : nn < 0
     ·have d2 : decide (nn < 0) = true:=decide_eq_true hn
      have HV : Hid (encWo f tr s = [.string ⟨s.toArray⟩,.int .i64 0,.bool true]):=Lib.hid (by unfold encWo worthV; rw [← HAL.out,← HNN.out,if_neg (by omega),if_pos hn])
      go_upto_region 15 with (fail)
      clear x0 x1 x2 fx1 fx2 zx
      have hown:=own_keepX hown (grown_poke w6 xb 2 (.bool true)) (fun k j hk hj => by injection hk with hk; subst hk; exact HXO.out j hj)
      have hbl:=Below.setCell hbl (show w3.heap.size ≤ (⟨xb,2,none⟩ : Addr).block from hxz) (.bool true)
      have hbx : Blk (w6.setCell ⟨xb,2,none⟩ (.bool true)) xb 46 #[.string ⟨s.toArray⟩,.int .i64 0,.bool true]:=by simpa using hbx.poke 2 (.bool true)
      have HBL:=Lib.hid hbl
      clear hbl
      generalize w6.setCell ⟨xb,2,none⟩ (.bool true) = w7 at *
      have hbl:=HBL.out
      have hsz:=hbl.size
      obtain ⟨x0,x1,x2⟩:=hbx.w3
      have zx:=hbx.lt
      go_wp2_with (at_builtin; go_must (refine wpList_app (lo:=w3.heap.size) (base:=w3.heap.size) (n:=i) (xs:=(tr.take i).flatMap (encWo f tr)) _ _ rfl _ _ ty_woL rfl (by repeat (first | exact hown | refine World.ownsRow.alloc ?_ _ | refine own_drewN ?_ _ | refine World.ownsRow.drew ?_)) rfl (by first | exact row_new' _ (by first | rfl | simp) (by first | omega | (simp; omega)) rfl | exact row_newN _ _ (by first | rfl | simp) (by first | omega | (simp; omega)) rfl | exact row_newD _ (by first | rfl | simp) (by first | omega | (simp; omega)) rfl) rfl rfl (by first | omega | decide) (by first | omega | decide) (by first | omega | (simp; omega)) ?_))
      intro A5 c5 w8 hown8 hg8 _
      have hbl8 : Below w3.heap.size w3 w8:=Below.grown (by repeat (first | exact hbl | refine Below.alloc ?_ (by first | omega | (simp; omega)) _)) hg8 (by first | omega | (simp; omega)) (own_base (by repeat (first | exact hown | refine World.ownsRow.alloc ?_ _)))
      have HO8 : Hid (w8.ownsRow w3.heap.size 46 3 (.slice A5 (i + 1) c5) (i + 1) ((tr.take (i + 1)).flatMap (encWo f tr))):=Lib.hid (by rw [HTK.out,HV.out]; exact hown8)
      clear hown8 hg8
      go_wp2_with fail
      go_roundw
      case rel => exact ⟨i + 1,A5,c5,by omega,rfl,by go_num,HO8.out,hbl8⟩
      case measure => simp [intOf]; omega
     ·have d2 : decide (nn < 0) = false:=decide_eq_false hn
      have ws : IntKind.i64.wrap (nn - all) = nn - all:=IntWalk.i64_in _ ⟨by omega,by omega⟩
      have HV : Hid (encWo f tr s = [.string ⟨s.toArray⟩,.int .i64 (nn - all),.bool false]):=Lib.hid (by unfold encWo worthV; rw [← HAL.out,← HNN.out,if_neg (by omega),if_neg hn])
      go_upto_region 15 with (fail)
      clear x0 x1 x2 fx1 fx2 zx
      have hown:=own_keepX (own_keepX hown (grown_poke w6 xb 2 (.bool false)) (fun k j hk hj => by injection hk with hk; subst hk; exact HXO.out j hj)) (grown_poke _ xb 1 (.int .i64 (nn - all))) (fun k j hk hj => by injection hk with hk; subst hk; exact HXO.out j hj)
      have hbl:=Below.setCell (Below.setCell hbl (show w3.heap.size ≤ (⟨xb,2,none⟩ : Addr).block from hxz) (.bool false)) (show w3.heap.size ≤ (⟨xb,1,none⟩ : Addr).block from hxz) (.int .i64 (nn - all))
      have hbx : Blk ((w6.setCell ⟨xb,2,none⟩ (.bool false)).setCell ⟨xb,1,none⟩ (.int .i64 (nn - all))) xb 46 #[.string ⟨s.toArray⟩,.int .i64 (nn - all),.bool false]:=by simpa using (hbx.poke 2 (.bool false)).poke 1 (.int .i64 (nn - all))
      have HBL:=Lib.hid hbl
      clear hbl
      generalize (w6.setCell ⟨xb,2,none⟩ (.bool false)).setCell ⟨xb,1,none⟩ (.int .i64 (nn - all)) = w7 at *
      have hbl:=HBL.out
      have hsz:=hbl.size
      obtain ⟨x0,x1,x2⟩:=hbx.w3
      have zx:=hbx.lt
      go_wp2_with (at_builtin; go_must (refine wpList_app (lo:=w3.heap.size) (base:=w3.heap.size) (n:=i) (xs:=(tr.take i).flatMap (encWo f tr)) _ _ rfl _ _ ty_woL rfl (by repeat (first | exact hown | refine World.ownsRow.alloc ?_ _ | refine own_drewN ?_ _ | refine World.ownsRow.drew ?_)) rfl (by first | exact row_new' _ (by first | rfl | simp) (by first | omega | (simp; omega)) rfl | exact row_newN _ _ (by first | rfl | simp) (by first | omega | (simp; omega)) rfl | exact row_newD _ (by first | rfl | simp) (by first | omega | (simp; omega)) rfl) rfl rfl (by first | omega | decide) (by first | omega | decide) (by first | omega | (simp; omega)) ?_))
      intro A5 c5 w8 hown8 hg8 _
      have hbl8 : Below w3.heap.size w3 w8:=Below.grown (by repeat (first | exact hbl | refine Below.alloc ?_ (by first | omega | (simp; omega)) _)) hg8 (by first | omega | (simp; omega)) (own_base (by repeat (first | exact hown | refine World.ownsRow.alloc ?_ _)))
      have HO8 : Hid (w8.ownsRow w3.heap.size 46 3 (.slice A5 (i + 1) c5) (i + 1) ((tr.take (i + 1)).flatMap (encWo f tr))):=Lib.hid (by rw [HTK.out,HV.out]; exact hown8)
      clear hown8 hg8
      go_wp2_with fail
      go_roundw
      case rel => exact ⟨i + 1,A5,c5,by omega,rfl,by go_num,HO8.out,hbl8⟩
      case measure => simp [intOf]; omega
   ·have hie : i = tr.length:=by omega
    subst hie
    have HO : Hid (wr.ownsRow w3.heap.size 46 3 (.slice PA0 tr.length pc0) tr.length (tr.flatMap (encWo f tr))):=Lib.hid (by have:=hown; rwa [List.take_length] at this)
    clear hown
    go_wp2_with fail
    go_ret2
    exact ⟨tr.length,PA0,pc0,rfl,fun h => absurd rfl h,fun _ => ⟨rfl,by rw [← HF.out]; exact own_down9 HO.out (Nat.le_trans hwz hb3.size)⟩,below_up HC.out.b hb32⟩
 ·have d0 : (err != 0) = true:=bne_iff_ne.2 h0
  go_wp2_with fail
  go_ret2
  exact ⟨0,none,0,rfl,fun _ => rfl,fun h => absurd h h0,hC.b⟩

set_option maxHeartbeats 8000000 in
set_option maxRecDepth 100000 in
theorem spare_any (lo ca cd lo2 c2 : Nat) (A : Option Addr) (rs : List RoomE) (D : Option Addr) (ds : List DoorE) (st gl : List UInt8) (TR : Option Addr) (tr : List (List UInt8)) (w : World) (hA : MapW w lo A rs D ds) (hr : Row w lo2 1 TR tr.length (strs tr)) (hrl : tr.length ≤ 1000000) :
  Calls Tryz.prog 11 #[mapV A rs ca D ds cd st gl,.slice TR tr.length c2] w (SpPost w rs ds st gl tr (tricksE rs ds st gl tr)):=by
 have hC : McC w (w.alloc (.cells #[.slice A rs.length ca,.slice D ds.length cd,.string ⟨st.toArray⟩,.string ⟨gl.toArray⟩] 29)) w.heap.size lo A rs ca D ds cd st gl:=⟨hA.alloc _,Blk.new _ _ _,(by repeat (first | exact Below.refl _ _ | refine Below.alloc ?_ (by first | omega | (simp; omega) | simp) _ | refine below_drewN' ?_ _ | refine Below.drew ?_))⟩
 have HRR:=Lib.hid hr
 obtain ⟨err,herr⟩ : ∃ err,err = tricksE rs ds st gl tr:=⟨_,rfl⟩
 rw [← herr]
 have HER:=Lib.hid herr
 clear hA hr herr
 unfold mapV
 simp only [encStr]
 go_enter Tryz.func11,Tryz.ntmps11
 go_wp2_with fail
 generalize w.alloc (.cells #[.slice A rs.length ca,.slice D ds.length cd,.string ⟨st.toArray⟩,.string ⟨gl.toArray⟩] 29) = W1 at *
 have hct:=checkTricks_any lo ca cd A rs D ds st gl lo2 c2 TR tr W1 hC.m (HRR.out.below hC.b) (by omega)
 unfold mapV at hct
 simp only [encStr] at hct
 rw [← HER.out] at hct
 refine hct.mono ?_
 rintro e w2 ⟨rfl,hb⟩
 have hC:=hC.below hb
 clear hct hb
 by_cases h0 : err = 0
 ·subst h0
  have HR : Hid (Right rs ds st gl):=Lib.hid (right_of (tricks_right HER.out.symm))
  have HTM : Hid (∀ (W : World) (B : Option Addr) (lo3 c3 : Nat) (l : List (List UInt8)),Below w2.heap.size w2 W → Row W lo3 1 B l.length (strs l) → l.length ≤ 1000000 → Calls Tryz.prog 38 #[.pointer (some ⟨w.heap.size,0,none⟩),.slice B l.length c3,.string ⟨#[]⟩] W fun e w' => e = .returned (.int .i64 (timeT rs ds st gl l)) ∧ (-1 ≤ timeT rs ds st gl l ∧ timeT rs ds st gl l ≤ 530841600000000) ∧ Below W.heap.size W w'):=Lib.hid (fun W B lo3 c3 l hb hr hl => (time_any w.heap.size lo ca cd lo3 c3 A rs D ds st gl _ B l [] W (hC.below hb).m (hC.below hb).bl HR.out rfl hr (by omega)).mono fun _ _ h => ⟨h.1,h.2.2⟩)
  have hb2:=hC.b
  have HTR : Hid (∀ W,Below w2.heap.size w2 W → Row W lo2 1 TR tr.length (strs tr)):=Lib.hid (fun W hb => HRR.out.below (below_up hb2 hb))
  have hwz:=hb2.size
  obtain ⟨f,hf⟩ : ∃ f,f = timeT rs ds st gl:=⟨_,rfl⟩
  rw [← hf] at HTM
  have HF:=Lib.hid hf
  have HC:=Lib.hid hC
  clear hf hC
  go_wp2_with fail
  refine (HTM.out w2 TR lo2 c2 tr (Below.refl _ _) (HTR.out _ (Below.refl _ _)) hrl).mono ?_
  rintro e w3 ⟨rfl,⟨hfl,hfu⟩,hb⟩
  have hb3 : Below w2.heap.size w2 w3:=hb
  clear hb
  obtain ⟨all,hall⟩ : ∃ all,all = f tr:=⟨_,rfl⟩
  rw [← hall] at hfl hfu ⊢
  have HAL:=Lib.hid hall
  clear hall
  by_cases ha : all < 0
  ·have d1 : decide (all < 0) = true:=decide_eq_true ha
   have hal:=HAL.out
   go_wp2_with fail
   go_ret2
   exact ⟨[],none,0,rfl,fun h => absurd rfl h,fun _ => by rw [if_pos]; rw [← HF.out,← hal]; exact ha,World.ownsRow_nil _ _ _ _,below_up HC.out.b hb3⟩
  ·have d1 : decide (all < 0) = false:=decide_eq_false ha
   have HNA : Hid (∀ x,x = all → ¬ x < 0):=Lib.hid (fun x hx => by rw [hx]; exact ha)
   clear ha
   go_wp2_with fail
   go_loopw [8,9,26] (fun v x u wr => ∃ (i m k : Nat) (out left : List (List UInt8)) (PA : Option Addr) (pc : Nat) (LA : Option Addr) (lc : Nat),i ≤ tr.length ∧ v = .slice PA m pc ∧ x = .slice LA k lc ∧ u = .int .i64 i ∧ wr.ownsRow w3.heap.size 9 1 (.slice PA m pc) m (strs out) ∧ Row wr 0 1 LA k (strs left) ∧ Below w3.heap.size w3 wr ∧ m ≤ i ∧ k ≤ tr.length ∧ Hid (out.length = m ∧ left.length = k ∧ (tr.take i).foldl (spareS f all) ([],tr) = (out,left))) (fun _ _ u _ => tr.length - (intOf u).toNat)
   case atStart => exact ⟨0,0,tr.length,[],tr,none,0,TR,c2,Nat.zero_le _,rfl,rfl,rfl,World.ownsRow_nil _ _ _ _,row_down0 (HTR.out _ hb3),Below.refl _ _,Nat.le_refl _,Nat.le_refl _,Lib.hid ⟨rfl,rfl,rfl⟩⟩
   case round =>
    obtain ⟨i,m,k,out,left,PA0,pc0,LA,lc,hi,rfl,rfl,rfl,hown,hleft,hbl,hmi,hkt,HS⟩:=hrel
    have hb32 : Below w2.heap.size w2 wr:=below_up hb3 hbl
    by_cases hlt : i < tr.length
    ·obtain ⟨tb,toff,rfl,htb,hts⟩:=strs_at (HTR.out _ hb32) hlt
     have t0:=hts i hlt
     have HTK : Hid ((tr.take (i + 1)).foldl (spareS f all) ([],tr) = spareS f all (out,left) tr[i]):=Lib.hid (by rw [List.take_add_one,List.getElem?_eq_getElem hlt,List.foldl_append,HS.out.2.2]; rfl)
     simp only [encStr] at t0
     generalize tr[i] = s at *
     have hlb1 : (m + 1) * 16 ≤ 140737488355328:=by omega
     have hlb2 : m + 1 ≤ 9223372036854775807:=by omega
     clear hts
     go_wp2_with fail
     clear t0 htb
     obtain ⟨hm1,hk1,-⟩:=HS.out
     have hls:=less_any_p LA lc 0 left s wr (by rw [hk1]; exact hleft) (by rw [hk1]; omega)
     rw [hk1] at hls
     refine hls.mono ?_
     rintro e w5 ⟨B,d,rfl,hlo,hb⟩
     have hbl5:=below_up hbl hb
     have hown0:=hown
     have hown:=own_keep hown hb
     have hleft5:=hleft.below hb
     have hlr:=row_down0 (Row.of_own hlo)
     have HLX : Hid (∀ a j,B = some a → (Value.slice PA0 m pc0).ownBlock = some j → a.block ≠ j):=Lib.hid (fun a j ha hj => by
      have h1:=(hown0.lt _ hj).2
      have h2:=(hlo.lt a.block (by rw [obk_is,ha]; rfl)).1
      omega)
     have hll:=lessL_len left s
     rw [hk1] at hll
     clear hb hlo hls hleft hown0
     go_wp2_with fail
     refine (HTM.out w5 B _ d (lessL left s) (below_up hb3 hbl5) hlr (by omega)).mono ?_
     rintro e w6 ⟨rfl,-,hb⟩
     have hbl6:=below_up hbl5 hb
     have hown:=own_keep hown hb
     have hleft6:=hleft5.below hb
     have hlr6:=hlr.below hb
     have hsz:=hbl6.size
     clear hb hlr hbl hbl5 hleft5
     obtain ⟨nn,hnn⟩ : ∃ nn,nn = f (lessL left s):=⟨_,rfl⟩
     rw [← hnn]
     have HNN:=Lib.hid hnn
     clear hnn
     obtain ⟨lk,hlk⟩ : ∃ lk,lk = (lessL left s).length:=⟨_,rfl⟩
     rw [← hlk] at hll hlr6 ⊢
     have HLK:=Lib.hid hlk
     clear hlk hm1 hk1
     by_cases hn : nn = all
     ·have d2 : (nn == all) = true:=beq_iff_eq.2 hn
      have HV : Hid (spareS f all (out,left) s = (out ++ [s],lessL left s)):=Lib.hid (by unfold spareS; simp only; rw [← HNN.out,if_pos hn])
      clear hn
      go_wp2_with (at_builtin; go_must (refine wpList_app (lo:=w3.heap.size) (base:=w3.heap.size) (n:=m) (xs:=strs out) _ _ rfl _ _ ty_strsL rfl (by repeat (first | exact hown | refine World.ownsRow.alloc ?_ _ | refine own_drewN ?_ _ | refine World.ownsRow.drew ?_)) rfl (by first | exact row_new' _ (by first | rfl | simp) (by first | omega | (simp; omega)) rfl | exact row_newN _ _ (by first | rfl | simp) (by first | omega | (simp; omega)) rfl | exact row_newD _ (by first | rfl | simp) (by first | omega | (simp; omega)) rfl) rfl rfl (by first | omega | decide) (by first | omega | decide) (by first | omega | (simp; omega)) ?_))
      intro A5 c5 w8 hown8 hg8 _
      have hbl8 : Below w3.heap.size w3 w8:=Below.grown (by repeat (first | exact hbl6 | refine Below.alloc ?_ (by first | omega | (simp; omega)) _)) hg8 (by first | omega | (simp; omega)) (own_base (by repeat (first | exact hown | refine World.ownsRow.alloc ?_ _)))
      have hlr8 : Row w8 0 1 B lk (strs (lessL left s)):=Row.grown_x (by repeat (first | exact hlr6 | refine Row.alloc ?_ _)) hg8 HLX.out
      have HO8 : Hid (w8.ownsRow w3.heap.size 9 1 (.slice A5 (m + 1) c5) (m + 1) (strs (out ++ [s]))):=Lib.hid (by simpa [strs,encStr] using hown8)
      clear hown8 hg8
      go_wp2_with fail
      go_roundw
      case rel => exact ⟨i + 1,m + 1,lk,out ++ [s],lessL left s,A5,c5,B,d,by omega,rfl,rfl,by go_num,HO8.out,hlr8,hbl8,by omega,by omega,Lib.hid ⟨by simp [HS.out.1],HLK.out.symm,by rw [HTK.out,HV.out]⟩⟩
      case measure => simp [intOf]; omega
     ·have d2 : (nn == all) = false:=beq_eq_false_iff_ne.2 hn
      have HV : Hid (spareS f all (out,left) s = (out,left)):=Lib.hid (by unfold spareS; simp only; rw [← HNN.out,if_neg hn])
      clear hn
      go_wp2_with fail
      go_roundw
      case rel => exact ⟨i + 1,m,k,out,left,PA0,pc0,LA,lc,by omega,rfl,rfl,by go_num,hown,hleft6,hbl6,by omega,hkt,Lib.hid ⟨HS.out.1,HS.out.2.1,by rw [HTK.out,HV.out]⟩⟩
      case measure => simp [intOf]; omega
    ·have hie : i = tr.length:=by omega
     subst hie
     have HE : Hid (out = (spareF f tr).1):=Lib.hid (by have h:=HS.out.2.2; rw [List.take_length] at h; unfold spareF; rw [← HAL.out,h])
     obtain ⟨hm1,-,-⟩:=HS.out
     subst hm1
     go_wp2_with fail
     go_ret2
     exact ⟨out,PA0,pc0,rfl,fun h => absurd rfl h,fun _ => by rw [if_neg (by have h1:=HNA.out _ HAL.out.symm; rw [← HF.out]; omega),← HF.out]; exact HE.out,own_down9 hown (Nat.le_trans hwz hb3.size),below_up HC.out.b hb32⟩
 ·have d0 : (err != 0) = true:=bne_iff_ne.2 h0
  go_wp2_with fail
  go_ret2
  exact ⟨[],none,0,rfl,fun _ => rfl,fun h => absurd h h0,World.ownsRow_nil _ _ _ _,hC.b⟩

end Go.Proofs.YthchgkdhegaehaaGreatDoor
/- The walks of CheckMarks, Timed and filmed. -/
namespace Go.Proofs.YthchgkdhegaehaaGreatDoor
set_option linter.unusedVariables false
set_option linter.unusedSimpArgs false
open Go.RowKit

set_option maxHeartbeats 2000000 in
theorem checkMarks_any (lo lo' c d : Nat) (A B : Option Addr) (v : List St) (l : List Mk) (w : World) (hr : Row w lo 3 A v.length (trs v)) (hrm : Row w lo' 2 B l.length (prs l)) (hl : v.length ≤ 1000000000) (hlm : l.length ≤ 1000000000) (hi : ∀ s ∈ v,s.2.1 ≤ 9223372036854775807) :
  Calls Tryz.prog 96 #[.slice A v.length c,.slice B l.length d] w fun e w' => e = .returned (.int .i64 (mkFault v l)) ∧ Below w.heap.size w w':=by
 have HI:=Lib.hid hi
 clear hi
 go_enter Tryz.func96,Tryz.ntmps96
 go_wp2_with fail
 refine (checkVideo_any _ _ _ v _ hr hl HI.out).mono ?_
 rintro e w1 ⟨rfl,hb1⟩
 by_cases h0 : vFault v = 0
 ·have h0' : (vFault v != 0) = false:=by simpa using h0
  have HE:=Lib.hid (mkFault_ok (l:=l) h0)
  have HG:=Lib.hid (vFault_ok h0)
  clear h0
  by_cases hlong : 200 < l.length
  ·have HF:=Lib.hid (mkF_long (all:=fsum v) hlong)
   go_wp2_with fail
   go_ret
   exact ⟨ret_int' (by rw [HE.out,HF.out]),hb1⟩
  ·have s1:=HG.out.sum
   have s0:=fsum_nonneg v HG.out.nonneg
   go_wp2_with fail
   refine (vframes_any _ _ _ v _ (hr.below hb1) hl HG.out.nonneg (by omega)).mono ?_
   rintro e w2 ⟨rfl,hb2⟩
   have hx:=below_up hb1 hb2
   clear hb1 hb2 h0'
   go_wp2_with fail
   go_loopw [7,22] (fun la i wr => ∃ k : Nat,k ≤ l.length ∧ i = .int .i64 k ∧ la = .int .i64 (lastM (l.take k)) ∧ Hid (∀ j,j < k → mF (fsum v) l j = 0) ∧ Below w.heap.size w wr) (fun _ i _ => l.length - (intOf i).toNat)
   case atStart => exact ⟨0,Nat.zero_le _,rfl,rfl,Lib.hid (fun j hj => absurd hj (by omega)),hx⟩
   case round =>
    obtain ⟨k,hk,rfl,rfl,hv,hbw⟩:=hrel
    have zw:=hbw.size
    by_cases hlt : k < l.length
    ·have hrw:=hrm.below hbw
     obtain ⟨b,off,hB,_,hbs,c0,c1⟩:=hrw.pr_at hlt
     have HBAD:=Lib.hid (mkF_bad (all:=fsum v) k (by omega) hlt hv.out)
     have HAT:=Lib.hid (mF_at (fsum v) l k hlt)
     have HLT:=Lib.hid (lastM_take l k hlt)
     have HP : Hid (∀ j,k = j + 1 → prevM l k = some (l.getD j (0,0))):=Lib.hid (by
      rintro j rfl
      simp only [prevM,Nat.add_one_ne_zero,if_false,Nat.add_sub_cancel]
      rw [List.getD_eq_getElem?_getD,List.getElem?_eq_getElem (by omega)]; rfl)
     have HCP : Hid (∀ j,k = j + 1 → wr.cell? ⟨b,off + j * 2,none⟩ = some (.int .i64 (l.getD j (0,0)).1)):=Lib.hid (by
      rintro j rfl
      obtain ⟨b',off',hB',_,_,c0',_⟩:=hrw.pr_at (k:=j) (by omega)
      rw [hB] at hB'
      injection hB' with hB'
      injection hB' with e1 e2
      subst e1 e2
      rw [List.getD_eq_getElem?_getD,List.getElem?_eq_getElem (by omega)]
      exact c0')
     subst hB
     generalize lastM (l.take k) = la at *
     generalize hxk : l[k] = x at *
     clear hxk hrw
     go_wp2_with fail
     refine (out_any _ _ _ _).mono ?_
     rintro e w3 ⟨rfl,rfl⟩
     by_cases h1 : 1 ≤ x.2 ∧ x.2 ≤ 5
     ·have h1' : (decide (x.2 < 1) || decide (5 < x.2)) = false:=by simp; omega
      rw [h1']
      clear h1'
      go_wp2_with fail
      refine (out_any _ _ _ _).mono ?_
      rintro e w3 ⟨rfl,rfl⟩
      by_cases h2 : 0 ≤ x.1 ∧ x.1 ≤ fsum v
      ·have h2' : (decide (x.1 < 0) || decide (fsum v < x.1)) = false:=by simp; omega
       rw [h2']
       clear h2'
       have HRE:=Lib.hid (mX_rest (p:=prevM l k) (last:=la) h1 h2)
       clear h1 h2
       rcases Nat.eq_zero_or_pos k with hk0 | hk0
       ·subst hk0
        have HRX : Hid (mF (fsum v) l 0 = if misB x.2 la = true then 16 else 0):=Lib.hid (by rw [HAT.out,HRE.out]; rfl)
        go_wp2_with fail
        go_quiet (fail)
        go_wp2_with fail
        refine (misplaced_any _ _ _).mono ?_
        rintro e w4 ⟨rfl,rfl⟩
        by_cases h4 : misB x.2 la = true
        ·rw [h4]
         have HF:=Lib.hid (HBAD.out (by rw [HRX.out,if_pos h4]; omega))
         go_wp2_with fail
         go_ret
         exact ⟨ret_int' (by rw [HE.out,HF.out,HRX.out,if_pos h4]),(by repeat (first | exact hbw | refine Below.alloc ?_ (by first | omega | (simp; omega)) _ | refine below_drewN' ?_ _ | refine Below.drew ?_))⟩
        ·have h4' : misB x.2 la = false:=by simpa using h4
         have HN : Hid (∀ j,j < 0 + 1 → mF (fsum v) l j = 0):=Lib.hid (by
          intro j hj
          have : j = 0:=by omega
          subst this
          rw [HRX.out,if_neg h4])
         rw [h4']
         clear h4 h4'
         by_cases h5 : x.2 = 5
         ·have t5 : (x.2 != 5) = false:=by simpa using h5
          have HLX : Hid (lastM (l.take (0 + 1)) = la):=Lib.hid (by rw [HLT.out,if_pos h5])
          clear h5
          go_wp2_with fail
          go_roundw
          case rel => exact ⟨0 + 1,by omega,by go_num,by rw [HLX.out],HN,(by repeat (first | exact hbw | refine Below.alloc ?_ (by first | omega | (simp; omega)) _ | refine below_drewN' ?_ _ | refine Below.drew ?_))⟩
          case measure => simp [intOf]; omega
         ·have t5 : (x.2 != 5) = true:=by simpa using h5
          have HLX : Hid (lastM (l.take (0 + 1)) = x.2):=Lib.hid (by rw [HLT.out,if_neg h5])
          clear h5
          go_wp2_with fail
          go_roundw
          case rel => exact ⟨0 + 1,by omega,by go_num,by rw [HLX.out],HN,(by repeat (first | exact hbw | refine Below.alloc ?_ (by first | omega | (simp; omega)) _ | refine below_drewN' ?_ _ | refine Below.drew ?_))⟩
          case measure => simp [intOf]; omega
       ·obtain ⟨j,rfl⟩ : ∃ j,k = j + 1:=⟨k - 1,by omega⟩
        have hcp:=cell_al (HCP.out j rfl) (.cells #[.int .i64 x.1,.int .i64 x.2] 103)
        have HRX : Hid (mF (fsum v) l (j + 1) = if x.1 < (l.getD j (0,0)).1 then 7 else if misB x.2 la = true then 16 else 0):=Lib.hid (by rw [HAT.out,HRE.out,HP.out j rfl]; simp)
        generalize (l.getD j (0,0)).1 = y at *
        have wj : IntKind.i64.wrap ((j : Int) + 1 - 1) = j:=by rw [show (j : Int) + 1 - 1 = j by omega]; exact IntWalk.i64_in _ ⟨by omega,by omega⟩
        by_cases h3 : x.1 < y
        ·have t3 : decide (x.1 < y) = true:=by simpa using h3
         have HF:=Lib.hid (HBAD.out (by rw [HRX.out,if_pos h3]; omega))
         go_wp2_with fail
         go_quiet (fail)
         clear wj
         go_wp2_with fail
         go_ret
         exact ⟨ret_int' (by rw [HE.out,HF.out,HRX.out,if_pos h3]),(by repeat (first | exact hbw | refine Below.alloc ?_ (by first | omega | (simp; omega)) _ | refine below_drewN' ?_ _ | refine Below.drew ?_))⟩
        ·have t3 : decide (x.1 < y) = false:=by simpa using h3
         have H3:=Lib.hid h3
         clear h3
         go_wp2_with fail
         go_quiet (fail)
         clear wj
         go_wp2_with fail
         refine (misplaced_any _ _ _).mono ?_
         rintro e w4 ⟨rfl,rfl⟩
         by_cases h4 : misB x.2 la = true
         ·rw [h4]
          have HF:=Lib.hid (HBAD.out (by rw [HRX.out,if_neg (by have:=H3.out; omega : ¬ x.1 < y),if_pos h4]; omega))
          go_wp2_with fail
          go_ret
          exact ⟨ret_int' (by rw [HE.out,HF.out,HRX.out,if_neg (by have:=H3.out; omega : ¬ x.1 < y),if_pos h4]),(by repeat (first | exact hbw | refine Below.alloc ?_ (by first | omega | (simp; omega)) _ | refine below_drewN' ?_ _ | refine Below.drew ?_))⟩
         ·have h4' : misB x.2 la = false:=by simpa using h4
          have HN : Hid (∀ i,i < j + 1 + 1 → mF (fsum v) l i = 0):=Lib.hid (by
           intro i hi
           rcases Nat.lt_or_ge i (j + 1) with h | h
           ·exact hv.out i h
           ·have : i = j + 1:=by omega
            subst this
            rw [HRX.out,if_neg (by have:=H3.out; omega : ¬ x.1 < y),if_neg h4])
          rw [h4']
          clear h4 h4'
          by_cases h5 : x.2 = 5
          ·have t5 : (x.2 != 5) = false:=by simpa using h5
           have HLX : Hid (lastM (l.take (j + 1 + 1)) = la):=Lib.hid (by rw [HLT.out,if_pos h5])
           clear h5
           go_wp2_with fail
           go_roundw
           case rel => exact ⟨j + 1 + 1,by omega,by go_num,by rw [HLX.out],HN,(by repeat (first | exact hbw | refine Below.alloc ?_ (by first | omega | (simp; omega)) _ | refine below_drewN' ?_ _ | refine Below.drew ?_))⟩
           case measure => simp [intOf]; omega
          ·have t5 : (x.2 != 5) = true:=by simpa using h5
           have HLX : Hid (lastM (l.take (j + 1 + 1)) = x.2):=Lib.hid (by rw [HLT.out,if_neg h5])
           clear h5
           go_wp2_with fail
           go_roundw
           case rel => exact ⟨j + 1 + 1,by omega,by go_num,by rw [HLX.out],HN,(by repeat (first | exact hbw | refine Below.alloc ?_ (by first | omega | (simp; omega)) _ | refine below_drewN' ?_ _ | refine Below.drew ?_))⟩
           case measure => simp [intOf]; omega
      ·have h2' : (decide (x.1 < 0) || decide (fsum v < x.1)) = true:=by simp; omega
       have HA:=Lib.hid (mX_arg (p:=prevM l k) (last:=la) h1 h2)
       have HF:=Lib.hid (HBAD.out (by rw [HAT.out,HA.out]; omega))
       rw [h2']
       go_wp2_with fail
       go_ret
       exact ⟨ret_int' (by rw [HE.out,HF.out,HAT.out,HA.out]),(by repeat (first | exact hbw | refine Below.alloc ?_ (by first | omega | (simp; omega)) _ | refine below_drewN' ?_ _ | refine Below.drew ?_))⟩
     ·have h1' : (decide (x.2 < 1) || decide (5 < x.2)) = true:=by simp; omega
      have HA:=Lib.hid (mX_kind (all:=fsum v) (p:=prevM l k) (last:=la) h1)
      have HF:=Lib.hid (HBAD.out (by rw [HAT.out,HA.out]; omega))
      rw [h1']
      go_wp2_with fail
      go_ret
      exact ⟨ret_int' (by rw [HE.out,HF.out,HAT.out,HA.out]),(by repeat (first | exact hbw | refine Below.alloc ?_ (by first | omega | (simp; omega)) _ | refine below_drewN' ?_ _ | refine Below.drew ?_))⟩
    ·have hkk : k = l.length:=by omega
     subst hkk
     have HF:=Lib.hid (mkF_good (by omega) hv.out)
     rw [List.take_length]
     by_cases h2 : lastM l = 2
     ·have t2 : (lastM l != 2) = false:=by simpa using h2
      have HF2 : Hid (mkF (fsum v) l = 0):=Lib.hid (by rw [HF.out,if_pos h2])
      clear h2
      go_wp2_with fail
      go_ret
      exact ⟨ret_int' (by rw [HE.out,HF2.out]),hbw⟩
     ·have t2 : (lastM l != 2) = true:=by simpa using h2
      have HF2 : Hid (mkF (fsum v) l = 8):=Lib.hid (by rw [HF.out,if_neg h2])
      clear h2
      go_wp2_with fail
      go_ret
      exact ⟨ret_int' (by rw [HE.out,HF2.out]),hbw⟩
 ·have h0' : (vFault v != 0) = true:=by simpa using h0
  have HE:=Lib.hid (mkFault_bad (l:=l) h0)
  clear h0
  go_wp2_with fail
  go_ret
  exact ⟨ret_int' HE.out.symm,hb1⟩

def tmE (v : List St) (l : List Mk) : Int:=if mkFault v l = 0 then (tS v l).2.2.getLastD 0 else 0
theorem tmE_ok {v : List St} {l : List Mk} (h : mkFault v l = 0) : tmE v l = (tS v l).2.2.getLastD 0:=by simp [tmE,h]
theorem tmE_bad {v : List St} {l : List Mk} (h : ¬ mkFault v l = 0) : tmE v l = 0:=by simp [tmE,h]
theorem mkFault_zero {v : List St} {l : List Mk} (h : mkFault v l = 0) : vFault v = 0 ∧ mkF (fsum v) l = 0:=by
 by_cases h0 : vFault v = 0
 ·exact ⟨h0,by rw [mkFault_ok h0] at h; exact h⟩
 ·rw [mkFault_bad h0] at h; exact absurd h h0
theorem tS_some (v : List St) (l : List Mk) (h : ∃ x ∈ l,x.2 = 2) : 0 < (tS v l).2.2.length:=by
 suffices H : ∀ s : Int × Int × List Int,(0 < s.2.2.length ∨ ∃ x ∈ l,x.2 = 2) → 0 < (l.foldl (tstep v) s).2.2.length from H _ (.inr h)
 clear h
 induction l with
 | nil => intro s h; rcases h with h | ⟨x,hx,_⟩; exact h; simp at hx
 | cons y l ih =>
  intro s h
  rw [List.foldl_cons]
  apply ih
  by_cases h1 : y.2 = 1 ∨ y.2 = 4
  ·rw [tstep_on _ _ _ h1]
   rcases h with h | ⟨x,hx,h2⟩
   ·exact .inl h
   ·rcases List.mem_cons.1 hx with rfl | hx
    ·omega
    ·exact .inr ⟨x,hx,h2⟩
  ·by_cases h3 : y.2 = 3
   ·rw [tstep_off _ _ _ h3]
    rcases h with h | ⟨x,hx,h2⟩
    ·exact .inl h
    ·rcases List.mem_cons.1 hx with rfl | hx
     ·omega
     ·exact .inr ⟨x,hx,h2⟩
   ·rw [tstep_out _ _ _ h1 h3]
    exact .inl (by simp)
theorem last_mem (l : List Mk) (h : lastM l = 2) : ∃ x ∈ l,x.2 = 2:=by
 suffices H : ∀ a : Int,l.foldl (fun a (x : Mk) => if x.2 = 5 then a else x.2) a = 2 → a = 2 ∨ ∃ x ∈ l,x.2 = 2 from by
  rcases H 0 h with h | h
  ·omega
  ·exact h
 clear h
 induction l with
 | nil => intro a h; exact .inl h
 | cons y l ih =>
  intro a h
  rw [List.foldl_cons] at h
  rcases ih _ h with h | ⟨x,hx,h2⟩
  ·by_cases h5 : y.2 = 5
   ·rw [if_pos h5] at h; exact .inl h
   ·rw [if_neg h5] at h; exact .inr ⟨y,by simp,h⟩
  ·exact .inr ⟨x,by simp [hx],h2⟩

set_option maxHeartbeats 1000000 in
theorem timed_any (lo lo' c d : Nat) (A B : Option Addr) (v : List St) (l : List Mk) (w : World) (hr : Row w lo 3 A v.length (trs v)) (hrm : Row w lo' 2 B l.length (prs l)) (hl : v.length ≤ 1000000000) (hlm : l.length ≤ 1000000000) (hi : ∀ s ∈ v,s.2.1 ≤ 9223372036854775807) :
  Calls Tryz.prog 42 #[.slice A v.length c,.slice B l.length d] w fun e w' => e = .returned (.tuple #[.int .i64 (tmE v l),.int .i64 (mkFault v l)]) ∧ Below w.heap.size w w':=by
 go_enter Tryz.func42,Tryz.ntmps42
 go_wp2_with fail
 refine (checkMarks_any lo lo' _ _ _ _ v l _ hr hrm hl hlm hi).mono ?_
 rintro e w1 ⟨rfl,hb1⟩
 clear hi
 by_cases h0 : mkFault v l = 0
 ·have h0' : (mkFault v l != 0) = false:=by simpa using h0
  obtain ⟨hv,hm⟩:=mkFault_zero h0
  have HG:=Lib.hid (vFault_ok hv)
  have HM:=Lib.hid (mkF_ok hm)
  have H0:=Lib.hid h0
  clear h0 hv hm
  have hln:=HM.out.1
  have hsum:=HG.out.sum
  go_wp2_with fail
  refine (newFilm_any _ _ _ v _ (hr.below hb1) HG.out).mono ?_
  rintro e w2 ⟨g,rfl,hfm,hb2⟩
  have hx:=below_up hb1 hb2
  go_wp2_with fail
  refine (end_any g lo lo' _ _ _ _ v l _ hfm (hrm.below hx) HG.out (by omega) HM.out.2.2.2.1 (fun x hx => by have:=HM.out.2.2.1 x hx; omega) (tS_some v l (last_mem l HM.out.2.1))).mono ?_
  rintro e w3 ⟨rfl,hb3⟩
  go_wp2_with fail
  go_ret2
  exact ⟨ret2_is (by rw [tmE_ok H0.out,List.getLastD_eq_getLast?]; rfl) (by rw [H0.out]; rfl),below_up hx hb3⟩
 ·have h0' : (mkFault v l != 0) = true:=by simpa using h0
  have H0:=Lib.hid h0
  clear h0
  go_wp2_with fail
  go_ret2
  exact ⟨ret2_is (by rw [tmE_bad H0.out]; rfl) rfl,hb1⟩

theorem film_ex : mkFault [(100,60,1)] [(10,1),(70,2)] = 0:=by decide
theorem time_ex : tmE [(100,60,1)] [(10,1),(70,2)] = 1000:=by decide

end Go.Proofs.YthchgkdhegaehaaGreatDoor
/- The walk of ready, by Fastest's contract at any map. -/
namespace Go.Proofs.YthchgkdhegaehaaGreatDoor
set_option linter.unusedVariables false
set_option linter.unusedSimpArgs false
open Go.RowKit

def rsF : List RoomE:=[⟨[97],[],none,0⟩,⟨[98],[],none,0⟩]
def dsF : List DoorE:=[⟨[100],[97],[98],7,[],[],[],none,0,none,0⟩]
theorem mapW_fxN {w : World} {R D : Nat} (h : FM w R D) : MapW w 0 (some ⟨R,0,none⟩) rsF (some ⟨D,0,none⟩) dsF:=by
 refine ⟨Row.lit (n:=2) (size:=2) h.rooms (Nat.zero_le _) rfl,Row.lit (n:=1) (size:=7) h.doors (Nat.zero_le _) rfl,fun r hr => ?_,fun d hd => ?_,fun d hd => ?_,?_⟩
 ·simp only [rsF,List.mem_cons,List.not_mem_nil,or_false] at hr
  rcases hr with rfl | rfl <;> exact ⟨Row.none_ _ _ _ _,Nat.le_refl _⟩
 ·simp only [dsF,List.mem_cons,List.not_mem_nil,or_false] at hd
  subst hd; exact ⟨Row.none_ _ _ _ _,Nat.le_refl _⟩
 ·simp only [dsF,List.mem_cons,List.not_mem_nil,or_false] at hd
  subst hd; exact ⟨Row.none_ _ _ _ _,Nat.le_refl _⟩
 ·refine ⟨?_,?_,?_,?_,?_,?_,?_,?_⟩ <;> simp [rsF,dsF]
  exact ⟨by decide,by decide⟩
theorem tricksE_fxN : tricksE rsF dsF [97] [98] [] = 0:=by
 have e1 : onceT (allT rsF dsF) = []:=by rw [show allT rsF dsF = [] from rfl]; exact once_self (by simp)
 have e2 : onceT (allK dsF) = []:=by rw [show allK dsF = [] from rfl]; exact once_self (by simp)
 have e3 : roomsE rsF = 0:=by decide
 have e4 : doorsE rsF dsF = 0:=by decide
 have e5 : mapE rsF dsF [97] [98] = 0:=by
  unfold mapE
  rw [if_neg (by rw [e3]; simp),if_neg (by rw [e4]; simp),if_neg (by decide),e1,e2]; rfl
 unfold tricksE
 rw [if_neg (by rw [e5]; simp)]; rfl
theorem walk_fxN {K : List (List UInt8)} {th th' : List (List UInt8)} {t : Int} (h : walkS rsF dsF [] K [97] th 0 = ⟨0,[98],th',t⟩) : K.length = 1 ∧ t = 7:=by
 cases K with
 | nil => simp [walkS] at h
 | cons k K =>
  by_cases hk : k = [100]
  ·subst hk
   rw [show walkS rsF dsF [] ([100] :: K) [97] th 0 = walkS rsF dsF [] K [98] (thru rsF th ⟨[100],[97],[98],7,[],[],[],none,0,none,0⟩) 7 by simp [walkS,dsF,goE]] at h
   cases K with
   | nil => simp [walkS] at h; exact ⟨rfl,h.2.symm⟩
   | cons k K =>
    by_cases hk : k = [100]
    ·subst hk; simp [walkS,dsF,goE,wkBad] at h
    ·have : ¬ [100] = k:=fun e => hk e.symm
     simp [walkS,dsF,this,wkBad] at h
  ·have : ¬ [100] = k:=fun e => hk e.symm
   simp [walkS,dsF,this,wkBad] at h
theorem Fastest_fxN (R D : Nat) (w : World) (hf : FM w R D) : Calls Tryz.prog 9 #[.agg #[.slice (some ⟨R,0,none⟩) 2 2,.slice (some ⟨D,0,none⟩) 1 1,.string ⟨#[97]⟩,.string ⟨#[98]⟩],.slice none 0 0] w fun e w' => ∃ A c,e = .returned (.tuple #[.agg #[.slice A 1 c,.int .i64 7],.bool true,.int .i64 0]) ∧ Below w.heap.size w w':=by
 refine (Fastest_ok 0 2 1 0 0 _ rsF _ dsF [97] [98] none [] w (mapW_fxN hf) (Row.none_ _ _ _ _) (by simp) tricksE_fxN).mono ?_
 rintro e w' ⟨K,t,is,B,c,rfl,hq,_,hb⟩
 have hT : onceT (allT rsF dsF) = []:=by rw [show allT rsF dsF = [] from rfl]; exact once_self (by simp)
 have hw : walkE rsF dsF [97] [98] [] [[100]] = ⟨0,[98],thru rsF (onceT (givesOf rsF [97])) ⟨[100],[97],[98],7,[],[],[],none,0,none,0⟩,7⟩:=by
  unfold walkE walkF
  rw [if_neg (by rw [tricksE_fxN]; simp),if_neg (by simp)]
  simp [walkS,dsF,goE]
 obtain ⟨hi,_⟩:=hq.slow tricksE_fxN rfl (l:=[[100]]) (by rw [hw]) (by rw [hw])
 subst hi
 obtain ⟨th,hk⟩:=hq.walks tricksE_fxN rfl (by rw [hT]; decide) rfl
 unfold walkE walkF at hk
 rw [if_neg (by rw [tricksE_fxN]; simp)] at hk
 by_cases c : 500 < K.length
 ·rw [if_pos c] at hk; simp [wkBad] at hk
 ·rw [if_neg c] at hk
  obtain ⟨e1,e2⟩:=walk_fxN hk
  rw [e1,e2]
  exact ⟨B,_,rfl,hb⟩
set_option maxHeartbeats 4000000 in
set_option maxRecDepth 100000 in
theorem ready_any (w : World) : Calls Tryz.prog 12 #[] w fun e w' => e = .returned (.bool true) ∧ Below w.heap.size w w':=by
 have H1:=Lib.hid pressR_ex
 have H2:=Lib.hid pressE_ex
 have H3:=Lib.hid film_ex
 have H4:=Lib.hid time_ex
 go_enter Tryz.func12,Tryz.ntmps12
 go_wp2_with fail
 have hx0 : Below w.heap.size w (((((w.alloc (.cells #[.string ⟨#[97]⟩,.string ⟨#[98]⟩] 9)).alloc (.cells #[.int .i64 10,.int .i64 25] 3)).alloc (.cells #[.int .i64 0,.int .i64 20] 3)).alloc (.cells #[.int .i64 9] 3)).alloc (.cells #[.int .i64 1,.slice (some ⟨w.heap.size + 1,0,none⟩) 2 2,.int .i64 2,.slice (some ⟨w.heap.size + 1 + 1,0,none⟩) 2 2,.int .i64 3,.slice (some ⟨w.heap.size + 1 + 1 + 1,0,none⟩) 1 1] 87)):=(by repeat (first | exact Below.refl _ _ | refine Below.alloc ?_ (by first | omega | (simp; omega) | simp) _ | refine below_drewN' ?_ _ | refine Below.drew ?_))
 refine (ex_sumOfBest (W:=(((((w.alloc (.cells #[.string ⟨#[97]⟩,.string ⟨#[98]⟩] 9)).alloc (.cells #[.int .i64 10,.int .i64 25] 3)).alloc (.cells #[.int .i64 0,.int .i64 20] 3)).alloc (.cells #[.int .i64 9] 3)).alloc (.cells #[.int .i64 1,.slice (some ⟨w.heap.size + 1,0,none⟩) 2 2,.int .i64 2,.slice (some ⟨w.heap.size + 1 + 1,0,none⟩) 2 2,.int .i64 3,.slice (some ⟨w.heap.size + 1 + 1 + 1,0,none⟩) 1 1] 87))) (((((Blk.at_ _ rfl).alloc _).alloc _).alloc _).alloc _) ((((Blk.at_ _ (by simp)).alloc _).alloc _).alloc _) (((Blk.at_ _ (by simp)).alloc _).alloc _) ((Blk.at_ _ (by simp)).alloc _) (Blk.at_ _ (by simp))).mono ?_
 rintro e w1 ⟨rfl,hb⟩
 have hx:=below_up hx0 hb
 clear hb hx0
 go_wp2_with fail
 refine (presses_any _ _ w1.heap.size [(1,3),(0,1),(1,1)] 1 _ (by first | exact row_new' _ (by first | rfl | simp) (by first | omega | (simp; omega)) rfl | exact row_newN _ _ (by first | rfl | simp) (by first | omega | (simp; omega)) rfl | exact row_newD _ (by first | rfl | simp) (by first | omega | (simp; omega)) rfl) (by decide)).mono ?_
 rintro e w2 ⟨rfl,hb⟩
 have hx:=below_up (hx.alloc hx.size _) hb
 clear hb
 rw [H1.out,H2.out]
 go_wp2_with fail
 have hr1:=(row_new w2 #[.int .i64 100,.int .i64 60,.int .i64 1] 100 w2.heap.size 3 1 (Nat.le_refl _) rfl).alloc (.cells #[.int .i64 10,.int .i64 1,.int .i64 70,.int .i64 2] 103)
 have hr2:=row_new (w2.alloc (.cells #[.int .i64 100,.int .i64 60,.int .i64 1] 100)) #[.int .i64 10,.int .i64 1,.int .i64 70,.int .i64 2] 103 0 2 2 (Nat.zero_le _) rfl
 rw [World.size_alloc] at hr2
 refine (timed_any w2.heap.size 0 _ _ _ _ [(100,60,1)] [(10,1),(70,2)] _ hr1 hr2 (by decide) (by decide) (by decide)).mono ?_
 rintro e w3 ⟨rfl,hb⟩
 have hx:=below_up (show Below w.heap.size w ((w2.alloc (.cells #[.int .i64 100,.int .i64 60,.int .i64 1] 100)).alloc (.cells #[.int .i64 10,.int .i64 1,.int .i64 70,.int .i64 2] 103)) by have:=hx.size; exact (hx.alloc this _).alloc (by simp; omega) _) hb
 rw [H3.out,H4.out]
 clear hb hr1 hr2
 go_wp2_with fail
 have hfm : FM ((w3.alloc (.cells #[.string ⟨#[97]⟩,.slice none 0 0,.string ⟨#[98]⟩,.slice none 0 0] 70)).alloc (.cells #[.string ⟨#[100]⟩,.string ⟨#[97]⟩,.string ⟨#[98]⟩,.int .i64 7,.slice none 0 0,.slice none 0 0,.string ⟨#[]⟩] 75)) w3.heap.size (w3.heap.size + 1):=⟨(Blk.at_ _ rfl).alloc _,Blk.at_ _ (by simp)⟩
 refine (Fastest_fxN _ _ _ hfm).mono ?_
 rintro e w4 ⟨A,c,rfl,hb⟩
 have hx:=below_up (show Below w.heap.size w ((w3.alloc (.cells #[.string ⟨#[97]⟩,.slice none 0 0,.string ⟨#[98]⟩,.slice none 0 0] 70)).alloc (.cells #[.string ⟨#[100]⟩,.string ⟨#[97]⟩,.string ⟨#[98]⟩,.int .i64 7,.slice none 0 0,.slice none 0 0,.string ⟨#[]⟩] 75)) by have:=hx.size; exact (hx.alloc this _).alloc (by simp; omega) _) hb
 clear hb hfm
 go_wp2_with fail
 go_ret
 exact ⟨rfl,hx.alloc hx.size _⟩
end Go.Proofs.YthchgkdhegaehaaGreatDoor
