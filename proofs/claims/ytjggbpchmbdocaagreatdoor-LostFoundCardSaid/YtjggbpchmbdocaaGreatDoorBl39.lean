/- Texts of this seat, laid together: HpL HpX RouN AppR HpY HpZ HpO. -/
import Derived.ArgAppend
import Derived.Deep.DeepCutAuto
import Derived.Deep.CutRange
import Derived.Laws.EntriesVeiled
import Derived.Test.YtjggbpchmbdocaaGreatDoorBl35
import Derived.Test.YtjggbpchmbdocaaGreatDoorBl38
import Derived.Test.YtjggbpchmbdocaaGreatDoorBl26
import Derived.Test.YtjggbpchmbdocaaGreatDoorBl36
import Derived.Test.YtjggbpchmbdocaaGreatDoorBl05
import Derived.Test.YtjggbpchmbdocaaGreatDoorBl28
import Derived.Test.YtjggbpchmbdocaaGreatDoorBl04
/- What the laws on ways want, plain: more tricks are no slower, a path is a walk, no walk is faster. -/
set_option linter.unusedVariables false
set_option linter.unusedSimpArgs false
namespace Go.Proofs.YtjggbpchmbdocaaGreatDoor
open Go.RowKit

section
variable {rs : List RoomE} {ds : List DoorE} {T : List (List UInt8)} {tr tr' : List (List UInt8)} {st gl : List UInt8} {n n' : Nat} {r r' : PathR}
theorem path_mono (h : PathOk (nxX rs T ds tr [] id) (goalX rs gl) (tmX ds) (st0 rs T st) n r) (h' : PathOk (nxX rs T ds tr' [] id) (goalX rs gl) (tmX ds) (st0 rs T st) n' r') (hs : ∀ s ∈ tr,s ∈ tr') (hi : r.is = true) : r'.is = true ∧ r'.t ≤ r.t:=by
 obtain ⟨⟨d,hw⟩,_,_,_⟩:=h.yes hi
 have hw':=hw.mono (nx':=nxX rs T ds tr' [] id) (fun x p => nxX_mono hs x p)
 cases hx : r'.is with
 | false => exact absurd hw' ((h'.no hx).2 _ _ _)
 | true => exact ⟨rfl,(h'.yes hx).2.1 _ _ _ hw'⟩
theorem path_walks (h : PathOk (nxX rs T ds tr [] id) (goalX rs gl) (tmX ds) (st0 rs T st) n r) (hE : tricksE rs ds st gl tr = 0) (hT : onceT (allT rs ds) = T) (hn : n ≤ 500) (hi : r.is = true) : ∃ th,walkE rs ds st gl tr (r.ks.map (keyX ds)) = ⟨0,gl,th,r.t⟩:=by
 obtain ⟨⟨d,hw⟩,_,_,hl⟩:=h.yes hi
 have hR:=right_of (tricks_right hE)
 rw [st0_once] at hw
 obtain ⟨th,e⟩:=way_walk hR hT hw st (onceT (givesOf rs st)) 0 hR.st rfl
 refine ⟨th,?_⟩
 unfold walkE walkF
 rw [if_neg (by simp [hE]),if_neg (by rw [List.length_map]; omega),e,Int.zero_add]
theorem walk_slow (h : PathOk (nxX rs T ds tr [] id) (goalX rs gl) (tmX ds) (st0 rs T st) n r) (hE : tricksE rs ds st gl tr = 0) (hT : onceT (allT rs ds) = T) {l : List (List UInt8)} (he : (walkE rs ds st gl tr l).err = 0) (hr : (walkE rs ds st gl tr l).room = gl) : r.is = true → r.t ≤ (walkE rs ds st gl tr l).time:=by
 intro hi
 have hR:=right_of (tricks_right hE)
 have e : walkE rs ds st gl tr l = ⟨0,gl,(walkE rs ds st gl tr l).th,(walkE rs ds st gl tr l).time⟩:=by
  conv => lhs; rw [show walkE rs ds st gl tr l = ⟨(walkE rs ds st gl tr l).err,(walkE rs ds st gl tr l).room,(walkE rs ds st gl tr l).th,(walkE rs ds st gl tr l).time⟩ from rfl]
  rw [he,hr]
 have e2 : walkS rs ds tr l st (onceT (givesOf rs st)) 0 = walkE rs ds st gl tr l:=by
  unfold walkE walkF
  rw [if_neg (by simp [hE])]
  by_cases c : 500 < l.length
  ·exfalso
   unfold walkE walkF at he
   rw [if_neg (by simp [hE]),if_pos c] at he
   cases he
  ·rw [if_neg c]
 rw [e] at e2
 obtain ⟨_,t,d,ks,hw,hle⟩:=walk_way hR hT l st (onceT (givesOf rs st)) _ 0 _ hR.st e2
 rw [← st0_once] at hw
 have:=(h.yes hi).2.1 _ _ _ hw
 omega
theorem walk_is (h : PathOk (nxX rs T ds tr [] id) (goalX rs gl) (tmX ds) (st0 rs T st) n r) (hE : tricksE rs ds st gl tr = 0) (hT : onceT (allT rs ds) = T) {l : List (List UInt8)} (he : (walkE rs ds st gl tr l).err = 0) (hr : (walkE rs ds st gl tr l).room = gl) : r.is = true:=by
 have hR:=right_of (tricks_right hE)
 have e : walkE rs ds st gl tr l = ⟨0,gl,(walkE rs ds st gl tr l).th,(walkE rs ds st gl tr l).time⟩:=by
  conv => lhs; rw [show walkE rs ds st gl tr l = ⟨(walkE rs ds st gl tr l).err,(walkE rs ds st gl tr l).room,(walkE rs ds st gl tr l).th,(walkE rs ds st gl tr l).time⟩ from rfl]
  rw [he,hr]
 have e2 : walkS rs ds tr l st (onceT (givesOf rs st)) 0 = walkE rs ds st gl tr l:=by
  unfold walkE walkF
  rw [if_neg (by simp [hE])]
  by_cases c : 500 < l.length
  ·exfalso
   unfold walkE walkF at he
   rw [if_neg (by simp [hE]),if_pos c] at he
   cases he
  ·rw [if_neg c]
 rw [e] at e2
 obtain ⟨_,t,d,ks,hw,hle⟩:=walk_way hR hT l st (onceT (givesOf rs st)) _ 0 _ hR.st e2
 rw [← st0_once] at hw
 cases hx : r.is with
 | true => rfl
 | false => exact absurd hw ((h.no hx).2 _ _ _)
end
def FaQ (rs : List RoomE) (ds : List DoorE) (T tr : List (List UInt8)) (st gl : List UInt8) (K : List (List UInt8)) (t : Int) (is : Bool) : Prop :=
 ∃ r : PathR,PathOk (nxX rs T ds tr [] id) (goalX rs gl) (tmX ds) (st0 rs T st) (nS rs T) r ∧ K = r.ks.map (keyX ds) ∧ t = r.t ∧ is = r.is
theorem pathOk_len {nx : StE → List (Nat × StE)} {ef : StE → Bool} {tm : Nat → Int} {x : StE} {n : Nat} {r : PathR} (h : PathOk nx ef tm x n r) : r.ks.length ≤ n:=by
 cases hi : r.is with
 | false => rw [(h.no hi).1]; exact Nat.zero_le _
 | true => exact (h.yes hi).2.2.2
section
variable {rs : List RoomE} {ds : List DoorE} {T : List (List UInt8)} {tr tr' : List (List UInt8)} {st gl : List UInt8} {K K' l : List (List UInt8)} {t t' : Int} {is is' : Bool}
theorem FaQ.len (h : FaQ rs ds T tr st gl K t is) : K.length ≤ nS rs T:=by
 obtain ⟨r,h1,rfl,_,_⟩:=h
 rw [List.length_map]; exact pathOk_len h1
theorem FaQ.mono (h : FaQ rs ds T tr st gl K t is) (h' : FaQ rs ds T tr' st gl K' t' is') (hs : ∀ s ∈ tr,s ∈ tr') (hi : is = true) : is' = true ∧ t' ≤ t:=by
 obtain ⟨r,h1,_,rfl,rfl⟩:=h
 obtain ⟨r',h1',_,rfl,rfl⟩:=h'
 exact path_mono h1 h1' hs hi
theorem FaQ.walks (h : FaQ rs ds T tr st gl K t is) (hE : tricksE rs ds st gl tr = 0) (hT : onceT (allT rs ds) = T) (hn : nS rs T ≤ 500) (hi : is = true) : ∃ th,walkE rs ds st gl tr K = ⟨0,gl,th,t⟩:=by
 obtain ⟨r,h1,rfl,rfl,rfl⟩:=h
 exact path_walks h1 hE hT hn hi
theorem FaQ.slow (h : FaQ rs ds T tr st gl K t is) (hE : tricksE rs ds st gl tr = 0) (hT : onceT (allT rs ds) = T) (he : (walkE rs ds st gl tr l).err = 0) (hr : (walkE rs ds st gl tr l).room = gl) : is = true ∧ t ≤ (walkE rs ds st gl tr l).time:=by
 obtain ⟨r,h1,rfl,rfl,rfl⟩:=h
 have:=walk_is h1 hE hT he hr
 exact ⟨this,walk_slow h1 hE hT he hr this⟩
theorem FaQ.zero (h : FaQ rs ds T tr st gl K t is) (hi : is = false) : K = [] ∧ t = 0:=by
 obtain ⟨r,h1,rfl,rfl,rfl⟩:=h
 rw [(h1.no hi).1]; exact ⟨rfl,rfl⟩
theorem FaQ.least (h : FaQ rs ds T tr st gl K t is) : LeastT (nxX rs T ds tr [] id) (goalX rs gl) (tmX ds) (st0 rs T st) (if is then t else -1):=by
 obtain ⟨r,h1,rfl,rfl,rfl⟩:=h
 cases hi : r.is with
 | false => exact .inl ⟨rfl,(h1.no hi).2⟩
 | true =>
  obtain ⟨⟨d,hw⟩,h2,h3,_⟩:=h1.yes hi
  exact .inr ⟨h3,⟨d,_,hw⟩,h2⟩
end
theorem Fastest_ok (lo ca cd lo2 c2 : Nat) (A : Option Addr) (rs : List RoomE) (D : Option Addr) (ds : List DoorE) (st gl : List UInt8) (TR : Option Addr) (tr : List (List UInt8)) (w : World) (hA : MapW w lo A rs D ds) (hr : Row w lo2 1 TR tr.length (strs tr)) (hrl : tr.length ≤ 1000000000) (hE : tricksE rs ds st gl tr = 0) :
  Calls Tryz.prog 10 #[mapV A rs ca D ds cd st gl,.slice TR tr.length c2] w fun e w' => ∃ (K : List (List UInt8)) (t : Int) (is : Bool) (B : Option Addr) (c : Nat),e = .returned (.tuple #[.agg #[.slice B K.length c,.int .i64 t],.bool is,.int .i64 0]) ∧ FaQ rs ds (onceT (allT rs ds)) tr st gl K t is ∧ w'.ownsRow w.heap.size 9 1 (.slice B K.length c) K.length (strs K) ∧ Below w.heap.size w w':=by
 refine (Fastest_any lo ca cd lo2 c2 A rs D ds st gl TR tr w hA hr hrl).mono ?_
 rintro e w' ⟨r,B,c,_,hok,rfl,hown,hb⟩
 refine ⟨r.ks.map (keyX ds),r.t,r.is,B,c,by rw [hE,List.length_map],⟨r,hok hE,rfl,rfl,rfl⟩,by rw [List.length_map]; exact hown,hb⟩
theorem Blk.fourR {w : World} {b : Nat} {t : TypeId} {x0 x1 x2 x3 : Value} (h : Blk w b t #[x0,x1,x2,x3]) : w.cell? ⟨b,0,none⟩ = some x0 ∧ w.cell? ⟨b,1,none⟩ = some x1 ∧ w.cell? ⟨b,2,none⟩ = some x2 ∧ w.cell? ⟨b,3,none⟩ = some x3:=⟨h.cell 0,h.cell 1,h.cell 2,h.cell 3⟩
structure LrI (w W : World) (lo mb N : Nat) (A : Option Addr) (ca : Nat) (rs : List RoomE) (D : Option Addr) (cd : Nat) (ds : List DoorE) (st gl : List UInt8) (TR : Option Addr) (tr : List (List UInt8)) : Prop where
  m : MapW W lo A rs D ds
  t : Row W lo 1 TR tr.length (strs tr)
  b : Blk W mb 29 #[.slice A rs.length ca, .slice D ds.length cd, .string ⟨st.toArray⟩, .string ⟨gl.toArray⟩]
  s : Str W w.heap.size N
  x : Below w.heap.size w W
section
variable {w W W' : World} {lo mb N : Nat} {A : Option Addr} {ca : Nat} {rs : List RoomE} {D : Option Addr} {cd : Nat} {ds : List DoorE} {st gl : List UInt8} {TR : Option Addr} {tr : List (List UInt8)}
theorem LrI.below (h : LrI w W lo mb N A ca rs D cd ds st gl TR tr) (hb : Below W.heap.size W W') : LrI w W' lo mb N A ca rs D cd ds st gl TR tr :=
 ⟨h.m.below hb,h.t.below hb,h.b.below hb,h.s.keep hb,below_up h.x hb⟩
theorem LrI.alloc (h : LrI w W lo mb N A ca rs D cd ds st gl TR tr) (o : Obj) : LrI w (W.alloc o) lo mb N A ca rs D cd ds st gl TR tr:=h.below ((Below.refl _ _).alloc (Nat.le_refl _) o)
theorem LrI.drew (h : LrI w W lo mb N A ca rs D cd ds st gl TR tr) : LrI w W.drew lo mb N A ca rs D cd ds st gl TR tr:=h.below (below_drewN' (Below.refl _ _) 1)
theorem LrI.drewN (h : LrI w W lo mb N A ca rs D cd ds st gl TR tr) (k : Nat) : LrI w (W.drewN k) lo mb N A ca rs D cd ds st gl TR tr:=h.below (below_drewN' (Below.refl _ _) k)
theorem LrI.cells (h : LrI w W lo mb N A ca rs D cd ds st gl TR tr) : W.cell? ⟨mb,0,none⟩ = some (.slice A rs.length ca) ∧ W.cell? ⟨mb,1,none⟩ = some (.slice D ds.length cd) ∧ W.cell? ⟨mb,2,none⟩ = some (.string ⟨st.toArray⟩) ∧ W.cell? ⟨mb,3,none⟩ = some (.string ⟨gl.toArray⟩):=⟨h.b.cell 0,h.b.cell 1,h.b.cell 2,h.b.cell 3⟩
theorem LrI.grown {M : Nat} (h : LrI w W lo mb N A ca rs D cd ds st gl TR tr) (hg : W.grownBy W' (some w.heap.size)) (hs : Str W' w.heap.size M) (hl : w.heap.size < lo) (hm : w.heap.size < mb) : LrI w W' lo mb M A ca rs D cd ds st gl TR tr :=
 ⟨h.m.grown hg hl,h.t.grown hg hl,h.b.grown hg (by omega),hs,h.x.grown hg (by have:=h.x.size; omega) (fun k hk => by injection hk with hk; omega)⟩
end
end Go.Proofs.YtjggbpchmbdocaaGreatDoor
/- The walks of less, Worths and Spare. -/
namespace Go.Proofs.YtjggbpchmbdocaaGreatDoor
open Go.RowKit Go.Sort Go.Shelf

theorem Row.grown_x {w w' : World} {lo size n : Nat} {A : Option Addr} {xs : List Value} {row : Option Nat} (h : Row w lo size A n xs) (hg : w.grownBy w' row) (hne : ∀ a j,A = some a → row = some j → a.block ≠ j) : Row w' lo size A n xs :=
 ⟨h.1,fun hn => by
  obtain ⟨b,off,e,h1,h2,h3⟩:=h.2 hn
  exact ⟨b,off,e,h1,Nat.lt_of_lt_of_le h2 hg.size,fun j u hu => (World.cell?_of_block (w:=w) (hg.block b h2 (fun e2 => hne _ _ e e2.symm rfl))).trans (h3 j u hu)⟩⟩
def lessL (l : List (List UInt8)) (s : List UInt8) : List (List UInt8):=l.filter fun x => !(x == s)
def spareS (f : List (List UInt8) → Int) (all : Int) (st : List (List UInt8) × List (List UInt8)) (s : List UInt8) : List (List UInt8) × List (List UInt8) :=
 if f (lessL st.2 s) = all then (st.1 ++ [s],lessL st.2 s) else st
noncomputable def timeT (rs : List RoomE) (ds : List DoorE) (st gl : List UInt8) (l : List (List UInt8)) : Int:=timeF rs ds (onceT (allT rs ds)) l [] st gl
end Go.Proofs.YtjggbpchmbdocaaGreatDoor
/- The walk of routed, by Fastest's contract at any map. -/
namespace Go.Proofs.YtjggbpchmbdocaaGreatDoor
open Go.RowKit Go.Sort

def rsFR : List RoomE:=[⟨[97],[],none,0⟩,⟨[98],[],none,0⟩]
def dsFR : List DoorE:=[⟨[100],[97],[98],7,[],[],[],none,0,none,0⟩]
theorem mapW_fxNR {w : World} {R D : Nat} (h : FM w R D) : MapW w 0 (some ⟨R,0,none⟩) rsFR (some ⟨D,0,none⟩) dsFR:=by
 refine ⟨Row.lit (n:=2) (size:=2) h.rooms (Nat.zero_le _) rfl,Row.lit (n:=1) (size:=7) h.doors (Nat.zero_le _) rfl,fun r hr => ?_,fun d hd => ?_,fun d hd => ?_,?_⟩
 ·simp only [rsFR,List.mem_cons,List.not_mem_nil,or_false] at hr
  rcases hr with rfl | rfl <;> exact ⟨Row.none_ _ _ _ _,Nat.le_refl _⟩
 ·simp only [dsFR,List.mem_cons,List.not_mem_nil,or_false] at hd
  subst hd; exact ⟨Row.none_ _ _ _ _,Nat.le_refl _⟩
 ·simp only [dsFR,List.mem_cons,List.not_mem_nil,or_false] at hd
  subst hd; exact ⟨Row.none_ _ _ _ _,Nat.le_refl _⟩
 ·refine ⟨?_,?_,?_,?_,?_,?_,?_,?_⟩ <;> simp [rsFR,dsFR]
  exact ⟨by decide,by decide⟩
theorem tricksE_fxNR : tricksE rsFR dsFR [97] [98] [] = 0:=by
 have e1 : onceT (allT rsFR dsFR) = []:=by rw [show allT rsFR dsFR = [] from rfl]; exact once_self (by simp)
 have e2 : onceT (allK dsFR) = []:=by rw [show allK dsFR = [] from rfl]; exact once_self (by simp)
 have e3 : roomsE rsFR = 0:=by decide
 have e4 : doorsE rsFR dsFR = 0:=by decide
 have e5 : mapE rsFR dsFR [97] [98] = 0:=by
  unfold mapE
  rw [if_neg (by rw [e3]; simp),if_neg (by rw [e4]; simp),if_neg (by decide),e1,e2]; rfl
 unfold tricksE
 rw [if_neg (by rw [e5]; simp)]; rfl
theorem walk_fxNR {K : List (List UInt8)} {th th' : List (List UInt8)} {t : Int} (h : walkS rsFR dsFR [] K [97] th 0 = ⟨0,[98],th',t⟩) : K = [[100]] ∧ t = 7:=by
 cases K with
 | nil => simp [walkS] at h
 | cons k K =>
  by_cases hk : k = [100]
  ·subst hk
   rw [show walkS rsFR dsFR [] ([100] :: K) [97] th 0 = walkS rsFR dsFR [] K [98] (thru rsFR th ⟨[100],[97],[98],7,[],[],[],none,0,none,0⟩) 7 by simp [walkS,dsFR,goE]] at h
   cases K with
   | nil => simp [walkS] at h; exact ⟨rfl,h.2.symm⟩
   | cons k K =>
    by_cases hk : k = [100]
    ·subst hk; simp [walkS,dsFR,goE,wkBad] at h
    ·have : ¬ [100] = k:=fun e => hk e.symm
     simp [walkS,dsFR,this,wkBad] at h
  ·have : ¬ [100] = k:=fun e => hk e.symm
   simp [walkS,dsFR,this,wkBad] at h
theorem Fastest_fxNR (R D : Nat) (w : World) (hf : FM w R D) : Calls Tryz.prog 10 #[.agg #[.slice (some ⟨R,0,none⟩) 2 2,.slice (some ⟨D,0,none⟩) 1 1,.string ⟨#[97]⟩,.string ⟨#[98]⟩],.slice none 0 0] w fun e w' => ∃ A c,e = .returned (.tuple #[.agg #[.slice A 1 c,.int .i64 7],.bool true,.int .i64 0]) ∧ Row w' 0 1 A 1 (strs [[100]]) ∧ Below w.heap.size w w':=by
 refine (Fastest_ok 0 2 1 0 0 _ rsFR _ dsFR [97] [98] none [] w (mapW_fxNR hf) (Row.none_ _ _ _ _) (by simp) tricksE_fxNR).mono ?_
 rintro e w' ⟨K,t,is,B,c',rfl,hq,ho,hb⟩
 have hT : onceT (allT rsFR dsFR) = []:=by rw [show allT rsFR dsFR = [] from rfl]; exact once_self (by simp)
 have hw : walkE rsFR dsFR [97] [98] [] [[100]] = ⟨0,[98],thru rsFR (onceT (givesOf rsFR [97])) ⟨[100],[97],[98],7,[],[],[],none,0,none,0⟩,7⟩:=by
  unfold walkE walkF
  rw [if_neg (by rw [tricksE_fxNR]; simp),if_neg (by simp)]
  simp [walkS,dsFR,goE]
 obtain ⟨hi,_⟩:=hq.slow tricksE_fxNR rfl (l:=[[100]]) (by rw [hw]) (by rw [hw])
 subst hi
 obtain ⟨th,hk⟩:=hq.walks tricksE_fxNR rfl (by rw [hT]; decide) rfl
 unfold walkE walkF at hk
 rw [if_neg (by rw [tricksE_fxNR]; simp)] at hk
 by_cases c : 500 < K.length
 ·rw [if_pos c] at hk; simp [wkBad] at hk
 ·rw [if_neg c] at hk
  obtain ⟨e1,e2⟩:=walk_fxNR hk
  subst e1 e2
  exact ⟨B,c',rfl,row_down0 (Row.of_own ho),hb⟩
set_option maxHeartbeats 4000000 in
set_option maxRecDepth 100000 in
theorem routed_any (w : World) : Calls Tryz.prog 15 #[] w fun e w' => e = .returned (.bool true) ∧ Below w.heap.size w w':=by
 go_enter Tryz.func15,Tryz.ntmps15
 go_wp2_with fail
 have hfm : FM ((w.alloc (.cells #[.string ⟨#[97]⟩,.slice none 0 0,.string ⟨#[98]⟩,.slice none 0 0] 88)).alloc (.cells #[.string ⟨#[100]⟩,.string ⟨#[97]⟩,.string ⟨#[98]⟩,.int .i64 7,.slice none 0 0,.slice none 0 0,.string ⟨#[]⟩] 120)) w.heap.size (w.heap.size + 1):=⟨(Blk.at_ _ rfl).alloc _,Blk.at_ _ (by simp)⟩
 refine (Fastest_fxNR _ _ _ hfm).mono ?_
 rintro e w4 ⟨A,c,rfl,hd,hb⟩
 have hx : Below w.heap.size w w4:=(show Below w.heap.size w ((w.alloc (.cells #[.string ⟨#[97]⟩,.slice none 0 0,.string ⟨#[98]⟩,.slice none 0 0] 88)).alloc (.cells #[.string ⟨#[100]⟩,.string ⟨#[97]⟩,.string ⟨#[98]⟩,.int .i64 7,.slice none 0 0,.slice none 0 0,.string ⟨#[]⟩] 120)) from (by repeat (first | exact Below.refl _ _ | refine Below.alloc ?_ (by first | omega | (simp; omega) | simp) _ | refine below_drewN' ?_ _ | refine Below.drew ?_))).trans (hb.mono (by simp; omega))
 have hx5 : Below w.heap.size w ((w4.alloc (.cells #[.slice A 1 c,.int .i64 7] 40)).alloc (.cells #[.string ⟨#[100]⟩] 9)):=(hx.alloc hx.size _).alloc (by have:=hx.size; simp; omega) _
 have hd2 : Row ((w4.alloc (.cells #[.slice A 1 c,.int .i64 7] 40)).alloc (.cells #[.string ⟨#[100]⟩] 9)) 0 1 A ([[100]] : List (List UInt8)).length (strs [[100]]):=(hd.alloc _).alloc _
 have hl2 : Blk ((w4.alloc (.cells #[.slice A 1 c,.int .i64 7] 40)).alloc (.cells #[.string ⟨#[100]⟩] 9)) (w4.heap.size + 1) 9 #[.string ⟨#[100]⟩]:=Blk.at_ _ (by simp)
 have hq2 : Row ((w4.alloc (.cells #[.slice A 1 c,.int .i64 7] 40)).alloc (.cells #[.string ⟨#[100]⟩] 9)) 0 1 (some ⟨w4.heap.size + 1,0,none⟩) ([[100]] : List (List UInt8)).length (strs [[100]]):=Row.lit hl2 (Nat.zero_le _) rfl
 have heq:=equalS_any A (some ⟨w4.heap.size + 1,0,none⟩) c 1 0 0 [[100]] [[100]] _ hd2 hq2 (by decide) (by decide)
 rw [decide_eq_true rfl] at heq
 have HX5:=Lib.hid hx5
 clear hfm hd hb hx hx5 hd2 hl2 hq2
 go_wp2_with fail
 refine heq.mono ?_
 rintro e w5 ⟨rfl,q,rfl⟩
 clear heq
 go_wp2_with fail
 go_ret
 exact ⟨rfl,below_drewN' HX5.out q⟩
end Go.Proofs.YtjggbpchmbdocaaGreatDoor
/- An append onto a slice whose room is taken up ('x[:n:n]'): always a new row. -/
namespace Go.Proofs.YtjggbpchmbdocaaGreatDoor
open Go.RowKit

end Go.Proofs.YtjggbpchmbdocaaGreatDoor
/- choose, Learn's closures and Learn. -/
namespace Go.Proofs.YtjggbpchmbdocaaGreatDoor
open Go.RowKit

def StR (ob : Nat) (W : World) (A : Option Addr) (xs : List (List UInt8)) : Prop:=∀ W',W.grownBy W' (some ob) → Row W' 0 1 A xs.length (strs xs)
theorem StR.now {ob : Nat} {W : World} {A : Option Addr} {xs : List (List UInt8)} (h : StR ob W A xs) : Row W 0 1 A xs.length (strs xs):=h W (World.grownBy.refl _ _)
theorem StR.on {ob : Nat} {W W' : World} {A : Option Addr} {xs : List (List UInt8)} (h : StR ob W A xs) (hg : W.grownBy W' (some ob)) : StR ob W' A xs:=fun V hV => h V (grown_trans' hg hV)
theorem StR.of {ob : Nat} {W : World} {A : Option Addr} {xs : List (List UInt8)} {lo : Nat} (h : Row W lo 1 A xs.length (strs xs)) (hne : ∀ a,A = some a → a.block ≠ ob) : StR ob W A xs:=fun W' hg =>
 row_down0 (h.grown_x hg (fun a j ha hj => by injection hj with hj; rw [← hj]; exact hne a ha))
structure JL (w2 W : World) (mp qb fb ob : Nat) (most : Int) : Prop where
  b : Below w2.heap.size w2 W
  q : Blk W qb 3 #[.int .i64 most]
  f : Blk W fb 151 #[.func (.func 98) #[] #[.pointer (some ⟨mp, 0, none⟩), .pointer (some ⟨qb, 0, none⟩)]]
  o : ∃ OA on oc, Blk W ob 30 #[.slice OA on oc]
  z : w2.heap.size ≤ ob
  ne : qb ≠ ob ∧ fb ≠ ob
theorem JL.below {w2 W W' : World} {mp qb fb ob : Nat} {most : Int} (h : JL w2 W mp qb fb ob most) (hb : Below W.heap.size W W') : JL w2 W' mp qb fb ob most :=
 ⟨below_up h.b hb,h.q.below hb,h.f.below hb,let ⟨a,b,c,d⟩:=h.o; ⟨a,b,c,d.below hb⟩,h.z,h.ne⟩
end Go.Proofs.YtjggbpchmbdocaaGreatDoor
/- The walk of Learn. -/
namespace Go.Proofs.YtjggbpchmbdocaaGreatDoor
open Go.RowKit

end Go.Proofs.YtjggbpchmbdocaaGreatDoor
/- What Worths, Spare and Learn tell, plain: times fall with more tricks; what is spared costs nothing. -/
namespace Go.Proofs.YtjggbpchmbdocaaGreatDoor
open Go.RowKit

theorem exists_leastN {P : Nat → Prop} (h : ∃ n,P n) : ∃ n,P n ∧ ∀ m,P m → n ≤ m:=by
 obtain ⟨n,hn⟩:=h
 induction n using Nat.strongRecOn with
 | ind n ih =>
  by_cases c : ∃ m,m < n ∧ P m
  ·obtain ⟨m,h1,h2⟩:=c
   exact ih m h1 h2
  ·exact ⟨n,hn,fun m hm => Classical.byContradiction fun h => c ⟨m,by omega,hm⟩⟩
theorem LeastT.exists {nx : StE → List (Nat × StE)} {ef : StE → Bool} {tm : Nat → Int} (ht : ∀ x p,p ∈ nx x → 1 ≤ tm p.1) (x : StE) : ∃ v,LeastT nx ef tm x v:=by
 by_cases c : ∃ t d ks,WayX nx ef tm x t d ks
 ·obtain ⟨t,d,ks,hw⟩:=c
  have h0:=(hw.nn ht).1
  obtain ⟨n,⟨d',ks',hn⟩,hl⟩:=exists_leastN (P:=fun n => ∃ d ks,WayX nx ef tm x (n : Int) d ks) ⟨t.toNat,d,ks,by rw [Int.toNat_of_nonneg h0]; exact hw⟩
  refine ⟨(n : Int),.inr ⟨by omega,⟨d',ks',hn⟩,fun t' d2 ks2 hw2 => ?_⟩⟩
  have h1:=(hw2.nn ht).1
  have:=hl t'.toNat ⟨d2,ks2,by rw [Int.toNat_of_nonneg h1]; exact hw2⟩
  omega
 ·exact ⟨-1,.inl ⟨rfl,fun t d ks hw => c ⟨t,d,ks,hw⟩⟩⟩
theorem LeastT.mono {nx nx' : StE → List (Nat × StE)} {ef : StE → Bool} {tm : Nat → Int} {x : StE} {a b : Int} (hs : ∀ x p,p ∈ nx x → p ∈ nx' x) (ha : LeastT nx ef tm x a) (hb : LeastT nx' ef tm x b) (h0 : 0 ≤ a) : 0 ≤ b ∧ b ≤ a:=by
 rcases ha with ⟨rfl,_⟩ | ⟨_,⟨d,ks,hw⟩,_⟩
 ·omega
 ·have hw':=hw.mono hs
  rcases hb with ⟨rfl,h1⟩ | ⟨h1,_,h2⟩
  ·exact absurd hw' (h1 _ _ _)
  ·exact ⟨h1,h2 _ _ _ hw'⟩
section
variable {rs : List RoomE} {ds : List DoorE} {st gl : List UInt8}
theorem nxX_tm (hR : Right rs ds st gl) {T tr : List (List UInt8)} {wo : List UInt8} {sf : StE → StE} (x : StE) (p : Nat × StE) (h : p ∈ nxX rs T ds tr wo sf x) : 1 ≤ tmX ds p.1 ∧ tmX ds p.1 ≤ 864000000:=by
 obtain ⟨hk,_⟩:=nxX_mem h
 unfold tmX; rw [getD_door hk]; exact hR.time _ (List.getElem_mem hk)
theorem timeT_is (hR : Right rs ds st gl) (l : List (List UInt8)) : LeastT (nxX rs (onceT (allT rs ds)) ds l [] id) (goalX rs gl) (tmX ds) (st0 rs (onceT (allT rs ds)) st) (timeT rs ds st gl l):=by
 obtain ⟨v,hv⟩:=LeastT.exists (nx:=nxX rs (onceT (allT rs ds)) ds l [] id) (ef:=goalX rs gl) (tm:=tmX ds) (fun x p h => (nxX_tm hR x p h).1) (st0 rs (onceT (allT rs ds)) st)
 have : timeT rs ds st gl l = v:=timeF_eq hv
 rw [this]; exact hv
theorem FaQ.time (hR : Right rs ds st gl) {tr K : List (List UInt8)} {t : Int} {is : Bool} (h : FaQ rs ds (onceT (allT rs ds)) tr st gl K t is) : timeT rs ds st gl tr = if is then t else -1:=(timeT_is hR tr).uniq h.least
theorem lessL_in {l : List (List UInt8)} {s x : List UInt8} : x ∈ lessL l s ↔ x ∈ l ∧ x ≠ s:=by
 unfold lessL
 rw [List.mem_filter]
 simp
structure SpI (f : List (List UInt8) → Int) (tr : List (List UInt8)) (ol : List (List UInt8) × List (List UInt8)) : Prop where
  mem : ∀ x, x ∈ ol.2 ↔ x ∈ tr ∧ x ∉ ol.1
  all : f ol.2 = f tr
  sp : ∀ s ∈ ol.1, f (lessL tr s) = f tr
  left : ol.2 = tr.filter (fun x => !decide (x ∈ ol.1))
theorem SpI.next {f : List (List UInt8) → Int} {tr : List (List UInt8)} (hmono : ∀ l l' : List (List UInt8),(∀ s ∈ l,s ∈ l') → 0 ≤ f l → 0 ≤ f l' ∧ f l' ≤ f l) (h0 : 0 ≤ f tr) {ol : List (List UInt8) × List (List UInt8)} (h : SpI f tr ol) (s : List UInt8) : SpI f tr (spareS f (f tr) ol s):=by
 obtain ⟨out,left⟩:=ol
 obtain ⟨i1,i2,i3,i4⟩:=h
 simp only at i1 i2 i3 i4
 unfold spareS
 simp only
 by_cases c : f (lessL left s) = f tr
 ·rw [if_pos c]
  have hsub : ∀ x ∈ lessL left s,x ∈ lessL tr s:=fun x hx => by
   rw [lessL_in] at hx ⊢
   exact ⟨((i1 x).1 hx.1).1,hx.2⟩
  refine ⟨fun x => ?_,c,fun x hx => ?_,?_⟩
  ·simp only
   rw [lessL_in,i1,List.mem_append,List.mem_singleton]
   constructor
   ·rintro ⟨⟨h1,h2⟩,h3⟩; exact ⟨h1,fun h => h.elim h2 h3⟩
   ·rintro ⟨h1,h2⟩; exact ⟨⟨h1,fun h => h2 (.inl h)⟩,fun h => h2 (.inr h)⟩
  ·rcases List.mem_append.1 hx with hx | hx
   ·exact i3 x hx
   ·rw [List.mem_singleton] at hx
    subst hx
    have a1:=hmono _ _ hsub (by rw [c]; exact h0)
    have a2:=hmono (lessL tr x) tr (fun y hy => (lessL_in.1 hy).1) a1.1
    omega
  ·simp only
   rw [i4]
   unfold lessL
   rw [List.filter_filter]
   refine List.filter_congr fun x _ => ?_
   by_cases e1 : x ∈ out <;> by_cases e2 : x = s <;> simp [e1,e2]
 ·rw [if_neg c]
  exact ⟨i1,i2,i3,i4⟩
end
end Go.Proofs.YtjggbpchmbdocaaGreatDoor
