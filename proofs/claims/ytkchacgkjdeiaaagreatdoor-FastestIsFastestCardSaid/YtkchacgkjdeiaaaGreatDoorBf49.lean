/- Texts of this seat, laid together: HpL ReadyN. -/
import Derived.Test.YtkchacgkjdeiaaaGreatDoorBf46
import Derived.Test.YtkchacgkjdeiaaaGreatDoorBf48
import Derived.Test.YtkchacgkjdeiaaaGreatDoorBf19
import Derived.Test.YtkchacgkjdeiaaaGreatDoorBf31
import Derived.Test.YtkchacgkjdeiaaaGreatDoorBf04
/- What the laws on ways want, plain: more tricks are no slower, a path is a walk, no walk is faster. -/
set_option linter.unusedVariables false
set_option linter.unusedSimpArgs false
namespace Go.Proofs.YtkchacgkjdeiaaaGreatDoor
open Go.RowKit

section
variable {rs : List RoomE} {ds : List DoorE} {T : List (List UInt8)} {tr tr' : List (List UInt8)} {st gl : List UInt8} {n n' : Nat} {r r' : PathR}
theorem path_mono (h : PathOk (nxX rs T ds tr [] id) (goalX rs gl) (tmX ds) (st0 rs T st) n r) (h' : PathOk (nxX rs T ds tr' [] id) (goalX rs gl) (tmX ds) (st0 rs T st) n' r') (hs : ∀ s ∈ tr,s ∈ tr') (hi : r.is = true) : r'.is = true ∧ r'.t ≤ r.t:=by
 obtain ⟨⟨d,hw⟩,_,_,_⟩:=h.yes hi;have hw':=hw.mono (nx':=nxX rs T ds tr' [] id) (fun x p => nxX_mono hs x p)
 cases hx : r'.is with
 | false => exact absurd hw' ((h'.no hx).2 _ _ _)
 | true => exact ⟨rfl,(h'.yes hx).2.1 _ _ _ hw'⟩
theorem path_walks (h : PathOk (nxX rs T ds tr [] id) (goalX rs gl) (tmX ds) (st0 rs T st) n r) (hE : tricksE rs ds st gl tr = 0) (hT : onceT (allT rs ds) = T) (hn : n ≤ 500) (hi : r.is = true) : ∃ th,walkE rs ds st gl tr (r.ks.map (keyX ds)) = ⟨0,gl,th,r.t⟩:=by
 obtain ⟨⟨d,hw⟩,_,_,hl⟩:=h.yes hi;have hR:=right_of (tricks_right hE);rw [st0_once] at hw;obtain ⟨th,e⟩:=way_walk hR hT hw st (onceT (givesOf rs st)) 0 hR.st rfl;refine ⟨th,?_⟩;unfold walkE walkF;rw [if_neg (by simp [hE]),if_neg (by rw [List.length_map]; omega),e,Int.zero_add]
theorem walk_slow (h : PathOk (nxX rs T ds tr [] id) (goalX rs gl) (tmX ds) (st0 rs T st) n r) (hE : tricksE rs ds st gl tr = 0) (hT : onceT (allT rs ds) = T) {l : List (List UInt8)} (he : (walkE rs ds st gl tr l).err = 0) (hr : (walkE rs ds st gl tr l).room = gl) : r.is = true → r.t ≤ (walkE rs ds st gl tr l).time:=by
 intro hi;have hR:=right_of (tricks_right hE)
 have e : walkE rs ds st gl tr l = ⟨0,gl,(walkE rs ds st gl tr l).th,(walkE rs ds st gl tr l).time⟩:=by
  conv => lhs; rw [show walkE rs ds st gl tr l = ⟨(walkE rs ds st gl tr l).err,(walkE rs ds st gl tr l).room,(walkE rs ds st gl tr l).th,(walkE rs ds st gl tr l).time⟩ from rfl]
  rw [he,hr]
 have e2 : walkS rs ds tr l st (onceT (givesOf rs st)) 0 = walkE rs ds st gl tr l:=by
  unfold walkE walkF;rw [if_neg (by simp [hE])]
  by_cases c : 500 < l.length
  ·exfalso
   unfold walkE walkF at he;rw [if_neg (by simp [hE]),if_pos c] at he
   cases he
  ·rw [if_neg c]
 rw [e] at e2;obtain ⟨_,t,d,ks,hw,hle⟩:=walk_way hR hT l st (onceT (givesOf rs st)) _ 0 _ hR.st e2;rw [← st0_once] at hw;have:=(h.yes hi).2.1 _ _ _ hw;omega
theorem walk_is (h : PathOk (nxX rs T ds tr [] id) (goalX rs gl) (tmX ds) (st0 rs T st) n r) (hE : tricksE rs ds st gl tr = 0) (hT : onceT (allT rs ds) = T) {l : List (List UInt8)} (he : (walkE rs ds st gl tr l).err = 0) (hr : (walkE rs ds st gl tr l).room = gl) : r.is = true:=by
 have hR:=right_of (tricks_right hE)
 have e : walkE rs ds st gl tr l = ⟨0,gl,(walkE rs ds st gl tr l).th,(walkE rs ds st gl tr l).time⟩:=by
  conv => lhs; rw [show walkE rs ds st gl tr l = ⟨(walkE rs ds st gl tr l).err,(walkE rs ds st gl tr l).room,(walkE rs ds st gl tr l).th,(walkE rs ds st gl tr l).time⟩ from rfl]
  rw [he,hr]
 have e2 : walkS rs ds tr l st (onceT (givesOf rs st)) 0 = walkE rs ds st gl tr l:=by
  unfold walkE walkF;rw [if_neg (by simp [hE])]
  by_cases c : 500 < l.length
  ·exfalso
   unfold walkE walkF at he;rw [if_neg (by simp [hE]),if_pos c] at he
   cases he
  ·rw [if_neg c]
 rw [e] at e2;obtain ⟨_,t,d,ks,hw,hle⟩:=walk_way hR hT l st (onceT (givesOf rs st)) _ 0 _ hR.st e2;rw [← st0_once] at hw
 cases hx : r.is with
 | true => rfl
 | false => exact absurd hw ((h.no hx).2 _ _ _)
end
def FaQ (rs : List RoomE) (ds : List DoorE) (T tr : List (List UInt8)) (st gl : List UInt8) (K : List (List UInt8)) (t : Int) (is : Bool) : Prop :=
 ∃ r : PathR,PathOk (nxX rs T ds tr [] id) (goalX rs gl) (tmX ds) (st0 rs T st) (nS rs T) r ∧ K = r.ks.map (keyX ds) ∧ t = r.t ∧ is = r.is
theorem pathOk_len {nx : StE → List (Nat × StE)} {ef : StE → Bool} {tm : Nat → Int} {x : StE} {n : Nat} {r : PathR} (h : PathOk nx ef tm x n r) : r.ks.length ≤ n:=by
 cases hi : r.is with
 | false => rw [(h.no hi).1]; exact Nat.zero_le _
 | true => exact (h.yes hi).2.2.2
section
variable {rs : List RoomE} {ds : List DoorE} {T : List (List UInt8)} {tr tr' : List (List UInt8)} {st gl : List UInt8} {K K' l : List (List UInt8)} {t t' : Int} {is is' : Bool}
theorem FaQ.len (h : FaQ rs ds T tr st gl K t is) : K.length ≤ nS rs T:=by
 obtain ⟨r,h1,rfl,_,_⟩:=h;rw [List.length_map]; exact pathOk_len h1
theorem FaQ.mono (h : FaQ rs ds T tr st gl K t is) (h' : FaQ rs ds T tr' st gl K' t' is') (hs : ∀ s ∈ tr,s ∈ tr') (hi : is = true) : is' = true ∧ t' ≤ t:=by
 obtain ⟨r,h1,_,rfl,rfl⟩:=h;obtain ⟨r',h1',_,rfl,rfl⟩:=h';exact path_mono h1 h1' hs hi
theorem FaQ.walks (h : FaQ rs ds T tr st gl K t is) (hE : tricksE rs ds st gl tr = 0) (hT : onceT (allT rs ds) = T) (hn : nS rs T ≤ 500) (hi : is = true) : ∃ th,walkE rs ds st gl tr K = ⟨0,gl,th,t⟩:=by
 obtain ⟨r,h1,rfl,rfl,rfl⟩:=h;exact path_walks h1 hE hT hn hi
theorem FaQ.slow (h : FaQ rs ds T tr st gl K t is) (hE : tricksE rs ds st gl tr = 0) (hT : onceT (allT rs ds) = T) (he : (walkE rs ds st gl tr l).err = 0) (hr : (walkE rs ds st gl tr l).room = gl) : is = true ∧ t ≤ (walkE rs ds st gl tr l).time:=by
 obtain ⟨r,h1,rfl,rfl,rfl⟩:=h;have:=walk_is h1 hE hT he hr;exact ⟨this,walk_slow h1 hE hT he hr this⟩
theorem FaQ.zero (h : FaQ rs ds T tr st gl K t is) (hi : is = false) : K = [] ∧ t = 0:=by
 obtain ⟨r,h1,rfl,rfl,rfl⟩:=h;rw [(h1.no hi).1]; exact ⟨rfl,rfl⟩
theorem FaQ.least (h : FaQ rs ds T tr st gl K t is) : LeastT (nxX rs T ds tr [] id) (goalX rs gl) (tmX ds) (st0 rs T st) (if is then t else -1):=by
 obtain ⟨r,h1,rfl,rfl,rfl⟩:=h
 cases hi : r.is with
 | false => exact .inl ⟨rfl,(h1.no hi).2⟩
 | true =>
  obtain ⟨⟨d,hw⟩,h2,h3,_⟩:=h1.yes hi;exact .inr ⟨h3,⟨d,_,hw⟩,h2⟩
end
theorem Fastest_ok (lo ca cd lo2 c2 : Nat) (A : Option Addr) (rs : List RoomE) (D : Option Addr) (ds : List DoorE) (st gl : List UInt8) (TR : Option Addr) (tr : List (List UInt8)) (w : World) (hA : MapW w lo A rs D ds) (hr : Row w lo2 1 TR tr.length (strs tr)) (hrl : tr.length ≤ 1000000000) (hE : tricksE rs ds st gl tr = 0) :
  Calls Tryz.prog 58 #[mapV A rs ca D ds cd st gl,.slice TR tr.length c2] w fun e w' => ∃ (K : List (List UInt8)) (t : Int) (is : Bool) (B : Option Addr) (c : Nat),e = .returned (.tuple #[.agg #[.slice B K.length c,.int .i64 t],.bool is,.int .i64 0]) ∧ FaQ rs ds (onceT (allT rs ds)) tr st gl K t is ∧ w'.ownsRow w.heap.size 9 1 (.slice B K.length c) K.length (strs K) ∧ Below w.heap.size w w':=by
 refine (Fastest_any lo ca cd lo2 c2 A rs D ds st gl TR tr w hA hr hrl).mono ?_;rintro e w' ⟨r,B,c,_,hok,rfl,hown,hb⟩;refine ⟨r.ks.map (keyX ds),r.t,r.is,B,c,by rw [hE,List.length_map],⟨r,hok hE,rfl,rfl,rfl⟩,by rw [List.length_map]; exact hown,hb⟩
structure LrI (w W : World) (lo mb N : Nat) (A : Option Addr) (ca : Nat) (rs : List RoomE) (D : Option Addr) (cd : Nat) (ds : List DoorE) (st gl : List UInt8) (TR : Option Addr) (tr : List (List UInt8)) : Prop where
  m : MapW W lo A rs D ds
  t : Row W lo 1 TR tr.length (strs tr)
  b : Blk W mb 140 #[.slice A rs.length ca, .slice D ds.length cd, .string ⟨st.toArray⟩, .string ⟨gl.toArray⟩]
  s : Str W w.heap.size N
  x : Below w.heap.size w W
section
variable {w W W' : World} {lo mb N : Nat} {A : Option Addr} {ca : Nat} {rs : List RoomE} {D : Option Addr} {cd : Nat} {ds : List DoorE} {st gl : List UInt8} {TR : Option Addr} {tr : List (List UInt8)}
theorem LrI.below (h : LrI w W lo mb N A ca rs D cd ds st gl TR tr) (hb : Below W.heap.size W W') : LrI w W' lo mb N A ca rs D cd ds st gl TR tr :=
 ⟨h.m.below hb,h.t.below hb,h.b.below hb,h.s.keep hb,below_up h.x hb⟩
theorem LrI.alloc (h : LrI w W lo mb N A ca rs D cd ds st gl TR tr) (o : Obj) : LrI w (W.alloc o) lo mb N A ca rs D cd ds st gl TR tr:=h.below ((Below.refl _ _).alloc (Nat.le_refl _) o)
theorem LrI.drew (h : LrI w W lo mb N A ca rs D cd ds st gl TR tr) : LrI w W.drew lo mb N A ca rs D cd ds st gl TR tr:=h.below (below_drewN' (Below.refl _ _) 1)
theorem LrI.drewN (h : LrI w W lo mb N A ca rs D cd ds st gl TR tr) (k : Nat) : LrI w (W.drewN k) lo mb N A ca rs D cd ds st gl TR tr:=h.below (below_drewN' (Below.refl _ _) k)
theorem LrI.cells (h : LrI w W lo mb N A ca rs D cd ds st gl TR tr) : W.cell? ⟨mb,0,none⟩ = some (.slice A rs.length ca) ∧ W.cell? ⟨mb,1,none⟩ = some (.slice D ds.length cd) ∧ W.cell? ⟨mb,2,none⟩ = some (.string ⟨st.toArray⟩) ∧ W.cell? ⟨mb,3,none⟩ = some (.string ⟨gl.toArray⟩):=⟨h.b.cell 0,h.b.cell 1,h.b.cell 2,h.b.cell 3⟩
theorem LrI.grown {M : Nat} (h : LrI w W lo mb N A ca rs D cd ds st gl TR tr) (hg : W.grownBy W' (some w.heap.size)) (hs : Str W' w.heap.size M) (hl : w.heap.size < lo) (hm : w.heap.size < mb) : LrI w W' lo mb M A ca rs D cd ds st gl TR tr :=
 ⟨h.m.grown hg hl,h.t.grown hg hl,h.b.grown hg (by omega),hs,h.x.grown hg (by have:=h.x.size; omega) (fun k hk => by injection hk with hk; omega)⟩
end
end Go.Proofs.YtkchacgkjdeiaaaGreatDoor
/- The walk of ready, by Fastest's contract at any map. -/
namespace Go.Proofs.YtkchacgkjdeiaaaGreatDoor
open Go.RowKit

def rsF : List RoomE:=[⟨[97],[],none,0⟩,⟨[98],[],none,0⟩]
def dsF : List DoorE:=[⟨[100],[97],[98],7,[],[],[],none,0,none,0⟩]
theorem mapW_fxN {w : World} {R D : Nat} (h : FM w R D) : MapW w 0 (some ⟨R,0,none⟩) rsF (some ⟨D,0,none⟩) dsF:=by
 refine ⟨Row.lit (n:=2) (size:=2) h.rooms (Nat.zero_le _) rfl,Row.lit (n:=1) (size:=7) h.doors (Nat.zero_le _) rfl,fun r hr => ?_,fun d hd => ?_,fun d hd => ?_,?_⟩
 ·simp only [rsF,List.mem_cons,List.not_mem_nil,or_false] at hr
  rcases hr with rfl | rfl <;> exact ⟨Row.none_ _ _ _ _,Nat.le_refl _⟩
 ·simp only [dsF,List.mem_cons,List.not_mem_nil,or_false] at hd
  subst hd; exact ⟨Row.none_ _ _ _ _,Nat.le_refl _⟩
 ·simp only [dsF,List.mem_cons,List.not_mem_nil,or_false] at hd
  subst hd; exact ⟨Row.none_ _ _ _ _,Nat.le_refl _⟩
 ·refine ⟨?_,?_,?_,?_,?_,?_,?_,?_⟩ <;> simp [rsF,dsF]
  exact ⟨by decide,by decide⟩
theorem tricksE_fxN : tricksE rsF dsF [97] [98] [] = 0:=by
 have e1 : onceT (allT rsF dsF) = []:=by rw [show allT rsF dsF = [] from rfl]; exact once_self (by simp)
 have e2 : onceT (allK dsF) = []:=by rw [show allK dsF = [] from rfl]; exact once_self (by simp)
 have e3 : roomsE rsF = 0:=by decide
 have e4 : doorsE rsF dsF = 0:=by decide
 have e5 : mapE rsF dsF [97] [98] = 0:=by
  unfold mapE;rw [if_neg (by rw [e3]; simp),if_neg (by rw [e4]; simp),if_neg (by decide),e1,e2]; rfl
 unfold tricksE;rw [if_neg (by rw [e5]; simp)]; rfl
theorem walk_fxN {K : List (List UInt8)} {th th' : List (List UInt8)} {t : Int} (h : walkS rsF dsF [] K [97] th 0 = ⟨0,[98],th',t⟩) : K.length = 1 ∧ t = 7:=by
 cases K with
 | nil => simp [walkS] at h
 | cons k K =>
  by_cases hk : k = [100]
  ·subst hk
   rw [show walkS rsF dsF [] ([100] :: K) [97] th 0 = walkS rsF dsF [] K [98] (thru rsF th ⟨[100],[97],[98],7,[],[],[],none,0,none,0⟩) 7 by simp [walkS,dsF,goE]] at h
   cases K with
   | nil => simp [walkS] at h; exact ⟨rfl,h.2.symm⟩
   | cons k K =>
    by_cases hk : k = [100]
    ·subst hk; simp [walkS,dsF,goE,wkBad] at h
    ·have : ¬ [100] = k:=fun e => hk e.symm
     simp [walkS,dsF,this,wkBad] at h
  ·have : ¬ [100] = k:=fun e => hk e.symm
   simp [walkS,dsF,this,wkBad] at h
theorem Fastest_fxN (R D : Nat) (w : World) (hf : FM w R D) : Calls Tryz.prog 58 #[.agg #[.slice (some ⟨R,0,none⟩) 2 2,.slice (some ⟨D,0,none⟩) 1 1,.string ⟨#[97]⟩,.string ⟨#[98]⟩],.slice none 0 0] w fun e w' => ∃ A c,e = .returned (.tuple #[.agg #[.slice A 1 c,.int .i64 7],.bool true,.int .i64 0]) ∧ Below w.heap.size w w':=by
 refine (Fastest_ok 0 2 1 0 0 _ rsF _ dsF [97] [98] none [] w (mapW_fxN hf) (Row.none_ _ _ _ _) (by simp) tricksE_fxN).mono ?_;rintro e w' ⟨K,t,is,B,c,rfl,hq,_,hb⟩
 have hT : onceT (allT rsF dsF) = []:=by rw [show allT rsF dsF = [] from rfl]; exact once_self (by simp)
 have hw : walkE rsF dsF [97] [98] [] [[100]] = ⟨0,[98],thru rsF (onceT (givesOf rsF [97])) ⟨[100],[97],[98],7,[],[],[],none,0,none,0⟩,7⟩:=by
  unfold walkE walkF;rw [if_neg (by rw [tricksE_fxN]; simp),if_neg (by simp)]
  simp [walkS,dsF,goE]
 obtain ⟨hi,_⟩:=hq.slow tricksE_fxN rfl (l:=[[100]]) (by rw [hw]) (by rw [hw]);subst hi;obtain ⟨th,hk⟩:=hq.walks tricksE_fxN rfl (by rw [hT]; decide) rfl;unfold walkE walkF at hk;rw [if_neg (by rw [tricksE_fxN]; simp)] at hk
 by_cases c : 500 < K.length
 ·rw [if_pos c] at hk; simp [wkBad] at hk
 ·rw [if_neg c] at hk
  obtain ⟨e1,e2⟩:=walk_fxN hk;rw [e1,e2];exact ⟨B,_,rfl,hb⟩
set_option maxHeartbeats 4000000 in
set_option maxRecDepth 100000 in
theorem ready_any (w : World) : Calls Tryz.prog 23 #[] w fun e w' => e = .returned (.bool true) ∧ Below w.heap.size w w':=by
 have H1:=Lib.hid pressR_ex;have H2:=Lib.hid pressE_ex;have H3:=Lib.hid film_ex;have H4:=Lib.hid time_ex
 go_enter Tryz.func23,Tryz.ntmps23
 go_wp2_with fail
 have hx0 : Below w.heap.size w (((((w.alloc (.cells #[.string ⟨#[97]⟩,.string ⟨#[98]⟩] 9)).alloc (.cells #[.int .i64 10,.int .i64 25] 3)).alloc (.cells #[.int .i64 0,.int .i64 20] 3)).alloc (.cells #[.int .i64 9] 3)).alloc (.cells #[.int .i64 1,.slice (some ⟨w.heap.size + 1,0,none⟩) 2 2,.int .i64 2,.slice (some ⟨w.heap.size + 1 + 1,0,none⟩) 2 2,.int .i64 3,.slice (some ⟨w.heap.size + 1 + 1 + 1,0,none⟩) 1 1] 116)):=(by repeat (first | exact Below.refl _ _ | refine Below.alloc ?_ (by first | omega | (simp; omega) | simp) _ | refine below_drewN' ?_ _ | refine Below.drew ?_))
 refine (ex_sumOfBest (W:=(((((w.alloc (.cells #[.string ⟨#[97]⟩,.string ⟨#[98]⟩] 9)).alloc (.cells #[.int .i64 10,.int .i64 25] 3)).alloc (.cells #[.int .i64 0,.int .i64 20] 3)).alloc (.cells #[.int .i64 9] 3)).alloc (.cells #[.int .i64 1,.slice (some ⟨w.heap.size + 1,0,none⟩) 2 2,.int .i64 2,.slice (some ⟨w.heap.size + 1 + 1,0,none⟩) 2 2,.int .i64 3,.slice (some ⟨w.heap.size + 1 + 1 + 1,0,none⟩) 1 1] 116))) (((((Blk.at_ _ rfl).alloc _).alloc _).alloc _).alloc _) ((((Blk.at_ _ (by simp)).alloc _).alloc _).alloc _) (((Blk.at_ _ (by simp)).alloc _).alloc _) ((Blk.at_ _ (by simp)).alloc _) (Blk.at_ _ (by simp))).mono ?_;rintro e w1 ⟨rfl,hb⟩;have hx:=below_up hx0 hb;clear hb hx0;go_wp2_with fail;refine (presses_any _ _ w1.heap.size [(1,3),(0,1),(1,1)] 1 _ (by first | exact row_new' _ (by first | rfl | simp) (by first | omega | (simp; omega)) rfl | exact row_newN _ _ (by first | rfl | simp) (by first | omega | (simp; omega)) rfl | exact row_newD _ (by first | rfl | simp) (by first | omega | (simp; omega)) rfl) (by decide)).mono ?_;rintro e w2 ⟨rfl,hb⟩;have hx:=below_up (hx.alloc hx.size _) hb;clear hb;rw [H1.out,H2.out];go_wp2_with fail;have hr1:=(row_new w2 #[.int .i64 100,.int .i64 60,.int .i64 1] 124 w2.heap.size 3 1 (Nat.le_refl _) rfl).alloc (.cells #[.int .i64 10,.int .i64 1,.int .i64 70,.int .i64 2] 127);have hr2:=row_new (w2.alloc (.cells #[.int .i64 100,.int .i64 60,.int .i64 1] 124)) #[.int .i64 10,.int .i64 1,.int .i64 70,.int .i64 2] 127 0 2 2 (Nat.zero_le _) rfl;rw [World.size_alloc] at hr2;refine (timed_any w2.heap.size 0 _ _ _ _ [(100,60,1)] [(10,1),(70,2)] _ hr1 hr2 (by decide) (by decide) (by decide)).mono ?_;rintro e w3 ⟨rfl,hb⟩;have hx:=below_up (show Below w.heap.size w ((w2.alloc (.cells #[.int .i64 100,.int .i64 60,.int .i64 1] 124)).alloc (.cells #[.int .i64 10,.int .i64 1,.int .i64 70,.int .i64 2] 127)) by have:=hx.size; exact (hx.alloc this _).alloc (by simp; omega) _) hb;rw [H3.out,H4.out];clear hb hr1 hr2;go_wp2_with fail
 have hfm : FM ((w3.alloc (.cells #[.string ⟨#[97]⟩,.slice none 0 0,.string ⟨#[98]⟩,.slice none 0 0] 134)).alloc (.cells #[.string ⟨#[100]⟩,.string ⟨#[97]⟩,.string ⟨#[98]⟩,.int .i64 7,.slice none 0 0,.slice none 0 0,.string ⟨#[]⟩] 137)) w3.heap.size (w3.heap.size + 1):=⟨(Blk.at_ _ rfl).alloc _,Blk.at_ _ (by simp)⟩
 refine (Fastest_fxN _ _ _ hfm).mono ?_;rintro e w4 ⟨A,c,rfl,hb⟩;have hx:=below_up (show Below w.heap.size w ((w3.alloc (.cells #[.string ⟨#[97]⟩,.slice none 0 0,.string ⟨#[98]⟩,.slice none 0 0] 134)).alloc (.cells #[.string ⟨#[100]⟩,.string ⟨#[97]⟩,.string ⟨#[98]⟩,.int .i64 7,.slice none 0 0,.slice none 0 0,.string ⟨#[]⟩] 137)) by have:=hx.size; exact (hx.alloc this _).alloc (by simp; omega) _) hb;clear hb hfm;go_wp2_with fail;go_ret;exact ⟨rfl,hx.alloc hx.size _⟩
end Go.Proofs.YtkchacgkjdeiaaaGreatDoor
