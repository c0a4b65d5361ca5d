/- Texts of this seat, laid together: HpL MkC MkP MkF ReadyN. -/
import Derived.Test.YtpialnjfdbfkdaaGreatDoorBs40
import Derived.Test.YtpialnjfdbfkdaaGreatDoorBs27
import Derived.Test.YtpialnjfdbfkdaaGreatDoorBs26
import Derived.Test.YtpialnjfdbfkdaaGreatDoorBs04
import Derived.Test.YtpialnjfdbfkdaaGreatDoorBs13
import Derived.Test.YtpialnjfdbfkdaaGreatDoorBs20
/- What the laws on ways want, plain: more tricks are no slower, a path is a walk, no walk is faster. -/
set_option linter.unusedVariables false
set_option linter.unusedSimpArgs false
namespace Go.Proofs.YtpialnjfdbfkdaaGreatDoor
open Go.RowKit

theorem few_G {rs : List RoomE} {ds : List DoorE} (hr : RoomsG rs) (hd : DoorsG rs.length ds) : (onceT (allT rs ds)).length ≤ 3:=by
 have hT : thingsL.Pairwise (· < ·):=by decide
 exact once_short (T:=thingsL) hT (fun x hx => by
  rcases List.mem_append.1 hx with h | h
  ·obtain ⟨r,hr',hx'⟩:=List.mem_flatMap.1 h
   obtain ⟨k,hk,rfl⟩:=List.mem_iff_getElem.1 hr'
   exact (hr k hk).2.subset hx'
  ·obtain ⟨d,hd',hx'⟩:=List.mem_flatMap.1 h
   obtain ⟨k,hk,rfl⟩:=List.mem_iff_getElem.1 hd'
   rcases List.mem_append.1 hx' with h1 | h1
   ·exact (hd k hk).needs.subset h1
   ·exact (hd k hk).takes.subset h1)
theorem T_inG {rs : List RoomE} {ds : List DoorE} (hr : RoomsG rs) (hd : DoorsG rs.length ds) : ∀ x ∈ onceT (allT rs ds),x ∈ thingsL:=fun x hx => by
 rw [(onceT_spec _).2] at hx
 rcases List.mem_append.1 hx with h | h
 ·obtain ⟨r,hr',hx'⟩:=List.mem_flatMap.1 h
  obtain ⟨k,hk,rfl⟩:=List.mem_iff_getElem.1 hr'
  exact (hr k hk).2.subset hx'
 ·obtain ⟨d,hd',hx'⟩:=List.mem_flatMap.1 h
  obtain ⟨k,hk,rfl⟩:=List.mem_iff_getElem.1 hd'
  rcases List.mem_append.1 hx' with h1 | h1
  ·exact (hd k hk).needs.subset h1
  ·exact (hd k hk).takes.subset h1
theorem nS_few {rs : List RoomE} {T : List (List UInt8)} (hr : rs.length ≤ 5) (hT : T.length ≤ 3) : nS rs T ≤ 240:=by
 unfold nS
 have h1 : 2 ^ T.length ≤ 2 ^ 3:=Nat.pow_le_pow_right (by decide) hT
 have h2 : rs.length * 2 ^ T.length ≤ 5 * 8:=Nat.mul_le_mul hr h1
 omega
section
variable {rs : List RoomE} {ds : List DoorE} {T : List (List UInt8)} {tr tr' : List (List UInt8)} {st gl : List UInt8} {n n' : Nat} {r r' : PathR}
theorem path_mono (h : PathOk (nxX rs T ds tr [] id) (goalX rs gl) (tmX ds) (st0 rs T st) n r) (h' : PathOk (nxX rs T ds tr' [] id) (goalX rs gl) (tmX ds) (st0 rs T st) n' r') (hs : ∀ s ∈ tr,s ∈ tr') (hi : r.is = true) : r'.is = true ∧ r'.t ≤ r.t:=by
 obtain ⟨⟨d,hw⟩,_,_,_⟩:=h.yes hi
 have hw':=hw.mono (nx':=nxX rs T ds tr' [] id) (fun x p => nxX_mono hs x p)
 cases hx : r'.is with
 | false => exact absurd hw' ((h'.no hx).2 _ _ _)
 | true => exact ⟨rfl,(h'.yes hx).2.1 _ _ _ hw'⟩
theorem path_walks (h : PathOk (nxX rs T ds tr [] id) (goalX rs gl) (tmX ds) (st0 rs T st) n r) (hE : tricksE rs ds st gl tr = 0) (hT : onceT (allT rs ds) = T) (hn : n ≤ 500) (hi : r.is = true) : ∃ th,walkE rs ds st gl tr (r.ks.map (keyX ds)) = ⟨0,gl,th,r.t⟩:=by
 obtain ⟨⟨d,hw⟩,_,_,hl⟩:=h.yes hi
 have hR:=right_of (tricks_right hE)
 rw [st0_once] at hw
 obtain ⟨th,e⟩:=way_walk hR hT hw st (onceT (givesOf rs st)) 0 hR.st rfl
 refine ⟨th,?_⟩
 unfold walkE walkF
 rw [if_neg (by simp [hE]),if_neg (by rw [List.length_map]; omega),e,Int.zero_add]
theorem walk_slow (h : PathOk (nxX rs T ds tr [] id) (goalX rs gl) (tmX ds) (st0 rs T st) n r) (hE : tricksE rs ds st gl tr = 0) (hT : onceT (allT rs ds) = T) {l : List (List UInt8)} (he : (walkE rs ds st gl tr l).err = 0) (hr : (walkE rs ds st gl tr l).room = gl) : r.is = true → r.t ≤ (walkE rs ds st gl tr l).time:=by
 intro hi
 have hR:=right_of (tricks_right hE)
 have e : walkE rs ds st gl tr l = ⟨0,gl,(walkE rs ds st gl tr l).th,(walkE rs ds st gl tr l).time⟩:=by
  conv => lhs; rw [show walkE rs ds st gl tr l = ⟨(walkE rs ds st gl tr l).err,(walkE rs ds st gl tr l).room,(walkE rs ds st gl tr l).th,(walkE rs ds st gl tr l).time⟩ from rfl]
  rw [he,hr]
 have e2 : walkS rs ds tr l st (onceT (givesOf rs st)) 0 = walkE rs ds st gl tr l:=by
  unfold walkE walkF
  rw [if_neg (by simp [hE])]
  by_cases c : 500 < l.length
  ·exfalso
   unfold walkE walkF at he
   rw [if_neg (by simp [hE]),if_pos c] at he
   cases he
  ·rw [if_neg c]
 rw [e] at e2
 obtain ⟨_,t,d,ks,hw,hle⟩:=walk_way hR hT l st (onceT (givesOf rs st)) _ 0 _ hR.st e2
 rw [← st0_once] at hw
 have:=(h.yes hi).2.1 _ _ _ hw
 omega
theorem walk_is (h : PathOk (nxX rs T ds tr [] id) (goalX rs gl) (tmX ds) (st0 rs T st) n r) (hE : tricksE rs ds st gl tr = 0) (hT : onceT (allT rs ds) = T) {l : List (List UInt8)} (he : (walkE rs ds st gl tr l).err = 0) (hr : (walkE rs ds st gl tr l).room = gl) : r.is = true:=by
 have hR:=right_of (tricks_right hE)
 have e : walkE rs ds st gl tr l = ⟨0,gl,(walkE rs ds st gl tr l).th,(walkE rs ds st gl tr l).time⟩:=by
  conv => lhs; rw [show walkE rs ds st gl tr l = ⟨(walkE rs ds st gl tr l).err,(walkE rs ds st gl tr l).room,(walkE rs ds st gl tr l).th,(walkE rs ds st gl tr l).time⟩ from rfl]
  rw [he,hr]
 have e2 : walkS rs ds tr l st (onceT (givesOf rs st)) 0 = walkE rs ds st gl tr l:=by
  unfold walkE walkF
  rw [if_neg (by simp [hE])]
  by_cases c : 500 < l.length
  ·exfalso
   unfold walkE walkF at he
   rw [if_neg (by simp [hE]),if_pos c] at he
   cases he
  ·rw [if_neg c]
 rw [e] at e2
 obtain ⟨_,t,d,ks,hw,hle⟩:=walk_way hR hT l st (onceT (givesOf rs st)) _ 0 _ hR.st e2
 rw [← st0_once] at hw
 cases hx : r.is with
 | true => rfl
 | false => exact absurd hw ((h.no hx).2 _ _ _)
end
def FaQ (rs : List RoomE) (ds : List DoorE) (T tr : List (List UInt8)) (st gl : List UInt8) (K : List (List UInt8)) (t : Int) (is : Bool) : Prop :=
 ∃ r : PathR,PathOk (nxX rs T ds tr [] id) (goalX rs gl) (tmX ds) (st0 rs T st) (nS rs T) r ∧ K = r.ks.map (keyX ds) ∧ t = r.t ∧ is = r.is
theorem pathOk_len {nx : StE → List (Nat × StE)} {ef : StE → Bool} {tm : Nat → Int} {x : StE} {n : Nat} {r : PathR} (h : PathOk nx ef tm x n r) : r.ks.length ≤ n:=by
 cases hi : r.is with
 | false => rw [(h.no hi).1]; exact Nat.zero_le _
 | true => exact (h.yes hi).2.2.2
section
variable {rs : List RoomE} {ds : List DoorE} {T : List (List UInt8)} {tr tr' : List (List UInt8)} {st gl : List UInt8} {K K' l : List (List UInt8)} {t t' : Int} {is is' : Bool}
theorem FaQ.len (h : FaQ rs ds T tr st gl K t is) : K.length ≤ nS rs T:=by
 obtain ⟨r,h1,rfl,_,_⟩:=h
 rw [List.length_map]; exact pathOk_len h1
theorem FaQ.mono (h : FaQ rs ds T tr st gl K t is) (h' : FaQ rs ds T tr' st gl K' t' is') (hs : ∀ s ∈ tr,s ∈ tr') (hi : is = true) : is' = true ∧ t' ≤ t:=by
 obtain ⟨r,h1,_,rfl,rfl⟩:=h
 obtain ⟨r',h1',_,rfl,rfl⟩:=h'
 exact path_mono h1 h1' hs hi
theorem FaQ.walks (h : FaQ rs ds T tr st gl K t is) (hE : tricksE rs ds st gl tr = 0) (hT : onceT (allT rs ds) = T) (hn : nS rs T ≤ 500) (hi : is = true) : ∃ th,walkE rs ds st gl tr K = ⟨0,gl,th,t⟩:=by
 obtain ⟨r,h1,rfl,rfl,rfl⟩:=h
 exact path_walks h1 hE hT hn hi
theorem FaQ.slow (h : FaQ rs ds T tr st gl K t is) (hE : tricksE rs ds st gl tr = 0) (hT : onceT (allT rs ds) = T) (he : (walkE rs ds st gl tr l).err = 0) (hr : (walkE rs ds st gl tr l).room = gl) : is = true ∧ t ≤ (walkE rs ds st gl tr l).time:=by
 obtain ⟨r,h1,rfl,rfl,rfl⟩:=h
 have:=walk_is h1 hE hT he hr
 exact ⟨this,walk_slow h1 hE hT he hr this⟩
theorem FaQ.zero (h : FaQ rs ds T tr st gl K t is) (hi : is = false) : K = [] ∧ t = 0:=by
 obtain ⟨r,h1,rfl,rfl,rfl⟩:=h
 rw [(h1.no hi).1]; exact ⟨rfl,rfl⟩
theorem FaQ.least (h : FaQ rs ds T tr st gl K t is) : LeastT (nxX rs T ds tr [] id) (goalX rs gl) (tmX ds) (st0 rs T st) (if is then t else -1):=by
 obtain ⟨r,h1,rfl,rfl,rfl⟩:=h
 cases hi : r.is with
 | false => exact .inl ⟨rfl,(h1.no hi).2⟩
 | true =>
  obtain ⟨⟨d,hw⟩,h2,h3,_⟩:=h1.yes hi
  exact .inr ⟨h3,⟨d,_,hw⟩,h2⟩
end
theorem Fastest_ok (lo ca cd lo2 c2 : Nat) (A : Option Addr) (rs : List RoomE) (D : Option Addr) (ds : List DoorE) (st gl : List UInt8) (TR : Option Addr) (tr : List (List UInt8)) (w : World) (hA : MapW w lo A rs D ds) (hr : Row w lo2 1 TR tr.length (strs tr)) (hrl : tr.length ≤ 1000000000) (hE : tricksE rs ds st gl tr = 0) :
  Calls Tryz.prog 9 #[mapV A rs ca D ds cd st gl,.slice TR tr.length c2] w fun e w' => ∃ (K : List (List UInt8)) (t : Int) (is : Bool) (B : Option Addr) (c : Nat),e = .returned (.tuple #[.agg #[.slice B K.length c,.int .i64 t],.bool is,.int .i64 0]) ∧ FaQ rs ds (onceT (allT rs ds)) tr st gl K t is ∧ w'.ownsRow w.heap.size 9 1 (.slice B K.length c) K.length (strs K) ∧ Below w.heap.size w w':=by
 refine (Fastest_any lo ca cd lo2 c2 A rs D ds st gl TR tr w hA hr hrl).mono ?_
 rintro e w' ⟨r,B,c,_,hok,rfl,hown,hb⟩
 refine ⟨r.ks.map (keyX ds),r.t,r.is,B,c,by rw [hE,List.length_map],⟨r,hok hE,rfl,rfl,rfl⟩,by rw [List.length_map]; exact hown,hb⟩
structure LrI (w W : World) (lo mb N : Nat) (A : Option Addr) (ca : Nat) (rs : List RoomE) (D : Option Addr) (cd : Nat) (ds : List DoorE) (st gl : List UInt8) (TR : Option Addr) (tr : List (List UInt8)) : Prop where
  m : MapW W lo A rs D ds
  t : Row W lo 1 TR tr.length (strs tr)
  b : Blk W mb 29 #[.slice A rs.length ca, .slice D ds.length cd, .string ⟨st.toArray⟩, .string ⟨gl.toArray⟩]
  s : Str W w.heap.size N
  x : Below w.heap.size w W
section
variable {w W W' : World} {lo mb N : Nat} {A : Option Addr} {ca : Nat} {rs : List RoomE} {D : Option Addr} {cd : Nat} {ds : List DoorE} {st gl : List UInt8} {TR : Option Addr} {tr : List (List UInt8)}
theorem LrI.below (h : LrI w W lo mb N A ca rs D cd ds st gl TR tr) (hb : Below W.heap.size W W') : LrI w W' lo mb N A ca rs D cd ds st gl TR tr :=
 ⟨h.m.below hb,h.t.below hb,h.b.below hb,h.s.keep hb,below_up h.x hb⟩
theorem LrI.alloc (h : LrI w W lo mb N A ca rs D cd ds st gl TR tr) (o : Obj) : LrI w (W.alloc o) lo mb N A ca rs D cd ds st gl TR tr:=h.below ((Below.refl _ _).alloc (Nat.le_refl _) o)
theorem LrI.drew (h : LrI w W lo mb N A ca rs D cd ds st gl TR tr) : LrI w W.drew lo mb N A ca rs D cd ds st gl TR tr:=h.below (below_drewN' (Below.refl _ _) 1)
theorem LrI.drewN (h : LrI w W lo mb N A ca rs D cd ds st gl TR tr) (k : Nat) : LrI w (W.drewN k) lo mb N A ca rs D cd ds st gl TR tr:=h.below (below_drewN' (Below.refl _ _) k)
theorem LrI.cells (h : LrI w W lo mb N A ca rs D cd ds st gl TR tr) : W.cell? ⟨mb,0,none⟩ = some (.slice A rs.length ca) ∧ W.cell? ⟨mb,1,none⟩ = some (.slice D ds.length cd) ∧ W.cell? ⟨mb,2,none⟩ = some (.string ⟨st.toArray⟩) ∧ W.cell? ⟨mb,3,none⟩ = some (.string ⟨gl.toArray⟩):=⟨h.b.cell 0,h.b.cell 1,h.b.cell 2,h.b.cell 3⟩
theorem LrI.grown {M : Nat} (h : LrI w W lo mb N A ca rs D cd ds st gl TR tr) (hg : W.grownBy W' (some w.heap.size)) (hs : Str W' w.heap.size M) (hl : w.heap.size < lo) (hm : w.heap.size < mb) : LrI w W' lo mb M A ca rs D cd ds st gl TR tr :=
 ⟨h.m.grown hg hl,h.t.grown hg hl,h.b.grown hg (by omega),hs,h.x.grown hg (by have:=h.x.size; omega) (fun k hk => by injection hk with hk; omega)⟩
end
end Go.Proofs.YtpialnjfdbfkdaaGreatDoor
/- The walks of CheckMarks, Timed and filmed. -/
namespace Go.Proofs.YtpialnjfdbfkdaaGreatDoor
open Go.RowKit

set_option maxHeartbeats 2000000 in
theorem checkMarks_any (lo lo' c d : Nat) (A B : Option Addr) (v : List St) (l : List Mk) (w : World) (hr : Row w lo 3 A v.length (trs v)) (hrm : Row w lo' 2 B l.length (prs l)) (hl : v.length ≤ 1000000000) (hlm : l.length ≤ 1000000000) (hi : ∀ s ∈ v,s.2.1 ≤ 9223372036854775807) :
  Calls Tryz.prog 78 #[.slice A v.length c,.slice B l.length d] w fun e w' => e = .returned (.int .i64 (mkFault v l)) ∧ Below w.heap.size w w':=by
 have HI:=Lib.hid hi
 clear hi
 go_enter Tryz.func78,Tryz.ntmps78
 go_wp2_with fail
 refine (checkVideo_any _ _ _ v _ hr hl HI.out).mono ?_
 rintro e w1 ⟨rfl,hb1⟩
 by_cases h0 : vFault v = 0
 ·have h0' : (vFault v != 0) = false:=by simpa using h0
  have HE:=Lib.hid (mkFault_ok (l:=l) h0)
  have HG:=Lib.hid (vFault_ok h0)
  clear h0
  by_cases hlong : 200 < l.length
  ·have HF:=Lib.hid (mkF_long (all:=fsum v) hlong)
   go_wp2_with fail
   go_ret
   exact ⟨ret_int' (by rw [HE.out,HF.out]),hb1⟩
  ·have s1:=HG.out.sum
   have s0:=fsum_nonneg v HG.out.nonneg
   go_wp2_with fail
   refine (vframes_any _ _ _ v _ (hr.below hb1) hl HG.out.nonneg (by omega)).mono ?_
   rintro e w2 ⟨rfl,hb2⟩
   have hx:=below_up hb1 hb2
   clear hb1 hb2 h0'
   go_wp2_with fail
   go_loopw [7,22] (fun la i wr => ∃ k : Nat,k ≤ l.length ∧ i = .int .i64 k ∧ la = .int .i64 (lastM (l.take k)) ∧ Hid (∀ j,j < k → mF (fsum v) l j = 0) ∧ Below w.heap.size w wr) (fun _ i _ => l.length - (intOf i).toNat)
   case atStart => exact ⟨0,Nat.zero_le _,rfl,rfl,Lib.hid (fun j hj => absurd hj (by omega)),hx⟩
   case round =>
    obtain ⟨k,hk,rfl,rfl,hv,hbw⟩:=hrel
    have zw:=hbw.size
    by_cases hlt : k < l.length
    ·have hrw:=hrm.below hbw
     obtain ⟨b,off,hB,_,hbs,c0,c1⟩:=hrw.pr_at hlt
     have HBAD:=Lib.hid (mkF_bad (all:=fsum v) k (by omega) hlt hv.out)
     have HAT:=Lib.hid (mF_at (fsum v) l k hlt)
     have HLT:=Lib.hid (lastM_take l k hlt)
     have HP : Hid (∀ j,k = j + 1 → prevM l k = some (l.getD j (0,0))):=Lib.hid (by
      rintro j rfl
      simp only [prevM,Nat.add_one_ne_zero,if_false,Nat.add_sub_cancel]
      rw [List.getD_eq_getElem?_getD,List.getElem?_eq_getElem (by omega)]; rfl)
     have HCP : Hid (∀ j,k = j + 1 → wr.cell? ⟨b,off + j * 2,none⟩ = some (.int .i64 (l.getD j (0,0)).1)):=Lib.hid (by
      rintro j rfl
      obtain ⟨b',off',hB',_,_,c0',_⟩:=hrw.pr_at (k:=j) (by omega)
      rw [hB] at hB'
      injection hB' with hB'
      injection hB' with e1 e2
      subst e1 e2
      rw [List.getD_eq_getElem?_getD,List.getElem?_eq_getElem (by omega)]
      exact c0')
     subst hB
     generalize lastM (l.take k) = la at *
     generalize hxk : l[k] = x at *
     clear hxk hrw
     go_wp2_with fail
     refine (out_any _ _ _ _).mono ?_
     rintro e w3 ⟨rfl,rfl⟩
     by_cases h1 : 1 ≤ x.2 ∧ x.2 ≤ 5
     ·have h1' : (decide (x.2 < 1) || decide (5 < x.2)) = false:=by simp; omega
      rw [h1']
      clear h1'
      go_wp2_with fail
      refine (out_any _ _ _ _).mono ?_
      rintro e w3 ⟨rfl,rfl⟩
      by_cases h2 : 0 ≤ x.1 ∧ x.1 ≤ fsum v
      ·have h2' : (decide (x.1 < 0) || decide (fsum v < x.1)) = false:=by simp; omega
       rw [h2']
       clear h2'
       have HRE:=Lib.hid (mX_rest (p:=prevM l k) (last:=la) h1 h2)
       clear h1 h2
       rcases Nat.eq_zero_or_pos k with hk0 | hk0
       ·subst hk0
        have HRX : Hid (mF (fsum v) l 0 = if misB x.2 la = true then 16 else 0):=Lib.hid (by rw [HAT.out,HRE.out]; rfl)
        go_wp2_with fail
        go_quiet (fail)
        go_wp2_with fail
        refine (misplaced_any _ _ _).mono ?_
        rintro e w4 ⟨rfl,rfl⟩
        by_cases h4 : misB x.2 la = true
        ·rw [h4]
         have HF:=Lib.hid (HBAD.out (by rw [HRX.out,if_pos h4]; omega))
         go_wp2_with fail
         go_ret
         exact ⟨ret_int' (by rw [HE.out,HF.out,HRX.out,if_pos h4]),(by repeat (first | exact hbw | refine Below.alloc ?_ (by first | omega | (simp; omega)) _ | refine below_drewN' ?_ _ | refine Below.drew ?_))⟩
        ·have h4' : misB x.2 la = false:=by simpa using h4
         have HN : Hid (∀ j,j < 0 + 1 → mF (fsum v) l j = 0):=Lib.hid (by
          intro j hj
          have : j = 0:=by omega
          subst this
          rw [HRX.out,if_neg h4])
         rw [h4']
         clear h4 h4'
         by_cases h5 : x.2 = 5
         ·have t5 : (x.2 != 5) = false:=by simpa using h5
          have HLX : Hid (lastM (l.take (0 + 1)) = la):=Lib.hid (by rw [HLT.out,if_pos h5])
          clear h5
          go_wp2_with fail
          go_roundw
          case rel => exact ⟨0 + 1,by omega,by go_num,by rw [HLX.out],HN,(by repeat (first | exact hbw | refine Below.alloc ?_ (by first | omega | (simp; omega)) _ | refine below_drewN' ?_ _ | refine Below.drew ?_))⟩
          case measure => simp [intOf]; omega
         ·have t5 : (x.2 != 5) = true:=by simpa using h5
          have HLX : Hid (lastM (l.take (0 + 1)) = x.2):=Lib.hid (by rw [HLT.out,if_neg h5])
          clear h5
          go_wp2_with fail
          go_roundw
          case rel => exact ⟨0 + 1,by omega,by go_num,by rw [HLX.out],HN,(by repeat (first | exact hbw | refine Below.alloc ?_ (by first | omega | (simp; omega)) _ | refine below_drewN' ?_ _ | refine Below.drew ?_))⟩
          case measure => simp [intOf]; omega
       ·obtain ⟨j,rfl⟩ : ∃ j,k = j + 1:=⟨k - 1,by omega⟩
        have hcp:=cell_al (HCP.out j rfl) (.cells #[.int .i64 x.1,.int .i64 x.2] 89)
        have HRX : Hid (mF (fsum v) l (j + 1) = if x.1 < (l.getD j (0,0)).1 then 7 else if misB x.2 la = true then 16 else 0):=Lib.hid (by rw [HAT.out,HRE.out,HP.out j rfl]; simp)
        generalize (l.getD j (0,0)).1 = y at *
        have wj : IntKind.i64.wrap ((j : Int) + 1 - 1) = j:=by rw [show (j : Int) + 1 - 1 = j by omega]; exact IntWalk.i64_in _ ⟨by omega,by omega⟩
        by_cases h3 : x.1 < y
        ·have t3 : decide (x.1 < y) = true:=by simpa using h3
         have HF:=Lib.hid (HBAD.out (by rw [HRX.out,if_pos h3]; omega))
         go_wp2_with fail
         go_quiet (fail)
         clear wj
         go_wp2_with fail
         go_ret
         exact ⟨ret_int' (by rw [HE.out,HF.out,HRX.out,if_pos h3]),(by repeat (first | exact hbw | refine Below.alloc ?_ (by first | omega | (simp; omega)) _ | refine below_drewN' ?_ _ | refine Below.drew ?_))⟩
        ·have t3 : decide (x.1 < y) = false:=by simpa using h3
         have H3:=Lib.hid h3
         clear h3
         go_wp2_with fail
         go_quiet (fail)
         clear wj
         go_wp2_with fail
         refine (misplaced_any _ _ _).mono ?_
         rintro e w4 ⟨rfl,rfl⟩
         by_cases h4 : misB x.2 la = true
         ·rw [h4]
          have HF:=Lib.hid (HBAD.out (by rw [HRX.out,if_neg (by have:=H3.out; omega : ¬ x.1 < y),if_pos h4]; omega))
          go_wp2_with fail
          go_ret
          exact ⟨ret_int' (by rw [HE.out,HF.out,HRX.out,if_neg (by have:=H3.out; omega : ¬ x.1 < y),if_pos h4]),(by repeat (first | exact hbw | refine Below.alloc ?_ (by first | omega | (simp; omega)) _ | refine below_drewN' ?_ _ | refine Below.drew ?_))⟩
         ·have h4' : misB x.2 la = false:=by simpa using h4
          have HN : Hid (∀ i,i < j + 1 + 1 → mF (fsum v) l i = 0):=Lib.hid (by
           intro i hi
           rcases Nat.lt_or_ge i (j + 1) with h | h
           ·exact hv.out i h
           ·have : i = j + 1:=by omega
            subst this
            rw [HRX.out,if_neg (by have:=H3.out; omega : ¬ x.1 < y),if_neg h4])
          rw [h4']
          clear h4 h4'
          by_cases h5 : x.2 = 5
          ·have t5 : (x.2 != 5) = false:=by simpa using h5
           have HLX : Hid (lastM (l.take (j + 1 + 1)) = la):=Lib.hid (by rw [HLT.out,if_pos h5])
           clear h5
           go_wp2_with fail
           go_roundw
           case rel => exact ⟨j + 1 + 1,by omega,by go_num,by rw [HLX.out],HN,(by repeat (first | exact hbw | refine Below.alloc ?_ (by first | omega | (simp; omega)) _ | refine below_drewN' ?_ _ | refine Below.drew ?_))⟩
           case measure => simp [intOf]; omega
          ·have t5 : (x.2 != 5) = true:=by simpa using h5
           have HLX : Hid (lastM (l.take (j + 1 + 1)) = x.2):=Lib.hid (by rw [HLT.out,if_neg h5])
           clear h5
           go_wp2_with fail
           go_roundw
           case rel => exact ⟨j + 1 + 1,by omega,by go_num,by rw [HLX.out],HN,(by repeat (first | exact hbw | refine Below.alloc ?_ (by first | omega | (simp; omega)) _ | refine below_drewN' ?_ _ | refine Below.drew ?_))⟩
           case measure => simp [intOf]; omega
      ·have h2' : (decide (x.1 < 0) || decide (fsum v < x.1)) = true:=by simp; omega
       have HA:=Lib.hid (mX_arg (p:=prevM l k) (last:=la) h1 h2)
       have HF:=Lib.hid (HBAD.out (by rw [HAT.out,HA.out]; omega))
       rw [h2']
       go_wp2_with fail
       go_ret
       exact ⟨ret_int' (by rw [HE.out,HF.out,HAT.out,HA.out]),(by repeat (first | exact hbw | refine Below.alloc ?_ (by first | omega | (simp; omega)) _ | refine below_drewN' ?_ _ | refine Below.drew ?_))⟩
     ·have h1' : (decide (x.2 < 1) || decide (5 < x.2)) = true:=by simp; omega
      have HA:=Lib.hid (mX_kind (all:=fsum v) (p:=prevM l k) (last:=la) h1)
      have HF:=Lib.hid (HBAD.out (by rw [HAT.out,HA.out]; omega))
      rw [h1']
      go_wp2_with fail
      go_ret
      exact ⟨ret_int' (by rw [HE.out,HF.out,HAT.out,HA.out]),(by repeat (first | exact hbw | refine Below.alloc ?_ (by first | omega | (simp; omega)) _ | refine below_drewN' ?_ _ | refine Below.drew ?_))⟩
    ·have hkk : k = l.length:=by omega
     subst hkk
     have HF:=Lib.hid (mkF_good (by omega) hv.out)
     rw [List.take_length]
     by_cases h2 : lastM l = 2
     ·have t2 : (lastM l != 2) = false:=by simpa using h2
      have HF2 : Hid (mkF (fsum v) l = 0):=Lib.hid (by rw [HF.out,if_pos h2])
      clear h2
      go_wp2_with fail
      go_ret
      exact ⟨ret_int' (by rw [HE.out,HF2.out]),hbw⟩
     ·have t2 : (lastM l != 2) = true:=by simpa using h2
      have HF2 : Hid (mkF (fsum v) l = 8):=Lib.hid (by rw [HF.out,if_neg h2])
      clear h2
      go_wp2_with fail
      go_ret
      exact ⟨ret_int' (by rw [HE.out,HF2.out]),hbw⟩
 ·have h0' : (vFault v != 0) = true:=by simpa using h0
  have HE:=Lib.hid (mkFault_bad (l:=l) h0)
  clear h0
  go_wp2_with fail
  go_ret
  exact ⟨ret_int' HE.out.symm,hb1⟩

def tmE (v : List St) (l : List Mk) : Int:=if mkFault v l = 0 then (tS v l).2.2.getLastD 0 else 0
theorem tmE_ok {v : List St} {l : List Mk} (h : mkFault v l = 0) : tmE v l = (tS v l).2.2.getLastD 0:=by simp [tmE,h]
theorem tmE_bad {v : List St} {l : List Mk} (h : ¬ mkFault v l = 0) : tmE v l = 0:=by simp [tmE,h]
theorem mkFault_zero {v : List St} {l : List Mk} (h : mkFault v l = 0) : vFault v = 0 ∧ mkF (fsum v) l = 0:=by
 by_cases h0 : vFault v = 0
 ·exact ⟨h0,by rw [mkFault_ok h0] at h; exact h⟩
 ·rw [mkFault_bad h0] at h; exact absurd h h0
theorem tS_some (v : List St) (l : List Mk) (h : ∃ x ∈ l,x.2 = 2) : 0 < (tS v l).2.2.length:=by
 suffices H : ∀ s : Int × Int × List Int,(0 < s.2.2.length ∨ ∃ x ∈ l,x.2 = 2) → 0 < (l.foldl (tstep v) s).2.2.length from H _ (.inr h)
 clear h
 induction l with
 | nil => intro s h; rcases h with h | ⟨x,hx,_⟩; exact h; simp at hx
 | cons y l ih =>
  intro s h
  rw [List.foldl_cons]
  apply ih
  by_cases h1 : y.2 = 1 ∨ y.2 = 4
  ·rw [tstep_on _ _ _ h1]
   rcases h with h | ⟨x,hx,h2⟩
   ·exact .inl h
   ·rcases List.mem_cons.1 hx with rfl | hx
    ·omega
    ·exact .inr ⟨x,hx,h2⟩
  ·by_cases h3 : y.2 = 3
   ·rw [tstep_off _ _ _ h3]
    rcases h with h | ⟨x,hx,h2⟩
    ·exact .inl h
    ·rcases List.mem_cons.1 hx with rfl | hx
     ·omega
     ·exact .inr ⟨x,hx,h2⟩
   ·rw [tstep_out _ _ _ h1 h3]
    exact .inl (by simp)
theorem last_mem (l : List Mk) (h : lastM l = 2) : ∃ x ∈ l,x.2 = 2:=by
 suffices H : ∀ a : Int,l.foldl (fun a (x : Mk) => if x.2 = 5 then a else x.2) a = 2 → a = 2 ∨ ∃ x ∈ l,x.2 = 2 from by
  rcases H 0 h with h | h
  ·omega
  ·exact h
 clear h
 induction l with
 | nil => intro a h; exact .inl h
 | cons y l ih =>
  intro a h
  rw [List.foldl_cons] at h
  rcases ih _ h with h | ⟨x,hx,h2⟩
  ·by_cases h5 : y.2 = 5
   ·rw [if_pos h5] at h; exact .inl h
   ·rw [if_neg h5] at h; exact .inr ⟨y,by simp,h⟩
  ·exact .inr ⟨x,by simp [hx],h2⟩

set_option maxHeartbeats 1000000 in
theorem timed_any (lo lo' c d : Nat) (A B : Option Addr) (v : List St) (l : List Mk) (w : World) (hr : Row w lo 3 A v.length (trs v)) (hrm : Row w lo' 2 B l.length (prs l)) (hl : v.length ≤ 1000000000) (hlm : l.length ≤ 1000000000) (hi : ∀ s ∈ v,s.2.1 ≤ 9223372036854775807) :
  Calls Tryz.prog 32 #[.slice A v.length c,.slice B l.length d] w fun e w' => e = .returned (.tuple #[.int .i64 (tmE v l),.int .i64 (mkFault v l)]) ∧ Below w.heap.size w w':=by
 go_enter Tryz.func32,Tryz.ntmps32
 go_wp2_with fail
 refine (checkMarks_any lo lo' _ _ _ _ v l _ hr hrm hl hlm hi).mono ?_
 rintro e w1 ⟨rfl,hb1⟩
 clear hi
 by_cases h0 : mkFault v l = 0
 ·have h0' : (mkFault v l != 0) = false:=by simpa using h0
  obtain ⟨hv,hm⟩:=mkFault_zero h0
  have HG:=Lib.hid (vFault_ok hv)
  have HM:=Lib.hid (mkF_ok hm)
  have H0:=Lib.hid h0
  clear h0 hv hm
  have hln:=HM.out.1
  have hsum:=HG.out.sum
  go_wp2_with fail
  refine (newFilm_any _ _ _ v _ (hr.below hb1) HG.out).mono ?_
  rintro e w2 ⟨g,rfl,hfm,hb2⟩
  have hx:=below_up hb1 hb2
  go_wp2_with fail
  refine (end_any g lo lo' _ _ _ _ v l _ hfm (hrm.below hx) HG.out (by omega) HM.out.2.2.2.1 (fun x hx => by have:=HM.out.2.2.1 x hx; omega) (tS_some v l (last_mem l HM.out.2.1))).mono ?_
  rintro e w3 ⟨rfl,hb3⟩
  go_wp2_with fail
  go_ret2
  exact ⟨ret2_is (by rw [tmE_ok H0.out,List.getLastD_eq_getLast?]; rfl) (by rw [H0.out]; rfl),below_up hx hb3⟩
 ·have h0' : (mkFault v l != 0) = true:=by simpa using h0
  have H0:=Lib.hid h0
  clear h0
  go_wp2_with fail
  go_ret2
  exact ⟨ret2_is (by rw [tmE_bad H0.out]; rfl) rfl,hb1⟩

theorem film_ex : mkFault [(100,60,1)] [(10,1),(70,2)] = 0:=by decide
theorem time_ex : tmE [(100,60,1)] [(10,1),(70,2)] = 1000:=by decide

end Go.Proofs.YtpialnjfdbfkdaaGreatDoor
/- Marks of a video: plain laws of what is played up to a mark; no program of Go in sight. -/
namespace Go.Proofs.YtpialnjfdbfkdaaGreatDoor

def pS (v : List St) (l : List Mk) (loads : Bool) : Nat → Int
 | 0 => 0
 | k + 1 => pS v l loads k + (if loads = true ∨ (l.getD k (0,0)).2 ≠ 3 then begM v (l.getD (k + 1) (0,0)).1 - begM v (l.getD k (0,0)).1 else 0)
def spl (v : List St) (l : List Mk) : Nat → List Int
 | 0 => []
 | k + 1 => if (l.getD k (0,0)).2 = 5 ∨ (l.getD k (0,0)).2 = 2 then spl v l k ++ [msM (multK v) (pS v l false k)] else spl v l k
def Turn (l : List Mk) : Prop:=(∀ x ∈ l,1 ≤ x.2 ∧ x.2 ≤ 5) ∧ ∀ k,(hk : k < l.length) → misB l[k].2 (lastM (l.take k)) = false
structure Sh (all : Int) (l : List Mk) (s : Int × List Mk) : Prop where
  last : 0 ≤ s.1 ∧ s.1 ≤ all
  bd : ∀ y ∈ s.2, 0 ≤ y.1 ∧ y.1 ≤ s.1
  rises : Rises s.2
  turn : Turn s.2
  kind : lastM s.2 = lastM l
  len : s.2.length ≤ l.length
end Go.Proofs.YtpialnjfdbfkdaaGreatDoor
/- The walks of MarksFault and NoneFault. -/
namespace Go.Proofs.YtpialnjfdbfkdaaGreatDoor
open Go.RowKit

set_option maxHeartbeats 400000 in
theorem noneFault_any (b : Bool) (w : World) : Calls Tryz.prog 57 #[.bool b] w fun e w' => e = .returned (.int .i64 (if b = true then 8 else 0)) ∧ w = w':=by
 cases b
 ·go_enter Tryz.func57,Tryz.ntmps57
  go_wp2_with fail
  go_ret
  exact ⟨rfl,rfl⟩
 ·go_enter Tryz.func57,Tryz.ntmps57
  go_wp2_with fail
  go_ret
  exact ⟨rfl,rfl⟩

end Go.Proofs.YtpialnjfdbfkdaaGreatDoor
/- The walk of ready, by Fastest's contract at any map. -/
namespace Go.Proofs.YtpialnjfdbfkdaaGreatDoor
open Go.RowKit

def rsF : List RoomE:=[⟨[97],[],none,0⟩,⟨[98],[],none,0⟩]
def dsF : List DoorE:=[⟨[100],[97],[98],7,[],[],[],none,0,none,0⟩]
theorem mapW_fxN {w : World} {R D : Nat} (h : FM w R D) : MapW w 0 (some ⟨R,0,none⟩) rsF (some ⟨D,0,none⟩) dsF:=by
 refine ⟨Row.lit (n:=2) (size:=2) h.rooms (Nat.zero_le _) rfl,Row.lit (n:=1) (size:=7) h.doors (Nat.zero_le _) rfl,fun r hr => ?_,fun d hd => ?_,fun d hd => ?_,?_⟩
 ·simp only [rsF,List.mem_cons,List.not_mem_nil,or_false] at hr
  rcases hr with rfl | rfl <;> exact ⟨Row.none_ _ _ _ _,Nat.le_refl _⟩
 ·simp only [dsF,List.mem_cons,List.not_mem_nil,or_false] at hd
  subst hd; exact ⟨Row.none_ _ _ _ _,Nat.le_refl _⟩
 ·simp only [dsF,List.mem_cons,List.not_mem_nil,or_false] at hd
  subst hd; exact ⟨Row.none_ _ _ _ _,Nat.le_refl _⟩
 ·refine ⟨?_,?_,?_,?_,?_,?_,?_,?_⟩ <;> simp [rsF,dsF]
  exact ⟨by decide,by decide⟩
theorem tricksE_fxN : tricksE rsF dsF [97] [98] [] = 0:=by
 have e1 : onceT (allT rsF dsF) = []:=by rw [show allT rsF dsF = [] from rfl]; exact once_self (by simp)
 have e2 : onceT (allK dsF) = []:=by rw [show allK dsF = [] from rfl]; exact once_self (by simp)
 have e3 : roomsE rsF = 0:=by decide
 have e4 : doorsE rsF dsF = 0:=by decide
 have e5 : mapE rsF dsF [97] [98] = 0:=by
  unfold mapE
  rw [if_neg (by rw [e3]; simp),if_neg (by rw [e4]; simp),if_neg (by decide),e1,e2]; rfl
 unfold tricksE
 rw [if_neg (by rw [e5]; simp)]; rfl
theorem walk_fxN {K : List (List UInt8)} {th th' : List (List UInt8)} {t : Int} (h : walkS rsF dsF [] K [97] th 0 = ⟨0,[98],th',t⟩) : K.length = 1 ∧ t = 7:=by
 cases K with
 | nil => simp [walkS] at h
 | cons k K =>
  by_cases hk : k = [100]
  ·subst hk
   rw [show walkS rsF dsF [] ([100] :: K) [97] th 0 = walkS rsF dsF [] K [98] (thru rsF th ⟨[100],[97],[98],7,[],[],[],none,0,none,0⟩) 7 by simp [walkS,dsF,goE]] at h
   cases K with
   | nil => simp [walkS] at h; exact ⟨rfl,h.2.symm⟩
   | cons k K =>
    by_cases hk : k = [100]
    ·subst hk; simp [walkS,dsF,goE,wkBad] at h
    ·have : ¬ [100] = k:=fun e => hk e.symm
     simp [walkS,dsF,this,wkBad] at h
  ·have : ¬ [100] = k:=fun e => hk e.symm
   simp [walkS,dsF,this,wkBad] at h
theorem Fastest_fxN (R D : Nat) (w : World) (hf : FM w R D) : Calls Tryz.prog 9 #[.agg #[.slice (some ⟨R,0,none⟩) 2 2,.slice (some ⟨D,0,none⟩) 1 1,.string ⟨#[97]⟩,.string ⟨#[98]⟩],.slice none 0 0] w fun e w' => ∃ A c,e = .returned (.tuple #[.agg #[.slice A 1 c,.int .i64 7],.bool true,.int .i64 0]) ∧ Below w.heap.size w w':=by
 refine (Fastest_ok 0 2 1 0 0 _ rsF _ dsF [97] [98] none [] w (mapW_fxN hf) (Row.none_ _ _ _ _) (by simp) tricksE_fxN).mono ?_
 rintro e w' ⟨K,t,is,B,c,rfl,hq,_,hb⟩
 have hT : onceT (allT rsF dsF) = []:=by rw [show allT rsF dsF = [] from rfl]; exact once_self (by simp)
 have hw : walkE rsF dsF [97] [98] [] [[100]] = ⟨0,[98],thru rsF (onceT (givesOf rsF [97])) ⟨[100],[97],[98],7,[],[],[],none,0,none,0⟩,7⟩:=by
  unfold walkE walkF
  rw [if_neg (by rw [tricksE_fxN]; simp),if_neg (by simp)]
  simp [walkS,dsF,goE]
 obtain ⟨hi,_⟩:=hq.slow tricksE_fxN rfl (l:=[[100]]) (by rw [hw]) (by rw [hw])
 subst hi
 obtain ⟨th,hk⟩:=hq.walks tricksE_fxN rfl (by rw [hT]; decide) rfl
 unfold walkE walkF at hk
 rw [if_neg (by rw [tricksE_fxN]; simp)] at hk
 by_cases c : 500 < K.length
 ·rw [if_pos c] at hk; simp [wkBad] at hk
 ·rw [if_neg c] at hk
  obtain ⟨e1,e2⟩:=walk_fxN hk
  rw [e1,e2]
  exact ⟨B,_,rfl,hb⟩
set_option maxHeartbeats 4000000 in
set_option maxRecDepth 100000 in
theorem ready_any (w : World) : Calls Tryz.prog 8 #[] w fun e w' => e = .returned (.bool true) ∧ Below w.heap.size w w':=by
 have H1:=Lib.hid pressR_ex
 have H2:=Lib.hid pressE_ex
 have H3:=Lib.hid film_ex
 have H4:=Lib.hid time_ex
 go_enter Tryz.func8,Tryz.ntmps8
 go_wp2_with fail
 have hx0 : Below w.heap.size w (((((w.alloc (.cells #[.string ⟨#[97]⟩,.string ⟨#[98]⟩] 9)).alloc (.cells #[.int .i64 10,.int .i64 25] 3)).alloc (.cells #[.int .i64 0,.int .i64 20] 3)).alloc (.cells #[.int .i64 9] 3)).alloc (.cells #[.int .i64 1,.slice (some ⟨w.heap.size + 1,0,none⟩) 2 2,.int .i64 2,.slice (some ⟨w.heap.size + 1 + 1,0,none⟩) 2 2,.int .i64 3,.slice (some ⟨w.heap.size + 1 + 1 + 1,0,none⟩) 1 1] 73)):=(by repeat (first | exact Below.refl _ _ | refine Below.alloc ?_ (by first | omega | (simp; omega) | simp) _ | refine below_drewN' ?_ _ | refine Below.drew ?_))
 refine (ex_sumOfBest (W:=(((((w.alloc (.cells #[.string ⟨#[97]⟩,.string ⟨#[98]⟩] 9)).alloc (.cells #[.int .i64 10,.int .i64 25] 3)).alloc (.cells #[.int .i64 0,.int .i64 20] 3)).alloc (.cells #[.int .i64 9] 3)).alloc (.cells #[.int .i64 1,.slice (some ⟨w.heap.size + 1,0,none⟩) 2 2,.int .i64 2,.slice (some ⟨w.heap.size + 1 + 1,0,none⟩) 2 2,.int .i64 3,.slice (some ⟨w.heap.size + 1 + 1 + 1,0,none⟩) 1 1] 73))) (((((Blk.at_ _ rfl).alloc _).alloc _).alloc _).alloc _) ((((Blk.at_ _ (by simp)).alloc _).alloc _).alloc _) (((Blk.at_ _ (by simp)).alloc _).alloc _) ((Blk.at_ _ (by simp)).alloc _) (Blk.at_ _ (by simp))).mono ?_
 rintro e w1 ⟨rfl,hb⟩
 have hx:=below_up hx0 hb
 clear hb hx0
 go_wp2_with fail
 refine (presses_any _ _ w1.heap.size [(1,3),(0,1),(1,1)] 1 _ (by first | exact row_new' _ (by first | rfl | simp) (by first | omega | (simp; omega)) rfl | exact row_newN _ _ (by first | rfl | simp) (by first | omega | (simp; omega)) rfl | exact row_newD _ (by first | rfl | simp) (by first | omega | (simp; omega)) rfl) (by decide)).mono ?_
 rintro e w2 ⟨rfl,hb⟩
 have hx:=below_up (hx.alloc hx.size _) hb
 clear hb
 rw [H1.out,H2.out]
 go_wp2_with fail
 have hr1:=(row_new w2 #[.int .i64 100,.int .i64 60,.int .i64 1] 86 w2.heap.size 3 1 (Nat.le_refl _) rfl).alloc (.cells #[.int .i64 10,.int .i64 1,.int .i64 70,.int .i64 2] 89)
 have hr2:=row_new (w2.alloc (.cells #[.int .i64 100,.int .i64 60,.int .i64 1] 86)) #[.int .i64 10,.int .i64 1,.int .i64 70,.int .i64 2] 89 0 2 2 (Nat.zero_le _) rfl
 rw [World.size_alloc] at hr2
 refine (timed_any w2.heap.size 0 _ _ _ _ [(100,60,1)] [(10,1),(70,2)] _ hr1 hr2 (by decide) (by decide) (by decide)).mono ?_
 rintro e w3 ⟨rfl,hb⟩
 have hx:=below_up (show Below w.heap.size w ((w2.alloc (.cells #[.int .i64 100,.int .i64 60,.int .i64 1] 86)).alloc (.cells #[.int .i64 10,.int .i64 1,.int .i64 70,.int .i64 2] 89)) by have:=hx.size; exact (hx.alloc this _).alloc (by simp; omega) _) hb
 rw [H3.out,H4.out]
 clear hb hr1 hr2
 go_wp2_with fail
 have hfm : FM ((w3.alloc (.cells #[.string ⟨#[97]⟩,.slice none 0 0,.string ⟨#[98]⟩,.slice none 0 0] 60)).alloc (.cells #[.string ⟨#[100]⟩,.string ⟨#[97]⟩,.string ⟨#[98]⟩,.int .i64 7,.slice none 0 0,.slice none 0 0,.string ⟨#[]⟩] 65)) w3.heap.size (w3.heap.size + 1):=⟨(Blk.at_ _ rfl).alloc _,Blk.at_ _ (by simp)⟩
 refine (Fastest_fxN _ _ _ hfm).mono ?_
 rintro e w4 ⟨A,c,rfl,hb⟩
 have hx:=below_up (show Below w.heap.size w ((w3.alloc (.cells #[.string ⟨#[97]⟩,.slice none 0 0,.string ⟨#[98]⟩,.slice none 0 0] 60)).alloc (.cells #[.string ⟨#[100]⟩,.string ⟨#[97]⟩,.string ⟨#[98]⟩,.int .i64 7,.slice none 0 0,.slice none 0 0,.string ⟨#[]⟩] 65)) by have:=hx.size; exact (hx.alloc this _).alloc (by simp; omega) _) hb
 clear hb hfm
 go_wp2_with fail
 go_ret
 exact ⟨rfl,hx.alloc hx.size _⟩
end Go.Proofs.YtpialnjfdbfkdaaGreatDoor
