/- Texts of this seat, laid together: MpD. -/
import Derived.Deep.CutBlock
import Derived.Test.YthchgkdhegaehaaGreatDoorBq35
import Derived.Test.YthchgkdhegaehaaGreatDoorBq27
import Derived.Test.YthchgkdhegaehaaGreatDoorBq37
/- The walks of the stream's TrickList and DoorList. -/
namespace Go.Proofs.YthchgkdhegaehaaGreatDoor
set_option linter.unusedVariables false
set_option linter.unusedSimpArgs false
open Go.RowKit Go.Sort

section
variable {w w' : World} {lo g : Nat} {A : Option Addr} {rs : List RoomE} {D : Option Addr} {ds : List DoorE}
theorem MapW.grown (h : MapW w lo A rs D ds) (hb : w.grownBy w' (some g)) (hg : g < lo) : MapW w' lo A rs D ds :=
 ⟨h.rooms.grown hb hg,h.doors.grown hb hg,fun r hr => ⟨(h.gives r hr).1.grown hb hg,(h.gives r hr).2⟩,fun d hd => ⟨(h.needs d hd).1.grown hb hg,(h.needs d hd).2⟩,fun d hd => ⟨(h.takes d hd).1.grown hb hg,(h.takes d hd).2⟩,h.s⟩
theorem Row.grownB {size n B : Nat} {xs : List Value} {row : Option Nat} (h : Row w lo size A n xs) (hA : ∀ a,A = some a → a.block < B) (hg : w.grownBy w' row) (hr : ∀ k,row = some k → B ≤ k) : Row w' lo size A n xs :=
 ⟨h.1,fun hn => by
  obtain ⟨b,off,e,h1,h2,h3⟩:=h.2 hn
  have:=hA _ e
  exact ⟨b,off,e,h1,Nat.lt_of_lt_of_le h2 hg.size,fun j u hu => (World.cell?_of_block (w:=w) (hg.block b h2 (fun e2 => by have:=hr b e2.symm; simp at *; omega))).trans (h3 j u hu)⟩⟩
theorem own_keepB {base size n : Nat} {e : TypeId} {v : Value} {xs : List Value} {row : Option Nat} (h : w.ownsRow base e size v n xs) (hg : w.grownBy w' row) (hr : ∀ k j,row = some k → v.ownBlock = some j → j ≠ k) : w'.ownsRow base e size v n xs :=
 h.kept hg (by
  cases hv : v.ownBlock with
  | none => exact .inl rfl
  | some j => exact .inr fun e1 => hr j j e1.symm hv rfl)
end
def TlPost (w : World) (g N : Nat) (e : Ending) (w' : World) : Prop :=
 ∃ (A : Option Addr) (c : Nat) (l : List (List UInt8)),e = .returned (.slice A l.length c) ∧ w'.ownsRow w.heap.size 9 1 (.slice A l.length c) l.length (strs l) ∧ l.length ≤ 2000 ∧ Str w' g N ∧ w.grownBy w' (some g)
set_option maxHeartbeats 4000000 in
set_option maxRecDepth 100000 in
theorem trickList_any (g N lo ca cd : Nat) (A : Option Addr) (rs : List RoomE) (D : Option Addr) (ds : List DoorE) (st gl : List UInt8) (w : World) (hs : Str w g N) (hN : N < 4611686018427360000) (hA : MapW w lo A rs D ds) (hg : g < lo) :
  Calls Tryz.prog 15 #[.pointer (some ⟨g,0,none⟩),mapV A rs ca D ds cd st gl] w (TlPost w g (N + 1100)):=by
 have hlt:=hs.lt
 have hkl : (onceT (allK ds)).length ≤ 1000:=by have:=allK_le ds; have:=onceT_le (allK ds); have:=hA.s.dl; omega
 have hb0 : Below w.heap.size w (w.alloc (.cells #[.slice A rs.length ca,.slice D ds.length cd,.string ⟨st.toArray⟩,.string ⟨gl.toArray⟩] 29)):=(Below.refl _ w).alloc (Nat.le_refl _) _
 have hA0:=hA.alloc (.cells #[.slice A rs.length ca,.slice D ds.length cd,.string ⟨st.toArray⟩,.string ⟨gl.toArray⟩] 29)
 have hs0:=hs.alloc (.cells #[.slice A rs.length ca,.slice D ds.length cd,.string ⟨st.toArray⟩,.string ⟨gl.toArray⟩] 29)
 have hgr0 : w.grownBy (w.alloc (.cells #[.slice A rs.length ca,.slice D ds.length cd,.string ⟨st.toArray⟩,.string ⟨gl.toArray⟩] 29)) (some g):=World.grownBy_alloc _ _ _
 clear hA
 unfold mapV
 simp only [encStr]
 go_enter Tryz.func15,Tryz.ntmps15
 go_wp2_with fail
 generalize w.alloc (.cells #[.slice A rs.length ca,.slice D ds.length cd,.string ⟨st.toArray⟩,.string ⟨gl.toArray⟩] 29) = w0 at *
 have hrt:=rTricks_any lo ca cd A rs D ds st gl w0 hA0
 unfold mapV at hrt
 simp only [encStr] at hrt
 refine hrt.mono ?_
 rintro e w1 ⟨A2,k2,rfl,ho2,hb2⟩
 clear hrt hA0
 generalize onceT (allK ds) = K at *
 have hrow2:=Row.of_own ho2
 have HA2 : Hid (∀ a,A2 = some a → a.block < w1.heap.size):=Lib.hid (fun a ha => by subst ha; exact (ho2.lt a.block rfl).2)
 have hs1:=hs0.keep hb2
 have hgr1:=grown_trans' hgr0 (grown_of_below hb2 (some g))
 have hz1 : w.heap.size ≤ w1.heap.size:=hgr1.size
 have hz0 : g < w0.heap.size:=hs0.lt
 have hg1 : g < w1.heap.size:=hs1.lt
 clear hs0 hgr0 hb0 hb2 ho2
 go_wp2_with fail
 go_loopw [5,11] (fun v i wr => ∃ (k : Nat) (A : Option Addr) (c : Nat) (l : List (List UInt8)),k ≤ K.length ∧ i = .int .i64 k ∧ v = .slice A l.length c ∧ wr.ownsRow w1.heap.size 9 1 (.slice A l.length c) l.length (strs l) ∧ l.length ≤ k ∧ Str wr g (N + k) ∧ w.grownBy wr (some g) ∧ Row wr w0.heap.size 1 A2 K.length (strs K) ∧ w1.heap.size ≤ wr.heap.size) (fun _ i _ => K.length - (intOf i).toNat)
 case atStart => exact ⟨0,none,0,[],by omega,rfl,rfl,World.ownsRow_nil _ _ _ _,by simp,hs1,hgr1,hrow2,Nat.le_refl _⟩
 case round =>
  clear hrow2 hs1 hgr1
  obtain ⟨k,A5,c5,l,hk,rfl,rfl,hown,hlk,hsr,hgr,hrow,hzw⟩:=hrel
  have hzr:=hgr.size
  by_cases hkn : k < K.length
  ·obtain ⟨b,off,rfl,hbs,hcell⟩:=strs_at hrow hkn
   have y0:=hcell k hkn
   clear hcell
   generalize K[k] = x at *
   simp only [encStr] at y0
   go_wp2_with fail
   refine (flip_any g _ 3 _ hsr (by omega) (by omega)).mono ?_
   rintro e w2 ⟨r2,rfl,hs2,hg2⟩
   have hgr2:=grown_trans' hgr hg2
   have hown2:=own_grown hown hg2 (by omega)
   have hrow2:=hrow.grown hg2 hz0
   have hzw2 : w1.heap.size ≤ w2.heap.size:=Nat.le_trans hzw hg2.size
   clear y0 hown hrow hg2 hgr
   cases r2
   ·go_wp2_with (at_builtin; go_must (refine wpList_app (lo:=w1.heap.size) (base:=w1.heap.size) (n:=l.length) (xs:=strs l) _ _ rfl _ _ ty_strs rfl (by repeat (first | exact hown2 | refine World.ownsRow.alloc ?_ _ | refine own_drewN ?_ _ | refine World.ownsRow.drew ?_)) rfl (by first | exact row_new' _ (by first | rfl | simp) (by first | omega | (simp; omega)) rfl | exact row_newN _ _ (by first | rfl | simp) (by first | omega | (simp; omega)) rfl | exact row_newD _ (by first | rfl | simp) (by first | omega | (simp; omega)) rfl) rfl rfl (by first | omega | decide) (by first | omega | decide) (by first | omega | (simp; omega)) ?_))
    intro A6 c6 w5 hown5 hg5 _
    have HO5 : Hid (w5.ownsRow w1.heap.size 9 1 (.slice A6 (l ++ [x]).length c6) (l ++ [x]).length (strs (l ++ [x]))):=Lib.hid (by simpa [strs,encStr] using hown5)
    have hs5:=(hs2.alloc (.cells #[.string ⟨x.toArray⟩] 9)).app (hown2.alloc _) hg5 (by omega)
    have hgr5:=grown_app (grown_alloc hgr2 (.cells #[.string ⟨x.toArray⟩] 9)) (hown2.alloc _) hg5 (by omega)
    have hrow5:=(hrow2.alloc (.cells #[.string ⟨x.toArray⟩] 9)).grownB HA2.out hg5 (fun q hq => ((hown2.alloc (.cells #[.string ⟨x.toArray⟩] 9)).lt q hq).1)
    have hzw5 : w1.heap.size ≤ w5.heap.size:=by have:=hg5.size; simp at this; omega
    clear hown2 hown5 hg5 hrow2
    go_wp2_with fail
    go_roundw
    case rel => exact ⟨k + 1,A6,c6,l ++ [x],by omega,by go_num,by simp,HO5.out,by simp; omega,hs5.more (by omega),hgr5,hrow5,hzw5⟩
    case measure => simp [intOf]; omega
   ·go_wp2_with fail
    go_roundw
    case rel => exact ⟨k + 1,A5,c5,l,by omega,by go_num,rfl,hown2,by omega,hs2,hgr2,hrow2,hzw2⟩
    case measure => simp [intOf]; omega
  ·clear hrow
   have hown:=own_weak hown hz1
   go_wp2_with fail
   refine (flip_any g _ 20 _ hsr (by omega) (by omega)).mono ?_
   rintro e w2 ⟨r2,rfl,hs2,hg2⟩
   have hgr2:=grown_trans' hgr hg2
   have hown2:=own_grown hown hg2 (by omega)
   have hgw2 : g < w2.heap.size:=hs2.lt
   clear hown hg2 hgr
   cases r2
   ·have HO:=Lib.hid hown2
    clear hown2
    go_wp2_with fail
    go_ret
    exact ⟨A5,c5,l,rfl,HO.out,by omega,hs2.more (by omega),hgr2⟩
   ·go_wp2_with fail
    refine (some_lit g _ w2.heap.size 100 #[.string ⟨#[99,108,105,112]⟩,.string ⟨#[122,122]⟩,.string ⟨#[97,98]⟩] [[99,108,105,112],[122,122],[97,98]] _ (hs2.alloc _) (by omega) (Blk.new _ _ _) rfl hgw2 (by simp) (by simp) (by decide)).mono ?_
    rintro e w3 ⟨x,rfl,hx,hs3,hg3⟩
    have hgr3:=grown_trans' (grown_alloc hgr2 _) hg3
    have hown3:=own_grown (hown2.alloc (.cells #[.string ⟨#[99,108,105,112]⟩,.string ⟨#[122,122]⟩,.string ⟨#[97,98]⟩] 9)) hg3 (by omega)
    have hzz3:=hgr3.size
    clear hown2 hg3 hgr2
    go_wp2_with (at_builtin; go_must (refine wpList_app (lo:=w.heap.size) (base:=w.heap.size) (n:=l.length) (xs:=strs l) _ _ rfl _ _ ty_strs rfl (by repeat (first | exact hown3 | refine World.ownsRow.alloc ?_ _ | refine own_drewN ?_ _ | refine World.ownsRow.drew ?_)) rfl (by first | exact row_new' _ (by first | rfl | simp) (by first | omega | (simp; omega)) rfl | exact row_newN _ _ (by first | rfl | simp) (by first | omega | (simp; omega)) rfl | exact row_newD _ (by first | rfl | simp) (by first | omega | (simp; omega)) rfl) rfl rfl (by first | omega | decide) (by first | omega | decide) (by first | omega | (simp; omega)) ?_))
    intro A6 c6 w5 hown5 hg5 _
    have HO5 : Hid (w5.ownsRow w.heap.size 9 1 (.slice A6 (l ++ [x]).length c6) (l ++ [x]).length (strs (l ++ [x]))):=Lib.hid (by simpa [strs,encStr] using hown5)
    have HS5:=Lib.hid (((hs3.alloc (.cells #[.string ⟨x.toArray⟩] 9)).app (hown3.alloc _) hg5 (by omega)).more (show _ ≤ N + 1100 by omega))
    have HG5:=Lib.hid (grown_app (grown_alloc hgr3 (.cells #[.string ⟨x.toArray⟩] 9)) (hown3.alloc _) hg5 (by omega))
    clear hown3 hown5 hg5 hs3 hgr3
    go_wp2_with fail
    go_ret
    exact ⟨A6,c6,l ++ [x],by simp,HO5.out,by simp; omega,HS5.out,HG5.out⟩

set_option maxHeartbeats 8000000 in
set_option maxRecDepth 100000 in
theorem doorList_any (g N lo ca cd lo2 c2 : Nat) (A : Option Addr) (rs : List RoomE) (D : Option Addr) (ds : List DoorE) (st gl : List UInt8) (TR : Option Addr) (tr : List (List UInt8)) (w : World) (hs : Str w g N) (hN : N < 4611686018427360000) (hA : MapW w lo A rs D ds) (hg : g < lo) (hRI : Right rs ds st gl) (hr : Row w lo2 1 TR tr.length (strs tr)) (hrl : tr.length ≤ 1000000000) (hg2 : g < lo2) :
  Calls Tryz.prog 18 #[.pointer (some ⟨g,0,none⟩),mapV A rs ca D ds cd st gl,.slice TR tr.length c2] w (TlPost w g (N + 6000)):=by
 have hlt:=hs.lt
 have hbx0 : Blk (w.alloc (.cells #[.slice A rs.length ca,.slice D ds.length cd,.string ⟨st.toArray⟩,.string ⟨gl.toArray⟩] 29)) w.heap.size 29 #[.slice A rs.length ca,.slice D ds.length cd,.string ⟨st.toArray⟩,.string ⟨gl.toArray⟩]:=Blk.new _ _ _
 have hs0:=hs.alloc (.cells #[.slice A rs.length ca,.slice D ds.length cd,.string ⟨st.toArray⟩,.string ⟨gl.toArray⟩] 29)
 have hgr0 : w.grownBy (w.alloc (.cells #[.slice A rs.length ca,.slice D ds.length cd,.string ⟨st.toArray⟩,.string ⟨gl.toArray⟩] 29)) (some g):=World.grownBy_alloc _ _ _
 have HMA:=Lib.hid hA
 have HRI:=Lib.hid hRI
 have HTR:=Lib.hid hr
 have hdl : ds.length ≤ 500:=hRI.dl
 clear hA hRI hr
 unfold mapV
 simp only [encStr]
 go_enter Tryz.func18,Tryz.ntmps18
 go_wp2_with fail
 generalize w.alloc (.cells #[.slice A rs.length ca,.slice D ds.length cd,.string ⟨st.toArray⟩,.string ⟨gl.toArray⟩] 29) = w0 at *
 refine (range_any g _ _ _ _ hs0 (by omega) (by omega) (by omega) (by omega)).mono ?_
 rintro e w1 ⟨r1,rfl,h0,h1,hs1,hg1⟩
 obtain ⟨m,rfl⟩:=Int.eq_ofNat_of_zero_le (show 0 ≤ r1 by omega)
 have hgr1:=grown_trans' hgr0 hg1
 have hbx1:=hbx0.grown hg1 (by omega)
 have hm5 : m ≤ 5:=by omega
 clear hs0 hgr0 hbx0 hg1 h0 h1
 go_upto_block 0 with (fail)
 go_cut [7] from 8 to 60 (fun v wx => ∃ (AO : Option Addr) (cO : Nat) (out : List (List UInt8)),v = .slice AO out.length cO ∧ wx.ownsRow (w.heap.size + 1) 9 1 (.slice AO out.length cO) out.length (strs out) ∧ out.length ≤ 5 ∧ Str wx g (N + 1 + 501 * 5) ∧ w.grownBy wx (some g))
 case first =>
  go_wp2_with fail
  go_loopw [7,16] (fun v i wr => ∃ (k : Nat) (AO : Option Addr) (cO : Nat) (out : List (List UInt8)),k ≤ m ∧ i = .int .i64 k ∧ v = .slice AO out.length cO ∧ wr.ownsRow (w.heap.size + 1) 9 1 (.slice AO out.length cO) out.length (strs out) ∧ out.length ≤ k ∧ Str wr g (N + 1 + 501 * k) ∧ w.grownBy wr (some g) ∧ Blk wr w.heap.size 29 #[.slice A rs.length ca,.slice D ds.length cd,.string ⟨st.toArray⟩,.string ⟨gl.toArray⟩]) (fun _ i _ => m - (intOf i).toNat)
  case atStart => exact ⟨0,none,0,[],by omega,rfl,rfl,World.ownsRow_nil _ _ _ _,by simp,hs1,hgr1,hbx1⟩
  case round =>
   clear hs1 hgr1 hbx1
   obtain ⟨k,AO,cO,out,hk,rfl,rfl,hown,hlk,hsr,hgr,hbx⟩:=hrel
   by_cases hkm : k < m
   ·obtain ⟨m0,m1,m2,m3⟩ : _ ∧ _ ∧ _ ∧ _:=⟨hbx.cell 0,hbx.cell 1,hbx.cell 2,hbx.cell 3⟩
    simp only [Q0,Q2,Q1] at m0 m1 m2 m3
    go_wp2_with fail
    clear m0 m1 m2 m3
    obtain ⟨W1,hW1⟩ : ∃ W1,W1 = wr:=⟨_,rfl⟩
    subst hW1
    have hzW:=hgr.size
    have zbx:=hbx.lt
    have HOB : Hid (∀ j,(Value.slice AO out.length cO).ownBlock = some j → j < W1.heap.size):=Lib.hid (fun j hj => (hown.lt j hj).2)
    go_loopw [8,21] (fun v i wr => ∃ (j : Nat) (AL : Option Addr) (cL : Nat) (l : List (List UInt8)),j ≤ ds.length ∧ i = .int .i64 j ∧ v = .slice AL l.length cL ∧ wr.ownsRow W1.heap.size 9 1 (.slice AL l.length cL) l.length (strs l) ∧ l.length ≤ j ∧ Str wr g (N + 1 + 501 * k + j) ∧ w.grownBy wr (some g) ∧ Blk wr w.heap.size 29 #[.slice A rs.length ca,.slice D ds.length cd,.string ⟨st.toArray⟩,.string ⟨gl.toArray⟩] ∧ wr.ownsRow (w.heap.size + 1) 9 1 (.slice AO out.length cO) out.length (strs out) ∧ W1.heap.size ≤ wr.heap.size) (fun _ i _ => ds.length - (intOf i).toNat)
    case atStart => exact ⟨0,none,0,[],by omega,rfl,rfl,World.ownsRow_nil _ _ _ _,by simp,hsr,hgr,hbx,hown,Nat.le_refl _⟩
    case round =>
     clear hsr hgr hbx hown zbx
     obtain ⟨j,AL,cL,l,hj,rfl,rfl,hownL,hlj,hsr,hgr,hbx,hown,hzw⟩:=hrel
     by_cases hjn : j < ds.length
     ·obtain ⟨bd,doff,rfl,hbd,hcell⟩:=(HMA.out.grown hgr hg).door (by omega)
      obtain ⟨y0,y1,y2,y3,y4,y5,y6⟩:=hcell j hjn
      clear hcell
      generalize ds[j] = d at *
      simp only [encStr] at y0 y1 y2 y6
      go_upto_region 8 with (fail)
      have hv : Blk (wr.alloc (.cells #[.string ⟨d.key.toArray⟩,.string ⟨d.src.toArray⟩,.string ⟨d.dst.toArray⟩,.int .i64 d.time,.slice d.N d.needs.length d.nc,.slice d.T d.takes.length d.tc,.string ⟨d.trick.toArray⟩] 75)) wr.heap.size 75 #[.string ⟨d.key.toArray⟩,.string ⟨d.src.toArray⟩,.string ⟨d.dst.toArray⟩,.int .i64 d.time,.slice d.N d.needs.length d.nc,.slice d.T d.takes.length d.tc,.string ⟨d.trick.toArray⟩]:=Blk.new _ _ _
      have hgvb : g < wr.heap.size:=hsr.lt
      replace hbx:=hbx.alloc (.cells #[.string ⟨d.key.toArray⟩,.string ⟨d.src.toArray⟩,.string ⟨d.dst.toArray⟩,.int .i64 d.time,.slice d.N d.needs.length d.nc,.slice d.T d.takes.length d.tc,.string ⟨d.trick.toArray⟩] 75)
      replace hsr:=hsr.alloc (.cells #[.string ⟨d.key.toArray⟩,.string ⟨d.src.toArray⟩,.string ⟨d.dst.toArray⟩,.int .i64 d.time,.slice d.N d.needs.length d.nc,.slice d.T d.takes.length d.tc,.string ⟨d.trick.toArray⟩] 75)
      replace hgr:=grown_alloc hgr (.cells #[.string ⟨d.key.toArray⟩,.string ⟨d.src.toArray⟩,.string ⟨d.dst.toArray⟩,.int .i64 d.time,.slice d.N d.needs.length d.nc,.slice d.T d.takes.length d.tc,.string ⟨d.trick.toArray⟩] 75)
      replace hown:=hown.alloc (.cells #[.string ⟨d.key.toArray⟩,.string ⟨d.src.toArray⟩,.string ⟨d.dst.toArray⟩,.int .i64 d.time,.slice d.N d.needs.length d.nc,.slice d.T d.takes.length d.tc,.string ⟨d.trick.toArray⟩] 75)
      replace hownL:=hownL.alloc (.cells #[.string ⟨d.key.toArray⟩,.string ⟨d.src.toArray⟩,.string ⟨d.dst.toArray⟩,.int .i64 d.time,.slice d.N d.needs.length d.nc,.slice d.T d.takes.length d.tc,.string ⟨d.trick.toArray⟩] 75)
      have hzw2 : W1.heap.size ≤ (wr.alloc (.cells #[.string ⟨d.key.toArray⟩,.string ⟨d.src.toArray⟩,.string ⟨d.dst.toArray⟩,.int .i64 d.time,.slice d.N d.needs.length d.nc,.slice d.T d.takes.length d.tc,.string ⟨d.trick.toArray⟩] 75)).heap.size:=by simp; omega
      clear y0 y1 y2 y3 y4 y5 y6 hzw hbd
      generalize wr.alloc (.cells #[.string ⟨d.key.toArray⟩,.string ⟨d.src.toArray⟩,.string ⟨d.dst.toArray⟩,.int .i64 d.time,.slice d.N d.needs.length d.nc,.slice d.T d.takes.length d.tc,.string ⟨d.trick.toArray⟩] 75) = X at *
      generalize wr.heap.size = vb at *
      have HSC : Hid (∀ W,Below X.heap.size X W → (fun w' : World => w'.cell? ⟨w.heap.size,0,none⟩ = some (.slice A rs.length ca) ∧ w'.cell? ⟨w.heap.size,1,none⟩ = some (.slice (some ⟨bd,doff,none⟩) ds.length cd) ∧ w'.cell? ⟨w.heap.size,2,none⟩ = some (.string ⟨st.toArray⟩) ∧ w'.cell? ⟨w.heap.size,3,none⟩ = some (.string ⟨gl.toArray⟩) ∧ w'.cell? ⟨vb,0,none⟩ = some (.string ⟨d.key.toArray⟩)) W):=Lib.hid (fun W hW => by
       have hb2:=hbx.below hW
       exact ⟨hb2.cell 0,hb2.cell 1,hb2.cell 2,hb2.cell 3,(hv.below hW).cell 0⟩)
      have HOW : Hid (∀ W,Below X.heap.size X W → Row W (w.heap.size + 1) 1 AO out.length (strs out)):=Lib.hid (fun W hW => (Row.of_own hown).below hW)
      have HMW : Hid (∀ W,Below X.heap.size X W → MapW W lo A rs (some ⟨bd,doff,none⟩) ds ∧ Row W lo2 1 TR tr.length (strs tr)):=Lib.hid (fun W hW => ⟨(HMA.out.grown hgr hg).below hW,(HTR.out.grown hgr hg2).below hW⟩)
      go_cut [13] from 25 to 39 (fun v wx => ∃ er : Int,v = .int .i64 er ∧ Below X.heap.size X wx)
      case first =>
       have hbz : Below X.heap.size X X.drew:=below_drewN' (Below.refl _ _) 1
       have hsc:=HSC.out _ hbz
       have hzx : X.heap.size ≤ X.drew.heap.size:=hbz.size
       clear hown hownL hsr hgr hbx hv
       refine wp_region_held_drew (S:=(fun w' => w'.cell? ⟨w.heap.size,0,none⟩ = some (.slice A rs.length ca) ∧ w'.cell? ⟨w.heap.size,1,none⟩ = some (.slice (some ⟨bd,doff,none⟩) ds.length cd) ∧ w'.cell? ⟨w.heap.size,2,none⟩ = some (.string ⟨st.toArray⟩) ∧ w'.cell? ⟨w.heap.size,3,none⟩ = some (.string ⟨gl.toArray⟩) ∧ w'.cell? ⟨vb,0,none⟩ = some (.string ⟨d.key.toArray⟩))) (by kernel_rfl) (hsc) (fun hHeld => ?_)
       (refine wpAnyH_take (i:=0) (v:=?_) (by (simp only [Q0,Q2]; rfl)) (by kernel_rfl) (by kernel_rfl) (by kernel_rfl) (by exact fun _ _ _ h => h) (Or.inl ⟨by rfl,?_⟩) (by assumption) ?_; (rotate_left 1; (intro w hSw; (try dsimp only at hSw); go_simp); (try with_reducible rfl)); (try simp only [Act.put,Q3,Q4,Q5]))
       (refine wpAnyH_take (i:=1) (v:=?_) (by (simp only [Q0,Q1,Q2]; rfl)) (by kernel_rfl) (by kernel_rfl) (by kernel_rfl) (by exact fun _ _ _ h => h) (Or.inl ⟨by rfl,?_⟩) (by assumption) ?_; (rotate_left 1; (intro w hSw; (try dsimp only at hSw); go_simp); (try with_reducible rfl)); (try simp only [Act.put,Q3,Q4,Q5]))
       (refine wpAnyH_take (i:=2) (v:=?_) (by (simp only [Q0,Q1,Q2]; rfl)) (by kernel_rfl) (by kernel_rfl) (by kernel_rfl) (by exact fun _ _ _ h => h) (Or.inl ⟨by rfl,?_⟩) (by assumption) ?_; (rotate_left 1; (intro w hSw; (try dsimp only at hSw); go_simp); (try with_reducible rfl)); (try simp only [Act.put,Q3,Q4,Q5]))
       (refine wpAnyH_take (i:=4) (v:=?_) (by (simp only [Q0,Q1,Q2]; rfl)) (by kernel_rfl) (by kernel_rfl) (by kernel_rfl) (by exact fun _ _ _ h => h) (Or.inl ⟨by rfl,?_⟩) (by assumption) ?_; (rotate_left 1; (intro w hSw; (try dsimp only at hSw); go_simp); (try with_reducible rfl)); (try simp only [Act.put,Q3,Q4,Q5]))
       (refine wpAnyH_take (i:=5) (v:=?_) (by (simp only [Q0,Q1,Q2]; rfl)) (by kernel_rfl) (by kernel_rfl) (by kernel_rfl) (by exact fun _ _ _ h => h) (Or.inl ⟨by rfl,?_⟩) (by assumption) ?_; (rotate_left 1; (intro w hSw; (try dsimp only at hSw); go_simp); (try with_reducible rfl)); (try simp only [Act.put,Q3,Q4,Q5]))
       refine wpAnyH_ready (rs:=[3,6,13]) (by kernel_rfl) (by simp) ?_
       refine AllReadyH.cons rfl (fun K hK => ?_) (AllReadyH.cons rfl (fun K hK => ?_) (AllReadyH.cons rfl (fun K hK => ?_) AllReadyH.nil))
       case refine_1 =>
        go_simp
        go_at_call 48
        refine (cloneS_any AO cO (w.heap.size + 1) out _ (HOW.out _ hbz) (by omega)).mono ?_
        rintro e wa ⟨A3,c3,rfl,ho3,hb⟩
        replace ho3:=own_weak ho3 hbz.size
        replace hbz:=hbz.trans (hb.mono hbz.size)
        have hsc:=HSC.out _ hbz
        clear hb
        go_wp2_with fail
        refine hK.out _ _ (hsc) (fun hHeld => ?_)
        clear hK K
        (try simp only [Act.put,Q3,Q4,Q5])
        refine wpAnyH_ready (rs:=[6,13]) (by kernel_rfl) (by simp) ?_
        refine AllReadyH.cons rfl (fun K hK => ?_) (AllReadyH.cons rfl (fun K hK => ?_) AllReadyH.nil)
        case refine_1 =>
         go_simp
         have hL6 : Blk (wa.alloc (.cells #[.string ⟨d.key.toArray⟩] 9)) (wa.heap.size) 9 #[.string ⟨d.key.toArray⟩]:=Blk.at_ _ (by simp)
         replace ho3:=ho3.alloc (.cells #[.string ⟨d.key.toArray⟩] 9)
         replace hbz:=hbz.alloc hbz.size (.cells #[.string ⟨d.key.toArray⟩] 9)
         have hsc:=HSC.out _ hbz
         refine hK.out _ _ (hsc) (fun hHeld => ?_)
         clear hK K
         (try simp only [Act.put,Q3,Q4,Q5])
         refine wpAnyH_ready (rs:=[7,13]) (by kernel_rfl) (by simp) ?_
         refine AllReadyH.cons rfl (fun K hK => ?_) (AllReadyH.cons rfl (fun K hK => ?_) AllReadyH.nil)
         case refine_1 =>
          refine step_app (lo:=0) (base:=X.heap.size) (n:=out.length) (xs:=strs out) _ rfl _ _ ty_strs rfl ho3 rfl (Row.lit hL6 (Nat.zero_le _) rfl : Row _ 0 1 _ 1 _) rfl rfl (by omega) (by omega) hbz.size ?_
          intro A7 c7 wb hown7 hg7 _
          replace hbz:=hbz.grown hg7 hbz.size (fun q hq => (ho3.lt q hq).1)
          have hsc:=HSC.out _ hbz
          replace hown7 : wb.ownsRow X.heap.size 9 1 (.slice A7 (out ++ [d.key]).length c7) (out ++ [d.key]).length (strs (out ++ [d.key])):=by simpa [strs,encStr] using hown7
          clear hg7 ho3 hL6
          refine hK.out _ _ (hsc) (fun hHeld => ?_)
          clear hK K
          (try simp only [Act.put,Q3,Q4,Q5])
          refine wpAnyH_ready (rs:=[8,13]) (by kernel_rfl) (by simp) ?_
          refine AllReadyH.cons rfl (fun K hK => ?_) (AllReadyH.cons rfl (fun K hK => ?_) AllReadyH.nil)
          case refine_1 =>
           go_simp
           go_at_call 59
           have hwo:=walkedOf_any lo ca cd lo2 c2 X.heap.size c7 A rs (some ⟨bd,doff,none⟩) ds st gl TR tr A7 (out ++ [d.key]) _ (HMW.out _ hbz).1 HRI.out (HMW.out _ hbz).2 hrl (Row.of_own hown7) (by simp; omega)
           unfold mapV at hwo
           simp only [encStr,List.length_append,List.length_singleton] at hwo
           generalize walkF rs ds st tr (out ++ [d.key]) = R at hwo
           refine hwo.mono ?_
           clear hwo
           rintro e wq ⟨PA,pc,rfl,-,hb⟩
           replace hbz:=hbz.trans (hb.mono hbz.size)
           have hsc:=HSC.out _ hbz
           clear hb
           go_wp2_with fail
           refine hK.out _ _ (hsc) (fun hHeld => ?_)
           clear hK K
           (try simp only [Act.put,Q3,Q4,Q5])
           (refine wpAnyH_take (i:=9) (v:=?_) (by (simp only [Q0,Q1,Q2]; rfl)) (by kernel_rfl) (by kernel_rfl) (by kernel_rfl) (by exact fun _ _ _ h => h) (Or.inl ⟨by rfl,?_⟩) (by assumption) ?_; (rotate_left 1; (intro w hSw; (try dsimp only at hSw); go_simp); (try with_reducible rfl)); (try simp only [Act.put,Q3,Q4,Q5]))
           (refine wpAnyH_take (i:=10) (v:=?_) (by (simp only [Q0,Q1,Q2]; rfl)) (by kernel_rfl) (by kernel_rfl) (by kernel_rfl) (by exact fun _ _ _ h => h) (Or.inl ⟨by rfl,?_⟩) (by assumption) ?_; (rotate_left 1; (intro w hSw; (try dsimp only at hSw); go_simp); (try with_reducible rfl)); (try simp only [Act.put,Q3,Q4,Q5]))
           (refine wpAnyH_take (i:=11) (v:=?_) (by (simp only [Q0,Q1,Q2]; rfl)) (by kernel_rfl) (by kernel_rfl) (by kernel_rfl) (by exact fun _ _ _ h => h) (Or.inl ⟨by rfl,?_⟩) (by assumption) ?_; (rotate_left 1; (intro w hSw; (try dsimp only at hSw); go_simp); (try with_reducible rfl)); (try simp only [Act.put,Q3,Q4,Q5]))
           (refine wpAnyH_take (i:=12) (v:=?_) (by (simp only [Q0,Q1,Q2]; rfl)) (by kernel_rfl) (by kernel_rfl) (by kernel_rfl) (by exact fun _ _ _ h => h) (Or.inl ⟨by rfl,?_⟩) (by assumption) ?_; (rotate_left 1; (intro w hSw; (try dsimp only at hSw); go_simp); (try with_reducible rfl)); (try simp only [Act.put,Q3,Q4,Q5]))
           refine wpAnyH_ready (rs:=[13]) (by kernel_rfl) (by simp) ?_
           refine AllReadyH.cons rfl (fun K hK => ?_) AllReadyH.nil
           go_simp
           have hzp : X.heap.size ≤ wq.heap.size:=by
            have:=hbz.size
            first | omega | (simp at this ⊢; done) | (simp at this ⊢; omega)
           have hb0:=hbz
           replace hbz:=hbz.alloc hbz.size (.cells #[.string ⟨#[]⟩,.slice none 0 0] 52)
           have hsc:=HSC.out _ hbz
           refine hK.out _ _ (hsc) (fun hHeld => ?_)
           clear hK K
           (try simp only [Act.put,Q3,Q4,Q5])
           refine wpAnyH_ready (rs:=[14]) (by kernel_rfl) (by simp) ?_
           refine AllReadyH.cons rfl (fun K hK => ?_) AllReadyH.nil
           go_simp
           have hbz:=hb0.alloc hb0.size (.cells #[.string ⟨R.room.toArray⟩,.slice PA R.th.length pc] 52)
           have hsc:=HSC.out _ hbz
           refine hK.out _ _ (hsc) (fun hHeld => ?_)
           clear hK K
           (try simp only [Act.put,Q3,Q4,Q5])
           (refine wpAnyH_take (i:=15) (v:=?_) (by (simp only [Q0,Q1,Q2]; rfl)) (by kernel_rfl) (by kernel_rfl) (by kernel_rfl) (by exact fun _ _ _ h => h) (Or.inl ⟨by rfl,?_⟩) (by assumption) ?_; (rotate_left 1; (intro w hSw; (try dsimp only at hSw); go_simp); (try with_reducible rfl)); (try simp only [Act.put,Q3,Q4,Q5]))
           (refine wpAnyH_take (i:=16) (v:=?_) (by (simp only [Q0,Q1,Q2]; rfl)) (by kernel_rfl) (by kernel_rfl) (by kernel_rfl) (by exact fun _ _ _ h => h) (Or.inl ⟨by rfl,?_⟩) (by assumption) ?_; (rotate_left 1; (intro w hSw; (try dsimp only at hSw); go_simp); (try with_reducible rfl)); (try simp only [Act.put,Q3,Q4,Q5]))
           refine wpAnyH_done (by kernel_rfl) ?_ _
           go_wp2_with fail
           go_meet
           exact ⟨_,rfl,hbz⟩
          case refine_2 =>
           go_simp
           have hzp : X.heap.size ≤ wb.heap.size:=by
            have:=hbz.size
            first | omega | (simp at this ⊢; done) | (simp at this ⊢; omega)
           have hP : Blk (wb.alloc (.cells #[.string ⟨#[]⟩,.slice none 0 0] 52)) (wb.heap.size) 52 #[.string ⟨#[]⟩,.slice none 0 0]:=Blk.at_ _ (by simp)
           replace hown7:=hown7.alloc (.cells #[.string ⟨#[]⟩,.slice none 0 0] 52)
           have hb0:=hbz
           replace hbz:=hbz.alloc hbz.size (.cells #[.string ⟨#[]⟩,.slice none 0 0] 52)
           have hsc:=HSC.out _ hbz
           refine hK.out _ _ (hsc) (fun hHeld => ?_)
           clear hK K
           (try simp only [Act.put,Q3,Q4,Q5])
           refine wpAnyH_ready (rs:=[8]) (by kernel_rfl) (by simp) ?_
           refine AllReadyH.cons rfl (fun K hK => ?_) AllReadyH.nil
           go_simp
           go_at_call 59
           have hwo:=walkedOf_any lo ca cd lo2 c2 X.heap.size c7 A rs (some ⟨bd,doff,none⟩) ds st gl TR tr A7 (out ++ [d.key]) _ (HMW.out _ hbz).1 HRI.out (HMW.out _ hbz).2 hrl (Row.of_own hown7) (by simp; omega)
           unfold mapV at hwo
           simp only [encStr,List.length_append,List.length_singleton] at hwo
           generalize walkF rs ds st tr (out ++ [d.key]) = R at hwo
           refine hwo.mono ?_
           clear hwo
           rintro e wq ⟨PA,pc,rfl,-,hb⟩
           replace hP:=hP.below hb
           replace hbz:=hbz.trans (hb.mono hbz.size)
           have hsc:=HSC.out _ hbz
           clear hb
           go_wp2_with fail
           refine hK.out _ _ (hsc) (fun hHeld => ?_)
           clear hK K
           (try simp only [Act.put,Q3,Q4,Q5])
           (refine wpAnyH_take (i:=9) (v:=?_) (by (simp only [Q0,Q1,Q2]; rfl)) (by kernel_rfl) (by kernel_rfl) (by kernel_rfl) (by exact fun _ _ _ h => h) (Or.inl ⟨by rfl,?_⟩) (by assumption) ?_; (rotate_left 1; (intro w hSw; (try dsimp only at hSw); go_simp); (try with_reducible rfl)); (try simp only [Act.put,Q3,Q4,Q5]))
           (refine wpAnyH_take (i:=10) (v:=?_) (by (simp only [Q0,Q1,Q2]; rfl)) (by kernel_rfl) (by kernel_rfl) (by kernel_rfl) (by exact fun _ _ _ h => h) (Or.inl ⟨by rfl,?_⟩) (by assumption) ?_; (rotate_left 1; (intro w hSw; (try dsimp only at hSw); go_simp); (try with_reducible rfl)); (try simp only [Act.put,Q3,Q4,Q5]))
           (refine wpAnyH_take (i:=11) (v:=?_) (by (simp only [Q0,Q1,Q2]; rfl)) (by kernel_rfl) (by kernel_rfl) (by kernel_rfl) (by exact fun _ _ _ h => h) (Or.inl ⟨by rfl,?_⟩) (by assumption) ?_; (rotate_left 1; (intro w hSw; (try dsimp only at hSw); go_simp); (try with_reducible rfl)); (try simp only [Act.put,Q3,Q4,Q5]))
           (refine wpAnyH_take (i:=12) (v:=?_) (by (simp only [Q0,Q1,Q2]; rfl)) (by kernel_rfl) (by kernel_rfl) (by kernel_rfl) (by exact fun _ _ _ h => h) (Or.inl ⟨by rfl,?_⟩) (by assumption) ?_; (rotate_left 1; (intro w hSw; (try dsimp only at hSw); go_simp); (try with_reducible rfl)); (try simp only [Act.put,Q3,Q4,Q5]))
           refine wpAnyH_ready (rs:=[14]) (by kernel_rfl) (by simp) ?_
           refine AllReadyH.cons rfl (fun K hK => ?_) AllReadyH.nil
           have hP : Blk wq (wb.heap.size) 52 #[.string ⟨#[]⟩,.slice none 0 0]:=hP
           obtain ⟨z0,z1⟩:=hP.two_
           have f0:=hP.thaw 0
           have f1:=hP.thaw 1
           have zP:=hP.lt
           go_simp
           have hbz:=Below.setCell (Below.setCell hbz (p:=⟨wb.heap.size,0,none⟩) hzp (.string ⟨R.room.toArray⟩)) (p:=⟨wb.heap.size,1,none⟩) hzp (.slice PA R.th.length pc)
           have hsc:=HSC.out _ hbz
           refine hK.out _ _ (hsc) (fun hHeld => ?_)
           clear hK K
           (try simp only [Act.put,Q3,Q4,Q5])
           (refine wpAnyH_take (i:=15) (v:=?_) (by (simp only [Q0,Q1,Q2]; rfl)) (by kernel_rfl) (by kernel_rfl) (by kernel_rfl) (by exact fun _ _ _ h => h) (Or.inl ⟨by rfl,?_⟩) (by assumption) ?_; (rotate_left 1; (intro w hSw; (try dsimp only at hSw); go_simp); (try with_reducible rfl)); (try simp only [Act.put,Q3,Q4,Q5]))
           (refine wpAnyH_take (i:=16) (v:=?_) (by (simp only [Q0,Q1,Q2]; rfl)) (by kernel_rfl) (by kernel_rfl) (by kernel_rfl) (by exact fun _ _ _ h => h) (Or.inl ⟨by rfl,?_⟩) (by assumption) ?_; (rotate_left 1; (intro w hSw; (try dsimp only at hSw); go_simp); (try with_reducible rfl)); (try simp only [Act.put,Q3,Q4,Q5]))
           refine wpAnyH_done (by kernel_rfl) ?_ _
           go_wp2_with fail
           go_meet
           exact ⟨_,rfl,hbz⟩
         case refine_2 =>
          go_simp
          have hzp : X.heap.size ≤ wa.heap.size + 1:=by
           have:=hbz.size
           first | omega | (simp at this ⊢; done) | (simp at this ⊢; omega)
          have hP : Blk ((wa.alloc (.cells #[.string ⟨d.key.toArray⟩] 9)).alloc (.cells #[.string ⟨#[]⟩,.slice none 0 0] 52)) (wa.heap.size + 1) 52 #[.string ⟨#[]⟩,.slice none 0 0]:=Blk.at_ _ (by simp)
          replace ho3:=ho3.alloc (.cells #[.string ⟨#[]⟩,.slice none 0 0] 52)
          replace hL6:=hL6.alloc (.cells #[.string ⟨#[]⟩,.slice none 0 0] 52)
          have hb0:=hbz
          replace hbz:=hbz.alloc hbz.size (.cells #[.string ⟨#[]⟩,.slice none 0 0] 52)
          have hsc:=HSC.out _ hbz
          refine hK.out _ _ (hsc) (fun hHeld => ?_)
          clear hK K
          (try simp only [Act.put,Q3,Q4,Q5])
          refine wpAnyH_ready (rs:=[7]) (by kernel_rfl) (by simp) ?_
          refine AllReadyH.cons rfl (fun K hK => ?_) AllReadyH.nil
          refine step_app (lo:=0) (base:=X.heap.size) (n:=out.length) (xs:=strs out) _ rfl _ _ ty_strs rfl ho3 rfl (Row.lit hL6 (Nat.zero_le _) rfl : Row _ 0 1 _ 1 _) rfl rfl (by omega) (by omega) hbz.size ?_
          intro A7 c7 wb hown7 hg7 _
          replace hP:=Blk.app ho3 hP hg7 (by decide)
          replace hbz:=hbz.grown hg7 hbz.size (fun q hq => (ho3.lt q hq).1)
          have hsc:=HSC.out _ hbz
          replace hown7 : wb.ownsRow X.heap.size 9 1 (.slice A7 (out ++ [d.key]).length c7) (out ++ [d.key]).length (strs (out ++ [d.key])):=by simpa [strs,encStr] using hown7
          clear hg7 ho3 hL6
          refine hK.out _ _ (hsc) (fun hHeld => ?_)
          clear hK K
          (try simp only [Act.put,Q3,Q4,Q5])
          refine wpAnyH_ready (rs:=[8]) (by kernel_rfl) (by simp) ?_
          refine AllReadyH.cons rfl (fun K hK => ?_) AllReadyH.nil
          go_simp
          go_at_call 59
          have hwo:=walkedOf_any lo ca cd lo2 c2 X.heap.size c7 A rs (some ⟨bd,doff,none⟩) ds st gl TR tr A7 (out ++ [d.key]) _ (HMW.out _ hbz).1 HRI.out (HMW.out _ hbz).2 hrl (Row.of_own hown7) (by simp; omega)
          unfold mapV at hwo
          simp only [encStr,List.length_append,List.length_singleton] at hwo
          generalize walkF rs ds st tr (out ++ [d.key]) = R at hwo
          refine hwo.mono ?_
          clear hwo
          rintro e wq ⟨PA,pc,rfl,-,hb⟩
          replace hP:=hP.below hb
          replace hbz:=hbz.trans (hb.mono hbz.size)
          have hsc:=HSC.out _ hbz
          clear hb
          go_wp2_with fail
          refine hK.out _ _ (hsc) (fun hHeld => ?_)
          clear hK K
          (try simp only [Act.put,Q3,Q4,Q5])
          (refine wpAnyH_take (i:=9) (v:=?_) (by (simp only [Q0,Q1,Q2]; rfl)) (by kernel_rfl) (by kernel_rfl) (by kernel_rfl) (by exact fun _ _ _ h => h) (Or.inl ⟨by rfl,?_⟩) (by assumption) ?_; (rotate_left 1; (intro w hSw; (try dsimp only at hSw); go_simp); (try with_reducible rfl)); (try simp only [Act.put,Q3,Q4,Q5]))
          (refine wpAnyH_take (i:=10) (v:=?_) (by (simp only [Q0,Q1,Q2]; rfl)) (by kernel_rfl) (by kernel_rfl) (by kernel_rfl) (by exact fun _ _ _ h => h) (Or.inl ⟨by rfl,?_⟩) (by assumption) ?_; (rotate_left 1; (intro w hSw; (try dsimp only at hSw); go_simp); (try with_reducible rfl)); (try simp only [Act.put,Q3,Q4,Q5]))
          (refine wpAnyH_take (i:=11) (v:=?_) (by (simp only [Q0,Q1,Q2]; rfl)) (by kernel_rfl) (by kernel_rfl) (by kernel_rfl) (by exact fun _ _ _ h => h) (Or.inl ⟨by rfl,?_⟩) (by assumption) ?_; (rotate_left 1; (intro w hSw; (try dsimp only at hSw); go_simp); (try with_reducible rfl)); (try simp only [Act.put,Q3,Q4,Q5]))
          (refine wpAnyH_take (i:=12) (v:=?_) (by (simp only [Q0,Q1,Q2]; rfl)) (by kernel_rfl) (by kernel_rfl) (by kernel_rfl) (by exact fun _ _ _ h => h) (Or.inl ⟨by rfl,?_⟩) (by assumption) ?_; (rotate_left 1; (intro w hSw; (try dsimp only at hSw); go_simp); (try with_reducible rfl)); (try simp only [Act.put,Q3,Q4,Q5]))
          refine wpAnyH_ready (rs:=[14]) (by kernel_rfl) (by simp) ?_
          refine AllReadyH.cons rfl (fun K hK => ?_) AllReadyH.nil
          have hP : Blk wq (wa.heap.size + 1) 52 #[.string ⟨#[]⟩,.slice none 0 0]:=hP
          obtain ⟨z0,z1⟩:=hP.two_
          have f0:=hP.thaw 0
          have f1:=hP.thaw 1
          have zP:=hP.lt
          go_simp
          have hbz:=Below.setCell (Below.setCell hbz (p:=⟨wa.heap.size + 1,0,none⟩) hzp (.string ⟨R.room.toArray⟩)) (p:=⟨wa.heap.size + 1,1,none⟩) hzp (.slice PA R.th.length pc)
          have hsc:=HSC.out _ hbz
          refine hK.out _ _ (hsc) (fun hHeld => ?_)
          clear hK K
          (try simp only [Act.put,Q3,Q4,Q5])
          (refine wpAnyH_take (i:=15) (v:=?_) (by (simp only [Q0,Q1,Q2]; rfl)) (by kernel_rfl) (by kernel_rfl) (by kernel_rfl) (by exact fun _ _ _ h => h) (Or.inl ⟨by rfl,?_⟩) (by assumption) ?_; (rotate_left 1; (intro w hSw; (try dsimp only at hSw); go_simp); (try with_reducible rfl)); (try simp only [Act.put,Q3,Q4,Q5]))
          (refine wpAnyH_take (i:=16) (v:=?_) (by (simp only [Q0,Q1,Q2]; rfl)) (by kernel_rfl) (by kernel_rfl) (by kernel_rfl) (by exact fun _ _ _ h => h) (Or.inl ⟨by rfl,?_⟩) (by assumption) ?_; (rotate_left 1; (intro w hSw; (try dsimp only at hSw); go_simp); (try with_reducible rfl)); (try simp only [Act.put,Q3,Q4,Q5]))
          refine wpAnyH_done (by kernel_rfl) ?_ _
          go_wp2_with fail
          go_meet
          exact ⟨_,rfl,hbz⟩
        case refine_2 =>
         go_simp
         have hzp : X.heap.size ≤ wa.heap.size:=by
          have:=hbz.size
          first | omega | (simp at this ⊢; done) | (simp at this ⊢; omega)
         have hP : Blk (wa.alloc (.cells #[.string ⟨#[]⟩,.slice none 0 0] 52)) (wa.heap.size) 52 #[.string ⟨#[]⟩,.slice none 0 0]:=Blk.at_ _ (by simp)
         replace ho3:=ho3.alloc (.cells #[.string ⟨#[]⟩,.slice none 0 0] 52)
         have hb0:=hbz
         replace hbz:=hbz.alloc hbz.size (.cells #[.string ⟨#[]⟩,.slice none 0 0] 52)
         have hsc:=HSC.out _ hbz
         refine hK.out _ _ (hsc) (fun hHeld => ?_)
         clear hK K
         (try simp only [Act.put,Q3,Q4,Q5])
         refine wpAnyH_ready (rs:=[6]) (by kernel_rfl) (by simp) ?_
         refine AllReadyH.cons rfl (fun K hK => ?_) AllReadyH.nil
         go_simp
         have hL6 : Blk ((wa.alloc (.cells #[.string ⟨#[]⟩,.slice none 0 0] 52)).alloc (.cells #[.string ⟨d.key.toArray⟩] 9)) (wa.heap.size + 1) 9 #[.string ⟨d.key.toArray⟩]:=Blk.at_ _ (by simp)
         replace ho3:=ho3.alloc (.cells #[.string ⟨d.key.toArray⟩] 9)
         replace hP:=hP.alloc (.cells #[.string ⟨d.key.toArray⟩] 9)
         replace hbz:=hbz.alloc hbz.size (.cells #[.string ⟨d.key.toArray⟩] 9)
         have hsc:=HSC.out _ hbz
         refine hK.out _ _ (hsc) (fun hHeld => ?_)
         clear hK K
         (try simp only [Act.put,Q3,Q4,Q5])
         refine wpAnyH_ready (rs:=[7]) (by kernel_rfl) (by simp) ?_
         refine AllReadyH.cons rfl (fun K hK => ?_) AllReadyH.nil
         refine step_app (lo:=0) (base:=X.heap.size) (n:=out.length) (xs:=strs out) _ rfl _ _ ty_strs rfl ho3 rfl (Row.lit hL6 (Nat.zero_le _) rfl : Row _ 0 1 _ 1 _) rfl rfl (by omega) (by omega) hbz.size ?_
         intro A7 c7 wb hown7 hg7 _
         replace hP:=Blk.app ho3 hP hg7 (by decide)
         replace hbz:=hbz.grown hg7 hbz.size (fun q hq => (ho3.lt q hq).1)
         have hsc:=HSC.out _ hbz
         replace hown7 : wb.ownsRow X.heap.size 9 1 (.slice A7 (out ++ [d.key]).length c7) (out ++ [d.key]).length (strs (out ++ [d.key])):=by simpa [strs,encStr] using hown7
         clear hg7 ho3 hL6
         refine hK.out _ _ (hsc) (fun hHeld => ?_)
         clear hK K
         (try simp only [Act.put,Q3,Q4,Q5])
         refine wpAnyH_ready (rs:=[8]) (by kernel_rfl) (by simp) ?_
         refine AllReadyH.cons rfl (fun K hK => ?_) AllReadyH.nil
         go_simp
         go_at_call 59
         have hwo:=walkedOf_any lo ca cd lo2 c2 X.heap.size c7 A rs (some ⟨bd,doff,none⟩) ds st gl TR tr A7 (out ++ [d.key]) _ (HMW.out _ hbz).1 HRI.out (HMW.out _ hbz).2 hrl (Row.of_own hown7) (by simp; omega)
         unfold mapV at hwo
         simp only [encStr,List.length_append,List.length_singleton] at hwo
         generalize walkF rs ds st tr (out ++ [d.key]) = R at hwo
         refine hwo.mono ?_
         clear hwo
         rintro e wq ⟨PA,pc,rfl,-,hb⟩
         replace hP:=hP.below hb
         replace hbz:=hbz.trans (hb.mono hbz.size)
         have hsc:=HSC.out _ hbz
         clear hb
         go_wp2_with fail
         refine hK.out _ _ (hsc) (fun hHeld => ?_)
         clear hK K
         (try simp only [Act.put,Q3,Q4,Q5])
         (refine wpAnyH_take (i:=9) (v:=?_) (by (simp only [Q0,Q1,Q2]; rfl)) (by kernel_rfl) (by kernel_rfl) (by kernel_rfl) (by exact fun _ _ _ h => h) (Or.inl ⟨by rfl,?_⟩) (by assumption) ?_; (rotate_left 1; (intro w hSw; (try dsimp only at hSw); go_simp); (try with_reducible rfl)); (try simp only [Act.put,Q3,Q4,Q5]))
         (refine wpAnyH_take (i:=10) (v:=?_) (by (simp only [Q0,Q1,Q2]; rfl)) (by kernel_rfl) (by kernel_rfl) (by kernel_rfl) (by exact fun _ _ _ h => h) (Or.inl ⟨by rfl,?_⟩) (by assumption) ?_; (rotate_left 1; (intro w hSw; (try dsimp only at hSw); go_simp); (try with_reducible rfl)); (try simp only [Act.put,Q3,Q4,Q5]))
         (refine wpAnyH_take (i:=11) (v:=?_) (by (simp only [Q0,Q1,Q2]; rfl)) (by kernel_rfl) (by kernel_rfl) (by kernel_rfl) (by exact fun _ _ _ h => h) (Or.inl ⟨by rfl,?_⟩) (by assumption) ?_; (rotate_left 1; (intro w hSw; (try dsimp only at hSw); go_simp); (try with_reducible rfl)); (try simp only [Act.put,Q3,Q4,Q5]))
         (refine wpAnyH_take (i:=12) (v:=?_) (by (simp only [Q0,Q1,Q2]; rfl)) (by kernel_rfl) (by kernel_rfl) (by kernel_rfl) (by exact fun _ _ _ h => h) (Or.inl ⟨by rfl,?_⟩) (by assumption) ?_; (rotate_left 1; (intro w hSw; (try dsimp only at hSw); go_simp); (try with_reducible rfl)); (try simp only [Act.put,Q3,Q4,Q5]))
         refine wpAnyH_ready (rs:=[14]) (by kernel_rfl) (by simp) ?_
         refine AllReadyH.cons rfl (fun K hK => ?_) AllReadyH.nil
         have hP : Blk wq (wa.heap.size) 52 #[.string ⟨#[]⟩,.slice none 0 0]:=hP
         obtain ⟨z0,z1⟩:=hP.two_
         have f0:=hP.thaw 0
         have f1:=hP.thaw 1
         have zP:=hP.lt
         go_simp
         have hbz:=Below.setCell (Below.setCell hbz (p:=⟨wa.heap.size,0,none⟩) hzp (.string ⟨R.room.toArray⟩)) (p:=⟨wa.heap.size,1,none⟩) hzp (.slice PA R.th.length pc)
         have hsc:=HSC.out _ hbz
         refine hK.out _ _ (hsc) (fun hHeld => ?_)
         clear hK K
         (try simp only [Act.put,Q3,Q4,Q5])
         (refine wpAnyH_take (i:=15) (v:=?_) (by (simp only [Q0,Q1,Q2]; rfl)) (by kernel_rfl) (by kernel_rfl) (by kernel_rfl) (by exact fun _ _ _ h => h) (Or.inl ⟨by rfl,?_⟩) (by assumption) ?_; (rotate_left 1; (intro w hSw; (try dsimp only at hSw); go_simp); (try with_reducible rfl)); (try simp only [Act.put,Q3,Q4,Q5]))
         (refine wpAnyH_take (i:=16) (v:=?_) (by (simp only [Q0,Q1,Q2]; rfl)) (by kernel_rfl) (by kernel_rfl) (by kernel_rfl) (by exact fun _ _ _ h => h) (Or.inl ⟨by rfl,?_⟩) (by assumption) ?_; (rotate_left 1; (intro w hSw; (try dsimp only at hSw); go_simp); (try with_reducible rfl)); (try simp only [Act.put,Q3,Q4,Q5]))
         refine wpAnyH_done (by kernel_rfl) ?_ _
         go_wp2_with fail
         go_meet
         exact ⟨_,rfl,hbz⟩
       case refine_2 =>
        go_simp
        have hL6 : Blk (X.drew.alloc (.cells #[.string ⟨d.key.toArray⟩] 9)) (X.heap.size) 9 #[.string ⟨d.key.toArray⟩]:=Blk.at_ _ (by simp)
        replace hbz:=hbz.alloc hbz.size (.cells #[.string ⟨d.key.toArray⟩] 9)
        have hsc:=HSC.out _ hbz
        refine hK.out _ _ (hsc) (fun hHeld => ?_)
        clear hK K
        (try simp only [Act.put,Q3,Q4,Q5])
        refine wpAnyH_ready (rs:=[3,13]) (by kernel_rfl) (by simp) ?_
        refine AllReadyH.cons rfl (fun K hK => ?_) (AllReadyH.cons rfl (fun K hK => ?_) AllReadyH.nil)
        case refine_1 =>
         go_simp
         go_at_call 48
         refine (cloneS_any AO cO (w.heap.size + 1) out _ (HOW.out _ hbz) (by omega)).mono ?_
         rintro e wa ⟨A3,c3,rfl,ho3,hb⟩
         replace ho3:=own_weak ho3 hbz.size
         replace hL6:=hL6.below hb
         replace hbz:=hbz.trans (hb.mono hbz.size)
         have hsc:=HSC.out _ hbz
         clear hb
         go_wp2_with fail
         refine hK.out _ _ (hsc) (fun hHeld => ?_)
         clear hK K
         (try simp only [Act.put,Q3,Q4,Q5])
         refine wpAnyH_ready (rs:=[7,13]) (by kernel_rfl) (by simp) ?_
         refine AllReadyH.cons rfl (fun K hK => ?_) (AllReadyH.cons rfl (fun K hK => ?_) AllReadyH.nil)
         case refine_1 =>
          refine step_app (lo:=0) (base:=X.heap.size) (n:=out.length) (xs:=strs out) _ rfl _ _ ty_strs rfl ho3 rfl (Row.lit hL6 (Nat.zero_le _) rfl : Row _ 0 1 _ 1 _) rfl rfl (by omega) (by omega) hbz.size ?_
          intro A7 c7 wb hown7 hg7 _
          replace hbz:=hbz.grown hg7 hbz.size (fun q hq => (ho3.lt q hq).1)
          have hsc:=HSC.out _ hbz
          replace hown7 : wb.ownsRow X.heap.size 9 1 (.slice A7 (out ++ [d.key]).length c7) (out ++ [d.key]).length (strs (out ++ [d.key])):=by simpa [strs,encStr] using hown7
          clear hg7 ho3 hL6
          refine hK.out _ _ (hsc) (fun hHeld => ?_)
          clear hK K
          (try simp only [Act.put,Q3,Q4,Q5])
          refine wpAnyH_ready (rs:=[8,13]) (by kernel_rfl) (by simp) ?_
          refine AllReadyH.cons rfl (fun K hK => ?_) (AllReadyH.cons rfl (fun K hK => ?_) AllReadyH.nil)
          case refine_1 =>
           go_simp
           go_at_call 59
           have hwo:=walkedOf_any lo ca cd lo2 c2 X.heap.size c7 A rs (some ⟨bd,doff,none⟩) ds st gl TR tr A7 (out ++ [d.key]) _ (HMW.out _ hbz).1 HRI.out (HMW.out _ hbz).2 hrl (Row.of_own hown7) (by simp; omega)
           unfold mapV at hwo
           simp only [encStr,List.length_append,List.length_singleton] at hwo
           generalize walkF rs ds st tr (out ++ [d.key]) = R at hwo
           refine hwo.mono ?_
           clear hwo
           rintro e wq ⟨PA,pc,rfl,-,hb⟩
           replace hbz:=hbz.trans (hb.mono hbz.size)
           have hsc:=HSC.out _ hbz
           clear hb
           go_wp2_with fail
           refine hK.out _ _ (hsc) (fun hHeld => ?_)
           clear hK K
           (try simp only [Act.put,Q3,Q4,Q5])
           (refine wpAnyH_take (i:=9) (v:=?_) (by (simp only [Q0,Q1,Q2]; rfl)) (by kernel_rfl) (by kernel_rfl) (by kernel_rfl) (by exact fun _ _ _ h => h) (Or.inl ⟨by rfl,?_⟩) (by assumption) ?_; (rotate_left 1; (intro w hSw; (try dsimp only at hSw); go_simp); (try with_reducible rfl)); (try simp only [Act.put,Q3,Q4,Q5]))
           (refine wpAnyH_take (i:=10) (v:=?_) (by (simp only [Q0,Q1,Q2]; rfl)) (by kernel_rfl) (by kernel_rfl) (by kernel_rfl) (by exact fun _ _ _ h => h) (Or.inl ⟨by rfl,?_⟩) (by assumption) ?_; (rotate_left 1; (intro w hSw; (try dsimp only at hSw); go_simp); (try with_reducible rfl)); (try simp only [Act.put,Q3,Q4,Q5]))
           (refine wpAnyH_take (i:=11) (v:=?_) (by (simp only [Q0,Q1,Q2]; rfl)) (by kernel_rfl) (by kernel_rfl) (by kernel_rfl) (by exact fun _ _ _ h => h) (Or.inl ⟨by rfl,?_⟩) (by assumption) ?_; (rotate_left 1; (intro w hSw; (try dsimp only at hSw); go_simp); (try with_reducible rfl)); (try simp only [Act.put,Q3,Q4,Q5]))
           (refine wpAnyH_take (i:=12) (v:=?_) (by (simp only [Q0,Q1,Q2]; rfl)) (by kernel_rfl) (by kernel_rfl) (by kernel_rfl) (by exact fun _ _ _ h => h) (Or.inl ⟨by rfl,?_⟩) (by assumption) ?_; (rotate_left 1; (intro w hSw; (try dsimp only at hSw); go_simp); (try with_reducible rfl)); (try simp only [Act.put,Q3,Q4,Q5]))
           refine wpAnyH_ready (rs:=[13]) (by kernel_rfl) (by simp) ?_
           refine AllReadyH.cons rfl (fun K hK => ?_) AllReadyH.nil
           go_simp
           have hzp : X.heap.size ≤ wq.heap.size:=by
            have:=hbz.size
            first | omega | (simp at this ⊢; done) | (simp at this ⊢; omega)
           have hb0:=hbz
           replace hbz:=hbz.alloc hbz.size (.cells #[.string ⟨#[]⟩,.slice none 0 0] 52)
           have hsc:=HSC.out _ hbz
           refine hK.out _ _ (hsc) (fun hHeld => ?_)
           clear hK K
           (try simp only [Act.put,Q3,Q4,Q5])
           refine wpAnyH_ready (rs:=[14]) (by kernel_rfl) (by simp) ?_
           refine AllReadyH.cons rfl (fun K hK => ?_) AllReadyH.nil
           go_simp
           have hbz:=hb0.alloc hb0.size (.cells #[.string ⟨R.room.toArray⟩,.slice PA R.th.length pc] 52)
           have hsc:=HSC.out _ hbz
           refine hK.out _ _ (hsc) (fun hHeld => ?_)
           clear hK K
           (try simp only [Act.put,Q3,Q4,Q5])
           (refine wpAnyH_take (i:=15) (v:=?_) (by (simp only [Q0,Q1,Q2]; rfl)) (by kernel_rfl) (by kernel_rfl) (by kernel_rfl) (by exact fun _ _ _ h => h) (Or.inl ⟨by rfl,?_⟩) (by assumption) ?_; (rotate_left 1; (intro w hSw; (try dsimp only at hSw); go_simp); (try with_reducible rfl)); (try simp only [Act.put,Q3,Q4,Q5]))
           (refine wpAnyH_take (i:=16) (v:=?_) (by (simp only [Q0,Q1,Q2]; rfl)) (by kernel_rfl) (by kernel_rfl) (by kernel_rfl) (by exact fun _ _ _ h => h) (Or.inl ⟨by rfl,?_⟩) (by assumption) ?_; (rotate_left 1; (intro w hSw; (try dsimp only at hSw); go_simp); (try with_reducible rfl)); (try simp only [Act.put,Q3,Q4,Q5]))
           refine wpAnyH_done (by kernel_rfl) ?_ _
           go_wp2_with fail
           go_meet
           exact ⟨_,rfl,hbz⟩
          case refine_2 =>
           go_simp
           have hzp : X.heap.size ≤ wb.heap.size:=by
            have:=hbz.size
            first | omega | (simp at this ⊢; done) | (simp at this ⊢; omega)
           have hP : Blk (wb.alloc (.cells #[.string ⟨#[]⟩,.slice none 0 0] 52)) (wb.heap.size) 52 #[.string ⟨#[]⟩,.slice none 0 0]:=Blk.at_ _ (by simp)
           replace hown7:=hown7.alloc (.cells #[.string ⟨#[]⟩,.slice none 0 0] 52)
           have hb0:=hbz
           replace hbz:=hbz.alloc hbz.size (.cells #[.string ⟨#[]⟩,.slice none 0 0] 52)
           have hsc:=HSC.out _ hbz
           refine hK.out _ _ (hsc) (fun hHeld => ?_)
           clear hK K
           (try simp only [Act.put,Q3,Q4,Q5])
           refine wpAnyH_ready (rs:=[8]) (by kernel_rfl) (by simp) ?_
           refine AllReadyH.cons rfl (fun K hK => ?_) AllReadyH.nil
           go_simp
           go_at_call 59
           have hwo:=walkedOf_any lo ca cd lo2 c2 X.heap.size c7 A rs (some ⟨bd,doff,none⟩) ds st gl TR tr A7 (out ++ [d.key]) _ (HMW.out _ hbz).1 HRI.out (HMW.out _ hbz).2 hrl (Row.of_own hown7) (by simp; omega)
           unfold mapV at hwo
           simp only [encStr,List.length_append,List.length_singleton] at hwo
           generalize walkF rs ds st tr (out ++ [d.key]) = R at hwo
           refine hwo.mono ?_
           clear hwo
           rintro e wq ⟨PA,pc,rfl,-,hb⟩
           replace hP:=hP.below hb
           replace hbz:=hbz.trans (hb.mono hbz.size)
           have hsc:=HSC.out _ hbz
           clear hb
           go_wp2_with fail
           refine hK.out _ _ (hsc) (fun hHeld => ?_)
           clear hK K
           (try simp only [Act.put,Q3,Q4,Q5])
           (refine wpAnyH_take (i:=9) (v:=?_) (by (simp only [Q0,Q1,Q2]; rfl)) (by kernel_rfl) (by kernel_rfl) (by kernel_rfl) (by exact fun _ _ _ h => h) (Or.inl ⟨by rfl,?_⟩) (by assumption) ?_; (rotate_left 1; (intro w hSw; (try dsimp only at hSw); go_simp); (try with_reducible rfl)); (try simp only [Act.put,Q3,Q4,Q5]))
           (refine wpAnyH_take (i:=10) (v:=?_) (by (simp only [Q0,Q1,Q2]; rfl)) (by kernel_rfl) (by kernel_rfl) (by kernel_rfl) (by exact fun _ _ _ h => h) (Or.inl ⟨by rfl,?_⟩) (by assumption) ?_; (rotate_left 1; (intro w hSw; (try dsimp only at hSw); go_simp); (try with_reducible rfl)); (try simp only [Act.put,Q3,Q4,Q5]))
           (refine wpAnyH_take (i:=11) (v:=?_) (by (simp only [Q0,Q1,Q2]; rfl)) (by kernel_rfl) (by kernel_rfl) (by kernel_rfl) (by exact fun _ _ _ h => h) (Or.inl ⟨by rfl,?_⟩) (by assumption) ?_; (rotate_left 1; (intro w hSw; (try dsimp only at hSw); go_simp); (try with_reducible rfl)); (try simp only [Act.put,Q3,Q4,Q5]))
           (refine wpAnyH_take (i:=12) (v:=?_) (by (simp only [Q0,Q1,Q2]; rfl)) (by kernel_rfl) (by kernel_rfl) (by kernel_rfl) (by exact fun _ _ _ h => h) (Or.inl ⟨by rfl,?_⟩) (by assumption) ?_; (rotate_left 1; (intro w hSw; (try dsimp only at hSw); go_simp); (try with_reducible rfl)); (try simp only [Act.put,Q3,Q4,Q5]))
           refine wpAnyH_ready (rs:=[14]) (by kernel_rfl) (by simp) ?_
           refine AllReadyH.cons rfl (fun K hK => ?_) AllReadyH.nil
           have hP : Blk wq (wb.heap.size) 52 #[.string ⟨#[]⟩,.slice none 0 0]:=hP
           obtain ⟨z0,z1⟩:=hP.two_
           have f0:=hP.thaw 0
           have f1:=hP.thaw 1
           have zP:=hP.lt
           go_simp
           have hbz:=Below.setCell (Below.setCell hbz (p:=⟨wb.heap.size,0,none⟩) hzp (.string ⟨R.room.toArray⟩)) (p:=⟨wb.heap.size,1,none⟩) hzp (.slice PA R.th.length pc)
           have hsc:=HSC.out _ hbz
           refine hK.out _ _ (hsc) (fun hHeld => ?_)
           clear hK K
           (try simp only [Act.put,Q3,Q4,Q5])
           (refine wpAnyH_take (i:=15) (v:=?_) (by (simp only [Q0,Q1,Q2]; rfl)) (by kernel_rfl) (by kernel_rfl) (by kernel_rfl) (by exact fun _ _ _ h => h) (Or.inl ⟨by rfl,?_⟩) (by assumption) ?_; (rotate_left 1; (intro w hSw; (try dsimp only at hSw); go_simp); (try with_reducible rfl)); (try simp only [Act.put,Q3,Q4,Q5]))
           (refine wpAnyH_take (i:=16) (v:=?_) (by (simp only [Q0,Q1,Q2]; rfl)) (by kernel_rfl) (by kernel_rfl) (by kernel_rfl) (by exact fun _ _ _ h => h) (Or.inl ⟨by rfl,?_⟩) (by assumption) ?_; (rotate_left 1; (intro w hSw; (try dsimp only at hSw); go_simp); (try with_reducible rfl)); (try simp only [Act.put,Q3,Q4,Q5]))
           refine wpAnyH_done (by kernel_rfl) ?_ _
           go_wp2_with fail
           go_meet
           exact ⟨_,rfl,hbz⟩
         case refine_2 =>
          go_simp
          have hzp : X.heap.size ≤ wa.heap.size:=by
           have:=hbz.size
           first | omega | (simp at this ⊢; done) | (simp at this ⊢; omega)
          have hP : Blk (wa.alloc (.cells #[.string ⟨#[]⟩,.slice none 0 0] 52)) (wa.heap.size) 52 #[.string ⟨#[]⟩,.slice none 0 0]:=Blk.at_ _ (by simp)
          replace ho3:=ho3.alloc (.cells #[.string ⟨#[]⟩,.slice none 0 0] 52)
          replace hL6:=hL6.alloc (.cells #[.string ⟨#[]⟩,.slice none 0 0] 52)
          have hb0:=hbz
          replace hbz:=hbz.alloc hbz.size (.cells #[.string ⟨#[]⟩,.slice none 0 0] 52)
          have hsc:=HSC.out _ hbz
          refine hK.out _ _ (hsc) (fun hHeld => ?_)
          clear hK K
          (try simp only [Act.put,Q3,Q4,Q5])
          refine wpAnyH_ready (rs:=[7]) (by kernel_rfl) (by simp) ?_
          refine AllReadyH.cons rfl (fun K hK => ?_) AllReadyH.nil
          refine step_app (lo:=0) (base:=X.heap.size) (n:=out.length) (xs:=strs out) _ rfl _ _ ty_strs rfl ho3 rfl (Row.lit hL6 (Nat.zero_le _) rfl : Row _ 0 1 _ 1 _) rfl rfl (by omega) (by omega) hbz.size ?_
          intro A7 c7 wb hown7 hg7 _
          replace hP:=Blk.app ho3 hP hg7 (by decide)
          replace hbz:=hbz.grown hg7 hbz.size (fun q hq => (ho3.lt q hq).1)
          have hsc:=HSC.out _ hbz
          replace hown7 : wb.ownsRow X.heap.size 9 1 (.slice A7 (out ++ [d.key]).length c7) (out ++ [d.key]).length (strs (out ++ [d.key])):=by simpa [strs,encStr] using hown7
          clear hg7 ho3 hL6
          refine hK.out _ _ (hsc) (fun hHeld => ?_)
          clear hK K
          (try simp only [Act.put,Q3,Q4,Q5])
          refine wpAnyH_ready (rs:=[8]) (by kernel_rfl) (by simp) ?_
          refine AllReadyH.cons rfl (fun K hK => ?_) AllReadyH.nil
          go_simp
          go_at_call 59
          have hwo:=walkedOf_any lo ca cd lo2 c2 X.heap.size c7 A rs (some ⟨bd,doff,none⟩) ds st gl TR tr A7 (out ++ [d.key]) _ (HMW.out _ hbz).1 HRI.out (HMW.out _ hbz).2 hrl (Row.of_own hown7) (by simp; omega)
          unfold mapV at hwo
          simp only [encStr,List.length_append,List.length_singleton] at hwo
          generalize walkF rs ds st tr (out ++ [d.key]) = R at hwo
          refine hwo.mono ?_
          clear hwo
          rintro e wq ⟨PA,pc,rfl,-,hb⟩
          replace hP:=hP.below hb
          replace hbz:=hbz.trans (hb.mono hbz.size)
          have hsc:=HSC.out _ hbz
          clear hb
          go_wp2_with fail
          refine hK.out _ _ (hsc) (fun hHeld => ?_)
          clear hK K
          (try simp only [Act.put,Q3,Q4,Q5])
          (refine wpAnyH_take (i:=9) (v:=?_) (by (simp only [Q0,Q1,Q2]; rfl)) (by kernel_rfl) (by kernel_rfl) (by kernel_rfl) (by exact fun _ _ _ h => h) (Or.inl ⟨by rfl,?_⟩) (by assumption) ?_; (rotate_left 1; (intro w hSw; (try dsimp only at hSw); go_simp); (try with_reducible rfl)); (try simp only [Act.put,Q3,Q4,Q5]))
          (refine wpAnyH_take (i:=10) (v:=?_) (by (simp only [Q0,Q1,Q2]; rfl)) (by kernel_rfl) (by kernel_rfl) (by kernel_rfl) (by exact fun _ _ _ h => h) (Or.inl ⟨by rfl,?_⟩) (by assumption) ?_; (rotate_left 1; (intro w hSw; (try dsimp only at hSw); go_simp); (try with_reducible rfl)); (try simp only [Act.put,Q3,Q4,Q5]))
          (refine wpAnyH_take (i:=11) (v:=?_) (by (simp only [Q0,Q1,Q2]; rfl)) (by kernel_rfl) (by kernel_rfl) (by kernel_rfl) (by exact fun _ _ _ h => h) (Or.inl ⟨by rfl,?_⟩) (by assumption) ?_; (rotate_left 1; (intro w hSw; (try dsimp only at hSw); go_simp); (try with_reducible rfl)); (try simp only [Act.put,Q3,Q4,Q5]))
          (refine wpAnyH_take (i:=12) (v:=?_) (by (simp only [Q0,Q1,Q2]; rfl)) (by kernel_rfl) (by kernel_rfl) (by kernel_rfl) (by exact fun _ _ _ h => h) (Or.inl ⟨by rfl,?_⟩) (by assumption) ?_; (rotate_left 1; (intro w hSw; (try dsimp only at hSw); go_simp); (try with_reducible rfl)); (try simp only [Act.put,Q3,Q4,Q5]))
          refine wpAnyH_ready (rs:=[14]) (by kernel_rfl) (by simp) ?_
          refine AllReadyH.cons rfl (fun K hK => ?_) AllReadyH.nil
          have hP : Blk wq (wa.heap.size) 52 #[.string ⟨#[]⟩,.slice none 0 0]:=hP
          obtain ⟨z0,z1⟩:=hP.two_
          have f0:=hP.thaw 0
          have f1:=hP.thaw 1
          have zP:=hP.lt
          go_simp
          have hbz:=Below.setCell (Below.setCell hbz (p:=⟨wa.heap.size,0,none⟩) hzp (.string ⟨R.room.toArray⟩)) (p:=⟨wa.heap.size,1,none⟩) hzp (.slice PA R.th.length pc)
          have hsc:=HSC.out _ hbz
          refine hK.out _ _ (hsc) (fun hHeld => ?_)
          clear hK K
          (try simp only [Act.put,Q3,Q4,Q5])
          (refine wpAnyH_take (i:=15) (v:=?_) (by (simp only [Q0,Q1,Q2]; rfl)) (by kernel_rfl) (by kernel_rfl) (by kernel_rfl) (by exact fun _ _ _ h => h) (Or.inl ⟨by rfl,?_⟩) (by assumption) ?_; (rotate_left 1; (intro w hSw; (try dsimp only at hSw); go_simp); (try with_reducible rfl)); (try simp only [Act.put,Q3,Q4,Q5]))
          (refine wpAnyH_take (i:=16) (v:=?_) (by (simp only [Q0,Q1,Q2]; rfl)) (by kernel_rfl) (by kernel_rfl) (by kernel_rfl) (by exact fun _ _ _ h => h) (Or.inl ⟨by rfl,?_⟩) (by assumption) ?_; (rotate_left 1; (intro w hSw; (try dsimp only at hSw); go_simp); (try with_reducible rfl)); (try simp only [Act.put,Q3,Q4,Q5]))
          refine wpAnyH_done (by kernel_rfl) ?_ _
          go_wp2_with fail
          go_meet
          exact ⟨_,rfl,hbz⟩
        case refine_2 =>
         go_simp
         have hzp : X.heap.size ≤ X.heap.size + 1:=by
          have:=hbz.size
          first | omega | (simp at this ⊢; done) | (simp at this ⊢; omega)
         have hP : Blk ((X.drew.alloc (.cells #[.string ⟨d.key.toArray⟩] 9)).alloc (.cells #[.string ⟨#[]⟩,.slice none 0 0] 52)) (X.heap.size + 1) 52 #[.string ⟨#[]⟩,.slice none 0 0]:=Blk.at_ _ (by simp)
         replace hL6:=hL6.alloc (.cells #[.string ⟨#[]⟩,.slice none 0 0] 52)
         have hb0:=hbz
         replace hbz:=hbz.alloc hbz.size (.cells #[.string ⟨#[]⟩,.slice none 0 0] 52)
         have hsc:=HSC.out _ hbz
         refine hK.out _ _ (hsc) (fun hHeld => ?_)
         clear hK K
         (try simp only [Act.put,Q3,Q4,Q5])
         refine wpAnyH_ready (rs:=[3]) (by kernel_rfl) (by simp) ?_
         refine AllReadyH.cons rfl (fun K hK => ?_) AllReadyH.nil
         go_simp
         go_at_call 48
         refine (cloneS_any AO cO (w.heap.size + 1) out _ (HOW.out _ hbz) (by omega)).mono ?_
         rintro e wa ⟨A3,c3,rfl,ho3,hb⟩
         replace ho3:=own_weak ho3 hbz.size
         replace hL6:=hL6.below hb
         replace hP:=hP.below hb
         replace hbz:=hbz.trans (hb.mono hbz.size)
         have hsc:=HSC.out _ hbz
         clear hb
         go_wp2_with fail
         refine hK.out _ _ (hsc) (fun hHeld => ?_)
         clear hK K
         (try simp only [Act.put,Q3,Q4,Q5])
         refine wpAnyH_ready (rs:=[7]) (by kernel_rfl) (by simp) ?_
         refine AllReadyH.cons rfl (fun K hK => ?_) AllReadyH.nil
         refine step_app (lo:=0) (base:=X.heap.size) (n:=out.length) (xs:=strs out) _ rfl _ _ ty_strs rfl ho3 rfl (Row.lit hL6 (Nat.zero_le _) rfl : Row _ 0 1 _ 1 _) rfl rfl (by omega) (by omega) hbz.size ?_
         intro A7 c7 wb hown7 hg7 _
         replace hP:=Blk.app ho3 hP hg7 (by decide)
         replace hbz:=hbz.grown hg7 hbz.size (fun q hq => (ho3.lt q hq).1)
         have hsc:=HSC.out _ hbz
         replace hown7 : wb.ownsRow X.heap.size 9 1 (.slice A7 (out ++ [d.key]).length c7) (out ++ [d.key]).length (strs (out ++ [d.key])):=by simpa [strs,encStr] using hown7
         clear hg7 ho3 hL6
         refine hK.out _ _ (hsc) (fun hHeld => ?_)
         clear hK K
         (try simp only [Act.put,Q3,Q4,Q5])
         refine wpAnyH_ready (rs:=[8]) (by kernel_rfl) (by simp) ?_
         refine AllReadyH.cons rfl (fun K hK => ?_) AllReadyH.nil
         go_simp
         go_at_call 59
         have hwo:=walkedOf_any lo ca cd lo2 c2 X.heap.size c7 A rs (some ⟨bd,doff,none⟩) ds st gl TR tr A7 (out ++ [d.key]) _ (HMW.out _ hbz).1 HRI.out (HMW.out _ hbz).2 hrl (Row.of_own hown7) (by simp; omega)
         unfold mapV at hwo
         simp only [encStr,List.length_append,List.length_singleton] at hwo
         generalize walkF rs ds st tr (out ++ [d.key]) = R at hwo
         refine hwo.mono ?_
         clear hwo
         rintro e wq ⟨PA,pc,rfl,-,hb⟩
         replace hP:=hP.below hb
         replace hbz:=hbz.trans (hb.mono hbz.size)
         have hsc:=HSC.out _ hbz
         clear hb
         go_wp2_with fail
         refine hK.out _ _ (hsc) (fun hHeld => ?_)
         clear hK K
         (try simp only [Act.put,Q3,Q4,Q5])
         (refine wpAnyH_take (i:=9) (v:=?_) (by (simp only [Q0,Q1,Q2]; rfl)) (by kernel_rfl) (by kernel_rfl) (by kernel_rfl) (by exact fun _ _ _ h => h) (Or.inl ⟨by rfl,?_⟩) (by assumption) ?_; (rotate_left 1; (intro w hSw; (try dsimp only at hSw); go_simp); (try with_reducible rfl)); (try simp only [Act.put,Q3,Q4,Q5]))
         (refine wpAnyH_take (i:=10) (v:=?_) (by (simp only [Q0,Q1,Q2]; rfl)) (by kernel_rfl) (by kernel_rfl) (by kernel_rfl) (by exact fun _ _ _ h => h) (Or.inl ⟨by rfl,?_⟩) (by assumption) ?_; (rotate_left 1; (intro w hSw; (try dsimp only at hSw); go_simp); (try with_reducible rfl)); (try simp only [Act.put,Q3,Q4,Q5]))
         (refine wpAnyH_take (i:=11) (v:=?_) (by (simp only [Q0,Q1,Q2]; rfl)) (by kernel_rfl) (by kernel_rfl) (by kernel_rfl) (by exact fun _ _ _ h => h) (Or.inl ⟨by rfl,?_⟩) (by assumption) ?_; (rotate_left 1; (intro w hSw; (try dsimp only at hSw); go_simp); (try with_reducible rfl)); (try simp only [Act.put,Q3,Q4,Q5]))
         (refine wpAnyH_take (i:=12) (v:=?_) (by (simp only [Q0,Q1,Q2]; rfl)) (by kernel_rfl) (by kernel_rfl) (by kernel_rfl) (by exact fun _ _ _ h => h) (Or.inl ⟨by rfl,?_⟩) (by assumption) ?_; (rotate_left 1; (intro w hSw; (try dsimp only at hSw); go_simp); (try with_reducible rfl)); (try simp only [Act.put,Q3,Q4,Q5]))
         refine wpAnyH_ready (rs:=[14]) (by kernel_rfl) (by simp) ?_
         refine AllReadyH.cons rfl (fun K hK => ?_) AllReadyH.nil
         have hP : Blk wq (X.heap.size + 1) 52 #[.string ⟨#[]⟩,.slice none 0 0]:=hP
         obtain ⟨z0,z1⟩:=hP.two_
         have f0:=hP.thaw 0
         have f1:=hP.thaw 1
         have zP:=hP.lt
         go_simp
         have hbz:=Below.setCell (Below.setCell hbz (p:=⟨X.heap.size + 1,0,none⟩) hzp (.string ⟨R.room.toArray⟩)) (p:=⟨X.heap.size + 1,1,none⟩) hzp (.slice PA R.th.length pc)
         have hsc:=HSC.out _ hbz
         refine hK.out _ _ (hsc) (fun hHeld => ?_)
         clear hK K
         (try simp only [Act.put,Q3,Q4,Q5])
         (refine wpAnyH_take (i:=15) (v:=?_) (by (simp only [Q0,Q1,Q2]; rfl)) (by kernel_rfl) (by kernel_rfl) (by kernel_rfl) (by exact fun _ _ _ h => h) (Or.inl ⟨by rfl,?_⟩) (by assumption) ?_; (rotate_left 1; (intro w hSw; (try dsimp only at hSw); go_simp); (try with_reducible rfl)); (try simp only [Act.put,Q3,Q4,Q5]))
         (refine wpAnyH_take (i:=16) (v:=?_) (by (simp only [Q0,Q1,Q2]; rfl)) (by kernel_rfl) (by kernel_rfl) (by kernel_rfl) (by exact fun _ _ _ h => h) (Or.inl ⟨by rfl,?_⟩) (by assumption) ?_; (rotate_left 1; (intro w hSw; (try dsimp only at hSw); go_simp); (try with_reducible rfl)); (try simp only [Act.put,Q3,Q4,Q5]))
         refine wpAnyH_done (by kernel_rfl) ?_ _
         go_wp2_with fail
         go_meet
         exact ⟨_,rfl,hbz⟩
       case refine_3 =>
        go_simp
        have hzp : X.heap.size ≤ X.heap.size:=by
         have:=hbz.size
         first | omega | (simp at this ⊢; done) | (simp at this ⊢; omega)
        have hP : Blk (X.drew.alloc (.cells #[.string ⟨#[]⟩,.slice none 0 0] 52)) (X.heap.size) 52 #[.string ⟨#[]⟩,.slice none 0 0]:=Blk.at_ _ (by simp)
        have hb0:=hbz
        replace hbz:=hbz.alloc hbz.size (.cells #[.string ⟨#[]⟩,.slice none 0 0] 52)
        have hsc:=HSC.out _ hbz
        refine hK.out _ _ (hsc) (fun hHeld => ?_)
        clear hK K
        (try simp only [Act.put,Q3,Q4,Q5])
        refine wpAnyH_ready (rs:=[3,6]) (by kernel_rfl) (by simp) ?_
        refine AllReadyH.cons rfl (fun K hK => ?_) (AllReadyH.cons rfl (fun K hK => ?_) AllReadyH.nil)
        case refine_1 =>
         go_simp
         go_at_call 48
         refine (cloneS_any AO cO (w.heap.size + 1) out _ (HOW.out _ hbz) (by omega)).mono ?_
         rintro e wa ⟨A3,c3,rfl,ho3,hb⟩
         replace ho3:=own_weak ho3 hbz.size
         replace hP:=hP.below hb
         replace hbz:=hbz.trans (hb.mono hbz.size)
         have hsc:=HSC.out _ hbz
         clear hb
         go_wp2_with fail
         refine hK.out _ _ (hsc) (fun hHeld => ?_)
         clear hK K
         (try simp only [Act.put,Q3,Q4,Q5])
         refine wpAnyH_ready (rs:=[6]) (by kernel_rfl) (by simp) ?_
         refine AllReadyH.cons rfl (fun K hK => ?_) AllReadyH.nil
         go_simp
         have hL6 : Blk (wa.alloc (.cells #[.string ⟨d.key.toArray⟩] 9)) (wa.heap.size) 9 #[.string ⟨d.key.toArray⟩]:=Blk.at_ _ (by simp)
         replace ho3:=ho3.alloc (.cells #[.string ⟨d.key.toArray⟩] 9)
         replace hP:=hP.alloc (.cells #[.string ⟨d.key.toArray⟩] 9)
         replace hbz:=hbz.alloc hbz.size (.cells #[.string ⟨d.key.toArray⟩] 9)
         have hsc:=HSC.out _ hbz
         refine hK.out _ _ (hsc) (fun hHeld => ?_)
         clear hK K
         (try simp only [Act.put,Q3,Q4,Q5])
         refine wpAnyH_ready (rs:=[7]) (by kernel_rfl) (by simp) ?_
         refine AllReadyH.cons rfl (fun K hK => ?_) AllReadyH.nil
         refine step_app (lo:=0) (base:=X.heap.size) (n:=out.length) (xs:=strs out) _ rfl _ _ ty_strs rfl ho3 rfl (Row.lit hL6 (Nat.zero_le _) rfl : Row _ 0 1 _ 1 _) rfl rfl (by omega) (by omega) hbz.size ?_
         intro A7 c7 wb hown7 hg7 _
         replace hP:=Blk.app ho3 hP hg7 (by decide)
         replace hbz:=hbz.grown hg7 hbz.size (fun q hq => (ho3.lt q hq).1)
         have hsc:=HSC.out _ hbz
         replace hown7 : wb.ownsRow X.heap.size 9 1 (.slice A7 (out ++ [d.key]).length c7) (out ++ [d.key]).length (strs (out ++ [d.key])):=by simpa [strs,encStr] using hown7
         clear hg7 ho3 hL6
         refine hK.out _ _ (hsc) (fun hHeld => ?_)
         clear hK K
         (try simp only [Act.put,Q3,Q4,Q5])
         refine wpAnyH_ready (rs:=[8]) (by kernel_rfl) (by simp) ?_
         refine AllReadyH.cons rfl (fun K hK => ?_) AllReadyH.nil
         go_simp
         go_at_call 59
         have hwo:=walkedOf_any lo ca cd lo2 c2 X.heap.size c7 A rs (some ⟨bd,doff,none⟩) ds st gl TR tr A7 (out ++ [d.key]) _ (HMW.out _ hbz).1 HRI.out (HMW.out _ hbz).2 hrl (Row.of_own hown7) (by simp; omega)
         unfold mapV at hwo
         simp only [encStr,List.length_append,List.length_singleton] at hwo
         generalize walkF rs ds st tr (out ++ [d.key]) = R at hwo
         refine hwo.mono ?_
         clear hwo
         rintro e wq ⟨PA,pc,rfl,-,hb⟩
         replace hP:=hP.below hb
         replace hbz:=hbz.trans (hb.mono hbz.size)
         have hsc:=HSC.out _ hbz
         clear hb
         go_wp2_with fail
         refine hK.out _ _ (hsc) (fun hHeld => ?_)
         clear hK K
         (try simp only [Act.put,Q3,Q4,Q5])
         (refine wpAnyH_take (i:=9) (v:=?_) (by (simp only [Q0,Q1,Q2]; rfl)) (by kernel_rfl) (by kernel_rfl) (by kernel_rfl) (by exact fun _ _ _ h => h) (Or.inl ⟨by rfl,?_⟩) (by assumption) ?_; (rotate_left 1; (intro w hSw; (try dsimp only at hSw); go_simp); (try with_reducible rfl)); (try simp only [Act.put,Q3,Q4,Q5]))
         (refine wpAnyH_take (i:=10) (v:=?_) (by (simp only [Q0,Q1,Q2]; rfl)) (by kernel_rfl) (by kernel_rfl) (by kernel_rfl) (by exact fun _ _ _ h => h) (Or.inl ⟨by rfl,?_⟩) (by assumption) ?_; (rotate_left 1; (intro w hSw; (try dsimp only at hSw); go_simp); (try with_reducible rfl)); (try simp only [Act.put,Q3,Q4,Q5]))
         (refine wpAnyH_take (i:=11) (v:=?_) (by (simp only [Q0,Q1,Q2]; rfl)) (by kernel_rfl) (by kernel_rfl) (by kernel_rfl) (by exact fun _ _ _ h => h) (Or.inl ⟨by rfl,?_⟩) (by assumption) ?_; (rotate_left 1; (intro w hSw; (try dsimp only at hSw); go_simp); (try with_reducible rfl)); (try simp only [Act.put,Q3,Q4,Q5]))
         (refine wpAnyH_take (i:=12) (v:=?_) (by (simp only [Q0,Q1,Q2]; rfl)) (by kernel_rfl) (by kernel_rfl) (by kernel_rfl) (by exact fun _ _ _ h => h) (Or.inl ⟨by rfl,?_⟩) (by assumption) ?_; (rotate_left 1; (intro w hSw; (try dsimp only at hSw); go_simp); (try with_reducible rfl)); (try simp only [Act.put,Q3,Q4,Q5]))
         refine wpAnyH_ready (rs:=[14]) (by kernel_rfl) (by simp) ?_
         refine AllReadyH.cons rfl (fun K hK => ?_) AllReadyH.nil
         have hP : Blk wq (X.heap.size) 52 #[.string ⟨#[]⟩,.slice none 0 0]:=hP
         obtain ⟨z0,z1⟩:=hP.two_
         have f0:=hP.thaw 0
         have f1:=hP.thaw 1
         have zP:=hP.lt
         go_simp
         have hbz:=Below.setCell (Below.setCell hbz (p:=⟨X.heap.size,0,none⟩) hzp (.string ⟨R.room.toArray⟩)) (p:=⟨X.heap.size,1,none⟩) hzp (.slice PA R.th.length pc)
         have hsc:=HSC.out _ hbz
         refine hK.out _ _ (hsc) (fun hHeld => ?_)
         clear hK K
         (try simp only [Act.put,Q3,Q4,Q5])
         (refine wpAnyH_take (i:=15) (v:=?_) (by (simp only [Q0,Q1,Q2]; rfl)) (by kernel_rfl) (by kernel_rfl) (by kernel_rfl) (by exact fun _ _ _ h => h) (Or.inl ⟨by rfl,?_⟩) (by assumption) ?_; (rotate_left 1; (intro w hSw; (try dsimp only at hSw); go_simp); (try with_reducible rfl)); (try simp only [Act.put,Q3,Q4,Q5]))
         (refine wpAnyH_take (i:=16) (v:=?_) (by (simp only [Q0,Q1,Q2]; rfl)) (by kernel_rfl) (by kernel_rfl) (by kernel_rfl) (by exact fun _ _ _ h => h) (Or.inl ⟨by rfl,?_⟩) (by assumption) ?_; (rotate_left 1; (intro w hSw; (try dsimp only at hSw); go_simp); (try with_reducible rfl)); (try simp only [Act.put,Q3,Q4,Q5]))
         refine wpAnyH_done (by kernel_rfl) ?_ _
         go_wp2_with fail
         go_meet
         exact ⟨_,rfl,hbz⟩
        case refine_2 =>
         go_simp
         have hL6 : Blk ((X.drew.alloc (.cells #[.string ⟨#[]⟩,.slice none 0 0] 52)).alloc (.cells #[.string ⟨d.key.toArray⟩] 9)) (X.heap.size + 1) 9 #[.string ⟨d.key.toArray⟩]:=Blk.at_ _ (by simp)
         replace hP:=hP.alloc (.cells #[.string ⟨d.key.toArray⟩] 9)
         replace hbz:=hbz.alloc hbz.size (.cells #[.string ⟨d.key.toArray⟩] 9)
         have hsc:=HSC.out _ hbz
         refine hK.out _ _ (hsc) (fun hHeld => ?_)
         clear hK K
         (try simp only [Act.put,Q3,Q4,Q5])
         refine wpAnyH_ready (rs:=[3]) (by kernel_rfl) (by simp) ?_
         refine AllReadyH.cons rfl (fun K hK => ?_) AllReadyH.nil
         go_simp
         go_at_call 48
         refine (cloneS_any AO cO (w.heap.size + 1) out _ (HOW.out _ hbz) (by omega)).mono ?_
         rintro e wa ⟨A3,c3,rfl,ho3,hb⟩
         replace ho3:=own_weak ho3 hbz.size
         replace hL6:=hL6.below hb
         replace hP:=hP.below hb
         replace hbz:=hbz.trans (hb.mono hbz.size)
         have hsc:=HSC.out _ hbz
         clear hb
         go_wp2_with fail
         refine hK.out _ _ (hsc) (fun hHeld => ?_)
         clear hK K
         (try simp only [Act.put,Q3,Q4,Q5])
         refine wpAnyH_ready (rs:=[7]) (by kernel_rfl) (by simp) ?_
         refine AllReadyH.cons rfl (fun K hK => ?_) AllReadyH.nil
         refine step_app (lo:=0) (base:=X.heap.size) (n:=out.length) (xs:=strs out) _ rfl _ _ ty_strs rfl ho3 rfl (Row.lit hL6 (Nat.zero_le _) rfl : Row _ 0 1 _ 1 _) rfl rfl (by omega) (by omega) hbz.size ?_
         intro A7 c7 wb hown7 hg7 _
         replace hP:=Blk.app ho3 hP hg7 (by decide)
         replace hbz:=hbz.grown hg7 hbz.size (fun q hq => (ho3.lt q hq).1)
         have hsc:=HSC.out _ hbz
         replace hown7 : wb.ownsRow X.heap.size 9 1 (.slice A7 (out ++ [d.key]).length c7) (out ++ [d.key]).length (strs (out ++ [d.key])):=by simpa [strs,encStr] using hown7
         clear hg7 ho3 hL6
         refine hK.out _ _ (hsc) (fun hHeld => ?_)
         clear hK K
         (try simp only [Act.put,Q3,Q4,Q5])
         refine wpAnyH_ready (rs:=[8]) (by kernel_rfl) (by simp) ?_
         refine AllReadyH.cons rfl (fun K hK => ?_) AllReadyH.nil
         go_simp
         go_at_call 59
         have hwo:=walkedOf_any lo ca cd lo2 c2 X.heap.size c7 A rs (some ⟨bd,doff,none⟩) ds st gl TR tr A7 (out ++ [d.key]) _ (HMW.out _ hbz).1 HRI.out (HMW.out _ hbz).2 hrl (Row.of_own hown7) (by simp; omega)
         unfold mapV at hwo
         simp only [encStr,List.length_append,List.length_singleton] at hwo
         generalize walkF rs ds st tr (out ++ [d.key]) = R at hwo
         refine hwo.mono ?_
         clear hwo
         rintro e wq ⟨PA,pc,rfl,-,hb⟩
         replace hP:=hP.below hb
         replace hbz:=hbz.trans (hb.mono hbz.size)
         have hsc:=HSC.out _ hbz
         clear hb
         go_wp2_with fail
         refine hK.out _ _ (hsc) (fun hHeld => ?_)
         clear hK K
         (try simp only [Act.put,Q3,Q4,Q5])
         (refine wpAnyH_take (i:=9) (v:=?_) (by (simp only [Q0,Q1,Q2]; rfl)) (by kernel_rfl) (by kernel_rfl) (by kernel_rfl) (by exact fun _ _ _ h => h) (Or.inl ⟨by rfl,?_⟩) (by assumption) ?_; (rotate_left 1; (intro w hSw; (try dsimp only at hSw); go_simp); (try with_reducible rfl)); (try simp only [Act.put,Q3,Q4,Q5]))
         (refine wpAnyH_take (i:=10) (v:=?_) (by (simp only [Q0,Q1,Q2]; rfl)) (by kernel_rfl) (by kernel_rfl) (by kernel_rfl) (by exact fun _ _ _ h => h) (Or.inl ⟨by rfl,?_⟩) (by assumption) ?_; (rotate_left 1; (intro w hSw; (try dsimp only at hSw); go_simp); (try with_reducible rfl)); (try simp only [Act.put,Q3,Q4,Q5]))
         (refine wpAnyH_take (i:=11) (v:=?_) (by (simp only [Q0,Q1,Q2]; rfl)) (by kernel_rfl) (by kernel_rfl) (by kernel_rfl) (by exact fun _ _ _ h => h) (Or.inl ⟨by rfl,?_⟩) (by assumption) ?_; (rotate_left 1; (intro w hSw; (try dsimp only at hSw); go_simp); (try with_reducible rfl)); (try simp only [Act.put,Q3,Q4,Q5]))
         (refine wpAnyH_take (i:=12) (v:=?_) (by (simp only [Q0,Q1,Q2]; rfl)) (by kernel_rfl) (by kernel_rfl) (by kernel_rfl) (by exact fun _ _ _ h => h) (Or.inl ⟨by rfl,?_⟩) (by assumption) ?_; (rotate_left 1; (intro w hSw; (try dsimp only at hSw); go_simp); (try with_reducible rfl)); (try simp only [Act.put,Q3,Q4,Q5]))
         refine wpAnyH_ready (rs:=[14]) (by kernel_rfl) (by simp) ?_
         refine AllReadyH.cons rfl (fun K hK => ?_) AllReadyH.nil
         have hP : Blk wq (X.heap.size) 52 #[.string ⟨#[]⟩,.slice none 0 0]:=hP
         obtain ⟨z0,z1⟩:=hP.two_
         have f0:=hP.thaw 0
         have f1:=hP.thaw 1
         have zP:=hP.lt
         go_simp
         have hbz:=Below.setCell (Below.setCell hbz (p:=⟨X.heap.size,0,none⟩) hzp (.string ⟨R.room.toArray⟩)) (p:=⟨X.heap.size,1,none⟩) hzp (.slice PA R.th.length pc)
         have hsc:=HSC.out _ hbz
         refine hK.out _ _ (hsc) (fun hHeld => ?_)
         clear hK K
         (try simp only [Act.put,Q3,Q4,Q5])
         (refine wpAnyH_take (i:=15) (v:=?_) (by (simp only [Q0,Q1,Q2]; rfl)) (by kernel_rfl) (by kernel_rfl) (by kernel_rfl) (by exact fun _ _ _ h => h) (Or.inl ⟨by rfl,?_⟩) (by assumption) ?_; (rotate_left 1; (intro w hSw; (try dsimp only at hSw); go_simp); (try with_reducible rfl)); (try simp only [Act.put,Q3,Q4,Q5]))
         (refine wpAnyH_take (i:=16) (v:=?_) (by (simp only [Q0,Q1,Q2]; rfl)) (by kernel_rfl) (by kernel_rfl) (by kernel_rfl) (by exact fun _ _ _ h => h) (Or.inl ⟨by rfl,?_⟩) (by assumption) ?_; (rotate_left 1; (intro w hSw; (try dsimp only at hSw); go_simp); (try with_reducible rfl)); (try simp only [Act.put,Q3,Q4,Q5]))
         refine wpAnyH_done (by kernel_rfl) ?_ _
         go_wp2_with fail
         go_meet
         exact ⟨_,rfl,hbz⟩
      case rest =>
      obtain ⟨er,rfl,hbz⟩:=hcut
      have hsr:=hsr.keep hbz
      have hgr:=grown_trans' hgr (grown_of_below hbz (some g))
      have hbx:=hbx.below hbz
      have hown:=own_keep hown hbz
      have hownL:=own_keep hownL hbz
      have hv:=hv.below hbz
      have hzw3 : W1.heap.size ≤ wc.heap.size:=Nat.le_trans hzw2 hbz.size
      clear hbz hzw2 HSC HOW HMW
      by_cases he : er = 0
      ·have d0 : (er == 0) = true:=by rw [he]; rfl
       have HAP : Hid True:=Lib.hid trivial
       clear he
       obtain ⟨v0,-⟩ : _ ∧ True:=⟨hv.cell 0,trivial⟩
       simp only [Q0,Q2] at v0
       go_wp2_with (at_builtin; go_must (refine wpList_app (lo:=W1.heap.size) (base:=W1.heap.size) (n:=l.length) (xs:=strs l) _ _ rfl _ _ ty_strs rfl (by repeat (first | exact hownL | refine World.ownsRow.alloc ?_ _ | refine own_drewN ?_ _ | refine World.ownsRow.drew ?_)) rfl (by first | exact row_new' _ (by first | rfl | simp) (by first | omega | (simp; omega)) rfl | exact row_newN _ _ (by first | rfl | simp) (by first | omega | (simp; omega)) rfl | exact row_newD _ (by first | rfl | simp) (by first | omega | (simp; omega)) rfl) rfl rfl (by first | omega | decide) (by first | omega | decide) (by first | omega | (simp; omega)) ?_))
       intro A6 c6 w10 hown10 hg10 _
       have HO10 : Hid (w10.ownsRow W1.heap.size 9 1 (.slice A6 (l ++ [d.key]).length c6) (l ++ [d.key]).length (strs (l ++ [d.key]))):=Lib.hid (by simpa [strs,encStr] using hown10)
       have hs10:=(hsr.alloc (.cells #[.string ⟨d.key.toArray⟩] 9)).app (hownL.alloc _) hg10 (by omega)
       have hgr10:=grown_app (grown_alloc hgr (.cells #[.string ⟨d.key.toArray⟩] 9)) (hownL.alloc _) hg10 (by omega)
       have hbx10:=Blk.app (hownL.alloc (.cells #[.string ⟨d.key.toArray⟩] 9)) (hbx.alloc _) hg10 (by decide)
       have hown10:=own_keepB (hown.alloc (.cells #[.string ⟨d.key.toArray⟩] 9)) hg10 (fun q j hq hj => by
        have h1:=((hownL.alloc (.cells #[.string ⟨d.key.toArray⟩] 9)).lt q hq).1
        have h2:=HOB.out j hj
        omega)
       have hzw10 : W1.heap.size ≤ w10.heap.size:=by have:=hg10.size; simp at this; omega
       clear hownL hown hbx hgr hsr v0 hv hg10
       go_wp2_with fail
       go_roundw
       case rel => exact ⟨j + 1,A6,c6,l ++ [d.key],by omega,by go_num,by simp,HO10.out,by simp; omega,hs10.more (by omega),hgr10,hbx10,hown10,hzw10⟩
       case measure => simp [intOf]; omega
      ·have d0 : (er == 0) = false:=beq_eq_false_iff_ne.2 he
       clear he
       go_wp2_with fail
       refine (flip_any g _ 30 _ hsr (by omega) (by omega)).mono ?_
       rintro e w9 ⟨fb,rfl,hs9,hg9⟩
       replace hgr:=grown_trans' hgr hg9
       replace hown:=own_grown hown hg9 (by omega)
       replace hownL:=own_grown hownL hg9 (by omega)
       replace hbx:=hbx.grown hg9 (by omega)
       have hv9:=hv.grown hg9 (by omega)
       have hzw9 : W1.heap.size ≤ w9.heap.size:=Nat.le_trans hzw3 hg9.size
       clear hsr hg9 hzw3 hv
       have hsr:=hs9
       have hv:=hv9
       have hzw3:=hzw9
       clear hs9 hv9 hzw9
       cases fb with
       | false =>
        go_wp2_with fail
        go_roundw
        case rel => exact ⟨j + 1,AL,cL,l,by omega,by go_num,rfl,hownL,by omega,hsr.more (by omega),hgr,hbx,hown,hzw3⟩
        case measure => simp [intOf]; omega
       | true =>
        obtain ⟨v0,-⟩ : _ ∧ True:=⟨hv.cell 0,trivial⟩
        simp only [Q0,Q2] at v0
        go_wp2_with (at_builtin; go_must (refine wpList_app (lo:=W1.heap.size) (base:=W1.heap.size) (n:=l.length) (xs:=strs l) _ _ rfl _ _ ty_strs rfl (by repeat (first | exact hownL | refine World.ownsRow.alloc ?_ _ | refine own_drewN ?_ _ | refine World.ownsRow.drew ?_)) rfl (by first | exact row_new' _ (by first | rfl | simp) (by first | omega | (simp; omega)) rfl | exact row_newN _ _ (by first | rfl | simp) (by first | omega | (simp; omega)) rfl | exact row_newD _ (by first | rfl | simp) (by first | omega | (simp; omega)) rfl) rfl rfl (by first | omega | decide) (by first | omega | decide) (by first | omega | (simp; omega)) ?_))
        intro A6 c6 w10 hown10 hg10 _
        have HO10 : Hid (w10.ownsRow W1.heap.size 9 1 (.slice A6 (l ++ [d.key]).length c6) (l ++ [d.key]).length (strs (l ++ [d.key]))):=Lib.hid (by simpa [strs,encStr] using hown10)
        have hs10:=(hsr.alloc (.cells #[.string ⟨d.key.toArray⟩] 9)).app (hownL.alloc _) hg10 (by omega)
        have hgr10:=grown_app (grown_alloc hgr (.cells #[.string ⟨d.key.toArray⟩] 9)) (hownL.alloc _) hg10 (by omega)
        have hbx10:=Blk.app (hownL.alloc (.cells #[.string ⟨d.key.toArray⟩] 9)) (hbx.alloc _) hg10 (by decide)
        have hown10:=own_keepB (hown.alloc (.cells #[.string ⟨d.key.toArray⟩] 9)) hg10 (fun q j hq hj => by
         have h1:=((hownL.alloc (.cells #[.string ⟨d.key.toArray⟩] 9)).lt q hq).1
         have h2:=HOB.out j hj
         omega)
        have hzw10 : W1.heap.size ≤ w10.heap.size:=by have:=hg10.size; simp at this; omega
        clear hownL hown hbx hgr hsr v0 hv hg10
        go_wp2_with fail
        go_roundw
        case rel => exact ⟨j + 1,A6,c6,l ++ [d.key],by omega,by go_num,by simp,HO10.out,by simp; omega,hs10.more (by omega),hgr10,hbx10,hown10,hzw10⟩
        case measure => simp [intOf]; omega
     ·have hje : j = ds.length:=by omega
      by_cases hl0 : l.length = 0
      ·have e0 : ((l.length : Int) == 0) = true:=by rw [hl0]; rfl
       have HL0:=Lib.hid hl0
       clear hl0 hje
       go_wp2_with fail
       go_meet
       exact ⟨AO,cO,out,rfl,hown,by omega,hsr.more (by omega),hgr⟩
      ·have hlp : 0 < l.length:=by omega
       have e0 : ((l.length : Int) == 0) = false:=beq_eq_false_iff_ne.2 (by omega)
       have hgl : g < W1.heap.size:=by omega
       clear hl0 hje
       go_wp2_with fail
       refine (some_any g _ W1.heap.size AL cL l _ hsr (by omega) (Row.of_own hownL) hgl hlp (by omega)).mono ?_
       rintro e w9 ⟨x,rfl,-,hs9,hg9⟩
       replace hgr:=grown_trans' hgr hg9
       replace hown:=own_grown hown hg9 (by omega)
       replace hbx:=hbx.grown hg9 (by omega)
       have hzz9:=hgr.size
       have hzb9:=hbx.lt
       clear hsr hg9 hownL
       unfold encStr
       go_wp2_with (at_builtin; go_must (refine wpList_app (lo:=w.heap.size + 1) (base:=w.heap.size + 1) (n:=out.length) (xs:=strs out) _ _ rfl _ _ ty_strs rfl (by repeat (first | exact hown | refine World.ownsRow.alloc ?_ _ | refine own_drewN ?_ _ | refine World.ownsRow.drew ?_)) rfl (by first | exact row_new' _ (by first | rfl | simp) (by first | omega | (simp; omega)) rfl | exact row_newN _ _ (by first | rfl | simp) (by first | omega | (simp; omega)) rfl | exact row_newD _ (by first | rfl | simp) (by first | omega | (simp; omega)) rfl) rfl rfl (by first | omega | decide) (by first | omega | decide) (by first | omega | (simp; omega)) ?_))
       intro A6 c6 w10 hown10 hg10 _
       have HO10 : Hid (w10.ownsRow (w.heap.size + 1) 9 1 (.slice A6 (out ++ [x]).length c6) (out ++ [x]).length (strs (out ++ [x]))):=Lib.hid (by simpa [strs,encStr] using hown10)
       have hs10:=(hs9.alloc (.cells #[.string ⟨x.toArray⟩] 9)).app (hown.alloc _) hg10 (by omega)
       have hgr10:=grown_app (grown_alloc hgr (.cells #[.string ⟨x.toArray⟩] 9)) (hown.alloc _) hg10 (by omega)
       have hbx10:=Blk.app (hown.alloc (.cells #[.string ⟨x.toArray⟩] 9)) (hbx.alloc _) hg10 (by decide)
       clear hown hown10 hg10 hbx hgr hs9
       go_wp2_with fail
       go_roundw
       case rel => exact ⟨k + 1,A6,c6,out ++ [x],by omega,by go_num,by simp,HO10.out,by simp; omega,hs10.more (by omega),hgr10,hbx10⟩
       case measure => simp [intOf]; omega
   ·go_wp2_with fail
    go_meet
    exact ⟨AO,cO,out,rfl,hown,by omega,hsr.more (by omega),hgr⟩
 case rest =>
 obtain ⟨AO,cO,out,rfl,hown,hol,hsr,hgr⟩:=hcut
 replace hown:=own_weak hown (show w.heap.size ≤ w.heap.size + 1 by omega)
 go_wp2_with fail
 refine (flip_any g _ 20 _ hsr (by omega) (by omega)).mono ?_
 rintro e w2 ⟨r2,rfl,hs2,hg2'⟩
 have hgr2:=grown_trans' hgr hg2'
 have hown2:=own_grown hown hg2' (by omega)
 have hgw2 : g < w2.heap.size:=hs2.lt
 clear hown hg2' hgr hsr
 cases r2
 ·have HO:=Lib.hid hown2
  clear hown2
  go_wp2_with fail
  go_ret
  exact ⟨AO,cO,out,rfl,HO.out,by omega,hs2.more (by omega),hgr2⟩
 ·go_wp2_with fail
  refine (some_lit g _ w2.heap.size 100 #[.string ⟨#[122,122]⟩,.string ⟨#[100,48]⟩] [[122,122],[100,48]] _ (hs2.alloc _) (by omega) (Blk.new _ _ _) rfl hgw2 (by simp) (by simp) (by decide)).mono ?_
  rintro e w3 ⟨x,rfl,hx,hs3,hg3⟩
  have hgr3:=grown_trans' (grown_alloc hgr2 _) hg3
  have hown3:=own_grown (hown2.alloc (.cells #[.string ⟨#[122,122]⟩,.string ⟨#[100,48]⟩] 9)) hg3 (by omega)
  have hzz3:=hgr3.size
  clear hown2 hg3 hgr2
  go_wp2_with (at_builtin; go_must (refine wpList_app (lo:=w.heap.size) (base:=w.heap.size) (n:=out.length) (xs:=strs out) _ _ rfl _ _ ty_strs rfl (by repeat (first | exact hown3 | refine World.ownsRow.alloc ?_ _ | refine own_drewN ?_ _ | refine World.ownsRow.drew ?_)) rfl (by first | exact row_new' _ (by first | rfl | simp) (by first | omega | (simp; omega)) rfl | exact row_newN _ _ (by first | rfl | simp) (by first | omega | (simp; omega)) rfl | exact row_newD _ (by first | rfl | simp) (by first | omega | (simp; omega)) rfl) rfl rfl (by first | omega | decide) (by first | omega | decide) (by first | omega | (simp; omega)) ?_))
  intro A6 c6 w5 hown5 hg5 _
  have HO5 : Hid (w5.ownsRow w.heap.size 9 1 (.slice A6 (out ++ [x]).length c6) (out ++ [x]).length (strs (out ++ [x]))):=Lib.hid (by simpa [strs,encStr] using hown5)
  have HS5:=Lib.hid (((hs3.alloc (.cells #[.string ⟨x.toArray⟩] 9)).app (hown3.alloc _) hg5 (by omega)).more (show _ ≤ N + 6000 by omega))
  have HG5:=Lib.hid (grown_app (grown_alloc hgr3 (.cells #[.string ⟨x.toArray⟩] 9)) (hown3.alloc _) hg5 (by omega))
  clear hown3 hown5 hg5 hs3 hgr3
  go_wp2_with fail
  go_ret
  exact ⟨A6,c6,out ++ [x],by simp,HO5.out,by simp; omega,HS5.out,HG5.out⟩
end Go.Proofs.YthchgkdhegaehaaGreatDoor
