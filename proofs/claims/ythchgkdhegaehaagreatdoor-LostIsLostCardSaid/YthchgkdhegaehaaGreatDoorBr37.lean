/- Texts of this seat, laid together: WkR WkO MpD. -/
import Derived.Deep.CutBlock
import Derived.Test.YthchgkdhegaehaaGreatDoorBr28
import Derived.Test.YthchgkdhegaehaaGreatDoorBr27
import Derived.Test.YthchgkdhegaehaaGreatDoorBr36
import Derived.Test.YthchgkdhegaehaaGreatDoorBr07
import Derived.Test.YthchgkdhegaehaaGreatDoorBr35
/- The walks of the reference's doorFault, through, firstPoint and SamePoint. -/
namespace Go.Proofs.YthchgkdhegaehaaGreatDoor
set_option linter.unusedVariables false
set_option linter.unusedSimpArgs false
open Go.RowKit Go.Sort Go.Shelf

end Go.Proofs.YthchgkdhegaehaaGreatDoor
/- The walk of the reference's WalkedOf. -/
namespace Go.Proofs.YthchgkdhegaehaaGreatDoor
set_option linter.unusedVariables false
set_option linter.unusedSimpArgs false
open Go.RowKit

theorem ThOk.len {T th : List (List UInt8)} (hT : T.Pairwise (· < ·)) (h : ThOk T th) : th.length ≤ T.length:=by
 rw [← list_bits hT h]; exact List.length_filter_le _ _
end Go.Proofs.YthchgkdhegaehaaGreatDoor
/- The walks of the stream's TrickList and DoorList. -/
namespace Go.Proofs.YthchgkdhegaehaaGreatDoor
set_option linter.unusedVariables false
set_option linter.unusedSimpArgs false
open Go.RowKit Go.Sort

section
variable {w w' : World} {lo g : Nat} {A : Option Addr} {rs : List RoomE} {D : Option Addr} {ds : List DoorE}
theorem MapW.grown (h : MapW w lo A rs D ds) (hb : w.grownBy w' (some g)) (hg : g < lo) : MapW w' lo A rs D ds :=
 ⟨h.rooms.grown hb hg,h.doors.grown hb hg,fun r hr => ⟨(h.gives r hr).1.grown hb hg,(h.gives r hr).2⟩,fun d hd => ⟨(h.needs d hd).1.grown hb hg,(h.needs d hd).2⟩,fun d hd => ⟨(h.takes d hd).1.grown hb hg,(h.takes d hd).2⟩,h.s⟩
theorem Row.grownB {size n B : Nat} {xs : List Value} {row : Option Nat} (h : Row w lo size A n xs) (hA : ∀ a,A = some a → a.block < B) (hg : w.grownBy w' row) (hr : ∀ k,row = some k → B ≤ k) : Row w' lo size A n xs :=
 ⟨h.1,fun hn => by
  obtain ⟨b,off,e,h1,h2,h3⟩:=h.2 hn
  have:=hA _ e
  exact ⟨b,off,e,h1,Nat.lt_of_lt_of_le h2 hg.size,fun j u hu => (World.cell?_of_block (w:=w) (hg.block b h2 (fun e2 => by have:=hr b e2.symm; simp at *; omega))).trans (h3 j u hu)⟩⟩
end
def TlPost (w : World) (g N : Nat) (e : Ending) (w' : World) : Prop :=
 ∃ (A : Option Addr) (c : Nat) (l : List (List UInt8)),e = .returned (.slice A l.length c) ∧ w'.ownsRow w.heap.size 9 1 (.slice A l.length c) l.length (strs l) ∧ l.length ≤ 2000 ∧ Str w' g N ∧ w.grownBy w' (some g)
set_option maxHeartbeats 4000000 in
set_option maxRecDepth 100000 in
theorem trickList_any (g N lo ca cd : Nat) (A : Option Addr) (rs : List RoomE) (D : Option Addr) (ds : List DoorE) (st gl : List UInt8) (w : World) (hs : Str w g N) (hN : N < 4611686018427360000) (hA : MapW w lo A rs D ds) (hg : g < lo) :
  Calls Tryz.prog 15 #[.pointer (some ⟨g,0,none⟩),mapV A rs ca D ds cd st gl] w (TlPost w g (N + 1100)):=by
 have hlt:=hs.lt
 have hkl : (onceT (allK ds)).length ≤ 1000:=by have:=allK_le ds; have:=onceT_le (allK ds); have:=hA.s.dl; omega
 have hb0 : Below w.heap.size w (w.alloc (.cells #[.slice A rs.length ca,.slice D ds.length cd,.string ⟨st.toArray⟩,.string ⟨gl.toArray⟩] 29)):=(Below.refl _ w).alloc (Nat.le_refl _) _
 have hA0:=hA.alloc (.cells #[.slice A rs.length ca,.slice D ds.length cd,.string ⟨st.toArray⟩,.string ⟨gl.toArray⟩] 29)
 have hs0:=hs.alloc (.cells #[.slice A rs.length ca,.slice D ds.length cd,.string ⟨st.toArray⟩,.string ⟨gl.toArray⟩] 29)
 have hgr0 : w.grownBy (w.alloc (.cells #[.slice A rs.length ca,.slice D ds.length cd,.string ⟨st.toArray⟩,.string ⟨gl.toArray⟩] 29)) (some g):=World.grownBy_alloc _ _ _
 clear hA
 unfold mapV
 simp only [encStr]
 go_enter Tryz.func15,Tryz.ntmps15
 go_wp2_with fail
 generalize w.alloc (.cells #[.slice A rs.length ca,.slice D ds.length cd,.string ⟨st.toArray⟩,.string ⟨gl.toArray⟩] 29) = w0 at *
 have hrt:=rTricks_any lo ca cd A rs D ds st gl w0 hA0
 unfold mapV at hrt
 simp only [encStr] at hrt
 refine hrt.mono ?_
 rintro e w1 ⟨A2,k2,rfl,ho2,hb2⟩
 clear hrt hA0
 generalize onceT (allK ds) = K at *
 have hrow2:=Row.of_own ho2
 have HA2 : Hid (∀ a,A2 = some a → a.block < w1.heap.size):=Lib.hid (fun a ha => by subst ha; exact (ho2.lt a.block rfl).2)
 have hs1:=hs0.keep hb2
 have hgr1:=grown_trans' hgr0 (grown_of_below hb2 (some g))
 have hz1 : w.heap.size ≤ w1.heap.size:=hgr1.size
 have hz0 : g < w0.heap.size:=hs0.lt
 have hg1 : g < w1.heap.size:=hs1.lt
 clear hs0 hgr0 hb0 hb2 ho2
 go_wp2_with fail
 go_loopw [5,11] (fun v i wr => ∃ (k : Nat) (A : Option Addr) (c : Nat) (l : List (List UInt8)),k ≤ K.length ∧ i = .int .i64 k ∧ v = .slice A l.length c ∧ wr.ownsRow w1.heap.size 9 1 (.slice A l.length c) l.length (strs l) ∧ l.length ≤ k ∧ Str wr g (N + k) ∧ w.grownBy wr (some g) ∧ Row wr w0.heap.size 1 A2 K.length (strs K) ∧ w1.heap.size ≤ wr.heap.size) (fun _ i _ => K.length - (intOf i).toNat)
 case atStart => exact ⟨0,none,0,[],by omega,rfl,rfl,World.ownsRow_nil _ _ _ _,by simp,hs1,hgr1,hrow2,Nat.le_refl _⟩
 case round =>
  clear hrow2 hs1 hgr1
  obtain ⟨k,A5,c5,l,hk,rfl,rfl,hown,hlk,hsr,hgr,hrow,hzw⟩:=hrel
  have hzr:=hgr.size
  by_cases hkn : k < K.length
  ·obtain ⟨b,off,rfl,hbs,hcell⟩:=strs_at hrow hkn
   have y0:=hcell k hkn
   clear hcell
   generalize K[k] = x at *
   simp only [encStr] at y0
   go_wp2_with fail
   refine (flip_any g _ 3 _ hsr (by omega) (by omega)).mono ?_
   rintro e w2 ⟨r2,rfl,hs2,hg2⟩
   have hgr2:=grown_trans' hgr hg2
   have hown2:=own_grown hown hg2 (by omega)
   have hrow2:=hrow.grown hg2 hz0
   have hzw2 : w1.heap.size ≤ w2.heap.size:=Nat.le_trans hzw hg2.size
   clear y0 hown hrow hg2 hgr
   cases r2
   ·go_wp2_with (at_builtin; go_must (refine wpList_app (lo:=w1.heap.size) (base:=w1.heap.size) (n:=l.length) (xs:=strs l) _ _ rfl _ _ ty_strs rfl (by repeat (first | exact hown2 | refine World.ownsRow.alloc ?_ _ | refine own_drewN ?_ _ | refine World.ownsRow.drew ?_)) rfl (by first | exact row_new' _ (by first | rfl | simp) (by first | omega | (simp; omega)) rfl | exact row_newN _ _ (by first | rfl | simp) (by first | omega | (simp; omega)) rfl | exact row_newD _ (by first | rfl | simp) (by first | omega | (simp; omega)) rfl) rfl rfl (by first | omega | decide) (by first | omega | decide) (by first | omega | (simp; omega)) ?_))
    intro A6 c6 w5 hown5 hg5 _
    have HO5 : Hid (w5.ownsRow w1.heap.size 9 1 (.slice A6 (l ++ [x]).length c6) (l ++ [x]).length (strs (l ++ [x]))):=Lib.hid (by simpa [strs,encStr] using hown5)
    have hs5:=(hs2.alloc (.cells #[.string ⟨x.toArray⟩] 9)).app (hown2.alloc _) hg5 (by omega)
    have hgr5:=grown_app (grown_alloc hgr2 (.cells #[.string ⟨x.toArray⟩] 9)) (hown2.alloc _) hg5 (by omega)
    have hrow5:=(hrow2.alloc (.cells #[.string ⟨x.toArray⟩] 9)).grownB HA2.out hg5 (fun q hq => ((hown2.alloc (.cells #[.string ⟨x.toArray⟩] 9)).lt q hq).1)
    have hzw5 : w1.heap.size ≤ w5.heap.size:=by have:=hg5.size; simp at this; omega
    clear hown2 hown5 hg5 hrow2
    go_wp2_with fail
    go_roundw
    case rel => exact ⟨k + 1,A6,c6,l ++ [x],by omega,by go_num,by simp,HO5.out,by simp; omega,hs5.more (by omega),hgr5,hrow5,hzw5⟩
    case measure => simp [intOf]; omega
   ·go_wp2_with fail
    go_roundw
    case rel => exact ⟨k + 1,A5,c5,l,by omega,by go_num,rfl,hown2,by omega,hs2,hgr2,hrow2,hzw2⟩
    case measure => simp [intOf]; omega
  ·clear hrow
   have hown:=own_weak hown hz1
   go_wp2_with fail
   refine (flip_any g _ 20 _ hsr (by omega) (by omega)).mono ?_
   rintro e w2 ⟨r2,rfl,hs2,hg2⟩
   have hgr2:=grown_trans' hgr hg2
   have hown2:=own_grown hown hg2 (by omega)
   have hgw2 : g < w2.heap.size:=hs2.lt
   clear hown hg2 hgr
   cases r2
   ·have HO:=Lib.hid hown2
    clear hown2
    go_wp2_with fail
    go_ret
    exact ⟨A5,c5,l,rfl,HO.out,by omega,hs2.more (by omega),hgr2⟩
   ·go_wp2_with fail
    refine (some_lit g _ w2.heap.size 100 #[.string ⟨#[99,108,105,112]⟩,.string ⟨#[122,122]⟩,.string ⟨#[97,98]⟩] [[99,108,105,112],[122,122],[97,98]] _ (hs2.alloc _) (by omega) (Blk.new _ _ _) rfl hgw2 (by simp) (by simp) (by decide)).mono ?_
    rintro e w3 ⟨x,rfl,hx,hs3,hg3⟩
    have hgr3:=grown_trans' (grown_alloc hgr2 _) hg3
    have hown3:=own_grown (hown2.alloc (.cells #[.string ⟨#[99,108,105,112]⟩,.string ⟨#[122,122]⟩,.string ⟨#[97,98]⟩] 9)) hg3 (by omega)
    have hzz3:=hgr3.size
    clear hown2 hg3 hgr2
    go_wp2_with (at_builtin; go_must (refine wpList_app (lo:=w.heap.size) (base:=w.heap.size) (n:=l.length) (xs:=strs l) _ _ rfl _ _ ty_strs rfl (by repeat (first | exact hown3 | refine World.ownsRow.alloc ?_ _ | refine own_drewN ?_ _ | refine World.ownsRow.drew ?_)) rfl (by first | exact row_new' _ (by first | rfl | simp) (by first | omega | (simp; omega)) rfl | exact row_newN _ _ (by first | rfl | simp) (by first | omega | (simp; omega)) rfl | exact row_newD _ (by first | rfl | simp) (by first | omega | (simp; omega)) rfl) rfl rfl (by first | omega | decide) (by first | omega | decide) (by first | omega | (simp; omega)) ?_))
    intro A6 c6 w5 hown5 hg5 _
    have HO5 : Hid (w5.ownsRow w.heap.size 9 1 (.slice A6 (l ++ [x]).length c6) (l ++ [x]).length (strs (l ++ [x]))):=Lib.hid (by simpa [strs,encStr] using hown5)
    have HS5:=Lib.hid (((hs3.alloc (.cells #[.string ⟨x.toArray⟩] 9)).app (hown3.alloc _) hg5 (by omega)).more (show _ ≤ N + 1100 by omega))
    have HG5:=Lib.hid (grown_app (grown_alloc hgr3 (.cells #[.string ⟨x.toArray⟩] 9)) (hown3.alloc _) hg5 (by omega))
    clear hown3 hown5 hg5 hs3 hgr3
    go_wp2_with fail
    go_ret
    exact ⟨A6,c6,l ++ [x],by simp,HO5.out,by simp; omega,HS5.out,HG5.out⟩

end Go.Proofs.YthchgkdhegaehaaGreatDoor
