/- Texts of this seat, laid together: TlX PoX RsA. -/
import Derived.Test.YtpialnjfdbfkdaaGreatDoorBs26
import Derived.Test.YtpialnjfdbfkdaaGreatDoorBs27
import Derived.Test.YtpialnjfdbfkdaaGreatDoorBs18
/- The stream's TrickList over a stream whose numbers are known. -/
set_option linter.unusedVariables false
set_option linter.unusedSimpArgs false
namespace Go.Proofs.YtpialnjfdbfkdaaGreatDoor
open Go.RowKit Go.Sort
variable {sB : Nat}

def flR (L : List Int) (m : Int) (b : Bool) : List (List UInt8) → Nat → List (List UInt8)
 | [],_ => []
 | x :: xs,k => (if decide (nx L k m = 0) = b then [x] else []) ++ flR L m b xs (k + 1)
section
variable {L : List Int} {m : Int} {b r : Bool} {k N : Nat} {K l : List (List UInt8)} {x : List UInt8}
theorem fl_start (L : List Int) (m : Int) (b : Bool) (K : List (List UInt8)) (N : Nat) : flR L m b K N = [] ++ flR L m b (K.drop 0) (N + 0):=by rw [List.drop_zero,List.nil_append,Nat.add_zero]
theorem fl_end (h : flR L m b K N = l ++ flR L m b (K.drop k) (N + k)) (hk : k = K.length) : flR L m b K N = l:=by
 rw [h,hk,List.drop_length,flR,List.append_nil]
theorem fl_no (h : flR L m b K N = l ++ flR L m b (K.drop k) (N + k)) (hd : K.drop k = x :: K.drop (k + 1)) (hr : decide (nx L (N + k) m = 0) = r) (hb : r ≠ b) : flR L m b K N = l ++ flR L m b (K.drop (k + 1)) (N + (k + 1)):=by
 rw [h,hd,flR,hr,if_neg hb,List.nil_append,Nat.add_assoc]
theorem fl_yes (h : flR L m b K N = l ++ flR L m b (K.drop k) (N + k)) (hd : K.drop k = x :: K.drop (k + 1)) (hr : decide (nx L (N + k) m = 0) = r) (hb : r = b) : flR L m b K N = (l ++ [x]) ++ flR L m b (K.drop (k + 1)) (N + (k + 1)):=by
 rw [h,hd,flR,hr,if_pos hb,← List.append_assoc,Nat.add_assoc]
end
def tlF (L : List Int) (N : Nat) (K : List (List UInt8)) : List (List UInt8) × Nat :=
 if nx L (N + K.length) 20 = 0 then (flR L 3 false K N ++ [sk L (N + K.length + 1) [[99,108,105,112],[122,122],[97,98]]],N + K.length + 2) else (flR L 3 false K N,N + K.length + 1)
def TlX (w : World) (g sB : Nat) (L : List Int) (N : Nat) (K : List (List UInt8)) (e : Ending) (w' : World) : Prop :=
 ∃ (A : Option Addr) (c : Nat) (l : List (List UInt8)) (k' : Nat),e = .returned (.slice A l.length c) ∧ w'.ownsRow w.heap.size 9 1 (.slice A l.length c) l.length (strs l) ∧ l.length ≤ 2000 ∧ tlF L N K = (l,k') ∧ k' ≤ N + 1100 ∧ StrE w' g sB L k' ∧ w.grownBy w' (some g)
set_option maxHeartbeats 4000000 in
set_option maxRecDepth 100000 in
theorem trickList_ex (g N lo ca cd : Nat) (L : List Int) (A : Option Addr) (rs : List RoomE) (D : Option Addr) (ds : List DoorE) (st gl : List UInt8) (w : World) (hs : StrE w g sB L N) (hN : N < 4611686018427360000) (hA : MapW w lo A rs D ds) (hg : g < lo) :
  Calls Tryz.prog 5 #[.pointer (some ⟨g,0,none⟩),mapV A rs ca D ds cd st gl] w (TlX w g sB L N (onceT (allK ds))):=by
 have hlt:=hs.lt
 have hkl : (onceT (allK ds)).length ≤ 1000:=by have:=allK_le ds; have:=onceT_le (allK ds); have:=hA.s.dl; omega
 have hb0 : Below w.heap.size w (w.alloc (.cells #[.slice A rs.length ca,.slice D ds.length cd,.string ⟨st.toArray⟩,.string ⟨gl.toArray⟩] 29)):=(Below.refl _ w).alloc (Nat.le_refl _) _
 have hA0:=hA.alloc (.cells #[.slice A rs.length ca,.slice D ds.length cd,.string ⟨st.toArray⟩,.string ⟨gl.toArray⟩] 29)
 have hs0:=hs.alloc (.cells #[.slice A rs.length ca,.slice D ds.length cd,.string ⟨st.toArray⟩,.string ⟨gl.toArray⟩] 29)
 have hgr0 : w.grownBy (w.alloc (.cells #[.slice A rs.length ca,.slice D ds.length cd,.string ⟨st.toArray⟩,.string ⟨gl.toArray⟩] 29)) (some g):=World.grownBy_alloc _ _ _
 clear hA
 unfold mapV
 simp only [encStr]
 go_enter Tryz.func5,Tryz.ntmps5
 go_wp2_with fail
 generalize w.alloc (.cells #[.slice A rs.length ca,.slice D ds.length cd,.string ⟨st.toArray⟩,.string ⟨gl.toArray⟩] 29) = w0 at *
 have hrt:=rTricks_any lo ca cd A rs D ds st gl w0 hA0
 unfold mapV at hrt
 simp only [encStr] at hrt
 refine hrt.mono ?_
 rintro e w1 ⟨A2,k2,rfl,ho2,hb2⟩
 clear hrt hA0
 generalize onceT (allK ds) = K at *
 have hrow2:=Row.of_own ho2
 have HA2 : Hid (∀ a,A2 = some a → a.block < w1.heap.size):=Lib.hid (fun a ha => by subst ha; exact (ho2.lt a.block rfl).2)
 have hs1:=hs0.keep hb2
 have hgr1:=grown_trans' hgr0 (grown_of_below hb2 (some g))
 have hz1 : w.heap.size ≤ w1.heap.size:=hgr1.size
 have hz0 : g < w0.heap.size:=hs0.lt
 have hg1 : g < w1.heap.size:=hs1.lt
 clear hs0 hgr0 hb0 hb2 ho2
 go_wp2_with fail
 go_loopw [5,11] (fun v i wr => ∃ (k : Nat) (A : Option Addr) (c : Nat) (l : List (List UInt8)),k ≤ K.length ∧ i = .int .i64 k ∧ v = .slice A l.length c ∧ wr.ownsRow w1.heap.size 9 1 (.slice A l.length c) l.length (strs l) ∧ l.length ≤ k ∧ (StrE wr g sB L (N + k) ∧ Hid (flR L 3 false K N = l ++ flR L 3 false (K.drop k) (N + k))) ∧ w.grownBy wr (some g) ∧ Row wr w0.heap.size 1 A2 K.length (strs K) ∧ w1.heap.size ≤ wr.heap.size) (fun _ i _ => K.length - (intOf i).toNat)
 case atStart => exact ⟨0,none,0,[],by omega,rfl,rfl,World.ownsRow_nil _ _ _ _,by simp,⟨hs1,Lib.hid (fl_start L 3 false K N)⟩,hgr1,hrow2,Nat.le_refl _⟩
 case round =>
  clear hrow2 hs1 hgr1
  obtain ⟨k,A5,c5,l,hk,rfl,rfl,hown,hlk,⟨hsr,HTF⟩,hgr,hrow,hzw⟩:=hrel
  have hzr:=hgr.size
  by_cases hkn : k < K.length
  ·obtain ⟨b,off,rfl,hbs,hcell⟩:=strs_at hrow hkn
   have y0:=hcell k hkn
   have HDR : Hid (K.drop k = K[k] :: K.drop (k + 1)):=Lib.hid (List.drop_eq_getElem_cons hkn)
   clear hcell
   generalize K[k] = x at *
   simp only [encStr] at y0
   go_wp2_with fail
   refine (flip_exx g _ L 3 _ hsr (by omega) (by omega)).mono ?_
   rintro e w2 ⟨r2,rfl,⟨hs2,HFL⟩,hg2⟩
   have hgr2:=grown_trans' hgr hg2
   have hown2:=own_grown hown hg2 (by omega)
   have hrow2:=hrow.grown hg2 hz0
   have hzw2 : w1.heap.size ≤ w2.heap.size:=Nat.le_trans hzw hg2.size
   clear y0 hown hrow hg2 hgr
   cases r2
   ·go_wp2_with (at_builtin; go_must (refine wpList_app (lo:=w1.heap.size) (base:=w1.heap.size) (n:=l.length) (xs:=strs l) _ _ rfl _ _ ty_strs rfl (by repeat (first | exact hown2 | refine World.ownsRow.alloc ?_ _ | refine own_drewN ?_ _ | refine World.ownsRow.drew ?_)) rfl (by first | exact row_new' _ (by first | rfl | simp) (by first | omega | (simp; omega)) rfl | exact row_newN _ _ (by first | rfl | simp) (by first | omega | (simp; omega)) rfl | exact row_newD _ (by first | rfl | simp) (by first | omega | (simp; omega)) rfl) rfl rfl (by first | omega | decide) (by first | omega | decide) (by first | omega | (simp; omega)) ?_))
    intro A6 c6 w5 hown5 hg5 _
    have HO5 : Hid (w5.ownsRow w1.heap.size 9 1 (.slice A6 (l ++ [x]).length c6) (l ++ [x]).length (strs (l ++ [x]))):=Lib.hid (by simpa [strs,encStr] using hown5)
    have hs5:=(hs2.alloc (.cells #[.string ⟨x.toArray⟩] 9)).app (hown2.alloc _) hg5 (by omega)
    have hgr5:=grown_app (grown_alloc hgr2 (.cells #[.string ⟨x.toArray⟩] 9)) (hown2.alloc _) hg5 (by omega)
    have hrow5:=(hrow2.alloc (.cells #[.string ⟨x.toArray⟩] 9)).grownB HA2.out hg5 (fun q hq => ((hown2.alloc (.cells #[.string ⟨x.toArray⟩] 9)).lt q hq).1)
    have hzw5 : w1.heap.size ≤ w5.heap.size:=by have:=hg5.size; simp at this; omega
    clear hown2 hown5 hg5 hrow2
    go_wp2_with fail
    go_roundw
    case rel => exact ⟨k + 1,A6,c6,l ++ [x],by omega,by go_num,by simp,HO5.out,by simp; omega,⟨hs5,Lib.hid (fl_yes HTF.out HDR.out HFL.out rfl)⟩,hgr5,hrow5,hzw5⟩
    case measure => simp [intOf]; omega
   ·go_wp2_with fail
    go_roundw
    case rel => exact ⟨k + 1,A5,c5,l,by omega,by go_num,rfl,hown2,by omega,⟨hs2,Lib.hid (fl_no HTF.out HDR.out HFL.out (by decide))⟩,hgr2,hrow2,hzw2⟩
    case measure => simp [intOf]; omega
  ·clear hrow
   have hke : k = K.length:=by omega
   have HTE:=Lib.hid (fl_end HTF.out hke)
   rw [hke] at hsr
   clear HTF hke
   have hown:=own_weak hown hz1
   go_wp2_with fail
   refine (flip_exx g _ L 20 _ hsr (by omega) (by omega)).mono ?_
   rintro e w2 ⟨r2,rfl,⟨hs2,HFL⟩,hg2⟩
   have hgr2:=grown_trans' hgr hg2
   have hown2:=own_grown hown hg2 (by omega)
   have hgw2 : g < w2.heap.size:=hs2.lt
   clear hown hg2 hgr
   cases r2
   ·have HO:=Lib.hid hown2
    clear hown2
    go_wp2_with fail
    go_ret
    exact ⟨A5,c5,l,_,rfl,HO.out,by omega,by unfold tlF; rw [if_neg (of_decide_eq_false HFL.out),HTE.out],by omega,hs2,hgr2⟩
   ·go_wp2_with fail
    refine (some_litX g _ w2.heap.size #[.string ⟨#[99,108,105,112]⟩,.string ⟨#[122,122]⟩,.string ⟨#[97,98]⟩] [[99,108,105,112],[122,122],[97,98]] _ (hs2.alloc _) (by omega) (Blk.new _ _ _) rfl hgw2 (by simp) (by simp)).mono ?_
    rintro e w3 ⟨x,rfl,hx,hs3,hg3⟩
    have HX:=Lib.hid hx.2
    have hgr3:=grown_trans' (grown_alloc hgr2 _) hg3
    have hown3:=own_grown (hown2.alloc (.cells #[.string ⟨#[99,108,105,112]⟩,.string ⟨#[122,122]⟩,.string ⟨#[97,98]⟩] 9)) hg3 (by omega)
    have hzz3:=hgr3.size
    clear hown2 hg3 hgr2
    go_wp2_with (at_builtin; go_must (refine wpList_app (lo:=w.heap.size) (base:=w.heap.size) (n:=l.length) (xs:=strs l) _ _ rfl _ _ ty_strs rfl (by repeat (first | exact hown3 | refine World.ownsRow.alloc ?_ _ | refine own_drewN ?_ _ | refine World.ownsRow.drew ?_)) rfl (by first | exact row_new' _ (by first | rfl | simp) (by first | omega | (simp; omega)) rfl | exact row_newN _ _ (by first | rfl | simp) (by first | omega | (simp; omega)) rfl | exact row_newD _ (by first | rfl | simp) (by first | omega | (simp; omega)) rfl) rfl rfl (by first | omega | decide) (by first | omega | decide) (by first | omega | (simp; omega)) ?_))
    intro A6 c6 w5 hown5 hg5 _
    have HO5 : Hid (w5.ownsRow w.heap.size 9 1 (.slice A6 (l ++ [x]).length c6) (l ++ [x]).length (strs (l ++ [x]))):=Lib.hid (by simpa [strs,encStr] using hown5)
    have HS5:=Lib.hid (((hs3.alloc (.cells #[.string ⟨x.toArray⟩] 9)).app (hown3.alloc _) hg5 (by omega)))
    have HG5:=Lib.hid (grown_app (grown_alloc hgr3 (.cells #[.string ⟨x.toArray⟩] 9)) (hown3.alloc _) hg5 (by omega))
    clear hown3 hown5 hg5 hs3 hgr3
    go_wp2_with fail
    go_ret
    exact ⟨A6,c6,l ++ [x],_,by simp,HO5.out,by simp; omega,by unfold tlF; rw [if_pos (of_decide_eq_true HFL.out),HTE.out,HX.out],by omega,HS5.out,HG5.out⟩

end Go.Proofs.YtpialnjfdbfkdaaGreatDoor
/- The stream's PointOf over a stream whose numbers are known. -/
namespace Go.Proofs.YtpialnjfdbfkdaaGreatDoor
open Go.RowKit Go.Sort
variable {sB : Nat}

def poRoom (L : List Int) (N : Nat) (ks : List (List UInt8)) : List UInt8 × Nat :=
 if nx L (N + 1) 15 = 0 then (sk L N [[114,97],[114,98],[122,122]],N + 2) else (ks.getD (nx L (N + 2) ks.length).toNat [],N + 3)
def poEnd (L : List Int) (p : List UInt8 × Nat) (K : List (List UInt8)) : (List UInt8 × List (List UInt8)) × Nat :=
 if nx L (p.2 + K.length) 20 = 0 then ((p.1,flR L 3 true K p.2 ++ [sk L (p.2 + K.length + 1) [[122,97,112],[],[103,117,110]]]),p.2 + K.length + 2) else ((p.1,flR L 3 true K p.2),p.2 + K.length + 1)
def PoX (w : World) (g sB : Nat) (L : List Int) (N : Nat) (ks K : List (List UInt8)) (e : Ending) (w' : World) : Prop :=
 ∃ (room : List UInt8) (A : Option Addr) (c : Nat) (l : List (List UInt8)) (k' : Nat),e = .returned (.agg #[.string ⟨room.toArray⟩,.slice A l.length c]) ∧ w'.ownsRow w.heap.size 9 1 (.slice A l.length c) l.length (strs l) ∧ l.length ≤ 2000 ∧ poEnd L (poRoom L N ks) K = ((room,l),k') ∧ k' ≤ N + 1100 ∧ StrE w' g sB L k' ∧ w.grownBy w' (some g)
theorem res_ptX (fn : Func) (q : Nat) (tmps : Array Value) (w : World) (m : Nat) (a : List UInt8) (X : Option Addr) (n c : Nat) (e : fn.results = #[.cell q 34]) (hx : tmps.getD q undef = .pointer (some ⟨m,0,none⟩)) (f0 : w.cell? ⟨m,0,none⟩ = some (.string ⟨a.toArray⟩)) (f1 : w.cell? ⟨m,1,none⟩ = some (.slice X n c)) :
  (results fn tmps).run Tryz.prog w = .ok (.agg #[.string ⟨a.toArray⟩,.slice X n c]) w:=by
 have hx' : tmps[q]?.getD undef = .pointer (some ⟨m,0,none⟩):=by simpa using hx
 simp [results,e,hx',go_sem,f0,f1]
structure PoC (w W : World) (g sB : Nat) (L : List Int) (k pb : Nat) (rb : Nat) (mc box : Array Value) : Prop where
  s : StrE W g sB L k
  gr : w.grownBy W (some g)
  mp : Blk W w.heap.size 29 mc
  res : Blk W rb 34 #[.string ⟨#[]⟩, .slice none 0 0]
  box : Blk W pb 34 box
section
variable {w W W' : World} {g k k' pb rb : Nat} {L : List Int} {mc box : Array Value}
theorem PoC.below (h : PoC w W g sB L k pb rb mc box) (hb : Below W.heap.size W W') : PoC w W' g sB L k pb rb mc box:=⟨h.s.keep hb,grown_trans' h.gr (grown_of_below hb _),h.mp.below hb,h.res.below hb,h.box.below hb⟩
theorem PoC.alloc (h : PoC w W g sB L k pb rb mc box) (o : Obj) : PoC w (W.alloc o) g sB L k pb rb mc box:=h.below ((Below.refl _ _).alloc (Nat.le_refl _) o)
theorem PoC.str (h : PoC w W g sB L k pb rb mc box) (h1 : g < w.heap.size) (h2 : w.heap.size < rb) (h3 : rb < pb) (hs : StrE W' g sB L k') (hb : W.grownBy W' (some g)) : PoC w W' g sB L k' pb rb mc box:=⟨hs,grown_trans' h.gr hb,h.mp.grown hb (by omega),h.res.grown hb (by omega),h.box.grown hb (by omega)⟩
theorem PoC.app (h : PoC w W g sB L k pb rb mc box) {base size n : Nat} {v : Value} {xs : List Value} (hown : W.ownsRow base 9 size v n xs) (hg : W.grownBy W' v.ownBlock) (hb : g < base) (hb2 : w.heap.size ≤ base) : PoC w W' g sB L k pb rb mc box :=
 ⟨h.s.app hown hg hb,grown_app h.gr hown hg hb2,Blk.app hown h.mp hg (by decide),Blk.app hown h.res hg (by decide),Blk.app hown h.box hg (by decide)⟩
theorem PoC.set (h : PoC w W g sB L k pb rb mc box) (h1 : g < w.heap.size) (h2 : w.heap.size < rb) (h3 : rb < pb) (i : Nat) (u : Value) : PoC w (W.setCell ⟨pb,i,none⟩ u) g sB L k pb rb mc (box.setIfInBounds i u) :=
 ⟨h.s.set (by simp; omega) _,grown_set_new h.gr (by simp; omega) _,h.mp.past pb i u (by omega),h.res.past pb i u (by omega),h.box.poke i u⟩
end
set_option maxHeartbeats 4000000 in
set_option maxRecDepth 100000 in
theorem pointOf_ex (g N lo ca cd : Nat) (L : List Int) (A : Option Addr) (rs : List RoomE) (D : Option Addr) (ds : List DoorE) (st gl : List UInt8) (w : World) (hs : StrE w g sB L N) (hN : N < 4611686018427360000) (hA : MapW w lo A rs D ds) (hg : g < lo) (hr0 : 0 < rs.length) (hKl : (onceT (allT rs ds)).length ≤ 1000) :
  Calls Tryz.prog 6 #[.pointer (some ⟨g,0,none⟩),mapV A rs ca D ds cd st gl] w (PoX w g sB L N (rs.map RoomE.key) (onceT (allT rs ds))):=by
 have hlt:=hs.lt
 have hrl:=hA.s.rl
 have hs0:=(hs.alloc (.cells #[.slice A rs.length ca,.slice D ds.length cd,.string ⟨st.toArray⟩,.string ⟨gl.toArray⟩] 29)).alloc (.cells #[.string ⟨#[]⟩,.slice none 0 0] 34)
 have hgr0 : w.grownBy ((w.alloc (.cells #[.slice A rs.length ca,.slice D ds.length cd,.string ⟨st.toArray⟩,.string ⟨gl.toArray⟩] 29)).alloc (.cells #[.string ⟨#[]⟩,.slice none 0 0] 34)) (some g):=grown_alloc (World.grownBy_alloc _ _ _) _
 have hmp0 : Blk ((w.alloc (.cells #[.slice A rs.length ca,.slice D ds.length cd,.string ⟨st.toArray⟩,.string ⟨gl.toArray⟩] 29)).alloc (.cells #[.string ⟨#[]⟩,.slice none 0 0] 34)) w.heap.size 29 #[.slice A rs.length ca,.slice D ds.length cd,.string ⟨st.toArray⟩,.string ⟨gl.toArray⟩]:=(Blk.new _ _ _).alloc _
 have hre0 : Blk ((w.alloc (.cells #[.slice A rs.length ca,.slice D ds.length cd,.string ⟨st.toArray⟩,.string ⟨gl.toArray⟩] 29)).alloc (.cells #[.string ⟨#[]⟩,.slice none 0 0] 34)) (w.heap.size + 1) 34 #[.string ⟨#[]⟩,.slice none 0 0]:=Blk.at_ _ (by simp)
 have hz0 : ((w.alloc (.cells #[.slice A rs.length ca,.slice D ds.length cd,.string ⟨st.toArray⟩,.string ⟨gl.toArray⟩] 29)).alloc (.cells #[.string ⟨#[]⟩,.slice none 0 0] 34)).heap.size = w.heap.size + 2:=by simp
 have HMA:=Lib.hid hA
 clear hA
 unfold mapV
 simp only [encStr]
 go_enter Tryz.func6,Tryz.ntmps6
 go_wp2_with fail
 generalize ((w.alloc (.cells #[.slice A rs.length ca,.slice D ds.length cd,.string ⟨st.toArray⟩,.string ⟨gl.toArray⟩] 29)).alloc (.cells #[.string ⟨#[]⟩,.slice none 0 0] 34)) = w0 at *
 have hbn : Blk (w0.alloc (.cells #[.string ⟨#[114,97]⟩,.string ⟨#[114,98]⟩,.string ⟨#[122,122]⟩] 9)) (w.heap.size + 2) 9 #[.string ⟨#[114,97]⟩,.string ⟨#[114,98]⟩,.string ⟨#[122,122]⟩]:=Blk.at_ _ hz0
 refine (some_litX g _ (w.heap.size + 2) #[.string ⟨#[114,97]⟩,.string ⟨#[114,98]⟩,.string ⟨#[122,122]⟩] [[114,97],[114,98],[122,122]] _ (hs0.alloc _) (by omega) hbn rfl (by omega) (by simp) (by simp)).mono ?_
 rintro e w1 ⟨r0,rfl,hr,hs1,hg1⟩
 have HR0:=Lib.hid hr.2
 have hg01:=grown_trans' (World.grownBy_alloc w0 (.cells #[.string ⟨#[114,97]⟩,.string ⟨#[114,98]⟩,.string ⟨#[122,122]⟩] 9) (some g)) hg1
 have hc : PoC w (w1.alloc (.cells #[.string ⟨r0.toArray⟩,.slice none 0 0] 34)) g sB L (N + 1) w1.heap.size (w.heap.size + 1) #[.slice A rs.length ca,.slice D ds.length cd,.string ⟨st.toArray⟩,.string ⟨gl.toArray⟩] #[.string ⟨r0.toArray⟩,.slice none 0 0]:=⟨hs1.alloc _,grown_alloc (grown_trans' hgr0 hg01) _,(hmp0.grown hg01 (by omega)).alloc _,(hre0.grown hg01 (by omega)).alloc _,Blk.new _ _ _⟩
 have hpb : w.heap.size + 1 < w1.heap.size:=by have:=hg01.size; omega
 clear hs0 hgr0 hmp0 hre0 hz0 hr hs1 hg1 hg01 hbn
 have HR1:=Lib.hid hr0
 have hpos : (0 : Int) < (rs.length : Int):=by omega
 have m0:=hc.mp.cell 0
 simp only [Q0,Q2] at m0
 go_wp2_with fail
 refine (flip_exx g _ L 15 _ hc.s (by omega) (by omega)).mono ?_
 rintro e w2 ⟨r2,rfl,⟨hs2,HF1⟩,hg2⟩
 replace hc:=hc.str hlt (by omega) hpb hs2 hg2
 clear hs2 hg2 m0
 go_upto_if 20 with (fail)
 go_cut [] from 21 to 31 (fun wx => ∃ (room : List UInt8) (k1 : Nat),PoC w wx g sB L k1 w1.heap.size (w.heap.size + 1) #[.slice A rs.length ca,.slice D ds.length cd,.string ⟨st.toArray⟩,.string ⟨gl.toArray⟩] #[.string ⟨room.toArray⟩,.slice none 0 0] ∧ Hid (poRoom L N (rs.map RoomE.key) = (room,k1)) ∧ k1 ≤ N + 3)
 case first =>
  cases r2
  ·obtain ⟨rb,ro,rfl,-,-⟩:=HMA.out.room hr0
   go_upto_region 3 with (fail)
   replace hc:=hc.below (below_drewN' (Below.refl _ _) 1)
   refine wp_region_held_drew (S:=(fun w' => w'.cell? ⟨w.heap.size,0,none⟩ = some (.slice (some ⟨rb,ro,none⟩) rs.length ca))) (by kernel_rfl) (hc.mp.cell 0) (fun hHeld => ?_)
   (refine QT (i:=0) (v:=?_) (by (simp only [Q0,Q2]; rfl)) (by kernel_rfl) (by exact fun _ _ _ h => h) (by rfl) ?_ (by assumption) ?_; (rotate_left 1; (intro w hSw; (try dsimp only at hSw); go_simp); (try with_reducible rfl)); (try simp only [Act.put,Q3,Q4,Q5]))
   (refine QT (i:=1) (v:=?_) (by (simp only [Q0,Q1,Q2]; rfl)) (by kernel_rfl) (by exact fun _ _ _ h => h) (by rfl) ?_ (by assumption) ?_; (rotate_left 1; (intro w hSw; (try dsimp only at hSw); go_simp); (try with_reducible rfl)); (try simp only [Act.put,Q3,Q4,Q5]))
   (refine QT (i:=2) (v:=?_) (by (simp only [Q0,Q1,Q2]; rfl)) (by kernel_rfl) (by exact fun _ _ _ h => h) (by rfl) ?_ (by assumption) ?_; (rotate_left 1; (intro w hSw; (try dsimp only at hSw); go_simp); (try with_reducible rfl)); (try simp only [Act.put,Q3,Q4,Q5]))
   (refine QT (i:=3) (v:=?_) (by (simp only [Q0,Q1,Q2]; rfl)) (by kernel_rfl) (by exact fun _ _ _ h => h) (by rfl) ?_ (by assumption) ?_; (rotate_left 1; (intro w hSw; (try dsimp only at hSw); go_simp); (try with_reducible rfl)); (try simp only [Act.put,Q3,Q4,Q5]))
   (refine QT (i:=4) (v:=?_) (by (simp only [Q0,Q1,Q2]; rfl)) (by kernel_rfl) (by exact fun _ _ _ h => h) (by rfl) ?_ (by assumption) ?_; (rotate_left 1; (intro w hSw; (try dsimp only at hSw); go_simp); (try with_reducible rfl)); (try simp only [Act.put,Q3,Q4,Q5]))
   (refine QT (i:=5) (v:=?_) (by (simp only [Q0,Q1,Q2]; rfl)) (by kernel_rfl) (by exact fun _ _ _ h => h) (by rfl) ?_ (by assumption) ?_; (rotate_left 1; (intro w hSw; (try dsimp only at hSw); go_simp); (try with_reducible rfl)); (try simp only [Act.put,Q3,Q4,Q5]))
   refine wpAnyH_ready (rs:=[6]) (by kernel_rfl) (by simp) ?_
   refine AllReadyH.cons rfl (fun K hK => ?_) AllReadyH.nil
   go_simp
   go_at_call 26
   refine (next_exx g _ L _ _ hc.s (by omega) (by omega)).mono ?_
   rintro e w4 ⟨r4,rfl,h40,h41,-,⟨hs4,HN4⟩,hg4⟩
   have h42:=h41 (by omega)
   obtain ⟨k,rfl⟩:=Int.eq_ofNat_of_zero_le h40
   replace hc:=hc.str hlt (by omega) hpb hs4 hg4
   have hk : k < rs.length:=by omega
   clear h41 hs4 hg4
   go_wp2_with fail
   refine hK.out _ _ (hc.mp.cell 0) (fun hHeld => ?_)
   clear hK K
   (try simp only [Act.put,Q3,Q4,Q5])
   (refine QT (i:=7) (v:=?_) (by (simp only [Q0,Q1,Q2]; rfl)) (by kernel_rfl) (by exact fun _ _ _ h => h) (by rfl) ?_ (by assumption) ?_; (rotate_left 1; (intro w hSw; (try dsimp only at hSw); go_simp); (try with_reducible rfl)); (try simp only [Act.put,Q3,Q4,Q5]))
   (refine QT (i:=8) (v:=?_) (by (simp only [Q0,Q1,Q2]; rfl)) (by kernel_rfl) (by exact fun _ _ _ h => h) (by rfl) ?_ (by assumption) ?_; (rotate_left 1; (intro w hSw; (try dsimp only at hSw); go_simp); (try with_reducible rfl)); (try simp only [Act.put,Q3,Q4,Q5]))
   refine wpAnyH_ready (rs:=[9]) (by kernel_rfl) (by simp) ?_
   refine AllReadyH.cons rfl (fun K hK => ?_) AllReadyH.nil
   obtain ⟨b',off',he,-,hcell⟩:=(HMA.out.grown hc.gr hg).room hr0
   injection he with he
   injection he with e1 e2
   subst e1 e2
   have y0:=(hcell k hk).1
   simp only [encStr] at y0
   clear hcell
   go_simp
   refine hK.out _ _ (hc.mp.cell 0) (fun hHeld => ?_)
   clear hK K
   (try simp only [Act.put,Q3,Q4,Q5])
   (refine QT (i:=10) (v:=?_) (by (simp only [Q0,Q1,Q2]; rfl)) (by kernel_rfl) (by exact fun _ _ _ h => h) (by rfl) ?_ (by assumption) ?_; (rotate_left 1; (intro w hSw; (try dsimp only at hSw); go_simp); (try with_reducible rfl)); (try simp only [Act.put,Q3,Q4,Q5]))
   refine wpAnyH_ready (rs:=[11]) (by kernel_rfl) (by simp) ?_
   refine AllReadyH.cons rfl (fun K hK => ?_) AllReadyH.nil
   have p0:=hc.box.cell 0
   simp only [Q0,Q2] at p0
   have f0:=hc.box.thaw 0
   have zb:=hc.box.lt
   go_simp
   have hc:=hc.set hlt (by omega) hpb 0 (.string ⟨rs[k].key.toArray⟩)
   refine hK.out _ _ (hc.mp.cell 0) (fun hHeld => ?_)
   clear hK K
   (try simp only [Act.put,Q3,Q4,Q5])
   refine wpAnyH_done (by kernel_rfl) ?_ _
   go_wp2_with fail
   go_meet
   exact ⟨rs[k].key,N + 3,by simpa using hc,Lib.hid (by unfold poRoom; rw [if_neg (of_decide_eq_false HF1.out),List.length_map,HN4.out,Int.toNat_natCast,List.getD_eq_getElem?_getD,List.getElem?_map,List.getElem?_eq_getElem hk]; rfl),by omega⟩

  ·go_wp2_with fail
   go_meet
   exact ⟨r0,N + 2,hc,Lib.hid (by unfold poRoom; rw [if_pos (of_decide_eq_true HF1.out),HR0.out]),by omega⟩
 case rest =>
  obtain ⟨room,k1,hc,HPR,hk1⟩:=hcut
  clear HF1 HR0
  obtain ⟨m0,m1,m2,m3⟩ : _ ∧ _ ∧ _ ∧ _:=⟨hc.mp.cell 0,hc.mp.cell 1,hc.mp.cell 2,hc.mp.cell 3⟩
  simp only [Q0,Q2,Q1] at m0 m1 m2 m3
  go_wp2_with fail
  clear m0 m1 m2 m3
  have hrt:=rThings_any lo ca cd A rs D ds st gl wc (HMA.out.grown hc.gr hg)
  unfold mapV at hrt
  simp only [encStr] at hrt
  refine hrt.mono ?_
  rintro e w5 ⟨A2,c2,rfl,ho2,hb2⟩
  clear hrt
  generalize onceT (allT rs ds) = K at *
  have hrow2:=Row.of_own ho2
  have HA2 : Hid (∀ a,A2 = some a → a.block < w5.heap.size):=Lib.hid (fun a ha => by subst ha; exact (ho2.lt a.block rfl).2)
  have hpc:=hc.box.lt
  replace hc:=hc.below hb2
  have hz5 : wc.heap.size ≤ w5.heap.size:=hb2.size
  generalize w1.heap.size = pb at *
  clear ho2 hb2
  go_wp2_with fail
  go_loopw [35] (fun i wr => ∃ (k : Nat) (A6 : Option Addr) (c6 : Nat) (l : List (List UInt8)),k ≤ K.length ∧ i = .int .i64 k ∧ PoC w wr g sB L (k1 + k) pb (w.heap.size + 1) #[.slice A rs.length ca,.slice D ds.length cd,.string ⟨st.toArray⟩,.string ⟨gl.toArray⟩] #[.string ⟨room.toArray⟩,.slice A6 l.length c6] ∧ wr.ownsRow w5.heap.size 9 1 (.slice A6 l.length c6) l.length (strs l) ∧ l.length ≤ k ∧ Hid (flR L 3 true K k1 = l ++ flR L 3 true (K.drop k) (k1 + k)) ∧ Row wr wc.heap.size 1 A2 K.length (strs K) ∧ w5.heap.size ≤ wr.heap.size) (fun i _ => K.length - (intOf i).toNat)
  case atStart => exact ⟨0,none,0,[],by omega,rfl,hc,World.ownsRow_nil _ _ _ _,by simp,Lib.hid (fl_start L 3 true K k1),hrow2,Nat.le_refl _⟩
  case round =>
   clear hrow2 hc
   obtain ⟨k,A6,c6,l,hk,rfl,hc,hown,hlk,HTF,hrow,hzw⟩:=hrel
   by_cases hkn : k < K.length
   ·obtain ⟨b,off,rfl,hbs,hcell⟩:=strs_at hrow hkn
    have y0:=hcell k hkn
    have HDR : Hid (K.drop k = K[k] :: K.drop (k + 1)):=Lib.hid (List.drop_eq_getElem_cons hkn)
    clear hcell
    generalize K[k] = x at *
    simp only [encStr] at y0
    go_wp2_with fail
    refine (flip_exx g _ L 3 _ hc.s (by omega) (by omega)).mono ?_
    rintro e w2 ⟨r2,rfl,⟨hs2,HFL⟩,hg2⟩
    have hc2:=hc.str hlt (by omega) hpb hs2 hg2
    have hown2:=own_grown hown hg2 (by omega)
    have hrow2:=hrow.grown hg2 (by omega)
    have hzw2 : w5.heap.size ≤ w2.heap.size:=Nat.le_trans hzw hg2.size
    clear y0 hown hrow hg2 hc hs2
    cases r2
    ·go_wp2_with fail
     go_roundw
     case rel => exact ⟨k + 1,A6,c6,l,by omega,by go_num,hc2,hown2,by omega,Lib.hid (fl_no HTF.out HDR.out HFL.out (by decide)),hrow2,hzw2⟩
     case measure => simp [intOf]; omega
    ·have b1:=hc2.box.cell 1
     simp only [Q0,Q2,Q1] at b1
     go_wp2_with (at_builtin; go_must (refine wpList_app (lo:=w5.heap.size) (base:=w5.heap.size) (n:=l.length) (xs:=strs l) _ _ rfl _ _ ty_strs rfl (by repeat (first | exact hown2 | refine World.ownsRow.alloc ?_ _ | refine own_drewN ?_ _ | refine World.ownsRow.drew ?_)) rfl (by first | exact row_new' _ (by first | rfl | simp) (by first | omega | (simp; omega)) rfl | exact row_newN _ _ (by first | rfl | simp) (by first | omega | (simp; omega)) rfl | exact row_newD _ (by first | rfl | simp) (by first | omega | (simp; omega)) rfl) rfl rfl (by first | omega | decide) (by first | omega | decide) (by first | omega | (simp; omega)) ?_))
     intro A7 c7 w6 hown6 hg6 _
     have hown6 : w6.ownsRow w5.heap.size 9 1 (.slice A7 (l ++ [x]).length c7) (l ++ [x]).length (strs (l ++ [x])):=by simpa [strs,encStr] using hown6
     have hc6:=(hc2.alloc (.cells #[.string ⟨x.toArray⟩] 9)).app (hown2.alloc _) hg6 (by omega) (by omega)
     have hrow6:=(hrow2.alloc (.cells #[.string ⟨x.toArray⟩] 9)).grownB HA2.out hg6 (fun q hq => ((hown2.alloc (.cells #[.string ⟨x.toArray⟩] 9)).lt q hq).1)
     have hzw6 : w5.heap.size ≤ w6.heap.size:=by have:=hg6.size; simp at this; omega
     clear b1 hown2 hg6 hrow2 hc2
     have b1:=hc6.box.cell 1
     simp only [Q0,Q2,Q1] at b1
     have f1:=hc6.box.thaw 1
     have zb:=hc6.box.lt
     have HC7:=Lib.hid (hc6.set hlt (by omega) hpb 1 (.slice A7 (l.length + 1) c7))
     have HO7:=Lib.hid (own_past hown6 hc6.box (by decide) 1 (.slice A7 (l.length + 1) c7))
     have HR7:=Lib.hid (hrow6.set_low pb 1 (.slice A7 (l.length + 1) c7) hpc)
     clear hown6 hrow6 hc6
     go_wp2_with fail
     go_roundw
     case rel => exact ⟨k + 1,A7,c7,l ++ [x],by omega,by go_num,by have h:=HC7.out; rw [Nat.add_assoc k1 k 1] at h; simpa using h,by simpa using HO7.out,by simp; omega,Lib.hid (fl_yes HTF.out HDR.out HFL.out rfl),HR7.out,by simpa using hzw6⟩
     case measure => simp [intOf]; omega
   ·have hke : k = K.length:=by omega
    have HTE:=Lib.hid (fl_end HTF.out hke)
    rw [hke] at hc
    clear HTF hke hrow
    replace hown:=own_weak hown (show w.heap.size ≤ w5.heap.size by omega)
    go_wp2_with fail
    refine (flip_exx g _ L 20 _ hc.s (by omega) (by omega)).mono ?_
    rintro e w2 ⟨r2,rfl,⟨hs2,HFL⟩,hg2⟩
    replace hc:=hc.str hlt (by omega) hpb hs2 hg2
    replace hown:=own_grown hown hg2 (by omega)
    clear hs2 hg2
    cases r2
    ·obtain ⟨b0,b1⟩ : _ ∧ _:=⟨hc.box.cell 0,hc.box.cell 1⟩
     obtain ⟨q0,q1⟩ : _ ∧ _:=⟨hc.res.cell 0,hc.res.cell 1⟩
     simp only [Q0,Q2,Q1] at b0 b1 q0 q1
     have f0:=hc.res.thaw 0
     have f1:=hc.res.thaw 1
     have zr:=hc.res.lt
     have hz:=(hc.res.poke 0 (.string ⟨room.toArray⟩)).poke 1 (.slice A6 l.length c6)
     have HSF:=Lib.hid ((hc.s.set (p:=⟨w.heap.size + 1,0,none⟩) (by simp; omega) (.string ⟨room.toArray⟩)).set (p:=⟨w.heap.size + 1,1,none⟩) (by simp; omega) (.slice A6 l.length c6))
     have HGF:=Lib.hid (grown_set_new (grown_set_new hc.gr (p:=⟨w.heap.size + 1,0,none⟩) (by simp) (.string ⟨room.toArray⟩)) (p:=⟨w.heap.size + 1,1,none⟩) (by simp) (.slice A6 l.length c6))
     have HOF:=Lib.hid (own_past (own_past hown hc.res (by decide) 0 (.string ⟨room.toArray⟩)) (hc.res.poke 0 (.string ⟨room.toArray⟩)) (by decide) 1 (.slice A6 l.length c6))
     clear hc hown
     go_wp2_with fail
     refine bodyPost_ret (res_ptX _ 4 _ _ (w.heap.size + 1) room A6 (l.length) c6 (by kernel_rfl) rfl (hz.cell 0) (hz.cell 1)) rfl ?_
     exact ⟨room,A6,c6,l,_,by first | rfl | simp,by simpa using HOF.out,by first | omega | (simp; omega),by unfold poEnd; rw [HPR.out]; simp only; rw [if_neg (of_decide_eq_false HFL.out),HTE.out],by omega,HSF.out,HGF.out⟩

    ·go_upto_region 11 with (fail)
     replace hc:=hc.below (below_drewN' (Below.refl _ _) 1)
     replace hown:=own_keep hown (below_drewN' (Below.refl _ _) 1)
     have hX : w2.drewN 1 = w2.drew:=rfl
     rw [hX] at hc hown
     refine wp_region_held_drew (S:=(fun _ => True)) (by kernel_rfl) (trivial) (fun hHeld => ?_)
     generalize w2.drew = X at *
     (refine QT (i:=0) (v:=?_) (by (simp only [Q0,Q2]; rfl)) (by kernel_rfl) (by exact fun _ _ _ h => h) (by rfl) ?_ (by assumption) ?_; (rotate_left 1; (intro w hSw; (try dsimp only at hSw); go_simp); (try with_reducible rfl)); (try simp only [Act.put,Q3,Q4,Q5]))
     (refine QT (i:=2) (v:=?_) (by (simp only [Q0,Q1,Q2]; rfl)) (by kernel_rfl) (by exact fun _ _ _ h => h) (by rfl) ?_ (by assumption) ?_; (rotate_left 1; (intro w hSw; (try dsimp only at hSw); go_simp); (try with_reducible rfl)); (try simp only [Act.put,Q3,Q4,Q5]))
     refine wpAnyH_ready (rs:=[1,3]) (by kernel_rfl) (by simp) ?_
     refine AllReadyH.cons rfl (fun K hK => ?_) (AllReadyH.cons rfl (fun K hK => ?_) AllReadyH.nil)
     case refine_1 =>
      have b1:=hc.box.cell 1
      simp only [Q0,Q2,Q1] at b1
      go_simp
      refine hK.out _ _ (trivial) (fun hHeld => ?_)
      clear hK K
      (try simp only [Act.put,Q3,Q4,Q5])
      refine wpAnyH_ready (rs:=[3]) (by kernel_rfl) (by simp) ?_
      refine AllReadyH.cons rfl (fun K hK => ?_) AllReadyH.nil
      go_simp
      have hL : Blk (X.alloc (.cells #[.string ⟨#[122,97,112]⟩,.string ⟨#[]⟩,.string ⟨#[103,117,110]⟩] 9)) X.heap.size 9 #[.string ⟨#[122,97,112]⟩,.string ⟨#[]⟩,.string ⟨#[103,117,110]⟩]:=Blk.new _ _ _
      have hgX : g < X.heap.size:=hc.s.lt
      replace hc:=hc.alloc (.cells #[.string ⟨#[122,97,112]⟩,.string ⟨#[]⟩,.string ⟨#[103,117,110]⟩] 9)
      replace hown:=hown.alloc (.cells #[.string ⟨#[122,97,112]⟩,.string ⟨#[]⟩,.string ⟨#[103,117,110]⟩] 9)
      refine hK.out _ _ (trivial) (fun hHeld => ?_)
      clear hK K
      (try simp only [Act.put,Q3,Q4,Q5])
      refine wpAnyH_ready (rs:=[4]) (by kernel_rfl) (by simp) ?_
      refine AllReadyH.cons rfl (fun K hK => ?_) AllReadyH.nil
      go_simp
      go_at_call 22
      refine (some_litX g _ X.heap.size #[.string ⟨#[122,97,112]⟩,.string ⟨#[]⟩,.string ⟨#[103,117,110]⟩] [[122,97,112],[],[103,117,110]] _ hc.s (by omega) hL rfl hgX (by simp) (by simp)).mono ?_
      rintro e w8 ⟨z,rfl,hzz,hs8,hg8⟩
      have HZ:=Lib.hid hzz.2
      replace hc:=hc.str hlt (by omega) hpb hs8 hg8
      replace hown:=own_grown hown hg8 (by omega)
      clear hL hs8 hg8 hzz
      go_wp2_with fail
      refine hK.out _ _ (trivial) (fun hHeld => ?_)
      clear hK K
      (try simp only [Act.put,Q3,Q4,Q5])
      refine wpAnyH_ready (rs:=[5]) (by kernel_rfl) (by simp) ?_
      refine AllReadyH.cons rfl (fun K hK => ?_) AllReadyH.nil
      go_simp
      have hL : Blk (w8.alloc (.cells #[.string ⟨z.toArray⟩] 9)) w8.heap.size 9 #[.string ⟨z.toArray⟩]:=Blk.new _ _ _
      replace hc:=hc.alloc (.cells #[.string ⟨z.toArray⟩] 9)
      replace hown:=hown.alloc (.cells #[.string ⟨z.toArray⟩] 9)
      refine hK.out _ _ (trivial) (fun hHeld => ?_)
      clear hK K
      (try simp only [Act.put,Q3,Q4,Q5])
      refine wpAnyH_ready (rs:=[6]) (by kernel_rfl) (by simp) ?_
      refine AllReadyH.cons rfl (fun K hK => ?_) AllReadyH.nil
      refine step_app (lo:=0) (base:=w.heap.size) (n:=l.length) (xs:=strs l) _ rfl _ _ ty_strs rfl hown rfl (Row.lit hL (Nat.zero_le _) rfl : Row _ 0 1 _ 1 _) rfl rfl (by omega) (by omega) hc.gr.size ?_
      intro A8 c8 w9 hown8 hg8 _
      replace hc:=hc.app hown hg8 (by omega) (by omega)
      replace hown : w9.ownsRow w.heap.size 9 1 (.slice A8 (l ++ [z]).length c8) (l ++ [z]).length (strs (l ++ [z])):=by simpa [strs,encStr] using hown8
      clear hown8 hg8 hL
      refine hK.out _ _ (trivial) (fun hHeld => ?_)
      clear hK K
      (try simp only [Act.put,Q3,Q4,Q5])
      (refine QT (i:=7) (v:=?_) (by (simp only [Q0,Q1,Q2]; rfl)) (by kernel_rfl) (by exact fun _ _ _ h => h) (by rfl) ?_ (by assumption) ?_; (rotate_left 1; (intro w hSw; (try dsimp only at hSw); go_simp); (try with_reducible rfl)); (try simp only [Act.put,Q3,Q4,Q5]))
      refine wpAnyH_ready (rs:=[8]) (by kernel_rfl) (by simp) ?_
      refine AllReadyH.cons rfl (fun K hK => ?_) AllReadyH.nil
      have b1:=hc.box.cell 1
      simp only [Q0,Q2,Q1] at b1
      have f1:=hc.box.thaw 1
      have zb:=hc.box.lt
      go_simp
      replace hown:=own_past hown hc.box (by decide) 1 (.slice A8 (l.length + 1) c8)
      replace hc:=hc.set hlt (by omega) hpb 1 (.slice A8 (l.length + 1) c8)
      clear b1 f1 zb
      refine hK.out _ _ (trivial) (fun hHeld => ?_)
      clear hK K
      (try simp only [Act.put,Q3,Q4,Q5])
      refine wpAnyH_done (by kernel_rfl) ?_ _
      simp only [Q3,Q4,Q5] at hc
      obtain ⟨b0,b1⟩ : _ ∧ _:=⟨hc.box.cell 0,hc.box.cell 1⟩
      obtain ⟨q0,q1⟩ : _ ∧ _:=⟨hc.res.cell 0,hc.res.cell 1⟩
      simp only [Q0,Q2,Q1] at b0 b1 q0 q1
      have f0:=hc.res.thaw 0
      have f1:=hc.res.thaw 1
      have zr:=hc.res.lt
      have hz:=(hc.res.poke 0 (.string ⟨room.toArray⟩)).poke 1 (.slice A8 (l.length + 1) c8)
      have HSF:=Lib.hid ((hc.s.set (p:=⟨w.heap.size + 1,0,none⟩) (by simp; omega) (.string ⟨room.toArray⟩)).set (p:=⟨w.heap.size + 1,1,none⟩) (by simp; omega) (.slice A8 (l.length + 1) c8))
      have HGF:=Lib.hid (grown_set_new (grown_set_new hc.gr (p:=⟨w.heap.size + 1,0,none⟩) (by simp) (.string ⟨room.toArray⟩)) (p:=⟨w.heap.size + 1,1,none⟩) (by simp) (.slice A8 (l.length + 1) c8))
      have HOF:=Lib.hid (own_past (own_past hown hc.res (by decide) 0 (.string ⟨room.toArray⟩)) (hc.res.poke 0 (.string ⟨room.toArray⟩)) (by decide) 1 (.slice A8 (l.length + 1) c8))
      clear hc hown
      go_wp2_with fail
      refine bodyPost_ret (res_ptX _ 4 _ _ (w.heap.size + 1) room A8 ((l.length + 1)) c8 (by kernel_rfl) rfl (hz.cell 0) (hz.cell 1)) rfl ?_
      exact ⟨room,A8,c8,(l ++ [z]),_,by first | rfl | simp,by simpa using HOF.out,by first | omega | (simp; omega),by unfold poEnd; rw [HPR.out]; simp only; rw [if_pos (of_decide_eq_true HFL.out),HTE.out,HZ.out],by omega,HSF.out,HGF.out⟩
     case refine_2 =>
      go_simp
      have hL : Blk (X.alloc (.cells #[.string ⟨#[122,97,112]⟩,.string ⟨#[]⟩,.string ⟨#[103,117,110]⟩] 9)) X.heap.size 9 #[.string ⟨#[122,97,112]⟩,.string ⟨#[]⟩,.string ⟨#[103,117,110]⟩]:=Blk.new _ _ _
      have hgX : g < X.heap.size:=hc.s.lt
      replace hc:=hc.alloc (.cells #[.string ⟨#[122,97,112]⟩,.string ⟨#[]⟩,.string ⟨#[103,117,110]⟩] 9)
      replace hown:=hown.alloc (.cells #[.string ⟨#[122,97,112]⟩,.string ⟨#[]⟩,.string ⟨#[103,117,110]⟩] 9)
      refine hK.out _ _ (trivial) (fun hHeld => ?_)
      clear hK K
      (try simp only [Act.put,Q3,Q4,Q5])
      refine wpAnyH_ready (rs:=[1,4]) (by kernel_rfl) (by simp) ?_
      refine AllReadyH.cons rfl (fun K hK => ?_) (AllReadyH.cons rfl (fun K hK => ?_) AllReadyH.nil)
      case refine_1 =>
       have b1:=hc.box.cell 1
       simp only [Q0,Q2,Q1] at b1
       go_simp
       refine hK.out _ _ (trivial) (fun hHeld => ?_)
       clear hK K
       (try simp only [Act.put,Q3,Q4,Q5])
       refine wpAnyH_ready (rs:=[4]) (by kernel_rfl) (by simp) ?_
       refine AllReadyH.cons rfl (fun K hK => ?_) AllReadyH.nil
       go_simp
       go_at_call 22
       refine (some_litX g _ X.heap.size #[.string ⟨#[122,97,112]⟩,.string ⟨#[]⟩,.string ⟨#[103,117,110]⟩] [[122,97,112],[],[103,117,110]] _ hc.s (by omega) hL rfl hgX (by simp) (by simp)).mono ?_
       rintro e w8 ⟨z,rfl,hzz,hs8,hg8⟩
       have HZ:=Lib.hid hzz.2
       replace hc:=hc.str hlt (by omega) hpb hs8 hg8
       replace hown:=own_grown hown hg8 (by omega)
       clear hL hs8 hg8 hzz
       go_wp2_with fail
       refine hK.out _ _ (trivial) (fun hHeld => ?_)
       clear hK K
       (try simp only [Act.put,Q3,Q4,Q5])
       refine wpAnyH_ready (rs:=[5]) (by kernel_rfl) (by simp) ?_
       refine AllReadyH.cons rfl (fun K hK => ?_) AllReadyH.nil
       go_simp
       have hL : Blk (w8.alloc (.cells #[.string ⟨z.toArray⟩] 9)) w8.heap.size 9 #[.string ⟨z.toArray⟩]:=Blk.new _ _ _
       replace hc:=hc.alloc (.cells #[.string ⟨z.toArray⟩] 9)
       replace hown:=hown.alloc (.cells #[.string ⟨z.toArray⟩] 9)
       refine hK.out _ _ (trivial) (fun hHeld => ?_)
       clear hK K
       (try simp only [Act.put,Q3,Q4,Q5])
       refine wpAnyH_ready (rs:=[6]) (by kernel_rfl) (by simp) ?_
       refine AllReadyH.cons rfl (fun K hK => ?_) AllReadyH.nil
       refine step_app (lo:=0) (base:=w.heap.size) (n:=l.length) (xs:=strs l) _ rfl _ _ ty_strs rfl hown rfl (Row.lit hL (Nat.zero_le _) rfl : Row _ 0 1 _ 1 _) rfl rfl (by omega) (by omega) hc.gr.size ?_
       intro A8 c8 w9 hown8 hg8 _
       replace hc:=hc.app hown hg8 (by omega) (by omega)
       replace hown : w9.ownsRow w.heap.size 9 1 (.slice A8 (l ++ [z]).length c8) (l ++ [z]).length (strs (l ++ [z])):=by simpa [strs,encStr] using hown8
       clear hown8 hg8 hL
       refine hK.out _ _ (trivial) (fun hHeld => ?_)
       clear hK K
       (try simp only [Act.put,Q3,Q4,Q5])
       (refine QT (i:=7) (v:=?_) (by (simp only [Q0,Q1,Q2]; rfl)) (by kernel_rfl) (by exact fun _ _ _ h => h) (by rfl) ?_ (by assumption) ?_; (rotate_left 1; (intro w hSw; (try dsimp only at hSw); go_simp); (try with_reducible rfl)); (try simp only [Act.put,Q3,Q4,Q5]))
       refine wpAnyH_ready (rs:=[8]) (by kernel_rfl) (by simp) ?_
       refine AllReadyH.cons rfl (fun K hK => ?_) AllReadyH.nil
       have b1:=hc.box.cell 1
       simp only [Q0,Q2,Q1] at b1
       have f1:=hc.box.thaw 1
       have zb:=hc.box.lt
       go_simp
       replace hown:=own_past hown hc.box (by decide) 1 (.slice A8 (l.length + 1) c8)
       replace hc:=hc.set hlt (by omega) hpb 1 (.slice A8 (l.length + 1) c8)
       clear b1 f1 zb
       refine hK.out _ _ (trivial) (fun hHeld => ?_)
       clear hK K
       (try simp only [Act.put,Q3,Q4,Q5])
       refine wpAnyH_done (by kernel_rfl) ?_ _
       simp only [Q3,Q4,Q5] at hc
       obtain ⟨b0,b1⟩ : _ ∧ _:=⟨hc.box.cell 0,hc.box.cell 1⟩
       obtain ⟨q0,q1⟩ : _ ∧ _:=⟨hc.res.cell 0,hc.res.cell 1⟩
       simp only [Q0,Q2,Q1] at b0 b1 q0 q1
       have f0:=hc.res.thaw 0
       have f1:=hc.res.thaw 1
       have zr:=hc.res.lt
       have hz:=(hc.res.poke 0 (.string ⟨room.toArray⟩)).poke 1 (.slice A8 (l.length + 1) c8)
       have HSF:=Lib.hid ((hc.s.set (p:=⟨w.heap.size + 1,0,none⟩) (by simp; omega) (.string ⟨room.toArray⟩)).set (p:=⟨w.heap.size + 1,1,none⟩) (by simp; omega) (.slice A8 (l.length + 1) c8))
       have HGF:=Lib.hid (grown_set_new (grown_set_new hc.gr (p:=⟨w.heap.size + 1,0,none⟩) (by simp) (.string ⟨room.toArray⟩)) (p:=⟨w.heap.size + 1,1,none⟩) (by simp) (.slice A8 (l.length + 1) c8))
       have HOF:=Lib.hid (own_past (own_past hown hc.res (by decide) 0 (.string ⟨room.toArray⟩)) (hc.res.poke 0 (.string ⟨room.toArray⟩)) (by decide) 1 (.slice A8 (l.length + 1) c8))
       clear hc hown
       go_wp2_with fail
       refine bodyPost_ret (res_ptX _ 4 _ _ (w.heap.size + 1) room A8 ((l.length + 1)) c8 (by kernel_rfl) rfl (hz.cell 0) (hz.cell 1)) rfl ?_
       exact ⟨room,A8,c8,(l ++ [z]),_,by first | rfl | simp,by simpa using HOF.out,by first | omega | (simp; omega),by unfold poEnd; rw [HPR.out]; simp only; rw [if_pos (of_decide_eq_true HFL.out),HTE.out,HZ.out],by omega,HSF.out,HGF.out⟩
      case refine_2 =>
       go_simp
       go_at_call 22
       refine (some_litX g _ X.heap.size #[.string ⟨#[122,97,112]⟩,.string ⟨#[]⟩,.string ⟨#[103,117,110]⟩] [[122,97,112],[],[103,117,110]] _ hc.s (by omega) hL rfl hgX (by simp) (by simp)).mono ?_
       rintro e w8 ⟨z,rfl,hzz,hs8,hg8⟩
       have HZ:=Lib.hid hzz.2
       replace hc:=hc.str hlt (by omega) hpb hs8 hg8
       replace hown:=own_grown hown hg8 (by omega)
       clear hL hs8 hg8 hzz
       go_wp2_with fail
       refine hK.out _ _ (trivial) (fun hHeld => ?_)
       clear hK K
       (try simp only [Act.put,Q3,Q4,Q5])
       refine wpAnyH_ready (rs:=[1,5]) (by kernel_rfl) (by simp) ?_
       refine AllReadyH.cons rfl (fun K hK => ?_) (AllReadyH.cons rfl (fun K hK => ?_) AllReadyH.nil)
       case refine_1 =>
        have b1:=hc.box.cell 1
        simp only [Q0,Q2,Q1] at b1
        go_simp
        refine hK.out _ _ (trivial) (fun hHeld => ?_)
        clear hK K
        (try simp only [Act.put,Q3,Q4,Q5])
        refine wpAnyH_ready (rs:=[5]) (by kernel_rfl) (by simp) ?_
        refine AllReadyH.cons rfl (fun K hK => ?_) AllReadyH.nil
        go_simp
        have hL : Blk (w8.alloc (.cells #[.string ⟨z.toArray⟩] 9)) w8.heap.size 9 #[.string ⟨z.toArray⟩]:=Blk.new _ _ _
        replace hc:=hc.alloc (.cells #[.string ⟨z.toArray⟩] 9)
        replace hown:=hown.alloc (.cells #[.string ⟨z.toArray⟩] 9)
        refine hK.out _ _ (trivial) (fun hHeld => ?_)
        clear hK K
        (try simp only [Act.put,Q3,Q4,Q5])
        refine wpAnyH_ready (rs:=[6]) (by kernel_rfl) (by simp) ?_
        refine AllReadyH.cons rfl (fun K hK => ?_) AllReadyH.nil
        refine step_app (lo:=0) (base:=w.heap.size) (n:=l.length) (xs:=strs l) _ rfl _ _ ty_strs rfl hown rfl (Row.lit hL (Nat.zero_le _) rfl : Row _ 0 1 _ 1 _) rfl rfl (by omega) (by omega) hc.gr.size ?_
        intro A8 c8 w9 hown8 hg8 _
        replace hc:=hc.app hown hg8 (by omega) (by omega)
        replace hown : w9.ownsRow w.heap.size 9 1 (.slice A8 (l ++ [z]).length c8) (l ++ [z]).length (strs (l ++ [z])):=by simpa [strs,encStr] using hown8
        clear hown8 hg8 hL
        refine hK.out _ _ (trivial) (fun hHeld => ?_)
        clear hK K
        (try simp only [Act.put,Q3,Q4,Q5])
        (refine QT (i:=7) (v:=?_) (by (simp only [Q0,Q1,Q2]; rfl)) (by kernel_rfl) (by exact fun _ _ _ h => h) (by rfl) ?_ (by assumption) ?_; (rotate_left 1; (intro w hSw; (try dsimp only at hSw); go_simp); (try with_reducible rfl)); (try simp only [Act.put,Q3,Q4,Q5]))
        refine wpAnyH_ready (rs:=[8]) (by kernel_rfl) (by simp) ?_
        refine AllReadyH.cons rfl (fun K hK => ?_) AllReadyH.nil
        have b1:=hc.box.cell 1
        simp only [Q0,Q2,Q1] at b1
        have f1:=hc.box.thaw 1
        have zb:=hc.box.lt
        go_simp
        replace hown:=own_past hown hc.box (by decide) 1 (.slice A8 (l.length + 1) c8)
        replace hc:=hc.set hlt (by omega) hpb 1 (.slice A8 (l.length + 1) c8)
        clear b1 f1 zb
        refine hK.out _ _ (trivial) (fun hHeld => ?_)
        clear hK K
        (try simp only [Act.put,Q3,Q4,Q5])
        refine wpAnyH_done (by kernel_rfl) ?_ _
        simp only [Q3,Q4,Q5] at hc
        obtain ⟨b0,b1⟩ : _ ∧ _:=⟨hc.box.cell 0,hc.box.cell 1⟩
        obtain ⟨q0,q1⟩ : _ ∧ _:=⟨hc.res.cell 0,hc.res.cell 1⟩
        simp only [Q0,Q2,Q1] at b0 b1 q0 q1
        have f0:=hc.res.thaw 0
        have f1:=hc.res.thaw 1
        have zr:=hc.res.lt
        have hz:=(hc.res.poke 0 (.string ⟨room.toArray⟩)).poke 1 (.slice A8 (l.length + 1) c8)
        have HSF:=Lib.hid ((hc.s.set (p:=⟨w.heap.size + 1,0,none⟩) (by simp; omega) (.string ⟨room.toArray⟩)).set (p:=⟨w.heap.size + 1,1,none⟩) (by simp; omega) (.slice A8 (l.length + 1) c8))
        have HGF:=Lib.hid (grown_set_new (grown_set_new hc.gr (p:=⟨w.heap.size + 1,0,none⟩) (by simp) (.string ⟨room.toArray⟩)) (p:=⟨w.heap.size + 1,1,none⟩) (by simp) (.slice A8 (l.length + 1) c8))
        have HOF:=Lib.hid (own_past (own_past hown hc.res (by decide) 0 (.string ⟨room.toArray⟩)) (hc.res.poke 0 (.string ⟨room.toArray⟩)) (by decide) 1 (.slice A8 (l.length + 1) c8))
        clear hc hown
        go_wp2_with fail
        refine bodyPost_ret (res_ptX _ 4 _ _ (w.heap.size + 1) room A8 ((l.length + 1)) c8 (by kernel_rfl) rfl (hz.cell 0) (hz.cell 1)) rfl ?_
        exact ⟨room,A8,c8,(l ++ [z]),_,by first | rfl | simp,by simpa using HOF.out,by first | omega | (simp; omega),by unfold poEnd; rw [HPR.out]; simp only; rw [if_pos (of_decide_eq_true HFL.out),HTE.out,HZ.out],by omega,HSF.out,HGF.out⟩
       case refine_2 =>
        go_simp
        have hL : Blk (w8.alloc (.cells #[.string ⟨z.toArray⟩] 9)) w8.heap.size 9 #[.string ⟨z.toArray⟩]:=Blk.new _ _ _
        replace hc:=hc.alloc (.cells #[.string ⟨z.toArray⟩] 9)
        replace hown:=hown.alloc (.cells #[.string ⟨z.toArray⟩] 9)
        refine hK.out _ _ (trivial) (fun hHeld => ?_)
        clear hK K
        (try simp only [Act.put,Q3,Q4,Q5])
        refine wpAnyH_ready (rs:=[1]) (by kernel_rfl) (by simp) ?_
        refine AllReadyH.cons rfl (fun K hK => ?_) AllReadyH.nil
        have b1:=hc.box.cell 1
        simp only [Q0,Q2,Q1] at b1
        go_simp
        refine hK.out _ _ (trivial) (fun hHeld => ?_)
        clear hK K
        (try simp only [Act.put,Q3,Q4,Q5])
        refine wpAnyH_ready (rs:=[6]) (by kernel_rfl) (by simp) ?_
        refine AllReadyH.cons rfl (fun K hK => ?_) AllReadyH.nil
        refine step_app (lo:=0) (base:=w.heap.size) (n:=l.length) (xs:=strs l) _ rfl _ _ ty_strs rfl hown rfl (Row.lit hL (Nat.zero_le _) rfl : Row _ 0 1 _ 1 _) rfl rfl (by omega) (by omega) hc.gr.size ?_
        intro A8 c8 w9 hown8 hg8 _
        replace hc:=hc.app hown hg8 (by omega) (by omega)
        replace hown : w9.ownsRow w.heap.size 9 1 (.slice A8 (l ++ [z]).length c8) (l ++ [z]).length (strs (l ++ [z])):=by simpa [strs,encStr] using hown8
        clear hown8 hg8 hL
        refine hK.out _ _ (trivial) (fun hHeld => ?_)
        clear hK K
        (try simp only [Act.put,Q3,Q4,Q5])
        (refine QT (i:=7) (v:=?_) (by (simp only [Q0,Q1,Q2]; rfl)) (by kernel_rfl) (by exact fun _ _ _ h => h) (by rfl) ?_ (by assumption) ?_; (rotate_left 1; (intro w hSw; (try dsimp only at hSw); go_simp); (try with_reducible rfl)); (try simp only [Act.put,Q3,Q4,Q5]))
        refine wpAnyH_ready (rs:=[8]) (by kernel_rfl) (by simp) ?_
        refine AllReadyH.cons rfl (fun K hK => ?_) AllReadyH.nil
        have b1:=hc.box.cell 1
        simp only [Q0,Q2,Q1] at b1
        have f1:=hc.box.thaw 1
        have zb:=hc.box.lt
        go_simp
        replace hown:=own_past hown hc.box (by decide) 1 (.slice A8 (l.length + 1) c8)
        replace hc:=hc.set hlt (by omega) hpb 1 (.slice A8 (l.length + 1) c8)
        clear b1 f1 zb
        refine hK.out _ _ (trivial) (fun hHeld => ?_)
        clear hK K
        (try simp only [Act.put,Q3,Q4,Q5])
        refine wpAnyH_done (by kernel_rfl) ?_ _
        simp only [Q3,Q4,Q5] at hc
        obtain ⟨b0,b1⟩ : _ ∧ _:=⟨hc.box.cell 0,hc.box.cell 1⟩
        obtain ⟨q0,q1⟩ : _ ∧ _:=⟨hc.res.cell 0,hc.res.cell 1⟩
        simp only [Q0,Q2,Q1] at b0 b1 q0 q1
        have f0:=hc.res.thaw 0
        have f1:=hc.res.thaw 1
        have zr:=hc.res.lt
        have hz:=(hc.res.poke 0 (.string ⟨room.toArray⟩)).poke 1 (.slice A8 (l.length + 1) c8)
        have HSF:=Lib.hid ((hc.s.set (p:=⟨w.heap.size + 1,0,none⟩) (by simp; omega) (.string ⟨room.toArray⟩)).set (p:=⟨w.heap.size + 1,1,none⟩) (by simp; omega) (.slice A8 (l.length + 1) c8))
        have HGF:=Lib.hid (grown_set_new (grown_set_new hc.gr (p:=⟨w.heap.size + 1,0,none⟩) (by simp) (.string ⟨room.toArray⟩)) (p:=⟨w.heap.size + 1,1,none⟩) (by simp) (.slice A8 (l.length + 1) c8))
        have HOF:=Lib.hid (own_past (own_past hown hc.res (by decide) 0 (.string ⟨room.toArray⟩)) (hc.res.poke 0 (.string ⟨room.toArray⟩)) (by decide) 1 (.slice A8 (l.length + 1) c8))
        clear hc hown
        go_wp2_with fail
        refine bodyPost_ret (res_ptX _ 4 _ _ (w.heap.size + 1) room A8 ((l.length + 1)) c8 (by kernel_rfl) rfl (hz.cell 0) (hz.cell 1)) rfl ?_
        exact ⟨room,A8,c8,(l ++ [z]),_,by first | rfl | simp,by simpa using HOF.out,by first | omega | (simp; omega),by unfold poEnd; rw [HPR.out]; simp only; rw [if_pos (of_decide_eq_true HFL.out),HTE.out,HZ.out],by omega,HSF.out,HGF.out⟩
end Go.Proofs.YtpialnjfdbfkdaaGreatDoor
/- Two maps that are drawn from the same numbers are alike. -/
namespace Go.Proofs.YtpialnjfdbfkdaaGreatDoor
open Go.RowKit

def rmS (r : RoomE) : List UInt8 × List (List UInt8):=(r.key,r.gives)
def drS (d : DoorE) : List UInt8 × List UInt8 × List UInt8 × Int × List (List UInt8) × List (List UInt8) × List UInt8:=(d.key,d.src,d.dst,d.time,d.needs,d.takes,d.trick)
theorem RoomsX.same {L : List Int} {K : Nat} {rs rs' : List RoomE} (h : RoomsX L K rs) (h' : RoomsX L K rs') (hl : rs.length = rs'.length) : rs.map rmS = rs'.map rmS:=by
 refine List.ext_getElem (by simpa using hl) fun k h1 h2 => ?_
 have a:=h k (by simpa using h1)
 have b:=h' k (by simpa using h2)
 simp only [List.getElem_map,rmS]
 rw [a.1,b.1,← a.2.2,← b.2.2]
theorem DoorsX.same {L : List Int} {K n : Nat} {ds ds' : List DoorE} (h : DoorsX L K n ds) (h' : DoorsX L K n ds') (hl : ds.length = ds'.length) : ds.map drS = ds'.map drS:=by
 refine List.ext_getElem (by simpa using hl) fun k h1 h2 => ?_
 have a:=h k (by simpa using h1)
 have b:=h' k (by simpa using h2)
 simp only [List.getElem_map,drS]
 rw [a.key,b.key,← a.src.2,← b.src.2,← a.dst.2,← b.dst.2,← a.time.2,← b.time.2,← a.needs.2,← b.needs.2,← a.takes.2,← b.takes.2,← a.trick.2,← b.trick.2]
theorem drawn_same {L : List Int} {N : Nat} {rs rs' : List RoomE} {ds ds' : List DoorE} (h1 : RoomsX L (N + 1) rs) (h1' : RoomsX L (N + 1) rs') (h2 : DoorsX L (N + 2 + 3 * rs.length) rs.length ds) (h2' : DoorsX L (N + 2 + 3 * rs'.length) rs'.length ds')
  (hr : rg L N 2 5 = (rs.length : Int)) (hr' : rg L N 2 5 = (rs'.length : Int)) (hd : rg L (N + 1 + 3 * rs.length) 1 9 = (ds.length : Int)) (hd' : rg L (N + 1 + 3 * rs'.length) 1 9 = (ds'.length : Int)) :
  rs.length = rs'.length ∧ ds.length = ds'.length ∧ rs.map rmS = rs'.map rmS ∧ ds.map drS = ds'.map drS:=by
 have e : rs.length = rs'.length:=by omega
 rw [← e] at h2' hd'
 have e2 : ds.length = ds'.length:=by omega
 exact ⟨e,e2,h1.same h1' e,h2.same h2' e2⟩
theorem allT_same {rs rs' : List RoomE} {ds ds' : List DoorE} (h1 : rs.map rmS = rs'.map rmS) (h2 : ds.map drS = ds'.map drS) : allT rs ds = allT rs' ds':=by
 have e1 : ∀ l : List RoomE,l.flatMap RoomE.gives = (l.map rmS).flatMap Prod.snd:=fun l => by rw [List.flatMap_map]; rfl
 have e2 : ∀ l : List DoorE,(l.flatMap fun d => d.needs ++ d.takes) = (l.map drS).flatMap fun q => q.2.2.2.2.1 ++ q.2.2.2.2.2.1:=fun l => by rw [List.flatMap_map]; rfl
 unfold allT
 rw [e1,e1 rs',e2,e2 ds',h1,h2]
theorem allK_same {ds ds' : List DoorE} (h2 : ds.map drS = ds'.map drS) : allK ds = allK ds':=by
 have e : ∀ l : List DoorE,allK l = ((l.map drS).filter fun q => q.2.2.2.2.2.2 != []).map fun q => q.2.2.2.2.2.2:=fun l => by
  unfold allK
  rw [List.filter_map,List.map_map]; rfl
 rw [e,e ds',h2]
theorem keys_same {rs rs' : List RoomE} (h1 : rs.map rmS = rs'.map rmS) : rs.map RoomE.key = rs'.map RoomE.key:=by
 have e : ∀ l : List RoomE,l.map RoomE.key = (l.map rmS).map Prod.fst:=fun l => by rw [List.map_map]; rfl
 rw [e,e rs',h1]
end Go.Proofs.YtpialnjfdbfkdaaGreatDoor
