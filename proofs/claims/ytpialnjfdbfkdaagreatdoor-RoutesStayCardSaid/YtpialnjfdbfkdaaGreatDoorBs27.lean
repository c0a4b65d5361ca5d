/- Texts of this seat, laid together: Ey RmX NpA. -/
import Derived.Handy
import Derived.Test.YtpialnjfdbfkdaaGreatDoorBs01
import Derived.Test.YtpialnjfdbfkdaaGreatDoorBs02
import Derived.Test.YtpialnjfdbfkdaaGreatDoorBs24
import Derived.Test.YtpialnjfdbfkdaaGreatDoorBs19
/- Draws from a stream whose numbers are known: bounds and what is known of them. -/
set_option linter.unusedVariables false
set_option linter.unusedSimpArgs false
namespace Go.Proofs.YtpialnjfdbfkdaaGreatDoor
open Go.RowKit Go.Sort
variable {sB : Nat}

theorem range_exx (g k : Nat) (L : List Int) (lo hi : Int) (w : World) (hs : StrE w g sB L k) (hN : k < 4611686018427387904) (h0 : -1000000000000 ≤ lo) (h1 : hi ≤ 1000000000000) (hlh : lo ≤ hi) :
  Calls Tryz.prog 19 #[.pointer (some ⟨g,0,none⟩),.int .i64 lo,.int .i64 hi] w fun e w' => ∃ r : Int,e = .returned (.int .i64 r) ∧ lo ≤ r ∧ r ≤ hi ∧ (StrE w' g sB L (k + 1) ∧ Hid (rg L k lo hi = r)) ∧ w.grownBy w' (some g) :=
 (range_ex g k L lo hi w hs hN h0 h1 hlh).mono fun _ _ ⟨h,hs',hg⟩ => ⟨_,h,(rg_bd L k h0 h1 hlh).1,(rg_bd L k h0 h1 hlh).2,⟨hs',Lib.hid rfl⟩,hg⟩
theorem next_exx (g k : Nat) (L : List Int) (m : Int) (w : World) (hs : StrE w g sB L k) (hN : k < 4611686018427387904) (hm : m ≤ 9223372036854775807) :
  Calls Tryz.prog 26 #[.pointer (some ⟨g,0,none⟩),.int .i64 m] w fun e w' => ∃ r : Int,e = .returned (.int .i64 r) ∧ 0 ≤ r ∧ (1 ≤ m → r < m) ∧ r ≤ 9223372036854775807 ∧ (StrE w' g sB L (k + 1) ∧ Hid (nx L k m = r)) ∧ w.grownBy w' (some g) :=
 (next_ex g k L m w hs hN hm).mono fun _ _ ⟨h,hs',hg⟩ => ⟨_,h,(nx_bd L k m hm).1,(nx_bd L k m hm).2.1,(nx_bd L k m hm).2.2,⟨hs',Lib.hid rfl⟩,hg⟩
theorem flip_exx (g k : Nat) (L : List Int) (m : Int) (w : World) (hs : StrE w g sB L k) (hN : k < 4611686018427387904) (hm : m ≤ 9223372036854775807) :
  Calls Tryz.prog 25 #[.pointer (some ⟨g,0,none⟩),.int .i64 m] w fun e w' => ∃ r : Bool,e = .returned (.bool r) ∧ (StrE w' g sB L (k + 1) ∧ Hid (decide (nx L k m = 0) = r)) ∧ w.grownBy w' (some g) :=
 (flip_ex g k L m w hs hN hm).mono fun _ _ ⟨h,hs',hg⟩ => ⟨_,h,⟨hs',Lib.hid rfl⟩,hg⟩
theorem pick_exx (g k lo : Nat) (L : List Int) (A : Option Addr) (c : Nat) (zs : List Int) (w : World) (hs : StrE w g sB L k) (hN : k < 4611686018427387904) (hr : Row w lo 1 A zs.length (ints zs)) (hlo : g < lo) (hz : 0 < zs.length) (hz' : zs.length ≤ 1000000) :
  Calls Tryz.prog 23 #[.pointer (some ⟨g,0,none⟩),.slice A zs.length c] w fun e w' => ∃ r : Int,e = .returned (.int .i64 r) ∧ r ∈ zs ∧ (StrE w' g sB L (k + 1) ∧ Hid (pk L k zs = r)) ∧ w.grownBy w' (some g) :=
 (pick_ex g k lo L A c zs w hs hN hr hlo hz hz').mono fun _ _ ⟨h,hs',hg⟩ => ⟨_,h,pk_mem L k hz hz',⟨hs',Lib.hid rfl⟩,hg⟩
def sk (L : List Int) (k : Nat) (ss : List (List UInt8)) : List UInt8:=ss.getD (nx L k ss.length).toNat []
theorem some_exx (g k lo : Nat) (L : List Int) (A : Option Addr) (c : Nat) (ss : List (List UInt8)) (w : World) (hs : StrE w g sB L k) (hN : k < 4611686018427387904) (hr : Row w lo 1 A ss.length (strs ss)) (hlo : g < lo) (hz : 0 < ss.length) (hz' : ss.length ≤ 1000000) :
  Calls Tryz.prog 22 #[.pointer (some ⟨g,0,none⟩),.slice A ss.length c] w fun e w' => ∃ r : List UInt8,e = .returned (encStr r) ∧ r ∈ ss ∧ (StrE w' g sB L (k + 1) ∧ Hid (sk L k ss = r)) ∧ w.grownBy w' (some g):=by
 go_enter Tryz.func22,Tryz.ntmps22
 go_wp2_with fail
 refine (next_ex g k L _ _ hs hN (by omega)).mono ?_
 rintro e w' ⟨rfl,hs',hg⟩
 obtain ⟨h2,h3,h4⟩:=nx_bd L k ss.length (by omega)
 have h5:=h3 (by omega)
 have HP : Hid (sk L k ss = ss.getD (nx L k ss.length).toNat []):=Lib.hid rfl
 generalize nx L k ss.length = r at *
 obtain ⟨j,rfl⟩:=Int.eq_ofNat_of_zero_le h2
 have hk : j < ss.length:=by omega
 obtain ⟨b,off,rfl,hlb,hb,hc⟩:=(hr.grown hg hlo).str_at hk
 have HQ : Hid (sk L k ss = ss[j]):=Lib.hid (by rw [HP.out,Int.toNat_natCast,List.getD_eq_getElem?_getD,List.getElem?_eq_getElem hk]; rfl)
 clear h3
 go_wp2_with fail
 go_ret
 exact ⟨_,rfl,List.getElem_mem _,⟨hs',HQ⟩,hg⟩
end Go.Proofs.YtpialnjfdbfkdaaGreatDoor
/- The stream's thingList and RightMap over a stream whose numbers are known. -/
namespace Go.Proofs.YtpialnjfdbfkdaaGreatDoor
open Go.RowKit Go.Sort
variable {sB : Nat}

def thR (L : List Int) (m : Int) : List (List UInt8) → Nat → List (List UInt8)
 | [],_ => []
 | x :: xs,k => (if nx L k m = 0 then [x] else []) ++ thR L m xs (k + 1)
def thF (L : List Int) (k : Nat) (m : Int) : List (List UInt8):=thR L m thingsL k
theorem th_start (L : List Int) (m : Int) (N : Nat) : thF L N m = [] ++ thR L m (thingsL.drop 0) (N + 0):=by rw [List.drop_zero,List.nil_append,Nat.add_zero]; rfl
theorem th_end (L : List Int) (m : Int) (k : Nat) : thR L m (thingsL.drop 3) k = []:=by rw [show thingsL.drop 3 = [] from rfl,thR]
theorem th_no {L : List Int} {m : Int} {k N : Nat} {l : List (List UInt8)} {x : List UInt8} (h : thF L N m = l ++ thR L m (thingsL.drop k) (N + k)) (hd : thingsL.drop k = x :: thingsL.drop (k + 1)) (hr : decide (nx L (N + k) m = 0) = false) : thF L N m = l ++ thR L m (thingsL.drop (k + 1)) (N + (k + 1)):=by
 rw [h,hd,thR,if_neg (of_decide_eq_false hr),List.nil_append,Nat.add_assoc]
theorem th_yes {L : List Int} {m : Int} {k N : Nat} {l : List (List UInt8)} {x : List UInt8} (h : thF L N m = l ++ thR L m (thingsL.drop k) (N + k)) (hd : thingsL.drop k = x :: thingsL.drop (k + 1)) (hr : decide (nx L (N + k) m = 0) = true) : thF L N m = (l ++ [x]) ++ thR L m (thingsL.drop (k + 1)) (N + (k + 1)):=by
 rw [h,hd,thR,if_pos (of_decide_eq_true hr),← List.append_assoc,Nat.add_assoc]
def ThX (w : World) (g sB : Nat) (L : List Int) (N : Nat) (m : Int) (e : Ending) (w' : World) : Prop :=
 ∃ (A : Option Addr) (c : Nat) (l : List (List UInt8)),e = .returned (.slice A l.length c) ∧ w'.ownsRow w.heap.size 9 1 (.slice A l.length c) l.length (strs l) ∧ l.length ≤ 3 ∧ (∀ s ∈ l,s.length ≤ 3) ∧ (l.Sublist thingsL ∧ thF L N m = l) ∧ StrE w' g sB L (N + 3) ∧ w.grownBy w' (some g)
set_option maxRecDepth 100000 in
set_option maxHeartbeats 1000000 in
theorem thingList_ex (g N : Nat) (L : List Int) (m : Int) (w : World) (hs : StrE w g sB L N) (hN : N < 4611686018427387000) (hm : m ≤ 9223372036854775807) :
  Calls Tryz.prog 20 #[.pointer (some ⟨g,0,none⟩),.int .i64 m] w (ThX w g sB L N m):=by
 have hlt:=hs.lt
 have hbl0:=Blk.new w 9 #[.string ⟨#[103,117,110]⟩,.string ⟨#[107,101,121]⟩,.string ⟨#[109,97,112]⟩]
 have hgr0 : w.grownBy (w.alloc (.cells #[.string ⟨#[103,117,110]⟩,.string ⟨#[107,101,121]⟩,.string ⟨#[109,97,112]⟩] 9)) (some g):=World.grownBy_alloc _ _ _
 have hs0:=hs.alloc (.cells #[.string ⟨#[103,117,110]⟩,.string ⟨#[107,101,121]⟩,.string ⟨#[109,97,112]⟩] 9)
 go_enter Tryz.func20,Tryz.ntmps20
 go_wp2_with fail
 generalize w.alloc (.cells #[.string ⟨#[103,117,110]⟩,.string ⟨#[107,101,121]⟩,.string ⟨#[109,97,112]⟩] 9) = w0 at *
 go_loopw [5,10] (fun v i wr => ∃ (k : Nat) (A : Option Addr) (c : Nat) (l : List (List UInt8)),k ≤ 3 ∧ i = .int .i64 k ∧ v = .slice A l.length c ∧ wr.ownsRow (w.heap.size + 1) 9 1 (.slice A l.length c) l.length (strs l) ∧ l.length ≤ k ∧ Hid (∀ s ∈ l,s.length ≤ 3) ∧ Hid (l.Sublist (thingsL.take k)) ∧ (StrE wr g sB L (N + k) ∧ Hid (thF L N m = l ++ thR L m (thingsL.drop k) (N + k))) ∧ w.grownBy wr (some g) ∧ Blk wr w.heap.size 9 #[.string ⟨#[103,117,110]⟩,.string ⟨#[107,101,121]⟩,.string ⟨#[109,97,112]⟩] ∧ w.heap.size < wr.heap.size) (fun _ i _ => 3 - (intOf i).toNat)
 case atStart => exact ⟨0,none,0,[],by omega,rfl,rfl,World.ownsRow_nil _ _ _ _,by simp,Lib.hid (by simp),Lib.hid (by simp),⟨hs0,Lib.hid (th_start L m N)⟩,hgr0,hbl0,hbl0.lt⟩
 case round =>
  clear hbl0 hgr0 hs0
  obtain ⟨k,A,c,l,hk,rfl,rfl,hown,hlk,HSL,HSU,⟨hsr,HTF⟩,hgr,hblr,hzw⟩:=hrel
  by_cases hk3 : k < 3
  ·have hrow : Row wr w.heap.size 1 (some ⟨w.heap.size,0,none⟩) 3 (strs thingsL):=Row.lit hblr (Nat.le_refl _) rfl
   obtain ⟨b,off,he,hbs,hcell⟩:=strs_at (l:=thingsL) hrow (k:=k) hk3
   injection he with he
   injection he with e1 e2
   subst e1 e2
   have y0:=hcell k hk3
   have HTL : Hid (thingsL[k].length ≤ 3):=Lib.hid (by
    have : ∀ j : Fin 3,(thingsL[j.val]'(j.isLt)).length ≤ 3:=by decide
    exact this ⟨k,hk3⟩)
   have HTK : Hid (thingsL.take (k + 1) = thingsL.take k ++ [thingsL[k]]):=Lib.hid (List.take_succ_eq_append_getElem (l:=thingsL) (i:=k) hk3)
   have HDR : Hid (thingsL.drop k = thingsL[k] :: thingsL.drop (k + 1)):=Lib.hid (List.drop_eq_getElem_cons (l:=thingsL) (i:=k) hk3)
   rw [Nat.zero_add] at y0
   clear hcell
   generalize thingsL[k] = x at *
   simp only [encStr] at y0
   go_wp2_with fail
   refine (flip_exx g _ L m _ hsr (by omega) hm).mono ?_
   rintro e w2 ⟨r2,rfl,⟨hs2,HFL⟩,hg2⟩
   have hgr2:=grown_trans' hgr hg2
   have hown2:=own_grown hown hg2 (by omega)
   have hbl2:=hblr.grown hg2 (by omega)
   have hz2:=hg2.size
   clear y0 hown hrow hg2 hgr
   cases r2
   ·go_wp2_with fail
    go_roundw
    case rel => exact ⟨k + 1,A,c,l,by omega,by go_num,rfl,hown2,by omega,HSL,Lib.hid (by rw [HTK.out]; exact HSU.out.trans (List.sublist_append_left _ _)),⟨hs2,Lib.hid (th_no HTF.out HDR.out HFL.out)⟩,hgr2,hbl2,by omega⟩
    case measure => simp [intOf]; omega
   ·go_wp2_with (at_builtin; go_must (refine wpList_app (lo:=w.heap.size + 1) (base:=w.heap.size + 1) (n:=l.length) (xs:=strs l) _ _ rfl _ _ ty_strs rfl (by repeat (first | exact hown2 | refine World.ownsRow.alloc ?_ _ | refine own_drewN ?_ _ | refine World.ownsRow.drew ?_)) rfl (by first | exact row_new' _ (by first | rfl | simp) (by first | omega | (simp; omega)) rfl | exact row_newN _ _ (by first | rfl | simp) (by first | omega | (simp; omega)) rfl | exact row_newD _ (by first | rfl | simp) (by first | omega | (simp; omega)) rfl) rfl rfl (by first | omega | decide) (by first | omega | decide) (by first | omega | (simp; omega)) ?_))
    intro A5 c5 w5 hown5 hg5 _
    have HO5 : Hid (w5.ownsRow (w.heap.size + 1) 9 1 (.slice A5 (l ++ [x]).length c5) (l ++ [x]).length (strs (l ++ [x]))):=Lib.hid (by simpa [strs,encStr] using hown5)
    have hs5:=(hs2.alloc (.cells #[.string ⟨x.toArray⟩] 9)).app (hown2.alloc _) hg5 (by omega)
    have hgr5:=grown_app (grown_alloc hgr2 (.cells #[.string ⟨x.toArray⟩] 9)) (hown2.alloc _) hg5 (by omega)
    have hz5:=hg5.size
    have hbl5:=(hbl2.alloc (.cells #[.string ⟨x.toArray⟩] 9)).grownM hg5 (fun q hq => by have:=((hown2.alloc (.cells #[.string ⟨x.toArray⟩] 9)).lt q hq).1; omega)
    have HL5 : Hid (∀ s ∈ l ++ [x],s.length ≤ 3):=Lib.hid (by
     intro s hs; rcases List.mem_append.1 hs with h | h
     ·exact HSL.out s h
     ·simp at h; subst h; exact HTL.out)
    clear hown2 hown5 hg5
    go_wp2_with fail
    go_roundw
    case rel => exact ⟨k + 1,A5,c5,l ++ [x],by omega,by go_num,by simp,HO5.out,by simp; omega,HL5,Lib.hid (by rw [HTK.out]; exact HSU.out.append_right _),⟨hs5,Lib.hid (th_yes HTF.out HDR.out HFL.out)⟩,hgr5,hbl5,by simp at hz5; omega⟩
    case measure => simp [intOf]; omega
  ·have HO:=Lib.hid (own_weak hown (show w.heap.size ≤ w.heap.size + 1 by omega))
   clear hown
   go_wp2_with fail
   go_ret
   exact ⟨A,c,l,rfl,HO.out,by omega,HSL.out,⟨by have:=HSU.out; rw [show k = 3 by omega] at this; exact this,by rw [HTF.out,show k = 3 by omega,th_end,List.append_nil]⟩,by have:=hsr; rw [show k = 3 by omega] at this; exact this,hgr⟩
def SomeX (w : World) (g sB : Nat) (L : List Int) (N : Nat) (S : List (List UInt8)) (e : Ending) (w' : World) : Prop:=∃ r : List UInt8,e = .returned (.string ⟨r.toArray⟩) ∧ (r ∈ S ∧ sk L N S = r) ∧ StrE w' g sB L (N + 1) ∧ w.grownBy w' (some g)
theorem some_namesX {L : List Int} (g N b n : Nat) (w : World) (hs : StrE w g sB L N) (hN : N < 4611686018427387904) (hb : Blk w b 9 #[.string ⟨#[114,97]⟩,.string ⟨#[114,98]⟩,.string ⟨#[114,99]⟩,.string ⟨#[114,100]⟩,.string ⟨#[114,101]⟩]) (hg : g < b) (h0 : 1 ≤ n) (h5 : n ≤ 5) :
  Calls Tryz.prog 22 #[.pointer (some ⟨g,0,none⟩),.slice (some ⟨b,0,none⟩) n 5] w (SomeX w g sB L N (names5.take n)):=by
 have hr : Row w b 1 (some ⟨b,0,none⟩) 5 (strs names5):=Row.lit hb (Nat.le_refl _) rfl
 have hln : (names5.take n).length = n:=by simp [names5]; omega
 have hr2 : Row w b 1 (some ⟨b,0,none⟩) (names5.take n).length (strs (names5.take n)):=⟨by simp [strs],fun _ => by
  obtain ⟨b',off,e,h1,h2,h3⟩:=hr.2 (by decide)
  refine ⟨b',off,e,h1,h2,fun j u hu => h3 j u ?_⟩
  unfold strs at hu ⊢
  rw [List.map_take,List.getElem?_take] at hu
  by_cases hj : j < n
  ·rw [if_pos hj] at hu; exact hu
  ·rw [if_neg hj] at hu; cases hu⟩
 have:=some_exx g N b L (some ⟨b,0,none⟩) 5 (names5.take n) w hs hN hr2 hg (by omega) (by omega)
 rw [hln] at this
 refine this.mono ?_
 rintro e w' ⟨r,rfl,hm,⟨h1,h3⟩,h2⟩
 exact ⟨r,rfl,⟨hm,h3.out⟩,h1,h2⟩
theorem some_litX {L : List Int} (g N b : Nat) (cs : Array Value) (ss : List (List UInt8)) (w : World) (hs : StrE w g sB L N) (hN : N < 4611686018427387904) (hb : Blk w b 9 cs) (hc : cs.toList = strs ss) (hg : g < b) (h0 : 0 < ss.length) (h5 : ss.length ≤ 1000000) :
  Calls Tryz.prog 22 #[.pointer (some ⟨g,0,none⟩),.slice (some ⟨b,0,none⟩) ss.length ss.length] w (SomeX w g sB L N ss):=by
 have hr : Row w b 1 (some ⟨b,0,none⟩) ss.length (strs ss):=by
  have : cs.size = ss.length * 1:=by rw [← Array.length_toList,hc]; simp [strs]
  rw [← hc]; exact Row.lit hb (Nat.le_refl _) this
 refine (some_exx g N b L (some ⟨b,0,none⟩) ss.length ss w hs hN hr hg h0 h5).mono ?_
 rintro e w' ⟨r,rfl,hm,⟨h1,h3⟩,h2⟩
 exact ⟨r,rfl,⟨hm,h3.out⟩,h1,h2⟩
def RoomsX (L : List Int) (K : Nat) (rs : List RoomE) : Prop:=∀ k (h : k < rs.length),(rs[k]).key = names5.getD k [] ∧ ((rs[k]).gives.Sublist thingsL ∧ thF L (K + 3 * k) 6 = (rs[k]).gives)
structure DoorX (L : List Int) (K n k : Nat) (d : DoorE) : Prop where
  key : d.key = [100, UInt8.ofNat (48 + k)]
  src : d.src ∈ names5.take n ∧ sk L (K + 10 * k) (names5.take n) = d.src
  dst : d.dst ∈ names5.take n ∧ sk L (K + 10 * k + 1) (names5.take n) = d.dst
  time : d.time ∈ ([1, 2, 3, 3, 5, 9] : List Int) ∧ pk L (K + 10 * k + 2) [1, 2, 3, 3, 5, 9] = d.time
  needs : d.needs.Sublist thingsL ∧ thF L (K + 10 * k + 3) 6 = d.needs
  takes : d.takes.Sublist thingsL ∧ thF L (K + 10 * k + 6) 9 = d.takes
  trick : d.trick ∈ tricksG ∧ sk L (K + 10 * k + 9) tricksG = d.trick
def DoorsX (L : List Int) (K n : Nat) (ds : List DoorE) : Prop:=∀ k (h : k < ds.length),DoorX L K n k ds[k]
theorem RoomsX.app {L : List Int} {K : Nat} {rs : List RoomE} {r : RoomE} (h : RoomsX L K rs) (hk : r.key = names5.getD rs.length []) (hg : r.gives.Sublist thingsL ∧ thF L (K + 3 * rs.length) 6 = r.gives) : RoomsX L K (rs ++ [r]):=fun k hl => by
 by_cases h1 : k < rs.length
 ·rw [List.getElem_append_left h1]; exact h k h1
 ·have : k = rs.length:=by simp at hl; omega
  subst this
  rw [List.getElem_append_right (Nat.le_refl _)]
  simpa using ⟨hk,hg⟩
theorem DoorsX.app {L : List Int} {K n : Nat} {ds : List DoorE} {d : DoorE} (h : DoorsX L K n ds) (hd : DoorX L K n ds.length d) : DoorsX L K n (ds ++ [d]):=fun k hl => by
 by_cases h1 : k < ds.length
 ·rw [List.getElem_append_left h1]; exact h k h1
 ·have : k = ds.length:=by simp at hl; omega
  subst this
  rw [List.getElem_append_right (Nat.le_refl _)]
  simpa using hd
def RgX (w : World) (g sB : Nat) (L : List Int) (N : Nat) (e : Ending) (w' : World) : Prop:=∃ (A : Option Addr) (ca : Nat) (rs : List RoomE) (D : Option Addr) (cd : Nat) (ds : List DoorE) (st gl : List UInt8),e = .returned (.agg #[.slice A rs.length ca,.slice D ds.length cd,.string ⟨st.toArray⟩,.string ⟨gl.toArray⟩]) ∧ MapO w' w.heap.size A ca rs D cd ds ∧ RoomsX L (N + 1) rs ∧ DoorsX L (N + 2 + 3 * rs.length) rs.length ds ∧ 2 ≤ rs.length ∧ rs.length ≤ 5 ∧ 1 ≤ ds.length ∧ ds.length ≤ 9 ∧ (st ∈ names5.take rs.length ∧ sk L (N + 2 + 3 * rs.length + 10 * ds.length) (names5.take rs.length) = st) ∧ (gl ∈ names5.take rs.length ∧ sk L (N + 2 + 3 * rs.length + 10 * ds.length + 1) (names5.take rs.length) = gl) ∧ (rg L N 2 5 = (rs.length : Int) ∧ rg L (N + 1 + 3 * rs.length) 1 9 = (ds.length : Int)) ∧ StrE w' g sB L (N + 2 + 3 * rs.length + 10 * ds.length + 2) ∧ w.grownBy w' (some g)
structure RmX (sB : Nat) (L : List Int) (w W : World) (g N mb : Nat) (box : Array Value) : Prop where
  s : StrE W g sB L N
  gr : w.grownBy W (some g)
  nm : Blk W (w.heap.size + 1) 9 #[.string ⟨#[114, 97]⟩, .string ⟨#[114, 98]⟩, .string ⟨#[114, 99]⟩, .string ⟨#[114, 100]⟩, .string ⟨#[114, 101]⟩]
  res : Blk W w.heap.size 29 #[.slice none 0 0, .slice none 0 0, .string ⟨#[]⟩, .string ⟨#[]⟩]
  box : Blk W mb 29 box
section
variable {L : List Int} {w W W' : World} {g N N' mb : Nat} {box : Array Value}
theorem RmX.below (h : RmX sB L w W g N mb box) (hb : Below W.heap.size W W') : RmX sB L w W' g N mb box:=⟨h.s.keep hb,grown_trans' h.gr (grown_of_below hb _),h.nm.below hb,h.res.below hb,h.box.below hb⟩
theorem RmX.alloc (h : RmX sB L w W g N mb box) (o : Obj) : RmX sB L w (W.alloc o) g N mb box:=h.below ((Below.refl _ _).alloc (Nat.le_refl _) o)
theorem RmX.drew (h : RmX sB L w W g N mb box) : RmX sB L w W.drew g N mb box:=h.below (below_drewN' (Below.refl _ _) 1)
theorem RmX.str (h : RmX sB L w W g N mb box) (hg : g < w.heap.size) (hm : g < mb) (hs : StrE W' g sB L N') (hb : W.grownBy W' (some g)) : RmX sB L w W' g N' mb box:=⟨hs,grown_trans' h.gr hb,h.nm.grown hb (by omega),h.res.grown hb (by omega),h.box.grown hb (by omega)⟩
theorem RmX.app (h : RmX sB L w W g N mb box) {base size n : Nat} {e : TypeId} {v : Value} {xs : List Value} (hown : W.ownsRow base e size v n xs) (hg : W.grownBy W' v.ownBlock) (hb : g < base) (hb2 : w.heap.size ≤ base) (h1 : e ≠ 9) (h2 : e ≠ 29) : RmX sB L w W' g N mb box :=
 ⟨h.s.app hown hg hb,grown_app h.gr hown hg hb2,Blk.app hown h.nm hg h1,Blk.app hown h.res hg h2,Blk.app hown h.box hg h2⟩
theorem RmX.set (h : RmX sB L w W g N mb box) (hg : g < w.heap.size) (hm : w.heap.size + 2 ≤ mb) (i : Nat) (u : Value) : RmX sB L w (W.setCell ⟨mb,i,none⟩ u) g N mb (box.setIfInBounds i u) :=
 ⟨h.s.set (by simp; omega) _,grown_set_new h.gr (by simp; omega) _,h.nm.past mb i u (by omega),h.res.past mb i u (by omega),h.box.poke i u⟩
theorem RmX.setX (h : RmX sB L w W g N mb box) {k : Nat} (hk : mb < k) (hm : w.heap.size + 2 ≤ mb) (hg : g < w.heap.size) (i : Nat) (u : Value) : RmX sB L w (W.setCell ⟨k,i,none⟩ u) g N mb box :=
 ⟨h.s.set (by simp; omega) _,grown_set_new h.gr (by simp; omega) _,h.nm.past k i u (by omega),h.res.past k i u (by omega),h.box.past k i u (by omega)⟩
theorem RmX.cast (h : RmX sB L w W g N mb box) (e : N = N') : RmX sB L w W g N' mb box:=e ▸ h
end
set_option maxHeartbeats 8000000 in
set_option maxRecDepth 100000 in
theorem rightMap_ex (g N : Nat) (L : List Int) (w : World) (hs : StrE w g sB L N) (hN : N < 4611686018427380000) :
  Calls Tryz.prog 4 #[.pointer (some ⟨g,0,none⟩)] w (RgX w g sB L N):=by
 have hlt:=hs.lt
 have hgr0 : w.grownBy ((w.alloc (.cells #[.slice none 0 0,.slice none 0 0,.string ⟨#[]⟩,.string ⟨#[]⟩] 29)).alloc (.cells #[.string ⟨#[114,97]⟩,.string ⟨#[114,98]⟩,.string ⟨#[114,99]⟩,.string ⟨#[114,100]⟩,.string ⟨#[114,101]⟩] 9)) (some g):=grown_alloc (World.grownBy_alloc _ _ _) _
 have hs0:=(hs.alloc (.cells #[.slice none 0 0,.slice none 0 0,.string ⟨#[]⟩,.string ⟨#[]⟩] 29)).alloc (.cells #[.string ⟨#[114,97]⟩,.string ⟨#[114,98]⟩,.string ⟨#[114,99]⟩,.string ⟨#[114,100]⟩,.string ⟨#[114,101]⟩] 9)
 have hres0 : Blk ((w.alloc (.cells #[.slice none 0 0,.slice none 0 0,.string ⟨#[]⟩,.string ⟨#[]⟩] 29)).alloc (.cells #[.string ⟨#[114,97]⟩,.string ⟨#[114,98]⟩,.string ⟨#[114,99]⟩,.string ⟨#[114,100]⟩,.string ⟨#[114,101]⟩] 9)) w.heap.size 29 #[.slice none 0 0,.slice none 0 0,.string ⟨#[]⟩,.string ⟨#[]⟩]:=(Blk.new _ _ _).alloc _
 have hnm0 : Blk ((w.alloc (.cells #[.slice none 0 0,.slice none 0 0,.string ⟨#[]⟩,.string ⟨#[]⟩] 29)).alloc (.cells #[.string ⟨#[114,97]⟩,.string ⟨#[114,98]⟩,.string ⟨#[114,99]⟩,.string ⟨#[114,100]⟩,.string ⟨#[114,101]⟩] 9)) (w.heap.size + 1) 9 #[.string ⟨#[114,97]⟩,.string ⟨#[114,98]⟩,.string ⟨#[114,99]⟩,.string ⟨#[114,100]⟩,.string ⟨#[114,101]⟩]:=Blk.at_ _ (by simp)
 go_enter Tryz.func4,Tryz.ntmps4
 go_wp2_with fail
 generalize ((w.alloc (.cells #[.slice none 0 0,.slice none 0 0,.string ⟨#[]⟩,.string ⟨#[]⟩] 29)).alloc (.cells #[.string ⟨#[114,97]⟩,.string ⟨#[114,98]⟩,.string ⟨#[114,99]⟩,.string ⟨#[114,100]⟩,.string ⟨#[114,101]⟩] 9)) = w0 at *
 refine (range_exx g N L _ _ _ hs0 (by omega) (by omega) (by omega) (by omega)).mono ?_
 rintro e w1 ⟨r1,rfl,h0,h1,⟨hs1,HRG⟩,hg1⟩
 obtain ⟨n,rfl⟩:=Int.eq_ofNat_of_zero_le (show 0 ≤ r1 by omega)
 have hr1 : RmX sB L w (w1.alloc (.cells #[.slice none 0 0,.slice none 0 0,.string ⟨#[]⟩,.string ⟨#[]⟩] 29)) g (N + 1) w1.heap.size #[.slice none 0 0,.slice none 0 0,.string ⟨#[]⟩,.string ⟨#[]⟩]:=⟨hs1.alloc _,grown_alloc (grown_trans' hgr0 hg1) _,(hnm0.grown hg1 (by omega)).alloc _,(hres0.grown hg1 (by omega)).alloc _,Blk.new _ _ _⟩
 have hmb : w.heap.size + 2 ≤ w1.heap.size:=by have:=(hnm0.grown hg1 (by omega)).lt; omega
 have hn0 : (0 : Int) ≤ (n : Int):=by omega
 have hn5 : (n : Int) ≤ 5:=by omega
 have hn2 : 2 ≤ n:=by omega
 have hn5' : n ≤ 5:=by omega
 clear hgr0 hs0 hres0 hnm0 hs1 hg1 h0 h1
 go_wp2_with fail
 generalize w1.alloc (.cells #[.slice none 0 0,.slice none 0 0,.string ⟨#[]⟩,.string ⟨#[]⟩] 29) = w2 at *
 generalize w1.heap.size = mb at *
 go_loopw [15] (fun i wr => ∃ (A5 : Option Addr) (c5 : Nat) (rs : List RoomE),rs.length ≤ n ∧ i = .int .i64 rs.length ∧ RmX sB L w wr g (N + 1 + 3 * rs.length) mb #[.slice A5 rs.length c5,.slice none 0 0,.string ⟨#[]⟩,.string ⟨#[]⟩] ∧ MapO wr (mb + 1) A5 c5 rs none 0 [] ∧ Hid (RoomsX L (N + 1) rs)) (fun i _ => n - (intOf i).toNat)
 case atStart => exact ⟨none,0,[],by simp,rfl,hr1,⟨World.ownsRow_nil _ _ _ _,World.ownsRow_nil _ _ _ _,fun q hq => by simp [rlists] at hq,fun q hq => by simp [dlists] at hq⟩,Lib.hid (fun k h => absurd h (by simp))⟩
 case round =>
  clear hr1
  obtain ⟨A5,c5,rs,hk,rfl,hr,hm,HB⟩:=hrel
  have zmb:=hr.box.lt
  by_cases hkn : rs.length < n
  ·have hrow : Row wr (w.heap.size + 1) 1 (some ⟨w.heap.size + 1,0,none⟩) 5 (strs names5):=Row.lit hr.nm (Nat.le_refl _) rfl
   obtain ⟨b,off,he,hbs,hcell⟩:=strs_at (l:=names5) hrow (k:=rs.length) (show rs.length < 5 by omega)
   injection he with he
   injection he with e1 e2
   subst e1 e2
   have y0:=hcell rs.length (show rs.length < 5 by omega)
   have HTL : Hid (names5[rs.length]'(show rs.length < 5 by omega) = names5.getD rs.length []):=Lib.hid (by rw [List.getD_eq_getElem?_getD,List.getElem?_eq_getElem (show rs.length < names5.length from (show rs.length < 5 by omega))]; rfl)
   rw [Nat.zero_add] at y0
   clear hcell hrow
   generalize names5[rs.length]'(show rs.length < 5 by omega) = x at *
   simp only [encStr] at y0
   go_upto_region 6 with (fail)
   clear y0
   have hrd:=hr.drew
   have hmd:=hm.drew
   clear hr hm
   have m0:=hrd.box.cell 0
   simp only [Q0,Q2,Q1] at m0
   have m0' : wr.cell? ⟨mb,0,none⟩ = some (.slice A5 rs.length c5):=m0
   refine wp_region_held_drew (S:=(fun _ => True)) (by kernel_rfl) (trivial) (fun hHeld => ?_)
   (refine QT (i:=0) (v:=?_) (by (simp only [Q0,Q2]; rfl)) (by kernel_rfl) (by exact fun _ _ _ h => h) (by rfl) ?_ (by assumption) ?_; (rotate_left 1; (intro w hSw; (try dsimp only at hSw); go_simp); (try with_reducible rfl)); (try simp only [Act.put,Q3,Q4,Q5]))
   (refine QT (i:=2) (v:=?_) (by (simp only [Q0,Q1,Q2]; rfl)) (by kernel_rfl) (by exact fun _ _ _ h => h) (by rfl) ?_ (by assumption) ?_; (rotate_left 1; (intro w hSw; (try dsimp only at hSw); go_simp); (try with_reducible rfl)); (try simp only [Act.put,Q3,Q4,Q5]))
   (refine QT (i:=3) (v:=?_) (by (simp only [Q0,Q1,Q2]; rfl)) (by kernel_rfl) (by exact fun _ _ _ h => h) (by rfl) ?_ (by assumption) ?_; (rotate_left 1; (intro w hSw; (try dsimp only at hSw); go_simp); (try with_reducible rfl)); (try simp only [Act.put,Q3,Q4,Q5]))
   refine wpAnyH_ready (rs:=[1,4]) (by kernel_rfl) (by simp) ?_
   refine AllReadyH.cons rfl (fun K hK => ?_) (AllReadyH.cons rfl (fun K hK => ?_) AllReadyH.nil)
   case refine_1 =>
    go_simp
    refine hK.out _ _ (trivial) (fun hHeld => ?_)
    clear hK K
    (try simp only [Act.put,Q3,Q4,Q5])
    refine wpAnyH_ready (rs:=[4]) (by kernel_rfl) (by simp) ?_
    refine AllReadyH.cons rfl (fun K hK => ?_) AllReadyH.nil
    go_simp
    go_at_call 20
    refine (thingList_ex g _ L 6 _ hrd.s (by omega) (by omega)).mono ?_
    rintro e w7 ⟨A7,c7,l7,rfl,ho7,hl7,hb7,hsu7,hs7,hg7⟩
    replace hrd:=hrd.str hlt (by omega) hs7 hg7
    replace hmd:=hmd.grown hg7 (by omega)
    have zm7:=hrd.box.lt
    have zz7:=hg7.size
    have hlo : LstO w7 (mb + 1) (A7,l7,c7):=own_weak ho7 (show mb + 1 ≤ _ by simp; omega)
    have HSU:=Lib.hid hsu7
    have m0:=hrd.box.cell 0
    simp only [Q0,Q2,Q1] at m0
    clear ho7 hb7 hsu7 hs7 hg7
    go_wp2_with fail
    refine hK.out _ _ (trivial) (fun hHeld => ?_)
    clear hK K
    (try simp only [Act.put,Q3,Q4,Q5])
    (refine QT (i:=5) (v:=?_) (by (simp only [Q0,Q1,Q2]; rfl)) (by kernel_rfl) (by exact fun _ _ _ h => h) (by rfl) ?_ (by assumption) ?_; (rotate_left 1; (intro w hSw; (try dsimp only at hSw); go_simp); (try with_reducible rfl)); (try simp only [Act.put,Q3,Q4,Q5]))
    refine wpAnyH_ready (rs:=[6]) (by kernel_rfl) (by simp) ?_
    refine AllReadyH.cons rfl (fun K hK => ?_) AllReadyH.nil
    go_simp
    replace hrd:=hrd.alloc (.cells #[.string ⟨x.toArray⟩,.slice A7 l7.length c7] 60)
    replace hmd:=hmd.alloc (.cells #[.string ⟨x.toArray⟩,.slice A7 l7.length c7] 60)
    replace hlo:=hlo.alloc (.cells #[.string ⟨x.toArray⟩,.slice A7 l7.length c7] 60)
    have m0:=hrd.box.cell 0
    simp only [Q0,Q2,Q1] at m0
    refine hK.out _ _ (trivial) (fun hHeld => ?_)
    clear hK K
    (try simp only [Act.put,Q3,Q4,Q5])
    refine wpAnyH_ready (rs:=[7]) (by kernel_rfl) (by simp) ?_
    refine AllReadyH.cons rfl (fun K hK => ?_) AllReadyH.nil
    refine step_app (lo:=mb + 1) (base:=mb + 1) (n:=rs.length) (xs:=rs.flatMap encR) _ rfl _ _ ty_roomz rfl hmd.rooms rfl (by first | exact row_new' _ (by first | rfl | simp) (by first | omega | (simp; omega)) rfl | exact row_newN _ _ (by first | rfl | simp) (by first | omega | (simp; omega)) rfl | exact row_newD _ (by first | rfl | simp) (by first | omega | (simp; omega)) rfl) rfl rfl (by omega) (by omega) (by first | omega | (simp; omega)) ?_
    intro A8 c8 w8 hown8 hg8 _
    have hown8 : w8.ownsRow (mb + 1) 60 2 (.slice A8 (rs ++ [(⟨x,l7,A7,c7⟩ : RoomE)]).length c8) (rs ++ [(⟨x,l7,A7,c7⟩ : RoomE)]).length ((rs ++ [(⟨x,l7,A7,c7⟩ : RoomE)]).flatMap encR):=by simpa [encR,encStr] using hown8
    have HR8:=Lib.hid (hrd.app hmd.rooms hg8 (by omega) (by omega) (by decide) (by decide))
    have HM8:=Lib.hid (hmd.appR hg8 hown8 hlo)
    have m0:=HR8.out.box.cell 0
    simp only [Q0,Q2,Q1] at m0
    have f0:=HR8.out.box.thaw 0
    have z8:=HR8.out.box.lt
    clear hown8 hg8 hrd hmd hlo
    refine hK.out _ _ (trivial) (fun hHeld => ?_)
    clear hK K
    (try simp only [Act.put,Q3,Q4,Q5])
    (refine QT (i:=8) (v:=?_) (by (simp only [Q0,Q1,Q2]; rfl)) (by kernel_rfl) (by exact fun _ _ _ h => h) (by rfl) ?_ (by assumption) ?_; (rotate_left 1; (intro w hSw; (try dsimp only at hSw); go_simp); (try with_reducible rfl)); (try simp only [Act.put,Q3,Q4,Q5]))
    refine wpAnyH_ready (rs:=[9]) (by kernel_rfl) (by simp) ?_
    refine AllReadyH.cons rfl (fun K hK => ?_) AllReadyH.nil
    go_simp
    have hr9:=HR8.out.set hlt hmb 0 (.slice A8 (rs.length + 1) c8)
    have hm9:=HM8.out.box HR8.out.box (by decide) (by decide) (by decide) 0 (.slice A8 (rs.length + 1) c8)
    refine hK.out _ _ (trivial) (fun hHeld => ?_)
    clear hK K
    (try simp only [Act.put,Q3,Q4,Q5])
    refine wpAnyH_done (by kernel_rfl) ?_ _
    have HBB : Hid (RoomsX L (N + 1) (rs ++ [(⟨x,l7,A7,c7⟩ : RoomE)])):=Lib.hid (HB.out.app HTL.out HSU.out)
    have HR9:=Lib.hid hr9
    have HM9:=Lib.hid hm9
    have hrl : (rs ++ [(⟨x,l7,A7,c7⟩ : RoomE)]).length = rs.length + 1:=by simp
    have HRL:=Lib.hid hrl
    clear hr9 hm9 hrl m0 f0
    go_wp2_with fail
    go_roundw
    case rel => exact ⟨A8,c8,rs ++ [(⟨x,l7,A7,c7⟩ : RoomE)],by rw [HRL.out]; omega,by rw [HRL.out]; go_num,by rw [HRL.out]; exact (by simpa using HR9.out.cast (show N + 1 + 3 * rs.length + 3 = N + 1 + 3 * (rs.length + 1) by omega)),HM9.out,HBB⟩
    case measure => simp [intOf]; omega
   case refine_2 =>
    go_simp
    go_at_call 20
    refine (thingList_ex g _ L 6 _ hrd.s (by omega) (by omega)).mono ?_
    rintro e w7 ⟨A7,c7,l7,rfl,ho7,hl7,hb7,hsu7,hs7,hg7⟩
    replace hrd:=hrd.str hlt (by omega) hs7 hg7
    replace hmd:=hmd.grown hg7 (by omega)
    have zm7:=hrd.box.lt
    have zz7:=hg7.size
    have hlo : LstO w7 (mb + 1) (A7,l7,c7):=own_weak ho7 (show mb + 1 ≤ _ by simp; omega)
    have HSU:=Lib.hid hsu7
    have m0:=hrd.box.cell 0
    simp only [Q0,Q2,Q1] at m0
    clear ho7 hb7 hsu7 hs7 hg7
    go_wp2_with fail
    refine hK.out _ _ (trivial) (fun hHeld => ?_)
    clear hK K
    (try simp only [Act.put,Q3,Q4,Q5])
    (refine QT (i:=5) (v:=?_) (by (simp only [Q0,Q1,Q2]; rfl)) (by kernel_rfl) (by exact fun _ _ _ h => h) (by rfl) ?_ (by assumption) ?_; (rotate_left 1; (intro w hSw; (try dsimp only at hSw); go_simp); (try with_reducible rfl)); (try simp only [Act.put,Q3,Q4,Q5]))
    refine wpAnyH_ready (rs:=[1,6]) (by kernel_rfl) (by simp) ?_
    refine AllReadyH.cons rfl (fun K hK => ?_) (AllReadyH.cons rfl (fun K hK => ?_) AllReadyH.nil)
    case refine_1 =>
     go_simp
     refine hK.out _ _ (trivial) (fun hHeld => ?_)
     clear hK K
     (try simp only [Act.put,Q3,Q4,Q5])
     refine wpAnyH_ready (rs:=[6]) (by kernel_rfl) (by simp) ?_
     refine AllReadyH.cons rfl (fun K hK => ?_) AllReadyH.nil
     go_simp
     replace hrd:=hrd.alloc (.cells #[.string ⟨x.toArray⟩,.slice A7 l7.length c7] 60)
     replace hmd:=hmd.alloc (.cells #[.string ⟨x.toArray⟩,.slice A7 l7.length c7] 60)
     replace hlo:=hlo.alloc (.cells #[.string ⟨x.toArray⟩,.slice A7 l7.length c7] 60)
     have m0:=hrd.box.cell 0
     simp only [Q0,Q2,Q1] at m0
     refine hK.out _ _ (trivial) (fun hHeld => ?_)
     clear hK K
     (try simp only [Act.put,Q3,Q4,Q5])
     refine wpAnyH_ready (rs:=[7]) (by kernel_rfl) (by simp) ?_
     refine AllReadyH.cons rfl (fun K hK => ?_) AllReadyH.nil
     refine step_app (lo:=mb + 1) (base:=mb + 1) (n:=rs.length) (xs:=rs.flatMap encR) _ rfl _ _ ty_roomz rfl hmd.rooms rfl (by first | exact row_new' _ (by first | rfl | simp) (by first | omega | (simp; omega)) rfl | exact row_newN _ _ (by first | rfl | simp) (by first | omega | (simp; omega)) rfl | exact row_newD _ (by first | rfl | simp) (by first | omega | (simp; omega)) rfl) rfl rfl (by omega) (by omega) (by first | omega | (simp; omega)) ?_
     intro A8 c8 w8 hown8 hg8 _
     have hown8 : w8.ownsRow (mb + 1) 60 2 (.slice A8 (rs ++ [(⟨x,l7,A7,c7⟩ : RoomE)]).length c8) (rs ++ [(⟨x,l7,A7,c7⟩ : RoomE)]).length ((rs ++ [(⟨x,l7,A7,c7⟩ : RoomE)]).flatMap encR):=by simpa [encR,encStr] using hown8
     have HR8:=Lib.hid (hrd.app hmd.rooms hg8 (by omega) (by omega) (by decide) (by decide))
     have HM8:=Lib.hid (hmd.appR hg8 hown8 hlo)
     have m0:=HR8.out.box.cell 0
     simp only [Q0,Q2,Q1] at m0
     have f0:=HR8.out.box.thaw 0
     have z8:=HR8.out.box.lt
     clear hown8 hg8 hrd hmd hlo
     refine hK.out _ _ (trivial) (fun hHeld => ?_)
     clear hK K
     (try simp only [Act.put,Q3,Q4,Q5])
     (refine QT (i:=8) (v:=?_) (by (simp only [Q0,Q1,Q2]; rfl)) (by kernel_rfl) (by exact fun _ _ _ h => h) (by rfl) ?_ (by assumption) ?_; (rotate_left 1; (intro w hSw; (try dsimp only at hSw); go_simp); (try with_reducible rfl)); (try simp only [Act.put,Q3,Q4,Q5]))
     refine wpAnyH_ready (rs:=[9]) (by kernel_rfl) (by simp) ?_
     refine AllReadyH.cons rfl (fun K hK => ?_) AllReadyH.nil
     go_simp
     have hr9:=HR8.out.set hlt hmb 0 (.slice A8 (rs.length + 1) c8)
     have hm9:=HM8.out.box HR8.out.box (by decide) (by decide) (by decide) 0 (.slice A8 (rs.length + 1) c8)
     refine hK.out _ _ (trivial) (fun hHeld => ?_)
     clear hK K
     (try simp only [Act.put,Q3,Q4,Q5])
     refine wpAnyH_done (by kernel_rfl) ?_ _
     have HBB : Hid (RoomsX L (N + 1) (rs ++ [(⟨x,l7,A7,c7⟩ : RoomE)])):=Lib.hid (HB.out.app HTL.out HSU.out)
     have HR9:=Lib.hid hr9
     have HM9:=Lib.hid hm9
     have hrl : (rs ++ [(⟨x,l7,A7,c7⟩ : RoomE)]).length = rs.length + 1:=by simp
     have HRL:=Lib.hid hrl
     clear hr9 hm9 hrl m0 f0
     go_wp2_with fail
     go_roundw
     case rel => exact ⟨A8,c8,rs ++ [(⟨x,l7,A7,c7⟩ : RoomE)],by rw [HRL.out]; omega,by rw [HRL.out]; go_num,by rw [HRL.out]; exact (by simpa using HR9.out.cast (show N + 1 + 3 * rs.length + 3 = N + 1 + 3 * (rs.length + 1) by omega)),HM9.out,HBB⟩
     case measure => simp [intOf]; omega
    case refine_2 =>
     go_simp
     replace hrd:=hrd.alloc (.cells #[.string ⟨x.toArray⟩,.slice A7 l7.length c7] 60)
     replace hmd:=hmd.alloc (.cells #[.string ⟨x.toArray⟩,.slice A7 l7.length c7] 60)
     replace hlo:=hlo.alloc (.cells #[.string ⟨x.toArray⟩,.slice A7 l7.length c7] 60)
     have m0:=hrd.box.cell 0
     simp only [Q0,Q2,Q1] at m0
     refine hK.out _ _ (trivial) (fun hHeld => ?_)
     clear hK K
     (try simp only [Act.put,Q3,Q4,Q5])
     refine wpAnyH_ready (rs:=[1]) (by kernel_rfl) (by simp) ?_
     refine AllReadyH.cons rfl (fun K hK => ?_) AllReadyH.nil
     go_simp
     refine hK.out _ _ (trivial) (fun hHeld => ?_)
     clear hK K
     (try simp only [Act.put,Q3,Q4,Q5])
     refine wpAnyH_ready (rs:=[7]) (by kernel_rfl) (by simp) ?_
     refine AllReadyH.cons rfl (fun K hK => ?_) AllReadyH.nil
     refine step_app (lo:=mb + 1) (base:=mb + 1) (n:=rs.length) (xs:=rs.flatMap encR) _ rfl _ _ ty_roomz rfl hmd.rooms rfl (by first | exact row_new' _ (by first | rfl | simp) (by first | omega | (simp; omega)) rfl | exact row_newN _ _ (by first | rfl | simp) (by first | omega | (simp; omega)) rfl | exact row_newD _ (by first | rfl | simp) (by first | omega | (simp; omega)) rfl) rfl rfl (by omega) (by omega) (by first | omega | (simp; omega)) ?_
     intro A8 c8 w8 hown8 hg8 _
     have hown8 : w8.ownsRow (mb + 1) 60 2 (.slice A8 (rs ++ [(⟨x,l7,A7,c7⟩ : RoomE)]).length c8) (rs ++ [(⟨x,l7,A7,c7⟩ : RoomE)]).length ((rs ++ [(⟨x,l7,A7,c7⟩ : RoomE)]).flatMap encR):=by simpa [encR,encStr] using hown8
     have HR8:=Lib.hid (hrd.app hmd.rooms hg8 (by omega) (by omega) (by decide) (by decide))
     have HM8:=Lib.hid (hmd.appR hg8 hown8 hlo)
     have m0:=HR8.out.box.cell 0
     simp only [Q0,Q2,Q1] at m0
     have f0:=HR8.out.box.thaw 0
     have z8:=HR8.out.box.lt
     clear hown8 hg8 hrd hmd hlo
     refine hK.out _ _ (trivial) (fun hHeld => ?_)
     clear hK K
     (try simp only [Act.put,Q3,Q4,Q5])
     (refine QT (i:=8) (v:=?_) (by (simp only [Q0,Q1,Q2]; rfl)) (by kernel_rfl) (by exact fun _ _ _ h => h) (by rfl) ?_ (by assumption) ?_; (rotate_left 1; (intro w hSw; (try dsimp only at hSw); go_simp); (try with_reducible rfl)); (try simp only [Act.put,Q3,Q4,Q5]))
     refine wpAnyH_ready (rs:=[9]) (by kernel_rfl) (by simp) ?_
     refine AllReadyH.cons rfl (fun K hK => ?_) AllReadyH.nil
     go_simp
     have hr9:=HR8.out.set hlt hmb 0 (.slice A8 (rs.length + 1) c8)
     have hm9:=HM8.out.box HR8.out.box (by decide) (by decide) (by decide) 0 (.slice A8 (rs.length + 1) c8)
     refine hK.out _ _ (trivial) (fun hHeld => ?_)
     clear hK K
     (try simp only [Act.put,Q3,Q4,Q5])
     refine wpAnyH_done (by kernel_rfl) ?_ _
     have HBB : Hid (RoomsX L (N + 1) (rs ++ [(⟨x,l7,A7,c7⟩ : RoomE)])):=Lib.hid (HB.out.app HTL.out HSU.out)
     have HR9:=Lib.hid hr9
     have HM9:=Lib.hid hm9
     have hrl : (rs ++ [(⟨x,l7,A7,c7⟩ : RoomE)]).length = rs.length + 1:=by simp
     have HRL:=Lib.hid hrl
     clear hr9 hm9 hrl m0 f0
     go_wp2_with fail
     go_roundw
     case rel => exact ⟨A8,c8,rs ++ [(⟨x,l7,A7,c7⟩ : RoomE)],by rw [HRL.out]; omega,by rw [HRL.out]; go_num,by rw [HRL.out]; exact (by simpa using HR9.out.cast (show N + 1 + 3 * rs.length + 3 = N + 1 + 3 * (rs.length + 1) by omega)),HM9.out,HBB⟩
     case measure => simp [intOf]; omega
  ·have hke : rs.length = n:=by omega
   have HKE:=Lib.hid hke
   have hrs5 : rs.length ≤ 5:=by omega
   clear hke hk
   go_wp2_with fail
   refine (range_exx g _ L _ _ _ hr.s (by omega) (by omega) (by omega) (by omega)).mono ?_
   rintro e w3 ⟨r3,rfl,h0,h1,⟨hs3,HRG2⟩,hg3⟩
   obtain ⟨m2,rfl⟩:=Int.eq_ofNat_of_zero_le (show 0 ≤ r3 by omega)
   have hr3 : RmX sB L w w3 g (N + 2 + 3 * rs.length) mb #[.slice A5 rs.length c5,.slice none 0 0,.string ⟨#[]⟩,.string ⟨#[]⟩]:=(hr.str hlt (by omega) hs3 hg3).cast (by omega)
   have hm3:=hm.grown hg3 (by omega)
   have h9 : m2 ≤ 9:=by omega
   have h1m : 1 ≤ m2:=by omega
   clear hr hm hs3 hg3 h0 h1
   go_wp2_with fail
   go_loopw [31] (fun i wr => ∃ (D5 : Option Addr) (d5 : Nat) (ds : List DoorE),ds.length ≤ m2 ∧ i = .int .i64 ds.length ∧ RmX sB L w wr g (N + 2 + 3 * rs.length + 10 * ds.length) mb #[.slice A5 rs.length c5,.slice D5 ds.length d5,.string ⟨#[]⟩,.string ⟨#[]⟩] ∧ MapO wr (mb + 1) A5 c5 rs D5 d5 ds ∧ Hid (DoorsX L (N + 2 + 3 * rs.length) n ds)) (fun i _ => m2 - (intOf i).toNat)
   case atStart => exact ⟨none,0,[],by simp,rfl,hr3,hm3,Lib.hid (fun k h => absurd h (by simp))⟩
   case round =>
    clear hr3 hm3 zmb
    obtain ⟨D5,d5,ds,hk,rfl,hr,hm,HD⟩:=hrel
    have zmb:=hr.box.lt
    by_cases hkn : ds.length < m2
    ·go_wp2_with fail
     refine (itoa9_any ds.length (by omega) _).mono ?_
     rintro e w4 ⟨s,rfl,hsl,rfl⟩
     have hcc : ¬ (9223372036854775807 < 1 + s.length):=by rw [hsl]; simp
     obtain ⟨key,hkey,hkl⟩ : ∃ key : List UInt8,(⟨#[100]⟩ ++ ⟨s.toArray⟩ : ByteArray) = ⟨key.toArray⟩ ∧ key = [100,UInt8.ofNat (48 + ds.length)]:=⟨100 :: s,by apply ByteArray.ext; simp [ByteArray.data_append],by rw [hsl]⟩
     have HKL:=Lib.hid hkl
     have HKY:=Lib.hid hkey
     clear hkey hkl hsl
     go_wp2_with fail
     simp only [HKY.out]
     have hkk:=hr.nm
     refine (some_namesX g _ (w.heap.size + 1) n _ hr.s (by omega) hr.nm (by omega) (by omega) hn5').mono ?_
     rintro e w5 ⟨src,rfl,hsrc,hs5,hg5⟩
     clear hkk hcc
     have HSRC:=Lib.hid hsrc
     clear hsrc
     replace hr:=hr.str hlt (by omega) hs5 hg5
     replace hm:=hm.grown hg5 (by omega)
     clear hs5 hg5
     go_wp2_with fail
     refine (some_namesX g _ (w.heap.size + 1) n _ hr.s (by omega) hr.nm (by omega) (by omega) hn5').mono ?_
     rintro e w6 ⟨dst,rfl,hdst,hs6,hg6⟩
     replace hr:=hr.str hlt (by omega) hs6 hg6
     replace hm:=hm.grown hg6 (by omega)
     clear hs6 hg6
     have HDST:=Lib.hid hdst
     clear hdst
     go_wp2_with fail
     refine (pick_exx g _ _ L _ _ [1,2,3,3,5,9] _ (hr.s.alloc _) (by omega) (row_new _ _ _ _ _ _ (Nat.le_refl _) rfl) hr.s.lt (by simp) (by simp)).mono ?_
     rintro e w7 ⟨tm,rfl,htm,⟨hs7,HPK⟩,hg7⟩
     have HTM:=Lib.hid (And.intro htm HPK.out)
     replace hr:=(hr.alloc (.cells #[.int .i64 1,.int .i64 2,.int .i64 3,.int .i64 3,.int .i64 5,.int .i64 9] 3)).str hlt (by omega) hs7 hg7
     replace hm:=(hm.alloc (.cells #[.int .i64 1,.int .i64 2,.int .i64 3,.int .i64 3,.int .i64 5,.int .i64 9] 3)).grown hg7 (by omega)
     clear hs7 hg7 htm HPK
     have zmb7:=hr.box.lt
     have hdb:=Blk.new w7 65 #[.string ⟨key.toArray⟩,.string ⟨src.toArray⟩,.string ⟨dst.toArray⟩,.int .i64 tm,.slice none 0 0,.slice none 0 0,.string ⟨#[]⟩]
     have hdo : Hid (∀ b,(Value.slice D5 ds.length d5).ownBlock = some b → b ≠ w7.heap.size):=Lib.hid (fun b hb => Nat.ne_of_lt (hm.doors.lt b hb).2)
     have hdm : mb < w7.heap.size:=zmb7
     have hgm : g < w7.heap.size:=hr.s.lt
     replace hr:=hr.alloc (.cells #[.string ⟨key.toArray⟩,.string ⟨src.toArray⟩,.string ⟨dst.toArray⟩,.int .i64 tm,.slice none 0 0,.slice none 0 0,.string ⟨#[]⟩] 65)
     replace hm:=hm.alloc (.cells #[.string ⟨key.toArray⟩,.string ⟨src.toArray⟩,.string ⟨dst.toArray⟩,.int .i64 tm,.slice none 0 0,.slice none 0 0,.string ⟨#[]⟩] 65)
     go_upto_region 12 with (fail)
     generalize w7.alloc (.cells #[.string ⟨key.toArray⟩,.string ⟨src.toArray⟩,.string ⟨dst.toArray⟩,.int .i64 tm,.slice none 0 0,.slice none 0 0,.string ⟨#[]⟩] 65) = w8 at *
     generalize w7.heap.size = db at *
     go_wp2_with fail
     refine (thingList_ex g _ L 6 _ hr.s (by omega) (by omega)).mono ?_
     rintro e w9 ⟨A7,c7,l7,rfl,ho7,hl7,-,hb7,hs7,hg7⟩
     replace hr:=hr.str hlt (by omega) hs7 hg7
     replace hm:=hm.grown hg7 (by omega)
     have zz8:=hdb.lt
     replace hdb:=hdb.grown hg7 (by omega)
     have hlo7 : LstO w9 (mb + 1) (A7,l7,c7):=own_weak ho7 (by omega)
     have HB7:=Lib.hid hb7
     clear ho7 hs7 hg7 hb7 zz8
     go_wp2_with fail
     refine (thingList_ex g _ L 9 _ hr.s (by omega) (by omega)).mono ?_
     rintro e w10 ⟨A8,c8,l8,rfl,ho8,hl8,-,hb8,hs8,hg8⟩
     replace hr:=hr.str hlt (by omega) hs8 hg8
     replace hm:=hm.grown hg8 (by omega)
     have zz8:=hdb.lt
     replace hdb:=hdb.grown hg8 (by omega)
     have hlo8 : LstO w10 (mb + 1) (A8,l8,c8):=own_weak ho8 (by omega)
     replace hlo7 : LstO w10 (mb + 1) (A7,l7,c7):=own_grown hlo7 hg8 (by omega)
     have HB8:=Lib.hid hb8
     clear ho8 hs8 hg8 hb8 zz8
     obtain ⟨q0,q1,q2,q3,q4,q5,q6⟩:=hdb.w7
     have f4:=hdb.thaw 4
     have f5:=hdb.thaw 5
     have zdb:=hdb.lt
     have hr2:=(hr.setX hdm hmb hlt 4 (.slice A7 l7.length c7)).setX hdm hmb hlt 5 (.slice A8 l8.length c8)
     have hdb1:=hdb.poke 4 (.slice A7 l7.length c7)
     have hdb2:=hdb1.poke 5 (.slice A8 l8.length c8)
     have hm2:=(hm.setDb hdb hdo.out 4 (.slice A7 l7.length c7)).setDb hdb1 hdo.out 5 (.slice A8 l8.length c8)
     have hlo72 : LstO ((w10.setCell ⟨db,4,none⟩ (.slice A7 l7.length c7)).setCell ⟨db,5,none⟩ (.slice A8 l8.length c8)) (mb + 1) (A7,l7,c7):=own_past (own_past hlo7 hdb (by decide) 4 _) hdb1 (by decide) 5 _
     have hlo82 : LstO ((w10.setCell ⟨db,4,none⟩ (.slice A7 l7.length c7)).setCell ⟨db,5,none⟩ (.slice A8 l8.length c8)) (mb + 1) (A8,l8,c8):=own_past (own_past hlo8 hdb (by decide) 4 _) hdb1 (by decide) 5 _
     clear hr hdb hm hlo7 hlo8 hdb1
     go_upto_region 13 with (fail)
     generalize ((w10.setCell ⟨db,4,none⟩ (.slice A7 l7.length c7)).setCell ⟨db,5,none⟩ (.slice A8 l8.length c8)) = w11 at *
     have hdb2 : Blk w11 db 65 #[.string ⟨key.toArray⟩,.string ⟨src.toArray⟩,.string ⟨dst.toArray⟩,.int .i64 tm,.slice A7 l7.length c7,.slice A8 l8.length c8,.string ⟨#[]⟩]:=by simpa using hdb2
     clear q0 q1 q2 q3 q4 q5 q6 f4 f5 zdb
     have zdb:=hdb2.lt
     go_wp2_with fail
     refine (some_litX g _ w11.heap.size #[.string ⟨#[]⟩,.string ⟨#[]⟩,.string ⟨#[]⟩,.string ⟨#[99,108,105,112]⟩,.string ⟨#[106,117,109,112]⟩,.string ⟨#[119,97,114,112]⟩] [[],[],[],[99,108,105,112],[106,117,109,112],[119,97,114,112]] _ (hr2.s.alloc _) (by omega) (Blk.new _ _ _) rfl hr2.s.lt (by decide) (by decide)).mono ?_
     rintro e w12 ⟨trk,rfl,htrk,hs12,hg12⟩
     replace hr2:=(hr2.alloc (.cells #[.string ⟨#[]⟩,.string ⟨#[]⟩,.string ⟨#[]⟩,.string ⟨#[99,108,105,112]⟩,.string ⟨#[106,117,109,112]⟩,.string ⟨#[119,97,114,112]⟩] 9)).str hlt (by omega) hs12 hg12
     replace hm2:=(hm2.alloc (.cells #[.string ⟨#[]⟩,.string ⟨#[]⟩,.string ⟨#[]⟩,.string ⟨#[99,108,105,112]⟩,.string ⟨#[106,117,109,112]⟩,.string ⟨#[119,97,114,112]⟩] 9)).grown hg12 (by omega)
     replace hdb2:=(hdb2.alloc (.cells #[.string ⟨#[]⟩,.string ⟨#[]⟩,.string ⟨#[]⟩,.string ⟨#[99,108,105,112]⟩,.string ⟨#[106,117,109,112]⟩,.string ⟨#[119,97,114,112]⟩] 9)).grown hg12 (by omega)
     replace hlo72 : LstO w12 (mb + 1) (A7,l7,c7):=own_grown (hlo72.alloc (.cells #[.string ⟨#[]⟩,.string ⟨#[]⟩,.string ⟨#[]⟩,.string ⟨#[99,108,105,112]⟩,.string ⟨#[106,117,109,112]⟩,.string ⟨#[119,97,114,112]⟩] 9)) hg12 (by omega)
     replace hlo82 : LstO w12 (mb + 1) (A8,l8,c8):=own_grown (hlo82.alloc (.cells #[.string ⟨#[]⟩,.string ⟨#[]⟩,.string ⟨#[]⟩,.string ⟨#[99,108,105,112]⟩,.string ⟨#[106,117,109,112]⟩,.string ⟨#[119,97,114,112]⟩] 9)) hg12 (by omega)
     have HTRK:=Lib.hid htrk
     clear hs12 hg12 htrk
     obtain ⟨q0,q1,q2,q3,q4,q5,q6⟩:=hdb2.w7
     have f6:=hdb2.thaw 6
     have zdb12:=hdb2.lt
     have hr3:=hr2.setX hdm hmb hlt 6 (.string ⟨trk.toArray⟩)
     have hdb3:=hdb2.poke 6 (.string ⟨trk.toArray⟩)
     have hm3:=hm2.setDb hdb2 hdo.out 6 (.string ⟨trk.toArray⟩)
     have hlo73 : LstO (w12.setCell ⟨db,6,none⟩ (.string ⟨trk.toArray⟩)) (mb + 1) (A7,l7,c7):=own_past hlo72 hdb2 (by decide) 6 _
     have hlo83 : LstO (w12.setCell ⟨db,6,none⟩ (.string ⟨trk.toArray⟩)) (mb + 1) (A8,l8,c8):=own_past hlo82 hdb2 (by decide) 6 _
     clear hr2 hdb2 hm2 hlo72 hlo82
     go_upto_region 14 with (fail)
     generalize (w12.setCell ⟨db,6,none⟩ (.string ⟨trk.toArray⟩)) = w13 at *
     have hdb3 : Blk w13 db 65 #[.string ⟨key.toArray⟩,.string ⟨src.toArray⟩,.string ⟨dst.toArray⟩,.int .i64 tm,.slice A7 l7.length c7,.slice A8 l8.length c8,.string ⟨trk.toArray⟩]:=by simpa using hdb3
     clear q0 q1 q2 q3 q4 q5 q6 f6 zdb zdb12
     obtain ⟨q0,q1,q2,q3,q4,q5,q6⟩:=hdb3.w7
     have zdb:=hdb3.lt
     obtain ⟨m0,m1⟩ : _ ∧ _:=⟨hr3.box.cell 0,hr3.box.cell 1⟩
     simp only [Q0,Q2,Q1] at m0 m1
     have hrA:=hr3.alloc (.cells #[.string ⟨key.toArray⟩,.string ⟨src.toArray⟩,.string ⟨dst.toArray⟩,.int .i64 tm,.slice A7 l7.length c7,.slice A8 l8.length c8,.string ⟨trk.toArray⟩] 65)
     have hmA:=hm3.alloc (.cells #[.string ⟨key.toArray⟩,.string ⟨src.toArray⟩,.string ⟨dst.toArray⟩,.int .i64 tm,.slice A7 l7.length c7,.slice A8 l8.length c8,.string ⟨trk.toArray⟩] 65)
     have hlA : LstO (w13.alloc (.cells #[.string ⟨key.toArray⟩,.string ⟨src.toArray⟩,.string ⟨dst.toArray⟩,.int .i64 tm,.slice A7 l7.length c7,.slice A8 l8.length c8,.string ⟨trk.toArray⟩] 65)) (mb + 1) (A7,l7,c7):=hlo73.alloc _
     have hlB : LstO (w13.alloc (.cells #[.string ⟨key.toArray⟩,.string ⟨src.toArray⟩,.string ⟨dst.toArray⟩,.int .i64 tm,.slice A7 l7.length c7,.slice A8 l8.length c8,.string ⟨trk.toArray⟩] 65)) (mb + 1) (A8,l8,c8):=hlo83.alloc _
     have HDB : Hid (DoorX L (N + 2 + 3 * rs.length) n ds.length (⟨key,src,dst,tm,l7,l8,trk,A7,c7,A8,c8⟩ : DoorE)):=Lib.hid ⟨HKL.out,HSRC.out,HDST.out,HTM.out,HB7.out,HB8.out,HTRK.out⟩
     go_wp2_with (at_builtin; go_must (refine wpList_app (lo:=mb + 1) (base:=mb + 1) (n:=ds.length) (xs:=ds.flatMap encD) _ _ rfl _ _ ty_doorm rfl hmA.doors rfl (by first | exact row_new' _ (by first | rfl | simp) (by first | omega | (simp; omega)) rfl | exact row_newN _ _ (by first | rfl | simp) (by first | omega | (simp; omega)) rfl | exact row_newD _ (by first | rfl | simp) (by first | omega | (simp; omega)) rfl) rfl rfl (by omega) (by omega) (by first | omega | (simp; omega)) ?_))
     intro D9 d9 w14 hown9 hg9 _
     have hown9 : w14.ownsRow (mb + 1) 65 7 (.slice D9 (ds ++ [(⟨key,src,dst,tm,l7,l8,trk,A7,c7,A8,c8⟩ : DoorE)]).length d9) (ds ++ [(⟨key,src,dst,tm,l7,l8,trk,A7,c7,A8,c8⟩ : DoorE)]).length ((ds ++ [(⟨key,src,dst,tm,l7,l8,trk,A7,c7,A8,c8⟩ : DoorE)]).flatMap encD):=by simpa [encD,encStr] using hown9
     have HR9:=Lib.hid (hrA.app hmA.doors hg9 (by omega) (by omega) (by decide) (by decide))
     have HM9:=Lib.hid (hmA.appD hg9 hown9 hlA hlB)
     have HDD : Hid (DoorsX L (N + 2 + 3 * rs.length) n (ds ++ [(⟨key,src,dst,tm,l7,l8,trk,A7,c7,A8,c8⟩ : DoorE)])):=Lib.hid (HD.out.app HDB.out)
     have hdl : (ds ++ [(⟨key,src,dst,tm,l7,l8,trk,A7,c7,A8,c8⟩ : DoorE)]).length = ds.length + 1:=by simp
     have HDL:=Lib.hid hdl
     have t1:=HR9.out.box.cell 1
     simp only [Q0,Q2,Q1] at t1
     have f1:=HR9.out.box.thaw 1
     have z9:=HR9.out.box.lt
     have HR10:=Lib.hid (HR9.out.set hlt hmb 1 (.slice D9 (ds.length + 1) d9))
     have HM10:=Lib.hid (HM9.out.box HR9.out.box (by decide) (by decide) (by decide) 1 (.slice D9 (ds.length + 1) d9))
     clear hown9 hg9 hrA hmA hlA hlB hr3 hm3 hlo73 hlo83 hdb3 q0 q1 q2 q3 q4 q5 q6 m0 m1 hdl
     go_wp2_with fail
     go_roundw
     case rel => exact ⟨D9,d9,ds ++ [(⟨key,src,dst,tm,l7,l8,trk,A7,c7,A8,c8⟩ : DoorE)],by rw [HDL.out]; omega,by rw [HDL.out]; go_num,by rw [HDL.out]; exact (by simpa using HR10.out.cast (show _ = N + 2 + 3 * rs.length + 10 * (ds.length + 1) by omega)),HM10.out,HDD⟩
     case measure => simp [intOf]; omega
    ·have hke : ds.length = m2:=by omega
     have HKE2:=Lib.hid hke
     have hds9 : ds.length ≤ 9:=by omega
     have hds1 : 1 ≤ ds.length:=by omega
     have hrs1 : 2 ≤ rs.length:=by rw [HKE.out]; omega
     clear hke hk
     go_wp2_with fail
     refine (some_namesX g _ (w.heap.size + 1) n _ hr.s (by omega) hr.nm (by omega) (by omega) hn5').mono ?_
     rintro e w5 ⟨st,rfl,hst,hs5,hg5⟩
     replace hr:=hr.str hlt (by omega) hs5 hg5
     replace hm:=hm.grown hg5 (by omega)
     have HST:=Lib.hid hst
     clear hs5 hg5 hst
     go_wp2_with fail
     refine (some_namesX g _ (w.heap.size + 1) n _ hr.s (by omega) hr.nm (by omega) (by omega) hn5').mono ?_
     rintro e w6 ⟨gl,rfl,hgl,hs6,hg6⟩
     have HGL:=Lib.hid hgl
     clear hgl
     replace hr:=hr.str hlt (by omega) hs6 hg6
     replace hm:=hm.grown hg6 (by omega)
     clear hs6 hg6
     obtain ⟨m0,m1,m2',m3⟩ : _ ∧ _ ∧ _ ∧ _:=⟨hr.box.cell 0,hr.box.cell 1,hr.box.cell 2,hr.box.cell 3⟩
     simp only [Q0,Q2,Q1] at m0 m1 m2' m3
     have f2:=hr.box.thaw 2
     have f3:=hr.box.thaw 3
     have zb:=hr.box.lt
     have hr2:=(hr.set hlt hmb 2 (.string ⟨st.toArray⟩)).set hlt hmb 3 (.string ⟨gl.toArray⟩)
     have hm2:=(hm.box hr.box (by decide) (by decide) (by decide) 2 (.string ⟨st.toArray⟩)).box (hr.set hlt hmb 2 (.string ⟨st.toArray⟩)).box (by decide) (by decide) (by decide) 3 (.string ⟨gl.toArray⟩)
     clear hr hm
     go_upto_region 17 with (fail)
     generalize ((w6.setCell ⟨mb,2,none⟩ (.string ⟨st.toArray⟩)).setCell ⟨mb,3,none⟩ (.string ⟨gl.toArray⟩)) = w7 at *
     clear m0 m1 m2' m3 f2 f3 zb
     obtain ⟨m0,m1,m2',m3⟩ : _ ∧ _ ∧ _ ∧ _:=⟨hr2.box.cell 0,hr2.box.cell 1,hr2.box.cell 2,hr2.box.cell 3⟩
     simp at m0 m1 m2' m3
     obtain ⟨r0,r1,r2,r3⟩ : _ ∧ _ ∧ _ ∧ _:=⟨hr2.res.cell 0,hr2.res.cell 1,hr2.res.cell 2,hr2.res.cell 3⟩
     simp only [Q0,Q2,Q1] at r0 r1 r2 r3
     have f0:=hr2.res.thaw 0
     have f1:=hr2.res.thaw 1
     have f2:=hr2.res.thaw 2
     have f3:=hr2.res.thaw 3
     have zr:=hr2.res.lt
     have hz:=(((hr2.res.poke 0 (.slice A5 rs.length c5)).poke 1 (.slice D5 ds.length d5)).poke 2 (.string ⟨st.toArray⟩)).poke 3 (.string ⟨gl.toArray⟩)
     have HMF:=Lib.hid (((((hm2.setOff (p:=⟨w.heap.size,0,none⟩) (by simp; omega) (.slice A5 rs.length c5)).setOff (p:=⟨w.heap.size,1,none⟩) (by simp; omega) (.slice D5 ds.length d5)).setOff (p:=⟨w.heap.size,2,none⟩) (by simp; omega) (.string ⟨st.toArray⟩)).setOff (p:=⟨w.heap.size,3,none⟩) (by simp; omega) (.string ⟨gl.toArray⟩)).weak (show w.heap.size ≤ mb + 1 by omega))
     have HSF:=Lib.hid (((((hr2.s.set (p:=⟨w.heap.size,0,none⟩) (by simp; omega) (.slice A5 rs.length c5)).set (p:=⟨w.heap.size,1,none⟩) (by simp; omega) (.slice D5 ds.length d5)).set (p:=⟨w.heap.size,2,none⟩) (by simp; omega) (.string ⟨st.toArray⟩)).set (p:=⟨w.heap.size,3,none⟩) (by simp; omega) (.string ⟨gl.toArray⟩)))
     have HGF:=Lib.hid (grown_set_new (grown_set_new (grown_set_new (grown_set_new hr2.gr (p:=⟨w.heap.size,0,none⟩) (by simp) (.slice A5 rs.length c5)) (p:=⟨w.heap.size,1,none⟩) (by simp) (.slice D5 ds.length d5)) (p:=⟨w.heap.size,2,none⟩) (by simp) (.string ⟨st.toArray⟩)) (p:=⟨w.heap.size,3,none⟩) (by simp) (.string ⟨gl.toArray⟩))
     clear hm2 hr2
     go_wp2_with fail
     refine bodyPost_ret (res_map _ 2 _ _ w.heap.size _ _ st gl A5 D5 rs.length c5 ds.length d5 rfl rfl (by kernel_rfl) rfl (hz.cell 0) (hz.cell 1) (hz.cell 2) (hz.cell 3)) rfl ?_
     exact ⟨A5,c5,rs,D5,d5,ds,st,gl,rfl,HMF.out,HB.out,by have h:=HD.out; rw [HKE.out] at h ⊢; exact h,hrs1,hrs5,hds1,hds9,by have h:=HST.out; rw [HKE.out] at h ⊢; exact h,by have h:=HGL.out; rw [HKE.out] at h ⊢; exact h,⟨by rw [HKE.out]; exact HRG.out,by rw [HKE2.out]; exact HRG2.out⟩,HSF.out,HGF.out⟩
end Go.Proofs.YtpialnjfdbfkdaaGreatDoor
/- Drawn maps are right, plain. -/
namespace Go.Proofs.YtpialnjfdbfkdaaGreatDoor
open Go.RowKit Go.Sort

def thingsS : List (List (List UInt8)):=[[],[[103,117,110]],[[107,101,121]],[[109,97,112]],[[103,117,110],[107,101,121]],[[103,117,110],[109,97,112]],[[107,101,121],[109,97,112]],[[103,117,110],[107,101,121],[109,97,112]]]
theorem things_cases {l : List (List UInt8)} (h : l.Sublist thingsL) : l ∈ thingsS:=by
 unfold thingsL at h
 cases h <;> rename_i h <;> cases h <;> rename_i h <;> cases h <;> rename_i h <;> cases h <;> decide
theorem things_right0 {l : List (List UInt8)} (h : l.Sublist thingsL) : thingsE l = 0:=by
 have h1 : ∀ l ∈ thingsS,thingsE l = 0:=by decide
 exact h1 l (things_cases h)
theorem names_mem {n : Nat} {s : List UInt8} (h : s ∈ names5.take n) : ∃ k,k < n ∧ k < 5 ∧ s = names5.getD k []:=by
 obtain ⟨k,hk,e⟩:=List.mem_iff_getElem.1 h
 have hk' : k < n ∧ k < 5:=by simp [names5] at hk; omega
 refine ⟨k,hk'.1,hk'.2,?_⟩
 rw [List.getElem_take] at e
 rw [← e,List.getD_eq_getElem?_getD,List.getElem?_eq_getElem (show k < names5.length from hk'.2)]; rfl
theorem hasR_names {rs : List RoomE} (h : RoomsG rs) {s : List UInt8} (hs : s ∈ names5.take rs.length) : hasR rs s = true:=by
 obtain ⟨k,hk,_,e⟩:=names_mem hs
 unfold hasR
 rw [List.any_eq_true]
 exact ⟨rs[k],List.getElem_mem _,by rw [(h k hk).1,e]; simp⟩
theorem roomAt_G {rs : List RoomE} (h : RoomsG rs) (h5 : rs.length ≤ 5) {k : Nat} (hk : k < rs.length) : roomAt rs k = 0:=by
 have g : ∀ j (hj : j < rs.length),(rs.getD j default).key = names5.getD j [] ∧ (rs.getD j default).gives.Sublist thingsL:=fun j hj => by
  rw [List.getD_eq_getElem?_getD,List.getElem?_eq_getElem hj]; exact h j hj
 have d1 : ∀ j : Fin 5,keyB (names5.getD j.val []) = true:=by decide
 have d2 : ∀ j : Fin 5,0 < j.val → names5.getD (j.val - 1) [] < names5.getD j.val []:=by decide
 have e1:=d1 ⟨k,by omega⟩
 have e2:=d2 ⟨k,by omega⟩
 dsimp only at e1 e2
 unfold roomAt
 rw [(g k hk).1,e1]
 by_cases h0 : 0 < k
 ·rw [(g (k - 1) (by omega)).1,if_neg (by simp),if_neg (fun h => h.2 (e2 h0)),things_right0 (g k hk).2]
 ·rw [if_neg (by simp),if_neg (fun h => h0 h.1),things_right0 (g k hk).2]
theorem doorAt_G {rs : List RoomE} {ds : List DoorE} (hr : RoomsG rs) (h : DoorsG rs.length ds) (h9 : ds.length ≤ 9) {k : Nat} (hk : k < ds.length) : doorAt rs ds k = 0:=by
 have g : ∀ j (hj : j < ds.length),DoorG rs.length j (ds.getD j default):=fun j hj => by
  rw [List.getD_eq_getElem?_getD,List.getElem?_eq_getElem hj]; exact h j hj
 have d1 : ∀ j : Fin 9,keyB [100,UInt8.ofNat (48 + j.val)] = true:=by decide
 have d2 : ∀ j : Fin 9,0 < j.val → ([100,UInt8.ofNat (48 + (j.val - 1))] : List UInt8) < [100,UInt8.ofNat (48 + j.val)]:=by decide
 have d3 : ∀ x ∈ ([1,2,3,3,5,9] : List Int),¬ (x < 1 ∨ 864000000 < x):=by decide
 have d4 : ∀ s ∈ tricksG,¬ (s ≠ [] ∧ (!keyB s) = true):=by decide
 have e1:=d1 ⟨k,by omega⟩
 have e2:=d2 ⟨k,by omega⟩
 dsimp only at e1 e2
 have gk:=g k hk
 have e6 : firstE [thingsE (ds.getD k default).needs,thingsE (ds.getD k default).takes] = 0:=by
  rw [things_right0 gk.needs,things_right0 gk.takes]; rfl
 have e7 : ¬ (0 < k ∧ ¬ ((ds.getD (k - 1) default).key < (ds.getD k default).key)):=fun hh => by
  have:=e2 hh.1
  rw [gk.key,(g (k - 1) (by omega)).key] at hh
  exact hh.2 this
 unfold doorAt
 rw [if_neg (by rw [gk.key,e1]; simp),if_neg e7,if_neg (by rw [hasR_names hr gk.src,hasR_names hr gk.dst]; simp),if_neg (d3 _ gk.time),if_neg (by rw [e6]; simp),if_neg (d4 _ gk.trick)]
theorem once_short {l T : List (List UInt8)} (hT : T.Pairwise (· < ·)) (h : ∀ x ∈ l,x ∈ T) : (onceT l).length ≤ T.length:=by
 rw [once_filter hT h]; exact List.length_filter_le _ _
theorem mapE_G {rs : List RoomE} {ds : List DoorE} {st gl : List UInt8} (hr : RoomsG rs) (hd : DoorsG rs.length ds) (h5 : rs.length ≤ 5) (h9 : ds.length ≤ 9) (hst : st ∈ names5.take rs.length) (hgl : gl ∈ names5.take rs.length) : mapE rs ds st gl = 0:=by
 have e1 : roomsE rs = 0:=by unfold roomsE; rw [if_neg (by omega)]; exact scanF_none (fun j hj => roomAt_G hr h5 hj)
 have e2 : doorsE rs ds = 0:=by unfold doorsE; rw [if_neg (by omega)]; exact scanF_none (fun j hj => doorAt_G hr hd h9 hj)
 have e3 : (onceT (allT rs ds)).length ≤ 3:=once_short (T:=thingsL) (by decide) (fun x hx => by
  unfold allT at hx
  rw [List.mem_append,List.mem_flatMap,List.mem_flatMap] at hx
  rcases hx with ⟨r,hr',hx⟩ | ⟨d,hd',hx⟩
  ·obtain ⟨k,hk,rfl⟩:=List.mem_iff_getElem.1 hr'
   exact (hr k hk).2.subset hx
  ·obtain ⟨k,hk,rfl⟩:=List.mem_iff_getElem.1 hd'
   rcases List.mem_append.1 hx with h | h
   ·exact (hd k hk).needs.subset h
   ·exact (hd k hk).takes.subset h)
 have e4 : (onceT (allK ds)).length ≤ 3:=once_short (T:=[[99,108,105,112],[106,117,109,112],[119,97,114,112]]) (by decide) (fun x hx => by
  unfold allK at hx
  obtain ⟨d,hd',rfl⟩:=List.mem_map.1 hx
  obtain ⟨hd',hn⟩:=List.mem_filter.1 hd'
  obtain ⟨k,hk,rfl⟩:=List.mem_iff_getElem.1 hd'
  have h6 : ∀ s ∈ tricksG,s ≠ [] → s ∈ ([[99,108,105,112],[106,117,109,112],[119,97,114,112]] : List (List UInt8)):=by decide
  exact h6 _ (hd k hk).trick (by simpa using hn))
 unfold mapE
 rw [if_neg (by rw [e1]; simp),if_neg (by rw [e2]; simp),if_neg (by rw [hasR_names hr hst,hasR_names hr hgl]; simp),if_neg (by omega)]
end Go.Proofs.YtpialnjfdbfkdaaGreatDoor
