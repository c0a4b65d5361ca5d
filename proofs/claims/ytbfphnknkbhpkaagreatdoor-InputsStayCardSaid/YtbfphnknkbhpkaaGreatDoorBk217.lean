/- Texts of this seat, laid together: Ey Ez. -/
import Derived.Handy
import Derived.Test.YtbfphnknkbhpkaaGreatDoorBk201
import Derived.Test.YtbfphnknkbhpkaaGreatDoorBk203
import Derived.Test.YtbfphnknkbhpkaaGreatDoorBk210
/- Draws from a stream whose numbers are known: bounds and what is known of them. -/
namespace Go.Proofs.YtbfphnknkbhpkaaGreatDoor
set_option linter.unusedVariables false
set_option linter.unusedSimpArgs false
open Go.RowKit Go.Sort
variable {sB : Nat}

theorem range_exx (g k : Nat) (L : List Int) (lo hi : Int) (w : World) (hs : StrE w g sB L k) (hN : k < 4611686018427387904) (h0 : -1000000000000 ≤ lo) (h1 : hi ≤ 1000000000000) (hlh : lo ≤ hi) :
  Calls Tryz.prog 25 #[.pointer (some ⟨g,0,none⟩),.int .i64 lo,.int .i64 hi] w fun e w' => ∃ r : Int,e = .returned (.int .i64 r) ∧ lo ≤ r ∧ r ≤ hi ∧ (StrE w' g sB L (k + 1) ∧ Hid (rg L k lo hi = r)) ∧ w.grownBy w' (some g) :=
 (range_ex g k L lo hi w hs hN h0 h1 hlh).mono fun _ _ ⟨h,hs',hg⟩ => ⟨_,h,(rg_bd L k h0 h1 hlh).1,(rg_bd L k h0 h1 hlh).2,⟨hs',Lib.hid rfl⟩,hg⟩
theorem next_exx (g k : Nat) (L : List Int) (m : Int) (w : World) (hs : StrE w g sB L k) (hN : k < 4611686018427387904) (hm : m ≤ 9223372036854775807) :
  Calls Tryz.prog 27 #[.pointer (some ⟨g,0,none⟩),.int .i64 m] w fun e w' => ∃ r : Int,e = .returned (.int .i64 r) ∧ 0 ≤ r ∧ (1 ≤ m → r < m) ∧ r ≤ 9223372036854775807 ∧ (StrE w' g sB L (k + 1) ∧ Hid (nx L k m = r)) ∧ w.grownBy w' (some g) :=
 (next_ex g k L m w hs hN hm).mono fun _ _ ⟨h,hs',hg⟩ => ⟨_,h,(nx_bd L k m hm).1,(nx_bd L k m hm).2.1,(nx_bd L k m hm).2.2,⟨hs',Lib.hid rfl⟩,hg⟩
theorem flip_exx (g k : Nat) (L : List Int) (m : Int) (w : World) (hs : StrE w g sB L k) (hN : k < 4611686018427387904) (hm : m ≤ 9223372036854775807) :
  Calls Tryz.prog 28 #[.pointer (some ⟨g,0,none⟩),.int .i64 m] w fun e w' => ∃ r : Bool,e = .returned (.bool r) ∧ (StrE w' g sB L (k + 1) ∧ Hid (decide (nx L k m = 0) = r)) ∧ w.grownBy w' (some g) :=
 (flip_ex g k L m w hs hN hm).mono fun _ _ ⟨h,hs',hg⟩ => ⟨_,h,⟨hs',Lib.hid rfl⟩,hg⟩
theorem pick_exx (g k lo : Nat) (L : List Int) (A : Option Addr) (c : Nat) (zs : List Int) (w : World) (hs : StrE w g sB L k) (hN : k < 4611686018427387904) (hr : Row w lo 1 A zs.length (ints zs)) (hlo : g < lo) (hz : 0 < zs.length) (hz' : zs.length ≤ 1000000) :
  Calls Tryz.prog 26 #[.pointer (some ⟨g,0,none⟩),.slice A zs.length c] w fun e w' => ∃ r : Int,e = .returned (.int .i64 r) ∧ r ∈ zs ∧ (StrE w' g sB L (k + 1) ∧ Hid (pk L k zs = r)) ∧ w.grownBy w' (some g) :=
 (pick_ex g k lo L A c zs w hs hN hr hlo hz hz').mono fun _ _ ⟨h,hs',hg⟩ => ⟨_,h,pk_mem L k hz hz',⟨hs',Lib.hid rfl⟩,hg⟩
def sk (L : List Int) (k : Nat) (ss : List (List UInt8)) : List UInt8:=ss.getD (nx L k ss.length).toNat []
theorem some_exx (g k lo : Nat) (L : List Int) (A : Option Addr) (c : Nat) (ss : List (List UInt8)) (w : World) (hs : StrE w g sB L k) (hN : k < 4611686018427387904) (hr : Row w lo 1 A ss.length (strs ss)) (hlo : g < lo) (hz : 0 < ss.length) (hz' : ss.length ≤ 1000000) :
  Calls Tryz.prog 30 #[.pointer (some ⟨g,0,none⟩),.slice A ss.length c] w fun e w' => ∃ r : List UInt8,e = .returned (encStr r) ∧ r ∈ ss ∧ (StrE w' g sB L (k + 1) ∧ Hid (sk L k ss = r)) ∧ w.grownBy w' (some g):=by
 go_enter Tryz.func30,Tryz.ntmps30
 go_wp2_with fail
 refine (next_ex g k L _ _ hs hN (by omega)).mono ?_
 rintro e w' ⟨rfl,hs',hg⟩
 obtain ⟨h2,h3,h4⟩:=nx_bd L k ss.length (by omega)
 have h5:=h3 (by omega)
 have HP : Hid (sk L k ss = ss.getD (nx L k ss.length).toNat []):=Lib.hid rfl
 generalize nx L k ss.length = r at *
 obtain ⟨j,rfl⟩:=Int.eq_ofNat_of_zero_le h2
 have hk : j < ss.length:=by omega
 obtain ⟨b,off,rfl,hlb,hb,hc⟩:=(hr.grown hg hlo).str_at hk
 have HQ : Hid (sk L k ss = ss[j]):=Lib.hid (by rw [HP.out,Int.toNat_natCast,List.getD_eq_getElem?_getD,List.getElem?_eq_getElem hk]; rfl)
 clear h3
 go_wp2_with fail
 go_ret
 exact ⟨_,rfl,List.getElem_mem _,⟨hs',HQ⟩,hg⟩
end Go.Proofs.YtbfphnknkbhpkaaGreatDoor
/- The walk of the stream's function that draws a right input, over a stream whose numbers are known. -/
namespace Go.Proofs.YtbfphnknkbhpkaaGreatDoor
set_option linter.unusedVariables false
set_option linter.unusedSimpArgs false
open Go.RowKit
variable {sB : Nat}

def rpR (L : List Int) : Nat → List (Int × Int) → Nat → List (Int × Int) × Nat
 | 0,ps,K => (ps,K)
 | m + 1,ps,K => rpR L m (ps ++ [(pk L K [0,1,2,2,16,17,18,18,34],pk L (K + 1) [1,1,2,3,7,20])]) (K + 2)
def rpF (L : List Int) (K : Nat) : List (Int × Int) × Nat:=rpR L (rg L K 0 8).toNat [] (K + 1)
def RPiecesE (w : World) (g sB : Nat) (L : List Int) (K : Nat) (e : Ending) (w' : World) : Prop :=
 ∃ (A : Option Addr) (c : Nat) (ps : List (Int × Int)) (K' : Nat),e = .returned (.slice A ps.length c) ∧ w'.ownsRow w.heap.size 39 2 (.slice A ps.length c) ps.length (prs ps) ∧ ps.length ≤ 8 ∧ (∀ p ∈ ps,0 ≤ p.1 ∧ p.1 ≤ 63 ∧ 1 ≤ p.2 ∧ p.2 ≤ 20) ∧ rpF L K = (ps,K') ∧ K' ≤ K + 40 ∧ StrE w' g sB L K' ∧ w.grownBy w' (some g)
set_option maxHeartbeats 1000000 in
theorem rightPieces_ex (g N : Nat) (L : List Int) (w : World) (hs : StrE w g sB L N) (hN : N < 4611686018427387000) :
  Calls Tryz.prog 5 #[.pointer (some ⟨g,0,none⟩)] w (RPiecesE w g sB L N):=by
 have hlt:=hs.lt
 go_enter Tryz.func5,Tryz.ntmps5
 go_wp2_with fail
 refine (range_exx g N L _ _ _ hs (by omega) (by omega) (by omega) (by omega)).mono ?_
 rintro e w1 ⟨r,rfl,h0,h6,⟨hs1,hrg⟩,hg1⟩
 obtain ⟨m,rfl⟩:=Int.eq_ofNat_of_zero_le h0
 have HF0 : Hid (rpF L N = rpR L (m - 0) [] (N + 1 + 2 * 0)):=Lib.hid (by unfold rpF; rw [hrg.out]; rfl)
 clear hrg
 go_wp2_with fail
 go_loopw [3,6] (fun v i wr => ∃ (k : Nat) (A : Option Addr) (c : Nat) (ps : List (Int × Int)),k ≤ m ∧ i = .int .i64 k ∧ v = .slice A ps.length c ∧ wr.ownsRow w.heap.size 39 2 (.slice A ps.length c) ps.length (prs ps) ∧ ps.length ≤ k ∧ Hid (∀ p ∈ ps,0 ≤ p.1 ∧ p.1 ≤ 63 ∧ 1 ≤ p.2 ∧ p.2 ≤ 20) ∧ (StrE wr g sB L (N + 1 + 2 * k) ∧ Hid (rpF L N = rpR L (m - k) ps (N + 1 + 2 * k))) ∧ w.grownBy wr (some g)) (fun _ i _ => m - (intOf i).toNat)
 case atStart => exact ⟨0,none,0,[],by omega,rfl,rfl,World.ownsRow_nil _ _ _ _,by simp,Lib.hid (by simp),⟨hs1,HF0⟩,hg1⟩
 case round =>
  obtain ⟨k,A,c,ps,hk,rfl,rfl,hown,hpk,hall,⟨hsr,HF⟩,hgr⟩:=hrel
  by_cases hkm : k < m
  ·go_wp2_with fail
   refine (pick_exx g _ _ L _ _ [0,1,2,2,16,17,18,18,34] _ (hsr.alloc _) (by omega) (row_new _ _ _ _ _ _ (Nat.le_refl _) rfl) hsr.lt (by simp) (by simp)).mono ?_
   rintro e w3 ⟨r3,rfl,hr3,⟨hs3,hk3⟩,hg3⟩
   have hq3:=pick_held hr3
   clear hr3
   go_wp2_with fail
   refine (pick_exx g _ _ L _ _ [1,1,2,3,7,20] _ (hs3.alloc _) (by omega) (row_new _ _ _ _ _ _ (Nat.le_refl _) rfl) hs3.lt (by simp) (by simp)).mono ?_
   rintro e w4 ⟨r4,rfl,hr4,⟨hs4,hk4⟩,hg4⟩
   have hq4:=pick_frames hr4
   have HQ : Hid (∀ p ∈ ps ++ [(r3,r4)],0 ≤ p.1 ∧ p.1 ≤ 63 ∧ 1 ≤ p.2 ∧ p.2 ≤ 20):=Lib.hid (fun p hp => by
    rcases List.mem_append.1 hp with h | h
    ·exact hall.out p h
    ·simp at h; subst h; exact ⟨hq3.1,hq3.2,hq4.1,hq4.2⟩)
   have HFN : Hid (rpF L N = rpR L (m - (k + 1)) (ps ++ [(r3,r4)]) (N + 1 + 2 * (k + 1))):=Lib.hid (by
    rw [HF.out,show m - k = (m - (k + 1)) + 1 by omega,rpR,hk3.out,hk4.out]
    rfl)
   clear hk3 hk4 HF
   have hgr4:=grown_trans' (grown_alloc (grown_trans' (grown_alloc hgr _) hg3) _) hg4
   have hown4:=own_grown (own_grown hown (grown_trans' (World.grownBy_alloc _ _ _) hg3) hlt) (grown_trans' (World.grownBy_alloc _ _ _) hg4) hlt
   have z4:=hgr4.size
   clear hr4 hq3 hq4
   go_wp2_with (at_builtin; refine wpList_app _ _ rfl _ _ ty_prs rfl (hown4.alloc _) rfl (row_new _ _ _ w.heap.size 2 1 z4 rfl) rfl rfl (by omega) (by omega) (by simp; omega) ?_)
   intro A5 c5 w5 hown5 hg5 _
   go_wp2_with fail
   go_roundw
   case rel => exact ⟨k + 1,A5,c5,ps ++ [(r3,r4)],by omega,by go_num,by simp,by simpa [prs] using hown5,by simp; omega,HQ,⟨by have:=(hs4.alloc (.cells #[.int .i64 r3,.int .i64 r4] 39)).app (hown4.alloc (.cells #[.int .i64 r3,.int .i64 r4] 39)) hg5 hlt; exact this,HFN⟩,grown_app (grown_alloc hgr4 _) (hown4.alloc _) hg5 (Nat.le_refl _)⟩
   case measure => simp [intOf]; omega
  ·go_wp2_with fail
   refine bodyPost_ret (results_tmp rfl _ _ _) rfl ?_
   have HFE : rpF L N = (ps,N + 1 + 2 * k):=by rw [HF.out,show m - k = 0 by omega]; rfl
   exact ⟨A,c,ps,_,rfl,hown,by omega,hall.out,HFE,by omega,hsr,hgr⟩
end Go.Proofs.YtbfphnknkbhpkaaGreatDoor
