/- Texts of this seat, laid together: SrB SrC SrD SrE SrF. -/
import Derived.Handy
import Derived.Deep.DeepCutAuto
import Derived.Deep.CutRange
import Derived.Test.YtgeaeockmadhcaaGreatDoorBp27
import Derived.Test.YtgeaeockmadhcaaGreatDoorBp17
import Derived.Test.YtgeaeockmadhcaaGreatDoorBp28
import Derived.Test.YtgeaeockmadhcaaGreatDoorBp16
/- The walk of slices.symMergeCmpFunc over votes: two rows in order, side by side, become one in order. -/
namespace Go.Proofs.YtgeaeockmadhcaaGreatDoor
set_option linter.unusedVariables false
set_option linter.unusedSimpArgs false
open Go.RowKit Go.Sort

section
variable {w W W' : World} {base b c n : Nat} {us : List VoteE}
theorem SrtC.atS (h : SrtC w W base b c n us) {k : Nat} {x : VoteE} (hx : us[k]? = some x) : b < W.heap.size ∧ (W.cell? ⟨b,k * 4,none⟩ = some (.string ⟨x.run.toArray⟩) ∧ W.cell? ⟨b,k * 4 + 1,none⟩ = some (.string ⟨x.who.toArray⟩) ∧ W.cell? ⟨b,k * 4 + 2,none⟩ = some (.int .i64 x.at_) ∧ W.cell? ⟨b,k * 4 + 3,none⟩ = some (.int .i64 x.kind)) ∧ W.frozen? ⟨b,k * 4,none⟩ = false ∧ W.frozen? ⟨b,k * 4 + 1,none⟩ = false ∧ W.frozen? ⟨b,k * 4 + 2,none⟩ = false ∧ W.frozen? ⟨b,k * 4 + 3,none⟩ = false:=by
 obtain ⟨hk,rfl⟩:=List.getElem?_eq_some_iff.1 hx
 exact h.at hk
theorem SrtC.two (h : SrtC w W base b c n us) {i j : Nat} {x y : VoteE} (hx : us[i]? = some x) (hy : us[j]? = some y) : (W.cell? ⟨b,i * 4,none⟩ = some (.string ⟨x.run.toArray⟩) ∧ W.cell? ⟨b,i * 4 + 1,none⟩ = some (.string ⟨x.who.toArray⟩) ∧ W.cell? ⟨b,i * 4 + 2,none⟩ = some (.int .i64 x.at_) ∧ W.cell? ⟨b,i * 4 + 3,none⟩ = some (.int .i64 x.kind)) ∧ W.cell? ⟨b,j * 4,none⟩ = some (.string ⟨y.run.toArray⟩) ∧ W.cell? ⟨b,j * 4 + 1,none⟩ = some (.string ⟨y.who.toArray⟩) ∧ W.cell? ⟨b,j * 4 + 2,none⟩ = some (.int .i64 y.at_) ∧ W.cell? ⟨b,j * 4 + 3,none⟩ = some (.int .i64 y.kind):=⟨(h.atS hx).2.1,(h.atS hy).2.1⟩
end
def leV (x y : VoteE) : Prop:=¬ ltV y x
theorem leV_refl (x : VoteE) : leV x x:=ltV_irr x
theorem leV_tr (x y z : VoteE) (h1 : leV x y) (h2 : leV y z) : leV x z:=leV_trans x y z h1 h2
theorem leV_of {x y : VoteE} (h : ltV x y) : leV x y:=fun h2 => ltV_irr x (ltV_trans h h2)
theorem swapAt_comm {α : Type} (xs : List α) {i j : Nat} (h : i ≠ j) : swapAt xs i j = swapAt xs j i:=by
 unfold swapAt
 cases hi : xs[i]? <;> cases hj : xs[j]? <;> simp only
 exact List.set_comm _ _ h
def SymP (w0 : World) (base b c n : Nat) (L1 L3 z : List VoteE) (e : Ending) (w' : World) : Prop:=e = .returned (.tuple #[]) ∧ ∃ s : List VoteE,s.Perm z ∧ s.Pairwise leV ∧ SrtC w0 w' base b c n (L1 ++ (s ++ L3))
set_option maxHeartbeats 4000000 in
set_option maxRecDepth 100000 in
theorem symA_any (base b c n a m e : Nat) (L1 v L3 : List VoteE) (x : VoteE) (w0 w : World) (hC : SrtC w0 w base b c n (L1 ++ (x :: v ++ L3))) (hl : L1.length = a) (hm : m = a + 1) (hv : v.length = e - m) (hme : m < e) (hen : e ≤ n) (hn : n ≤ 1000) (hs : v.Pairwise leV) :
  Calls Tryz.prog 109 #[.slice (some ⟨b,0,none⟩) n c,.int .i64 a,.int .i64 m,.int .i64 e,FnV] w (SymP w0 base b c n L1 L3 (x :: v)):=by
 have e1 : (m : Int) - (a : Int) = 1:=by omega
 have HX : Hid ((L1 ++ (x :: v ++ L3))[a]? = some x):=Lib.hid (by rw [List.getElem?_append_right (by omega),hl,Nat.sub_self]; rfl)
 have HVK : Hid (∀ h,m ≤ h → h < e → ∃ y,v[h - m]? = some y ∧ (L1 ++ (x :: v ++ L3))[h]? = some y):=Lib.hid (fun h h1 h2 => ⟨v[h - m]'(by omega),List.getElem?_eq_getElem _,by
  rw [List.getElem?_append_right (by omega),show h - L1.length = (h - m) + 1 by omega]
  simp only [List.cons_append,Q1]
  rw [List.getElem?_append_left (by omega),List.getElem?_eq_getElem (by omega)]⟩)
 have HC:=Lib.hid hC
 have HL:=Lib.hid hl
 have HM:=Lib.hid hm
 have HV:=Lib.hid hv
 have HSS:=Lib.hid hs
 have ham : a < m:=by omega
 clear hC hl hm hv hs
 generalize hus : L1 ++ (x :: v ++ L3) = us at *
 have HUS:=Lib.hid hus
 clear hus
 unfold FnV
 go_enter Tryz.func109,Tryz.ntmps109
 go_wp2_with fail
 go_loopw [10,11] (fun si sj wr => ∃ i j : Nat,si = .int .i64 i ∧ sj = .int .i64 j ∧ m ≤ i ∧ i ≤ j ∧ j ≤ e ∧ Hid (i = m ∨ ∃ y,v[i - 1 - m]? = some y ∧ leV y x) ∧ Hid (j = e ∨ ∃ y,v[j - m]? = some y ∧ leV x y) ∧ Hid (SrtC w0 wr base b c n us)) (fun si sj _ => (intOf sj).toNat - (intOf si).toNat)
 case atStart => exact ⟨m,e,rfl,rfl,Nat.le_refl _,by omega,Nat.le_refl _,Lib.hid (.inl rfl),Lib.hid (.inl rfl),HC⟩
 case round =>
  clear HC
  obtain ⟨i,j,rfl,rfl,hmi,hij,hje,HI,HJ,HC⟩:=hrel
  by_cases hlt : i < j
  ·obtain ⟨s,hs⟩ : ∃ s,s = i + j:=⟨_,rfl⟩
   have es : (i : Int) + (j : Int) = (s : Int):=by omega
   obtain ⟨h,hh⟩ : ∃ h,h = s / 2:=⟨_,rfl⟩
   have eh : (s : Int) / 2 = (h : Int):=by omega
   have hsb : s ≤ 2000:=by omega
   have h1 : i ≤ h:=by omega
   have h2 : h < j:=by omega
   clear hs hh
   obtain ⟨y,hyv,hx⟩:=HVK.out h (by omega) (by omega)
   have HYV:=Lib.hid hyv
   have hy:=HX.out
   have hbb:=(HC.out.atS hx).1
   have hhn : h < n:=by omega
   have han : a < n:=by omega
   clear hyv
   obtain ⟨r,hr⟩ : ∃ r,r = cmpV y x:=⟨_,rfl⟩
   have HSC : Hid (∀ W,Below wr.heap.size wr W → (fun w' => (w'.cell? ⟨b,h * 4,none⟩ = some (.string ⟨y.run.toArray⟩) ∧ w'.cell? ⟨b,h * 4 + 1,none⟩ = some (.string ⟨y.who.toArray⟩) ∧ w'.cell? ⟨b,h * 4 + 2,none⟩ = some (.int .i64 y.at_) ∧ w'.cell? ⟨b,h * 4 + 3,none⟩ = some (.int .i64 y.kind)) ∧ w'.cell? ⟨b,a * 4,none⟩ = some (.string ⟨x.run.toArray⟩) ∧ w'.cell? ⟨b,a * 4 + 1,none⟩ = some (.string ⟨x.who.toArray⟩) ∧ w'.cell? ⟨b,a * 4 + 2,none⟩ = some (.int .i64 x.at_) ∧ w'.cell? ⟨b,a * 4 + 3,none⟩ = some (.int .i64 x.kind)) W):=Lib.hid (fun W hW => (HC.out.keep hW).two hx hy)
   have HRV : Hid (∀ W,Calls Tryz.prog 49 #[.agg #[.string ⟨y.run.toArray⟩,.string ⟨y.who.toArray⟩,.int .i64 y.at_,.int .i64 y.kind],.agg #[.string ⟨x.run.toArray⟩,.string ⟨x.who.toArray⟩,.int .i64 x.at_,.int .i64 x.kind]] W fun e w' => e = .returned (.int .i64 r) ∧ Below W.heap.size W w'):=Lib.hid (fun W => by rw [hr]; exact byVote_any _ _ _ _ _ _ _ _ W)
   have HKP : Hid (∀ W,Below wr.heap.size wr W → SrtC w0 W base b c n us):=Lib.hid (fun W hW => HC.out.keep hW)
   have HR:=Lib.hid hr
   have hbz : Below wr.heap.size wr wr.drew:=below_drewN' (Below.refl _ _) 1
   have hsc:=HSC.out _ hbz
   try simp only at hsc
   clear hr HC hx hy
   go_wp2_with fail
   refine wp_region_held_drew (S:=(fun w' => (w'.cell? ⟨b,h * 4,none⟩ = some (.string ⟨y.run.toArray⟩) ∧ w'.cell? ⟨b,h * 4 + 1,none⟩ = some (.string ⟨y.who.toArray⟩) ∧ w'.cell? ⟨b,h * 4 + 2,none⟩ = some (.int .i64 y.at_) ∧ w'.cell? ⟨b,h * 4 + 3,none⟩ = some (.int .i64 y.kind)) ∧ w'.cell? ⟨b,a * 4,none⟩ = some (.string ⟨x.run.toArray⟩) ∧ w'.cell? ⟨b,a * 4 + 1,none⟩ = some (.string ⟨x.who.toArray⟩) ∧ w'.cell? ⟨b,a * 4 + 2,none⟩ = some (.int .i64 x.at_) ∧ w'.cell? ⟨b,a * 4 + 3,none⟩ = some (.int .i64 x.kind))) (by kernel_rfl) (hsc) (fun hHeld => ?_)
   (refine wpAnyH_take (i:=0) (v:=?_) (by (simp only [Q0,Q2]; rfl)) (by kernel_rfl) (by kernel_rfl) (by kernel_rfl) (by exact fun _ _ _ h => h) (Or.inl ⟨by rfl,?_⟩) (by assumption) ?_; (rotate_left 1; (intro w hSw; (try dsimp only at hSw); go_simp); (try with_reducible rfl)); (try simp only [Act.put,Q3,Q4,Q5]))
   (refine wpAnyH_take (i:=1) (v:=?_) (by (simp only [Q0,Q1,Q2]; rfl)) (by kernel_rfl) (by kernel_rfl) (by kernel_rfl) (by exact fun _ _ _ h => h) (Or.inl ⟨by rfl,?_⟩) (by assumption) ?_; (rotate_left 1; (intro w hSw; (try dsimp only at hSw); go_simp); (try with_reducible rfl)); (try simp only [Act.put,Q3,Q4,Q5]))
   (refine wpAnyH_take (i:=2) (v:=?_) (by (simp only [Q0,Q1,Q2]; rfl)) (by kernel_rfl) (by kernel_rfl) (by kernel_rfl) (by exact fun _ _ _ h => h) (Or.inl ⟨by rfl,?_⟩) (by assumption) ?_; (rotate_left 1; (intro w hSw; (try dsimp only at hSw); go_simp); (try with_reducible rfl)); (try simp only [Act.put,Q3,Q4,Q5]))
   (refine wpAnyH_take (i:=3) (v:=?_) (by (simp only [Q0,Q1,Q2]; rfl)) (by kernel_rfl) (by kernel_rfl) (by kernel_rfl) (by exact fun _ _ _ h => h) (Or.inl ⟨by rfl,?_⟩) (by assumption) ?_; (rotate_left 1; (intro w hSw; (try dsimp only at hSw); go_simp); (try with_reducible rfl)); (try simp only [Act.put,Q3,Q4,Q5]))
   (refine wpAnyH_take (i:=4) (v:=?_) (by (simp only [Q0,Q1,Q2]; rfl)) (by kernel_rfl) (by kernel_rfl) (by kernel_rfl) (by exact fun _ _ _ h => h) (Or.inl ⟨by rfl,?_⟩) (by assumption) ?_; (rotate_left 1; (intro w hSw; (try dsimp only at hSw); go_simp); (try with_reducible rfl)); (try simp only [Act.put,Q3,Q4,Q5]))
   (refine wpAnyH_take (i:=5) (v:=?_) (by (simp only [Q0,Q1,Q2]; rfl)) (by kernel_rfl) (by kernel_rfl) (by kernel_rfl) (by exact fun _ _ _ h => h) (Or.inl ⟨by rfl,?_⟩) (by assumption) ?_; (rotate_left 1; (intro w hSw; (try dsimp only at hSw); go_simp); (try with_reducible rfl)); (try simp only [Act.put,Q3,Q4,Q5]))
   (refine wpAnyH_take (i:=6) (v:=?_) (by (simp only [Q0,Q1,Q2]; rfl)) (by kernel_rfl) (by kernel_rfl) (by kernel_rfl) (by exact fun _ _ _ h => h) (Or.inl ⟨by rfl,?_⟩) (by assumption) ?_; (rotate_left 1; (intro w hSw; (try dsimp only at hSw); go_simp); (try with_reducible rfl)); (try simp only [Act.put,Q3,Q4,Q5]))
   (refine wpAnyH_take (i:=7) (v:=?_) (by (simp only [Q0,Q1,Q2]; rfl)) (by kernel_rfl) (by kernel_rfl) (by kernel_rfl) (by exact fun _ _ _ h => h) (Or.inl ⟨by rfl,?_⟩) (by assumption) ?_; (rotate_left 1; (intro w hSw; (try dsimp only at hSw); go_simp); (try with_reducible rfl)); (try simp only [Act.put,Q3,Q4,Q5]))
   (refine wpAnyH_take (i:=8) (v:=?_) (by (simp only [Q0,Q1,Q2]; rfl)) (by kernel_rfl) (by kernel_rfl) (by kernel_rfl) (by exact fun _ _ _ h => h) (Or.inl ⟨by rfl,?_⟩) (by assumption) ?_; (rotate_left 1; (intro w hSw; (try dsimp only at hSw); go_simp); (try with_reducible rfl)); (try simp only [Act.put,Q3,Q4,Q5]))
   refine wpAnyH_ready (rs:=[9]) (by kernel_rfl) (by simp) ?_
   refine AllReadyH.cons rfl (fun K hK => ?_) AllReadyH.nil
   go_simp
   go_at_call 49
   refine (HRV.out _).mono ?_
   rintro e9 wa ⟨rfl,hba⟩
   replace hbz:=below_up hbz hba
   have hsc:=HSC.out _ hbz
   try simp only at hsc
   clear hba
   go_wp2_with fail
   refine hK.out _ _ (hsc) (fun hHeld => ?_)
   clear hK K
   (try simp only [Act.put,Q3,Q4,Q5])
   (refine wpAnyH_take (i:=10) (v:=?_) (by (simp only [Q0,Q1,Q2]; rfl)) (by kernel_rfl) (by kernel_rfl) (by kernel_rfl) (by exact fun _ _ _ h => h) (Or.inl ⟨by rfl,?_⟩) (by assumption) ?_; (rotate_left 1; (intro w hSw; (try dsimp only at hSw); go_simp); (try with_reducible rfl)); (try simp only [Act.put,Q3,Q4,Q5]))
   refine wpAnyH_done (by kernel_rfl) ?_ _
   have hC2:=HKP.out _ hbz
   by_cases hr0 : r < 0
   ·have hle : ltV y x:=(cmpV_lt y x).1 (by rw [← HR.out]; exact hr0)
    have HI2 : Hid (h + 1 = m ∨ ∃ y,v[h + 1 - 1 - m]? = some y ∧ leV y x):=Lib.hid (.inr ⟨y,by simpa using HYV.out,leV_of hle⟩)
    have HC2:=Lib.hid hC2
    clear hC2 hle HKP HRV HSC HR hbz hsc hHeld HI
    go_wp2_with fail
    go_roundw
    case rel => exact ⟨h + 1,j,by go_num,rfl,by omega,by omega,hje,HI2,HJ,HC2⟩
    case measure => simp [intOf]; omega
   ·have hle : ¬ ltV y x:=fun hc => hr0 (by rw [HR.out]; exact (cmpV_lt y x).2 hc)
    have HJ2 : Hid (h = e ∨ ∃ y,v[h - m]? = some y ∧ leV x y):=Lib.hid (.inr ⟨y,HYV.out,hle⟩)
    have HC2:=Lib.hid hC2
    clear hC2 hle HKP HRV HSC HR hbz hsc hHeld HJ
    go_wp2_with fail
    go_roundw
    case rel => exact ⟨i,h,rfl,rfl,hmi,by omega,by omega,HI,HJ2,HC2⟩
    case measure => simp [intOf]; omega
  ·have hij2 : i = j:=by omega
   subst hij2
   obtain ⟨t,ht⟩ : ∃ t,t = i - 1:=⟨_,rfl⟩
   have et : (i : Int) - 1 = (t : Int):=by omega
   have hat : a ≤ t:=by omega
   have HT:=Lib.hid ht
   clear ht
   have HC0 : Hid (SrtC w0 wr base b c n (L1 ++ (v.take (a - a) ++ x :: (v.drop (a - a) ++ L3)))):=Lib.hid (by
    rw [Nat.sub_self]
    have h9:=HC.out
    rw [← HUS.out] at h9
    simpa using h9)
   clear HC
   go_wp2_with fail
   go_loopw [13] (fun sk wr => ∃ k : Nat,sk = .int .i64 k ∧ a ≤ k ∧ k ≤ t ∧ Hid (SrtC w0 wr base b c n (L1 ++ (v.take (k - a) ++ x :: (v.drop (k - a) ++ L3))))) (fun sk _ => t - (intOf sk).toNat)
   case atStart => exact ⟨a,rfl,Nat.le_refl _,hat,HC0⟩
   case round =>
    clear HC0
    obtain ⟨k,rfl,hak,hkt,HC⟩:=hrel
    by_cases hlt2 : k < t
    ·have hkv : k - a < v.length:=by have:=HV.out; have:=HT.out; have:=HM.out; omega
     have hka : L1.length + (v.take (k - a)).length = k:=by rw [List.length_take,HL.out]; omega
     obtain ⟨y,hy0⟩ : ∃ y,y = v[k - a]:=⟨_,rfl⟩
     have hdr : v.drop (k - a) = y :: v.drop (k + 1 - a):=by rw [List.drop_eq_getElem_cons hkv,← hy0,show k - a + 1 = k + 1 - a by omega]
     have htk : v.take (k + 1 - a) = v.take (k - a) ++ [y]:=by rw [show k + 1 - a = k - a + 1 by omega,List.take_add_one,List.getElem?_eq_getElem hkv,← hy0]; rfl
     have hx : (L1 ++ (v.take (k - a) ++ x :: (v.drop (k - a) ++ L3)))[k]? = some x:=by
      rw [List.getElem?_append_right (by omega),List.getElem?_append_right (by omega),show k - L1.length - (v.take (k - a)).length = 0 by omega]; rfl
     have hy : (L1 ++ (v.take (k - a) ++ x :: (v.drop (k - a) ++ L3)))[k + 1]? = some y:=by
      rw [List.getElem?_append_right (by omega),List.getElem?_append_right (by omega),show k + 1 - L1.length - (v.take (k - a)).length = 0 + 1 by omega,List.getElem?_cons_succ,hdr]; rfl
     have hsw : swapAt (L1 ++ (v.take (k - a) ++ x :: (v.drop (k - a) ++ L3))) k (k + 1) = L1 ++ (v.take (k + 1 - a) ++ x :: (v.drop (k + 1 - a) ++ L3)):=by
      rw [hdr,htk]
      exact carry_right L1 (v.take (k - a)) (v.drop (k + 1 - a) ++ L3) x y hka
     have hkn : k + 1 < n:=by have:=HV.out; have:=HT.out; omega
     have hkn0 : k < n:=by omega
     obtain ⟨hbz,⟨c0,c1,c2,c3⟩,f0,f1,f2,f3⟩:=HC.out.atS hx
     obtain ⟨-,⟨d0,d1,d2,d3⟩,g0,g1,g2,g3⟩:=HC.out.atS hy
     have HS:=Lib.hid (HC.out.swap hx hy).drew
     rw [hsw] at HS
     have HSW:=HS
     obtain ⟨k1,hk1⟩ : ∃ k1,k1 = k + 1:=⟨_,rfl⟩
     have ek1 : (k : Int) + 1 = (k1 : Int):=by omega
     rw [← hk1] at d0 d1 d2 d3 g0 g1 g2 g3 HSW hkn
     have hk1b : a ≤ k1 ∧ k1 ≤ t:=by omega
     have HK1:=Lib.hid hk1
     have hkk : k < k1:=by omega
     clear hk1 hkv hka hy0 hdr htk hx hy hsw HC HS
     go_wp2_with fail
     go_big_region
     clear c0 c1 c2 c3 d0 d1 d2 d3 f0 f1 f2 f3 g0 g1 g2 g3
     go_wp2_with fail
     go_roundw
     case rel => exact ⟨k1,by go_num,hk1b.1,hk1b.2,HSW⟩
     case measure => simp [intOf]; omega
    ·have hkt2 : k = t:=by omega
     subst hkt2
     have HE : Hid (SymP w0 base b c n L1 L3 (x :: v) (.returned (.tuple #[])) wr):=Lib.hid (by
      have h1:=HM.out
      have h2:=HT.out
      have h3:=HV.out
      have e9 : k - a = i - m:=by omega
      have hi:=HI.out
      have hj:=HJ.out
      have hins:=ins_sorted leV_tr leV_refl HSS.out (x:=x) (i:=i - m) (by omega) (by
       rcases hi with h | ⟨y,hy,h⟩
       ·left; omega
       ·right
        obtain ⟨q,rfl⟩:=List.getElem?_eq_some_iff.1 hy
        have e8 : i - m - 1 = i - 1 - m:=by omega
        exact ⟨by omega,by simp only [e8]; exact h⟩) (by
       rcases hj with h | ⟨y,hy,h⟩
       ·left; omega
       ·right
        obtain ⟨q,rfl⟩:=List.getElem?_eq_some_iff.1 hy
        exact ⟨q,h⟩)
      refine ⟨rfl,_,hins.2,hins.1,?_⟩
      have h9:=HC.out
      rw [e9] at h9
      rw [List.append_assoc]
      exact h9)
     go_wp2_with fail
     go_end0
     exact HE.out
end Go.Proofs.YtgeaeockmadhcaaGreatDoor
/- The walk of slices.symMergeCmpFunc over votes, one vote behind a row in order. -/
namespace Go.Proofs.YtgeaeockmadhcaaGreatDoor
set_option linter.unusedVariables false
set_option linter.unusedSimpArgs false
open Go.RowKit Go.Sort

set_option maxHeartbeats 4000000 in
set_option maxRecDepth 100000 in
theorem symB_any (base b c n a m e : Nat) (L1 u L3 : List VoteE) (x : VoteE) (w0 w : World) (hC : SrtC w0 w base b c n (L1 ++ (u ++ x :: L3))) (hl : L1.length = a) (hm : e = m + 1) (hu : u.length = m - a) (hma : a + 1 < m) (hen : e ≤ n) (hn : n ≤ 1000) (hs : u.Pairwise leV) :
  Calls Tryz.prog 109 #[.slice (some ⟨b,0,none⟩) n c,.int .i64 a,.int .i64 m,.int .i64 e,FnV] w (SymP w0 base b c n L1 L3 (u ++ [x])):=by
 obtain ⟨g1,hg1⟩ : ∃ g1,g1 = m - a:=⟨_,rfl⟩
 have e0 : (m : Int) - (a : Int) = (g1 : Int):=by omega
 have hne : ((g1 : Int) == 1) = false:=beq_eq_false_iff_ne.2 (by omega)
 have e1 : (e : Int) - (m : Int) = 1:=by omega
 clear hg1
 have HX : Hid ((L1 ++ (u ++ x :: L3))[m]? = some x):=Lib.hid (by rw [List.getElem?_append_right (by omega),List.getElem?_append_right (by omega),show m - L1.length - u.length = 0 by omega]; rfl)
 have HVK : Hid (∀ h,a ≤ h → h < m → ∃ y,u[h - a]? = some y ∧ (L1 ++ (u ++ x :: L3))[h]? = some y):=Lib.hid (fun h h1 h2 => ⟨u[h - a]'(by omega),List.getElem?_eq_getElem _,by
  rw [List.getElem?_append_right (by omega),List.getElem?_append_left (by omega),hl,List.getElem?_eq_getElem (by omega)]⟩)
 have HC:=Lib.hid hC
 have HL:=Lib.hid hl
 have hmn : m < n:=by omega
 have HM:=Lib.hid hm
 have HV:=Lib.hid hu
 have HSS:=Lib.hid hs
 have ham : a < m:=by omega
 clear hC hl hm hu hs
 generalize hus : L1 ++ (u ++ x :: L3) = us at *
 have HUS:=Lib.hid hus
 clear hus
 unfold FnV
 go_enter Tryz.func109,Tryz.ntmps109
 go_wp2_with fail
 go_loopw [14,15] (fun si sj wr => ∃ i j : Nat,si = .int .i64 i ∧ sj = .int .i64 j ∧ a ≤ i ∧ i ≤ j ∧ j ≤ m ∧ Hid (i = a ∨ ∃ y,u[i - 1 - a]? = some y ∧ leV y x) ∧ Hid (j = m ∨ ∃ y,u[j - a]? = some y ∧ leV x y) ∧ Hid (SrtC w0 wr base b c n us)) (fun si sj _ => (intOf sj).toNat - (intOf si).toNat)
 case atStart => exact ⟨a,m,rfl,rfl,Nat.le_refl _,by omega,Nat.le_refl _,Lib.hid (.inl rfl),Lib.hid (.inl rfl),HC⟩
 case round =>
  clear HC
  obtain ⟨i,j,rfl,rfl,hmi,hij,hje,HI,HJ,HC⟩:=hrel
  by_cases hlt : i < j
  ·obtain ⟨s,hs⟩ : ∃ s,s = i + j:=⟨_,rfl⟩
   have es : (i : Int) + (j : Int) = (s : Int):=by omega
   obtain ⟨h,hh⟩ : ∃ h,h = s / 2:=⟨_,rfl⟩
   have eh : (s : Int) / 2 = (h : Int):=by omega
   have hsb : s ≤ 2000:=by omega
   have h1 : i ≤ h:=by omega
   have h2 : h < j:=by omega
   clear hs hh
   obtain ⟨y,hyv,hy⟩:=HVK.out h (by omega) (by omega)
   have HYV:=Lib.hid hyv
   have hx:=HX.out
   have hbb:=(HC.out.atS hx).1
   have hhn : h < n:=by omega
   clear hyv
   obtain ⟨r,hr⟩ : ∃ r,r = cmpV x y:=⟨_,rfl⟩
   have HSC : Hid (∀ W,Below wr.heap.size wr W → (fun w' => (w'.cell? ⟨b,m * 4,none⟩ = some (.string ⟨x.run.toArray⟩) ∧ w'.cell? ⟨b,m * 4 + 1,none⟩ = some (.string ⟨x.who.toArray⟩) ∧ w'.cell? ⟨b,m * 4 + 2,none⟩ = some (.int .i64 x.at_) ∧ w'.cell? ⟨b,m * 4 + 3,none⟩ = some (.int .i64 x.kind)) ∧ w'.cell? ⟨b,h * 4,none⟩ = some (.string ⟨y.run.toArray⟩) ∧ w'.cell? ⟨b,h * 4 + 1,none⟩ = some (.string ⟨y.who.toArray⟩) ∧ w'.cell? ⟨b,h * 4 + 2,none⟩ = some (.int .i64 y.at_) ∧ w'.cell? ⟨b,h * 4 + 3,none⟩ = some (.int .i64 y.kind)) W):=Lib.hid (fun W hW => (HC.out.keep hW).two hx hy)
   have HRV : Hid (∀ W,Calls Tryz.prog 49 #[.agg #[.string ⟨x.run.toArray⟩,.string ⟨x.who.toArray⟩,.int .i64 x.at_,.int .i64 x.kind],.agg #[.string ⟨y.run.toArray⟩,.string ⟨y.who.toArray⟩,.int .i64 y.at_,.int .i64 y.kind]] W fun e w' => e = .returned (.int .i64 r) ∧ Below W.heap.size W w'):=Lib.hid (fun W => by rw [hr]; exact byVote_any _ _ _ _ _ _ _ _ W)
   have HKP : Hid (∀ W,Below wr.heap.size wr W → SrtC w0 W base b c n us):=Lib.hid (fun W hW => HC.out.keep hW)
   have HR:=Lib.hid hr
   have hbz : Below wr.heap.size wr wr.drew:=below_drewN' (Below.refl _ _) 1
   have hsc:=HSC.out _ hbz
   try simp only at hsc
   clear hr HC hx hy
   go_wp2_with fail
   refine wp_region_held_drew (S:=(fun w' => (w'.cell? ⟨b,m * 4,none⟩ = some (.string ⟨x.run.toArray⟩) ∧ w'.cell? ⟨b,m * 4 + 1,none⟩ = some (.string ⟨x.who.toArray⟩) ∧ w'.cell? ⟨b,m * 4 + 2,none⟩ = some (.int .i64 x.at_) ∧ w'.cell? ⟨b,m * 4 + 3,none⟩ = some (.int .i64 x.kind)) ∧ w'.cell? ⟨b,h * 4,none⟩ = some (.string ⟨y.run.toArray⟩) ∧ w'.cell? ⟨b,h * 4 + 1,none⟩ = some (.string ⟨y.who.toArray⟩) ∧ w'.cell? ⟨b,h * 4 + 2,none⟩ = some (.int .i64 y.at_) ∧ w'.cell? ⟨b,h * 4 + 3,none⟩ = some (.int .i64 y.kind))) (by kernel_rfl) (hsc) (fun hHeld => ?_)
   (refine wpAnyH_take (i:=0) (v:=?_) (by (simp only [Q0,Q2]; rfl)) (by kernel_rfl) (by kernel_rfl) (by kernel_rfl) (by exact fun _ _ _ h => h) (Or.inl ⟨by rfl,?_⟩) (by assumption) ?_; (rotate_left 1; (intro w hSw; (try dsimp only at hSw); go_simp); (try with_reducible rfl)); (try simp only [Act.put,Q3,Q4,Q5]))
   (refine wpAnyH_take (i:=1) (v:=?_) (by (simp only [Q0,Q1,Q2]; rfl)) (by kernel_rfl) (by kernel_rfl) (by kernel_rfl) (by exact fun _ _ _ h => h) (Or.inl ⟨by rfl,?_⟩) (by assumption) ?_; (rotate_left 1; (intro w hSw; (try dsimp only at hSw); go_simp); (try with_reducible rfl)); (try simp only [Act.put,Q3,Q4,Q5]))
   (refine wpAnyH_take (i:=2) (v:=?_) (by (simp only [Q0,Q1,Q2]; rfl)) (by kernel_rfl) (by kernel_rfl) (by kernel_rfl) (by exact fun _ _ _ h => h) (Or.inl ⟨by rfl,?_⟩) (by assumption) ?_; (rotate_left 1; (intro w hSw; (try dsimp only at hSw); go_simp); (try with_reducible rfl)); (try simp only [Act.put,Q3,Q4,Q5]))
   (refine wpAnyH_take (i:=3) (v:=?_) (by (simp only [Q0,Q1,Q2]; rfl)) (by kernel_rfl) (by kernel_rfl) (by kernel_rfl) (by exact fun _ _ _ h => h) (Or.inl ⟨by rfl,?_⟩) (by assumption) ?_; (rotate_left 1; (intro w hSw; (try dsimp only at hSw); go_simp); (try with_reducible rfl)); (try simp only [Act.put,Q3,Q4,Q5]))
   (refine wpAnyH_take (i:=4) (v:=?_) (by (simp only [Q0,Q1,Q2]; rfl)) (by kernel_rfl) (by kernel_rfl) (by kernel_rfl) (by exact fun _ _ _ h => h) (Or.inl ⟨by rfl,?_⟩) (by assumption) ?_; (rotate_left 1; (intro w hSw; (try dsimp only at hSw); go_simp); (try with_reducible rfl)); (try simp only [Act.put,Q3,Q4,Q5]))
   (refine wpAnyH_take (i:=5) (v:=?_) (by (simp only [Q0,Q1,Q2]; rfl)) (by kernel_rfl) (by kernel_rfl) (by kernel_rfl) (by exact fun _ _ _ h => h) (Or.inl ⟨by rfl,?_⟩) (by assumption) ?_; (rotate_left 1; (intro w hSw; (try dsimp only at hSw); go_simp); (try with_reducible rfl)); (try simp only [Act.put,Q3,Q4,Q5]))
   (refine wpAnyH_take (i:=6) (v:=?_) (by (simp only [Q0,Q1,Q2]; rfl)) (by kernel_rfl) (by kernel_rfl) (by kernel_rfl) (by exact fun _ _ _ h => h) (Or.inl ⟨by rfl,?_⟩) (by assumption) ?_; (rotate_left 1; (intro w hSw; (try dsimp only at hSw); go_simp); (try with_reducible rfl)); (try simp only [Act.put,Q3,Q4,Q5]))
   (refine wpAnyH_take (i:=7) (v:=?_) (by (simp only [Q0,Q1,Q2]; rfl)) (by kernel_rfl) (by kernel_rfl) (by kernel_rfl) (by exact fun _ _ _ h => h) (Or.inl ⟨by rfl,?_⟩) (by assumption) ?_; (rotate_left 1; (intro w hSw; (try dsimp only at hSw); go_simp); (try with_reducible rfl)); (try simp only [Act.put,Q3,Q4,Q5]))
   (refine wpAnyH_take (i:=8) (v:=?_) (by (simp only [Q0,Q1,Q2]; rfl)) (by kernel_rfl) (by kernel_rfl) (by kernel_rfl) (by exact fun _ _ _ h => h) (Or.inl ⟨by rfl,?_⟩) (by assumption) ?_; (rotate_left 1; (intro w hSw; (try dsimp only at hSw); go_simp); (try with_reducible rfl)); (try simp only [Act.put,Q3,Q4,Q5]))
   refine wpAnyH_ready (rs:=[9]) (by kernel_rfl) (by simp) ?_
   refine AllReadyH.cons rfl (fun K hK => ?_) AllReadyH.nil
   go_simp
   go_at_call 49
   refine (HRV.out _).mono ?_
   rintro e9 wa ⟨rfl,hba⟩
   replace hbz:=below_up hbz hba
   have hsc:=HSC.out _ hbz
   try simp only at hsc
   clear hba
   go_wp2_with fail
   refine hK.out _ _ (hsc) (fun hHeld => ?_)
   clear hK K
   (try simp only [Act.put,Q3,Q4,Q5])
   (refine wpAnyH_take (i:=10) (v:=?_) (by (simp only [Q0,Q1,Q2]; rfl)) (by kernel_rfl) (by kernel_rfl) (by kernel_rfl) (by exact fun _ _ _ h => h) (Or.inl ⟨by rfl,?_⟩) (by assumption) ?_; (rotate_left 1; (intro w hSw; (try dsimp only at hSw); go_simp); (try with_reducible rfl)); (try simp only [Act.put,Q3,Q4,Q5]))
   (refine wpAnyH_take (i:=11) (v:=?_) (by (simp only [Q0,Q1,Q2]; rfl)) (by kernel_rfl) (by kernel_rfl) (by kernel_rfl) (by exact fun _ _ _ h => h) (Or.inl ⟨by rfl,?_⟩) (by assumption) ?_; (rotate_left 1; (intro w hSw; (try dsimp only at hSw); go_simp); (try with_reducible rfl)); (try simp only [Act.put,Q3,Q4,Q5]))
   refine wpAnyH_done (by kernel_rfl) ?_ _
   have hC2:=HKP.out _ hbz
   by_cases hr0 : r < 0
   ·rw [decide_eq_true hr0]
    have hle : ltV x y:=(cmpV_lt x y).1 (by rw [← HR.out]; exact hr0)
    have HJ2 : Hid (h = m ∨ ∃ y,u[h - a]? = some y ∧ leV x y):=Lib.hid (.inr ⟨y,HYV.out,leV_of hle⟩)
    have HC2:=Lib.hid hC2
    clear hC2 hle HKP HRV HSC HR hbz hsc hHeld HJ
    go_wp2_with fail
    go_roundw
    case rel => exact ⟨i,h,rfl,rfl,hmi,by omega,by omega,HI,HJ2,HC2⟩
    case measure => simp [intOf]; omega
   ·rw [decide_eq_false hr0]
    have hle : ¬ ltV x y:=fun hc => hr0 (by rw [HR.out]; exact (cmpV_lt x y).2 hc)
    have HI2 : Hid (h + 1 = a ∨ ∃ y,u[h + 1 - 1 - a]? = some y ∧ leV y x):=Lib.hid (.inr ⟨y,by simpa using HYV.out,hle⟩)
    have HC2:=Lib.hid hC2
    clear hC2 hle HKP HRV HSC HR hbz hsc hHeld HI
    go_wp2_with fail
    go_roundw
    case rel => exact ⟨h + 1,j,by go_num,rfl,by omega,by omega,hje,HI2,HJ,HC2⟩
    case measure => simp [intOf]; omega
  ·have hij2 : i = j:=by omega
   subst hij2
   have HC0 : Hid (SrtC w0 wr base b c n (L1 ++ (u.take (m - a) ++ x :: (u.drop (m - a) ++ L3)))):=Lib.hid (by
    have h9:=HC.out
    rw [← HUS.out] at h9
    rw [← HV.out,List.take_length,List.drop_length]
    exact h9)
   clear HC
   go_wp2_with fail
   go_loopw [17] (fun sk wr => ∃ k : Nat,sk = .int .i64 k ∧ i ≤ k ∧ k ≤ m ∧ Hid (SrtC w0 wr base b c n (L1 ++ (u.take (k - a) ++ x :: (u.drop (k - a) ++ L3))))) (fun sk _ => (intOf sk).toNat - i)
   case atStart => exact ⟨m,rfl,hje,Nat.le_refl _,HC0⟩
   case round =>
    clear HC0
    obtain ⟨k,rfl,hak,hkt,HC⟩:=hrel
    by_cases hlt2 : i < k
    ·obtain ⟨k0,rfl⟩ : ∃ k0,k = k0 + 1:=⟨k - 1,by omega⟩
     have hkv : k0 - a < u.length:=by have:=HV.out; omega
     have hka : L1.length + (u.take (k0 - a)).length = k0:=by rw [List.length_take,HL.out]; omega
     obtain ⟨y,hy0⟩ : ∃ y,y = u[k0 - a]:=⟨_,rfl⟩
     have hdr : u.drop (k0 - a) = y :: u.drop (k0 + 1 - a):=by rw [List.drop_eq_getElem_cons hkv,← hy0,show k0 - a + 1 = k0 + 1 - a by omega]
     have htk : u.take (k0 + 1 - a) = u.take (k0 - a) ++ [y]:=by rw [show k0 + 1 - a = k0 - a + 1 by omega,List.take_add_one,List.getElem?_eq_getElem hkv,← hy0]; rfl
     have est : L1 ++ (u.take (k0 + 1 - a) ++ x :: (u.drop (k0 + 1 - a) ++ L3)) = L1 ++ (u.take (k0 - a) ++ y :: x :: (u.drop (k0 + 1 - a) ++ L3)):=by rw [htk]; simp
     have hx : (L1 ++ (u.take (k0 + 1 - a) ++ x :: (u.drop (k0 + 1 - a) ++ L3)))[k0 + 1]? = some x:=by
      rw [est,List.getElem?_append_right (by omega),List.getElem?_append_right (by omega),show k0 + 1 - L1.length - (u.take (k0 - a)).length = 0 + 1 by omega]; rfl
     have hy : (L1 ++ (u.take (k0 + 1 - a) ++ x :: (u.drop (k0 + 1 - a) ++ L3)))[k0]? = some y:=by
      rw [est,List.getElem?_append_right (by omega),List.getElem?_append_right (by omega),show k0 - L1.length - (u.take (k0 - a)).length = 0 by omega]; rfl
     have hsw : swapAt (L1 ++ (u.take (k0 + 1 - a) ++ x :: (u.drop (k0 + 1 - a) ++ L3))) (k0 + 1) k0 = L1 ++ (u.take (k0 - a) ++ x :: (u.drop (k0 - a) ++ L3)):=by
      rw [swapAt_comm _ (by omega),est,hdr]
      have h9:=carry_right L1 (u.take (k0 - a)) (u.drop (k0 + 1 - a) ++ L3) y x hka
      rw [h9]
      simp
     have hkn : k0 + 1 < n:=by omega
     have hkn0 : k0 < n:=by omega
     obtain ⟨hbz,⟨c0,c1,c2,c3⟩,f0,f1,f2,f3⟩:=HC.out.atS hx
     obtain ⟨-,⟨d0,d1,d2,d3⟩,g0,g1,g2,g3⟩:=HC.out.atS hy
     have HS:=Lib.hid (HC.out.swap hx hy).drew
     rw [hsw] at HS
     obtain ⟨k1,hk1⟩ : ∃ k1,k1 = k0 + 1:=⟨_,rfl⟩
     have ek1 : (k1 : Int) - 1 = (k0 : Int):=by omega
     rw [← hk1] at c0 c1 c2 c3 f0 f1 f2 f3 HS hkn hlt2 hkt hak
     have hk1b : i ≤ k0 ∧ k0 ≤ m:=by omega
     have hkk : k0 < k1:=by omega
     have ek2 : (k0 : Int) + 1 = (k1 : Int):=by omega
     clear hka hy0 hdr htk hx hy hsw HC est hkv
     rw [← hk1]
     clear hk1
     go_wp2_with fail
     go_big_region
     clear c0 c1 c2 c3 d0 d1 d2 d3 f0 f1 f2 f3 g0 g1 g2 g3
     go_wp2_with fail
     go_roundw
     case rel => exact ⟨k0,by go_num,hk1b.1,hk1b.2,HS⟩
     case measure => simp [intOf]; omega
    ·have hkt2 : k = i:=by omega
     subst hkt2
     have HE : Hid (SymP w0 base b c n L1 L3 (u ++ [x]) (.returned (.tuple #[])) wr):=Lib.hid (by
      have h3:=HV.out
      have hi:=HI.out
      have hj:=HJ.out
      have hins:=ins_sorted leV_tr leV_refl HSS.out (x:=x) (i:=k - a) (by omega) (by
       rcases hi with h | ⟨y,hy,h⟩
       ·left; omega
       ·right
        obtain ⟨q,rfl⟩:=List.getElem?_eq_some_iff.1 hy
        have e8 : k - a - 1 = k - 1 - a:=by omega
        exact ⟨by omega,by simp only [e8]; exact h⟩) (by
       rcases hj with h | ⟨y,hy,h⟩
       ·left; omega
       ·right
        obtain ⟨q,rfl⟩:=List.getElem?_eq_some_iff.1 hy
        exact ⟨q,h⟩)
      refine ⟨rfl,_,hins.2.trans (List.perm_append_singleton x u).symm,hins.1,?_⟩
      rw [List.append_assoc]
      exact HC.out)
     go_wp2_with fail
     go_end0
     exact HE.out
end Go.Proofs.YtgeaeockmadhcaaGreatDoor
/- The walk of slices.symMergeCmpFunc over votes, whole. -/
namespace Go.Proofs.YtgeaeockmadhcaaGreatDoor
set_option linter.unusedVariables false
set_option linter.unusedSimpArgs false
open Go.RowKit Go.Sort

def SymAll (w0 : World) (base b c n K : Nat) : Prop:=∀ (a m e : Nat) (L1 u v L3 : List VoteE) (w : World),e - a ≤ K → SrtC w0 w base b c n (L1 ++ (u ++ (v ++ L3))) → L1.length = a → u.length = m - a → v.length = e - m → a < m → m < e → e ≤ n → u.Pairwise leV → v.Pairwise leV → Calls Tryz.prog 109 #[.slice (some ⟨b,0,none⟩) n c,.int .i64 a,.int .i64 m,.int .i64 e,FnV] w (SymP w0 base b c n L1 L3 (u ++ v))
theorem pw_take {u : List VoteE} (h : u.Pairwise leV) (k : Nat) : (u.take k).Pairwise leV:=h.sublist (List.take_sublist _ _)
theorem pw_drop {u : List VoteE} (h : u.Pairwise leV) (k : Nat) : (u.drop k).Pairwise leV:=h.sublist (List.drop_sublist _ _)
set_option maxHeartbeats 8000000 in
set_option maxRecDepth 100000 in
theorem symC_any (base b c n a m e K : Nat) (L1 u v L3 : List VoteE) (w0 w : World) (hall : SymAll w0 base b c n K) (hK : e - a ≤ K + 1) (hC : SrtC w0 w base b c n (L1 ++ (u ++ (v ++ L3)))) (hl : L1.length = a) (hu : u.length = m - a) (hv : v.length = e - m) (ham : a + 1 < m) (hme : m + 1 < e) (hen : e ≤ n) (hn : n ≤ 1000) (hsu : u.Pairwise leV) (hsv : v.Pairwise leV) :
  Calls Tryz.prog 109 #[.slice (some ⟨b,0,none⟩) n c,.int .i64 a,.int .i64 m,.int .i64 e,FnV] w (SymP w0 base b c n L1 L3 (u ++ v)):=by
 obtain ⟨g1,hg1⟩ : ∃ g1,g1 = m - a:=⟨_,rfl⟩
 have e0 : (m : Int) - (a : Int) = (g1 : Int):=by omega
 have hne : ((g1 : Int) == 1) = false:=beq_eq_false_iff_ne.2 (by omega)
 obtain ⟨g2,hg2⟩ : ∃ g2,g2 = e - m:=⟨_,rfl⟩
 have e1 : (e : Int) - (m : Int) = (g2 : Int):=by omega
 have hne2 : ((g2 : Int) == 1) = false:=beq_eq_false_iff_ne.2 (by omega)
 clear hg1 hg2
 have HUK : Hid (∀ h,a ≤ h → h < m → ∃ y,u[h - a]? = some y ∧ (L1 ++ (u ++ (v ++ L3)))[h]? = some y):=Lib.hid (fun h h1 h2 => ⟨u[h - a]'(by omega),List.getElem?_eq_getElem _,by
  rw [List.getElem?_append_right (by omega),List.getElem?_append_left (by omega),hl,List.getElem?_eq_getElem (by omega)]⟩)
 have HVK : Hid (∀ h,m ≤ h → h < e → ∃ y,v[h - m]? = some y ∧ (L1 ++ (u ++ (v ++ L3)))[h]? = some y):=Lib.hid (fun h h1 h2 => ⟨v[h - m]'(by omega),List.getElem?_eq_getElem _,by
  rw [List.getElem?_append_right (by omega),List.getElem?_append_right (by omega),List.getElem?_append_left (by omega),show h - L1.length - u.length = h - m by omega,List.getElem?_eq_getElem (by omega)]⟩)
 have HC:=Lib.hid hC
 have HLL : Hid (L1.length = a ∧ u.length = m - a ∧ v.length = e - m):=Lib.hid ⟨hl,hu,hv⟩
 have HSU:=Lib.hid hsu
 have HSV:=Lib.hid hsv
 have HAL:=Lib.hid hall
 clear hC hl hu hv hsu hsv hall
 obtain ⟨s,hs⟩ : ∃ s,s = a + e:=⟨_,rfl⟩
 have es : (a : Int) + (e : Int) = (s : Int):=by omega
 have hsb : s ≤ 2000:=by omega
 obtain ⟨mid,hmid⟩ : ∃ mid,mid = (a + e) / 2:=⟨_,rfl⟩
 have emid : (s : Int) / 2 = (mid : Int):=by omega
 obtain ⟨nn,hnn⟩ : ∃ nn,nn = mid + m:=⟨_,rfl⟩
 have en1 : (mid : Int) + (m : Int) = (nn : Int):=by omega
 obtain ⟨p,hp⟩ : ∃ p,p = nn - 1:=⟨_,rfl⟩
 have ep : (nn : Int) - 1 = (p : Int):=by omega
 have hb1 : a < mid ∧ mid < e:=by omega
 obtain ⟨lo,hlo⟩ : ∃ lo,lo = if mid < m then mid + m - e else a:=⟨_,rfl⟩
 obtain ⟨hi,hhi⟩ : ∃ hi,hi = if mid < m then mid else m:=⟨_,rfl⟩
 have hlh : lo ≤ hi ∧ a ≤ lo ∧ hi ≤ m ∧ hi ≤ mid ∧ mid - lo ≤ e - m:=by
  by_cases h : mid < m
  ·rw [if_pos h] at hlo hhi; omega
  ·rw [if_neg h] at hlo hhi; omega
 have HLO:=Lib.hid hlo
 have HHI:=Lib.hid hhi
 have HMID:=Lib.hid hmid
 have HNN : Hid (nn = mid + m ∧ p = nn - 1):=Lib.hid ⟨hnn,hp⟩
 have hnb : nn ≤ 2000:=by omega
 have hpb : p ≤ 2000:=by omega
 clear hs hmid hnn hp hlo hhi
 unfold FnV
 go_enter Tryz.func109,Tryz.ntmps109
 go_upto_if 140 with (fail)
 go_cut [20,21] from 100 (fun x y wx => x = .int .i64 lo ∧ y = .int .i64 hi ∧ wx = w)
 case first =>
  by_cases hmm : mid < m
  ·have elo : (nn : Int) - (e : Int) = (lo : Int):=by have h1:=HLO.out; rw [if_pos hmm] at h1; have:=HNN.out; omega
   have ehi : hi = mid:=by have h1:=HHI.out; rwa [if_pos hmm] at h1
   have HEH:=Lib.hid ehi
   clear ehi
   go_wp2_with fail
   go_meet
   exact ⟨rfl,by rw [HEH.out],rfl⟩
  ·have elo : lo = a:=by have h1:=HLO.out; rwa [if_neg hmm] at h1
   have ehi : hi = m:=by have h1:=HHI.out; rwa [if_neg hmm] at h1
   have HEH : Hid (lo = a ∧ hi = m):=Lib.hid ⟨elo,ehi⟩
   clear ehi elo
   go_wp2_with fail
   go_meet
   exact ⟨by rw [HEH.out.1],by rw [HEH.out.2],rfl⟩
 case rest =>
 obtain ⟨rfl,rfl,rfl⟩:=hcut
 generalize hus : L1 ++ (u ++ (v ++ L3)) = us at *
 have HUS:=Lib.hid hus
 clear hus
 go_wp2_with fail
 go_loopw [20,21] (fun si sj wr => ∃ i j : Nat,si = .int .i64 i ∧ sj = .int .i64 j ∧ lo ≤ i ∧ i ≤ j ∧ j ≤ hi ∧ Hid (i = lo ∨ ∃ x y,u[i - 1 - a]? = some x ∧ v[mid - i]? = some y ∧ leV x y) ∧ Hid (j = hi ∨ ∃ x y,u[j - a]? = some x ∧ v[mid - 1 - j]? = some y ∧ leV y x) ∧ Hid (SrtC w0 wr base b c n us)) (fun si sj _ => (intOf sj).toNat - (intOf si).toNat)
 case atStart => exact ⟨lo,hi,rfl,rfl,Nat.le_refl _,by omega,Nat.le_refl _,Lib.hid (.inl rfl),Lib.hid (.inl rfl),HC⟩
 case round =>
  clear HC
  obtain ⟨i,j,rfl,rfl,hmi,hij,hje,HI,HJ,HC⟩:=hrel
  by_cases hlt : i < j
  ·obtain ⟨s2,hs2⟩ : ∃ s2,s2 = i + j:=⟨_,rfl⟩
   have es2 : (i : Int) + (j : Int) = (s2 : Int):=by omega
   obtain ⟨h,hh⟩ : ∃ h,h = s2 / 2:=⟨_,rfl⟩
   have eh : (s2 : Int) / 2 = (h : Int):=by omega
   have hsb2 : s2 ≤ 4000:=by omega
   have h1 : i ≤ h:=by omega
   have h2 : h < j:=by omega
   obtain ⟨q,hq⟩ : ∃ q,q = m + (mid - 1 - h):=⟨_,rfl⟩
   have eq' : IntKind.i64.wrap ((p : Int) - (h : Int)) = (q : Int):=by have:=HNN.out; rw [IntWalk.i64_in _ ⟨by omega,by omega⟩]; omega
   clear hs2 hh
   obtain ⟨x,hxu,hy⟩:=HUK.out h (by omega) (by omega)
   obtain ⟨y,hyv,hx⟩:=HVK.out q (by omega) (by omega)
   have hqm : q - m = mid - 1 - h:=by omega
   rw [hqm] at hyv
   have HXY : Hid (u[h - a]? = some x ∧ v[mid - 1 - h]? = some y):=Lib.hid ⟨hxu,hyv⟩
   have hbb:=(HC.out.atS hx).1
   have hhn : h < n:=by omega
   have hqn : q < n:=by omega
   have HQ:=Lib.hid hq
   clear hyv hxu hqm hq
   obtain ⟨r,hr⟩ : ∃ r,r = cmpV y x:=⟨_,rfl⟩
   have HSC : Hid (∀ W,Below wr.heap.size wr W → (fun w' => (w'.cell? ⟨b,q * 4,none⟩ = some (.string ⟨y.run.toArray⟩) ∧ w'.cell? ⟨b,q * 4 + 1,none⟩ = some (.string ⟨y.who.toArray⟩) ∧ w'.cell? ⟨b,q * 4 + 2,none⟩ = some (.int .i64 y.at_) ∧ w'.cell? ⟨b,q * 4 + 3,none⟩ = some (.int .i64 y.kind)) ∧ w'.cell? ⟨b,h * 4,none⟩ = some (.string ⟨x.run.toArray⟩) ∧ w'.cell? ⟨b,h * 4 + 1,none⟩ = some (.string ⟨x.who.toArray⟩) ∧ w'.cell? ⟨b,h * 4 + 2,none⟩ = some (.int .i64 x.at_) ∧ w'.cell? ⟨b,h * 4 + 3,none⟩ = some (.int .i64 x.kind)) W):=Lib.hid (fun W hW => (HC.out.keep hW).two hx hy)
   have HRV : Hid (∀ W,Calls Tryz.prog 49 #[.agg #[.string ⟨y.run.toArray⟩,.string ⟨y.who.toArray⟩,.int .i64 y.at_,.int .i64 y.kind],.agg #[.string ⟨x.run.toArray⟩,.string ⟨x.who.toArray⟩,.int .i64 x.at_,.int .i64 x.kind]] W fun e w' => e = .returned (.int .i64 r) ∧ Below W.heap.size W w'):=Lib.hid (fun W => by rw [hr]; exact byVote_any _ _ _ _ _ _ _ _ W)
   have HKP : Hid (∀ W,Below wr.heap.size wr W → SrtC w0 W base b c n us):=Lib.hid (fun W hW => HC.out.keep hW)
   have HR:=Lib.hid hr
   have hbz : Below wr.heap.size wr wr.drew:=below_drewN' (Below.refl _ _) 1
   have hsc:=HSC.out _ hbz
   try simp only at hsc
   clear hr HC hx hy
   go_wp2_with fail
   refine wp_region_held_drew (S:=(fun w' => (w'.cell? ⟨b,q * 4,none⟩ = some (.string ⟨y.run.toArray⟩) ∧ w'.cell? ⟨b,q * 4 + 1,none⟩ = some (.string ⟨y.who.toArray⟩) ∧ w'.cell? ⟨b,q * 4 + 2,none⟩ = some (.int .i64 y.at_) ∧ w'.cell? ⟨b,q * 4 + 3,none⟩ = some (.int .i64 y.kind)) ∧ w'.cell? ⟨b,h * 4,none⟩ = some (.string ⟨x.run.toArray⟩) ∧ w'.cell? ⟨b,h * 4 + 1,none⟩ = some (.string ⟨x.who.toArray⟩) ∧ w'.cell? ⟨b,h * 4 + 2,none⟩ = some (.int .i64 x.at_) ∧ w'.cell? ⟨b,h * 4 + 3,none⟩ = some (.int .i64 x.kind))) (by kernel_rfl) (hsc) (fun hHeld => ?_)
   (refine wpAnyH_take (i:=0) (v:=?_) (by (simp only [Q0,Q2]; rfl)) (by kernel_rfl) (by kernel_rfl) (by kernel_rfl) (by exact fun _ _ _ h => h) (Or.inl ⟨by rfl,?_⟩) (by assumption) ?_; (rotate_left 1; (intro w hSw; (try dsimp only at hSw); go_simp); (try with_reducible rfl)); (try simp only [Act.put,Q3,Q4,Q5]))
   (refine wpAnyH_take (i:=1) (v:=?_) (by (simp only [Q0,Q1,Q2]; rfl)) (by kernel_rfl) (by kernel_rfl) (by kernel_rfl) (by exact fun _ _ _ h => h) (Or.inl ⟨by rfl,?_⟩) (by assumption) ?_; (rotate_left 1; (intro w hSw; (try dsimp only at hSw); go_simp); (try with_reducible rfl)); (try simp only [Act.put,Q3,Q4,Q5]))
   (refine wpAnyH_take (i:=2) (v:=?_) (by (simp only [Q0,Q1,Q2]; rfl)) (by kernel_rfl) (by kernel_rfl) (by kernel_rfl) (by exact fun _ _ _ h => h) (Or.inl ⟨by rfl,?_⟩) (by assumption) ?_; (rotate_left 1; (intro w hSw; (try dsimp only at hSw); go_simp); (try with_reducible rfl)); (try simp only [Act.put,Q3,Q4,Q5]))
   (refine wpAnyH_take (i:=3) (v:=?_) (by (simp only [Q0,Q1,Q2]; rfl)) (by kernel_rfl) (by kernel_rfl) (by kernel_rfl) (by exact fun _ _ _ h => h) (Or.inl ⟨by rfl,?_⟩) (by assumption) ?_; (rotate_left 1; (intro w hSw; (try dsimp only at hSw); go_simp); (try with_reducible rfl)); (try simp only [Act.put,Q3,Q4,Q5]))
   (refine wpAnyH_take (i:=4) (v:=?_) (by (simp only [Q0,Q1,Q2]; rfl)) (by kernel_rfl) (by kernel_rfl) (by kernel_rfl) (by exact fun _ _ _ h => h) (Or.inl ⟨by rfl,?_⟩) (by assumption) ?_; (rotate_left 1; (intro w hSw; (try dsimp only at hSw); go_simp); (try with_reducible rfl)); (try simp only [Act.put,Q3,Q4,Q5]))
   (refine wpAnyH_take (i:=5) (v:=?_) (by (simp only [Q0,Q1,Q2]; rfl)) (by kernel_rfl) (by kernel_rfl) (by kernel_rfl) (by exact fun _ _ _ h => h) (Or.inl ⟨by rfl,?_⟩) (by assumption) ?_; (rotate_left 1; (intro w hSw; (try dsimp only at hSw); go_simp); (try with_reducible rfl)); (try simp only [Act.put,Q3,Q4,Q5]))
   (refine wpAnyH_take (i:=6) (v:=?_) (by (simp only [Q0,Q1,Q2]; rfl)) (by kernel_rfl) (by kernel_rfl) (by kernel_rfl) (by exact fun _ _ _ h => h) (Or.inl ⟨by rfl,?_⟩) (by assumption) ?_; (rotate_left 1; (intro w hSw; (try dsimp only at hSw); go_simp); (try with_reducible rfl)); (try simp only [Act.put,Q3,Q4,Q5]))
   (refine wpAnyH_take (i:=7) (v:=?_) (by (simp only [Q0,Q1,Q2]; rfl)) (by kernel_rfl) (by kernel_rfl) (by kernel_rfl) (by exact fun _ _ _ h => h) (Or.inl ⟨by rfl,?_⟩) (by assumption) ?_; (rotate_left 1; (intro w hSw; (try dsimp only at hSw); go_simp); (try with_reducible rfl)); (try simp only [Act.put,Q3,Q4,Q5]))
   (refine wpAnyH_take (i:=8) (v:=?_) (by (simp only [Q0,Q1,Q2]; rfl)) (by kernel_rfl) (by kernel_rfl) (by kernel_rfl) (by exact fun _ _ _ h => h) (Or.inl ⟨by rfl,?_⟩) (by assumption) ?_; (rotate_left 1; (intro w hSw; (try dsimp only at hSw); go_simp); (try with_reducible rfl)); (try simp only [Act.put,Q3,Q4,Q5]))
   (refine wpAnyH_take (i:=9) (v:=?_) (by (simp only [Q0,Q1,Q2]; rfl)) (by kernel_rfl) (by kernel_rfl) (by kernel_rfl) (by exact fun _ _ _ h => h) (Or.inl ⟨by rfl,?_⟩) (by assumption) ?_; (rotate_left 1; (intro w hSw; (try dsimp only at hSw); go_simp); (try with_reducible rfl)); (try simp only [Act.put,Q3,Q4,Q5]))
   (refine wpAnyH_take (i:=10) (v:=?_) (by (simp only [Q0,Q1,Q2]; rfl)) (by kernel_rfl) (by kernel_rfl) (by kernel_rfl) (by exact fun _ _ _ h => h) (Or.inl ⟨by rfl,?_⟩) (by assumption) ?_; (rotate_left 1; (intro w hSw; (try dsimp only at hSw); go_simp); (try with_reducible rfl)); (try simp only [Act.put,Q3,Q4,Q5]))
   refine wpAnyH_ready (rs:=[11]) (by kernel_rfl) (by simp) ?_
   refine AllReadyH.cons rfl (fun K hK => ?_) AllReadyH.nil
   go_simp
   go_at_call 49
   refine (HRV.out _).mono ?_
   rintro e9 wa ⟨rfl,hba⟩
   replace hbz:=below_up hbz hba
   have hsc:=HSC.out _ hbz
   try simp only at hsc
   clear hba
   go_wp2_with fail
   refine hK.out _ _ (hsc) (fun hHeld => ?_)
   clear hK K
   (try simp only [Act.put,Q3,Q4,Q5])
   (refine wpAnyH_take (i:=12) (v:=?_) (by (simp only [Q0,Q1,Q2]; rfl)) (by kernel_rfl) (by kernel_rfl) (by kernel_rfl) (by exact fun _ _ _ h => h) (Or.inl ⟨by rfl,?_⟩) (by assumption) ?_; (rotate_left 1; (intro w hSw; (try dsimp only at hSw); go_simp); (try with_reducible rfl)); (try simp only [Act.put,Q3,Q4,Q5]))
   (refine wpAnyH_take (i:=13) (v:=?_) (by (simp only [Q0,Q1,Q2]; rfl)) (by kernel_rfl) (by kernel_rfl) (by kernel_rfl) (by exact fun _ _ _ h => h) (Or.inl ⟨by rfl,?_⟩) (by assumption) ?_; (rotate_left 1; (intro w hSw; (try dsimp only at hSw); go_simp); (try with_reducible rfl)); (try simp only [Act.put,Q3,Q4,Q5]))
   refine wpAnyH_done (by kernel_rfl) ?_ _
   have hC2:=HKP.out _ hbz
   by_cases hr0 : r < 0
   ·rw [decide_eq_true hr0]
    have hle : ltV y x:=(cmpV_lt y x).1 (by rw [← HR.out]; exact hr0)
    have HJ2 : Hid (h = hi ∨ ∃ x y,u[h - a]? = some x ∧ v[mid - 1 - h]? = some y ∧ leV y x):=Lib.hid (.inr ⟨x,y,HXY.out.1,HXY.out.2,leV_of hle⟩)
    have HC2:=Lib.hid hC2
    clear hC2 hle HKP HRV HSC HR hbz hsc hHeld HJ
    go_wp2_with fail
    go_roundw
    case rel => exact ⟨i,h,rfl,rfl,hmi,by omega,by omega,HI,HJ2,HC2⟩
    case measure => simp [intOf]; omega
   ·rw [decide_eq_false hr0]
    have hle : ¬ ltV y x:=fun hc => hr0 (by rw [HR.out]; exact (cmpV_lt y x).2 hc)
    have HI2 : Hid (h + 1 = lo ∨ ∃ x y,u[h + 1 - 1 - a]? = some x ∧ v[mid - (h + 1)]? = some y ∧ leV x y):=Lib.hid (.inr ⟨x,y,by simpa using HXY.out.1,by rw [show mid - (h + 1) = mid - 1 - h by omega]; exact HXY.out.2,hle⟩)
    have HC2:=Lib.hid hC2
    clear hC2 hle HKP HRV HSC HR hbz hsc hHeld HI
    go_wp2_with fail
    go_roundw
    case rel => exact ⟨h + 1,j,by go_num,rfl,by omega,by omega,hje,HI2,HJ,HC2⟩
    case measure => simp [intOf]; omega
  ·have hij2 : i = j:=by omega
   subst hij2
   have HCUT:=Lib.hid (sym_cut leV_tr leV_refl HSU.out HSV.out HLL.out.2.1 HLL.out.2.2 (by omega) (by omega) HMID.out HLO.out HHI.out hmi hje HI.out HJ.out)
   obtain ⟨en,hen2⟩ : ∃ en,en = m + (mid - i):=⟨_,rfl⟩
   have een : (nn : Int) - (i : Int) = (en : Int):=by have:=HNN.out; have:=HCUT.out; omega
   have HEN:=Lib.hid hen2
   have hin : i ≤ mid ∧ a ≤ i ∧ i ≤ m ∧ en ≤ e ∧ m ≤ en:=by have:=HCUT.out; have:=HLL.out; omega
   have hmen : mid ≤ en ∧ (mid = en ↔ i = m):=by omega
   have hrot:=rot_start L1 u v L3 (a:=a) (m:=m) (b:=0) (start:=i) (e:=mid - i) HLL.out.1 HLL.out.2.1 (by omega) (by omega) (by omega) (by have:=HCUT.out; omega)
   have HUV : Hid ((i = m ∨ mid - i = 0) → us = L1 ++ ((u.take (i - a) ++ v.take (mid - i)) ++ ((u.drop (i - a) ++ v.drop (mid - i)) ++ L3))):=Lib.hid (fun h => by
    rw [← HUS.out]
    have h2:=HLL.out
    rcases h with h | h
    ·rw [List.take_of_length_le (show u.length ≤ i - a by omega),List.drop_of_length_le (show u.length ≤ i - a by omega),List.nil_append,List.append_assoc,← List.append_assoc (v.take _),List.take_append_drop]
    ·rw [h,List.take_zero,List.drop_zero,List.append_nil,List.append_assoc,← List.append_assoc (u.take _),List.take_append_drop])
   rw [HUS.out] at hrot
   have HROT:=Lib.hid hrot
   have HHL:=Lib.hid HCUT.out.2.2.2.2
   have HP1 : Hid ((u.take (i - a)).length = i - a ∧ (v.take (mid - i)).length = mid - i ∧ (u.drop (i - a)).length = en - mid ∧ (v.drop (mid - i)).length = e - en):=Lib.hid (by
    have h2:=HLL.out
    have h3:=HCUT.out
    simp only [List.length_take,List.length_drop]
    omega)
   have HPW : Hid ((u.take (i - a)).Pairwise leV ∧ (v.take (mid - i)).Pairwise leV ∧ (u.drop (i - a)).Pairwise leV ∧ (v.drop (mid - i)).Pairwise leV):=Lib.hid ⟨pw_take HSU.out _,pw_take HSV.out _,pw_drop HSU.out _,pw_drop HSV.out _⟩
   have HPM:=Lib.hid (cut_perm u v (i - a) (mid - i))
   clear hen2 hrot HI HJ
   generalize u.take (i - a) = u1 at *
   generalize v.take (mid - i) = v1 at *
   generalize u.drop (i - a) = u2 at *
   generalize v.drop (mid - i) = v2 at *
   obtain ⟨b1,hb1⟩ : ∃ b1,b1 = (decide (i < m) && decide (m < en)):=⟨_,rfl⟩
   have HB1:=Lib.hid hb1
   clear hb1
   go_upto_region 39 with (fail)
   go_cut [185] from 175 to 185 (fun x wx => x = .bool b1 ∧ Hid (SrtC w0 wx base b c n us))
   case first =>
    by_cases ht1 : i < m
    ·by_cases ht2 : m < en
     ·have hb : b1 = true:=by rw [HB1.out]; simp [ht1,ht2]
      subst hb
      go_wp2_with fail
      go_meet
      exact ⟨rfl,HC⟩
     ·have hb : b1 = false:=by rw [HB1.out]; simp [ht2]
      subst hb
      go_wp2_with fail
      go_meet
      exact ⟨rfl,HC⟩
    ·have hb : b1 = false:=by rw [HB1.out]; simp [ht1]
     subst hb
     go_wp2_with fail
     go_meet
     exact ⟨rfl,HC⟩
   case rest =>
   clear HC
   obtain ⟨rfl,HC⟩:=hcut
   go_upto_if 185 with (fail)
   go_cut [24] from 150 (fun x wx => x = .int .i64 en ∧ Hid (SrtC w0 wx base b c n (L1 ++ ((u1 ++ v1) ++ ((u2 ++ v2) ++ L3)))))
   case first =>
    cases hbb : b1
    case true =>
     obtain ⟨ht1,ht2⟩ : i < m ∧ m < en:=by have h1:=HB1.out; rw [hbb] at h1; simpa using h1.symm
     subst hbb
     ·have HR9 : Hid (RotI (L1 ++ ((u1 ++ v1) ++ ((u2 ++ v2) ++ L3))) us m (m - i) (en - m)):=Lib.hid (by rw [show en - m = mid - i by have:=HEN.out; omega]; exact HROT.out)
      go_wp2_with fail
      refine (rotateV_any base b c n i m en _ us w0 _ HC.out HR9.out ht1 ht2 (by omega) hn _).mono ?_
      rintro e9 w2 ⟨rfl,hC2⟩
      have HC2:=Lib.hid hC2
      clear hC2 HC
      go_wp2_with fail
      go_meet
      exact ⟨rfl,HC2⟩
    case false =>
     have ht : ¬ (i < m ∧ m < en):=by have h1:=HB1.out; rw [hbb] at h1; simpa using h1.symm
     subst hbb
     have HC2 : Hid (SrtC w0 wc base b c n (L1 ++ ((u1 ++ v1) ++ ((u2 ++ v2) ++ L3)))):=Lib.hid (by rw [← HUV.out (by have:=HEN.out; omega)]; exact HC.out)
     clear HC ht
     go_wp2_with fail
     go_meet
     exact ⟨rfl,HC2⟩
   case rest =>
   clear HC HROT HUV
   obtain ⟨rfl,HC⟩:=hcut
   obtain ⟨b1,hb1⟩ : ∃ b1,b1 = (decide (a < i) && decide (i < mid)):=⟨_,rfl⟩
   have HB1:=Lib.hid hb1
   clear hb1
   go_upto_region 41 with (fail)
   go_cut [199] from 189 to 199 (fun x wx => x = .bool b1 ∧ Hid (SrtC w0 wx base b c n (L1 ++ ((u1 ++ v1) ++ ((u2 ++ v2) ++ L3)))))
   case first =>
    by_cases ht1 : a < i
    ·by_cases ht2 : i < mid
     ·have hb : b1 = true:=by rw [HB1.out]; simp [ht1,ht2]
      subst hb
      go_wp2_with fail
      go_meet
      exact ⟨rfl,HC⟩
     ·have hb : b1 = false:=by rw [HB1.out]; simp [ht2]
      subst hb
      go_wp2_with fail
      go_meet
      exact ⟨rfl,HC⟩
    ·have hb : b1 = false:=by rw [HB1.out]; simp [ht1]
     subst hb
     go_wp2_with fail
     go_meet
     exact ⟨rfl,HC⟩
   case rest =>
   clear HC
   obtain ⟨rfl,HC⟩:=hcut
   go_upto_if 199 with (fail)
   go_cut [24] from 150 (fun x wx => x = .int .i64 en ∧ ∃ s1 : List VoteE,Hid (s1.Perm (u1 ++ v1) ∧ s1.Pairwise leV) ∧ Hid (SrtC w0 wx base b c n (L1 ++ (s1 ++ ((u2 ++ v2) ++ L3)))))
   case first =>
    cases hbb : b1
    case true =>
     obtain ⟨ht1,ht2⟩ : a < i ∧ i < mid:=by have h1:=HB1.out; rw [hbb] at h1; simpa using h1.symm
     subst hbb
     ·have HC1 : Hid (SrtC w0 wc base b c n (L1 ++ (u1 ++ (v1 ++ ((u2 ++ v2) ++ L3))))):=Lib.hid (by have:=HC.out; rwa [List.append_assoc] at this)
      clear HC
      go_wp2_with fail
      refine (HAL.out a i mid L1 u1 v1 ((u2 ++ v2) ++ L3) _ (by omega) HC1.out HLL.out.1 HP1.out.1 HP1.out.2.1 ht1 ht2 (by omega) HPW.out.1 HPW.out.2.1).mono ?_
      rintro e9 w2 ⟨rfl,s1,hp1,hs1,hC2⟩
      have HC2:=Lib.hid hC2
      have HS1 : Hid (s1.Perm (u1 ++ v1) ∧ s1.Pairwise leV):=Lib.hid ⟨hp1,hs1⟩
      clear hC2 HC1 hp1 hs1
      go_wp2_with fail
      go_meet
      exact ⟨rfl,s1,HS1,HC2⟩
    case false =>
     have ht : ¬ (a < i ∧ i < mid):=by have h1:=HB1.out; rw [hbb] at h1; simpa using h1.symm
     subst hbb
     have HS1 : Hid ((u1 ++ v1).Perm (u1 ++ v1) ∧ (u1 ++ v1).Pairwise leV):=Lib.hid ⟨List.Perm.refl _,by
      by_cases ht2 : a < i
      ·rw [List.eq_nil_of_length_eq_zero (show v1.length = 0 by have:=HP1.out; omega),List.append_nil]; exact HPW.out.1
      ·rw [List.eq_nil_of_length_eq_zero (show u1.length = 0 by have:=HP1.out; omega),List.nil_append]; exact HPW.out.2.1⟩
     clear ht
     go_wp2_with fail
     go_meet
     exact ⟨rfl,_,HS1,HC⟩
   case rest =>
   clear HC
   obtain ⟨rfl,s1,HS1,HC⟩:=hcut
   have HPO : Hid (∀ (W : World) (s2 : List VoteE),s2.Perm (u2 ++ v2) → s2.Pairwise leV → SrtC w0 W base b c n (L1 ++ (s1 ++ (s2 ++ L3))) → SymP w0 base b c n L1 L3 (u ++ v) (.returned (.tuple #[])) W):=Lib.hid (fun W s2 h1 h2 h3 => by
    have hd:=halves_done HS1.out.1 h1 HS1.out.2 h2 HHL.out
    exact ⟨rfl,s1 ++ s2,hd.1.trans HPM.out,hd.2,by rw [List.append_assoc]; exact h3⟩)
   by_cases ht1 : mid < en
   ·by_cases ht2 : en < e
    ·have HC1 : Hid (SrtC w0 wc base b c n ((L1 ++ s1) ++ (u2 ++ (v2 ++ L3)))):=Lib.hid (by have:=HC.out; simpa only [List.append_assoc] using this)
     have HLS : Hid ((L1 ++ s1).length = mid):=Lib.hid (by
      have h1:=HS1.out.1.length_eq
      have h2:=HP1.out
      have h3:=HLL.out
      rw [List.length_append] at h1 ⊢
      omega)
     clear HC
     go_wp2_with fail
     refine (HAL.out mid en e (L1 ++ s1) u2 v2 L3 _ (by omega) HC1.out HLS.out HP1.out.2.2.1 HP1.out.2.2.2 ht1 ht2 hen HPW.out.2.2.1 HPW.out.2.2.2).mono ?_
     rintro e9 w2 ⟨rfl,s2,hp1,hs1,hC2⟩
     have HE:=Lib.hid (HPO.out w2 s2 hp1 hs1 (by rwa [List.append_assoc] at hC2))
     clear hC2 HC1 hp1 hs1
     go_wp2_with fail
     go_end0
     exact HE.out
    ·have HE:=Lib.hid (HPO.out _ (u2 ++ v2) (List.Perm.refl _) (by rw [List.eq_nil_of_length_eq_zero (show v2.length = 0 by have:=HP1.out; omega),List.append_nil]; exact HPW.out.2.2.1) HC.out)
     go_wp2_with fail
     go_end0
     exact HE.out
   ·have HE:=Lib.hid (HPO.out _ (u2 ++ v2) (List.Perm.refl _) (by rw [List.eq_nil_of_length_eq_zero (show u2.length = 0 by have:=HP1.out; omega),List.nil_append]; exact HPW.out.2.2.2) HC.out)
    go_wp2_with fail
    go_end0
    exact HE.out
theorem symMergeV_any (base b c n : Nat) (w0 : World) (hn : n ≤ 1000) : ∀ K,SymAll w0 base b c n K
 | 0 => fun a m e L1 u v L3 w hK _ _ _ _ _ _ _ _ _ => by omega
 | K + 1 => fun a m e L1 u v L3 w hK hC hl hu hv ham hme hen hsu hsv => by
  by_cases h1 : m = a + 1
  ·match u,hu with
   | [x],_ => exact symA_any base b c n a m e L1 v L3 x w0 w (by simpa using hC) hl h1 hv hme hen hn hsv
   | [],hu => simp at hu; omega
   | x :: y :: r,hu => simp at hu; omega
  ·by_cases h2 : e = m + 1
   ·match v,hv with
    | [x],_ => exact symB_any base b c n a m e L1 u L3 x w0 w (by simpa using hC) hl h2 hu (by omega) hen hn hsu
    | [],hv => simp at hv; omega
    | x :: y :: r,hv => simp at hv; omega
   ·exact symC_any base b c n a m e K L1 u v L3 w0 w (symMergeV_any base b c n w0 hn K) hK hC hl hu hv (by omega) (by omega) hen hn hsu hsv
end Go.Proofs.YtgeaeockmadhcaaGreatDoor
/- The walks of slices.insertionSortCmpFunc, slices.stableCmpFunc and slices.SortStableFunc over votes. -/
namespace Go.Proofs.YtgeaeockmadhcaaGreatDoor
set_option linter.unusedVariables false
set_option linter.unusedSimpArgs false
open Go.RowKit Go.Sort

def ST (L1 s T : List VoteE) (x : VoteE) (a k : Nat) : List VoteE:=L1 ++ (s.take (k - a) ++ x :: (s.drop (k - a) ++ T))
theorem carry_left (L1 s T : List VoteE) (x : VoteE) {a k : Nat} (hl : L1.length = a) (hak : a ≤ k) (hk : k - a < s.length) : ∃ y,s[k - a]? = some y ∧ (ST L1 s T x a (k + 1))[k + 1]? = some x ∧ (ST L1 s T x a (k + 1))[k]? = some y ∧ swapAt (ST L1 s T x a (k + 1)) (k + 1) k = ST L1 s T x a k ∧ s.drop (k - a) = y :: s.drop (k + 1 - a):=by
 have hka : L1.length + (s.take (k - a)).length = k:=by rw [List.length_take,hl]; omega
 have hdr : s.drop (k - a) = s[k - a] :: s.drop (k + 1 - a):=by rw [List.drop_eq_getElem_cons hk,show k - a + 1 = k + 1 - a by omega]
 have htk : s.take (k + 1 - a) = s.take (k - a) ++ [s[k - a]]:=by rw [show k + 1 - a = k - a + 1 by omega,List.take_add_one,List.getElem?_eq_getElem hk]; rfl
 have est : ST L1 s T x a (k + 1) = L1 ++ (s.take (k - a) ++ s[k - a] :: x :: (s.drop (k + 1 - a) ++ T)):=by unfold ST; rw [htk]; simp only [List.append_assoc,List.cons_append,List.nil_append]
 refine ⟨s[k - a],List.getElem?_eq_getElem hk,?_,?_,?_,hdr⟩
 ·rw [est,List.getElem?_append_right (by omega),List.getElem?_append_right (by omega),show k + 1 - L1.length - (s.take (k - a)).length = 0 + 1 by omega]; rfl
 ·rw [est,List.getElem?_append_right (by omega),List.getElem?_append_right (by omega),show k - L1.length - (s.take (k - a)).length = 0 by omega]; rfl
 ·rw [swapAt_comm _ (by omega),est]
  have h9:=carry_right L1 (s.take (k - a)) (s.drop (k + 1 - a) ++ T) s[k - a] x hka
  rw [h9]
  unfold ST
  rw [hdr]
  simp
set_option maxHeartbeats 4000000 in
set_option maxRecDepth 100000 in
theorem insV_any (base b c n a e : Nat) (L1 z L3 : List VoteE) (w0 w : World) (hC : SrtC w0 w base b c n (L1 ++ (z ++ L3))) (hl : L1.length = a) (hz : z.length = e - a) (hae : a ≤ e) (hen : e ≤ n) (hn : n ≤ 1000) :
  Calls Tryz.prog 108 #[.slice (some ⟨b,0,none⟩) n c,.int .i64 a,.int .i64 e,FnV] w (SymP w0 base b c n L1 L3 z):=by
 have HL:=Lib.hid hl
 have HZ:=Lib.hid hz
 have hC0 : Hid (SrtC w0 w base b c n (L1 ++ (z.take (a + 1 - a) ++ (z.drop (a + 1 - a) ++ L3)))):=Lib.hid (by rw [← List.append_assoc (z.take _),List.take_append_drop]; exact hC)
 have HS0 : Hid ((z.take (a + 1 - a)).Perm (z.take (a + 1 - a)) ∧ (z.take (a + 1 - a)).Pairwise leV):=Lib.hid ⟨List.Perm.refl _,by
  rw [show a + 1 - a = 1 by omega]
  match z with
  | [] => exact List.Pairwise.nil
  | y :: _ => simp⟩
 clear hl hz hC
 unfold FnV
 go_enter Tryz.func108,Tryz.ntmps108
 go_wp2_with fail
 go_loopw [8] (fun si wr => ∃ (i : Nat) (s : List VoteE),si = .int .i64 i ∧ a + 1 ≤ i ∧ i ≤ e + 1 ∧ Hid (s.Perm (z.take (i - a)) ∧ s.Pairwise leV) ∧ Hid (SrtC w0 wr base b c n (L1 ++ (s ++ (z.drop (i - a) ++ L3))))) (fun si _ => e + 1 - (intOf si).toNat)
 case atStart => exact ⟨a + 1,_,by go_num,Nat.le_refl _,by omega,HS0,hC0⟩
 case round =>
  clear HS0 hC0
  obtain ⟨i,s,rfl,hai,hie,HS,HC⟩:=hrel
  by_cases hlt : i < e
  ·have HI0 : Hid (∃ x,z[i - a]? = some x ∧ z.drop (i - a) = x :: z.drop (i + 1 - a) ∧ z.take (i + 1 - a) = z.take (i - a) ++ [x]):=Lib.hid (by
    have hiz : i - a < z.length:=by have:=HZ.out; omega
    refine ⟨z[i - a],List.getElem?_eq_getElem hiz,?_,?_⟩
    ·rw [List.drop_eq_getElem_cons hiz,show i - a + 1 = i + 1 - a by omega]
    ·rw [show i + 1 - a = i - a + 1 by omega,List.take_add_one,List.getElem?_eq_getElem hiz]; rfl)
   obtain ⟨x,-,hzd,hzt⟩:=HI0.out
   have HZT:=Lib.hid hzt
   have HSL : Hid (s.length = i - a):=Lib.hid (by have h1:=HS.out.1.length_eq; rw [List.length_take] at h1; have:=HZ.out; omega)
   have HC1 : Hid (SrtC w0 wr base b c n (ST L1 s (z.drop (i + 1 - a) ++ L3) x a i)):=Lib.hid (by
    have h1:=HC.out
    rw [hzd] at h1
    unfold ST
    rw [List.take_of_length_le (by have:=HSL.out; omega),List.drop_of_length_le (by have:=HSL.out; omega)]
    exact h1)
   have HD0 : Hid (∀ y ∈ s.drop (i - a),leV x y):=Lib.hid (by rw [List.drop_of_length_le (by have:=HSL.out; omega)]; simp)
   have HOUT : Hid (∀ (j : Nat) (W : World),a ≤ j → j ≤ i → (j = a ∨ ∃ y,s[j - 1 - a]? = some y ∧ leV y x) → (∀ y ∈ s.drop (j - a),leV x y) → SrtC w0 W base b c n (ST L1 s (z.drop (i + 1 - a) ++ L3) x a j) → ∃ s',(s'.Perm (z.take (i + 1 - a)) ∧ s'.Pairwise leV) ∧ SrtC w0 W base b c n (L1 ++ (s' ++ (z.drop (i + 1 - a) ++ L3)))):=Lib.hid (fun j W h1 h2 h3 h4 h5 => by
    have h6:=HSL.out
    have hins:=ins_sorted leV_tr leV_refl HS.out.2 (x:=x) (i:=j - a) (by omega) (by
     rcases h3 with h | ⟨y,hy,h⟩
     ·left; omega
     ·rcases Nat.eq_zero_or_pos (j - a) with h0 | h0
      ·left; exact h0
      ·right
       obtain ⟨q,rfl⟩:=List.getElem?_eq_some_iff.1 hy
       have e8 : j - a - 1 = j - 1 - a:=by omega
       exact ⟨by omega,by simp only [e8]; exact h⟩) (by
     rcases Nat.lt_or_ge (j - a) s.length with h0 | h0
     ·right
      refine ⟨h0,h4 _ ?_⟩
      rw [List.drop_eq_getElem_cons h0]
      exact List.mem_cons_self
     ·left; omega)
    refine ⟨_,⟨?_,hins.1⟩,?_⟩
    ·rw [HZT.out]
     exact hins.2.trans ((List.perm_append_singleton x s).symm.trans (HS.out.1.append_right [x]))
    ·unfold ST at h5
     rw [List.append_assoc]
     exact h5)
   generalize hT : z.drop (i + 1 - a) ++ L3 = T at *
   have HT:=Lib.hid hT
   clear hT hzd hzt HI0 HC
   have hail : a ≤ i:=by omega
   go_wp2_with fail
   go_loopw [9] (fun sj wr => ∃ j : Nat,sj = .int .i64 j ∧ a ≤ j ∧ j ≤ i ∧ Hid (∀ y ∈ s.drop (j - a),leV x y) ∧ Hid (SrtC w0 wr base b c n (ST L1 s T x a j))) (fun sj _ => (intOf sj).toNat)
   case atStart => exact ⟨i,rfl,hail,Nat.le_refl _,HD0,HC1⟩
   case round =>
    clear HC1 HD0
    obtain ⟨j,rfl,haj,hji,HD,HC⟩:=hrel
    by_cases hja : a < j
    ·obtain ⟨k0,rfl⟩ : ∃ k0,j = k0 + 1:=⟨j - 1,by omega⟩
     obtain ⟨y,hsy,hx,hy,hsw,hdr⟩:=carry_left L1 s T x (k:=k0) HL.out (by omega) (by have:=HSL.out; omega)
     obtain ⟨k1,hk1⟩ : ∃ k1,k1 = k0 + 1:=⟨_,rfl⟩
     rw [← hk1] at hx hsw HC hja haj hji ⊢
     have HSY : Hid (s[k1 - 1 - a]? = some y):=Lib.hid (by rw [hk1]; exact hsy)
     have HDR : Hid (s.drop (k0 - a) = y :: s.drop (k1 - a)):=Lib.hid (by rw [hk1]; exact hdr)
     have HSW0 : Hid (∀ W,SrtC w0 W base b c n (ST L1 s T x a k1) → (ST L1 s T x a k1)[k1]? = some x ∧ (ST L1 s T x a k1)[k0]? = some y ∧ swapAt (ST L1 s T x a k1) k1 k0 = ST L1 s T x a k0):=Lib.hid (fun W _ => ⟨hx,by rw [hk1]; exact hy,hsw⟩)
     have hy : (ST L1 s T x a k1)[k0]? = some y:=by rw [hk1]; exact hy
     have wk1 : IntKind.i64.wrap ((k1 : Int) - 1) = (k0 : Int):=by rw [IntWalk.i64_in _ ⟨by omega,by omega⟩]; omega
     have hk1n : k1 < n:=by omega
     have hk0n : k0 < n:=by omega
     have hk01 : k0 < k1:=by omega
     have ha0 : a ≤ k0:=by omega
     have HK1:=Lib.hid hk1
     have hbb:=(HC.out.atS hx).1
     have HD2:=HD
     rw [← hk1] at HD2
     clear hsy hsw hdr hk1 HD
     obtain ⟨r,hr⟩ : ∃ r,r = cmpV x y:=⟨_,rfl⟩
     obtain ⟨us,hus⟩ : ∃ us,us = ST L1 s T x a k1:=⟨_,rfl⟩
     rw [← hus] at HC hx hy
     have HUS:=Lib.hid hus
     clear hus
     have HSC : Hid (∀ W,Below wr.heap.size wr W → (fun w' => (w'.cell? ⟨b,k1 * 4,none⟩ = some (.string ⟨x.run.toArray⟩) ∧ w'.cell? ⟨b,k1 * 4 + 1,none⟩ = some (.string ⟨x.who.toArray⟩) ∧ w'.cell? ⟨b,k1 * 4 + 2,none⟩ = some (.int .i64 x.at_) ∧ w'.cell? ⟨b,k1 * 4 + 3,none⟩ = some (.int .i64 x.kind)) ∧ w'.cell? ⟨b,k0 * 4,none⟩ = some (.string ⟨y.run.toArray⟩) ∧ w'.cell? ⟨b,k0 * 4 + 1,none⟩ = some (.string ⟨y.who.toArray⟩) ∧ w'.cell? ⟨b,k0 * 4 + 2,none⟩ = some (.int .i64 y.at_) ∧ w'.cell? ⟨b,k0 * 4 + 3,none⟩ = some (.int .i64 y.kind)) W):=Lib.hid (fun W hW => (HC.out.keep hW).two hx hy)
     have HRV : Hid (∀ W,Calls Tryz.prog 49 #[.agg #[.string ⟨x.run.toArray⟩,.string ⟨x.who.toArray⟩,.int .i64 x.at_,.int .i64 x.kind],.agg #[.string ⟨y.run.toArray⟩,.string ⟨y.who.toArray⟩,.int .i64 y.at_,.int .i64 y.kind]] W fun e w' => e = .returned (.int .i64 r) ∧ Below W.heap.size W w'):=Lib.hid (fun W => by rw [hr]; exact byVote_any _ _ _ _ _ _ _ _ W)
     have HKP : Hid (∀ W,Below wr.heap.size wr W → SrtC w0 W base b c n us):=Lib.hid (fun W hW => HC.out.keep hW)
     have HR:=Lib.hid hr
     have hbz : Below wr.heap.size wr wr.drew:=below_drewN' (Below.refl _ _) 1
     have hsc:=HSC.out _ hbz
     try simp only at hsc
     clear hr HC hx hy
     go_wp2_with fail
     refine wp_region_held_drew (S:=(fun w' => (w'.cell? ⟨b,k1 * 4,none⟩ = some (.string ⟨x.run.toArray⟩) ∧ w'.cell? ⟨b,k1 * 4 + 1,none⟩ = some (.string ⟨x.who.toArray⟩) ∧ w'.cell? ⟨b,k1 * 4 + 2,none⟩ = some (.int .i64 x.at_) ∧ w'.cell? ⟨b,k1 * 4 + 3,none⟩ = some (.int .i64 x.kind)) ∧ w'.cell? ⟨b,k0 * 4,none⟩ = some (.string ⟨y.run.toArray⟩) ∧ w'.cell? ⟨b,k0 * 4 + 1,none⟩ = some (.string ⟨y.who.toArray⟩) ∧ w'.cell? ⟨b,k0 * 4 + 2,none⟩ = some (.int .i64 y.at_) ∧ w'.cell? ⟨b,k0 * 4 + 3,none⟩ = some (.int .i64 y.kind))) (by kernel_rfl) (hsc) (fun hHeld => ?_)
     (refine wpAnyH_take (i:=0) (v:=?_) (by (simp only [Q0,Q2]; rfl)) (by kernel_rfl) (by kernel_rfl) (by kernel_rfl) (by exact fun _ _ _ h => h) (Or.inl ⟨by rfl,?_⟩) (by assumption) ?_; (rotate_left 1; (intro w hSw; (try dsimp only at hSw); go_simp); (try with_reducible rfl)); (try simp only [Act.put,Q3,Q4,Q5]))
     (refine wpAnyH_take (i:=1) (v:=?_) (by (simp only [Q0,Q1,Q2]; rfl)) (by kernel_rfl) (by kernel_rfl) (by kernel_rfl) (by exact fun _ _ _ h => h) (Or.inl ⟨by rfl,?_⟩) (by assumption) ?_; (rotate_left 1; (intro w hSw; (try dsimp only at hSw); go_simp); (try with_reducible rfl)); (try simp only [Act.put,Q3,Q4,Q5]))
     (refine wpAnyH_take (i:=2) (v:=?_) (by (simp only [Q0,Q1,Q2]; rfl)) (by kernel_rfl) (by kernel_rfl) (by kernel_rfl) (by exact fun _ _ _ h => h) (Or.inl ⟨by rfl,?_⟩) (by assumption) ?_; (rotate_left 1; (intro w hSw; (try dsimp only at hSw); go_simp); (try with_reducible rfl)); (try simp only [Act.put,Q3,Q4,Q5]))
     (refine wpAnyH_take (i:=3) (v:=?_) (by (simp only [Q0,Q1,Q2]; rfl)) (by kernel_rfl) (by kernel_rfl) (by kernel_rfl) (by exact fun _ _ _ h => h) (Or.inl ⟨by rfl,?_⟩) (by assumption) ?_; (rotate_left 1; (intro w hSw; (try dsimp only at hSw); go_simp); (try with_reducible rfl)); (try simp only [Act.put,Q3,Q4,Q5]))
     (refine wpAnyH_take (i:=4) (v:=?_) (by (simp only [Q0,Q1,Q2]; rfl)) (by kernel_rfl) (by kernel_rfl) (by kernel_rfl) (by exact fun _ _ _ h => h) (Or.inl ⟨by rfl,?_⟩) (by assumption) ?_; (rotate_left 1; (intro w hSw; (try dsimp only at hSw); go_simp); (try with_reducible rfl)); (try simp only [Act.put,Q3,Q4,Q5]))
     (refine wpAnyH_take (i:=5) (v:=?_) (by (simp only [Q0,Q1,Q2]; rfl)) (by kernel_rfl) (by kernel_rfl) (by kernel_rfl) (by exact fun _ _ _ h => h) (Or.inl ⟨by rfl,?_⟩) (by assumption) ?_; (rotate_left 1; (intro w hSw; (try dsimp only at hSw); go_simp); (try with_reducible rfl)); (try simp only [Act.put,Q3,Q4,Q5]))
     (refine wpAnyH_take (i:=6) (v:=?_) (by (simp only [Q0,Q1,Q2]; rfl)) (by kernel_rfl) (by kernel_rfl) (by kernel_rfl) (by exact fun _ _ _ h => h) (Or.inl ⟨by rfl,?_⟩) (by assumption) ?_; (rotate_left 1; (intro w hSw; (try dsimp only at hSw); go_simp); (try with_reducible rfl)); (try simp only [Act.put,Q3,Q4,Q5]))
     (refine wpAnyH_take (i:=7) (v:=?_) (by (simp only [Q0,Q1,Q2]; rfl)) (by kernel_rfl) (by kernel_rfl) (by kernel_rfl) (by exact fun _ _ _ h => h) (Or.inl ⟨by rfl,?_⟩) (by assumption) ?_; (rotate_left 1; (intro w hSw; (try dsimp only at hSw); go_simp); (try with_reducible rfl)); (try simp only [Act.put,Q3,Q4,Q5]))
     (refine wpAnyH_take (i:=8) (v:=?_) (by (simp only [Q0,Q1,Q2]; rfl)) (by kernel_rfl) (by kernel_rfl) (by kernel_rfl) (by exact fun _ _ _ h => h) (Or.inl ⟨by rfl,?_⟩) (by assumption) ?_; (rotate_left 1; (intro w hSw; (try dsimp only at hSw); go_simp); (try with_reducible rfl)); (try simp only [Act.put,Q3,Q4,Q5]))
     (refine wpAnyH_take (i:=9) (v:=?_) (by (simp only [Q0,Q1,Q2]; rfl)) (by kernel_rfl) (by kernel_rfl) (by kernel_rfl) (by exact fun _ _ _ h => h) (Or.inl ⟨by rfl,?_⟩) (by assumption) ?_; (rotate_left 1; (intro w hSw; (try dsimp only at hSw); go_simp); (try with_reducible rfl)); (try simp only [Act.put,Q3,Q4,Q5]))
     (refine wpAnyH_take (i:=10) (v:=?_) (by (simp only [Q0,Q1,Q2]; rfl)) (by kernel_rfl) (by kernel_rfl) (by kernel_rfl) (by exact fun _ _ _ h => h) (Or.inl ⟨by rfl,?_⟩) (by assumption) ?_; (rotate_left 1; (intro w hSw; (try dsimp only at hSw); go_simp); (try with_reducible rfl)); (try simp only [Act.put,Q3,Q4,Q5]))
     (refine wpAnyH_take (i:=11) (v:=?_) (by (simp only [Q0,Q1,Q2]; rfl)) (by kernel_rfl) (by kernel_rfl) (by kernel_rfl) (by exact fun _ _ _ h => h) (Or.inl ⟨by rfl,?_⟩) (by assumption) ?_; (rotate_left 1; (intro w hSw; (try dsimp only at hSw); go_simp); (try with_reducible rfl)); (try simp only [Act.put,Q3,Q4,Q5]))
     (refine wpAnyH_take (i:=12) (v:=?_) (by (simp only [Q0,Q1,Q2]; rfl)) (by kernel_rfl) (by kernel_rfl) (by kernel_rfl) (by exact fun _ _ _ h => h) (Or.inl ⟨by rfl,?_⟩) (by assumption) ?_; (rotate_left 1; (intro w hSw; (try dsimp only at hSw); go_simp); (try with_reducible rfl)); (try simp only [Act.put,Q3,Q4,Q5]))
     (refine wpAnyH_take (i:=13) (v:=?_) (by (simp only [Q0,Q1,Q2]; rfl)) (by kernel_rfl) (by kernel_rfl) (by kernel_rfl) (by exact fun _ _ _ h => h) (Or.inl ⟨by rfl,?_⟩) (by assumption) ?_; (rotate_left 1; (intro w hSw; (try dsimp only at hSw); go_simp); (try with_reducible rfl)); (try simp only [Act.put,Q3,Q4,Q5]))
     refine wpAnyH_ready (rs:=[14]) (by kernel_rfl) (by simp) ?_
     refine AllReadyH.cons rfl (fun K hK => ?_) AllReadyH.nil
     go_simp
     go_at_call 49
     refine (HRV.out _).mono ?_
     rintro e9 wa ⟨rfl,hba⟩
     replace hbz:=below_up hbz hba
     have hsc:=HSC.out _ hbz
     try simp only at hsc
     clear hba
     go_wp2_with fail
     refine hK.out _ _ (hsc) (fun hHeld => ?_)
     clear hK K
     (try simp only [Act.put,Q3,Q4,Q5])
     (refine wpAnyH_take (i:=15) (v:=?_) (by (simp only [Q0,Q1,Q2]; rfl)) (by kernel_rfl) (by kernel_rfl) (by kernel_rfl) (by exact fun _ _ _ h => h) (Or.inl ⟨by rfl,?_⟩) (by assumption) ?_; (rotate_left 1; (intro w hSw; (try dsimp only at hSw); go_simp); (try with_reducible rfl)); (try simp only [Act.put,Q3,Q4,Q5]))
     (refine wpAnyH_take (i:=16) (v:=?_) (by (simp only [Q0,Q1,Q2]; rfl)) (by kernel_rfl) (by kernel_rfl) (by kernel_rfl) (by exact fun _ _ _ h => h) (Or.inl ⟨by rfl,?_⟩) (by assumption) ?_; (rotate_left 1; (intro w hSw; (try dsimp only at hSw); go_simp); (try with_reducible rfl)); (try simp only [Act.put,Q3,Q4,Q5]))
     refine wpAnyH_done (by kernel_rfl) ?_ _
     have hC2:=HKP.out _ hbz
     by_cases hr0 : r < 0
     ·have hle : ltV x y:=(cmpV_lt x y).1 (by rw [← HR.out]; exact hr0)
      have HD3 : Hid (∀ q ∈ s.drop (k0 - a),leV x q):=Lib.hid (fun q hq => by
       rw [HDR.out] at hq
       rcases List.mem_cons.1 hq with rfl | hq
       ·exact leV_of hle
       ·exact HD2.out q hq)
      have HC:=Lib.hid hC2
      rw [HUS.out] at HC
      obtain ⟨hx,hy,hsw⟩:=HSW0.out _ HC.out
      clear wk1
      have ek1 : (k1 : Int) - 1 = (k0 : Int):=by have:=HK1.out; omega
      clear hC2 hle HKP HRV HSC HR hbz hsc hHeld HD2 hbb
      have hd0 : decide (r < 0) = true:=decide_eq_true hr0
      go_wp2_with fail
      obtain ⟨hbz,⟨c0,c1,c2,c3⟩,f0,f1,f2,f3⟩:=HC.out.atS hx
      obtain ⟨-,⟨d0,d1,d2,d3⟩,g0,g1,g2,g3⟩:=HC.out.atS hy
      have HS9:=Lib.hid (HC.out.swap hx hy).drew
      rw [hsw] at HS9
      clear hx hy hsw HC
      go_wp2_with fail
      go_big_region
      clear c0 c1 c2 c3 d0 d1 d2 d3 f0 f1 f2 f3 g0 g1 g2 g3
      go_wp2_with fail
      go_roundw
      case rel => exact ⟨k0,by go_num,ha0,by omega,HD3,HS9⟩
      case measure => simp [intOf]; omega
     ·have hle : ¬ ltV x y:=fun hc => hr0 (by rw [HR.out]; exact (cmpV_lt x y).2 hc)
      have HF:=Lib.hid (HOUT.out k1 _ haj hji (.inr ⟨y,HSY.out,hle⟩) HD2.out (by rw [← HUS.out]; exact hC2))
      clear hC2 hle HKP HRV HSC HR hbz hsc hHeld HD2 hbb
      have hd0 : decide (r < 0) = false:=decide_eq_false hr0
      obtain ⟨s',HS2,HC2⟩:=HF.out
      have HS2:=Lib.hid HS2
      have HC2:=Lib.hid HC2
      go_wp2_with fail
      go_roundw
      case rel => exact ⟨i + 1,s',by go_num,by omega,by omega,HS2,by rw [HT.out]; exact HC2⟩
      case measure => simp [intOf]; omega
    ·have hja2 : j = a:=by omega
     subst hja2
     have hnl : ¬ (j : Int) < (j : Int):=by omega
     have HF:=Lib.hid (HOUT.out j wr.drew (Nat.le_refl _) hji (.inl rfl) HD.out HC.out.drew)
     obtain ⟨s',HS2,HC2⟩:=HF.out
     have HS2:=Lib.hid HS2
     have HC2:=Lib.hid HC2
     clear HF
     go_wp2_with fail
     refine wp_region_held_drew (S:=(fun _ => True)) (by kernel_rfl) (trivial) (fun hHeld => ?_)
     (refine wpAnyH_take (i:=0) (v:=?_) (by (simp only [Q0,Q2]; rfl)) (by kernel_rfl) (by kernel_rfl) (by kernel_rfl) (by exact fun _ _ _ h => h) (Or.inl ⟨by rfl,?_⟩) (by assumption) ?_; (rotate_left 1; (intro w hSw; (try dsimp only at hSw); go_simp); (try with_reducible rfl)); (try simp only [Act.put,Q3,Q4,Q5]))
     (refine wpAnyH_take (i:=1) (v:=?_) (by (simp only [Q0,Q1,Q2]; rfl)) (by kernel_rfl) (by kernel_rfl) (by kernel_rfl) (by exact fun _ _ _ h => h) (Or.inl ⟨by rfl,?_⟩) (by assumption) ?_; (rotate_left 1; (intro w hSw; (try dsimp only at hSw); go_simp); (try with_reducible rfl)); (try simp only [Act.put,Q3,Q4,Q5]))
     (refine wpAnyH_take (i:=2) (v:=?_) (by (simp only [Q0,Q1,Q2]; rfl)) (by kernel_rfl) (by kernel_rfl) (by kernel_rfl) (by exact fun _ _ _ h => h) (Or.inl ⟨by rfl,?_⟩) (by assumption) ?_; (rotate_left 1; (intro w hSw; (try dsimp only at hSw); go_simp); (try with_reducible rfl)); (try simp only [Act.put,Q3,Q4,Q5]))
     (refine wpAnyH_take (i:=3) (v:=?_) (by (simp only [Q0,Q1,Q2]; rfl)) (by kernel_rfl) (by kernel_rfl) (by kernel_rfl) (by exact fun _ _ _ h => h) (Or.inl ⟨by rfl,?_⟩) (by assumption) ?_; (rotate_left 1; (intro w hSw; (try dsimp only at hSw); go_simp); (try with_reducible rfl)); (try simp only [Act.put,Q3,Q4,Q5]))
     (refine wpAnyH_take (i:=4) (v:=undef) (by (simp only [Q0,Q1,Q2]; rfl)) (by kernel_rfl) (by kernel_rfl) (by kernel_rfl) (by exact fun _ _ _ h => h) (Or.inr ⟨by rfl,rfl⟩) (by assumption) ?_; (try simp only [Act.put,Q3,Q4,Q5]))
     (refine wpAnyH_take (i:=5) (v:=undef) (by (simp only [Q0,Q1,Q2]; rfl)) (by kernel_rfl) (by kernel_rfl) (by kernel_rfl) (by exact fun _ _ _ h => h) (Or.inr ⟨by rfl,rfl⟩) (by assumption) ?_; (try simp only [Act.put,Q3,Q4,Q5]))
     (refine wpAnyH_take (i:=6) (v:=undef) (by (simp only [Q0,Q1,Q2]; rfl)) (by kernel_rfl) (by kernel_rfl) (by kernel_rfl) (by exact fun _ _ _ h => h) (Or.inr ⟨by rfl,rfl⟩) (by assumption) ?_; (try simp only [Act.put,Q3,Q4,Q5]))
     (refine wpAnyH_take (i:=7) (v:=undef) (by (simp only [Q0,Q1,Q2]; rfl)) (by kernel_rfl) (by kernel_rfl) (by kernel_rfl) (by exact fun _ _ _ h => h) (Or.inr ⟨by rfl,rfl⟩) (by assumption) ?_; (try simp only [Act.put,Q3,Q4,Q5]))
     (refine wpAnyH_take (i:=8) (v:=undef) (by (simp only [Q0,Q1,Q2]; rfl)) (by kernel_rfl) (by kernel_rfl) (by kernel_rfl) (by exact fun _ _ _ h => h) (Or.inr ⟨by rfl,rfl⟩) (by assumption) ?_; (try simp only [Act.put,Q3,Q4,Q5]))
     (refine wpAnyH_take (i:=9) (v:=undef) (by (simp only [Q0,Q1,Q2]; rfl)) (by kernel_rfl) (by kernel_rfl) (by kernel_rfl) (by exact fun _ _ _ h => h) (Or.inr ⟨by rfl,rfl⟩) (by assumption) ?_; (try simp only [Act.put,Q3,Q4,Q5]))
     (refine wpAnyH_take (i:=10) (v:=undef) (by (simp only [Q0,Q1,Q2]; rfl)) (by kernel_rfl) (by kernel_rfl) (by kernel_rfl) (by exact fun _ _ _ h => h) (Or.inr ⟨by rfl,rfl⟩) (by assumption) ?_; (try simp only [Act.put,Q3,Q4,Q5]))
     (refine wpAnyH_take (i:=11) (v:=undef) (by (simp only [Q0,Q1,Q2]; rfl)) (by kernel_rfl) (by kernel_rfl) (by kernel_rfl) (by exact fun _ _ _ h => h) (Or.inr ⟨by rfl,rfl⟩) (by assumption) ?_; (try simp only [Act.put,Q3,Q4,Q5]))
     (refine wpAnyH_take (i:=12) (v:=undef) (by (simp only [Q0,Q1,Q2]; rfl)) (by kernel_rfl) (by kernel_rfl) (by kernel_rfl) (by exact fun _ _ _ h => h) (Or.inr ⟨by rfl,rfl⟩) (by assumption) ?_; (try simp only [Act.put,Q3,Q4,Q5]))
     (refine wpAnyH_take (i:=13) (v:=undef) (by (simp only [Q0,Q1,Q2]; rfl)) (by kernel_rfl) (by kernel_rfl) (by kernel_rfl) (by exact fun _ _ _ h => h) (Or.inr ⟨by rfl,rfl⟩) (by assumption) ?_; (try simp only [Act.put,Q3,Q4,Q5]))
     (refine wpAnyH_take (i:=14) (v:=undef) (by (simp only [Q0,Q1,Q2]; rfl)) (by kernel_rfl) (by kernel_rfl) (by kernel_rfl) (by exact fun _ _ _ h => h) (Or.inr ⟨by rfl,rfl⟩) (by assumption) ?_; (try simp only [Act.put,Q3,Q4,Q5]))
     (refine wpAnyH_take (i:=15) (v:=undef) (by (simp only [Q0,Q1,Q2]; rfl)) (by kernel_rfl) (by kernel_rfl) (by kernel_rfl) (by exact fun _ _ _ h => h) (Or.inr ⟨by rfl,rfl⟩) (by assumption) ?_; (try simp only [Act.put,Q3,Q4,Q5]))
     (refine wpAnyH_take (i:=16) (v:=?_) (by (simp only [Q0,Q1,Q2]; rfl)) (by kernel_rfl) (by kernel_rfl) (by kernel_rfl) (by exact fun _ _ _ h => h) (Or.inl ⟨by rfl,?_⟩) (by assumption) ?_; (rotate_left 1; (intro w hSw; (try dsimp only at hSw); go_simp); (try with_reducible rfl)); (try simp only [Act.put,Q3,Q4,Q5]))
     refine wpAnyH_done (by kernel_rfl) ?_ _
     go_wp2_with fail
     go_roundw
     case rel => exact ⟨i + 1,s',by go_num,by omega,by omega,HS2,by rw [HT.out]; exact HC2⟩
     case measure => simp [intOf]; omega
  ·have HE : Hid (SymP w0 base b c n L1 L3 z (.returned (.tuple #[])) wr):=Lib.hid (by
    have hz:=HZ.out
    refine ⟨rfl,s,?_,HS.out.2,?_⟩
    ·have:=HS.out.1; rwa [List.take_of_length_le (by omega)] at this
    ·have:=HC.out; rwa [List.drop_of_length_le (by omega),List.nil_append] at this)
   go_wp2_with fail
   go_end0
   exact HE.out
end Go.Proofs.YtgeaeockmadhcaaGreatDoor
/- The walks of slices.stableCmpFunc and slices.SortStableFunc over votes, of at most 39. -/
namespace Go.Proofs.YtgeaeockmadhcaaGreatDoor
set_option linter.unusedVariables false
set_option linter.unusedSimpArgs false
open Go.RowKit Go.Sort

set_option maxHeartbeats 4000000 in
set_option maxRecDepth 100000 in
theorem stableV_any (base b c n : Nat) (us : List VoteE) (w0 w : World) (hC : SrtC w0 w base b c n us) (hn : n < 40) :
  Calls Tryz.prog 78 #[.slice (some ⟨b,0,none⟩) n c,.int .i64 n,FnV] w (SymP w0 base b c n [] [] us):=by
 have HC:=Lib.hid hC
 have HCL:=Lib.hid hC.len
 clear hC
 by_cases hn20 : n < 20
 ·unfold FnV
  go_enter Tryz.func78,Tryz.ntmps78
  go_wp2_with fail
  go_loopw [7,8] (fun x y wr => x = .int .i64 0 ∧ y = .int .i64 20 ∧ Hid (SrtC w0 wr base b c n us)) (fun _ _ _ => 0)
  case atStart => exact ⟨rfl,rfl,HC⟩
  case round =>
   clear HC
   obtain ⟨rfl,rfl,HC⟩:=hrel
   go_wp2_with fail
   refine (insV_any base b c n 0 n [] us [] w0 wr (by simpa using HC.out) rfl (by have:=HCL.out; omega) (Nat.zero_le _) (Nat.le_refl _) (by omega)).mono ?_
   rintro e9 w2 ⟨rfl,s,hp,hs,hC2⟩
   have HC2:=Lib.hid hC2
   have HS2 : Hid (s.Perm us ∧ s.Pairwise leV):=Lib.hid ⟨hp,hs⟩
   clear hC2 hp hs HC
   go_wp2_with fail
   go_loopw [6] (fun x wr => x = .int .i64 20 ∧ Hid (SrtC w0 wr base b c n ([] ++ (s ++ [])))) (fun _ _ => 0)
   case atStart => exact ⟨rfl,HC2⟩
   case round =>
    clear HC2
    obtain ⟨rfl,HC⟩:=hrel
    have HE : Hid (SymP w0 base b c n [] [] us (.returned (.tuple #[])) wr):=Lib.hid ⟨rfl,s,HS2.out.1,HS2.out.2,HC.out⟩
    go_wp2_with fail
    go_end0
    exact HE.out
 ·have h20n : 20 ≤ n:=by omega
  unfold FnV
  go_enter Tryz.func78,Tryz.ntmps78
  go_wp2_with fail
  go_loopw [7,8] (fun x y wr => (x = .int .i64 0 ∧ y = .int .i64 20 ∧ Hid (SrtC w0 wr base b c n us)) ∨ (x = .int .i64 20 ∧ y = .int .i64 40 ∧ ∃ s1,Hid (s1.Perm (us.take 20) ∧ s1.Pairwise leV) ∧ Hid (SrtC w0 wr base b c n (s1 ++ us.drop 20)))) (fun x _ _ => 20 - (intOf x).toNat)
  case atStart => exact .inl ⟨rfl,rfl,HC⟩
  case round =>
   clear HC
   rcases hrel with ⟨rfl,rfl,HC⟩ | ⟨rfl,rfl,s1,HS1,HC⟩
   ·go_wp2_with fail
    refine (insV_any base b c n 0 20 [] (us.take 20) (us.drop 20) w0 wr (by simpa using HC.out) rfl (by have:=HCL.out; rw [List.length_take]; omega) (by omega) h20n (by omega)).mono ?_
    rintro e9 w2 ⟨rfl,s,hp,hs,hC2⟩
    have HC2:=Lib.hid hC2
    have HS2 : Hid (s.Perm (us.take 20) ∧ s.Pairwise leV):=Lib.hid ⟨hp,hs⟩
    clear hC2 hp hs HC
    go_wp2_with fail
    go_roundw
    case rel => exact .inr ⟨rfl,rfl,s,HS2,by simpa using HC2⟩
    case measure => simp [intOf]
   ·go_wp2_with fail
    refine (insV_any base b c n 20 n s1 (us.drop 20) [] w0 wr (by simpa using HC.out) (by have h1:=HS1.out.1.length_eq; rw [List.length_take] at h1; have:=HCL.out; omega) (by have:=HCL.out; rw [List.length_drop]; omega) h20n (Nat.le_refl _) (by omega)).mono ?_
    rintro e9 w2 ⟨rfl,s2,hp,hs,hC2⟩
    have HC2 : Hid (SrtC w0 w2 base b c n (s1 ++ s2)):=Lib.hid (by simpa using hC2)
    have HS2 : Hid (s2.Perm (us.drop 20) ∧ s2.Pairwise leV):=Lib.hid ⟨hp,hs⟩
    have HPE : Hid (∀ s : List VoteE,s.Perm (s1 ++ s2) → s.Perm us):=Lib.hid (fun s h => by
     have:=h.trans (HS1.out.1.append HS2.out.1)
     rwa [List.take_append_drop] at this)
    clear hC2 hp hs HC
    go_wp2_with fail
    go_loopw [6] (fun x wr => (x = .int .i64 20 ∧ Hid (SrtC w0 wr base b c n (s1 ++ s2))) ∨ (x = .int .i64 40 ∧ ∃ s,Hid (s.Perm us ∧ s.Pairwise leV) ∧ Hid (SrtC w0 wr base b c n ([] ++ (s ++ []))))) (fun x _ => 40 - (intOf x).toNat)
    case atStart => exact .inl ⟨rfl,HC2⟩
    case round =>
     clear HC2
     rcases hrel with ⟨rfl,HC⟩ | ⟨rfl,s,HS,HC⟩
     ·by_cases h20 : 20 < n
      ·go_wp2_with fail
       go_loopw [7,8] (fun x y wr => x = .int .i64 0 ∧ y = .int .i64 40 ∧ Hid (SrtC w0 wr base b c n (s1 ++ s2))) (fun _ _ _ => 0)
       case atStart => exact ⟨rfl,rfl,HC⟩
       case round =>
       clear HC
       obtain ⟨rfl,rfl,HC3⟩:=hrel
       go_wp2_with fail
       refine (symMergeV_any base b c n w0 (by omega) n 0 20 n [] s1 s2 [] _ (by omega) (by simpa using HC3.out) rfl (by have h1:=HS1.out.1.length_eq; rw [List.length_take] at h1; have:=HCL.out; omega) (by have h1:=HS2.out.1.length_eq; rw [List.length_drop] at h1; have:=HCL.out; omega) (by omega) h20 (Nat.le_refl _) HS1.out.2 HS2.out.2).mono ?_
       rintro e9 w3 ⟨rfl,s,hp,hs,hC3⟩
       have HC4:=Lib.hid hC3
       have HS4 : Hid (s.Perm us ∧ s.Pairwise leV):=Lib.hid ⟨HPE.out _ hp,hs⟩
       clear hC3 hp hs HC3
       go_wp2_with fail
       go_roundw
       case rel => exact .inr ⟨rfl,s,HS4,HC4⟩
       case measure => simp [intOf]
      ·have HE : Hid (SymP w0 base b c n [] [] us (.returned (.tuple #[])) wr):=Lib.hid (by
        have h9 : s2 = []:=List.eq_nil_of_length_eq_zero (by have h1:=HS2.out.1.length_eq; rw [List.length_drop] at h1; have:=HCL.out; omega)
        have h8:=HPE.out s1 (by rw [h9,List.append_nil])
        refine ⟨rfl,s1,h8,HS1.out.2,?_⟩
        have:=HC.out
        rw [h9] at this
        simpa using this)
       go_wp2_with fail
       go_end0
       exact HE.out
     ·have HE : Hid (SymP w0 base b c n [] [] us (.returned (.tuple #[])) wr):=Lib.hid ⟨rfl,s,HS.out.1,HS.out.2,HC.out⟩
      have hnn : ¬ (40 : Int) < (n : Int):=by omega
      go_wp2_with fail
      go_end0
      exact HE.out
set_option maxHeartbeats 1000000 in
theorem ins0_any (A : Option Addr) (c : Nat) (fn : Value) (w : World) : Calls Tryz.prog 108 #[.slice A 0 c,.int .i64 0,.int .i64 0,fn] w fun e w' => e = .returned (.tuple #[]) ∧ w' = w:=by
 go_enter Tryz.func108,Tryz.ntmps108
 go_wp2_with fail
 go_loopw [8] (fun i wr => i = .int .i64 1 ∧ wr = w) (fun _ _ => 0)
 case atStart => exact ⟨rfl,rfl⟩
 case round =>
  obtain ⟨rfl,rfl⟩:=hrel
  go_wp2_with fail
  go_end0
  exact ⟨rfl,rfl⟩
set_option maxHeartbeats 1000000 in
theorem stable0_any (A : Option Addr) (c : Nat) (fn : Value) (w : World) : Calls Tryz.prog 78 #[.slice A 0 c,.int .i64 0,fn] w fun e w' => e = .returned (.tuple #[]) ∧ w' = w:=by
 go_enter Tryz.func78,Tryz.ntmps78
 go_wp2_with fail
 go_loopw [7,8] (fun x y wr => x = .int .i64 0 ∧ y = .int .i64 20 ∧ Hid (wr = w)) (fun _ _ _ => 0)
 case atStart => exact ⟨rfl,rfl,Lib.hid rfl⟩
 case round =>
  obtain ⟨rfl,rfl,HW⟩:=hrel
  go_wp2_with fail
  refine (ins0_any A c fn _).mono ?_
  rintro e9 w2 ⟨rfl,hw2⟩
  have HW2 : Hid (w2 = w):=Lib.hid (hw2.trans HW.out)
  clear hw2 HW
  go_wp2_with fail
  go_loopw [6] (fun x wr => x = .int .i64 20 ∧ Hid (wr = w)) (fun _ _ => 0)
  case atStart => exact ⟨rfl,HW2⟩
  case round =>
   obtain ⟨rfl,HW⟩:=hrel
   go_wp2_with fail
   go_end0
   exact ⟨rfl,HW.out⟩
set_option maxHeartbeats 1000000 in
theorem sortStableV_any (A : Option Addr) (c base : Nat) (us : List VoteE) (w : World) (ho : w.ownsRow base 37 4 (.slice A us.length c) us.length (us.flatMap encV)) (hl : us.length < 40) :
  Calls Tryz.prog 54 #[.slice A us.length c,FnV] w fun e w' => e = .returned (.tuple #[]) ∧ ∃ s : List VoteE,s.Perm us ∧ s.Pairwise leV ∧ w'.ownsRow base 37 4 (.slice A s.length c) s.length (s.flatMap encV) ∧ w.grownBy w' (Value.slice A us.length c).ownBlock:=by
 by_cases h0 : us.length = 0
 ·have hu : us = []:=List.eq_nil_of_length_eq_zero h0
  subst hu
  have HO:=Lib.hid ho
  clear ho h0 hl
  go_enter Tryz.func54,Tryz.ntmps54
  go_wp2_with fail
  refine (stable0_any A c _ w).mono ?_
  rintro e w2 ⟨rfl,rfl⟩
  go_wp2_with fail
  go_end0
  exact ⟨rfl,[],List.Perm.refl _,List.Pairwise.nil,HO.out,World.grownBy.refl _ _⟩
 ·obtain ⟨b,hA,hbb,hbz,-,-⟩:=ownBlk ho (by omega)
  subst hA
  have HC : Hid (SrtC w w base b c us.length us):=Lib.hid ⟨ho,World.grownBy.refl _ _,rfl⟩
  clear ho
  unfold FnV
  go_enter Tryz.func54,Tryz.ntmps54
  go_wp2_with fail
  refine (stableV_any base b c us.length us w w HC.out hl).mono ?_
  rintro e w2 ⟨rfl,s,hp,hs,hC2⟩
  have HE : Hid (∃ s : List VoteE,s.Perm us ∧ s.Pairwise leV ∧ w2.ownsRow base 37 4 (.slice (some ⟨b,0,none⟩) s.length c) s.length (s.flatMap encV) ∧ w.grownBy w2 (Value.slice (some ⟨b,0,none⟩) us.length c).ownBlock):=Lib.hid ⟨s,hp,hs,by have:=hC2.own; rw [hp.length_eq]; simpa using this,by have h9:=hC2.gr; have e : (Value.slice (some ⟨b,0,none⟩) us.length c).ownBlock = some b:=rfl; rw [e]; exact h9⟩
  clear hC2 hp hs HC
  go_wp2_with fail
  go_end0
  exact ⟨rfl,HE.out⟩
end Go.Proofs.YtgeaeockmadhcaaGreatDoor
