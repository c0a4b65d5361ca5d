/- Texts of this seat, laid together: SrA. -/
import Derived.Handy
import Derived.Test.YtgeaeockmadhcaaGreatDoorBp25
import Derived.Test.YtgeaeockmadhcaaGreatDoorBp26
/- The exchange of two votes of a row of the call's own; the walks of slices.swapRangeCmpFunc and slices.rotateCmpFunc over votes. -/
namespace Go.Proofs.YtgeaeockmadhcaaGreatDoor
set_option linter.unusedVariables false
set_option linter.unusedSimpArgs false
open Go.RowKit Go.Sort

structure SrtC (w W : World) (base b c n : Nat) (us : List VoteE) : Prop where
  own : W.ownsRow base 37 4 (.slice (some ⟨b, 0, none⟩) n c) n (us.flatMap encV)
  gr : w.grownBy W (some b)
  len : us.length = n
section
variable {w W W' : World} {base b c n : Nat} {us : List VoteE}
theorem SrtC.keep (h : SrtC w W base b c n us) (hb : Below W.heap.size W W') : SrtC w W' base b c n us:=⟨own_keep h.own hb,grown_trans' h.gr (grown_of_below hb _),h.len⟩
theorem SrtC.drew (h : SrtC w W base b c n us) : SrtC w W.drew base b c n us:=h.keep (below_drewN' (Below.refl _ _) 1)
theorem SrtC.put (h : SrtC w W base b c n us) {m : Nat} (hm : m < n) (v : VoteE) : SrtC w ((((W.setCell ⟨b,m * 4,none⟩ (.string ⟨v.run.toArray⟩)).setCell ⟨b,m * 4 + 1,none⟩ (.string ⟨v.who.toArray⟩)).setCell ⟨b,m * 4 + 2,none⟩ (.int .i64 v.at_)).setCell ⟨b,m * 4 + 3,none⟩ (.int .i64 v.kind)) base b c n (us.set m v):=by
 have h1:=(((((h.own.stored (m * 4) (.string ⟨v.run.toArray⟩)).1).stored (m * 4 + 1) (.string ⟨v.who.toArray⟩)).1.stored (m * 4 + 2) (.int .i64 v.at_)).1.stored (m * 4 + 3) (.int .i64 v.kind)).1
 rw [flat_put4 us m (by rw [h.len]; exact hm) v] at h1
 exact ⟨h1,grown_set (grown_set (grown_set (grown_set h.gr _ _) _ _) _ _) _ _,by rw [List.length_set]; exact h.len⟩
theorem SrtC.at (h : SrtC w W base b c n us) {k : Nat} (hk : k < us.length) : b < W.heap.size ∧ (W.cell? ⟨b,k * 4,none⟩ = some (.string ⟨us[k].run.toArray⟩) ∧ W.cell? ⟨b,k * 4 + 1,none⟩ = some (.string ⟨us[k].who.toArray⟩) ∧ W.cell? ⟨b,k * 4 + 2,none⟩ = some (.int .i64 us[k].at_) ∧ W.cell? ⟨b,k * 4 + 3,none⟩ = some (.int .i64 us[k].kind)) ∧ W.frozen? ⟨b,k * 4,none⟩ = false ∧ W.frozen? ⟨b,k * 4 + 1,none⟩ = false ∧ W.frozen? ⟨b,k * 4 + 2,none⟩ = false ∧ W.frozen? ⟨b,k * 4 + 3,none⟩ = false:=by
 have h2:=h.len
 subst h2
 obtain ⟨b',off,e,h1,-,h2⟩:=votes_at (Row.of_own h.own) (by omega)
 injection e with e; injection e with e1 e2
 subst e1 e2
 obtain ⟨b'',e,-,-,-,h4⟩:=ownBlk h.own (by omega)
 injection e with e; injection e with e1 e2
 subst e1
 have h3:=h2 k hk
 rw [Nat.zero_add] at h3
 exact ⟨h1,h3,h4 _,h4 _,h4 _,h4 _⟩
theorem SrtC.swap (h : SrtC w W base b c n us) {i j : Nat} {x y : VoteE} (hx : us[i]? = some x) (hy : us[j]? = some y) : SrtC w ((((((((W.setCell ⟨b,i * 4,none⟩ (.string ⟨y.run.toArray⟩)).setCell ⟨b,i * 4 + 1,none⟩ (.string ⟨y.who.toArray⟩)).setCell ⟨b,i * 4 + 2,none⟩ (.int .i64 y.at_)).setCell ⟨b,i * 4 + 3,none⟩ (.int .i64 y.kind)).setCell ⟨b,j * 4,none⟩ (.string ⟨x.run.toArray⟩)).setCell ⟨b,j * 4 + 1,none⟩ (.string ⟨x.who.toArray⟩)).setCell ⟨b,j * 4 + 2,none⟩ (.int .i64 x.at_)).setCell ⟨b,j * 4 + 3,none⟩ (.int .i64 x.kind)) base b c n (swapAt us i j):=by
 obtain ⟨hi,e1⟩:=List.getElem?_eq_some_iff.1 hx
 obtain ⟨hj,e2⟩:=List.getElem?_eq_some_iff.1 hy
 have hl:=h.len
 have:=(h.put (show i < n by omega) y).put (show j < n by omega) x
 rwa [show swapAt us i j = (us.set i y).set j x by rw [swapAt_at hi hj,e1,e2]]
end
def FnV : Value:=.func (.func 49) #[] #[]
def SrtP (w : World) (base b c n : Nat) (vs : List VoteE) (e : Ending) (w' : World) : Prop:=e = .returned (.tuple #[]) ∧ SrtC w w' base b c n vs
set_option maxHeartbeats 2000000 in
theorem swapRangeV_any (base b c n a1 b1 m : Nat) (us : List VoteE) (w0 w : World) (hC : SrtC w0 w base b c n us) (ha : a1 + m ≤ b1) (hb : b1 + m ≤ n) (hn : n ≤ 1000) (fn : Value) :
  Calls Tryz.prog 176 #[.slice (some ⟨b,0,none⟩) n c,.int .i64 a1,.int .i64 b1,.int .i64 m,fn] w (SrtP w0 base b c n (swapN us a1 b1 m)):=by
 have HC:=Lib.hid hC
 clear hC
 go_enter Tryz.func176,Tryz.ntmps176
 go_wp2_with fail
 go_loopw [10] (fun i wr => ∃ k : Nat,k ≤ m ∧ i = .int .i64 k ∧ Hid (SrtC w0 wr base b c n (swapN us a1 b1 k))) (fun i _ => m - (intOf i).toNat)
 case atStart => exact ⟨0,Nat.zero_le _,rfl,HC⟩
 case round =>
  clear HC
  obtain ⟨k,hk,rfl,HC⟩:=hrel
  by_cases hlt : k < m
  ·have hl:=HC.out.len
   obtain ⟨p,hp⟩ : ∃ p,p = a1 + k:=⟨_,rfl⟩
   obtain ⟨q,hq⟩ : ∃ q,q = b1 + k:=⟨_,rfl⟩
   have ep : (a1 : Int) + (k : Int) = (p : Int):=by omega
   have eq' : (b1 : Int) + (k : Int) = (q : Int):=by omega
   have hpn : p < n:=by omega
   have hqn : q < n:=by omega
   have hpq : p < q:=by omega
   obtain ⟨hbz,⟨c0,c1,c2,c3⟩,f0,f1,f2,f3⟩:=HC.out.at (k:=p) (by omega)
   obtain ⟨-,⟨d0,d1,d2,d3⟩,g0,g1,g2,g3⟩:=HC.out.at (k:=q) (by omega)
   have hx : (swapN us a1 b1 k)[p]? = some ((swapN us a1 b1 k)[p]'(by omega)):=List.getElem?_eq_getElem _
   have hy : (swapN us a1 b1 k)[q]? = some ((swapN us a1 b1 k)[q]'(by omega)):=List.getElem?_eq_getElem _
   have HS:=Lib.hid (HC.out.swap hx hy).drew
   have HE : Hid (swapAt (swapN us a1 b1 k) p q = swapN us a1 b1 (k + 1)):=Lib.hid (by rw [hp,hq]; rfl)
   have HP:=Lib.hid hp
   have HQ:=Lib.hid hq
   clear hp hq hx hy HC
   generalize (swapN us a1 b1 k)[p]'(by omega) = x at *
   generalize (swapN us a1 b1 k)[q]'(by omega) = y at *
   rw [HE.out] at HS
   go_wp2_with fail
   go_big_region
   clear c0 c1 c2 c3 d0 d1 d2 d3 f0 f1 f2 f3 g0 g1 g2 g3
   go_wp2_with fail
   go_roundw
   case rel => exact ⟨k + 1,hlt,by go_num,HS⟩
   case measure => simp [intOf]; omega
  ·have hkk : k = m:=by omega
   subst hkk
   have HE : Hid (SrtP w0 base b c n (swapN us a1 b1 k) (.returned (.tuple #[])) wr):=Lib.hid ⟨rfl,HC.out⟩
   go_wp2_with fail
   go_end0
   exact HE.out
theorem RotI.bound {goal cur : List VoteE} {m i j : Nat} (h : RotI goal cur m i j) : i ≤ m ∧ m + j ≤ cur.length:=by
 obtain ⟨L1,X,Y,L3,rfl,h1,h2,h3,h4⟩:=h.ex
 simp only [List.length_append]
 omega
set_option maxHeartbeats 2000000 in
theorem rotateV_any (base b c n a m e : Nat) (goal us : List VoteE) (w0 w : World) (hC : SrtC w0 w base b c n us) (hI : RotI goal us m (m - a) (e - m)) (ha : a < m) (hm : m < e) (he : e ≤ n) (hn : n ≤ 1000) (fn : Value) :
  Calls Tryz.prog 143 #[.slice (some ⟨b,0,none⟩) n c,.int .i64 a,.int .i64 m,.int .i64 e,fn] w (SrtP w0 base b c n goal):=by
 have HC:=Lib.hid hC
 have HI:=Lib.hid hI
 clear hC hI
 obtain ⟨i0,hi0⟩ : ∃ i0,i0 = m - a:=⟨_,rfl⟩
 obtain ⟨j0,hj0⟩ : ∃ j0,j0 = e - m:=⟨_,rfl⟩
 have e1 : (m : Int) - (a : Int) = (i0 : Int):=by omega
 have e2 : (e : Int) - (m : Int) = (j0 : Int):=by omega
 have hp1 : 0 < i0:=by omega
 have hp2 : 0 < j0:=by omega
 rw [← hi0,← hj0] at HI
 have hil : i0 + j0 ≤ 1000:=by omega
 clear hi0 hj0
 go_enter Tryz.func143,Tryz.ntmps143
 go_wp2_with fail
 clear e1 e2
 go_loopw [10,11] (fun si sj wr => ∃ (i j : Nat) (cur : List VoteE),si = .int .i64 i ∧ sj = .int .i64 j ∧ 0 < i ∧ 0 < j ∧ i + j ≤ 1000 ∧ Hid (RotI goal cur m i j) ∧ Hid (SrtC w0 wr base b c n cur)) (fun si sj _ => (intOf si).toNat + (intOf sj).toNat)
 case atStart => exact ⟨i0,j0,us,rfl,rfl,hp1,hp2,hil,HI,HC⟩
 case round =>
  clear HC HI
  obtain ⟨i,j,cur,rfl,rfl,hi,hj,hij,HI,HC⟩:=hrel
  have hb:=HI.out.bound
  have hl:=HC.out.len
  obtain ⟨p,hp⟩ : ∃ p,p = m - i:=⟨_,rfl⟩
  have ep : (m : Int) - (i : Int) = (p : Int):=by omega
  have HP:=Lib.hid hp
  rcases Nat.lt_trichotomy i j with h | h | h
  ·have hne : ((i : Int) == (j : Int)) = false:=beq_eq_false_iff_ne.2 (by omega)
   have hgt : ¬ (j : Int) < (i : Int):=by omega
   obtain ⟨s,hs⟩ : ∃ s,s = m + j:=⟨_,rfl⟩
   have es : (m : Int) + (j : Int) = (s : Int):=by omega
   obtain ⟨q,hq⟩ : ∃ q,q = m + j - i:=⟨_,rfl⟩
   have eq' : (s : Int) - (i : Int) = (q : Int):=by omega
   obtain ⟨j2,hj2⟩ : ∃ j2,j2 = j - i:=⟨_,rfl⟩
   have ej : (j : Int) - (i : Int) = (j2 : Int):=by omega
   have HN:=Lib.hid (HI.out.lt h)
   rw [← hp,← hq,← hj2] at HN
   have hj3 : 0 < j2 ∧ i + j2 < i + j:=by omega
   have hq1 : p + i ≤ q:=by omega
   have hq2 : q + i ≤ n:=by omega
   have hsb : s ≤ 1000:=by omega
   clear hp hq hj2 hs hb hl
   go_wp2_with fail
   refine (swapRangeV_any base b c n p q i cur w0 _ HC.out hq1 hq2 hn _).mono ?_
   rintro e9 w2 ⟨rfl,hC2⟩
   have HC2:=Lib.hid hC2
   clear hC2 HC HI
   go_wp2_with fail
   go_roundw
   case rel => exact ⟨i,j2,_,rfl,rfl,hi,hj3.1,by omega,HN,HC2⟩
   case measure => simp [intOf]; omega
  ·subst h
   have HN:=Lib.hid HI.out.eq
   rw [← hp] at HN
   have hq1 : p + i ≤ m:=by omega
   have hq2 : m + i ≤ n:=by omega
   clear hp hb hl
   go_wp2_with fail
   refine (swapRangeV_any base b c n p m i cur w0 _ HC.out hq1 hq2 hn _).mono ?_
   rintro e9 w2 ⟨rfl,hC2⟩
   have HE : Hid (SrtP w0 base b c n goal (.returned (.tuple #[])) w2):=Lib.hid ⟨rfl,by rw [HN.out] at hC2; exact hC2⟩
   clear hC2 HC HI
   go_wp2_with fail
   go_end0
   exact HE.out
  ·have hne : ((i : Int) == (j : Int)) = false:=beq_eq_false_iff_ne.2 (by omega)
   have hgt : (j : Int) < (i : Int):=by omega
   obtain ⟨i2,hi2⟩ : ∃ i2,i2 = i - j:=⟨_,rfl⟩
   have ei : (i : Int) - (j : Int) = (i2 : Int):=by omega
   have HN:=Lib.hid (HI.out.gt h)
   rw [← hp,← hi2] at HN
   have hi3 : 0 < i2 ∧ i2 + j < i + j:=by omega
   have hq1 : p + j ≤ m:=by omega
   have hq2 : m + j ≤ n:=by omega
   clear hp hi2 hb hl
   go_wp2_with fail
   refine (swapRangeV_any base b c n p m j cur w0 _ HC.out hq1 hq2 hn _).mono ?_
   rintro e9 w2 ⟨rfl,hC2⟩
   have HC2:=Lib.hid hC2
   clear hC2 HC HI
   go_wp2_with fail
   go_roundw
   case rel => exact ⟨i2,j,_,rfl,rfl,hi3.1,hj,by omega,HN,HC2⟩
   case measure => simp [intOf]; omega
end Go.Proofs.YtgeaeockmadhcaaGreatDoor
