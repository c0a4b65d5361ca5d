/- Texts of this seat, laid together: VoP. -/
import Derived.Deep.DeepCutAuto
import Derived.Deep.CutRange
import Derived.Handy
import Derived.Test.YtajfecnfhoendaaGreatDoorBi21
import Derived.Test.YtajfecnfhoendaaGreatDoorBi25
import Derived.Test.YtajfecnfhoendaaGreatDoorBi38
import Derived.Test.YtajfecnfhoendaaGreatDoorBi16
/- For every list of numbers the law NeededIsEnough returns true and leaves the list as it was: its walk. -/
namespace Go.Proofs.YtajfecnfhoendaaGreatDoor
set_option linter.unusedVariables false
set_option linter.unusedSimpArgs false
open Go.RowKit Go.Sort

theorem who_ne {s : List UInt8} (h : s ∈ whoL) : s ≠ zzW:=by
 have h6 : ∀ s ∈ whoL,s ≠ zzW:=by decide
 exact h6 s h
theorem jud_lt {s : List UInt8} (h : s ∈ judL) : s < zzW:=by
 have h6 : ∀ s ∈ judL,s < zzW:=by decide
 exact h6 s h
theorem jud_ne {s : List UInt8} (h : s ∈ judL) : s ≠ zzW:=fun e => by
 have:=jud_lt h
 rw [e] at this
 exact ltS_irr _ this
set_option maxHeartbeats 8000000 in
set_option maxRecDepth 100000 in
theorem needed_walk (A0 : Option Addr) (n c : Nat) (w : World) (hn : n ≤ 9223372036854775807)
  (hz : ∀ k,k < n → ∃ b off z,A0 = some ⟨b,off,none⟩ ∧ b < w.heap.size ∧ w.cell? ⟨b,off + k,none⟩ = some (.int .i64 z) ∧ I64 z) :
  LawCall 3 A0 n c w:=by
 have hstr:=str_make (c:=c) hn hz
 clear hz
 have hx : Below w.heap.size w (w.alloc (.cells #[.slice A0 n c,.int .i64 0] 25)):=(Below.refl _ _).alloc (Nat.le_refl _) _
 have hz0 : (w.alloc (.cells #[.slice A0 n c,.int .i64 0] 25)).heap.size = w.heap.size + 1:=by simp
 go_enter Tryz.func3,Tryz.ntmps3
 go_wp2_with fail
 generalize w.alloc (.cells #[.slice A0 n c,.int .i64 0] 25) = w0 at *
 clear hn
 refine (rightVotes_any w.heap.size 0 4 w0 hstr (by omega) (by omega)).mono ?_
 clear hstr
 rintro e w1 ⟨VA,vc,vs,rfl,hvo,hvl,hvb,hv0,hs,hg⟩
 replace hx:=hx.grown hg (by omega) (fun k hk => by injection hk with hk; omega)
 have hz1:=hg.size
 have HVB:=Lib.hid hvb
 have HV0:=Lib.hid hv0
 clear hg hvb hv0
 go_wp2_with fail
 refine (judgeList_any w.heap.size _ w1 hs (by omega)).mono ?_
 clear hs
 rintro e w2 ⟨JA,jc,js,rfl,hjo,hjl,hjb,hs,hg⟩
 replace hx:=hx.grown hg (by omega) (fun k hk => by injection hk with hk; omega)
 have hz2:=hg.size
 replace hvo:=own_grown hvo hg (by omega)
 have HJB:=Lib.hid hjb
 clear hg hjb
 go_wp2_with fail
 refine (quorumOf_any w.heap.size _ w2 hs (by omega)).mono ?_
 clear hs
 rintro e w3 ⟨q,rfl,hs,hg⟩
 replace hx:=hx.grown hg (by omega) (fun k hk => by injection hk with hk; omega)
 have hz3:=hg.size
 replace hvo:=own_grown hvo hg (by omega)
 replace hjo:=own_grown hjo hg (by omega)
 clear hg
 unfold quoV
 go_wp2_with fail
 refine (range_any w.heap.size _ 0 60 w3 hs (by omega) (by omega) (by omega) (by omega)).mono ?_
 clear hs
 rintro e w4 ⟨t,rfl,ht0,ht1,hs,hg⟩
 replace hx:=hx.grown hg (by omega) (fun k hk => by injection hk with hk; omega)
 have hz4:=hg.size
 replace hvo:=own_grown hvo hg (by omega)
 replace hjo:=own_grown hjo hg (by omega)
 clear hg hs
 go_upto_region 3 with (fail)
 have hV : VoW w4 w0.heap.size w1.heap.size VA JA vs js:=⟨Row.of_own hvo,Row.of_own hjo,by omega,by omega,fun v hv => ⟨by have:=(HVB.out v hv).run; omega,by have:=who_len (HVB.out v hv).who; omega⟩,fun j hj => by have:=jud_len (HJB.out j hj); omega⟩
 clear hvo hjo
 have hqb : Blk ((w4.alloc (.cells #[.int .i64 q.least,.int .i64 q.num,.int .i64 q.den] 33)).alloc (.cells #[.int .i64 t] 3)) w4.heap.size 33 #[.int .i64 q.least,.int .i64 q.num,.int .i64 q.den]:=(Blk.new _ _ _).alloc _
 have htb : Blk ((w4.alloc (.cells #[.int .i64 q.least,.int .i64 q.num,.int .i64 q.den] 33)).alloc (.cells #[.int .i64 t] 3)) (w4.heap.size + 1) 3 #[.int .i64 t]:=Blk.at1 _ (by simp)
 replace hV:=(hV.below ((Below.refl _ _).alloc (Nat.le_refl _) (.cells #[.int .i64 q.least,.int .i64 q.num,.int .i64 q.den] 33)))
 replace hV:=(hV.below ((Below.refl _ _).alloc (Nat.le_refl _) (.cells #[.int .i64 t] 3)))
 replace hx:=hx.alloc hx.size (.cells #[.int .i64 q.least,.int .i64 q.num,.int .i64 q.den] 33)
 replace hx:=hx.alloc hx.size (.cells #[.int .i64 t] 3)
 clear hz0 hz1 hz2 hz3 hz4
 generalize (w4.alloc (.cells #[.int .i64 q.least,.int .i64 q.num,.int .i64 q.den] 33)).alloc (.cells #[.int .i64 t] 3) = w5 at *
 generalize w4.heap.size + 1 = tb at *
 generalize w4.heap.size = qb at *
 generalize w0.heap.size = lo1 at *
 generalize w1.heap.size = lo2 at *
 obtain ⟨q0,q1,q2⟩ : _ ∧ _ ∧ _:=⟨hqb.cell 0,hqb.cell 1,hqb.cell 2⟩
 have t0:=htb.cell 0
 simp only [List.getElem?_toArray,List.getElem?_cons_zero,List.getElem?_cons_succ] at q0 q1 q2 t0
 have ql:=hqb.lt
 have tl:=htb.lt
 go_wp2_with fail
 refine (rjudgesFault_any _ _ _ _ q _ hV.j hV.jl hV.js_).mono ?_
 rintro e w6 ⟨rfl,hb⟩
 clear q0 q1 q2 t0 ql tl
 replace hx:=below_up hx hb
 replace hV:=hV.below hb
 replace hqb:=hqb.below hb
 replace htb:=htb.below hb
 clear hb
 obtain ⟨je,hje⟩ : ∃ je,je = judgesE js q:=⟨_,rfl⟩
 rw [← hje]
 by_cases h0 : je = 0
 ·have hj0 : judgesE js q = 0:=by rw [← hje,h0]
  have hr0 : runE vs js q [114,49] t = 0:=by
   unfold runE
   rw [HV0.out,hj0,if_neg (by decide),if_neg (by decide),if_neg (by omega)]
  have hq1:=(quoE_ok (judgesE_ok hj0).2.2.2).1
  have hTD:=ruledF_told (vs:=vs) (js:=js) (run:=[114,49]) (t:=t) hq1
  have hnew:=fun (m : Int) (hm : 1 ≤ m) => need_how (vs:=vs) (js:=js) (q:=q) (t:=t) (n:=m) hq1 (fun v hv => who_ne (HVB.out v hv).who) (fun j hj => jud_ne (HJB.out j hj)) (by omega) hm
  have hnok : ∀ m : Int,1 ≤ m → m ≤ 1000 → runE (newV vs t) (newJ js m) q [114,49] 200 = 0:=fun m h1 h2 => by
   unfold runE
   rw [votes_new HV0.out (by omega) (by omega),judges_new hj0 (by omega) (fun j hj => jud_lt (HJB.out j hj)) h1 h2,if_neg (by decide),if_neg (by decide),if_neg (by decide)]
  have hrv : ruledV vs js q [114,49] t = .tuple #[.agg #[.string ⟨#[114,49]⟩,.int .i64 (ruledF vs js q [114,49] t).how,.int .i64 (ruledF vs js q [114,49] t).since,.int .i64 (ruledF vs js q [114,49] t).yes,.int .i64 (ruledF vs js q [114,49] t).no],.int .i64 0]:=by
   unfold ruledV; rw [if_pos hr0]; rfl
  have hhow:=hTD.how
  have HNEED:=Lib.hid (fun (W : World) (h : VoW W lo1 lo2 VA JA vs js) => needs_any _ _ vc jc VA JA vs js q [114,49] t W h)
  have hNP:=fun (W W' : World) (e : Ending) (h : NeedsPost W vs js q [114,49] t e W') => (⟨h.2.1 hr0,h.2.2⟩ : NeedP q (ruledF vs js q [114,49] t).yes (ruledF vs js q [114,49] t).no e ∧ Below W.heap.size W W')
  have hnew2 : ∀ m : Nat,1 ≤ m → m ≤ 1000 → decF q ((ruledF vs js q [114,49] t).yes + m) (ruledF vs js q [114,49] t).no = 1 → ∃ a b c : Int,ruledV (newV vs t) (newJ js (m : Int)) q [114,49] 200 = .tuple #[.agg #[.string ⟨#[114,49]⟩,.int .i64 1,.int .i64 a,.int .i64 b,.int .i64 c],.int .i64 0]:=fun m h1 h2 h3 => by
   have e1:=hnew (m : Int) (by omega)
   have e2 : (ruledF (newV vs t) (newJ js (m : Int)) q [114,49] 200).how = 1:=e1.trans h3
   refine ⟨(ruledF (newV vs t) (newJ js (m : Int)) q [114,49] 200).since,(ruledF (newV vs t) (newJ js (m : Int)) q [114,49] 200).yes,(ruledF (newV vs t) (newJ js (m : Int)) q [114,49] 200).no,?_⟩
   unfold ruledV
   rw [if_pos (hnok (m : Int) (by omega) (by omega)),← e2]
   rfl
  clear hnew hnok hTD
  generalize (ruledF vs js q [114,49] t).how = how at *
  generalize (ruledF vs js q [114,49] t).since = since at *
  generalize (ruledF vs js q [114,49] t).yes = yes at *
  generalize (ruledF vs js q [114,49] t).no = no at *
  have HRV:=Lib.hid hrv
  have HNP:=Lib.hid hNP
  have HNW:=Lib.hid hnew2
  have HHOW:=Lib.hid hhow
  clear hrv hNP hnew2 hhow hr0 hje hj0 hq1 HVB HJB HV0
  subst h0
  obtain ⟨q0,q1,q2⟩ : _ ∧ _ ∧ _:=⟨hqb.cell 0,hqb.cell 1,hqb.cell 2⟩
  have t0:=htb.cell 0
  simp only [List.getElem?_toArray,List.getElem?_cons_zero,List.getElem?_cons_succ] at q0 q1 q2 t0
  have ql:=hqb.lt
  have tl:=htb.lt
  go_wp2_with fail
  refine (HNEED.out _ hV).mono ?_
  intro e w7 hpost
  obtain ⟨hneed,hb⟩:=HNP.out _ _ _ hpost
  clear hpost HNP HNEED q0 q1 q2 t0 ql tl
  replace hx:=below_up hx hb
  replace hV:=hV.below hb
  replace hqb:=hqb.below hb
  replace htb:=htb.below hb
  clear hb
  rcases hneed with ⟨m,hm,hd1,-,rfl⟩ | ⟨-,rfl⟩
  ·by_cases hm0 : m = 0
   ·subst hm0
    have hh1 : how = 1:=by rw [HHOW.out]; simpa using hd1
    subst hh1
    clear HHOW HNW hd1
    obtain ⟨q0,q1,q2⟩ : _ ∧ _ ∧ _:=⟨hqb.cell 0,hqb.cell 1,hqb.cell 2⟩
    have t0:=htb.cell 0
    simp only [List.getElem?_toArray,List.getElem?_cons_zero,List.getElem?_cons_succ] at q0 q1 q2 t0
    have ql:=hqb.lt
    have tl:=htb.lt
    go_wp2_with fail
    refine (ruledT_any _ _ vc jc VA JA vs js q [114,49] t _ hV).mono ?_
    rintro e w8 ⟨rfl,hb⟩
    rw [HRV.out]
    replace hx:=below_up hx hb
    replace hV:=hV.below hb
    replace hqb:=hqb.below hb
    replace htb:=htb.below hb
    clear hb q0 q1 q2 t0 ql tl
    go_wp2_with fail
    replace hx:=hx.alloc hx.size (.cells #[.string ⟨#[114,49]⟩,.int .i64 1,.int .i64 since,.int .i64 yes,.int .i64 no] 42)
    refine (ready_any _).mono ?_
    rintro e w11 ⟨rfl,hb⟩
    go_wp2_with fail
    go_ret
    exact ⟨rfl,below_up hx hb⟩
   ·by_cases hm1 : (1000 : Int) < (m : Int)
    ·have hm2 : ((m : Int) == 0) = false:=by simpa using hm0
     have hm3 : ((m : Int) != 0) = true:=by simpa using hm0
     clear HHOW HNW hd1
     obtain ⟨q0,q1,q2⟩ : _ ∧ _ ∧ _:=⟨hqb.cell 0,hqb.cell 1,hqb.cell 2⟩
     have t0:=htb.cell 0
     simp only [List.getElem?_toArray,List.getElem?_cons_zero,List.getElem?_cons_succ] at q0 q1 q2 t0
     have ql:=hqb.lt
     have tl:=htb.lt
     go_wp2_with fail
     refine (ruledT_any _ _ vc jc VA JA vs js q [114,49] t _ hV).mono ?_
     rintro e w8 ⟨rfl,hb⟩
     rw [HRV.out]
     replace hx:=below_up hx hb
     replace hV:=hV.below hb
     replace hqb:=hqb.below hb
     replace htb:=htb.below hb
     clear hb q0 q1 q2 t0 ql tl
     go_wp2_with fail
     replace hx:=hx.alloc hx.size (.cells #[.string ⟨#[114,49]⟩,.int .i64 how,.int .i64 since,.int .i64 yes,.int .i64 no] 42)
     refine (ready_any _).mono ?_
     rintro e w11 ⟨rfl,hb⟩
     go_wp2_with fail
     go_ret
     exact ⟨rfl,below_up hx hb⟩
    ·have HNEW:=Lib.hid (HNW.out m (by omega) (by omega) hd1)
     have hm2 : ((m : Int) == 0) = false:=by simpa using hm0
     have hwb : Blk (w7.alloc (.cells #[.int .i64 200,.int .i64 300] 46)) w7.heap.size 46 #[.int .i64 200,.int .i64 300]:=Blk.new _ _ _
     replace hx:=hx.alloc hx.size (.cells #[.int .i64 200,.int .i64 300] 46)
     replace hV:=hV.below ((Below.refl _ _).alloc (Nat.le_refl _) (.cells #[.int .i64 200,.int .i64 300] 46))
     replace hqb:=hqb.alloc (.cells #[.int .i64 200,.int .i64 300] 46)
     replace htb:=htb.alloc (.cells #[.int .i64 200,.int .i64 300] 46)
     clear HNW HHOW HRV hd1
     go_upto_region 12 with (fail)
     generalize w7.alloc (.cells #[.int .i64 200,.int .i64 300] 46) = w9 at *
     generalize w7.heap.size = wb at *
     replace hx : Below w.heap.size w w9.drew:=below_up hx (below_drewN' (Below.refl _ _) 1)
     replace hV : VoW w9.drew lo1 lo2 VA JA vs js:=hV.below (below_drewN' (Below.refl _ _) 1)
     replace hqb : Blk w9.drew qb 33 #[.int .i64 q.least,.int .i64 q.num,.int .i64 q.den]:=hqb.below (below_drewN' (Below.refl _ _) 1)
     replace htb : Blk w9.drew tb 3 #[.int .i64 t]:=htb.below (below_drewN' (Below.refl _ _) 1)
     replace hwb : Blk w9.drew wb 46 #[.int .i64 200,.int .i64 300]:=hwb.below (below_drewN' (Below.refl _ _) 1)
     refine wp_region_held_drew (S:=(fun w' => w'.cell? ⟨wb,0,none⟩ = some (.int .i64 200) ∧ w'.cell? ⟨wb,1,none⟩ = some (.int .i64 300))) (by kernel_rfl) (hwb.two_) (fun hHeld => ?_)
     generalize w9.drew = wd at *
     have hy : Below wd.heap.size wd wd:=Below.refl _ _
     (refine wpAnyH_take (i:=0) (v:=?_) (by (simp only [List.getElem?_toArray,List.getElem?_cons_zero]; rfl)) (by kernel_rfl) (by kernel_rfl) (by kernel_rfl) (by exact fun _ _ _ h => h) (Or.inl ⟨by rfl,?_⟩) (by assumption) ?_; (rotate_left 1; (intro w hSw; (try dsimp only at hSw); go_simp); (try with_reducible rfl)); (try simp only [Act.put,List.setIfInBounds_toArray,List.set_cons_zero,List.set_cons_succ]))
     (refine wpAnyH_take (i:=2) (v:=?_) (by (simp only [List.getElem?_toArray,List.getElem?_cons_succ,List.getElem?_cons_zero]; rfl)) (by kernel_rfl) (by kernel_rfl) (by kernel_rfl) (by exact fun _ _ _ h => h) (Or.inl ⟨by rfl,?_⟩) (by assumption) ?_; (rotate_left 1; (intro w hSw; (try dsimp only at hSw); go_simp); (try with_reducible rfl)); (try simp only [Act.put,List.setIfInBounds_toArray,List.set_cons_zero,List.set_cons_succ]))
     (refine wpAnyH_take (i:=3) (v:=?_) (by (simp only [List.getElem?_toArray,List.getElem?_cons_succ,List.getElem?_cons_zero]; rfl)) (by kernel_rfl) (by kernel_rfl) (by kernel_rfl) (by exact fun _ _ _ h => h) (Or.inl ⟨by rfl,?_⟩) (by assumption) ?_; (rotate_left 1; (intro w hSw; (try dsimp only at hSw); go_simp); (try with_reducible rfl)); (try simp only [Act.put,List.setIfInBounds_toArray,List.set_cons_zero,List.set_cons_succ]))
     (refine wpAnyH_take (i:=4) (v:=?_) (by (simp only [List.getElem?_toArray,List.getElem?_cons_succ,List.getElem?_cons_zero]; rfl)) (by kernel_rfl) (by kernel_rfl) (by kernel_rfl) (by exact fun _ _ _ h => h) (Or.inl ⟨by rfl,?_⟩) (by assumption) ?_; (rotate_left 1; (intro w hSw; (try dsimp only at hSw); go_simp); (try with_reducible rfl)); (try simp only [Act.put,List.setIfInBounds_toArray,List.set_cons_zero,List.set_cons_succ]))
     refine wpAnyH_ready (rs:=[1,5]) (by kernel_rfl) (by simp) ?_
     refine AllReadyH.cons rfl (fun K hK => ?_) (AllReadyH.cons rfl (fun K hK => ?_) AllReadyH.nil)
     case refine_1 =>
      go_simp
      go_at_call 13
      refine (cloneJ_any JA jc _ js _ (hV.below hy).j (by omega)).mono ?_
      rintro e wj ⟨JA2,jc2,rfl,hjo,hb⟩
      replace hjo:=own_weak hjo hy.size
      replace hy:=below_up hy hb
      clear hb
      go_wp2_with fail
      refine hK.out _ _ ((hwb.below hy).two_) (fun hHeld => ?_)
      clear hK K
      (try simp only [Act.put,List.setIfInBounds_toArray,List.set_cons_zero,List.set_cons_succ])
      refine wpAnyH_ready (rs:=[5]) (by kernel_rfl) (by simp) ?_
      refine AllReadyH.cons rfl (fun K hK => ?_) AllReadyH.nil
      go_simp
      have hby : Blk (wj.alloc (.cells #[.string ⟨#[122,122]⟩,.int .i64 200,.int .i64 300,.int .i64 (m : Int)] 49)) wj.heap.size 49 #[.string ⟨#[122,122]⟩,.int .i64 200,.int .i64 300,.int .i64 (m : Int)]:=Blk.new _ _ _
      replace hy:=hy.alloc hy.size (.cells #[.string ⟨#[122,122]⟩,.int .i64 200,.int .i64 300,.int .i64 (m : Int)] 49)
      replace hjo:=hjo.alloc (.cells #[.string ⟨#[122,122]⟩,.int .i64 200,.int .i64 300,.int .i64 (m : Int)] 49)
      refine hK.out _ _ ((hwb.below hy).two_) (fun hHeld => ?_)
      clear hK K
      (try simp only [Act.put,List.setIfInBounds_toArray,List.set_cons_zero,List.set_cons_succ])
      refine wpAnyH_ready (rs:=[6]) (by kernel_rfl) (by simp) ?_
      refine AllReadyH.cons rfl (fun K hK => ?_) AllReadyH.nil
      refine step_app (lo:=0) (base:=wd.heap.size) (n:=js.length) (xs:=js.flatMap encJ) _ rfl _ _ ty_judges rfl hjo rfl (Row.lit (n:=1) (size:=4) hby (Nat.zero_le _) rfl) rfl rfl (by omega) (by omega) hy.size ?_
      intro A5 c5 w10 hown5 hg5 _
      replace hy:=hy.grown hg5 hy.size (fun k hk => (hjo.lt k hk).1)
      clear hjo hby hg5
      refine hK.out _ _ ((hwb.below hy).two_) (fun hHeld => ?_)
      clear hK K
      (try simp only [Act.put,List.setIfInBounds_toArray,List.set_cons_zero,List.set_cons_succ])
      (refine wpAnyH_take (i:=7) (v:=?_) (by (simp only [List.getElem?_toArray,List.getElem?_cons_succ,List.getElem?_cons_zero]; rfl)) (by kernel_rfl) (by kernel_rfl) (by kernel_rfl) (by exact fun _ _ _ h => h) (Or.inl ⟨by rfl,?_⟩) (by assumption) ?_; (rotate_left 1; (intro w hSw; (try dsimp only at hSw); go_simp); (try with_reducible rfl)); (try simp only [Act.put,List.setIfInBounds_toArray,List.set_cons_zero,List.set_cons_succ]))
      refine wpAnyH_done (by kernel_rfl) ?_ _
      have hNJL : (newJ js (m : Int)).length = js.length + 1:=by simp [newJ]
      have hNJF : (newJ js (m : Int)).flatMap encJ = js.flatMap encJ ++ [.string ⟨#[122,122]⟩,.int .i64 200,.int .i64 300,.int .i64 (m : Int)]:=by simp [newJ,encJ,encStr,zzW]
      have hjr : Row w10 wd.heap.size 4 A5 (newJ js (m : Int)).length ((newJ js (m : Int)).flatMap encJ):=by
       rw [hNJL,hNJF]; exact Row.of_own hown5
      have HJR:=Lib.hid hjr
      have HJL:=Lib.hid hNJL
      clear hown5 hNJF hjr hNJL
      replace hx:=below_up hx hy
      replace hV:=hV.below hy
      replace hqb:=hqb.below hy
      replace htb:=htb.below hy
      clear hy hwb
      have hVv:=hV.v
      have hVVL:=hV.vl
      have HJS:=Lib.hid hV.js_
      have HVS:=Lib.hid hV.vs_
      clear hV
      go_wp2_with fail
      refine (cloneV_any VA vc _ vs _ hVv (by omega)).mono ?_
      rintro e w12 ⟨VA2,vc2,rfl,hvo,hb⟩
      have HD:=Lib.hid (fun W (h : Below w10.heap.size w10 W) (ho : W.ownsRow w10.heap.size 52 4 (.slice VA2 vs.length vc2) vs.length (vs.flatMap encV)) => deleteV_any VA2 vc2 tb w10.heap.size vs t W ho (htb.below h) htb.lt (by omega))
      have HHO:=Lib.hid hvo.lt
      go_wp2_with fail
      refine (HD.out _ hb hvo).mono ?_
      clear HD hvo hVv
      rintro e w13 ⟨rfl,hvo,hg⟩
      have hy:=Below.grown hb hg hb.size (fun k hk => (HHO.out k hk).1)
      clear hb hg HHO
      have hys0:=hy.size
      have hfl : (vs.filter (relB r1W t)).length ≤ vs.length:=List.length_filter_le _ _
      have hNV : newV vs t = vs.filter (relB r1W t) ++ [⟨r1W,zzW,200,1⟩]:=rfl
      have HNM : Hid (∀ v ∈ newV vs t,v.run.length ≤ 1000000 ∧ v.who.length ≤ 1000000):=Lib.hid (fun v hv => by
       rw [hNV] at hv
       rcases List.mem_append.1 hv with h | h
       ·exact HVS.out v (List.mem_filter.1 h).1
       ·simp at h; subst h; decide)
      have HJM : Hid (∀ j ∈ newJ js (m : Int),j.who.length ≤ 1000000):=Lib.hid (fun j hj => by
       unfold newJ at hj
       rcases List.mem_append.1 hj with h | h
       ·exact HJS.out j h
       ·simp at h; subst h; show zzW.length ≤ 1000000; decide)
      clear HVS HJS
      obtain ⟨nv,hnv⟩ : ∃ nv,nv = newV vs t:=⟨_,rfl⟩
      rw [← hnv] at hNV HNM
      have HRN:=HNEW.out
      rw [← hnv] at HRN
      have HRM:=Lib.hid HRN
      clear HRN hnv HNEW
      generalize vs.filter (relB r1W t) = fs at *
      have hfl2 : fs.length ≤ 1000:=by omega
      have hNVL : nv.length = fs.length + 1:=by rw [hNV]; simp
      have hNVF : nv.flatMap encV = fs.flatMap encV ++ [.string ⟨#[114,49]⟩,.string ⟨#[122,122]⟩,.int .i64 200,.int .i64 1]:=by rw [hNV]; simp [encV,encStr,zzW,r1W]
      have HNVL:=Lib.hid hNVL
      have HNVF:=Lib.hid hNVF
      clear hNV hNVL hNVF
      have hvo2:=hvo.alloc (.cells #[.string ⟨#[114,49]⟩,.string ⟨#[122,122]⟩,.int .i64 200,.int .i64 1] 52)
      replace hy:=hy.alloc hy.size (.cells #[.string ⟨#[114,49]⟩,.string ⟨#[122,122]⟩,.int .i64 200,.int .i64 1] 52)
      have hys:=hy.size
      clear hvo
      go_wp2_with (at_builtin; go_must (refine wpList_app (lo:=w10.heap.size) (base:=w10.heap.size) (n:=fs.length) (xs:=fs.flatMap encV) _ _ rfl _ _ ty_votes rfl (by repeat (first | exact hvo2 | refine World.ownsRow.alloc ?_ _ | refine own_drewN ?_ _ | refine World.ownsRow.drew ?_)) rfl (by first | exact row_new' _ (by first | rfl | simp) (by first | omega | (simp; omega)) rfl | exact row_newN _ _ (by first | rfl | simp) (by first | omega | (simp; omega)) rfl | exact row_newD _ (by first | rfl | simp) (by first | omega | (simp; omega)) rfl) rfl rfl (by first | omega | decide) (by first | omega | decide) (by first | omega | (simp; omega)) ?_))
      intro A6 c6 w14 hown6 hg6 _
      replace hy:=hy.grown hg6 hy.size (fun k hk => (hvo2.lt k hk).1)
      clear hvo2 hg6 hys hys0
      have hV2 : VoW w14 w10.heap.size wd.heap.size A6 A5 nv (newJ js (m : Int)):=⟨by rw [HNVL.out,HNVF.out]; exact Row.of_own hown6,HJR.out.below hy,by rw [HNVL.out]; omega,by rw [HJL.out]; omega,HNM.out,HJM.out⟩
      have HR:=ruledT_any _ _ c6 c5 A6 A5 nv (newJ js (m : Int)) q [114,49] 200 _ hV2
      rw [HNVL.out,HJL.out] at HR
      obtain ⟨since2,yes2,no2,hrv⟩:=HRM.out
      rw [hrv] at HR
      replace hx:=below_up hx hy
      replace hqb:=hqb.below hy
      obtain ⟨q0,q1,q2⟩ : _ ∧ _ ∧ _:=⟨hqb.cell 0,hqb.cell 1,hqb.cell 2⟩
      simp only [List.getElem?_toArray,List.getElem?_cons_zero,List.getElem?_cons_succ] at q0 q1 q2
      have ql:=hqb.lt
      clear hown6 hV2 HJR HNVL HNVF HNM HJM hrv HRM hy hqb htb
      go_wp2_with fail
      refine HR.mono ?_
      clear HR
      rintro e w15 ⟨rfl,hb⟩
      replace hx:=below_up hx hb
      clear hb q0 q1 q2 ql
      go_wp2_with fail
      replace hx:=hx.alloc hx.size (.cells #[.string ⟨#[114,49]⟩,.int .i64 1,.int .i64 since2,.int .i64 yes2,.int .i64 no2] 42)
      refine (ready_any _).mono ?_
      rintro e w11 ⟨rfl,hb⟩
      go_wp2_with fail
      go_ret
      exact ⟨rfl,below_up hx hb⟩
     case refine_2 =>
      go_simp
      have hby : Blk (wd.alloc (.cells #[.string ⟨#[122,122]⟩,.int .i64 200,.int .i64 300,.int .i64 (m : Int)] 49)) wd.heap.size 49 #[.string ⟨#[122,122]⟩,.int .i64 200,.int .i64 300,.int .i64 (m : Int)]:=Blk.new _ _ _
      replace hy:=hy.alloc hy.size (.cells #[.string ⟨#[122,122]⟩,.int .i64 200,.int .i64 300,.int .i64 (m : Int)] 49)
      refine hK.out _ _ ((hwb.below hy).two_) (fun hHeld => ?_)
      clear hK K
      (try simp only [Act.put,List.setIfInBounds_toArray,List.set_cons_zero,List.set_cons_succ])
      refine wpAnyH_ready (rs:=[1]) (by kernel_rfl) (by simp) ?_
      refine AllReadyH.cons rfl (fun K hK => ?_) AllReadyH.nil
      go_simp
      go_at_call 13
      refine (cloneJ_any JA jc _ js _ (hV.below hy).j (by omega)).mono ?_
      rintro e wj ⟨JA2,jc2,rfl,hjo,hb⟩
      replace hjo:=own_weak hjo hy.size
      replace hy:=below_up hy hb
      replace hby:=hby.below hb
      clear hb
      go_wp2_with fail
      refine hK.out _ _ ((hwb.below hy).two_) (fun hHeld => ?_)
      clear hK K
      (try simp only [Act.put,List.setIfInBounds_toArray,List.set_cons_zero,List.set_cons_succ])
      refine wpAnyH_ready (rs:=[6]) (by kernel_rfl) (by simp) ?_
      refine AllReadyH.cons rfl (fun K hK => ?_) AllReadyH.nil
      refine step_app (lo:=0) (base:=wd.heap.size) (n:=js.length) (xs:=js.flatMap encJ) _ rfl _ _ ty_judges rfl hjo rfl (Row.lit (n:=1) (size:=4) hby (Nat.zero_le _) rfl) rfl rfl (by omega) (by omega) hy.size ?_
      intro A5 c5 w10 hown5 hg5 _
      replace hy:=hy.grown hg5 hy.size (fun k hk => (hjo.lt k hk).1)
      clear hjo hby hg5
      refine hK.out _ _ ((hwb.below hy).two_) (fun hHeld => ?_)
      clear hK K
      (try simp only [Act.put,List.setIfInBounds_toArray,List.set_cons_zero,List.set_cons_succ])
      (refine wpAnyH_take (i:=7) (v:=?_) (by (simp only [List.getElem?_toArray,List.getElem?_cons_succ,List.getElem?_cons_zero]; rfl)) (by kernel_rfl) (by kernel_rfl) (by kernel_rfl) (by exact fun _ _ _ h => h) (Or.inl ⟨by rfl,?_⟩) (by assumption) ?_; (rotate_left 1; (intro w hSw; (try dsimp only at hSw); go_simp); (try with_reducible rfl)); (try simp only [Act.put,List.setIfInBounds_toArray,List.set_cons_zero,List.set_cons_succ]))
      refine wpAnyH_done (by kernel_rfl) ?_ _
      have hNJL : (newJ js (m : Int)).length = js.length + 1:=by simp [newJ]
      have hNJF : (newJ js (m : Int)).flatMap encJ = js.flatMap encJ ++ [.string ⟨#[122,122]⟩,.int .i64 200,.int .i64 300,.int .i64 (m : Int)]:=by simp [newJ,encJ,encStr,zzW]
      have hjr : Row w10 wd.heap.size 4 A5 (newJ js (m : Int)).length ((newJ js (m : Int)).flatMap encJ):=by
       rw [hNJL,hNJF]; exact Row.of_own hown5
      have HJR:=Lib.hid hjr
      have HJL:=Lib.hid hNJL
      clear hown5 hNJF hjr hNJL
      replace hx:=below_up hx hy
      replace hV:=hV.below hy
      replace hqb:=hqb.below hy
      replace htb:=htb.below hy
      clear hy hwb
      have hVv:=hV.v
      have hVVL:=hV.vl
      have HJS:=Lib.hid hV.js_
      have HVS:=Lib.hid hV.vs_
      clear hV
      go_wp2_with fail
      refine (cloneV_any VA vc _ vs _ hVv (by omega)).mono ?_
      rintro e w12 ⟨VA2,vc2,rfl,hvo,hb⟩
      have HD:=Lib.hid (fun W (h : Below w10.heap.size w10 W) (ho : W.ownsRow w10.heap.size 52 4 (.slice VA2 vs.length vc2) vs.length (vs.flatMap encV)) => deleteV_any VA2 vc2 tb w10.heap.size vs t W ho (htb.below h) htb.lt (by omega))
      have HHO:=Lib.hid hvo.lt
      go_wp2_with fail
      refine (HD.out _ hb hvo).mono ?_
      clear HD hvo hVv
      rintro e w13 ⟨rfl,hvo,hg⟩
      have hy:=Below.grown hb hg hb.size (fun k hk => (HHO.out k hk).1)
      clear hb hg HHO
      have hys0:=hy.size
      have hfl : (vs.filter (relB r1W t)).length ≤ vs.length:=List.length_filter_le _ _
      have hNV : newV vs t = vs.filter (relB r1W t) ++ [⟨r1W,zzW,200,1⟩]:=rfl
      have HNM : Hid (∀ v ∈ newV vs t,v.run.length ≤ 1000000 ∧ v.who.length ≤ 1000000):=Lib.hid (fun v hv => by
       rw [hNV] at hv
       rcases List.mem_append.1 hv with h | h
       ·exact HVS.out v (List.mem_filter.1 h).1
       ·simp at h; subst h; decide)
      have HJM : Hid (∀ j ∈ newJ js (m : Int),j.who.length ≤ 1000000):=Lib.hid (fun j hj => by
       unfold newJ at hj
       rcases List.mem_append.1 hj with h | h
       ·exact HJS.out j h
       ·simp at h; subst h; show zzW.length ≤ 1000000; decide)
      clear HVS HJS
      obtain ⟨nv,hnv⟩ : ∃ nv,nv = newV vs t:=⟨_,rfl⟩
      rw [← hnv] at hNV HNM
      have HRN:=HNEW.out
      rw [← hnv] at HRN
      have HRM:=Lib.hid HRN
      clear HRN hnv HNEW
      generalize vs.filter (relB r1W t) = fs at *
      have hfl2 : fs.length ≤ 1000:=by omega
      have hNVL : nv.length = fs.length + 1:=by rw [hNV]; simp
      have hNVF : nv.flatMap encV = fs.flatMap encV ++ [.string ⟨#[114,49]⟩,.string ⟨#[122,122]⟩,.int .i64 200,.int .i64 1]:=by rw [hNV]; simp [encV,encStr,zzW,r1W]
      have HNVL:=Lib.hid hNVL
      have HNVF:=Lib.hid hNVF
      clear hNV hNVL hNVF
      have hvo2:=hvo.alloc (.cells #[.string ⟨#[114,49]⟩,.string ⟨#[122,122]⟩,.int .i64 200,.int .i64 1] 52)
      replace hy:=hy.alloc hy.size (.cells #[.string ⟨#[114,49]⟩,.string ⟨#[122,122]⟩,.int .i64 200,.int .i64 1] 52)
      have hys:=hy.size
      clear hvo
      go_wp2_with (at_builtin; go_must (refine wpList_app (lo:=w10.heap.size) (base:=w10.heap.size) (n:=fs.length) (xs:=fs.flatMap encV) _ _ rfl _ _ ty_votes rfl (by repeat (first | exact hvo2 | refine World.ownsRow.alloc ?_ _ | refine own_drewN ?_ _ | refine World.ownsRow.drew ?_)) rfl (by first | exact row_new' _ (by first | rfl | simp) (by first | omega | (simp; omega)) rfl | exact row_newN _ _ (by first | rfl | simp) (by first | omega | (simp; omega)) rfl | exact row_newD _ (by first | rfl | simp) (by first | omega | (simp; omega)) rfl) rfl rfl (by first | omega | decide) (by first | omega | decide) (by first | omega | (simp; omega)) ?_))
      intro A6 c6 w14 hown6 hg6 _
      replace hy:=hy.grown hg6 hy.size (fun k hk => (hvo2.lt k hk).1)
      clear hvo2 hg6 hys hys0
      have hV2 : VoW w14 w10.heap.size wd.heap.size A6 A5 nv (newJ js (m : Int)):=⟨by rw [HNVL.out,HNVF.out]; exact Row.of_own hown6,HJR.out.below hy,by rw [HNVL.out]; omega,by rw [HJL.out]; omega,HNM.out,HJM.out⟩
      have HR:=ruledT_any _ _ c6 c5 A6 A5 nv (newJ js (m : Int)) q [114,49] 200 _ hV2
      rw [HNVL.out,HJL.out] at HR
      obtain ⟨since2,yes2,no2,hrv⟩:=HRM.out
      rw [hrv] at HR
      replace hx:=below_up hx hy
      replace hqb:=hqb.below hy
      obtain ⟨q0,q1,q2⟩ : _ ∧ _ ∧ _:=⟨hqb.cell 0,hqb.cell 1,hqb.cell 2⟩
      simp only [List.getElem?_toArray,List.getElem?_cons_zero,List.getElem?_cons_succ] at q0 q1 q2
      have ql:=hqb.lt
      clear hown6 hV2 HJR HNVL HNVF HNM HJM hrv HRM hy hqb htb
      go_wp2_with fail
      refine HR.mono ?_
      clear HR
      rintro e w15 ⟨rfl,hb⟩
      replace hx:=below_up hx hb
      clear hb q0 q1 q2 ql
      go_wp2_with fail
      replace hx:=hx.alloc hx.size (.cells #[.string ⟨#[114,49]⟩,.int .i64 1,.int .i64 since2,.int .i64 yes2,.int .i64 no2] 42)
      refine (ready_any _).mono ?_
      rintro e w11 ⟨rfl,hb⟩
      go_wp2_with fail
      go_ret
      exact ⟨rfl,below_up hx hb⟩
  ·clear HHOW HNW
   obtain ⟨q0,q1,q2⟩ : _ ∧ _ ∧ _:=⟨hqb.cell 0,hqb.cell 1,hqb.cell 2⟩
   have t0:=htb.cell 0
   simp only [List.getElem?_toArray,List.getElem?_cons_zero,List.getElem?_cons_succ] at q0 q1 q2 t0
   have ql:=hqb.lt
   have tl:=htb.lt
   go_wp2_with fail
   refine (ruledT_any _ _ vc jc VA JA vs js q [114,49] t _ hV).mono ?_
   rintro e w8 ⟨rfl,hb⟩
   rw [HRV.out]
   replace hx:=below_up hx hb
   replace hV:=hV.below hb
   replace hqb:=hqb.below hb
   replace htb:=htb.below hb
   clear hb q0 q1 q2 t0 ql tl
   go_wp2_with fail
   replace hx:=hx.alloc hx.size (.cells #[.string ⟨#[114,49]⟩,.int .i64 how,.int .i64 since,.int .i64 yes,.int .i64 no] 42)
   refine (ready_any _).mono ?_
   rintro e w11 ⟨rfl,hb⟩
   go_wp2_with fail
   go_ret
   exact ⟨rfl,below_up hx hb⟩
 ·have d0 : (je != 0) = true:=by simpa using h0
  clear h0 hje hV hqb htb HVB HJB HV0
  go_wp2_with fail
  refine (ready_any _).mono ?_
  rintro e w11 ⟨rfl,hb⟩
  go_wp2_with fail
  go_ret
  exact ⟨rfl,below_up hx hb⟩
end Go.Proofs.YtajfecnfhoendaaGreatDoor
