/- Texts of this seat, laid together: VoG VoK VoT VoU VoV VoX. -/
import Derived.Test.YtgeaeockmadhcaaGreatDoorBp19
import Derived.Test.YtgeaeockmadhcaaGreatDoorBp23
/- The walks of Ruled and Needs, and of what checks their arguments. -/
namespace Go.Proofs.YtgeaeockmadhcaaGreatDoor
set_option linter.unusedVariables false
set_option linter.unusedSimpArgs false
open Go.RowKit

theorem votesE_le {vs : List VoteE} (h : votesE vs = 0) : vs.length ≤ 500:=by
 unfold votesE at h
 by_cases hb : 500 < vs.length
 ·rw [if_pos hb] at h; cases h
 ·omega
theorem judgesE_ok {js : List JudgeE} {q : QuoE} (h : judgesE js q = 0) : js.length ≤ 500 ∧ (∀ j ∈ js,¬ JBad j) ∧ (∀ i,i < js.length → judgeAt js i = 0) ∧ quoE q = 0:=by
 unfold judgesE at h
 by_cases hb : 500 < js.length
 ·rw [if_pos hb] at h; cases h
 rw [if_neg hb] at h
 by_cases hs : scanF (judgeAt js) js.length = 0
 ·rw [if_neg (fun hh => hh hs)] at h
  have h0:=scanF_0 hs
  refine ⟨by omega,fun j hj hbad => ?_,h0,h⟩
  obtain ⟨k,hk,rfl⟩:=List.mem_iff_getElem.1 hj
  have:=h0 k hk
  by_cases hk1 : keyB js[k].who = true
  ·rw [judgeAt_arg hk hk1 hbad] at this; cases this
  ·rw [judgeAt_name hk (by simpa using hk1)] at this; cases this
 ·rw [if_pos hs] at h; exact absurd h hs
theorem quoE_ok {q : QuoE} (h : quoE q = 0) : 1 ≤ q.least ∧ q.least ≤ 1000000 ∧ 1 ≤ q.den ∧ q.den ≤ 1000 ∧ 0 ≤ q.num ∧ q.num ≤ q.den:=by
 unfold quoE at h
 by_cases h1 : q.least < 1 ∨ 1000000 < q.least
 ·rw [if_pos h1] at h; cases h
 rw [if_neg h1] at h
 by_cases h2 : (q.den < 1 ∨ 1000 < q.den) ∨ (q.num < 0 ∨ q.den < q.num) ∨ Nat.gcd q.num.toNat q.den.toNat ≠ 1
 ·rw [if_pos h2] at h; cases h
 ·omega
theorem judges_wt {js : List JudgeE} {q : QuoE} (h : judgesE js q = 0) : ∀ j ∈ js,0 ≤ j.wt ∧ j.wt ≤ 1000:=fun j hj => by
 have:=(judgesE_ok h).2.1 j hj
 unfold JBad at this
 omega
structure VoW (w : World) (lo lo' : Nat) (A B : Option Addr) (vs : List VoteE) (js : List JudgeE) : Prop where
  v : Row w lo 4 A vs.length (vs.flatMap encV)
  j : Row w lo' 4 B js.length (js.flatMap encJ)
  vl : vs.length ≤ 1000000
  jl : js.length ≤ 1000000
  vs_ : ∀ v ∈ vs, v.run.length ≤ 1000000 ∧ v.who.length ≤ 1000000
  js_ : ∀ j ∈ js, j.who.length ≤ 1000000
theorem VoW.below {w w' : World} {lo lo' : Nat} {A B : Option Addr} {vs : List VoteE} {js : List JudgeE} (h : VoW w lo lo' A B vs js) (hb : Below w.heap.size w w') : VoW w' lo lo' A B vs js:=⟨h.v.below hb,h.j.below hb,h.vl,h.jl,h.vs_,h.js_⟩
theorem VoW.grown {w w' : World} {g lo lo' : Nat} {A B : Option Addr} {vs : List VoteE} {js : List JudgeE} (h : VoW w lo lo' A B vs js) (hg : w.grownBy w' (some g)) (h1 : g < lo) (h2 : g < lo') : VoW w' lo lo' A B vs js:=⟨h.v.grown hg h1,h.j.grown hg h2,h.vl,h.jl,h.vs_,h.js_⟩
set_option maxHeartbeats 4000000 in
set_option maxRecDepth 100000 in
theorem evFault_any (lo lo' c c' : Nat) (A B : Option Addr) (vs : List VoteE) (js : List JudgeE) (q : QuoE) (w : World) (hV : VoW w lo lo' A B vs js) :
  Calls Tryz.prog 59 #[.slice A vs.length c,.slice B js.length c',.agg #[.int .i64 q.least,.int .i64 q.num,.int .i64 q.den]] w fun e w' => e = .returned (.int .i64 (firstE [votesE vs,judgesE js q])) ∧ Below w.heap.size w w':=by
 have hl:=hV.vl
 have hj:=hV.jl
 have HSV:=Lib.hid hV.vs_
 have HSJ:=Lib.hid hV.js_
 obtain ⟨ve,hve⟩ : ∃ ve,ve = votesE vs:=⟨_,rfl⟩
 obtain ⟨je,hje⟩ : ∃ je,je = judgesE js q:=⟨_,rfl⟩
 have HVE:=Lib.hid hve
 have HJE:=Lib.hid hje
 clear hve hje
 have hk1 : Blk (w.alloc (.cells #[.int .i64 q.least,.int .i64 q.num,.int .i64 q.den] 33)) w.heap.size 33 #[.int .i64 q.least,.int .i64 q.num,.int .i64 q.den]:=Blk.new _ _ _
 have hx : Below w.heap.size w (w.alloc (.cells #[.int .i64 q.least,.int .i64 q.num,.int .i64 q.den] 33)):=(Below.refl _ _).alloc (Nat.le_refl _) _
 go_enter Tryz.func59,Tryz.ntmps59
 go_upto_region 1 with (fail)
 generalize w.alloc (.cells #[.int .i64 q.least,.int .i64 q.num,.int .i64 q.den] 33) = w2 at *
 have HSC : Hid (∀ W,Below w2.heap.size w2 W → (fun w' : World => w'.cell? ⟨w.heap.size,0,none⟩ = some (.int .i64 q.least) ∧ w'.cell? ⟨w.heap.size,1,none⟩ = some (.int .i64 q.num) ∧ w'.cell? ⟨w.heap.size,2,none⟩ = some (.int .i64 q.den)) W):=Lib.hid (fun W hW => ⟨(hk1.below hW).cell 0,(hk1.below hW).cell 1,(hk1.below hW).cell 2⟩)
 have HBW : Hid (∀ W,Below w2.heap.size w2 W → Below w.heap.size w W ∧ Row W lo 4 A vs.length (vs.flatMap encV) ∧ Row W lo' 4 B js.length (js.flatMap encJ)):=Lib.hid (fun W hW => ⟨below_up hx hW,hV.v.below (below_up hx hW),hV.j.below (below_up hx hW)⟩)
 have hbz : Below w2.heap.size w2 w2.drew:=below_drewN' (Below.refl _ _) 1
 have hsc:=HSC.out _ hbz
 try simp only at hsc
 clear hk1 hx hV
 refine wp_region_held_drew (S:=(fun w' => w'.cell? ⟨w.heap.size,0,none⟩ = some (.int .i64 q.least) ∧ w'.cell? ⟨w.heap.size,1,none⟩ = some (.int .i64 q.num) ∧ w'.cell? ⟨w.heap.size,2,none⟩ = some (.int .i64 q.den))) (by kernel_rfl) (hsc) (fun hHeld => ?_)
 (refine wpAnyH_take (i:=0) (v:=?_) (by (simp only [Q0,Q2]; rfl)) (by kernel_rfl) (by kernel_rfl) (by kernel_rfl) (by exact fun _ _ _ h => h) (Or.inl ⟨by rfl,?_⟩) (by assumption) ?_; (rotate_left 1; (intro w hSw; (try dsimp only at hSw); go_simp); (try with_reducible rfl)); (try simp only [Act.put,Q3,Q4,Q5]))
 (refine wpAnyH_take (i:=2) (v:=?_) (by (simp only [Q0,Q1,Q2]; rfl)) (by kernel_rfl) (by kernel_rfl) (by kernel_rfl) (by exact fun _ _ _ h => h) (Or.inl ⟨by rfl,?_⟩) (by assumption) ?_; (rotate_left 1; (intro w hSw; (try dsimp only at hSw); go_simp); (try with_reducible rfl)); (try simp only [Act.put,Q3,Q4,Q5]))
 (refine wpAnyH_take (i:=3) (v:=?_) (by (simp only [Q0,Q1,Q2]; rfl)) (by kernel_rfl) (by kernel_rfl) (by kernel_rfl) (by exact fun _ _ _ h => h) (Or.inl ⟨by rfl,?_⟩) (by assumption) ?_; (rotate_left 1; (intro w hSw; (try dsimp only at hSw); go_simp); (try with_reducible rfl)); (try simp only [Act.put,Q3,Q4,Q5]))
 refine wpAnyH_ready (rs:=[1]) (by kernel_rfl) (by simp) ?_
 refine AllReadyH.cons rfl (fun K hK => ?_) AllReadyH.nil
 go_simp
 go_at_call 15
 refine (checkVotes_any lo c A vs _ (HBW.out _ hbz).2.1 hl HSV.out).mono ?_
 rintro e wa ⟨rfl,hb⟩
 rw [← HVE.out]
 replace hbz:=hbz.trans (hb.mono hbz.size)
 have hsc:=(HSC.out _ hbz)
 try simp only at hsc
 clear hb
 go_wp2_with fail
 refine hK.out _ _ (hsc) (fun hHeld => ?_)
 clear hK K
 (try simp only [Act.put,Q3,Q4,Q5])
 refine wpAnyH_ready (rs:=[4]) (by kernel_rfl) (by simp) ?_
 refine AllReadyH.cons rfl (fun K hK => ?_) AllReadyH.nil
 go_simp
 go_at_call 16
 refine (checkJudges_any lo' c' B js q _ (HBW.out _ hbz).2.2 hj HSJ.out).mono ?_
 rintro e wb ⟨rfl,hb⟩
 rw [← HJE.out]
 replace hbz:=hbz.trans (hb.mono hbz.size)
 have hsc:=(HSC.out _ hbz)
 try simp only at hsc
 clear hb
 go_wp2_with fail
 refine hK.out _ _ (hsc) (fun hHeld => ?_)
 clear hK K
 (try simp only [Act.put,Q3,Q4,Q5])
 refine wpAnyH_ready (rs:=[5]) (by kernel_rfl) (by simp) ?_
 refine AllReadyH.cons rfl (fun K hK => ?_) AllReadyH.nil
 go_simp
 have hro:=row_new wb #[.int .i64 ve,.int .i64 je] 43 0 1 2 (Nat.zero_le _) rfl
 replace hbz:=hbz.alloc hbz.size (.cells #[.int .i64 ve,.int .i64 je] 43)
 have hsc:=(HSC.out _ hbz)
 try simp only at hsc
 refine hK.out _ _ (hsc) (fun hHeld => ?_)
 clear hK K
 (try simp only [Act.put,Q3,Q4,Q5])
 refine wpAnyH_ready (rs:=[6]) (by kernel_rfl) (by simp) ?_
 refine AllReadyH.cons rfl (fun K hK => ?_) AllReadyH.nil
 go_simp
 go_at_call 52
 refine (first_any _ 2 0 [ve,je] _ hro (by simp)).mono ?_
 rintro e we ⟨rfl,rfl⟩
 go_wp2_with fail
 refine hK.out _ _ (hsc) (fun hHeld => ?_)
 clear hK K
 (try simp only [Act.put,Q3,Q4,Q5])
 (refine wpAnyH_take (i:=7) (v:=?_) (by (simp only [Q0,Q1,Q2]; rfl)) (by kernel_rfl) (by kernel_rfl) (by kernel_rfl) (by exact fun _ _ _ h => h) (Or.inl ⟨by rfl,?_⟩) (by assumption) ?_; (rotate_left 1; (intro w hSw; (try dsimp only at hSw); go_simp); (try with_reducible rfl)); (try simp only [Act.put,Q3,Q4,Q5]))
 refine wpAnyH_done (by kernel_rfl) ?_ _
 go_wp2_with fail
 go_ret
 exact ⟨ret_int' (by rw [HVE.out,HJE.out]),(HBW.out _ hbz).1⟩
def runE (vs : List VoteE) (js : List JudgeE) (q : QuoE) (run : List UInt8) (t : Int) : Int :=
 if firstE [votesE vs,judgesE js q] ≠ 0 then firstE [votesE vs,judgesE js q] else if keyB run = false then 5 else if t < 0 ∨ 345686399999 < t then 1 else 0
theorem runE_ok {vs : List VoteE} {js : List JudgeE} {q : QuoE} {run : List UInt8} {t : Int} (h : runE vs js q run t = 0) : votesE vs = 0 ∧ judgesE js q = 0 ∧ keyB run = true ∧ 0 ≤ t ∧ t ≤ 345686399999:=by
 unfold runE at h
 by_cases h1 : firstE [votesE vs,judgesE js q] = 0
 ·rw [if_neg (fun hh => hh h1)] at h
  rw [firstE_two] at h1
  have h2 : votesE vs = 0:=by
   by_cases hh : votesE vs = 0
   ·exact hh
   ·rw [if_neg hh] at h1; exact absurd h1 hh
  rw [if_pos h2] at h1
  by_cases h3 : keyB run = false
  ·rw [if_pos h3] at h; cases h
  rw [if_neg h3] at h
  by_cases h4 : t < 0 ∨ 345686399999 < t
  ·rw [if_pos h4] at h; cases h
  ·exact ⟨h2,h1,by simpa using h3,by omega,by omega⟩
 ·rw [if_pos h1] at h; exact absurd h h1
set_option maxHeartbeats 2000000 in
set_option maxRecDepth 100000 in
theorem runFault_any (lo lo' c c' : Nat) (A B : Option Addr) (vs : List VoteE) (js : List JudgeE) (q : QuoE) (run : List UInt8) (t : Int) (w : World) (hV : VoW w lo lo' A B vs js) :
  Calls Tryz.prog 63 #[.slice A vs.length c,.slice B js.length c',.agg #[.int .i64 q.least,.int .i64 q.num,.int .i64 q.den],.string ⟨run.toArray⟩,.int .i64 t] w fun e w' => e = .returned (.int .i64 (runE vs js q run t)) ∧ Below w.heap.size w w':=by
 have hk1 : Blk (w.alloc (.cells #[.int .i64 q.least,.int .i64 q.num,.int .i64 q.den] 33)) w.heap.size 33 #[.int .i64 q.least,.int .i64 q.num,.int .i64 q.den]:=Blk.new _ _ _
 have hx : Below w.heap.size w (w.alloc (.cells #[.int .i64 q.least,.int .i64 q.num,.int .i64 q.den] 33)):=(Below.refl _ _).alloc (Nat.le_refl _) _
 replace hV:=hV.below hx
 have HRE : Hid (runE vs js q run t = if firstE [votesE vs,judgesE js q] ≠ 0 then firstE [votesE vs,judgesE js q] else if keyB run = false then 5 else if t < 0 ∨ 345686399999 < t then 1 else 0):=Lib.hid rfl
 go_enter Tryz.func63,Tryz.ntmps63
 go_upto_region 1 with (fail)
 generalize w.alloc (.cells #[.int .i64 q.least,.int .i64 q.num,.int .i64 q.den] 33) = w2 at *
 obtain ⟨q0,q1,q2⟩ : _ ∧ _ ∧ _:=⟨hk1.cell 0,hk1.cell 1,hk1.cell 2⟩
 simp only [Q0,Q2,Q1] at q0 q1 q2
 have hlt:=hk1.lt
 go_wp2_with fail
 refine (evFault_any lo lo' c c' A B vs js q _ hV).mono ?_
 rintro e w3 ⟨rfl,hb⟩
 obtain ⟨fe,hfe⟩ : ∃ fe,fe = firstE [votesE vs,judgesE js q]:=⟨_,rfl⟩
 rw [← hfe] at HRE ⊢
 have hb3:=below_up hx hb
 clear hfe hb hk1 q0 q1 q2 hlt hx hV
 by_cases h0 : fe = 0
 ·have d0 : (fe != 0) = false:=by rw [h0]; rfl
  have HR2:=Lib.hid (HRE.out.trans (if_neg (fun hh => hh h0)))
  clear h0 HRE
  go_wp2_with fail
  refine (key_any ⟨run.toArray⟩ _).mono ?_
  rintro e w4 ⟨rfl,rfl⟩
  cases hk : keyB run with
  | false =>
   have HR3:=Lib.hid (HR2.out.trans (if_pos hk))
   simp only [hk]
   go_wp2_with fail
   go_ret
   exact ⟨ret_int' HR3.out.symm,hb3⟩
  | true =>
   have HR3:=Lib.hid (HR2.out.trans (if_neg (by rw [hk]; simp)))
   simp only [hk]
   clear HR2 hk
   go_wp2_with fail
   refine (moment_any t _).mono ?_
   rintro e w5 ⟨rfl,rfl⟩
   by_cases h1 : t < 0 ∨ 345686399999 < t
   ·have HR4:=Lib.hid (HR3.out.trans (if_pos h1))
    rw [decide_eq_true h1]
    clear h1 HR3
    go_wp2_with fail
    go_ret
    exact ⟨ret_int' HR4.out.symm,hb3⟩
   ·have HR4:=Lib.hid (HR3.out.trans (if_neg h1))
    rw [decide_eq_false h1]
    clear h1 HR3
    go_wp2_with fail
    go_ret
    exact ⟨ret_int' HR4.out.symm,hb3⟩
 ·have d0 : (fe != 0) = true:=by simpa using h0
  have HR2:=Lib.hid (HRE.out.trans (if_pos h0))
  clear h0 HRE
  go_wp2_with fail
  go_ret
  exact ⟨ret_int' HR2.out.symm,hb3⟩
theorem res_rul2 (fn : Func) (s u : Nat) (tmps : Array Value) (w : World) (m : Nat) (a : List UInt8) (x y z v : Int) (er : Value) (e : fn.results = #[.cell s 56,.tmp u]) (hx : tmps.getD s undef = .pointer (some ⟨m,0,none⟩)) (hu : tmps.getD u undef = er) (f0 : w.cell? ⟨m,0,none⟩ = some (.string ⟨a.toArray⟩)) (f1 : w.cell? ⟨m,1,none⟩ = some (.int .i64 x)) (f2 : w.cell? ⟨m,2,none⟩ = some (.int .i64 y)) (f3 : w.cell? ⟨m,3,none⟩ = some (.int .i64 z)) (f4 : w.cell? ⟨m,4,none⟩ = some (.int .i64 v)) :
  (results fn tmps).run Tryz.prog w = .ok (.tuple #[.agg #[.string ⟨a.toArray⟩,.int .i64 x,.int .i64 y,.int .i64 z,.int .i64 v],er]) w:=by
 have hx' : tmps[s]?.getD undef = .pointer (some ⟨m,0,none⟩):=by simpa using hx
 have hu' : tmps[u]?.getD undef = er:=by simpa using hu
 simp [results,e,hx',hu',go_sem,f0,f1,f2,f3,f4]
def ruledV (vs : List VoteE) (js : List JudgeE) (q : QuoE) (run : List UInt8) (t : Int) : Value :=
 if runE vs js q run t = 0 then .tuple #[rulV run (ruledF vs js q run t),.int .i64 0] else .tuple #[.agg #[.string ⟨#[]⟩,.int .i64 0,.int .i64 0,.int .i64 0,.int .i64 0],.int .i64 (runE vs js q run t)]
set_option maxHeartbeats 4000000 in
set_option maxRecDepth 100000 in
theorem ruledT_any (lo lo' c c' : Nat) (A B : Option Addr) (vs : List VoteE) (js : List JudgeE) (q : QuoE) (run : List UInt8) (t : Int) (w : World) (hV : VoW w lo lo' A B vs js) :
  Calls Tryz.prog 25 #[.slice A vs.length c,.slice B js.length c',.agg #[.int .i64 q.least,.int .i64 q.num,.int .i64 q.den],.string ⟨run.toArray⟩,.int .i64 t] w fun e w' => e = .returned (ruledV vs js q run t) ∧ Below w.heap.size w w':=by
 have hk0 : Blk ((w.alloc (.cells #[.int .i64 q.least,.int .i64 q.num,.int .i64 q.den] 33)).alloc (.cells rulZ 56)) w.heap.size 33 #[.int .i64 q.least,.int .i64 q.num,.int .i64 q.den]:=(Blk.new _ _ _).alloc _
 have hr0 : Blk ((w.alloc (.cells #[.int .i64 q.least,.int .i64 q.num,.int .i64 q.den] 33)).alloc (.cells rulZ 56)) (w.heap.size + 1) 56 rulZ:=Blk.at1 _ (by simp)
 have hx : Below w.heap.size w ((w.alloc (.cells #[.int .i64 q.least,.int .i64 q.num,.int .i64 q.den] 33)).alloc (.cells rulZ 56)):=(by repeat (first | exact Below.refl _ _ | refine Below.alloc ?_ (by first | omega | (simp; omega) | simp) _ | refine below_drewN' ?_ _ | refine Below.drew ?_))
 replace hV:=hV.below hx
 have HSV:=Lib.hid hV.vs_
 obtain ⟨re,hre⟩ : ∃ re,re = runE vs js q run t:=⟨_,rfl⟩
 have HRE:=Lib.hid hre
 have HR0 : Hid (re = 0 → ruledV vs js q run t = .tuple #[rulV run (ruledF vs js q run t),.int .i64 0]):=Lib.hid (fun h => by unfold ruledV; rw [← hre,if_pos h])
 have HR1 : Hid (re ≠ 0 → ruledV vs js q run t = .tuple #[.agg #[.string ⟨#[]⟩,.int .i64 0,.int .i64 0,.int .i64 0,.int .i64 0],.int .i64 re]):=Lib.hid (fun h => by unfold ruledV; rw [← hre,if_neg h])
 clear hre
 go_enter Tryz.func25,Tryz.ntmps25
 go_upto_region 1 with (fail)
 rw [show (#[.string ⟨#[]⟩,.int .i64 0,.int .i64 0,.int .i64 0,.int .i64 0] : Array Value) = rulZ from rfl]
 generalize ((w.alloc (.cells #[.int .i64 q.least,.int .i64 q.num,.int .i64 q.den] 33)).alloc (.cells rulZ 56)) = w2 at *
 obtain ⟨rb,hrb⟩ : ∃ rb,rb = w.heap.size + 1:=⟨_,rfl⟩
 rw [← hrb] at hr0
 simp only [← hrb]
 have hrl : w.heap.size ≤ rb:=by omega
 clear hrb
 obtain ⟨q0,q1,q2⟩ : _ ∧ _ ∧ _:=⟨hk0.cell 0,hk0.cell 1,hk0.cell 2⟩
 simp only [Q0,Q2,Q1] at q0 q1 q2
 have hlt:=hk0.lt
 go_wp2_with fail
 refine (runFault_any lo lo' c c' A B vs js q run t _ hV).mono ?_
 rintro e w3 ⟨rfl,hb⟩
 rw [← HRE.out]
 replace hV:=hV.below hb
 replace hk0:=hk0.below hb
 replace hr0:=hr0.below hb
 have hb3:=below_up hx hb
 clear hb q0 q1 q2 hlt hx
 obtain ⟨q0,q1,q2⟩ : _ ∧ _ ∧ _:=⟨hk0.cell 0,hk0.cell 1,hk0.cell 2⟩
 simp only [Q0,Q2,Q1] at q0 q1 q2
 have hlt:=hk0.lt
 by_cases h0 : re = 0
 ·have d0 : (re != 0) = false:=by rw [h0]; rfl
  have HV:=Lib.hid (HR0.out h0)
  obtain ⟨g1,g2,g3,-,-⟩:=runE_ok (HRE.out.symm.trans h0)
  obtain ⟨g4,-,-,g5⟩:=judgesE_ok g2
  have g6:=quoE_ok g5
  have g7:=judges_wt g2
  have g8:=votesE_le g1
  have hrc:=ruled_any lo lo' c c' A B vs js q run t w3 hV.v hV.j (by omega) (by omega) (fun v hv => (HSV.out v hv).2) g7 ⟨by omega,by omega⟩ ⟨by omega,by omega⟩
  unfold quoV at hrc
  have HRC:=Lib.hid hrc
  clear h0 HR0 HR1 g1 g2 g3 g4 g5 g6 g7 g8 hrc
  go_wp2_with fail
  refine HRC.out.mono ?_
  rintro e w4 ⟨rfl,hb⟩
  replace hr0:=hr0.below hb
  replace hb3:=below_up hb3 hb
  obtain ⟨R,hR⟩ : ∃ R,R = ruledF vs js q run t:=⟨_,rfl⟩
  rw [← hR] at HV ⊢
  unfold rulV at HV ⊢
  simp only [encStr]
  clear hR hb HRC hk0 q0 q1 q2 hlt hV
  obtain ⟨L,how,since,yes,no⟩:=R
  dsimp only at HV ⊢
  unfold rulZ at hr0
  obtain ⟨r0,r1,r2,r3,r4⟩ : _ ∧ _ ∧ _ ∧ _ ∧ _:=⟨hr0.cell 0,hr0.cell 1,hr0.cell 2,hr0.cell 3,hr0.cell 4⟩
  simp only [Q0,Q2,Q1] at r0 r1 r2 r3 r4
  have zr:=hr0.lt
  have f0:=hr0.thaw 0
  have f1:=hr0.thaw 1
  have f2:=hr0.thaw 2
  have f3:=hr0.thaw 3
  have f4:=hr0.thaw 4
  have hz:=((((hr0.poke 0 (.string ⟨run.toArray⟩)).poke 1 (.int .i64 how)).poke 2 (.int .i64 since)).poke 3 (.int .i64 yes)).poke 4 (.int .i64 no)
  have HB5:=Lib.hid (((((hb3.setCell (p:=⟨rb,0,none⟩) hrl (.string ⟨run.toArray⟩)).setCell (p:=⟨rb,1,none⟩) hrl (.int .i64 how)).setCell (p:=⟨rb,2,none⟩) hrl (.int .i64 since)).setCell (p:=⟨rb,3,none⟩) hrl (.int .i64 yes)).setCell (p:=⟨rb,4,none⟩) hrl (.int .i64 no))
  clear hb3 hr0
  go_wp2_with fail
  refine bodyPost_ret (res_rul2 _ 10 11 _ _ rb run how since yes no _ rfl rfl rfl (hz.cell 0) (hz.cell 1) (hz.cell 2) (hz.cell 3) (hz.cell 4)) rfl ?_
  exact ⟨by rw [HV.out]; rfl,HB5.out⟩
 ·have d0 : (re != 0) = true:=by simpa using h0
  have HV:=Lib.hid (HR1.out h0)
  unfold rulZ at hr0
  obtain ⟨r0,r1,r2,r3,r4⟩ : _ ∧ _ ∧ _ ∧ _ ∧ _:=⟨hr0.cell 0,hr0.cell 1,hr0.cell 2,hr0.cell 3,hr0.cell 4⟩
  simp only [Q0,Q2,Q1] at r0 r1 r2 r3 r4
  have zr:=hr0.lt
  have f0:=hr0.thaw 0
  have f1:=hr0.thaw 1
  have f2:=hr0.thaw 2
  have f3:=hr0.thaw 3
  have f4:=hr0.thaw 4
  have hz:=((((hr0.poke 0 (.string ⟨#[]⟩)).poke 1 (.int .i64 0)).poke 2 (.int .i64 0)).poke 3 (.int .i64 0)).poke 4 (.int .i64 0)
  have HB5:=Lib.hid (((((hb3.setCell (p:=⟨rb,0,none⟩) hrl (.string ⟨#[]⟩)).setCell (p:=⟨rb,1,none⟩) hrl (.int .i64 0)).setCell (p:=⟨rb,2,none⟩) hrl (.int .i64 0)).setCell (p:=⟨rb,3,none⟩) hrl (.int .i64 0)).setCell (p:=⟨rb,4,none⟩) hrl (.int .i64 0))
  clear hb3 hr0 h0 HR0 HR1 hk0 q0 q1 q2 hlt hV
  go_wp2_with fail
  refine bodyPost_ret (res_rul2 _ 10 11 _ _ rb [] 0 0 0 0 _ rfl rfl rfl (hz.cell 0) (hz.cell 1) (hz.cell 2) (hz.cell 3) (hz.cell 4)) rfl ?_
  exact ⟨by rw [HV.out]; rfl,HB5.out⟩
theorem sumK_bd {L : LastE} {k : Nat} (h : LSm L k) (kind : Int) : 0 ≤ sumK L kind L.K ∧ sumK L kind L.K ≤ 1000 * (k : Int):=by
 have h1:=sumF_bd (cK_bd h kind) (fun _ => true) L.K
 rw [sumF_all L kind (fun _ => rfl)] at h1
 have:=h.1
 omega
theorem rulS_bd {vs : List VoteE} {js : List JudgeE} {q : QuoE} {run : List UInt8} {t : Int} (hw : ∀ j ∈ js,0 ≤ j.wt ∧ j.wt ≤ 1000) : ∀ k : Nat,LSm (rulS vs js q run t k).L k ∧ (0 ≤ (rulS vs js q run t k).yes ∧ (rulS vs js q run t k).yes ≤ 1000 * (k : Int)) ∧ (0 ≤ (rulS vs js q run t k).no ∧ (rulS vs js q run t k).no ≤ 1000 * (k : Int))
 | 0 => ⟨⟨by simp [rulS],fun y => by simp [rulS]⟩,by simp [rulS],by simp [rulS]⟩
 | k + 1 => by
  obtain ⟨h1,h2,h3⟩:=rulS_bd (vs:=vs) (q:=q) (run:=run) (t:=t) hw k
  have h4:=h1.last hw (vs.getD k default)
  have h5:=sumK_bd h4 1
  have h6:=sumK_bd h4 2
  cases hr : relB run t (vs.getD k default) with
  | false =>
   rw [rulS_skip hr]
   exact ⟨⟨by have:=h1.1; omega,h1.2⟩,by push_cast; omega,by push_cast; omega⟩
  | true =>
   cases hm : moreB vs run k with
   | true => rw [rulS_more hr hm]; exact ⟨h4,by push_cast; (try dsimp only); omega,by push_cast; (try dsimp only); omega⟩
   | false =>
    rw [rulS_tell hr hm]
    unfold rulTell
    dsimp only
    split
    ·exact ⟨h4,h5,h6⟩
    ·exact ⟨h4,h5,h6⟩
def NeedP (q : QuoE) (yes no : Int) (e : Ending) : Prop :=
 (∃ n : Nat,n ≤ 1000000 ∧ decF q (yes + n) no = 1 ∧ (∀ m : Nat,m < n → decF q (yes + m) no ≠ 1) ∧ e = .returned (.tuple #[.int .i64 n,.bool true,.int .i64 0])) ∨ ((∀ m : Nat,m ≤ 1000000 → decF q (yes + m) no ≠ 1) ∧ e = .returned (.tuple #[.int .i64 0,.bool false,.int .i64 0]))
def NeedsPost (w : World) (vs : List VoteE) (js : List JudgeE) (q : QuoE) (run : List UInt8) (t : Int) (e : Ending) (w' : World) : Prop :=
 (runE vs js q run t ≠ 0 → e = .returned (.tuple #[.int .i64 0,.bool false,.int .i64 (runE vs js q run t)])) ∧ (runE vs js q run t = 0 → NeedP q (ruledF vs js q run t).yes (ruledF vs js q run t).no e) ∧ Below w.heap.size w w'
set_option maxHeartbeats 4000000 in
set_option maxRecDepth 100000 in
theorem needs_any (lo lo' c c' : Nat) (A B : Option Addr) (vs : List VoteE) (js : List JudgeE) (q : QuoE) (run : List UInt8) (t : Int) (w : World) (hV : VoW w lo lo' A B vs js) :
  Calls Tryz.prog 26 #[.slice A vs.length c,.slice B js.length c',.agg #[.int .i64 q.least,.int .i64 q.num,.int .i64 q.den],.string ⟨run.toArray⟩,.int .i64 t] w (NeedsPost w vs js q run t):=by
 have hk0 : Blk (w.alloc (.cells #[.int .i64 q.least,.int .i64 q.num,.int .i64 q.den] 33)) w.heap.size 33 #[.int .i64 q.least,.int .i64 q.num,.int .i64 q.den]:=Blk.new _ _ _
 have hx : Below w.heap.size w (w.alloc (.cells #[.int .i64 q.least,.int .i64 q.num,.int .i64 q.den] 33)):=(Below.refl _ _).alloc (Nat.le_refl _) _
 replace hV:=hV.below hx
 have HSV:=Lib.hid hV.vs_
 obtain ⟨re,hre⟩ : ∃ re,re = runE vs js q run t:=⟨_,rfl⟩
 have HRE:=Lib.hid hre
 have HP0 : Hid (∀ e W',re = 0 → NeedP q (ruledF vs js q run t).yes (ruledF vs js q run t).no e → Below w.heap.size w W' → NeedsPost w vs js q run t e W'):=Lib.hid (fun e W' h h1 h2 => ⟨fun h3 => absurd (hre.symm.trans h) h3,fun _ => h1,h2⟩)
 have HP1 : Hid (∀ W',re ≠ 0 → Below w.heap.size w W' → NeedsPost w vs js q run t (.returned (.tuple #[.int .i64 0,.bool false,.int .i64 re])) W'):=Lib.hid (fun W' h h2 => ⟨fun _ => by rw [hre],fun h3 => absurd (hre.trans h3) h,h2⟩)
 generalize hP : NeedsPost w vs js q run t = Post at *
 clear hre hP
 go_enter Tryz.func26,Tryz.ntmps26
 go_upto_region 1 with (fail)
 generalize w.alloc (.cells #[.int .i64 q.least,.int .i64 q.num,.int .i64 q.den] 33) = w2 at *
 obtain ⟨q0,q1,q2⟩ : _ ∧ _ ∧ _:=⟨hk0.cell 0,hk0.cell 1,hk0.cell 2⟩
 simp only [Q0,Q2,Q1] at q0 q1 q2
 have hlt:=hk0.lt
 go_wp2_with fail
 refine (runFault_any lo lo' c c' A B vs js q run t _ hV).mono ?_
 rintro e w3 ⟨rfl,hb⟩
 rw [← HRE.out]
 replace hV:=hV.below hb
 replace hk0:=hk0.below hb
 have hb3:=below_up hx hb
 clear hb q0 q1 q2 hlt hx
 obtain ⟨q0,q1,q2⟩ : _ ∧ _ ∧ _:=⟨hk0.cell 0,hk0.cell 1,hk0.cell 2⟩
 simp only [Q0,Q2,Q1] at q0 q1 q2
 have hlt:=hk0.lt
 by_cases h0 : re = 0
 ·have d0 : (re != 0) = false:=by rw [h0]; rfl
  have HV:=Lib.hid (fun e W' => HP0.out e W' h0)
  obtain ⟨g1,g2,g3,-,-⟩:=runE_ok (HRE.out.symm.trans h0)
  obtain ⟨g4,-,-,g5⟩:=judgesE_ok g2
  have g6:=quoE_ok g5
  have g7:=judges_wt g2
  have g8:=votesE_le g1
  have hrc:=ruled_any lo lo' c c' A B vs js q run t w3 hV.v hV.j (by omega) (by omega) (fun v hv => (HSV.out v hv).2) g7 ⟨by omega,by omega⟩ ⟨by omega,by omega⟩
  obtain ⟨-,g9,g10⟩:=rulS_bd (vs:=vs) (q:=q) (run:=run) (t:=t) g7 vs.length
  have HQ : Hid ((0 ≤ q.num ∧ q.num ≤ 1000) ∧ 0 ≤ q.den ∧ q.den ≤ 1000):=Lib.hid ⟨⟨by omega,by omega⟩,by omega,by omega⟩
  unfold quoV at hrc
  have HRC:=Lib.hid hrc
  obtain ⟨R,hR⟩ : ∃ R,R = ruledF vs js q run t:=⟨_,rfl⟩
  have hR2 : rulS vs js q run t vs.length = R:=hR.symm
  rw [hR2] at g9 g10
  have hyes : 0 ≤ R.yes ∧ R.yes ≤ 500000:=by omega
  have hno : 0 ≤ R.no ∧ R.no ≤ 500000:=by omega
  rw [← hR] at HV HRC
  clear h0 HP0 HP1 g1 g2 g3 g4 g5 g6 g7 g8 g9 g10 hrc hR hR2 hV
  go_wp2_with fail
  refine HRC.out.mono ?_
  rintro e w4 ⟨rfl,hb⟩
  replace hk0:=hk0.below hb
  replace hb3:=below_up hb3 hb
  unfold rulV
  simp only [encStr]
  clear hb HRC q0 q1 q2 hlt
  obtain ⟨L,how,since,yes,no⟩:=R
  dsimp only at HV hyes hno ⊢
  have hrb : Blk (w4.alloc (.cells #[.string ⟨run.toArray⟩,.int .i64 how,.int .i64 since,.int .i64 yes,.int .i64 no] 56)) w4.heap.size 56 #[.string ⟨run.toArray⟩,.int .i64 how,.int .i64 since,.int .i64 yes,.int .i64 no]:=Blk.new _ _ _
  replace hk0:=hk0.alloc (.cells #[.string ⟨run.toArray⟩,.int .i64 how,.int .i64 since,.int .i64 yes,.int .i64 no] 56)
  replace hb3:=hb3.alloc hb3.size (.cells #[.string ⟨run.toArray⟩,.int .i64 how,.int .i64 since,.int .i64 yes,.int .i64 no] 56)
  go_upto_region 5 with (fail)
  generalize w4.alloc (.cells #[.string ⟨run.toArray⟩,.int .i64 how,.int .i64 since,.int .i64 yes,.int .i64 no] 56) = w5 at *
  generalize w4.heap.size = rb at *
  go_wp2_with fail
  go_loopw [31] (fun i wr => ∃ n : Nat,n ≤ 1000001 ∧ i = .int .i64 n ∧ Hid (∀ m : Nat,m < n → decF q (yes + m) no ≠ 1) ∧ Blk wr w.heap.size 33 #[.int .i64 q.least,.int .i64 q.num,.int .i64 q.den] ∧ Blk wr rb 56 #[.string ⟨run.toArray⟩,.int .i64 how,.int .i64 since,.int .i64 yes,.int .i64 no] ∧ Below w.heap.size w wr) (fun i _ => 1000001 - (intOf i).toNat)
  case atStart => exact ⟨0,Nat.zero_le _,rfl,Lib.hid (fun m hm => by omega),hk0,hrb,hb3⟩
  case round =>
   clear hk0 hrb hb3
   obtain ⟨n,hn,rfl,HM,hk0,hrb,hb3⟩:=hrel
   by_cases hlt : n < 1000001
   ·have hlt2 : (n : Int) < 1000001:=by omega
    obtain ⟨q0,q1,q2⟩ : _ ∧ _ ∧ _:=⟨hk0.cell 0,hk0.cell 1,hk0.cell 2⟩
    obtain ⟨r3,r4⟩ : _ ∧ _:=⟨hrb.cell 3,hrb.cell 4⟩
    simp only [Q0,Q2,Q1] at q0 q1 q2 r3 r4
    have zq:=hk0.lt
    have zr:=hrb.lt
    have wy : IntKind.i64.wrap (yes + (n : Int)) = yes + (n : Int):=IntWalk.i64_in _ ⟨by omega,by omega⟩
    have hqq:=HQ.out
    have hdc:=decided_any q (yes + n) no wr hqq.1 hqq.2 (by omega) (by omega)
    unfold quoV at hdc
    clear hqq
    have HDC:=Lib.hid hdc
    clear hdc
    go_wp2_with fail
    refine HDC.out.mono ?_
    clear HDC
    rintro e w7 ⟨rfl,hb7⟩
    replace hk0:=hk0.below hb7
    replace hrb:=hrb.below hb7
    replace hb3:=below_up hb3 hb7
    clear hb7 q0 q1 q2 r3 r4 zq zr wy
    obtain ⟨D,hD⟩ : ∃ D,D = decF q (yes + n) no:=⟨_,rfl⟩
    rw [← hD]
    have HD:=Lib.hid hD
    clear hD
    by_cases h1 : D = 1
    ·have d1 : (D == 1) = true:=by simpa using h1
     have HN:=Lib.hid (HV.out _ w7 (Or.inl ⟨n,by omega,by rw [← HD.out]; exact h1,HM.out,rfl⟩) hb3)
     clear h1
     go_wp2_with fail
     exact HN.out
    ·have d1 : (D == 1) = false:=by simpa using h1
     have HM2 : Hid (∀ m : Nat,m < n + 1 → decF q (yes + m) no ≠ 1):=Lib.hid (fun m hm => by
      by_cases hmn : m < n
      ·exact HM.out m hmn
      ·obtain rfl : m = n:=by omega
       rw [← HD.out]; exact h1)
     clear h1
     go_wp2_with fail
     go_roundw
     case rel => exact ⟨n + 1,by omega,by go_num,HM2,hk0,hrb,hb3⟩
     case measure => simp [intOf]; omega
   ·have hnn : n = 1000001:=by omega
    have HN:=Lib.hid (HV.out _ wr (Or.inr ⟨fun m hm => HM.out m (by omega),rfl⟩) hb3)
    subst hnn
    go_wp2_with fail
    exact HN.out
 ·have d0 : (re != 0) = true:=by simpa using h0
  have HN:=Lib.hid (HP1.out w3 h0 hb3)
  clear h0 HP0 HP1 hV hk0 hb3
  go_wp2_with fail
  exact HN.out
end Go.Proofs.YtgeaeockmadhcaaGreatDoor
/- A vote of one more judge: what is decided, in plain Lean. -/
namespace Go.Proofs.YtgeaeockmadhcaaGreatDoor
set_option linter.unusedVariables false
set_option linter.unusedSimpArgs false

def r1W : List UInt8:=[114,49]
def L00 : LastE:=⟨[],fun _ => (0,0)⟩
theorem rulTell_L (q : QuoE) (t : Int) (R : RulE) : (rulTell q t R).L = R.L:=by
 unfold rulTell; split <;> rfl
structure Told (q : QuoE) (R : RulE) : Prop where
  yes : R.yes = sumK R.L 1 R.L.K
  no : R.no = sumK R.L 2 R.L.K
  how : R.how = decF q R.yes R.no
theorem rulTell_told (q : QuoE) (t : Int) (R : RulE) : Told q (rulTell q t R):=by
 unfold rulTell
 split
 ·rename_i h; exact ⟨rfl,rfl,h.symm⟩
 ·exact ⟨rfl,rfl,rfl⟩
theorem told_0 {q : QuoE} (hq : 1 ≤ q.least) {vs : List VoteE} {js : List JudgeE} {run : List UInt8} {t : Int} : Told q (rulS vs js q run t 0):=by
 refine ⟨by simp [rulS,sumK],by simp [rulS,sumK],?_⟩
 show (0 : Int) = decF q 0 0
 unfold decF
 rw [if_pos (by omega)]
theorem rulS_succ (vs : List VoteE) (js : List JudgeE) (q : QuoE) (run : List UInt8) (t : Int) (i : Nat) : rulS vs js q run t (i + 1) = if relB run t (vs.getD i default) then
      if moreB vs run i then ⟨lastU js (rulS vs js q run t i).L (vs.getD i default), (rulS vs js q run t i).how, (rulS vs js q run t i).since, (rulS vs js q run t i).yes, (rulS vs js q run t i).no⟩
      else rulTell q (vs.getD i default).at_ ⟨lastU js (rulS vs js q run t i).L (vs.getD i default), (rulS vs js q run t i).how, (rulS vs js q run t i).since, (rulS vs js q run t i).yes, (rulS vs js q run t i).no⟩
    else rulS vs js q run t i := rfl
theorem rulS_L (vs : List VoteE) (js : List JudgeE) (q : QuoE) (run : List UInt8) (t : Int) : ∀ i,i ≤ vs.length → (rulS vs js q run t i).L = ((vs.take i).filter (relB run t)).foldl (lastU js) L00
 | 0,_ => by simp [rulS,L00]
 | i + 1,h => by
  have ih:=rulS_L vs js q run t i (by omega)
  have hi : i < vs.length:=by omega
  have e : vs.take (i + 1) = vs.take i ++ [vs.getD i default]:=by
   rw [List.take_add_one,List.getElem?_eq_getElem hi,getDV hi]; rfl
  rw [e,List.filter_append,List.foldl_append,← ih,rulS_succ]
  by_cases h1 : relB run t (vs.getD i default) = true
  ·rw [if_pos h1,List.filter_cons_of_pos h1]
   by_cases h2 : moreB vs run i = true
   ·rw [if_pos h2]; rfl
   ·rw [if_neg h2,rulTell_L]; rfl
  ·rw [if_neg h1,List.filter_cons_of_neg h1]; rfl
theorem rulS_told {vs : List VoteE} {js : List JudgeE} {q : QuoE} {run : List UInt8} {t : Int} (hq : 1 ≤ q.least) : ∀ i,i ≤ vs.length → (∀ j,i = j + 1 → ¬ (relB run t (vs.getD j default) = true ∧ moreB vs run j = true)) → Told q (rulS vs js q run t i)
 | 0,_,_ => told_0 hq
 | i + 1,h,h0 => by
  have h9:=h0 i rfl
  have ih:=rulS_told (vs:=vs) (js:=js) (t:=t) (run:=run) hq i (by omega)
  rw [rulS_succ]
  by_cases h1 : relB run t (vs.getD i default) = true
  ·rw [if_pos h1,if_neg (fun h2 => h9 ⟨h1,h2⟩)]
   exact rulTell_told _ _ _
  ·rw [if_neg h1]
   refine ih (fun j hj => ?_)
   subst hj
   rintro ⟨h2,h3⟩
   apply h1
   unfold moreB at h3
   unfold relB at h2 ⊢
   simp only [Bool.and_eq_true,decide_eq_true_eq] at h2 h3 ⊢
   exact ⟨h3.1.2,by rw [h3.2]; exact h2.2⟩
theorem ruledF_told {vs : List VoteE} {js : List JudgeE} {q : QuoE} {run : List UInt8} {t : Int} (hq : 1 ≤ q.least) : Told q (ruledF vs js q run t) :=
 rulS_told hq _ (Nat.le_refl _) (fun j hj => by
  rintro ⟨-,h3⟩
  unfold moreB at h3
  simp only [Bool.and_eq_true,decide_eq_true_eq] at h3
  omega)
theorem ruledF_L (vs : List VoteE) (js : List JudgeE) (q : QuoE) (run : List UInt8) (t : Int) : (ruledF vs js q run t).L = (vs.filter (relB run t)).foldl (lastU js) L00:=by
 unfold ruledF
 rw [rulS_L _ _ _ _ _ _ (Nat.le_refl _),List.take_length]
theorem fold_K {js : List JudgeE} : ∀ (l : List VoteE) (L : LastE) (x : List UInt8),x ∈ (l.foldl (lastU js) L).K → x ∈ L.K ∨ ∃ v ∈ l,v.who = x
 | [],_,_,h => .inl h
 | v :: l,L,x,h => by
  rw [List.foldl_cons] at h
  rcases fold_K l _ x h with h1 | ⟨u,hu,e⟩
  ·unfold lastU lastPut at h1
   split at h1
   ·simp only at h1
    split at h1
    ·exact .inl h1
    ·rcases List.mem_append.1 h1 with h2 | h2
     ·exact .inl h2
     ·simp at h2; exact .inr ⟨v,by simp,h2.symm⟩
   ·exact .inl h1
  ·exact .inr ⟨u,by simp [hu],e⟩
theorem voteAt_0 {vs : List VoteE} {k : Nat} (hk : k < vs.length) (h : voteAt vs k = 0) : (keyB vs[k].run = true ∧ keyB vs[k].who = true) ∧ (0 ≤ vs[k].at_ ∧ vs[k].at_ ≤ 345686399999) ∧ (1 ≤ vs[k].kind ∧ vs[k].kind ≤ 3) ∧ (0 < k → ltV (vs.getD (k - 1) default) vs[k]):=by
 unfold voteAt at h
 rw [getDV hk] at h
 split at h
 ·cases h
 ·rename_i h1
  split at h
  ·cases h
  ·rename_i h2
   split at h
   ·cases h
   ·rename_i h3
    split at h
    ·cases h
    ·rename_i h4
     refine ⟨?_,by omega,by omega,fun h5 => Classical.byContradiction fun h6 => h4 ⟨h5,h6⟩⟩
     simp only [Bool.or_eq_true,Bool.not_eq_true',not_or,Bool.not_eq_false] at h1
     exact h1
structure VOk (v : VoteE) : Prop where
  run : keyB v.run = true
  who : keyB v.who = true
  lo : 0 ≤ v.at_
  hi : v.at_ ≤ 345686399999
  k1 : 1 ≤ v.kind
  k3 : v.kind ≤ 3
theorem pair_of_step {α : Type} {lt : α → α → Prop} (tr : ∀ x y z,lt x y → lt y z → lt x z) : ∀ (l : List α),(∀ k (a b : α),l[k]? = some a → l[k + 1]? = some b → lt a b) → l.Pairwise lt
 | [],_ => List.Pairwise.nil
 | [x],_ => by simp
 | x :: y :: l,h => by
  have ih:=pair_of_step tr (y :: l) (fun k a b ha hb => h (k + 1) a b ha hb)
  have h0 : lt x y:=h 0 x y rfl rfl
  refine List.Pairwise.cons (fun z hz => ?_) ih
  rcases List.mem_cons.1 hz with e | hz'
  ·rw [e]; exact h0
  ·exact tr _ _ _ h0 ((List.pairwise_cons.1 ih).1 z hz')
theorem votesE_iff (vs : List VoteE) : votesE vs = 0 ↔ vs.length ≤ 500 ∧ (∀ v ∈ vs,VOk v) ∧ vs.Pairwise ltV:=by
 constructor
 ·intro h
  have hl:=votesE_le h
  unfold votesE at h
  rw [if_neg (by omega)] at h
  have h0:=scanF_0 h
  refine ⟨hl,fun v hv => ?_,pair_of_step (lt:=ltV) (fun _ _ _ => ltV_trans) _ (fun k a b ha hb => ?_)⟩
  ·obtain ⟨k,hk,rfl⟩:=List.mem_iff_getElem.1 hv
   obtain ⟨⟨a,b⟩,⟨c,d⟩,⟨e,f⟩,-⟩:=voteAt_0 hk (h0 k hk)
   exact ⟨a,b,c,d,e,f⟩
  ·obtain ⟨hk,rfl⟩:=List.getElem?_eq_some_iff.1 hb
   obtain ⟨hk2,rfl⟩:=List.getElem?_eq_some_iff.1 ha
   have:=(voteAt_0 hk (h0 _ hk)).2.2.2 (by omega)
   rw [show k + 1 - 1 = k by omega,getDV (by omega)] at this
   exact this
 ·rintro ⟨hl,h1,h2⟩
  refine votesE_none (by omega) (fun k hk => ?_)
  have h3:=h1 vs[k] (List.getElem_mem hk)
  unfold voteAt
  rw [getDV hk,if_neg (by rw [h3.run,h3.who]; simp),if_neg (by have:=h3.lo; have:=h3.hi; omega),if_neg (by have:=h3.k1; have:=h3.k3; omega),if_neg]
  rintro ⟨h4,h5⟩
  apply h5
  rw [getDV (by omega)]
  exact List.pairwise_iff_getElem.1 h2 (k - 1) k (by omega) hk (by omega)
end Go.Proofs.YtgeaeockmadhcaaGreatDoor
/- What is decided of a run, in plain Lean: moment by moment; votes that weigh nothing change nothing. -/
namespace Go.Proofs.YtgeaeockmadhcaaGreatDoor
set_option linter.unusedVariables false
set_option linter.unusedSimpArgs false

structure MomE where
  B : RulE
  L : LastE
  t : Int
def setL (R : RulE) (L : LastE) : RulE:=⟨L,R.how,R.since,R.yes,R.no⟩
def commit (q : QuoE) (S : MomE) : RulE:=rulTell q S.t (setL S.B S.L)
def momS (js : List JudgeE) (q : QuoE) (S : MomE) (v : VoteE) : MomE :=
 if v.at_ = S.t then ⟨S.B,lastU js S.L v,S.t⟩ else ⟨commit q S,lastU js S.L v,v.at_⟩
def R00 : RulE:=⟨L00,0,0,0,0⟩
def mom0 : MomE:=⟨R00,L00,-1⟩
theorem commit_L (q : QuoE) (S : MomE) : (commit q S).L = S.L:=by unfold commit; rw [rulTell_L]; rfl
theorem commit_told (q : QuoE) (S : MomE) : Told q (commit q S):=rulTell_told _ _ _
theorem tell_told {q : QuoE} {R : RulE} (h : Told q R) (t : Int) : rulTell q t R = R:=by
 unfold rulTell
 rw [if_pos (by rw [h.how,h.yes,h.no]),← h.yes,← h.no]
theorem setL_self (R : RulE) : setL R R.L = R:=rfl
theorem commit_again (q : QuoE) (S : MomE) (t : Int) : commit q ⟨commit q S,S.L,t⟩ = commit q S:=by
 have h:=commit_L q S
 show rulTell q t (setL (commit q S) S.L) = commit q S
 rw [← h,setL_self]
 exact tell_told (commit_told q S) t
theorem commit_0 {q : QuoE} (hq : 1 ≤ q.least) : commit q mom0 = R00:=by
 have : Told q R00:=told_0 (vs:=[]) (js:=[]) (run:=[]) (t:=0) hq
 exact tell_told this _
def noW (js : List JudgeE) (v : VoteE) : Prop:=weightF js v.who v.at_ ≤ 0
theorem lastU_no {js : List JudgeE} {v : VoteE} (h : noW js v) (L : LastE) : lastU js L v = L:=by
 unfold lastU; unfold noW at h; rw [if_neg (by omega)]
def RelM (q : QuoE) (F G : MomE) : Prop:=F = G ∨ (F.B = commit q G ∧ F.L = G.L ∧ G.t < F.t)
theorem RelM.done {q : QuoE} {F G : MomE} (h : RelM q F G) : commit q F = commit q G:=by
 rcases h with h | ⟨h1,h2,h3⟩
 ·rw [h]
 ·cases F with
  | mk B L t =>
   simp only at h1 h2
   subst h1 h2
   exact commit_again q G t
theorem RelM.no {q : QuoE} {js : List JudgeE} {F G : MomE} {v : VoteE} (h : RelM q F G) (hv : noW js v) (ht : F.t ≤ v.at_) : RelM q (momS js q F v) G:=by
 unfold momS
 rw [lastU_no hv]
 by_cases he : v.at_ = F.t
 ·rw [if_pos he]; exact h
 ·rw [if_neg he]
  refine .inr ⟨h.done,?_,?_⟩
  ·rcases h with h | h
   ·rw [h]
   ·exact h.2.1
  ·rcases h with h | h
   ·show G.t < v.at_
    rw [← h]; omega
   ·have:=h.2.2; show G.t < v.at_; omega
theorem RelM.yes {q : QuoE} {js : List JudgeE} {F G : MomE} {v : VoteE} (h : RelM q F G) (ht : F.t ≤ v.at_) : RelM q (momS js q F v) (momS js q G v):=by
 rcases h with h | ⟨h1,h2,h3⟩
 ·rw [h]; exact .inl rfl
 ·refine .inl ?_
  unfold momS
  rw [if_neg (show ¬ v.at_ = G.t by omega)]
  by_cases he : v.at_ = F.t
  ·rw [if_pos he,h1,h2,he]
  ·rw [if_neg he,h2]
   have:=RelM.done (q:=q) (.inr ⟨h1,h2,h3⟩ : RelM q F G)
   rw [this]
theorem mom_t (js : List JudgeE) (q : QuoE) (S : MomE) (v : VoteE) : (momS js q S v).t = v.at_:=by
 unfold momS
 split
 ·rename_i h; exact h.symm
 ·rfl
def OfM (q : QuoE) (pend : Bool) (R : RulE) (S : MomE) : Prop:=R = if pend then setL S.B S.L else commit q S
def pendB (vs : List VoteE) (run : List UInt8) (t : Int) : Nat → Bool
 | 0 => false
 | i + 1 => relB run t (vs.getD i default) && moreB vs run i
theorem ltV_at {x y : VoteE} (h : ltV x y) (hr : x.run = y.run) : x.at_ ≤ y.at_:=by
 unfold ltV at h
 rcases h with h | ⟨-,h | ⟨h,-⟩⟩
 ·rw [hr] at h; exact absurd h (ltS_irr _)
 ·omega
 ·omega
theorem ltV_squeeze {x y z : VoteE} (h1 : ltV x y) (h2 : ltV y z) (hr : x.run = z.run) (ha : x.at_ = z.at_) : y.run = x.run ∧ y.at_ = x.at_:=by
 have e : x.run = y.run:=by
  unfold ltV at h1 h2
  rcases h1 with h1 | ⟨h1,-⟩
  ·rcases h2 with h2 | ⟨h2,-⟩
   ·have:=ltS_trans h1 h2; rw [hr] at this; exact absurd this (ltS_irr _)
   ·rw [h2,← hr] at h1; exact absurd h1 (ltS_irr _)
  ·exact h1
 have a1:=ltV_at h1 e
 have a2:=ltV_at h2 (e.symm.trans hr)
 exact ⟨e.symm,by omega⟩
theorem momS_of {q : QuoE} {js : List JudgeE} {S : MomE} {v : VoteE} {R : RulE} (b : Bool) (hO : OfM q b R S) (h1 : b = true → S.t = v.at_) (h2 : b = false → S.t < v.at_) : ∃ B,momS js q S v = ⟨B,lastU js R.L v,v.at_⟩ ∧ ∀ X,setL R X = setL B X:=by
 unfold OfM at hO
 cases b with
 | true =>
  rw [if_pos rfl] at hO
  refine ⟨S.B,?_,fun X => by rw [hO]; rfl⟩
  unfold momS
  rw [if_pos (h1 rfl).symm,hO,h1 rfl]
  rfl
 | false =>
  rw [if_neg (by simp)] at hO
  refine ⟨commit q S,?_,fun X => by rw [hO]⟩
  unfold momS
  have:=h2 rfl
  rw [if_neg (by omega),hO,commit_L]
theorem rulS_mom {vs : List VoteE} {js : List JudgeE} {q : QuoE} {run : List UInt8} {t : Int} (hq : 1 ≤ q.least) (hv : vs.Pairwise ltV) (hp : ∀ v ∈ vs,0 ≤ v.at_) : ∀ i,i ≤ vs.length →
  OfM q (pendB vs run t i) (rulS vs js q run t i) (((vs.take i).filter (relB run t)).foldl (momS js q) mom0) ∧ (pendB vs run t i = true → ∃ j,i = j + 1 ∧ (((vs.take i).filter (relB run t)).foldl (momS js q) mom0).t = (vs.getD j default).at_) ∧ (pendB vs run t i = false → ∀ k (h : k < vs.length),i ≤ k → relB run t vs[k] = true → (((vs.take i).filter (relB run t)).foldl (momS js q) mom0).t < vs[k].at_)
 | 0,_ => by
  refine ⟨?_,fun h => by simp [pendB] at h,fun _ k h _ _ => ?_⟩
  ·show R00 = commit q mom0
   rw [commit_0 hq]
  ·show (-1 : Int) < _
   have:=hp _ (List.getElem_mem h)
   omega
 | i + 1,h => by
  have hi : i < vs.length:=by omega
  obtain ⟨ih1,ih2,ih3⟩:=rulS_mom (js:=js) (run:=run) (t:=t) hq hv hp i (by omega)
  have e : vs.take (i + 1) = vs.take i ++ [vs[i]]:=by
   rw [List.take_add_one,List.getElem?_eq_getElem hi]; rfl
  rw [e,List.filter_append,List.foldl_append,rulS_succ,getDV hi]
  generalize ((vs.take i).filter (relB run t)).foldl (momS js q) mom0 = S at *
  generalize rulS vs js q run t i = R at *
  -- where all before is pending,this vote counts,at the same moment
  have hpn : pendB vs run t i = true → relB run t vs[i] = true ∧ S.t = vs[i].at_:=fun hb => by
   obtain ⟨j,hj,hS⟩:=ih2 hb
   subst hj
   rw [show pendB vs run t (j + 1) = (relB run t (vs.getD j default) && moreB vs run j) from rfl] at hb
   unfold moreB relB at hb
   unfold relB
   rw [getDV hi] at hb
   simp only [Bool.and_eq_true,decide_eq_true_eq] at hb ⊢
   obtain ⟨⟨-,h2⟩,⟨-,h4⟩,h5⟩:=hb
   exact ⟨⟨h4,by omega⟩,by omega⟩
  by_cases hr : relB run t vs[i] = true
  ·obtain ⟨B,hB,hX⟩:=momS_of (js:=js) (v:=vs[i]) _ ih1 (fun hb => (hpn hb).2) (fun hb => ih3 hb i hi (Nat.le_refl _) hr)
   rw [if_pos hr,List.filter_cons_of_pos hr,List.filter_nil,List.foldl_cons,List.foldl_nil,hB]
   have hpe : pendB vs run t (i + 1) = moreB vs run i:=by
    show (relB run t (vs.getD i default) && moreB vs run i) = _
    rw [getDV hi,hr,Bool.true_and]
   rw [hpe]
   refine ⟨?_,fun _ => ⟨i,rfl,by rw [getDV hi]⟩,fun hm k hk hik hrk => ?_⟩
   ·unfold OfM
    by_cases hm : moreB vs run i = true
    ·rw [if_pos hm,if_pos hm]; exact hX _
    ·rw [if_neg hm,if_neg hm]
     show rulTell q _ (setL R _) = rulTell q _ (setL B _)
     rw [hX]
   ·show vs[i].at_ < vs[k].at_
    have hrr : vs[i].run = vs[k].run:=by
     unfold relB at hr hrk
     simp only [Bool.and_eq_true,decide_eq_true_eq] at hr hrk
     rw [hr.1,hrk.1]
    have hlt:=List.pairwise_iff_getElem.1 hv i k hi hk (by omega)
    have hle:=ltV_at hlt hrr
    refine Classical.byContradiction fun hn => ?_
    have hae : vs[i].at_ = vs[k].at_:=by omega
    have hi1 : i + 1 < vs.length:=by omega
    have hrun : vs[i].run = run:=by
     unfold relB at hr
     simp only [Bool.and_eq_true,decide_eq_true_eq] at hr
     exact hr.1
    have hsq : vs[i + 1].run = vs[i].run ∧ vs[i + 1].at_ = vs[i].at_:=by
     rcases Nat.lt_or_ge (i + 1) k with h7 | h7
     ·exact ltV_squeeze (List.pairwise_iff_getElem.1 hv i (i + 1) hi hi1 (by omega)) (List.pairwise_iff_getElem.1 hv (i + 1) k hi1 hk h7) hrr hae
     ·have : k = i + 1:=by omega
      subst this
      exact ⟨hrr.symm,hae.symm⟩
    have hmm : moreB vs run i = true:=by
     unfold moreB
     rw [getDV hi1,getDV hi]
     simp only [Bool.and_eq_true,decide_eq_true_eq]
     exact ⟨⟨hi1,by rw [hsq.1,hrun]⟩,hsq.2⟩
    rw [hmm] at hm; cases hm
  ·have hpe : pendB vs run t (i + 1) = false:=by
    show (relB run t (vs.getD i default) && moreB vs run i) = _
    rw [getDV hi]
    have : relB run t vs[i] = false:=by simpa using hr
    rw [this,Bool.false_and]
   have hb : pendB vs run t i = false:=by
    cases hb : pendB vs run t i with
    | false => rfl
    | true => exact absurd (hpn hb).1 hr
   rw [if_neg hr,List.filter_cons_of_neg hr,List.filter_nil,List.foldl_nil,hpe]
   rw [hb] at ih1
   refine ⟨ih1,?_,fun _ k hk hik hrk => ih3 hb k hk (by omega) hrk⟩
   intro hh
   exact absurd hh (by simp)
theorem ruledF_mom {vs : List VoteE} {js : List JudgeE} {q : QuoE} {run : List UInt8} {t : Int} (hq : 1 ≤ q.least) (hv : vs.Pairwise ltV) (hp : ∀ v ∈ vs,0 ≤ v.at_) : ruledF vs js q run t = commit q ((vs.filter (relB run t)).foldl (momS js q) mom0):=by
 have h:=(rulS_mom (js:=js) (run:=run) (t:=t) hq hv hp vs.length (Nat.le_refl _)).1
 have hpe : pendB vs run t vs.length = false:=by
  cases hl : vs.length with
  | zero => rfl
  | succ n =>
   show (relB run t (vs.getD n default) && moreB vs run n) = false
   unfold moreB
   have : decide (n + 1 < vs.length) = false:=by simp; omega
   rw [this]; simp
 rw [hpe,List.take_length] at h
 exact h
end Go.Proofs.YtgeaeockmadhcaaGreatDoor
/- Sums over names: names that add nothing may stand besides. -/
namespace Go.Proofs.YtgeaeockmadhcaaGreatDoor
set_option linter.unusedVariables false
set_option linter.unusedSimpArgs false

theorem perm_sumI {l1 l2 : List Int} (h : l1.Perm l2) : l1.sum = l2.sum:=by
 induction h with
 | nil => rfl
 | cons x _ ih => rw [List.sum_cons,List.sum_cons,ih]
 | swap x y l => simp only [List.sum_cons]; omega
 | trans _ _ h1 h2 => rw [h1,h2]
theorem sum_besides {β : Type} [DecidableEq β] (f : β → Int) : ∀ (W K : List β),W.Nodup → K.Nodup → (∀ x ∈ K,x ∈ W) → (∀ x ∈ W,x ∉ K → f x = 0) → (W.map f).sum = (K.map f).sum
 | [],K,_,_,h,_ => by
  cases K with
  | nil => rfl
  | cons x K => have:=h x (by simp); simp at this
 | x :: W,K,hW,hK,h1,h2 => by
  have hW2:=List.nodup_cons.1 hW
  by_cases hx : x ∈ K
  ·have hp : K.Perm (x :: K.erase x):=List.perm_cons_erase hx
   have hKe : (K.erase x).Nodup:=hK.erase x
   have ih:=sum_besides f W (K.erase x) hW2.2 hKe (fun y hy => by
    have hyK:=List.mem_of_mem_erase hy
    rcases List.mem_cons.1 (h1 y hyK) with e | hy2
    ·have:=(hp.nodup_iff.1 hK)
     rw [e] at hy
     exact absurd hy (List.nodup_cons.1 this).1
    ·exact hy2) (fun y hy hn => by
    refine h2 y (by simp [hy]) (fun hyK => hn ?_)
    have hne : y ≠ x:=fun e => hW2.1 (e ▸ hy)
    rcases List.mem_cons.1 (hp.mem_iff.1 hyK) with e | h
    ·exact absurd e hne
    ·exact h)
   rw [perm_sumI (hp.map f),List.map_cons,List.map_cons,List.sum_cons,List.sum_cons,ih]
  ·have ih:=sum_besides f W K hW2.2 hK (fun y hy => by
    rcases List.mem_cons.1 (h1 y hy) with e | h
    ·rw [e] at hy; exact absurd hy hx
    ·exact h) (fun y hy hn => h2 y (by simp [hy]) hn)
   rw [List.map_cons,List.sum_cons,h2 x (by simp) hx,ih,Int.zero_add]
end Go.Proofs.YtgeaeockmadhcaaGreatDoor
/- The reference's count (R.RuledOf: with every vote the sums anew) and the program's count, in plain Lean. -/
namespace Go.Proofs.YtgeaeockmadhcaaGreatDoor
set_option linter.unusedVariables false
set_option linter.unusedSimpArgs false

def upTo (js : List JudgeE) (F : List VoteE) (T : Int) : LastE:=(F.filter fun v => decide (v.at_ ≤ T)).foldl (lastU js) L00
def decL (q : QuoE) (L : LastE) : Int:=decF q (sumK L 1 L.K) (sumK L 2 L.K)
def refS (js : List JudgeE) (q : QuoE) (F : List VoteE) (hs : Int × Int) (v : VoteE) : Int × Int:=if decL q (upTo js F v.at_) ≠ hs.1 then (decL q (upTo js F v.at_),v.at_) else hs
def hsOf (R : RulE) : Int × Int:=(R.how,R.since)
theorem tell_hs (q : QuoE) (t : Int) (R : RulE) : hsOf (rulTell q t R) = if decL q R.L ≠ R.how then (decL q R.L,t) else (R.how,R.since):=by
 unfold rulTell decL hsOf
 by_cases h : decF q (sumK R.L 1 R.L.K) (sumK R.L 2 R.L.K) = R.how
 ·rw [if_pos h,if_neg (fun hh => hh h)]
 ·rw [if_neg h,if_pos h]
theorem mom_L (js : List JudgeE) (q : QuoE) : ∀ (P : List VoteE) (S : MomE),(P.foldl (momS js q) S).L = P.foldl (lastU js) S.L
 | [],_ => rfl
 | v :: P,S => by
  rw [List.foldl_cons,List.foldl_cons,mom_L js q P]
  congr 1
  unfold momS
  split <;> rfl
theorem ref_mom {js : List JudgeE} {q : QuoE} (hq : 1 ≤ q.least) (F : List VoteE) : ∀ (rest P : List VoteE) (S : MomE),F = P ++ rest → F.Pairwise (fun x y => x.at_ ≤ y.at_) → S = P.foldl (momS js q) mom0 → (∀ v ∈ P,v.at_ ≤ S.t) → (∀ v ∈ rest,S.t ≤ v.at_) → ∀ hs : Int × Int,(hs = hsOf (rulTell q S.t (setL S.B (upTo js F S.t)))) → rest.foldl (refS js q F) hs = hsOf (commit q (rest.foldl (momS js q) S))
 | [],P,S,hF,_,hS,hP,_,hs,he => by
  have hL : upTo js F S.t = S.L:=by
   unfold upTo
   rw [hF,List.append_nil,List.filter_eq_self.2 (fun v hv => by simpa using hP v hv),hS,mom_L]; rfl
  rw [List.foldl_nil,List.foldl_nil,he,hL]; rfl
 | v :: rest,P,S,hF,hs,hS,hP,hR,ps,he => by
  rw [List.foldl_cons,List.foldl_cons]
  have htv:=hR v (by simp)
  have hs2 : (v :: rest).Pairwise (fun x y => x.at_ ≤ y.at_):=by rw [hF] at hs; exact (List.pairwise_append.1 hs).2.1
  have hs3:=List.pairwise_cons.1 hs2
  refine ref_mom hq F rest (P ++ [v]) (momS js q S v) (by rw [hF]; simp) hs (by rw [List.foldl_append,← hS]; rfl) (fun x hx => ?_) (fun x hx => ?_) _ ?_
  ·rw [mom_t]
   rcases List.mem_append.1 hx with h | h
   ·have:=hP x h; omega
   ·simp at h; rw [h]; exact Int.le_refl _
  ·rw [mom_t]; exact hs3.1 x hx
  ·by_cases hv : v.at_ = S.t
   ·unfold momS
    rw [if_pos hv]
    show refS js q F ps v = hsOf (rulTell q S.t (setL S.B (upTo js F S.t)))
    unfold refS
    rw [he,hv]
    rw [if_neg]
    intro hn
    apply hn
    show decL q (upTo js F S.t) = (rulTell q S.t (setL S.B (upTo js F S.t))).how
    have h1:=rulTell_told q S.t (setL S.B (upTo js F S.t))
    have h2:=rulTell_L q S.t (setL S.B (upTo js F S.t))
    rw [h1.how,h1.yes,h1.no,h2]
    rfl
   ·unfold momS
    rw [if_neg hv]
    show refS js q F ps v = hsOf (rulTell q v.at_ (setL (commit q S) (upTo js F v.at_)))
    have hL : upTo js F S.t = S.L:=by
     unfold upTo
     rw [hF,List.filter_append,List.filter_eq_self.2 (fun x hx => by simpa using hP x hx)]
     have : (v :: rest).filter (fun x => decide (x.at_ ≤ S.t)) = []:=by
      rw [List.filter_eq_nil_iff]
      intro x hx
      rcases List.mem_cons.1 hx with e | hx
      ·rw [e]; simp; omega
      ·have:=hs3.1 x hx; simp; omega
     rw [this,List.append_nil,hS,mom_L]; rfl
    rw [hL] at he
    have he2 : ps = hsOf (commit q S):=he
    rw [tell_hs]
    unfold refS
    rw [he2]
    rfl
theorem ref_is {vs : List VoteE} {js : List JudgeE} {q : QuoE} {run : List UInt8} {t : Int} (hq : 1 ≤ q.least) (hv : vs.Pairwise ltV) (hp : ∀ v ∈ vs,0 ≤ v.at_) :
  (vs.filter (relB run t)).foldl (refS js q (vs.filter (relB run t))) (0,0) = ((ruledF vs js q run t).how,(ruledF vs js q run t).since):=by
 have h1 : (vs.filter (relB run t)).Pairwise ltV:=hv.filter _
 have h2 : (vs.filter (relB run t)).Pairwise (fun x y => x.at_ ≤ y.at_):=by
  rw [List.pairwise_iff_getElem] at h1 ⊢
  intro a b ha hb hab
  refine ltV_at (h1 a b ha hb hab) ?_
  have ra:=(List.mem_filter.1 (List.getElem_mem ha)).2
  have rb:=(List.mem_filter.1 (List.getElem_mem hb)).2
  unfold relB at ra rb
  simp only [Bool.and_eq_true,decide_eq_true_eq] at ra rb
  exact ra.1.trans rb.1.symm
 rw [ruledF_mom hq hv hp]
 refine ref_mom hq (vs.filter (relB run t)) _ [] mom0 rfl h2 rfl (fun v h => by simp at h) (fun v h => ?_) _ ?_
 ·have:=hp v (List.mem_filter.1 h).1
  show (-1 : Int) ≤ v.at_
  omega
 ·have hL : upTo js (vs.filter (relB run t)) (-1) = L00:=by
   unfold upTo
   have : (vs.filter (relB run t)).filter (fun v => decide (v.at_ ≤ -1)) = []:=by
    rw [List.filter_eq_nil_iff]
    intro x hx
    have:=hp x (List.mem_filter.1 hx).1
    simp; omega
   rw [this]; rfl
  show (0,0) = hsOf (rulTell q (-1) (setL R00 (upTo js (vs.filter (relB run t)) (-1))))
  rw [hL]
  have:=commit_0 hq
  show (0,0) = hsOf (commit q mom0)
  rw [this]; rfl
end Go.Proofs.YtgeaeockmadhcaaGreatDoor
/- The sums of the reference (over all names once, the last vote of each) are the program's. -/
namespace Go.Proofs.YtgeaeockmadhcaaGreatDoor
set_option linter.unusedVariables false
set_option linter.unusedSimpArgs false

structure LGood (L : LastE) : Prop where
  nd : L.K.Nodup
  out : ∀ x, x ∉ L.K → L.f x = (0, 0)
theorem LGood.zero : LGood L00:=⟨List.nodup_nil,fun _ _ => rfl⟩
theorem LGood.step {js : List JudgeE} {L : LastE} (h : LGood L) (v : VoteE) : LGood (lastU js L v):=by
 unfold lastU
 split
 ·refine ⟨?_,fun x hx => ?_⟩
  ·unfold lastPut
   simp only
   split
   ·exact h.nd
   ·rename_i hn
    rw [List.nodup_append]
    exact ⟨h.nd,by simp,fun a ha b hb e => by simp at hb; rw [e,hb] at ha; exact hn ha⟩
  ·unfold lastPut at hx ⊢
   simp only at hx ⊢
   by_cases he : x = v.who
   ·exfalso
    apply hx
    split
    ·rename_i hm; rw [he]; exact hm
    ·simp [he]
   ·rw [if_neg he]
    refine h.out x (fun hm => hx ?_)
    split
    ·exact hm
    ·simp [hm]
 ·exact h
theorem LGood.fold {js : List JudgeE} : ∀ (l : List VoteE) (L : LastE),LGood L → LGood (l.foldl (lastU js) L)
 | [],_,h => h
 | v :: l,_,h => LGood.fold l _ (h.step v)
theorem fold_who {js : List JudgeE} (l : List VoteE) {x : List UInt8} (h : x ∈ (l.foldl (lastU js) L00).K) : ∃ v ∈ l,v.who = x:=by
 rcases fold_K l L00 x h with h | h
 ·simp [L00] at h
 ·exact h
theorem sum_ref {js : List JudgeE} (l : List VoteE) (W : List (List UInt8)) (hW : W.Nodup) (hin : ∀ v ∈ l,v.who ∈ W) (kind : Int) (hk : kind ≠ 0) :
  (W.map fun k => if ((l.foldl (lastU js) L00).f k).1 = kind then ((l.foldl (lastU js) L00).f k).2 else 0).sum = sumK (l.foldl (lastU js) L00) kind (l.foldl (lastU js) L00).K:=by
 have hg:=LGood.fold (js:=js) l L00 LGood.zero
 refine sum_besides _ W _ hW hg.nd (fun x hx => ?_) (fun x _ hx => ?_)
 ·obtain ⟨v,hv,rfl⟩:=fold_who l hx
  exact hin v hv
 ·rw [hg.out x hx,if_neg (fun e => hk e.symm)]
def lastV (js : List JudgeE) (run who : List UInt8) (t : Int) (l : List VoteE) : Int × Int :=
 l.foldl (fun kw v => if v.run = run ∧ v.who = who ∧ v.at_ ≤ t ∧ 0 < weightF js v.who v.at_ then (v.kind,weightF js v.who v.at_) else kw) (0,0)
theorem lastV_go (js : List JudgeE) (run who : List UInt8) (t : Int) : ∀ (l : List VoteE) (L : LastE),l.foldl (fun kw v => if v.run = run ∧ v.who = who ∧ v.at_ ≤ t ∧ 0 < weightF js v.who v.at_ then (v.kind,weightF js v.who v.at_) else kw) (L.f who) = ((l.filter (relB run t)).foldl (lastU js) L).f who
 | [],_ => rfl
 | v :: l,L => by
  rw [List.foldl_cons]
  by_cases hr : relB run t v = true
  ·rw [List.filter_cons_of_pos hr,List.foldl_cons,← lastV_go js run who t l]
   congr 1
   unfold relB at hr
   simp only [Bool.and_eq_true,decide_eq_true_eq] at hr
   unfold lastU
   by_cases hw : 0 < weightF js v.who v.at_
   ·rw [if_pos hw]
    unfold lastPut
    simp only
    by_cases he : who = v.who
    ·rw [if_pos ⟨hr.1,he.symm,hr.2,hw⟩,if_pos he]
    ·rw [if_neg (fun h => he h.2.1.symm),if_neg he]
   ·rw [if_neg hw,if_neg (fun h => hw h.2.2.2)]
  ·rw [List.filter_cons_of_neg hr,← lastV_go js run who t l]
   congr 1
   unfold relB at hr
   simp only [Bool.and_eq_true,decide_eq_true_eq] at hr
   rw [if_neg (fun h => hr ⟨h.1,h.2.2.1⟩)]
theorem lastV_is (js : List JudgeE) (run who : List UInt8) (t : Int) (l : List VoteE) : lastV js run who t l = ((l.filter (relB run t)).foldl (lastU js) L00).f who:=lastV_go js run who t l L00
theorem upTo_is (js : List JudgeE) (l : List VoteE) (run : List UInt8) {T t : Int} (h : T ≤ t) : upTo js (l.filter (relB run t)) T = (l.filter (relB run T)).foldl (lastU js) L00:=by
 unfold upTo
 rw [List.filter_filter]
 congr 1
 apply List.filter_congr
 intro v _
 unfold relB
 by_cases h1 : v.run = run <;> by_cases h2 : v.at_ ≤ T <;> simp [h1,h2]
 omega
theorem ruledOf_fold {vs : List VoteE} {js : List JudgeE} {q : QuoE} {run : List UInt8} {t : Int} (hq : 1 ≤ q.least) (hv : vs.Pairwise ltV) (hp : ∀ v ∈ vs,0 ≤ v.at_) :
  vs.foldl (fun hs v => if relB run t v = true then refS js q (vs.filter (relB run t)) hs v else hs) (0,0) = ((ruledF vs js q run t).how,(ruledF vs js q run t).since):=by
 rw [← ref_is hq hv hp,List.foldl_filter]
theorem ruledF_sums {vs : List VoteE} {js : List JudgeE} {q : QuoE} {run : List UInt8} {t : Int} (hq : 1 ≤ q.least) : (ruledF vs js q run t).yes = sumK ((vs.filter (relB run t)).foldl (lastU js) L00) 1 ((vs.filter (relB run t)).foldl (lastU js) L00).K ∧ (ruledF vs js q run t).no = sumK ((vs.filter (relB run t)).foldl (lastU js) L00) 2 ((vs.filter (relB run t)).foldl (lastU js) L00).K:=by
 have h:=ruledF_told (vs:=vs) (js:=js) (run:=run) (t:=t) hq
 rw [h.yes,h.no,ruledF_L]
 exact ⟨rfl,rfl⟩
end Go.Proofs.YtgeaeockmadhcaaGreatDoor
