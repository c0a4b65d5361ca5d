/- Texts of this seat, laid together: VoG VoK. -/
import Derived.Test.YtajfecnfhoendaaGreatDoorBi19
import Derived.Test.YtajfecnfhoendaaGreatDoorBi23
/- The walks of Ruled and Needs, and of what checks their arguments. -/
namespace Go.Proofs.YtajfecnfhoendaaGreatDoor
set_option linter.unusedVariables false
set_option linter.unusedSimpArgs false
open Go.RowKit

theorem votesE_le {vs : List VoteE} (h : votesE vs = 0) : vs.length ≤ 500:=by
 unfold votesE at h
 by_cases hb : 500 < vs.length
 ·rw [if_pos hb] at h; cases h
 ·omega
theorem judgesE_ok {js : List JudgeE} {q : QuoE} (h : judgesE js q = 0) : js.length ≤ 500 ∧ (∀ j ∈ js,¬ JBad j) ∧ (∀ i,i < js.length → judgeAt js i = 0) ∧ quoE q = 0:=by
 unfold judgesE at h
 by_cases hb : 500 < js.length
 ·rw [if_pos hb] at h; cases h
 rw [if_neg hb] at h
 by_cases hs : scanF (judgeAt js) js.length = 0
 ·rw [if_neg (fun hh => hh hs)] at h
  have h0:=scanF_0 hs
  refine ⟨by omega,fun j hj hbad => ?_,h0,h⟩
  obtain ⟨k,hk,rfl⟩:=List.mem_iff_getElem.1 hj
  have:=h0 k hk
  by_cases hk1 : keyB js[k].who = true
  ·rw [judgeAt_arg hk hk1 hbad] at this; cases this
  ·rw [judgeAt_name hk (by simpa using hk1)] at this; cases this
 ·rw [if_pos hs] at h; exact absurd h hs
theorem quoE_ok {q : QuoE} (h : quoE q = 0) : 1 ≤ q.least ∧ q.least ≤ 1000000 ∧ 1 ≤ q.den ∧ q.den ≤ 1000 ∧ 0 ≤ q.num ∧ q.num ≤ q.den:=by
 unfold quoE at h
 by_cases h1 : q.least < 1 ∨ 1000000 < q.least
 ·rw [if_pos h1] at h; cases h
 rw [if_neg h1] at h
 by_cases h2 : (q.den < 1 ∨ 1000 < q.den) ∨ (q.num < 0 ∨ q.den < q.num) ∨ Nat.gcd q.num.toNat q.den.toNat ≠ 1
 ·rw [if_pos h2] at h; cases h
 ·omega
theorem judges_wt {js : List JudgeE} {q : QuoE} (h : judgesE js q = 0) : ∀ j ∈ js,0 ≤ j.wt ∧ j.wt ≤ 1000:=fun j hj => by
 have:=(judgesE_ok h).2.1 j hj
 unfold JBad at this
 omega
structure VoW (w : World) (lo lo' : Nat) (A B : Option Addr) (vs : List VoteE) (js : List JudgeE) : Prop where
  v : Row w lo 4 A vs.length (vs.flatMap encV)
  j : Row w lo' 4 B js.length (js.flatMap encJ)
  vl : vs.length ≤ 1000000
  jl : js.length ≤ 1000000
  vs_ : ∀ v ∈ vs, v.run.length ≤ 1000000 ∧ v.who.length ≤ 1000000
  js_ : ∀ j ∈ js, j.who.length ≤ 1000000
theorem VoW.below {w w' : World} {lo lo' : Nat} {A B : Option Addr} {vs : List VoteE} {js : List JudgeE} (h : VoW w lo lo' A B vs js) (hb : Below w.heap.size w w') : VoW w' lo lo' A B vs js:=⟨h.v.below hb,h.j.below hb,h.vl,h.jl,h.vs_,h.js_⟩
theorem VoW.grown {w w' : World} {g lo lo' : Nat} {A B : Option Addr} {vs : List VoteE} {js : List JudgeE} (h : VoW w lo lo' A B vs js) (hg : w.grownBy w' (some g)) (h1 : g < lo) (h2 : g < lo') : VoW w' lo lo' A B vs js:=⟨h.v.grown hg h1,h.j.grown hg h2,h.vl,h.jl,h.vs_,h.js_⟩
set_option maxHeartbeats 4000000 in
set_option maxRecDepth 100000 in
theorem evFault_any (lo lo' c c' : Nat) (A B : Option Addr) (vs : List VoteE) (js : List JudgeE) (q : QuoE) (w : World) (hV : VoW w lo lo' A B vs js) :
  Calls Tryz.prog 78 #[.slice A vs.length c,.slice B js.length c',.agg #[.int .i64 q.least,.int .i64 q.num,.int .i64 q.den]] w fun e w' => e = .returned (.int .i64 (firstE [votesE vs,judgesE js q])) ∧ Below w.heap.size w w':=by
 have hl:=hV.vl
 have hj:=hV.jl
 have HSV:=Lib.hid hV.vs_
 have HSJ:=Lib.hid hV.js_
 obtain ⟨ve,hve⟩ : ∃ ve,ve = votesE vs:=⟨_,rfl⟩
 obtain ⟨je,hje⟩ : ∃ je,je = judgesE js q:=⟨_,rfl⟩
 have HVE:=Lib.hid hve
 have HJE:=Lib.hid hje
 clear hve hje
 have hk1 : Blk (w.alloc (.cells #[.int .i64 q.least,.int .i64 q.num,.int .i64 q.den] 33)) w.heap.size 33 #[.int .i64 q.least,.int .i64 q.num,.int .i64 q.den]:=Blk.new _ _ _
 have hx : Below w.heap.size w (w.alloc (.cells #[.int .i64 q.least,.int .i64 q.num,.int .i64 q.den] 33)):=(Below.refl _ _).alloc (Nat.le_refl _) _
 go_enter Tryz.func78,Tryz.ntmps78
 go_upto_region 1 with (fail)
 generalize w.alloc (.cells #[.int .i64 q.least,.int .i64 q.num,.int .i64 q.den] 33) = w2 at *
 have HSC : Hid (∀ W,Below w2.heap.size w2 W → (fun w' : World => w'.cell? ⟨w.heap.size,0,none⟩ = some (.int .i64 q.least) ∧ w'.cell? ⟨w.heap.size,1,none⟩ = some (.int .i64 q.num) ∧ w'.cell? ⟨w.heap.size,2,none⟩ = some (.int .i64 q.den)) W):=Lib.hid (fun W hW => ⟨(hk1.below hW).cell 0,(hk1.below hW).cell 1,(hk1.below hW).cell 2⟩)
 have HBW : Hid (∀ W,Below w2.heap.size w2 W → Below w.heap.size w W ∧ Row W lo 4 A vs.length (vs.flatMap encV) ∧ Row W lo' 4 B js.length (js.flatMap encJ)):=Lib.hid (fun W hW => ⟨below_up hx hW,hV.v.below (below_up hx hW),hV.j.below (below_up hx hW)⟩)
 have hbz : Below w2.heap.size w2 w2.drew:=below_drewN' (Below.refl _ _) 1
 have hsc:=HSC.out _ hbz
 try simp only at hsc
 clear hk1 hx hV
 refine wp_region_held_drew (S:=(fun w' => w'.cell? ⟨w.heap.size,0,none⟩ = some (.int .i64 q.least) ∧ w'.cell? ⟨w.heap.size,1,none⟩ = some (.int .i64 q.num) ∧ w'.cell? ⟨w.heap.size,2,none⟩ = some (.int .i64 q.den))) (by kernel_rfl) (hsc) (fun hHeld => ?_)
 (refine wpAnyH_take (i:=0) (v:=?_) (by (simp only [List.getElem?_toArray,List.getElem?_cons_zero]; rfl)) (by kernel_rfl) (by kernel_rfl) (by kernel_rfl) (by exact fun _ _ _ h => h) (Or.inl ⟨by rfl,?_⟩) (by assumption) ?_; (rotate_left 1; (intro w hSw; (try dsimp only at hSw); go_simp); (try with_reducible rfl)); (try simp only [Act.put,List.setIfInBounds_toArray,List.set_cons_zero,List.set_cons_succ]))
 (refine wpAnyH_take (i:=2) (v:=?_) (by (simp only [List.getElem?_toArray,List.getElem?_cons_succ,List.getElem?_cons_zero]; rfl)) (by kernel_rfl) (by kernel_rfl) (by kernel_rfl) (by exact fun _ _ _ h => h) (Or.inl ⟨by rfl,?_⟩) (by assumption) ?_; (rotate_left 1; (intro w hSw; (try dsimp only at hSw); go_simp); (try with_reducible rfl)); (try simp only [Act.put,List.setIfInBounds_toArray,List.set_cons_zero,List.set_cons_succ]))
 (refine wpAnyH_take (i:=3) (v:=?_) (by (simp only [List.getElem?_toArray,List.getElem?_cons_succ,List.getElem?_cons_zero]; rfl)) (by kernel_rfl) (by kernel_rfl) (by kernel_rfl) (by exact fun _ _ _ h => h) (Or.inl ⟨by rfl,?_⟩) (by assumption) ?_; (rotate_left 1; (intro w hSw; (try dsimp only at hSw); go_simp); (try with_reducible rfl)); (try simp only [Act.put,List.setIfInBounds_toArray,List.set_cons_zero,List.set_cons_succ]))
 refine wpAnyH_ready (rs:=[1]) (by kernel_rfl) (by simp) ?_
 refine AllReadyH.cons rfl (fun K hK => ?_) AllReadyH.nil
 go_simp
 go_at_call 122
 refine (checkVotes_any lo c A vs _ (HBW.out _ hbz).2.1 hl HSV.out).mono ?_
 rintro e wa ⟨rfl,hb⟩
 rw [← HVE.out]
 replace hbz:=hbz.trans (hb.mono hbz.size)
 have hsc:=(HSC.out _ hbz)
 try simp only at hsc
 clear hb
 go_wp2_with fail
 refine hK.out _ _ (hsc) (fun hHeld => ?_)
 clear hK K
 (try simp only [Act.put,List.setIfInBounds_toArray,List.set_cons_zero,List.set_cons_succ])
 refine wpAnyH_ready (rs:=[4]) (by kernel_rfl) (by simp) ?_
 refine AllReadyH.cons rfl (fun K hK => ?_) AllReadyH.nil
 go_simp
 go_at_call 123
 refine (checkJudges_any lo' c' B js q _ (HBW.out _ hbz).2.2 hj HSJ.out).mono ?_
 rintro e wb ⟨rfl,hb⟩
 rw [← HJE.out]
 replace hbz:=hbz.trans (hb.mono hbz.size)
 have hsc:=(HSC.out _ hbz)
 try simp only at hsc
 clear hb
 go_wp2_with fail
 refine hK.out _ _ (hsc) (fun hHeld => ?_)
 clear hK K
 (try simp only [Act.put,List.setIfInBounds_toArray,List.set_cons_zero,List.set_cons_succ])
 refine wpAnyH_ready (rs:=[5]) (by kernel_rfl) (by simp) ?_
 refine AllReadyH.cons rfl (fun K hK => ?_) AllReadyH.nil
 go_simp
 have hro:=row_new wb #[.int .i64 ve,.int .i64 je] 36 0 1 2 (Nat.zero_le _) rfl
 replace hbz:=hbz.alloc hbz.size (.cells #[.int .i64 ve,.int .i64 je] 36)
 have hsc:=(HSC.out _ hbz)
 try simp only at hsc
 refine hK.out _ _ (hsc) (fun hHeld => ?_)
 clear hK K
 (try simp only [Act.put,List.setIfInBounds_toArray,List.set_cons_zero,List.set_cons_succ])
 refine wpAnyH_ready (rs:=[6]) (by kernel_rfl) (by simp) ?_
 refine AllReadyH.cons rfl (fun K hK => ?_) AllReadyH.nil
 go_simp
 go_at_call 54
 refine (first_any _ 2 0 [ve,je] _ hro (by simp)).mono ?_
 rintro e we ⟨rfl,rfl⟩
 go_wp2_with fail
 refine hK.out _ _ (hsc) (fun hHeld => ?_)
 clear hK K
 (try simp only [Act.put,List.setIfInBounds_toArray,List.set_cons_zero,List.set_cons_succ])
 (refine wpAnyH_take (i:=7) (v:=?_) (by (simp only [List.getElem?_toArray,List.getElem?_cons_succ,List.getElem?_cons_zero]; rfl)) (by kernel_rfl) (by kernel_rfl) (by kernel_rfl) (by exact fun _ _ _ h => h) (Or.inl ⟨by rfl,?_⟩) (by assumption) ?_; (rotate_left 1; (intro w hSw; (try dsimp only at hSw); go_simp); (try with_reducible rfl)); (try simp only [Act.put,List.setIfInBounds_toArray,List.set_cons_zero,List.set_cons_succ]))
 refine wpAnyH_done (by kernel_rfl) ?_ _
 go_wp2_with fail
 go_ret
 exact ⟨ret_int' (by rw [HVE.out,HJE.out]),(HBW.out _ hbz).1⟩
def runE (vs : List VoteE) (js : List JudgeE) (q : QuoE) (run : List UInt8) (t : Int) : Int :=
 if firstE [votesE vs,judgesE js q] ≠ 0 then firstE [votesE vs,judgesE js q] else if keyB run = false then 5 else if t < 0 ∨ 345686399999 < t then 1 else 0
theorem runE_ok {vs : List VoteE} {js : List JudgeE} {q : QuoE} {run : List UInt8} {t : Int} (h : runE vs js q run t = 0) : votesE vs = 0 ∧ judgesE js q = 0 ∧ keyB run = true ∧ 0 ≤ t ∧ t ≤ 345686399999:=by
 unfold runE at h
 by_cases h1 : firstE [votesE vs,judgesE js q] = 0
 ·rw [if_neg (fun hh => hh h1)] at h
  rw [firstE_two] at h1
  have h2 : votesE vs = 0:=by
   by_cases hh : votesE vs = 0
   ·exact hh
   ·rw [if_neg hh] at h1; exact absurd h1 hh
  rw [if_pos h2] at h1
  by_cases h3 : keyB run = false
  ·rw [if_pos h3] at h; cases h
  rw [if_neg h3] at h
  by_cases h4 : t < 0 ∨ 345686399999 < t
  ·rw [if_pos h4] at h; cases h
  ·exact ⟨h2,h1,by simpa using h3,by omega,by omega⟩
 ·rw [if_pos h1] at h; exact absurd h h1
set_option maxHeartbeats 2000000 in
set_option maxRecDepth 100000 in
theorem runFault_any (lo lo' c c' : Nat) (A B : Option Addr) (vs : List VoteE) (js : List JudgeE) (q : QuoE) (run : List UInt8) (t : Int) (w : World) (hV : VoW w lo lo' A B vs js) :
  Calls Tryz.prog 43 #[.slice A vs.length c,.slice B js.length c',.agg #[.int .i64 q.least,.int .i64 q.num,.int .i64 q.den],.string ⟨run.toArray⟩,.int .i64 t] w fun e w' => e = .returned (.int .i64 (runE vs js q run t)) ∧ Below w.heap.size w w':=by
 have hk1 : Blk (w.alloc (.cells #[.int .i64 q.least,.int .i64 q.num,.int .i64 q.den] 33)) w.heap.size 33 #[.int .i64 q.least,.int .i64 q.num,.int .i64 q.den]:=Blk.new _ _ _
 have hx : Below w.heap.size w (w.alloc (.cells #[.int .i64 q.least,.int .i64 q.num,.int .i64 q.den] 33)):=(Below.refl _ _).alloc (Nat.le_refl _) _
 replace hV:=hV.below hx
 have HRE : Hid (runE vs js q run t = if firstE [votesE vs,judgesE js q] ≠ 0 then firstE [votesE vs,judgesE js q] else if keyB run = false then 5 else if t < 0 ∨ 345686399999 < t then 1 else 0):=Lib.hid rfl
 go_enter Tryz.func43,Tryz.ntmps43
 go_upto_region 1 with (fail)
 generalize w.alloc (.cells #[.int .i64 q.least,.int .i64 q.num,.int .i64 q.den] 33) = w2 at *
 obtain ⟨q0,q1,q2⟩ : _ ∧ _ ∧ _:=⟨hk1.cell 0,hk1.cell 1,hk1.cell 2⟩
 simp only [List.getElem?_toArray,List.getElem?_cons_zero,List.getElem?_cons_succ] at q0 q1 q2
 have hlt:=hk1.lt
 go_wp2_with fail
 refine (evFault_any lo lo' c c' A B vs js q _ hV).mono ?_
 rintro e w3 ⟨rfl,hb⟩
 obtain ⟨fe,hfe⟩ : ∃ fe,fe = firstE [votesE vs,judgesE js q]:=⟨_,rfl⟩
 rw [← hfe] at HRE ⊢
 have hb3:=below_up hx hb
 clear hfe hb hk1 q0 q1 q2 hlt hx hV
 by_cases h0 : fe = 0
 ·have d0 : (fe != 0) = false:=by rw [h0]; rfl
  have HR2:=Lib.hid (HRE.out.trans (if_neg (fun hh => hh h0)))
  clear h0 HRE
  go_wp2_with fail
  refine (key_any ⟨run.toArray⟩ _).mono ?_
  rintro e w4 ⟨rfl,rfl⟩
  cases hk : keyB run with
  | false =>
   have HR3:=Lib.hid (HR2.out.trans (if_pos hk))
   simp only [hk]
   go_wp2_with fail
   go_ret
   exact ⟨ret_int' HR3.out.symm,hb3⟩
  | true =>
   have HR3:=Lib.hid (HR2.out.trans (if_neg (by rw [hk]; simp)))
   simp only [hk]
   clear HR2 hk
   go_wp2_with fail
   refine (moment_any t _).mono ?_
   rintro e w5 ⟨rfl,rfl⟩
   by_cases h1 : t < 0 ∨ 345686399999 < t
   ·have HR4:=Lib.hid (HR3.out.trans (if_pos h1))
    rw [decide_eq_true h1]
    clear h1 HR3
    go_wp2_with fail
    go_ret
    exact ⟨ret_int' HR4.out.symm,hb3⟩
   ·have HR4:=Lib.hid (HR3.out.trans (if_neg h1))
    rw [decide_eq_false h1]
    clear h1 HR3
    go_wp2_with fail
    go_ret
    exact ⟨ret_int' HR4.out.symm,hb3⟩
 ·have d0 : (fe != 0) = true:=by simpa using h0
  have HR2:=Lib.hid (HRE.out.trans (if_pos h0))
  clear h0 HRE
  go_wp2_with fail
  go_ret
  exact ⟨ret_int' HR2.out.symm,hb3⟩
theorem res_rul2 (fn : Func) (s u : Nat) (tmps : Array Value) (w : World) (m : Nat) (a : List UInt8) (x y z v : Int) (er : Value) (e : fn.results = #[.cell s 42,.tmp u]) (hx : tmps.getD s undef = .pointer (some ⟨m,0,none⟩)) (hu : tmps.getD u undef = er) (f0 : w.cell? ⟨m,0,none⟩ = some (.string ⟨a.toArray⟩)) (f1 : w.cell? ⟨m,1,none⟩ = some (.int .i64 x)) (f2 : w.cell? ⟨m,2,none⟩ = some (.int .i64 y)) (f3 : w.cell? ⟨m,3,none⟩ = some (.int .i64 z)) (f4 : w.cell? ⟨m,4,none⟩ = some (.int .i64 v)) :
  (results fn tmps).run Tryz.prog w = .ok (.tuple #[.agg #[.string ⟨a.toArray⟩,.int .i64 x,.int .i64 y,.int .i64 z,.int .i64 v],er]) w:=by
 have hx' : tmps[s]?.getD undef = .pointer (some ⟨m,0,none⟩):=by simpa using hx
 have hu' : tmps[u]?.getD undef = er:=by simpa using hu
 simp [results,e,hx',hu',go_sem,f0,f1,f2,f3,f4]
def ruledV (vs : List VoteE) (js : List JudgeE) (q : QuoE) (run : List UInt8) (t : Int) : Value :=
 if runE vs js q run t = 0 then .tuple #[rulV run (ruledF vs js q run t),.int .i64 0] else .tuple #[.agg #[.string ⟨#[]⟩,.int .i64 0,.int .i64 0,.int .i64 0,.int .i64 0],.int .i64 (runE vs js q run t)]
set_option maxHeartbeats 4000000 in
set_option maxRecDepth 100000 in
theorem ruledT_any (lo lo' c c' : Nat) (A B : Option Addr) (vs : List VoteE) (js : List JudgeE) (q : QuoE) (run : List UInt8) (t : Int) (w : World) (hV : VoW w lo lo' A B vs js) :
  Calls Tryz.prog 12 #[.slice A vs.length c,.slice B js.length c',.agg #[.int .i64 q.least,.int .i64 q.num,.int .i64 q.den],.string ⟨run.toArray⟩,.int .i64 t] w fun e w' => e = .returned (ruledV vs js q run t) ∧ Below w.heap.size w w':=by
 have hk0 : Blk ((w.alloc (.cells #[.int .i64 q.least,.int .i64 q.num,.int .i64 q.den] 33)).alloc (.cells rulZ 42)) w.heap.size 33 #[.int .i64 q.least,.int .i64 q.num,.int .i64 q.den]:=(Blk.new _ _ _).alloc _
 have hr0 : Blk ((w.alloc (.cells #[.int .i64 q.least,.int .i64 q.num,.int .i64 q.den] 33)).alloc (.cells rulZ 42)) (w.heap.size + 1) 42 rulZ:=Blk.at1 _ (by simp)
 have hx : Below w.heap.size w ((w.alloc (.cells #[.int .i64 q.least,.int .i64 q.num,.int .i64 q.den] 33)).alloc (.cells rulZ 42)):=(by repeat (first | exact Below.refl _ _ | refine Below.alloc ?_ (by first | omega | (simp; omega) | simp) _ | refine below_drewN' ?_ _ | refine Below.drew ?_))
 replace hV:=hV.below hx
 have HSV:=Lib.hid hV.vs_
 obtain ⟨re,hre⟩ : ∃ re,re = runE vs js q run t:=⟨_,rfl⟩
 have HRE:=Lib.hid hre
 have HR0 : Hid (re = 0 → ruledV vs js q run t = .tuple #[rulV run (ruledF vs js q run t),.int .i64 0]):=Lib.hid (fun h => by unfold ruledV; rw [← hre,if_pos h])
 have HR1 : Hid (re ≠ 0 → ruledV vs js q run t = .tuple #[.agg #[.string ⟨#[]⟩,.int .i64 0,.int .i64 0,.int .i64 0,.int .i64 0],.int .i64 re]):=Lib.hid (fun h => by unfold ruledV; rw [← hre,if_neg h])
 clear hre
 go_enter Tryz.func12,Tryz.ntmps12
 go_upto_region 1 with (fail)
 rw [show (#[.string ⟨#[]⟩,.int .i64 0,.int .i64 0,.int .i64 0,.int .i64 0] : Array Value) = rulZ from rfl]
 generalize ((w.alloc (.cells #[.int .i64 q.least,.int .i64 q.num,.int .i64 q.den] 33)).alloc (.cells rulZ 42)) = w2 at *
 obtain ⟨rb,hrb⟩ : ∃ rb,rb = w.heap.size + 1:=⟨_,rfl⟩
 rw [← hrb] at hr0
 simp only [← hrb]
 have hrl : w.heap.size ≤ rb:=by omega
 clear hrb
 obtain ⟨q0,q1,q2⟩ : _ ∧ _ ∧ _:=⟨hk0.cell 0,hk0.cell 1,hk0.cell 2⟩
 simp only [List.getElem?_toArray,List.getElem?_cons_zero,List.getElem?_cons_succ] at q0 q1 q2
 have hlt:=hk0.lt
 go_wp2_with fail
 refine (runFault_any lo lo' c c' A B vs js q run t _ hV).mono ?_
 rintro e w3 ⟨rfl,hb⟩
 rw [← HRE.out]
 replace hV:=hV.below hb
 replace hk0:=hk0.below hb
 replace hr0:=hr0.below hb
 have hb3:=below_up hx hb
 clear hb q0 q1 q2 hlt hx
 obtain ⟨q0,q1,q2⟩ : _ ∧ _ ∧ _:=⟨hk0.cell 0,hk0.cell 1,hk0.cell 2⟩
 simp only [List.getElem?_toArray,List.getElem?_cons_zero,List.getElem?_cons_succ] at q0 q1 q2
 have hlt:=hk0.lt
 by_cases h0 : re = 0
 ·have d0 : (re != 0) = false:=by rw [h0]; rfl
  have HV:=Lib.hid (HR0.out h0)
  obtain ⟨g1,g2,g3,-,-⟩:=runE_ok (HRE.out.symm.trans h0)
  obtain ⟨g4,-,-,g5⟩:=judgesE_ok g2
  have g6:=quoE_ok g5
  have g7:=judges_wt g2
  have g8:=votesE_le g1
  have hrc:=ruled_any lo lo' c c' A B vs js q run t w3 hV.v hV.j (by omega) (by omega) (fun v hv => (HSV.out v hv).2) g7 ⟨by omega,by omega⟩ ⟨by omega,by omega⟩
  unfold quoV at hrc
  have HRC:=Lib.hid hrc
  clear h0 HR0 HR1 g1 g2 g3 g4 g5 g6 g7 g8 hrc
  go_wp2_with fail
  refine HRC.out.mono ?_
  rintro e w4 ⟨rfl,hb⟩
  replace hr0:=hr0.below hb
  replace hb3:=below_up hb3 hb
  obtain ⟨R,hR⟩ : ∃ R,R = ruledF vs js q run t:=⟨_,rfl⟩
  rw [← hR] at HV ⊢
  unfold rulV at HV ⊢
  simp only [encStr]
  clear hR hb HRC hk0 q0 q1 q2 hlt hV
  obtain ⟨L,how,since,yes,no⟩:=R
  dsimp only at HV ⊢
  unfold rulZ at hr0
  obtain ⟨r0,r1,r2,r3,r4⟩ : _ ∧ _ ∧ _ ∧ _ ∧ _:=⟨hr0.cell 0,hr0.cell 1,hr0.cell 2,hr0.cell 3,hr0.cell 4⟩
  simp only [List.getElem?_toArray,List.getElem?_cons_zero,List.getElem?_cons_succ] at r0 r1 r2 r3 r4
  have zr:=hr0.lt
  have f0:=hr0.thaw 0
  have f1:=hr0.thaw 1
  have f2:=hr0.thaw 2
  have f3:=hr0.thaw 3
  have f4:=hr0.thaw 4
  have hz:=((((hr0.poke 0 (.string ⟨run.toArray⟩)).poke 1 (.int .i64 how)).poke 2 (.int .i64 since)).poke 3 (.int .i64 yes)).poke 4 (.int .i64 no)
  have HB5:=Lib.hid (((((hb3.setCell (p:=⟨rb,0,none⟩) hrl (.string ⟨run.toArray⟩)).setCell (p:=⟨rb,1,none⟩) hrl (.int .i64 how)).setCell (p:=⟨rb,2,none⟩) hrl (.int .i64 since)).setCell (p:=⟨rb,3,none⟩) hrl (.int .i64 yes)).setCell (p:=⟨rb,4,none⟩) hrl (.int .i64 no))
  clear hb3 hr0
  go_wp2_with fail
  refine bodyPost_ret (res_rul2 _ 10 11 _ _ rb run how since yes no _ rfl rfl rfl (hz.cell 0) (hz.cell 1) (hz.cell 2) (hz.cell 3) (hz.cell 4)) rfl ?_
  exact ⟨by rw [HV.out]; rfl,HB5.out⟩
 ·have d0 : (re != 0) = true:=by simpa using h0
  have HV:=Lib.hid (HR1.out h0)
  unfold rulZ at hr0
  obtain ⟨r0,r1,r2,r3,r4⟩ : _ ∧ _ ∧ _ ∧ _ ∧ _:=⟨hr0.cell 0,hr0.cell 1,hr0.cell 2,hr0.cell 3,hr0.cell 4⟩
  simp only [List.getElem?_toArray,List.getElem?_cons_zero,List.getElem?_cons_succ] at r0 r1 r2 r3 r4
  have zr:=hr0.lt
  have f0:=hr0.thaw 0
  have f1:=hr0.thaw 1
  have f2:=hr0.thaw 2
  have f3:=hr0.thaw 3
  have f4:=hr0.thaw 4
  have hz:=((((hr0.poke 0 (.string ⟨#[]⟩)).poke 1 (.int .i64 0)).poke 2 (.int .i64 0)).poke 3 (.int .i64 0)).poke 4 (.int .i64 0)
  have HB5:=Lib.hid (((((hb3.setCell (p:=⟨rb,0,none⟩) hrl (.string ⟨#[]⟩)).setCell (p:=⟨rb,1,none⟩) hrl (.int .i64 0)).setCell (p:=⟨rb,2,none⟩) hrl (.int .i64 0)).setCell (p:=⟨rb,3,none⟩) hrl (.int .i64 0)).setCell (p:=⟨rb,4,none⟩) hrl (.int .i64 0))
  clear hb3 hr0 h0 HR0 HR1 hk0 q0 q1 q2 hlt hV
  go_wp2_with fail
  refine bodyPost_ret (res_rul2 _ 10 11 _ _ rb [] 0 0 0 0 _ rfl rfl rfl (hz.cell 0) (hz.cell 1) (hz.cell 2) (hz.cell 3) (hz.cell 4)) rfl ?_
  exact ⟨by rw [HV.out]; rfl,HB5.out⟩
theorem sumK_bd {L : LastE} {k : Nat} (h : LSm L k) (kind : Int) : 0 ≤ sumK L kind L.K ∧ sumK L kind L.K ≤ 1000 * (k : Int):=by
 have h1:=sumF_bd (cK_bd h kind) (fun _ => true) L.K
 rw [sumF_all L kind (fun _ => rfl)] at h1
 have:=h.1
 omega
theorem rulS_bd {vs : List VoteE} {js : List JudgeE} {q : QuoE} {run : List UInt8} {t : Int} (hw : ∀ j ∈ js,0 ≤ j.wt ∧ j.wt ≤ 1000) : ∀ k : Nat,LSm (rulS vs js q run t k).L k ∧ (0 ≤ (rulS vs js q run t k).yes ∧ (rulS vs js q run t k).yes ≤ 1000 * (k : Int)) ∧ (0 ≤ (rulS vs js q run t k).no ∧ (rulS vs js q run t k).no ≤ 1000 * (k : Int))
 | 0 => ⟨⟨by simp [rulS],fun y => by simp [rulS]⟩,by simp [rulS],by simp [rulS]⟩
 | k + 1 => by
  obtain ⟨h1,h2,h3⟩:=rulS_bd (vs:=vs) (q:=q) (run:=run) (t:=t) hw k
  have h4:=h1.last hw (vs.getD k default)
  have h5:=sumK_bd h4 1
  have h6:=sumK_bd h4 2
  cases hr : relB run t (vs.getD k default) with
  | false =>
   rw [rulS_skip hr]
   exact ⟨⟨by have:=h1.1; omega,h1.2⟩,by push_cast; omega,by push_cast; omega⟩
  | true =>
   cases hm : moreB vs run k with
   | true => rw [rulS_more hr hm]; exact ⟨h4,by push_cast; (try dsimp only); omega,by push_cast; (try dsimp only); omega⟩
   | false =>
    rw [rulS_tell hr hm]
    unfold rulTell
    dsimp only
    split
    ·exact ⟨h4,h5,h6⟩
    ·exact ⟨h4,h5,h6⟩
def NeedP (q : QuoE) (yes no : Int) (e : Ending) : Prop :=
 (∃ n : Nat,n ≤ 1000000 ∧ decF q (yes + n) no = 1 ∧ (∀ m : Nat,m < n → decF q (yes + m) no ≠ 1) ∧ e = .returned (.tuple #[.int .i64 n,.bool true,.int .i64 0])) ∨ ((∀ m : Nat,m ≤ 1000000 → decF q (yes + m) no ≠ 1) ∧ e = .returned (.tuple #[.int .i64 0,.bool false,.int .i64 0]))
def NeedsPost (w : World) (vs : List VoteE) (js : List JudgeE) (q : QuoE) (run : List UInt8) (t : Int) (e : Ending) (w' : World) : Prop :=
 (runE vs js q run t ≠ 0 → e = .returned (.tuple #[.int .i64 0,.bool false,.int .i64 (runE vs js q run t)])) ∧ (runE vs js q run t = 0 → NeedP q (ruledF vs js q run t).yes (ruledF vs js q run t).no e) ∧ Below w.heap.size w w'
set_option maxHeartbeats 4000000 in
set_option maxRecDepth 100000 in
theorem needs_any (lo lo' c c' : Nat) (A B : Option Addr) (vs : List VoteE) (js : List JudgeE) (q : QuoE) (run : List UInt8) (t : Int) (w : World) (hV : VoW w lo lo' A B vs js) :
  Calls Tryz.prog 11 #[.slice A vs.length c,.slice B js.length c',.agg #[.int .i64 q.least,.int .i64 q.num,.int .i64 q.den],.string ⟨run.toArray⟩,.int .i64 t] w (NeedsPost w vs js q run t):=by
 have hk0 : Blk (w.alloc (.cells #[.int .i64 q.least,.int .i64 q.num,.int .i64 q.den] 33)) w.heap.size 33 #[.int .i64 q.least,.int .i64 q.num,.int .i64 q.den]:=Blk.new _ _ _
 have hx : Below w.heap.size w (w.alloc (.cells #[.int .i64 q.least,.int .i64 q.num,.int .i64 q.den] 33)):=(Below.refl _ _).alloc (Nat.le_refl _) _
 replace hV:=hV.below hx
 have HSV:=Lib.hid hV.vs_
 obtain ⟨re,hre⟩ : ∃ re,re = runE vs js q run t:=⟨_,rfl⟩
 have HRE:=Lib.hid hre
 have HP0 : Hid (∀ e W',re = 0 → NeedP q (ruledF vs js q run t).yes (ruledF vs js q run t).no e → Below w.heap.size w W' → NeedsPost w vs js q run t e W'):=Lib.hid (fun e W' h h1 h2 => ⟨fun h3 => absurd (hre.symm.trans h) h3,fun _ => h1,h2⟩)
 have HP1 : Hid (∀ W',re ≠ 0 → Below w.heap.size w W' → NeedsPost w vs js q run t (.returned (.tuple #[.int .i64 0,.bool false,.int .i64 re])) W'):=Lib.hid (fun W' h h2 => ⟨fun _ => by rw [hre],fun h3 => absurd (hre.trans h3) h,h2⟩)
 generalize hP : NeedsPost w vs js q run t = Post at *
 clear hre hP
 go_enter Tryz.func11,Tryz.ntmps11
 go_upto_region 1 with (fail)
 generalize w.alloc (.cells #[.int .i64 q.least,.int .i64 q.num,.int .i64 q.den] 33) = w2 at *
 obtain ⟨q0,q1,q2⟩ : _ ∧ _ ∧ _:=⟨hk0.cell 0,hk0.cell 1,hk0.cell 2⟩
 simp only [List.getElem?_toArray,List.getElem?_cons_zero,List.getElem?_cons_succ] at q0 q1 q2
 have hlt:=hk0.lt
 go_wp2_with fail
 refine (runFault_any lo lo' c c' A B vs js q run t _ hV).mono ?_
 rintro e w3 ⟨rfl,hb⟩
 rw [← HRE.out]
 replace hV:=hV.below hb
 replace hk0:=hk0.below hb
 have hb3:=below_up hx hb
 clear hb q0 q1 q2 hlt hx
 obtain ⟨q0,q1,q2⟩ : _ ∧ _ ∧ _:=⟨hk0.cell 0,hk0.cell 1,hk0.cell 2⟩
 simp only [List.getElem?_toArray,List.getElem?_cons_zero,List.getElem?_cons_succ] at q0 q1 q2
 have hlt:=hk0.lt
 by_cases h0 : re = 0
 ·have d0 : (re != 0) = false:=by rw [h0]; rfl
  have HV:=Lib.hid (fun e W' => HP0.out e W' h0)
  obtain ⟨g1,g2,g3,-,-⟩:=runE_ok (HRE.out.symm.trans h0)
  obtain ⟨g4,-,-,g5⟩:=judgesE_ok g2
  have g6:=quoE_ok g5
  have g7:=judges_wt g2
  have g8:=votesE_le g1
  have hrc:=ruled_any lo lo' c c' A B vs js q run t w3 hV.v hV.j (by omega) (by omega) (fun v hv => (HSV.out v hv).2) g7 ⟨by omega,by omega⟩ ⟨by omega,by omega⟩
  obtain ⟨-,g9,g10⟩:=rulS_bd (vs:=vs) (q:=q) (run:=run) (t:=t) g7 vs.length
  have HQ : Hid ((0 ≤ q.num ∧ q.num ≤ 1000) ∧ 0 ≤ q.den ∧ q.den ≤ 1000):=Lib.hid ⟨⟨by omega,by omega⟩,by omega,by omega⟩
  unfold quoV at hrc
  have HRC:=Lib.hid hrc
  obtain ⟨R,hR⟩ : ∃ R,R = ruledF vs js q run t:=⟨_,rfl⟩
  have hR2 : rulS vs js q run t vs.length = R:=hR.symm
  rw [hR2] at g9 g10
  have hyes : 0 ≤ R.yes ∧ R.yes ≤ 500000:=by omega
  have hno : 0 ≤ R.no ∧ R.no ≤ 500000:=by omega
  rw [← hR] at HV HRC
  clear h0 HP0 HP1 g1 g2 g3 g4 g5 g6 g7 g8 g9 g10 hrc hR hR2 hV
  go_wp2_with fail
  refine HRC.out.mono ?_
  rintro e w4 ⟨rfl,hb⟩
  replace hk0:=hk0.below hb
  replace hb3:=below_up hb3 hb
  unfold rulV
  simp only [encStr]
  clear hb HRC q0 q1 q2 hlt
  obtain ⟨L,how,since,yes,no⟩:=R
  dsimp only at HV hyes hno ⊢
  have hrb : Blk (w4.alloc (.cells #[.string ⟨run.toArray⟩,.int .i64 how,.int .i64 since,.int .i64 yes,.int .i64 no] 42)) w4.heap.size 42 #[.string ⟨run.toArray⟩,.int .i64 how,.int .i64 since,.int .i64 yes,.int .i64 no]:=Blk.new _ _ _
  replace hk0:=hk0.alloc (.cells #[.string ⟨run.toArray⟩,.int .i64 how,.int .i64 since,.int .i64 yes,.int .i64 no] 42)
  replace hb3:=hb3.alloc hb3.size (.cells #[.string ⟨run.toArray⟩,.int .i64 how,.int .i64 since,.int .i64 yes,.int .i64 no] 42)
  go_upto_region 5 with (fail)
  generalize w4.alloc (.cells #[.string ⟨run.toArray⟩,.int .i64 how,.int .i64 since,.int .i64 yes,.int .i64 no] 42) = w5 at *
  generalize w4.heap.size = rb at *
  go_wp2_with fail
  go_loopw [31] (fun i wr => ∃ n : Nat,n ≤ 1000001 ∧ i = .int .i64 n ∧ Hid (∀ m : Nat,m < n → decF q (yes + m) no ≠ 1) ∧ Blk wr w.heap.size 33 #[.int .i64 q.least,.int .i64 q.num,.int .i64 q.den] ∧ Blk wr rb 42 #[.string ⟨run.toArray⟩,.int .i64 how,.int .i64 since,.int .i64 yes,.int .i64 no] ∧ Below w.heap.size w wr) (fun i _ => 1000001 - (intOf i).toNat)
  case atStart => exact ⟨0,Nat.zero_le _,rfl,Lib.hid (fun m hm => by omega),hk0,hrb,hb3⟩
  case round =>
   clear hk0 hrb hb3
   obtain ⟨n,hn,rfl,HM,hk0,hrb,hb3⟩:=hrel
   by_cases hlt : n < 1000001
   ·have hlt2 : (n : Int) < 1000001:=by omega
    obtain ⟨q0,q1,q2⟩ : _ ∧ _ ∧ _:=⟨hk0.cell 0,hk0.cell 1,hk0.cell 2⟩
    obtain ⟨r3,r4⟩ : _ ∧ _:=⟨hrb.cell 3,hrb.cell 4⟩
    simp only [List.getElem?_toArray,List.getElem?_cons_zero,List.getElem?_cons_succ] at q0 q1 q2 r3 r4
    have zq:=hk0.lt
    have zr:=hrb.lt
    have wy : IntKind.i64.wrap (yes + (n : Int)) = yes + (n : Int):=IntWalk.i64_in _ ⟨by omega,by omega⟩
    have hqq:=HQ.out
    have hdc:=decided_any q (yes + n) no wr hqq.1 hqq.2 (by omega) (by omega)
    unfold quoV at hdc
    clear hqq
    have HDC:=Lib.hid hdc
    clear hdc
    go_wp2_with fail
    refine HDC.out.mono ?_
    clear HDC
    rintro e w7 ⟨rfl,hb7⟩
    replace hk0:=hk0.below hb7
    replace hrb:=hrb.below hb7
    replace hb3:=below_up hb3 hb7
    clear hb7 q0 q1 q2 r3 r4 zq zr wy
    obtain ⟨D,hD⟩ : ∃ D,D = decF q (yes + n) no:=⟨_,rfl⟩
    rw [← hD]
    have HD:=Lib.hid hD
    clear hD
    by_cases h1 : D = 1
    ·have d1 : (D == 1) = true:=by simpa using h1
     have HN:=Lib.hid (HV.out _ w7 (Or.inl ⟨n,by omega,by rw [← HD.out]; exact h1,HM.out,rfl⟩) hb3)
     clear h1
     go_wp2_with fail
     exact HN.out
    ·have d1 : (D == 1) = false:=by simpa using h1
     have HM2 : Hid (∀ m : Nat,m < n + 1 → decF q (yes + m) no ≠ 1):=Lib.hid (fun m hm => by
      by_cases hmn : m < n
      ·exact HM.out m hmn
      ·obtain rfl : m = n:=by omega
       rw [← HD.out]; exact h1)
     clear h1
     go_wp2_with fail
     go_roundw
     case rel => exact ⟨n + 1,by omega,by go_num,HM2,hk0,hrb,hb3⟩
     case measure => simp [intOf]; omega
   ·have hnn : n = 1000001:=by omega
    have HN:=Lib.hid (HV.out _ wr (Or.inr ⟨fun m hm => HM.out m (by omega),rfl⟩) hb3)
    subst hnn
    go_wp2_with fail
    exact HN.out
 ·have d0 : (re != 0) = true:=by simpa using h0
  have HN:=Lib.hid (HP1.out w3 h0 hb3)
  clear h0 HP0 HP1 hV hk0 hb3
  go_wp2_with fail
  exact HN.out
end Go.Proofs.YtajfecnfhoendaaGreatDoor
/- A vote of one more judge: what is decided, in plain Lean. -/
namespace Go.Proofs.YtajfecnfhoendaaGreatDoor
set_option linter.unusedVariables false
set_option linter.unusedSimpArgs false

def zzW : List UInt8:=[122,122]
def r1W : List UInt8:=[114,49]
def L00 : LastE:=⟨[],fun _ => (0,0)⟩
theorem rulTell_L (q : QuoE) (t : Int) (R : RulE) : (rulTell q t R).L = R.L:=by
 unfold rulTell; split <;> rfl
structure Told (q : QuoE) (R : RulE) : Prop where
  yes : R.yes = sumK R.L 1 R.L.K
  no : R.no = sumK R.L 2 R.L.K
  how : R.how = decF q R.yes R.no
theorem rulTell_told (q : QuoE) (t : Int) (R : RulE) : Told q (rulTell q t R):=by
 unfold rulTell
 split
 ·rename_i h; exact ⟨rfl,rfl,h.symm⟩
 ·exact ⟨rfl,rfl,rfl⟩
theorem told_0 {q : QuoE} (hq : 1 ≤ q.least) {vs : List VoteE} {js : List JudgeE} {run : List UInt8} {t : Int} : Told q (rulS vs js q run t 0):=by
 refine ⟨by simp [rulS,sumK],by simp [rulS,sumK],?_⟩
 show (0 : Int) = decF q 0 0
 unfold decF
 rw [if_pos (by omega)]
theorem rulS_succ (vs : List VoteE) (js : List JudgeE) (q : QuoE) (run : List UInt8) (t : Int) (i : Nat) : rulS vs js q run t (i + 1) = if relB run t (vs.getD i default) then
      if moreB vs run i then ⟨lastU js (rulS vs js q run t i).L (vs.getD i default), (rulS vs js q run t i).how, (rulS vs js q run t i).since, (rulS vs js q run t i).yes, (rulS vs js q run t i).no⟩
      else rulTell q (vs.getD i default).at_ ⟨lastU js (rulS vs js q run t i).L (vs.getD i default), (rulS vs js q run t i).how, (rulS vs js q run t i).since, (rulS vs js q run t i).yes, (rulS vs js q run t i).no⟩
    else rulS vs js q run t i := rfl
theorem rulS_L (vs : List VoteE) (js : List JudgeE) (q : QuoE) (run : List UInt8) (t : Int) : ∀ i,i ≤ vs.length → (rulS vs js q run t i).L = ((vs.take i).filter (relB run t)).foldl (lastU js) L00
 | 0,_ => by simp [rulS,L00]
 | i + 1,h => by
  have ih:=rulS_L vs js q run t i (by omega)
  have hi : i < vs.length:=by omega
  have e : vs.take (i + 1) = vs.take i ++ [vs.getD i default]:=by
   rw [List.take_add_one,List.getElem?_eq_getElem hi,getDV hi]; rfl
  rw [e,List.filter_append,List.foldl_append,← ih,rulS_succ]
  by_cases h1 : relB run t (vs.getD i default) = true
  ·rw [if_pos h1,List.filter_cons_of_pos h1]
   by_cases h2 : moreB vs run i = true
   ·rw [if_pos h2]; rfl
   ·rw [if_neg h2,rulTell_L]; rfl
  ·rw [if_neg h1,List.filter_cons_of_neg h1]; rfl
theorem rulS_told {vs : List VoteE} {js : List JudgeE} {q : QuoE} {run : List UInt8} {t : Int} (hq : 1 ≤ q.least) : ∀ i,i ≤ vs.length → (∀ j,i = j + 1 → ¬ (relB run t (vs.getD j default) = true ∧ moreB vs run j = true)) → Told q (rulS vs js q run t i)
 | 0,_,_ => told_0 hq
 | i + 1,h,h0 => by
  have h9:=h0 i rfl
  have ih:=rulS_told (vs:=vs) (js:=js) (t:=t) (run:=run) hq i (by omega)
  rw [rulS_succ]
  by_cases h1 : relB run t (vs.getD i default) = true
  ·rw [if_pos h1,if_neg (fun h2 => h9 ⟨h1,h2⟩)]
   exact rulTell_told _ _ _
  ·rw [if_neg h1]
   refine ih (fun j hj => ?_)
   subst hj
   rintro ⟨h2,h3⟩
   apply h1
   unfold moreB at h3
   unfold relB at h2 ⊢
   simp only [Bool.and_eq_true,decide_eq_true_eq] at h2 h3 ⊢
   exact ⟨h3.1.2,by rw [h3.2]; exact h2.2⟩
theorem ruledF_told {vs : List VoteE} {js : List JudgeE} {q : QuoE} {run : List UInt8} {t : Int} (hq : 1 ≤ q.least) : Told q (ruledF vs js q run t) :=
 rulS_told hq _ (Nat.le_refl _) (fun j hj => by
  rintro ⟨-,h3⟩
  unfold moreB at h3
  simp only [Bool.and_eq_true,decide_eq_true_eq] at h3
  omega)
theorem ruledF_L (vs : List VoteE) (js : List JudgeE) (q : QuoE) (run : List UInt8) (t : Int) : (ruledF vs js q run t).L = (vs.filter (relB run t)).foldl (lastU js) L00:=by
 unfold ruledF
 rw [rulS_L _ _ _ _ _ _ (Nat.le_refl _),List.take_length]
def newJ (js : List JudgeE) (n : Int) : List JudgeE:=js ++ [⟨zzW,200,300,n⟩]
def newV (vs : List VoteE) (t : Int) : List VoteE:=vs.filter (relB r1W t) ++ [⟨r1W,zzW,200,1⟩]
theorem weightF_old (js : List JudgeE) (n : Int) {who : List UInt8} (h : who ≠ zzW) (t : Int) : weightF (newJ js n) who t = weightF js who t:=by
 unfold weightF newJ
 rw [List.find?_append]
 cases hf : js.find? fun x => x.who == who && decide (x.frm ≤ t) && decide (t < x.to_) with
 | some x => rfl
 | none =>
  have : ([⟨zzW,200,300,n⟩] : List JudgeE).find? (fun x => x.who == who && decide (x.frm ≤ t) && decide (t < x.to_)) = none:=by
   rw [List.find?_cons_of_neg (by
    have : (zzW == who) = false:=by simpa using fun e => h e.symm
    simp [this])]
   rfl
  rw [this]; rfl
theorem weightF_new (js : List JudgeE) (n : Int) (h : ∀ j ∈ js,j.who ≠ zzW) : weightF (newJ js n) zzW 200 = n:=by
 unfold weightF newJ
 rw [List.find?_append]
 have : js.find? (fun x => x.who == zzW && decide (x.frm ≤ 200) && decide (200 < x.to_)) = none:=by
  rw [List.find?_eq_none]
  intro x hx
  have:=h x hx
  simp [this]
 rw [this]
 rfl
theorem fold_same {js js' : List JudgeE} : ∀ (l : List VoteE) (L : LastE),(∀ v ∈ l,weightF js' v.who v.at_ = weightF js v.who v.at_) → l.foldl (lastU js') L = l.foldl (lastU js) L
 | [],_,_ => rfl
 | v :: l,L,h => by
  rw [List.foldl_cons,List.foldl_cons]
  have : lastU js' L v = lastU js L v:=by unfold lastU; rw [h v (by simp)]
  rw [this]
  exact fold_same l _ (fun x hx => h x (by simp [hx]))
theorem fold_K {js : List JudgeE} : ∀ (l : List VoteE) (L : LastE) (x : List UInt8),x ∈ (l.foldl (lastU js) L).K → x ∈ L.K ∨ ∃ v ∈ l,v.who = x
 | [],_,_,h => .inl h
 | v :: l,L,x,h => by
  rw [List.foldl_cons] at h
  rcases fold_K l _ x h with h1 | ⟨u,hu,e⟩
  ·unfold lastU lastPut at h1
   split at h1
   ·simp only at h1
    split at h1
    ·exact .inl h1
    ·rcases List.mem_append.1 h1 with h2 | h2
     ·exact .inl h2
     ·simp at h2; exact .inr ⟨v,by simp,h2.symm⟩
   ·exact .inl h1
  ·exact .inr ⟨u,by simp [hu],e⟩
theorem sumK_put {L : LastE} {x : List UInt8} (hx : x ∉ L.K) (kd wt kind : Int) : sumK (lastPut L x kd wt) kind (lastPut L x kd wt).K = sumK L kind L.K + if kd = kind then wt else 0:=by
 unfold lastPut sumK
 simp only [if_neg hx,List.map_append,List.sum_append,List.map_cons,List.map_nil,List.sum_cons,List.sum_nil,if_true,Int.add_zero]
 congr 2
 apply List.map_congr_left
 intro k hk
 have : k ≠ x:=fun e => hx (e ▸ hk)
 rw [if_neg this]
theorem filter_newV (vs : List VoteE) {t : Int} (ht : t ≤ 60) : (newV vs t).filter (relB r1W 200) = newV vs t:=by
 rw [List.filter_eq_self]
 intro v hv
 unfold newV at hv
 rcases List.mem_append.1 hv with h | h
 ·have:=(List.mem_filter.1 h).2
  unfold relB at this ⊢
  simp only [Bool.and_eq_true,decide_eq_true_eq] at this ⊢
  exact ⟨this.1,by omega⟩
 ·simp at h; subst h
  decide
theorem need_how {vs : List VoteE} {js : List JudgeE} {q : QuoE} {t n : Int} (hq : 1 ≤ q.least) (hv : ∀ v ∈ vs,v.who ≠ zzW) (hj : ∀ j ∈ js,j.who ≠ zzW) (ht : t ≤ 60) (hn : 1 ≤ n) :
  (ruledF (newV vs t) (newJ js n) q r1W 200).how = decF q ((ruledF vs js q r1W t).yes + n) (ruledF vs js q r1W t).no:=by
 have h1:=ruledF_told (vs:=newV vs t) (js:=newJ js n) (run:=r1W) (t:=200) hq
 have h2:=ruledF_told (vs:=vs) (js:=js) (run:=r1W) (t:=t) hq
 have hF : ∀ v ∈ vs.filter (relB r1W t),v.who ≠ zzW:=fun v hv' => hv v (List.mem_filter.1 hv').1
 have hL : (ruledF (newV vs t) (newJ js n) q r1W 200).L = lastPut (ruledF vs js q r1W t).L zzW 1 n:=by
  rw [ruledF_L,filter_newV vs ht,ruledF_L]
  unfold newV
  rw [List.foldl_append,fold_same (js:=js) _ _ (fun v hv' => weightF_old js n (hF v hv') _)]
  show lastU _ _ _ = _
  unfold lastU
  simp only [weightF_new js n hj]
  rw [if_pos (by omega)]
 have hK : zzW ∉ (ruledF vs js q r1W t).L.K:=fun h => by
  rw [ruledF_L] at h
  rcases fold_K _ _ _ h with h | ⟨v,hv',e⟩
  ·simp [L00] at h
  ·exact hF v hv' e
 rw [h1.how,h1.yes,h1.no,hL,sumK_put hK,sumK_put hK,h2.yes,h2.no]
 simp
theorem voteAt_0 {vs : List VoteE} {k : Nat} (hk : k < vs.length) (h : voteAt vs k = 0) : (keyB vs[k].run = true ∧ keyB vs[k].who = true) ∧ (0 ≤ vs[k].at_ ∧ vs[k].at_ ≤ 345686399999) ∧ (1 ≤ vs[k].kind ∧ vs[k].kind ≤ 3) ∧ (0 < k → ltV (vs.getD (k - 1) default) vs[k]):=by
 unfold voteAt at h
 rw [getDV hk] at h
 split at h
 ·cases h
 ·rename_i h1
  split at h
  ·cases h
  ·rename_i h2
   split at h
   ·cases h
   ·rename_i h3
    split at h
    ·cases h
    ·rename_i h4
     refine ⟨?_,by omega,by omega,fun h5 => Classical.byContradiction fun h6 => h4 ⟨h5,h6⟩⟩
     simp only [Bool.or_eq_true,Bool.not_eq_true',not_or,Bool.not_eq_false] at h1
     exact h1
structure VOk (v : VoteE) : Prop where
  run : keyB v.run = true
  who : keyB v.who = true
  lo : 0 ≤ v.at_
  hi : v.at_ ≤ 345686399999
  k1 : 1 ≤ v.kind
  k3 : v.kind ≤ 3
theorem pair_of_step {α : Type} {lt : α → α → Prop} (tr : ∀ x y z,lt x y → lt y z → lt x z) : ∀ (l : List α),(∀ k (a b : α),l[k]? = some a → l[k + 1]? = some b → lt a b) → l.Pairwise lt
 | [],_ => List.Pairwise.nil
 | [x],_ => by simp
 | x :: y :: l,h => by
  have ih:=pair_of_step tr (y :: l) (fun k a b ha hb => h (k + 1) a b ha hb)
  have h0 : lt x y:=h 0 x y rfl rfl
  refine List.Pairwise.cons (fun z hz => ?_) ih
  rcases List.mem_cons.1 hz with e | hz'
  ·rw [e]; exact h0
  ·exact tr _ _ _ h0 ((List.pairwise_cons.1 ih).1 z hz')
theorem votesE_iff (vs : List VoteE) : votesE vs = 0 ↔ vs.length ≤ 500 ∧ (∀ v ∈ vs,VOk v) ∧ vs.Pairwise ltV:=by
 constructor
 ·intro h
  have hl:=votesE_le h
  unfold votesE at h
  rw [if_neg (by omega)] at h
  have h0:=scanF_0 h
  refine ⟨hl,fun v hv => ?_,pair_of_step (lt:=ltV) (fun _ _ _ => ltV_trans) _ (fun k a b ha hb => ?_)⟩
  ·obtain ⟨k,hk,rfl⟩:=List.mem_iff_getElem.1 hv
   obtain ⟨⟨a,b⟩,⟨c,d⟩,⟨e,f⟩,-⟩:=voteAt_0 hk (h0 k hk)
   exact ⟨a,b,c,d,e,f⟩
  ·obtain ⟨hk,rfl⟩:=List.getElem?_eq_some_iff.1 hb
   obtain ⟨hk2,rfl⟩:=List.getElem?_eq_some_iff.1 ha
   have:=(voteAt_0 hk (h0 _ hk)).2.2.2 (by omega)
   rw [show k + 1 - 1 = k by omega,getDV (by omega)] at this
   exact this
 ·rintro ⟨hl,h1,h2⟩
  refine votesE_none (by omega) (fun k hk => ?_)
  have h3:=h1 vs[k] (List.getElem_mem hk)
  unfold voteAt
  rw [getDV hk,if_neg (by rw [h3.run,h3.who]; simp),if_neg (by have:=h3.lo; have:=h3.hi; omega),if_neg (by have:=h3.k1; have:=h3.k3; omega),if_neg]
  rintro ⟨h4,h5⟩
  apply h5
  rw [getDV (by omega)]
  exact List.pairwise_iff_getElem.1 h2 (k - 1) k (by omega) hk (by omega)
theorem votes_new {vs : List VoteE} {t : Int} (h : votesE vs = 0) (hl : vs.length ≤ 400) (ht : t ≤ 60) : votesE (newV vs t) = 0:=by
 obtain ⟨-,h1,h2⟩:=(votesE_iff vs).1 h
 refine (votesE_iff _).2 ⟨?_,fun v hv => ?_,?_⟩
 ·unfold newV
  have:=List.length_filter_le (relB r1W t) vs
  simp; omega
 ·unfold newV at hv
  rcases List.mem_append.1 hv with hv | hv
  ·exact h1 v (List.mem_filter.1 hv).1
  ·simp at hv; subst hv
   exact ⟨by decide,by decide,by decide,by decide,by decide,by decide⟩
 ·unfold newV
  rw [List.pairwise_append]
  refine ⟨h2.filter _,by simp,fun x hx y hy => ?_⟩
  simp at hy; subst hy
  have:=(List.mem_filter.1 hx).2
  unfold relB at this
  simp only [Bool.and_eq_true,decide_eq_true_eq] at this
  exact .inr ⟨this.1,.inl (by show x.at_ < 200; omega)⟩
theorem judges_new {js : List JudgeE} {q : QuoE} {n : Int} (h : judgesE js q = 0) (hl : js.length ≤ 400) (hj : ∀ j ∈ js,j.who < zzW) (h1 : 1 ≤ n) (h2 : n ≤ 1000) : judgesE (newJ js n) q = 0:=by
 obtain ⟨-,-,h0,hq⟩:=judgesE_ok h
 have hs : scanF (judgeAt (newJ js n)) (newJ js n).length = 0:=by
  refine scanF_none (fun k hk => ?_)
  unfold newJ at hk ⊢
  rw [List.length_append] at hk
  simp only [List.length_cons,List.length_nil] at hk
  by_cases h3 : k < js.length
  ·have:=h0 k h3
   unfold judgeAt at this ⊢
   have e1 : (js ++ [(⟨zzW,200,300,n⟩ : JudgeE)]).getD k default = js.getD k default:=by simp [List.getD,List.getElem?_append_left h3]
   have e2 : (js ++ [(⟨zzW,200,300,n⟩ : JudgeE)]).getD (k - 1) default = js.getD (k - 1) default:=by simp [List.getD,List.getElem?_append_left (show k - 1 < js.length by omega)]
   rw [e1,e2]
   exact this
  ·have hk2 : k = js.length:=by omega
   subst hk2
   unfold judgeAt
   have e1 : (js ++ [(⟨zzW,200,300,n⟩ : JudgeE)]).getD js.length default = ⟨zzW,200,300,n⟩:=by simp [List.getD]
   rw [e1,if_neg (by show ¬ (!keyB zzW) = true; decide),if_neg (by show ¬ ((200 : Int) < 0 ∨ (300 : Int) < 200 ∨ (345686400000 : Int) < 300 ∨ n < 1 ∨ 1000 < n); omega)]
   have hp : ∀ (hk0 : 0 < js.length),((js ++ [(⟨zzW,200,300,n⟩ : JudgeE)]).getD (js.length - 1) default).who < zzW:=fun hk0 => by
    have e3 : (js ++ [(⟨zzW,200,300,n⟩ : JudgeE)]).getD (js.length - 1) default = js[js.length - 1]'(by omega):=by
     rw [List.getD,List.getElem?_append_left (by omega),List.getElem?_eq_getElem (by omega)]; rfl
    rw [e3]
    exact hj _ (List.getElem_mem _)
   rw [if_neg (by
    rintro ⟨h4,h5⟩
    exact h5 (.inl (hp h4))),if_neg (by
    rintro ⟨h4,h5,-⟩
    have:=hp h4
    rw [h5] at this
    exact ltS_irr _ this)]
 unfold judgesE
 rw [if_neg (by unfold newJ; simp; omega),if_neg (fun hh => hh hs),hq]
end Go.Proofs.YtajfecnfhoendaaGreatDoor
