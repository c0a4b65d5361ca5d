/- Texts of this seat, laid together: VoF. -/
import Derived.Deep.DeepCutAuto
import Derived.Deep.CutRange
import Derived.BigQuiet
import Derived.Test.YtgeaeockmadhcaaGreatDoorBp22
import Derived.Test.YtgeaeockmadhcaaGreatDoorBp17
import Derived.Test.YtgeaeockmadhcaaGreatDoorBp19
/- The walk of ruled: what is decided of a run at a moment. -/
namespace Go.Proofs.YtgeaeockmadhcaaGreatDoor
set_option linter.unusedVariables false
set_option linter.unusedSimpArgs false
open Go.RowKit Go.Maps

def sumF (c : List UInt8 → Int) (K : List (List UInt8)) (p : List UInt8 → Bool) : Int:=((K.filter p).map c).sum
theorem sumF_congr {c : List UInt8 → Int} {K : List (List UInt8)} {p q : List UInt8 → Bool} (h : ∀ y ∈ K,p y = q y) : sumF c K p = sumF c K q:=by
 unfold sumF; rw [List.filter_congr h]
theorem sumF_step {c : List UInt8 → Int} {x : List UInt8} {p p' : List UInt8 → Bool} (hp : p x = false) (h' : ∀ y,p' y = (p y || decide (y = x))) : ∀ {K : List (List UInt8)},K.Nodup → x ∈ K → sumF c K p' = sumF c K p + c x
 | [],_,h => by simp at h
 | k :: K,hn,hx => by
  rw [List.nodup_cons] at hn
  by_cases hk : k = x
  ·subst hk
   have e1 : p' k = true:=by rw [h']; simp
   have e2 : sumF c K p' = sumF c K p:=sumF_congr (fun y hy => by rw [h',decide_eq_false (fun e : y = k => hn.1 (by rw [← e]; exact hy)),Bool.or_false])
   have e3 : sumF c (k :: K) p' = c k + sumF c K p':=by unfold sumF; rw [List.filter_cons_of_pos e1,List.map_cons,List.sum_cons]
   have e4 : sumF c (k :: K) p = sumF c K p:=by unfold sumF; rw [List.filter_cons_of_neg (by rw [hp]; simp)]
   rw [e3,e4,e2]; omega
  ·have hx' : x ∈ K:=by rcases List.mem_cons.1 hx with e | e; exact absurd e.symm hk; exact e
   have ih:=sumF_step (c:=c) hp h' hn.2 hx'
   have e1 : p' k = p k:=by rw [h',decide_eq_false hk,Bool.or_false]
   cases hpk : p k with
   | true =>
    have e3 : sumF c (k :: K) p' = c k + sumF c K p':=by unfold sumF; rw [List.filter_cons_of_pos (by rw [e1,hpk]),List.map_cons,List.sum_cons]
    have e4 : sumF c (k :: K) p = c k + sumF c K p:=by unfold sumF; rw [List.filter_cons_of_pos hpk,List.map_cons,List.sum_cons]
    rw [e3,e4,ih]; omega
   | false =>
    have e3 : sumF c (k :: K) p' = sumF c K p':=by unfold sumF; rw [List.filter_cons_of_neg (by rw [e1,hpk]; simp)]
    have e4 : sumF c (k :: K) p = sumF c K p:=by unfold sumF; rw [List.filter_cons_of_neg (by rw [hpk]; simp)]
    rw [e3,e4,ih]
theorem sumF_bd {c : List UInt8 → Int} (h : ∀ y,0 ≤ c y ∧ c y ≤ 1000) (p : List UInt8 → Bool) : ∀ K : List (List UInt8),0 ≤ sumF c K p ∧ sumF c K p ≤ 1000 * (K.length : Int)
 | [] => by simp [sumF]
 | k :: K => by
  have ih:=sumF_bd h p K
  have hk:=h k
  rw [List.length_cons]
  cases hpk : p k with
  | true =>
   have e : sumF c (k :: K) p = c k + sumF c K p:=by unfold sumF; rw [List.filter_cons_of_pos hpk,List.map_cons,List.sum_cons]
   rw [e]; push_cast; omega
  | false =>
   have e : sumF c (k :: K) p = sumF c K p:=by unfold sumF; rw [List.filter_cons_of_neg (by rw [hpk]; simp)]
   rw [e]; push_cast; omega
def cK (L : LastE) (kind : Int) (k : List UInt8) : Int:=if (L.f k).1 = kind then (L.f k).2 else 0
theorem sumF_all (L : LastE) (kind : Int) {p : List UInt8 → Bool} (h : ∀ y,p y = true) : sumF (cK L kind) L.K p = sumK L kind L.K:=by
 unfold sumF sumK
 rw [List.filter_eq_self.2 (fun y _ => h y)]; rfl
theorem sumF_none (L : LastE) (kind : Int) {p : List UInt8 → Bool} (h : ∀ y ∈ L.K,p y = false) : sumF (cK L kind) L.K p = 0:=by
 unfold sumF
 rw [List.filter_eq_nil_iff.2 (fun y hy => by rw [h y hy]; simp)]; rfl
def LSm (L : LastE) (k : Nat) : Prop:=L.K.length ≤ k ∧ ∀ y,0 ≤ (L.f y).2 ∧ (L.f y).2 ≤ 1000
theorem cK_bd {L : LastE} {k : Nat} (h : LSm L k) (kind : Int) (y : List UInt8) : 0 ≤ cK L kind y ∧ cK L kind y ≤ 1000:=by
 unfold cK
 have:=h.2 y
 split <;> omega
theorem LSm.last {js : List JudgeE} {L : LastE} {k : Nat} (h : LSm L k) (hw : ∀ j ∈ js,0 ≤ j.wt ∧ j.wt ≤ 1000) (v : VoteE) : LSm (lastU js L v) (k + 1):=by
 unfold lastU
 split
 ·refine ⟨?_,fun y => ?_⟩
  ·show (if v.who ∈ L.K then L.K else L.K ++ [v.who]).length ≤ k + 1
   have:=h.1
   split <;> simp <;> omega
  ·show 0 ≤ (if y = v.who then (v.kind,weightF js v.who v.at_) else L.f y).2 ∧ (if y = v.who then (v.kind,weightF js v.who v.at_) else L.f y).2 ≤ 1000
   have h1:=h.2 y
   have h2:=weightF_bd hw v.who v.at_
   split
   ·exact h2
   ·exact h1
 ·exact ⟨by have:=h.1; omega,h.2⟩
theorem rulS_skip {vs : List VoteE} {js : List JudgeE} {q : QuoE} {run : List UInt8} {t : Int} {k : Nat} (h : relB run t (vs.getD k default) = false) : rulS vs js q run t (k + 1) = rulS vs js q run t k:=by
 show (if relB run t (vs.getD k default) then _ else _) = _
 rw [if_neg (by rw [h]; simp)]
theorem rulS_more {vs : List VoteE} {js : List JudgeE} {q : QuoE} {run : List UInt8} {t : Int} {k : Nat} (h : relB run t (vs.getD k default) = true) (hm : moreB vs run k = true) : rulS vs js q run t (k + 1) = ⟨lastU js (rulS vs js q run t k).L (vs.getD k default),(rulS vs js q run t k).how,(rulS vs js q run t k).since,(rulS vs js q run t k).yes,(rulS vs js q run t k).no⟩:=by
 show (if relB run t (vs.getD k default) then _ else _) = _
 rw [if_pos h,if_pos hm]
theorem rulS_tell {vs : List VoteE} {js : List JudgeE} {q : QuoE} {run : List UInt8} {t : Int} {k : Nat} (h : relB run t (vs.getD k default) = true) (hm : moreB vs run k = false) : rulS vs js q run t (k + 1) = rulTell q (vs.getD k default).at_ ⟨lastU js (rulS vs js q run t k).L (vs.getD k default),(rulS vs js q run t k).how,(rulS vs js q run t k).since,(rulS vs js q run t k).yes,(rulS vs js q run t k).no⟩:=by
 show (if relB run t (vs.getD k default) then _ else _) = _
 rw [if_pos h,if_neg (by rw [hm]; simp)]
theorem res_rul (fn : Func) (s : Nat) (tmps : Array Value) (w : World) (m : Nat) (a : List UInt8) (x y z u : Int) (e : fn.results = #[.cell s 56]) (hx : tmps.getD s undef = .pointer (some ⟨m,0,none⟩)) (f0 : w.cell? ⟨m,0,none⟩ = some (.string ⟨a.toArray⟩)) (f1 : w.cell? ⟨m,1,none⟩ = some (.int .i64 x)) (f2 : w.cell? ⟨m,2,none⟩ = some (.int .i64 y)) (f3 : w.cell? ⟨m,3,none⟩ = some (.int .i64 z)) (f4 : w.cell? ⟨m,4,none⟩ = some (.int .i64 u)) :
  (results fn tmps).run Tryz.prog w = .ok (.agg #[.string ⟨a.toArray⟩,.int .i64 x,.int .i64 y,.int .i64 z,.int .i64 u]) w:=by
 have hx' : tmps[s]?.getD undef = .pointer (some ⟨m,0,none⟩):=by simpa using hx
 simp [results,e,hx',go_sem,f0,f1,f2,f3,f4]
def rulZ : Array Value:=#[.string ⟨#[]⟩,.int .i64 0,.int .i64 0,.int .i64 0,.int .i64 0]
structure RuC (w W : World) (qb rb mb ob n : Nat) (q : QuoE) (run : List UInt8) (L : LastE) (how since yes no : Int) : Prop where
  q : Blk W qb 33 #[.int .i64 q.least, .int .i64 q.num, .int .i64 q.den]
  r : Blk W rb 56 rulZ
  m : MapV W mb n L
  o : Blk W ob 56 #[.string ⟨run.toArray⟩, .int .i64 how, .int .i64 since, .int .i64 yes, .int .i64 no]
  x : Below w.heap.size w W
section
variable {w W W' : World} {qb rb mb ob n : Nat} {q : QuoE} {run : List UInt8} {L L' : LastE} {how since yes no : Int}
theorem RuC.below (h : RuC w W qb rb mb ob n q run L how since yes no) (hb : Below W.heap.size W W') : RuC w W' qb rb mb ob n q run L how since yes no :=
 ⟨h.q.below hb,h.r.below hb,h.m.below hb,h.o.below hb,below_up h.x hb⟩
theorem RuC.mono {k : Nat} (h : RuC w W qb rb mb ob n q run L how since yes no) (hk : n ≤ k) : RuC w W qb rb mb ob k q run L how since yes no:=⟨h.q,h.r,h.m.mono hk,h.o,h.x⟩
theorem RuC.put (h : RuC w W qb rb mb ob n q run L how since yes no) {k : Nat} (hm : MapV W' mb k L') (hg : W.grownBy W' (some mb)) (h1 : qb ≠ mb) (h2 : rb ≠ mb) (h3 : ob ≠ mb) (h4 : w.heap.size ≤ mb) : RuC w W' qb rb mb ob k q run L' how since yes no :=
 ⟨(hg.block _ h.q.lt (fun e => h1 (by injection e))).trans h.q,(hg.block _ h.r.lt (fun e => h2 (by injection e))).trans h.r,hm,(hg.block _ h.o.lt (fun e => h3 (by injection e))).trans h.o,h.x.grown hg h.x.size (fun k hk => by injection hk with hk; omega)⟩
theorem RuC.other {g : Nat} (h : RuC w W qb rb mb ob n q run L how since yes no) (hg : W.grownBy W' (some g)) (h1 : qb ≠ g) (h2 : rb ≠ g) (h3 : ob ≠ g) (h4 : mb ≠ g) (h5 : w.heap.size ≤ g) : RuC w W' qb rb mb ob n q run L how since yes no :=
 ⟨(hg.block _ h.q.lt (fun e => h1 (by injection e))).trans h.q,(hg.block _ h.r.lt (fun e => h2 (by injection e))).trans h.r,h.m.kept hg (fun e => h4 (by injection e)),(hg.block _ h.o.lt (fun e => h3 (by injection e))).trans h.o,h.x.grown hg h.x.size (fun k hk => by injection hk with hk; omega)⟩
theorem RuC.gn (h : RuC w W qb rb mb ob n q run L how since yes no) (hg : W.grownBy W' none) : RuC w W' qb rb mb ob n q run L how since yes no :=
 ⟨(hg.block _ h.q.lt (fun e => by cases e)).trans h.q,(hg.block _ h.r.lt (fun e => by cases e)).trans h.r,h.m.kept hg (by simp),(hg.block _ h.o.lt (fun e => by cases e)).trans h.o,h.x.grown hg h.x.size (fun k hk => by cases hk)⟩
theorem RuC.set (h : RuC w W qb rb mb ob n q run L how since yes no) (h1 : qb ≠ ob) (h2 : rb ≠ ob) (h3 : mb ≠ ob) (h4 : w.heap.size ≤ ob) (i : Nat) (u : Value) {how' since' yes' no' : Int} (e : (#[.string ⟨run.toArray⟩,.int .i64 how,.int .i64 since,.int .i64 yes,.int .i64 no] : Array Value).setIfInBounds i u = #[.string ⟨run.toArray⟩,.int .i64 how',.int .i64 since',.int .i64 yes',.int .i64 no']) : RuC w (W.setCell ⟨ob,i,none⟩ u) qb rb mb ob n q run L how' since' yes' no' :=
 ⟨h.q.past ob i u h1,h.r.past ob i u h2,h.m.kept (row:=some ob) (grown_set (World.grownBy.refl _ _) i u) (fun e => h3 (by injection e)),by rw [← e]; exact h.o.poke i u,h.x.setCell (p:=⟨ob,i,none⟩) h4 u⟩
theorem RuC.cells (h : RuC w W qb rb mb ob n q run L how since yes no) : W.cell? ⟨ob,1,none⟩ = some (.int .i64 how) ∧ W.cell? ⟨ob,2,none⟩ = some (.int .i64 since) ∧ W.cell? ⟨ob,3,none⟩ = some (.int .i64 yes) ∧ W.cell? ⟨ob,4,none⟩ = some (.int .i64 no) ∧ W.cell? ⟨ob,0,none⟩ = some (.string ⟨run.toArray⟩):=⟨h.o.cell 1,h.o.cell 2,h.o.cell 3,h.o.cell 4,h.o.cell 0⟩
end
set_option maxHeartbeats 8000000 in
set_option maxRecDepth 100000 in
theorem ruled_any (lo lo' c c' : Nat) (A B : Option Addr) (vs : List VoteE) (js : List JudgeE) (q : QuoE) (run : List UInt8) (t : Int) (w : World) (hA : Row w lo 4 A vs.length (vs.flatMap encV)) (hB : Row w lo' 4 B js.length (js.flatMap encJ)) (hl : vs.length ≤ 600) (hj : js.length ≤ 600) (hs : ∀ v ∈ vs,v.who.length ≤ 1000000)
  (hw : ∀ j ∈ js,0 ≤ j.wt ∧ j.wt ≤ 1000) (hqn : 0 ≤ q.num ∧ q.num ≤ 1000) (hqd : 0 ≤ q.den ∧ q.den ≤ 1000) :
  Calls Tryz.prog 60 #[.slice A vs.length c,.slice B js.length c',quoV q,.string ⟨run.toArray⟩,.int .i64 t] w fun e w' => e = .returned (rulV run (ruledF vs js q run t)) ∧ Below w.heap.size w w':=by
 have HW:=Lib.hid hw
 have HA:=Lib.hid hA
 have HB:=Lib.hid hB
 have HSS:=Lib.hid hs
 have HQ:=Lib.hid (And.intro hqn hqd)
 have hC0 : RuC w ((((w.alloc (.cells #[.int .i64 q.least,.int .i64 q.num,.int .i64 q.den] 33)).alloc (.cells rulZ 56)).alloc (.map #[] 0)).alloc (.cells #[.string ⟨run.toArray⟩,.int .i64 0,.int .i64 0,.int .i64 0,.int .i64 0] 56)) w.heap.size (w.heap.size + 1) (w.heap.size + 1 + 1) (w.heap.size + 1 + 1 + 1) 0 q run ⟨[],fun _ => (0,0)⟩ 0 0 0 0:=by
  refine ⟨(((Blk.new _ _ _).alloc _).alloc _).alloc _,((Blk.at1 _ (by simp)).alloc _).alloc _,?_,Blk.at1 _ (by simp),(by repeat (first | exact Below.refl _ _ | refine Below.alloc ?_ (by first | omega | (simp; omega) | simp) _ | refine below_drewN' ?_ _ | refine Below.drew ?_))⟩
  have:=(MapV.made ((w.alloc (.cells #[.int .i64 q.least,.int .i64 q.num,.int .i64 q.den] 33)).alloc (.cells rulZ 56))).alloc (.cells #[.string ⟨run.toArray⟩,.int .i64 0,.int .i64 0,.int .i64 0,.int .i64 0] 56)
  simpa using this
 have HRF : Hid (ruledF vs js q run t = rulS vs js q run t vs.length):=Lib.hid rfl
 clear hw hA hB hs hqn hqd
 unfold quoV rulV
 have hmm:=@run_makeMap Tryz.prog
 go_enter Tryz.func60,Tryz.ntmps60
 go_upto_region 3 with (fail)
 rw [show (#[.string ⟨#[]⟩,.int .i64 0,.int .i64 0,.int .i64 0,.int .i64 0] : Array Value) = rulZ from rfl]
 generalize ((((w.alloc (.cells #[.int .i64 q.least,.int .i64 q.num,.int .i64 q.den] 33)).alloc (.cells rulZ 56)).alloc (.map #[] 0)).alloc (.cells #[.string ⟨run.toArray⟩,.int .i64 0,.int .i64 0,.int .i64 0,.int .i64 0] 56)) = w0 at *
 obtain ⟨qb,hqb⟩ : ∃ qb,qb = w.heap.size:=⟨_,rfl⟩
 obtain ⟨rb,hrb⟩ : ∃ rb,rb = w.heap.size + 1:=⟨_,rfl⟩
 obtain ⟨mb,hmb⟩ : ∃ mb,mb = rb + 1:=⟨_,rfl⟩
 obtain ⟨ob,hob⟩ : ∃ ob,ob = mb + 1:=⟨_,rfl⟩
 rw [← hrb,← hmb,← hob] at hC0
 simp only [← hrb]
 simp only [← hmb]
 simp only [← hob]
 have hC0 : RuC w w0 qb rb mb ob 0 q run ⟨[],fun _ => (0,0)⟩ 0 0 0 0:=by rw [hqb]; exact hC0
 rw [← hqb]
 have n1 : qb < rb:=by omega
 have n2 : rb < mb:=by omega
 have n3 : mb < ob:=by omega
 have n4 : w.heap.size ≤ qb:=by omega
 clear hob hmb hrb hqb
 have HS0 : Hid (LSm ⟨[],fun _ => (0,0)⟩ 0):=Lib.hid ⟨by simp,fun y => by simp⟩
 go_wp2_with fail
 go_loopw [24] (fun i wr => ∃ (k : Nat) (R : RulE),k ≤ vs.length ∧ i = .int .i64 k ∧ Hid (R = rulS vs js q run t k) ∧ Hid (LSm R.L k) ∧ RuC w wr qb rb mb ob k q run R.L R.how R.since R.yes R.no) (fun i _ => vs.length - (intOf i).toNat)
 case atStart => exact ⟨0,⟨⟨[],fun _ => (0,0)⟩,0,0,0,0⟩,Nat.zero_le _,rfl,Lib.hid rfl,HS0,hC0⟩
 case round =>
  clear hC0 HS0
  obtain ⟨k,R,hk,rfl,HR,HSm,hC⟩:=hrel
  obtain ⟨L,how,since,yes,no⟩:=R
  dsimp only at HSm hC
  have hsz:=hC.x.size
  by_cases hkn : k < vs.length
  ·obtain ⟨b,off,rfl,hbs,-,hcell⟩:=votes_at (HA.out.below hC.x) (by omega)
   obtain ⟨y0,y1,y2,y3⟩:=hcell k hkn
   have HWL:=Lib.hid (HSS.out _ (List.getElem_mem hkn))
   have HSK : Hid (∀ v,vs.getD k default = v → relB run t v = false → (⟨L,how,since,yes,no⟩ : RulE) = rulS vs js q run t (k + 1)):=Lib.hid (fun v hv h => by rw [rulS_skip (by rw [hv]; exact h)]; exact HR.out)
   have HMO : Hid (∀ v,vs.getD k default = v → relB run t v = true → moreB vs run k = true → (⟨lastU js L v,how,since,yes,no⟩ : RulE) = rulS vs js q run t (k + 1)):=Lib.hid (fun v hv h hm => by rw [rulS_more (by rw [hv]; exact h) hm,← HR.out,hv])
   have HTE : Hid (∀ v,vs.getD k default = v → relB run t v = true → moreB vs run k = false → rulTell q v.at_ (⟨lastU js L v,how,since,yes,no⟩ : RulE) = rulS vs js q run t (k + 1)):=Lib.hid (fun v hv h hm => by rw [rulS_tell (by rw [hv]; exact h) hm,← HR.out,hv])
   have HGV:=Lib.hid (getDV hkn)
   have HCE : Hid (k + 1 < vs.length → ∃ p,vs.getD (k + 1) default = p ∧ ∀ W,Below w.heap.size w W → W.cell? ⟨b,off + (k + 1) * 4,none⟩ = some (.string ⟨p.run.toArray⟩) ∧ W.cell? ⟨b,off + (k + 1) * 4 + 2,none⟩ = some (.int .i64 p.at_) ∧ b < W.heap.size):=Lib.hid (fun h0 => ⟨vs[k + 1],getDV h0,fun W hW => by
    obtain ⟨b',off',e,g1,-,g2⟩:=votes_at (HA.out.below hW) (by omega)
    injection e with e; injection e with e1 e2
    subst e1 e2
    exact ⟨(g2 (k + 1) h0).1,(g2 (k + 1) h0).2.2.1,g1⟩⟩)
   have hm1 : MapV wr mb k L:=hC.m
   clear hcell HR
   generalize vs[k] = v at *
   have hol:=hC.o.lt
   go_upto_region 6 with (fail)
   have hvb:=Blk.new wr 37 #[.string ⟨v.run.toArray⟩,.string ⟨v.who.toArray⟩,.int .i64 v.at_,.int .i64 v.kind]
   have hba : Below wr.heap.size wr (wr.alloc (.cells #[.string ⟨v.run.toArray⟩,.string ⟨v.who.toArray⟩,.int .i64 v.at_,.int .i64 v.kind] 37)):=(Below.refl _ _).alloc (Nat.le_refl _) _
   replace hC:=hC.below hba
   have hbs2 : b < (wr.alloc (.cells #[.string ⟨v.run.toArray⟩,.string ⟨v.who.toArray⟩,.int .i64 v.at_,.int .i64 v.kind] 37)).heap.size:=by have:=hba.size; omega
   have HC3 : Hid (k + 1 < vs.length → ∃ p,vs.getD (k + 1) default = p ∧ ∀ W,Below w.heap.size w W → W.cell? ⟨b,off + (k + 1) * 4,none⟩ = some (.string ⟨p.run.toArray⟩) ∧ W.cell? ⟨b,off + (k + 1) * 4 + 2,none⟩ = some (.int .i64 p.at_) ∧ b < W.heap.size):=HCE
   generalize wr.alloc (.cells #[.string ⟨v.run.toArray⟩,.string ⟨v.who.toArray⟩,.int .i64 v.at_,.int .i64 v.kind] 37) = wa at *
   generalize wr.heap.size = vb at *
   obtain ⟨v0,v1,v2,v3⟩ : _ ∧ _ ∧ _ ∧ _:=⟨hvb.cell 0,hvb.cell 1,hvb.cell 2,hvb.cell 3⟩
   simp only [Q0,Q2,Q1] at v0 v1 v2 v3
   have vl:=hvb.lt
   clear y0 y1 y2 y3 hba hm1 hbs hsz hbs2 HCE
   by_cases h1 : v.run = run
   ·have d1 : (v.run == run) = true:=by simpa using h1
    by_cases h2 : t < v.at_
    ·have d2 : decide (t < v.at_) = true:=decide_eq_true h2
     have HN:=Lib.hid (HSK.out v HGV.out (by unfold relB; rw [decide_eq_false (show ¬ v.at_ ≤ t by omega),Bool.and_false]))
     have HL:=Lib.hid (show LSm L (k + 1) from ⟨by have:=HSm.out.1; omega,HSm.out.2⟩)
     clear h1 h2
     go_wp2_with fail
     go_roundw
     case rel => exact ⟨k + 1,⟨L,how,since,yes,no⟩,by omega,by go_num,HN,HL,hC.mono (by omega)⟩
     case measure => simp [intOf]; omega
    ·have d2 : decide (t < v.at_) = false:=decide_eq_false h2
     have HREL : Hid (relB run t v = true):=Lib.hid (by unfold relB; rw [decide_eq_true h1,decide_eq_true (show v.at_ ≤ t by omega)]; rfl)
     have HRN:=Lib.hid h1
     clear h1 h2 HSK
     go_wp2_with fail
     refine (weight_any lo' c' B js v.who v.at_ _ (HB.out.below hC.x) (by omega)).mono ?_
     rintro e w2 ⟨rfl,hb2⟩
     replace hC:=hC.below hb2
     replace hvb:=hvb.below hb2
     obtain ⟨wt,hwt⟩ : ∃ wt,wt = weightF js v.who v.at_:=⟨_,rfl⟩
     rw [← hwt]
     have HLU : Hid (lastU js L v = if 0 < wt then lastPut L v.who v.kind wt else L):=Lib.hid (by unfold lastU; rw [← hwt])
     have HSM2:=Lib.hid (HSm.out.last HW.out v)
     have hwl:=HWL.out
     clear hwt hb2 v0 v1 v2 v3 vl HSm
     obtain ⟨v0,v1,v2,v3⟩ : _ ∧ _ ∧ _ ∧ _:=⟨hvb.cell 0,hvb.cell 1,hvb.cell 2,hvb.cell 3⟩
     simp only [Q0,Q2,Q1] at v0 v1 v2 v3
     have vl:=hvb.lt
     go_upto_if 46 with (fail)
     generalize hgb : decide (0 < wt) = gb at *
     have HGB:=Lib.hid hgb
     clear hgb
     go_cut [15] from 47 to 53 (fun u wx => u = .int .i64 wt ∧ RuC w wx qb rb mb ob (k + 1) q run (lastU js L v) how since yes no ∧ Blk wx vb 37 #[.string ⟨v.run.toArray⟩,.string ⟨v.who.toArray⟩,.int .i64 v.at_,.int .i64 v.kind])
     case first =>
      cases gb with
      | true =>
       have hM:=hC.m
       have HL2:=Lib.hid (HLU.out.trans (if_pos (of_decide_eq_true HGB.out)))
       go_wp2_with (first
        | (at_mapUpdate; refine wpList_putV rfl _ _ _ rfl rfl hM (by unfold maxLen; omega) v.who v.kind wt (by unfold maxLen; omega) rfl rfl ?_; intro w3 hM3 hg3)
        | fail)
       go_meet
       refine ⟨rfl,?_,(hg3.block _ hvb.lt (fun e => by injection e with e; omega)).trans hvb⟩
       rw [HL2.out]
       exact hC.put hM3 hg3 (by omega) (by omega) (by omega) (by omega)
      | false =>
       have HL2:=Lib.hid (HLU.out.trans (if_neg (of_decide_eq_false HGB.out)))
       go_wp2_with fail
       go_meet
       refine ⟨rfl,?_,hvb⟩
       rw [HL2.out]
       exact hC.mono (by omega)
     case rest =>
     have HNM:=Lib.hid (HMO.out v HGV.out HREL.out)
     have HNT:=Lib.hid (HTE.out v HGV.out HREL.out)
     clear hC hvb v0 v1 v2 v3 vl hwl HLU HMO HTE
     obtain ⟨rfl,hC,hvb⟩:=hcut
     generalize lastU js L v = L2 at *
     obtain ⟨v0,v1,v2,v3⟩ : _ ∧ _ ∧ _ ∧ _:=⟨hvb.cell 0,hvb.cell 1,hvb.cell 2,hvb.cell 3⟩
     simp only [Q0,Q2,Q1] at v0 v1 v2 v3
     have vl:=hvb.lt
     obtain ⟨mo,hmo⟩ : ∃ mo,mo = moreB vs run k:=⟨_,rfl⟩
     have HMB:=Lib.hid hmo
     clear hmo
     go_upto_region 10 with (fail)
     go_cut [79] from 54 to 78 (fun u wx => u = .bool mo ∧ ∃ n,wx = wc.drewN n)
     case first =>
      obtain ⟨i,hi⟩ : ∃ i,i = k + 1:=⟨_,rfl⟩
      have wk : IntKind.i64.wrap ((k : Int) + 1) = (i : Int):=by rw [IntWalk.i64_in _ ⟨by omega,by omega⟩,hi]; push_cast; rfl
      by_cases hk1 : k + 1 < vs.length
      ·obtain ⟨p,hp,hpc⟩:=HC3.out hk1
       have hil : i < vs.length:=by omega
       obtain ⟨p0,p2,pl⟩:=hpc _ hC.x
       rw [← hi] at p0 p2
       have dk : decide ((i : Int) < (vs.length : Int)) = true:=decide_eq_true (by omega)
       have HMB2 : Hid (mo = (decide (p.run = run) && decide (p.at_ = v.at_))):=Lib.hid (by rw [HMB.out]; unfold moreB; rw [decide_eq_true hk1,hp,HGV.out,Bool.true_and])
       clear hpc hp hi
       by_cases hr : p.run = run
       ·have dr : (p.run == run) = true:=by simpa using hr
        obtain ⟨da,hda⟩ : ∃ da,(p.at_ == v.at_) = da:=⟨_,rfl⟩
        have HO : Hid (mo = da):=Lib.hid (by rw [HMB2.out,decide_eq_true hr,Bool.true_and,← hda]; rfl)
        clear hr HMB2 hk1
        cases da with
        | true =>
         go_quiet (fail)
         go_wp2_with fail
         go_meet
         exact ⟨by rw [HO.out],_,rfl⟩
        | false =>
         go_quiet (fail)
         go_wp2_with fail
         go_meet
         exact ⟨by rw [HO.out],_,rfl⟩
       ·have dr : (p.run == run) = false:=by simpa using hr
        have HO : Hid (mo = false):=Lib.hid (by rw [HMB2.out,decide_eq_false hr,Bool.false_and])
        clear hr HMB2 hk1
        go_quiet (fail)
        go_wp2_with fail
        go_meet
        exact ⟨by rw [HO.out],_,rfl⟩
      ·have dk : decide ((i : Int) < (vs.length : Int)) = false:=decide_eq_false (by omega)
       have dk2 : ¬ i < vs.length:=by omega
       have HO : Hid (mo = false):=Lib.hid (by rw [HMB.out]; unfold moreB; rw [decide_eq_false hk1]; rfl)
       clear hk1 hi
       go_quiet (fail)
       go_wp2_with fail
       go_meet
       exact ⟨by rw [HO.out],_,rfl⟩
     case rest =>
     clear v0 v1 v2 v3 vl
     obtain ⟨rfl,n8,rfl⟩:=hcut
     have hbn:=below_drewN' (Below.refl wc.heap.size wc) n8
     replace hC:=hC.below hbn
     replace hvb:=hvb.below hbn
     clear hbn HC3 HREL
     generalize wc.drewN n8 = wd at *
     cases mo with
     | true =>
      have HN:=Lib.hid (HNM.out HMB.out.symm)
      clear HNM HNT
      go_wp2_with fail
      go_roundw
      case rel => exact ⟨k + 1,⟨L2,how,since,yes,no⟩,by omega,by go_num,HN,HSM2,hC⟩
      case measure => simp [intOf]; omega
     | false =>
      have HN:=Lib.hid (HNT.out HMB.out.symm)
      clear HNM HNT
      obtain ⟨o1,o2,o3,o4,-⟩:=hC.cells
      have f3:=hC.o.thaw 3
      have f4:=hC.o.thaw 4
      have zo:=hC.o.lt
      have hC2:=(hC.set (by omega) (by omega) (by omega) (by omega) 3 (.int .i64 0) (yes':=0) rfl).set (by omega) (by omega) (by omega) (by omega) 4 (.int .i64 0) (no':=0) rfl
      have hvb2:=(hvb.past ob 3 (.int .i64 0) (by omega)).past ob 4 (.int .i64 0) (by omega)
      clear hC hvb
      go_upto_region 12 with (fail)
      generalize (wd.setCell ⟨ob,3,none⟩ (.int .i64 0)).setCell ⟨ob,4,none⟩ (.int .i64 0) = we at *
      clear o1 o2 o3 o4 f3 f4 zo
      have hM:=hC2.m
      have hvl:=hvb2.lt
      go_wp2_with (first
       | (at_range; refine wpList_rangeV rfl _ rfl rfl hM ?_; intro w5 left0 cnt0 hrg0 hl0 hg0 hs0)
       | fail)
      go_frame
      replace hC2:=hC2.gn hg0
      replace hvb2:=(hg0.block _ hvb2.lt (fun e => by cases e)).trans hvb2
      have HK0 : Hid (∀ y,left0 y = true → y ∈ L2.K):=Lib.hid (fun y hy => by rw [hl0 y] at hy; exact of_decide_eq_true hy)
      have HZ0 : Hid (∀ kd,sumF (cK L2 kd) L2.K (fun y => !left0 y) = 0):=Lib.hid (fun kd => sumF_none L2 kd (fun y hy => by show (!left0 y) = false; rw [hl0 y,decide_eq_true hy]; rfl))
      have HMN : Hid (L2.K.Nodup):=Lib.hid (by obtain ⟨D,_,_,_,h4⟩:=hC2.m; exact h4)
      clear hM hg0 hl0 hs0
      generalize we.heap.size = ib at *
      go_loopw [17] (fun _ wq => ∃ (left : List UInt8 → Bool) (cnt : Nat),MapVR wq mb ib (k + 1) L2 left cnt ∧ Hid (∀ y,left y = true → y ∈ L2.K) ∧ RuC w wq qb rb mb ob (k + 1) q run L2 how since (sumF (cK L2 1) L2.K (fun y => !left y)) (sumF (cK L2 2) L2.K (fun y => !left y)) ∧ Blk wq vb 37 #[.string ⟨v.run.toArray⟩,.string ⟨v.who.toArray⟩,.int .i64 v.at_,.int .i64 v.kind]) (fun _ wq => wq.rangeLeft mb ib)
      case atStart => exact ⟨left0,cnt0,hrg0,HK0,by rw [HZ0.out,HZ0.out]; exact hC2,hvb2⟩
      case round =>
       clear hrg0 HK0 HZ0 hC2 hvb2
       obtain ⟨left,cnt,hrg,HK,hC,hvb⟩:=hrel
       obtain ⟨S1,hS1⟩ : ∃ S1,S1 = sumF (cK L2 1) L2.K (fun y => !left y):=⟨_,rfl⟩
       obtain ⟨S2,hS2⟩ : ∃ S2,S2 = sumF (cK L2 2) L2.K (fun y => !left y):=⟨_,rfl⟩
       rw [← hS1,← hS2] at hC
       have b1:=sumF_bd (cK_bd HSM2.out 1) (fun y => !left y) L2.K
       have b2:=sumF_bd (cK_bd HSM2.out 2) (fun y => !left y) L2.K
       rw [← hS1] at b1
       rw [← hS2] at b2
       have hkl:=HSM2.out.1
       have b3 : 0 ≤ S1 ∧ S1 ≤ 1000000:=by omega
       have b4 : 0 ≤ S2 ∧ S2 ≤ 1000000:=by omega
       have HS1:=Lib.hid hS1
       have HS2:=Lib.hid hS2
       clear hS1 hS2 b1 b2 hkl
       go_wp2_with (first
        | (at_next; refine wpList_nextV rfl _ rfl rfl hrg ?_ ?_)
        | fail)
       ·intro hl0
        have HT1 : Hid (S1 = sumK L2 1 L2.K):=Lib.hid (by rw [HS1.out]; exact sumF_all L2 1 (fun y => by show (!left y) = true; rw [hl0 y]; rfl))
        have HT2 : Hid (S2 = sumK L2 2 L2.K):=Lib.hid (by rw [HS2.out]; exact sumF_all L2 2 (fun y => by show (!left y) = true; rw [hl0 y]; rfl))
        clear hl0 hrg HK HS1 HS2
        obtain ⟨q0,q1,q2⟩ : _ ∧ _ ∧ _:=⟨hC.q.cell 0,hC.q.cell 1,hC.q.cell 2⟩
        obtain ⟨o1,o2,o3,o4,-⟩:=hC.cells
        simp only [Q0,Q2,Q1] at q0 q1 q2
        have zo:=hC.o.lt
        have zq:=hC.q.lt
        have hqq:=HQ.out
        have hdc:=decided_any q S1 S2 wr hqq.1 hqq.2 (by omega) (by omega)
        unfold quoV at hdc
        clear hqq
        go_wp2_with fail
        refine hdc.mono ?_
        clear hdc
        rintro e w7 ⟨rfl,hb7⟩
        replace hC:=hC.below hb7
        replace hvb:=hvb.below hb7
        clear hb7 q0 q1 q2 o1 o2 o3 o4 zo zq
        obtain ⟨D,hD⟩ : ∃ D,D = decF q S1 S2:=⟨_,rfl⟩
        rw [← hD]
        have HN2 : Hid ((if D = how then ⟨L2,how,since,S1,S2⟩ else ⟨L2,D,v.at_,S1,S2⟩ : RulE) = rulS vs js q run t (k + 1)):=Lib.hid (by
         rw [← HN.out,hD,HT1.out,HT2.out]; rfl)
        obtain ⟨o1,o2,o3,o4,-⟩:=hC.cells
        try simp only [Q0,Q2,Q1] at o1 o2 o3 o4
        have zo:=hC.o.lt
        clear hD HN HT1 HT2
        by_cases hh : D = how
        ·have dh : (D != how) = false:=by simpa using hh
         have HN3:=Lib.hid ((if_pos hh).symm.trans HN2.out)
         clear hh HN2
         go_wp2_with fail
         go_roundw
         case rel => exact ⟨k + 1,⟨L2,how,since,S1,S2⟩,by omega,by go_num,HN3,HSM2,hC⟩
         case measure => simp [intOf]; omega
        ·have dh : (D != how) = true:=by simpa using hh
         have HN3:=Lib.hid ((if_neg hh).symm.trans HN2.out)
         have v2:=hvb.cell 2
         simp only [Q0,Q2,Q1] at v2
         have vl:=hvb.lt
         have f1:=hC.o.thaw 1
         have f2:=hC.o.thaw 2
         have hd:=hC.below (below_drewN' (Below.refl w7.heap.size w7) 1)
         have HC9:=Lib.hid ((hd.set (by omega) (by omega) (by omega) (by omega) 1 (.int .i64 D) (how':=D) rfl).set (by omega) (by omega) (by omega) (by omega) 2 (.int .i64 v.at_) (since':=v.at_) rfl)
         clear hh HN2 hC hd
         go_wp2_with fail
         go_region
         go_wp2_with fail
         go_roundw
         case rel => exact ⟨k + 1,⟨L2,D,v.at_,S1,S2⟩,by omega,by go_num,HN3,HSM2,HC9.out⟩
         case measure => simp [intOf]; omega
       ·intro x w6 cnt1 hlx hrg1 hlt1 hg1 hs1 hen
        have hil:=hrg.lt.2
        have HLE:=Lib.hid hrg.left_eq
        have hxK:=HK.out x hlx
        have hC6:=hC.other hg1 (by omega) (by omega) (by omega) (by omega) (by omega)
        have hvb6 : Blk w6 vb 37 #[.string ⟨v.run.toArray⟩,.string ⟨v.who.toArray⟩,.int .i64 v.at_,.int .i64 v.kind]:=(hg1.block _ hvb.lt (fun e => by injection e with e; omega)).trans hvb
        have HK2 : Hid (∀ y,(left y && !decide (y = x)) = true → y ∈ L2.K):=Lib.hid (fun y hy => by simp only [Bool.and_eq_true] at hy; exact HK.out y hy.1)
        have HST : Hid (∀ kd,sumF (cK L2 kd) L2.K (fun y => !(left y && !decide (y = x))) = sumF (cK L2 kd) L2.K (fun y => !left y) + cK L2 kd x):=Lib.hid (fun kd => sumF_step (by show (!left x) = false; rw [hlx]; rfl) (fun y => by show (!(left y && !decide (y = x))) = (!left y || decide (y = x)); cases left y <;> cases decide (y = x) <;> rfl) HMN.out hxK)
        obtain ⟨kd,hkd⟩ : ∃ kd,kd = (L2.f x).1:=⟨_,rfl⟩
        obtain ⟨kw,hkw⟩ : ∃ kw,kw = (L2.f x).2:=⟨_,rfl⟩
        have hkb : 0 ≤ kw ∧ kw ≤ 1000:=by rw [hkw]; exact HSM2.out.2 x
        have HC1 : Hid (cK L2 1 x = if kd = 1 then kw else 0):=Lib.hid (by rw [hkd,hkw]; rfl)
        have HC2 : Hid (cK L2 2 x = if kd = 2 then kw else 0):=Lib.hid (by rw [hkd,hkw]; rfl)
        rw [← hkd,← hkw] at hen ⊢
        clear hC hvb hrg HK hkd hkw hg1 hlx hxK
        have hC7:=hC6.below ((Below.refl _ _).alloc (Nat.le_refl _) (.cells #[.int .i64 kd,.int .i64 kw] 138))
        have hvb7:=hvb6.alloc (.cells #[.int .i64 kd,.int .i64 kw] 138)
        have hrg7:=hrg1.kept (World.grownBy_alloc w6 (.cells #[.int .i64 kd,.int .i64 kw] 138) none) (by simp) (by simp)
        have hsb:=Blk.new w6 138 #[.int .i64 kd,.int .i64 kw]
        have hib : ib < w6.heap.size:=by rw [hs1]; exact hil
        have hol6 : ob < w6.heap.size:=hC6.o.lt
        clear hC6 hvb6 hs1
        go_upto_region 15 with (fail)
        generalize w6.alloc (.cells #[.int .i64 kd,.int .i64 kw] 138) = w8 at *
        generalize w6.heap.size = sb at *
        obtain ⟨o1,o2,o3,o4,-⟩:=hC7.cells
        have zo:=hC7.o.lt
        have f3:=hC7.o.thaw 3
        have f4:=hC7.o.thaw 4
        obtain ⟨s0,s1⟩ : _ ∧ _:=⟨hsb.cell 0,hsb.cell 1⟩
        simp only [Q0,Q2,Q1] at s0 s1
        have zs:=hsb.lt
        clear hsb
        by_cases hk1 : kd = 1
        ·have d1 : (kd == 1) = true:=by simpa using hk1
         have ws : IntKind.i64.wrap (S1 + kw) = S1 + kw:=IntWalk.i64_in _ ⟨by omega,by omega⟩
         have HE1 : Hid (sumF (cK L2 1) L2.K (fun y => !(left y && !decide (y = x))) = S1 + kw):=Lib.hid (by rw [HST.out,HC1.out,if_pos hk1,← HS1.out])
         have HE2 : Hid (sumF (cK L2 2) L2.K (fun y => !(left y && !decide (y = x))) = S2):=Lib.hid (by rw [HST.out,HC2.out,if_neg (by omega),← HS2.out]; omega)
         have HC8:=Lib.hid (hC7.set (by omega) (by omega) (by omega) (by omega) 3 (.int .i64 (S1 + kw)) (yes':=S1 + kw) rfl)
         have HV8:=Lib.hid (hvb7.past ob 3 (.int .i64 (S1 + kw)) (by omega))
         have HR8:=Lib.hid (hrg7.kept (row:=some ob) (grown_set (World.grownBy.refl _ _) 3 (.int .i64 (S1 + kw))) (fun e => by injection e with e; omega) (fun e => by injection e with e; omega))
         clear hk1 hC7 hvb7 hrg7 hrg1 HST HC1 HC2
         go_wp2_with fail
         go_roundw
         case rel => exact ⟨fun y => left y && !decide (y = x),cnt1,HR8.out,HK2,by rw [HE1.out,HE2.out]; exact HC8.out,HV8.out⟩
         case measure => rw [HR8.out.left_eq,HLE.out]; exact hlt1
        ·have d1 : (kd == 1) = false:=by simpa using hk1
         have HE1 : Hid (sumF (cK L2 1) L2.K (fun y => !(left y && !decide (y = x))) = S1):=Lib.hid (by rw [HST.out,HC1.out,if_neg hk1,← HS1.out]; omega)
         by_cases hk2 : kd = 2
         ·have d2 : (kd == 2) = true:=by simpa using hk2
          have ws : IntKind.i64.wrap (S2 + kw) = S2 + kw:=IntWalk.i64_in _ ⟨by omega,by omega⟩
          have HE2 : Hid (sumF (cK L2 2) L2.K (fun y => !(left y && !decide (y = x))) = S2 + kw):=Lib.hid (by rw [HST.out,HC2.out,if_pos hk2,← HS2.out])
          have HC8:=Lib.hid (hC7.set (by omega) (by omega) (by omega) (by omega) 4 (.int .i64 (S2 + kw)) (no':=S2 + kw) rfl)
          have HV8:=Lib.hid (hvb7.past ob 4 (.int .i64 (S2 + kw)) (by omega))
          have HR8:=Lib.hid (hrg7.kept (row:=some ob) (grown_set (World.grownBy.refl _ _) 4 (.int .i64 (S2 + kw))) (fun e => by injection e with e; omega) (fun e => by injection e with e; omega))
          clear hk1 hk2 hC7 hvb7 hrg7 hrg1 HST HC1 HC2
          go_wp2_with fail
          go_roundw
          case rel => exact ⟨fun y => left y && !decide (y = x),cnt1,HR8.out,HK2,by rw [HE1.out,HE2.out]; exact HC8.out,HV8.out⟩
          case measure => rw [HR8.out.left_eq,HLE.out]; exact hlt1
         ·have d2 : (kd == 2) = false:=by simpa using hk2
          have HE2 : Hid (sumF (cK L2 2) L2.K (fun y => !(left y && !decide (y = x))) = S2):=Lib.hid (by rw [HST.out,HC2.out,if_neg hk2,← HS2.out]; omega)
          have HC8:=Lib.hid hC7
          have HV8:=Lib.hid hvb7
          have HR8:=Lib.hid hrg7
          clear hk1 hk2 hC7 hvb7 hrg7 hrg1 HST HC1 HC2
          go_wp2_with fail
          go_roundw
          case rel => exact ⟨fun y => left y && !decide (y = x),cnt1,HR8.out,HK2,by rw [HE1.out,HE2.out]; exact HC8.out,HV8.out⟩
          case measure => rw [HR8.out.left_eq,HLE.out]; exact hlt1
   ·have d1 : (v.run == run) = false:=by simpa using h1
    have HN:=Lib.hid (HSK.out v HGV.out (by unfold relB; rw [decide_eq_false h1,Bool.false_and]))
    have HL:=Lib.hid (show LSm L (k + 1) from ⟨by have:=HSm.out.1; omega,HSm.out.2⟩)
    clear h1
    go_wp2_with fail
    go_roundw
    case rel => exact ⟨k + 1,⟨L,how,since,yes,no⟩,by omega,by go_num,HN,HL,hC.mono (by omega)⟩
    case measure => simp [intOf]; omega
  ·have hke : k = vs.length:=by omega
   have HRV : Hid ((⟨L,how,since,yes,no⟩ : RulE) = ruledF vs js q run t):=Lib.hid (by rw [HR.out,hke]; exact HRF.out.symm)
   obtain ⟨o1,o2,o3,o4,o0⟩:=hC.cells
   try simp only [Q0,Q2,Q1] at o0 o1 o2 o3 o4
   have zo:=hC.o.lt
   have hr:=hC.r
   unfold rulZ at hr
   obtain ⟨r0,r1,r2,r3,r4⟩ : _ ∧ _ ∧ _ ∧ _ ∧ _:=⟨hr.cell 0,hr.cell 1,hr.cell 2,hr.cell 3,hr.cell 4⟩
   simp only [Q0,Q2,Q1] at r0 r1 r2 r3 r4
   have zr:=hr.lt
   have f0:=hr.thaw 0
   have f1:=hr.thaw 1
   have f2:=hr.thaw 2
   have f3:=hr.thaw 3
   have f4:=hr.thaw 4
   have hz:=((((hr.poke 0 (.string ⟨run.toArray⟩)).poke 1 (.int .i64 how)).poke 2 (.int .i64 since)).poke 3 (.int .i64 yes)).poke 4 (.int .i64 no)
   have HB5:=Lib.hid (((((hC.x.setCell (p:=⟨rb,0,none⟩) (show w.heap.size ≤ rb by omega) (.string ⟨run.toArray⟩)).setCell (p:=⟨rb,1,none⟩) (show w.heap.size ≤ rb by omega) (.int .i64 how)).setCell (p:=⟨rb,2,none⟩) (show w.heap.size ≤ rb by omega) (.int .i64 since)).setCell (p:=⟨rb,3,none⟩) (show w.heap.size ≤ rb by omega) (.int .i64 yes)).setCell (p:=⟨rb,4,none⟩) (show w.heap.size ≤ rb by omega) (.int .i64 no))
   clear hC hr HR
   go_wp2_with fail
   refine bodyPost_ret (res_rul _ 10 _ _ rb run how since yes no rfl rfl (hz.cell 0) (hz.cell 1) (hz.cell 2) (hz.cell 3) (hz.cell 4)) rfl ?_
   exact ⟨by rw [← HRV.out],HB5.out⟩
end Go.Proofs.YtgeaeockmadhcaaGreatDoor
