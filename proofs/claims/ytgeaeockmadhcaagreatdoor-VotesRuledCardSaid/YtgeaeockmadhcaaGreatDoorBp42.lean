/- Texts of this seat, laid together: VpC VpD. -/
import Derived.Handy
import Derived.Test.YtgeaeockmadhcaaGreatDoorBp40
import Derived.Test.YtgeaeockmadhcaaGreatDoorBp41
/- The walks of votesAt and RuledOf. -/
namespace Go.Proofs.YtgeaeockmadhcaaGreatDoor
set_option linter.unusedVariables false
set_option linter.unusedSimpArgs false
open Go.RowKit Go.Sort

theorem strs_snoc (l : List (List UInt8)) (s : List UInt8) : strs (l ++ [s]) = strs l ++ [.string ⟨s.toArray⟩]:=by simp [strs,encStr]
theorem once_nodup (l : List (List UInt8)) : (onceT l).Nodup:=(onceT_spec l).1.imp (fun h e => by rw [e] at h; exact ltS_irr _ h)
theorem once_mem (l : List (List UInt8)) (x : List UInt8) : x ∈ onceT l ↔ x ∈ l:=(onceT_spec l).2 x
def sumW (js : List JudgeE) (run : List UInt8) (t : Int) (vs : List VoteE) (kind : Int) (W : List (List UInt8)) : Int:=(W.map fun k => if (lastV js run k t vs).1 = kind then (lastV js run k t vs).2 else 0).sum
theorem sumW_bd {js : List JudgeE} (hw : ∀ j ∈ js,0 ≤ j.wt ∧ j.wt ≤ 1000) (run : List UInt8) (t : Int) (vs : List VoteE) (kind : Int) : ∀ W : List (List UInt8),0 ≤ sumW js run t vs kind W ∧ sumW js run t vs kind W ≤ 1000 * W.length
 | [] => by simp [sumW]
 | s :: W => by
  have ih:=sumW_bd hw run t vs kind W
  have h1:=lastS_bd hw run s t vs (0,0) ⟨by decide,by decide⟩
  rw [← lastV_def] at h1
  have e : sumW js run t vs kind (s :: W) = (if (lastV js run s t vs).1 = kind then (lastV js run s t vs).2 else 0) + sumW js run t vs kind W:=rfl
  rw [e]
  simp only [List.length_cons]
  split <;> omega
theorem sumW_snoc (js : List JudgeE) (run : List UInt8) (t : Int) (vs : List VoteE) (kind : Int) (W : List (List UInt8)) (s : List UInt8) : sumW js run t vs kind (W ++ [s]) = sumW js run t vs kind W + if (lastV js run s t vs).1 = kind then (lastV js run s t vs).2 else 0:=by
 unfold sumW; simp
def LofF (js : List JudgeE) (vs : List VoteE) (run : List UInt8) (t : Int) : LastE:=(vs.filter (relB run t)).foldl (lastU js) L00
theorem sumW_is {js : List JudgeE} (run : List UInt8) (t : Int) (vs : List VoteE) {kind : Int} (hk : kind ≠ 0) : sumW js run t vs kind (onceT (vs.map (·.who))) = sumK (LofF js vs run t) kind (LofF js vs run t).K:=by
 unfold sumW LofF
 rw [← sum_ref (vs.filter (relB run t)) (onceT (vs.map (·.who))) (once_nodup _) (fun v hv => (once_mem _ _).2 (List.mem_map.2 ⟨v,(List.mem_filter.1 hv).1,rfl⟩)) kind hk]
 congr 1
 apply List.map_congr_left
 intro k _
 rw [lastV_is]
set_option maxHeartbeats 4000000 in
theorem votesAt_any (lo lo' c c' : Nat) (A B : Option Addr) (vs : List VoteE) (js : List JudgeE) (run : List UInt8) (t : Int) (w : World) (hV : VoW w lo lo' A B vs js) (hl : vs.length ≤ 100) (hw : ∀ j ∈ js,0 ≤ j.wt ∧ j.wt ≤ 1000) :
  Calls Tryz.prog 66 #[.slice A vs.length c,.slice B js.length c',.string ⟨run.toArray⟩,.int .i64 t] w fun e w' => e = .returned (.tuple #[.int .i64 (sumK (LofF js vs run t) 1 (LofF js vs run t).K),.int .i64 (sumK (LofF js vs run t) 2 (LofF js vs run t).K)]) ∧ Below w.heap.size w w':=by
 rw [← sumW_is run t vs (by decide),← sumW_is run t vs (by decide)]
 have HV:=Lib.hid hV
 have HW:=Lib.hid hw
 clear hV hw
 go_enter Tryz.func66,Tryz.ntmps66
 go_wp2_with fail
 go_loopw [10,19] (fun o i wr => ∃ (k : Nat) (W : Option Addr) (wc : Nat),k ≤ vs.length ∧ i = .int .i64 k ∧ o = .slice W k wc ∧ wr.ownsRow w.heap.size 9 1 (.slice W k wc) k (strs ((vs.take k).map (·.who))) ∧ Below w.heap.size w wr) (fun _ i _ => vs.length - (intOf i).toNat)
 case atStart => exact ⟨0,none,0,Nat.zero_le _,rfl,rfl,World.ownsRow_nil _ _ _ _,Below.refl _ _⟩
 case round =>
  obtain ⟨k,W,wc,hk,rfl,rfl,ho,hbw⟩:=hrel
  have hbs0:=hbw.size
  by_cases hlt : k < vs.length
  ·obtain ⟨b,off,rfl,hbs,-,hcell⟩:=votes_at (HV.out.below hbw).v (by omega)
   obtain ⟨y0,y1,y2,y3⟩:=hcell k hlt
   have HN : Hid (strs ((vs.take (k + 1)).map (·.who)) = strs ((vs.take k).map (·.who)) ++ [.string ⟨vs[k].who.toArray⟩]):=Lib.hid (by rw [List.take_add_one,List.getElem?_eq_getElem hlt,List.map_append]; exact strs_snoc _ _)
   clear hcell
   generalize vs[k] = v at *
   have ho2 : (wr.alloc (.cells #[.string ⟨v.run.toArray⟩,.string ⟨v.who.toArray⟩,.int .i64 v.at_,.int .i64 v.kind] 37)).ownsRow w.heap.size 9 1 (.slice W k wc) k (strs ((vs.take k).map (·.who))):=ho.alloc _
   replace hbw:=hbw.alloc hbw.size (.cells #[.string ⟨v.run.toArray⟩,.string ⟨v.who.toArray⟩,.int .i64 v.at_,.int .i64 v.kind] 37)
   have hkl : k ≤ 100:=by omega
   clear ho
   generalize strs ((vs.take k).map (·.who)) = xs at *
   go_wp2_with (at_builtin; go_must (refine wpList_app (lo:=w.heap.size) (base:=w.heap.size) (n:=k) (xs:=xs) _ _ rfl _ _ ty_strs rfl (by repeat (first | exact ho2 | refine World.ownsRow.alloc ?_ _ | refine own_drewN ?_ _ | refine World.ownsRow.drew ?_)) rfl (by first | exact row_new' _ (by first | rfl | simp) (by first | omega | (simp; omega)) rfl | exact row_newN _ _ (by first | rfl | simp) (by first | omega | (simp; omega)) rfl | exact row_newD _ (by first | rfl | simp) (by first | omega | (simp; omega)) rfl) rfl rfl (by first | omega | decide) (by first | omega | decide) (by first | omega | (simp; omega)) ?_))
   intro A5 c5 w5 ho5 hg5 _
   have HO5 : Hid (w5.ownsRow w.heap.size 9 1 (.slice A5 (k + 1) c5) (k + 1) (strs ((vs.take (k + 1)).map (·.who)))):=Lib.hid (by rw [HN.out]; exact ho5)
   have hb5 : Below w.heap.size w w5:=below_app (ho2.alloc (.cells #[.string ⟨v.who.toArray⟩] 9)) (hbw.alloc hbw.size (.cells #[.string ⟨v.who.toArray⟩] 9)) hg5 (Nat.le_refl _) (hbw.alloc hbw.size (.cells #[.string ⟨v.who.toArray⟩] 9)).size
   clear ho5 hg5 ho2 hbw HN y0 y1 y2 y3 hbs
   go_wp2_with fail
   go_roundw
   case rel => exact ⟨k + 1,A5,c5,hlt,by go_num,rfl,HO5.out,hb5⟩
   case measure => simp [intOf]; omega
  ·have hkk : k = vs.length:=by omega
   subst hkk
   rw [List.take_length] at ho
   have hol : ((vs.map (·.who)).length) = vs.length:=List.length_map _
   have hrow : Row wr w.heap.size 1 W (vs.map (·.who)).length (strs (vs.map (·.who))):=by rw [hol]; exact Row.of_own ho
   have HON:=Lib.hid (onceR_any W wc w.heap.size (vs.map (·.who)) wr hrow (by omega))
   rw [hol] at HON
   clear hrow ho hol
   have hnl : (onceT (vs.map (·.who))).length ≤ 100:=Nat.le_trans (onceT_le _) (by simpa using hl)
   generalize hN : onceT (vs.map (·.who)) = N at *
   have HNN:=Lib.hid hN
   clear hN
   go_wp2_with fail
   refine HON.out.mono ?_
   rintro e w2 ⟨R,rc,rfl,ho,hb⟩
   replace hbw:=below_up hbw hb
   have hrn:=Row.of_own ho
   clear ho hb HON
   go_wp2_with fail
   go_loopw [8,9,32] (fun a b i wr => ∃ (k : Nat) (x y : Int),k ≤ N.length ∧ i = .int .i64 k ∧ a = .int .i64 x ∧ b = .int .i64 y ∧ Hid (x = sumW js run t vs 1 (N.take k) ∧ y = sumW js run t vs 2 (N.take k)) ∧ Below w2.heap.size w2 wr) (fun _ _ i _ => N.length - (intOf i).toNat)
   case atStart => exact ⟨0,0,0,Nat.zero_le _,rfl,rfl,rfl,Lib.hid ⟨rfl,rfl⟩,Below.refl _ _⟩
   case round =>
    obtain ⟨k,x,y,hk2,rfl,rfl,rfl,HS,hb3⟩:=hrel
    by_cases hlt : k < N.length
    ·obtain ⟨b,off,hR,hro,hrs,hrc⟩:=(hrn.below hb3).2 (by omega)
     subst hR
     have c0 : wr.cell? ⟨b,off + k,none⟩ = some (.string ⟨N[k].toArray⟩):=hrc k _ (by unfold strs; rw [List.getElem?_map,List.getElem?_eq_getElem hlt]; rfl)
     have hbx:=sumW_bd HW.out run t vs 1 (N.take k)
     have hby:=sumW_bd HW.out run t vs 2 (N.take k)
     rw [← HS.out.1,List.length_take] at hbx
     rw [← HS.out.2,List.length_take] at hby
     have hxb : 0 ≤ x ∧ x ≤ 100000:=by omega
     have hyb : 0 ≤ y ∧ y ≤ 100000:=by omega
     have hlv:=lastS_bd HW.out run N[k] t vs (0,0) ⟨by decide,by decide⟩
     rw [← lastV_def] at hlv
     have HN : Hid (sumW js run t vs 1 (N.take (k + 1)) = x + (if (lastV js run N[k] t vs).1 = 1 then (lastV js run N[k] t vs).2 else 0) ∧ sumW js run t vs 2 (N.take (k + 1)) = y + (if (lastV js run N[k] t vs).1 = 2 then (lastV js run N[k] t vs).2 else 0)):=Lib.hid (by
      rw [List.take_add_one,List.getElem?_eq_getElem hlt]
      exact ⟨(sumW_snoc _ _ _ _ _ _ _).trans (by rw [HS.out.1]),(sumW_snoc _ _ _ _ _ _ _).trans (by rw [HS.out.2])⟩)
     have hV3:=(HV.out.below hbw).below hb3
     have HLV:=Lib.hid (lastVote_any lo lo' c c' A B vs js run N[k] t wr hV3.v hV3.j hV3.vl hV3.jl)
     clear hrc hV3 hbx hby
     generalize lastV js run N[k] t vs = kw at *
     obtain ⟨kd,wt⟩:=kw
     simp only at hlv HN HLV
     generalize N[k] = nm at *
     go_wp2_with fail
     refine HLV.out.mono ?_
     rintro e w5 ⟨rfl,hb5⟩
     replace hb3:=below_up hb3 hb5
     clear HLV hb5 c0 hro hrs HS
     by_cases h1 : kd = 1
     ·have hn2 : ¬ kd = 2:=by omega
      have HS2 : Hid (x + wt = sumW js run t vs 1 (N.take (k + 1)) ∧ y = sumW js run t vs 2 (N.take (k + 1))):=Lib.hid (by rw [HN.out.1,HN.out.2,if_pos h1,if_neg hn2]; exact ⟨rfl,by omega⟩)
      subst h1
      clear HN hn2
      go_wp2_with fail
      go_roundw
      case rel => exact ⟨k + 1,x + wt,y,hlt,by go_num,rfl,rfl,HS2,hb3⟩
      case measure => simp [intOf]; omega
     ·by_cases h2 : kd = 2
      ·have HS2 : Hid (x = sumW js run t vs 1 (N.take (k + 1)) ∧ y + wt = sumW js run t vs 2 (N.take (k + 1))):=Lib.hid (by rw [HN.out.1,HN.out.2,if_neg h1,if_pos h2]; exact ⟨by omega,rfl⟩)
       subst h2
       clear HN h1
       go_wp2_with fail
       go_roundw
       case rel => exact ⟨k + 1,x,y + wt,hlt,by go_num,rfl,rfl,HS2,hb3⟩
       case measure => simp [intOf]; omega
      ·have HS2 : Hid (x = sumW js run t vs 1 (N.take (k + 1)) ∧ y = sumW js run t vs 2 (N.take (k + 1))):=Lib.hid (by rw [HN.out.1,HN.out.2,if_neg h1,if_neg h2]; exact ⟨by omega,by omega⟩)
       have d1 : (kd == 1) = false:=beq_eq_false_iff_ne.2 h1
       have d2 : (kd == 2) = false:=beq_eq_false_iff_ne.2 h2
       clear HN h1 h2
       go_wp2_with fail
       go_roundw
       case rel => exact ⟨k + 1,x,y,hlt,by go_num,rfl,rfl,HS2,hb3⟩
       case measure => simp [intOf]; omega
    ·have HE : Hid (x = sumW js run t vs 1 N ∧ y = sumW js run t vs 2 N):=Lib.hid (by have:=HS.out; rwa [List.take_of_length_le (by omega)] at this)
     replace hbw:=below_up hbw hb3
     go_wp2_with fail
     go_returns
     exact ⟨by rw [HNN.out,← HE.out.1,← HE.out.2]; rfl,hbw⟩
end Go.Proofs.YtgeaeockmadhcaaGreatDoor
/- The walk of RuledOf. -/
namespace Go.Proofs.YtgeaeockmadhcaaGreatDoor
set_option linter.unusedVariables false
set_option linter.unusedSimpArgs false
open Go.RowKit Go.Sort

structure RoC (w W : World) (qb rb ob : Nat) (q : QuoE) (run : List UInt8) (how since yes no : Int) : Prop where
  q : Blk W qb 33 #[.int .i64 q.least, .int .i64 q.num, .int .i64 q.den]
  r : Blk W rb 56 #[.string ⟨#[]⟩, .int .i64 0, .int .i64 0, .int .i64 0, .int .i64 0]
  o : Blk W ob 56 #[.string ⟨run.toArray⟩, .int .i64 how, .int .i64 since, .int .i64 yes, .int .i64 no]
  x : Below w.heap.size w W
  h0 : w.heap.size ≤ qb
  h1 : qb < rb
  h2 : rb < ob
section
variable {w W W' : World} {qb rb ob : Nat} {q : QuoE} {run : List UInt8} {how since yes no : Int}
theorem RoC.below (h : RoC w W qb rb ob q run how since yes no) (hb : Below W.heap.size W W') : RoC w W' qb rb ob q run how since yes no:=⟨h.q.below hb,h.r.below hb,h.o.below hb,below_up h.x hb,h.h0,h.h1,h.h2⟩
theorem RoC.set (h : RoC w W qb rb ob q run how since yes no) (i : Nat) (u : Value) {how' since' yes' no' : Int} (e : (#[.string ⟨run.toArray⟩,.int .i64 how,.int .i64 since,.int .i64 yes,.int .i64 no] : Array Value).setIfInBounds i u = #[.string ⟨run.toArray⟩,.int .i64 how',.int .i64 since',.int .i64 yes',.int .i64 no']) : RoC w (W.setCell ⟨ob,i,none⟩ u) qb rb ob q run how' since' yes' no' :=
 ⟨h.q.past ob i u (by have:=h.h1; have:=h.h2; omega),h.r.past ob i u (by have:=h.h2; omega),by rw [← e]; exact h.o.poke i u,h.x.setCell (p:=⟨ob,i,none⟩) (by have:=h.h0; have:=h.h1; have:=h.h2; show w.heap.size ≤ ob; omega) u,h.h0,h.h1,h.h2⟩
end
theorem sumL_bd {js : List JudgeE} (hw : ∀ j ∈ js,0 ≤ j.wt ∧ j.wt ≤ 1000) (vs : List VoteE) (hl : vs.length ≤ 100) (run : List UInt8) (t : Int) {kind : Int} (hk : kind ≠ 0) : 0 ≤ sumK (LofF js vs run t) kind (LofF js vs run t).K ∧ sumK (LofF js vs run t) kind (LofF js vs run t).K ≤ 100000:=by
 rw [← sumW_is run t vs hk]
 have h:=sumW_bd hw run t vs kind (onceT (vs.map (·.who)))
 have h2 : (onceT (vs.map (·.who))).length ≤ 100:=Nat.le_trans (onceT_le _) (by simpa using hl)
 omega
def refT (js : List JudgeE) (q : QuoE) (vs : List VoteE) (run : List UInt8) (t : Int) (hs : Int × Int) (v : VoteE) : Int × Int:=if relB run t v = true then refS js q (vs.filter (relB run t)) hs v else hs
theorem refT_no {js : List JudgeE} {q : QuoE} {vs : List VoteE} {run : List UInt8} {t : Int} {hs : Int × Int} {v : VoteE} (h : relB run t v = false) : refT js q vs run t hs v = hs:=by unfold refT; rw [if_neg (by rw [h]; decide)]
theorem refT_yes {js : List JudgeE} {q : QuoE} {vs : List VoteE} {run : List UInt8} {t : Int} {how since : Int} {v : VoteE} (h : relB run t v = true) {D : Int} (hD : D = decF q (sumK (LofF js vs run v.at_) 1 (LofF js vs run v.at_).K) (sumK (LofF js vs run v.at_) 2 (LofF js vs run v.at_).K)) : refT js q vs run t (how,since) v = if D ≠ how then (D,v.at_) else (how,since):=by
 unfold refT refS
 rw [if_pos h]
 have ht : v.at_ ≤ t:=by unfold relB at h; simp only [Bool.and_eq_true,decide_eq_true_eq] at h; exact h.2
 rw [upTo_is js vs run ht]
 have e : decL q ((vs.filter (relB run v.at_)).foldl (lastU js) L00) = D:=by rw [hD]; rfl
 rw [e]
set_option maxHeartbeats 4000000 in
theorem ruledOf_any (lo lo' c c' : Nat) (A B : Option Addr) (vs : List VoteE) (js : List JudgeE) (q : QuoE) (run : List UInt8) (t : Int) (w : World) (hV : VoW w lo lo' A B vs js) (hl : vs.length ≤ 100) (hv : vs.Pairwise ltV) (hp : ∀ v ∈ vs,0 ≤ v.at_) (hj : judgesE js q = 0) :
  Calls Tryz.prog 30 #[.slice A vs.length c,.slice B js.length c',.agg #[.int .i64 q.least,.int .i64 q.num,.int .i64 q.den],.string ⟨run.toArray⟩,.int .i64 t] w fun e w' => e = .returned (rulV run (ruledF vs js q run t)) ∧ Below w.heap.size w w':=by
 have hq:=quoE_ok (judgesE_ok hj).2.2.2
 have hw:=judges_wt hj
 have HFO : Hid (vs.foldl (refT js q vs run t) (0,0) = ((ruledF vs js q run t).how,(ruledF vs js q run t).since)):=Lib.hid (ruledOf_fold hq.1 hv hp)
 have HSM : Hid ((ruledF vs js q run t).yes = sumK (LofF js vs run t) 1 (LofF js vs run t).K ∧ (ruledF vs js q run t).no = sumK (LofF js vs run t) 2 (LofF js vs run t).K):=Lib.hid (ruledF_sums hq.1)
 have HQ : Hid ((0 ≤ q.num ∧ q.num ≤ 1000) ∧ 0 ≤ q.den ∧ q.den ≤ 1000):=Lib.hid (by omega)
 have HW:=Lib.hid hw
 have HV:=Lib.hid hV
 have hC : RoC w (((w.alloc (.cells #[.int .i64 q.least,.int .i64 q.num,.int .i64 q.den] 33)).alloc (.cells #[.string ⟨#[]⟩,.int .i64 0,.int .i64 0,.int .i64 0,.int .i64 0] 56)).alloc (.cells #[.string ⟨run.toArray⟩,.int .i64 0,.int .i64 0,.int .i64 0,.int .i64 0] 56)) w.heap.size (w.heap.size + 1) (w.heap.size + 1 + 1) q run 0 0 0 0:=⟨((Blk.new _ _ _).alloc _).alloc _,(Blk.at1 _ (by simp)).alloc _,Blk.at1 _ (by simp),(by repeat (first | exact Below.refl _ _ | refine Below.alloc ?_ (by first | omega | (simp; omega) | simp) _ | refine below_drewN' ?_ _ | refine Below.drew ?_)),Nat.le_refl _,by omega,by omega⟩
 clear hq hw hV hv hp hj
 go_enter Tryz.func30,Tryz.ntmps30
 go_upto_region 2 with (fail)
 generalize (((w.alloc (.cells #[.int .i64 q.least,.int .i64 q.num,.int .i64 q.den] 33)).alloc (.cells #[.string ⟨#[]⟩,.int .i64 0,.int .i64 0,.int .i64 0,.int .i64 0] 56)).alloc (.cells #[.string ⟨run.toArray⟩,.int .i64 0,.int .i64 0,.int .i64 0,.int .i64 0] 56)) = w3 at *
 have hll : vs.length ≤ 1000:=by omega
 generalize w.heap.size + 1 + 1 = ob at *
 generalize w.heap.size + 1 = rb at *
 generalize hqb : w.heap.size = qb at *
 have HQB:=Lib.hid hqb
 clear hqb
 go_wp2_with fail
 go_loopw [21] (fun i wr => ∃ (k : Nat) (how since : Int),k ≤ vs.length ∧ i = .int .i64 k ∧ Hid ((vs.take k).foldl (refT js q vs run t) (0,0) = (how,since)) ∧ RoC w wr qb rb ob q run how since 0 0) (fun i _ => vs.length - (intOf i).toNat)
 case atStart => exact ⟨0,0,0,Nat.zero_le _,rfl,Lib.hid rfl,hC⟩
 case round =>
  clear hC
  obtain ⟨k,how,since,hk,rfl,HF,hC⟩:=hrel
  have hbw:=hC.x
  by_cases hlt : k < vs.length
  ·obtain ⟨b,off,rfl,hbs,-,hcell⟩:=votes_at (HV.out.below hbw).v (by omega)
   obtain ⟨y0,y1,y2,y3⟩:=hcell k hlt
   have HN : Hid ((vs.take (k + 1)).foldl (refT js q vs run t) (0,0) = refT js q vs run t (how,since) vs[k]):=Lib.hid (by rw [List.take_add_one,List.getElem?_eq_getElem hlt,List.foldl_append,HF.out]; rfl)
   clear hcell hbw
   generalize vs[k] = v at *
   have hal : Below wr.heap.size wr (wr.alloc (.cells #[.string ⟨v.run.toArray⟩,.string ⟨v.who.toArray⟩,.int .i64 v.at_,.int .i64 v.kind] 37)):=(Below.refl _ _).alloc (Nat.le_refl _) _
   have hvb : Blk (wr.alloc (.cells #[.string ⟨v.run.toArray⟩,.string ⟨v.who.toArray⟩,.int .i64 v.at_,.int .i64 v.kind] 37)) wr.heap.size 37 #[.string ⟨v.run.toArray⟩,.string ⟨v.who.toArray⟩,.int .i64 v.at_,.int .i64 v.kind]:=Blk.new _ _ _
   replace hC:=hC.below hal
   clear hal
   go_upto_region 5 with (fail)
   generalize wr.alloc (.cells #[.string ⟨v.run.toArray⟩,.string ⟨v.who.toArray⟩,.int .i64 v.at_,.int .i64 v.kind] 37) = w4 at *
   generalize wr.heap.size = vb at *
   obtain ⟨v0,v1,v2,v3⟩ : _ ∧ _ ∧ _ ∧ _:=⟨hvb.cell 0,hvb.cell 1,hvb.cell 2,hvb.cell 3⟩
   simp only [Q0,Q2,Q1] at v0 v1 v2 v3
   have vl:=hvb.lt
   clear y0 y1 y2 y3 hbs
   by_cases hrun : v.run = run
   ·have d1 : (v.run == run) = true:=by simpa using hrun
    have d1n : (v.run != run) = false:=by simpa using hrun
    by_cases hat : v.at_ ≤ t
    ·have d2 : decide (t < v.at_) = false:=decide_eq_false (by omega)
     have hnt : ¬ t < v.at_:=by omega
     have hrel : relB run t v = true:=by unfold relB; rw [decide_eq_true hrun,decide_eq_true hat]; rfl
     obtain ⟨y,hy⟩ : ∃ y,y = sumK (LofF js vs run v.at_) 1 (LofF js vs run v.at_).K:=⟨_,rfl⟩
     obtain ⟨n,hn⟩ : ∃ n,n = sumK (LofF js vs run v.at_) 2 (LofF js vs run v.at_).K:=⟨_,rfl⟩
     obtain ⟨D,hD⟩ : ∃ D,D = decF q y n:=⟨_,rfl⟩
     have hyb:=sumL_bd HW.out vs hl run v.at_ (kind:=1) (by decide)
     have hnb:=sumL_bd HW.out vs hl run v.at_ (kind:=2) (by decide)
     rw [← hy] at hyb
     rw [← hn] at hnb
     have HN2 : Hid ((vs.take (k + 1)).foldl (refT js q vs run t) (0,0) = if D ≠ how then (D,v.at_) else (how,since)):=Lib.hid (by rw [HN.out]; exact refT_yes hrel (by rw [hD,hy,hn]))
     have HVA:=Lib.hid (votesAt_any lo lo' c c' _ B vs js run v.at_ w4 (HV.out.below hC.x) hl HW.out)
     rw [← hy,← hn] at HVA
     have HDC:=Lib.hid (fun W => rdecided_any q y n W HQ.out.1 HQ.out.2 (by omega) (by omega))
     rw [← hD] at HDC
     unfold quoV at HDC
     clear hy hn hD hrel HN hrun hat
     go_wp2_with fail
     refine HVA.out.mono ?_
     rintro e w5 ⟨rfl,hb⟩
     replace hC:=hC.below hb
     replace hvb:=hvb.below hb
     clear hb HVA v0 v1 v2 v3 vl
     obtain ⟨q0,q1,q2⟩ : _ ∧ _ ∧ _:=⟨hC.q.cell 0,hC.q.cell 1,hC.q.cell 2⟩
     simp only [Q0,Q2,Q1] at q0 q1 q2
     have ql:=hC.q.lt
     go_wp2_with fail
     refine (HDC.out _).mono ?_
     rintro e w6 ⟨rfl,hb⟩
     replace hC:=hC.below hb
     replace hvb:=hvb.below hb
     clear hb HDC q0 q1 q2 ql
     have o1 : w6.cell? ⟨ob,1,none⟩ = some (.int .i64 how):=hC.o.cell 1
     have ol:=hC.o.lt
     by_cases hh : D = how
     ·have dh : (D != how) = false:=by simpa using hh
      have HF2 : Hid ((vs.take (k + 1)).foldl (refT js q vs run t) (0,0) = (how,since)):=Lib.hid (by rw [HN2.out,if_neg (fun h => h hh)])
      clear hh HN2
      go_wp2_with fail
      go_roundw
      case rel => exact ⟨k + 1,how,since,hlt,by go_num,HF2,hC⟩
      case measure => simp [intOf]; omega
     ·have dh : (D != how) = true:=by simpa using hh
      have HF2 : Hid ((vs.take (k + 1)).foldl (refT js q vs run t) (0,0) = (D,v.at_)):=Lib.hid (by rw [HN2.out,if_pos hh])
      have o2 : w6.cell? ⟨ob,2,none⟩ = some (.int .i64 since):=hC.o.cell 2
      have v2 : w6.cell? ⟨vb,2,none⟩ = some (.int .i64 v.at_):=hvb.cell 2
      have vl:=hvb.lt
      have f1:=hC.o.thaw 1
      have f2:=hC.o.thaw 2
      have HC9:=Lib.hid (((hC.below (below_drewN' (Below.refl w6.heap.size w6) 1)).set 1 (.int .i64 D) (how':=D) rfl).set 2 (.int .i64 v.at_) (since':=v.at_) rfl)
      clear hh HN2 hC hvb
      go_wp2_with fail
      go_region
      go_wp2_with fail
      go_roundw
      case rel => exact ⟨k + 1,D,v.at_,hlt,by go_num,HF2,HC9.out⟩
      case measure => simp [intOf]; omega
    ·have d2 : decide (t < v.at_) = true:=decide_eq_true (by omega)
     have hnt : t < v.at_:=by omega
     have HF2 : Hid ((vs.take (k + 1)).foldl (refT js q vs run t) (0,0) = (how,since)):=Lib.hid (by rw [HN.out]; exact refT_no (by unfold relB; rw [decide_eq_false hat,Bool.and_false]))
     clear HN hat hrun
     go_wp2_with fail
     go_roundw
     case rel => exact ⟨k + 1,how,since,hlt,by go_num,HF2,hC⟩
     case measure => simp [intOf]; omega
   ·have d1 : (v.run == run) = false:=by simpa using hrun
    have d1n : (v.run != run) = true:=by simpa using hrun
    have HF2 : Hid ((vs.take (k + 1)).foldl (refT js q vs run t) (0,0) = (how,since)):=Lib.hid (by rw [HN.out]; exact refT_no (by unfold relB; rw [decide_eq_false hrun,Bool.false_and]))
    clear HN hrun
    go_wp2_with fail
    go_roundw
    case rel => exact ⟨k + 1,how,since,hlt,by go_num,HF2,hC⟩
    case measure => simp [intOf]; omega
  ·have HE : Hid ((ruledF vs js q run t).how = how ∧ (ruledF vs js q run t).since = since):=Lib.hid (by
    have h1:=HF.out
    rw [List.take_of_length_le (by omega),HFO.out] at h1
    injection h1 with h1 h2
    exact ⟨h1,h2⟩)
   obtain ⟨y,hy⟩ : ∃ y,y = sumK (LofF js vs run t) 1 (LofF js vs run t).K:=⟨_,rfl⟩
   obtain ⟨n,hn⟩ : ∃ n,n = sumK (LofF js vs run t) 2 (LofF js vs run t).K:=⟨_,rfl⟩
   have HVA:=Lib.hid (votesAt_any lo lo' c c' A B vs js run t wr (HV.out.below hC.x) hl HW.out)
   rw [← hy,← hn] at HVA HSM
   have HRV : Hid (rulV run (ruledF vs js q run t) = .agg #[.string ⟨run.toArray⟩,.int .i64 how,.int .i64 since,.int .i64 y,.int .i64 n]):=Lib.hid (by unfold rulV; rw [HE.out.1,HE.out.2,HSM.out.1,HSM.out.2])
   clear hy hn HE HF hbw
   go_wp2_with fail
   refine HVA.out.mono ?_
   rintro e w5 ⟨rfl,hb⟩
   replace hC:=hC.below hb
   clear hb HVA
   have o3 : w5.cell? ⟨ob,3,none⟩ = some (.int .i64 0):=hC.o.cell 3
   have o4 : w5.cell? ⟨ob,4,none⟩ = some (.int .i64 0):=hC.o.cell 4
   have f3:=hC.o.thaw 3
   have f4:=hC.o.thaw 4
   have ol:=hC.o.lt
   replace hC:=(hC.set 3 (.int .i64 y) (yes':=y) rfl).set 4 (.int .i64 n) (no':=n) rfl
   go_upto_region 12 with (fail)
   generalize (w5.setCell ⟨ob,3,none⟩ (.int .i64 y)).setCell ⟨ob,4,none⟩ (.int .i64 n) = w6 at *
   obtain ⟨o0,o1,o2,o3,o4⟩ : _ ∧ _ ∧ _ ∧ _ ∧ _:=⟨hC.o.cell 0,hC.o.cell 1,hC.o.cell 2,hC.o.cell 3,hC.o.cell 4⟩
   simp only [Q0,Q2,Q1] at o0 o1 o2 o3 o4
   have zo:=hC.o.lt
   have hr:=hC.r
   have hwr : qb < rb:=hC.h1
   obtain ⟨r0,r1,r2,r3,r4⟩ : _ ∧ _ ∧ _ ∧ _ ∧ _:=⟨hr.cell 0,hr.cell 1,hr.cell 2,hr.cell 3,hr.cell 4⟩
   simp only [Q0,Q2,Q1] at r0 r1 r2 r3 r4
   have zr:=hr.lt
   have f0:=hr.thaw 0
   have f1:=hr.thaw 1
   have f2:=hr.thaw 2
   have f3:=hr.thaw 3
   have f4:=hr.thaw 4
   have hz:=((((hr.poke 0 (.string ⟨run.toArray⟩)).poke 1 (.int .i64 how)).poke 2 (.int .i64 since)).poke 3 (.int .i64 y)).poke 4 (.int .i64 n)
   have HWB : w.heap.size ≤ rb:=by have:=HQB.out; omega
   have HB5:=Lib.hid (((((hC.x.setCell (p:=⟨rb,0,none⟩) (show w.heap.size ≤ rb from HWB) (.string ⟨run.toArray⟩)).setCell (p:=⟨rb,1,none⟩) (show w.heap.size ≤ rb from HWB) (.int .i64 how)).setCell (p:=⟨rb,2,none⟩) (show w.heap.size ≤ rb from HWB) (.int .i64 since)).setCell (p:=⟨rb,3,none⟩) (show w.heap.size ≤ rb from HWB) (.int .i64 y)).setCell (p:=⟨rb,4,none⟩) (show w.heap.size ≤ rb from HWB) (.int .i64 n))
   clear hC hr HWB
   go_wp2_with fail
   refine bodyPost_ret (res_rul _ 10 _ _ rb run how since y n rfl rfl (hz.cell 0) (hz.cell 1) (hz.cell 2) (hz.cell 3) (hz.cell 4)) rfl ?_
   exact ⟨by rw [← HRV.out],HB5.out⟩
end Go.Proofs.YtgeaeockmadhcaaGreatDoor
