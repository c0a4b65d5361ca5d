/- Texts of this seat, laid together: VpH VpI VpJ VpK VpL. -/
import Derived.Deep.DeepCutAuto
import Derived.Deep.CutRange
import Derived.Handy
import Derived.Test.YtgeaeockmadhcaaGreatDoorBp42
import Derived.Test.YtgeaeockmadhcaaGreatDoorBp43
import Derived.Test.YtgeaeockmadhcaaGreatDoorBp33
import Derived.Test.YtgeaeockmadhcaaGreatDoorBp21
import Derived.Test.YtgeaeockmadhcaaGreatDoorBp25
import Derived.Test.YtgeaeockmadhcaaGreatDoorBp04
import Derived.Test.YtgeaeockmadhcaaGreatDoorBp02
import Derived.Test.YtgeaeockmadhcaaGreatDoorBp16
/- The walk of Rulings. -/
namespace Go.Proofs.YtgeaeockmadhcaaGreatDoor
set_option linter.unusedVariables false
set_option linter.unusedSimpArgs false
open Go.RowKit Go.Sort

theorem ty_rulings : SliceTy Tryz.prog 50 56 5 48:=.mk' Tryz.underlying50 (z:=.agg #[.string ⟨#[]⟩,.int .i64 0,.int .i64 0,.int .i64 0,.int .i64 0]) (by kernel_rfl) rfl (by decide)
def rlsE (vs : List VoteE) (js : List JudgeE) (q : QuoE) (t : Int) : Int:=if firstE [votesE vs,judgesE js q] ≠ 0 then firstE [votesE vs,judgesE js q] else if t < 0 ∨ 345686399999 < t then 1 else 0
def rlsL (vs : List VoteE) (js : List JudgeE) (q : QuoE) (t : Int) : List RlE:=(runsUp vs t vs.length).map (toRl vs js q t)
def RlsP (w : World) (vs : List VoteE) (js : List JudgeE) (q : QuoE) (t : Int) (e : Ending) (w' : World) : Prop:=Below w.heap.size w w' ∧ (rlsE vs js q t ≠ 0 → e = .returned (.tuple #[.slice none 0 0,.int .i64 (rlsE vs js q t)])) ∧
 (rlsE vs js q t = 0 → ∃ (R : Option Addr) (rc : Nat),e = .returned (.tuple #[.slice R (rlsL vs js q t).length rc,.int .i64 0]) ∧ w'.ownsRow w.heap.size 56 5 (.slice R (rlsL vs js q t).length rc) (rlsL vs js q t).length ((rlsL vs js q t).flatMap encRl))
theorem rlsL_up {vs : List VoteE} {js : List JudgeE} {q : QuoE} {t : Int} (k : Nat) : (runsUp vs t (k + 1)).map (toRl vs js q t) = (runsUp vs t k).map (toRl vs js q t) ++ if firstB vs t k then [toRl vs js q t (vs.getD k default).run] else []:=by
 rw [runsUp,List.map_append]
 congr 1
 split <;> rfl
set_option maxHeartbeats 8000000 in
set_option maxRecDepth 100000 in
theorem rulings_any (lo lo' c c' : Nat) (A B : Option Addr) (vs : List VoteE) (js : List JudgeE) (q : QuoE) (t : Int) (w : World) (hV : VoW w lo lo' A B vs js) (hl : vs.length ≤ 100) :
  Calls Tryz.prog 21 #[.slice A vs.length c,.slice B js.length c',.agg #[.int .i64 q.least,.int .i64 q.num,.int .i64 q.den],.int .i64 t] w (RlsP w vs js q t):=by
 have HV:=Lib.hid hV
 obtain ⟨fe,hfe⟩ : ∃ fe,fe = firstE [votesE vs,judgesE js q]:=⟨_,rfl⟩
 have HX : Hid (rlsE vs js q t = if fe ≠ 0 then fe else if t < 0 ∨ 345686399999 < t then 1 else 0):=Lib.hid (by unfold rlsE; rw [hfe])
 have HOK : Hid (fe = 0 → votesE vs = 0 ∧ judgesE js q = 0):=Lib.hid (fun h => two_zero (hfe.symm.trans h))
 have HBAD : Hid (∀ x W,rlsE vs js q t = x → x ≠ 0 → Below w.heap.size w W → RlsP w vs js q t (.returned (.tuple #[.slice none 0 0,.int .i64 x])) W):=Lib.hid (fun x W h1 h2 h3 => by
  unfold RlsP
  rw [h1]
  exact ⟨h3,fun _ => rfl,fun h => absurd h h2⟩)
 have hal : Below w.heap.size w (w.alloc (.cells #[.int .i64 q.least,.int .i64 q.num,.int .i64 q.den] 33)):=(Below.refl _ _).alloc (Nat.le_refl _) _
 have hqb : Blk (w.alloc (.cells #[.int .i64 q.least,.int .i64 q.num,.int .i64 q.den] 33)) w.heap.size 33 #[.int .i64 q.least,.int .i64 q.num,.int .i64 q.den]:=Blk.new _ _ _
 have HEV:=Lib.hid (fun (W : World) (h : Below w.heap.size w W) => evFault_any lo lo' c c' A B vs js q W (hV.below h))
 rw [← hfe] at HEV
 clear hV hfe
 go_enter Tryz.func21,Tryz.ntmps21
 go_upto_region 1 with (fail)
 generalize w.alloc (.cells #[.int .i64 q.least,.int .i64 q.num,.int .i64 q.den] 33) = w2 at *
 generalize hqn : w.heap.size = qb at *
 have HQN:=Lib.hid hqn
 clear hqn
 obtain ⟨q0,q1,q2⟩ : _ ∧ _ ∧ _:=⟨hqb.cell 0,hqb.cell 1,hqb.cell 2⟩
 simp only [Q0,Q2,Q1] at q0 q1 q2
 have ql:=hqb.lt
 go_wp2_with fail
 refine (HEV.out _ hal).mono ?_
 rintro e w3 ⟨rfl,hb⟩
 have hx : Below qb w w3:=hal.trans (hb.mono (by omega))
 replace hqb:=hqb.below hb
 clear hb hal q0 q1 q2 ql HEV
 by_cases h0 : fe = 0
 ·subst h0
  obtain ⟨hv0,hj0⟩:=HOK.out rfl
  go_wp2_with fail
  refine (moment_any t _).mono ?_
  rintro e w4 ⟨rfl,rfl⟩
  by_cases ht : t < 0 ∨ 345686399999 < t
  ·have d0 : (!decide (t < 0 ∨ 345686399999 < t)) = false:=by rw [decide_eq_true ht]; rfl
   rw [d0]
   have HE:=Lib.hid (HBAD.out 1 w3 (by rw [HX.out,if_neg (by decide),if_pos ht]) (by decide) hx)
   clear hv0 hj0 ht d0
   go_wp2_with fail
   go_returns
   exact HE.out
  ·have d0 : (!decide (t < 0 ∨ 345686399999 < t)) = true:=by rw [decide_eq_false ht]; rfl
   rw [d0]
   have hq:=quoE_ok (judgesE_ok hj0).2.2.2
   have hjl:=(judgesE_ok hj0).1
   have HRU : Hid (∀ (W : World) (run : List UInt8),VoW W lo lo' A B vs js → Calls Tryz.prog 60 #[.slice A vs.length c,.slice B js.length c',quoV q,.string ⟨run.toArray⟩,.int .i64 t] W fun e w' => e = .returned (rulV run (ruledF vs js q run t)) ∧ Below W.heap.size W w'):=Lib.hid (fun W run h => ruled_any lo lo' c c' A B vs js q run t W h.v h.j (by omega) (by omega) (fun v hv => (h.vs_ v hv).2) (judges_wt hj0) (by omega) (by omega))
   unfold quoV at HRU
   have HGD : Hid (∀ (R : Option Addr) (rc : Nat) (W : World),Below qb w W → W.ownsRow qb 56 5 (.slice R (rlsL vs js q t).length rc) (rlsL vs js q t).length ((rlsL vs js q t).flatMap encRl) → RlsP w vs js q t (.returned (.tuple #[.slice R (rlsL vs js q t).length rc,.int .i64 0])) W):=Lib.hid (fun R rc W h1 h2 => by
    have hx0 : rlsE vs js q t = 0:=by rw [HX.out,if_neg (by decide),if_neg ht]
    unfold RlsP
    rw [HQN.out]
    exact ⟨h1,fun h => absurd hx0 h,fun _ => ⟨R,rc,rfl,h2⟩⟩)
   clear hv0 hj0 ht d0 hq hjl HBAD HOK HX
   have hqw : qb ≤ w3.heap.size:=Nat.le_of_lt hqb.lt
   go_wp2_with fail
   go_loopw [11,27] (fun o i wr => ∃ (k : Nat) (R : Option Addr) (rc : Nat) (L : List RlE),k ≤ vs.length ∧ i = .int .i64 k ∧ o = .slice R L.length rc ∧ Hid (L = (runsUp vs t k).map (toRl vs js q t)) ∧ L.length ≤ k ∧ wr.ownsRow qb 56 5 (.slice R L.length rc) L.length (L.flatMap encRl) ∧ Below qb w wr ∧ Blk wr qb 33 #[.int .i64 q.least,.int .i64 q.num,.int .i64 q.den]) (fun _ i _ => vs.length - (intOf i).toNat)
   case atStart => exact ⟨0,none,0,[],Nat.zero_le _,rfl,rfl,Lib.hid rfl,Nat.le_refl _,World.ownsRow_nil _ _ _ _,hx,hqb⟩
   case round =>
    clear hx hqb
    obtain ⟨k,R,rc,L,hk,rfl,rfl,HL,hLk,ho,hx,hqb⟩:=hrel
    by_cases hlt : k < vs.length
    ·obtain ⟨b,off,rfl,hbs,-,hcell⟩:=votes_at (HV.out.v.below (show Below w.heap.size w wr by rw [HQN.out]; exact hx)) (by omega)
     obtain ⟨y0,y1,y2,y3⟩:=hcell k hlt
     have HPV : Hid (∀ k0,k = k0 + 1 → ∃ u : VoteE,vs.getD (k - 1) default = u ∧ wr.cell? ⟨b,off + k0 * 4,none⟩ = some (.string ⟨u.run.toArray⟩)):=Lib.hid (fun k0 h => ⟨vs[k0]'(by omega),by rw [show k - 1 = k0 by omega]; exact getDin (by omega),(hcell k0 (by omega)).1⟩)
     have hgd : vs.getD k default = vs[k]:=getDin hlt
     have HUP:=Lib.hid (rlsL_up (vs:=vs) (js:=js) (q:=q) (t:=t) k)
     have HFB : Hid (firstB vs t k = ((decide (k = 0) || decide ((vs.getD (k - 1) default).run ≠ vs[k].run)) && decide (vs[k].at_ ≤ t))):=Lib.hid (by unfold firstB; rw [hgd])
     rw [hgd] at HUP
     clear hcell hgd
     generalize vs[k] = v at *
     have hal : Below wr.heap.size wr (wr.alloc (.cells #[.string ⟨v.run.toArray⟩,.string ⟨v.who.toArray⟩,.int .i64 v.at_,.int .i64 v.kind] 37)):=(Below.refl _ _).alloc (Nat.le_refl _) _
     have hvb : Blk (wr.alloc (.cells #[.string ⟨v.run.toArray⟩,.string ⟨v.who.toArray⟩,.int .i64 v.at_,.int .i64 v.kind] 37)) wr.heap.size 37 #[.string ⟨v.run.toArray⟩,.string ⟨v.who.toArray⟩,.int .i64 v.at_,.int .i64 v.kind]:=Blk.new _ _ _
     have HPV2 : Hid (∀ k0,k = k0 + 1 → ∃ u : VoteE,vs.getD (k - 1) default = u ∧ (wr.alloc (.cells #[.string ⟨v.run.toArray⟩,.string ⟨v.who.toArray⟩,.int .i64 v.at_,.int .i64 v.kind] 37)).cell? ⟨b,off + k0 * 4,none⟩ = some (.string ⟨u.run.toArray⟩)):=Lib.hid (fun k0 h => by
      obtain ⟨u,h1,h2⟩:=HPV.out k0 h
      exact ⟨u,h1,cell_al h2 _⟩)
     replace ho:=own_keep ho hal
     replace hx:=hx.trans (hal.mono (Nat.le_of_lt hqb.lt))
     replace hqb:=hqb.below hal
     clear hal HPV
     have hbw4 : b < (wr.alloc (.cells #[.string ⟨v.run.toArray⟩,.string ⟨v.who.toArray⟩,.int .i64 v.at_,.int .i64 v.kind] 37)).heap.size:=by simp; omega
     go_upto_region 10 with (fail)
     generalize wr.alloc (.cells #[.string ⟨v.run.toArray⟩,.string ⟨v.who.toArray⟩,.int .i64 v.at_,.int .i64 v.kind] 37) = w4 at *
     generalize wr.heap.size = vb at *
     clear y0 y1 y2 y3 hbs
     obtain ⟨b1,hb1⟩ : ∃ b1,b1 = (decide (k = 0) || decide ((vs.getD (k - 1) default).run ≠ v.run)):=⟨_,rfl⟩
     rw [← hb1] at HFB
     have HB1:=Lib.hid hb1
     clear hb1
     go_cut [14] from 32 to 44 (fun u wx => u = .bool b1 ∧ ∃ n,wx = w4.drewN n)
     case first =>
      by_cases hk0 : k = 0
      ·have hb : b1 = true:=by rw [HB1.out,decide_eq_true hk0,Bool.true_or]
       subst hk0
       subst hb
       go_quiet (fail)
       go_wp2_with fail
       go_meet
       exact ⟨rfl,_,rfl⟩
      ·obtain ⟨k0,hkk⟩ : ∃ k0,k = k0 + 1:=⟨k - 1,by omega⟩
       obtain ⟨u,hu,c0⟩:=HPV2.out k0 hkk
       have wk : IntKind.i64.wrap ((k : Int) - 1) = (k0 : Int):=by rw [IntWalk.i64_in _ ⟨by omega,by omega⟩]; omega
       have d0 : ((k : Int) == 0) = false:=beq_eq_false_iff_ne.2 (by omega)
       have v0 : w4.cell? ⟨vb,0,none⟩ = some (.string ⟨v.run.toArray⟩):=hvb.cell 0
       have vl:=hvb.lt
       have hk0l : k0 < vs.length:=by omega
       have hb : b1 = (u.run != v.run):=by
        rw [HB1.out,hu,decide_eq_false hk0,Bool.false_or]
        by_cases h : u.run = v.run <;> simp [h]
       clear hkk hu hk0
       by_cases hr : u.run = v.run
       ·have d1 : (u.run == v.run) = true:=by simpa using hr
        have d2 : (u.run != v.run) = false:=by simpa using hr
        rw [d2] at hb
        subst hb
        clear hr
        go_quiet (fail)
        go_wp2_with fail
        go_meet
        exact ⟨rfl,_,rfl⟩
       ·have d1 : (u.run == v.run) = false:=by simpa using hr
        have d2 : (u.run != v.run) = true:=by simpa using hr
        rw [d2] at hb
        subst hb
        clear hr
        go_quiet (fail)
        go_wp2_with fail
        go_meet
        exact ⟨rfl,_,rfl⟩
     case rest =>
     obtain ⟨rfl,nd,rfl⟩:=hcut
     have hbd : Below w4.heap.size w4 (w4.drewN nd):=below_drewN' (Below.refl _ _) _
     have hqb0:=hqb.lt
     replace hvb:=hvb.below hbd
     replace ho:=own_keep ho hbd
     replace hx:=hx.trans (hbd.mono (Nat.le_of_lt hqb0))
     replace hqb:=hqb.below hbd
     clear hbd HPV2 hbw4 hqb0
     generalize w4.drewN nd = w5 at *
     obtain ⟨v0,v1,v2,v3⟩ : _ ∧ _ ∧ _ ∧ _:=⟨hvb.cell 0,hvb.cell 1,hvb.cell 2,hvb.cell 3⟩
     simp only [Q0,Q2,Q1] at v0 v1 v2 v3
     have vl:=hvb.lt
     by_cases hf : firstB vs t k = true
     ·have hf2:=hf
      rw [HFB.out,Bool.and_eq_true,decide_eq_true_eq] at hf2
      obtain ⟨hb1,hat⟩:=hf2
      subst hb1
      have d2 : decide (v.at_ ≤ t) = true:=decide_eq_true hat
      have HL2 : Hid (L ++ [toRl vs js q t v.run] = (runsUp vs t (k + 1)).map (toRl vs js q t)):=Lib.hid (by rw [HUP.out,if_pos hf,← HL.out])
      obtain ⟨q0,q1,q2⟩ : _ ∧ _ ∧ _:=⟨hqb.cell 0,hqb.cell 1,hqb.cell 2⟩
      simp only [Q0,Q2,Q1] at q0 q1 q2
      have ql:=hqb.lt
      have HRC:=Lib.hid (HRU.out w5 v.run (HV.out.below (show Below w.heap.size w w5 by rw [HQN.out]; exact hx)))
      clear hf HFB HUP HL
      go_wp2_with fail
      refine HRC.out.mono ?_
      rintro e w6 ⟨rfl,hb⟩
      replace ho:=own_keep ho hb
      replace hx:=hx.trans (hb.mono (Nat.le_of_lt hqb.lt))
      replace hqb:=hqb.below hb
      clear hb HRC q0 q1 q2 ql v0 v1 v2 v3 vl hvb
      obtain ⟨r,hr⟩ : ∃ r,r = toRl vs js q t v.run:=⟨_,rfl⟩
      have hrv : rulV v.run (ruledF vs js q v.run t) = .agg #[.string ⟨r.run.toArray⟩,.int .i64 r.how,.int .i64 r.since,.int .i64 r.yes,.int .i64 r.no]:=by rw [hr]; rfl
      rw [← hr] at HL2
      rw [hrv]
      clear hr hrv
      have hLl : L.length ≤ 100:=by omega
      have hqs6 : qb < w6.heap.size:=hqb.lt
      have ho2:=ho.alloc (.cells #[.string ⟨r.run.toArray⟩,.int .i64 r.how,.int .i64 r.since,.int .i64 r.yes,.int .i64 r.no] 56)
      replace hx:=hx.alloc (Nat.le_of_lt hqb.lt) (.cells #[.string ⟨r.run.toArray⟩,.int .i64 r.how,.int .i64 r.since,.int .i64 r.yes,.int .i64 r.no] 56)
      replace hqb:=hqb.alloc (.cells #[.string ⟨r.run.toArray⟩,.int .i64 r.how,.int .i64 r.since,.int .i64 r.yes,.int .i64 r.no] 56)
      clear ho
      have hxs:=hqb.lt
      go_wp2_with (at_builtin; go_must (refine wpList_app (lo:=qb) (base:=qb) (n:=L.length) (xs:=L.flatMap encRl) _ _ rfl _ _ ty_rulings rfl (by repeat (first | exact ho2 | refine World.ownsRow.alloc ?_ _ | refine own_drewN ?_ _ | refine World.ownsRow.drew ?_)) rfl (by first | exact row_new' _ (by first | rfl | simp) (by first | omega | (simp; omega)) rfl | exact row_newN _ _ (by first | rfl | simp) (by first | omega | (simp; omega)) rfl | exact row_newD _ (by first | rfl | simp) (by first | omega | (simp; omega)) rfl) rfl rfl (by first | omega | decide) (by first | omega | decide) (by first | omega | (simp; omega)) ?_))
      intro A5 c5 w7 ho5 hg5 _
      have hb5:=below_app ho2 hx hg5 (Nat.le_refl _) (by omega)
      have hqb5:=Blk.app ho2 hqb hg5 (by decide)
      have HO5 : Hid (w7.ownsRow qb 56 5 (.slice A5 (L ++ [r]).length c5) (L ++ [r]).length ((L ++ [r]).flatMap encRl)):=Lib.hid (by simpa [encRl] using ho5)
      clear ho5 hg5 ho2 hx hqb hxs
      go_wp2_with fail
      go_roundw
      case rel => exact ⟨k + 1,A5,c5,L ++ [r],hlt,by go_num,by simp,HL2,by simp; omega,HO5.out,hb5,hqb5⟩
      case measure => simp [intOf]; omega
     ·have HL2 : Hid (L = (runsUp vs t (k + 1)).map (toRl vs js q t)):=Lib.hid (by rw [HUP.out,if_neg hf,List.append_nil,← HL.out])
      have hfb : (b1 && decide (v.at_ ≤ t)) = false:=by rw [← HFB.out]; simpa using hf
      have hqs:=hqb.lt
      clear HFB HUP HL hf
      cases b1
      ·clear hfb
       go_wp2_with fail
       go_roundw
       case rel => exact ⟨k + 1,R,rc,L,hlt,by go_num,rfl,HL2,by omega,ho,hx,hqb⟩
       case measure => simp [intOf]; omega
      ·have hat : ¬ v.at_ ≤ t:=by simpa using hfb
       have d2 : decide (v.at_ ≤ t) = false:=decide_eq_false hat
       clear hfb
       go_wp2_with fail
       go_roundw
       case rel => exact ⟨k + 1,R,rc,L,hlt,by go_num,rfl,HL2,by omega,ho,hx,hqb⟩
       case measure => simp [intOf]; omega
    ·have hLL : L = rlsL vs js q t:=by have:=HL.out; rwa [show k = vs.length by omega] at this
     have HE:=Lib.hid (HGD.out R rc wr hx (by rw [← hLL]; exact ho))
     rw [← hLL] at HE
     clear hLL HL ho
     go_wp2_with fail
     go_returns
     exact HE.out
 ·have HE:=Lib.hid (HBAD.out fe w3 (by rw [HX.out,if_pos h0]) h0 hx)
  go_wp2_with fail
  go_returns
  exact HE.out
end Go.Proofs.YtgeaeockmadhcaaGreatDoor
/- The walks of RulingsOf and of slices.Equal over rulings. -/
namespace Go.Proofs.YtgeaeockmadhcaaGreatDoor
set_option linter.unusedVariables false
set_option linter.unusedSimpArgs false
open Go.RowKit Go.Sort

theorem rls_at {w : World} {lo : Nat} {A : Option Addr} {ps : List RlE} (h : Row w lo 5 A ps.length (ps.flatMap encRl)) (h0 : 0 < ps.length) : ∃ b off,A = some ⟨b,off,none⟩ ∧ b < w.heap.size ∧ ∀ k (hk : k < ps.length),w.cell? ⟨b,off + k * 5,none⟩ = some (.string ⟨ps[k].run.toArray⟩) ∧ w.cell? ⟨b,off + k * 5 + 1,none⟩ = some (.int .i64 ps[k].how) ∧ w.cell? ⟨b,off + k * 5 + 2,none⟩ = some (.int .i64 ps[k].since) ∧ w.cell? ⟨b,off + k * 5 + 3,none⟩ = some (.int .i64 ps[k].yes) ∧ w.cell? ⟨b,off + k * 5 + 4,none⟩ = some (.int .i64 ps[k].no):=by
 obtain ⟨b,off,rfl,-,hl,hc⟩:=h.2 h0
 refine ⟨b,off,rfl,hl,fun k hk => ?_⟩
 have hg : ∀ i (hi : i < 5),(ps.flatMap encRl)[k * 5 + i]? = (encRl ps[k])[i]?:=fun i hi => by
  have h9 : ∀ (ps : List RlE) (k : Nat) (hk : k < ps.length),(ps.flatMap encRl)[k * 5 + i]? = (encRl ps[k])[i]?:=fun ps => by
   induction ps with
   | nil => intro k hk; simp at hk
   | cons x ps ih =>
    intro k hk
    rw [List.flatMap_cons]
    cases k with
    | zero => rw [Nat.zero_mul,Nat.zero_add,List.getElem?_append_left (by rw [encRl_len]; exact hi)]; rfl
    | succ k => rw [List.getElem?_append_right (by rw [encRl_len]; omega),encRl_len,show (k + 1) * 5 + i - 5 = k * 5 + i by omega]; exact ih k (by simpa using hk)
  exact h9 ps k hk
 refine ⟨?_,?_,?_,?_,?_⟩
 ·have:=hc (k * 5 + 0) _ (hg 0 (by decide)); simpa [Nat.add_assoc] using this
 ·have:=hc (k * 5 + 1) _ (hg 1 (by decide)); simpa [Nat.add_assoc] using this
 ·have:=hc (k * 5 + 2) _ (hg 2 (by decide)); simpa [Nat.add_assoc] using this
 ·have:=hc (k * 5 + 3) _ (hg 3 (by decide)); simpa [Nat.add_assoc] using this
 ·have:=hc (k * 5 + 4) _ (hg 4 (by decide)); simpa [Nat.add_assoc] using this
theorem differR {x y : RlE} (h : x ≠ y) : ((x.run == y.run) = false) ∨ ((x.run == y.run) = true ∧ (x.how == y.how) = false) ∨ ((x.run == y.run) = true ∧ (x.how == y.how) = true ∧ (x.since == y.since) = false) ∨ ((x.run == y.run) = true ∧ (x.how == y.how) = true ∧ (x.since == y.since) = true ∧ (x.yes == y.yes) = false) ∨ ((x.run == y.run) = true ∧ (x.how == y.how) = true ∧ (x.since == y.since) = true ∧ (x.yes == y.yes) = true ∧ (x.no == y.no) = false):=by
 by_cases h1 : x.run = y.run
 ·by_cases h2 : x.how = y.how
  ·by_cases h3 : x.since = y.since
   ·by_cases h4 : x.yes = y.yes
    ·have h5 : x.no ≠ y.no:=fun h5 => h (by cases x; cases y; simp_all)
     exact .inr (.inr (.inr (.inr ⟨by simpa using h1,by simpa using h2,by simpa using h3,by simpa using h4,by simpa using h5⟩)))
    ·exact .inr (.inr (.inr (.inl ⟨by simpa using h1,by simpa using h2,by simpa using h3,by simpa using h4⟩)))
   ·exact .inr (.inr (.inl ⟨by simpa using h1,by simpa using h2,by simpa using h3⟩))
  ·exact .inr (.inl ⟨by simpa using h1,by simpa using h2⟩)
 ·exact .inl (by simpa using h1)
set_option maxHeartbeats 1000000 in
theorem equalRl_any (A B : Option Addr) (c d lo lo' : Nat) (ps qs : List RlE) (w : World) (hr : Row w lo 5 A ps.length (ps.flatMap encRl)) (hr' : Row w lo' 5 B qs.length (qs.flatMap encRl)) (hl : ps.length ≤ 1000000) (hl' : qs.length ≤ 1000000) :
  Calls Tryz.prog 23 #[.slice A ps.length c,.slice B qs.length d] w fun e w' => e = .returned (.bool (decide (ps = qs))) ∧ ∃ q,w' = w.drewN q:=by
 by_cases hlen : ps.length = qs.length
 ·have h0 : ((ps.length : Int) != (qs.length : Int)) = false:=by simp [hlen]
  have HLEN:=Lib.hid hlen
  clear hlen
  go_enter Tryz.func23,Tryz.ntmps23
  go_wp2_with fail
  go_loopw [13] (fun i wr => ∃ (k : Nat) (q : Nat),k ≤ ps.length ∧ i = .int .i64 k ∧ Hid (ps.take k = qs.take k) ∧ wr = w.drewN q) (fun i _ => ps.length - (intOf i).toNat)
  case atStart => exact ⟨0,0,Nat.zero_le _,rfl,Lib.hid rfl,rfl⟩
  case round =>
   obtain ⟨k,q,hk,rfl,htk,rfl⟩:=hrel
   by_cases hlt : k < ps.length
   ·have hlt' : k < qs.length:=by have:=HLEN.out; omega
    obtain ⟨b,off,rfl,hbs,hcl⟩:=rls_at hr (by omega)
    obtain ⟨b',off',rfl,hbs',hcl'⟩:=rls_at hr' (by omega)
    obtain ⟨c0,c1,c2,c3,c4⟩:=hcl k hlt
    obtain ⟨d0,d1,d2,d3,d4⟩:=hcl' k hlt'
    clear hcl hcl'
    obtain ⟨x,hx⟩ : ∃ x,x = ps[k]:=⟨_,rfl⟩
    obtain ⟨y,hy⟩ : ∃ y,y = qs[k]:=⟨_,rfl⟩
    rw [← hx] at c0 c1 c2 c3 c4
    rw [← hy] at d0 d1 d2 d3 d4
    have HN : Hid ((x = y → ps.take (k + 1) = qs.take (k + 1)) ∧ (x ≠ y → ps ≠ qs)):=Lib.hid ⟨fun he => by rw [List.take_succ_eq_append_getElem hlt,List.take_succ_eq_append_getElem hlt',htk.out,← hx,← hy,he],fun hne h => hne (by subst h; rw [hx,hy])⟩
    clear hx hy hr hr'
    by_cases he : x = y
    ·have HN2:=Lib.hid (HN.out.1 he)
     subst he
     clear HN
     go_wp2_with fail
     go_quiet (fail)
     go_wp2_with fail
     go_roundw
     case rel => exact ⟨k + 1,_,by omega,by go_num,HN2,rfl⟩
     case measure => simp [intOf]; omega
    ·have HN2:=Lib.hid (HN.out.2 he)
     have hdf:=differR he
     clear HN he
     rcases hdf with h1 | ⟨h1,h2⟩ | ⟨h1,h2,h3⟩ | ⟨h1,h2,h3,h4⟩ | ⟨h1,h2,h3,h4,h5⟩ <;>
     ·go_wp2_with fail
      go_quiet (fail)
      go_wp2_with fail
      go_ret
      exact ⟨ret_bool' (by simp [HN2.out]),_,World.drewN_drewN _ _ _⟩
   ·have HN : Hid (ps = qs):=Lib.hid (by
     have:=htk.out
     have hh:=HLEN.out
     rwa [List.take_of_length_le (by omega),List.take_of_length_le (by omega)] at this)
    go_wp2_with fail
    go_ret
    exact ⟨ret_bool' (by simp [HN.out]),_,rfl⟩
 ·have h0 : ((ps.length : Int) != (qs.length : Int)) = true:=by rw [bne_iff_ne]; omega
  have HN : Hid (¬ ps = qs):=Lib.hid (fun h => hlen (by rw [h]))
  clear hlen
  go_enter Tryz.func23,Tryz.ntmps23
  go_wp2_with fail
  go_ret
  exact ⟨ret_bool' (by simp [HN.out]),0,rfl⟩
theorem early_snoc (vs : List VoteE) (t : Int) (v : VoteE) : ((vs ++ [v]).filter fun v => decide (v.at_ ≤ t)).map (·.run) = (vs.filter fun v => decide (v.at_ ≤ t)).map (·.run) ++ if v.at_ ≤ t then [v.run] else []:=by
 rw [List.filter_append,List.map_append]
 congr 1
 by_cases h : v.at_ ≤ t
 ·rw [if_pos h]; simp [h]
 ·rw [if_neg h]; simp [h]
set_option maxHeartbeats 8000000 in
set_option maxRecDepth 100000 in
theorem rulingsOf_any (lo lo' c c' : Nat) (A B : Option Addr) (vs : List VoteE) (js : List JudgeE) (q : QuoE) (t : Int) (w : World) (hV : VoW w lo lo' A B vs js) (hl : vs.length ≤ 100) (hv : vs.Pairwise ltV) (hp : ∀ v ∈ vs,0 ≤ v.at_) (hj : judgesE js q = 0) :
  Calls Tryz.prog 24 #[.slice A vs.length c,.slice B js.length c',.agg #[.int .i64 q.least,.int .i64 q.num,.int .i64 q.den],.int .i64 t] w fun e w' => ∃ (R : Option Addr) (rc : Nat),e = .returned (.slice R (rlsL vs js q t).length rc) ∧ w'.ownsRow w.heap.size 56 5 (.slice R (rlsL vs js q t).length rc) (rlsL vs js q t).length ((rlsL vs js q t).flatMap encRl) ∧ Below w.heap.size w w':=by
 have HV:=Lib.hid hV
 have HRU:=Lib.hid (fun (W : World) (run : List UInt8) (h : VoW W lo lo' A B vs js) => ruledOf_any lo lo' c c' A B vs js q run t W h hl hv hp hj)
 have HON:=Lib.hid (runs_once hv t)
 have hal : Below w.heap.size w (w.alloc (.cells #[.int .i64 q.least,.int .i64 q.num,.int .i64 q.den] 33)):=(Below.refl _ _).alloc (Nat.le_refl _) _
 have hqb : Blk (w.alloc (.cells #[.int .i64 q.least,.int .i64 q.num,.int .i64 q.den] 33)) w.heap.size 33 #[.int .i64 q.least,.int .i64 q.num,.int .i64 q.den]:=Blk.new _ _ _
 clear hV hv hp hj
 go_enter Tryz.func24,Tryz.ntmps24
 go_upto_region 2 with (fail)
 generalize w.alloc (.cells #[.int .i64 q.least,.int .i64 q.num,.int .i64 q.den] 33) = w2 at *
 generalize hqn : w.heap.size = qb at *
 have HQN:=Lib.hid hqn
 clear hqn
 go_wp2_with fail
 go_loopw [9,17] (fun o i wr => ∃ (k : Nat) (R : Option Addr) (rc : Nat) (L : List (List UInt8)),k ≤ vs.length ∧ i = .int .i64 k ∧ o = .slice R L.length rc ∧ Hid (L = ((vs.take k).filter fun v => decide (v.at_ ≤ t)).map (·.run)) ∧ L.length ≤ k ∧ wr.ownsRow qb 9 1 (.slice R L.length rc) L.length (strs L) ∧ Below qb w wr ∧ Blk wr qb 33 #[.int .i64 q.least,.int .i64 q.num,.int .i64 q.den]) (fun _ i _ => vs.length - (intOf i).toNat)
 case atStart => exact ⟨0,none,0,[],Nat.zero_le _,rfl,rfl,Lib.hid rfl,Nat.le_refl _,World.ownsRow_nil _ _ _ _,hal,hqb⟩
 case round =>
  clear hal hqb
  obtain ⟨k,R,rc,L,hk,rfl,rfl,HL,hLk,ho,hx,hqb⟩:=hrel
  by_cases hlt : k < vs.length
  ·obtain ⟨b,off,rfl,hbs,-,hcell⟩:=votes_at (HV.out.v.below (show Below w.heap.size w wr by rw [HQN.out]; exact hx)) (by omega)
   obtain ⟨y0,y1,y2,y3⟩:=hcell k hlt
   have HUP : Hid (((vs.take (k + 1)).filter fun v => decide (v.at_ ≤ t)).map (·.run) = L ++ if vs[k].at_ ≤ t then [vs[k].run] else []):=Lib.hid (by rw [List.take_add_one,List.getElem?_eq_getElem hlt,HL.out]; exact early_snoc _ _ _)
   clear hcell HL
   generalize vs[k] = v at *
   have hal : Below wr.heap.size wr (wr.alloc (.cells #[.string ⟨v.run.toArray⟩,.string ⟨v.who.toArray⟩,.int .i64 v.at_,.int .i64 v.kind] 37)):=(Below.refl _ _).alloc (Nat.le_refl _) _
   have hvb : Blk (wr.alloc (.cells #[.string ⟨v.run.toArray⟩,.string ⟨v.who.toArray⟩,.int .i64 v.at_,.int .i64 v.kind] 37)) wr.heap.size 37 #[.string ⟨v.run.toArray⟩,.string ⟨v.who.toArray⟩,.int .i64 v.at_,.int .i64 v.kind]:=Blk.new _ _ _
   replace ho:=own_keep ho hal
   replace hx:=hx.trans (hal.mono (Nat.le_of_lt hqb.lt))
   replace hqb:=hqb.below hal
   clear hal
   go_upto_region 5 with (fail)
   generalize wr.alloc (.cells #[.string ⟨v.run.toArray⟩,.string ⟨v.who.toArray⟩,.int .i64 v.at_,.int .i64 v.kind] 37) = w4 at *
   generalize wr.heap.size = vb at *
   clear y0 y1 y2 y3 hbs
   obtain ⟨v0,v1,v2,v3⟩ : _ ∧ _ ∧ _ ∧ _:=⟨hvb.cell 0,hvb.cell 1,hvb.cell 2,hvb.cell 3⟩
   simp only [Q0,Q2,Q1] at v0 v1 v2 v3
   have vl:=hvb.lt
   by_cases hat : v.at_ ≤ t
   ·have d2 : decide (v.at_ ≤ t) = true:=decide_eq_true hat
    have HL2 : Hid (L ++ [v.run] = ((vs.take (k + 1)).filter fun v => decide (v.at_ ≤ t)).map (·.run)):=Lib.hid (by rw [HUP.out,if_pos hat])
    have hLl : L.length ≤ 100:=by omega
    have hqs6 : qb < w4.heap.size:=hqb.lt
    have ho2:=ho.alloc (.cells #[.string ⟨v.run.toArray⟩] 9)
    replace hx:=hx.alloc (Nat.le_of_lt hqb.lt) (.cells #[.string ⟨v.run.toArray⟩] 9)
    replace hqb:=hqb.alloc (.cells #[.string ⟨v.run.toArray⟩] 9)
    clear ho HUP
    go_wp2_with (at_builtin; go_must (refine wpList_app (lo:=qb) (base:=qb) (n:=L.length) (xs:=strs L) _ _ rfl _ _ ty_strs rfl (by repeat (first | exact ho2 | refine World.ownsRow.alloc ?_ _ | refine own_drewN ?_ _ | refine World.ownsRow.drew ?_)) rfl (by first | exact row_new' _ (by first | rfl | simp) (by first | omega | (simp; omega)) rfl | exact row_newN _ _ (by first | rfl | simp) (by first | omega | (simp; omega)) rfl | exact row_newD _ (by first | rfl | simp) (by first | omega | (simp; omega)) rfl) rfl rfl (by first | omega | decide) (by first | omega | decide) (by first | omega | (simp; omega)) ?_))
    intro A5 c5 w7 ho5 hg5 _
    have hb5:=below_app ho2 hx hg5 (Nat.le_refl _) (Nat.le_of_lt hqb.lt)
    have hqb5:=Blk.app ho2 hqb hg5 (by decide)
    have HO5 : Hid (w7.ownsRow qb 9 1 (.slice A5 (L ++ [v.run]).length c5) (L ++ [v.run]).length (strs (L ++ [v.run]))):=Lib.hid (by rw [strs_snoc]; simpa using ho5)
    clear ho5 hg5 ho2 hx hqb hqs6 hvb v0 v1 v2 v3 vl
    go_wp2_with fail
    go_roundw
    case rel => exact ⟨k + 1,A5,c5,L ++ [v.run],hlt,by go_num,by simp,HL2,by simp; omega,HO5.out,hb5,hqb5⟩
    case measure => simp [intOf]; omega
   ·have d2 : decide (v.at_ ≤ t) = false:=decide_eq_false hat
    have HL2 : Hid (L = ((vs.take (k + 1)).filter fun v => decide (v.at_ ≤ t)).map (·.run)):=Lib.hid (by rw [HUP.out,if_neg hat,List.append_nil])
    clear HUP
    go_wp2_with fail
    go_roundw
    case rel => exact ⟨k + 1,R,rc,L,hlt,by go_num,rfl,HL2,by omega,ho,hx,hqb⟩
    case measure => simp [intOf]; omega
  ·have hLL : onceT L = runsUp vs t vs.length:=by
    have:=HL.out
    rw [List.take_of_length_le (by omega)] at this
    rw [this]
    exact HON.out
   have HCO:=Lib.hid (onceR_any R rc qb L wr (Row.of_own ho) (by omega))
   rw [hLL] at HCO
   have hnl : (runsUp vs t vs.length).length ≤ 100:=Nat.le_trans (runsUp_len vs t vs.length) hl
   clear hLL HL ho HON
   obtain ⟨N,hN⟩ : ∃ N,N = runsUp vs t vs.length:=⟨_,rfl⟩
   have HRL : Hid (rlsL vs js q t = N.map (toRl vs js q t)):=Lib.hid (by rw [hN]; rfl)
   rw [← hN] at HCO hnl
   clear hN
   go_wp2_with fail
   refine HCO.out.mono ?_
   rintro e w5 ⟨R2,rc2,rfl,ho,hb⟩
   replace hx:=hx.trans (hb.mono (Nat.le_of_lt hqb.lt))
   replace hqb:=hqb.below hb
   have hrn:=Row.of_own ho
   clear ho hb HCO
   go_wp2_with fail
   go_loopw [12,34] (fun o i wr => ∃ (k : Nat) (R : Option Addr) (rc : Nat) (L : List RlE),k ≤ N.length ∧ i = .int .i64 k ∧ o = .slice R L.length rc ∧ Hid (L = (N.take k).map (toRl vs js q t)) ∧ L.length ≤ k ∧ wr.ownsRow w5.heap.size 56 5 (.slice R L.length rc) L.length (L.flatMap encRl) ∧ Below w5.heap.size w5 wr) (fun _ i _ => N.length - (intOf i).toNat)
   case atStart => exact ⟨0,none,0,[],Nat.zero_le _,rfl,rfl,Lib.hid rfl,Nat.le_refl _,World.ownsRow_nil _ _ _ _,Below.refl _ _⟩
   case round =>
    obtain ⟨k,R,rc,L,hk2,rfl,rfl,HL,hLk2,ho,hb3⟩:=hrel
    have hqs:=hqb.lt
    have hx3:=hx.trans (hb3.mono (Nat.le_of_lt hqs))
    have hqb3:=hqb.below hb3
    have hq3s:=hqb3.lt
    by_cases hlt2 : k < N.length
    ·obtain ⟨b,off,hR,hro,hrs,hrc⟩:=(hrn.below hb3).2 (by omega)
     subst hR
     have c0 : wr.cell? ⟨b,off + k,none⟩ = some (.string ⟨N[k].toArray⟩):=hrc k _ (by unfold strs; rw [List.getElem?_map,List.getElem?_eq_getElem hlt2]; rfl)
     have HL2 : Hid (L ++ [toRl vs js q t N[k]] = (N.take (k + 1)).map (toRl vs js q t)):=Lib.hid (by rw [List.take_add_one,List.getElem?_eq_getElem hlt2,List.map_append,← HL.out]; rfl)
     clear hrc HL
     generalize N[k] = run at *
     have HRC:=Lib.hid (HRU.out wr run (HV.out.below (show Below w.heap.size w wr by rw [HQN.out]; exact hx3)))
     obtain ⟨q0,q1,q2⟩ : _ ∧ _ ∧ _:=⟨hqb3.cell 0,hqb3.cell 1,hqb3.cell 2⟩
     simp only [Q0,Q2,Q1] at q0 q1 q2
     go_wp2_with fail
     refine HRC.out.mono ?_
     rintro e w6 ⟨rfl,hb⟩
     replace ho:=own_keep ho hb
     replace hb3:=below_up hb3 hb
     have hq6s:=(hqb3.below hb).lt
     clear hb HRC q0 q1 q2 c0 hro hrs hx3 hqb3 hq3s
     obtain ⟨r,hr⟩ : ∃ r,r = toRl vs js q t run:=⟨_,rfl⟩
     have hrv : rulV run (ruledF vs js q run t) = .agg #[.string ⟨r.run.toArray⟩,.int .i64 r.how,.int .i64 r.since,.int .i64 r.yes,.int .i64 r.no]:=by rw [hr]; rfl
     rw [← hr] at HL2
     rw [hrv]
     clear hr hrv
     have hLl : L.length ≤ 100:=by omega
     have ho2:=ho.alloc (.cells #[.string ⟨r.run.toArray⟩,.int .i64 r.how,.int .i64 r.since,.int .i64 r.yes,.int .i64 r.no] 56)
     have hb4:=hb3.alloc hb3.size (.cells #[.string ⟨r.run.toArray⟩,.int .i64 r.how,.int .i64 r.since,.int .i64 r.yes,.int .i64 r.no] 56)
     clear ho
     have h56:=hb3.size
     go_wp2_with (at_builtin; go_must (refine wpList_app (lo:=w5.heap.size) (base:=w5.heap.size) (n:=L.length) (xs:=L.flatMap encRl) _ _ rfl _ _ ty_rulings rfl (by repeat (first | exact ho2 | refine World.ownsRow.alloc ?_ _ | refine own_drewN ?_ _ | refine World.ownsRow.drew ?_)) rfl (by first | exact row_new' _ (by first | rfl | simp) (by first | omega | (simp; omega)) rfl | exact row_newN _ _ (by first | rfl | simp) (by first | omega | (simp; omega)) rfl | exact row_newD _ (by first | rfl | simp) (by first | omega | (simp; omega)) rfl) rfl rfl (by first | omega | decide) (by first | omega | decide) (by first | omega | (simp; omega)) ?_))
     intro A5 c5 w7 ho5 hg5 _
     have hb5 : Below w5.heap.size w5 w7:=below_app ho2 hb4 hg5 (Nat.le_refl _) hb4.size
     have HO5 : Hid (w7.ownsRow w5.heap.size 56 5 (.slice A5 (L ++ [r]).length c5) (L ++ [r]).length ((L ++ [r]).flatMap encRl)):=Lib.hid (by simpa [encRl] using ho5)
     clear ho5 hg5 ho2 hb3 hb4 hq6s h56
     go_wp2_with fail
     go_roundw
     case rel => exact ⟨k + 1,A5,c5,L ++ [r],hlt2,by go_num,by simp,HL2,by simp; omega,HO5.out,hb5⟩
     case measure => simp [intOf]; omega
    ·have hLL : L = rlsL vs js q t:=by have:=HL.out; rw [List.take_of_length_le (by omega)] at this; rw [HRL.out]; exact this
     have HE : Hid (∃ (R' : Option Addr) (rc' : Nat),(Ending.returned (.slice R L.length rc)) = .returned (.slice R' (rlsL vs js q t).length rc') ∧ wr.ownsRow w.heap.size 56 5 (.slice R' (rlsL vs js q t).length rc') (rlsL vs js q t).length ((rlsL vs js q t).flatMap encRl) ∧ Below w.heap.size w wr):=Lib.hid ⟨R,rc,by rw [hLL],by rw [HQN.out,← hLL]; exact own_lowerV ho (Nat.le_of_lt hqs),by rw [HQN.out]; exact hx3⟩
     clear hLL HL ho
     go_wp2_with fail
     go_ret
     exact HE.out
end Go.Proofs.YtgeaeockmadhcaaGreatDoor
/- The walks of KeyFault and NeededOf. -/
namespace Go.Proofs.YtgeaeockmadhcaaGreatDoor
set_option linter.unusedVariables false
set_option linter.unusedSimpArgs false
open Go.RowKit Go.Sort

theorem rkeyFault_any (s : List UInt8) (w : World) (hs : s.length ≤ 1000000) : Calls Tryz.prog 27 #[.string ⟨s.toArray⟩] w fun e w' => e = .returned (.int .i64 (if keyB s = false then 5 else 0)) ∧ Below w.heap.size w w':=by
 obtain ⟨b,hb⟩ : ∃ b,b = keyB s:=⟨_,rfl⟩
 rw [← hb]
 have HB:=Lib.hid hb
 clear hb
 go_enter Tryz.func27,Tryz.ntmps27
 go_wp2_with fail
 refine (rkey_any s w (by omega)).mono ?_
 rintro e w2 ⟨rfl,hb⟩
 rw [← HB.out]
 cases b
 ·go_wp2_with fail
  go_ret
  exact ⟨rfl,hb⟩
 ·go_wp2_with fail
  go_ret
  exact ⟨rfl,hb⟩
theorem enoughC_any (q : QuoE) (yes no : Int) (n : Nat) (qb yb nb : Nat) (w : World) (hq : Blk w qb 33 #[.int .i64 q.least,.int .i64 q.num,.int .i64 q.den]) (hy : Blk w yb 3 #[.int .i64 yes]) (hno : Blk w nb 3 #[.int .i64 no]) (hqn : 0 ≤ q.num ∧ q.num ≤ 1000) (hqd : 0 ≤ q.den ∧ q.den ≤ 1000) (hyb : 0 ≤ yes ∧ yes ≤ 100000) (hnb : 0 ≤ no ∧ no ≤ 100000) (hn : n ≤ 1000000) :
  Calls Tryz.prog 67 #[.int .i64 n,.pointer (some ⟨qb,0,none⟩),.pointer (some ⟨yb,0,none⟩),.pointer (some ⟨nb,0,none⟩)] w fun e w' => e = .returned (.bool (decF q (yes + n) no == 1)) ∧ Below w.heap.size w w':=by
 obtain ⟨q0,q1,q2⟩ : _ ∧ _ ∧ _:=⟨hq.cell 0,hq.cell 1,hq.cell 2⟩
 have y0:=hy.cell 0
 have n0:=hno.cell 0
 simp only [Q0,Q2,Q1] at q0 q1 q2 y0 n0
 have ql:=hq.lt
 have yl:=hy.lt
 have nl:=hno.lt
 have HDC:=Lib.hid (fun W => rdecided_any q (yes + n) no W hqn hqd (by omega) (by omega))
 unfold quoV at HDC
 obtain ⟨D,hD⟩ : ∃ D,D = decF q (yes + n) no:=⟨_,rfl⟩
 rw [← hD] at HDC ⊢
 clear hD hq hy hno
 go_enter Tryz.func67,Tryz.ntmps67
 go_wp2_with fail
 refine (HDC.out _).mono ?_
 rintro e w2 ⟨rfl,hb⟩
 clear HDC q0 q1 q2 y0 n0 ql yl nl
 go_wp2_with fail
 go_ret
 exact ⟨ret_bool' rfl,hb⟩
def NeedO (q : QuoE) (yes no : Int) (e : Ending) : Prop :=
 (∃ n : Nat,n ≤ 1000000 ∧ decF q (yes + n) no = 1 ∧ (∀ m : Nat,m < n → decF q (yes + m) no ≠ 1) ∧ e = .returned (.int .i64 n)) ∨ ((∀ m : Nat,m ≤ 1000000 → decF q (yes + m) no ≠ 1) ∧ e = .returned (.int .i64 (-1)))
set_option maxHeartbeats 8000000 in
set_option maxRecDepth 100000 in
theorem neededOf_any (lo lo' c c' : Nat) (A B : Option Addr) (vs : List VoteE) (js : List JudgeE) (q : QuoE) (run : List UInt8) (t : Int) (w : World) (hV : VoW w lo lo' A B vs js) (hl : vs.length ≤ 100) (hj : judgesE js q = 0) :
  Calls Tryz.prog 29 #[.slice A vs.length c,.slice B js.length c',.agg #[.int .i64 q.least,.int .i64 q.num,.int .i64 q.den],.string ⟨run.toArray⟩,.int .i64 t] w fun e w' => NeedO q (ruledF vs js q run t).yes (ruledF vs js q run t).no e ∧ Below w.heap.size w w':=by
 have hq:=quoE_ok (judgesE_ok hj).2.2.2
 have hw:=judges_wt hj
 have hsm:=ruledF_sums (vs:=vs) (js:=js) (run:=run) (t:=t) hq.1
 obtain ⟨y,hy⟩ : ∃ y,y = (ruledF vs js q run t).yes:=⟨_,rfl⟩
 obtain ⟨n,hn⟩ : ∃ n,n = (ruledF vs js q run t).no:=⟨_,rfl⟩
 have hyb:=sumL_bd hw vs hl run t (kind:=1) (by decide)
 have hnb:=sumL_bd hw vs hl run t (kind:=2) (by decide)
 have HVA:=Lib.hid (fun (W : World) (h : VoW W lo lo' A B vs js) => votesAt_any lo lo' c c' A B vs js run t W h hl hw)
 unfold LofF at hyb hnb HVA
 rw [← hsm.1] at hyb HVA
 rw [← hsm.2] at hnb HVA
 rw [← hy] at hyb HVA ⊢
 rw [← hn] at hnb HVA ⊢
 have HEN:=Lib.hid (fun (m qb yb nb : Nat) (W : World) (h1 : Blk W qb 33 #[.int .i64 q.least,.int .i64 q.num,.int .i64 q.den]) (h2 : Blk W yb 3 #[.int .i64 y]) (h3 : Blk W nb 3 #[.int .i64 n]) (h4 : m ≤ 1000000) => enoughC_any q y n m qb yb nb W h1 h2 h3 (by omega) (by omega) hyb hnb h4)
 have HMO:=Lib.hid (fun i j : Nat => decF_mono (yes:=y) (no:=n) hq.2.2.2.2.2 i j)
 have hal : Below w.heap.size w (w.alloc (.cells #[.int .i64 q.least,.int .i64 q.num,.int .i64 q.den] 33)):=(Below.refl _ _).alloc (Nat.le_refl _) _
 have hqb : Blk (w.alloc (.cells #[.int .i64 q.least,.int .i64 q.num,.int .i64 q.den] 33)) w.heap.size 33 #[.int .i64 q.least,.int .i64 q.num,.int .i64 q.den]:=Blk.new _ _ _
 replace hV:=hV.below hal
 clear hq hw hsm hy hn hj hyb hnb
 go_enter Tryz.func29,Tryz.ntmps29
 go_upto_region 1 with (fail)
 generalize w.alloc (.cells #[.int .i64 q.least,.int .i64 q.num,.int .i64 q.den] 33) = w2 at *
 generalize hqn : w.heap.size = qb at *
 have HQN:=Lib.hid hqn
 clear hqn
 go_wp2_with fail
 refine (HVA.out _ hV).mono ?_
 rintro e w3 ⟨rfl,hb⟩
 have hx : Below qb w w3:=hal.trans (hb.mono (Nat.le_of_lt hqb.lt))
 replace hqb:=hqb.below hb
 clear hb hal hV HVA
 go_upto_region 2 with (fail)
 have hyB : Blk ((w3.alloc (.cells #[.int .i64 y] 3)).alloc (.cells #[.int .i64 n] 3)) w3.heap.size 3 #[.int .i64 y]:=(Blk.new _ _ _).alloc _
 have hnB : Blk ((w3.alloc (.cells #[.int .i64 y] 3)).alloc (.cells #[.int .i64 n] 3)) (w3.heap.size + 1) 3 #[.int .i64 n]:=Blk.at1 _ (by simp)
 have hal : Below w3.heap.size w3 ((w3.alloc (.cells #[.int .i64 y] 3)).alloc (.cells #[.int .i64 n] 3)):=(by repeat (first | exact Below.refl _ _ | refine Below.alloc ?_ (by first | omega | (simp; omega) | simp) _ | refine below_drewN' ?_ _ | refine Below.drew ?_))
 have hx2:=hx.trans (hal.mono (Nat.le_of_lt hqb.lt))
 replace hqb:=hqb.below hal
 clear hal hx
 generalize (w3.alloc (.cells #[.int .i64 y] 3)).alloc (.cells #[.int .i64 n] 3) = w4 at *
 generalize w3.heap.size + 1 = nb at *
 generalize w3.heap.size = yb at *
 have hqs:=hqb.lt
 go_wp2_with fail
 have hen:=HEN.out 1000000 qb yb nb w4 hqb hyB hnB (by decide)
 refine hen.mono ?_
 clear hen
 rintro e w5 ⟨rfl,hb⟩
 have hx:=hx2.trans (hb.mono (Nat.le_of_lt hqs))
 replace hqb:=hqb.below hb
 replace hyB:=hyB.below hb
 replace hnB:=hnB.below hb
 clear hb hx2 hqs
 by_cases hb0 : decF q (y + ((1000000 : Nat) : Int)) n = 1
 ·have d0 : (decF q (y + ((1000000 : Nat) : Int)) n == 1) = true:=by rw [hb0]; rfl
  rw [d0]
  have HP0 : Hid (∀ i : Nat,i < 0 → decF q (y + i) n ≠ 1):=Lib.hid (fun i h => by omega)
  have HP1:=Lib.hid hb0
  clear d0 hb0
  go_wp2_with fail
  go_loopw [14,15] (fun a b wr => ∃ lo2 hi2 : Nat,a = .int .i64 lo2 ∧ b = .int .i64 hi2 ∧ lo2 ≤ hi2 ∧ hi2 ≤ 1000000 ∧ Hid (∀ i : Nat,i < lo2 → decF q (y + i) n ≠ 1) ∧ Hid (decF q (y + (hi2 : Int)) n = 1) ∧ Below qb w wr ∧ Blk wr qb 33 #[.int .i64 q.least,.int .i64 q.num,.int .i64 q.den] ∧ Blk wr yb 3 #[.int .i64 y] ∧ Blk wr nb 3 #[.int .i64 n]) (fun a b _ => (intOf b).toNat - (intOf a).toNat)
  case atStart => exact ⟨0,1000000,rfl,rfl,by decide,Nat.le_refl _,HP0,HP1,hx,hqb,hyB,hnB⟩
  case round =>
   clear HP0 HP1 hx hqb hyB hnB
   obtain ⟨lo2,hi2,rfl,rfl,hlh,hhi,HP0,HP1,hx,hqb,hyB,hnB⟩:=hrel
   by_cases hlt : lo2 < hi2
   ·obtain ⟨s,hs⟩ : ∃ s,s = lo2 + hi2:=⟨_,rfl⟩
    have es : (lo2 : Int) + (hi2 : Int) = (s : Int):=by omega
    obtain ⟨m,hm⟩ : ∃ m,m = s / 2:=⟨_,rfl⟩
    have em : (s : Int).tdiv 2 = (m : Int):=by rw [Int.tdiv_eq_ediv_of_nonneg (by omega)]; omega
    have em2 : (s : Int) / 2 = (m : Int):=by omega
    have h1 : lo2 ≤ m:=by omega
    have h2 : m < hi2:=by omega
    have hsb : s ≤ 2000000:=by omega
    have hqs:=hqb.lt
    clear hs hm
    go_wp2_with fail
    have hen:=HEN.out m qb yb nb wr hqb hyB hnB (by omega)
    refine hen.mono ?_
    clear hen
    rintro e w6 ⟨rfl,hb⟩
    replace hx:=hx.trans (hb.mono (Nat.le_of_lt hqs))
    replace hqb:=hqb.below hb
    replace hyB:=hyB.below hb
    replace hnB:=hnB.below hb
    clear hb hqs
    by_cases hb1 : decF q (y + (m : Int)) n = 1
    ·have d1 : (decF q (y + (m : Int)) n == 1) = true:=by rw [hb1]; rfl
     rw [d1]
     have HP2:=Lib.hid hb1
     clear d1 hb1 HP1
     go_wp2_with fail
     go_roundw
     case rel => exact ⟨lo2,m,rfl,by go_num,h1,by omega,HP0,HP2,hx,hqb,hyB,hnB⟩
     case measure => simp [intOf]; omega
    ·have d1 : (decF q (y + (m : Int)) n == 1) = false:=beq_eq_false_iff_ne.2 hb1
     rw [d1]
     have HP2 : Hid (∀ i : Nat,i < m + 1 → decF q (y + i) n ≠ 1):=Lib.hid (fun i hi h => hb1 (HMO.out i m (by omega) h))
     clear d1 hb1 HP0
     go_wp2_with fail
     go_roundw
     case rel => exact ⟨m + 1,hi2,by go_num,rfl,h2,hhi,HP2,HP1,hx,hqb,hyB,hnB⟩
     case measure => simp [intOf]; omega
   ·have hll : lo2 = hi2:=by omega
    subst hll
    have HE : Hid (NeedO q y n (.returned (.int .i64 lo2))):=Lib.hid (.inl ⟨lo2,hhi,HP1.out,HP0.out,rfl⟩)
    have HXX : Hid (Below w.heap.size w wr):=Lib.hid (by rw [HQN.out]; exact hx)
    clear HP0 HP1 hx hqb hyB hnB
    go_wp2_with fail
    go_ret
    exact ⟨HE.out,HXX.out⟩
 ·have d0 : (decF q (y + ((1000000 : Nat) : Int)) n == 1) = false:=beq_eq_false_iff_ne.2 hb0
  rw [d0]
  have HE : Hid (NeedO q y n (.returned (.int .i64 (-1)))):=Lib.hid (.inr ⟨fun m hm h => hb0 (HMO.out m 1000000 hm h),rfl⟩)
  have HXX : Hid (Below w.heap.size w w5):=Lib.hid (by rw [HQN.out]; exact hx)
  clear d0 hb0 hx hqb hyB hnB
  go_wp2_with fail
  go_ret
  exact ⟨HE.out,HXX.out⟩
end Go.Proofs.YtgeaeockmadhcaaGreatDoor
/- Merging, told at once for all cases; what is wrong with votes, judges, a run and a moment, as the law asks for it. -/
namespace Go.Proofs.YtgeaeockmadhcaaGreatDoor
set_option linter.unusedVariables false
set_option linter.unusedSimpArgs false
open Go.RowKit Go.Sort

theorem firstE_cons (x : Int) (l : List Int) : firstE (x :: l) = if x ≠ 0 then x else firstE l:=by
 show (if x = 0 then firstE l else x) = _
 by_cases h : x = 0
 ·subst h; simp
 ·simp [h]
theorem firstE_nil : firstE [] = 0:=rfl
def momtE (t : Int) : Int:=if t < 0 ∨ 345686399999 < t then 1 else 0
def keyE (run : List UInt8) : Int:=if keyB run = false then 5 else 0
theorem rlsE_is (vs : List VoteE) (js : List JudgeE) (q : QuoE) (t : Int) : rlsE vs js q t = firstE [votesE vs,judgesE js q,momtE t]:=by
 unfold rlsE momtE
 simp only [firstE_cons,firstE_nil]
 by_cases h1 : votesE vs = 0 <;> by_cases h2 : judgesE js q = 0 <;> by_cases h3 : (t < 0 ∨ 345686399999 < t) <;> simp [h1,h2,h3]
theorem runE_is (vs : List VoteE) (js : List JudgeE) (q : QuoE) (run : List UInt8) (t : Int) : runE vs js q run t = firstE [votesE vs,judgesE js q,keyE run,momtE t]:=by
 unfold runE keyE momtE
 simp only [firstE_cons,firstE_nil]
 by_cases h1 : votesE vs = 0 <;> by_cases h2 : judgesE js q = 0 <;> by_cases h3 : (t < 0 ∨ 345686399999 < t) <;> by_cases h4 : keyB run = false <;> simp [h1,h2,h3,h4]
open Classical in
noncomputable def mrgE (us vs : List VoteE) : Int:=if firstE [votesE us,votesE vs] ≠ 0 then firstE [votesE us,votesE vs] else if Agree us vs then 0 else 13
def IsM (us vs C : List VoteE) : Prop:=(mrgE us vs ≠ 0 → C = []) ∧ (mrgE us vs = 0 → ∃ M : List VoteE,M.Perm (us ++ vs) ∧ M.Pairwise leV ∧ C = compL M)
theorem mergeU_any (lo lo' c d : Nat) (A B : Option Addr) (us vs : List VoteE) (w : World) (hR : TwoR w lo lo' A B us vs) (hl : us.length + vs.length < 40) :
  Calls Tryz.prog 17 #[.slice A us.length c,.slice B vs.length d] w fun e w' => ∃ (R : Option Addr) (rc : Nat) (C : List VoteE),e = .returned (.tuple #[.slice R C.length rc,.int .i64 (mrgE us vs)]) ∧ Row w' w.heap.size 4 R C.length (C.flatMap encV) ∧ C.length ≤ 39 ∧ IsM us vs C ∧ Below w.heap.size w w':=by
 refine (merge_any lo lo' c d A B us vs w hR hl).mono ?_
 rintro e w' ⟨hb,h1,h2,h3⟩
 by_cases h0 : firstE [votesE us,votesE vs] = 0
 ·by_cases ha : Agree us vs
  ·have he : mrgE us vs = 0:=by unfold mrgE; rw [if_neg (by rw [h0]; decide),if_pos ha]
   obtain ⟨R,rc,M,hM,hs,rfl,ho⟩:=h3 h0 ha
   have hcl : (compL M).length ≤ 39:=by have h8:=compL_len M; have h9:=hM.length_eq; rw [List.length_append] at h9; omega
   exact ⟨R,rc,compL M,by rw [he],Row.of_own ho,hcl,⟨fun h => absurd he h,fun _ => ⟨M,hM,hs,rfl⟩⟩,hb⟩
  ·have he : mrgE us vs = 13:=by unfold mrgE; rw [if_neg (by rw [h0]; decide),if_neg ha]
   exact ⟨none,0,[],by rw [he]; exact h2 h0 ha,Row.of_own (World.ownsRow_nil _ _ 37 _),by decide,⟨fun _ => rfl,fun h => by rw [he] at h; cases h⟩,hb⟩
 ·have he : mrgE us vs = firstE [votesE us,votesE vs]:=by unfold mrgE; rw [if_pos h0]
  exact ⟨none,0,[],by rw [he]; exact h1 h0,Row.of_own (World.ownsRow_nil _ _ 37 _),by decide,⟨fun _ => rfl,fun h => absurd (he.symm.trans h) h0⟩,hb⟩
theorem mergedU_any (lo lo' c d : Nat) (A B : Option Addr) (us vs C : List VoteE) (w : World) (hR : TwoR w lo lo' A B us vs) (hl : us.length + vs.length < 40) (h0 : firstE [votesE us,votesE vs] = 0) (hC : IsM us vs C) :
  Calls Tryz.prog 19 #[.slice A us.length c,.slice B vs.length d] w fun e w' => ∃ (R : Option Addr) (rc : Nat),e = .returned (.tuple #[.slice R C.length rc,.int .i64 (mrgE us vs)]) ∧ Row w' w.heap.size 4 R C.length (C.flatMap encV) ∧ Below w.heap.size w w':=by
 obtain ⟨hu,hv⟩:=two_zero h0
 have hu2:=((votesE_iff us).1 hu).2.2
 have hv2:=((votesE_iff vs).1 hv).2.2
 refine (votesMerged_any lo lo' c d A B us vs w hR hl hu2).mono ?_
 rintro e w' ⟨hb,h1,h2⟩
 by_cases ha : Agree us vs
 ·have he : mrgE us vs = 0:=by unfold mrgE; rw [if_neg (by rw [h0]; decide),if_pos ha]
  obtain ⟨M,hM,hs,rfl⟩:=hC.2 he
  obtain ⟨R,rc,L,hL,hLs,rfl,ho⟩:=h2 ha
  have hLC : L = compL M:=ref_merged hu2 hv2 ha hL hLs hM hs
  rw [hLC] at ho ⊢
  exact ⟨R,rc,by rw [he],Row.of_own ho,hb⟩
 ·have he : mrgE us vs = 13:=by unfold mrgE; rw [if_neg (by rw [h0]; decide),if_neg ha]
  have hCe : C = []:=hC.1 (by rw [he]; decide)
  subst hCe
  exact ⟨none,0,by rw [he]; exact h1 ha,Row.of_own (World.ownsRow_nil _ _ 37 _),hb⟩
theorem rlsE_ok {vs : List VoteE} {js : List JudgeE} {q : QuoE} {t : Int} (h : rlsE vs js q t = 0) : votesE vs = 0 ∧ judgesE js q = 0:=by
 rw [rlsE_is] at h
 simp only [firstE_cons,firstE_nil] at h
 by_cases h1 : votesE vs = 0
 ·by_cases h2 : judgesE js q = 0
  ·exact ⟨h1,h2⟩
  ·simp [h1,h2] at h
 ·simp [h1] at h
theorem rulingsU_any (lo lo' c c' : Nat) (A B : Option Addr) (vs : List VoteE) (js : List JudgeE) (q : QuoE) (t : Int) (w : World) (hV : VoW w lo lo' A B vs js) (hl : vs.length ≤ 100) :
  Calls Tryz.prog 21 #[.slice A vs.length c,.slice B js.length c',.agg #[.int .i64 q.least,.int .i64 q.num,.int .i64 q.den],.int .i64 t] w fun e w' => ∃ (R : Option Addr) (rc : Nat) (L : List RlE),e = .returned (.tuple #[.slice R L.length rc,.int .i64 (rlsE vs js q t)]) ∧ Row w' w.heap.size 5 R L.length (L.flatMap encRl) ∧ L.length ≤ 100 ∧ (rlsE vs js q t = 0 → L = rlsL vs js q t) ∧ (rlsE vs js q t ≠ 0 → L = []) ∧ Below w.heap.size w w':=by
 refine (rulings_any lo lo' c c' A B vs js q t w hV hl).mono ?_
 rintro e w' ⟨hb,h1,h2⟩
 by_cases h0 : rlsE vs js q t = 0
 ·obtain ⟨R,rc,rfl,ho⟩:=h2 h0
  have hlen : (rlsL vs js q t).length ≤ 100:=by unfold rlsL; rw [List.length_map]; exact Nat.le_trans (runsUp_len vs t vs.length) hl
  exact ⟨R,rc,rlsL vs js q t,by rw [h0],Row.of_own ho,hlen,fun _ => rfl,fun h => absurd h0 h,hb⟩
 ·exact ⟨none,0,[],h1 h0,Row.of_own (World.ownsRow_nil _ _ 56 _),by decide,fun h => absurd h h0,fun _ => rfl,hb⟩
theorem ruledU (vs : List VoteE) (js : List JudgeE) (q : QuoE) (run : List UInt8) (t : Int) : ∃ (xr : List UInt8) (xh xs xy xn : Int),ruledV vs js q run t = .tuple #[.agg #[.string ⟨xr.toArray⟩,.int .i64 xh,.int .i64 xs,.int .i64 xy,.int .i64 xn],.int .i64 (runE vs js q run t)] ∧ (runE vs js q run t = 0 → rulV run (ruledF vs js q run t) = .agg #[.string ⟨xr.toArray⟩,.int .i64 xh,.int .i64 xs,.int .i64 xy,.int .i64 xn]) ∧ (runE vs js q run t ≠ 0 → xr = [] ∧ xh = 0 ∧ xs = 0 ∧ xy = 0 ∧ xn = 0):=by
 unfold ruledV
 by_cases h : runE vs js q run t = 0
 ·rw [if_pos h,h]
  exact ⟨run,_,_,_,_,rfl,fun _ => rfl,fun h2 => absurd rfl h2⟩
 ·rw [if_neg h]
  exact ⟨[],0,0,0,0,rfl,fun h2 => absurd h2 h,fun _ => ⟨rfl,rfl,rfl,rfl,rfl⟩⟩
theorem needsU_any (lo lo' c c' : Nat) (A B : Option Addr) (vs : List VoteE) (js : List JudgeE) (q : QuoE) (run : List UInt8) (t : Int) (w : World) (hV : VoW w lo lo' A B vs js) :
  Calls Tryz.prog 26 #[.slice A vs.length c,.slice B js.length c',.agg #[.int .i64 q.least,.int .i64 q.num,.int .i64 q.den],.string ⟨run.toArray⟩,.int .i64 t] w fun e w' => ∃ (n : Nat) (is : Bool),e = .returned (.tuple #[.int .i64 n,.bool is,.int .i64 (runE vs js q run t)]) ∧ (runE vs js q run t ≠ 0 → n = 0 ∧ is = false) ∧ (runE vs js q run t = 0 → (is = true ∧ n ≤ 1000000 ∧ decF q ((ruledF vs js q run t).yes + n) (ruledF vs js q run t).no = 1 ∧ ∀ m : Nat,m < n → decF q ((ruledF vs js q run t).yes + m) (ruledF vs js q run t).no ≠ 1) ∨ (is = false ∧ n = 0 ∧ ∀ m : Nat,m ≤ 1000000 → decF q ((ruledF vs js q run t).yes + m) (ruledF vs js q run t).no ≠ 1)) ∧ Below w.heap.size w w':=by
 refine (needs_any lo lo' c c' A B vs js q run t w hV).mono ?_
 rintro e w' ⟨h1,h2,hb⟩
 by_cases h : runE vs js q run t = 0
 ·rcases h2 h with ⟨n,hn,hd,hm,rfl⟩ | ⟨hm,rfl⟩
  ·exact ⟨n,true,by rw [h],fun h3 => absurd h h3,fun _ => .inl ⟨rfl,hn,hd,hm⟩,hb⟩
  ·exact ⟨0,false,by rw [h]; rfl,fun h3 => absurd h h3,fun _ => .inr ⟨rfl,rfl,hm⟩,hb⟩
 ·exact ⟨0,false,h1 h,fun _ => ⟨rfl,rfl⟩,fun h3 => absurd h3 h,hb⟩
theorem need_same {q : QuoE} {yes no : Int} {n : Nat} {is : Bool} {e : Ending} (h : (is = true ∧ n ≤ 1000000 ∧ decF q (yes + n) no = 1 ∧ ∀ m : Nat,m < n → decF q (yes + m) no ≠ 1) ∨ (is = false ∧ n = 0 ∧ ∀ m : Nat,m ≤ 1000000 → decF q (yes + m) no ≠ 1)) (he : NeedO q yes no e) : (is = true ∧ n ≤ 1000000 ∧ e = .returned (.int .i64 n)) ∨ (is = false ∧ n = 0 ∧ e = .returned (.int .i64 (-1))):=by
 rcases h with ⟨h1,h2,h3,h4⟩ | ⟨h1,h2,h3⟩
 ·rcases he with ⟨m,hm,hd,hl,rfl⟩ | ⟨hl,rfl⟩
  ·have : m = n:=by
    rcases Nat.lt_trichotomy m n with h | h | h
    ·exact absurd hd (h4 m h)
    ·exact h
    ·exact absurd h3 (hl n h)
   subst this
   exact .inl ⟨h1,h2,rfl⟩
  ·exact absurd h3 (hl n h2)
 ·rcases he with ⟨m,hm,hd,hl,rfl⟩ | ⟨hl,rfl⟩
  ·exact absurd hd (h3 m hm)
  ·exact .inr ⟨h1,h2,rfl⟩
end Go.Proofs.YtgeaeockmadhcaaGreatDoor
/- For every list of numbers the law VotesRuled returns true and leaves the list as it was: its walk. -/
namespace Go.Proofs.YtgeaeockmadhcaaGreatDoor
set_option linter.unusedVariables false
set_option linter.unusedSimpArgs false
open Go.RowKit Go.Sort

structure DrW (w W : World) (g N qb b0 b1 lo2 : Nat) (A B JA : Option Addr) (ac bc jc : Nat) (us bs : List VoteE) (js : List JudgeE) (q : QuoE) : Prop where
  a : W.ownsRow b0 37 4 (.slice A us.length ac) us.length (us.flatMap encV)
  b : W.ownsRow b1 37 4 (.slice B bs.length bc) bs.length (bs.flatMap encV)
  ne : ∀ x, (Value.slice B bs.length bc).ownBlock = some x → (Value.slice A us.length ac).ownBlock ≠ some x
  j : Row W lo2 4 JA js.length (js.flatMap encJ)
  jb : ∀ x, JA = some x → x.block < b1
  qk : Blk W qb 33 #[.int .i64 q.least, .int .i64 q.num, .int .i64 q.den]
  qlt : qb < b1
  s : Str W g N
  gb : g < b1
  g0 : g < b0
  g2 : g < lo2
  gq : g < qb
  x : Below w.heap.size w W
  wg : w.heap.size ≤ g
  av : ∀ v ∈ us, VB v
  bv : ∀ v ∈ bs, VB v
  al : us.length ≤ 15
  bl : bs.length ≤ 15
section
variable {w W W' : World} {g N N' qb b0 b1 lo2 : Nat} {A B JA : Option Addr} {ac bc jc : Nat} {us bs : List VoteE} {js : List JudgeE} {q : QuoE}
theorem DrW.drawn (h : DrW w W g N qb b0 b1 lo2 A B JA ac bc jc us bs js q) (hg : W.grownBy W' (some g)) (hs : Str W' g N') : DrW w W' g N' qb b0 b1 lo2 A B JA ac bc jc us bs js q :=
 ⟨own_grown h.a hg h.g0,own_grown h.b hg h.gb,h.ne,h.j.grown hg h.g2,h.jb,h.qk.grownV hg (by have:=h.gq; omega),h.qlt,hs,h.gb,h.g0,h.g2,h.gq,h.x.grown hg h.x.size (fun k hk => by injection hk with hk; have:=h.wg; omega),h.wg,h.av,h.bv,h.al,h.bl⟩
theorem DrW.below (h : DrW w W g N qb b0 b1 lo2 A B JA ac bc jc us bs js q) (hb : Below W.heap.size W W') : DrW w W' g N qb b0 b1 lo2 A B JA ac bc jc us bs js q :=
 ⟨own_keep h.a hb,own_keep h.b hb,h.ne,h.j.below hb,h.jb,h.qk.below hb,h.qlt,h.s.keep hb,h.gb,h.g0,h.g2,h.gq,below_up h.x hb,h.wg,h.av,h.bv,h.al,h.bl⟩
theorem DrW.kind (h : DrW w W g N qb b0 b1 lo2 A B JA ac bc jc us bs js q) (hl : 0 < bs.length) : ∃ b,B = some ⟨b,0,none⟩ ∧ b < W.heap.size ∧ W.frozen? ⟨b,3,none⟩ = false ∧ (∃ x,W.cell? ⟨b,3,none⟩ = some x) ∧ ∃ bs' : List VoteE,bs'.length = bs.length ∧ DrW w (W.setCell ⟨b,3,none⟩ (.int .i64 3)) g N qb b0 b1 lo2 A B JA ac bc jc us bs' js q:=by
 obtain ⟨b,hB,hbb,hbz,hc,hf⟩:=ownBlk h.b hl
 subst hB
 have hAb : (Value.slice A us.length ac).ownBlock ≠ some b:=h.ne b rfl
 have hv:=h.b.stored 3 (.int .i64 3)
 have e3:=flat_setV encV 4 encV_len (.int .i64 3) (⟨bs[0].run,bs[0].who,bs[0].at_,3⟩ : VoteE) bs 0 hl 3 (by decide) rfl
 simp only [Nat.zero_mul,Nat.zero_add] at e3
 rw [e3] at hv
 have hjl : ∀ x,JA = some x → x.block ≠ b:=fun x hx => by have:=h.jb x hx; omega
 have hlen : (bs.set 0 ⟨bs[0].run,bs[0].who,bs[0].at_,3⟩).length = bs.length:=List.length_set ..
 refine ⟨b,rfl,hbz,hf _,⟨_,hc 3 _ (List.getElem?_eq_getElem (by rw [flat_len4 encV 4 encV_len]; omega))⟩,bs.set 0 ⟨bs[0].run,bs[0].who,bs[0].at_,3⟩,hlen,own_apartV (u:=.slice (some ⟨b,0,none⟩) bs.length bc) h.a (grown_set (World.grownBy.refl _ _) _ _) (fun g hg => by injection hg with hg; rw [← hg]; exact hAb),by rw [hlen]; exact hv.1,fun x hx ha => by rw [hlen] at hx; exact h.ne x hx ha,⟨h.j.1,fun hn => by
  obtain ⟨b2,off,e,hl2,hb2,hcc⟩:=h.j.2 hn
  have hne : b2 ≠ b:=hjl _ e
  exact ⟨b2,off,e,hl2,by simpa [World.setCell] using hb2,fun j v hj => (World.cell?_setCell_other W _ _ _ (by intro e; injection e with e1; exact hne e1.symm)).trans (hcc j v hj)⟩⟩,h.jb,h.qk.past b 3 _ (by have:=h.qlt; omega),h.qlt,h.s.set (p:=⟨b,3,none⟩) (by have:=h.gb; show g < b; omega) _,h.gb,h.g0,h.g2,h.gq,h.x.setCell (p:=⟨b,3,none⟩) (by have:=h.gb; have:=h.wg; show w.heap.size ≤ b; omega) _,h.wg,h.av,fun v hv => ?_,h.al,by rw [hlen]; exact h.bl⟩
 rcases List.mem_or_eq_of_mem_set hv with hv | hv
 ·exact h.bv v hv
 ·subst hv; exact ⟨(h.bv _ (List.getElem_mem hl)).run,(h.bv _ (List.getElem_mem hl)).who⟩
end
set_option maxHeartbeats 8000000 in
set_option maxRecDepth 100000 in
theorem votesRuled_walk (A0 : Option Addr) (n c : Nat) (w : World) (hn : n ≤ 9223372036854775807)
  (hz : ∀ k,k < n → ∃ b off z,A0 = some ⟨b,off,none⟩ ∧ b < w.heap.size ∧ w.cell? ⟨b,off + k,none⟩ = some (.int .i64 z) ∧ I64 z) :
  LawCall 3 A0 n c w:=by
 have hstr:=str_make (c:=c) hn hz
 clear hz
 have hx : Below w.heap.size w (w.alloc (.cells #[.slice A0 n c,.int .i64 0] 25)):=(Below.refl _ _).alloc (Nat.le_refl _) _
 have hz0 : (w.alloc (.cells #[.slice A0 n c,.int .i64 0] 25)).heap.size = w.heap.size + 1:=by simp
 go_enter Tryz.func3,Tryz.ntmps3
 go_wp2_with fail
 generalize w.alloc (.cells #[.slice A0 n c,.int .i64 0] 25) = w0 at *
 clear hn
 refine (voteList_any w.heap.size 0 5 w0 hstr (by omega) (by omega)).mono ?_
 clear hstr
 rintro e w1 ⟨VA,vc,vs,rfl,hvo,hvl,hvb,hs,hg⟩
 replace hx:=hx.grown hg (by omega) (fun k hk => by injection hk with hk; omega)
 have hz1:=hg.size
 clear hg
 go_wp2_with fail
 refine (judgeList_any w.heap.size _ w1 hs (by omega)).mono ?_
 clear hs
 rintro e w2 ⟨JA,jc,js,rfl,hjo,hjl,hjb,hs,hg⟩
 replace hx:=hx.grown hg (by omega) (fun k hk => by injection hk with hk; omega)
 have hz2:=hg.size
 replace hvo:=own_grown hvo hg (by omega)
 have HJB:=Lib.hid hjb
 clear hg hjb
 go_wp2_with fail
 refine (quorumOf_any w.heap.size _ w2 hs (by omega)).mono ?_
 clear hs
 rintro e w3 ⟨q,rfl,hs,hg⟩
 replace hx:=hx.grown hg (by omega) (fun k hk => by injection hk with hk; omega)
 have hz3:=hg.size
 replace hvo:=own_grown hvo hg (by omega)
 replace hjo:=own_grown hjo hg (by omega)
 clear hg
 unfold quoV
 go_upto_region 2 with (fail)
 have hqb : Blk (w3.alloc (.cells #[.int .i64 q.least,.int .i64 q.num,.int .i64 q.den] 33)) w3.heap.size 33 #[.int .i64 q.least,.int .i64 q.num,.int .i64 q.den]:=Blk.new _ _ _
 have hal : Below w3.heap.size w3 (w3.alloc (.cells #[.int .i64 q.least,.int .i64 q.num,.int .i64 q.den] 33)):=(Below.refl _ _).alloc (Nat.le_refl _) _
 have hjlt : ∀ x,JA = some x → x.block < w3.heap.size:=fun x hx => (hjo.lt x.block (by rw [hx]; rfl)).2
 have hz4 : w3.heap.size < (w3.alloc (.cells #[.int .i64 q.least,.int .i64 q.num,.int .i64 q.den] 33)).heap.size:=by simp
 replace hx:=below_up hx hal
 replace hvo:=own_keep hvo hal
 replace hjo:=own_keep hjo hal
 replace hs:=hs.keep hal
 clear hal
 generalize w3.alloc (.cells #[.int .i64 q.least,.int .i64 q.num,.int .i64 q.den] 33) = w4 at *
 generalize w3.heap.size = qb at *
 go_wp2_with fail
 have hvol:=fun x hx => (hvo.lt x hx).2
 refine (cloneV_any VA vc _ vs w4 (Row.of_own hvo) (by omega)).mono ?_
 rintro e w5 ⟨CA,cc,rfl,hco,hb⟩
 replace hx:=below_up hx hb
 replace hvo:=own_keep hvo hb
 have hjr:=Row.of_own (own_keep hjo hb)
 replace hs:=hs.keep hb
 replace hqb:=hqb.below hb
 have hz5:=hb.size
 have HVOL : Hid (∀ x,(Value.slice VA vs.length vc).ownBlock = some x → x < w4.heap.size):=Lib.hid hvol
 clear hb hjo
 go_wp2_with fail
 refine (flip_any w.heap.size _ 3 w5 hs (by omega) (by omega)).mono ?_
 clear hs
 rintro e w6 ⟨fl,rfl,hs,hg⟩
 have hgq : w.heap.size < qb:=by omega
 have hg0 : w.heap.size < w0.heap.size:=by omega
 have hg2 : w.heap.size < w1.heap.size:=by omega
 have hD : DrW w w6 w.heap.size _ qb w0.heap.size w4.heap.size w1.heap.size VA CA JA vc cc jc vs vs js q:=⟨own_grown hvo hg hg0,own_grown hco hg (by omega),fun x hb ha => by have h1:=(hco.lt x hb).1; have h2:=HVOL.out x ha; omega,hjr.grown hg hg2,fun x hx => by have:=hjlt x hx; omega,hqb.grownV hg (by omega),hz4,hs,by omega,hg0,hg2,hgq,hx.grown hg hx.size (fun k hk => by injection hk with hk; omega),Nat.le_refl _,hvb,hvb,by omega,by omega⟩
 have hz6:=hg.size
 have h04 : w0.heap.size ≤ w4.heap.size:=by omega
 clear hvo hco hjr hqb hs hx hg hjlt hvb HVOL hvol hz0 hz1 hz2 hz3
 go_upto_if 36 with (fail)
 go_cut [4,7] from 37 (fun x y wx => ∃ (A B : Option Addr) (ac bc N' : Nat) (us bs : List VoteE),x = .slice A us.length ac ∧ y = .slice B bs.length bc ∧ N' ≤ 100000 ∧ DrW w wx w.heap.size N' qb w0.heap.size w4.heap.size w1.heap.size A B JA ac bc jc us bs js q)
 case first =>
  cases fl
  ·go_wp2_with fail
   refine (halfVotes_any w.heap.size _ w0.heap.size vc VA vs w6 hD.s (by omega) (Row.of_own hD.a) hg0 (by omega)).mono ?_
   rintro e w7 ⟨A1,B1,c1,d1,av,bv,rfl,hpt,hT⟩
   have hE : DrW w w7 w.heap.size _ qb w0.heap.size w4.heap.size w1.heap.size A1 B1 JA c1 d1 jc av bv js q:=⟨own_lowerV hT.oa (by omega),own_lowerV hT.ob (by omega),fun x hb ha => hT.ne x ha hb,hD.j.grown hT.gr hg2,hD.jb,hD.qk.grownV hT.gr (by omega),hz4,hT.str,hD.gb,hg0,hg2,hgq,hD.x.grown hT.gr hD.x.size (fun k hk => by injection hk with hk; omega),Nat.le_refl _,fun v hv => hD.av v (hpt.sa.subset hv),fun v hv => hD.av v (hpt.sb.subset hv),Nat.le_trans hpt.sa.length_le (by omega),Nat.le_trans hpt.sb.length_le (by omega)⟩
   clear hD hT hpt
   go_wp2_with fail
   go_meet
   exact ⟨A1,B1,c1,d1,_,av,bv,rfl,rfl,by omega,hE⟩
  ·go_wp2_with fail
   refine (voteList_any w.heap.size _ 2 w6 hD.s (by omega) (by omega)).mono ?_
   rintro e w7 ⟨B1,d1,bv,rfl,hbo,hbl,hbv,hs7,hg7⟩
   have hE : DrW w w7 w.heap.size _ qb w0.heap.size w4.heap.size w1.heap.size VA B1 JA vc d1 jc vs bv js q:=⟨own_grown hD.a hg7 hg0,own_lowerV hbo (by omega),fun x hb ha => by have h1:=(hbo.lt x hb).1; have h2:=(hD.a.lt x ha).2; omega,hD.j.grown hg7 hg2,hD.jb,hD.qk.grownV hg7 (by omega),hz4,hs7,hD.gb,hg0,hg2,hgq,hD.x.grown hg7 hD.x.size (fun k hk => by injection hk with hk; omega),Nat.le_refl _,hD.av,hbv,hD.al,by omega⟩
   clear hD hbo hbv hs7 hg7
   go_wp2_with fail
   go_meet
   exact ⟨VA,B1,vc,d1,_,vs,bv,rfl,rfl,by omega,hE⟩
 case rest =>
 clear hD
 obtain ⟨A,B,ac,bc,N',us,bs,rfl,rfl,hN,hD⟩:=hcut
 clear hvl
 have hbl:=hD.bl
 go_upto_region 7 with (fail)
 go_cut [51] from 37 to 51 (fun u wx => ∃ (fb : Bool) (N2 : Nat),u = .bool fb ∧ (fb = true → 0 < bs.length) ∧ N2 ≤ 100001 ∧ DrW w wx w.heap.size N2 qb w0.heap.size w4.heap.size w1.heap.size A B JA ac bc jc us bs js q)
 case first =>
  by_cases h0 : bs.length = 0
  ·have d0 : ¬ (0 : Int) < (bs.length : Int):=by omega
   have HD:=Lib.hid hD
   have HH : Hid (false = true → 0 < bs.length):=Lib.hid (fun h => by cases h)
   clear hD h0
   go_wp2_with fail
   go_meet
   exact ⟨false,N',rfl,HH.out,by omega,HD.out⟩
  ·have d0 : (0 : Int) < (bs.length : Int):=by omega
   have HB0 : Hid (0 < bs.length):=Lib.hid (by omega)
   clear h0
   go_wp2_with fail
   refine (flip_any w.heap.size _ 6 _ hD.s (by omega) (by omega)).mono ?_
   rintro e w8 ⟨fb,rfl,hs8,hg8⟩
   have HD:=Lib.hid (hD.drawn hg8 hs8)
   clear hD hs8 hg8
   go_wp2_with fail
   go_meet
   exact ⟨fb,N' + 1,rfl,fun _ => HB0.out,by omega,HD.out⟩
 case rest =>
 clear hD
 obtain ⟨fb,N2,rfl,hfb,hN2,hD⟩:=hcut
 have HFB:=Lib.hid hfb
 clear hfb hN
 go_upto_if 51 with (fail)
 go_cut [7] from 52 to 54 (fun y wx => ∃ bs' : List VoteE,y = .slice B bs'.length bc ∧ DrW w wx w.heap.size N2 qb w0.heap.size w4.heap.size w1.heap.size A B JA ac bc jc us bs' js q)
 case first =>
  cases hfb2 : fb
  case false =>
   subst hfb2
   have HD:=Lib.hid hD
   clear hD
   go_wp2_with fail
   go_meet
   exact ⟨bs,rfl,HD.out⟩
  case true =>
   have h0:=HFB.out hfb2
   subst hfb2
   obtain ⟨b,hB,hbz,hf,⟨x3,hc3⟩,bs',hbl',hD'⟩:=hD.kind h0
   subst hB
   have HD:=Lib.hid hD'
   have HL:=Lib.hid hbl'
   have hi0 : (0 : Int) < (bs.length : Int):=by omega
   clear hD hD' hbl' h0
   go_wp2_with fail
   go_meet
   exact ⟨bs',by rw [HL.out],HD.out⟩
 case rest =>
 clear hD HFB hbl bs
 obtain ⟨bs,rfl,hD⟩:=hcut
 have hgw:=hD.s.lt
 go_wp2_with fail
 refine (some_any w.heap.size _ _ _ _ [[114,49],[114,49],[114,50],[114,57],[]] _ (hD.s.alloc _) (by omega) (row_new _ _ _ _ _ _ (Nat.le_refl _) rfl) hgw (by simp) (by simp)).mono ?_
 rintro e w9 ⟨run,rfl,hrun,hs9,hg9⟩
 have hrk : run.length ≤ 2:=by
  simp at hrun
  rcases hrun with rfl | rfl | rfl | rfl <;> decide
 replace hD:=(hD.below ((Below.refl _ _).alloc (Nat.le_refl _) (.cells #[.string ⟨#[114,49]⟩,.string ⟨#[114,49]⟩,.string ⟨#[114,50]⟩,.string ⟨#[114,57]⟩,.string ⟨#[]⟩] 9))).drawn hg9 hs9
 have hgw9:=hD.s.lt
 clear hs9 hg9 hgw hrun
 unfold encStr
 go_wp2_with fail
 refine (pick_any w.heap.size _ _ _ _ [0,5,12,25,100,345686400000,-1] _ (hD.s.alloc _) (by omega) (row_new _ _ _ _ _ _ (Nat.le_refl _) rfl) hgw9 (by simp) (by simp)).mono ?_
 rintro e w10 ⟨t,rfl,ht,hs10,hg10⟩
 replace hD:=(hD.below ((Below.refl _ _).alloc (Nat.le_refl _) (.cells #[.int .i64 0,.int .i64 5,.int .i64 12,.int .i64 25,.int .i64 100,.int .i64 345686400000,.int .i64 (-1)] 3))).drawn hg10 hs10
 clear hs10 hg10 hgw9 ht
 have hV : VoW w10 w0.heap.size w1.heap.size A JA us js:=⟨Row.of_own hD.a,hD.j,by have:=hD.al; omega,by have:=HJB.out; omega,fun v hv => ⟨by have:=(hD.av v hv).run; omega,by have:=who_len (hD.av v hv).who; omega⟩,fun j hj => by have:=jud_len (HJB.out j hj); omega⟩
 have hBr:=Row.of_own hD.b
 have HBS : Hid (∀ v ∈ bs,v.run.length ≤ 1000000 ∧ v.who.length ≤ 1000000):=Lib.hid (fun v hv => ⟨by have:=(hD.bv v hv).run; omega,by have:=who_len (hD.bv v hv).who; omega⟩)
 have hqb:=hD.qk
 have hx:=hD.x
 have hul : us.length ≤ 15:=hD.al
 have hbl : bs.length ≤ 15:=hD.bl
 have HDW:=Lib.hid hD
 clear hD hz4 hz5 hz6 hgq hg0 hg2 h04 hN2
 generalize w0.heap.size = lo1 at *
 generalize w1.heap.size = lo2 at *
 generalize w4.heap.size = lo4 at *
 clear HDW
 obtain ⟨ve,hve⟩ : ∃ ve,ve = votesE us:=⟨_,rfl⟩
 obtain ⟨je,hje⟩ : ∃ je,je = judgesE js q:=⟨_,rfl⟩
 have HVE:=Lib.hid hve
 have HJE:=Lib.hid hje
 clear hve hje
 have HKP : Hid (∀ W,Below w10.heap.size w10 W → VoW W lo1 lo2 A JA us js):=Lib.hid (fun W hW => hV.below hW)
 have HSC : Hid (∀ W,Below w10.heap.size w10 W → (fun w' : World => w'.cell? ⟨qb,0,none⟩ = some (.int .i64 q.least) ∧ w'.cell? ⟨qb,1,none⟩ = some (.int .i64 q.num) ∧ w'.cell? ⟨qb,2,none⟩ = some (.int .i64 q.den)) W):=Lib.hid (fun W hW => ⟨(hqb.below hW).cell 0,(hqb.below hW).cell 1,(hqb.below hW).cell 2⟩)
 have HALL : Hid (∀ W,Below w10.heap.size w10 W → Below w.heap.size w W ∧ VoW W lo1 lo2 A JA us js ∧ Row W lo4 4 B bs.length (bs.flatMap encV) ∧ Blk W qb 33 #[.int .i64 q.least,.int .i64 q.num,.int .i64 q.den]):=Lib.hid (fun W hW => ⟨below_up hx hW,hV.below hW,hBr.below hW,hqb.below hW⟩)
 have hbz : Below w10.heap.size w10 w10.drew:=below_drewN' (Below.refl _ _) 1
 have hsc:=HSC.out _ hbz
 try simp only at hsc
 have hqbl:=hqb.lt
 clear hV hBr hqb hx
 go_upto_region 10 with (fail)
 refine wp_region_held_drew (S:=(fun w' => w'.cell? ⟨qb,0,none⟩ = some (.int .i64 q.least) ∧ w'.cell? ⟨qb,1,none⟩ = some (.int .i64 q.num) ∧ w'.cell? ⟨qb,2,none⟩ = some (.int .i64 q.den))) (by kernel_rfl) (hsc) (fun hHeld => ?_)
 (refine wpAnyH_take (i:=0) (v:=?_) (by (simp only [Q0,Q2]; rfl)) (by kernel_rfl) (by kernel_rfl) (by kernel_rfl) (by exact fun _ _ _ h => h) (Or.inl ⟨by rfl,?_⟩) (by assumption) ?_; (rotate_left 1; (intro w hSw; (try dsimp only at hSw); go_simp); (try with_reducible rfl)); (try simp only [Act.put,Q3,Q4,Q5]))
 (refine wpAnyH_take (i:=2) (v:=?_) (by (simp only [Q0,Q1,Q2]; rfl)) (by kernel_rfl) (by kernel_rfl) (by kernel_rfl) (by exact fun _ _ _ h => h) (Or.inl ⟨by rfl,?_⟩) (by assumption) ?_; (rotate_left 1; (intro w hSw; (try dsimp only at hSw); go_simp); (try with_reducible rfl)); (try simp only [Act.put,Q3,Q4,Q5]))
 (refine wpAnyH_take (i:=3) (v:=?_) (by (simp only [Q0,Q1,Q2]; rfl)) (by kernel_rfl) (by kernel_rfl) (by kernel_rfl) (by exact fun _ _ _ h => h) (Or.inl ⟨by rfl,?_⟩) (by assumption) ?_; (rotate_left 1; (intro w hSw; (try dsimp only at hSw); go_simp); (try with_reducible rfl)); (try simp only [Act.put,Q3,Q4,Q5]))
 refine wpAnyH_ready (rs:=[1]) (by kernel_rfl) (by simp) ?_
 refine AllReadyH.cons rfl (fun K hK => ?_) AllReadyH.nil
 go_simp
 go_at_call 13
 refine (rvotesFault_any lo1 ac A us _ (HKP.out _ hbz).v (HKP.out _ hbz).vl (HKP.out _ hbz).vs_).mono ?_
 rintro e wa ⟨rfl,hb⟩
 rw [← HVE.out]
 replace hbz:=below_up hbz hb
 have hsc:=HSC.out _ hbz
 try simp only at hsc
 clear hb
 go_wp2_with fail
 refine hK.out _ _ (hsc) (fun hHeld => ?_)
 clear hK K
 (try simp only [Act.put,Q3,Q4,Q5])
 refine wpAnyH_ready (rs:=[4]) (by kernel_rfl) (by simp) ?_
 refine AllReadyH.cons rfl (fun K hK => ?_) AllReadyH.nil
 go_simp
 go_at_call 14
 refine (rjudgesFault_any lo2 jc JA js q _ (HKP.out _ hbz).j (HKP.out _ hbz).jl (HKP.out _ hbz).js_).mono ?_
 rintro e wb ⟨rfl,hb⟩
 rw [← HJE.out]
 replace hbz:=below_up hbz hb
 have hsc:=HSC.out _ hbz
 try simp only at hsc
 clear hb
 go_wp2_with fail
 refine hK.out _ _ (hsc) (fun hHeld => ?_)
 clear hK K
 (try simp only [Act.put,Q3,Q4,Q5])
 (refine wpAnyH_take (i:=5) (v:=?_) (by (simp only [Q0,Q1,Q2]; rfl)) (by kernel_rfl) (by kernel_rfl) (by kernel_rfl) (by exact fun _ _ _ h => h) (Or.inl ⟨by rfl,?_⟩) (by assumption) ?_; (rotate_left 1; (intro w hSw; (try dsimp only at hSw); go_simp); (try with_reducible rfl)); (try simp only [Act.put,Q3,Q4,Q5]))
 (refine wpAnyH_take (i:=6) (v:=?_) (by (simp only [Q0,Q1,Q2]; rfl)) (by kernel_rfl) (by kernel_rfl) (by kernel_rfl) (by exact fun _ _ _ h => h) (Or.inl ⟨by rfl,?_⟩) (by assumption) ?_; (rotate_left 1; (intro w hSw; (try dsimp only at hSw); go_simp); (try with_reducible rfl)); (try simp only [Act.put,Q3,Q4,Q5]))
 refine wpAnyH_done (by kernel_rfl) ?_ _
 obtain ⟨hx,hV,hBr,hqb⟩:=HALL.out _ hbz
 clear HALL HSC HKP hsc hbz hHeld
 obtain ⟨q0,q1,q2⟩ : _ ∧ _ ∧ _:=⟨hqb.cell 0,hqb.cell 1,hqb.cell 2⟩
 simp only [Q0,Q2,Q1] at q0 q1 q2
 have ql:=hqb.lt
 go_wp2_with fail
 refine (checkVotes_any lo1 ac A us _ hV.v hV.vl hV.vs_).mono ?_
 rintro e w11 ⟨rfl,hb⟩
 rw [← HVE.out]
 replace hx:=below_up hx hb
 replace hV:=hV.below hb
 replace hBr:=hBr.below hb
 replace hqb:=hqb.below hb
 clear hb q0 q1 q2 ql
 obtain ⟨q0,q1,q2⟩ : _ ∧ _ ∧ _:=⟨hqb.cell 0,hqb.cell 1,hqb.cell 2⟩
 simp only [Q0,Q2,Q1] at q0 q1 q2
 have ql:=hqb.lt
 go_wp2_with fail
 refine (checkJudges_any lo2 jc JA js q _ hV.j hV.jl hV.js_).mono ?_
 rintro e w12 ⟨rfl,hb⟩
 rw [← HJE.out]
 replace hx:=below_up hx hb
 replace hV:=hV.below hb
 replace hBr:=hBr.below hb
 replace hqb:=hqb.below hb
 clear hb q0 q1 q2 ql
 have hTR : TwoR w12 lo1 lo4 A B us bs:=⟨hV.v,hBr,hV.vs_,HBS.out⟩
 obtain ⟨me,hme⟩ : ∃ me,me = mrgE us bs:=⟨_,rfl⟩
 obtain ⟨be,hbe⟩ : ∃ be,be = votesE bs:=⟨_,rfl⟩
 have HME:=Lib.hid hme
 have HBE:=Lib.hid hbe
 clear hme hbe
 go_wp2_with fail
 refine (mergeU_any lo1 lo4 ac bc A B us bs w12 hTR (by omega)).mono ?_
 rintro e w13 ⟨R,rc,C,rfl,hC,hcl,hIM,hb⟩
 rw [← HME.out]
 have HIM:=Lib.hid hIM
 replace hx:=below_up hx hb
 replace hV:=hV.below hb
 replace hBr:=hBr.below hb
 replace hqb:=hqb.below hb
 replace hTR:=hTR.below hb
 clear hb hIM
 go_wp2_with fail
 refine (rvotesFault_any lo4 bc B bs _ hBr (by omega) HBS.out).mono ?_
 rintro e w14 ⟨rfl,hb⟩
 rw [← HBE.out]
 replace hx:=below_up hx hb
 replace hV:=hV.below hb
 replace hBr:=hBr.below hb
 replace hqb:=hqb.below hb
 replace hTR:=hTR.below hb
 replace hC:=hC.below hb
 clear hb
 go_wp2_with fail
 refine (or_any _ 2 0 [ve,be] _ (row_new w14 #[.int .i64 ve,.int .i64 be] 43 0 1 2 (Nat.zero_le _) rfl) (by simp)).mono ?_
 rintro e w15 ⟨rfl,rfl⟩
 obtain ⟨fe,hfe⟩ : ∃ fe,fe = firstE [ve,be]:=⟨_,rfl⟩
 rw [← hfe]
 have HFE : Hid (fe = firstE [votesE us,votesE bs]):=Lib.hid (by rw [hfe,HVE.out,HBE.out])
 have hb : Below w14.heap.size w14 (w14.alloc (.cells #[.int .i64 ve,.int .i64 be] 43)):=(Below.refl _ _).alloc (Nat.le_refl _) _
 replace hx:=below_up hx hb
 replace hV:=hV.below hb
 replace hBr:=hBr.below hb
 replace hqb:=hqb.below hb
 replace hTR:=hTR.below hb
 replace hC:=hC.below hb
 clear hb hfe
 generalize w14.alloc (.cells #[.int .i64 ve,.int .i64 be] 43) = w15 at *
 go_upto_if 89 with (fail)
 go_cut [14,15] from 90 (fun x y wx => ∃ (R2 : Option Addr) (rc2 : Nat),x = .int .i64 me ∧ y = .slice R2 C.length rc2 ∧ Row wx 0 4 R2 C.length (C.flatMap encV) ∧ Below w15.heap.size w15 wx)
 case first =>
  by_cases h0 : fe = 0
  ·have hfe0 : firstE [votesE us,votesE bs] = 0:=by rw [← HFE.out,h0]
   have HMG:=Lib.hid (mergedU_any lo1 lo4 ac bc A B us bs C w15 hTR (by omega) hfe0 HIM.out)
   rw [← HME.out] at HMG
   subst h0
   clear hfe0 hTR hC hV hBr hqb hx
   go_wp2_with fail
   refine HMG.out.mono ?_
   rintro e w16 ⟨R2,rc2,rfl,hr,hb⟩
   go_wp2_with fail
   go_meet
   exact ⟨R2,rc2,rfl,rfl,hr.weak (Nat.zero_le _),hb⟩
  ·have d0 : (fe == 0) = false:=beq_eq_false_iff_ne.2 h0
   have hm : me = fe:=by rw [HME.out,HFE.out]; unfold mrgE; rw [if_pos (by rw [← HFE.out]; exact h0)]
   have hCe : C = []:=HIM.out.1 (by rw [← HME.out,hm]; exact h0)
   have HCE : Hid (C = [] ∧ me = fe):=Lib.hid ⟨hCe,hm⟩
   clear hm hCe hTR hC hV hBr hqb hx h0
   go_wp2_with fail
   go_meet
   exact ⟨none,0,by rw [HCE.out.2],by rw [HCE.out.1]; rfl,by rw [HCE.out.1]; exact Row.of_own (World.ownsRow_nil _ _ 37 _),Below.refl _ _⟩
 case rest =>
 obtain ⟨R2,rc2,rfl,rfl,hC2,hb⟩:=hcut
 replace hx:=below_up hx hb
 replace hV:=hV.below hb
 replace hBr:=hBr.below hb
 replace hqb:=hqb.below hb
 replace hC:=hC.below hb
 clear hb hTR HIM HFE
 go_wp2_with fail
 refine (equalVt_any R R2 rc rc2 _ _ C C _ hC hC2 (by omega) (by omega)).mono ?_
 rintro e w17 ⟨rfl,nd,rfl⟩
 have hdt : decide (C = C) = true:=by simp
 rw [hdt]
 clear hdt hC hC2
 have hb : Below wc.heap.size wc (wc.drewN nd):=below_drewN' (Below.refl _ _) _
 replace hx:=below_up hx hb
 replace hV:=hV.below hb
 replace hBr:=hBr.below hb
 replace hqb:=hqb.below hb
 clear hb
 generalize wc.drewN nd = w18 at *
 obtain ⟨q0,q1,q2⟩ : _ ∧ _ ∧ _:=⟨hqb.cell 0,hqb.cell 1,hqb.cell 2⟩
 simp only [Q0,Q2,Q1] at q0 q1 q2
 have ql:=hqb.lt
 obtain ⟨re,hre⟩ : ∃ re,re = rlsE us js q t:=⟨_,rfl⟩
 have HRE:=Lib.hid hre
 have HRU:=Lib.hid (rulingsU_any lo1 lo2 ac jc A JA us js q t w18 hV (by omega))
 rw [← hre] at HRU
 clear hre
 go_wp2_with fail
 refine HRU.out.mono ?_
 rintro e w19 ⟨R3,rc3,L3,rfl,hL3,hl3,hr0,hr1,hb⟩
 have HR0:=Lib.hid hr0
 have HR1:=Lib.hid hr1
 replace hx:=below_up hx hb
 replace hV:=hV.below hb
 replace hqb:=hqb.below hb
 clear hb hBr q0 q1 q2 ql hr0 hr1 HRU
 go_wp2_with fail
 refine (momentFault_any t _).mono ?_
 rintro e w20 ⟨rfl,rfl⟩
 obtain ⟨mf,hmf⟩ : ∃ mf : Int,mf = if t < 0 ∨ 345686399999 < t then 1 else 0:=⟨_,rfl⟩
 rw [← hmf]
 have HMF:=Lib.hid hmf
 clear hmf
 go_wp2_with fail
 refine (or_any _ 3 0 [ve,je,mf] _ (row_new w19 #[.int .i64 ve,.int .i64 je,.int .i64 mf] 43 0 1 3 (Nat.zero_le _) rfl) (by simp)).mono ?_
 rintro e w21 ⟨rfl,rfl⟩
 have hfr : firstE [ve,je,mf] = re:=by rw [HRE.out,rlsE_is,HVE.out,HJE.out,HMF.out]; rfl
 rw [hfr]
 have hb : Below w19.heap.size w19 (w19.alloc (.cells #[.int .i64 ve,.int .i64 je,.int .i64 mf] 43)):=(Below.refl _ _).alloc (Nat.le_refl _) _
 replace hx:=below_up hx hb
 replace hV:=hV.below hb
 replace hqb:=hqb.below hb
 replace hL3:=hL3.below hb
 clear hb hfr
 generalize w19.alloc (.cells #[.int .i64 ve,.int .i64 je,.int .i64 mf] 43) = w22 at *
 go_upto_region 22 with (fail)
 go_cut [144] from 105 to 144 (fun x wx => x = .bool false ∧ Below w22.heap.size w22 wx)
 case first =>
  by_cases h0 : re = 0
  ·have hvj:=rlsE_ok (HRE.out.symm.trans h0)
   have hvi:=(votesE_iff us).1 hvj.1
   have hLL:=HR0.out h0
   have HRO:=Lib.hid (fun (W : World) (h : VoW W lo1 lo2 A JA us js) => rulingsOf_any lo1 lo2 ac jc A JA us js q t W h (by omega) hvi.2.2 (fun v hv => (hvi.2.1 v hv).lo) hvj.2)
   rw [← hLL] at HRO
   obtain ⟨q0,q1,q2⟩ : _ ∧ _ ∧ _:=⟨hqb.cell 0,hqb.cell 1,hqb.cell 2⟩
   simp only [Q0,Q2,Q1] at q0 q1 q2
   have ql:=hqb.lt
   subst h0
   clear hvj hvi hLL hx hqb HR0 HR1
   go_wp2_with fail
   refine (HRO.out _ hV).mono ?_
   rintro e w23 ⟨R4,rc4,rfl,ho4,hb⟩
   have hL4:=Row.of_own ho4
   replace hL3:=hL3.below hb
   clear ho4 HRO q0 q1 q2 ql hV
   go_wp2_with fail
   refine (equalRl_any R3 R4 rc3 rc4 _ _ L3 L3 _ hL3 hL4 (by omega) (by omega)).mono ?_
   rintro e w24 ⟨rfl,nd,rfl⟩
   have hdt : decide (L3 = L3) = true:=by simp
   rw [hdt]
   clear hdt hL3 hL4
   have HB9:=Lib.hid (below_drewN' hb nd)
   clear hb
   go_wp2_with fail
   go_meet
   exact ⟨rfl,HB9.out⟩
  ·have d0 : (re == 0) = false:=beq_eq_false_iff_ne.2 h0
   have d1 : (re != 0) = true:=by simpa using h0
   have hLe : L3 = []:=HR1.out h0
   subst hLe
   clear hx hV hqb hL3 HR0 HR1 h0
   go_wp2_with fail
   go_meet
   exact ⟨rfl,Below.refl _ _⟩
 case rest =>
 obtain ⟨rfl,hb⟩:=hcut
 replace hx:=below_up hx hb
 replace hV:=hV.below hb
 replace hqb:=hqb.below hb
 clear hb hL3 HR0 HR1 HMF
 obtain ⟨q0,q1,q2⟩ : _ ∧ _ ∧ _:=⟨hqb.cell 0,hqb.cell 1,hqb.cell 2⟩
 simp only [Q0,Q2,Q1] at q0 q1 q2
 have ql:=hqb.lt
 go_wp2_with fail
 obtain ⟨ru,hru⟩ : ∃ ru,ru = runE us js q run t:=⟨_,rfl⟩
 obtain ⟨xr,xh,xs,xy,xn,hxv,hx0,hx1⟩:=ruledU us js q run t
 rw [← hru] at hxv hx0 hx1
 have HRUE:=Lib.hid hru
 have HX0:=Lib.hid hx0
 have HX1:=Lib.hid hx1
 have HRT:=Lib.hid (ruledT_any lo1 lo2 ac jc A JA us js q run t wc hV)
 rw [hxv] at HRT
 clear hru hx0 hx1 hxv
 refine HRT.out.mono ?_
 rintro e w25 ⟨rfl,hb⟩
 replace hx:=below_up hx hb
 replace hV:=hV.below hb
 replace hqb:=hqb.below hb
 clear hb HRT q0 q1 q2 ql
 have hb : Below w25.heap.size w25 (w25.alloc (.cells #[.string ⟨xr.toArray⟩,.int .i64 xh,.int .i64 xs,.int .i64 xy,.int .i64 xn] 56)):=(Below.refl _ _).alloc (Nat.le_refl _) _
 have hxb : Blk (w25.alloc (.cells #[.string ⟨xr.toArray⟩,.int .i64 xh,.int .i64 xs,.int .i64 xy,.int .i64 xn] 56)) w25.heap.size 56 #[.string ⟨xr.toArray⟩,.int .i64 xh,.int .i64 xs,.int .i64 xy,.int .i64 xn]:=Blk.new _ _ _
 replace hx:=below_up hx hb
 replace hV:=hV.below hb
 replace hqb:=hqb.below hb
 clear hb
 go_upto_region 25 with (fail)
 generalize w25.alloc (.cells #[.string ⟨xr.toArray⟩,.int .i64 xh,.int .i64 xs,.int .i64 xy,.int .i64 xn] 56) = w26 at *
 generalize w25.heap.size = xb at *
 obtain ⟨q0,q1,q2⟩ : _ ∧ _ ∧ _:=⟨hqb.cell 0,hqb.cell 1,hqb.cell 2⟩
 simp only [Q0,Q2,Q1] at q0 q1 q2
 have ql:=hqb.lt
 have HNU:=Lib.hid (needsU_any lo1 lo2 ac jc A JA us js q run t w26 hV)
 rw [← HRUE.out] at HNU
 go_wp2_with fail
 refine HNU.out.mono ?_
 rintro e w27 ⟨nn,is,rfl,hn1,hn0,hb⟩
 have HN1:=Lib.hid hn1
 have HN0:=Lib.hid hn0
 replace hx:=below_up hx hb
 replace hV:=hV.below hb
 replace hqb:=hqb.below hb
 replace hxb:=hxb.below hb
 clear hb hn1 hn0 HNU q0 q1 q2 ql
 go_wp2_with fail
 refine (rkeyFault_any run _ (by omega)).mono ?_
 rintro e w28 ⟨rfl,hb⟩
 replace hx:=below_up hx hb
 replace hV:=hV.below hb
 replace hqb:=hqb.below hb
 replace hxb:=hxb.below hb
 clear hb
 obtain ⟨kf,hkf⟩ : ∃ kf : Int,kf = if keyB run = false then 5 else 0:=⟨_,rfl⟩
 rw [← hkf]
 have HKF:=Lib.hid hkf
 clear hkf
 go_wp2_with fail
 refine (momentFault_any t _).mono ?_
 rintro e w29 ⟨rfl,rfl⟩
 obtain ⟨mf,hmf⟩ : ∃ mf : Int,mf = if t < 0 ∨ 345686399999 < t then 1 else 0:=⟨_,rfl⟩
 rw [← hmf]
 have HMF:=Lib.hid hmf
 clear hmf
 go_wp2_with fail
 refine (or_any _ 4 0 [ve,je,kf,mf] _ (row_new w28 #[.int .i64 ve,.int .i64 je,.int .i64 kf,.int .i64 mf] 43 0 1 4 (Nat.zero_le _) rfl) (by simp)).mono ?_
 rintro e w30 ⟨rfl,rfl⟩
 have hfr : firstE [ve,je,kf,mf] = ru:=by rw [HRUE.out,runE_is,HVE.out,HJE.out,HMF.out,HKF.out]; rfl
 rw [hfr]
 have hb : Below w28.heap.size w28 (w28.alloc (.cells #[.int .i64 ve,.int .i64 je,.int .i64 kf,.int .i64 mf] 43)):=(Below.refl _ _).alloc (Nat.le_refl _) _
 replace hx:=below_up hx hb
 replace hV:=hV.below hb
 replace hqb:=hqb.below hb
 replace hxb:=hxb.below hb
 clear hb hfr HMF HKF
 generalize w28.alloc (.cells #[.int .i64 ve,.int .i64 je,.int .i64 kf,.int .i64 mf] 43) = w31 at *
 obtain ⟨q0,q1,q2⟩ : _ ∧ _ ∧ _:=⟨hqb.cell 0,hqb.cell 1,hqb.cell 2⟩
 obtain ⟨x0,x1,x2,x3,x4⟩ : _ ∧ _ ∧ _ ∧ _ ∧ _:=⟨hxb.cell 0,hxb.cell 1,hxb.cell 2,hxb.cell 3,hxb.cell 4⟩
 simp only [Q0,Q2,Q1] at q0 q1 q2 x0 x1 x2 x3 x4
 have ql:=hqb.lt
 have xl:=hxb.lt
 by_cases h0 : ru = 0
 ·have hre0 : runE us js q run t = 0:=by rw [← HRUE.out,h0]
  have hok:=runE_ok hre0
  have hvi:=(votesE_iff us).1 hok.1
  have HND:=Lib.hid (HN0.out h0)
  have HRV:=Lib.hid (HX0.out h0)
  have HRO:=Lib.hid (fun (W : World) (h : VoW W lo1 lo2 A JA us js) => ruledOf_any lo1 lo2 ac jc A JA us js q run t W h (by omega) hvi.2.2 (fun v hv => (hvi.2.1 v hv).lo) hok.2.1)
  rw [HRV.out] at HRO
  have HNO:=Lib.hid (neededOf_any lo1 lo2 ac jc A JA us js q run t w31 hV (by omega) hok.2.1)
  subst h0
  clear hre0 hok hvi HN0 HX0 HN1 HX1 HRV HRUE
  go_wp2_with fail
  refine HNO.out.mono ?_
  rintro e w32 ⟨hno,hb⟩
  have hsame:=need_same HND.out hno
  replace hx:=below_up hx hb
  replace hV:=hV.below hb
  replace hqb:=hqb.below hb
  replace hxb:=hxb.below hb
  clear hb hno HND HNO q0 q1 q2 x0 x1 x2 x3 x4 ql xl
  have HSC : Hid (∀ W,Below w32.heap.size w32 W → (fun w' : World => w'.cell? ⟨qb,0,none⟩ = some (.int .i64 q.least) ∧ w'.cell? ⟨qb,1,none⟩ = some (.int .i64 q.num) ∧ w'.cell? ⟨qb,2,none⟩ = some (.int .i64 q.den) ∧ w'.cell? ⟨xb,0,none⟩ = some (.string ⟨xr.toArray⟩) ∧ w'.cell? ⟨xb,1,none⟩ = some (.int .i64 xh) ∧ w'.cell? ⟨xb,2,none⟩ = some (.int .i64 xs) ∧ w'.cell? ⟨xb,3,none⟩ = some (.int .i64 xy) ∧ w'.cell? ⟨xb,4,none⟩ = some (.int .i64 xn)) W):=Lib.hid (fun W hW => ⟨(hqb.below hW).cell 0,(hqb.below hW).cell 1,(hqb.below hW).cell 2,(hxb.below hW).cell 0,(hxb.below hW).cell 1,(hxb.below hW).cell 2,(hxb.below hW).cell 3,(hxb.below hW).cell 4⟩)
  have HKP : Hid (∀ W,Below w32.heap.size w32 W → VoW W lo1 lo2 A JA us js):=Lib.hid (fun W hW => hV.below hW)
  have HXW : Hid (∀ W,Below w32.heap.size w32 W → Below w.heap.size w W):=Lib.hid (fun W hW => below_up hx hW)
  have hbz : Below w32.heap.size w32 w32.drew:=below_drewN' (Below.refl _ _) 1
  have hsc:=HSC.out _ hbz
  try simp only at hsc
  have hqbl:=hqb.lt
  have hxbl:=hxb.lt
  clear hV hqb hxb hx
  rcases hsame with ⟨rfl,hn9,rfl⟩ | ⟨rfl,rfl,rfl⟩
  ·have hk1 : (0 : Int) ≤ (nn : Int):=by omega
   have hmx : max (nn : Int) 0 = (nn : Int):=by omega
   go_upto_region 30 with (fail)
   refine wp_region_held_drew (S:=(fun w' => w'.cell? ⟨qb,0,none⟩ = some (.int .i64 q.least) ∧ w'.cell? ⟨qb,1,none⟩ = some (.int .i64 q.num) ∧ w'.cell? ⟨qb,2,none⟩ = some (.int .i64 q.den) ∧ w'.cell? ⟨xb,0,none⟩ = some (.string ⟨xr.toArray⟩) ∧ w'.cell? ⟨xb,1,none⟩ = some (.int .i64 xh) ∧ w'.cell? ⟨xb,2,none⟩ = some (.int .i64 xs) ∧ w'.cell? ⟨xb,3,none⟩ = some (.int .i64 xy) ∧ w'.cell? ⟨xb,4,none⟩ = some (.int .i64 xn))) (by kernel_rfl) (hsc) (fun hHeld => ?_)
   (refine wpAnyH_take (i:=0) (v:=?_) (by (simp only [Q0,Q2]; rfl)) (by kernel_rfl) (by kernel_rfl) (by kernel_rfl) (by exact fun _ _ _ h => h) (Or.inl ⟨by rfl,?_⟩) (by assumption) ?_; (rotate_left 1; (intro w hSw; (try dsimp only at hSw); go_simp); (try with_reducible rfl)); (try simp only [Act.put,Q3,Q4,Q5]))
   (refine wpAnyH_take (i:=1) (v:=?_) (by (simp only [Q0,Q1,Q2]; rfl)) (by kernel_rfl) (by kernel_rfl) (by kernel_rfl) (by exact fun _ _ _ h => h) (Or.inl ⟨by rfl,?_⟩) (by assumption) ?_; (rotate_left 1; (intro w hSw; (try dsimp only at hSw); go_simp); (try with_reducible rfl)); (try simp only [Act.put,Q3,Q4,Q5]))
   (refine wpAnyH_take (i:=2) (v:=?_) (by (simp only [Q0,Q1,Q2]; rfl)) (by kernel_rfl) (by kernel_rfl) (by kernel_rfl) (by exact fun _ _ _ h => h) (Or.inl ⟨by rfl,?_⟩) (by assumption) ?_; (rotate_left 1; (intro w hSw; (try dsimp only at hSw); go_simp); (try with_reducible rfl)); (try simp only [Act.put,Q3,Q4,Q5]))
   (refine wpAnyH_take (i:=3) (v:=?_) (by (simp only [Q0,Q1,Q2]; rfl)) (by kernel_rfl) (by kernel_rfl) (by kernel_rfl) (by exact fun _ _ _ h => h) (Or.inl ⟨by rfl,?_⟩) (by assumption) ?_; (rotate_left 1; (intro w hSw; (try dsimp only at hSw); go_simp); (try with_reducible rfl)); (try simp only [Act.put,Q3,Q4,Q5]))
   (refine wpAnyH_take (i:=4) (v:=?_) (by (simp only [Q0,Q1,Q2]; rfl)) (by kernel_rfl) (by kernel_rfl) (by kernel_rfl) (by exact fun _ _ _ h => h) (Or.inl ⟨by rfl,?_⟩) (by assumption) ?_; (rotate_left 1; (intro w hSw; (try dsimp only at hSw); go_simp); (try with_reducible rfl)); (try simp only [Act.put,Q3,Q4,Q5]))
   (refine wpAnyH_take (i:=5) (v:=?_) (by (simp only [Q0,Q1,Q2]; rfl)) (by kernel_rfl) (by kernel_rfl) (by kernel_rfl) (by exact fun _ _ _ h => h) (Or.inl ⟨by rfl,?_⟩) (by assumption) ?_; (rotate_left 1; (intro w hSw; (try dsimp only at hSw); go_simp); (try with_reducible rfl)); (try simp only [Act.put,Q3,Q4,Q5]))
   (refine wpAnyH_take (i:=6) (v:=?_) (by (simp only [Q0,Q1,Q2]; rfl)) (by kernel_rfl) (by kernel_rfl) (by kernel_rfl) (by exact fun _ _ _ h => h) (Or.inl ⟨by rfl,?_⟩) (by assumption) ?_; (rotate_left 1; (intro w hSw; (try dsimp only at hSw); go_simp); (try with_reducible rfl)); (try simp only [Act.put,Q3,Q4,Q5]))
   (refine wpAnyH_take (i:=7) (v:=?_) (by (simp only [Q0,Q1,Q2]; rfl)) (by kernel_rfl) (by kernel_rfl) (by kernel_rfl) (by exact fun _ _ _ h => h) (Or.inl ⟨by rfl,?_⟩) (by assumption) ?_; (rotate_left 1; (intro w hSw; (try dsimp only at hSw); go_simp); (try with_reducible rfl)); (try simp only [Act.put,Q3,Q4,Q5]))
   (refine wpAnyH_take (i:=8) (v:=?_) (by (simp only [Q0,Q1,Q2]; rfl)) (by kernel_rfl) (by kernel_rfl) (by kernel_rfl) (by exact fun _ _ _ h => h) (Or.inl ⟨by rfl,?_⟩) (by assumption) ?_; (rotate_left 1; (intro w hSw; (try dsimp only at hSw); go_simp); (try with_reducible rfl)); (try simp only [Act.put,Q3,Q4,Q5]))
   refine wpAnyH_ready (rs:=[9]) (by kernel_rfl) (by simp) ?_
   refine AllReadyH.cons rfl (fun K hK => ?_) AllReadyH.nil
   go_simp
   go_at_call 30
   refine (HRO.out _ (HKP.out _ hbz)).mono ?_
   rintro e we ⟨rfl,hb⟩
   replace hbz:=below_up hbz hb
   have hsc:=HSC.out _ hbz
   try simp only at hsc
   clear hb
   go_wp2_with fail
   refine hK.out _ _ (hsc) (fun hHeld => ?_)
   clear hK K
   (try simp only [Act.put,Q3,Q4,Q5])
   (refine wpAnyH_take (i:=10) (v:=?_) (by (simp only [Q0,Q1,Q2]; rfl)) (by kernel_rfl) (by kernel_rfl) (by kernel_rfl) (by exact fun _ _ _ h => h) (Or.inl ⟨by rfl,?_⟩) (by assumption) ?_; (rotate_left 1; (intro w hSw; (try dsimp only at hSw); go_simp); (try with_reducible rfl)); (try simp only [Act.put,Q3,Q4,Q5]))
   (refine wpAnyH_take (i:=11) (v:=?_) (by (simp only [Q0,Q1,Q2]; rfl)) (by kernel_rfl) (by kernel_rfl) (by kernel_rfl) (by exact fun _ _ _ h => h) (Or.inl ⟨by rfl,?_⟩) (by assumption) ?_; (rotate_left 1; (intro w hSw; (try dsimp only at hSw); go_simp); (try with_reducible rfl)); (try simp only [Act.put,Q3,Q4,Q5]))
   (refine wpAnyH_take (i:=12) (v:=?_) (by (simp only [Q0,Q1,Q2]; rfl)) (by kernel_rfl) (by kernel_rfl) (by kernel_rfl) (by exact fun _ _ _ h => h) (Or.inl ⟨by rfl,?_⟩) (by assumption) ?_; (rotate_left 1; (intro w hSw; (try dsimp only at hSw); go_simp); (try with_reducible rfl)); (try simp only [Act.put,Q3,Q4,Q5]))
   (refine wpAnyH_take (i:=13) (v:=?_) (by (simp only [Q0,Q1,Q2]; rfl)) (by kernel_rfl) (by kernel_rfl) (by kernel_rfl) (by exact fun _ _ _ h => h) (Or.inl ⟨by rfl,?_⟩) (by assumption) ?_; (rotate_left 1; (intro w hSw; (try dsimp only at hSw); go_simp); (try with_reducible rfl)); (try simp only [Act.put,Q3,Q4,Q5]))
   (refine wpAnyH_take (i:=14) (v:=?_) (by (simp only [Q0,Q1,Q2]; rfl)) (by kernel_rfl) (by kernel_rfl) (by kernel_rfl) (by exact fun _ _ _ h => h) (Or.inl ⟨by rfl,?_⟩) (by assumption) ?_; (rotate_left 1; (intro w hSw; (try dsimp only at hSw); go_simp); (try with_reducible rfl)); (try simp only [Act.put,Q3,Q4,Q5]))
   (refine wpAnyH_take (i:=15) (v:=?_) (by (simp only [Q0,Q1,Q2]; rfl)) (by kernel_rfl) (by kernel_rfl) (by kernel_rfl) (by exact fun _ _ _ h => h) (Or.inl ⟨by rfl,?_⟩) (by assumption) ?_; (rotate_left 1; (intro w hSw; (try dsimp only at hSw); go_simp); (try with_reducible rfl)); (try simp only [Act.put,Q3,Q4,Q5]))
   (refine wpAnyH_take (i:=16) (v:=?_) (by (simp only [Q0,Q1,Q2]; rfl)) (by kernel_rfl) (by kernel_rfl) (by kernel_rfl) (by exact fun _ _ _ h => h) (Or.inl ⟨by rfl,?_⟩) (by assumption) ?_; (rotate_left 1; (intro w hSw; (try dsimp only at hSw); go_simp); (try with_reducible rfl)); (try simp only [Act.put,Q3,Q4,Q5]))
   (refine wpAnyH_take (i:=17) (v:=?_) (by (simp only [Q0,Q1,Q2]; rfl)) (by kernel_rfl) (by kernel_rfl) (by kernel_rfl) (by exact fun _ _ _ h => h) (Or.inl ⟨by rfl,?_⟩) (by assumption) ?_; (rotate_left 1; (intro w hSw; (try dsimp only at hSw); go_simp); (try with_reducible rfl)); (try simp only [Act.put,Q3,Q4,Q5]))
   (refine wpAnyH_take (i:=18) (v:=?_) (by (simp only [Q0,Q1,Q2]; rfl)) (by kernel_rfl) (by kernel_rfl) (by kernel_rfl) (by exact fun _ _ _ h => h) (Or.inl ⟨by rfl,?_⟩) (by assumption) ?_; (rotate_left 1; (intro w hSw; (try dsimp only at hSw); go_simp); (try with_reducible rfl)); (try simp only [Act.put,Q3,Q4,Q5]))
   (refine wpAnyH_take (i:=19) (v:=?_) (by (simp only [Q0,Q1,Q2]; rfl)) (by kernel_rfl) (by kernel_rfl) (by kernel_rfl) (by exact fun _ _ _ h => h) (Or.inl ⟨by rfl,?_⟩) (by assumption) ?_; (rotate_left 1; (intro w hSw; (try dsimp only at hSw); go_simp); (try with_reducible rfl)); (try simp only [Act.put,Q3,Q4,Q5]))
   (refine wpAnyH_take (i:=20) (v:=?_) (by (simp only [Q0,Q1,Q2]; rfl)) (by kernel_rfl) (by kernel_rfl) (by kernel_rfl) (by exact fun _ _ _ h => h) (Or.inl ⟨by rfl,?_⟩) (by assumption) ?_; (rotate_left 1; (intro w hSw; (try dsimp only at hSw); go_simp); (try with_reducible rfl)); (try simp only [Act.put,Q3,Q4,Q5]))
   (refine wpAnyH_take (i:=21) (v:=?_) (by (simp only [Q0,Q1,Q2]; rfl)) (by kernel_rfl) (by kernel_rfl) (by kernel_rfl) (by exact fun _ _ _ h => h) (Or.inl ⟨by rfl,?_⟩) (by assumption) ?_; (rotate_left 1; (intro w hSw; (try dsimp only at hSw); go_simp); (try with_reducible rfl)); (try simp only [Act.put,Q3,Q4,Q5]))
   (refine wpAnyH_take (i:=22) (v:=?_) (by (simp only [Q0,Q1,Q2]; rfl)) (by kernel_rfl) (by kernel_rfl) (by kernel_rfl) (by exact fun _ _ _ h => h) (Or.inl ⟨by rfl,?_⟩) (by assumption) ?_; (rotate_left 1; (intro w hSw; (try dsimp only at hSw); go_simp); (try with_reducible rfl)); (try simp only [Act.put,Q3,Q4,Q5]))
   (refine wpAnyH_take (i:=23) (v:=?_) (by (simp only [Q0,Q1,Q2]; rfl)) (by kernel_rfl) (by kernel_rfl) (by kernel_rfl) (by exact fun _ _ _ h => h) (Or.inl ⟨by rfl,?_⟩) (by assumption) ?_; (rotate_left 1; (intro w hSw; (try dsimp only at hSw); go_simp); (try with_reducible rfl)); (try simp only [Act.put,Q3,Q4,Q5]))
   (refine wpAnyH_take (i:=24) (v:=?_) (by (simp only [Q0,Q1,Q2]; rfl)) (by kernel_rfl) (by kernel_rfl) (by kernel_rfl) (by exact fun _ _ _ h => h) (Or.inl ⟨by rfl,?_⟩) (by assumption) ?_; (rotate_left 1; (intro w hSw; (try dsimp only at hSw); go_simp); (try with_reducible rfl)); (try simp only [Act.put,Q3,Q4,Q5]))
   (refine wpAnyH_take (i:=25) (v:=?_) (by (simp only [Q0,Q1,Q2]; rfl)) (by kernel_rfl) (by kernel_rfl) (by kernel_rfl) (by exact fun _ _ _ h => h) (Or.inl ⟨by rfl,?_⟩) (by assumption) ?_; (rotate_left 1; (intro w hSw; (try dsimp only at hSw); go_simp); (try with_reducible rfl)); (try simp only [Act.put,Q3,Q4,Q5]))
   (refine wpAnyH_take (i:=26) (v:=?_) (by (simp only [Q0,Q1,Q2]; rfl)) (by kernel_rfl) (by kernel_rfl) (by kernel_rfl) (by exact fun _ _ _ h => h) (Or.inl ⟨by rfl,?_⟩) (by assumption) ?_; (rotate_left 1; (intro w hSw; (try dsimp only at hSw); go_simp); (try with_reducible rfl)); (try simp only [Act.put,Q3,Q4,Q5]))
   (refine wpAnyH_take (i:=27) (v:=?_) (by (simp only [Q0,Q1,Q2]; rfl)) (by kernel_rfl) (by kernel_rfl) (by kernel_rfl) (by exact fun _ _ _ h => h) (Or.inl ⟨by rfl,?_⟩) (by assumption) ?_; (rotate_left 1; (intro w hSw; (try dsimp only at hSw); go_simp); (try with_reducible rfl)); (try simp only [Act.put,Q3,Q4,Q5]))
   (refine wpAnyH_take (i:=28) (v:=?_) (by (simp only [Q0,Q1,Q2]; rfl)) (by kernel_rfl) (by kernel_rfl) (by kernel_rfl) (by exact fun _ _ _ h => h) (Or.inl ⟨by rfl,?_⟩) (by assumption) ?_; (rotate_left 1; (intro w hSw; (try dsimp only at hSw); go_simp); (try with_reducible rfl)); (try simp only [Act.put,Q3,Q4,Q5]))
   refine wpAnyH_ready (rs:=[29]) (by kernel_rfl) (by simp) ?_
   refine AllReadyH.cons rfl (fun K hK => ?_) AllReadyH.nil
   go_simp
   go_at_call 28
   refine (filmed_any _).mono ?_
   rintro e wf ⟨rfl,hb⟩
   replace hbz:=below_up hbz hb
   have hsc:=HSC.out _ hbz
   try simp only at hsc
   clear hb
   go_wp2_with fail
   refine hK.out _ _ (hsc) (fun hHeld => ?_)
   clear hK K
   (try simp only [Act.put,Q3,Q4,Q5])
   (refine wpAnyH_take (i:=30) (v:=?_) (by (simp only [Q0,Q1,Q2]; rfl)) (by kernel_rfl) (by kernel_rfl) (by kernel_rfl) (by exact fun _ _ _ h => h) (Or.inl ⟨by rfl,?_⟩) (by assumption) ?_; (rotate_left 1; (intro w hSw; (try dsimp only at hSw); go_simp); (try with_reducible rfl)); (try simp only [Act.put,Q3,Q4,Q5]))
   (refine wpAnyH_take (i:=31) (v:=?_) (by (simp only [Q0,Q1,Q2]; rfl)) (by kernel_rfl) (by kernel_rfl) (by kernel_rfl) (by exact fun _ _ _ h => h) (Or.inl ⟨by rfl,?_⟩) (by assumption) ?_; (rotate_left 1; (intro w hSw; (try dsimp only at hSw); go_simp); (try with_reducible rfl)); (try simp only [Act.put,Q3,Q4,Q5]))
   refine wpAnyH_done (by kernel_rfl) ?_ _
   go_wp2_with fail
   go_ret
   exact ⟨rfl,HXW.out _ hbz⟩
  ·have hk1 : ¬ (0 : Int) ≤ -1:=by decide
   have hmx : max (-1 : Int) 0 = 0:=by decide
   have hmy : ((0 : Nat) : Int) = 0:=rfl
   go_upto_region 30 with (fail)
   refine wp_region_held_drew (S:=(fun w' => w'.cell? ⟨qb,0,none⟩ = some (.int .i64 q.least) ∧ w'.cell? ⟨qb,1,none⟩ = some (.int .i64 q.num) ∧ w'.cell? ⟨qb,2,none⟩ = some (.int .i64 q.den) ∧ w'.cell? ⟨xb,0,none⟩ = some (.string ⟨xr.toArray⟩) ∧ w'.cell? ⟨xb,1,none⟩ = some (.int .i64 xh) ∧ w'.cell? ⟨xb,2,none⟩ = some (.int .i64 xs) ∧ w'.cell? ⟨xb,3,none⟩ = some (.int .i64 xy) ∧ w'.cell? ⟨xb,4,none⟩ = some (.int .i64 xn))) (by kernel_rfl) (hsc) (fun hHeld => ?_)
   (refine wpAnyH_take (i:=0) (v:=?_) (by (simp only [Q0,Q2]; rfl)) (by kernel_rfl) (by kernel_rfl) (by kernel_rfl) (by exact fun _ _ _ h => h) (Or.inl ⟨by rfl,?_⟩) (by assumption) ?_; (rotate_left 1; (intro w hSw; (try dsimp only at hSw); go_simp); (try with_reducible rfl)); (try simp only [Act.put,Q3,Q4,Q5]))
   (refine wpAnyH_take (i:=1) (v:=?_) (by (simp only [Q0,Q1,Q2]; rfl)) (by kernel_rfl) (by kernel_rfl) (by kernel_rfl) (by exact fun _ _ _ h => h) (Or.inl ⟨by rfl,?_⟩) (by assumption) ?_; (rotate_left 1; (intro w hSw; (try dsimp only at hSw); go_simp); (try with_reducible rfl)); (try simp only [Act.put,Q3,Q4,Q5]))
   (refine wpAnyH_take (i:=2) (v:=?_) (by (simp only [Q0,Q1,Q2]; rfl)) (by kernel_rfl) (by kernel_rfl) (by kernel_rfl) (by exact fun _ _ _ h => h) (Or.inl ⟨by rfl,?_⟩) (by assumption) ?_; (rotate_left 1; (intro w hSw; (try dsimp only at hSw); go_simp); (try with_reducible rfl)); (try simp only [Act.put,Q3,Q4,Q5]))
   (refine wpAnyH_take (i:=3) (v:=?_) (by (simp only [Q0,Q1,Q2]; rfl)) (by kernel_rfl) (by kernel_rfl) (by kernel_rfl) (by exact fun _ _ _ h => h) (Or.inl ⟨by rfl,?_⟩) (by assumption) ?_; (rotate_left 1; (intro w hSw; (try dsimp only at hSw); go_simp); (try with_reducible rfl)); (try simp only [Act.put,Q3,Q4,Q5]))
   (refine wpAnyH_take (i:=4) (v:=?_) (by (simp only [Q0,Q1,Q2]; rfl)) (by kernel_rfl) (by kernel_rfl) (by kernel_rfl) (by exact fun _ _ _ h => h) (Or.inl ⟨by rfl,?_⟩) (by assumption) ?_; (rotate_left 1; (intro w hSw; (try dsimp only at hSw); go_simp); (try with_reducible rfl)); (try simp only [Act.put,Q3,Q4,Q5]))
   (refine wpAnyH_take (i:=5) (v:=?_) (by (simp only [Q0,Q1,Q2]; rfl)) (by kernel_rfl) (by kernel_rfl) (by kernel_rfl) (by exact fun _ _ _ h => h) (Or.inl ⟨by rfl,?_⟩) (by assumption) ?_; (rotate_left 1; (intro w hSw; (try dsimp only at hSw); go_simp); (try with_reducible rfl)); (try simp only [Act.put,Q3,Q4,Q5]))
   (refine wpAnyH_take (i:=6) (v:=?_) (by (simp only [Q0,Q1,Q2]; rfl)) (by kernel_rfl) (by kernel_rfl) (by kernel_rfl) (by exact fun _ _ _ h => h) (Or.inl ⟨by rfl,?_⟩) (by assumption) ?_; (rotate_left 1; (intro w hSw; (try dsimp only at hSw); go_simp); (try with_reducible rfl)); (try simp only [Act.put,Q3,Q4,Q5]))
   (refine wpAnyH_take (i:=7) (v:=?_) (by (simp only [Q0,Q1,Q2]; rfl)) (by kernel_rfl) (by kernel_rfl) (by kernel_rfl) (by exact fun _ _ _ h => h) (Or.inl ⟨by rfl,?_⟩) (by assumption) ?_; (rotate_left 1; (intro w hSw; (try dsimp only at hSw); go_simp); (try with_reducible rfl)); (try simp only [Act.put,Q3,Q4,Q5]))
   (refine wpAnyH_take (i:=8) (v:=?_) (by (simp only [Q0,Q1,Q2]; rfl)) (by kernel_rfl) (by kernel_rfl) (by kernel_rfl) (by exact fun _ _ _ h => h) (Or.inl ⟨by rfl,?_⟩) (by assumption) ?_; (rotate_left 1; (intro w hSw; (try dsimp only at hSw); go_simp); (try with_reducible rfl)); (try simp only [Act.put,Q3,Q4,Q5]))
   refine wpAnyH_ready (rs:=[9]) (by kernel_rfl) (by simp) ?_
   refine AllReadyH.cons rfl (fun K hK => ?_) AllReadyH.nil
   go_simp
   go_at_call 30
   refine (HRO.out _ (HKP.out _ hbz)).mono ?_
   rintro e we ⟨rfl,hb⟩
   replace hbz:=below_up hbz hb
   have hsc:=HSC.out _ hbz
   try simp only at hsc
   clear hb
   go_wp2_with fail
   refine hK.out _ _ (hsc) (fun hHeld => ?_)
   clear hK K
   (try simp only [Act.put,Q3,Q4,Q5])
   (refine wpAnyH_take (i:=10) (v:=?_) (by (simp only [Q0,Q1,Q2]; rfl)) (by kernel_rfl) (by kernel_rfl) (by kernel_rfl) (by exact fun _ _ _ h => h) (Or.inl ⟨by rfl,?_⟩) (by assumption) ?_; (rotate_left 1; (intro w hSw; (try dsimp only at hSw); go_simp); (try with_reducible rfl)); (try simp only [Act.put,Q3,Q4,Q5]))
   (refine wpAnyH_take (i:=11) (v:=?_) (by (simp only [Q0,Q1,Q2]; rfl)) (by kernel_rfl) (by kernel_rfl) (by kernel_rfl) (by exact fun _ _ _ h => h) (Or.inl ⟨by rfl,?_⟩) (by assumption) ?_; (rotate_left 1; (intro w hSw; (try dsimp only at hSw); go_simp); (try with_reducible rfl)); (try simp only [Act.put,Q3,Q4,Q5]))
   (refine wpAnyH_take (i:=12) (v:=?_) (by (simp only [Q0,Q1,Q2]; rfl)) (by kernel_rfl) (by kernel_rfl) (by kernel_rfl) (by exact fun _ _ _ h => h) (Or.inl ⟨by rfl,?_⟩) (by assumption) ?_; (rotate_left 1; (intro w hSw; (try dsimp only at hSw); go_simp); (try with_reducible rfl)); (try simp only [Act.put,Q3,Q4,Q5]))
   (refine wpAnyH_take (i:=13) (v:=?_) (by (simp only [Q0,Q1,Q2]; rfl)) (by kernel_rfl) (by kernel_rfl) (by kernel_rfl) (by exact fun _ _ _ h => h) (Or.inl ⟨by rfl,?_⟩) (by assumption) ?_; (rotate_left 1; (intro w hSw; (try dsimp only at hSw); go_simp); (try with_reducible rfl)); (try simp only [Act.put,Q3,Q4,Q5]))
   (refine wpAnyH_take (i:=14) (v:=?_) (by (simp only [Q0,Q1,Q2]; rfl)) (by kernel_rfl) (by kernel_rfl) (by kernel_rfl) (by exact fun _ _ _ h => h) (Or.inl ⟨by rfl,?_⟩) (by assumption) ?_; (rotate_left 1; (intro w hSw; (try dsimp only at hSw); go_simp); (try with_reducible rfl)); (try simp only [Act.put,Q3,Q4,Q5]))
   (refine wpAnyH_take (i:=15) (v:=?_) (by (simp only [Q0,Q1,Q2]; rfl)) (by kernel_rfl) (by kernel_rfl) (by kernel_rfl) (by exact fun _ _ _ h => h) (Or.inl ⟨by rfl,?_⟩) (by assumption) ?_; (rotate_left 1; (intro w hSw; (try dsimp only at hSw); go_simp); (try with_reducible rfl)); (try simp only [Act.put,Q3,Q4,Q5]))
   (refine wpAnyH_take (i:=16) (v:=?_) (by (simp only [Q0,Q1,Q2]; rfl)) (by kernel_rfl) (by kernel_rfl) (by kernel_rfl) (by exact fun _ _ _ h => h) (Or.inl ⟨by rfl,?_⟩) (by assumption) ?_; (rotate_left 1; (intro w hSw; (try dsimp only at hSw); go_simp); (try with_reducible rfl)); (try simp only [Act.put,Q3,Q4,Q5]))
   (refine wpAnyH_take (i:=17) (v:=?_) (by (simp only [Q0,Q1,Q2]; rfl)) (by kernel_rfl) (by kernel_rfl) (by kernel_rfl) (by exact fun _ _ _ h => h) (Or.inl ⟨by rfl,?_⟩) (by assumption) ?_; (rotate_left 1; (intro w hSw; (try dsimp only at hSw); go_simp); (try with_reducible rfl)); (try simp only [Act.put,Q3,Q4,Q5]))
   (refine wpAnyH_take (i:=18) (v:=?_) (by (simp only [Q0,Q1,Q2]; rfl)) (by kernel_rfl) (by kernel_rfl) (by kernel_rfl) (by exact fun _ _ _ h => h) (Or.inl ⟨by rfl,?_⟩) (by assumption) ?_; (rotate_left 1; (intro w hSw; (try dsimp only at hSw); go_simp); (try with_reducible rfl)); (try simp only [Act.put,Q3,Q4,Q5]))
   (refine wpAnyH_take (i:=19) (v:=?_) (by (simp only [Q0,Q1,Q2]; rfl)) (by kernel_rfl) (by kernel_rfl) (by kernel_rfl) (by exact fun _ _ _ h => h) (Or.inl ⟨by rfl,?_⟩) (by assumption) ?_; (rotate_left 1; (intro w hSw; (try dsimp only at hSw); go_simp); (try with_reducible rfl)); (try simp only [Act.put,Q3,Q4,Q5]))
   (refine wpAnyH_take (i:=20) (v:=?_) (by (simp only [Q0,Q1,Q2]; rfl)) (by kernel_rfl) (by kernel_rfl) (by kernel_rfl) (by exact fun _ _ _ h => h) (Or.inl ⟨by rfl,?_⟩) (by assumption) ?_; (rotate_left 1; (intro w hSw; (try dsimp only at hSw); go_simp); (try with_reducible rfl)); (try simp only [Act.put,Q3,Q4,Q5]))
   (refine wpAnyH_take (i:=21) (v:=?_) (by (simp only [Q0,Q1,Q2]; rfl)) (by kernel_rfl) (by kernel_rfl) (by kernel_rfl) (by exact fun _ _ _ h => h) (Or.inl ⟨by rfl,?_⟩) (by assumption) ?_; (rotate_left 1; (intro w hSw; (try dsimp only at hSw); go_simp); (try with_reducible rfl)); (try simp only [Act.put,Q3,Q4,Q5]))
   (refine wpAnyH_take (i:=22) (v:=?_) (by (simp only [Q0,Q1,Q2]; rfl)) (by kernel_rfl) (by kernel_rfl) (by kernel_rfl) (by exact fun _ _ _ h => h) (Or.inl ⟨by rfl,?_⟩) (by assumption) ?_; (rotate_left 1; (intro w hSw; (try dsimp only at hSw); go_simp); (try with_reducible rfl)); (try simp only [Act.put,Q3,Q4,Q5]))
   (refine wpAnyH_take (i:=23) (v:=?_) (by (simp only [Q0,Q1,Q2]; rfl)) (by kernel_rfl) (by kernel_rfl) (by kernel_rfl) (by exact fun _ _ _ h => h) (Or.inl ⟨by rfl,?_⟩) (by assumption) ?_; (rotate_left 1; (intro w hSw; (try dsimp only at hSw); go_simp); (try with_reducible rfl)); (try simp only [Act.put,Q3,Q4,Q5]))
   (refine wpAnyH_take (i:=24) (v:=?_) (by (simp only [Q0,Q1,Q2]; rfl)) (by kernel_rfl) (by kernel_rfl) (by kernel_rfl) (by exact fun _ _ _ h => h) (Or.inl ⟨by rfl,?_⟩) (by assumption) ?_; (rotate_left 1; (intro w hSw; (try dsimp only at hSw); go_simp); (try with_reducible rfl)); (try simp only [Act.put,Q3,Q4,Q5]))
   (refine wpAnyH_take (i:=25) (v:=?_) (by (simp only [Q0,Q1,Q2]; rfl)) (by kernel_rfl) (by kernel_rfl) (by kernel_rfl) (by exact fun _ _ _ h => h) (Or.inl ⟨by rfl,?_⟩) (by assumption) ?_; (rotate_left 1; (intro w hSw; (try dsimp only at hSw); go_simp); (try with_reducible rfl)); (try simp only [Act.put,Q3,Q4,Q5]))
   (refine wpAnyH_take (i:=26) (v:=?_) (by (simp only [Q0,Q1,Q2]; rfl)) (by kernel_rfl) (by kernel_rfl) (by kernel_rfl) (by exact fun _ _ _ h => h) (Or.inl ⟨by rfl,?_⟩) (by assumption) ?_; (rotate_left 1; (intro w hSw; (try dsimp only at hSw); go_simp); (try with_reducible rfl)); (try simp only [Act.put,Q3,Q4,Q5]))
   (refine wpAnyH_take (i:=27) (v:=?_) (by (simp only [Q0,Q1,Q2]; rfl)) (by kernel_rfl) (by kernel_rfl) (by kernel_rfl) (by exact fun _ _ _ h => h) (Or.inl ⟨by rfl,?_⟩) (by assumption) ?_; (rotate_left 1; (intro w hSw; (try dsimp only at hSw); go_simp); (try with_reducible rfl)); (try simp only [Act.put,Q3,Q4,Q5]))
   (refine wpAnyH_take (i:=28) (v:=?_) (by (simp only [Q0,Q1,Q2]; rfl)) (by kernel_rfl) (by kernel_rfl) (by kernel_rfl) (by exact fun _ _ _ h => h) (Or.inl ⟨by rfl,?_⟩) (by assumption) ?_; (rotate_left 1; (intro w hSw; (try dsimp only at hSw); go_simp); (try with_reducible rfl)); (try simp only [Act.put,Q3,Q4,Q5]))
   refine wpAnyH_ready (rs:=[29]) (by kernel_rfl) (by simp) ?_
   refine AllReadyH.cons rfl (fun K hK => ?_) AllReadyH.nil
   go_simp
   go_at_call 28
   refine (filmed_any _).mono ?_
   rintro e wf ⟨rfl,hb⟩
   replace hbz:=below_up hbz hb
   have hsc:=HSC.out _ hbz
   try simp only at hsc
   clear hb
   go_wp2_with fail
   refine hK.out _ _ (hsc) (fun hHeld => ?_)
   clear hK K
   (try simp only [Act.put,Q3,Q4,Q5])
   (refine wpAnyH_take (i:=30) (v:=?_) (by (simp only [Q0,Q1,Q2]; rfl)) (by kernel_rfl) (by kernel_rfl) (by kernel_rfl) (by exact fun _ _ _ h => h) (Or.inl ⟨by rfl,?_⟩) (by assumption) ?_; (rotate_left 1; (intro w hSw; (try dsimp only at hSw); go_simp); (try with_reducible rfl)); (try simp only [Act.put,Q3,Q4,Q5]))
   (refine wpAnyH_take (i:=31) (v:=?_) (by (simp only [Q0,Q1,Q2]; rfl)) (by kernel_rfl) (by kernel_rfl) (by kernel_rfl) (by exact fun _ _ _ h => h) (Or.inl ⟨by rfl,?_⟩) (by assumption) ?_; (rotate_left 1; (intro w hSw; (try dsimp only at hSw); go_simp); (try with_reducible rfl)); (try simp only [Act.put,Q3,Q4,Q5]))
   refine wpAnyH_done (by kernel_rfl) ?_ _
   go_wp2_with fail
   go_ret
   exact ⟨rfl,HXW.out _ hbz⟩
 ·have d0 : (ru != 0) = true:=by simpa using h0
  have d1 : (ru == ru) = true:=by simp
  obtain ⟨e1,e2,e3,e4,e5⟩:=HX1.out h0
  obtain ⟨e6,e7⟩:=HN1.out h0
  subst e1 e2 e3 e4 e5 e6 e7
  clear h0 HN0 HX0 HN1 HX1 HRUE hV hqb hxb
  go_wp2_with fail
  refine (filmed_any _).mono ?_
  rintro e w33 ⟨rfl,hb⟩
  clear q0 q1 q2 x0 x1 x2 x3 x4 ql xl
  go_wp2_with fail
  go_ret
  exact ⟨rfl,below_up hx hb⟩
end Go.Proofs.YtgeaeockmadhcaaGreatDoor
