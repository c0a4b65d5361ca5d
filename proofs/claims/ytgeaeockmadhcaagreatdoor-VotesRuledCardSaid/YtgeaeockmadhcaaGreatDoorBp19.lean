/- Texts of this seat, laid together: VoC VoD. -/
import Derived.Deep.DeepCutAuto
import Derived.Deep.CutRange
import Derived.Test.YtgeaeockmadhcaaGreatDoorBp17
import Derived.Test.YtgeaeockmadhcaaGreatDoorBp14
import Derived.Test.YtgeaeockmadhcaaGreatDoorBp18
import Derived.Test.YtgeaeockmadhcaaGreatDoorBp04
/- The walks of CheckVotes and of its reference. -/
namespace Go.Proofs.YtgeaeockmadhcaaGreatDoor
set_option linter.unusedVariables false
set_option linter.unusedSimpArgs false
open Go.RowKit

theorem getDV {vs : List VoteE} {k : Nat} (hk : k < vs.length) : vs.getD k default = vs[k]:=by
 rw [List.getD_eq_getElem?_getD,List.getElem?_eq_getElem hk]; rfl
theorem voteAt_name {vs : List VoteE} {k : Nat} (hk : k < vs.length) (h : (!keyB vs[k].run || !keyB vs[k].who) = true) : voteAt vs k = 5:=by
 unfold voteAt; rw [getDV hk,if_pos h]
theorem voteAt_at {vs : List VoteE} {k : Nat} (hk : k < vs.length) (h : (!keyB vs[k].run || !keyB vs[k].who) = false) (h1 : vs[k].at_ < 0 ∨ 345686399999 < vs[k].at_) : voteAt vs k = 1:=by
 unfold voteAt; rw [getDV hk,if_neg (by rw [h]; simp),if_pos h1]
theorem voteAt_kind {vs : List VoteE} {k : Nat} (hk : k < vs.length) (h : (!keyB vs[k].run || !keyB vs[k].who) = false) (h1 : ¬ (vs[k].at_ < 0 ∨ 345686399999 < vs[k].at_)) (h2 : vs[k].kind < 1 ∨ 3 < vs[k].kind) : voteAt vs k = 4:=by
 unfold voteAt; rw [getDV hk,if_neg (by rw [h]; simp),if_neg h1,if_pos h2]
theorem voteAt_ord {vs : List VoteE} {k : Nat} (hk : k < vs.length) (h : (!keyB vs[k].run || !keyB vs[k].who) = false) (h1 : ¬ (vs[k].at_ < 0 ∨ 345686399999 < vs[k].at_)) (h2 : ¬ (vs[k].kind < 1 ∨ 3 < vs[k].kind)) {ob : Bool} (h3 : ob = decide (0 < k ∧ ¬ ltV (vs.getD (k - 1) default) vs[k])) : voteAt vs k = if ob then 7 else 0:=by
 unfold voteAt; rw [getDV hk,if_neg (by rw [h]; simp),if_neg h1,if_neg h2,h3]
 by_cases hh : 0 < k ∧ ¬ ltV (vs.getD (k - 1) default) vs[k]
 ·rw [if_pos hh,decide_eq_true hh]; rfl
 ·rw [if_neg hh,decide_eq_false hh]; rfl
theorem not_inK {n : Int} (h : n < 1 ∨ 3 < n) : (decide (1 ≤ n) && decide (n ≤ 3)) = false:=by
 have hq : ¬ (1 ≤ n ∧ n ≤ 3):=by omega
 simpa using hq
theorem votesE_hit {vs : List VoteE} (hl : ¬ 500 < vs.length) {k : Nat} (hk : k < vs.length) (h0 : ∀ j,j < k → voteAt vs j = 0) {x : Int} (h : voteAt vs k = x) (hx : x ≠ 0) : votesE vs = x:=by
 unfold votesE
 rw [if_neg hl,scanF_hit hk h0 (by rw [h]; exact hx),h]
theorem votesE_none {vs : List VoteE} (hl : ¬ 500 < vs.length) (h0 : ∀ j,j < vs.length → voteAt vs j = 0) : votesE vs = 0:=by
 unfold votesE
 rw [if_neg hl,scanF_none h0]
set_option maxHeartbeats 4000000 in
set_option maxRecDepth 100000 in
theorem checkVotes_any (lo c : Nat) (A : Option Addr) (vs : List VoteE) (w : World) (hA : Row w lo 4 A vs.length (vs.flatMap encV)) (hl : vs.length ≤ 1000000) (hs : ∀ v ∈ vs,v.run.length ≤ 1000000 ∧ v.who.length ≤ 1000000) :
  Calls Tryz.prog 15 #[.slice A vs.length c] w fun e w' => e = .returned (.int .i64 (votesE vs)) ∧ Below w.heap.size w w':=by
 by_cases hbig : 500 < vs.length
 ·have HV : Hid (votesE vs = 2):=Lib.hid (by unfold votesE; rw [if_pos hbig])
  go_enter Tryz.func15,Tryz.ntmps15
  go_wp2_with fail
  go_ret
  exact ⟨ret_int' HV.out.symm,Below.refl _ _⟩
 have HA:=Lib.hid hA
 have HSS:=Lib.hid hs
 clear hA hs
 go_enter Tryz.func15,Tryz.ntmps15
 go_wp2_with fail
 go_loopw [10] (fun i wr => ∃ k : Nat,k ≤ vs.length ∧ i = .int .i64 k ∧ Hid (∀ j,j < k → voteAt vs j = 0) ∧ Below w.heap.size w wr) (fun i _ => vs.length - (intOf i).toNat)
 case atStart => exact ⟨0,Nat.zero_le _,rfl,Lib.hid (fun j hj => by omega),Below.refl _ _⟩
 case round =>
  obtain ⟨k,hk,rfl,HZ,hbw⟩:=hrel
  have hsz:=hbw.size
  by_cases hkn : k < vs.length
  ·obtain ⟨b,off,rfl,hbs,-,hcell⟩:=votes_at (HA.out.below hbw) (by omega)
   obtain ⟨y0,y1,y2,y3⟩:=hcell k hkn
   have HS:=Lib.hid (HSS.out _ (List.getElem_mem hkn))
   have HNM:=Lib.hid (voteAt_name (vs:=vs) hkn)
   have HAT:=Lib.hid (voteAt_at (vs:=vs) hkn)
   have HKI:=Lib.hid (voteAt_kind (vs:=vs) hkn)
   have HOR:=Lib.hid (@voteAt_ord vs k hkn)
   have HKN:=Lib.hid hkn
   have HBIG:=Lib.hid hbig
   have HCE : Hid (0 < k → ∃ p,vs.getD (k - 1) default = p ∧ wr.cell? ⟨b,off + (k - 1) * 4,none⟩ = some (.string ⟨p.run.toArray⟩) ∧ wr.cell? ⟨b,off + (k - 1) * 4 + 1,none⟩ = some (.string ⟨p.who.toArray⟩) ∧ wr.cell? ⟨b,off + (k - 1) * 4 + 2,none⟩ = some (.int .i64 p.at_) ∧ wr.cell? ⟨b,off + (k - 1) * 4 + 3,none⟩ = some (.int .i64 p.kind)):=Lib.hid (fun h0 => ⟨vs[k - 1]'(by omega),getDV (by omega),hcell (k - 1) (by omega)⟩)
   clear hcell hbig
   generalize vs[k] = v at *
   go_upto_region 6 with (fail)
   have hb2 : Below w.heap.size w (wr.alloc (.cells #[.string ⟨v.run.toArray⟩,.string ⟨v.who.toArray⟩,.int .i64 v.at_,.int .i64 v.kind] 37)):=hbw.alloc hsz _
   have hb3 : Below wr.heap.size wr (wr.alloc (.cells #[.string ⟨v.run.toArray⟩,.string ⟨v.who.toArray⟩,.int .i64 v.at_,.int .i64 v.kind] 37)):=(Below.refl _ _).alloc (Nat.le_refl _) _
   have hbl:=Blk.new wr 37 #[.string ⟨v.run.toArray⟩,.string ⟨v.who.toArray⟩,.int .i64 v.at_,.int .i64 v.kind]
   have hlt9 : b < (wr.alloc (.cells #[.string ⟨v.run.toArray⟩,.string ⟨v.who.toArray⟩,.int .i64 v.at_,.int .i64 v.kind] 37)).heap.size:=by simp; omega
   generalize wr.alloc (.cells #[.string ⟨v.run.toArray⟩,.string ⟨v.who.toArray⟩,.int .i64 v.at_,.int .i64 v.kind] 37) = wa at *
   have hkw : wr.heap.size ≤ wa.heap.size:=hb3.size
   generalize wr.heap.size = kb at *
   have hkbl:=hbl.lt
   obtain ⟨z0,z1,z2,z3⟩ : _ ∧ _ ∧ _ ∧ _:=⟨hbl.cell 0,hbl.cell 1,hbl.cell 2,hbl.cell 3⟩
   simp only [Q0,Q2,Q1] at z0 z1 z2 z3
   clear y0 y1 y2 y3 hbw hsz
   go_wp2_with fail
   refine (key_any ⟨v.run.toArray⟩ _).mono ?_
   rintro e w1 ⟨rfl,rfl⟩
   skip
   cases hk1 : keyB v.run with
   | false =>
    have HV:=Lib.hid (votesE_hit HBIG.out HKN.out HZ.out (HNM.out (by rw [hk1]; rfl)) (by decide))
    simp only [hk1]
    go_wp2_with fail
    go_ret
    exact ⟨ret_int' HV.out.symm,hb2⟩
   | true =>
    simp only [hk1]
    go_wp2_with fail
    refine (key_any ⟨v.who.toArray⟩ _).mono ?_
    rintro e w2 ⟨rfl,rfl⟩
    skip
    cases hk2 : keyB v.who with
    | false =>
     have HV:=Lib.hid (votesE_hit HBIG.out HKN.out HZ.out (HNM.out (by rw [hk1,hk2]; rfl)) (by decide))
     simp only [hk2]
     go_wp2_with fail
     go_ret
     exact ⟨ret_int' HV.out.symm,hb2⟩
    | true =>
     simp only [hk2]
     have HKK : Hid ((!keyB v.run || !keyB v.who) = false):=Lib.hid (by rw [hk1,hk2]; rfl)
     clear hk1 hk2 HNM
     go_wp2_with fail
     refine (moment_any v.at_ _).mono ?_
     rintro e w5 ⟨rfl,rfl⟩
     by_cases h1 : v.at_ < 0 ∨ 345686399999 < v.at_
     ·have HV:=Lib.hid (votesE_hit HBIG.out HKN.out HZ.out (HAT.out HKK.out h1) (by decide))
      rw [decide_eq_true h1]
      clear h1
      go_wp2_with fail
      go_ret
      exact ⟨ret_int' HV.out.symm,hb2⟩
     ·rw [decide_eq_false h1]
      have H1:=Lib.hid h1
      clear h1 HAT
      go_wp2_with fail
      refine (out_any v.kind 1 3 _).mono ?_
      rintro e w6 ⟨rfl,rfl⟩
      by_cases h2 : v.kind < 1 ∨ 3 < v.kind
      ·have HV:=Lib.hid (votesE_hit HBIG.out HKN.out HZ.out (HKI.out HKK.out H1.out h2) (by decide))
       have d4 : (decide (v.kind < 1) || decide (3 < v.kind)) = true:=by simpa using h2
       rw [d4]
       clear h2
       go_wp2_with fail
       go_ret
       exact ⟨ret_int' HV.out.symm,hb2⟩
      ·have d4 : (decide (v.kind < 1) || decide (3 < v.kind)) = false:=by simpa using h2
       rw [d4]
       have H2:=Lib.hid h2
       clear h2 HKI
       obtain ⟨ob,hob⟩ : ∃ ob : Bool,ob = decide (0 < k ∧ ¬ ltV (vs.getD (k - 1) default) v):=⟨_,rfl⟩
       have HOB:=Lib.hid hob
       clear hob
       go_upto_region 12 with (fail)
       go_cut [35] from 36 to 47 (fun u wx => u = .bool ob ∧ Below wa.heap.size wa wx)
       case first =>
        have hbz : Below wa.heap.size wa wa.drew:=below_drewN' (Below.refl _ _) 1
        by_cases hk0 : k = 0
        ·have d3 : ¬ 0 < k:=by omega
         have HO2 : Hid (ob = false):=Lib.hid (by rw [HOB.out]; exact decide_eq_false (fun h => d3 h.1))
         clear hk0
         go_quiet (fail)
         go_wp2_with fail
         go_meet
         exact ⟨by rw [HO2.out],(by repeat (first | exact Below.refl _ _ | refine Below.alloc ?_ (by first | omega | (simp; omega) | simp) _ | refine below_drewN' ?_ _ | refine Below.drew ?_))⟩
        ·have d3 : 0 < k:=by omega
         obtain ⟨p,hp,c0,c1,c2,c3⟩:=HCE.out d3
         have wk : IntKind.i64.wrap ((k : Int) - 1) = ((k - 1 : Nat) : Int):=by rw [IntWalk.i64_in _ ⟨by omega,by omega⟩]; omega
         obtain ⟨pv,hpv⟩ : ∃ pv,pv = cmpV v p:=⟨_,rfl⟩
         have dp : decide (pv ≤ 0) = ob:=by
          rw [HOB.out,hp,hpv]
          have hc:=cmpV_pos v p
          by_cases hq : ltV p v
          ·have h9:=hc.2 hq
           exact (decide_eq_false (by omega)).trans (decide_eq_false (fun h => h.2 hq)).symm
          ·have h9 : ¬ 0 < cmpV v p:=fun h => hq (hc.1 h)
           exact (decide_eq_true (by omega)).trans (decide_eq_true ⟨d3,hq⟩).symm
         have HSC : Hid (∀ W,Below wa.heap.size wa W → (fun w' : World => w'.cell? ⟨kb,0,none⟩ = some (.string ⟨v.run.toArray⟩) ∧ w'.cell? ⟨kb,1,none⟩ = some (.string ⟨v.who.toArray⟩) ∧ w'.cell? ⟨kb,2,none⟩ = some (.int .i64 v.at_) ∧ w'.cell? ⟨kb,3,none⟩ = some (.int .i64 v.kind) ∧ w'.cell? ⟨b,off + (k - 1) * 4,none⟩ = some (.string ⟨p.run.toArray⟩) ∧ w'.cell? ⟨b,off + (k - 1) * 4 + 1,none⟩ = some (.string ⟨p.who.toArray⟩) ∧ w'.cell? ⟨b,off + (k - 1) * 4 + 2,none⟩ = some (.int .i64 p.at_) ∧ w'.cell? ⟨b,off + (k - 1) * 4 + 3,none⟩ = some (.int .i64 p.kind)) W):=Lib.hid (fun W hW => by
          have hq:=hb3.trans (hW.mono hkw)
          exact ⟨(hbl.below hW).cell 0,(hbl.below hW).cell 1,(hbl.below hW).cell 2,(hbl.below hW).cell 3,(hq.cell (p:=⟨b,_,none⟩) hbs).trans c0,(hq.cell (p:=⟨b,_,none⟩) hbs).trans c1,(hq.cell (p:=⟨b,_,none⟩) hbs).trans c2,(hq.cell (p:=⟨b,_,none⟩) hbs).trans c3⟩)
         have hsc:=HSC.out _ hbz
         try simp only at hsc
         unfold cmpV at hpv
         have HPV:=Lib.hid hpv
         clear c0 c1 c2 c3 hp hk0 hb3 hpv
         refine wp_region_held_drew (S:=(fun w' => w'.cell? ⟨kb,0,none⟩ = some (.string ⟨v.run.toArray⟩) ∧ w'.cell? ⟨kb,1,none⟩ = some (.string ⟨v.who.toArray⟩) ∧ w'.cell? ⟨kb,2,none⟩ = some (.int .i64 v.at_) ∧ w'.cell? ⟨kb,3,none⟩ = some (.int .i64 v.kind) ∧ w'.cell? ⟨b,off + (k - 1) * 4,none⟩ = some (.string ⟨p.run.toArray⟩) ∧ w'.cell? ⟨b,off + (k - 1) * 4 + 1,none⟩ = some (.string ⟨p.who.toArray⟩) ∧ w'.cell? ⟨b,off + (k - 1) * 4 + 2,none⟩ = some (.int .i64 p.at_) ∧ w'.cell? ⟨b,off + (k - 1) * 4 + 3,none⟩ = some (.int .i64 p.kind))) (by kernel_rfl) (hsc) (fun hHeld => ?_)
         (refine wpAnyH_take (i:=0) (v:=?_) (by (simp only [Q0,Q2]; rfl)) (by kernel_rfl) (by kernel_rfl) (by kernel_rfl) (by exact fun _ _ _ h => h) (Or.inl ⟨by rfl,?_⟩) (by assumption) ?_; (rotate_left 1; (intro w hSw; (try dsimp only at hSw); go_simp); (try with_reducible rfl)); (try simp only [Act.put,Q3,Q4,Q5]))
         (refine wpAnyH_take (i:=1) (v:=?_) (by (simp only [Q0,Q1,Q2]; rfl)) (by kernel_rfl) (by kernel_rfl) (by kernel_rfl) (by exact fun _ _ _ h => h) (Or.inl ⟨by rfl,?_⟩) (by assumption) ?_; (rotate_left 1; (intro w hSw; (try dsimp only at hSw); go_simp); (try with_reducible rfl)); (try simp only [Act.put,Q3,Q4,Q5]))
         (refine wpAnyH_take (i:=2) (v:=?_) (by (simp only [Q0,Q1,Q2]; rfl)) (by kernel_rfl) (by kernel_rfl) (by kernel_rfl) (by exact fun _ _ _ h => h) (Or.inl ⟨by rfl,?_⟩) (by assumption) ?_; (rotate_left 1; (intro w hSw; (try dsimp only at hSw); go_simp); (try with_reducible rfl)); (try simp only [Act.put,Q3,Q4,Q5]))
         (refine wpAnyH_take (i:=3) (v:=?_) (by (simp only [Q0,Q1,Q2]; rfl)) (by kernel_rfl) (by kernel_rfl) (by kernel_rfl) (by exact fun _ _ _ h => h) (Or.inl ⟨by rfl,?_⟩) (by assumption) ?_; (rotate_left 1; (intro w hSw; (try dsimp only at hSw); go_simp); (try with_reducible rfl)); (try simp only [Act.put,Q3,Q4,Q5]))
         (refine wpAnyH_take (i:=4) (v:=?_) (by (simp only [Q0,Q1,Q2]; rfl)) (by kernel_rfl) (by kernel_rfl) (by kernel_rfl) (by exact fun _ _ _ h => h) (Or.inl ⟨by rfl,?_⟩) (by assumption) ?_; (rotate_left 1; (intro w hSw; (try dsimp only at hSw); go_simp); (try with_reducible rfl)); (try simp only [Act.put,Q3,Q4,Q5]))
         (refine wpAnyH_take (i:=5) (v:=?_) (by (simp only [Q0,Q1,Q2]; rfl)) (by kernel_rfl) (by kernel_rfl) (by kernel_rfl) (by exact fun _ _ _ h => h) (Or.inl ⟨by rfl,?_⟩) (by assumption) ?_; (rotate_left 1; (intro w hSw; (try dsimp only at hSw); go_simp); (try with_reducible rfl)); (try simp only [Act.put,Q3,Q4,Q5]))
         (refine wpAnyH_take (i:=6) (v:=?_) (by (simp only [Q0,Q1,Q2]; rfl)) (by kernel_rfl) (by kernel_rfl) (by kernel_rfl) (by exact fun _ _ _ h => h) (Or.inl ⟨by rfl,?_⟩) (by assumption) ?_; (rotate_left 1; (intro w hSw; (try dsimp only at hSw); go_simp); (try with_reducible rfl)); (try simp only [Act.put,Q3,Q4,Q5]))
         (refine wpAnyH_take (i:=7) (v:=?_) (by (simp only [Q0,Q1,Q2]; rfl)) (by kernel_rfl) (by kernel_rfl) (by kernel_rfl) (by exact fun _ _ _ h => h) (Or.inl ⟨by rfl,?_⟩) (by assumption) ?_; (rotate_left 1; (intro w hSw; (try dsimp only at hSw); go_simp; (try rw [if_pos (by omega)])); (try with_reducible rfl)); (try simp only [Act.put,Q3,Q4,Q5]))
         (refine wpAnyH_take (i:=8) (v:=?_) (by (simp only [Q0,Q1,Q2]; rfl)) (by kernel_rfl) (by kernel_rfl) (by kernel_rfl) (by exact fun _ _ _ h => h) (Or.inl ⟨by rfl,?_⟩) (by assumption) ?_; (rotate_left 1; (intro w hSw; (try dsimp only at hSw); go_simp); (try with_reducible rfl)); (try simp only [Act.put,Q3,Q4,Q5]))
         refine wpAnyH_ready (rs:=[9]) (by kernel_rfl) (by simp) ?_
         refine AllReadyH.cons rfl (fun K hK => ?_) AllReadyH.nil
         go_simp
         go_at_call 49
         refine (byVote_any v.run v.who p.run p.who v.at_ v.kind p.at_ p.kind _).mono ?_
         rintro e wq ⟨rfl,hbq⟩
         rw [← HPV.out]
         replace hbz:=hbz.trans (hbq.mono hbz.size)
         have hsc:=HSC.out _ hbz
         try simp only at hsc
         clear hbq
         go_wp2_with fail
         refine hK.out _ _ (hsc) (fun hHeld => ?_)
         clear hK K
         (try simp only [Act.put,Q3,Q4,Q5])
         (refine wpAnyH_take (i:=10) (v:=?_) (by (simp only [Q0,Q1,Q2]; rfl)) (by kernel_rfl) (by kernel_rfl) (by kernel_rfl) (by exact fun _ _ _ h => h) (Or.inl ⟨by rfl,?_⟩) (by assumption) ?_; (rotate_left 1; (intro w hSw; (try dsimp only at hSw); go_simp); (try with_reducible rfl)); (try simp only [Act.put,Q3,Q4,Q5]))
         (refine wpAnyH_take (i:=11) (v:=?_) (by (simp only [Q0,Q1,Q2]; rfl)) (by kernel_rfl) (by kernel_rfl) (by kernel_rfl) (by exact fun _ _ _ h => h) (Or.inl ⟨by rfl,?_⟩) (by assumption) ?_; (rotate_left 1; (intro w hSw; (try dsimp only at hSw); go_simp); (try with_reducible rfl)); (try simp only [Act.put,Q3,Q4,Q5]))
         (refine wpAnyH_take (i:=12) (v:=?_) (by (simp only [Q0,Q1,Q2]; rfl)) (by kernel_rfl) (by kernel_rfl) (by kernel_rfl) (by exact fun _ _ _ h => h) (Or.inl ⟨by rfl,?_⟩) (by assumption) ?_; (rotate_left 1; (intro w hSw; (try dsimp only at hSw); go_simp); (try with_reducible rfl)); (try simp only [Act.put,Q3,Q4,Q5]))
         refine wpAnyH_done (by kernel_rfl) ?_ _
         go_wp2_with fail
         go_meet
         exact ⟨by first | rfl | rw [dp],hbz⟩
       case rest =>
       obtain ⟨rfl,hbr⟩:=hcut
       have hb4:=below_up hb2 hbr
       have HX:=HOR.out HKK.out H1.out H2.out HOB.out
       cases ob with
       | true =>
        have HV:=Lib.hid (votesE_hit HBIG.out HKN.out HZ.out HX (by decide))
        clear HX
        go_wp2_with fail
        go_ret
        exact ⟨ret_int' HV.out.symm,hb4⟩
       | false =>
        have HN:=Lib.hid (step_all HZ.out HX)
        clear HX
        go_wp2_with fail
        go_roundw
        case rel => exact ⟨k + 1,by omega,by go_num,HN,hb4⟩
        case measure => simp [intOf]; omega
  ·have hke : k = vs.length:=by omega
   subst hke
   have HV:=Lib.hid (votesE_none hbig HZ.out)
   go_wp2_with fail
   go_ret
   exact ⟨ret_int' HV.out.symm,hbw⟩
set_option maxHeartbeats 4000000 in
set_option maxRecDepth 100000 in
theorem rvotesFault_any (lo c : Nat) (A : Option Addr) (vs : List VoteE) (w : World) (hA : Row w lo 4 A vs.length (vs.flatMap encV)) (hl : vs.length ≤ 1000000) (hs : ∀ v ∈ vs,v.run.length ≤ 1000000 ∧ v.who.length ≤ 1000000) :
  Calls Tryz.prog 13 #[.slice A vs.length c] w fun e w' => e = .returned (.int .i64 (votesE vs)) ∧ Below w.heap.size w w':=by
 by_cases hbig : 500 < vs.length
 ·have HV : Hid (votesE vs = 2):=Lib.hid (by unfold votesE; rw [if_pos hbig])
  go_enter Tryz.func13,Tryz.ntmps13
  go_wp2_with fail
  go_ret
  exact ⟨ret_int' HV.out.symm,Below.refl _ _⟩
 have HA:=Lib.hid hA
 have HSS:=Lib.hid hs
 clear hA hs
 go_enter Tryz.func13,Tryz.ntmps13
 go_wp2_with fail
 go_loopw [10] (fun i wr => ∃ k : Nat,k ≤ vs.length ∧ i = .int .i64 k ∧ Hid (∀ j,j < k → voteAt vs j = 0) ∧ Below w.heap.size w wr) (fun i _ => vs.length - (intOf i).toNat)
 case atStart => exact ⟨0,Nat.zero_le _,rfl,Lib.hid (fun j hj => by omega),Below.refl _ _⟩
 case round =>
  obtain ⟨k,hk,rfl,HZ,hbw⟩:=hrel
  have hsz:=hbw.size
  by_cases hkn : k < vs.length
  ·obtain ⟨b,off,rfl,hbs,-,hcell⟩:=votes_at (HA.out.below hbw) (by omega)
   obtain ⟨y0,y1,y2,y3⟩:=hcell k hkn
   have HS:=Lib.hid (HSS.out _ (List.getElem_mem hkn))
   have HNM:=Lib.hid (voteAt_name (vs:=vs) hkn)
   have HAT:=Lib.hid (voteAt_at (vs:=vs) hkn)
   have HKI:=Lib.hid (voteAt_kind (vs:=vs) hkn)
   have HOR:=Lib.hid (@voteAt_ord vs k hkn)
   have HKN:=Lib.hid hkn
   have HBIG:=Lib.hid hbig
   have HCE : Hid (0 < k → ∃ p,vs.getD (k - 1) default = p ∧ wr.cell? ⟨b,off + (k - 1) * 4,none⟩ = some (.string ⟨p.run.toArray⟩) ∧ wr.cell? ⟨b,off + (k - 1) * 4 + 1,none⟩ = some (.string ⟨p.who.toArray⟩) ∧ wr.cell? ⟨b,off + (k - 1) * 4 + 2,none⟩ = some (.int .i64 p.at_) ∧ wr.cell? ⟨b,off + (k - 1) * 4 + 3,none⟩ = some (.int .i64 p.kind)):=Lib.hid (fun h0 => ⟨vs[k - 1]'(by omega),getDV (by omega),hcell (k - 1) (by omega)⟩)
   clear hcell hbig
   generalize vs[k] = v at *
   go_upto_region 6 with (fail)
   have hb2 : Below w.heap.size w (wr.alloc (.cells #[.string ⟨v.run.toArray⟩,.string ⟨v.who.toArray⟩,.int .i64 v.at_,.int .i64 v.kind] 37)):=hbw.alloc hsz _
   have hb3 : Below wr.heap.size wr (wr.alloc (.cells #[.string ⟨v.run.toArray⟩,.string ⟨v.who.toArray⟩,.int .i64 v.at_,.int .i64 v.kind] 37)):=(Below.refl _ _).alloc (Nat.le_refl _) _
   have hbl:=Blk.new wr 37 #[.string ⟨v.run.toArray⟩,.string ⟨v.who.toArray⟩,.int .i64 v.at_,.int .i64 v.kind]
   have hlt9 : b < (wr.alloc (.cells #[.string ⟨v.run.toArray⟩,.string ⟨v.who.toArray⟩,.int .i64 v.at_,.int .i64 v.kind] 37)).heap.size:=by simp; omega
   generalize wr.alloc (.cells #[.string ⟨v.run.toArray⟩,.string ⟨v.who.toArray⟩,.int .i64 v.at_,.int .i64 v.kind] 37) = wa at *
   have hkw : wr.heap.size ≤ wa.heap.size:=hb3.size
   generalize wr.heap.size = kb at *
   have hkbl:=hbl.lt
   obtain ⟨z0,z1,z2,z3⟩ : _ ∧ _ ∧ _ ∧ _:=⟨hbl.cell 0,hbl.cell 1,hbl.cell 2,hbl.cell 3⟩
   simp only [Q0,Q2,Q1] at z0 z1 z2 z3
   clear y0 y1 y2 y3 hbw hsz
   go_wp2_with fail
   refine (rkey_any v.run _ (by have:=HS.out; omega)).mono ?_
   rintro e w1 ⟨rfl,hbK⟩
   replace hb2:=below_up hb2 hbK
   replace hb3:=hb3.trans (hbK.mono hkw)
   replace hkw:=Nat.le_trans hkw hbK.size
   replace hbl:=hbl.below hbK
   replace hlt9:=Nat.lt_of_lt_of_le hlt9 hbK.size
   clear hbK hkbl z0 z1 z2 z3
   have hkbl:=hbl.lt
   obtain ⟨z0,z1,z2,z3⟩ : _ ∧ _ ∧ _ ∧ _:=⟨hbl.cell 0,hbl.cell 1,hbl.cell 2,hbl.cell 3⟩
   simp only [Q0,Q2,Q1] at z0 z1 z2 z3
   cases hk1 : keyB v.run with
   | false =>
    have HV:=Lib.hid (votesE_hit HBIG.out HKN.out HZ.out (HNM.out (by rw [hk1]; rfl)) (by decide))
    simp only [hk1]
    go_wp2_with fail
    go_ret
    exact ⟨ret_int' HV.out.symm,hb2⟩
   | true =>
    simp only [hk1]
    go_wp2_with fail
    refine (rkey_any v.who _ (by have:=HS.out; omega)).mono ?_
    rintro e w2 ⟨rfl,hbK⟩
    replace hb2:=below_up hb2 hbK
    replace hb3:=hb3.trans (hbK.mono hkw)
    replace hkw:=Nat.le_trans hkw hbK.size
    replace hbl:=hbl.below hbK
    replace hlt9:=Nat.lt_of_lt_of_le hlt9 hbK.size
    clear hbK hkbl z0 z1 z2 z3
    have hkbl:=hbl.lt
    obtain ⟨z0,z1,z2,z3⟩ : _ ∧ _ ∧ _ ∧ _:=⟨hbl.cell 0,hbl.cell 1,hbl.cell 2,hbl.cell 3⟩
    simp only [Q0,Q2,Q1] at z0 z1 z2 z3
    cases hk2 : keyB v.who with
    | false =>
     have HV:=Lib.hid (votesE_hit HBIG.out HKN.out HZ.out (HNM.out (by rw [hk1,hk2]; rfl)) (by decide))
     simp only [hk2]
     go_wp2_with fail
     go_ret
     exact ⟨ret_int' HV.out.symm,hb2⟩
    | true =>
     simp only [hk2]
     have HKK : Hid ((!keyB v.run || !keyB v.who) = false):=Lib.hid (by rw [hk1,hk2]; rfl)
     clear hk1 hk2 HNM
     go_wp2_with fail
     refine (momentFault_any v.at_ _).mono ?_
     rintro e w5 ⟨rfl,rfl⟩
     by_cases h1 : v.at_ < 0 ∨ 345686399999 < v.at_
     ·have HV:=Lib.hid (votesE_hit HBIG.out HKN.out HZ.out (HAT.out HKK.out h1) (by decide))
      rw [if_pos h1]
      clear h1
      go_wp2_with fail
      go_ret
      exact ⟨ret_int' HV.out.symm,hb2⟩
     ·rw [if_neg h1]
      have H1:=Lib.hid h1
      clear h1 HAT
      go_wp2_with fail
      refine (in_any v.kind 1 3 _).mono ?_
      rintro e w6 ⟨rfl,rfl⟩
      by_cases h2 : v.kind < 1 ∨ 3 < v.kind
      ·have HV:=Lib.hid (votesE_hit HBIG.out HKN.out HZ.out (HKI.out HKK.out H1.out h2) (by decide))
       have d4 : (decide (1 ≤ v.kind) && decide (v.kind ≤ 3)) = false:=not_inK h2
       rw [d4]
       clear h2
       go_wp2_with fail
       go_ret
       exact ⟨ret_int' HV.out.symm,hb2⟩
      ·have d4 : (decide (1 ≤ v.kind) && decide (v.kind ≤ 3)) = true:=by simp; omega
       rw [d4]
       have H2:=Lib.hid h2
       clear h2 HKI
       obtain ⟨ob,hob⟩ : ∃ ob : Bool,ob = decide (0 < k ∧ ¬ ltV (vs.getD (k - 1) default) v):=⟨_,rfl⟩
       have HOB:=Lib.hid hob
       clear hob
       go_upto_region 12 with (fail)
       go_cut [36] from 37 to 48 (fun u wx => u = .bool ob ∧ Below w2.heap.size w2 wx)
       case first =>
        have hbz : Below w2.heap.size w2 w2.drew:=below_drewN' (Below.refl _ _) 1
        by_cases hk0 : k = 0
        ·have d3 : ¬ 0 < k:=by omega
         have HO2 : Hid (ob = false):=Lib.hid (by rw [HOB.out]; exact decide_eq_false (fun h => d3 h.1))
         clear hk0
         go_quiet (fail)
         go_wp2_with fail
         go_meet
         exact ⟨by rw [HO2.out],(by repeat (first | exact Below.refl _ _ | refine Below.alloc ?_ (by first | omega | (simp; omega) | simp) _ | refine below_drewN' ?_ _ | refine Below.drew ?_))⟩
        ·have d3 : 0 < k:=by omega
         obtain ⟨p,hp,c0,c1,c2,c3⟩:=HCE.out d3
         have wk : IntKind.i64.wrap ((k : Int) - 1) = ((k - 1 : Nat) : Int):=by rw [IntWalk.i64_in _ ⟨by omega,by omega⟩]; omega
         obtain ⟨pv,hpv⟩ : ∃ pv,pv = cmpV p v:=⟨_,rfl⟩
         have dp : decide (0 ≤ pv) = ob:=by
          rw [HOB.out,hp,hpv]
          have hc:=cmpV_lt p v
          by_cases hq : ltV p v
          ·have h9:=hc.2 hq
           exact (decide_eq_false (by omega)).trans (decide_eq_false (fun h => h.2 hq)).symm
          ·have h9 : ¬ cmpV p v < 0:=fun h => hq (hc.1 h)
           exact (decide_eq_true (by omega)).trans (decide_eq_true ⟨d3,hq⟩).symm
         have HSC : Hid (∀ W,Below w2.heap.size w2 W → (fun w' : World => w'.cell? ⟨kb,0,none⟩ = some (.string ⟨v.run.toArray⟩) ∧ w'.cell? ⟨kb,1,none⟩ = some (.string ⟨v.who.toArray⟩) ∧ w'.cell? ⟨kb,2,none⟩ = some (.int .i64 v.at_) ∧ w'.cell? ⟨kb,3,none⟩ = some (.int .i64 v.kind) ∧ w'.cell? ⟨b,off + (k - 1) * 4,none⟩ = some (.string ⟨p.run.toArray⟩) ∧ w'.cell? ⟨b,off + (k - 1) * 4 + 1,none⟩ = some (.string ⟨p.who.toArray⟩) ∧ w'.cell? ⟨b,off + (k - 1) * 4 + 2,none⟩ = some (.int .i64 p.at_) ∧ w'.cell? ⟨b,off + (k - 1) * 4 + 3,none⟩ = some (.int .i64 p.kind)) W):=Lib.hid (fun W hW => by
          have hq:=hb3.trans (hW.mono hkw)
          exact ⟨(hbl.below hW).cell 0,(hbl.below hW).cell 1,(hbl.below hW).cell 2,(hbl.below hW).cell 3,(hq.cell (p:=⟨b,_,none⟩) hbs).trans c0,(hq.cell (p:=⟨b,_,none⟩) hbs).trans c1,(hq.cell (p:=⟨b,_,none⟩) hbs).trans c2,(hq.cell (p:=⟨b,_,none⟩) hbs).trans c3⟩)
         have hsc:=HSC.out _ hbz
         try simp only at hsc
         unfold cmpV at hpv
         have HPV:=Lib.hid hpv
         clear c0 c1 c2 c3 hp hk0 hb3 hpv
         refine wp_region_held_drew (S:=(fun w' => w'.cell? ⟨kb,0,none⟩ = some (.string ⟨v.run.toArray⟩) ∧ w'.cell? ⟨kb,1,none⟩ = some (.string ⟨v.who.toArray⟩) ∧ w'.cell? ⟨kb,2,none⟩ = some (.int .i64 v.at_) ∧ w'.cell? ⟨kb,3,none⟩ = some (.int .i64 v.kind) ∧ w'.cell? ⟨b,off + (k - 1) * 4,none⟩ = some (.string ⟨p.run.toArray⟩) ∧ w'.cell? ⟨b,off + (k - 1) * 4 + 1,none⟩ = some (.string ⟨p.who.toArray⟩) ∧ w'.cell? ⟨b,off + (k - 1) * 4 + 2,none⟩ = some (.int .i64 p.at_) ∧ w'.cell? ⟨b,off + (k - 1) * 4 + 3,none⟩ = some (.int .i64 p.kind))) (by kernel_rfl) (hsc) (fun hHeld => ?_)
         (refine wpAnyH_take (i:=0) (v:=?_) (by (simp only [Q0,Q2]; rfl)) (by kernel_rfl) (by kernel_rfl) (by kernel_rfl) (by exact fun _ _ _ h => h) (Or.inl ⟨by rfl,?_⟩) (by assumption) ?_; (rotate_left 1; (intro w hSw; (try dsimp only at hSw); go_simp); (try with_reducible rfl)); (try simp only [Act.put,Q3,Q4,Q5]))
         (refine wpAnyH_take (i:=1) (v:=?_) (by (simp only [Q0,Q1,Q2]; rfl)) (by kernel_rfl) (by kernel_rfl) (by kernel_rfl) (by exact fun _ _ _ h => h) (Or.inl ⟨by rfl,?_⟩) (by assumption) ?_; (rotate_left 1; (intro w hSw; (try dsimp only at hSw); go_simp); (try with_reducible rfl)); (try simp only [Act.put,Q3,Q4,Q5]))
         (refine wpAnyH_take (i:=2) (v:=?_) (by (simp only [Q0,Q1,Q2]; rfl)) (by kernel_rfl) (by kernel_rfl) (by kernel_rfl) (by exact fun _ _ _ h => h) (Or.inl ⟨by rfl,?_⟩) (by assumption) ?_; (rotate_left 1; (intro w hSw; (try dsimp only at hSw); go_simp); (try with_reducible rfl)); (try simp only [Act.put,Q3,Q4,Q5]))
         (refine wpAnyH_take (i:=3) (v:=?_) (by (simp only [Q0,Q1,Q2]; rfl)) (by kernel_rfl) (by kernel_rfl) (by kernel_rfl) (by exact fun _ _ _ h => h) (Or.inl ⟨by rfl,?_⟩) (by assumption) ?_; (rotate_left 1; (intro w hSw; (try dsimp only at hSw); go_simp); (try with_reducible rfl)); (try simp only [Act.put,Q3,Q4,Q5]))
         (refine wpAnyH_take (i:=4) (v:=?_) (by (simp only [Q0,Q1,Q2]; rfl)) (by kernel_rfl) (by kernel_rfl) (by kernel_rfl) (by exact fun _ _ _ h => h) (Or.inl ⟨by rfl,?_⟩) (by assumption) ?_; (rotate_left 1; (intro w hSw; (try dsimp only at hSw); go_simp); (try with_reducible rfl)); (try simp only [Act.put,Q3,Q4,Q5]))
         (refine wpAnyH_take (i:=5) (v:=?_) (by (simp only [Q0,Q1,Q2]; rfl)) (by kernel_rfl) (by kernel_rfl) (by kernel_rfl) (by exact fun _ _ _ h => h) (Or.inl ⟨by rfl,?_⟩) (by assumption) ?_; (rotate_left 1; (intro w hSw; (try dsimp only at hSw); go_simp); (try with_reducible rfl)); (try simp only [Act.put,Q3,Q4,Q5]))
         (refine wpAnyH_take (i:=6) (v:=?_) (by (simp only [Q0,Q1,Q2]; rfl)) (by kernel_rfl) (by kernel_rfl) (by kernel_rfl) (by exact fun _ _ _ h => h) (Or.inl ⟨by rfl,?_⟩) (by assumption) ?_; (rotate_left 1; (intro w hSw; (try dsimp only at hSw); go_simp; (try rw [if_pos (by omega)])); (try with_reducible rfl)); (try simp only [Act.put,Q3,Q4,Q5]))
         (refine wpAnyH_take (i:=7) (v:=?_) (by (simp only [Q0,Q1,Q2]; rfl)) (by kernel_rfl) (by kernel_rfl) (by kernel_rfl) (by exact fun _ _ _ h => h) (Or.inl ⟨by rfl,?_⟩) (by assumption) ?_; (rotate_left 1; (intro w hSw; (try dsimp only at hSw); go_simp); (try with_reducible rfl)); (try simp only [Act.put,Q3,Q4,Q5]))
         (refine wpAnyH_take (i:=8) (v:=?_) (by (simp only [Q0,Q1,Q2]; rfl)) (by kernel_rfl) (by kernel_rfl) (by kernel_rfl) (by exact fun _ _ _ h => h) (Or.inl ⟨by rfl,?_⟩) (by assumption) ?_; (rotate_left 1; (intro w hSw; (try dsimp only at hSw); go_simp); (try with_reducible rfl)); (try simp only [Act.put,Q3,Q4,Q5]))
         refine wpAnyH_ready (rs:=[9]) (by kernel_rfl) (by simp) ?_
         refine AllReadyH.cons rfl (fun K hK => ?_) AllReadyH.nil
         go_simp
         go_at_call 41
         refine (rbyVote_any p.run p.who v.run v.who p.at_ p.kind v.at_ v.kind _).mono ?_
         rintro e wq ⟨rfl,hbq⟩
         rw [← HPV.out]
         replace hbz:=hbz.trans (hbq.mono hbz.size)
         have hsc:=HSC.out _ hbz
         try simp only at hsc
         clear hbq
         go_wp2_with fail
         refine hK.out _ _ (hsc) (fun hHeld => ?_)
         clear hK K
         (try simp only [Act.put,Q3,Q4,Q5])
         (refine wpAnyH_take (i:=10) (v:=?_) (by (simp only [Q0,Q1,Q2]; rfl)) (by kernel_rfl) (by kernel_rfl) (by kernel_rfl) (by exact fun _ _ _ h => h) (Or.inl ⟨by rfl,?_⟩) (by assumption) ?_; (rotate_left 1; (intro w hSw; (try dsimp only at hSw); go_simp); (try with_reducible rfl)); (try simp only [Act.put,Q3,Q4,Q5]))
         (refine wpAnyH_take (i:=11) (v:=?_) (by (simp only [Q0,Q1,Q2]; rfl)) (by kernel_rfl) (by kernel_rfl) (by kernel_rfl) (by exact fun _ _ _ h => h) (Or.inl ⟨by rfl,?_⟩) (by assumption) ?_; (rotate_left 1; (intro w hSw; (try dsimp only at hSw); go_simp); (try with_reducible rfl)); (try simp only [Act.put,Q3,Q4,Q5]))
         (refine wpAnyH_take (i:=12) (v:=?_) (by (simp only [Q0,Q1,Q2]; rfl)) (by kernel_rfl) (by kernel_rfl) (by kernel_rfl) (by exact fun _ _ _ h => h) (Or.inl ⟨by rfl,?_⟩) (by assumption) ?_; (rotate_left 1; (intro w hSw; (try dsimp only at hSw); go_simp); (try with_reducible rfl)); (try simp only [Act.put,Q3,Q4,Q5]))
         refine wpAnyH_done (by kernel_rfl) ?_ _
         go_wp2_with fail
         go_meet
         exact ⟨by first | rfl | rw [dp],hbz⟩
       case rest =>
       obtain ⟨rfl,hbr⟩:=hcut
       have hb4:=below_up hb2 hbr
       have HX:=HOR.out HKK.out H1.out H2.out HOB.out
       cases ob with
       | true =>
        have HV:=Lib.hid (votesE_hit HBIG.out HKN.out HZ.out HX (by decide))
        clear HX
        go_wp2_with fail
        go_ret
        exact ⟨ret_int' HV.out.symm,hb4⟩
       | false =>
        have HN:=Lib.hid (step_all HZ.out HX)
        clear HX
        go_wp2_with fail
        go_roundw
        case rel => exact ⟨k + 1,by omega,by go_num,HN,hb4⟩
        case measure => simp [intOf]; omega
  ·have hke : k = vs.length:=by omega
   subst hke
   have HV:=Lib.hid (votesE_none hbig HZ.out)
   go_wp2_with fail
   go_ret
   exact ⟨ret_int' HV.out.symm,hbw⟩
end Go.Proofs.YtgeaeockmadhcaaGreatDoor
/- The walks of CheckJudges and of its reference. -/
namespace Go.Proofs.YtgeaeockmadhcaaGreatDoor
set_option linter.unusedVariables false
set_option linter.unusedSimpArgs false
open Go.RowKit

theorem getDJ {js : List JudgeE} {k : Nat} (hk : k < js.length) : js.getD k default = js[k]:=by
 rw [List.getD_eq_getElem?_getD,List.getElem?_eq_getElem hk]; rfl
def JBad (j : JudgeE) : Prop:=j.frm < 0 ∨ j.to_ < j.frm ∨ 345686400000 < j.to_ ∨ j.wt < 1 ∨ 1000 < j.wt
theorem judgeAt_name {js : List JudgeE} {k : Nat} (hk : k < js.length) (h : keyB js[k].who = false) : judgeAt js k = 5:=by
 unfold judgeAt; rw [getDJ hk,if_pos (by rw [h]; rfl)]
theorem judgeAt_arg {js : List JudgeE} {k : Nat} (hk : k < js.length) (h : keyB js[k].who = true) (h1 : JBad js[k]) : judgeAt js k = 1:=by
 unfold JBad at h1
 unfold judgeAt; rw [getDJ hk,if_neg (by rw [h]; simp),if_pos h1]
theorem judgeAt_rest {js : List JudgeE} {k : Nat} (hk : k < js.length) (h : keyB js[k].who = true) (h1 : ¬ JBad js[k]) {ob oc : Bool} (h2 : ob = decide (0 < k ∧ ¬ ltJ (js.getD (k - 1) default) js[k])) (h3 : oc = decide (0 < k ∧ (js.getD (k - 1) default).who = js[k].who ∧ js[k].frm < (js.getD (k - 1) default).to_)) : judgeAt js k = if ob then 7 else if oc then 13 else 0:=by
 unfold JBad at h1
 unfold judgeAt; rw [getDJ hk,if_neg (by rw [h]; simp),if_neg h1,h2,h3]
 by_cases hh : 0 < k ∧ ¬ ltJ (js.getD (k - 1) default) js[k]
 ·rw [if_pos hh,decide_eq_true hh]; rfl
 ·rw [if_neg hh,decide_eq_false hh]
  by_cases hc : 0 < k ∧ (js.getD (k - 1) default).who = js[k].who ∧ js[k].frm < (js.getD (k - 1) default).to_
  ·rw [if_pos hc,decide_eq_true hc]; rfl
  ·rw [if_neg hc,decide_eq_false hc]; rfl
theorem judgesE_hit {js : List JudgeE} {q : QuoE} (hl : ¬ 500 < js.length) {k : Nat} (hk : k < js.length) (h0 : ∀ j,j < k → judgeAt js j = 0) {x : Int} (h : judgeAt js k = x) (hx : x ≠ 0) : judgesE js q = x:=by
 unfold judgesE
 have e : scanF (judgeAt js) js.length = x:=by rw [scanF_hit hk h0 (by rw [h]; exact hx),h]
 rw [if_neg hl,e,if_pos hx]
theorem judgesE_none {js : List JudgeE} {q : QuoE} (hl : ¬ 500 < js.length) (h0 : ∀ j,j < js.length → judgeAt js j = 0) : judgesE js q = quoE q:=by
 unfold judgesE
 rw [if_neg hl,scanF_none h0]; rfl
theorem quoE_least {q : QuoE} (h : q.least < 1 ∨ 1000000 < q.least) : quoE q = 1:=by unfold quoE; rw [if_pos h]
theorem quoE_den {q : QuoE} (h : ¬ (q.least < 1 ∨ 1000000 < q.least)) (h1 : q.den < 1 ∨ 1000 < q.den) : quoE q = 3:=by unfold quoE; rw [if_neg h,if_pos (.inl h1)]
theorem quoE_num {q : QuoE} (h : ¬ (q.least < 1 ∨ 1000000 < q.least)) (h1 : q.num < 0 ∨ q.den < q.num) : quoE q = 3:=by unfold quoE; rw [if_neg h,if_pos (.inr (.inl h1))]
theorem quoE_gcd {q : QuoE} (h : ¬ (q.least < 1 ∨ 1000000 < q.least)) (h1 : ¬ (q.den < 1 ∨ 1000 < q.den)) (h2 : ¬ (q.num < 0 ∨ q.den < q.num)) {g : Bool} (hg : g = (Nat.gcd q.num.toNat q.den.toNat == 1)) : quoE q = if g then 0 else 3:=by
 unfold quoE; rw [if_neg h,hg]
 by_cases hh : Nat.gcd q.num.toNat q.den.toNat = 1
 ·rw [if_neg (fun hx => hx.elim h1 (fun hx => hx.elim h2 (fun hx => hx hh))),hh]; rfl
 ·rw [if_pos (.inr (.inr hh)),if_neg (by simpa using hh)]
theorem out_no {n a b : Int} (h : n < a ∨ b < n) : (decide (n < a) || decide (b < n)) = true:=by simpa using h
theorem out_ok {n a b : Int} (h : ¬ (n < a ∨ b < n)) : (decide (n < a) || decide (b < n)) = false:=by simpa using h
theorem in_no {n a b : Int} (h : n < a ∨ b < n) : (decide (a ≤ n) && decide (n ≤ b)) = false:=by
 have hq : ¬ (a ≤ n ∧ n ≤ b):=by omega
 simpa using hq
theorem in_ok {n a b : Int} (h : ¬ (n < a ∨ b < n)) : (decide (a ≤ n) && decide (n ≤ b)) = true:=by
 have hq : a ≤ n ∧ n ≤ b:=by omega
 simpa using hq
set_option maxHeartbeats 1000000 in
theorem window_any (x y : Int) (w : World) : Calls Tryz.prog 50 #[.agg #[.int .i64 x,.int .i64 y]] w fun e w' => e = .returned (.bool (decide (0 ≤ x ∧ x ≤ y ∧ y ≤ 345686400000))) ∧ Below w.heap.size w w':=by
 have HB : Hid (Below w.heap.size w (w.alloc (.cells #[.int .i64 x,.int .i64 y] 75))):=Lib.hid ((Below.refl _ _).alloc (Nat.le_refl _) _)
 by_cases h : x < 0 ∨ y < x
 ·have HR : Hid (decide (0 ≤ x ∧ x ≤ y ∧ y ≤ 345686400000) = false):=Lib.hid (decide_eq_false (by omega))
  have HO:=Lib.hid (out_no h)
  clear h
  go_enter Tryz.func50,Tryz.ntmps50
  go_wp2_with fail
  refine (out_any x 0 y _).mono ?_
  rintro e w1 ⟨rfl,rfl⟩
  rw [HO.out]
  go_wp2_with fail
  go_ret
  exact ⟨ret_bool' HR.out.symm,HB.out⟩
 ·obtain ⟨r,hr⟩ : ∃ r,r = decide (y ≤ 345686400000):=⟨_,rfl⟩
  have HR : Hid (decide (0 ≤ x ∧ x ≤ y ∧ y ≤ 345686400000) = r):=Lib.hid (by
   rw [hr]
   by_cases hy : y ≤ 345686400000
   ·rw [decide_eq_true hy]; exact decide_eq_true (by omega)
   ·rw [decide_eq_false hy]; exact decide_eq_false (by omega))
  have HO:=Lib.hid (out_ok h)
  clear h
  go_enter Tryz.func50,Tryz.ntmps50
  go_wp2_with fail
  refine (out_any x 0 y _).mono ?_
  rintro e w1 ⟨rfl,rfl⟩
  rw [HO.out]
  go_wp2_with fail
  go_ret
  exact ⟨ret_bool' (by rw [HR.out,hr]),HB.out⟩
set_option maxHeartbeats 8000000 in
set_option maxRecDepth 100000 in
theorem checkJudges_any (lo c : Nat) (A : Option Addr) (js : List JudgeE) (q : QuoE) (w : World) (hA : Row w lo 4 A js.length (js.flatMap encJ)) (hl : js.length ≤ 1000000) (hs : ∀ j ∈ js,j.who.length ≤ 1000000) :
  Calls Tryz.prog 16 #[.slice A js.length c,.agg #[.int .i64 q.least,.int .i64 q.num,.int .i64 q.den]] w fun e w' => e = .returned (.int .i64 (judgesE js q)) ∧ Below w.heap.size w w':=by
 have hq0 : Below w.heap.size w (w.alloc (.cells #[.int .i64 q.least,.int .i64 q.num,.int .i64 q.den] 33)):=(Below.refl _ _).alloc (Nat.le_refl _) _
 have hqb : Blk (w.alloc (.cells #[.int .i64 q.least,.int .i64 q.num,.int .i64 q.den] 33)) w.heap.size 33 #[.int .i64 q.least,.int .i64 q.num,.int .i64 q.den]:=Blk.new _ _ _
 by_cases hbig : 500 < js.length
 ·have HV : Hid (judgesE js q = 2):=Lib.hid (by unfold judgesE; rw [if_pos hbig])
  go_enter Tryz.func16,Tryz.ntmps16
  go_wp2_with fail
  go_ret
  exact ⟨ret_int' HV.out.symm,hq0⟩
 have HA:=Lib.hid hA
 have HSS:=Lib.hid hs
 clear hA hs
 go_enter Tryz.func16,Tryz.ntmps16
 go_wp2_with fail
 generalize w.alloc (.cells #[.int .i64 q.least,.int .i64 q.num,.int .i64 q.den] 33) = w0 at *
 go_loopw [14] (fun i wr => ∃ k : Nat,k ≤ js.length ∧ i = .int .i64 k ∧ Hid (∀ j,j < k → judgeAt js j = 0) ∧ Blk wr w.heap.size 33 #[.int .i64 q.least,.int .i64 q.num,.int .i64 q.den] ∧ Below w.heap.size w wr) (fun i _ => js.length - (intOf i).toNat)
 case atStart => exact ⟨0,Nat.zero_le _,rfl,Lib.hid (fun j hj => by omega),hqb,hq0⟩
 case round =>
  clear hq0 hqb
  obtain ⟨k,hk,rfl,HZ,hqb,hbw⟩:=hrel
  have hsz:=hbw.size
  by_cases hkn : k < js.length
  ·obtain ⟨b,off,rfl,hbs,-,hcell⟩:=judges_at (HA.out.below hbw) (by omega)
   obtain ⟨y0,y1,y2,y3⟩:=hcell k hkn
   have HS:=Lib.hid (HSS.out _ (List.getElem_mem hkn))
   have HNM:=Lib.hid (judgeAt_name (js:=js) hkn)
   have HAR:=Lib.hid (judgeAt_arg (js:=js) hkn)
   have HRE:=Lib.hid (@judgeAt_rest js k hkn)
   have HKN:=Lib.hid hkn
   have HBIG:=Lib.hid hbig
   have HCE : Hid (0 < k → ∃ p,js.getD (k - 1) default = p ∧ wr.cell? ⟨b,off + (k - 1) * 4,none⟩ = some (.string ⟨p.who.toArray⟩) ∧ wr.cell? ⟨b,off + (k - 1) * 4 + 1,none⟩ = some (.int .i64 p.frm) ∧ wr.cell? ⟨b,off + (k - 1) * 4 + 2,none⟩ = some (.int .i64 p.to_) ∧ wr.cell? ⟨b,off + (k - 1) * 4 + 3,none⟩ = some (.int .i64 p.wt)):=Lib.hid (fun h0 => ⟨js[k - 1]'(by omega),getDJ (by omega),hcell (k - 1) (by omega)⟩)
   clear hcell hbig
   generalize js[k] = j at *
   go_upto_region 6 with (fail)
   have hb3 : Below wr.heap.size wr (wr.alloc (.cells #[.string ⟨j.who.toArray⟩,.int .i64 j.frm,.int .i64 j.to_,.int .i64 j.wt] 77)):=(Below.refl _ _).alloc (Nat.le_refl _) _
   have hb2 : Below w.heap.size w (wr.alloc (.cells #[.string ⟨j.who.toArray⟩,.int .i64 j.frm,.int .i64 j.to_,.int .i64 j.wt] 77)):=hbw.alloc hsz _
   have hbl:=Blk.new wr 77 #[.string ⟨j.who.toArray⟩,.int .i64 j.frm,.int .i64 j.to_,.int .i64 j.wt]
   replace hqb:=hqb.below hb3
   have hlt9 : b < (wr.alloc (.cells #[.string ⟨j.who.toArray⟩,.int .i64 j.frm,.int .i64 j.to_,.int .i64 j.wt] 77)).heap.size:=by simp; omega
   generalize wr.alloc (.cells #[.string ⟨j.who.toArray⟩,.int .i64 j.frm,.int .i64 j.to_,.int .i64 j.wt] 77) = wa at *
   have hkw : wr.heap.size ≤ wa.heap.size:=hb3.size
   have hbs' : b < wr.heap.size:=hbs
   generalize wr.heap.size = kb at *
   clear y0 y1 y2 y3 hbw hsz
   have hkbl:=hbl.lt
   obtain ⟨z0,z1,z2,z3⟩ : _ ∧ _ ∧ _ ∧ _:=⟨hbl.cell 0,hbl.cell 1,hbl.cell 2,hbl.cell 3⟩
   simp only [Q0,Q2,Q1] at z0 z1 z2 z3
   go_wp2_with fail
   refine (key_any ⟨j.who.toArray⟩ _).mono ?_
   rintro e w1 ⟨rfl,rfl⟩
   cases hk1 : keyB j.who with
   | false =>
    simp only [hk1]
    have HV:=Lib.hid (judgesE_hit (q:=q) HBIG.out HKN.out HZ.out (HNM.out hk1) (by decide))
    clear HRE
    go_wp2_with fail
    go_ret
    exact ⟨ret_int' HV.out.symm,hb2⟩
   | true =>
    simp only [hk1]
    have HK1:=Lib.hid hk1
    clear hk1 HNM
    go_wp2_with fail
    refine (window_any j.frm j.to_ _).mono ?_
    rintro e w2 ⟨rfl,hbW⟩
    clear hkbl z0 z1 z2 z3
    replace hb2:=below_up hb2 hbW
    replace hb3:=hb3.trans (hbW.mono hkw)
    replace hbl:=hbl.below hbW
    replace hqb:=hqb.below hbW
    replace hlt9:=Nat.lt_of_lt_of_le hlt9 hbW.size
    replace hkw:=Nat.le_trans hkw hbW.size
    clear hbW
    have hkbl:=hbl.lt
    obtain ⟨z0,z1,z2,z3⟩ : _ ∧ _ ∧ _ ∧ _:=⟨hbl.cell 0,hbl.cell 1,hbl.cell 2,hbl.cell 3⟩
    simp only [Q0,Q2,Q1] at z0 z1 z2 z3
    by_cases h1 : 0 ≤ j.frm ∧ j.frm ≤ j.to_ ∧ j.to_ ≤ 345686400000
    ·rw [decide_eq_true h1]
     go_wp2_with fail
     refine (out_any j.wt 1 1000 _).mono ?_
     rintro e w3 ⟨rfl,rfl⟩
     by_cases h2 : j.wt < 1 ∨ 1000 < j.wt
     ·rw [out_no h2]
      have HV:=Lib.hid (judgesE_hit (q:=q) HBIG.out HKN.out HZ.out (HAR.out HK1.out (.inr (.inr (.inr h2)))) (by decide))
      clear HRE
      go_wp2_with fail
      go_ret
      exact ⟨ret_int' HV.out.symm,hb2⟩
     ·rw [out_ok h2]
      have HNB : Hid (¬ JBad j):=Lib.hid (by unfold JBad; omega)
      clear h1 h2 HAR
      obtain ⟨ob,hob⟩ : ∃ ob : Bool,ob = decide (0 < k ∧ ¬ ltJ (js.getD (k - 1) default) j):=⟨_,rfl⟩
      obtain ⟨oc,hoc⟩ : ∃ oc : Bool,oc = decide (0 < k ∧ (js.getD (k - 1) default).who = j.who ∧ j.frm < (js.getD (k - 1) default).to_):=⟨_,rfl⟩
      have HOB:=Lib.hid hob
      have HOC:=Lib.hid hoc
      have HX:=Lib.hid (HRE.out HK1.out HNB.out hob hoc)
      clear hob hoc HRE
      by_cases hk0 : k = 0
      ·have e0 : ob = false:=HOB.out.trans (decide_eq_false (fun h => by omega))
       have e1 : oc = false:=HOC.out.trans (decide_eq_false (fun h => by omega))
       have HX0 : Hid (judgeAt js k = 0):=Lib.hid (by rw [HX.out,e0,e1]; rfl)
       have d0 : ((k : Int) == 0) = true:=by simp [hk0]
       clear hk0 e0 e1 HX HOB HOC
       have HN:=Lib.hid (step_all HZ.out HX0.out)
       go_wp2_with fail
       go_roundw
       case rel => exact ⟨k + 1,by omega,by go_num,HN,hqb,hb2⟩
       case measure => simp [intOf]; omega
      ·have d3 : 0 < k:=by omega
       have d0 : ((k : Int) == 0) = false:=by rw [beq_eq_false_iff_ne]; omega
       obtain ⟨p,hp,c0,c1,c2,c3⟩:=HCE.out d3
       have wk : IntKind.i64.wrap ((k : Int) - 1) = ((k - 1 : Nat) : Int):=by rw [IntWalk.i64_in _ ⟨by omega,by omega⟩]; omega
       replace c0:=(hb3.cell (p:=⟨b,_,none⟩) hbs').trans c0
       replace c1:=(hb3.cell (p:=⟨b,_,none⟩) hbs').trans c1
       replace c2:=(hb3.cell (p:=⟨b,_,none⟩) hbs').trans c2
       replace c3:=(hb3.cell (p:=⟨b,_,none⟩) hbs').trans c3
       obtain ⟨i,hi⟩ : ∃ i,i = k - 1:=⟨_,rfl⟩
       have hil : i < js.length:=by omega
       rw [← hi] at hp c0 c1 c2 c3 wk
       have HI:=Lib.hid hi
       clear hi hk0
       go_upto_region 12 with (fail)
       have hpb : Blk (w2.alloc (.cells #[.string ⟨p.who.toArray⟩,.int .i64 p.frm,.int .i64 p.to_,.int .i64 p.wt] 77)) w2.heap.size 77 #[.string ⟨p.who.toArray⟩,.int .i64 p.frm,.int .i64 p.to_,.int .i64 p.wt]:=Blk.new _ _ _
       have hbP : Below w2.heap.size w2 (w2.alloc (.cells #[.string ⟨p.who.toArray⟩,.int .i64 p.frm,.int .i64 p.to_,.int .i64 p.wt] 77)):=(Below.refl _ _).alloc (Nat.le_refl _) _
       generalize w2.alloc (.cells #[.string ⟨p.who.toArray⟩,.int .i64 p.frm,.int .i64 p.to_,.int .i64 p.wt] 77) = wb0 at *
       clear hkbl z0 z1 z2 z3
       replace hb2:=below_up hb2 hbP
       replace hb3:=hb3.trans (hbP.mono hkw)
       replace hbl:=hbl.below hbP
       replace hqb:=hqb.below hbP
       replace hlt9:=Nat.lt_of_lt_of_le hlt9 hbP.size
       replace hkw:=Nat.le_trans hkw hbP.size
       clear hbP
       generalize w2.heap.size = pb at *
       obtain ⟨pv,hpv⟩ : ∃ pv,pv = cmpJ j p:=⟨_,rfl⟩
       have dp : decide (pv ≤ 0) = ob:=by
        rw [HOB.out,← HI.out,hp,hpv]
        have hc:=cmpJ_pos j p
        by_cases hq : ltJ p j
        ·have h9:=hc.2 hq
         exact (decide_eq_false (by omega)).trans (decide_eq_false (fun h => h.2 hq)).symm
        ·have h9 : ¬ 0 < cmpJ j p:=fun h => hq (hc.1 h)
         exact (decide_eq_true (by omega)).trans (decide_eq_true ⟨d3,hq⟩).symm
       have HSC : Hid (∀ W,Below wb0.heap.size wb0 W → (fun w' : World => w'.cell? ⟨kb,0,none⟩ = some (.string ⟨j.who.toArray⟩) ∧ w'.cell? ⟨kb,1,none⟩ = some (.int .i64 j.frm) ∧ w'.cell? ⟨pb,0,none⟩ = some (.string ⟨p.who.toArray⟩) ∧ w'.cell? ⟨pb,1,none⟩ = some (.int .i64 p.frm)) W):=Lib.hid (fun W hW => ⟨(hbl.below hW).cell 0,(hbl.below hW).cell 1,(hpb.below hW).cell 0,(hpb.below hW).cell 1⟩)
       unfold cmpJ at hpv
       have HPV:=Lib.hid hpv
       have HOC2 : Hid (oc = decide (p.who = j.who ∧ j.frm < p.to_)):=Lib.hid (by
        rw [HOC.out,← HI.out,hp]
        by_cases hh : p.who = j.who ∧ j.frm < p.to_
        ·rw [decide_eq_true hh]; exact decide_eq_true ⟨d3,hh⟩
        ·rw [decide_eq_false hh]; exact decide_eq_false (fun h => hh h.2))
       clear c0 c1 c2 c3 hp hpv wk d0 HOC HOB
       go_cut [55] from 41 to 54 (fun u wx => u = .bool ob ∧ Below wb0.heap.size wb0 wx)
       case first =>
        have hbz : Below wb0.heap.size wb0 wb0.drew:=below_drewN' (Below.refl _ _) 1
        have hsc:=HSC.out _ hbz
        try simp only at hsc
        refine wp_region_held_drew (S:=(fun w' => w'.cell? ⟨kb,0,none⟩ = some (.string ⟨j.who.toArray⟩) ∧ w'.cell? ⟨kb,1,none⟩ = some (.int .i64 j.frm) ∧ w'.cell? ⟨pb,0,none⟩ = some (.string ⟨p.who.toArray⟩) ∧ w'.cell? ⟨pb,1,none⟩ = some (.int .i64 p.frm))) (by kernel_rfl) (hsc) (fun hHeld => ?_)
        (refine wpAnyH_take (i:=0) (v:=?_) (by (simp only [Q0,Q2]; rfl)) (by kernel_rfl) (by kernel_rfl) (by kernel_rfl) (by exact fun _ _ _ h => h) (Or.inl ⟨by rfl,?_⟩) (by assumption) ?_; (rotate_left 1; (intro w hSw; (try dsimp only at hSw); go_simp); (try with_reducible rfl)); (try simp only [Act.put,Q3,Q4,Q5]))
        (refine wpAnyH_take (i:=1) (v:=?_) (by (simp only [Q0,Q1,Q2]; rfl)) (by kernel_rfl) (by kernel_rfl) (by kernel_rfl) (by exact fun _ _ _ h => h) (Or.inl ⟨by rfl,?_⟩) (by assumption) ?_; (rotate_left 1; (intro w hSw; (try dsimp only at hSw); go_simp); (try with_reducible rfl)); (try simp only [Act.put,Q3,Q4,Q5]))
        (refine wpAnyH_take (i:=2) (v:=?_) (by (simp only [Q0,Q1,Q2]; rfl)) (by kernel_rfl) (by kernel_rfl) (by kernel_rfl) (by exact fun _ _ _ h => h) (Or.inl ⟨by rfl,?_⟩) (by assumption) ?_; (rotate_left 1; (intro w hSw; (try dsimp only at hSw); go_simp); (try with_reducible rfl)); (try simp only [Act.put,Q3,Q4,Q5]))
        (refine wpAnyH_take (i:=3) (v:=?_) (by (simp only [Q0,Q1,Q2]; rfl)) (by kernel_rfl) (by kernel_rfl) (by kernel_rfl) (by exact fun _ _ _ h => h) (Or.inl ⟨by rfl,?_⟩) (by assumption) ?_; (rotate_left 1; (intro w hSw; (try dsimp only at hSw); go_simp); (try with_reducible rfl)); (try simp only [Act.put,Q3,Q4,Q5]))
        (refine wpAnyH_take (i:=5) (v:=?_) (by (simp only [Q0,Q1,Q2]; rfl)) (by kernel_rfl) (by kernel_rfl) (by kernel_rfl) (by exact fun _ _ _ h => h) (Or.inl ⟨by rfl,?_⟩) (by assumption) ?_; (rotate_left 1; (intro w hSw; (try dsimp only at hSw); go_simp); (try with_reducible rfl)); (try simp only [Act.put,Q3,Q4,Q5]))
        (refine wpAnyH_take (i:=6) (v:=?_) (by (simp only [Q0,Q1,Q2]; rfl)) (by kernel_rfl) (by kernel_rfl) (by kernel_rfl) (by exact fun _ _ _ h => h) (Or.inl ⟨by rfl,?_⟩) (by assumption) ?_; (rotate_left 1; (intro w hSw; (try dsimp only at hSw); go_simp); (try with_reducible rfl)); (try simp only [Act.put,Q3,Q4,Q5]))
        (refine wpAnyH_take (i:=7) (v:=?_) (by (simp only [Q0,Q1,Q2]; rfl)) (by kernel_rfl) (by kernel_rfl) (by kernel_rfl) (by exact fun _ _ _ h => h) (Or.inl ⟨by rfl,?_⟩) (by assumption) ?_; (rotate_left 1; (intro w hSw; (try dsimp only at hSw); go_simp); (try with_reducible rfl)); (try simp only [Act.put,Q3,Q4,Q5]))
        (refine wpAnyH_take (i:=8) (v:=?_) (by (simp only [Q0,Q1,Q2]; rfl)) (by kernel_rfl) (by kernel_rfl) (by kernel_rfl) (by exact fun _ _ _ h => h) (Or.inl ⟨by rfl,?_⟩) (by assumption) ?_; (rotate_left 1; (intro w hSw; (try dsimp only at hSw); go_simp); (try with_reducible rfl)); (try simp only [Act.put,Q3,Q4,Q5]))
        (refine wpAnyH_take (i:=9) (v:=?_) (by (simp only [Q0,Q1,Q2]; rfl)) (by kernel_rfl) (by kernel_rfl) (by kernel_rfl) (by exact fun _ _ _ h => h) (Or.inl ⟨by rfl,?_⟩) (by assumption) ?_; (rotate_left 1; (intro w hSw; (try dsimp only at hSw); go_simp); (try with_reducible rfl)); (try simp only [Act.put,Q3,Q4,Q5]))
        (refine wpAnyH_take (i:=10) (v:=?_) (by (simp only [Q0,Q1,Q2]; rfl)) (by kernel_rfl) (by kernel_rfl) (by kernel_rfl) (by exact fun _ _ _ h => h) (Or.inl ⟨by rfl,?_⟩) (by assumption) ?_; (rotate_left 1; (intro w hSw; (try dsimp only at hSw); go_simp); (try with_reducible rfl)); (try simp only [Act.put,Q3,Q4,Q5]))
        refine wpAnyH_ready (rs:=[4]) (by kernel_rfl) (by simp) ?_
        refine AllReadyH.cons rfl (fun K hK => ?_) AllReadyH.nil
        go_simp
        go_at_call 43
        refine (Tryz.strings_Compare ⟨j.who.toArray⟩ ⟨p.who.toArray⟩ _).mono ?_
        rintro e wq ⟨rfl,rfl⟩
        go_wp2_with fail
        refine hK.out _ _ (hsc) (fun hHeld => ?_)
        clear hK K
        (try simp only [Act.put,Q3,Q4,Q5])
        refine wpAnyH_ready (rs:=[11]) (by kernel_rfl) (by simp) ?_
        refine AllReadyH.cons rfl (fun K hK => ?_) AllReadyH.nil
        go_simp
        go_at_call 44
        refine (cmpInt_any j.frm p.frm _).mono ?_
        rintro e wq ⟨rfl,rfl⟩
        go_wp2_with fail
        refine hK.out _ _ (hsc) (fun hHeld => ?_)
        clear hK K
        (try simp only [Act.put,Q3,Q4,Q5])
        refine wpAnyH_ready (rs:=[12]) (by kernel_rfl) (by simp) ?_
        refine AllReadyH.cons rfl (fun K hK => ?_) AllReadyH.nil
        go_simp
        replace hbz:=hbz.alloc hbz.size (.cells #[.int .i64 (Lib.compareBytes j.who p.who),.int .i64 (cmpI j.frm p.frm)] 3)
        have hro:=row_new wb0.drew #[.int .i64 (Lib.compareBytes j.who p.who),.int .i64 (cmpI j.frm p.frm)] 3 0 1 2 (Nat.zero_le _) rfl
        have hsc:=(HSC.out _ hbz)
        try simp only at hsc
        refine hK.out _ _ (hsc) (fun hHeld => ?_)
        clear hK K
        (try simp only [Act.put,Q3,Q4,Q5])
        refine wpAnyH_ready (rs:=[13]) (by kernel_rfl) (by simp) ?_
        refine AllReadyH.cons rfl (fun K hK => ?_) AllReadyH.nil
        go_simp
        go_at_call 42
        refine (orI_any _ 2 0 [Lib.compareBytes j.who p.who,cmpI j.frm p.frm] _ hro (by simp)).mono ?_
        rintro e wq ⟨rfl,rfl⟩
        rw [← HPV.out]
        go_wp2_with fail
        refine hK.out _ _ (hsc) (fun hHeld => ?_)
        clear hK K
        (try simp only [Act.put,Q3,Q4,Q5])
        (refine wpAnyH_take (i:=14) (v:=?_) (by (simp only [Q0,Q1,Q2]; rfl)) (by kernel_rfl) (by kernel_rfl) (by kernel_rfl) (by exact fun _ _ _ h => h) (Or.inl ⟨by rfl,?_⟩) (by assumption) ?_; (rotate_left 1; (intro w hSw; (try dsimp only at hSw); go_simp); (try with_reducible rfl)); (try simp only [Act.put,Q3,Q4,Q5]))
        refine wpAnyH_done (by kernel_rfl) ?_ _
        go_wp2_with fail
        go_meet
        exact ⟨by first | rfl | rw [dp],hbz⟩
       case rest =>
       obtain ⟨rfl,hbr⟩:=hcut
       replace hb2:=below_up hb2 hbr
       replace hb3:=hb3.trans (hbr.mono hkw)
       replace hbl:=hbl.below hbr
       replace hqb:=hqb.below hbr
       replace hpb:=hpb.below hbr
       replace hlt9:=Nat.lt_of_lt_of_le hlt9 hbr.size
       replace hkw:=Nat.le_trans hkw hbr.size
       clear hbr
       cases ob with
       | true =>
        have HV:=Lib.hid (judgesE_hit (q:=q) HBIG.out HKN.out HZ.out (HX.out) (by simp))
        clear HX
        go_wp2_with fail
        go_ret
        exact ⟨ret_int' HV.out.symm,hb2⟩
       | false =>
        have dz:=hpb.lt
        have hpl:=hpb.lt
        obtain ⟨p0,p1,p2,p3⟩ : _ ∧ _ ∧ _ ∧ _:=⟨hpb.cell 0,hpb.cell 1,hpb.cell 2,hpb.cell 3⟩
        simp only [Q0,Q2,Q1] at p0 p1 p2 p3
        have hkbl:=hbl.lt
        obtain ⟨z0,z1,z2,z3⟩ : _ ∧ _ ∧ _ ∧ _:=⟨hbl.cell 0,hbl.cell 1,hbl.cell 2,hbl.cell 3⟩
        simp only [Q0,Q2,Q1] at z0 z1 z2 z3
        by_cases hw : j.who = p.who
        ·have dw : (j.who == p.who) = true:=by simpa using hw
         by_cases ht : j.frm < p.to_
         ·have dt : decide (j.frm < p.to_) = true:=decide_eq_true ht
          have HX3 : Hid (judgeAt js k = 13):=Lib.hid (by rw [HX.out,HOC2.out,decide_eq_true ⟨hw.symm,ht⟩]; rfl)
          clear HX HOC2 hw ht
          have HV:=Lib.hid (judgesE_hit (q:=q) HBIG.out HKN.out HZ.out HX3.out (by simp))
          clear HX3
          go_wp2_with fail
          go_ret
          exact ⟨ret_int' HV.out.symm,hb2⟩
         ·have dt : decide (j.frm < p.to_) = false:=decide_eq_false ht
          have HX0 : Hid (judgeAt js k = 0):=Lib.hid (by rw [HX.out,HOC2.out,decide_eq_false (fun h => ht h.2)]; rfl)
          clear HX HOC2 hw ht
          have HN:=Lib.hid (step_all HZ.out HX0.out)
          go_wp2_with fail
          go_roundw
          case rel => exact ⟨k + 1,by omega,by go_num,HN,hqb,hb2⟩
          case measure => simp [intOf]; omega
        ·have dw : (j.who == p.who) = false:=by simpa using hw
         have HX0 : Hid (judgeAt js k = 0):=Lib.hid (by rw [HX.out,HOC2.out,decide_eq_false (fun h => hw h.1.symm)]; rfl)
         clear HX HOC2 hw
         have HN:=Lib.hid (step_all HZ.out HX0.out)
         go_wp2_with fail
         go_roundw
         case rel => exact ⟨k + 1,by omega,by go_num,HN,hqb,hb2⟩
         case measure => simp [intOf]; omega
    ·rw [decide_eq_false h1]
     have HV:=Lib.hid (judgesE_hit (q:=q) HBIG.out HKN.out HZ.out (HAR.out HK1.out (by unfold JBad; omega)) (by decide))
     clear HRE
     go_wp2_with fail
     go_ret
     exact ⟨ret_int' HV.out.symm,hb2⟩
  ·have hke : k = js.length:=by omega
   subst hke
   have HQ : Hid (judgesE js q = quoE q):=Lib.hid (judgesE_none hbig HZ.out)
   clear HZ hbig
   obtain ⟨q0,q1,q2⟩ : _ ∧ _ ∧ _:=⟨hqb.cell 0,hqb.cell 1,hqb.cell 2⟩
   simp only [Q0,Q2,Q1] at q0 q1 q2
   have zq:=hqb.lt
   go_upto_region 18 with (fail)
   have hpb : Blk (wr.alloc (.cells #[.int .i64 q.num,.int .i64 q.den] 31)) wr.heap.size 31 #[.int .i64 q.num,.int .i64 q.den]:=Blk.new _ _ _
   replace hqb:=hqb.alloc (.cells #[.int .i64 q.num,.int .i64 q.den] 31)
   replace hbw:=hbw.alloc hsz (.cells #[.int .i64 q.num,.int .i64 q.den] 31)
   clear q0 q1 q2 zq
   generalize wr.alloc (.cells #[.int .i64 q.num,.int .i64 q.den] 31) = wp at *
   generalize wr.heap.size = pb at *
   obtain ⟨q0,q1,q2⟩ : _ ∧ _ ∧ _:=⟨hqb.cell 0,hqb.cell 1,hqb.cell 2⟩
   obtain ⟨p0,p1⟩ : _ ∧ _:=⟨hpb.cell 0,hpb.cell 1⟩
   simp only [Q0,Q2,Q1] at q0 q1 q2 p0 p1
   have zq:=hqb.lt
   have zp:=hpb.lt
   go_wp2_with fail
   refine (out_any q.least 1 1000000 _).mono ?_
   rintro e w5 ⟨rfl,rfl⟩
   by_cases h1 : q.least < 1 ∨ 1000000 < q.least
   ·rw [out_no h1]
    have HV:=Lib.hid (quoE_least h1)
    clear h1
    go_wp2_with fail
    go_ret
    exact ⟨ret_int' (by rw [HQ.out,HV.out]),hbw⟩
   rw [out_ok h1]
   go_wp2_with fail
   refine (out_any q.den 1 1000 _).mono ?_
   rintro e w6 ⟨rfl,rfl⟩
   by_cases h2 : q.den < 1 ∨ 1000 < q.den
   ·rw [out_no h2]
    have HV:=Lib.hid (quoE_den h1 h2)
    clear h1 h2
    go_wp2_with fail
    go_ret
    exact ⟨ret_int' (by rw [HQ.out,HV.out]),hbw⟩
   rw [out_ok h2]
   go_wp2_with fail
   refine (out_any q.num 0 q.den _).mono ?_
   rintro e w7 ⟨rfl,rfl⟩
   by_cases h3 : q.num < 0 ∨ q.den < q.num
   ·rw [out_no h3]
    have HV:=Lib.hid (quoE_num h1 h3)
    clear h1 h2 h3
    go_wp2_with fail
    go_ret
    exact ⟨ret_int' (by rw [HQ.out,HV.out]),hbw⟩
   rw [out_ok h3]
   obtain ⟨g,hg⟩ : ∃ g : Bool,g = (Nat.gcd q.num.toNat q.den.toNat == 1):=⟨_,rfl⟩
   have HV:=Lib.hid (quoE_gcd h1 h2 h3 hg)
   have HG:=Lib.hid hg
   have hx1 : q.num.toNat ≤ 9223372036854775807:=by omega
   have hy1 : q.den.toNat ≤ 9223372036854775807:=by omega
   have ex : ((q.num.toNat : Nat) : Int) = q.num:=by omega
   have ey : ((q.den.toNat : Nat) : Int) = q.den:=by omega
   have hlw:=lowest_any q.num.toNat q.den.toNat wp hx1 hy1
   rw [ex,ey] at hlw
   have HL:=Lib.hid hlw
   clear hlw hg h1 h2 h3 ex ey hx1 hy1
   go_wp2_with fail
   refine HL.out.mono ?_
   rintro e w8 ⟨rfl,hbL⟩
   rw [← HG.out]
   replace hbw:=below_up hbw hbL
   clear hbL HL
   cases g with
   | true =>
    go_wp2_with fail
    go_ret
    exact ⟨ret_int' (by rw [HQ.out,HV.out]; rfl),hbw⟩
   | false =>
    go_wp2_with fail
    go_ret
    exact ⟨ret_int' (by rw [HQ.out,HV.out]; rfl),hbw⟩
set_option maxHeartbeats 8000000 in
set_option maxRecDepth 100000 in
theorem rjudgesFault_any (lo c : Nat) (A : Option Addr) (js : List JudgeE) (q : QuoE) (w : World) (hA : Row w lo 4 A js.length (js.flatMap encJ)) (hl : js.length ≤ 1000000) (hs : ∀ j ∈ js,j.who.length ≤ 1000000) :
  Calls Tryz.prog 14 #[.slice A js.length c,.agg #[.int .i64 q.least,.int .i64 q.num,.int .i64 q.den]] w fun e w' => e = .returned (.int .i64 (judgesE js q)) ∧ Below w.heap.size w w':=by
 have hq0 : Below w.heap.size w (w.alloc (.cells #[.int .i64 q.least,.int .i64 q.num,.int .i64 q.den] 33)):=(Below.refl _ _).alloc (Nat.le_refl _) _
 have hqb : Blk (w.alloc (.cells #[.int .i64 q.least,.int .i64 q.num,.int .i64 q.den] 33)) w.heap.size 33 #[.int .i64 q.least,.int .i64 q.num,.int .i64 q.den]:=Blk.new _ _ _
 by_cases hbig : 500 < js.length
 ·have HV : Hid (judgesE js q = 2):=Lib.hid (by unfold judgesE; rw [if_pos hbig])
  go_enter Tryz.func14,Tryz.ntmps14
  go_wp2_with fail
  go_ret
  exact ⟨ret_int' HV.out.symm,hq0⟩
 have HA:=Lib.hid hA
 have HSS:=Lib.hid hs
 clear hA hs
 go_enter Tryz.func14,Tryz.ntmps14
 go_wp2_with fail
 generalize w.alloc (.cells #[.int .i64 q.least,.int .i64 q.num,.int .i64 q.den] 33) = w0 at *
 go_loopw [14] (fun i wr => ∃ k : Nat,k ≤ js.length ∧ i = .int .i64 k ∧ Hid (∀ j,j < k → judgeAt js j = 0) ∧ Blk wr w.heap.size 33 #[.int .i64 q.least,.int .i64 q.num,.int .i64 q.den] ∧ Below w.heap.size w wr) (fun i _ => js.length - (intOf i).toNat)
 case atStart => exact ⟨0,Nat.zero_le _,rfl,Lib.hid (fun j hj => by omega),hqb,hq0⟩
 case round =>
  clear hq0 hqb
  obtain ⟨k,hk,rfl,HZ,hqb,hbw⟩:=hrel
  have hsz:=hbw.size
  by_cases hkn : k < js.length
  ·obtain ⟨b,off,rfl,hbs,-,hcell⟩:=judges_at (HA.out.below hbw) (by omega)
   obtain ⟨y0,y1,y2,y3⟩:=hcell k hkn
   have HS:=Lib.hid (HSS.out _ (List.getElem_mem hkn))
   have HNM:=Lib.hid (judgeAt_name (js:=js) hkn)
   have HAR:=Lib.hid (judgeAt_arg (js:=js) hkn)
   have HRE:=Lib.hid (@judgeAt_rest js k hkn)
   have HKN:=Lib.hid hkn
   have HBIG:=Lib.hid hbig
   have HCE : Hid (0 < k → ∃ p,js.getD (k - 1) default = p ∧ wr.cell? ⟨b,off + (k - 1) * 4,none⟩ = some (.string ⟨p.who.toArray⟩) ∧ wr.cell? ⟨b,off + (k - 1) * 4 + 1,none⟩ = some (.int .i64 p.frm) ∧ wr.cell? ⟨b,off + (k - 1) * 4 + 2,none⟩ = some (.int .i64 p.to_) ∧ wr.cell? ⟨b,off + (k - 1) * 4 + 3,none⟩ = some (.int .i64 p.wt)):=Lib.hid (fun h0 => ⟨js[k - 1]'(by omega),getDJ (by omega),hcell (k - 1) (by omega)⟩)
   clear hcell hbig
   generalize js[k] = j at *
   go_upto_region 6 with (fail)
   have hb3 : Below wr.heap.size wr (wr.alloc (.cells #[.string ⟨j.who.toArray⟩,.int .i64 j.frm,.int .i64 j.to_,.int .i64 j.wt] 77)):=(Below.refl _ _).alloc (Nat.le_refl _) _
   have hb2 : Below w.heap.size w (wr.alloc (.cells #[.string ⟨j.who.toArray⟩,.int .i64 j.frm,.int .i64 j.to_,.int .i64 j.wt] 77)):=hbw.alloc hsz _
   have hbl:=Blk.new wr 77 #[.string ⟨j.who.toArray⟩,.int .i64 j.frm,.int .i64 j.to_,.int .i64 j.wt]
   replace hqb:=hqb.below hb3
   have hlt9 : b < (wr.alloc (.cells #[.string ⟨j.who.toArray⟩,.int .i64 j.frm,.int .i64 j.to_,.int .i64 j.wt] 77)).heap.size:=by simp; omega
   generalize wr.alloc (.cells #[.string ⟨j.who.toArray⟩,.int .i64 j.frm,.int .i64 j.to_,.int .i64 j.wt] 77) = wa at *
   have hkw : wr.heap.size ≤ wa.heap.size:=hb3.size
   have hbs' : b < wr.heap.size:=hbs
   generalize wr.heap.size = kb at *
   clear y0 y1 y2 y3 hbw hsz
   have z1:=hbl.cell 1
   have z2:=hbl.cell 2
   have hkbl:=hbl.lt
   simp only [Q0,Q2,Q1] at z1 z2
   go_upto_region 7 with (fail)
   have hwb : Blk (wa.alloc (.cells #[.int .i64 j.frm,.int .i64 j.to_] 75)) wa.heap.size 75 #[.int .i64 j.frm,.int .i64 j.to_]:=Blk.new _ _ _
   have hba : Below wa.heap.size wa (wa.alloc (.cells #[.int .i64 j.frm,.int .i64 j.to_] 75)):=(Below.refl _ _).alloc (Nat.le_refl _) _
   clear z1 z2 hkbl
   generalize wa.alloc (.cells #[.int .i64 j.frm,.int .i64 j.to_] 75) = wa2 at *
   replace hb2:=below_up hb2 hba
   replace hb3:=hb3.trans (hba.mono hkw)
   replace hbl:=hbl.below hba
   replace hqb:=hqb.below hba
   replace hlt9:=Nat.lt_of_lt_of_le hlt9 hba.size
   replace hkw:=Nat.le_trans hkw hba.size
   clear hba
   generalize wa.heap.size = wb at *
   have hkbl:=hbl.lt
   obtain ⟨z0,z1,z2,z3⟩ : _ ∧ _ ∧ _ ∧ _:=⟨hbl.cell 0,hbl.cell 1,hbl.cell 2,hbl.cell 3⟩
   simp only [Q0,Q2,Q1] at z0 z1 z2 z3
   have hwbl:=hwb.lt
   have v0:=hwb.cell 0
   have v1:=hwb.cell 1
   simp only [Q0,Q2,Q1] at v0 v1
   go_wp2_with fail
   refine (rkey_any j.who _ (by have:=HS.out; omega)).mono ?_
   rintro e w1 ⟨rfl,hbK⟩
   clear hkbl z0 z1 z2 z3 hwbl v0 v1
   replace hb2:=below_up hb2 hbK
   replace hb3:=hb3.trans (hbK.mono hkw)
   replace hbl:=hbl.below hbK
   replace hqb:=hqb.below hbK
   replace hwb:=hwb.below hbK
   replace hlt9:=Nat.lt_of_lt_of_le hlt9 hbK.size
   replace hkw:=Nat.le_trans hkw hbK.size
   clear hbK
   have hkbl:=hbl.lt
   obtain ⟨z0,z1,z2,z3⟩ : _ ∧ _ ∧ _ ∧ _:=⟨hbl.cell 0,hbl.cell 1,hbl.cell 2,hbl.cell 3⟩
   simp only [Q0,Q2,Q1] at z0 z1 z2 z3
   have hwbl:=hwb.lt
   have v0:=hwb.cell 0
   have v1:=hwb.cell 1
   simp only [Q0,Q2,Q1] at v0 v1
   cases hk1 : keyB j.who with
   | false =>
    simp only [hk1]
    have HV:=Lib.hid (judgesE_hit (q:=q) HBIG.out HKN.out HZ.out (HNM.out hk1) (by decide))
    clear HRE
    go_wp2_with fail
    go_ret
    exact ⟨ret_int' HV.out.symm,hb2⟩
   | true =>
    simp only [hk1]
    have HK1:=Lib.hid hk1
    clear hk1 HNM
    by_cases h1 : j.frm < 0
    ·have d1 : decide (j.frm < 0) = true:=decide_eq_true h1
     have HV:=Lib.hid (judgesE_hit (q:=q) HBIG.out HKN.out HZ.out (HAR.out HK1.out (by unfold JBad; omega)) (by decide))
     clear HRE
     go_wp2_with fail
     go_ret
     exact ⟨ret_int' HV.out.symm,hb2⟩
    by_cases h2 : j.to_ < j.frm
    ·have d1 : decide (j.frm < 0) = false:=decide_eq_false h1
     have d2 : decide (j.to_ < j.frm) = true:=decide_eq_true h2
     have HV:=Lib.hid (judgesE_hit (q:=q) HBIG.out HKN.out HZ.out (HAR.out HK1.out (by unfold JBad; omega)) (by decide))
     clear HRE
     go_wp2_with fail
     go_ret
     exact ⟨ret_int' HV.out.symm,hb2⟩
    by_cases h3 : 345686400000 < j.to_
    ·have d1 : decide (j.frm < 0) = false:=decide_eq_false h1
     have d2 : decide (j.to_ < j.frm) = false:=decide_eq_false h2
     have d3 : decide (345686400000 < j.to_) = true:=decide_eq_true h3
     have HV:=Lib.hid (judgesE_hit (q:=q) HBIG.out HKN.out HZ.out (HAR.out HK1.out (by unfold JBad; omega)) (by decide))
     clear HRE
     go_wp2_with fail
     go_ret
     exact ⟨ret_int' HV.out.symm,hb2⟩
    have d1 : decide (j.frm < 0) = false:=decide_eq_false h1
    have d2 : decide (j.to_ < j.frm) = false:=decide_eq_false h2
    have d3 : decide (345686400000 < j.to_) = false:=decide_eq_false h3
    go_wp2_with fail
    refine (in_any j.wt 1 1000 _).mono ?_
    rintro e w3 ⟨rfl,rfl⟩
    by_cases h4 : j.wt < 1 ∨ 1000 < j.wt
    ·rw [in_no h4]
     have HV:=Lib.hid (judgesE_hit (q:=q) HBIG.out HKN.out HZ.out (HAR.out HK1.out (by unfold JBad; omega)) (by decide))
     clear HRE
     go_wp2_with fail
     go_ret
     exact ⟨ret_int' HV.out.symm,hb2⟩
    rw [in_ok h4]
    have HNB : Hid (¬ JBad j):=Lib.hid (by unfold JBad; omega)
    clear h1 h2 h3 h4 HAR d1 d2 d3
    obtain ⟨ob,hob⟩ : ∃ ob : Bool,ob = decide (0 < k ∧ ¬ ltJ (js.getD (k - 1) default) j):=⟨_,rfl⟩
    obtain ⟨oc,hoc⟩ : ∃ oc : Bool,oc = decide (0 < k ∧ (js.getD (k - 1) default).who = j.who ∧ j.frm < (js.getD (k - 1) default).to_):=⟨_,rfl⟩
    have HOB:=Lib.hid hob
    have HOC:=Lib.hid hoc
    have HX:=Lib.hid (HRE.out HK1.out HNB.out hob hoc)
    clear hob hoc HRE
    go_upto_region 11 with (fail)
    go_cut [48] from 49 to 74 (fun u wx => u = .bool ob ∧ Below w1.heap.size w1 wx)
    case first =>
     have hbz : Below w1.heap.size w1 w1.drew:=below_drewN' (Below.refl _ _) 1
     by_cases hk0 : k = 0
     ·have d3 : ¬ 0 < k:=by omega
      have HO2 : Hid (ob = false):=Lib.hid (by rw [HOB.out]; exact decide_eq_false (fun h => d3 h.1))
      clear hk0
      go_quiet (fail)
      go_wp2_with fail
      go_meet
      exact ⟨by rw [HO2.out],(by repeat (first | exact Below.refl _ _ | refine Below.alloc ?_ (by first | omega | (simp; omega) | simp) _ | refine below_drewN' ?_ _ | refine Below.drew ?_))⟩
     ·have d3 : 0 < k:=by omega
      obtain ⟨p,hp,c0,c1,c2,c3⟩:=HCE.out d3
      have wk : IntKind.i64.wrap ((k : Int) - 1) = ((k - 1 : Nat) : Int):=by rw [IntWalk.i64_in _ ⟨by omega,by omega⟩]; omega
      obtain ⟨pv,hpv⟩ : ∃ pv,pv = cmpJ p j:=⟨_,rfl⟩
      have dp : decide (0 ≤ pv) = ob:=by
       rw [HOB.out,hp,hpv]
       have hc:=cmpJ_lt p j
       by_cases hq : ltJ p j
       ·have h9:=hc.2 hq
        exact (decide_eq_false (by omega)).trans (decide_eq_false (fun h => h.2 hq)).symm
       ·have h9 : ¬ cmpJ p j < 0:=fun h => hq (hc.1 h)
        exact (decide_eq_true (by omega)).trans (decide_eq_true ⟨d3,hq⟩).symm
      have HSC : Hid (∀ W,Below w1.heap.size w1 W → (fun w' : World => w'.cell? ⟨kb,0,none⟩ = some (.string ⟨j.who.toArray⟩) ∧ w'.cell? ⟨wb,0,none⟩ = some (.int .i64 j.frm) ∧ w'.cell? ⟨b,off + (k - 1) * 4,none⟩ = some (.string ⟨p.who.toArray⟩) ∧ w'.cell? ⟨b,off + (k - 1) * 4 + 1,none⟩ = some (.int .i64 p.frm)) W):=Lib.hid (fun W hW => by
       have hq:=hb3.trans (hW.mono hkw)
       exact ⟨(hbl.below hW).cell 0,(hwb.below hW).cell 0,(hq.cell (p:=⟨b,_,none⟩) hbs').trans c0,(hq.cell (p:=⟨b,_,none⟩) hbs').trans c1⟩)
      unfold cmpJ at hpv
      have HPV:=Lib.hid hpv
      have hsc:=HSC.out _ hbz
      try simp only at hsc
      clear c0 c1 c2 c3 hp hpv hk0 hb3
      generalize w1 = wb0 at *
      refine wp_region_held_drew (S:=(fun w' => w'.cell? ⟨kb,0,none⟩ = some (.string ⟨j.who.toArray⟩) ∧ w'.cell? ⟨wb,0,none⟩ = some (.int .i64 j.frm) ∧ w'.cell? ⟨b,off + (k - 1) * 4,none⟩ = some (.string ⟨p.who.toArray⟩) ∧ w'.cell? ⟨b,off + (k - 1) * 4 + 1,none⟩ = some (.int .i64 p.frm))) (by kernel_rfl) (hsc) (fun hHeld => ?_)
      (refine wpAnyH_take (i:=0) (v:=?_) (by (simp only [Q0,Q2]; rfl)) (by kernel_rfl) (by kernel_rfl) (by kernel_rfl) (by exact fun _ _ _ h => h) (Or.inl ⟨by rfl,?_⟩) (by assumption) ?_; (rotate_left 1; (intro w hSw; (try dsimp only at hSw); go_simp); (try with_reducible rfl)); (try simp only [Act.put,Q3,Q4,Q5]))
      (refine wpAnyH_take (i:=1) (v:=?_) (by (simp only [Q0,Q1,Q2]; rfl)) (by kernel_rfl) (by kernel_rfl) (by kernel_rfl) (by exact fun _ _ _ h => h) (Or.inl ⟨by rfl,?_⟩) (by assumption) ?_; (rotate_left 1; (intro w hSw; (try dsimp only at hSw); go_simp); (try with_reducible rfl)); (try simp only [Act.put,Q3,Q4,Q5]))
      (refine wpAnyH_take (i:=2) (v:=?_) (by (simp only [Q0,Q1,Q2]; rfl)) (by kernel_rfl) (by kernel_rfl) (by kernel_rfl) (by exact fun _ _ _ h => h) (Or.inl ⟨by rfl,?_⟩) (by assumption) ?_; (rotate_left 1; (intro w hSw; (try dsimp only at hSw); go_simp); (try with_reducible rfl)); (try simp only [Act.put,Q3,Q4,Q5]))
      (refine wpAnyH_take (i:=3) (v:=?_) (by (simp only [Q0,Q1,Q2]; rfl)) (by kernel_rfl) (by kernel_rfl) (by kernel_rfl) (by exact fun _ _ _ h => h) (Or.inl ⟨by rfl,?_⟩) (by assumption) ?_; (rotate_left 1; (intro w hSw; (try dsimp only at hSw); go_simp); (try with_reducible rfl)); (try simp only [Act.put,Q3,Q4,Q5]))
      (refine wpAnyH_take (i:=4) (v:=?_) (by (simp only [Q0,Q1,Q2]; rfl)) (by kernel_rfl) (by kernel_rfl) (by kernel_rfl) (by exact fun _ _ _ h => h) (Or.inl ⟨by rfl,?_⟩) (by assumption) ?_; (rotate_left 1; (intro w hSw; (try dsimp only at hSw); go_simp); (try with_reducible rfl)); (try simp only [Act.put,Q3,Q4,Q5]))
      (refine wpAnyH_take (i:=5) (v:=?_) (by (simp only [Q0,Q1,Q2]; rfl)) (by kernel_rfl) (by kernel_rfl) (by kernel_rfl) (by exact fun _ _ _ h => h) (Or.inl ⟨by rfl,?_⟩) (by assumption) ?_; (rotate_left 1; (intro w hSw; (try dsimp only at hSw); go_simp); (try with_reducible rfl)); (try simp only [Act.put,Q3,Q4,Q5]))
      (refine wpAnyH_take (i:=6) (v:=?_) (by (simp only [Q0,Q1,Q2]; rfl)) (by kernel_rfl) (by kernel_rfl) (by kernel_rfl) (by exact fun _ _ _ h => h) (Or.inl ⟨by rfl,?_⟩) (by assumption) ?_; (rotate_left 1; (intro w hSw; (try dsimp only at hSw); go_simp; (try rw [if_pos (by omega)])); (try with_reducible rfl)); (try simp only [Act.put,Q3,Q4,Q5]))
      (refine wpAnyH_take (i:=7) (v:=?_) (by (simp only [Q0,Q1,Q2]; rfl)) (by kernel_rfl) (by kernel_rfl) (by kernel_rfl) (by exact fun _ _ _ h => h) (Or.inl ⟨by rfl,?_⟩) (by assumption) ?_; (rotate_left 1; (intro w hSw; (try dsimp only at hSw); go_simp); (try with_reducible rfl)); (try simp only [Act.put,Q3,Q4,Q5]))
      (refine wpAnyH_take (i:=8) (v:=?_) (by (simp only [Q0,Q1,Q2]; rfl)) (by kernel_rfl) (by kernel_rfl) (by kernel_rfl) (by exact fun _ _ _ h => h) (Or.inl ⟨by rfl,?_⟩) (by assumption) ?_; (rotate_left 1; (intro w hSw; (try dsimp only at hSw); go_simp); (try with_reducible rfl)); (try simp only [Act.put,Q3,Q4,Q5]))
      (refine wpAnyH_take (i:=9) (v:=?_) (by (simp only [Q0,Q1,Q2]; rfl)) (by kernel_rfl) (by kernel_rfl) (by kernel_rfl) (by exact fun _ _ _ h => h) (Or.inl ⟨by rfl,?_⟩) (by assumption) ?_; (rotate_left 1; (intro w hSw; (try dsimp only at hSw); go_simp); (try with_reducible rfl)); (try simp only [Act.put,Q3,Q4,Q5]))
      (refine wpAnyH_take (i:=10) (v:=?_) (by (simp only [Q0,Q1,Q2]; rfl)) (by kernel_rfl) (by kernel_rfl) (by kernel_rfl) (by exact fun _ _ _ h => h) (Or.inl ⟨by rfl,?_⟩) (by assumption) ?_; (rotate_left 1; (intro w hSw; (try dsimp only at hSw); go_simp); (try with_reducible rfl)); (try simp only [Act.put,Q3,Q4,Q5]))
      (refine wpAnyH_take (i:=12) (v:=?_) (by (simp only [Q0,Q1,Q2]; rfl)) (by kernel_rfl) (by kernel_rfl) (by kernel_rfl) (by exact fun _ _ _ h => h) (Or.inl ⟨by rfl,?_⟩) (by assumption) ?_; (rotate_left 1; (intro w hSw; (try dsimp only at hSw); go_simp); (try with_reducible rfl)); (try simp only [Act.put,Q3,Q4,Q5]))
      (refine wpAnyH_take (i:=13) (v:=?_) (by (simp only [Q0,Q1,Q2]; rfl)) (by kernel_rfl) (by kernel_rfl) (by kernel_rfl) (by exact fun _ _ _ h => h) (Or.inl ⟨by rfl,?_⟩) (by assumption) ?_; (rotate_left 1; (intro w hSw; (try dsimp only at hSw); go_simp); (try with_reducible rfl)); (try simp only [Act.put,Q3,Q4,Q5]))
      (refine wpAnyH_take (i:=14) (v:=?_) (by (simp only [Q0,Q1,Q2]; rfl)) (by kernel_rfl) (by kernel_rfl) (by kernel_rfl) (by exact fun _ _ _ h => h) (Or.inl ⟨by rfl,?_⟩) (by assumption) ?_; (rotate_left 1; (intro w hSw; (try dsimp only at hSw); go_simp); (try with_reducible rfl)); (try simp only [Act.put,Q3,Q4,Q5]))
      (refine wpAnyH_take (i:=15) (v:=?_) (by (simp only [Q0,Q1,Q2]; rfl)) (by kernel_rfl) (by kernel_rfl) (by kernel_rfl) (by exact fun _ _ _ h => h) (Or.inl ⟨by rfl,?_⟩) (by assumption) ?_; (rotate_left 1; (intro w hSw; (try dsimp only at hSw); go_simp; (try rw [if_pos (by omega)])); (try with_reducible rfl)); (try simp only [Act.put,Q3,Q4,Q5]))
      (refine wpAnyH_take (i:=16) (v:=?_) (by (simp only [Q0,Q1,Q2]; rfl)) (by kernel_rfl) (by kernel_rfl) (by kernel_rfl) (by exact fun _ _ _ h => h) (Or.inl ⟨by rfl,?_⟩) (by assumption) ?_; (rotate_left 1; (intro w hSw; (try dsimp only at hSw); go_simp); (try with_reducible rfl)); (try simp only [Act.put,Q3,Q4,Q5]))
      (refine wpAnyH_take (i:=17) (v:=?_) (by (simp only [Q0,Q1,Q2]; rfl)) (by kernel_rfl) (by kernel_rfl) (by kernel_rfl) (by exact fun _ _ _ h => h) (Or.inl ⟨by rfl,?_⟩) (by assumption) ?_; (rotate_left 1; (intro w hSw; (try dsimp only at hSw); go_simp); (try with_reducible rfl)); (try simp only [Act.put,Q3,Q4,Q5]))
      (refine wpAnyH_take (i:=18) (v:=?_) (by (simp only [Q0,Q1,Q2]; rfl)) (by kernel_rfl) (by kernel_rfl) (by kernel_rfl) (by exact fun _ _ _ h => h) (Or.inl ⟨by rfl,?_⟩) (by assumption) ?_; (rotate_left 1; (intro w hSw; (try dsimp only at hSw); go_simp); (try with_reducible rfl)); (try simp only [Act.put,Q3,Q4,Q5]))
      (refine wpAnyH_take (i:=19) (v:=?_) (by (simp only [Q0,Q1,Q2]; rfl)) (by kernel_rfl) (by kernel_rfl) (by kernel_rfl) (by exact fun _ _ _ h => h) (Or.inl ⟨by rfl,?_⟩) (by assumption) ?_; (rotate_left 1; (intro w hSw; (try dsimp only at hSw); go_simp); (try with_reducible rfl)); (try simp only [Act.put,Q3,Q4,Q5]))
      (refine wpAnyH_take (i:=20) (v:=?_) (by (simp only [Q0,Q1,Q2]; rfl)) (by kernel_rfl) (by kernel_rfl) (by kernel_rfl) (by exact fun _ _ _ h => h) (Or.inl ⟨by rfl,?_⟩) (by assumption) ?_; (rotate_left 1; (intro w hSw; (try dsimp only at hSw); go_simp); (try with_reducible rfl)); (try simp only [Act.put,Q3,Q4,Q5]))
      refine wpAnyH_ready (rs:=[11]) (by kernel_rfl) (by simp) ?_
      refine AllReadyH.cons rfl (fun K hK => ?_) AllReadyH.nil
      go_simp
      go_at_call 43
      refine (Tryz.strings_Compare ⟨p.who.toArray⟩ ⟨j.who.toArray⟩ _).mono ?_
      rintro e wq ⟨rfl,rfl⟩
      go_wp2_with fail
      refine hK.out _ _ (hsc) (fun hHeld => ?_)
      clear hK K
      (try simp only [Act.put,Q3,Q4,Q5])
      refine wpAnyH_ready (rs:=[21]) (by kernel_rfl) (by simp) ?_
      refine AllReadyH.cons rfl (fun K hK => ?_) AllReadyH.nil
      go_simp
      go_at_call 44
      refine (cmpInt_any p.frm j.frm _).mono ?_
      rintro e wq ⟨rfl,rfl⟩
      go_wp2_with fail
      refine hK.out _ _ (hsc) (fun hHeld => ?_)
      clear hK K
      (try simp only [Act.put,Q3,Q4,Q5])
      refine wpAnyH_ready (rs:=[22]) (by kernel_rfl) (by simp) ?_
      refine AllReadyH.cons rfl (fun K hK => ?_) AllReadyH.nil
      go_simp
      replace hbz:=hbz.alloc hbz.size (.cells #[.int .i64 (Lib.compareBytes p.who j.who),.int .i64 (cmpI p.frm j.frm)] 3)
      have hro:=row_new wb0.drew #[.int .i64 (Lib.compareBytes p.who j.who),.int .i64 (cmpI p.frm j.frm)] 3 0 1 2 (Nat.zero_le _) rfl
      have hsc:=(HSC.out _ hbz)
      try simp only at hsc
      refine hK.out _ _ (hsc) (fun hHeld => ?_)
      clear hK K
      (try simp only [Act.put,Q3,Q4,Q5])
      refine wpAnyH_ready (rs:=[23]) (by kernel_rfl) (by simp) ?_
      refine AllReadyH.cons rfl (fun K hK => ?_) AllReadyH.nil
      go_simp
      go_at_call 42
      refine (orI_any _ 2 0 [Lib.compareBytes p.who j.who,cmpI p.frm j.frm] _ hro (by simp)).mono ?_
      rintro e wq ⟨rfl,rfl⟩
      rw [← HPV.out]
      go_wp2_with fail
      refine hK.out _ _ (hsc) (fun hHeld => ?_)
      clear hK K
      (try simp only [Act.put,Q3,Q4,Q5])
      (refine wpAnyH_take (i:=24) (v:=?_) (by (simp only [Q0,Q1,Q2]; rfl)) (by kernel_rfl) (by kernel_rfl) (by kernel_rfl) (by exact fun _ _ _ h => h) (Or.inl ⟨by rfl,?_⟩) (by assumption) ?_; (rotate_left 1; (intro w hSw; (try dsimp only at hSw); go_simp); (try with_reducible rfl)); (try simp only [Act.put,Q3,Q4,Q5]))
      (refine wpAnyH_take (i:=25) (v:=?_) (by (simp only [Q0,Q1,Q2]; rfl)) (by kernel_rfl) (by kernel_rfl) (by kernel_rfl) (by exact fun _ _ _ h => h) (Or.inl ⟨by rfl,?_⟩) (by assumption) ?_; (rotate_left 1; (intro w hSw; (try dsimp only at hSw); go_simp); (try with_reducible rfl)); (try simp only [Act.put,Q3,Q4,Q5]))
      (refine wpAnyH_take (i:=26) (v:=?_) (by (simp only [Q0,Q1,Q2]; rfl)) (by kernel_rfl) (by kernel_rfl) (by kernel_rfl) (by exact fun _ _ _ h => h) (Or.inl ⟨by rfl,?_⟩) (by assumption) ?_; (rotate_left 1; (intro w hSw; (try dsimp only at hSw); go_simp); (try with_reducible rfl)); (try simp only [Act.put,Q3,Q4,Q5]))
      refine wpAnyH_done (by kernel_rfl) ?_ _
      go_wp2_with fail
      go_meet
      exact ⟨by first | rfl | rw [dp],hbz⟩
    case rest =>
    obtain ⟨rfl,hbr⟩:=hcut
    clear hkbl z0 z1 z2 z3 hwbl v0 v1
    replace hb2:=below_up hb2 hbr
    replace hb3:=hb3.trans (hbr.mono hkw)
    replace hbl:=hbl.below hbr
    replace hqb:=hqb.below hbr
    replace hwb:=hwb.below hbr
    replace hlt9:=Nat.lt_of_lt_of_le hlt9 hbr.size
    replace hkw:=Nat.le_trans hkw hbr.size
    clear hbr
    cases ob with
    | true =>
     have HV:=Lib.hid (judgesE_hit (q:=q) HBIG.out HKN.out HZ.out (HX.out) (by simp))
     clear HX
     go_wp2_with fail
     go_ret
     exact ⟨ret_int' HV.out.symm,hb2⟩
    | false =>
     have hkbl:=hbl.lt
     obtain ⟨z0,z1,z2,z3⟩ : _ ∧ _ ∧ _ ∧ _:=⟨hbl.cell 0,hbl.cell 1,hbl.cell 2,hbl.cell 3⟩
     simp only [Q0,Q2,Q1] at z0 z1 z2 z3
     have hwbl:=hwb.lt
     have v0:=hwb.cell 0
     have v1:=hwb.cell 1
     simp only [Q0,Q2,Q1] at v0 v1
     go_upto_region 13 with (fail)
     go_cut [75] from 76 to 100 (fun u wx => u = .bool oc ∧ ∃ n,wx = wc.drewN n)
     case first =>
      by_cases hk0 : k = 0
      ·have d3 : ¬ 0 < k:=by omega
       have HO2 : Hid (oc = false):=Lib.hid (by rw [HOC.out]; exact decide_eq_false (fun h => d3 h.1))
       clear hk0
       go_quiet (fail)
       go_wp2_with fail
       go_meet
       exact ⟨by rw [HO2.out],_,rfl⟩
      ·have d3 : 0 < k:=by omega
       obtain ⟨p,hp,c0,c1,c2,c3⟩:=HCE.out d3
       have wk : IntKind.i64.wrap ((k : Int) - 1) = ((k - 1 : Nat) : Int):=by rw [IntWalk.i64_in _ ⟨by omega,by omega⟩]; omega
       replace c0:=(hb3.cell (p:=⟨b,_,none⟩) hbs').trans c0
       replace c2:=(hb3.cell (p:=⟨b,_,none⟩) hbs').trans c2
       have HOC2 : Hid (oc = decide (p.who = j.who ∧ j.frm < p.to_)):=Lib.hid (by
        rw [HOC.out,hp]
        by_cases hh : p.who = j.who ∧ j.frm < p.to_
        ·rw [decide_eq_true hh]; exact decide_eq_true ⟨d3,hh⟩
        ·rw [decide_eq_false hh]; exact decide_eq_false (fun h => hh h.2))
       clear c1 c3 hp hk0
       by_cases hw : p.who = j.who
       ·have dw : (p.who == j.who) = true:=by simpa using hw
        obtain ⟨dt,ht⟩ : ∃ dt,decide (j.frm < p.to_) = dt:=⟨_,rfl⟩
        have HO2 : Hid (oc = dt):=Lib.hid (by
         rw [HOC2.out,← ht]
         by_cases hh : j.frm < p.to_
         ·rw [decide_eq_true hh]; exact decide_eq_true ⟨hw,hh⟩
         ·rw [decide_eq_false hh]; exact decide_eq_false (fun h => hh h.2))
        clear hw HOC2
        cases dt with
        | true =>
         go_quiet (fail)
         go_wp2_with fail
         go_meet
         exact ⟨by rw [HO2.out],_,rfl⟩
        | false =>
         go_quiet (fail)
         go_wp2_with fail
         go_meet
         exact ⟨by rw [HO2.out],_,rfl⟩
       ·have dw : (p.who == j.who) = false:=by simpa using hw
        have HO2 : Hid (oc = false):=Lib.hid (by rw [HOC2.out]; exact decide_eq_false (fun h => hw h.1))
        clear hw HOC2
        go_quiet (fail)
        go_wp2_with fail
        go_meet
        exact ⟨by rw [HO2.out],_,rfl⟩
     case rest =>
     obtain ⟨rfl,n8,rfl⟩:=hcut
     have hbn:=below_drewN' (Below.refl wc.heap.size wc) n8
     replace hb2:=below_up hb2 hbn
     replace hqb:=hqb.below hbn
     cases oc with
     | true =>
      have HV:=Lib.hid (judgesE_hit (q:=q) HBIG.out HKN.out HZ.out (HX.out) (by simp))
      clear HX
      go_wp2_with fail
      go_ret
      exact ⟨ret_int' HV.out.symm,hb2⟩
     | false =>
      have HN:=Lib.hid (step_all HZ.out HX.out)
      go_wp2_with fail
      go_roundw
      case rel => exact ⟨k + 1,by omega,by go_num,HN,hqb,hb2⟩
      case measure => simp [intOf]; omega
  ·have hke : k = js.length:=by omega
   subst hke
   have HQ : Hid (judgesE js q = quoE q):=Lib.hid (judgesE_none hbig HZ.out)
   clear HZ hbig
   obtain ⟨q0,q1,q2⟩ : _ ∧ _ ∧ _:=⟨hqb.cell 0,hqb.cell 1,hqb.cell 2⟩
   simp only [Q0,Q2,Q1] at q0 q1 q2
   have zq:=hqb.lt
   go_upto_region 17 with (fail)
   have hpb : Blk (wr.alloc (.cells #[.int .i64 q.num,.int .i64 q.den] 31)) wr.heap.size 31 #[.int .i64 q.num,.int .i64 q.den]:=Blk.new _ _ _
   replace hqb:=hqb.alloc (.cells #[.int .i64 q.num,.int .i64 q.den] 31)
   replace hbw:=hbw.alloc hsz (.cells #[.int .i64 q.num,.int .i64 q.den] 31)
   clear q0 q1 q2 zq
   generalize wr.alloc (.cells #[.int .i64 q.num,.int .i64 q.den] 31) = wp at *
   generalize wr.heap.size = pb at *
   obtain ⟨q0,q1,q2⟩ : _ ∧ _ ∧ _:=⟨hqb.cell 0,hqb.cell 1,hqb.cell 2⟩
   obtain ⟨p0,p1⟩ : _ ∧ _:=⟨hpb.cell 0,hpb.cell 1⟩
   simp only [Q0,Q2,Q1] at q0 q1 q2 p0 p1
   have zq:=hqb.lt
   have zp:=hpb.lt
   go_wp2_with fail
   refine (in_any q.least 1 1000000 _).mono ?_
   rintro e w5 ⟨rfl,rfl⟩
   by_cases h1 : q.least < 1 ∨ 1000000 < q.least
   ·rw [in_no h1]
    have HV:=Lib.hid (quoE_least h1)
    clear h1
    go_wp2_with fail
    go_ret
    exact ⟨ret_int' (by rw [HQ.out,HV.out]),hbw⟩
   rw [in_ok h1]
   go_wp2_with fail
   refine (in_any q.den 1 1000 _).mono ?_
   rintro e w6 ⟨rfl,rfl⟩
   by_cases h2 : q.den < 1 ∨ 1000 < q.den
   ·rw [in_no h2]
    have HV:=Lib.hid (quoE_den h1 h2)
    clear h1 h2
    go_wp2_with fail
    go_ret
    exact ⟨ret_int' (by rw [HQ.out,HV.out]),hbw⟩
   rw [in_ok h2]
   go_wp2_with fail
   refine (in_any q.num 0 q.den _).mono ?_
   rintro e w7 ⟨rfl,rfl⟩
   by_cases h3 : q.num < 0 ∨ q.den < q.num
   ·rw [in_no h3]
    have HV:=Lib.hid (quoE_num h1 h3)
    clear h1 h2 h3
    go_wp2_with fail
    go_ret
    exact ⟨ret_int' (by rw [HQ.out,HV.out]),hbw⟩
   rw [in_ok h3]
   obtain ⟨g,hg⟩ : ∃ g : Bool,g = (Nat.gcd q.num.toNat q.den.toNat == 1):=⟨_,rfl⟩
   have HV:=Lib.hid (quoE_gcd h1 h2 h3 hg)
   have HG:=Lib.hid hg
   have hx1 : q.num.toNat ≤ 9223372036854775807:=by omega
   have hy1 : q.den.toNat ≤ 9223372036854775807:=by omega
   have ex : ((q.num.toNat : Nat) : Int) = q.num:=by omega
   have ey : ((q.den.toNat : Nat) : Int) = q.den:=by omega
   have hlw:=divisor_any q.num.toNat q.den.toNat wp hx1 hy1
   rw [ex,ey] at hlw
   have HL:=Lib.hid hlw
   clear hlw hg h1 h2 h3 ex ey hx1 hy1
   go_wp2_with fail
   refine HL.out.mono ?_
   rintro e w8 ⟨rfl,nn,rfl⟩
   replace hbw:=below_drewN' hbw nn
   have eg : (((Nat.gcd q.num.toNat q.den.toNat : Nat) : Int) != 1) = !g:=by
    rw [HG.out]
    by_cases hh : Nat.gcd q.num.toNat q.den.toNat = 1
    ·rw [hh]; rfl
    ·rw [(beq_eq_false_iff_ne).2 hh]; rw [bne_iff_ne.2 (fun e => hh (by omega))]; rfl
   clear HL
   cases g with
   | true =>
    go_wp2_with fail
    go_ret
    exact ⟨ret_int' (by rw [HQ.out,HV.out]; rfl),hbw⟩
   | false =>
    go_wp2_with fail
    go_ret
    exact ⟨ret_int' (by rw [HQ.out,HV.out]; rfl),hbw⟩
end Go.Proofs.YtgeaeockmadhcaaGreatDoor
