/- Texts of this seat, laid together: LawFastestIsFastest. -/
import Derived.Test.YtkchacgkjdeiaaaGreatDoorBf26
import Derived.Test.YtkchacgkjdeiaaaGreatDoorBf29
import Derived.Test.YtkchacgkjdeiaaaGreatDoorBf12
import Derived.Test.YtkchacgkjdeiaaaGreatDoorBf30
import Derived.Test.YtkchacgkjdeiaaaGreatDoorBf49
import Derived.Test.YtkchacgkjdeiaaaGreatDoorBf14
/- For every list of numbers the law FastestIsFastest returns true and leaves the list as it was: its walk. -/
namespace Go.Proofs.YtkchacgkjdeiaaaGreatDoor
set_option linter.unusedVariables false
set_option linter.unusedSimpArgs false
open Go.RowKit Go.Maps

theorem small_lv {rows : List (List UInt8)} {W : Nat} (hL : Lv rows W) (h : ∀ r ∈ rows,r.length ≤ 8) : W ≤ 8:=by
 have h0:=hL.pos;have h1:=hL.wide rows[0] (List.getElem_mem h0);have h2:=h rows[0] (List.getElem_mem h0);omega
theorem play_tells (rows : List (List UInt8)) (W : Nat) (sx sy : Int) (xs : List Int) : ∃ v : GS,playV rows W sx sy xs = .agg #[.int .i64 v.x,.int .i64 v.y,.int .i64 v.rise,.bool v.held,.int .i64 v.mask,.int .i64 v.fin] ∧ v.fin = (lastG (playF rows W (gs0 sx sy) xs) (gs0 sx sy)).fin:=by
 unfold playV gsV;generalize lastG (playF rows W (gs0 sx sy) xs) (gs0 sx sy) = t;exact ⟨bodyG t,rfl,by unfold bodyG; rfl⟩
set_option maxHeartbeats 8000000 in
set_option maxRecDepth 100000 in
theorem fastestGame_walk (A : Option Addr) (n c : Nat) (w : World) (hn : n ≤ 9223372036854775807)
  (hz : ∀ k,k < n → ∃ b off z,A = some ⟨b,off,none⟩ ∧ b < w.heap.size ∧ w.cell? ⟨b,off + k,none⟩ = some (.int .i64 z) ∧ I64 z) (hM : MaxL w) :
  LawCall 4 A n c w:=by
 have hstr:=str_make (c:=c) hn hz;clear hz;have hx : Below w.heap.size w (w.alloc (.cells #[.slice A n c,.int .i64 0] 25)):=(Below.refl _ _).alloc (Nat.le_refl _) _
 have hz0 : (w.alloc (.cells #[.slice A n c,.int .i64 0] 25)).heap.size = w.heap.size + 1:=by simp
 have hM0:=hM.below ((Below.refl _ _).alloc (Nat.le_refl _) (.cells #[.slice A n c,.int .i64 0] 25))
 have hmg : 0 < w.heap.size:=by
  obtain ⟨m,hm⟩:=hM;exact World.block_lt_of_cell? w ⟨0,0,none⟩ hm
 clear hM
 go_enter Tryz.func4,Tryz.ntmps4
 go_wp2_with fail;generalize w.alloc (.cells #[.slice A n c,.int .i64 0] 25) = w0 at *;refine (levelOf2_any w.heap.size 0 _ hstr (by omega) hM0 hmg).mono ?_;rintro e w1 ⟨B,cb,rows,rfl,hr1,hcb,hl1,hl0,hw1,⟨hco,hw8,hr5⟩,hs1,hg1⟩;replace hx:=hx.grown hg1 (by omega) (fun k hk => by injection hk with hk; omega);have HRW:=Lib.hid hw1;have HW8:=Lib.hid hw8;have HCO : Hid (cntG 111 rows ≤ 2):=Lib.hid hco
 have hgl : w.heap.size < w0.heap.size:=by omega
 clear hstr hM0 hw1 hw8 hco hg1;go_wp2_with fail;refine (rightPieces_any w.heap.size _ _ hs1 (by omega)).mono ?_;rintro e w2 ⟨X,cx,ps,rfl,hown2,hl2,hall2,hs2,hg2⟩;replace hx:=hx.grown hg2 (by have:=hx.size; omega) (fun k hk => by injection hk with hk; omega);have hr2:=row_down (hr1.grown hg2 hgl);have hx2:=row_down (Row.of_own hown2);have HIN:=Lib.hid (rp_right hl2 hall2);clear hs1 hg2 hown2 hr1 hall2 hs2;have HRL : Hid (rows.length ≤ 1000 ∧ ∀ r ∈ rows,r.length ≤ 1000):=Lib.hid ⟨by omega,fun r hr => by have:=HRW.out r hr; omega⟩;go_wp2_with fail;refine (levelFault_any B cb 0 rows _ hr2 hcb HRL.out.1 HRL.out.2).mono ?_;rintro e w5 ⟨rfl,hb5⟩;replace hr2:=hr2.below hb5;replace hx2:=hx2.below hb5;replace hx:=below_up hx hb5;clear hb5
 obtain ⟨lv,hlv⟩ : ∃ lv,lv = glvF rows:=⟨_,rfl⟩
 rw [← hlv];have HLV:=Lib.hid hlv;clear hlv
 by_cases h0 : lv = 0
 ·have hlz : glvF rows = 0:=by rw [← HLV.out]; exact h0
  have HL:=Lib.hid (Lv.of hlz);have HLZ:=Lib.hid hlz
  have d0 : (lv != 0) = false:=by rw [h0]; rfl
  clear h0 hlz;generalize (rows.getD 0 []).length = W at HL;have hW:=small_lv HL.out HW8.out;have hfa:=fastest_gm 0 B cb rows W w5 hr2 HLZ.out HL.out HCO.out hW hr5;go_wp2_with fail;clear d0;refine hfa.mono ?_;clear hfa;rintro e w6 ⟨sx,sy,hc,P,gl,hbf,hpl,hql,hres,hb⟩;have HC:=Lib.hid hc;have HBF:=Lib.hid hbf;have HQL:=Lib.hid hql;replace hr2:=hr2.below hb;replace hx2:=hx2.below hb;have hw6:=hb.size;replace hx:=below_up hx hb;clear hb hc hbf hql hpl
  have hpx:=fun (W' : World) (h : Below w6.heap.size w6 W') => play_ok 0 B cb rows W sx sy X cx ps W' (hr2.below h) HL.out HC.out (hx2.below h) HLZ.out HIN.out
  obtain ⟨v,hv,hvf⟩:=play_tells rows W sx sy (unf ps);rw [hv] at hpx
  obtain ⟨lx,hlx⟩ : ∃ lx,lx = (playF rows W (gs0 sx sy) (unf ps)).length:=⟨_,rfl⟩
  rw [← hlx] at hpx;have HPX:=Lib.hid hpx;have HLX : Hid (lx ≤ 200000):=Lib.hid (by rw [hlx]; exact Nat.le_trans playF_len (unf_20 HIN.out))
  have HBEST : Hid (v.fin = 1 → ∃ q,gl = some q ∧ q.length ≤ lx):=Lib.hid (fun h1 => by
   rw [hvf] at h1;obtain ⟨p,s,hr,hf,hl⟩:=play_run (s0:=gs0 sx sy) rfl h1;obtain ⟨q,hq,hle⟩:=HBF.out.best (fun h => tried_all h) hr hf rfl
   exact ⟨q,hq,by rw [hlx]; omega⟩)
  clear hv hvf hlx hpx;rcases hres with ⟨hgl0,rfl⟩ | ⟨q,FA,fc,hglq,rfl,hfo⟩
  ·have hv1 : (v.fin == 1) = false:=beq_eq_false_iff_ne.2 (fun h => by
    obtain ⟨q,hq,_⟩:=HBEST.out h
    rw [hgl0] at hq; cases hq)
   clear hgl0;go_wp2_with fail;refine (HPX.out w6 (Below.refl _ _)).mono ?_;rintro e w7 ⟨rfl,hb⟩;replace hx:=below_up hx hb;clear hb hr2 hx2;go_upto_region 9 with (fail);have hk:=Blk.new w7 55 #[.int .i64 v.x,.int .i64 v.y,.int .i64 v.rise,.bool v.held,.int .i64 v.mask,.int .i64 v.fin];replace hx:=hx.alloc hx.size (.cells #[.int .i64 v.x,.int .i64 v.y,.int .i64 v.rise,.bool v.held,.int .i64 v.mask,.int .i64 v.fin] 55);generalize w7.alloc (.cells #[.int .i64 v.x,.int .i64 v.y,.int .i64 v.rise,.bool v.held,.int .i64 v.mask,.int .i64 v.fin] 55) = w8 at *;generalize w7.heap.size = k1 at *;have x5:=hk.cell 5;simp only [Q0,Q2,Q1] at x5;have zk:=hk.lt;go_wp2_with fail;refine (ready_any _).mono ?_;rintro e w9 ⟨rfl,hb⟩;replace hx:=below_up hx hb;go_wp2_with fail;go_ret;exact ⟨rfl,hx⟩
  ·have hq1:=HQL.out q hglq
   obtain ⟨sf,hrun,hsf,htr⟩:=HBF.out.runs hglq;obtain ⟨hin,hun⟩:=tidy_oneP (q:=q) (by omega) htr;have hf6:=row_down (Row.of_own hfo)
   obtain ⟨qp,hqp⟩ : ∃ qp,qp = tidyM (oneP q):=⟨_,rfl⟩
   rw [← hqp] at hin hun hf6 ⊢;obtain ⟨⟨p1,p2⟩,-⟩:=run_plays (s0:=gs0 sx sy) rfl hrun;obtain ⟨u,hu,huf⟩:=play_tells rows W sx sy (unf qp)
   have hpf:=fun (W' : World) (h : Below w6.heap.size w6 W') => play_ok 0 B cb rows W sx sy FA fc qp W' (hr2.below h) HL.out HC.out (hf6.below h) HLZ.out hin
   rw [hu,hun,p1] at hpf;have HPF:=Lib.hid hpf
   have hu1 : u.fin = 1:=by rw [huf,hun,p2]; exact hsf
   have hfr:=fun (W' : World) (h : Below w6.heap.size w6 W') => framesF_any FA fc 0 qp W' (hf6.below h) (by have:=(inFault_ok hin).1; omega)
   rw [hin,framesR_ok hin,hun] at hfr;have HFR:=Lib.hid hfr
   have HGE : Hid (v.fin = 1 → q.length ≤ lx):=Lib.hid (fun h => by
    obtain ⟨q',h1,h2⟩:=HBEST.out h;rw [hglq] at h1;injection h1 with h1
    rw [h1]; exact h2)
   obtain ⟨ql,hqle⟩ : ∃ ql,ql = q.length:=⟨_,rfl⟩
   rw [← hqle] at HPF HFR HGE hq1;have hlx2:=HLX.out;have du1 : (u.fin == 1) = true:=beq_iff_eq.2 hu1;clear hpf hfr hu huf hu1 hun hin hf6 hfo hrun hsf htr hqp hqle p1 p2 hglq hr2 hx2;go_wp2_with fail;refine (HPX.out w6 (Below.refl _ _)).mono ?_;rintro e w7 ⟨rfl,hb⟩;replace hx:=below_up hx hb;have h67:=hb;clear hb;go_upto_region 9 with (fail);have hk:=Blk.new w7 55 #[.int .i64 v.x,.int .i64 v.y,.int .i64 v.rise,.bool v.held,.int .i64 v.mask,.int .i64 v.fin];replace hx:=hx.alloc hx.size (.cells #[.int .i64 v.x,.int .i64 v.y,.int .i64 v.rise,.bool v.held,.int .i64 v.mask,.int .i64 v.fin] 55);replace h67:=h67.alloc h67.size (.cells #[.int .i64 v.x,.int .i64 v.y,.int .i64 v.rise,.bool v.held,.int .i64 v.mask,.int .i64 v.fin] 55);generalize w7.alloc (.cells #[.int .i64 v.x,.int .i64 v.y,.int .i64 v.rise,.bool v.held,.int .i64 v.mask,.int .i64 v.fin] 55) = w8 at *;generalize w7.heap.size = k1 at *;have HK:=Lib.hid hk;have zk:=hk.lt;have x5:=hk.cell 5;simp only [Q0,Q2,Q1] at x5;clear hk
   obtain ⟨vb,hvb⟩ : ∃ vb,(v.fin == 1) = vb:=⟨_,rfl⟩
   obtain ⟨gb,hgb⟩ : ∃ gb,decide (ql ≤ lx) = gb:=⟨_,rfl⟩
   have HVG : Hid (vb = true → gb = true):=Lib.hid (fun h => by
    rw [← hgb]; exact decide_eq_true (HGE.out (beq_iff_eq.1 (hvb.trans h))))
   have hvn : (v.fin != 1) = !vb:=by rw [bne,hvb]
   cases vb with
   | false =>
    go_wp2_with fail;refine (HPF.out _ h67).mono ?_;rintro e w9 ⟨rfl,hb⟩;replace hx:=below_up hx hb;have hk:=HK.out.below hb;replace h67:=below_up h67 hb;clear hb x5 zk;go_upto_region 14 with (fail);have hj:=Blk.new w9 55 #[.int .i64 u.x,.int .i64 u.y,.int .i64 u.rise,.bool u.held,.int .i64 u.mask,.int .i64 u.fin];replace hx:=hx.alloc hx.size (.cells #[.int .i64 u.x,.int .i64 u.y,.int .i64 u.rise,.bool u.held,.int .i64 u.mask,.int .i64 u.fin] 55);replace h67:=h67.alloc h67.size (.cells #[.int .i64 u.x,.int .i64 u.y,.int .i64 u.rise,.bool u.held,.int .i64 u.mask,.int .i64 u.fin] 55);replace hk:=hk.alloc (.cells #[.int .i64 u.x,.int .i64 u.y,.int .i64 u.rise,.bool u.held,.int .i64 u.mask,.int .i64 u.fin] 55);generalize w9.alloc (.cells #[.int .i64 u.x,.int .i64 u.y,.int .i64 u.rise,.bool u.held,.int .i64 u.mask,.int .i64 u.fin] 55) = w10 at *;generalize w9.heap.size = k2 at *;go_wp2_with fail;refine (HFR.out _ h67).mono ?_;rintro e w11 ⟨rfl,hb⟩;replace hx:=below_up hx hb;replace hk:=hk.below hb;replace hj:=hj.below hb;clear hb;have x5:=hk.cell 5;have y5:=hj.cell 5;simp only [Q0,Q2,Q1] at x5 y5;have zk:=hk.lt;have zj:=hj.lt;have dql : ((ql : Int) == (ql : Int)) = true:=beq_self_eq_true _;go_wp2_with fail;refine (ready_any _).mono ?_;rintro e w12 ⟨rfl,hb⟩;replace hx:=below_up hx hb;go_wp2_with fail;go_ret;exact ⟨rfl,hx⟩
   | true =>
    obtain rfl : gb = true:=HVG.out rfl;go_wp2_with fail;refine (HPF.out _ h67).mono ?_;rintro e w9 ⟨rfl,hb⟩;replace hx:=below_up hx hb;have hk:=HK.out.below hb;replace h67:=below_up h67 hb;clear hb x5 zk;go_upto_region 14 with (fail);have hj:=Blk.new w9 55 #[.int .i64 u.x,.int .i64 u.y,.int .i64 u.rise,.bool u.held,.int .i64 u.mask,.int .i64 u.fin];replace hx:=hx.alloc hx.size (.cells #[.int .i64 u.x,.int .i64 u.y,.int .i64 u.rise,.bool u.held,.int .i64 u.mask,.int .i64 u.fin] 55);replace h67:=h67.alloc h67.size (.cells #[.int .i64 u.x,.int .i64 u.y,.int .i64 u.rise,.bool u.held,.int .i64 u.mask,.int .i64 u.fin] 55);replace hk:=hk.alloc (.cells #[.int .i64 u.x,.int .i64 u.y,.int .i64 u.rise,.bool u.held,.int .i64 u.mask,.int .i64 u.fin] 55);generalize w9.alloc (.cells #[.int .i64 u.x,.int .i64 u.y,.int .i64 u.rise,.bool u.held,.int .i64 u.mask,.int .i64 u.fin] 55) = w10 at *;generalize w9.heap.size = k2 at *;go_wp2_with fail;refine (HFR.out _ h67).mono ?_;rintro e w11 ⟨rfl,hb⟩;replace hx:=below_up hx hb;replace hk:=hk.below hb;replace hj:=hj.below hb;clear hb;have x5:=hk.cell 5;have y5:=hj.cell 5;simp only [Q0,Q2,Q1] at x5 y5;have zk:=hk.lt;have zj:=hj.lt;have dql : ((ql : Int) == (ql : Int)) = true:=beq_self_eq_true _;go_wp2_with fail;refine (ready_any _).mono ?_;rintro e w12 ⟨rfl,hb⟩;replace hx:=below_up hx hb;go_wp2_with fail;go_ret;exact ⟨rfl,hx⟩
 ·have d0 : (lv != 0) = true:=bne_iff_ne.2 h0
  go_wp2_with fail;refine (ready_any _).mono ?_;rintro e w9 ⟨rfl,hb⟩;replace hx:=below_up hx hb;go_wp2_with fail;go_ret;exact ⟨rfl,hx⟩
end Go.Proofs.YtkchacgkjdeiaaaGreatDoor
