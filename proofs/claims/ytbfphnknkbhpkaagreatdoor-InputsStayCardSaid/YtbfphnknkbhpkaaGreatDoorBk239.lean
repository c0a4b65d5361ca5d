/- Texts of this seat, laid together: RtH. -/
import Derived.Test.YtbfphnknkbhpkaaGreatDoorBk238
/- The walk of explore's closure at the two states. -/
namespace Go.Proofs.YtbfphnknkbhpkaaGreatDoor
set_option linter.unusedVariables false
set_option linter.unusedSimpArgs false
open Go.RowKit

theorem Blk.w1 {w : World} {g : Nat} {t : TypeId} {a : Value} (hk : Blk w g t #[a]) : w.cell? ⟨g,0,none⟩ = some a:=by simpa using hk.cell 0
def IxPost (lo : Nat) (w : World) (p g mb n : Nat) (es : Array MapEntry) (xs ed bs : List Value) : Prop:=∃ (A1 A2 A3 : Option Addr) (d1 d2 d3 : Nat),GN lo w p g mb n es xs ed bs (.slice A1 n d1) (.slice A2 n d2) (.slice A3 n d3)
theorem ty_states : SliceTy Tryz.prog 241 234 3 24:=.mk' Tryz.underlying241 (z:=.agg #[.int .i64 0,.int .i64 0,.int .i64 0]) (by kernel_rfl) rfl (by decide)
theorem ty_stepss : SliceTy Tryz.prog 242 247 1 24:=.mk' Tryz.underlying242 (z:=.slice none 0 0) (by kernel_rfl) rfl (by decide)
theorem ty_boolz : SliceTy Tryz.prog 243 4 1 1:=.mk' Tryz.underlying243 (z:=.bool false) (by kernel_rfl) rfl (by decide)

set_option maxHeartbeats 4000000 in
set_option maxRecDepth 100000 in
theorem index_0 {L lo : Nat} {M p go g1 c1 g2 c2 g3 c3 : Nat} {x1 x2 x3 : Array Value} {g mv gv t mb : Nat} (NN NE NB : Option Addr) (CN CE CB : Nat) (Y : Value) (w : World) (hlo : lo ≤ w.heap.size) (hzg : lo ≤ g) (hzm : lo ≤ mb) (hgr : GR L w M p go g1 c1 g2 c2 g3 c3 x1 x2 x3 g mv gv t mb) (hgn : GN lo w p g mb 0 #[] [] [] [] (.slice NN 0 CN) (.slice NE 0 CE) (.slice NB 0 CB)) :
  Calls Tryz.prog 162 #[.agg #[.int .i64 0,.int .i64 0,.int .i64 0],.pointer (some ⟨mv,0,none⟩),.pointer (some ⟨gv,0,none⟩),.pointer (some ⟨t,0,none⟩)] w fun e w' => e = .returned (.int .i64 0) ∧ GR L w' M p go g1 c1 g2 c2 g3 c3 x1 x2 x3 g mv gv t mb ∧ IxPost lo w' p g mb 1 es1 [.int .i64 0,.int .i64 0,.int .i64 0] [.slice none 0 0] [.bool false] ∧ Below lo w w':=by
 have hbl : Below lo w (w.alloc (.cells #[.int .i64 0,.int .i64 0,.int .i64 0] 234)):=(Below.refl _ _).alloc hlo _
 have hgr:=hgr.alloc (.cells #[.int .i64 0,.int .i64 0,.int .i64 0] 234)
 have hvN : some w.heap.size ≠ (Value.slice NN 0 CN).ownBlock:=fun e => absurd (hgn.N.lt _ e.symm).2 (Nat.lt_irrefl _)
 have hgn:=hgn.alloc (.cells #[.int .i64 0,.int .i64 0,.int .i64 0] 234)
 have hv : Blk (w.alloc (.cells #[.int .i64 0,.int .i64 0,.int .i64 0] 234)) w.heap.size 234 #[.int .i64 0,.int .i64 0,.int .i64 0]:=Blk.new _ _ _
 have zlo : lo ≤ (w.alloc (.cells #[.int .i64 0,.int .i64 0,.int .i64 0] 234)).heap.size:=by simp; omega
 go_enter Tryz.func162,Tryz.ntmps162
 go_upto_region 1 with (fail)
 generalize hV : w.heap.size = v at *
 generalize w.alloc (.cells #[.int .i64 0,.int .i64 0,.int .i64 0] 234) = X at *
 have hl:=lookup_s0 hgn.mb
 have hu:=update_s0 hgn.mb
 have q0 : X.cell? ⟨mv,0,none⟩ = some (.map (some mb)):=by simpa using hgr.mv.cell 0
 have q1 : X.cell? ⟨gv,0,none⟩ = some (.pointer (some ⟨g,0,none⟩)):=by simpa using hgr.gv.cell 0
 obtain ⟨v0,v1,v2⟩:=hv.w3
 obtain ⟨k0,k1,k2,k3,k4⟩:=hgn.g.w5
 simp only [s0] at hl hu
 go_upto_region 5 with (fail)
 have hgr2:=hgr.other (grown_map X mb (.map es1 1)) (map_kind hgn.mb) (by decide)
 have hv2:=hv.other (grown_map X mb (.map es1 1)) (map_kind hgn.mb) (by decide)
 have hg2:=hgn.g.other (grown_map X mb (.map es1 1)) (map_kind hgn.mb) (by decide)
 have hN2:=own_other hgn.N (grown_map X mb (.map es1 1)) (map_kind hgn.mb) (by decide)
 have hE2:=own_other hgn.E (grown_map X mb (.map es1 1)) (map_kind hgn.mb) (by decide)
 have hB2:=own_other hgn.B (grown_map X mb (.map es1 1)) (map_kind hgn.mb) (by decide)
 have hbl2:=hbl.trans (below_of_grown (grown_map X mb (.map es1 1)) zlo (fun k hk => by injection hk with hk; omega))
 have hm2:=map_put hgn.mb (.map es1 1)
 have zlo2 : lo ≤ ({ X with heap:=X.heap.setIfInBounds mb (.map es1 1) } : World).heap.size:=by simpa using zlo
 clear hbl hgr hv hgn hl hu q0 q1 v0 v1 v2 k0 k1 k2 k3 k4
 generalize ({ X with heap:=X.heap.setIfInBounds mb (.map es1 1) } : World) = X2 at *
 have hbl : Below lo w X2.drew:=hbl2.drew
 have hlw : lo ≤ w.heap.size:=by omega
 have hgr:=hgr2.drew
 have hv:=hv2.drew
 have hg:=hg2.drew
 have hN : X2.drew.ownsRow lo 234 3 _ _ _:=hN2
 have hE : X2.drew.ownsRow lo 247 1 _ _ _:=hE2
 have hB : X2.drew.ownsRow lo 4 1 _ _ _:=hB2
 have hm : X2.drew.heap[mb]? = _:=hm2
 have zl : lo ≤ X2.drew.heap.size:=zlo2
 clear hbl2 hgr2 hv2 hg2 hN2 hE2 hB2 hm2
 refine wp_region_heldK 28 (fun w' => w'.cell? ⟨g,1,none⟩ = some (.slice NN 0 CN) ∧ w'.cell? ⟨g,2,none⟩ = some (.slice NE 0 CE) ∧ w'.cell? ⟨g,3,none⟩ = some (.slice NB 0 CB)) (fun w' => w'.cell? ⟨gv,0,none⟩ = some (.pointer (some ⟨g,0,none⟩)) ∧ w'.cell? ⟨v,0,none⟩ = some (.int .i64 0) ∧ w'.cell? ⟨v,1,none⟩ = some (.int .i64 0) ∧ w'.cell? ⟨v,2,none⟩ = some (.int .i64 0) ∧ w'.cell? ⟨t,4,none⟩ = some (.func (.func 131) #[.pointer (some ⟨p,0,none⟩)] #[])) (by kernel_rfl) (⟨hgr.gv.w1,hv.w3.1,hv.w3.2.1,hv.w3.2.2,hgr.t.w5.2.2.2.2⟩) (⟨hg.w5.2.1,hg.w5.2.2.1,hg.w5.2.2.2.1⟩) (fun hT hS => ?_)
 (refine wpAnyK_take2 (i:=0) (v:=?_) (by (simp only [Q0,Q2]; rfl)) (by kernel_rfl) (by kernel_rfl) (by kernel_rfl) (by decide) (by exact fun _ _ _ h => h) (Or.inl ⟨by rfl,?_⟩) (by assumption) (by assumption) ?_; (rotate_left 1; (intro w hSw; (try dsimp only at hSw); go_simp); (try with_reducible rfl)); (try simp only [Act.put,Q3,Q4,Q5]))
 (refine wpAnyK_take2 (i:=1) (v:=?_) (by (simp only [Q0,Q1,Q2]; rfl)) (by kernel_rfl) (by kernel_rfl) (by kernel_rfl) (by decide) (by exact fun _ _ _ h => h) (Or.inl ⟨by rfl,?_⟩) (by assumption) (by assumption) ?_; (rotate_left 1; (intro w hSw; (try dsimp only at hSw); go_simp); (try with_reducible rfl)); (try simp only [Act.put,Q3,Q4,Q5]))
 (refine wpAnyK_take2 (i:=2) (v:=?_) (by (simp only [Q0,Q1,Q2]; rfl)) (by kernel_rfl) (by kernel_rfl) (by kernel_rfl) (by decide) (by exact fun _ _ _ h => h) (Or.inl ⟨by rfl,?_⟩) (by assumption) (by assumption) ?_; (rotate_left 1; (intro w hSw; (try dsimp only at hSw); go_simp); (try with_reducible rfl)); (try simp only [Act.put,Q3,Q4,Q5]))
 (refine wpAnyK_take2 (i:=3) (v:=?_) (by (simp only [Q0,Q1,Q2]; rfl)) (by kernel_rfl) (by kernel_rfl) (by kernel_rfl) (by decide) (by exact fun _ _ _ h => h) (Or.inl ⟨by rfl,?_⟩) (by assumption) (by assumption) ?_; (rotate_left 1; (intro w hSw; (try dsimp only at hSw); go_simp); (try with_reducible rfl)); (try simp only [Act.put,Q3,Q4,Q5]))
 (refine wpAnyK_take2 (i:=4) (v:=?_) (by (simp only [Q0,Q1,Q2]; rfl)) (by kernel_rfl) (by kernel_rfl) (by kernel_rfl) (by decide) (by exact fun _ _ _ h => h) (Or.inl ⟨by rfl,?_⟩) (by assumption) (by assumption) ?_; (rotate_left 1; (intro w hSw; (try dsimp only at hSw); go_simp); (try with_reducible rfl)); (try simp only [Act.put,Q3,Q4,Q5]))
 (refine wpAnyK_take2 (i:=5) (v:=?_) (by (simp only [Q0,Q1,Q2]; rfl)) (by kernel_rfl) (by kernel_rfl) (by kernel_rfl) (by decide) (by exact fun _ _ _ h => h) (Or.inl ⟨by rfl,?_⟩) (by assumption) (by assumption) ?_; (rotate_left 1; (intro w hSw; (try dsimp only at hSw); go_simp); (try with_reducible rfl)); (try simp only [Act.put,Q3,Q4,Q5]))
 (refine wpAnyK_take1 (i:=6) (v:=?_) (by (simp only [Q0,Q1,Q2]; rfl)) (by kernel_rfl) (by kernel_rfl) (by kernel_rfl) (by decide) (by kernel_rfl) (by kernel_rfl) (by exact fun _ _ _ h => h) (Or.inl ⟨by rfl,?_⟩) (by assumption) (by assumption) ?_; (rotate_left 1; (intro w hSw; (try dsimp only at hSw); go_simp); (try with_reducible rfl)); (try simp only [Act.put,Q3,Q4,Q5]))
 (refine wpAnyK_take2 (i:=7) (v:=?_) (by (simp only [Q0,Q1,Q2]; rfl)) (by kernel_rfl) (by kernel_rfl) (by kernel_rfl) (by decide) (by exact fun _ _ _ h => h) (Or.inl ⟨by rfl,?_⟩) (by assumption) (by assumption) ?_; (rotate_left 1; (intro w hSw; (try dsimp only at hSw); go_simp); (try with_reducible rfl)); (try simp only [Act.put,Q3,Q4,Q5]))
 (refine wpAnyK_take2 (i:=10) (v:=?_) (by (simp only [Q0,Q1,Q2]; rfl)) (by kernel_rfl) (by kernel_rfl) (by kernel_rfl) (by decide) (by exact fun _ _ _ h => h) (Or.inl ⟨by rfl,?_⟩) (by assumption) (by assumption) ?_; (rotate_left 1; (intro w hSw; (try dsimp only at hSw); go_simp); (try with_reducible rfl)); (try simp only [Act.put,Q3,Q4,Q5]))
 (refine wpAnyK_take2 (i:=11) (v:=?_) (by (simp only [Q0,Q1,Q2]; rfl)) (by kernel_rfl) (by kernel_rfl) (by kernel_rfl) (by decide) (by exact fun _ _ _ h => h) (Or.inl ⟨by rfl,?_⟩) (by assumption) (by assumption) ?_; (rotate_left 1; (intro w hSw; (try dsimp only at hSw); go_simp); (try with_reducible rfl)); (try simp only [Act.put,Q3,Q4,Q5]))
 (refine wpAnyK_take2 (i:=12) (v:=?_) (by (simp only [Q0,Q1,Q2]; rfl)) (by kernel_rfl) (by kernel_rfl) (by kernel_rfl) (by decide) (by exact fun _ _ _ h => h) (Or.inl ⟨by rfl,?_⟩) (by assumption) (by assumption) ?_; (rotate_left 1; (intro w hSw; (try dsimp only at hSw); go_simp); (try with_reducible rfl)); (try simp only [Act.put,Q3,Q4,Q5]))
 (refine wpAnyK_take1 (i:=13) (v:=?_) (by (simp only [Q0,Q1,Q2]; rfl)) (by kernel_rfl) (by kernel_rfl) (by kernel_rfl) (by decide) (by kernel_rfl) (by kernel_rfl) (by exact fun _ _ _ h => h) (Or.inl ⟨by rfl,?_⟩) (by assumption) (by assumption) ?_; (rotate_left 1; (intro w hSw; (try dsimp only at hSw); go_simp); (try with_reducible rfl)); (try simp only [Act.put,Q3,Q4,Q5]))
 (refine wpAnyK_take2 (i:=16) (v:=?_) (by (simp only [Q0,Q1,Q2]; rfl)) (by kernel_rfl) (by kernel_rfl) (by kernel_rfl) (by decide) (by exact fun _ _ _ h => h) (Or.inl ⟨by rfl,?_⟩) (by assumption) (by assumption) ?_; (rotate_left 1; (intro w hSw; (try dsimp only at hSw); go_simp); (try with_reducible rfl)); (try simp only [Act.put,Q3,Q4,Q5]))
 (refine wpAnyK_take2 (i:=17) (v:=?_) (by (simp only [Q0,Q1,Q2]; rfl)) (by kernel_rfl) (by kernel_rfl) (by kernel_rfl) (by decide) (by exact fun _ _ _ h => h) (Or.inl ⟨by rfl,?_⟩) (by assumption) (by assumption) ?_; (rotate_left 1; (intro w hSw; (try dsimp only at hSw); go_simp); (try with_reducible rfl)); (try simp only [Act.put,Q3,Q4,Q5]))
 (refine wpAnyK_take2 (i:=18) (v:=?_) (by (simp only [Q0,Q1,Q2]; rfl)) (by kernel_rfl) (by kernel_rfl) (by kernel_rfl) (by decide) (by exact fun _ _ _ h => h) (Or.inl ⟨by rfl,?_⟩) (by assumption) (by assumption) ?_; (rotate_left 1; (intro w hSw; (try dsimp only at hSw); go_simp); (try with_reducible rfl)); (try simp only [Act.put,Q3,Q4,Q5]))
 (refine wpAnyK_take1 (i:=19) (v:=?_) (by (simp only [Q0,Q1,Q2]; rfl)) (by kernel_rfl) (by kernel_rfl) (by kernel_rfl) (by decide) (by kernel_rfl) (by kernel_rfl) (by exact fun _ _ _ h => h) (Or.inl ⟨by rfl,?_⟩) (by assumption) (by assumption) ?_; (rotate_left 1; (intro w hSw; (try dsimp only at hSw); go_simp); (try with_reducible rfl)); (try simp only [Act.put,Q3,Q4,Q5]))
 (refine wpAnyK_take2 (i:=20) (v:=?_) (by (simp only [Q0,Q1,Q2]; rfl)) (by kernel_rfl) (by kernel_rfl) (by kernel_rfl) (by decide) (by exact fun _ _ _ h => h) (Or.inl ⟨by rfl,?_⟩) (by assumption) (by assumption) ?_; (rotate_left 1; (intro w hSw; (try dsimp only at hSw); go_simp); (try with_reducible rfl)); (try simp only [Act.put,Q3,Q4,Q5]))
 (refine wpAnyK_take2 (i:=21) (v:=?_) (by (simp only [Q0,Q1,Q2]; rfl)) (by kernel_rfl) (by kernel_rfl) (by kernel_rfl) (by decide) (by exact fun _ _ _ h => h) (Or.inl ⟨by rfl,?_⟩) (by assumption) (by assumption) ?_; (rotate_left 1; (intro w hSw; (try dsimp only at hSw); go_simp); (try with_reducible rfl)); (try simp only [Act.put,Q3,Q4,Q5]))
 (refine wpAnyK_take2 (i:=22) (v:=?_) (by (simp only [Q0,Q1,Q2]; rfl)) (by kernel_rfl) (by kernel_rfl) (by kernel_rfl) (by decide) (by exact fun _ _ _ h => h) (Or.inl ⟨by rfl,?_⟩) (by assumption) (by assumption) ?_; (rotate_left 1; (intro w hSw; (try dsimp only at hSw); go_simp); (try with_reducible rfl)); (try simp only [Act.put,Q3,Q4,Q5]))
 refine wpAnyK_ready (rs:=[8,14]) (by kernel_rfl) (by simp) ?_
 refine AllReadyK.cons rfl (fun K hK => ?_) (AllReadyK.cons rfl (fun K hK => ?_) AllReadyK.nil)
 case refine_1 =>
  go_simp
  have nhgr:=hgr.alloc (.cells #[.int .i64 0,.int .i64 0,.int .i64 0] 234)
  have nhv:=hv.alloc (.cells #[.int .i64 0,.int .i64 0,.int .i64 0] 234)
  have nhg:=hg.alloc (.cells #[.int .i64 0,.int .i64 0,.int .i64 0] 234)
  have nhm:=map_below hm ((Below.refl _ _).alloc (Nat.le_refl _) (.cells #[.int .i64 0,.int .i64 0,.int .i64 0] 234))
  have nhN:=hN.alloc (.cells #[.int .i64 0,.int .i64 0,.int .i64 0] 234)
  have nhE:=hE.alloc (.cells #[.int .i64 0,.int .i64 0,.int .i64 0] 234)
  have nhB:=hB.alloc (.cells #[.int .i64 0,.int .i64 0,.int .i64 0] 234)
  have nhbl:=hbl.alloc (Nat.le_trans hlw hbl.size) (.cells #[.int .i64 0,.int .i64 0,.int .i64 0] 234)
  clear hgr hv hg hm hN hE hB hbl
  have hgr:=nhgr
  have hv:=nhv
  have hg:=nhg
  have hm:=nhm
  have hN:=nhN
  have hE:=nhE
  have hB:=nhB
  have hbl:=nhbl
  clear nhgr nhv nhg nhm nhN nhE nhB nhbl
  have b1 : Blk (X2.drew.alloc (.cells #[.int .i64 0,.int .i64 0,.int .i64 0] 234)) (X2.heap.size) 234 #[.int .i64 0,.int .i64 0,.int .i64 0]:=Blk.at_ _ (by simp)
  have zl : lo ≤ (X2.drew.alloc (.cells #[.int .i64 0,.int .i64 0,.int .i64 0] 234)).heap.size:=by first | omega | (simp; omega) | (simp at zl ⊢; omega)
  refine hK.out _ _ (⟨hgr.gv.w1,hv.w3.1,hv.w3.2.1,hv.w3.2.2,hgr.t.w5.2.2.2.2⟩) (⟨hg.w5.2.1,hg.w5.2.2.1,hg.w5.2.2.2.1⟩) (fun hT hS => ?_)
  clear hK K
  (try simp only [Act.put,Q3,Q4,Q5])
  refine wpAnyK_ready (rs:=[9,14]) (by kernel_rfl) (by simp) ?_
  refine AllReadyK.cons rfl (fun K hK => ?_) (AllReadyK.cons rfl (fun K hK => ?_) AllReadyK.nil)
  case refine_1 =>
   refine step_app (lo:=0) (base:=lo) (n:=0) (xs:=[]) _ rfl _ _ ty_states rfl hN rfl (Row.lit (n:=1) (size:=3) b1 (Nat.zero_le _) rfl) rfl rfl (by decide) (by decide) zl ?_
   intro A1 d1 wn oN gN _
   have kN:=own_kind hN
   have lN:=fun k hk => (hN.lt k hk).1
   have nhv : Blk wn v 234 #[.int .i64 0,.int .i64 0,.int .i64 0]:=(gN.block v hv.lt hvN).trans hv
   have zl : lo ≤ wn.heap.size:=Nat.le_trans zl gN.size
   clear b1
   have nhgr:=hgr.other gN kN (by decide)
   have nhg:=hg.other gN kN (by decide)
   have nhm:=map_other hm gN kN (by decide)
   have nhE:=own_other hE gN kN (by decide)
   have nhB:=own_other hB gN kN (by decide)
   have nhbl:=hbl.trans (below_of_grown gN (Nat.le_trans hlw hbl.size) (lN))
   clear hgr hg hm hE hB hbl
   have hgr:=nhgr
   have hg:=nhg
   have hm:=nhm
   have hE:=nhE
   have hB:=nhB
   have hbl:=nhbl
   clear nhgr nhg nhm nhE nhB nhbl
   clear hv hN
   have hv:=nhv
   have hN:=oN
   clear nhv oN
   refine hK.out _ _ (⟨hgr.gv.w1,hv.w3.1,hv.w3.2.1,hv.w3.2.2,hgr.t.w5.2.2.2.2⟩) (⟨hg.w5.2.1,hg.w5.2.2.1,hg.w5.2.2.2.1⟩) (fun hT hS => ?_)
   clear hK K
   (try simp only [Act.put,Q3,Q4,Q5])
   refine wpAnyK_ready (rs:=[14]) (by kernel_rfl) (by simp) ?_
   refine AllReadyK.cons rfl (fun K hK => ?_) AllReadyK.nil
   go_simp
   have nhgr:=hgr.alloc (.cells #[.slice none 0 0] 247)
   have nhv:=hv.alloc (.cells #[.slice none 0 0] 247)
   have nhg:=hg.alloc (.cells #[.slice none 0 0] 247)
   have nhm:=map_below hm ((Below.refl _ _).alloc (Nat.le_refl _) (.cells #[.slice none 0 0] 247))
   have nhN:=hN.alloc (.cells #[.slice none 0 0] 247)
   have nhE:=hE.alloc (.cells #[.slice none 0 0] 247)
   have nhB:=hB.alloc (.cells #[.slice none 0 0] 247)
   have nhbl:=hbl.alloc (Nat.le_trans hlw hbl.size) (.cells #[.slice none 0 0] 247)
   clear hgr hv hg hm hN hE hB hbl
   have hgr:=nhgr
   have hv:=nhv
   have hg:=nhg
   have hm:=nhm
   have hN:=nhN
   have hE:=nhE
   have hB:=nhB
   have hbl:=nhbl
   clear nhgr nhv nhg nhm nhN nhE nhB nhbl
   have b2 : Blk (wn.alloc (.cells #[.slice none 0 0] 247)) (wn.heap.size) 247 #[.slice none 0 0]:=Blk.at_ _ (by simp)
   have zl : lo ≤ (wn.alloc (.cells #[.slice none 0 0] 247)).heap.size:=by first | omega | (simp; omega) | (simp at zl ⊢; omega)
   refine hK.out _ _ (⟨hgr.gv.w1,hv.w3.1,hv.w3.2.1,hv.w3.2.2,hgr.t.w5.2.2.2.2⟩) (⟨hg.w5.2.1,hg.w5.2.2.1,hg.w5.2.2.2.1⟩) (fun hT hS => ?_)
   clear hK K
   (try simp only [Act.put,Q3,Q4,Q5])
   refine wpAnyK_ready (rs:=[15]) (by kernel_rfl) (by simp) ?_
   refine AllReadyK.cons rfl (fun K hK => ?_) AllReadyK.nil
   refine step_app (lo:=0) (base:=lo) (n:=0) (xs:=[]) _ rfl _ _ ty_stepss rfl hE rfl (Row.lit (n:=1) (size:=1) b2 (Nat.zero_le _) rfl) rfl rfl (by decide) (by decide) zl ?_
   intro A2 d2 we oE gE _
   have kE:=own_kind hE
   have lE:=fun k hk => (hE.lt k hk).1
   have zl : lo ≤ we.heap.size:=Nat.le_trans zl gE.size
   clear b2
   have nhgr:=hgr.other gE kE (by decide)
   have nhv:=hv.other gE kE (by decide)
   have nhg:=hg.other gE kE (by decide)
   have nhm:=map_other hm gE kE (by decide)
   have nhN:=own_other hN gE kE (by decide)
   have nhB:=own_other hB gE kE (by decide)
   have nhbl:=hbl.trans (below_of_grown gE (Nat.le_trans hlw hbl.size) (lE))
   clear hgr hv hg hm hN hB hbl
   have hgr:=nhgr
   have hv:=nhv
   have hg:=nhg
   have hm:=nhm
   have hN:=nhN
   have hB:=nhB
   have hbl:=nhbl
   clear nhgr nhv nhg nhm nhN nhB nhbl
   clear hE
   have hE:=oE
   clear oE
   refine hK.out _ _ (⟨hgr.gv.w1,hv.w3.1,hv.w3.2.1,hv.w3.2.2,hgr.t.w5.2.2.2.2⟩) (⟨hg.w5.2.1,hg.w5.2.2.1,hg.w5.2.2.2.1⟩) (fun hT hS => ?_)
   clear hK K
   (try simp only [Act.put,Q3,Q4,Q5])
   refine wpAnyK_ready (rs:=[23]) (by kernel_rfl) (by simp) ?_
   refine AllReadyK.cons rfl (fun K hK => ?_) AllReadyK.nil
   go_simp
   go_at_call 131
   refine (atGoal_0 _ hgr.wb).mono ?_
   rintro e wg ⟨rfl,hb⟩
   have zl : lo ≤ wg.heap.size:=Nat.le_trans zl hb.size
   have nhgr:=hgr.below hb
   have nhv:=hv.below hb
   have nhg:=hg.below hb
   have nhm:=map_below hm hb
   have nhN:=own_keep hN hb
   have nhE:=own_keep hE hb
   have nhB:=own_keep hB hb
   have nhbl:=hbl.trans (hb.mono (Nat.le_trans hlw hbl.size))
   clear hgr hv hg hm hN hE hB hbl
   have hgr:=nhgr
   have hv:=nhv
   have hg:=nhg
   have hm:=nhm
   have hN:=nhN
   have hE:=nhE
   have hB:=nhB
   have hbl:=nhbl
   clear nhgr nhv nhg nhm nhN nhE nhB nhbl
   go_wp2_with fail
   refine hK.out _ _ (⟨hgr.gv.w1,hv.w3.1,hv.w3.2.1,hv.w3.2.2,hgr.t.w5.2.2.2.2⟩) (⟨hg.w5.2.1,hg.w5.2.2.1,hg.w5.2.2.2.1⟩) (fun hT hS => ?_)
   clear hK K
   (try simp only [Act.put,Q3,Q4,Q5])
   refine wpAnyK_ready (rs:=[24]) (by kernel_rfl) (by simp) ?_
   refine AllReadyK.cons rfl (fun K hK => ?_) AllReadyK.nil
   go_simp
   have nhgr:=hgr.alloc (.cells #[.bool false] 4)
   have nhv:=hv.alloc (.cells #[.bool false] 4)
   have nhg:=hg.alloc (.cells #[.bool false] 4)
   have nhm:=map_below hm ((Below.refl _ _).alloc (Nat.le_refl _) (.cells #[.bool false] 4))
   have nhN:=hN.alloc (.cells #[.bool false] 4)
   have nhE:=hE.alloc (.cells #[.bool false] 4)
   have nhB:=hB.alloc (.cells #[.bool false] 4)
   have nhbl:=hbl.alloc (Nat.le_trans hlw hbl.size) (.cells #[.bool false] 4)
   clear hgr hv hg hm hN hE hB hbl
   have hgr:=nhgr
   have hv:=nhv
   have hg:=nhg
   have hm:=nhm
   have hN:=nhN
   have hE:=nhE
   have hB:=nhB
   have hbl:=nhbl
   clear nhgr nhv nhg nhm nhN nhE nhB nhbl
   have b3 : Blk (wg.alloc (.cells #[.bool false] 4)) (wg.heap.size) 4 #[.bool false]:=Blk.at_ _ (by simp)
   have zl : lo ≤ (wg.alloc (.cells #[.bool false] 4)).heap.size:=by first | omega | (simp; omega) | (simp at zl ⊢; omega)
   refine hK.out _ _ (⟨hgr.gv.w1,hv.w3.1,hv.w3.2.1,hv.w3.2.2,hgr.t.w5.2.2.2.2⟩) (⟨hg.w5.2.1,hg.w5.2.2.1,hg.w5.2.2.2.1⟩) (fun hT hS => ?_)
   clear hK K
   (try simp only [Act.put,Q3,Q4,Q5])
   refine wpAnyK_ready (rs:=[25]) (by kernel_rfl) (by simp) ?_
   refine AllReadyK.cons rfl (fun K hK => ?_) AllReadyK.nil
   refine step_app (lo:=0) (base:=lo) (n:=0) (xs:=[]) _ rfl _ _ ty_boolz rfl hB rfl (Row.lit (n:=1) (size:=1) b3 (Nat.zero_le _) rfl) rfl rfl (by decide) (by decide) zl ?_
   intro A3 d3 wb oB gB _
   have kB:=own_kind hB
   have lB:=fun k hk => (hB.lt k hk).1
   have zl : lo ≤ wb.heap.size:=Nat.le_trans zl gB.size
   clear b3
   have nhgr:=hgr.other gB kB (by decide)
   have nhv:=hv.other gB kB (by decide)
   have nhg:=hg.other gB kB (by decide)
   have nhm:=map_other hm gB kB (by decide)
   have nhN:=own_other hN gB kB (by decide)
   have nhE:=own_other hE gB kB (by decide)
   have nhbl:=hbl.trans (below_of_grown gB (Nat.le_trans hlw hbl.size) (lB))
   clear hgr hv hg hm hN hE hbl
   have hgr:=nhgr
   have hv:=nhv
   have hg:=nhg
   have hm:=nhm
   have hN:=nhN
   have hE:=nhE
   have hbl:=nhbl
   clear nhgr nhv nhg nhm nhN nhE nhbl
   clear hB
   have hB:=oB
   clear oB
   refine hK.out _ _ (⟨hgr.gv.w1,hv.w3.1,hv.w3.2.1,hv.w3.2.2,hgr.t.w5.2.2.2.2⟩) (⟨hg.w5.2.1,hg.w5.2.2.1,hg.w5.2.2.2.1⟩) (fun hT hS => ?_)
   clear hK K
   (try simp only [Act.put,Q3,Q4,Q5])
   (refine wpAnyK_take2 (i:=26) (v:=?_) (by (simp only [Q0,Q1,Q2]; rfl)) (by kernel_rfl) (by kernel_rfl) (by kernel_rfl) (by decide) (by exact fun _ _ _ h => h) (Or.inl ⟨by rfl,?_⟩) (by assumption) (by assumption) ?_; (rotate_left 1; (intro w hSw; (try dsimp only at hSw); go_simp); (try with_reducible rfl)); (try simp only [Act.put,Q3,Q4,Q5]))
   (refine wpAnyK_take2 (i:=27) (v:=?_) (by (simp only [Q0,Q1,Q2]; rfl)) (by kernel_rfl) (by kernel_rfl) (by kernel_rfl) (by decide) (by exact fun _ _ _ h => h) (Or.inl ⟨by rfl,?_⟩) (by assumption) (by assumption) ?_; (rotate_left 1; (intro w hSw; (try dsimp only at hSw); go_simp); (try with_reducible rfl)); (try simp only [Act.put,Q3,Q4,Q5]))
   refine wpAnyK_ready (rs:=[28]) (by kernel_rfl) (by simp) ?_
   refine AllReadyK.consT (by kernel_rfl) rfl (fun K hK => ?_) AllReadyK.nil
   obtain ⟨k0,k1,k2,k3,k4⟩:=hg.w5
   have kf:=hg.thaw 1
   have zg:=hg.lt
   go_simp
   clear k0 k1 k2 k3 k4 kf zg
   have kg:=hg.kind
   have ghg:=hg.poke 1 (.slice A1 1 d1)
   have nhgr:=hgr.other (grown_poke _ g 1 (.slice A1 1 d1)) kg (by decide)
   have nhv:=hv.other (grown_poke _ g 1 (.slice A1 1 d1)) kg (by decide)
   have nhm:=map_other hm (grown_poke _ g 1 (.slice A1 1 d1)) kg (by decide)
   have nhN:=own_other hN (grown_poke _ g 1 (.slice A1 1 d1)) kg (by decide)
   have nhE:=own_other hE (grown_poke _ g 1 (.slice A1 1 d1)) kg (by decide)
   have nhB:=own_other hB (grown_poke _ g 1 (.slice A1 1 d1)) kg (by decide)
   have nhbl:=hbl.trans (below_of_grown (grown_poke _ g 1 (.slice A1 1 d1)) (Nat.le_trans hlw hbl.size) (fun k hk => by injection hk with hk; omega))
   clear hgr hv hm hN hE hB hbl
   have hgr:=nhgr
   have hv:=nhv
   have hm:=nhm
   have hN:=nhN
   have hE:=nhE
   have hB:=nhB
   have hbl:=nhbl
   clear nhgr nhv nhm nhN nhE nhB nhbl
   have hg:=ghg
   clear ghg kg
   simp only [Q3,Q4,Q5] at hg
   refine hK.out _ _ (⟨hgr.gv.w1,hv.w3.1,hv.w3.2.1,hv.w3.2.2,hgr.t.w5.2.2.2.2⟩) (fun hT => ?_)
   clear hK K
   (try simp only [Act.put,Q3,Q4,Q5])
   (refine wpAnyK_take3 (i:=29) (v:=?_) (by (simp only [Q0,Q1,Q2]; rfl)) (by kernel_rfl) (by kernel_rfl) (by kernel_rfl) (by decide) (by kernel_rfl) (by exact fun _ _ _ h => h) (Or.inl ⟨by rfl,?_⟩) (by assumption) ?_; (rotate_left 1; (intro w hSw; (try dsimp only at hSw); go_simp); (try with_reducible rfl)); (try simp only [Act.put,Q3,Q4,Q5]))
   (refine wpAnyK_take3 (i:=30) (v:=?_) (by (simp only [Q0,Q1,Q2]; rfl)) (by kernel_rfl) (by kernel_rfl) (by kernel_rfl) (by decide) (by kernel_rfl) (by exact fun _ _ _ h => h) (Or.inl ⟨by rfl,?_⟩) (by assumption) ?_; (rotate_left 1; (intro w hSw; (try dsimp only at hSw); go_simp); (try with_reducible rfl)); (try simp only [Act.put,Q3,Q4,Q5]))
   refine wpAnyK_ready (rs:=[31]) (by kernel_rfl) (by simp) ?_
   refine AllReadyK.consT (by kernel_rfl) rfl (fun K hK => ?_) AllReadyK.nil
   obtain ⟨k0,k1,k2,k3,k4⟩:=hg.w5
   have kf:=hg.thaw 2
   have zg:=hg.lt
   go_simp
   clear k0 k1 k2 k3 k4 kf zg
   have kg:=hg.kind
   have ghg:=hg.poke 2 (.slice A2 1 d2)
   have nhgr:=hgr.other (grown_poke _ g 2 (.slice A2 1 d2)) kg (by decide)
   have nhv:=hv.other (grown_poke _ g 2 (.slice A2 1 d2)) kg (by decide)
   have nhm:=map_other hm (grown_poke _ g 2 (.slice A2 1 d2)) kg (by decide)
   have nhN:=own_other hN (grown_poke _ g 2 (.slice A2 1 d2)) kg (by decide)
   have nhE:=own_other hE (grown_poke _ g 2 (.slice A2 1 d2)) kg (by decide)
   have nhB:=own_other hB (grown_poke _ g 2 (.slice A2 1 d2)) kg (by decide)
   have nhbl:=hbl.trans (below_of_grown (grown_poke _ g 2 (.slice A2 1 d2)) (Nat.le_trans hlw hbl.size) (fun k hk => by injection hk with hk; omega))
   clear hgr hv hm hN hE hB hbl
   have hgr:=nhgr
   have hv:=nhv
   have hm:=nhm
   have hN:=nhN
   have hE:=nhE
   have hB:=nhB
   have hbl:=nhbl
   clear nhgr nhv nhm nhN nhE nhB nhbl
   have hg:=ghg
   clear ghg kg
   simp only [Q3,Q4,Q5] at hg
   refine hK.out _ _ (⟨hgr.gv.w1,hv.w3.1,hv.w3.2.1,hv.w3.2.2,hgr.t.w5.2.2.2.2⟩) (fun hT => ?_)
   clear hK K
   (try simp only [Act.put,Q3,Q4,Q5])
   (refine wpAnyK_take3 (i:=32) (v:=?_) (by (simp only [Q0,Q1,Q2]; rfl)) (by kernel_rfl) (by kernel_rfl) (by kernel_rfl) (by decide) (by kernel_rfl) (by exact fun _ _ _ h => h) (Or.inl ⟨by rfl,?_⟩) (by assumption) ?_; (rotate_left 1; (intro w hSw; (try dsimp only at hSw); go_simp); (try with_reducible rfl)); (try simp only [Act.put,Q3,Q4,Q5]))
   (refine wpAnyK_take3 (i:=33) (v:=?_) (by (simp only [Q0,Q1,Q2]; rfl)) (by kernel_rfl) (by kernel_rfl) (by kernel_rfl) (by decide) (by kernel_rfl) (by exact fun _ _ _ h => h) (Or.inl ⟨by rfl,?_⟩) (by assumption) ?_; (rotate_left 1; (intro w hSw; (try dsimp only at hSw); go_simp); (try with_reducible rfl)); (try simp only [Act.put,Q3,Q4,Q5]))
   refine wpAnyK_ready (rs:=[34]) (by kernel_rfl) (by simp) ?_
   refine AllReadyK.consT (by kernel_rfl) rfl (fun K hK => ?_) AllReadyK.nil
   obtain ⟨k0,k1,k2,k3,k4⟩:=hg.w5
   have kf:=hg.thaw 3
   have zg:=hg.lt
   go_simp
   clear k0 k1 k2 k3 k4 kf zg
   have kg:=hg.kind
   have ghg:=hg.poke 3 (.slice A3 1 d3)
   have nhgr:=hgr.other (grown_poke _ g 3 (.slice A3 1 d3)) kg (by decide)
   have nhv:=hv.other (grown_poke _ g 3 (.slice A3 1 d3)) kg (by decide)
   have nhm:=map_other hm (grown_poke _ g 3 (.slice A3 1 d3)) kg (by decide)
   have nhN:=own_other hN (grown_poke _ g 3 (.slice A3 1 d3)) kg (by decide)
   have nhE:=own_other hE (grown_poke _ g 3 (.slice A3 1 d3)) kg (by decide)
   have nhB:=own_other hB (grown_poke _ g 3 (.slice A3 1 d3)) kg (by decide)
   have nhbl:=hbl.trans (below_of_grown (grown_poke _ g 3 (.slice A3 1 d3)) (Nat.le_trans hlw hbl.size) (fun k hk => by injection hk with hk; omega))
   clear hgr hv hm hN hE hB hbl
   have hgr:=nhgr
   have hv:=nhv
   have hm:=nhm
   have hN:=nhN
   have hE:=nhE
   have hB:=nhB
   have hbl:=nhbl
   clear nhgr nhv nhm nhN nhE nhB nhbl
   have hg:=ghg
   clear ghg kg
   simp only [Q3,Q4,Q5] at hg
   refine hK.out _ _ (⟨hgr.gv.w1,hv.w3.1,hv.w3.2.1,hv.w3.2.2,hgr.t.w5.2.2.2.2⟩) (fun hT => ?_)
   clear hK K
   (try simp only [Act.put,Q3,Q4,Q5])
   refine wpAnyK_done (by kernel_rfl) ?_ _
   go_wp2_with fail
   go_ret
   exact ⟨rfl,hgr,⟨A1,A2,A3,d1,d2,d3,⟨hg,hm,hN,hE,hB⟩⟩,hbl⟩
  case refine_2 =>
   go_simp
   have nhgr:=hgr.alloc (.cells #[.slice none 0 0] 247)
   have nhv:=hv.alloc (.cells #[.slice none 0 0] 247)
   have nhg:=hg.alloc (.cells #[.slice none 0 0] 247)
   have nhm:=map_below hm ((Below.refl _ _).alloc (Nat.le_refl _) (.cells #[.slice none 0 0] 247))
   have nhN:=hN.alloc (.cells #[.slice none 0 0] 247)
   have nhE:=hE.alloc (.cells #[.slice none 0 0] 247)
   have nhB:=hB.alloc (.cells #[.slice none 0 0] 247)
   have nhbl:=hbl.alloc (Nat.le_trans hlw hbl.size) (.cells #[.slice none 0 0] 247)
   have nb1:=b1.alloc (.cells #[.slice none 0 0] 247)
   clear hgr hv hg hm hN hE hB hbl b1
   have hgr:=nhgr
   have hv:=nhv
   have hg:=nhg
   have hm:=nhm
   have hN:=nhN
   have hE:=nhE
   have hB:=nhB
   have hbl:=nhbl
   have b1:=nb1
   clear nhgr nhv nhg nhm nhN nhE nhB nhbl nb1
   have b2 : Blk ((X2.drew.alloc (.cells #[.int .i64 0,.int .i64 0,.int .i64 0] 234)).alloc (.cells #[.slice none 0 0] 247)) (X2.heap.size + 1) 247 #[.slice none 0 0]:=Blk.at_ _ (by simp)
   have zl : lo ≤ ((X2.drew.alloc (.cells #[.int .i64 0,.int .i64 0,.int .i64 0] 234)).alloc (.cells #[.slice none 0 0] 247)).heap.size:=by first | omega | (simp; omega) | (simp at zl ⊢; omega)
   refine hK.out _ _ (⟨hgr.gv.w1,hv.w3.1,hv.w3.2.1,hv.w3.2.2,hgr.t.w5.2.2.2.2⟩) (⟨hg.w5.2.1,hg.w5.2.2.1,hg.w5.2.2.2.1⟩) (fun hT hS => ?_)
   clear hK K
   (try simp only [Act.put,Q3,Q4,Q5])
   refine wpAnyK_ready (rs:=[9]) (by kernel_rfl) (by simp) ?_
   refine AllReadyK.cons rfl (fun K hK => ?_) AllReadyK.nil
   refine step_app (lo:=0) (base:=lo) (n:=0) (xs:=[]) _ rfl _ _ ty_states rfl hN rfl (Row.lit (n:=1) (size:=3) b1 (Nat.zero_le _) rfl) rfl rfl (by decide) (by decide) zl ?_
   intro A1 d1 wn oN gN _
   have kN:=own_kind hN
   have lN:=fun k hk => (hN.lt k hk).1
   have nhv : Blk wn v 234 #[.int .i64 0,.int .i64 0,.int .i64 0]:=(gN.block v hv.lt hvN).trans hv
   have zl : lo ≤ wn.heap.size:=Nat.le_trans zl gN.size
   clear b1
   have nhgr:=hgr.other gN kN (by decide)
   have nhg:=hg.other gN kN (by decide)
   have nhm:=map_other hm gN kN (by decide)
   have nhE:=own_other hE gN kN (by decide)
   have nhB:=own_other hB gN kN (by decide)
   have nhbl:=hbl.trans (below_of_grown gN (Nat.le_trans hlw hbl.size) (lN))
   have nb2:=b2.other gN kN (by decide)
   clear hgr hg hm hE hB hbl b2
   have hgr:=nhgr
   have hg:=nhg
   have hm:=nhm
   have hE:=nhE
   have hB:=nhB
   have hbl:=nhbl
   have b2:=nb2
   clear nhgr nhg nhm nhE nhB nhbl nb2
   clear hv hN
   have hv:=nhv
   have hN:=oN
   clear nhv oN
   refine hK.out _ _ (⟨hgr.gv.w1,hv.w3.1,hv.w3.2.1,hv.w3.2.2,hgr.t.w5.2.2.2.2⟩) (⟨hg.w5.2.1,hg.w5.2.2.1,hg.w5.2.2.2.1⟩) (fun hT hS => ?_)
   clear hK K
   (try simp only [Act.put,Q3,Q4,Q5])
   refine wpAnyK_ready (rs:=[15]) (by kernel_rfl) (by simp) ?_
   refine AllReadyK.cons rfl (fun K hK => ?_) AllReadyK.nil
   refine step_app (lo:=0) (base:=lo) (n:=0) (xs:=[]) _ rfl _ _ ty_stepss rfl hE rfl (Row.lit (n:=1) (size:=1) b2 (Nat.zero_le _) rfl) rfl rfl (by decide) (by decide) zl ?_
   intro A2 d2 we oE gE _
   have kE:=own_kind hE
   have lE:=fun k hk => (hE.lt k hk).1
   have zl : lo ≤ we.heap.size:=Nat.le_trans zl gE.size
   clear b2
   have nhgr:=hgr.other gE kE (by decide)
   have nhv:=hv.other gE kE (by decide)
   have nhg:=hg.other gE kE (by decide)
   have nhm:=map_other hm gE kE (by decide)
   have nhN:=own_other hN gE kE (by decide)
   have nhB:=own_other hB gE kE (by decide)
   have nhbl:=hbl.trans (below_of_grown gE (Nat.le_trans hlw hbl.size) (lE))
   clear hgr hv hg hm hN hB hbl
   have hgr:=nhgr
   have hv:=nhv
   have hg:=nhg
   have hm:=nhm
   have hN:=nhN
   have hB:=nhB
   have hbl:=nhbl
   clear nhgr nhv nhg nhm nhN nhB nhbl
   clear hE
   have hE:=oE
   clear oE
   refine hK.out _ _ (⟨hgr.gv.w1,hv.w3.1,hv.w3.2.1,hv.w3.2.2,hgr.t.w5.2.2.2.2⟩) (⟨hg.w5.2.1,hg.w5.2.2.1,hg.w5.2.2.2.1⟩) (fun hT hS => ?_)
   clear hK K
   (try simp only [Act.put,Q3,Q4,Q5])
   refine wpAnyK_ready (rs:=[23]) (by kernel_rfl) (by simp) ?_
   refine AllReadyK.cons rfl (fun K hK => ?_) AllReadyK.nil
   go_simp
   go_at_call 131
   refine (atGoal_0 _ hgr.wb).mono ?_
   rintro e wg ⟨rfl,hb⟩
   have zl : lo ≤ wg.heap.size:=Nat.le_trans zl hb.size
   have nhgr:=hgr.below hb
   have nhv:=hv.below hb
   have nhg:=hg.below hb
   have nhm:=map_below hm hb
   have nhN:=own_keep hN hb
   have nhE:=own_keep hE hb
   have nhB:=own_keep hB hb
   have nhbl:=hbl.trans (hb.mono (Nat.le_trans hlw hbl.size))
   clear hgr hv hg hm hN hE hB hbl
   have hgr:=nhgr
   have hv:=nhv
   have hg:=nhg
   have hm:=nhm
   have hN:=nhN
   have hE:=nhE
   have hB:=nhB
   have hbl:=nhbl
   clear nhgr nhv nhg nhm nhN nhE nhB nhbl
   go_wp2_with fail
   refine hK.out _ _ (⟨hgr.gv.w1,hv.w3.1,hv.w3.2.1,hv.w3.2.2,hgr.t.w5.2.2.2.2⟩) (⟨hg.w5.2.1,hg.w5.2.2.1,hg.w5.2.2.2.1⟩) (fun hT hS => ?_)
   clear hK K
   (try simp only [Act.put,Q3,Q4,Q5])
   refine wpAnyK_ready (rs:=[24]) (by kernel_rfl) (by simp) ?_
   refine AllReadyK.cons rfl (fun K hK => ?_) AllReadyK.nil
   go_simp
   have nhgr:=hgr.alloc (.cells #[.bool false] 4)
   have nhv:=hv.alloc (.cells #[.bool false] 4)
   have nhg:=hg.alloc (.cells #[.bool false] 4)
   have nhm:=map_below hm ((Below.refl _ _).alloc (Nat.le_refl _) (.cells #[.bool false] 4))
   have nhN:=hN.alloc (.cells #[.bool false] 4)
   have nhE:=hE.alloc (.cells #[.bool false] 4)
   have nhB:=hB.alloc (.cells #[.bool false] 4)
   have nhbl:=hbl.alloc (Nat.le_trans hlw hbl.size) (.cells #[.bool false] 4)
   clear hgr hv hg hm hN hE hB hbl
   have hgr:=nhgr
   have hv:=nhv
   have hg:=nhg
   have hm:=nhm
   have hN:=nhN
   have hE:=nhE
   have hB:=nhB
   have hbl:=nhbl
   clear nhgr nhv nhg nhm nhN nhE nhB nhbl
   have b3 : Blk (wg.alloc (.cells #[.bool false] 4)) (wg.heap.size) 4 #[.bool false]:=Blk.at_ _ (by simp)
   have zl : lo ≤ (wg.alloc (.cells #[.bool false] 4)).heap.size:=by first | omega | (simp; omega) | (simp at zl ⊢; omega)
   refine hK.out _ _ (⟨hgr.gv.w1,hv.w3.1,hv.w3.2.1,hv.w3.2.2,hgr.t.w5.2.2.2.2⟩) (⟨hg.w5.2.1,hg.w5.2.2.1,hg.w5.2.2.2.1⟩) (fun hT hS => ?_)
   clear hK K
   (try simp only [Act.put,Q3,Q4,Q5])
   refine wpAnyK_ready (rs:=[25]) (by kernel_rfl) (by simp) ?_
   refine AllReadyK.cons rfl (fun K hK => ?_) AllReadyK.nil
   refine step_app (lo:=0) (base:=lo) (n:=0) (xs:=[]) _ rfl _ _ ty_boolz rfl hB rfl (Row.lit (n:=1) (size:=1) b3 (Nat.zero_le _) rfl) rfl rfl (by decide) (by decide) zl ?_
   intro A3 d3 wb oB gB _
   have kB:=own_kind hB
   have lB:=fun k hk => (hB.lt k hk).1
   have zl : lo ≤ wb.heap.size:=Nat.le_trans zl gB.size
   clear b3
   have nhgr:=hgr.other gB kB (by decide)
   have nhv:=hv.other gB kB (by decide)
   have nhg:=hg.other gB kB (by decide)
   have nhm:=map_other hm gB kB (by decide)
   have nhN:=own_other hN gB kB (by decide)
   have nhE:=own_other hE gB kB (by decide)
   have nhbl:=hbl.trans (below_of_grown gB (Nat.le_trans hlw hbl.size) (lB))
   clear hgr hv hg hm hN hE hbl
   have hgr:=nhgr
   have hv:=nhv
   have hg:=nhg
   have hm:=nhm
   have hN:=nhN
   have hE:=nhE
   have hbl:=nhbl
   clear nhgr nhv nhg nhm nhN nhE nhbl
   clear hB
   have hB:=oB
   clear oB
   refine hK.out _ _ (⟨hgr.gv.w1,hv.w3.1,hv.w3.2.1,hv.w3.2.2,hgr.t.w5.2.2.2.2⟩) (⟨hg.w5.2.1,hg.w5.2.2.1,hg.w5.2.2.2.1⟩) (fun hT hS => ?_)
   clear hK K
   (try simp only [Act.put,Q3,Q4,Q5])
   (refine wpAnyK_take2 (i:=26) (v:=?_) (by (simp only [Q0,Q1,Q2]; rfl)) (by kernel_rfl) (by kernel_rfl) (by kernel_rfl) (by decide) (by exact fun _ _ _ h => h) (Or.inl ⟨by rfl,?_⟩) (by assumption) (by assumption) ?_; (rotate_left 1; (intro w hSw; (try dsimp only at hSw); go_simp); (try with_reducible rfl)); (try simp only [Act.put,Q3,Q4,Q5]))
   (refine wpAnyK_take2 (i:=27) (v:=?_) (by (simp only [Q0,Q1,Q2]; rfl)) (by kernel_rfl) (by kernel_rfl) (by kernel_rfl) (by decide) (by exact fun _ _ _ h => h) (Or.inl ⟨by rfl,?_⟩) (by assumption) (by assumption) ?_; (rotate_left 1; (intro w hSw; (try dsimp only at hSw); go_simp); (try with_reducible rfl)); (try simp only [Act.put,Q3,Q4,Q5]))
   refine wpAnyK_ready (rs:=[28]) (by kernel_rfl) (by simp) ?_
   refine AllReadyK.consT (by kernel_rfl) rfl (fun K hK => ?_) AllReadyK.nil
   obtain ⟨k0,k1,k2,k3,k4⟩:=hg.w5
   have kf:=hg.thaw 1
   have zg:=hg.lt
   go_simp
   clear k0 k1 k2 k3 k4 kf zg
   have kg:=hg.kind
   have ghg:=hg.poke 1 (.slice A1 1 d1)
   have nhgr:=hgr.other (grown_poke _ g 1 (.slice A1 1 d1)) kg (by decide)
   have nhv:=hv.other (grown_poke _ g 1 (.slice A1 1 d1)) kg (by decide)
   have nhm:=map_other hm (grown_poke _ g 1 (.slice A1 1 d1)) kg (by decide)
   have nhN:=own_other hN (grown_poke _ g 1 (.slice A1 1 d1)) kg (by decide)
   have nhE:=own_other hE (grown_poke _ g 1 (.slice A1 1 d1)) kg (by decide)
   have nhB:=own_other hB (grown_poke _ g 1 (.slice A1 1 d1)) kg (by decide)
   have nhbl:=hbl.trans (below_of_grown (grown_poke _ g 1 (.slice A1 1 d1)) (Nat.le_trans hlw hbl.size) (fun k hk => by injection hk with hk; omega))
   clear hgr hv hm hN hE hB hbl
   have hgr:=nhgr
   have hv:=nhv
   have hm:=nhm
   have hN:=nhN
   have hE:=nhE
   have hB:=nhB
   have hbl:=nhbl
   clear nhgr nhv nhm nhN nhE nhB nhbl
   have hg:=ghg
   clear ghg kg
   simp only [Q3,Q4,Q5] at hg
   refine hK.out _ _ (⟨hgr.gv.w1,hv.w3.1,hv.w3.2.1,hv.w3.2.2,hgr.t.w5.2.2.2.2⟩) (fun hT => ?_)
   clear hK K
   (try simp only [Act.put,Q3,Q4,Q5])
   (refine wpAnyK_take3 (i:=29) (v:=?_) (by (simp only [Q0,Q1,Q2]; rfl)) (by kernel_rfl) (by kernel_rfl) (by kernel_rfl) (by decide) (by kernel_rfl) (by exact fun _ _ _ h => h) (Or.inl ⟨by rfl,?_⟩) (by assumption) ?_; (rotate_left 1; (intro w hSw; (try dsimp only at hSw); go_simp); (try with_reducible rfl)); (try simp only [Act.put,Q3,Q4,Q5]))
   (refine wpAnyK_take3 (i:=30) (v:=?_) (by (simp only [Q0,Q1,Q2]; rfl)) (by kernel_rfl) (by kernel_rfl) (by kernel_rfl) (by decide) (by kernel_rfl) (by exact fun _ _ _ h => h) (Or.inl ⟨by rfl,?_⟩) (by assumption) ?_; (rotate_left 1; (intro w hSw; (try dsimp only at hSw); go_simp); (try with_reducible rfl)); (try simp only [Act.put,Q3,Q4,Q5]))
   refine wpAnyK_ready (rs:=[31]) (by kernel_rfl) (by simp) ?_
   refine AllReadyK.consT (by kernel_rfl) rfl (fun K hK => ?_) AllReadyK.nil
   obtain ⟨k0,k1,k2,k3,k4⟩:=hg.w5
   have kf:=hg.thaw 2
   have zg:=hg.lt
   go_simp
   clear k0 k1 k2 k3 k4 kf zg
   have kg:=hg.kind
   have ghg:=hg.poke 2 (.slice A2 1 d2)
   have nhgr:=hgr.other (grown_poke _ g 2 (.slice A2 1 d2)) kg (by decide)
   have nhv:=hv.other (grown_poke _ g 2 (.slice A2 1 d2)) kg (by decide)
   have nhm:=map_other hm (grown_poke _ g 2 (.slice A2 1 d2)) kg (by decide)
   have nhN:=own_other hN (grown_poke _ g 2 (.slice A2 1 d2)) kg (by decide)
   have nhE:=own_other hE (grown_poke _ g 2 (.slice A2 1 d2)) kg (by decide)
   have nhB:=own_other hB (grown_poke _ g 2 (.slice A2 1 d2)) kg (by decide)
   have nhbl:=hbl.trans (below_of_grown (grown_poke _ g 2 (.slice A2 1 d2)) (Nat.le_trans hlw hbl.size) (fun k hk => by injection hk with hk; omega))
   clear hgr hv hm hN hE hB hbl
   have hgr:=nhgr
   have hv:=nhv
   have hm:=nhm
   have hN:=nhN
   have hE:=nhE
   have hB:=nhB
   have hbl:=nhbl
   clear nhgr nhv nhm nhN nhE nhB nhbl
   have hg:=ghg
   clear ghg kg
   simp only [Q3,Q4,Q5] at hg
   refine hK.out _ _ (⟨hgr.gv.w1,hv.w3.1,hv.w3.2.1,hv.w3.2.2,hgr.t.w5.2.2.2.2⟩) (fun hT => ?_)
   clear hK K
   (try simp only [Act.put,Q3,Q4,Q5])
   (refine wpAnyK_take3 (i:=32) (v:=?_) (by (simp only [Q0,Q1,Q2]; rfl)) (by kernel_rfl) (by kernel_rfl) (by kernel_rfl) (by decide) (by kernel_rfl) (by exact fun _ _ _ h => h) (Or.inl ⟨by rfl,?_⟩) (by assumption) ?_; (rotate_left 1; (intro w hSw; (try dsimp only at hSw); go_simp); (try with_reducible rfl)); (try simp only [Act.put,Q3,Q4,Q5]))
   (refine wpAnyK_take3 (i:=33) (v:=?_) (by (simp only [Q0,Q1,Q2]; rfl)) (by kernel_rfl) (by kernel_rfl) (by kernel_rfl) (by decide) (by kernel_rfl) (by exact fun _ _ _ h => h) (Or.inl ⟨by rfl,?_⟩) (by assumption) ?_; (rotate_left 1; (intro w hSw; (try dsimp only at hSw); go_simp); (try with_reducible rfl)); (try simp only [Act.put,Q3,Q4,Q5]))
   refine wpAnyK_ready (rs:=[34]) (by kernel_rfl) (by simp) ?_
   refine AllReadyK.consT (by kernel_rfl) rfl (fun K hK => ?_) AllReadyK.nil
   obtain ⟨k0,k1,k2,k3,k4⟩:=hg.w5
   have kf:=hg.thaw 3
   have zg:=hg.lt
   go_simp
   clear k0 k1 k2 k3 k4 kf zg
   have kg:=hg.kind
   have ghg:=hg.poke 3 (.slice A3 1 d3)
   have nhgr:=hgr.other (grown_poke _ g 3 (.slice A3 1 d3)) kg (by decide)
   have nhv:=hv.other (grown_poke _ g 3 (.slice A3 1 d3)) kg (by decide)
   have nhm:=map_other hm (grown_poke _ g 3 (.slice A3 1 d3)) kg (by decide)
   have nhN:=own_other hN (grown_poke _ g 3 (.slice A3 1 d3)) kg (by decide)
   have nhE:=own_other hE (grown_poke _ g 3 (.slice A3 1 d3)) kg (by decide)
   have nhB:=own_other hB (grown_poke _ g 3 (.slice A3 1 d3)) kg (by decide)
   have nhbl:=hbl.trans (below_of_grown (grown_poke _ g 3 (.slice A3 1 d3)) (Nat.le_trans hlw hbl.size) (fun k hk => by injection hk with hk; omega))
   clear hgr hv hm hN hE hB hbl
   have hgr:=nhgr
   have hv:=nhv
   have hm:=nhm
   have hN:=nhN
   have hE:=nhE
   have hB:=nhB
   have hbl:=nhbl
   clear nhgr nhv nhm nhN nhE nhB nhbl
   have hg:=ghg
   clear ghg kg
   simp only [Q3,Q4,Q5] at hg
   refine hK.out _ _ (⟨hgr.gv.w1,hv.w3.1,hv.w3.2.1,hv.w3.2.2,hgr.t.w5.2.2.2.2⟩) (fun hT => ?_)
   clear hK K
   (try simp only [Act.put,Q3,Q4,Q5])
   refine wpAnyK_done (by kernel_rfl) ?_ _
   go_wp2_with fail
   go_ret
   exact ⟨rfl,hgr,⟨A1,A2,A3,d1,d2,d3,⟨hg,hm,hN,hE,hB⟩⟩,hbl⟩
 case refine_2 =>
  go_simp
  have nhgr:=hgr.alloc (.cells #[.slice none 0 0] 247)
  have nhv:=hv.alloc (.cells #[.slice none 0 0] 247)
  have nhg:=hg.alloc (.cells #[.slice none 0 0] 247)
  have nhm:=map_below hm ((Below.refl _ _).alloc (Nat.le_refl _) (.cells #[.slice none 0 0] 247))
  have nhN:=hN.alloc (.cells #[.slice none 0 0] 247)
  have nhE:=hE.alloc (.cells #[.slice none 0 0] 247)
  have nhB:=hB.alloc (.cells #[.slice none 0 0] 247)
  have nhbl:=hbl.alloc (Nat.le_trans hlw hbl.size) (.cells #[.slice none 0 0] 247)
  clear hgr hv hg hm hN hE hB hbl
  have hgr:=nhgr
  have hv:=nhv
  have hg:=nhg
  have hm:=nhm
  have hN:=nhN
  have hE:=nhE
  have hB:=nhB
  have hbl:=nhbl
  clear nhgr nhv nhg nhm nhN nhE nhB nhbl
  have b2 : Blk (X2.drew.alloc (.cells #[.slice none 0 0] 247)) (X2.heap.size) 247 #[.slice none 0 0]:=Blk.at_ _ (by simp)
  have zl : lo ≤ (X2.drew.alloc (.cells #[.slice none 0 0] 247)).heap.size:=by first | omega | (simp; omega) | (simp at zl ⊢; omega)
  refine hK.out _ _ (⟨hgr.gv.w1,hv.w3.1,hv.w3.2.1,hv.w3.2.2,hgr.t.w5.2.2.2.2⟩) (⟨hg.w5.2.1,hg.w5.2.2.1,hg.w5.2.2.2.1⟩) (fun hT hS => ?_)
  clear hK K
  (try simp only [Act.put,Q3,Q4,Q5])
  refine wpAnyK_ready (rs:=[8]) (by kernel_rfl) (by simp) ?_
  refine AllReadyK.cons rfl (fun K hK => ?_) AllReadyK.nil
  go_simp
  have nhgr:=hgr.alloc (.cells #[.int .i64 0,.int .i64 0,.int .i64 0] 234)
  have nhv:=hv.alloc (.cells #[.int .i64 0,.int .i64 0,.int .i64 0] 234)
  have nhg:=hg.alloc (.cells #[.int .i64 0,.int .i64 0,.int .i64 0] 234)
  have nhm:=map_below hm ((Below.refl _ _).alloc (Nat.le_refl _) (.cells #[.int .i64 0,.int .i64 0,.int .i64 0] 234))
  have nhN:=hN.alloc (.cells #[.int .i64 0,.int .i64 0,.int .i64 0] 234)
  have nhE:=hE.alloc (.cells #[.int .i64 0,.int .i64 0,.int .i64 0] 234)
  have nhB:=hB.alloc (.cells #[.int .i64 0,.int .i64 0,.int .i64 0] 234)
  have nhbl:=hbl.alloc (Nat.le_trans hlw hbl.size) (.cells #[.int .i64 0,.int .i64 0,.int .i64 0] 234)
  have nb2:=b2.alloc (.cells #[.int .i64 0,.int .i64 0,.int .i64 0] 234)
  clear hgr hv hg hm hN hE hB hbl b2
  have hgr:=nhgr
  have hv:=nhv
  have hg:=nhg
  have hm:=nhm
  have hN:=nhN
  have hE:=nhE
  have hB:=nhB
  have hbl:=nhbl
  have b2:=nb2
  clear nhgr nhv nhg nhm nhN nhE nhB nhbl nb2
  have b1 : Blk ((X2.drew.alloc (.cells #[.slice none 0 0] 247)).alloc (.cells #[.int .i64 0,.int .i64 0,.int .i64 0] 234)) (X2.heap.size + 1) 234 #[.int .i64 0,.int .i64 0,.int .i64 0]:=Blk.at_ _ (by simp)
  have zl : lo ≤ ((X2.drew.alloc (.cells #[.slice none 0 0] 247)).alloc (.cells #[.int .i64 0,.int .i64 0,.int .i64 0] 234)).heap.size:=by first | omega | (simp; omega) | (simp at zl ⊢; omega)
  refine hK.out _ _ (⟨hgr.gv.w1,hv.w3.1,hv.w3.2.1,hv.w3.2.2,hgr.t.w5.2.2.2.2⟩) (⟨hg.w5.2.1,hg.w5.2.2.1,hg.w5.2.2.2.1⟩) (fun hT hS => ?_)
  clear hK K
  (try simp only [Act.put,Q3,Q4,Q5])
  refine wpAnyK_ready (rs:=[9]) (by kernel_rfl) (by simp) ?_
  refine AllReadyK.cons rfl (fun K hK => ?_) AllReadyK.nil
  refine step_app (lo:=0) (base:=lo) (n:=0) (xs:=[]) _ rfl _ _ ty_states rfl hN rfl (Row.lit (n:=1) (size:=3) b1 (Nat.zero_le _) rfl) rfl rfl (by decide) (by decide) zl ?_
  intro A1 d1 wn oN gN _
  have kN:=own_kind hN
  have lN:=fun k hk => (hN.lt k hk).1
  have nhv : Blk wn v 234 #[.int .i64 0,.int .i64 0,.int .i64 0]:=(gN.block v hv.lt hvN).trans hv
  have zl : lo ≤ wn.heap.size:=Nat.le_trans zl gN.size
  clear b1
  have nhgr:=hgr.other gN kN (by decide)
  have nhg:=hg.other gN kN (by decide)
  have nhm:=map_other hm gN kN (by decide)
  have nhE:=own_other hE gN kN (by decide)
  have nhB:=own_other hB gN kN (by decide)
  have nhbl:=hbl.trans (below_of_grown gN (Nat.le_trans hlw hbl.size) (lN))
  have nb2:=b2.other gN kN (by decide)
  clear hgr hg hm hE hB hbl b2
  have hgr:=nhgr
  have hg:=nhg
  have hm:=nhm
  have hE:=nhE
  have hB:=nhB
  have hbl:=nhbl
  have b2:=nb2
  clear nhgr nhg nhm nhE nhB nhbl nb2
  clear hv hN
  have hv:=nhv
  have hN:=oN
  clear nhv oN
  refine hK.out _ _ (⟨hgr.gv.w1,hv.w3.1,hv.w3.2.1,hv.w3.2.2,hgr.t.w5.2.2.2.2⟩) (⟨hg.w5.2.1,hg.w5.2.2.1,hg.w5.2.2.2.1⟩) (fun hT hS => ?_)
  clear hK K
  (try simp only [Act.put,Q3,Q4,Q5])
  refine wpAnyK_ready (rs:=[15]) (by kernel_rfl) (by simp) ?_
  refine AllReadyK.cons rfl (fun K hK => ?_) AllReadyK.nil
  refine step_app (lo:=0) (base:=lo) (n:=0) (xs:=[]) _ rfl _ _ ty_stepss rfl hE rfl (Row.lit (n:=1) (size:=1) b2 (Nat.zero_le _) rfl) rfl rfl (by decide) (by decide) zl ?_
  intro A2 d2 we oE gE _
  have kE:=own_kind hE
  have lE:=fun k hk => (hE.lt k hk).1
  have zl : lo ≤ we.heap.size:=Nat.le_trans zl gE.size
  clear b2
  have nhgr:=hgr.other gE kE (by decide)
  have nhv:=hv.other gE kE (by decide)
  have nhg:=hg.other gE kE (by decide)
  have nhm:=map_other hm gE kE (by decide)
  have nhN:=own_other hN gE kE (by decide)
  have nhB:=own_other hB gE kE (by decide)
  have nhbl:=hbl.trans (below_of_grown gE (Nat.le_trans hlw hbl.size) (lE))
  clear hgr hv hg hm hN hB hbl
  have hgr:=nhgr
  have hv:=nhv
  have hg:=nhg
  have hm:=nhm
  have hN:=nhN
  have hB:=nhB
  have hbl:=nhbl
  clear nhgr nhv nhg nhm nhN nhB nhbl
  clear hE
  have hE:=oE
  clear oE
  refine hK.out _ _ (⟨hgr.gv.w1,hv.w3.1,hv.w3.2.1,hv.w3.2.2,hgr.t.w5.2.2.2.2⟩) (⟨hg.w5.2.1,hg.w5.2.2.1,hg.w5.2.2.2.1⟩) (fun hT hS => ?_)
  clear hK K
  (try simp only [Act.put,Q3,Q4,Q5])
  refine wpAnyK_ready (rs:=[23]) (by kernel_rfl) (by simp) ?_
  refine AllReadyK.cons rfl (fun K hK => ?_) AllReadyK.nil
  go_simp
  go_at_call 131
  refine (atGoal_0 _ hgr.wb).mono ?_
  rintro e wg ⟨rfl,hb⟩
  have zl : lo ≤ wg.heap.size:=Nat.le_trans zl hb.size
  have nhgr:=hgr.below hb
  have nhv:=hv.below hb
  have nhg:=hg.below hb
  have nhm:=map_below hm hb
  have nhN:=own_keep hN hb
  have nhE:=own_keep hE hb
  have nhB:=own_keep hB hb
  have nhbl:=hbl.trans (hb.mono (Nat.le_trans hlw hbl.size))
  clear hgr hv hg hm hN hE hB hbl
  have hgr:=nhgr
  have hv:=nhv
  have hg:=nhg
  have hm:=nhm
  have hN:=nhN
  have hE:=nhE
  have hB:=nhB
  have hbl:=nhbl
  clear nhgr nhv nhg nhm nhN nhE nhB nhbl
  go_wp2_with fail
  refine hK.out _ _ (⟨hgr.gv.w1,hv.w3.1,hv.w3.2.1,hv.w3.2.2,hgr.t.w5.2.2.2.2⟩) (⟨hg.w5.2.1,hg.w5.2.2.1,hg.w5.2.2.2.1⟩) (fun hT hS => ?_)
  clear hK K
  (try simp only [Act.put,Q3,Q4,Q5])
  refine wpAnyK_ready (rs:=[24]) (by kernel_rfl) (by simp) ?_
  refine AllReadyK.cons rfl (fun K hK => ?_) AllReadyK.nil
  go_simp
  have nhgr:=hgr.alloc (.cells #[.bool false] 4)
  have nhv:=hv.alloc (.cells #[.bool false] 4)
  have nhg:=hg.alloc (.cells #[.bool false] 4)
  have nhm:=map_below hm ((Below.refl _ _).alloc (Nat.le_refl _) (.cells #[.bool false] 4))
  have nhN:=hN.alloc (.cells #[.bool false] 4)
  have nhE:=hE.alloc (.cells #[.bool false] 4)
  have nhB:=hB.alloc (.cells #[.bool false] 4)
  have nhbl:=hbl.alloc (Nat.le_trans hlw hbl.size) (.cells #[.bool false] 4)
  clear hgr hv hg hm hN hE hB hbl
  have hgr:=nhgr
  have hv:=nhv
  have hg:=nhg
  have hm:=nhm
  have hN:=nhN
  have hE:=nhE
  have hB:=nhB
  have hbl:=nhbl
  clear nhgr nhv nhg nhm nhN nhE nhB nhbl
  have b3 : Blk (wg.alloc (.cells #[.bool false] 4)) (wg.heap.size) 4 #[.bool false]:=Blk.at_ _ (by simp)
  have zl : lo ≤ (wg.alloc (.cells #[.bool false] 4)).heap.size:=by first | omega | (simp; omega) | (simp at zl ⊢; omega)
  refine hK.out _ _ (⟨hgr.gv.w1,hv.w3.1,hv.w3.2.1,hv.w3.2.2,hgr.t.w5.2.2.2.2⟩) (⟨hg.w5.2.1,hg.w5.2.2.1,hg.w5.2.2.2.1⟩) (fun hT hS => ?_)
  clear hK K
  (try simp only [Act.put,Q3,Q4,Q5])
  refine wpAnyK_ready (rs:=[25]) (by kernel_rfl) (by simp) ?_
  refine AllReadyK.cons rfl (fun K hK => ?_) AllReadyK.nil
  refine step_app (lo:=0) (base:=lo) (n:=0) (xs:=[]) _ rfl _ _ ty_boolz rfl hB rfl (Row.lit (n:=1) (size:=1) b3 (Nat.zero_le _) rfl) rfl rfl (by decide) (by decide) zl ?_
  intro A3 d3 wb oB gB _
  have kB:=own_kind hB
  have lB:=fun k hk => (hB.lt k hk).1
  have zl : lo ≤ wb.heap.size:=Nat.le_trans zl gB.size
  clear b3
  have nhgr:=hgr.other gB kB (by decide)
  have nhv:=hv.other gB kB (by decide)
  have nhg:=hg.other gB kB (by decide)
  have nhm:=map_other hm gB kB (by decide)
  have nhN:=own_other hN gB kB (by decide)
  have nhE:=own_other hE gB kB (by decide)
  have nhbl:=hbl.trans (below_of_grown gB (Nat.le_trans hlw hbl.size) (lB))
  clear hgr hv hg hm hN hE hbl
  have hgr:=nhgr
  have hv:=nhv
  have hg:=nhg
  have hm:=nhm
  have hN:=nhN
  have hE:=nhE
  have hbl:=nhbl
  clear nhgr nhv nhg nhm nhN nhE nhbl
  clear hB
  have hB:=oB
  clear oB
  refine hK.out _ _ (⟨hgr.gv.w1,hv.w3.1,hv.w3.2.1,hv.w3.2.2,hgr.t.w5.2.2.2.2⟩) (⟨hg.w5.2.1,hg.w5.2.2.1,hg.w5.2.2.2.1⟩) (fun hT hS => ?_)
  clear hK K
  (try simp only [Act.put,Q3,Q4,Q5])
  (refine wpAnyK_take2 (i:=26) (v:=?_) (by (simp only [Q0,Q1,Q2]; rfl)) (by kernel_rfl) (by kernel_rfl) (by kernel_rfl) (by decide) (by exact fun _ _ _ h => h) (Or.inl ⟨by rfl,?_⟩) (by assumption) (by assumption) ?_; (rotate_left 1; (intro w hSw; (try dsimp only at hSw); go_simp); (try with_reducible rfl)); (try simp only [Act.put,Q3,Q4,Q5]))
  (refine wpAnyK_take2 (i:=27) (v:=?_) (by (simp only [Q0,Q1,Q2]; rfl)) (by kernel_rfl) (by kernel_rfl) (by kernel_rfl) (by decide) (by exact fun _ _ _ h => h) (Or.inl ⟨by rfl,?_⟩) (by assumption) (by assumption) ?_; (rotate_left 1; (intro w hSw; (try dsimp only at hSw); go_simp); (try with_reducible rfl)); (try simp only [Act.put,Q3,Q4,Q5]))
  refine wpAnyK_ready (rs:=[28]) (by kernel_rfl) (by simp) ?_
  refine AllReadyK.consT (by kernel_rfl) rfl (fun K hK => ?_) AllReadyK.nil
  obtain ⟨k0,k1,k2,k3,k4⟩:=hg.w5
  have kf:=hg.thaw 1
  have zg:=hg.lt
  go_simp
  clear k0 k1 k2 k3 k4 kf zg
  have kg:=hg.kind
  have ghg:=hg.poke 1 (.slice A1 1 d1)
  have nhgr:=hgr.other (grown_poke _ g 1 (.slice A1 1 d1)) kg (by decide)
  have nhv:=hv.other (grown_poke _ g 1 (.slice A1 1 d1)) kg (by decide)
  have nhm:=map_other hm (grown_poke _ g 1 (.slice A1 1 d1)) kg (by decide)
  have nhN:=own_other hN (grown_poke _ g 1 (.slice A1 1 d1)) kg (by decide)
  have nhE:=own_other hE (grown_poke _ g 1 (.slice A1 1 d1)) kg (by decide)
  have nhB:=own_other hB (grown_poke _ g 1 (.slice A1 1 d1)) kg (by decide)
  have nhbl:=hbl.trans (below_of_grown (grown_poke _ g 1 (.slice A1 1 d1)) (Nat.le_trans hlw hbl.size) (fun k hk => by injection hk with hk; omega))
  clear hgr hv hm hN hE hB hbl
  have hgr:=nhgr
  have hv:=nhv
  have hm:=nhm
  have hN:=nhN
  have hE:=nhE
  have hB:=nhB
  have hbl:=nhbl
  clear nhgr nhv nhm nhN nhE nhB nhbl
  have hg:=ghg
  clear ghg kg
  simp only [Q3,Q4,Q5] at hg
  refine hK.out _ _ (⟨hgr.gv.w1,hv.w3.1,hv.w3.2.1,hv.w3.2.2,hgr.t.w5.2.2.2.2⟩) (fun hT => ?_)
  clear hK K
  (try simp only [Act.put,Q3,Q4,Q5])
  (refine wpAnyK_take3 (i:=29) (v:=?_) (by (simp only [Q0,Q1,Q2]; rfl)) (by kernel_rfl) (by kernel_rfl) (by kernel_rfl) (by decide) (by kernel_rfl) (by exact fun _ _ _ h => h) (Or.inl ⟨by rfl,?_⟩) (by assumption) ?_; (rotate_left 1; (intro w hSw; (try dsimp only at hSw); go_simp); (try with_reducible rfl)); (try simp only [Act.put,Q3,Q4,Q5]))
  (refine wpAnyK_take3 (i:=30) (v:=?_) (by (simp only [Q0,Q1,Q2]; rfl)) (by kernel_rfl) (by kernel_rfl) (by kernel_rfl) (by decide) (by kernel_rfl) (by exact fun _ _ _ h => h) (Or.inl ⟨by rfl,?_⟩) (by assumption) ?_; (rotate_left 1; (intro w hSw; (try dsimp only at hSw); go_simp); (try with_reducible rfl)); (try simp only [Act.put,Q3,Q4,Q5]))
  refine wpAnyK_ready (rs:=[31]) (by kernel_rfl) (by simp) ?_
  refine AllReadyK.consT (by kernel_rfl) rfl (fun K hK => ?_) AllReadyK.nil
  obtain ⟨k0,k1,k2,k3,k4⟩:=hg.w5
  have kf:=hg.thaw 2
  have zg:=hg.lt
  go_simp
  clear k0 k1 k2 k3 k4 kf zg
  have kg:=hg.kind
  have ghg:=hg.poke 2 (.slice A2 1 d2)
  have nhgr:=hgr.other (grown_poke _ g 2 (.slice A2 1 d2)) kg (by decide)
  have nhv:=hv.other (grown_poke _ g 2 (.slice A2 1 d2)) kg (by decide)
  have nhm:=map_other hm (grown_poke _ g 2 (.slice A2 1 d2)) kg (by decide)
  have nhN:=own_other hN (grown_poke _ g 2 (.slice A2 1 d2)) kg (by decide)
  have nhE:=own_other hE (grown_poke _ g 2 (.slice A2 1 d2)) kg (by decide)
  have nhB:=own_other hB (grown_poke _ g 2 (.slice A2 1 d2)) kg (by decide)
  have nhbl:=hbl.trans (below_of_grown (grown_poke _ g 2 (.slice A2 1 d2)) (Nat.le_trans hlw hbl.size) (fun k hk => by injection hk with hk; omega))
  clear hgr hv hm hN hE hB hbl
  have hgr:=nhgr
  have hv:=nhv
  have hm:=nhm
  have hN:=nhN
  have hE:=nhE
  have hB:=nhB
  have hbl:=nhbl
  clear nhgr nhv nhm nhN nhE nhB nhbl
  have hg:=ghg
  clear ghg kg
  simp only [Q3,Q4,Q5] at hg
  refine hK.out _ _ (⟨hgr.gv.w1,hv.w3.1,hv.w3.2.1,hv.w3.2.2,hgr.t.w5.2.2.2.2⟩) (fun hT => ?_)
  clear hK K
  (try simp only [Act.put,Q3,Q4,Q5])
  (refine wpAnyK_take3 (i:=32) (v:=?_) (by (simp only [Q0,Q1,Q2]; rfl)) (by kernel_rfl) (by kernel_rfl) (by kernel_rfl) (by decide) (by kernel_rfl) (by exact fun _ _ _ h => h) (Or.inl ⟨by rfl,?_⟩) (by assumption) ?_; (rotate_left 1; (intro w hSw; (try dsimp only at hSw); go_simp); (try with_reducible rfl)); (try simp only [Act.put,Q3,Q4,Q5]))
  (refine wpAnyK_take3 (i:=33) (v:=?_) (by (simp only [Q0,Q1,Q2]; rfl)) (by kernel_rfl) (by kernel_rfl) (by kernel_rfl) (by decide) (by kernel_rfl) (by exact fun _ _ _ h => h) (Or.inl ⟨by rfl,?_⟩) (by assumption) ?_; (rotate_left 1; (intro w hSw; (try dsimp only at hSw); go_simp); (try with_reducible rfl)); (try simp only [Act.put,Q3,Q4,Q5]))
  refine wpAnyK_ready (rs:=[34]) (by kernel_rfl) (by simp) ?_
  refine AllReadyK.consT (by kernel_rfl) rfl (fun K hK => ?_) AllReadyK.nil
  obtain ⟨k0,k1,k2,k3,k4⟩:=hg.w5
  have kf:=hg.thaw 3
  have zg:=hg.lt
  go_simp
  clear k0 k1 k2 k3 k4 kf zg
  have kg:=hg.kind
  have ghg:=hg.poke 3 (.slice A3 1 d3)
  have nhgr:=hgr.other (grown_poke _ g 3 (.slice A3 1 d3)) kg (by decide)
  have nhv:=hv.other (grown_poke _ g 3 (.slice A3 1 d3)) kg (by decide)
  have nhm:=map_other hm (grown_poke _ g 3 (.slice A3 1 d3)) kg (by decide)
  have nhN:=own_other hN (grown_poke _ g 3 (.slice A3 1 d3)) kg (by decide)
  have nhE:=own_other hE (grown_poke _ g 3 (.slice A3 1 d3)) kg (by decide)
  have nhB:=own_other hB (grown_poke _ g 3 (.slice A3 1 d3)) kg (by decide)
  have nhbl:=hbl.trans (below_of_grown (grown_poke _ g 3 (.slice A3 1 d3)) (Nat.le_trans hlw hbl.size) (fun k hk => by injection hk with hk; omega))
  clear hgr hv hm hN hE hB hbl
  have hgr:=nhgr
  have hv:=nhv
  have hm:=nhm
  have hN:=nhN
  have hE:=nhE
  have hB:=nhB
  have hbl:=nhbl
  clear nhgr nhv nhm nhN nhE nhB nhbl
  have hg:=ghg
  clear ghg kg
  simp only [Q3,Q4,Q5] at hg
  refine hK.out _ _ (⟨hgr.gv.w1,hv.w3.1,hv.w3.2.1,hv.w3.2.2,hgr.t.w5.2.2.2.2⟩) (fun hT => ?_)
  clear hK K
  (try simp only [Act.put,Q3,Q4,Q5])
  refine wpAnyK_done (by kernel_rfl) ?_ _
  go_wp2_with fail
  go_ret
  exact ⟨rfl,hgr,⟨A1,A2,A3,d1,d2,d3,⟨hg,hm,hN,hE,hB⟩⟩,hbl⟩
set_option maxHeartbeats 4000000 in
set_option maxRecDepth 100000 in
theorem index_1 {L lo : Nat} {M p go g1 c1 g2 c2 g3 c3 : Nat} {x1 x2 x3 : Array Value} {g mv gv t mb : Nat} (NN NE NB : Option Addr) (CN CE CB : Nat) (Y : Value) (w : World) (hlo : lo ≤ w.heap.size) (hzg : lo ≤ g) (hzm : lo ≤ mb) (hgr : GR L w M p go g1 c1 g2 c2 g3 c3 x1 x2 x3 g mv gv t mb) (hgn : GN lo w p g mb 1 es1 [.int .i64 0,.int .i64 0,.int .i64 0] [Y] [.bool false] (.slice NN 1 CN) (.slice NE 1 CE) (.slice NB 1 CB)) :
  Calls Tryz.prog 162 #[.agg #[.int .i64 1,.int .i64 0,.int .i64 0],.pointer (some ⟨mv,0,none⟩),.pointer (some ⟨gv,0,none⟩),.pointer (some ⟨t,0,none⟩)] w fun e w' => e = .returned (.int .i64 1) ∧ GR L w' M p go g1 c1 g2 c2 g3 c3 x1 x2 x3 g mv gv t mb ∧ IxPost lo w' p g mb 2 es2 [.int .i64 0,.int .i64 0,.int .i64 0,.int .i64 1,.int .i64 0,.int .i64 0] [Y,.slice none 0 0] [.bool false,.bool true] ∧ Below lo w w':=by
 have hbl : Below lo w (w.alloc (.cells #[.int .i64 1,.int .i64 0,.int .i64 0] 234)):=(Below.refl _ _).alloc hlo _
 have hgr:=hgr.alloc (.cells #[.int .i64 1,.int .i64 0,.int .i64 0] 234)
 have hvN : some w.heap.size ≠ (Value.slice NN 1 CN).ownBlock:=fun e => absurd (hgn.N.lt _ e.symm).2 (Nat.lt_irrefl _)
 have hgn:=hgn.alloc (.cells #[.int .i64 1,.int .i64 0,.int .i64 0] 234)
 have hv : Blk (w.alloc (.cells #[.int .i64 1,.int .i64 0,.int .i64 0] 234)) w.heap.size 234 #[.int .i64 1,.int .i64 0,.int .i64 0]:=Blk.new _ _ _
 have zlo : lo ≤ (w.alloc (.cells #[.int .i64 1,.int .i64 0,.int .i64 0] 234)).heap.size:=by simp; omega
 go_enter Tryz.func162,Tryz.ntmps162
 go_upto_region 1 with (fail)
 generalize hV : w.heap.size = v at *
 generalize w.alloc (.cells #[.int .i64 1,.int .i64 0,.int .i64 0] 234) = X at *
 have hl:=lookup_s1 hgn.mb
 have hu:=update_s1 hgn.mb
 have q0 : X.cell? ⟨mv,0,none⟩ = some (.map (some mb)):=by simpa using hgr.mv.cell 0
 have q1 : X.cell? ⟨gv,0,none⟩ = some (.pointer (some ⟨g,0,none⟩)):=by simpa using hgr.gv.cell 0
 obtain ⟨v0,v1,v2⟩:=hv.w3
 obtain ⟨k0,k1,k2,k3,k4⟩:=hgn.g.w5
 simp only [s1] at hl hu
 go_upto_region 5 with (fail)
 have hgr2:=hgr.other (grown_map X mb (.map es2 2)) (map_kind hgn.mb) (by decide)
 have hv2:=hv.other (grown_map X mb (.map es2 2)) (map_kind hgn.mb) (by decide)
 have hg2:=hgn.g.other (grown_map X mb (.map es2 2)) (map_kind hgn.mb) (by decide)
 have hN2:=own_other hgn.N (grown_map X mb (.map es2 2)) (map_kind hgn.mb) (by decide)
 have hE2:=own_other hgn.E (grown_map X mb (.map es2 2)) (map_kind hgn.mb) (by decide)
 have hB2:=own_other hgn.B (grown_map X mb (.map es2 2)) (map_kind hgn.mb) (by decide)
 have hbl2:=hbl.trans (below_of_grown (grown_map X mb (.map es2 2)) zlo (fun k hk => by injection hk with hk; omega))
 have hm2:=map_put hgn.mb (.map es2 2)
 have zlo2 : lo ≤ ({ X with heap:=X.heap.setIfInBounds mb (.map es2 2) } : World).heap.size:=by simpa using zlo
 clear hbl hgr hv hgn hl hu q0 q1 v0 v1 v2 k0 k1 k2 k3 k4
 generalize ({ X with heap:=X.heap.setIfInBounds mb (.map es2 2) } : World) = X2 at *
 have hbl : Below lo w X2.drew:=hbl2.drew
 have hlw : lo ≤ w.heap.size:=by omega
 have hgr:=hgr2.drew
 have hv:=hv2.drew
 have hg:=hg2.drew
 have hN : X2.drew.ownsRow lo 234 3 _ _ _:=hN2
 have hE : X2.drew.ownsRow lo 247 1 _ _ _:=hE2
 have hB : X2.drew.ownsRow lo 4 1 _ _ _:=hB2
 have hm : X2.drew.heap[mb]? = _:=hm2
 have zl : lo ≤ X2.drew.heap.size:=zlo2
 clear hbl2 hgr2 hv2 hg2 hN2 hE2 hB2 hm2
 refine wp_region_heldK 28 (fun w' => w'.cell? ⟨g,1,none⟩ = some (.slice NN 1 CN) ∧ w'.cell? ⟨g,2,none⟩ = some (.slice NE 1 CE) ∧ w'.cell? ⟨g,3,none⟩ = some (.slice NB 1 CB)) (fun w' => w'.cell? ⟨gv,0,none⟩ = some (.pointer (some ⟨g,0,none⟩)) ∧ w'.cell? ⟨v,0,none⟩ = some (.int .i64 1) ∧ w'.cell? ⟨v,1,none⟩ = some (.int .i64 0) ∧ w'.cell? ⟨v,2,none⟩ = some (.int .i64 0) ∧ w'.cell? ⟨t,4,none⟩ = some (.func (.func 131) #[.pointer (some ⟨p,0,none⟩)] #[])) (by kernel_rfl) (⟨hgr.gv.w1,hv.w3.1,hv.w3.2.1,hv.w3.2.2,hgr.t.w5.2.2.2.2⟩) (⟨hg.w5.2.1,hg.w5.2.2.1,hg.w5.2.2.2.1⟩) (fun hT hS => ?_)
 (refine wpAnyK_take2 (i:=0) (v:=?_) (by (simp only [Q0,Q2]; rfl)) (by kernel_rfl) (by kernel_rfl) (by kernel_rfl) (by decide) (by exact fun _ _ _ h => h) (Or.inl ⟨by rfl,?_⟩) (by assumption) (by assumption) ?_; (rotate_left 1; (intro w hSw; (try dsimp only at hSw); go_simp); (try with_reducible rfl)); (try simp only [Act.put,Q3,Q4,Q5]))
 (refine wpAnyK_take2 (i:=1) (v:=?_) (by (simp only [Q0,Q1,Q2]; rfl)) (by kernel_rfl) (by kernel_rfl) (by kernel_rfl) (by decide) (by exact fun _ _ _ h => h) (Or.inl ⟨by rfl,?_⟩) (by assumption) (by assumption) ?_; (rotate_left 1; (intro w hSw; (try dsimp only at hSw); go_simp); (try with_reducible rfl)); (try simp only [Act.put,Q3,Q4,Q5]))
 (refine wpAnyK_take2 (i:=2) (v:=?_) (by (simp only [Q0,Q1,Q2]; rfl)) (by kernel_rfl) (by kernel_rfl) (by kernel_rfl) (by decide) (by exact fun _ _ _ h => h) (Or.inl ⟨by rfl,?_⟩) (by assumption) (by assumption) ?_; (rotate_left 1; (intro w hSw; (try dsimp only at hSw); go_simp); (try with_reducible rfl)); (try simp only [Act.put,Q3,Q4,Q5]))
 (refine wpAnyK_take2 (i:=3) (v:=?_) (by (simp only [Q0,Q1,Q2]; rfl)) (by kernel_rfl) (by kernel_rfl) (by kernel_rfl) (by decide) (by exact fun _ _ _ h => h) (Or.inl ⟨by rfl,?_⟩) (by assumption) (by assumption) ?_; (rotate_left 1; (intro w hSw; (try dsimp only at hSw); go_simp); (try with_reducible rfl)); (try simp only [Act.put,Q3,Q4,Q5]))
 (refine wpAnyK_take2 (i:=4) (v:=?_) (by (simp only [Q0,Q1,Q2]; rfl)) (by kernel_rfl) (by kernel_rfl) (by kernel_rfl) (by decide) (by exact fun _ _ _ h => h) (Or.inl ⟨by rfl,?_⟩) (by assumption) (by assumption) ?_; (rotate_left 1; (intro w hSw; (try dsimp only at hSw); go_simp); (try with_reducible rfl)); (try simp only [Act.put,Q3,Q4,Q5]))
 (refine wpAnyK_take2 (i:=5) (v:=?_) (by (simp only [Q0,Q1,Q2]; rfl)) (by kernel_rfl) (by kernel_rfl) (by kernel_rfl) (by decide) (by exact fun _ _ _ h => h) (Or.inl ⟨by rfl,?_⟩) (by assumption) (by assumption) ?_; (rotate_left 1; (intro w hSw; (try dsimp only at hSw); go_simp); (try with_reducible rfl)); (try simp only [Act.put,Q3,Q4,Q5]))
 (refine wpAnyK_take1 (i:=6) (v:=?_) (by (simp only [Q0,Q1,Q2]; rfl)) (by kernel_rfl) (by kernel_rfl) (by kernel_rfl) (by decide) (by kernel_rfl) (by kernel_rfl) (by exact fun _ _ _ h => h) (Or.inl ⟨by rfl,?_⟩) (by assumption) (by assumption) ?_; (rotate_left 1; (intro w hSw; (try dsimp only at hSw); go_simp); (try with_reducible rfl)); (try simp only [Act.put,Q3,Q4,Q5]))
 (refine wpAnyK_take2 (i:=7) (v:=?_) (by (simp only [Q0,Q1,Q2]; rfl)) (by kernel_rfl) (by kernel_rfl) (by kernel_rfl) (by decide) (by exact fun _ _ _ h => h) (Or.inl ⟨by rfl,?_⟩) (by assumption) (by assumption) ?_; (rotate_left 1; (intro w hSw; (try dsimp only at hSw); go_simp); (try with_reducible rfl)); (try simp only [Act.put,Q3,Q4,Q5]))
 (refine wpAnyK_take2 (i:=10) (v:=?_) (by (simp only [Q0,Q1,Q2]; rfl)) (by kernel_rfl) (by kernel_rfl) (by kernel_rfl) (by decide) (by exact fun _ _ _ h => h) (Or.inl ⟨by rfl,?_⟩) (by assumption) (by assumption) ?_; (rotate_left 1; (intro w hSw; (try dsimp only at hSw); go_simp); (try with_reducible rfl)); (try simp only [Act.put,Q3,Q4,Q5]))
 (refine wpAnyK_take2 (i:=11) (v:=?_) (by (simp only [Q0,Q1,Q2]; rfl)) (by kernel_rfl) (by kernel_rfl) (by kernel_rfl) (by decide) (by exact fun _ _ _ h => h) (Or.inl ⟨by rfl,?_⟩) (by assumption) (by assumption) ?_; (rotate_left 1; (intro w hSw; (try dsimp only at hSw); go_simp); (try with_reducible rfl)); (try simp only [Act.put,Q3,Q4,Q5]))
 (refine wpAnyK_take2 (i:=12) (v:=?_) (by (simp only [Q0,Q1,Q2]; rfl)) (by kernel_rfl) (by kernel_rfl) (by kernel_rfl) (by decide) (by exact fun _ _ _ h => h) (Or.inl ⟨by rfl,?_⟩) (by assumption) (by assumption) ?_; (rotate_left 1; (intro w hSw; (try dsimp only at hSw); go_simp); (try with_reducible rfl)); (try simp only [Act.put,Q3,Q4,Q5]))
 (refine wpAnyK_take1 (i:=13) (v:=?_) (by (simp only [Q0,Q1,Q2]; rfl)) (by kernel_rfl) (by kernel_rfl) (by kernel_rfl) (by decide) (by kernel_rfl) (by kernel_rfl) (by exact fun _ _ _ h => h) (Or.inl ⟨by rfl,?_⟩) (by assumption) (by assumption) ?_; (rotate_left 1; (intro w hSw; (try dsimp only at hSw); go_simp); (try with_reducible rfl)); (try simp only [Act.put,Q3,Q4,Q5]))
 (refine wpAnyK_take2 (i:=16) (v:=?_) (by (simp only [Q0,Q1,Q2]; rfl)) (by kernel_rfl) (by kernel_rfl) (by kernel_rfl) (by decide) (by exact fun _ _ _ h => h) (Or.inl ⟨by rfl,?_⟩) (by assumption) (by assumption) ?_; (rotate_left 1; (intro w hSw; (try dsimp only at hSw); go_simp); (try with_reducible rfl)); (try simp only [Act.put,Q3,Q4,Q5]))
 (refine wpAnyK_take2 (i:=17) (v:=?_) (by (simp only [Q0,Q1,Q2]; rfl)) (by kernel_rfl) (by kernel_rfl) (by kernel_rfl) (by decide) (by exact fun _ _ _ h => h) (Or.inl ⟨by rfl,?_⟩) (by assumption) (by assumption) ?_; (rotate_left 1; (intro w hSw; (try dsimp only at hSw); go_simp); (try with_reducible rfl)); (try simp only [Act.put,Q3,Q4,Q5]))
 (refine wpAnyK_take2 (i:=18) (v:=?_) (by (simp only [Q0,Q1,Q2]; rfl)) (by kernel_rfl) (by kernel_rfl) (by kernel_rfl) (by decide) (by exact fun _ _ _ h => h) (Or.inl ⟨by rfl,?_⟩) (by assumption) (by assumption) ?_; (rotate_left 1; (intro w hSw; (try dsimp only at hSw); go_simp); (try with_reducible rfl)); (try simp only [Act.put,Q3,Q4,Q5]))
 (refine wpAnyK_take1 (i:=19) (v:=?_) (by (simp only [Q0,Q1,Q2]; rfl)) (by kernel_rfl) (by kernel_rfl) (by kernel_rfl) (by decide) (by kernel_rfl) (by kernel_rfl) (by exact fun _ _ _ h => h) (Or.inl ⟨by rfl,?_⟩) (by assumption) (by assumption) ?_; (rotate_left 1; (intro w hSw; (try dsimp only at hSw); go_simp); (try with_reducible rfl)); (try simp only [Act.put,Q3,Q4,Q5]))
 (refine wpAnyK_take2 (i:=20) (v:=?_) (by (simp only [Q0,Q1,Q2]; rfl)) (by kernel_rfl) (by kernel_rfl) (by kernel_rfl) (by decide) (by exact fun _ _ _ h => h) (Or.inl ⟨by rfl,?_⟩) (by assumption) (by assumption) ?_; (rotate_left 1; (intro w hSw; (try dsimp only at hSw); go_simp); (try with_reducible rfl)); (try simp only [Act.put,Q3,Q4,Q5]))
 (refine wpAnyK_take2 (i:=21) (v:=?_) (by (simp only [Q0,Q1,Q2]; rfl)) (by kernel_rfl) (by kernel_rfl) (by kernel_rfl) (by decide) (by exact fun _ _ _ h => h) (Or.inl ⟨by rfl,?_⟩) (by assumption) (by assumption) ?_; (rotate_left 1; (intro w hSw; (try dsimp only at hSw); go_simp); (try with_reducible rfl)); (try simp only [Act.put,Q3,Q4,Q5]))
 (refine wpAnyK_take2 (i:=22) (v:=?_) (by (simp only [Q0,Q1,Q2]; rfl)) (by kernel_rfl) (by kernel_rfl) (by kernel_rfl) (by decide) (by exact fun _ _ _ h => h) (Or.inl ⟨by rfl,?_⟩) (by assumption) (by assumption) ?_; (rotate_left 1; (intro w hSw; (try dsimp only at hSw); go_simp); (try with_reducible rfl)); (try simp only [Act.put,Q3,Q4,Q5]))
 refine wpAnyK_ready (rs:=[8,14]) (by kernel_rfl) (by simp) ?_
 refine AllReadyK.cons rfl (fun K hK => ?_) (AllReadyK.cons rfl (fun K hK => ?_) AllReadyK.nil)
 case refine_1 =>
  go_simp
  have nhgr:=hgr.alloc (.cells #[.int .i64 1,.int .i64 0,.int .i64 0] 234)
  have nhv:=hv.alloc (.cells #[.int .i64 1,.int .i64 0,.int .i64 0] 234)
  have nhg:=hg.alloc (.cells #[.int .i64 1,.int .i64 0,.int .i64 0] 234)
  have nhm:=map_below hm ((Below.refl _ _).alloc (Nat.le_refl _) (.cells #[.int .i64 1,.int .i64 0,.int .i64 0] 234))
  have nhN:=hN.alloc (.cells #[.int .i64 1,.int .i64 0,.int .i64 0] 234)
  have nhE:=hE.alloc (.cells #[.int .i64 1,.int .i64 0,.int .i64 0] 234)
  have nhB:=hB.alloc (.cells #[.int .i64 1,.int .i64 0,.int .i64 0] 234)
  have nhbl:=hbl.alloc (Nat.le_trans hlw hbl.size) (.cells #[.int .i64 1,.int .i64 0,.int .i64 0] 234)
  clear hgr hv hg hm hN hE hB hbl
  have hgr:=nhgr
  have hv:=nhv
  have hg:=nhg
  have hm:=nhm
  have hN:=nhN
  have hE:=nhE
  have hB:=nhB
  have hbl:=nhbl
  clear nhgr nhv nhg nhm nhN nhE nhB nhbl
  have b1 : Blk (X2.drew.alloc (.cells #[.int .i64 1,.int .i64 0,.int .i64 0] 234)) (X2.heap.size) 234 #[.int .i64 1,.int .i64 0,.int .i64 0]:=Blk.at_ _ (by simp)
  have zl : lo ≤ (X2.drew.alloc (.cells #[.int .i64 1,.int .i64 0,.int .i64 0] 234)).heap.size:=by first | omega | (simp; omega) | (simp at zl ⊢; omega)
  refine hK.out _ _ (⟨hgr.gv.w1,hv.w3.1,hv.w3.2.1,hv.w3.2.2,hgr.t.w5.2.2.2.2⟩) (⟨hg.w5.2.1,hg.w5.2.2.1,hg.w5.2.2.2.1⟩) (fun hT hS => ?_)
  clear hK K
  (try simp only [Act.put,Q3,Q4,Q5])
  refine wpAnyK_ready (rs:=[9,14]) (by kernel_rfl) (by simp) ?_
  refine AllReadyK.cons rfl (fun K hK => ?_) (AllReadyK.cons rfl (fun K hK => ?_) AllReadyK.nil)
  case refine_1 =>
   refine step_app (lo:=0) (base:=lo) (n:=1) (xs:=[.int .i64 0,.int .i64 0,.int .i64 0]) _ rfl _ _ ty_states rfl hN rfl (Row.lit (n:=1) (size:=3) b1 (Nat.zero_le _) rfl) rfl rfl (by decide) (by decide) zl ?_
   intro A1 d1 wn oN gN _
   have kN:=own_kind hN
   have lN:=fun k hk => (hN.lt k hk).1
   have nhv : Blk wn v 234 #[.int .i64 1,.int .i64 0,.int .i64 0]:=(gN.block v hv.lt hvN).trans hv
   have zl : lo ≤ wn.heap.size:=Nat.le_trans zl gN.size
   clear b1
   have nhgr:=hgr.other gN kN (by decide)
   have nhg:=hg.other gN kN (by decide)
   have nhm:=map_other hm gN kN (by decide)
   have nhE:=own_other hE gN kN (by decide)
   have nhB:=own_other hB gN kN (by decide)
   have nhbl:=hbl.trans (below_of_grown gN (Nat.le_trans hlw hbl.size) (lN))
   clear hgr hg hm hE hB hbl
   have hgr:=nhgr
   have hg:=nhg
   have hm:=nhm
   have hE:=nhE
   have hB:=nhB
   have hbl:=nhbl
   clear nhgr nhg nhm nhE nhB nhbl
   clear hv hN
   have hv:=nhv
   have hN:=oN
   clear nhv oN
   refine hK.out _ _ (⟨hgr.gv.w1,hv.w3.1,hv.w3.2.1,hv.w3.2.2,hgr.t.w5.2.2.2.2⟩) (⟨hg.w5.2.1,hg.w5.2.2.1,hg.w5.2.2.2.1⟩) (fun hT hS => ?_)
   clear hK K
   (try simp only [Act.put,Q3,Q4,Q5])
   refine wpAnyK_ready (rs:=[14]) (by kernel_rfl) (by simp) ?_
   refine AllReadyK.cons rfl (fun K hK => ?_) AllReadyK.nil
   go_simp
   have nhgr:=hgr.alloc (.cells #[.slice none 0 0] 247)
   have nhv:=hv.alloc (.cells #[.slice none 0 0] 247)
   have nhg:=hg.alloc (.cells #[.slice none 0 0] 247)
   have nhm:=map_below hm ((Below.refl _ _).alloc (Nat.le_refl _) (.cells #[.slice none 0 0] 247))
   have nhN:=hN.alloc (.cells #[.slice none 0 0] 247)
   have nhE:=hE.alloc (.cells #[.slice none 0 0] 247)
   have nhB:=hB.alloc (.cells #[.slice none 0 0] 247)
   have nhbl:=hbl.alloc (Nat.le_trans hlw hbl.size) (.cells #[.slice none 0 0] 247)
   clear hgr hv hg hm hN hE hB hbl
   have hgr:=nhgr
   have hv:=nhv
   have hg:=nhg
   have hm:=nhm
   have hN:=nhN
   have hE:=nhE
   have hB:=nhB
   have hbl:=nhbl
   clear nhgr nhv nhg nhm nhN nhE nhB nhbl
   have b2 : Blk (wn.alloc (.cells #[.slice none 0 0] 247)) (wn.heap.size) 247 #[.slice none 0 0]:=Blk.at_ _ (by simp)
   have zl : lo ≤ (wn.alloc (.cells #[.slice none 0 0] 247)).heap.size:=by first | omega | (simp; omega) | (simp at zl ⊢; omega)
   refine hK.out _ _ (⟨hgr.gv.w1,hv.w3.1,hv.w3.2.1,hv.w3.2.2,hgr.t.w5.2.2.2.2⟩) (⟨hg.w5.2.1,hg.w5.2.2.1,hg.w5.2.2.2.1⟩) (fun hT hS => ?_)
   clear hK K
   (try simp only [Act.put,Q3,Q4,Q5])
   refine wpAnyK_ready (rs:=[15]) (by kernel_rfl) (by simp) ?_
   refine AllReadyK.cons rfl (fun K hK => ?_) AllReadyK.nil
   refine step_app (lo:=0) (base:=lo) (n:=1) (xs:=[Y]) _ rfl _ _ ty_stepss rfl hE rfl (Row.lit (n:=1) (size:=1) b2 (Nat.zero_le _) rfl) rfl rfl (by decide) (by decide) zl ?_
   intro A2 d2 we oE gE _
   have kE:=own_kind hE
   have lE:=fun k hk => (hE.lt k hk).1
   have zl : lo ≤ we.heap.size:=Nat.le_trans zl gE.size
   clear b2
   have nhgr:=hgr.other gE kE (by decide)
   have nhv:=hv.other gE kE (by decide)
   have nhg:=hg.other gE kE (by decide)
   have nhm:=map_other hm gE kE (by decide)
   have nhN:=own_other hN gE kE (by decide)
   have nhB:=own_other hB gE kE (by decide)
   have nhbl:=hbl.trans (below_of_grown gE (Nat.le_trans hlw hbl.size) (lE))
   clear hgr hv hg hm hN hB hbl
   have hgr:=nhgr
   have hv:=nhv
   have hg:=nhg
   have hm:=nhm
   have hN:=nhN
   have hB:=nhB
   have hbl:=nhbl
   clear nhgr nhv nhg nhm nhN nhB nhbl
   clear hE
   have hE:=oE
   clear oE
   refine hK.out _ _ (⟨hgr.gv.w1,hv.w3.1,hv.w3.2.1,hv.w3.2.2,hgr.t.w5.2.2.2.2⟩) (⟨hg.w5.2.1,hg.w5.2.2.1,hg.w5.2.2.2.1⟩) (fun hT hS => ?_)
   clear hK K
   (try simp only [Act.put,Q3,Q4,Q5])
   refine wpAnyK_ready (rs:=[23]) (by kernel_rfl) (by simp) ?_
   refine AllReadyK.cons rfl (fun K hK => ?_) AllReadyK.nil
   go_simp
   go_at_call 131
   refine (atGoal_1 _ hgr.wb).mono ?_
   rintro e wg ⟨rfl,hb⟩
   have zl : lo ≤ wg.heap.size:=Nat.le_trans zl hb.size
   have nhgr:=hgr.below hb
   have nhv:=hv.below hb
   have nhg:=hg.below hb
   have nhm:=map_below hm hb
   have nhN:=own_keep hN hb
   have nhE:=own_keep hE hb
   have nhB:=own_keep hB hb
   have nhbl:=hbl.trans (hb.mono (Nat.le_trans hlw hbl.size))
   clear hgr hv hg hm hN hE hB hbl
   have hgr:=nhgr
   have hv:=nhv
   have hg:=nhg
   have hm:=nhm
   have hN:=nhN
   have hE:=nhE
   have hB:=nhB
   have hbl:=nhbl
   clear nhgr nhv nhg nhm nhN nhE nhB nhbl
   go_wp2_with fail
   refine hK.out _ _ (⟨hgr.gv.w1,hv.w3.1,hv.w3.2.1,hv.w3.2.2,hgr.t.w5.2.2.2.2⟩) (⟨hg.w5.2.1,hg.w5.2.2.1,hg.w5.2.2.2.1⟩) (fun hT hS => ?_)
   clear hK K
   (try simp only [Act.put,Q3,Q4,Q5])
   refine wpAnyK_ready (rs:=[24]) (by kernel_rfl) (by simp) ?_
   refine AllReadyK.cons rfl (fun K hK => ?_) AllReadyK.nil
   go_simp
   have nhgr:=hgr.alloc (.cells #[.bool true] 4)
   have nhv:=hv.alloc (.cells #[.bool true] 4)
   have nhg:=hg.alloc (.cells #[.bool true] 4)
   have nhm:=map_below hm ((Below.refl _ _).alloc (Nat.le_refl _) (.cells #[.bool true] 4))
   have nhN:=hN.alloc (.cells #[.bool true] 4)
   have nhE:=hE.alloc (.cells #[.bool true] 4)
   have nhB:=hB.alloc (.cells #[.bool true] 4)
   have nhbl:=hbl.alloc (Nat.le_trans hlw hbl.size) (.cells #[.bool true] 4)
   clear hgr hv hg hm hN hE hB hbl
   have hgr:=nhgr
   have hv:=nhv
   have hg:=nhg
   have hm:=nhm
   have hN:=nhN
   have hE:=nhE
   have hB:=nhB
   have hbl:=nhbl
   clear nhgr nhv nhg nhm nhN nhE nhB nhbl
   have b3 : Blk (wg.alloc (.cells #[.bool true] 4)) (wg.heap.size) 4 #[.bool true]:=Blk.at_ _ (by simp)
   have zl : lo ≤ (wg.alloc (.cells #[.bool true] 4)).heap.size:=by first | omega | (simp; omega) | (simp at zl ⊢; omega)
   refine hK.out _ _ (⟨hgr.gv.w1,hv.w3.1,hv.w3.2.1,hv.w3.2.2,hgr.t.w5.2.2.2.2⟩) (⟨hg.w5.2.1,hg.w5.2.2.1,hg.w5.2.2.2.1⟩) (fun hT hS => ?_)
   clear hK K
   (try simp only [Act.put,Q3,Q4,Q5])
   refine wpAnyK_ready (rs:=[25]) (by kernel_rfl) (by simp) ?_
   refine AllReadyK.cons rfl (fun K hK => ?_) AllReadyK.nil
   refine step_app (lo:=0) (base:=lo) (n:=1) (xs:=[.bool false]) _ rfl _ _ ty_boolz rfl hB rfl (Row.lit (n:=1) (size:=1) b3 (Nat.zero_le _) rfl) rfl rfl (by decide) (by decide) zl ?_
   intro A3 d3 wb oB gB _
   have kB:=own_kind hB
   have lB:=fun k hk => (hB.lt k hk).1
   have zl : lo ≤ wb.heap.size:=Nat.le_trans zl gB.size
   clear b3
   have nhgr:=hgr.other gB kB (by decide)
   have nhv:=hv.other gB kB (by decide)
   have nhg:=hg.other gB kB (by decide)
   have nhm:=map_other hm gB kB (by decide)
   have nhN:=own_other hN gB kB (by decide)
   have nhE:=own_other hE gB kB (by decide)
   have nhbl:=hbl.trans (below_of_grown gB (Nat.le_trans hlw hbl.size) (lB))
   clear hgr hv hg hm hN hE hbl
   have hgr:=nhgr
   have hv:=nhv
   have hg:=nhg
   have hm:=nhm
   have hN:=nhN
   have hE:=nhE
   have hbl:=nhbl
   clear nhgr nhv nhg nhm nhN nhE nhbl
   clear hB
   have hB:=oB
   clear oB
   refine hK.out _ _ (⟨hgr.gv.w1,hv.w3.1,hv.w3.2.1,hv.w3.2.2,hgr.t.w5.2.2.2.2⟩) (⟨hg.w5.2.1,hg.w5.2.2.1,hg.w5.2.2.2.1⟩) (fun hT hS => ?_)
   clear hK K
   (try simp only [Act.put,Q3,Q4,Q5])
   (refine wpAnyK_take2 (i:=26) (v:=?_) (by (simp only [Q0,Q1,Q2]; rfl)) (by kernel_rfl) (by kernel_rfl) (by kernel_rfl) (by decide) (by exact fun _ _ _ h => h) (Or.inl ⟨by rfl,?_⟩) (by assumption) (by assumption) ?_; (rotate_left 1; (intro w hSw; (try dsimp only at hSw); go_simp); (try with_reducible rfl)); (try simp only [Act.put,Q3,Q4,Q5]))
   (refine wpAnyK_take2 (i:=27) (v:=?_) (by (simp only [Q0,Q1,Q2]; rfl)) (by kernel_rfl) (by kernel_rfl) (by kernel_rfl) (by decide) (by exact fun _ _ _ h => h) (Or.inl ⟨by rfl,?_⟩) (by assumption) (by assumption) ?_; (rotate_left 1; (intro w hSw; (try dsimp only at hSw); go_simp); (try with_reducible rfl)); (try simp only [Act.put,Q3,Q4,Q5]))
   refine wpAnyK_ready (rs:=[28]) (by kernel_rfl) (by simp) ?_
   refine AllReadyK.consT (by kernel_rfl) rfl (fun K hK => ?_) AllReadyK.nil
   obtain ⟨k0,k1,k2,k3,k4⟩:=hg.w5
   have kf:=hg.thaw 1
   have zg:=hg.lt
   go_simp
   clear k0 k1 k2 k3 k4 kf zg
   have kg:=hg.kind
   have ghg:=hg.poke 1 (.slice A1 2 d1)
   have nhgr:=hgr.other (grown_poke _ g 1 (.slice A1 2 d1)) kg (by decide)
   have nhv:=hv.other (grown_poke _ g 1 (.slice A1 2 d1)) kg (by decide)
   have nhm:=map_other hm (grown_poke _ g 1 (.slice A1 2 d1)) kg (by decide)
   have nhN:=own_other hN (grown_poke _ g 1 (.slice A1 2 d1)) kg (by decide)
   have nhE:=own_other hE (grown_poke _ g 1 (.slice A1 2 d1)) kg (by decide)
   have nhB:=own_other hB (grown_poke _ g 1 (.slice A1 2 d1)) kg (by decide)
   have nhbl:=hbl.trans (below_of_grown (grown_poke _ g 1 (.slice A1 2 d1)) (Nat.le_trans hlw hbl.size) (fun k hk => by injection hk with hk; omega))
   clear hgr hv hm hN hE hB hbl
   have hgr:=nhgr
   have hv:=nhv
   have hm:=nhm
   have hN:=nhN
   have hE:=nhE
   have hB:=nhB
   have hbl:=nhbl
   clear nhgr nhv nhm nhN nhE nhB nhbl
   have hg:=ghg
   clear ghg kg
   simp only [Q3,Q4,Q5] at hg
   refine hK.out _ _ (⟨hgr.gv.w1,hv.w3.1,hv.w3.2.1,hv.w3.2.2,hgr.t.w5.2.2.2.2⟩) (fun hT => ?_)
   clear hK K
   (try simp only [Act.put,Q3,Q4,Q5])
   (refine wpAnyK_take3 (i:=29) (v:=?_) (by (simp only [Q0,Q1,Q2]; rfl)) (by kernel_rfl) (by kernel_rfl) (by kernel_rfl) (by decide) (by kernel_rfl) (by exact fun _ _ _ h => h) (Or.inl ⟨by rfl,?_⟩) (by assumption) ?_; (rotate_left 1; (intro w hSw; (try dsimp only at hSw); go_simp); (try with_reducible rfl)); (try simp only [Act.put,Q3,Q4,Q5]))
   (refine wpAnyK_take3 (i:=30) (v:=?_) (by (simp only [Q0,Q1,Q2]; rfl)) (by kernel_rfl) (by kernel_rfl) (by kernel_rfl) (by decide) (by kernel_rfl) (by exact fun _ _ _ h => h) (Or.inl ⟨by rfl,?_⟩) (by assumption) ?_; (rotate_left 1; (intro w hSw; (try dsimp only at hSw); go_simp); (try with_reducible rfl)); (try simp only [Act.put,Q3,Q4,Q5]))
   refine wpAnyK_ready (rs:=[31]) (by kernel_rfl) (by simp) ?_
   refine AllReadyK.consT (by kernel_rfl) rfl (fun K hK => ?_) AllReadyK.nil
   obtain ⟨k0,k1,k2,k3,k4⟩:=hg.w5
   have kf:=hg.thaw 2
   have zg:=hg.lt
   go_simp
   clear k0 k1 k2 k3 k4 kf zg
   have kg:=hg.kind
   have ghg:=hg.poke 2 (.slice A2 2 d2)
   have nhgr:=hgr.other (grown_poke _ g 2 (.slice A2 2 d2)) kg (by decide)
   have nhv:=hv.other (grown_poke _ g 2 (.slice A2 2 d2)) kg (by decide)
   have nhm:=map_other hm (grown_poke _ g 2 (.slice A2 2 d2)) kg (by decide)
   have nhN:=own_other hN (grown_poke _ g 2 (.slice A2 2 d2)) kg (by decide)
   have nhE:=own_other hE (grown_poke _ g 2 (.slice A2 2 d2)) kg (by decide)
   have nhB:=own_other hB (grown_poke _ g 2 (.slice A2 2 d2)) kg (by decide)
   have nhbl:=hbl.trans (below_of_grown (grown_poke _ g 2 (.slice A2 2 d2)) (Nat.le_trans hlw hbl.size) (fun k hk => by injection hk with hk; omega))
   clear hgr hv hm hN hE hB hbl
   have hgr:=nhgr
   have hv:=nhv
   have hm:=nhm
   have hN:=nhN
   have hE:=nhE
   have hB:=nhB
   have hbl:=nhbl
   clear nhgr nhv nhm nhN nhE nhB nhbl
   have hg:=ghg
   clear ghg kg
   simp only [Q3,Q4,Q5] at hg
   refine hK.out _ _ (⟨hgr.gv.w1,hv.w3.1,hv.w3.2.1,hv.w3.2.2,hgr.t.w5.2.2.2.2⟩) (fun hT => ?_)
   clear hK K
   (try simp only [Act.put,Q3,Q4,Q5])
   (refine wpAnyK_take3 (i:=32) (v:=?_) (by (simp only [Q0,Q1,Q2]; rfl)) (by kernel_rfl) (by kernel_rfl) (by kernel_rfl) (by decide) (by kernel_rfl) (by exact fun _ _ _ h => h) (Or.inl ⟨by rfl,?_⟩) (by assumption) ?_; (rotate_left 1; (intro w hSw; (try dsimp only at hSw); go_simp); (try with_reducible rfl)); (try simp only [Act.put,Q3,Q4,Q5]))
   (refine wpAnyK_take3 (i:=33) (v:=?_) (by (simp only [Q0,Q1,Q2]; rfl)) (by kernel_rfl) (by kernel_rfl) (by kernel_rfl) (by decide) (by kernel_rfl) (by exact fun _ _ _ h => h) (Or.inl ⟨by rfl,?_⟩) (by assumption) ?_; (rotate_left 1; (intro w hSw; (try dsimp only at hSw); go_simp); (try with_reducible rfl)); (try simp only [Act.put,Q3,Q4,Q5]))
   refine wpAnyK_ready (rs:=[34]) (by kernel_rfl) (by simp) ?_
   refine AllReadyK.consT (by kernel_rfl) rfl (fun K hK => ?_) AllReadyK.nil
   obtain ⟨k0,k1,k2,k3,k4⟩:=hg.w5
   have kf:=hg.thaw 3
   have zg:=hg.lt
   go_simp
   clear k0 k1 k2 k3 k4 kf zg
   have kg:=hg.kind
   have ghg:=hg.poke 3 (.slice A3 2 d3)
   have nhgr:=hgr.other (grown_poke _ g 3 (.slice A3 2 d3)) kg (by decide)
   have nhv:=hv.other (grown_poke _ g 3 (.slice A3 2 d3)) kg (by decide)
   have nhm:=map_other hm (grown_poke _ g 3 (.slice A3 2 d3)) kg (by decide)
   have nhN:=own_other hN (grown_poke _ g 3 (.slice A3 2 d3)) kg (by decide)
   have nhE:=own_other hE (grown_poke _ g 3 (.slice A3 2 d3)) kg (by decide)
   have nhB:=own_other hB (grown_poke _ g 3 (.slice A3 2 d3)) kg (by decide)
   have nhbl:=hbl.trans (below_of_grown (grown_poke _ g 3 (.slice A3 2 d3)) (Nat.le_trans hlw hbl.size) (fun k hk => by injection hk with hk; omega))
   clear hgr hv hm hN hE hB hbl
   have hgr:=nhgr
   have hv:=nhv
   have hm:=nhm
   have hN:=nhN
   have hE:=nhE
   have hB:=nhB
   have hbl:=nhbl
   clear nhgr nhv nhm nhN nhE nhB nhbl
   have hg:=ghg
   clear ghg kg
   simp only [Q3,Q4,Q5] at hg
   refine hK.out _ _ (⟨hgr.gv.w1,hv.w3.1,hv.w3.2.1,hv.w3.2.2,hgr.t.w5.2.2.2.2⟩) (fun hT => ?_)
   clear hK K
   (try simp only [Act.put,Q3,Q4,Q5])
   refine wpAnyK_done (by kernel_rfl) ?_ _
   go_wp2_with fail
   go_ret
   exact ⟨rfl,hgr,⟨A1,A2,A3,d1,d2,d3,⟨hg,hm,hN,hE,hB⟩⟩,hbl⟩
  case refine_2 =>
   go_simp
   have nhgr:=hgr.alloc (.cells #[.slice none 0 0] 247)
   have nhv:=hv.alloc (.cells #[.slice none 0 0] 247)
   have nhg:=hg.alloc (.cells #[.slice none 0 0] 247)
   have nhm:=map_below hm ((Below.refl _ _).alloc (Nat.le_refl _) (.cells #[.slice none 0 0] 247))
   have nhN:=hN.alloc (.cells #[.slice none 0 0] 247)
   have nhE:=hE.alloc (.cells #[.slice none 0 0] 247)
   have nhB:=hB.alloc (.cells #[.slice none 0 0] 247)
   have nhbl:=hbl.alloc (Nat.le_trans hlw hbl.size) (.cells #[.slice none 0 0] 247)
   have nb1:=b1.alloc (.cells #[.slice none 0 0] 247)
   clear hgr hv hg hm hN hE hB hbl b1
   have hgr:=nhgr
   have hv:=nhv
   have hg:=nhg
   have hm:=nhm
   have hN:=nhN
   have hE:=nhE
   have hB:=nhB
   have hbl:=nhbl
   have b1:=nb1
   clear nhgr nhv nhg nhm nhN nhE nhB nhbl nb1
   have b2 : Blk ((X2.drew.alloc (.cells #[.int .i64 1,.int .i64 0,.int .i64 0] 234)).alloc (.cells #[.slice none 0 0] 247)) (X2.heap.size + 1) 247 #[.slice none 0 0]:=Blk.at_ _ (by simp)
   have zl : lo ≤ ((X2.drew.alloc (.cells #[.int .i64 1,.int .i64 0,.int .i64 0] 234)).alloc (.cells #[.slice none 0 0] 247)).heap.size:=by first | omega | (simp; omega) | (simp at zl ⊢; omega)
   refine hK.out _ _ (⟨hgr.gv.w1,hv.w3.1,hv.w3.2.1,hv.w3.2.2,hgr.t.w5.2.2.2.2⟩) (⟨hg.w5.2.1,hg.w5.2.2.1,hg.w5.2.2.2.1⟩) (fun hT hS => ?_)
   clear hK K
   (try simp only [Act.put,Q3,Q4,Q5])
   refine wpAnyK_ready (rs:=[9]) (by kernel_rfl) (by simp) ?_
   refine AllReadyK.cons rfl (fun K hK => ?_) AllReadyK.nil
   refine step_app (lo:=0) (base:=lo) (n:=1) (xs:=[.int .i64 0,.int .i64 0,.int .i64 0]) _ rfl _ _ ty_states rfl hN rfl (Row.lit (n:=1) (size:=3) b1 (Nat.zero_le _) rfl) rfl rfl (by decide) (by decide) zl ?_
   intro A1 d1 wn oN gN _
   have kN:=own_kind hN
   have lN:=fun k hk => (hN.lt k hk).1
   have nhv : Blk wn v 234 #[.int .i64 1,.int .i64 0,.int .i64 0]:=(gN.block v hv.lt hvN).trans hv
   have zl : lo ≤ wn.heap.size:=Nat.le_trans zl gN.size
   clear b1
   have nhgr:=hgr.other gN kN (by decide)
   have nhg:=hg.other gN kN (by decide)
   have nhm:=map_other hm gN kN (by decide)
   have nhE:=own_other hE gN kN (by decide)
   have nhB:=own_other hB gN kN (by decide)
   have nhbl:=hbl.trans (below_of_grown gN (Nat.le_trans hlw hbl.size) (lN))
   have nb2:=b2.other gN kN (by decide)
   clear hgr hg hm hE hB hbl b2
   have hgr:=nhgr
   have hg:=nhg
   have hm:=nhm
   have hE:=nhE
   have hB:=nhB
   have hbl:=nhbl
   have b2:=nb2
   clear nhgr nhg nhm nhE nhB nhbl nb2
   clear hv hN
   have hv:=nhv
   have hN:=oN
   clear nhv oN
   refine hK.out _ _ (⟨hgr.gv.w1,hv.w3.1,hv.w3.2.1,hv.w3.2.2,hgr.t.w5.2.2.2.2⟩) (⟨hg.w5.2.1,hg.w5.2.2.1,hg.w5.2.2.2.1⟩) (fun hT hS => ?_)
   clear hK K
   (try simp only [Act.put,Q3,Q4,Q5])
   refine wpAnyK_ready (rs:=[15]) (by kernel_rfl) (by simp) ?_
   refine AllReadyK.cons rfl (fun K hK => ?_) AllReadyK.nil
   refine step_app (lo:=0) (base:=lo) (n:=1) (xs:=[Y]) _ rfl _ _ ty_stepss rfl hE rfl (Row.lit (n:=1) (size:=1) b2 (Nat.zero_le _) rfl) rfl rfl (by decide) (by decide) zl ?_
   intro A2 d2 we oE gE _
   have kE:=own_kind hE
   have lE:=fun k hk => (hE.lt k hk).1
   have zl : lo ≤ we.heap.size:=Nat.le_trans zl gE.size
   clear b2
   have nhgr:=hgr.other gE kE (by decide)
   have nhv:=hv.other gE kE (by decide)
   have nhg:=hg.other gE kE (by decide)
   have nhm:=map_other hm gE kE (by decide)
   have nhN:=own_other hN gE kE (by decide)
   have nhB:=own_other hB gE kE (by decide)
   have nhbl:=hbl.trans (below_of_grown gE (Nat.le_trans hlw hbl.size) (lE))
   clear hgr hv hg hm hN hB hbl
   have hgr:=nhgr
   have hv:=nhv
   have hg:=nhg
   have hm:=nhm
   have hN:=nhN
   have hB:=nhB
   have hbl:=nhbl
   clear nhgr nhv nhg nhm nhN nhB nhbl
   clear hE
   have hE:=oE
   clear oE
   refine hK.out _ _ (⟨hgr.gv.w1,hv.w3.1,hv.w3.2.1,hv.w3.2.2,hgr.t.w5.2.2.2.2⟩) (⟨hg.w5.2.1,hg.w5.2.2.1,hg.w5.2.2.2.1⟩) (fun hT hS => ?_)
   clear hK K
   (try simp only [Act.put,Q3,Q4,Q5])
   refine wpAnyK_ready (rs:=[23]) (by kernel_rfl) (by simp) ?_
   refine AllReadyK.cons rfl (fun K hK => ?_) AllReadyK.nil
   go_simp
   go_at_call 131
   refine (atGoal_1 _ hgr.wb).mono ?_
   rintro e wg ⟨rfl,hb⟩
   have zl : lo ≤ wg.heap.size:=Nat.le_trans zl hb.size
   have nhgr:=hgr.below hb
   have nhv:=hv.below hb
   have nhg:=hg.below hb
   have nhm:=map_below hm hb
   have nhN:=own_keep hN hb
   have nhE:=own_keep hE hb
   have nhB:=own_keep hB hb
   have nhbl:=hbl.trans (hb.mono (Nat.le_trans hlw hbl.size))
   clear hgr hv hg hm hN hE hB hbl
   have hgr:=nhgr
   have hv:=nhv
   have hg:=nhg
   have hm:=nhm
   have hN:=nhN
   have hE:=nhE
   have hB:=nhB
   have hbl:=nhbl
   clear nhgr nhv nhg nhm nhN nhE nhB nhbl
   go_wp2_with fail
   refine hK.out _ _ (⟨hgr.gv.w1,hv.w3.1,hv.w3.2.1,hv.w3.2.2,hgr.t.w5.2.2.2.2⟩) (⟨hg.w5.2.1,hg.w5.2.2.1,hg.w5.2.2.2.1⟩) (fun hT hS => ?_)
   clear hK K
   (try simp only [Act.put,Q3,Q4,Q5])
   refine wpAnyK_ready (rs:=[24]) (by kernel_rfl) (by simp) ?_
   refine AllReadyK.cons rfl (fun K hK => ?_) AllReadyK.nil
   go_simp
   have nhgr:=hgr.alloc (.cells #[.bool true] 4)
   have nhv:=hv.alloc (.cells #[.bool true] 4)
   have nhg:=hg.alloc (.cells #[.bool true] 4)
   have nhm:=map_below hm ((Below.refl _ _).alloc (Nat.le_refl _) (.cells #[.bool true] 4))
   have nhN:=hN.alloc (.cells #[.bool true] 4)
   have nhE:=hE.alloc (.cells #[.bool true] 4)
   have nhB:=hB.alloc (.cells #[.bool true] 4)
   have nhbl:=hbl.alloc (Nat.le_trans hlw hbl.size) (.cells #[.bool true] 4)
   clear hgr hv hg hm hN hE hB hbl
   have hgr:=nhgr
   have hv:=nhv
   have hg:=nhg
   have hm:=nhm
   have hN:=nhN
   have hE:=nhE
   have hB:=nhB
   have hbl:=nhbl
   clear nhgr nhv nhg nhm nhN nhE nhB nhbl
   have b3 : Blk (wg.alloc (.cells #[.bool true] 4)) (wg.heap.size) 4 #[.bool true]:=Blk.at_ _ (by simp)
   have zl : lo ≤ (wg.alloc (.cells #[.bool true] 4)).heap.size:=by first | omega | (simp; omega) | (simp at zl ⊢; omega)
   refine hK.out _ _ (⟨hgr.gv.w1,hv.w3.1,hv.w3.2.1,hv.w3.2.2,hgr.t.w5.2.2.2.2⟩) (⟨hg.w5.2.1,hg.w5.2.2.1,hg.w5.2.2.2.1⟩) (fun hT hS => ?_)
   clear hK K
   (try simp only [Act.put,Q3,Q4,Q5])
   refine wpAnyK_ready (rs:=[25]) (by kernel_rfl) (by simp) ?_
   refine AllReadyK.cons rfl (fun K hK => ?_) AllReadyK.nil
   refine step_app (lo:=0) (base:=lo) (n:=1) (xs:=[.bool false]) _ rfl _ _ ty_boolz rfl hB rfl (Row.lit (n:=1) (size:=1) b3 (Nat.zero_le _) rfl) rfl rfl (by decide) (by decide) zl ?_
   intro A3 d3 wb oB gB _
   have kB:=own_kind hB
   have lB:=fun k hk => (hB.lt k hk).1
   have zl : lo ≤ wb.heap.size:=Nat.le_trans zl gB.size
   clear b3
   have nhgr:=hgr.other gB kB (by decide)
   have nhv:=hv.other gB kB (by decide)
   have nhg:=hg.other gB kB (by decide)
   have nhm:=map_other hm gB kB (by decide)
   have nhN:=own_other hN gB kB (by decide)
   have nhE:=own_other hE gB kB (by decide)
   have nhbl:=hbl.trans (below_of_grown gB (Nat.le_trans hlw hbl.size) (lB))
   clear hgr hv hg hm hN hE hbl
   have hgr:=nhgr
   have hv:=nhv
   have hg:=nhg
   have hm:=nhm
   have hN:=nhN
   have hE:=nhE
   have hbl:=nhbl
   clear nhgr nhv nhg nhm nhN nhE nhbl
   clear hB
   have hB:=oB
   clear oB
   refine hK.out _ _ (⟨hgr.gv.w1,hv.w3.1,hv.w3.2.1,hv.w3.2.2,hgr.t.w5.2.2.2.2⟩) (⟨hg.w5.2.1,hg.w5.2.2.1,hg.w5.2.2.2.1⟩) (fun hT hS => ?_)
   clear hK K
   (try simp only [Act.put,Q3,Q4,Q5])
   (refine wpAnyK_take2 (i:=26) (v:=?_) (by (simp only [Q0,Q1,Q2]; rfl)) (by kernel_rfl) (by kernel_rfl) (by kernel_rfl) (by decide) (by exact fun _ _ _ h => h) (Or.inl ⟨by rfl,?_⟩) (by assumption) (by assumption) ?_; (rotate_left 1; (intro w hSw; (try dsimp only at hSw); go_simp); (try with_reducible rfl)); (try simp only [Act.put,Q3,Q4,Q5]))
   (refine wpAnyK_take2 (i:=27) (v:=?_) (by (simp only [Q0,Q1,Q2]; rfl)) (by kernel_rfl) (by kernel_rfl) (by kernel_rfl) (by decide) (by exact fun _ _ _ h => h) (Or.inl ⟨by rfl,?_⟩) (by assumption) (by assumption) ?_; (rotate_left 1; (intro w hSw; (try dsimp only at hSw); go_simp); (try with_reducible rfl)); (try simp only [Act.put,Q3,Q4,Q5]))
   refine wpAnyK_ready (rs:=[28]) (by kernel_rfl) (by simp) ?_
   refine AllReadyK.consT (by kernel_rfl) rfl (fun K hK => ?_) AllReadyK.nil
   obtain ⟨k0,k1,k2,k3,k4⟩:=hg.w5
   have kf:=hg.thaw 1
   have zg:=hg.lt
   go_simp
   clear k0 k1 k2 k3 k4 kf zg
   have kg:=hg.kind
   have ghg:=hg.poke 1 (.slice A1 2 d1)
   have nhgr:=hgr.other (grown_poke _ g 1 (.slice A1 2 d1)) kg (by decide)
   have nhv:=hv.other (grown_poke _ g 1 (.slice A1 2 d1)) kg (by decide)
   have nhm:=map_other hm (grown_poke _ g 1 (.slice A1 2 d1)) kg (by decide)
   have nhN:=own_other hN (grown_poke _ g 1 (.slice A1 2 d1)) kg (by decide)
   have nhE:=own_other hE (grown_poke _ g 1 (.slice A1 2 d1)) kg (by decide)
   have nhB:=own_other hB (grown_poke _ g 1 (.slice A1 2 d1)) kg (by decide)
   have nhbl:=hbl.trans (below_of_grown (grown_poke _ g 1 (.slice A1 2 d1)) (Nat.le_trans hlw hbl.size) (fun k hk => by injection hk with hk; omega))
   clear hgr hv hm hN hE hB hbl
   have hgr:=nhgr
   have hv:=nhv
   have hm:=nhm
   have hN:=nhN
   have hE:=nhE
   have hB:=nhB
   have hbl:=nhbl
   clear nhgr nhv nhm nhN nhE nhB nhbl
   have hg:=ghg
   clear ghg kg
   simp only [Q3,Q4,Q5] at hg
   refine hK.out _ _ (⟨hgr.gv.w1,hv.w3.1,hv.w3.2.1,hv.w3.2.2,hgr.t.w5.2.2.2.2⟩) (fun hT => ?_)
   clear hK K
   (try simp only [Act.put,Q3,Q4,Q5])
   (refine wpAnyK_take3 (i:=29) (v:=?_) (by (simp only [Q0,Q1,Q2]; rfl)) (by kernel_rfl) (by kernel_rfl) (by kernel_rfl) (by decide) (by kernel_rfl) (by exact fun _ _ _ h => h) (Or.inl ⟨by rfl,?_⟩) (by assumption) ?_; (rotate_left 1; (intro w hSw; (try dsimp only at hSw); go_simp); (try with_reducible rfl)); (try simp only [Act.put,Q3,Q4,Q5]))
   (refine wpAnyK_take3 (i:=30) (v:=?_) (by (simp only [Q0,Q1,Q2]; rfl)) (by kernel_rfl) (by kernel_rfl) (by kernel_rfl) (by decide) (by kernel_rfl) (by exact fun _ _ _ h => h) (Or.inl ⟨by rfl,?_⟩) (by assumption) ?_; (rotate_left 1; (intro w hSw; (try dsimp only at hSw); go_simp); (try with_reducible rfl)); (try simp only [Act.put,Q3,Q4,Q5]))
   refine wpAnyK_ready (rs:=[31]) (by kernel_rfl) (by simp) ?_
   refine AllReadyK.consT (by kernel_rfl) rfl (fun K hK => ?_) AllReadyK.nil
   obtain ⟨k0,k1,k2,k3,k4⟩:=hg.w5
   have kf:=hg.thaw 2
   have zg:=hg.lt
   go_simp
   clear k0 k1 k2 k3 k4 kf zg
   have kg:=hg.kind
   have ghg:=hg.poke 2 (.slice A2 2 d2)
   have nhgr:=hgr.other (grown_poke _ g 2 (.slice A2 2 d2)) kg (by decide)
   have nhv:=hv.other (grown_poke _ g 2 (.slice A2 2 d2)) kg (by decide)
   have nhm:=map_other hm (grown_poke _ g 2 (.slice A2 2 d2)) kg (by decide)
   have nhN:=own_other hN (grown_poke _ g 2 (.slice A2 2 d2)) kg (by decide)
   have nhE:=own_other hE (grown_poke _ g 2 (.slice A2 2 d2)) kg (by decide)
   have nhB:=own_other hB (grown_poke _ g 2 (.slice A2 2 d2)) kg (by decide)
   have nhbl:=hbl.trans (below_of_grown (grown_poke _ g 2 (.slice A2 2 d2)) (Nat.le_trans hlw hbl.size) (fun k hk => by injection hk with hk; omega))
   clear hgr hv hm hN hE hB hbl
   have hgr:=nhgr
   have hv:=nhv
   have hm:=nhm
   have hN:=nhN
   have hE:=nhE
   have hB:=nhB
   have hbl:=nhbl
   clear nhgr nhv nhm nhN nhE nhB nhbl
   have hg:=ghg
   clear ghg kg
   simp only [Q3,Q4,Q5] at hg
   refine hK.out _ _ (⟨hgr.gv.w1,hv.w3.1,hv.w3.2.1,hv.w3.2.2,hgr.t.w5.2.2.2.2⟩) (fun hT => ?_)
   clear hK K
   (try simp only [Act.put,Q3,Q4,Q5])
   (refine wpAnyK_take3 (i:=32) (v:=?_) (by (simp only [Q0,Q1,Q2]; rfl)) (by kernel_rfl) (by kernel_rfl) (by kernel_rfl) (by decide) (by kernel_rfl) (by exact fun _ _ _ h => h) (Or.inl ⟨by rfl,?_⟩) (by assumption) ?_; (rotate_left 1; (intro w hSw; (try dsimp only at hSw); go_simp); (try with_reducible rfl)); (try simp only [Act.put,Q3,Q4,Q5]))
   (refine wpAnyK_take3 (i:=33) (v:=?_) (by (simp only [Q0,Q1,Q2]; rfl)) (by kernel_rfl) (by kernel_rfl) (by kernel_rfl) (by decide) (by kernel_rfl) (by exact fun _ _ _ h => h) (Or.inl ⟨by rfl,?_⟩) (by assumption) ?_; (rotate_left 1; (intro w hSw; (try dsimp only at hSw); go_simp); (try with_reducible rfl)); (try simp only [Act.put,Q3,Q4,Q5]))
   refine wpAnyK_ready (rs:=[34]) (by kernel_rfl) (by simp) ?_
   refine AllReadyK.consT (by kernel_rfl) rfl (fun K hK => ?_) AllReadyK.nil
   obtain ⟨k0,k1,k2,k3,k4⟩:=hg.w5
   have kf:=hg.thaw 3
   have zg:=hg.lt
   go_simp
   clear k0 k1 k2 k3 k4 kf zg
   have kg:=hg.kind
   have ghg:=hg.poke 3 (.slice A3 2 d3)
   have nhgr:=hgr.other (grown_poke _ g 3 (.slice A3 2 d3)) kg (by decide)
   have nhv:=hv.other (grown_poke _ g 3 (.slice A3 2 d3)) kg (by decide)
   have nhm:=map_other hm (grown_poke _ g 3 (.slice A3 2 d3)) kg (by decide)
   have nhN:=own_other hN (grown_poke _ g 3 (.slice A3 2 d3)) kg (by decide)
   have nhE:=own_other hE (grown_poke _ g 3 (.slice A3 2 d3)) kg (by decide)
   have nhB:=own_other hB (grown_poke _ g 3 (.slice A3 2 d3)) kg (by decide)
   have nhbl:=hbl.trans (below_of_grown (grown_poke _ g 3 (.slice A3 2 d3)) (Nat.le_trans hlw hbl.size) (fun k hk => by injection hk with hk; omega))
   clear hgr hv hm hN hE hB hbl
   have hgr:=nhgr
   have hv:=nhv
   have hm:=nhm
   have hN:=nhN
   have hE:=nhE
   have hB:=nhB
   have hbl:=nhbl
   clear nhgr nhv nhm nhN nhE nhB nhbl
   have hg:=ghg
   clear ghg kg
   simp only [Q3,Q4,Q5] at hg
   refine hK.out _ _ (⟨hgr.gv.w1,hv.w3.1,hv.w3.2.1,hv.w3.2.2,hgr.t.w5.2.2.2.2⟩) (fun hT => ?_)
   clear hK K
   (try simp only [Act.put,Q3,Q4,Q5])
   refine wpAnyK_done (by kernel_rfl) ?_ _
   go_wp2_with fail
   go_ret
   exact ⟨rfl,hgr,⟨A1,A2,A3,d1,d2,d3,⟨hg,hm,hN,hE,hB⟩⟩,hbl⟩
 case refine_2 =>
  go_simp
  have nhgr:=hgr.alloc (.cells #[.slice none 0 0] 247)
  have nhv:=hv.alloc (.cells #[.slice none 0 0] 247)
  have nhg:=hg.alloc (.cells #[.slice none 0 0] 247)
  have nhm:=map_below hm ((Below.refl _ _).alloc (Nat.le_refl _) (.cells #[.slice none 0 0] 247))
  have nhN:=hN.alloc (.cells #[.slice none 0 0] 247)
  have nhE:=hE.alloc (.cells #[.slice none 0 0] 247)
  have nhB:=hB.alloc (.cells #[.slice none 0 0] 247)
  have nhbl:=hbl.alloc (Nat.le_trans hlw hbl.size) (.cells #[.slice none 0 0] 247)
  clear hgr hv hg hm hN hE hB hbl
  have hgr:=nhgr
  have hv:=nhv
  have hg:=nhg
  have hm:=nhm
  have hN:=nhN
  have hE:=nhE
  have hB:=nhB
  have hbl:=nhbl
  clear nhgr nhv nhg nhm nhN nhE nhB nhbl
  have b2 : Blk (X2.drew.alloc (.cells #[.slice none 0 0] 247)) (X2.heap.size) 247 #[.slice none 0 0]:=Blk.at_ _ (by simp)
  have zl : lo ≤ (X2.drew.alloc (.cells #[.slice none 0 0] 247)).heap.size:=by first | omega | (simp; omega) | (simp at zl ⊢; omega)
  refine hK.out _ _ (⟨hgr.gv.w1,hv.w3.1,hv.w3.2.1,hv.w3.2.2,hgr.t.w5.2.2.2.2⟩) (⟨hg.w5.2.1,hg.w5.2.2.1,hg.w5.2.2.2.1⟩) (fun hT hS => ?_)
  clear hK K
  (try simp only [Act.put,Q3,Q4,Q5])
  refine wpAnyK_ready (rs:=[8]) (by kernel_rfl) (by simp) ?_
  refine AllReadyK.cons rfl (fun K hK => ?_) AllReadyK.nil
  go_simp
  have nhgr:=hgr.alloc (.cells #[.int .i64 1,.int .i64 0,.int .i64 0] 234)
  have nhv:=hv.alloc (.cells #[.int .i64 1,.int .i64 0,.int .i64 0] 234)
  have nhg:=hg.alloc (.cells #[.int .i64 1,.int .i64 0,.int .i64 0] 234)
  have nhm:=map_below hm ((Below.refl _ _).alloc (Nat.le_refl _) (.cells #[.int .i64 1,.int .i64 0,.int .i64 0] 234))
  have nhN:=hN.alloc (.cells #[.int .i64 1,.int .i64 0,.int .i64 0] 234)
  have nhE:=hE.alloc (.cells #[.int .i64 1,.int .i64 0,.int .i64 0] 234)
  have nhB:=hB.alloc (.cells #[.int .i64 1,.int .i64 0,.int .i64 0] 234)
  have nhbl:=hbl.alloc (Nat.le_trans hlw hbl.size) (.cells #[.int .i64 1,.int .i64 0,.int .i64 0] 234)
  have nb2:=b2.alloc (.cells #[.int .i64 1,.int .i64 0,.int .i64 0] 234)
  clear hgr hv hg hm hN hE hB hbl b2
  have hgr:=nhgr
  have hv:=nhv
  have hg:=nhg
  have hm:=nhm
  have hN:=nhN
  have hE:=nhE
  have hB:=nhB
  have hbl:=nhbl
  have b2:=nb2
  clear nhgr nhv nhg nhm nhN nhE nhB nhbl nb2
  have b1 : Blk ((X2.drew.alloc (.cells #[.slice none 0 0] 247)).alloc (.cells #[.int .i64 1,.int .i64 0,.int .i64 0] 234)) (X2.heap.size + 1) 234 #[.int .i64 1,.int .i64 0,.int .i64 0]:=Blk.at_ _ (by simp)
  have zl : lo ≤ ((X2.drew.alloc (.cells #[.slice none 0 0] 247)).alloc (.cells #[.int .i64 1,.int .i64 0,.int .i64 0] 234)).heap.size:=by first | omega | (simp; omega) | (simp at zl ⊢; omega)
  refine hK.out _ _ (⟨hgr.gv.w1,hv.w3.1,hv.w3.2.1,hv.w3.2.2,hgr.t.w5.2.2.2.2⟩) (⟨hg.w5.2.1,hg.w5.2.2.1,hg.w5.2.2.2.1⟩) (fun hT hS => ?_)
  clear hK K
  (try simp only [Act.put,Q3,Q4,Q5])
  refine wpAnyK_ready (rs:=[9]) (by kernel_rfl) (by simp) ?_
  refine AllReadyK.cons rfl (fun K hK => ?_) AllReadyK.nil
  refine step_app (lo:=0) (base:=lo) (n:=1) (xs:=[.int .i64 0,.int .i64 0,.int .i64 0]) _ rfl _ _ ty_states rfl hN rfl (Row.lit (n:=1) (size:=3) b1 (Nat.zero_le _) rfl) rfl rfl (by decide) (by decide) zl ?_
  intro A1 d1 wn oN gN _
  have kN:=own_kind hN
  have lN:=fun k hk => (hN.lt k hk).1
  have nhv : Blk wn v 234 #[.int .i64 1,.int .i64 0,.int .i64 0]:=(gN.block v hv.lt hvN).trans hv
  have zl : lo ≤ wn.heap.size:=Nat.le_trans zl gN.size
  clear b1
  have nhgr:=hgr.other gN kN (by decide)
  have nhg:=hg.other gN kN (by decide)
  have nhm:=map_other hm gN kN (by decide)
  have nhE:=own_other hE gN kN (by decide)
  have nhB:=own_other hB gN kN (by decide)
  have nhbl:=hbl.trans (below_of_grown gN (Nat.le_trans hlw hbl.size) (lN))
  have nb2:=b2.other gN kN (by decide)
  clear hgr hg hm hE hB hbl b2
  have hgr:=nhgr
  have hg:=nhg
  have hm:=nhm
  have hE:=nhE
  have hB:=nhB
  have hbl:=nhbl
  have b2:=nb2
  clear nhgr nhg nhm nhE nhB nhbl nb2
  clear hv hN
  have hv:=nhv
  have hN:=oN
  clear nhv oN
  refine hK.out _ _ (⟨hgr.gv.w1,hv.w3.1,hv.w3.2.1,hv.w3.2.2,hgr.t.w5.2.2.2.2⟩) (⟨hg.w5.2.1,hg.w5.2.2.1,hg.w5.2.2.2.1⟩) (fun hT hS => ?_)
  clear hK K
  (try simp only [Act.put,Q3,Q4,Q5])
  refine wpAnyK_ready (rs:=[15]) (by kernel_rfl) (by simp) ?_
  refine AllReadyK.cons rfl (fun K hK => ?_) AllReadyK.nil
  refine step_app (lo:=0) (base:=lo) (n:=1) (xs:=[Y]) _ rfl _ _ ty_stepss rfl hE rfl (Row.lit (n:=1) (size:=1) b2 (Nat.zero_le _) rfl) rfl rfl (by decide) (by decide) zl ?_
  intro A2 d2 we oE gE _
  have kE:=own_kind hE
  have lE:=fun k hk => (hE.lt k hk).1
  have zl : lo ≤ we.heap.size:=Nat.le_trans zl gE.size
  clear b2
  have nhgr:=hgr.other gE kE (by decide)
  have nhv:=hv.other gE kE (by decide)
  have nhg:=hg.other gE kE (by decide)
  have nhm:=map_other hm gE kE (by decide)
  have nhN:=own_other hN gE kE (by decide)
  have nhB:=own_other hB gE kE (by decide)
  have nhbl:=hbl.trans (below_of_grown gE (Nat.le_trans hlw hbl.size) (lE))
  clear hgr hv hg hm hN hB hbl
  have hgr:=nhgr
  have hv:=nhv
  have hg:=nhg
  have hm:=nhm
  have hN:=nhN
  have hB:=nhB
  have hbl:=nhbl
  clear nhgr nhv nhg nhm nhN nhB nhbl
  clear hE
  have hE:=oE
  clear oE
  refine hK.out _ _ (⟨hgr.gv.w1,hv.w3.1,hv.w3.2.1,hv.w3.2.2,hgr.t.w5.2.2.2.2⟩) (⟨hg.w5.2.1,hg.w5.2.2.1,hg.w5.2.2.2.1⟩) (fun hT hS => ?_)
  clear hK K
  (try simp only [Act.put,Q3,Q4,Q5])
  refine wpAnyK_ready (rs:=[23]) (by kernel_rfl) (by simp) ?_
  refine AllReadyK.cons rfl (fun K hK => ?_) AllReadyK.nil
  go_simp
  go_at_call 131
  refine (atGoal_1 _ hgr.wb).mono ?_
  rintro e wg ⟨rfl,hb⟩
  have zl : lo ≤ wg.heap.size:=Nat.le_trans zl hb.size
  have nhgr:=hgr.below hb
  have nhv:=hv.below hb
  have nhg:=hg.below hb
  have nhm:=map_below hm hb
  have nhN:=own_keep hN hb
  have nhE:=own_keep hE hb
  have nhB:=own_keep hB hb
  have nhbl:=hbl.trans (hb.mono (Nat.le_trans hlw hbl.size))
  clear hgr hv hg hm hN hE hB hbl
  have hgr:=nhgr
  have hv:=nhv
  have hg:=nhg
  have hm:=nhm
  have hN:=nhN
  have hE:=nhE
  have hB:=nhB
  have hbl:=nhbl
  clear nhgr nhv nhg nhm nhN nhE nhB nhbl
  go_wp2_with fail
  refine hK.out _ _ (⟨hgr.gv.w1,hv.w3.1,hv.w3.2.1,hv.w3.2.2,hgr.t.w5.2.2.2.2⟩) (⟨hg.w5.2.1,hg.w5.2.2.1,hg.w5.2.2.2.1⟩) (fun hT hS => ?_)
  clear hK K
  (try simp only [Act.put,Q3,Q4,Q5])
  refine wpAnyK_ready (rs:=[24]) (by kernel_rfl) (by simp) ?_
  refine AllReadyK.cons rfl (fun K hK => ?_) AllReadyK.nil
  go_simp
  have nhgr:=hgr.alloc (.cells #[.bool true] 4)
  have nhv:=hv.alloc (.cells #[.bool true] 4)
  have nhg:=hg.alloc (.cells #[.bool true] 4)
  have nhm:=map_below hm ((Below.refl _ _).alloc (Nat.le_refl _) (.cells #[.bool true] 4))
  have nhN:=hN.alloc (.cells #[.bool true] 4)
  have nhE:=hE.alloc (.cells #[.bool true] 4)
  have nhB:=hB.alloc (.cells #[.bool true] 4)
  have nhbl:=hbl.alloc (Nat.le_trans hlw hbl.size) (.cells #[.bool true] 4)
  clear hgr hv hg hm hN hE hB hbl
  have hgr:=nhgr
  have hv:=nhv
  have hg:=nhg
  have hm:=nhm
  have hN:=nhN
  have hE:=nhE
  have hB:=nhB
  have hbl:=nhbl
  clear nhgr nhv nhg nhm nhN nhE nhB nhbl
  have b3 : Blk (wg.alloc (.cells #[.bool true] 4)) (wg.heap.size) 4 #[.bool true]:=Blk.at_ _ (by simp)
  have zl : lo ≤ (wg.alloc (.cells #[.bool true] 4)).heap.size:=by first | omega | (simp; omega) | (simp at zl ⊢; omega)
  refine hK.out _ _ (⟨hgr.gv.w1,hv.w3.1,hv.w3.2.1,hv.w3.2.2,hgr.t.w5.2.2.2.2⟩) (⟨hg.w5.2.1,hg.w5.2.2.1,hg.w5.2.2.2.1⟩) (fun hT hS => ?_)
  clear hK K
  (try simp only [Act.put,Q3,Q4,Q5])
  refine wpAnyK_ready (rs:=[25]) (by kernel_rfl) (by simp) ?_
  refine AllReadyK.cons rfl (fun K hK => ?_) AllReadyK.nil
  refine step_app (lo:=0) (base:=lo) (n:=1) (xs:=[.bool false]) _ rfl _ _ ty_boolz rfl hB rfl (Row.lit (n:=1) (size:=1) b3 (Nat.zero_le _) rfl) rfl rfl (by decide) (by decide) zl ?_
  intro A3 d3 wb oB gB _
  have kB:=own_kind hB
  have lB:=fun k hk => (hB.lt k hk).1
  have zl : lo ≤ wb.heap.size:=Nat.le_trans zl gB.size
  clear b3
  have nhgr:=hgr.other gB kB (by decide)
  have nhv:=hv.other gB kB (by decide)
  have nhg:=hg.other gB kB (by decide)
  have nhm:=map_other hm gB kB (by decide)
  have nhN:=own_other hN gB kB (by decide)
  have nhE:=own_other hE gB kB (by decide)
  have nhbl:=hbl.trans (below_of_grown gB (Nat.le_trans hlw hbl.size) (lB))
  clear hgr hv hg hm hN hE hbl
  have hgr:=nhgr
  have hv:=nhv
  have hg:=nhg
  have hm:=nhm
  have hN:=nhN
  have hE:=nhE
  have hbl:=nhbl
  clear nhgr nhv nhg nhm nhN nhE nhbl
  clear hB
  have hB:=oB
  clear oB
  refine hK.out _ _ (⟨hgr.gv.w1,hv.w3.1,hv.w3.2.1,hv.w3.2.2,hgr.t.w5.2.2.2.2⟩) (⟨hg.w5.2.1,hg.w5.2.2.1,hg.w5.2.2.2.1⟩) (fun hT hS => ?_)
  clear hK K
  (try simp only [Act.put,Q3,Q4,Q5])
  (refine wpAnyK_take2 (i:=26) (v:=?_) (by (simp only [Q0,Q1,Q2]; rfl)) (by kernel_rfl) (by kernel_rfl) (by kernel_rfl) (by decide) (by exact fun _ _ _ h => h) (Or.inl ⟨by rfl,?_⟩) (by assumption) (by assumption) ?_; (rotate_left 1; (intro w hSw; (try dsimp only at hSw); go_simp); (try with_reducible rfl)); (try simp only [Act.put,Q3,Q4,Q5]))
  (refine wpAnyK_take2 (i:=27) (v:=?_) (by (simp only [Q0,Q1,Q2]; rfl)) (by kernel_rfl) (by kernel_rfl) (by kernel_rfl) (by decide) (by exact fun _ _ _ h => h) (Or.inl ⟨by rfl,?_⟩) (by assumption) (by assumption) ?_; (rotate_left 1; (intro w hSw; (try dsimp only at hSw); go_simp); (try with_reducible rfl)); (try simp only [Act.put,Q3,Q4,Q5]))
  refine wpAnyK_ready (rs:=[28]) (by kernel_rfl) (by simp) ?_
  refine AllReadyK.consT (by kernel_rfl) rfl (fun K hK => ?_) AllReadyK.nil
  obtain ⟨k0,k1,k2,k3,k4⟩:=hg.w5
  have kf:=hg.thaw 1
  have zg:=hg.lt
  go_simp
  clear k0 k1 k2 k3 k4 kf zg
  have kg:=hg.kind
  have ghg:=hg.poke 1 (.slice A1 2 d1)
  have nhgr:=hgr.other (grown_poke _ g 1 (.slice A1 2 d1)) kg (by decide)
  have nhv:=hv.other (grown_poke _ g 1 (.slice A1 2 d1)) kg (by decide)
  have nhm:=map_other hm (grown_poke _ g 1 (.slice A1 2 d1)) kg (by decide)
  have nhN:=own_other hN (grown_poke _ g 1 (.slice A1 2 d1)) kg (by decide)
  have nhE:=own_other hE (grown_poke _ g 1 (.slice A1 2 d1)) kg (by decide)
  have nhB:=own_other hB (grown_poke _ g 1 (.slice A1 2 d1)) kg (by decide)
  have nhbl:=hbl.trans (below_of_grown (grown_poke _ g 1 (.slice A1 2 d1)) (Nat.le_trans hlw hbl.size) (fun k hk => by injection hk with hk; omega))
  clear hgr hv hm hN hE hB hbl
  have hgr:=nhgr
  have hv:=nhv
  have hm:=nhm
  have hN:=nhN
  have hE:=nhE
  have hB:=nhB
  have hbl:=nhbl
  clear nhgr nhv nhm nhN nhE nhB nhbl
  have hg:=ghg
  clear ghg kg
  simp only [Q3,Q4,Q5] at hg
  refine hK.out _ _ (⟨hgr.gv.w1,hv.w3.1,hv.w3.2.1,hv.w3.2.2,hgr.t.w5.2.2.2.2⟩) (fun hT => ?_)
  clear hK K
  (try simp only [Act.put,Q3,Q4,Q5])
  (refine wpAnyK_take3 (i:=29) (v:=?_) (by (simp only [Q0,Q1,Q2]; rfl)) (by kernel_rfl) (by kernel_rfl) (by kernel_rfl) (by decide) (by kernel_rfl) (by exact fun _ _ _ h => h) (Or.inl ⟨by rfl,?_⟩) (by assumption) ?_; (rotate_left 1; (intro w hSw; (try dsimp only at hSw); go_simp); (try with_reducible rfl)); (try simp only [Act.put,Q3,Q4,Q5]))
  (refine wpAnyK_take3 (i:=30) (v:=?_) (by (simp only [Q0,Q1,Q2]; rfl)) (by kernel_rfl) (by kernel_rfl) (by kernel_rfl) (by decide) (by kernel_rfl) (by exact fun _ _ _ h => h) (Or.inl ⟨by rfl,?_⟩) (by assumption) ?_; (rotate_left 1; (intro w hSw; (try dsimp only at hSw); go_simp); (try with_reducible rfl)); (try simp only [Act.put,Q3,Q4,Q5]))
  refine wpAnyK_ready (rs:=[31]) (by kernel_rfl) (by simp) ?_
  refine AllReadyK.consT (by kernel_rfl) rfl (fun K hK => ?_) AllReadyK.nil
  obtain ⟨k0,k1,k2,k3,k4⟩:=hg.w5
  have kf:=hg.thaw 2
  have zg:=hg.lt
  go_simp
  clear k0 k1 k2 k3 k4 kf zg
  have kg:=hg.kind
  have ghg:=hg.poke 2 (.slice A2 2 d2)
  have nhgr:=hgr.other (grown_poke _ g 2 (.slice A2 2 d2)) kg (by decide)
  have nhv:=hv.other (grown_poke _ g 2 (.slice A2 2 d2)) kg (by decide)
  have nhm:=map_other hm (grown_poke _ g 2 (.slice A2 2 d2)) kg (by decide)
  have nhN:=own_other hN (grown_poke _ g 2 (.slice A2 2 d2)) kg (by decide)
  have nhE:=own_other hE (grown_poke _ g 2 (.slice A2 2 d2)) kg (by decide)
  have nhB:=own_other hB (grown_poke _ g 2 (.slice A2 2 d2)) kg (by decide)
  have nhbl:=hbl.trans (below_of_grown (grown_poke _ g 2 (.slice A2 2 d2)) (Nat.le_trans hlw hbl.size) (fun k hk => by injection hk with hk; omega))
  clear hgr hv hm hN hE hB hbl
  have hgr:=nhgr
  have hv:=nhv
  have hm:=nhm
  have hN:=nhN
  have hE:=nhE
  have hB:=nhB
  have hbl:=nhbl
  clear nhgr nhv nhm nhN nhE nhB nhbl
  have hg:=ghg
  clear ghg kg
  simp only [Q3,Q4,Q5] at hg
  refine hK.out _ _ (⟨hgr.gv.w1,hv.w3.1,hv.w3.2.1,hv.w3.2.2,hgr.t.w5.2.2.2.2⟩) (fun hT => ?_)
  clear hK K
  (try simp only [Act.put,Q3,Q4,Q5])
  (refine wpAnyK_take3 (i:=32) (v:=?_) (by (simp only [Q0,Q1,Q2]; rfl)) (by kernel_rfl) (by kernel_rfl) (by kernel_rfl) (by decide) (by kernel_rfl) (by exact fun _ _ _ h => h) (Or.inl ⟨by rfl,?_⟩) (by assumption) ?_; (rotate_left 1; (intro w hSw; (try dsimp only at hSw); go_simp); (try with_reducible rfl)); (try simp only [Act.put,Q3,Q4,Q5]))
  (refine wpAnyK_take3 (i:=33) (v:=?_) (by (simp only [Q0,Q1,Q2]; rfl)) (by kernel_rfl) (by kernel_rfl) (by kernel_rfl) (by decide) (by kernel_rfl) (by exact fun _ _ _ h => h) (Or.inl ⟨by rfl,?_⟩) (by assumption) ?_; (rotate_left 1; (intro w hSw; (try dsimp only at hSw); go_simp); (try with_reducible rfl)); (try simp only [Act.put,Q3,Q4,Q5]))
  refine wpAnyK_ready (rs:=[34]) (by kernel_rfl) (by simp) ?_
  refine AllReadyK.consT (by kernel_rfl) rfl (fun K hK => ?_) AllReadyK.nil
  obtain ⟨k0,k1,k2,k3,k4⟩:=hg.w5
  have kf:=hg.thaw 3
  have zg:=hg.lt
  go_simp
  clear k0 k1 k2 k3 k4 kf zg
  have kg:=hg.kind
  have ghg:=hg.poke 3 (.slice A3 2 d3)
  have nhgr:=hgr.other (grown_poke _ g 3 (.slice A3 2 d3)) kg (by decide)
  have nhv:=hv.other (grown_poke _ g 3 (.slice A3 2 d3)) kg (by decide)
  have nhm:=map_other hm (grown_poke _ g 3 (.slice A3 2 d3)) kg (by decide)
  have nhN:=own_other hN (grown_poke _ g 3 (.slice A3 2 d3)) kg (by decide)
  have nhE:=own_other hE (grown_poke _ g 3 (.slice A3 2 d3)) kg (by decide)
  have nhB:=own_other hB (grown_poke _ g 3 (.slice A3 2 d3)) kg (by decide)
  have nhbl:=hbl.trans (below_of_grown (grown_poke _ g 3 (.slice A3 2 d3)) (Nat.le_trans hlw hbl.size) (fun k hk => by injection hk with hk; omega))
  clear hgr hv hm hN hE hB hbl
  have hgr:=nhgr
  have hv:=nhv
  have hm:=nhm
  have hN:=nhN
  have hE:=nhE
  have hB:=nhB
  have hbl:=nhbl
  clear nhgr nhv nhm nhN nhE nhB nhbl
  have hg:=ghg
  clear ghg kg
  simp only [Q3,Q4,Q5] at hg
  refine hK.out _ _ (⟨hgr.gv.w1,hv.w3.1,hv.w3.2.1,hv.w3.2.2,hgr.t.w5.2.2.2.2⟩) (fun hT => ?_)
  clear hK K
  (try simp only [Act.put,Q3,Q4,Q5])
  refine wpAnyK_done (by kernel_rfl) ?_ _
  go_wp2_with fail
  go_ret
  exact ⟨rfl,hgr,⟨A1,A2,A3,d1,d2,d3,⟨hg,hm,hN,hE,hB⟩⟩,hbl⟩
end Go.Proofs.YtbfphnknkbhpkaaGreatDoor
