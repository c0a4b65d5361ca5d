/- Texts of this seat, laid together: MgC Sp. -/
import Derived.Deep.DeepCutAuto
import Derived.Handy
import Derived.Test.YtapjahbflhingaaGreatDoorBu30
import Derived.Test.YtapjahbflhingaaGreatDoorBu32
import Derived.Test.YtapjahbflhingaaGreatDoorBu23
import Derived.Test.YtapjahbflhingaaGreatDoorBu10
/- The walk of segment.Merge at right histories that do not contradict each other. -/
namespace Go.Proofs.YtapjahbflhingaaGreatDoor
set_option linter.unusedVariables false
set_option linter.unusedSimpArgs false
open Go.RowKit Go.Sort

structure MW (W0 wr : World) (u : Value) (A : Option Addr) (d : Nat) (zs : List AttE) : Prop where
  box : Blk wr W0.heap.size 29 #[u, .slice A zs.length d]
  att : OAtts wr W0.heap.size A d zs
  bel : Below W0.heap.size W0 wr
section
variable {W0 wr w' : World} {u : Value} {A : Option Addr} {d : Nat} {zs : List AttE}
theorem MW.below (h : MW W0 wr u A d zs) (hb : Below wr.heap.size wr w') : MW W0 w' u A d zs:=⟨h.box.below hb,h.att.below hb,below_up h.bel hb⟩
theorem MW.alloc (h : MW W0 wr u A d zs) (o : Obj) : MW W0 (wr.alloc o) u A d zs:=h.below ((Below.refl _ _).alloc (Nat.le_refl _) o)
theorem MW.drew (h : MW W0 wr u A d zs) : MW W0 wr.drew u A d zs:=h.below (Below.refl _ _).drew
theorem MW.size (h : MW W0 wr u A d zs) : W0.heap.size ≤ wr.heap.size:=h.bel.size
theorem MW.start (W0 : World) (u : Value) : MW W0 (W0.alloc (.cells #[u,.slice none 0 0] 29)) u none 0 []:=⟨Blk.new _ _ _,OAtts.nil _ _,(Below.refl _ _).alloc (Nat.le_refl _) _⟩
theorem MW.box_app (h : MW W0 wr u A d zs) (hg : wr.grownBy w' (Value.slice A zs.length d).ownBlock) : Blk w' W0.heap.size 29 #[u,.slice A zs.length d]:=h.box.otherOf hg (own_kindOf h.att.row) (by decide)
theorem MW.push (h : MW W0 wr u A d zs) (hg : wr.grownBy w' (Value.slice A zs.length d).ownBlock) {x : AttE} (ho : wr.ownsRow W0.heap.size 3 1 (.slice x.2.1 x.1.2.length x.2.2) x.1.2.length (ints x.1.2))
  {A5 : Option Addr} {d5 : Nat} (h5 : w'.ownsRow W0.heap.size 81 2 (.slice A5 (zs.length + 1) d5) (zs.length + 1) (zs.flatMap encE ++ encE x)) :
  MW W0 (w'.setCell ⟨W0.heap.size,1,none⟩ (.slice A5 (zs.length + 1) d5)) u A5 d5 (zs ++ [x]):=by
 have b5:=h.box_app hg
 have p:=grown_pokeOf w' W0.heap.size 1 (.slice A5 (zs.length + 1) d5)
 have hb5:=b5.poke 1 (.slice A5 (zs.length + 1) d5)
 refine ⟨by rw [List.length_append]; simpa using hb5,(h.att.push hg ho h5).other p b5.kindOf (by decide) (by decide),?_⟩
 have hbw : Below W0.heap.size W0 w':=h.bel.grown hg h.size (fun k hk => (h.att.row.lt k hk).1)
 exact Below.setCell hbw (by simp) _
theorem MW.turned (h : MW W0 wr u A d zs) (hg : wr.grownBy w' (Value.slice A zs.length d).ownBlock) {ys : List AttE} (hl : ys.length = zs.length) (h5 : OAtts w' W0.heap.size A d ys) : MW W0 w' u A d ys :=
 ⟨by rw [hl]; exact h.box_app hg,h5,h.bel.grown hg h.size (fun k hk => (h.att.row.lt k hk).1)⟩
end
def OHist (w : World) (base : Nat) (SA : Option Addr) (c : Nat) (TA : Option Addr) (d : Nat) (segs : List (List UInt8)) (zs : List AttE) : Prop :=
 w.ownsRow base 9 1 (.slice SA segs.length c) segs.length (strs segs) ∧ OAtts w base TA d zs
theorem OHist.hist {w : World} {base : Nat} {SA TA : Option Addr} {c d : Nat} {segs : List (List UInt8)} {zs : List AttE} (h : OHist w base SA c TA d segs zs) : Hist w base SA TA segs (attE zs):=h.2.hist h.1
theorem OAtts.weak {w : World} {base base' : Nat} {A : Option Addr} {d : Nat} {zs : List AttE} (h : OAtts w base A d zs) (hb : base' ≤ base) : OAtts w base' A d zs:=⟨own_weak h.row hb,fun x hx => own_weak (h.spl x hx) hb⟩
theorem quietD {P : Program} {f : FuncId} {args : Array Value} {w : World} {n : Nat} {v : Value} (h : Calls P f args (w.drewN n) fun e w' => e = .returned v ∧ ∃ q,w' = (w.drewN n).drewN q) : Calls P f args (w.drewN n) fun e w'' => e = .returned v ∧ ∃ m,w'' = w.drewN m :=
 h.mono fun _ _ ⟨he,q,hm⟩ => ⟨he,_,hm.trans (World.drewN_drewN _ _ _)⟩
def MergePost (w : World) (segs : List (List UInt8)) (us bs : List Att) (e : Ending) (w' : World) : Prop :=
 ∃ (SA TA : Option Addr) (c d : Nat) (zs : List AttE),e = .returned (.tuple #[.agg #[.slice SA segs.length c,.slice TA zs.length d],.int .i64 0]) ∧ OHist w' w.heap.size SA c TA d segs zs ∧ (attE zs).Perm (us ++ mgN us bs) ∧ (attE zs).Pairwise (fun x y => x.1 ≤ y.1) ∧ Below w.heap.size w w'
set_option maxHeartbeats 8000000 in
set_option maxRecDepth 100000 in
theorem Merge_ok (SA TA SB TB : Option Addr) (c d c' d' lo lo' : Nat) (segs : List (List UInt8)) (us bs : List Att) (w : World) (hA : Hist w lo SA TA segs us) (hB : Hist w lo' SB TB segs bs) (hc : segs.length ≤ c) (hc' : segs.length ≤ c') (okA : HistOk segs us) (okB : HistOk segs bs)
  (hno : ∀ x ∈ bs,∀ y ∈ us,y.1 = x.1 → y.2 = x.2) (hlen : (us ++ mgN us bs).length ≤ 500) :
  Calls Tryz.prog 26 #[.agg #[.slice SA segs.length c,.slice TA us.length d],.agg #[.slice SB segs.length c',.slice TB bs.length d']] w (MergePost w segs us bs):=by
 have n2:=okA.n2
 have n1:=okA.n1
 have ma:=okA.m
 have mb:=okB.m
 have HA:=Lib.hid okA
 have HB:=Lib.hid okB
 have HNO:=Lib.hid hno
 have HLEN:=Lib.hid hlen
 have KEY : Hid (∀ s ∈ segs,s.length ≤ 40):=Lib.hid (fun s hs => by
  obtain ⟨i,hi,rfl⟩:=List.mem_iff_getElem.1 hs
  have:=okA.key i hi
  unfold keyB at this
  simp only [Bool.and_eq_true,decide_eq_true_eq] at this
  omega)
 clear okA okB hno hlen
 go_enter Tryz.func26,Tryz.ntmps26
 go_upto_region 1 with (fail)
 have kA : Blk (((w.alloc (.cells #[.slice SA segs.length c,.slice TA us.length d] 29)).alloc (.cells #[.slice SB segs.length c',.slice TB bs.length d'] 29)).alloc (.cells #[.slice none 0 0,.slice none 0 0] 29)) w.heap.size 29 #[.slice SA segs.length c,.slice TA us.length d]:=((Blk.new _ _ _).alloc _).alloc _
 have kB : Blk (((w.alloc (.cells #[.slice SA segs.length c,.slice TA us.length d] 29)).alloc (.cells #[.slice SB segs.length c',.slice TB bs.length d'] 29)).alloc (.cells #[.slice none 0 0,.slice none 0 0] 29)) (w.heap.size + 1) 29 #[.slice SB segs.length c',.slice TB bs.length d']:=by
  have:=(Blk.new (w.alloc (.cells #[.slice SA segs.length c,.slice TA us.length d] 29)) 29 #[.slice SB segs.length c',.slice TB bs.length d']).alloc (.cells #[.slice none 0 0,.slice none 0 0] 29)
  simpa using this
 have kR : Blk (((w.alloc (.cells #[.slice SA segs.length c,.slice TA us.length d] 29)).alloc (.cells #[.slice SB segs.length c',.slice TB bs.length d'] 29)).alloc (.cells #[.slice none 0 0,.slice none 0 0] 29)) (w.heap.size + 2) 29 #[.slice none 0 0,.slice none 0 0]:=by
  have:=Blk.new ((w.alloc (.cells #[.slice SA segs.length c,.slice TA us.length d] 29)).alloc (.cells #[.slice SB segs.length c',.slice TB bs.length d'] 29)) 29 #[.slice none 0 0,.slice none 0 0]
  simpa using this
 have hA:=((hA.alloc (.cells #[.slice SA segs.length c,.slice TA us.length d] 29)).alloc (.cells #[.slice SB segs.length c',.slice TB bs.length d'] 29)).alloc (.cells #[.slice none 0 0,.slice none 0 0] 29)
 have hB:=((hB.alloc (.cells #[.slice SA segs.length c,.slice TA us.length d] 29)).alloc (.cells #[.slice SB segs.length c',.slice TB bs.length d'] 29)).alloc (.cells #[.slice none 0 0,.slice none 0 0] 29)
 have hx : Below w.heap.size w (((w.alloc (.cells #[.slice SA segs.length c,.slice TA us.length d] 29)).alloc (.cells #[.slice SB segs.length c',.slice TB bs.length d'] 29)).alloc (.cells #[.slice none 0 0,.slice none 0 0] 29)):=(((Below.refl _ _).alloc (Nat.le_refl _) _).alloc (by simp) _).alloc (by simp; omega) _
 generalize ((w.alloc (.cells #[.slice SA segs.length c,.slice TA us.length d] 29)).alloc (.cells #[.slice SB segs.length c',.slice TB bs.length d'] 29)).alloc (.cells #[.slice none 0 0,.slice none 0 0] 29) = w0 at *
 have hA:=hA.below (Below.refl _ _).drew
 have hB:=hB.below (Below.refl _ _).drew
 have kA:=kA.drew
 have kB:=kB.drew
 have kR:=kR.drew
 have hx:=hx.drew
 refine wp_region_held_drew (S:=(fun w' => (w'.cell? ⟨w.heap.size,0,none⟩ = some (.slice SA segs.length c) ∧ w'.cell? ⟨w.heap.size,1,none⟩ = some (.slice TA us.length d)) ∧ w'.cell? ⟨w.heap.size + 1,0,none⟩ = some (.slice SB segs.length c') ∧ w'.cell? ⟨w.heap.size + 1,1,none⟩ = some (.slice TB bs.length d'))) (by kernel_rfl) (⟨kA.two_,kB.two_⟩) (fun hHeld => ?_)
 (refine wpAnyH_take (i:=0) (v:=?_) (by (simp only [List.getElem?_toArray,List.getElem?_cons_zero]; rfl)) (by kernel_rfl) (by kernel_rfl) (by kernel_rfl) (by exact fun _ _ _ h => h) (Or.inl ⟨by rfl,?_⟩) (by assumption) ?_; (rotate_left 1; (intro w hSw; (try dsimp only at hSw); go_simp); (try with_reducible rfl)); (try simp only [Act.put,List.setIfInBounds_toArray,List.set_cons_zero,List.set_cons_succ]))
 (refine wpAnyH_take (i:=2) (v:=?_) (by (simp only [List.getElem?_toArray,List.getElem?_cons_succ,List.getElem?_cons_zero]; rfl)) (by kernel_rfl) (by kernel_rfl) (by kernel_rfl) (by exact fun _ _ _ h => h) (Or.inl ⟨by rfl,?_⟩) (by assumption) ?_; (rotate_left 1; (intro w hSw; (try dsimp only at hSw); go_simp); (try with_reducible rfl)); (try simp only [Act.put,List.setIfInBounds_toArray,List.set_cons_zero,List.set_cons_succ]))
 refine wpAnyH_ready (rs:=[1]) (by kernel_rfl) (by simp) ?_
 refine AllReadyH.cons rfl (fun K hK => ?_) AllReadyH.nil
 go_simp
 go_at_call 29
 refine (checkHistory_any SA TA c d _ segs us _ hA hc (by omega) (by omega) (fun i h => by have:=(HA.out.spl i h).len; omega) (fun s hs => by have:=KEY.out s hs; omega)).mono ?_
 rintro e wa ⟨rfl,hba⟩
 have hA:=hA.below hba
 have hB:=hB.below hba
 have kA:=kA.below hba
 have kB:=kB.below hba
 have kR:=kR.below hba
 have hx:=below_up hx hba
 rw [histF_zero HA.out]
 go_wp2_with fail
 refine hK.out _ _ (⟨kA.two_,kB.two_⟩) (fun hHeld => ?_)
 clear hK K
 (try simp only [Act.put,List.setIfInBounds_toArray,List.set_cons_zero,List.set_cons_succ])
 refine wpAnyH_ready (rs:=[3]) (by kernel_rfl) (by simp) ?_
 refine AllReadyH.cons rfl (fun K hK => ?_) AllReadyH.nil
 go_simp
 go_at_call 29
 refine (checkHistory_any SB TB c' d' _ segs bs _ hB hc' (by omega) (by omega) (fun i h => by have:=(HB.out.spl i h).len; omega) (fun s hs => by have:=KEY.out s hs; omega)).mono ?_
 rintro e wb ⟨rfl,hbb⟩
 have hA:=hA.below hbb
 have hB:=hB.below hbb
 have kA:=kA.below hbb
 have kB:=kB.below hbb
 have kR:=kR.below hbb
 have hx:=below_up hx hbb
 rw [histF_zero HB.out]
 go_wp2_with fail
 refine hK.out _ _ (⟨kA.two_,kB.two_⟩) (fun hHeld => ?_)
 clear hK K
 (try simp only [Act.put,List.setIfInBounds_toArray,List.set_cons_zero,List.set_cons_succ])
 refine wpAnyH_ready (rs:=[4]) (by kernel_rfl) (by simp) ?_
 refine AllReadyH.cons rfl (fun K hK => ?_) AllReadyH.nil
 go_simp
 have hF:=row_new wb #[.int .i64 0,.int .i64 0] 32 0 1 2 (Nat.zero_le _) rfl
 have hA:=hA.alloc (.cells #[.int .i64 0,.int .i64 0] 32)
 have hB:=hB.alloc (.cells #[.int .i64 0,.int .i64 0] 32)
 have kA:=kA.alloc (.cells #[.int .i64 0,.int .i64 0] 32)
 have kB:=kB.alloc (.cells #[.int .i64 0,.int .i64 0] 32)
 have kR:=kR.alloc (.cells #[.int .i64 0,.int .i64 0] 32)
 have hx : Below w.heap.size w (wb.alloc (.cells #[.int .i64 0,.int .i64 0] 32)):=Below.alloc hx hx.size _
 refine hK.out _ _ (⟨kA.two_,kB.two_⟩) (fun hHeld => ?_)
 clear hK K
 (try simp only [Act.put,List.setIfInBounds_toArray,List.set_cons_zero,List.set_cons_succ])
 refine wpAnyH_ready (rs:=[5]) (by kernel_rfl) (by simp) ?_
 refine AllReadyH.cons rfl (fun K hK => ?_) AllReadyH.nil
 go_simp
 go_at_call 67
 refine (first_any _ _ 0 [0,0] _ hF (by simp)).mono ?_
 rintro e wf ⟨rfl,rfl⟩
 rw [show firstE [0,0] = 0 from rfl]
 go_wp2_with fail
 refine hK.out _ _ (⟨kA.two_,kB.two_⟩) (fun hHeld => ?_)
 clear hK K
 (try simp only [Act.put,List.setIfInBounds_toArray,List.set_cons_zero,List.set_cons_succ])
 (refine wpAnyH_take (i:=6) (v:=?_) (by (simp only [List.getElem?_toArray,List.getElem?_cons_succ,List.getElem?_cons_zero]; rfl)) (by kernel_rfl) (by kernel_rfl) (by kernel_rfl) (by exact fun _ _ _ h => h) (Or.inl ⟨by rfl,?_⟩) (by assumption) ?_; (rotate_left 1; (intro w hSw; (try dsimp only at hSw); go_simp); (try with_reducible rfl)); (try simp only [Act.put,List.setIfInBounds_toArray,List.set_cons_zero,List.set_cons_succ]))
 refine wpAnyH_done (by kernel_rfl) ?_ _
 generalize wb.alloc (.cells #[.int .i64 0,.int .i64 0] 32) = w1 at *
 clear hF hba hbb
 have HZ1:=Lib.hid hx.size
 obtain ⟨a0,a1⟩:=kA.two_
 obtain ⟨b0,b1⟩:=kB.two_
 have za:=kA.lt
 have zb:=kB.lt
 have zr:=kR.lt
 go_wp2_with fail
 refine (equalS_any SA SB c c' _ _ segs segs _ hA.1 hB.1 (by omega) (by omega)).mono ?_
 rintro e w2 ⟨rfl,q,rfl⟩
 rw [decide_eq_true rfl]
 have bq : Below w1.heap.size w1 (w1.drewN q):=below_drewN' (Below.refl _ _) q
 have hA:=hA.below bq
 have hB:=hB.below bq
 have kA:=kA.below bq
 have kB:=kB.below bq
 have kR:=kR.below bq
 have hx:=below_up hx bq
 generalize w1.drewN q = w2 at *
 clear bq a0 a1 b0 b1 za zb zr HZ1
 obtain ⟨a0,a1⟩:=kA.two_
 have za:=kA.lt
 go_wp2_with fail
 refine (cloneS_any SA c _ segs _ hA.1 (by omega)).mono ?_
 rintro e w3 ⟨S2,c2,rfl,hoS,hbs⟩
 have hoS:=own_weak hoS hx.size
 have hA:=hA.below hbs
 have hB:=hB.below hbs
 have kA:=kA.below hbs
 have kB:=kB.below hbs
 have kR:=kR.below hbs
 have hx:=below_up hx hbs
 clear hbs a0 a1 za
 have HX:=Lib.hid hx
 have hxs:=hx.size
 obtain ⟨a0,a1⟩:=kA.two_
 have za:=kA.lt
 have zr3:=kR.lt
 clear hx
 go_wp2_with fail
 have hw:=MW.start w3 (.slice S2 segs.length c2)
 generalize w3.alloc (.cells #[.slice S2 segs.length c2,.slice none 0 0] 29) = w4 at *
 have hA4:=hA.below hw.bel
 have kA4:=kA.below hw.bel
 obtain ⟨a0,a1⟩:=kA4.two_
 have za:=kA4.lt
 obtain ⟨W0,hW0⟩ : ∃ W,W = w3:=⟨_,rfl⟩
 subst hW0
 clear hA4 kA4
 go_wp2_with fail
 go_loopw [38] (fun i wr => ∃ (k : Nat) (A : Option Addr) (dz : Nat) (zs : List AttE),k ≤ us.length ∧ i = .int .i64 k ∧ Hid (attE zs = us.take k) ∧ MW W0 wr (.slice S2 segs.length c2) A dz zs) (fun i _ => us.length - (intOf i).toNat)
 case atStart => exact ⟨0,none,0,[],Nat.zero_le _,rfl,Lib.hid rfl,hw⟩
 case round =>
  clear hw a0 a1 za
  obtain ⟨k,A,dz,zs,hk,rfl,HZ,hw⟩:=hrel
  by_cases hlt : k < us.length
  ·obtain ⟨b,off,B,cB,rfl,hbs,c0,c1,hrB⟩:=(hA.below hw.bel).att hlt
   have hsl:=(HA.out.spl k hlt).len
   have hzl : zs.length ≤ 500:=by
    have:=congrArg List.length HZ.out
    rw [attE_len,List.length_take] at this
    omega
   have HT : Hid (us.take k ++ [us[k]] = us.take (k + 1)):=Lib.hid (List.take_succ_eq_append_getElem hlt).symm
   generalize us[k] = x at *
   obtain ⟨no,l⟩:=x
   dsimp only at *
   have kX : Blk (wr.alloc (.cells #[.int .i64 no,.slice B l.length cB] 81)) wr.heap.size 81 #[.int .i64 no,.slice B l.length cB]:=Blk.new _ _ _
   have hrB:=hrB.alloc (.cells #[.int .i64 no,.slice B l.length cB] 81)
   have hw:=hw.alloc (.cells #[.int .i64 no,.slice B l.length cB] 81)
   go_upto_region 10 with (fail)
   clear c0 c1 hbs
   generalize wr.alloc (.cells #[.int .i64 no,.slice B l.length cB] 81) = wx at *
   generalize wr.heap.size = xb at *
   have kX:=kX.drew
   have hrB:=hrB.drew
   have hw:=hw.drew
   refine wp_region_heldK 7 (fun w' => w'.cell? ⟨W0.heap.size,1,none⟩ = some (.slice A zs.length dz)) (fun _ => True) (by kernel_rfl) (trivial) (hw.box.two_.2) (fun hT hS => ?_)
   (refine wpAnyK_take2 (i:=0) (v:=?_) (by (simp only [List.getElem?_toArray,List.getElem?_cons_zero]; rfl)) (by kernel_rfl) (by kernel_rfl) (by kernel_rfl) (by decide) (by exact fun _ _ _ h => h) (Or.inl ⟨by rfl,?_⟩) (by assumption) (by assumption) ?_; (rotate_left 1; (intro w hSw; (try dsimp only at hSw); go_simp); (try with_reducible rfl)); (try simp only [Act.put,List.setIfInBounds_toArray,List.set_cons_zero,List.set_cons_succ]))
   (refine wpAnyK_take1 (i:=1) (v:=?_) (by (simp only [List.getElem?_toArray,List.getElem?_cons_succ,List.getElem?_cons_zero]; rfl)) (by kernel_rfl) (by kernel_rfl) (by kernel_rfl) (by decide) (by kernel_rfl) (by kernel_rfl) (by exact fun _ _ _ h => h) (Or.inl ⟨by rfl,?_⟩) (by assumption) (by assumption) ?_; (rotate_left 1; (intro w hSw; (try dsimp only at hSw); go_simp); (try with_reducible rfl)); (try simp only [Act.put,List.setIfInBounds_toArray,List.set_cons_zero,List.set_cons_succ]))
   refine wpAnyK_ready (rs:=[2]) (by kernel_rfl) (by simp) ?_
   refine AllReadyK.cons rfl (fun K hK => ?_) AllReadyK.nil
   have x0:=kX.two_.1
   have x1:=kX.two_.2
   have xz:=kX.lt
   go_simp
   clear x0 x1 xz
   refine hK.out _ _ (trivial) (hw.box.two_.2) (fun hT hS => ?_)
   clear hK K
   (try simp only [Act.put,List.setIfInBounds_toArray,List.set_cons_zero,List.set_cons_succ])
   refine wpAnyK_ready (rs:=[3]) (by kernel_rfl) (by simp) ?_
   refine AllReadyK.cons rfl (fun K hK => ?_) AllReadyK.nil
   go_simp
   go_at_call 69
   refine (copyAttempt_any no B cB _ l _ hrB (by omega)).mono ?_
   rintro e wt ⟨B',c5,rfl,hoB,hbt⟩
   have hoB:=own_weak hoB hw.size
   have hw:=hw.below hbt
   have kX:=kX.below hbt
   go_wp2_with fail
   refine hK.out _ _ (trivial) (hw.box.two_.2) (fun hT hS => ?_)
   clear hK K
   (try simp only [Act.put,List.setIfInBounds_toArray,List.set_cons_zero,List.set_cons_succ])
   refine wpAnyK_ready (rs:=[4]) (by kernel_rfl) (by simp) ?_
   refine AllReadyK.cons rfl (fun K hK => ?_) AllReadyK.nil
   go_simp
   have hby : Blk (wt.alloc (.cells #[.int .i64 no,.slice B' l.length c5] 81)) wt.heap.size 81 #[.int .i64 no,.slice B' l.length c5]:=Blk.new _ _ _
   have hw:=hw.alloc (.cells #[.int .i64 no,.slice B' l.length c5] 81)
   have kX:=kX.alloc (.cells #[.int .i64 no,.slice B' l.length c5] 81)
   have hoB:=hoB.alloc (.cells #[.int .i64 no,.slice B' l.length c5] 81)
   refine hK.out _ _ (trivial) (hw.box.two_.2) (fun hT hS => ?_)
   clear hK K
   (try simp only [Act.put,List.setIfInBounds_toArray,List.set_cons_zero,List.set_cons_succ])
   refine wpAnyK_ready (rs:=[5]) (by kernel_rfl) (by simp) ?_
   refine AllReadyK.cons rfl (fun K hK => ?_) AllReadyK.nil
   refine step_app (lo:=0) (base:=W0.heap.size) (n:=zs.length) (xs:=zs.flatMap encE) _ rfl _ _ ty_atts rfl hw.att.row rfl (Row.lit (n:=1) (size:=2) hby (Nat.zero_le _) rfl) rfl rfl (by omega) (by omega) hw.size ?_
   intro A5 d5 w5 hown5 hg5 _
   have hbx:=hw.box_app hg5
   refine hK.out _ _ (trivial) (hbx.two_.2) (fun hT hS => ?_)
   clear hK K
   (try simp only [Act.put,List.setIfInBounds_toArray,List.set_cons_zero,List.set_cons_succ])
   (refine wpAnyK_take2 (i:=6) (v:=?_) (by (simp only [List.getElem?_toArray,List.getElem?_cons_succ,List.getElem?_cons_zero]; rfl)) (by kernel_rfl) (by kernel_rfl) (by kernel_rfl) (by decide) (by exact fun _ _ _ h => h) (Or.inl ⟨by rfl,?_⟩) (by assumption) (by assumption) ?_; (rotate_left 1; (intro w hSw; (try dsimp only at hSw); go_simp); (try with_reducible rfl)); (try simp only [Act.put,List.setIfInBounds_toArray,List.set_cons_zero,List.set_cons_succ]))
   refine wpAnyK_ready (rs:=[7]) (by kernel_rfl) (by simp) ?_
   refine AllReadyK.consT (by kernel_rfl) rfl (fun K hK => ?_) AllReadyK.nil
   have q0:=hbx.two_.1
   have q1:=hbx.two_.2
   have qf:=hbx.thaw 1
   have qz:=hbx.lt
   go_simp
   clear q0 q1 qf qz
   have hw:=hw.push (x:=((no,l),(B',c5))) hg5 hoB hown5
   refine hK.out _ _ (trivial) (fun hT => ?_)
   clear hK K
   (try simp only [Act.put,List.setIfInBounds_toArray,List.set_cons_zero,List.set_cons_succ])
   refine wpAnyK_done (by kernel_rfl) ?_ _
   go_wp2_with fail
   go_roundw
   case rel => exact ⟨k + 1,_,d5,zs ++ [((no,l),(B',c5))],by omega,by go_num,by rw [attE_app,HZ.out]; exact HT.out,hw⟩
   case measure => simp [intOf]; omega
  ·have hkn : us.take k = us:=List.take_of_length_le (by omega)
   rw [hkn] at HZ
   obtain ⟨W1,hW1⟩ : ∃ W,W = wr:=⟨_,rfl⟩
   subst hW1
   clear hkn
   have hke : k = us.length:=by omega
   subst hke
   clear hk hlt
   have hB4:=hB.below hw.bel
   have kB4:=kB.below hw.bel
   obtain ⟨b0,b1⟩:=kB4.two_
   have zb:=kB4.lt
   clear hB4 kB4
   go_wp2_with fail
   go_loopw [53] (fun i wr => ∃ (k : Nat) (A : Option Addr) (dz : Nat) (zs : List AttE),k ≤ bs.length ∧ i = .int .i64 k ∧ Hid (attE zs = us ++ mgN us (bs.take k)) ∧ MW W0 wr (.slice S2 segs.length c2) A dz zs) (fun i _ => bs.length - (intOf i).toNat)
   case atStart => exact ⟨0,A,dz,zs,Nat.zero_le _,rfl,Lib.hid (by rw [HZ.out]; simp [mgN]),hw⟩
   case round =>
    clear hw HZ b0 b1 zb
    obtain ⟨k,A,dz,zs,hk,rfl,HZ,hw⟩:=hrel
    have hzl : zs.length ≤ 500:=by
     have h1:=congrArg List.length HZ.out
     have h2:=mgN_take_len us bs k
     have h3:=HLEN.out
     rw [attE_len] at h1
     omega
    by_cases hlt : k < bs.length
    ·obtain ⟨b,off,B,cB,rfl,hbs,c0,c1,hrB⟩:=(hB.below hw.bel).att hlt
     have hsl:=(HB.out.spl k hlt).len
     have HN1:=Lib.hid (fun h => mgN_new (a:=us) hlt h)
     have HN2:=Lib.hid (fun h => mgN_old (a:=us) hlt h)
     have HNK:=Lib.hid (fun (j : Nat) (hj : j < us.length) (e : us[j].1 = bs[k].1) => HNO.out bs[k] (List.getElem_mem hlt) us[j] (List.getElem_mem hj) e)
     generalize bs[k] = x at *
     obtain ⟨no,l⟩:=x
     dsimp only at *
     have kX : Blk (wr.alloc (.cells #[.int .i64 no,.slice B l.length cB] 81)) wr.heap.size 81 #[.int .i64 no,.slice B l.length cB]:=Blk.new _ _ _
     have hrB:=hrB.alloc (.cells #[.int .i64 no,.slice B l.length cB] 81)
     have hw:=hw.alloc (.cells #[.int .i64 no,.slice B l.length cB] 81)
     have kAx:=kA.below hw.bel
     have hAx:=hA.below hw.bel
     have hxz : (wr.alloc (.cells #[.int .i64 no,.slice B l.length cB] 81)).heap.size = wr.heap.size + 1:=by simp
     obtain ⟨a0,a1⟩:=kAx.two_
     have za:=kAx.lt
     go_upto_region 15 with (fail)
     clear c0 c1 hbs
     generalize wr.alloc (.cells #[.int .i64 no,.slice B l.length cB] 81) = wx at *
     generalize wr.heap.size = xb at *
     obtain ⟨x0,x1⟩:=kX.two_
     have xz:=kX.lt
     go_wp2_with fail
     refine (searchA_any SA TA d lo segs us no _ hAx (by omega) HA.out.up).mono ?_
     rintro e ws ⟨r,q,rfl,hF,hbs⟩
     have hw:=hw.below hbs
     have kX:=kX.below hbs
     have hrB:=hrB.below hbs
     have kAx:=kAx.below hbs
     have hAx:=hAx.below hbs
     have HF:=Lib.hid hF
     clear hF hbs a0 a1 za x0 x1 xz hxz
     cases q
     ·have HT : Hid (us ++ mgN us (bs.take (k + 1)) = us ++ mgN us (bs.take k) ++ [(no,l)]):=Lib.hid (by rw [HN1.out (HF.out.2.2 rfl),List.append_assoc])
      clear HN1 HN2 HNK
      go_upto_region 17 with (fail)
      have kX:=kX.drew
      have hrB:=hrB.drew
      have hw:=hw.drew
      clear kAx hAx
      refine wp_region_heldK 7 (fun w' => w'.cell? ⟨W0.heap.size,1,none⟩ = some (.slice A zs.length dz)) (fun _ => True) (by kernel_rfl) (trivial) (hw.box.two_.2) (fun hT hS => ?_)
      (refine wpAnyK_take2 (i:=0) (v:=?_) (by (simp only [List.getElem?_toArray,List.getElem?_cons_zero]; rfl)) (by kernel_rfl) (by kernel_rfl) (by kernel_rfl) (by decide) (by exact fun _ _ _ h => h) (Or.inl ⟨by rfl,?_⟩) (by assumption) (by assumption) ?_; (rotate_left 1; (intro w hSw; (try dsimp only at hSw); go_simp); (try with_reducible rfl)); (try simp only [Act.put,List.setIfInBounds_toArray,List.set_cons_zero,List.set_cons_succ]))
      (refine wpAnyK_take1 (i:=1) (v:=?_) (by (simp only [List.getElem?_toArray,List.getElem?_cons_succ,List.getElem?_cons_zero]; rfl)) (by kernel_rfl) (by kernel_rfl) (by kernel_rfl) (by decide) (by kernel_rfl) (by kernel_rfl) (by exact fun _ _ _ h => h) (Or.inl ⟨by rfl,?_⟩) (by assumption) (by assumption) ?_; (rotate_left 1; (intro w hSw; (try dsimp only at hSw); go_simp); (try with_reducible rfl)); (try simp only [Act.put,List.setIfInBounds_toArray,List.set_cons_zero,List.set_cons_succ]))
      refine wpAnyK_ready (rs:=[2]) (by kernel_rfl) (by simp) ?_
      refine AllReadyK.cons rfl (fun K hK => ?_) AllReadyK.nil
      have x0:=kX.two_.1
      have x1:=kX.two_.2
      have xz:=kX.lt
      go_simp
      clear x0 x1 xz
      refine hK.out _ _ (trivial) (hw.box.two_.2) (fun hT hS => ?_)
      clear hK K
      (try simp only [Act.put,List.setIfInBounds_toArray,List.set_cons_zero,List.set_cons_succ])
      refine wpAnyK_ready (rs:=[3]) (by kernel_rfl) (by simp) ?_
      refine AllReadyK.cons rfl (fun K hK => ?_) AllReadyK.nil
      go_simp
      go_at_call 69
      refine (copyAttempt_any no B cB _ l _ hrB (by omega)).mono ?_
      rintro e wt ⟨B',c5,rfl,hoB,hbt⟩
      have hoB:=own_weak hoB hw.size
      have hw:=hw.below hbt
      have kX:=kX.below hbt
      go_wp2_with fail
      refine hK.out _ _ (trivial) (hw.box.two_.2) (fun hT hS => ?_)
      clear hK K
      (try simp only [Act.put,List.setIfInBounds_toArray,List.set_cons_zero,List.set_cons_succ])
      refine wpAnyK_ready (rs:=[4]) (by kernel_rfl) (by simp) ?_
      refine AllReadyK.cons rfl (fun K hK => ?_) AllReadyK.nil
      go_simp
      have hby : Blk (wt.alloc (.cells #[.int .i64 no,.slice B' l.length c5] 81)) wt.heap.size 81 #[.int .i64 no,.slice B' l.length c5]:=Blk.new _ _ _
      have hw:=hw.alloc (.cells #[.int .i64 no,.slice B' l.length c5] 81)
      have kX:=kX.alloc (.cells #[.int .i64 no,.slice B' l.length c5] 81)
      have hoB:=hoB.alloc (.cells #[.int .i64 no,.slice B' l.length c5] 81)
      refine hK.out _ _ (trivial) (hw.box.two_.2) (fun hT hS => ?_)
      clear hK K
      (try simp only [Act.put,List.setIfInBounds_toArray,List.set_cons_zero,List.set_cons_succ])
      refine wpAnyK_ready (rs:=[5]) (by kernel_rfl) (by simp) ?_
      refine AllReadyK.cons rfl (fun K hK => ?_) AllReadyK.nil
      refine step_app (lo:=0) (base:=W0.heap.size) (n:=zs.length) (xs:=zs.flatMap encE) _ rfl _ _ ty_atts rfl hw.att.row rfl (Row.lit (n:=1) (size:=2) hby (Nat.zero_le _) rfl) rfl rfl (by omega) (by omega) hw.size ?_
      intro A5 d5 w5 hown5 hg5 _
      have hbx:=hw.box_app hg5
      refine hK.out _ _ (trivial) (hbx.two_.2) (fun hT hS => ?_)
      clear hK K
      (try simp only [Act.put,List.setIfInBounds_toArray,List.set_cons_zero,List.set_cons_succ])
      (refine wpAnyK_take2 (i:=6) (v:=?_) (by (simp only [List.getElem?_toArray,List.getElem?_cons_succ,List.getElem?_cons_zero]; rfl)) (by kernel_rfl) (by kernel_rfl) (by kernel_rfl) (by decide) (by exact fun _ _ _ h => h) (Or.inl ⟨by rfl,?_⟩) (by assumption) (by assumption) ?_; (rotate_left 1; (intro w hSw; (try dsimp only at hSw); go_simp); (try with_reducible rfl)); (try simp only [Act.put,List.setIfInBounds_toArray,List.set_cons_zero,List.set_cons_succ]))
      refine wpAnyK_ready (rs:=[7]) (by kernel_rfl) (by simp) ?_
      refine AllReadyK.consT (by kernel_rfl) rfl (fun K hK => ?_) AllReadyK.nil
      have q0:=hbx.two_.1
      have q1:=hbx.two_.2
      have qf:=hbx.thaw 1
      have qz:=hbx.lt
      go_simp
      clear q0 q1 qf qz
      have hw:=hw.push (x:=((no,l),(B',c5))) hg5 hoB hown5
      refine hK.out _ _ (trivial) (fun hT => ?_)
      clear hK K
      (try simp only [Act.put,List.setIfInBounds_toArray,List.set_cons_zero,List.set_cons_succ])
      refine wpAnyK_done (by kernel_rfl) ?_ _
      go_wp2_with fail
      go_roundw
      case rel => exact ⟨k + 1,_,d5,zs ++ [((no,l),(B',c5))],by omega,by go_num,by rw [attE_app,HZ.out]; exact HT.out.symm,hw⟩
      case measure => simp [intOf]; omega
     ·obtain ⟨hr,her⟩:=HF.out.2.1 rfl
      have HT : Hid (mgN us (bs.take (k + 1)) = mgN us (bs.take k)):=Lib.hid (HN2.out ⟨r,hr,her⟩)
      have hsp:=HNK.out r hr her
      have hul:=(HA.out.spl r hr).len
      clear HN1 HN2 HNK HF
      obtain ⟨b,off,B2,cB2,rfl,hbs,c0,c1,hrB2⟩:=hAx.att hr
      rw [hsp] at c1 hrB2
      clear hsp her
      generalize us[r].1 = no2 at *
      obtain ⟨a0,a1⟩:=kAx.two_
      have za:=kAx.lt
      obtain ⟨x0,x1⟩:=kX.two_
      have xz:=kX.lt
      have hEq:=Lib.hid (fun (n : Nat) => equalI_any B2 B cB2 cB lo lo' l l (ws.drewN n) (hrB2.drewN n) (hrB.drewN n) (by omega) (by omega))
      go_wp2_with fail
      go_quiet ((go_at_call 35; exact quietD (hEq.out _)))
      go_wp2_with fail
      go_roundw
      case rel => exact ⟨k + 1,A,dz,zs,by omega,by go_num,by rw [HT.out]; exact HZ,hw.below (below_drewN' (Below.refl _ _) _)⟩
      case measure => simp [intOf]; omega
    ·have hkn : bs.take k = bs:=List.take_of_length_le (by omega)
     rw [hkn] at HZ
     have hke : k = bs.length:=by omega
     subst hke
     clear hkn hk hlt
     obtain ⟨q0,q1⟩:=hw.box.two_
     have qz:=hw.box.lt
     have d5 : decide (500 < zs.length) = false:=by simp; omega
     go_wp2_with fail
     refine (sortA_any A dz W0.heap.size zs _ hw.att (by omega)).mono ?_
     rintro e ws ⟨rfl,ys,hp,hsd,hoA,hgA⟩
     have hw:=hw.turned hgA hp.length_eq hoA
     rw [← hp.length_eq] at hzl
     clear q0 q1 qz d5 hgA hoA
     have kR9:=kR.below hw.bel
     have hoS9:=own_keep hoS hw.bel
     have hx9:=below_up HX.out hw.bel
     obtain ⟨q0,q1⟩:=hw.box.two_
     have qz:=hw.box.lt
     obtain ⟨r0,r1⟩:=kR9.two_
     have rz:=kR9.lt
     have rf0:=kR9.thaw 0
     have rf1:=kR9.thaw 1
     obtain ⟨z0,z1,z2⟩:=kR9.two2 (.slice S2 segs.length c2) (.slice A ys.length dz)
     have p:=grown_pokeOf ws (w.heap.size + 2) 0 (.slice S2 segs.length c2)
     have qq:=grown_pokeOf (ws.setCell ⟨w.heap.size + 2,0,none⟩ (.slice S2 segs.length c2)) (w.heap.size + 2) 1 (.slice A ys.length dz)
     have k1:=(kR9.poke 0 (.slice S2 segs.length c2)).kindOf
     have HO:=Lib.hid (show OHist _ w.heap.size S2 c2 A dz segs ys from ⟨own_otherOf (own_otherOf hoS9 p kR9.kindOf (by decide)) qq k1 (by decide),((hw.att.other p kR9.kindOf (by decide) (by decide)).other qq k1 (by decide) (by decide)).weak hxs⟩)
     have HBW:=Lib.hid (Below.setCell (Below.setCell hx9 (p:=⟨w.heap.size + 2,0,none⟩) (by simp) (.slice S2 segs.length c2)) (p:=⟨w.heap.size + 2,1,none⟩) (by simp) (.slice A ys.length dz))
     have HPM : Hid ((attE ys).Perm (us ++ mgN us bs)):=Lib.hid (by rw [← HZ.out]; exact hp.map _)
     have HSD : Hid ((attE ys).Pairwise (fun x y => x.1 ≤ y.1)):=Lib.hid (by unfold attE; rw [List.pairwise_map]; exact hsd)
     clear hw kR9 hoS9 hx9 p qq k1 hp hsd
     go_wp2_with fail
     refine bodyPost_ret (v:=.tuple #[.agg #[.slice S2 segs.length c2,.slice A ys.length dz],.int .i64 0]) (by simp [results,Tryz.results26,go_sem,z0,z1,z2]) rfl ?_
     exact ⟨S2,A,c2,dz,ys,rfl,HO.out,HPM.out,HSD.out,HBW.out⟩
end Go.Proofs.YtapjahbflhingaaGreatDoor
/- The walk of splitkeep1.spoilHistory: it changes what the history leads to, and nothing else. -/
namespace Go.Proofs.YtapjahbflhingaaGreatDoor
set_option linter.unusedVariables false
set_option linter.unusedSimpArgs false
open Go.RowKit Go.Sort

def WrT (w : World) (base : Nat) (t : TypeId) (size : Nat) (B : Option Addr) (n : Nat) : Prop:=0 < n → ∃ g cs,B = some ⟨g,0,none⟩ ∧ base ≤ g ∧ Blk w g t cs ∧ n * size ≤ cs.size
section
variable {w w' : World} {base size n c : Nat} {t x : TypeId} {B : Option Addr} {xs : List Value} {row : Option Nat}
theorem WrT.of_own (h : w.ownsRow base t size (.slice B n c) n xs) : WrT w base t size B n:=by
 intro hn
 rcases h.2 with ⟨_,h0⟩ | ⟨g,cap,cur,hv,hg,hh,hcap,_,hcs,_⟩
 ·omega
 ·injection hv with h1 h2 h3
  exact ⟨g,cur,h1,hg,hh,by rw [hcs]; exact Nat.mul_le_mul_right _ hcap⟩
theorem WrT.other (h : WrT w base t size B n) (hg : w.grownBy w' row) (hk : KindOf w row x) (hne : x ≠ t) : WrT w' base t size B n:=by
 intro hn
 obtain ⟨g,cs,e,hb,hB,hs⟩:=h hn
 exact ⟨g,cs,e,hb,hB.otherOf hg hk hne,hs⟩
theorem WrT.poke (h : WrT w base t size B n) (p i : Nat) (u : Value) : WrT (w.setCell ⟨p,i,none⟩ u) base t size B n:=by
 intro hn
 obtain ⟨g,cs,e,hb,hB,hs⟩:=h hn
 by_cases e2 : g = p
 ·subst e2
  exact ⟨g,_,e,hb,hB.poke i u,by simpa using hs⟩
 ·exact ⟨g,cs,e,hb,hB.past _ _ _ e2,hs⟩
theorem WrT.below (h : WrT w base t size B n) (hb : Below w.heap.size w w') : WrT w' base t size B n:=by
 intro hn
 obtain ⟨g,cs,e,h1,hB,hs⟩:=h hn
 exact ⟨g,cs,e,h1,hB.below hb,hs⟩
theorem WrT.cell (h : WrT w base t 1 B n) {k : Nat} (hk : k < n) : ∃ g u,B = some ⟨g,0,none⟩ ∧ base ≤ g ∧ g < w.heap.size ∧ w.cell? ⟨g,k,none⟩ = some u ∧ w.frozen? ⟨g,k,none⟩ = false ∧ tyOf w g = some t:=by
 obtain ⟨g,cs,e,h1,hB,hs⟩:=h (by omega)
 exact ⟨g,cs[k]'(by omega),e,h1,hB.lt,by rw [hB.cell]; simp,hB.thaw k,hB.tyOf⟩
end
structure WAt (w : World) (base g : Nat) (zs : List AttE) : Prop where
  row : ∃ cs, Blk w g 81 cs ∧ ∀ i, ∀ h : i < zs.length, (∃ no : Int, cs[i * 2]? = some (.int .i64 no)) ∧ cs[i * 2 + 1]? = some (.slice zs[i].2.1 zs[i].1.2.length zs[i].2.2)
  spl : ∀ x ∈ zs, WrT w base 3 1 x.2.1 x.1.2.length
  ge : base ≤ g
section
variable {w w' : World} {base g : Nat} {zs : List AttE}
theorem WAt.of_own {A : Option Addr} {d : Nat} (h : OAtts w base A d zs) (hp : 0 < zs.length) : ∃ g,A = some ⟨g,0,none⟩ ∧ WAt w base g zs:=by
 rcases h.row.2 with ⟨_,h0⟩ | ⟨g,cap,cur,hv,hg,hh,hcap,_,hcs,ht⟩
 ·omega
 ·injection hv with h1 h2 h3
  refine ⟨g,h1,⟨cur,hh,fun i hi => ?_⟩,fun x hx => WrT.of_own (h.spl x hx),hg⟩
  have e1:=(encE_at zs i hi).1
  have e2:=(encE_at zs i hi).2
  rw [← ht,List.getElem?_take_of_lt (by omega),Array.getElem?_toList] at e1 e2
  exact ⟨⟨_,e1⟩,e2⟩
theorem WAt.int (h : WAt w base g zs) {p : Nat} (hp : tyOf w p = some 3) (i : Nat) (u : Value) : WAt (w.setCell ⟨p,i,none⟩ u) base g zs:=by
 obtain ⟨⟨cs,hB,hc⟩,h2,h3⟩:=h
 have hne : g ≠ p:=fun e => by subst e; rw [hB.tyOf] at hp; exact absurd hp (by decide)
 exact ⟨⟨cs,hB.past _ _ _ hne,hc⟩,fun x hx => (h2 x hx).poke _ _ _,h3⟩
theorem WAt.no (h : WAt w base g zs) {j : Nat} (hj : j < zs.length) (n : Int) : WAt (w.setCell ⟨g,j * 2,none⟩ (.int .i64 n)) base g zs:=by
 obtain ⟨⟨cs,hB,hc⟩,h2,h3⟩:=h
 refine ⟨⟨_,hB.poke (j * 2) _,fun i hi => ?_⟩,fun x hx => (h2 x hx).poke _ _ _,h3⟩
 obtain ⟨⟨no,e1⟩,e2⟩:=hc i hi
 have hs : j * 2 < cs.size:=by
  obtain ⟨⟨no',e1'⟩,_⟩:=hc j hj
  exact (Array.getElem?_eq_some_iff.1 e1').1
 constructor
 ·by_cases e : j = i
  ·subst e; exact ⟨n,by rw [Array.getElem?_setIfInBounds_self_of_lt hs]⟩
  ·exact ⟨no,by rw [Array.getElem?_setIfInBounds_ne (by omega)]; exact e1⟩
 ·rw [Array.getElem?_setIfInBounds_ne (by omega)]; exact e2
theorem WAt.str (h : WAt w base g zs) {p : Nat} (hp : tyOf w p = some 9) (i : Nat) (u : Value) : WAt (w.setCell ⟨p,i,none⟩ u) base g zs:=by
 obtain ⟨⟨cs,hB,hc⟩,h2,h3⟩:=h
 have hne : g ≠ p:=fun e => by subst e; rw [hB.tyOf] at hp; exact absurd hp (by decide)
 exact ⟨⟨cs,hB.past _ _ _ hne,hc⟩,fun x hx => (h2 x hx).poke _ _ _,h3⟩
theorem WAt.cell (h : WAt w base g zs) {i : Nat} (hi : i < zs.length) : g < w.heap.size ∧ (∃ no : Int,w.cell? ⟨g,i * 2,none⟩ = some (.int .i64 no)) ∧ w.cell? ⟨g,i * 2 + 1,none⟩ = some (.slice zs[i].2.1 zs[i].1.2.length zs[i].2.2) ∧ w.frozen? ⟨g,i * 2,none⟩ = false:=by
 obtain ⟨⟨cs,hB,hc⟩,_,_⟩:=h
 obtain ⟨⟨no,e1⟩,e2⟩:=hc i hi
 exact ⟨hB.lt,⟨no,by rw [hB.cell]; exact e1⟩,by rw [hB.cell]; exact e2,hB.thaw _⟩
end
theorem blk_tyNe {w : World} {b p : Nat} {t x : TypeId} {cs : Array Value} (h : Blk w b t cs) (hp : tyOf w p = some x) (hne : t ≠ x) : b ≠ p:=fun e => by
 subst e
 rw [h.tyOf] at hp
 injection hp with hp
 exact hne hp
set_option maxHeartbeats 4000000 in
set_option maxRecDepth 100000 in
theorem spoil_any (SA TA : Option Addr) (c d base : Nat) (segs : List (List UInt8)) (zs : List AttE) (w : World) (ho : OHist w base SA c TA d segs zs) (hb : base ≤ w.heap.size) (n2 : segs.length ≤ 60) (m : zs.length ≤ 500) (hl : ∀ x ∈ zs,x.1.2.length ≤ 60) :
  Calls Tryz.prog 32 #[.agg #[.slice SA segs.length c,.slice TA zs.length d]] w fun e w' => e = .returned (.tuple #[]) ∧ Below base w w':=by
 have HL:=Lib.hid hl
 have HO:=Lib.hid ho
 have hS0 : WrT w base 9 1 SA segs.length:=WrT.of_own ho.1
 clear hl ho
 go_enter Tryz.func32,Tryz.ntmps32
 go_wp2_with fail
 have kh : Blk (w.alloc (.cells #[.slice SA segs.length c,.slice TA zs.length d] 29)) w.heap.size 29 #[.slice SA segs.length c,.slice TA zs.length d]:=Blk.new _ _ _
 have hx : Below base w (w.alloc (.cells #[.slice SA segs.length c,.slice TA zs.length d] 29)):=(Below.refl _ _).alloc hb _
 have hS:=hS0.below ((Below.refl w.heap.size w).alloc (Nat.le_refl _) (.cells #[.slice SA segs.length c,.slice TA zs.length d] 29))
 have hA : 0 < zs.length → ∃ g,TA = some ⟨g,0,none⟩ ∧ WAt (w.alloc (.cells #[.slice SA segs.length c,.slice TA zs.length d] 29)) base g zs:=fun hp => WAt.of_own (HO.out.2.alloc _) hp
 clear hS0
 generalize w.alloc (.cells #[.slice SA segs.length c,.slice TA zs.length d] 29) = w0 at *
 have hsz:=kh.lt
 obtain ⟨q0,q1⟩:=kh.two_
 have qz:=kh.lt
 go_wp2_with fail
 go_loopw [8] (fun i wr => ∃ k : Nat,k ≤ segs.length ∧ i = .int .i64 k ∧ Blk wr w.heap.size 29 #[.slice SA segs.length c,.slice TA zs.length d] ∧ WrT wr base 9 1 SA segs.length ∧ (0 < zs.length → ∃ g,TA = some ⟨g,0,none⟩ ∧ WAt wr base g zs) ∧ Below base w wr) (fun i _ => segs.length - (intOf i).toNat)
 case atStart => exact ⟨0,Nat.zero_le _,rfl,kh,hS,hA,hx⟩
 case round =>
  clear kh hS hA hx q0 q1 qz
  obtain ⟨k,hk,rfl,kh,hS,hA,hx⟩:=hrel
  obtain ⟨q0,q1⟩:=kh.two_
  have qz:=kh.lt
  by_cases hlt : k < segs.length
  ·obtain ⟨gs,u,rfl,hgb,hgl,cu,fu,hty⟩:=hS.cell hlt
   have hne:=blk_tyNe kh hty (by decide)
   have kh2:=kh.past gs k (.string ⟨#[115,112,111,105,108,116]⟩) hne
   have hS2:=hS.poke gs k (.string ⟨#[115,112,111,105,108,116]⟩)
   have hA2 : 0 < zs.length → ∃ g,TA = some ⟨g,0,none⟩ ∧ WAt (wr.setCell ⟨gs,k,none⟩ (.string ⟨#[115,112,111,105,108,116]⟩)) base g zs:=fun hp => let ⟨g,e,h⟩:=hA hp; ⟨g,e,h.str hty _ _⟩
   have hx2:=Below.setCell hx (p:=⟨gs,k,none⟩) hgb (.string ⟨#[115,112,111,105,108,116]⟩)
   clear kh hS hA hx
   go_wp2_with fail
   go_roundw
   case rel => exact ⟨k + 1,by omega,by go_num,kh2,hS2,hA2,hx2⟩
   case measure => simp [intOf]; omega
  ·have hke : k = segs.length:=by omega
   subst hke
   obtain ⟨W1,hW1⟩ : ∃ W,W = wr:=⟨_,rfl⟩
   subst hW1
   clear hS
   go_wp2_with fail
   go_loopw [19] (fun i wr => ∃ k : Nat,k ≤ zs.length ∧ i = .int .i64 k ∧ Blk wr w.heap.size 29 #[.slice SA segs.length c,.slice TA zs.length d] ∧ (0 < zs.length → ∃ g,TA = some ⟨g,0,none⟩ ∧ WAt wr base g zs) ∧ Below base w wr) (fun i _ => zs.length - (intOf i).toNat)
   case atStart => exact ⟨0,Nat.zero_le _,rfl,kh,hA,hx⟩
   case round =>
    clear kh hA hx q0 q1 qz
    obtain ⟨i,hi,rfl,kh,hA,hx⟩:=hrel
    obtain ⟨q0,q1⟩:=kh.two_
    have qz:=kh.lt
    by_cases hil : i < zs.length
    ·obtain ⟨ga,rfl,hW⟩:=hA (by omega)
     obtain ⟨gz,⟨no,c0⟩,c1,f0⟩:=hW.cell hil
     have hll:=HL.out zs[i] (List.getElem_mem hil)
     have HM:=Lib.hid (List.getElem_mem hil)
     have HC:=Lib.hid (fun (w' : World) (h : WAt w' base ga zs) => h.cell hil)
     generalize zs[i] = x at *
     obtain ⟨⟨no0,l⟩,⟨B,cB⟩⟩:=x
     dsimp only at *
     clear hA
     go_wp2_with fail
     go_loopw [29] (fun j wv => ∃ k : Nat,k ≤ l.length ∧ j = .int .i64 k ∧ Blk wv w.heap.size 29 #[.slice SA segs.length c,.slice (some ⟨ga,0,none⟩) zs.length d] ∧ WAt wv base ga zs ∧ Below base w wv) (fun j _ => l.length - (intOf j).toNat)
     case atStart => exact ⟨0,Nat.zero_le _,rfl,kh,hW,hx⟩
     case round =>
      clear kh hW hx q0 q1 qz gz c0 c1 f0
      obtain ⟨k,hk,rfl,kh,hW,hx⟩:=hrel
      obtain ⟨q0,q1⟩:=kh.two_
      have qz:=kh.lt
      obtain ⟨gz,⟨no',c0⟩,c1,f0⟩:=HC.out _ hW
      by_cases hkl : k < l.length
      ·obtain ⟨gs,u,rfl,hgb,hgl,cu,fu,hty⟩:=(hW.spl _ HM.out).cell hkl
       have hne:=blk_tyNe kh hty (by decide)
       have kh2:=kh.past gs k (.int .i64 777) hne
       have hW2:=hW.int hty k (.int .i64 777)
       have hx2:=Below.setCell hx (p:=⟨gs,k,none⟩) hgb (.int .i64 777)
       clear kh hW hx
       go_wp2_with fail
       go_roundw
       case rel => exact ⟨k + 1,by omega,by go_num,kh2,hW2,hx2⟩
       case measure => simp [intOf]; omega
      ·have hke : k = l.length:=by omega
       subst hke
       have hne : w.heap.size ≠ ga:=blk_tyNe kh (let ⟨⟨cs,hB,_⟩,_,_⟩:=hW; hB.tyOf) (by decide)
       have kh2:=kh.past ga (i * 2) (.int .i64 777) hne
       have hW2:=hW.no hil 777
       have hx2:=Below.setCell hx (p:=⟨ga,i * 2,none⟩) hW.ge (.int .i64 777)
       clear kh hW hx
       go_wp2_with fail
       go_roundw
       case rel => exact ⟨i + 1,by omega,by go_num,kh2,fun _ => ⟨ga,rfl,hW2⟩,hx2⟩
       case measure => simp [intOf]; omega
    ·have hke : i = zs.length:=by omega
     subst hke
     go_wp2_with fail
     go_returns
     exact ⟨rfl,hx⟩
end Go.Proofs.YtapjahbflhingaaGreatDoor
