/- Texts of this seat, laid together: LawMapsChecked. -/
import Derived.Deep.DeepCutAuto
import Derived.Deep.CutRange
import Derived.Test.YtijdbbnnkogkjaaGreatDoorBm47
import Derived.Test.YtijdbbnnkogkjaaGreatDoorBm36
import Derived.Test.YtijdbbnnkogkjaaGreatDoorBm39
/- For every list of numbers the law MapsChecked returns true and leaves the list as it was: its walk. -/
namespace Go.Proofs.YtijdbbnnkogkjaaGreatDoor
set_option linter.unusedVariables false
set_option linter.unusedSimpArgs false
open Go.RowKit Go.Sort

theorem gives_le {rs : List RoomE} (hG : ∀ r ∈ rs,r.gives.length ≤ 1000) (key : List UInt8) : (givesOf rs key).length ≤ 1000:=by
 unfold givesOf
 cases hf : rs.find? fun r => r.key == key with
 | none => simp
 | some r => exact hG r (List.mem_of_find?_eq_some hf)
theorem walkS_len {rs : List RoomE} {ds : List DoorE} {tr : List (List UInt8)} (hG : ∀ r ∈ rs,r.gives.length ≤ 1000) : ∀ (l : List (List UInt8)) (room : List UInt8) (th : List (List UInt8)) (t : Int),(walkS rs ds tr l room th t).th.length ≤ th.length + l.length * 1000
 | [],_,_,_ => by simp [walkS]
 | key :: ks,room,th,t => by
  unfold walkS
  cases hf : ds.find? fun d => d.key == key with
  | none => simp [wkBad]
  | some d =>
   simp only
   by_cases hc : goE tr room th d ≠ 0
   ·rw [if_pos hc]; simp [wkBad]
   ·rw [if_neg hc]
    have h1:=walkS_len (ds:=ds) (tr:=tr) hG ks d.dst (thru rs th d) (t + d.time)
    have h2 : (thru rs th d).length ≤ th.length + 1000:=by
     unfold thru
     refine Nat.le_trans (onceT_le _) ?_
     rw [List.length_append]
     have:=List.length_filter_le (fun s => decide (s ∉ d.takes)) th
     have:=gives_le hG d.dst
     omega
    simp only [List.length_cons]
    omega
theorem walkF_len {rs : List RoomE} {ds : List DoorE} {st : List UInt8} {tr l : List (List UInt8)} (hG : ∀ r ∈ rs,r.gives.length ≤ 1000) : (walkF rs ds st tr l).th.length ≤ 1000000000:=by
 unfold walkF
 by_cases hc : 500 < l.length
 ·rw [if_pos hc]; simp [wkBad]
 ·rw [if_neg hc]
  have h1:=walkS_len (ds:=ds) (tr:=tr) hG l st (onceT (givesOf rs st)) 0
  have h2:=Nat.le_trans (onceT_le (givesOf rs st)) (gives_le hG st)
  omega
structure LwI (w W : World) (lo mb N : Nat) (A : Option Addr) (ca : Nat) (rs : List RoomE) (D : Option Addr) (cd : Nat) (ds : List DoorE) (st gl : List UInt8) (TR : Option Addr) (tr : List (List UInt8)) : Prop where
  m : MapW W lo A rs D ds
  t : Row W lo 1 TR tr.length (strs tr)
  b : Blk W mb 29 #[.slice A rs.length ca, .slice D ds.length cd, .string ⟨st.toArray⟩, .string ⟨gl.toArray⟩]
  s : Str W w.heap.size N
  x : Below w.heap.size w W
section
variable {w W W' : World} {lo mb N : Nat} {A : Option Addr} {ca : Nat} {rs : List RoomE} {D : Option Addr} {cd : Nat} {ds : List DoorE} {st gl : List UInt8} {TR : Option Addr} {tr : List (List UInt8)}
theorem LwI.below (h : LwI w W lo mb N A ca rs D cd ds st gl TR tr) (hb : Below W.heap.size W W') : LwI w W' lo mb N A ca rs D cd ds st gl TR tr :=
 ⟨h.m.below hb,h.t.below hb,h.b.below hb,h.s.keep hb,below_up h.x hb⟩
theorem LwI.cells (h : LwI w W lo mb N A ca rs D cd ds st gl TR tr) : (fun w' : World => w'.cell? ⟨mb,0,none⟩ = some (.slice A rs.length ca) ∧ w'.cell? ⟨mb,1,none⟩ = some (.slice D ds.length cd) ∧ w'.cell? ⟨mb,2,none⟩ = some (.string ⟨st.toArray⟩) ∧ w'.cell? ⟨mb,3,none⟩ = some (.string ⟨gl.toArray⟩)) W:=⟨h.b.cell 0,h.b.cell 1,h.b.cell 2,h.b.cell 3⟩
theorem LwI.lit (h : LwI w W lo mb N A ca rs D cd ds st gl TR tr) : LwI w (W.alloc (.cells #[.string ⟨#[100,48]⟩] 9)) lo mb N A ca rs D cd ds st gl TR tr ∧ Row (W.alloc (.cells #[.string ⟨#[100,48]⟩] 9)) 0 1 (some ⟨W.heap.size,0,none⟩) ([[100,48]] : List (List UInt8)).length (strs [[100,48]]) :=
 ⟨h.below ((Below.refl _ _).alloc (Nat.le_refl _) _),Row.lit (Blk.new _ _ _) (Nat.zero_le _) rfl⟩
theorem LwI.grown {M : Nat} (h : LwI w W lo mb N A ca rs D cd ds st gl TR tr) (hg : W.grownBy W' (some w.heap.size)) (hs : Str W' w.heap.size M) (hl : w.heap.size < lo) (hm : w.heap.size < mb) : LwI w W' lo mb M A ca rs D cd ds st gl TR tr :=
 ⟨h.m.grown hg hl,h.t.grown hg hl,h.b.grown hg (by omega),hs,h.x.grown hg (by have:=h.x.size; omega) (fun k hk => by injection hk with hk; omega)⟩
end
set_option maxHeartbeats 8000000 in
set_option maxRecDepth 100000 in
theorem mapsC_walk (A0 : Option Addr) (n c : Nat) (w : World) (hn : n ≤ 9223372036854775807)
  (hz : ∀ k,k < n → ∃ b off z,A0 = some ⟨b,off,none⟩ ∧ b < w.heap.size ∧ w.cell? ⟨b,off + k,none⟩ = some (.int .i64 z) ∧ I64 z) :
  LawCall 3 A0 n c w:=by
 have hstr:=str_make (c:=c) hn hz
 clear hz
 have hx : Below w.heap.size w (w.alloc (.cells #[.slice A0 n c,.int .i64 0] 25)):=(Below.refl _ _).alloc (Nat.le_refl _) _
 have hz0 : (w.alloc (.cells #[.slice A0 n c,.int .i64 0] 25)).heap.size = w.heap.size + 1:=by simp
 go_enter Tryz.func3,Tryz.ntmps3
 go_wp2_with fail
 generalize w.alloc (.cells #[.slice A0 n c,.int .i64 0] 25) = w0 at *
 clear hn
 refine (mapped_any w.heap.size 0 w0 hstr (by omega)).mono ?_
 clear hstr
 rintro e w1 ⟨A,ca,rs,D,cd,ds,st,gl,TR,c2,tr,rfl,hm1,ht1,htl,hs1,hg1⟩
 obtain ⟨te,hte⟩ : ∃ te,te = tricksE rs ds st gl tr:=⟨_,rfl⟩
 rw [← hte]
 have HTE:=Lib.hid hte
 clear hte
 have hz1:=hg1.size
 have hI2 : LwI w (w1.alloc (.cells #[.slice A rs.length ca,.slice D ds.length cd,.string ⟨st.toArray⟩,.string ⟨gl.toArray⟩] 29)) w0.heap.size w1.heap.size (0 + 2000) A ca rs D cd ds st gl TR tr :=
  ⟨hm1.alloc _,ht1.alloc _,Blk.new _ _ _,hs1.alloc _,(hx.grown hg1 (by omega) (fun k hk => by injection hk with hk; omega)).alloc (by omega) _⟩
 clear hx hm1 ht1 hs1 hg1
 have hll : w.heap.size < w0.heap.size:=by omega
 have hmm : w.heap.size < w1.heap.size:=by omega
 clear hz0 hz1
 go_upto_region 3 with (fail)
 generalize w1.alloc (.cells #[.slice A rs.length ca,.slice D ds.length cd,.string ⟨st.toArray⟩,.string ⟨gl.toArray⟩] 29) = w2 at *
 generalize w1.heap.size = mb at *
 generalize w0.heap.size = lo at *
 obtain ⟨me,hme⟩ : ∃ me,me = mapE rs ds st gl:=⟨_,rfl⟩
 have HME:=Lib.hid hme
 clear hme
 have dm : (me != me) = false:=by simp
 have dt : (te != te) = false:=by simp
 have HLI : Hid (∀ W,Below w2.heap.size w2 W → LwI w W lo mb (0 + 2000) A ca rs D cd ds st gl TR tr):=Lib.hid (fun W hW => hI2.below hW)
 clear hI2
 go_cut [35] from 24 to 34 (fun v wx => v = .bool false ∧ LwI w wx lo mb (0 + 2000) A ca rs D cd ds st gl TR tr)
 case first =>
  have hbz : Below w2.heap.size w2 w2.drew:=below_drewN' (Below.refl _ _) 1
  have hsc:=(HLI.out _ hbz).cells
  simp only at hsc

  refine wp_region_held_drew (S:=(fun w' => w'.cell? ⟨mb,0,none⟩ = some (.slice A rs.length ca) ∧ w'.cell? ⟨mb,1,none⟩ = some (.slice D ds.length cd) ∧ w'.cell? ⟨mb,2,none⟩ = some (.string ⟨st.toArray⟩) ∧ w'.cell? ⟨mb,3,none⟩ = some (.string ⟨gl.toArray⟩))) (by kernel_rfl) (hsc) (fun hHeld => ?_)
  (refine wpAnyH_take (i:=0) (v:=?_) (by (simp only [List.getElem?_toArray,List.getElem?_cons_zero]; rfl)) (by kernel_rfl) (by kernel_rfl) (by kernel_rfl) (by exact fun _ _ _ h => h) (Or.inl ⟨by rfl,?_⟩) (by assumption) ?_; (rotate_left 1; (intro w hSw; (try dsimp only at hSw); go_simp); (try with_reducible rfl)); (try simp only [Act.put,List.setIfInBounds_toArray,List.set_cons_zero,List.set_cons_succ]))
  (refine wpAnyH_take (i:=2) (v:=?_) (by (simp only [List.getElem?_toArray,List.getElem?_cons_succ,List.getElem?_cons_zero]; rfl)) (by kernel_rfl) (by kernel_rfl) (by kernel_rfl) (by exact fun _ _ _ h => h) (Or.inl ⟨by rfl,?_⟩) (by assumption) ?_; (rotate_left 1; (intro w hSw; (try dsimp only at hSw); go_simp); (try with_reducible rfl)); (try simp only [Act.put,List.setIfInBounds_toArray,List.set_cons_zero,List.set_cons_succ]))
  refine wpAnyH_ready (rs:=[1]) (by kernel_rfl) (by simp) ?_
  refine AllReadyH.cons rfl (fun K hK => ?_) AllReadyH.nil
  go_simp
  go_at_call 7
  have hcm:=checkMap_any lo ca cd A rs D ds st gl _ (HLI.out _ hbz).m
  unfold mapV at hcm
  simp only [encStr] at hcm
  rw [← HME.out] at hcm
  refine hcm.mono ?_
  rintro e wa ⟨rfl,hb⟩
  clear hcm
  replace hbz:=hbz.trans (hb.mono hbz.size)
  have hsc:=(HLI.out _ hbz).cells
  simp only at hsc
  clear hb
  go_wp2_with fail
  refine hK.out _ _ (hsc) (fun hHeld => ?_)
  clear hK K
  (try simp only [Act.put,List.setIfInBounds_toArray,List.set_cons_zero,List.set_cons_succ])
  refine wpAnyH_ready (rs:=[3]) (by kernel_rfl) (by simp) ?_
  refine AllReadyH.cons rfl (fun K hK => ?_) AllReadyH.nil
  go_simp
  go_at_call 8
  have hcm:=mapFault_any lo ca cd A rs D ds st gl _ (HLI.out _ hbz).m
  unfold mapV at hcm
  simp only [encStr] at hcm
  rw [← HME.out] at hcm
  refine hcm.mono ?_
  rintro e wb ⟨rfl,hb⟩
  clear hcm
  replace hbz:=hbz.trans (hb.mono hbz.size)
  have hsc:=(HLI.out _ hbz).cells
  simp only at hsc
  clear hb
  go_wp2_with fail
  refine hK.out _ _ (hsc) (fun hHeld => ?_)
  clear hK K
  (try simp only [Act.put,List.setIfInBounds_toArray,List.set_cons_zero,List.set_cons_succ])
  (refine wpAnyH_take (i:=4) (v:=?_) (by (simp only [List.getElem?_toArray,List.getElem?_cons_succ,List.getElem?_cons_zero]; rfl)) (by kernel_rfl) (by kernel_rfl) (by kernel_rfl) (by exact fun _ _ _ h => h) (Or.inl ⟨by rfl,?_⟩) (by assumption) ?_; (rotate_left 1; (intro w hSw; (try dsimp only at hSw); go_simp); (try with_reducible rfl)); (try simp only [Act.put,List.setIfInBounds_toArray,List.set_cons_zero,List.set_cons_succ]))
  (refine wpAnyH_take (i:=5) (v:=?_) (by (simp only [List.getElem?_toArray,List.getElem?_cons_succ,List.getElem?_cons_zero]; rfl)) (by kernel_rfl) (by kernel_rfl) (by kernel_rfl) (by exact fun _ _ _ h => h) (Or.inl ⟨by rfl,?_⟩) (by assumption) ?_; (rotate_left 1; (intro w hSw; (try dsimp only at hSw); go_simp); (try with_reducible rfl)); (try simp only [Act.put,List.setIfInBounds_toArray,List.set_cons_zero,List.set_cons_succ]))
  (refine wpAnyH_take (i:=6) (v:=?_) (by (simp only [List.getElem?_toArray,List.getElem?_cons_succ,List.getElem?_cons_zero]; rfl)) (by kernel_rfl) (by kernel_rfl) (by kernel_rfl) (by exact fun _ _ _ h => h) (Or.inl ⟨by rfl,?_⟩) (by assumption) ?_; (rotate_left 1; (intro w hSw; (try dsimp only at hSw); go_simp); (try with_reducible rfl)); (try simp only [Act.put,List.setIfInBounds_toArray,List.set_cons_zero,List.set_cons_succ]))
  (refine wpAnyH_take (i:=7) (v:=?_) (by (simp only [List.getElem?_toArray,List.getElem?_cons_succ,List.getElem?_cons_zero]; rfl)) (by kernel_rfl) (by kernel_rfl) (by kernel_rfl) (by exact fun _ _ _ h => h) (Or.inl ⟨by rfl,?_⟩) (by assumption) ?_; (rotate_left 1; (intro w hSw; (try dsimp only at hSw); go_simp); (try with_reducible rfl)); (try simp only [Act.put,List.setIfInBounds_toArray,List.set_cons_zero,List.set_cons_succ]))
  (refine wpAnyH_take (i:=9) (v:=?_) (by (simp only [List.getElem?_toArray,List.getElem?_cons_succ,List.getElem?_cons_zero]; rfl)) (by kernel_rfl) (by kernel_rfl) (by kernel_rfl) (by exact fun _ _ _ h => h) (Or.inl ⟨by rfl,?_⟩) (by assumption) ?_; (rotate_left 1; (intro w hSw; (try dsimp only at hSw); go_simp); (try with_reducible rfl)); (try simp only [Act.put,List.setIfInBounds_toArray,List.set_cons_zero,List.set_cons_succ]))
  refine wpAnyH_ready (rs:=[8]) (by kernel_rfl) (by simp) ?_
  refine AllReadyH.cons rfl (fun K hK => ?_) AllReadyH.nil
  go_simp
  go_at_call 9
  have hcm:=checkTricks_any lo ca cd A rs D ds st gl lo c2 TR tr _ (HLI.out _ hbz).m (HLI.out _ hbz).t (by omega)
  unfold mapV at hcm
  simp only [encStr] at hcm
  rw [← HTE.out] at hcm
  refine hcm.mono ?_
  rintro e wc ⟨rfl,hb⟩
  clear hcm
  replace hbz:=hbz.trans (hb.mono hbz.size)
  have hsc:=(HLI.out _ hbz).cells
  simp only at hsc
  clear hb
  go_wp2_with fail
  refine hK.out _ _ (hsc) (fun hHeld => ?_)
  clear hK K
  (try simp only [Act.put,List.setIfInBounds_toArray,List.set_cons_zero,List.set_cons_succ])
  (refine wpAnyH_take (i:=10) (v:=?_) (by (simp only [List.getElem?_toArray,List.getElem?_cons_succ,List.getElem?_cons_zero]; rfl)) (by kernel_rfl) (by kernel_rfl) (by kernel_rfl) (by exact fun _ _ _ h => h) (Or.inl ⟨by rfl,?_⟩) (by assumption) ?_; (rotate_left 1; (intro w hSw; (try dsimp only at hSw); go_simp); (try with_reducible rfl)); (try simp only [Act.put,List.setIfInBounds_toArray,List.set_cons_zero,List.set_cons_succ]))
  (refine wpAnyH_take (i:=11) (v:=?_) (by (simp only [List.getElem?_toArray,List.getElem?_cons_succ,List.getElem?_cons_zero]; rfl)) (by kernel_rfl) (by kernel_rfl) (by kernel_rfl) (by exact fun _ _ _ h => h) (Or.inl ⟨by rfl,?_⟩) (by assumption) ?_; (rotate_left 1; (intro w hSw; (try dsimp only at hSw); go_simp); (try with_reducible rfl)); (try simp only [Act.put,List.setIfInBounds_toArray,List.set_cons_zero,List.set_cons_succ]))
  refine wpAnyH_done (by kernel_rfl) ?_ _
  go_wp2_with fail
  go_meet
  exact ⟨rfl,HLI.out _ hbz⟩
 case rest =>
 obtain ⟨rfl,hI3⟩:=hcut
 clear HLI dt w2
 obtain ⟨a0,a1,a2,a3⟩:=hI3.cells
 go_wp2_with fail
 obtain ⟨ct,hct⟩ : ∃ ct,ct = ctR rs ds st gl:=⟨_,rfl⟩
 have hcr:=ctricks_any lo ca cd A rs D ds st gl _ hI3.m
 unfold CtPost mapV at hcr
 simp only [encStr] at hcr
 rw [← HME.out,← hct] at hcr
 have HCT:=Lib.hid hct
 clear hct
 refine hcr.mono ?_
 rintro e w4 ⟨CA,cc,rfl,hr4,hb4⟩
 clear hcr a0 a1 a2 a3
 have hI4:=hI3.below hb4
 clear hI3 hb4
 obtain ⟨a0,a1,a2,a3⟩:=hI4.cells
 go_wp2_with fail

 have hcm:=mapFault_any lo ca cd A rs D ds st gl _ hI4.m
 unfold mapV at hcm
 simp only [encStr] at hcm
 rw [← HME.out] at hcm
 refine hcm.mono ?_
 rintro e w5 ⟨rfl,hb⟩
 clear hcm
 have hI5:=hI4.below hb
 replace hr4:=hr4.below hb
 clear hI4 hb a0 a1 a2 a3
 go_upto_region 7 with (fail)
 have HKL : Hid ((onceT (allK ds)).length ≤ 1000000000):=Lib.hid (by have:=allK_le ds; have:=onceT_le (allK ds); have:=hI5.m.s.dl; omega)
 go_cut [65] from 43 to 64 (fun v wx => v = .bool false ∧ LwI w wx lo mb (0 + 2000) A ca rs D cd ds st gl TR tr)
 case first =>
  obtain ⟨a0,a1,a2,a3⟩:=hI5.cells
  by_cases hm0 : me = 0
  ·have hk : ct = onceT (allK ds):=by rw [HCT.out]; unfold ctR; rw [if_pos (by rw [← HME.out]; exact hm0)]
   have HK:=Lib.hid hk
   clear hk
   have d1 : (me == 0) = true:=by rw [hm0]; rfl
   have d2 : (me != 0) = false:=by rw [hm0]; rfl
   clear hm0
   go_wp2_with fail
   have hrt:=rTricks_any lo ca cd A rs D ds st gl _ hI5.m
   unfold mapV at hrt
   simp only [encStr] at hrt
   rw [← HK.out] at hrt
   refine hrt.mono ?_
   clear hrt
   rintro e w6 ⟨KA,kc,rfl,ho6,hb⟩
   have hI6:=hI5.below hb
   have hr6:=hr4.below hb
   clear hI5 hr4 hb a0 a1 a2 a3
   have HRK:=Lib.hid (Row.of_own ho6)
   clear ho6
   go_wp2_with fail
   have heq:=equalS_any CA KA cc kc _ _ ct ct _ hr6 HRK.out (by rw [HK.out]; exact HKL.out) (by rw [HK.out]; exact HKL.out)
   rw [decide_eq_true rfl] at heq
   refine heq.mono ?_
   clear heq
   rintro e w7 ⟨rfl,q,rfl⟩
   go_wp2_with fail
   go_meet
   exact ⟨rfl,hI6.below (below_drewN' (Below.refl _ _) _)⟩
  ·have hk : ct = []:=by rw [HCT.out]; unfold ctR; rw [if_neg (by rw [← HME.out]; exact hm0)]
   have d1 : (me == 0) = false:=beq_eq_false_iff_ne.2 hm0
   have d2 : (me != 0) = true:=bne_iff_ne.2 hm0
   have d3 : decide ((0 : Int) < ((([] : List (List UInt8)).length : Nat) : Int)) = false:=by decide
   subst hk
   clear hm0 hr4 a0 a1 a2 a3
   go_wp2_with fail
   go_meet
   exact ⟨rfl,hI5⟩
 case rest =>
 obtain ⟨rfl,hI7⟩:=hcut
 clear hI5 hr4 HKL HCT dm
 obtain ⟨hI8,hlit⟩:=hI7.lit
 clear hI7
 obtain ⟨a0,a1,a2,a3⟩:=hI8.cells
 by_cases ht0 : te = 0
 ·have d0 : (te == 0) = true:=by rw [ht0]; rfl
  clear hlit
  have HT0:=Lib.hid ht0
  have HRI:=Lib.hid (right_of (tricks_right (HTE.out.symm.trans ht0)))
  clear ht0
  go_wp2_with fail
  have hdl:=doorList_any w.heap.size (0 + 2000) lo ca cd lo c2 A rs D ds st gl TR tr _ hI8.s (by omega) hI8.m hll HRI.out hI8.t (by omega) hll
  unfold TlPost mapV at hdl
  simp only [encStr] at hdl
  refine hdl.mono ?_
  clear hdl
  rintro e w9 ⟨LA,lc,l,rfl,ho9,hll9,hs9,hg9⟩
  have hI9:=hI8.grown hg9 hs9 hll hmm
  have hr9:=Row.of_own ho9
  clear hI8 hs9 hg9 ho9 a0 a1 a2 a3
  obtain ⟨a0,a1,a2,a3⟩:=hI9.cells
  obtain ⟨R,hR⟩ : ∃ R,R = walkF rs ds st tr l:=⟨_,rfl⟩
  have hwk:=walk_any lo ca cd lo c2 _ lc A rs D ds st gl TR tr LA l _ hI9.m hI9.t (by omega) hr9 (by omega)
  rw [walkE_ok HTE.out HT0.out,← hR] at hwk
  unfold WaPost mapV at hwk
  simp only [encStr] at hwk
  have HR:=Lib.hid hR
  have HRL : Hid (R.th.length ≤ 1000000000):=Lib.hid (by rw [hR]; exact walkF_len (fun r hr => (hI9.m.s.rg r hr).1))
  clear hR
  go_wp2_with fail
  refine hwk.mono ?_
  clear hwk
  rintro e w10 ⟨PA,pc,rfl,hp10,hb10⟩
  have hIa:=hI9.below hb10
  have hra:=hr9.below hb10
  clear hI9 hr9 hb10 a0 a1 a2 a3
  have hbb : Below w10.heap.size w10 ((w10.alloc (.cells #[.string ⟨R.room.toArray⟩,.slice PA R.th.length pc] 42)).alloc (.cells #[.string ⟨#[]⟩,.slice none 0 0] 42)):=(by repeat (first | exact Below.refl _ _ | refine Below.alloc ?_ (by first | omega | (simp; omega) | simp) _ | refine below_drewN' ?_ _ | refine Below.drew ?_))
  have hIb:=hIa.below hbb
  have hrb:=hra.below hbb
  have hwp : w.heap.size ≤ w10.heap.size:=hIa.x.size
  have hP : Blk ((w10.alloc (.cells #[.string ⟨R.room.toArray⟩,.slice PA R.th.length pc] 42)).alloc (.cells #[.string ⟨#[]⟩,.slice none 0 0] 42)) w10.heap.size 42 #[.string ⟨R.room.toArray⟩,.slice PA R.th.length pc]:=(Blk.new _ _ _).alloc _
  have hZ : Blk ((w10.alloc (.cells #[.string ⟨R.room.toArray⟩,.slice PA R.th.length pc] 42)).alloc (.cells #[.string ⟨#[]⟩,.slice none 0 0] 42)) (w10.heap.size + 1) 42 #[.string ⟨#[]⟩,.slice none 0 0]:=Blk.at_ _ (by simp)
  have hzb : ((w10.alloc (.cells #[.string ⟨R.room.toArray⟩,.slice PA R.th.length pc] 42)).alloc (.cells #[.string ⟨#[]⟩,.slice none 0 0] 42)).heap.size = w10.heap.size + 2:=by simp
  have hBB:=Lib.hid hbb
  clear hIa hra hbb
  obtain ⟨a0,a1,a2,a3⟩:=hIb.cells
  have hwo:=walkedOf_any lo ca cd lo c2 _ lc A rs D ds st gl TR tr LA l _ hIb.m HRI.out hIb.t (by omega) hrb (by omega)
  rw [← HR.out] at hwo
  unfold WaPost mapV at hwo
  simp only [encStr] at hwo
  go_wp2_with fail
  refine hwo.mono ?_
  clear hwo
  generalize (w10.alloc (.cells #[.string ⟨R.room.toArray⟩,.slice PA R.th.length pc] 42)).alloc (.cells #[.string ⟨#[]⟩,.slice none 0 0] 42) = w11 at *
  rintro e w12 ⟨QA,qc,rfl,hq12,hb12⟩
  have hIc:=hIb.below hb12
  have hPc:=hP.below hb12
  have hZc:=hZ.below hb12
  have hBz : Below w10.heap.size w10 w12:=hBB.out.trans (hb12.mono (by omega))
  have hbzz:=hb12.size
  clear hIb hrb hP hZ hb12 a0 a1 a2 a3
  have f0:=hZc.thaw 0
  have f1:=hZc.thaw 1
  have zz:=hZc.lt
  obtain ⟨z0,z1⟩:=hZc.two_
  obtain ⟨p0,p1⟩:=hPc.two_
  obtain ⟨y0,y1⟩:=((hZc.poke 0 (.string ⟨R.room.toArray⟩)).poke 1 (.slice QA R.th.length qc)).two_
  have q0 : ((w12.setCell ⟨w10.heap.size + 1,0,none⟩ (.string ⟨R.room.toArray⟩)).setCell ⟨w10.heap.size + 1,1,none⟩ (.slice QA R.th.length qc)).cell? ⟨w10.heap.size,0,none⟩ = some (.string ⟨R.room.toArray⟩):=cell_off (cell_off p0 (show w10.heap.size + 1 ≠ w10.heap.size by omega)) (show w10.heap.size + 1 ≠ w10.heap.size by omega)
  have q1 : ((w12.setCell ⟨w10.heap.size + 1,0,none⟩ (.string ⟨R.room.toArray⟩)).setCell ⟨w10.heap.size + 1,1,none⟩ (.slice QA R.th.length qc)).cell? ⟨w10.heap.size,1,none⟩ = some (.slice PA R.th.length pc):=cell_off (cell_off p1 (show w10.heap.size + 1 ≠ w10.heap.size by omega)) (show w10.heap.size + 1 ≠ w10.heap.size by omega)
  have hxd : Below w.heap.size w ((w12.setCell ⟨w10.heap.size + 1,0,none⟩ (.string ⟨R.room.toArray⟩)).setCell ⟨w10.heap.size + 1,1,none⟩ (.slice QA R.th.length qc)):=Below.setCell (Below.setCell hIc.x (p:=⟨w10.heap.size + 1,0,none⟩) (show w.heap.size ≤ w10.heap.size + 1 by omega) _) (p:=⟨w10.heap.size + 1,1,none⟩) (show w.heap.size ≤ w10.heap.size + 1 by omega) _
  have hsp:=samePoint_any PA QA pc qc _ _ R.room R.room R.th R.th _ (hp10.below (Below.setCell (Below.setCell hBz (p:=⟨w10.heap.size + 1,0,none⟩) (show w10.heap.size ≤ w10.heap.size + 1 by omega) _) (p:=⟨w10.heap.size + 1,1,none⟩) (show w10.heap.size ≤ w10.heap.size + 1 by omega) _)) ((hq12.set_low (w10.heap.size + 1) 0 (.string ⟨R.room.toArray⟩) (by omega)).set_low (w10.heap.size + 1) 1 (.slice QA R.th.length qc) (by omega)) HRL.out HRL.out
  rw [decide_eq_true ⟨rfl,rfl⟩] at hsp
  clear hIc hPc hZc hp10 hBz hq12 p0 p1
  go_wp2_with fail
  refine hsp.mono ?_
  clear hsp
  rintro e w13 ⟨rfl,hb13⟩
  have hx13:=below_up hxd hb13
  clear hxd hb13
  go_wp2_with fail
  refine (routed_any _).mono ?_
  rintro e w14 ⟨rfl,hb14⟩
  go_wp2_with fail
  go_ret
  exact ⟨rfl,below_up hx13 hb14⟩
 ·have d0 : (te == 0) = false:=beq_eq_false_iff_ne.2 ht0
  have HT0:=Lib.hid ht0
  clear ht0
  have hwk:=walk_any lo ca cd lo c2 0 1 A rs D ds st gl TR tr _ [[100,48]] _ hI8.m hI8.t (by omega) hlit (by decide)
  rw [walkE_bad HTE.out HT0.out] at hwk
  unfold WaPost mapV wkBad at hwk
  simp only [encStr,List.length_singleton,List.length_nil] at hwk
  clear hlit
  go_wp2_with fail
  refine hwk.mono ?_
  clear hwk
  rintro e w10 ⟨PA,pc,rfl,-,hb10⟩
  have hIa:=hI8.below hb10
  clear hI8 hb10 a0 a1 a2 a3
  have hxd : Below w.heap.size w ((w10.alloc (.cells #[.string ⟨#[]⟩,.slice PA 0 pc] 42)).alloc (.cells #[.string ⟨#[]⟩,.slice none 0 0] 42)):=(hIa.x.alloc hIa.x.size _).alloc (by have:=hIa.x.size; simp; omega) _
  have hP : Blk ((w10.alloc (.cells #[.string ⟨#[]⟩,.slice PA 0 pc] 42)).alloc (.cells #[.string ⟨#[]⟩,.slice none 0 0] 42)) w10.heap.size 42 #[.string ⟨#[]⟩,.slice PA 0 pc]:=(Blk.new _ _ _).alloc _
  have hZ : Blk ((w10.alloc (.cells #[.string ⟨#[]⟩,.slice PA 0 pc] 42)).alloc (.cells #[.string ⟨#[]⟩,.slice none 0 0] 42)) (w10.heap.size + 1) 42 #[.string ⟨#[]⟩,.slice none 0 0]:=Blk.at_ _ (by simp)
  obtain ⟨p0,p1⟩:=hP.two_
  obtain ⟨z0,z1⟩:=hZ.two_
  have hsp:=samePoint_any PA none pc 0 0 0 [] [] [] [] ((w10.alloc (.cells #[.string ⟨#[]⟩,.slice PA 0 pc] 42)).alloc (.cells #[.string ⟨#[]⟩,.slice none 0 0] 42)) (Row.none_ _ _ _ _) (Row.none_ _ _ _ _) (by decide) (by decide)
  rw [decide_eq_true ⟨rfl,rfl⟩] at hsp
  clear hIa hP hZ
  go_wp2_with fail
  refine hsp.mono ?_
  clear hsp
  rintro e w13 ⟨rfl,hb13⟩
  have hx13:=below_up hxd hb13
  clear hxd hb13
  go_wp2_with fail
  refine (routed_any _).mono ?_
  rintro e w14 ⟨rfl,hb14⟩
  go_wp2_with fail
  go_ret
  exact ⟨rfl,below_up hx13 hb14⟩
end Go.Proofs.YtijdbbnnkogkjaaGreatDoor
