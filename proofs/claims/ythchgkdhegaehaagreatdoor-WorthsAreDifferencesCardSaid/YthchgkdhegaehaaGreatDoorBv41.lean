/- Texts of this seat, laid together: HpZ HpO. -/
import Derived.Laws.EntriesVeiled
import Derived.Test.YthchgkdhegaehaaGreatDoorBv40
/- The walk of Learn. -/
namespace Go.Proofs.YthchgkdhegaehaaGreatDoor
set_option linter.unusedVariables false
set_option linter.unusedSimpArgs false
open Go.RowKit

def LearnOk (f : List (List UInt8) → Int) (most : Int) (tr l : List (List UInt8)) : Prop :=
 ∃ k,k ≤ tr.length ∧ (combos tr k []).find? (fastB f most) = some l ∧ ∀ k',k' < k → (combos tr k' []).find? (fastB f most) = none
def learnE (rs : List RoomE) (ds : List DoorE) (st gl : List UInt8) (tr : List (List UInt8)) (most : Int) : Int :=
 if tricksE rs ds st gl tr ≠ 0 then tricksE rs ds st gl tr else if most < 0 ∨ 864000000000 < most then 1 else 0
def LePost (w : World) (rs : List RoomE) (ds : List DoorE) (st gl : List UInt8) (tr : List (List UInt8)) (most : Int) (err : Int) (e : Ending) (w' : World) : Prop :=
 ∃ (l : List (List UInt8)) (A : Option Addr) (c : Nat) (is : Bool),e = .returned (.tuple #[.slice A l.length c,.bool is,.int .i64 err]) ∧ (err ≠ 0 → l = [] ∧ is = false) ∧ (err = 0 → is = fastB (timeT rs ds st gl) most tr ∧ (is = false → l = []) ∧ (is = true → LearnOk (timeT rs ds st gl) most tr l)) ∧ Row w' 0 1 A l.length (strs l) ∧ Below w.heap.size w w'
set_option maxHeartbeats 8000000 in
set_option maxRecDepth 100000 in
theorem learn_any (lo ca cd lo2 c2 : Nat) (A : Option Addr) (rs : List RoomE) (D : Option Addr) (ds : List DoorE) (st gl : List UInt8) (TR : Option Addr) (tr : List (List UInt8)) (most : Int) (w : World) (hA : MapW w lo A rs D ds) (hr : Row w lo2 1 TR tr.length (strs tr)) (hrl : tr.length ≤ 10000) (htc : tr.length ≤ c2) (hTA : ∀ a,TR = some a → a.block < w.heap.size) :
  Calls Tryz.prog 14 #[mapV A rs ca D ds cd st gl,.slice TR tr.length c2,.int .i64 most] w (LePost w rs ds st gl tr most (learnE rs ds st gl tr most)):=by
 have hC : McC w ((w.alloc (.cells #[.slice A rs.length ca,.slice D ds.length cd,.string ⟨st.toArray⟩,.string ⟨gl.toArray⟩] 29)).alloc (.cells #[.int .i64 most] 3)) w.heap.size lo A rs ca D ds cd st gl:=⟨(hA.alloc _).alloc _,(Blk.new _ _ _).alloc _,(by repeat (first | exact Below.refl _ _ | refine Below.alloc ?_ (by first | omega | (simp; omega) | simp) _ | refine below_drewN' ?_ _ | refine Below.drew ?_))⟩
 have hq : Blk ((w.alloc (.cells #[.slice A rs.length ca,.slice D ds.length cd,.string ⟨st.toArray⟩,.string ⟨gl.toArray⟩] 29)).alloc (.cells #[.int .i64 most] 3)) (w.heap.size + 1) 3 #[.int .i64 most]:=Blk.at_ _ (by simp)
 have HRR:=Lib.hid hr
 have HTA:=Lib.hid hTA
 obtain ⟨err,herr⟩ : ∃ err,err = tricksE rs ds st gl tr:=⟨_,rfl⟩
 have HLE : Hid (learnE rs ds st gl tr most = if err ≠ 0 then err else if most < 0 ∨ 864000000000 < most then 1 else 0):=Lib.hid (by unfold learnE; rw [herr])
 obtain ⟨le,hle⟩ : ∃ le,le = learnE rs ds st gl tr most:=⟨_,rfl⟩
 rw [← hle] at HLE ⊢
 have HER:=Lib.hid herr
 clear hA hr herr hle hTA
 unfold mapV
 simp only [encStr]
 go_enter Tryz.func14,Tryz.ntmps14
 go_wp2_with fail
 have hqz : w.heap.size + 1 < ((w.alloc (.cells #[.slice A rs.length ca,.slice D ds.length cd,.string ⟨st.toArray⟩,.string ⟨gl.toArray⟩] 29)).alloc (.cells #[.int .i64 most] 3)).heap.size:=by simp
 generalize (w.alloc (.cells #[.slice A rs.length ca,.slice D ds.length cd,.string ⟨st.toArray⟩,.string ⟨gl.toArray⟩] 29)).alloc (.cells #[.int .i64 most] 3) = W1 at *
 have hq1 : w.heap.size ≤ w.heap.size + 1:=Nat.le_succ _
 generalize w.heap.size + 1 = qb at *
 have hct:=checkTricks_any lo ca cd A rs D ds st gl lo2 c2 TR tr W1 hC.m (HRR.out.below hC.b) (by omega)
 unfold mapV at hct
 simp only [encStr] at hct
 rw [← HER.out] at hct
 refine hct.mono ?_
 rintro e w2 ⟨rfl,hb⟩
 have hC:=hC.below hb
 have hq:=hq.below hb
 have hqz:=hq.lt
 clear hct hb
 by_cases h0 : err = 0
 ·subst h0
  have HR : Hid (Right rs ds st gl):=Lib.hid (right_of (tricks_right HER.out.symm))
  have HTM : Hid (TimeOk w2 w.heap.size (timeT rs ds st gl)):=Lib.hid (fun W B lo3 c3 l hb hr hl => (time_any w.heap.size lo ca cd lo3 c3 A rs D ds st gl _ B l [] W (hC.below hb).m (hC.below hb).bl HR.out rfl hr (by omega)).mono fun _ _ h => ⟨h.1,h.2.2⟩)
  have hwz:=hC.b.size
  have q0:=hq.cell 0
  have hou:=out_any most 0 864000000000 w2
  by_cases hm : most < 0 ∨ 864000000000 < most
  ·have d0 : (decide (most < 0) || decide (864000000000 < most)) = true:=by rw [← Bool.decide_or]; exact decide_eq_true hm
   have HV : Hid (le = 1):=Lib.hid (by rw [HLE.out,if_neg (by simp),if_pos hm])
   rw [d0] at hou
   clear hm d0
   go_wp2_with fail
   refine hou.mono ?_
   rintro e w3 ⟨rfl,rfl⟩
   clear hou
   go_wp2_with fail
   go_ret3
   exact ⟨[],none,0,false,by rw [HV.out]; rfl,fun _ => ⟨rfl,rfl⟩,fun h => absurd h (by rw [HV.out]; decide),Row.none_ _ _ _ _,hC.b⟩
  ·have d0 : (decide (most < 0) || decide (864000000000 < most)) = false:=by rw [← Bool.decide_or]; exact decide_eq_false hm
   have HV : Hid (le = 0):=Lib.hid (by rw [HLE.out,if_neg (by simp),if_neg hm])
   rw [d0] at hou
   clear hm d0
   go_wp2_with fail
   refine hou.mono ?_
   rintro e w3 ⟨rfl,rfl⟩
   clear hou
   have hf0 : Blk (w2.alloc (.cells #[.func (.func 45) #[] #[.pointer (some ⟨w.heap.size,0,none⟩),.pointer (some ⟨qb,0,none⟩)]] 107)) w2.heap.size 107 #[.func (.func 45) #[] #[.pointer (some ⟨w.heap.size,0,none⟩),.pointer (some ⟨qb,0,none⟩)]]:=Blk.new _ _ _
   go_upto_region 7 with (fail)
   have hb3 : Below w2.heap.size w2 (w2.alloc (.cells #[.func (.func 45) #[] #[.pointer (some ⟨w.heap.size,0,none⟩),.pointer (some ⟨qb,0,none⟩)]] 107)):=(Below.refl _ _).alloc (Nat.le_refl _) _
   have hq3:=hq.alloc (.cells #[.func (.func 45) #[] #[.pointer (some ⟨w.heap.size,0,none⟩),.pointer (some ⟨qb,0,none⟩)]] 107)
   have hz3 : (w2.alloc (.cells #[.func (.func 45) #[] #[.pointer (some ⟨w.heap.size,0,none⟩),.pointer (some ⟨qb,0,none⟩)]] 107)).heap.size = w2.heap.size + 1:=by simp
   generalize w2.alloc (.cells #[.func (.func 45) #[] #[.pointer (some ⟨w.heap.size,0,none⟩),.pointer (some ⟨qb,0,none⟩)]] 107) = w3 at *
   have HTR : Hid (∀ W,Below w2.heap.size w2 W → Row W lo2 1 TR tr.length (strs tr)):=Lib.hid (fun W hb => HRR.out.below (below_up hC.b hb))
   -- the closure's own law wants a block that is written to: any number past the heap serves until it is there
   have hfa:=fast_any0 HTM.out hb3 hq3 TR lo2 c2 tr (HTR.out _ hb3) (by omega)
   have f0 : w3.cell? ⟨w2.heap.size,0,none⟩ = some (.func (.func 45) #[] #[.pointer (some ⟨w.heap.size,0,none⟩),.pointer (some ⟨qb,0,none⟩)]):=hf0.cell 0
   have zf:=hf0.lt
   obtain ⟨f,hf⟩ : ∃ f,f = timeT rs ds st gl:=⟨_,rfl⟩
   rw [← hf] at HTM hfa
   have HFT:=Lib.hid hf
   clear hf
   obtain ⟨fv,hfv⟩ : ∃ fv,fv = fastB f most tr:=⟨_,rfl⟩
   rw [← hfv] at hfa
   have HFV:=Lib.hid hfv
   clear hfv
   go_wp2_with fail
   refine hfa.mono ?_
   rintro e w4 ⟨rfl,hb⟩
   have hf0:=hf0.below hb
   have hq3:=hq3.below hb
   have hz4:=hb.size
   have hb4:=below_up hb3 hb
   clear hfa hb hb3 f0 zf
   cases hfv : fv with
   | false =>
    rw [hfv] at HFV
    clear hfv
    go_wp2_with fail
    go_ret3
    exact ⟨[],none,0,false,by rw [HV.out]; rfl,fun h => absurd HV.out h,fun _ => ⟨by rw [← HFT.out]; exact HFV.out,fun _ => rfl,(fun h => by cases h)⟩,Row.none_ _ _ _ _,below_up hC.b hb4⟩
   | true =>
    rw [hfv] at HFV
    clear hfv
    go_upto_region 10 with (fail)
    have ho5 : Blk (w4.alloc (.cells #[.slice none 0 0] 31)) w4.heap.size 31 #[.slice none 0 0]:=Blk.new _ _ _
    have hJ : JL w2 (w4.alloc (.cells #[.slice none 0 0] 31)) w.heap.size qb w2.heap.size w4.heap.size most:=⟨hb4.alloc hb4.size _,hq3.alloc _,hf0.alloc _,⟨_,_,_,ho5⟩,by omega,by omega,by omega⟩
    have hst : StR w4.heap.size (w4.alloc (.cells #[.slice none 0 0] 31)) TR tr:=StR.of (HTR.out _ (hb4.alloc hb4.size _)) (fun a ha => by have:=HTA.out a ha; omega)
    have hob : w2.heap.size ≤ w4.heap.size:=hb4.size
    clear hf0 hq3 ho5
    generalize w4.alloc (.cells #[.slice none 0 0] 31) = w5 at *
    generalize w4.heap.size = ob at *
    have HST:=Lib.hid hst
    clear hst
    have wl : IntKind.i64.wrap ((tr.length : Int) + 1) = (tr.length : Int) + 1:=IntWalk.i64_in _ ⟨by omega,by omega⟩
    go_wp2_with fail
    go_loopw [30] (fun u wr => ∃ j : Nat,j ≤ tr.length + 1 ∧ u = .int .i64 j ∧ w5.grownBy wr (some ob) ∧ JL w2 wr w.heap.size qb w2.heap.size ob most ∧ Hid (∀ k',k' < j → (combos tr k' []).find? (fastB f most) = none)) (fun u _ => tr.length + 1 - (intOf u).toNat)
    case atStart => exact ⟨0,Nat.zero_le _,rfl,World.grownBy.refl _ _,hJ,Lib.hid (fun k' hk => by omega)⟩
    case round =>
     clear hJ
     obtain ⟨j,hj,rfl,hg,hJ,HN⟩:=hrel
     by_cases hlt : j < tr.length + 1
     ·have d1 : decide ((j : Int) < (tr.length : Int) + 1) = true:=decide_eq_true (by omega)
      have hch:=choose_any HTM.out tr.length tr j [] TR none c2 0 wr rfl htc (Nat.zero_le _) (by simp; omega) (by omega) (fun _ => rfl) hJ (HST.out.on hg) (fun _ _ => Row.none_ _ _ _ _)
      obtain ⟨R1,hR1⟩ : ∃ R1,R1 = (combos tr j []).find? (fastB f most):=⟨_,rfl⟩
      rw [← hR1] at hch
      have HR1:=Lib.hid hR1
      clear hR1
      go_wp2_with fail
      refine hch.mono ?_
      rintro e w6 ⟨rfl,hg6,hJ6,hR6⟩
      have hgr:=grown_trans' hg hg6
      clear hch
      cases hc : R1 with
      | none =>
       rw [hc] at HR1
       simp only [Option.isSome_none]
       clear hc hR6
       go_wp2_with fail
       go_roundw
       case rel => exact ⟨j + 1,by omega,by go_num,hgr,hJ6,Lib.hid (fun k' hk => by
        by_cases e : k' = j
        ·subst e; exact HR1.out.symm
        ·exact HN.out k' (by omega))⟩
       case measure => simp [intOf]; omega
      | some x =>
       rw [hc] at HR1
       obtain ⟨OA,oc,hox,hor⟩:=hR6 x hc
       have o0 : w6.cell? ⟨ob,0,none⟩ = some (.slice OA x.length oc):=hox.cell 0
       have zo:=hox.lt
       have hbl : Below w.heap.size w w6:=below_up hC.b hJ6.b
       simp only [Option.isSome_some]
       clear hc hR6
       go_wp2_with fail
       go_ret3
       exact ⟨x,OA,oc,true,by rw [HV.out]; rfl,fun h => absurd HV.out h,fun _ => ⟨by rw [← HFT.out]; exact HFV.out,(fun h => by cases h),fun _ => ⟨j,by omega,by rw [← HFT.out]; exact HR1.out.symm,fun k' hk => by rw [← HFT.out]; exact HN.out k' hk⟩⟩,hor,hbl⟩
     ·exfalso
      have h1:=HN.out tr.length (by omega)
      have h2:=combos_sub tr tr [] (List.Sublist.refl _)
      have h3:=List.find?_eq_none.1 h1 _ h2
      rw [List.nil_append,← HFV.out] at h3
      exact h3 rfl
 ·have d0 : (err != 0) = true:=bne_iff_ne.2 h0
  have HV : Hid (le = err):=Lib.hid (by rw [HLE.out,if_pos h0])
  go_wp2_with fail
  go_ret3
  exact ⟨[],none,0,false,by rw [HV.out]; rfl,fun _ => ⟨rfl,rfl⟩,fun h => absurd (HV.out ▸ h) h0,Row.none_ _ _ _ _,hC.b⟩

end Go.Proofs.YthchgkdhegaehaaGreatDoor
/- What Worths, Spare and Learn tell, plain: times fall with more tricks; what is spared costs nothing. -/
namespace Go.Proofs.YthchgkdhegaehaaGreatDoor
set_option linter.unusedVariables false
set_option linter.unusedSimpArgs false
open Go.RowKit

theorem exists_leastN {P : Nat → Prop} (h : ∃ n,P n) : ∃ n,P n ∧ ∀ m,P m → n ≤ m:=by
 obtain ⟨n,hn⟩:=h
 induction n using Nat.strongRecOn with
 | ind n ih =>
  by_cases c : ∃ m,m < n ∧ P m
  ·obtain ⟨m,h1,h2⟩:=c
   exact ih m h1 h2
  ·exact ⟨n,hn,fun m hm => Classical.byContradiction fun h => c ⟨m,by omega,hm⟩⟩
theorem LeastT.exists {nx : StE → List (Nat × StE)} {ef : StE → Bool} {tm : Nat → Int} (ht : ∀ x p,p ∈ nx x → 1 ≤ tm p.1) (x : StE) : ∃ v,LeastT nx ef tm x v:=by
 by_cases c : ∃ t d ks,WayX nx ef tm x t d ks
 ·obtain ⟨t,d,ks,hw⟩:=c
  have h0:=(hw.nn ht).1
  obtain ⟨n,⟨d',ks',hn⟩,hl⟩:=exists_leastN (P:=fun n => ∃ d ks,WayX nx ef tm x (n : Int) d ks) ⟨t.toNat,d,ks,by rw [Int.toNat_of_nonneg h0]; exact hw⟩
  refine ⟨(n : Int),.inr ⟨by omega,⟨d',ks',hn⟩,fun t' d2 ks2 hw2 => ?_⟩⟩
  have h1:=(hw2.nn ht).1
  have:=hl t'.toNat ⟨d2,ks2,by rw [Int.toNat_of_nonneg h1]; exact hw2⟩
  omega
 ·exact ⟨-1,.inl ⟨rfl,fun t d ks hw => c ⟨t,d,ks,hw⟩⟩⟩
theorem LeastT.mono {nx nx' : StE → List (Nat × StE)} {ef : StE → Bool} {tm : Nat → Int} {x : StE} {a b : Int} (hs : ∀ x p,p ∈ nx x → p ∈ nx' x) (ha : LeastT nx ef tm x a) (hb : LeastT nx' ef tm x b) (h0 : 0 ≤ a) : 0 ≤ b ∧ b ≤ a:=by
 rcases ha with ⟨rfl,_⟩ | ⟨_,⟨d,ks,hw⟩,_⟩
 ·omega
 ·have hw':=hw.mono hs
  rcases hb with ⟨rfl,h1⟩ | ⟨h1,_,h2⟩
  ·exact absurd hw' (h1 _ _ _)
  ·exact ⟨h1,h2 _ _ _ hw'⟩
section
variable {rs : List RoomE} {ds : List DoorE} {st gl : List UInt8}
theorem nxX_tm (hR : Right rs ds st gl) {T tr : List (List UInt8)} {wo : List UInt8} {sf : StE → StE} (x : StE) (p : Nat × StE) (h : p ∈ nxX rs T ds tr wo sf x) : 1 ≤ tmX ds p.1 ∧ tmX ds p.1 ≤ 864000000:=by
 obtain ⟨hk,_⟩:=nxX_mem h
 unfold tmX; rw [getD_door hk]; exact hR.time _ (List.getElem_mem hk)
theorem timeT_is (hR : Right rs ds st gl) (l : List (List UInt8)) : LeastT (nxX rs (onceT (allT rs ds)) ds l [] id) (goalX rs gl) (tmX ds) (st0 rs (onceT (allT rs ds)) st) (timeT rs ds st gl l):=by
 obtain ⟨v,hv⟩:=LeastT.exists (nx:=nxX rs (onceT (allT rs ds)) ds l [] id) (ef:=goalX rs gl) (tm:=tmX ds) (fun x p h => (nxX_tm hR x p h).1) (st0 rs (onceT (allT rs ds)) st)
 have : timeT rs ds st gl l = v:=timeF_eq hv
 rw [this]; exact hv
theorem timeT_mono (hR : Right rs ds st gl) {l l' : List (List UInt8)} (hs : ∀ s ∈ l,s ∈ l') (h0 : 0 ≤ timeT rs ds st gl l) : 0 ≤ timeT rs ds st gl l' ∧ timeT rs ds st gl l' ≤ timeT rs ds st gl l :=
 (timeT_is hR l).mono (fun x p => nxX_mono hs x p) (timeT_is hR l') h0
theorem FaQ.time (hR : Right rs ds st gl) {tr K : List (List UInt8)} {t : Int} {is : Bool} (h : FaQ rs ds (onceT (allT rs ds)) tr st gl K t is) : timeT rs ds st gl tr = if is then t else -1:=(timeT_is hR tr).uniq h.least
theorem WayX.ub {nx : StE → List (Nat × StE)} {ef : StE → Bool} {tm : Nat → Int} (ht : ∀ x p,p ∈ nx x → tm p.1 ≤ 864000000) {x : StE} {t d : Int} {ks : List Nat} (hw : WayX nx ef tm x t d ks) : t ≤ 864000000 * (ks.length : Int):=by
 induction hw with
 | stop _ => simp
 | @go x y k t d ks _ hm _ ih =>
  have:=ht _ _ hm
  simp only at this
  rw [List.length_cons]; omega
theorem FaQ.ub (hR : Right rs ds st gl) {T tr K : List (List UInt8)} {t : Int} {is : Bool} (h : FaQ rs ds T tr st gl K t is) : 0 ≤ t ∧ t ≤ 864000000 * (nS rs T : Int):=by
 obtain ⟨r,h1,rfl,rfl,rfl⟩:=h
 cases hi : r.is with
 | false => rw [(h1.no hi).1]; exact ⟨Int.le_refl _,by simp only; omega⟩
 | true =>
  obtain ⟨⟨d,hw⟩,_,h2,h3⟩:=h1.yes hi
  have:=hw.ub (fun x p h => (nxX_tm hR x p h).2)
  exact ⟨h2,by omega⟩
theorem lessL_in {l : List (List UInt8)} {s x : List UInt8} : x ∈ lessL l s ↔ x ∈ l ∧ x ≠ s:=by
 unfold lessL
 rw [List.mem_filter]
 simp
structure SpI (f : List (List UInt8) → Int) (tr : List (List UInt8)) (ol : List (List UInt8) × List (List UInt8)) : Prop where
  mem : ∀ x, x ∈ ol.2 ↔ x ∈ tr ∧ x ∉ ol.1
  all : f ol.2 = f tr
  sp : ∀ s ∈ ol.1, f (lessL tr s) = f tr
  left : ol.2 = tr.filter (fun x => !decide (x ∈ ol.1))
theorem SpI.next {f : List (List UInt8) → Int} {tr : List (List UInt8)} (hmono : ∀ l l' : List (List UInt8),(∀ s ∈ l,s ∈ l') → 0 ≤ f l → 0 ≤ f l' ∧ f l' ≤ f l) (h0 : 0 ≤ f tr) {ol : List (List UInt8) × List (List UInt8)} (h : SpI f tr ol) (s : List UInt8) : SpI f tr (spareS f (f tr) ol s):=by
 obtain ⟨out,left⟩:=ol
 obtain ⟨i1,i2,i3,i4⟩:=h
 simp only at i1 i2 i3 i4
 unfold spareS
 simp only
 by_cases c : f (lessL left s) = f tr
 ·rw [if_pos c]
  have hsub : ∀ x ∈ lessL left s,x ∈ lessL tr s:=fun x hx => by
   rw [lessL_in] at hx ⊢
   exact ⟨((i1 x).1 hx.1).1,hx.2⟩
  refine ⟨fun x => ?_,c,fun x hx => ?_,?_⟩
  ·simp only
   rw [lessL_in,i1,List.mem_append,List.mem_singleton]
   constructor
   ·rintro ⟨⟨h1,h2⟩,h3⟩; exact ⟨h1,fun h => h.elim h2 h3⟩
   ·rintro ⟨h1,h2⟩; exact ⟨⟨h1,fun h => h2 (.inl h)⟩,fun h => h2 (.inr h)⟩
  ·rcases List.mem_append.1 hx with hx | hx
   ·exact i3 x hx
   ·rw [List.mem_singleton] at hx
    subst hx
    have a1:=hmono _ _ hsub (by rw [c]; exact h0)
    have a2:=hmono (lessL tr x) tr (fun y hy => (lessL_in.1 hy).1) a1.1
    omega
  ·simp only
   rw [i4]
   unfold lessL
   rw [List.filter_filter]
   refine List.filter_congr fun x _ => ?_
   by_cases e1 : x ∈ out <;> by_cases e2 : x = s <;> simp [e1,e2]
 ·rw [if_neg c]
  exact ⟨i1,i2,i3,i4⟩
theorem SpI.fold {f : List (List UInt8) → Int} {tr : List (List UInt8)} (hmono : ∀ l l' : List (List UInt8),(∀ s ∈ l,s ∈ l') → 0 ≤ f l → 0 ≤ f l' ∧ f l' ≤ f l) (h0 : 0 ≤ f tr) : ∀ (p : List (List UInt8)) (ol : List (List UInt8) × List (List UInt8)),SpI f tr ol → SpI f tr (p.foldl (spareS f (f tr)) ol)
 | [],_,h => h
 | s :: p,_,h => SpI.fold hmono h0 p _ (h.next hmono h0 s)
theorem spare_is (hR : Right rs ds st gl) {tr : List (List UInt8)} (h0 : 0 ≤ timeT rs ds st gl tr) :
  timeT rs ds st gl (tr.filter fun x => !decide (x ∈ (spareF (timeT rs ds st gl) tr).1)) = timeT rs ds st gl tr ∧ ∀ s ∈ (spareF (timeT rs ds st gl) tr).1,worthV (timeT rs ds st gl) tr s = (0,false):=by
 obtain ⟨_,i2,i3,i4⟩ : SpI (timeT rs ds st gl) tr (spareF (timeT rs ds st gl) tr):=SpI.fold (fun l l' hs h => timeT_mono hR hs h) h0 tr ([],tr) ⟨fun x => by simp,rfl,by simp,(List.filter_eq_self.2 (fun _ _ => by simp)).symm⟩
 refine ⟨?_,fun s hs => ?_⟩
 ·rw [← i4]; exact i2
 ·have:=i3 s hs
  unfold worthV
  rw [if_neg (by omega),this,if_neg (by omega),Int.sub_self]
theorem learn_is {f : List (List UInt8) → Int} {most : Int} {tr l : List (List UInt8)} (h : LearnOk f most tr l) : l.Sublist tr ∧ fastB f most l = true ∧ ∀ l',l'.Sublist tr → fastB f most l' = true → l.length ≤ l'.length:=by
 obtain ⟨k,_,h1,h2⟩:=h
 obtain ⟨s,e,hs,hk⟩:=combos_is tr k [] l (List.mem_of_find?_eq_some h1)
 rw [List.nil_append] at e
 subst e
 refine ⟨hs,List.find?_some h1,fun l' hl hf => ?_⟩
 by_cases c : l'.length < k
 ·have h3:=List.find?_eq_none.1 (h2 _ c) _ (combos_sub tr l' [] hl)
  rw [List.nil_append] at h3
  exact absurd hf h3
 ·omega
end
end Go.Proofs.YthchgkdhegaehaaGreatDoor
