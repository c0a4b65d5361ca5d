/- Texts of this seat, laid together: MgB. -/
import Derived.Test.YtggnccafmadacaaGreatDoorBi27
import Derived.Test.YtggnccafmadacaaGreatDoorBi28
import Derived.Test.YtggnccafmadacaaGreatDoorBi11
import Derived.Test.YtggnccafmadacaaGreatDoorBi12
import Derived.Test.YtggnccafmadacaaGreatDoorBi30
/- Attempts of the call's own, with where their splits lie; the copy of an attempt; slices.SortFunc over attempts. -/
namespace Go.Proofs.YtggnccafmadacaaGreatDoor
set_option linter.unusedVariables false
set_option linter.unusedSimpArgs false
open Go.RowKit Go.Sort

abbrev AttE := Att × (Option Addr × Nat)
def encE (x : AttE) : List Value:=[.int .i64 x.1.1,.slice x.2.1 x.1.2.length x.2.2]
def attE (zs : List AttE) : List Att:=zs.map Prod.fst
theorem attE_len (zs : List AttE) : (attE zs).length = zs.length:=by simp [attE]
theorem attE_app (a b : List AttE) : attE (a ++ b) = attE a ++ attE b:=by simp [attE]
theorem encE_one (x : AttE) : ∀ v ∈ encE x,v.oneCell' = true:=by intro v hv; simp [encE] at hv; rcases hv with rfl | rfl <;> rfl
theorem encE_all (zs : List AttE) : (zs.flatMap encE).all (·.oneCell') = true:=by
 rw [List.all_eq_true]
 intro v hv
 obtain ⟨x,_,hx⟩:=List.mem_flatMap.1 hv
 exact encE_one x v hx
theorem encE_len (zs : List AttE) : (zs.flatMap encE).length = zs.length * 2:=flat_len encE 2 (fun _ => rfl) zs
theorem encE_at (zs : List AttE) : ∀ (k : Nat) (h : k < zs.length),(zs.flatMap encE)[k * 2]? = some (.int .i64 zs[k].1.1) ∧ (zs.flatMap encE)[k * 2 + 1]? = some (.slice zs[k].2.1 zs[k].1.2.length zs[k].2.2):=by
 induction zs with
 | nil => intro k h; simp at h
 | cons p ps ih =>
  intro k h
  cases k with
  | zero => exact ⟨rfl,rfl⟩
  | succ k =>
   have:=ih k (by simpa using h)
   have e1 : (k + 1) * 2 = k * 2 + 1 + 1:=by omega
   simp only [encE,List.flatMap_cons,e1,List.cons_append,List.nil_append,List.getElem?_cons_succ,List.getElem_cons_succ] at *
   exact this
structure OAtts (w : World) (base : Nat) (A : Option Addr) (d : Nat) (zs : List AttE) : Prop where
  row : w.ownsRow base 62 2 (.slice A zs.length d) zs.length (zs.flatMap encE)
  spl : ∀ x ∈ zs, w.ownsRow base 3 1 (.slice x.2.1 x.1.2.length x.2.2) x.1.2.length (ints x.1.2)
section
variable {w w' : World} {base : Nat} {A : Option Addr} {d : Nat} {zs : List AttE}
theorem OAtts.nil (w : World) (base : Nat) : OAtts w base none 0 []:=⟨World.ownsRow_nil _ _ _ _,fun x h => by cases h⟩
theorem OAtts.below (h : OAtts w base A d zs) (hb : Below w.heap.size w w') : OAtts w' base A d zs:=⟨own_keep h.row hb,fun x hx => own_keep (h.spl x hx) hb⟩
theorem OAtts.alloc (h : OAtts w base A d zs) (o : Obj) : OAtts (w.alloc o) base A d zs:=h.below ((Below.refl _ _).alloc (Nat.le_refl _) o)
theorem OAtts.drew (h : OAtts w base A d zs) : OAtts w.drew base A d zs:=h.below (Below.refl _ _).drew
theorem OAtts.other {row : Option Nat} {x : TypeId} (h : OAtts w base A d zs) (hg : w.grownBy w' row) (hk : KindOf w row x) (h1 : x ≠ 3) (h2 : x ≠ 62) : OAtts w' base A d zs :=
 ⟨own_otherOf h.row hg hk h2,fun y hy => own_otherOf (h.spl y hy) hg hk h1⟩
theorem OAtts.hist {SA : Option Addr} {sc : Nat} {ss : List (List UInt8)} (h : OAtts w base A d zs) (hs : w.ownsRow base 9 1 (.slice SA ss.length sc) ss.length (strs ss)) : Hist w base SA A ss (attE zs):=by
 refine ⟨Row.of_own hs,zs.flatMap encE,by rw [attE_len]; exact Row.of_own h.row,fun i hi => ?_⟩
 have hi' : i < zs.length:=by rw [attE_len] at hi; exact hi
 have e : (attE zs)[i] = zs[i].1:=by simp [attE]
 rw [e]
 exact ⟨zs[i].2.1,zs[i].2.2,(encE_at zs i hi').1,(encE_at zs i hi').2,Row.of_own (h.spl _ (List.getElem_mem _))⟩
theorem OAtts.push (h : OAtts w base A d zs) (hg : w.grownBy w' (Value.slice A zs.length d).ownBlock) {x : AttE} (ho : w.ownsRow base 3 1 (.slice x.2.1 x.1.2.length x.2.2) x.1.2.length (ints x.1.2))
  {A5 : Option Addr} {d5 : Nat} (h5 : w'.ownsRow base 62 2 (.slice A5 (zs.length + 1) d5) (zs.length + 1) (zs.flatMap encE ++ encE x)) : OAtts w' base A5 d5 (zs ++ [x]):=by
 have hk:=own_kindOf h.row
 refine ⟨?_,fun y hy => ?_⟩
 ·have e : (zs ++ [x]).flatMap encE = zs.flatMap encE ++ encE x:=by simp
  rw [e,List.length_append]; exact h5
 ·rcases List.mem_append.1 hy with hy | hy
  ·exact own_otherOf (h.spl y hy) hg hk (by decide)
  ·have : y = x:=by simpa using hy
   rw [this]; exact own_otherOf ho hg hk (by decide)
end

set_option maxHeartbeats 1000000 in
theorem copyAttempt_any (no : Int) (B : Option Addr) (c lo : Nat) (l : List Int) (w : World) (hr : Row w lo 1 B l.length (ints l)) (hl : l.length ≤ 1000000000) :
  Calls Tryz.prog 82 #[.agg #[.int .i64 no,.slice B l.length c]] w fun e w' => ∃ B' c',e = .returned (.agg #[.int .i64 no,.slice B' l.length c']) ∧ w'.ownsRow w.heap.size 3 1 (.slice B' l.length c') l.length (ints l) ∧ Below w.heap.size w w':=by
 go_enter Tryz.func82,Tryz.ntmps82
 go_wp2_with fail
 have hx : Blk ((w.alloc (.cells #[.int .i64 no,.slice B l.length c] 62)).alloc (.cells #[.int .i64 0,.slice none 0 0] 62)) w.heap.size 62 #[.int .i64 no,.slice B l.length c]:=(Blk.new _ _ _).alloc _
 have hy : Blk ((w.alloc (.cells #[.int .i64 no,.slice B l.length c] 62)).alloc (.cells #[.int .i64 0,.slice none 0 0] 62)) (w.heap.size + 1) 62 #[.int .i64 0,.slice none 0 0]:=by
  have:=Blk.new (w.alloc (.cells #[.int .i64 no,.slice B l.length c] 62)) 62 #[.int .i64 0,.slice none 0 0]
  simpa using this
 have hb0 : Below w.heap.size w ((w.alloc (.cells #[.int .i64 no,.slice B l.length c] 62)).alloc (.cells #[.int .i64 0,.slice none 0 0] 62)):=((Below.refl _ _).alloc (Nat.le_refl _) _).alloc (by simp) _
 have hr0:=(hr.alloc (.cells #[.int .i64 no,.slice B l.length c] 62)).alloc (.cells #[.int .i64 0,.slice none 0 0] 62)
 generalize (w.alloc (.cells #[.int .i64 no,.slice B l.length c] 62)).alloc (.cells #[.int .i64 0,.slice none 0 0] 62) = w0 at *
 have hz0:=hb0.size
 refine (cloneI_any B c lo l _ hr0 hl).mono ?_
 rintro e w1 ⟨B',c',rfl,ho,hb1⟩
 have hx1:=hx.below hb1
 have hy1:=hy.below hb1
 have hbb:=below_up hb0 hb1
 clear hx hy hr0 hb1 hb0
 obtain ⟨x0,x1⟩:=hx1.two_
 have xz:=hx1.lt
 have xf:=hx1.thaw 1
 have hx2:=hx1.poke 1 (.slice B' l.length c')
 have hy2:=hy1.past w.heap.size 1 (.slice B' l.length c') (by omega)
 have ho2:=own_past ho hx1 (by decide) 1 (.slice B' l.length c')
 have hb2 : Below w.heap.size w (w1.setCell ⟨w.heap.size,1,none⟩ (.slice B' l.length c')):=Below.setCell hbb (by simp) _
 obtain ⟨q0,q1⟩:=hx2.two_
 have qz:=hx2.lt
 obtain ⟨r0,r1⟩:=hy2.two_
 have rz:=hy2.lt
 have rf0:=hy2.thaw 0
 have rf1:=hy2.thaw 1
 obtain ⟨z0,z1,z2⟩:=hy2.two2 (.int .i64 no) (.slice B' l.length c')
 have ho4:=own_past (own_past ho2 hy2 (by decide) 0 (.int .i64 no)) (hy2.poke 0 (.int .i64 no)) (by decide) 1 (.slice B' l.length c')
 have hb4:=Below.setCell (Below.setCell hb2 (p:=⟨w.heap.size + 1,0,none⟩) (by simp) (.int .i64 no)) (p:=⟨w.heap.size + 1,1,none⟩) (by simp) (.slice B' l.length c')
 have HO4:=Lib.hid ho4
 have HB4:=Lib.hid hb4
 clear ho4 hb4 ho2 hb2 hbb ho hx1 hy1 hx2 hy2
 go_wp2_with fail
 refine bodyPost_ret (v:=.agg #[.int .i64 no,.slice B' l.length c']) (by simp [results,Tryz.results82,go_sem,z0,z1,z2]) rfl ?_
 exact ⟨B',c',rfl,own_weak HO4.out hz0,HB4.out⟩
theorem mergeCmp2_any (x y : Int) (u v : Value) (w : World) : Calls Tryz.prog 88 #[.agg #[.int .i64 x,u],.agg #[.int .i64 y,v]] w fun e w' => e = .returned (.int .i64 (cmpI x y)) ∧ ∃ os,w' = Sort.grow w os:=by
 go_enter Tryz.func88,Tryz.ntmps88
 go_wp2_with fail
 refine (cmpInt_any _ _ _).mono ?_
 rintro e w1 ⟨rfl,rfl⟩
 go_wp2_with fail
 go_ret
 refine ⟨rfl,?_⟩
 simp only [Sort.alloc_eq_grow,Sort.grow_grow]
 exact ⟨_,rfl⟩
theorem sortA_any (A : Option Addr) (d base : Nat) (zs : List AttE) (w : World) (ho : OAtts w base A d zs) (hl : zs.length ≤ 1000000000) :
  Calls Tryz.prog 87 #[.slice A zs.length d,.func (.func 88) #[] #[]] w fun e w' => e = .returned (.tuple #[]) ∧ ∃ ys : List AttE,ys.Perm zs ∧ ys.Pairwise (fun x y => x.1.1 ≤ y.1.1) ∧ OAtts w' base A d ys ∧ w.grownBy w' (Value.slice A zs.length d).ownBlock:=by
 have h:=sortK_own (α:=AttE) Tryz.sortAtt 2 (by omega) Tryz.isAgg62 Tryz.sizeOf62 encE (fun _ => rfl) encE_one (fun x y => cmpI x.1.1 y.1.1) ⟨fun x => by unfold ltOf; simp only [decide_eq_false_iff_not]; rw [cmpI_lt]; omega,fun x y z h1 h2 => by unfold ltOf at *; simp only [decide_eq_true_eq] at *; rw [cmpI_lt] at *; omega,fun x y z h1 h2 => by unfold ltOf at *; simp only [decide_eq_false_iff_not] at *; rw [cmpI_lt] at *; omega⟩ 88 #[] (enters_of Tryz.func88 (by kernel_rfl) rfl)
  (fun x y w => mergeCmp2_any x.1.1 y.1.1 _ _ w) A d base 62 zs w ho.row hl
 change Calls Tryz.prog 87 _ _ _ at h
 refine h.mono ?_
 rintro e w' ⟨rfl,ys,hp,hs,hown,hg⟩
 exact ⟨rfl,ys,hp,hs.imp (fun {x y} hxy => by rw [cmpI_lt] at hxy; omega),⟨hown,fun x hx => own_otherOf (ho.spl x (hp.mem_iff.1 hx)) hg (own_kindOf ho.row) (by decide)⟩,hg⟩
end Go.Proofs.YtggnccafmadacaaGreatDoor
