/- Texts of this seat, laid together: SgC. -/
import Derived.Deep.DeepCutAuto
import Derived.Test.YtbfphnknkbhpkaaGreatDoorBk204
import Derived.Test.YtbfphnknkbhpkaaGreatDoorBk228
import Derived.Test.YtbfphnknkbhpkaaGreatDoorBk229
import Derived.Test.YtbfphnknkbhpkaaGreatDoorBk230
import Derived.Test.YtbfphnknkbhpkaaGreatDoorBk202
/- slices.SortFunc over steps, and the walk of leasts. -/
namespace Go.Proofs.YtbfphnknkbhpkaaGreatDoor
set_option linter.unusedVariables false
set_option linter.unusedSimpArgs false
open Go.RowKit Go.Sort

theorem ty_stepsS : SliceTy Tryz.prog 217 219 3 24:=.mk' Tryz.underlying217 (z:=.agg #[.int .i64 0,.int .i64 0,.int .i64 0]) (by kernel_rfl) rfl (by decide)
def encS (x : Stp) : List Value:=[.int .i64 x.1,.int .i64 x.2.1,.int .i64 x.2.2]
def cmpS (x y : Stp) : Int:=cmpI y.1 x.1
set_option maxHeartbeats 1000000 in
theorem stepsCmp_any (x y : Stp) (w : World) :
  Calls Tryz.prog 122 #[.agg #[.int .i64 x.1,.int .i64 x.2.1,.int .i64 x.2.2],.agg #[.int .i64 y.1,.int .i64 y.2.1,.int .i64 y.2.2]] w fun e w' => e = .returned (.int .i64 (cmpS x y)) ∧ ∃ os,w' = Sort.grow w os:=by
 go_enter Tryz.func122,Tryz.ntmps122
 go_wp2_with fail
 refine (cmpInt_any _ _ _).mono ?_
 rintro e w1 ⟨rfl,rfl⟩
 go_wp2_with fail
 go_ret
 refine ⟨rfl,?_⟩
 simp only [Sort.alloc_eq_grow,Sort.grow_grow]
 exact ⟨_,rfl⟩
theorem cmpS_lt (x y : Stp) : cmpS x y < 0 ↔ y.1 < x.1:=cmpI_lt _ _
theorem cmpS_swo : SWO (ltOf cmpS) where
 irrefl x:=by unfold ltOf; simp only [decide_eq_false_iff_not]; rw [cmpS_lt]; omega
 trans x y z h1 h2:=by unfold ltOf at *; simp only [decide_eq_true_eq] at *; rw [cmpS_lt] at *; omega
 ntrans x y z h1 h2:=by unfold ltOf at *; simp only [decide_eq_false_iff_not] at *; rw [cmpS_lt] at *; omega
theorem sortS_any (A : Option Addr) (c base : Nat) (zs : List Stp) (w : World) (ho : w.ownsRow base 219 3 (.slice A zs.length c) zs.length (trs zs)) (hl : zs.length ≤ 1000000000) :
  Calls Tryz.prog 121 #[.slice A zs.length c,.func (.func 122) #[] #[]] w fun e w' => e = .returned (.tuple #[]) ∧ ∃ ys : List Stp,ys.Perm zs ∧ ys.Pairwise (fun x y => y.1 ≤ x.1) ∧ w'.ownsRow base 219 3 (.slice A ys.length c) ys.length (trs ys) ∧ w.grownBy w' (Value.slice A zs.length c).ownBlock:=by
 have h:=sortK_own (α:=Stp) Tryz.sortStep 3 (by omega) Tryz.isAgg219 Tryz.sizeOf219 encS (fun _ => rfl) (fun x v hv => by simp [encS] at hv; rcases hv with rfl | rfl | rfl <;> rfl) cmpS cmpS_swo 122 #[] (enters_of Tryz.func122 (by kernel_rfl) rfl)
  (fun x y w => stepsCmp_any x y w) A c base 219 zs w ho hl
 change Calls Tryz.prog 121 _ _ _ at h
 refine h.mono ?_
 rintro e w' ⟨rfl,ys,hp,hs,hown,hg⟩
 exact ⟨rfl,ys,hp,hs.imp (fun {x y} hxy => by rw [cmpS_lt] at hxy; omega),hown,hg⟩
theorem own_blkS {w : World} {base : Nat} {e : TypeId} {A : Option Addr} {n c : Nat} {xs : List Value} (h : w.ownsRow base e 1 (.slice A n c) n xs) (hn : 0 < n) : ∃ g cs,A = some ⟨g,0,none⟩ ∧ base ≤ g ∧ Blk w g e cs ∧ (∀ i : Nat,i < n → cs[i]? = xs[i]?) ∧ n ≤ cs.size:=by
 rcases h.2 with ⟨_,h0⟩ | ⟨g,cap,cur,hv,hg,hh,hcap,hm,hcs,ht⟩
 ·omega
 ·injection hv with e1 e2 e3
  subst e3
  refine ⟨g,cur,e1,hg,hh,fun i hi => ?_,by omega⟩
  rw [← ht,List.getElem?_take_of_lt (by omega),Array.getElem?_toList]
end Go.Proofs.YtbfphnknkbhpkaaGreatDoor
