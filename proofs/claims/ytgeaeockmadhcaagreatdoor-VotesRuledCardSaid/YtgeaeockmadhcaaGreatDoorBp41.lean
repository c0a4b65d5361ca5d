/- Texts of this seat, laid together: WkP. -/
import Derived.Laws.BitsLemmas
import Derived.Test.YtgeaeockmadhcaaGreatDoorBp18
/- Walks through a map, plain: sets of things as bits, and what a walk comes to. -/
namespace Go.Proofs.YtgeaeockmadhcaaGreatDoor
set_option linter.unusedVariables false
set_option linter.unusedSimpArgs false
open Go.RowKit

theorem leS_trans {x y z : List UInt8} (h1 : x ≤ y) (h2 : y ≤ z) : x ≤ z:=List.le_trans h1 h2
theorem leS_total (x y : List UInt8) : x ≤ y ∨ y ≤ x:=List.le_total x y
theorem leS_lt {x y : List UInt8} (h : x ≤ y) (hne : y ≠ x) : x < y :=
 Classical.byContradiction fun h1 => hne (List.le_antisymm (show y ≤ x from h1) h)
theorem cpt_mem (d : Array (List UInt8)) (m : Nat) (hd : ∀ i j,i ≤ j → j < m → d[i]! ≤ d[j]!) : (Lib.compactUpTo d m).Pairwise (· < ·) ∧ (∀ x,x ∈ Lib.compactUpTo d m ↔ ∃ j,j < m ∧ d[j]! = x):=by
 induction m with
 | zero => exact ⟨by simp [Lib.compactUpTo],fun x => by simp [Lib.compactUpTo]⟩
 | succ m ih =>
  obtain ⟨h1,h2⟩:=ih (fun i j hij hj => hd i j hij (by omega))
  rw [Lib.compactUpTo_succ]
  by_cases hk : Lib.keeps d m = true
  ·rw [if_pos hk]
   constructor
   ·rw [List.pairwise_append]
    refine ⟨h1,by simp,fun a ha b hb => ?_⟩
    obtain rfl : b = d[m]!:=by simpa using hb
    obtain ⟨j,hj,rfl⟩:=(h2 a).1 ha
    have hne : d[m]! ≠ d[m - 1]!:=by
     simp only [Lib.keeps,decide_eq_true_eq] at hk
     rcases hk with h | h
     ·omega
     ·exact h
    have h3 : d[m - 1]! < d[m]!:=leS_lt (hd (m - 1) m (by omega) (by omega)) hne
    exact List.lt_of_le_of_lt (hd j (m - 1) (by omega) (by omega)) h3
   ·intro x
    rw [List.mem_append,h2]
    constructor
    ·rintro (⟨j,hj,e⟩ | h)
     ·exact ⟨j,by omega,e⟩
     ·exact ⟨m,by omega,(by simpa using h : x = d[m]!).symm⟩
    ·rintro ⟨j,hj,e⟩
     by_cases hjm : j = m
     ·subst hjm; right; simp [e]
     ·left; exact ⟨j,by omega,e⟩
  ·rw [if_neg hk,List.append_nil]
   refine ⟨h1,fun x => ?_⟩
   rw [h2]
   constructor
   ·rintro ⟨j,hj,e⟩; exact ⟨j,by omega,e⟩
   ·rintro ⟨j,hj,e⟩
    by_cases hjm : j = m
    ·subst hjm
     have : j ≠ 0 ∧ d[j]! = d[j - 1]!:=by
      simp only [Lib.keeps,decide_eq_true_eq,not_or,Classical.not_not] at hk
      exact hk
     exact ⟨j - 1,by omega,this.2.symm.trans e⟩
    ·exact ⟨j,by omega,e⟩
theorem onceT_spec (l : List (List UInt8)) : (onceT l).Pairwise (· < ·) ∧ ∀ x,x ∈ onceT l ↔ x ∈ l:=by
 unfold onceT Lib.compact
 have hs : (l.mergeSort fun x y => decide (x ≤ y)).Pairwise (fun x y => decide (x ≤ y) = true):=List.pairwise_mergeSort (fun a b c h1 h2 => by simp at *; exact leS_trans h1 h2) (fun a b => by simp; exact leS_total a b) l
 have hm : ∀ x,x ∈ (l.mergeSort fun x y => decide (x ≤ y)) ↔ x ∈ l:=fun x => (List.mergeSort_perm l _).mem_iff
 generalize (l.mergeSort fun x y => decide (x ≤ y)) = s at *
 have hg : ∀ i (hi : i < s.length),s.toArray[i]! = s[i]:=fun i hi => by rw [getElem!_pos _ _ (by simpa using hi)]; simp
 obtain ⟨h1,h2⟩:=cpt_mem s.toArray s.length (fun i j hij hj => by
  rw [hg i (by omega),hg j hj]
  rcases Nat.lt_or_ge i j with h | h
  ·simpa using List.pairwise_iff_getElem.1 hs i j (by omega) hj h
  ·obtain rfl : i = j:=by omega
   exact List.le_refl _)
 refine ⟨h1,fun x => ?_⟩
 rw [h2,← hm]
 constructor
 ·rintro ⟨j,hj,rfl⟩; rw [hg j hj]; exact List.getElem_mem _
 ·intro h
  obtain ⟨j,hj,rfl⟩:=List.mem_iff_getElem.1 h
  exact ⟨j,hj,hg j hj⟩
structure WkR where
  err : Int
  room : List UInt8
  th : List (List UInt8)
  time : Int
structure Right (rs : List RoomE) (ds : List DoorE) (st gl : List UInt8) : Prop where
  rup : UpS (rs.map RoomE.key)
  dup : UpS (ds.map DoorE.key)
  st : st ∈ rs.map RoomE.key
  gl : gl ∈ rs.map RoomE.key
  src : ∀ d ∈ ds, d.src ∈ rs.map RoomE.key
  dst : ∀ d ∈ ds, d.dst ∈ rs.map RoomE.key
  time : ∀ d ∈ ds, 1 ≤ d.time ∧ d.time ≤ 864000000
  few : (onceT (allT rs ds)).length ≤ 10
  rl : rs.length ≤ 100
  dl : ds.length ≤ 500
  dkey : ∀ d ∈ ds, d.key ≠ []
structure ThOk (T th : List (List UInt8)) : Prop where
  up : th.Pairwise (· < ·)
  sub : ∀ x ∈ th, x ∈ T
end Go.Proofs.YtgeaeockmadhcaaGreatDoor
