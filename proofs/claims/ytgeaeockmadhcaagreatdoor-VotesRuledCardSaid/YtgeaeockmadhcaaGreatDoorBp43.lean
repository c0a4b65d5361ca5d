/- Texts of this seat, laid together: VpG. -/
import Derived.Test.YtgeaeockmadhcaaGreatDoorBp24
import Derived.Test.YtgeaeockmadhcaaGreatDoorBp41
import Derived.Test.YtgeaeockmadhcaaGreatDoorBp28
/- Which runs are ruled on: the first votes of runs, and the runs each once (no program of Go in sight). -/
namespace Go.Proofs.YtgeaeockmadhcaaGreatDoor
set_option linter.unusedVariables false
set_option linter.unusedSimpArgs false
open Go.RowKit

structure RlE where
  run : List UInt8
  how : Int
  since : Int
  yes : Int
  no : Int
deriving DecidableEq
def encRl (r : RlE) : List Value:=[.string ⟨r.run.toArray⟩,.int .i64 r.how,.int .i64 r.since,.int .i64 r.yes,.int .i64 r.no]
theorem encRl_len (r : RlE) : (encRl r).length = 5:=rfl
def toRl (vs : List VoteE) (js : List JudgeE) (q : QuoE) (t : Int) (run : List UInt8) : RlE:=⟨run,(ruledF vs js q run t).how,(ruledF vs js q run t).since,(ruledF vs js q run t).yes,(ruledF vs js q run t).no⟩
def firstB (vs : List VoteE) (t : Int) (k : Nat) : Bool:=(decide (k = 0) || decide ((vs.getD (k - 1) default).run ≠ (vs.getD k default).run)) && decide ((vs.getD k default).at_ ≤ t)
def runsUp (vs : List VoteE) (t : Int) : Nat → List (List UInt8)
 | 0 => []
 | k + 1 => runsUp vs t k ++ if firstB vs t k then [(vs.getD k default).run] else []
theorem runsUp_len (vs : List VoteE) (t : Int) : ∀ k,(runsUp vs t k).length ≤ k
 | 0 => Nat.le_refl _
 | k + 1 => by
  have:=runsUp_len vs t k
  unfold runsUp
  rw [List.length_append]
  split <;> simp <;> omega
theorem ltV_run {x y : VoteE} (h : ltV x y) : x.run ≤ y.run:=by
 rcases h with h | h
 ·exact List.le_of_lt h
 ·rw [h.1]; exact List.le_refl _
theorem runs_mono {vs : List VoteE} (hv : vs.Pairwise ltV) {i j : Nat} (hij : i ≤ j) (hj : j < vs.length) : (vs.getD i default).run ≤ (vs.getD j default).run:=by
 rcases Nat.lt_or_ge i j with h | h
 ·have h1 : vs.getD i default = vs[i]'(by omega):=by rw [List.getD_eq_getElem?_getD,List.getElem?_eq_getElem (by omega)]; rfl
  have h2 : vs.getD j default = vs[j]:=by rw [List.getD_eq_getElem?_getD,List.getElem?_eq_getElem hj]; rfl
  rw [h1,h2]
  exact ltV_run (List.pairwise_iff_getElem.1 hv i j (by omega) hj h)
 ·have : i = j:=by omega
  subst this
  exact List.le_refl _
theorem runsUp_spec {vs : List VoteE} (hv : vs.Pairwise ltV) (t : Int) : ∀ k,k ≤ vs.length → (runsUp vs t k).Pairwise (· < ·) ∧ ∀ x ∈ runsUp vs t k,∃ j,j < k ∧ x = (vs.getD j default).run ∧ (vs.getD j default).at_ ≤ t
 | 0,_ => ⟨List.Pairwise.nil,fun x hx => by simp [runsUp] at hx⟩
 | k + 1,hk => by
  obtain ⟨ih1,ih2⟩:=runsUp_spec hv t k (by omega)
  unfold runsUp
  by_cases hf : firstB vs t k = true
  ·rw [if_pos hf]
   have hf2:=hf
   unfold firstB at hf2
   simp only [Bool.and_eq_true,Bool.or_eq_true,decide_eq_true_eq] at hf2
   refine ⟨List.pairwise_append.2 ⟨ih1,List.pairwise_singleton _ _,fun x hx y hy => ?_⟩,fun x hx => ?_⟩
   ·simp at hy
    subst hy
    obtain ⟨j,hj,rfl,-⟩:=ih2 x hx
    rcases hf2.1 with h | h
    ·omega
    ·have h1:=runs_mono hv (show j ≤ k - 1 by omega) (by omega)
     have h2:=runs_mono hv (show k - 1 ≤ k by omega) (by omega)
     exact leS_lt (leS_trans h1 h2) (fun e => h (List.le_antisymm h2 (by have e2 : (vs.getD k default).run = (vs.getD j default).run:=e; rw [e2]; exact h1)))
   ·rcases List.mem_append.1 hx with hx | hx
    ·obtain ⟨j,hj,h⟩:=ih2 x hx
     exact ⟨j,by omega,h⟩
    ·simp at hx
     exact ⟨k,by omega,hx,hf2.2⟩
  ·rw [if_neg hf,List.append_nil]
   exact ⟨ih1,fun x hx => by obtain ⟨j,hj,h⟩:=ih2 x hx; exact ⟨j,by omega,h⟩⟩
theorem runsUp_grow (vs : List VoteE) (t : Int) {i : Nat} : ∀ j, i ≤ j → ∀ x ∈ runsUp vs t i, x ∈ runsUp vs t j
  | 0, h, x, hx => by have : i = 0 := by omega
                      subst this; exact hx
  | j + 1, h, x, hx => by
    rcases Nat.lt_or_ge i (j + 1) with h1 | h1
    · unfold runsUp
      exact List.mem_append_left _ (runsUp_grow vs t j (by omega) x hx)
    · have : i = j + 1 := by omega
      subst this; exact hx
theorem getDin {vs : List VoteE} {j : Nat} (hj : j < vs.length) : vs.getD j default = vs[j]:=by rw [List.getD_eq_getElem?_getD,List.getElem?_eq_getElem hj]; rfl
theorem runsUp_has {vs : List VoteE} (hv : vs.Pairwise ltV) (t : Int) : ∀ j,j < vs.length → (vs.getD j default).at_ ≤ t → (vs.getD j default).run ∈ runsUp vs t vs.length
 | j,hj,ht => by
  by_cases hf : firstB vs t j = true
  ·refine runsUp_grow vs t vs.length (show j + 1 ≤ vs.length by omega) _ ?_
   unfold runsUp
   rw [if_pos hf]
   exact List.mem_append_right _ (by simp)
  ·have h0 : ¬ (j = 0 ∨ (vs.getD (j - 1) default).run ≠ (vs.getD j default).run):=fun h => hf (by unfold firstB; rw [decide_eq_true ht,Bool.and_true]; simpa using h)
   obtain ⟨i,rfl⟩ : ∃ i,j = i + 1:=⟨j - 1,by omega⟩
   simp only [Nat.add_sub_cancel] at h0
   have he : (vs.getD i default).run = (vs.getD (i + 1) default).run:=Decidable.byContradiction fun h => h0 (.inr h)
   have hlt:=List.pairwise_iff_getElem.1 hv i (i + 1) (by omega) hj (by omega)
   rw [← he]
   refine runsUp_has hv t i (by omega) ?_
   rw [getDin hj] at ht he
   rw [getDin (by omega)] at he ⊢
   have:=ltV_at hlt he
   omega
theorem runs_once {vs : List VoteE} (hv : vs.Pairwise ltV) (t : Int) : onceT ((vs.filter fun v => decide (v.at_ ≤ t)).map (·.run)) = runsUp vs t vs.length:=by
 obtain ⟨h1,h2⟩:=onceT_spec ((vs.filter fun v => decide (v.at_ ≤ t)).map (·.run))
 obtain ⟨h3,h4⟩:=runsUp_spec hv t vs.length (Nat.le_refl _)
 refine strict_same (lt:=(· < ·)) ltS_irr (fun x y z => List.lt_trans) h1 h3 (fun x => ?_)
 rw [h2 x]
 constructor
 ·intro hx
  obtain ⟨v,hv2,rfl⟩:=List.mem_map.1 hx
  obtain ⟨hv3,hv4⟩:=List.mem_filter.1 hv2
  obtain ⟨j,hj,rfl⟩:=List.mem_iff_getElem.1 hv3
  have:=runsUp_has hv t j hj (by rw [getDin hj]; simpa using hv4)
  rwa [getDin hj] at this
 ·intro hx
  obtain ⟨j,hj,rfl,hat⟩:=h4 x hx
  rw [getDin hj] at hat ⊢
  exact List.mem_map.2 ⟨vs[j],List.mem_filter.2 ⟨List.getElem_mem hj,by simpa using hat⟩,rfl⟩
end Go.Proofs.YtgeaeockmadhcaaGreatDoor
