/- Texts of this seat, laid together: VoS. -/
import Derived.Test.YtgeaeockmadhcaaGreatDoorBp15
import Derived.Test.YtgeaeockmadhcaaGreatDoorBp26
/- Lists of votes that are merged, in plain Lean: what is in order and holds the same is the same; what Merge finds and what VotesMerged finds. -/
namespace Go.Proofs.YtgeaeockmadhcaaGreatDoor
set_option linter.unusedVariables false
set_option linter.unusedSimpArgs false

section
variable {α : Type} {lt : α → α → Prop}
theorem strict_same (irr : ∀ x,¬ lt x x) (tr : ∀ x y z,lt x y → lt y z → lt x z) : ∀ {l1 l2 : List α},l1.Pairwise lt → l2.Pairwise lt → (∀ x,x ∈ l1 ↔ x ∈ l2) → l1 = l2
 | [],[],_,_,_ => rfl
 | [],y :: l2,_,_,h => by have:=(h y).2 (by simp); simp at this
 | x :: l1,[],_,_,h => by have:=(h x).1 (by simp); simp at this
 | x :: l1,y :: l2,h1,h2,h => by
  have p1:=List.pairwise_cons.1 h1
  have p2:=List.pairwise_cons.1 h2
  have e : x = y:=by
   rcases List.mem_cons.1 ((h x).1 (by simp)) with e | hx
   ·exact e
   ·rcases List.mem_cons.1 ((h y).2 (by simp)) with e | hy
    ·exact e.symm
    ·exact absurd (tr _ _ _ (p1.1 y hy) (p2.1 x hx)) (irr x)
  subst e
  have : l1 = l2:=strict_same irr tr p1.2 p2.2 (fun z => by
   constructor
   ·intro hz
    rcases List.mem_cons.1 ((h z).1 (by simp [hz])) with e | hz'
    ·rw [e] at hz; exact absurd (p1.1 x hz) (irr x)
    ·exact hz'
   ·intro hz
    rcases List.mem_cons.1 ((h z).2 (by simp [hz])) with e | hz'
    ·rw [e] at hz; exact absurd (p2.1 x hz) (irr x)
    ·exact hz')
  rw [this]
def compL [DecidableEq α] : List α → List α
 | [] => []
 | [x] => [x]
 | x :: y :: l => if x = y then compL (y :: l) else x :: compL (y :: l)
theorem mem_compL [DecidableEq α] : ∀ (l : List α) (z : α),z ∈ compL l ↔ z ∈ l
 | [],_ => Iff.rfl
 | [_],_ => Iff.rfl
 | x :: y :: l,z => by
  have ih:=mem_compL (y :: l) z
  unfold compL
  by_cases h : x = y
  ·rw [if_pos h,ih,h]; simp
  ·rw [if_neg h,List.mem_cons,ih,List.mem_cons (a:=z) (b:=x)]
theorem compL_strict [DecidableEq α] (tr : ∀ x y z,¬ lt y x → ¬ lt z y → ¬ lt z x) : ∀ (l : List α),l.Pairwise (fun x y => ¬ lt y x) → (∀ x ∈ l,∀ y ∈ l,¬ lt x y → ¬ lt y x → x = y) → (compL l).Pairwise lt
 | [],_,_ => List.Pairwise.nil
 | [x],_,_ => by simp [compL]
 | x :: y :: l,h,he => by
  have p:=List.pairwise_cons.1 h
  have ih:=compL_strict tr (y :: l) p.2 (fun a ha b hb => he a (by simp [List.mem_cons.1 ha]) b (by simp [List.mem_cons.1 hb]))
  unfold compL
  by_cases hxy : x = y
  ·rw [if_pos hxy]; exact ih
  ·rw [if_neg hxy]
   refine List.pairwise_cons.2 ⟨fun z hz => ?_,ih⟩
   have hz2:=(mem_compL _ _).1 hz
   refine Classical.byContradiction fun hn => hxy ?_
   have e : x = z:=he x (by simp) z (by simp [List.mem_cons.1 hz2]) hn (p.1 z hz2)
   refine he x (by simp) y (by simp) ?_ (p.1 y (by simp))
   rcases List.mem_cons.1 hz2 with e2 | hz3
   ·rw [e2] at e; exact absurd e hxy
   ·have:=(List.pairwise_cons.1 p.2).1 z hz3
    rw [e]; exact this
end
instance : DecidableEq VoteE := fun x y => by
  have h : x = y ↔ x.run = y.run ∧ x.who = y.who ∧ x.at_ = y.at_ ∧ x.kind = y.kind := by
    cases x; cases y; simp
  exact decidable_of_iff _ h.symm
theorem leV_trans (x y z : VoteE) (h1 : ¬ ltV y x) (h2 : ¬ ltV z y) : ¬ ltV z x:=by
 intro h
 rcases ltV_tri x y with g | ⟨a,b,c⟩ | g
 ·exact h2 (ltV_trans h g)
 ·apply h2
  unfold ltV at h ⊢
  rwa [a,b,c] at h
 ·exact h1 g
end Go.Proofs.YtgeaeockmadhcaaGreatDoor
