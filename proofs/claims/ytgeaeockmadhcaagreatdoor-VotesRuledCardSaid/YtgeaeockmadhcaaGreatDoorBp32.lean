/- Texts of this seat, laid together: VoW. -/
import Derived.Test.YtgeaeockmadhcaaGreatDoorBp28
import Derived.Test.YtgeaeockmadhcaaGreatDoorBp24
/- What Merge finds of two lists of votes and what R.VotesMerged finds, in plain Lean; the least weight that is enough, looked for by halves. -/
namespace Go.Proofs.YtgeaeockmadhcaaGreatDoor
set_option linter.unusedVariables false
set_option linter.unusedSimpArgs false

def sameKey (x y : VoteE) : Prop:=x.run = y.run ∧ x.at_ = y.at_ ∧ x.who = y.who
instance (x y : VoteE) : Decidable (sameKey x y) := inferInstanceAs (Decidable (_ ∧ _))
theorem sameKey_not {x y : VoteE} (h : sameKey x y) : ¬ ltV x y:=by
 rintro (h1 | ⟨-,h1 | ⟨-,h1⟩⟩)
 ·rw [h.1] at h1; exact ltS_irr _ h1
 ·have:=h.2.1; omega
 ·rw [h.2.2] at h1; exact ltS_irr _ h1
theorem sameKey_of {x y : VoteE} (h1 : ¬ ltV x y) (h2 : ¬ ltV y x) : sameKey x y:=by
 rcases ltV_tri x y with h | h | h
 ·exact absurd h h1
 ·exact h
 ·exact absurd h h2
def Agree (a b : List VoteE) : Prop:=∀ x ∈ a,∀ y ∈ b,sameKey x y → x = y
theorem one_key {a : List VoteE} (h : a.Pairwise ltV) {x y : VoteE} (hx : x ∈ a) (hy : y ∈ a) (hk : sameKey x y) : x = y:=by
 obtain ⟨i,hi,rfl⟩:=List.mem_iff_getElem.1 hx
 obtain ⟨j,hj,rfl⟩:=List.mem_iff_getElem.1 hy
 rcases Nat.lt_trichotomy i j with g | g | g
 ·exact absurd (List.pairwise_iff_getElem.1 h i j hi hj g) (sameKey_not hk)
 ·subst g; rfl
 ·exact absurd (List.pairwise_iff_getElem.1 h j i hj hi g) (sameKey_not ⟨hk.1.symm,hk.2.1.symm,hk.2.2.symm⟩)
theorem agree_all {a b M : List VoteE} (ha : a.Pairwise ltV) (hb : b.Pairwise ltV) (hM : M.Perm (a ++ b)) (hag : Agree a b) : ∀ x ∈ M,∀ y ∈ M,¬ ltV x y → ¬ ltV y x → x = y:=fun x hx y hy h1 h2 => by
 have hk:=sameKey_of h1 h2
 have hk2 : sameKey y x:=⟨hk.1.symm,hk.2.1.symm,hk.2.2.symm⟩
 rcases List.mem_append.1 (hM.mem_iff.1 hx) with hx | hx <;> rcases List.mem_append.1 (hM.mem_iff.1 hy) with hy | hy
 ·exact one_key ha hx hy hk
 ·exact hag x hx y hy hk
 ·exact (hag y hy x hx hk2).symm
 ·exact one_key hb hx hy hk
theorem merged_strict {a b M : List VoteE} (ha : a.Pairwise ltV) (hb : b.Pairwise ltV) (hM : M.Perm (a ++ b)) (hs : M.Pairwise fun x y => ¬ ltV y x) (hag : Agree a b) : (compL M).Pairwise ltV :=
 compL_strict leV_trans M hs (agree_all ha hb hM hag)
theorem compL_le {α : Type} [DecidableEq α] {le : α → α → Prop} : ∀ (l : List α),l.Pairwise le → (compL l).Pairwise le
 | [],_ => List.Pairwise.nil
 | [x],_ => by simp [compL]
 | x :: y :: l,h => by
  have p:=List.pairwise_cons.1 h
  have ih:=compL_le (y :: l) p.2
  unfold compL
  by_cases hxy : x = y
  ·rw [if_pos hxy]; exact ih
  ·rw [if_neg hxy]
   exact List.pairwise_cons.2 ⟨fun z hz => p.1 z ((mem_compL _ _).1 hz),ih⟩
theorem ltV_key {x x' y : VoteE} (h : ltV x y) (hk : sameKey x x') : ltV x' y:=by
 unfold ltV at h ⊢
 rwa [hk.1,hk.2.1,hk.2.2] at h
theorem key_adj {L : List VoteE} (hs : L.Pairwise fun x y => ¬ ltV y x) {i j : Nat} (hij : i < j) (hj : j < L.length) (hk : sameKey (L[i]'(by omega)) L[j]) : sameKey (L[i]'(by omega)) (L[i + 1]'(by omega)):=by
 refine sameKey_of (fun h => ?_) (List.pairwise_iff_getElem.1 hs i (i + 1) (by omega) (by omega) (by omega))
 have h2:=ltV_key h hk
 rcases Nat.lt_or_ge (i + 1) j with g | g
 ·exact List.pairwise_iff_getElem.1 hs (i + 1) j (by omega) hj g h2
 ·have e : i + 1 = j:=by omega
  subst e
  exact ltV_irr _ h2
theorem conflict_adj {a b M : List VoteE} (hM : M.Perm (a ++ b)) (hs : M.Pairwise fun x y => ¬ ltV y x) (hag : ¬ Agree a b) : ∃ i,∃ h : i + 1 < (compL M).length,sameKey ((compL M)[i]'(by omega)) (compL M)[i + 1]:=by
 obtain ⟨x,hx,y,hy,hk,hne⟩ : ∃ x ∈ a,∃ y ∈ b,∃ _ : sameKey x y,x ≠ y:=by
  refine Classical.byContradiction fun hn => hag (fun x hx y hy hk => Classical.byContradiction fun hne => hn ⟨x,hx,y,hy,hk,hne⟩)
 have hs2:=compL_le M hs
 have hx2 : x ∈ compL M:=(mem_compL _ _).2 (hM.mem_iff.2 (List.mem_append.2 (.inl hx)))
 have hy2 : y ∈ compL M:=(mem_compL _ _).2 (hM.mem_iff.2 (List.mem_append.2 (.inr hy)))
 obtain ⟨i,hi,rfl⟩:=List.mem_iff_getElem.1 hx2
 obtain ⟨j,hj,rfl⟩:=List.mem_iff_getElem.1 hy2
 rcases Nat.lt_trichotomy i j with g | g | g
 ·exact ⟨i,by omega,key_adj hs2 g hj hk⟩
 ·subst g; exact absurd rfl hne
 ·exact ⟨j,by omega,key_adj hs2 g hi ⟨hk.1.symm,hk.2.1.symm,hk.2.2.symm⟩⟩
theorem agree_adj {a b M : List VoteE} (ha : a.Pairwise ltV) (hb : b.Pairwise ltV) (hM : M.Perm (a ++ b)) (hs : M.Pairwise fun x y => ¬ ltV y x) (hag : Agree a b) : ∀ i,∀ h : i + 1 < (compL M).length,¬ sameKey ((compL M)[i]'(by omega)) (compL M)[i + 1]:=fun i h hk =>
 sameKey_not hk (List.pairwise_iff_getElem.1 (merged_strict ha hb hM hs hag) i (i + 1) (by omega) h (by omega))
def newIn (a b : List VoteE) : List VoteE:=b.filter fun v => !a.any fun o => decide (sameKey o v)
theorem ref_merged {a b R M : List VoteE} (ha : a.Pairwise ltV) (hb : b.Pairwise ltV) (hag : Agree a b) (hR : R.Perm (a ++ newIn a b)) (hRs : R.Pairwise fun x y => ¬ ltV y x) (hM : M.Perm (a ++ b)) (hs : M.Pairwise fun x y => ¬ ltV y x) : R = compL M:=by
 have hnew : ∀ v,v ∈ newIn a b ↔ v ∈ b ∧ ∀ o ∈ a,¬ sameKey o v:=fun v => by
  unfold newIn
  rw [List.mem_filter]
  simp
 have hmem : ∀ v,v ∈ R ↔ v ∈ compL M:=fun v => by
  rw [hR.mem_iff,mem_compL,hM.mem_iff,List.mem_append,List.mem_append,hnew]
  constructor
  ·rintro (h | ⟨h,-⟩)
   ·exact .inl h
   ·exact .inr h
  ·rintro (h | h)
   ·exact .inl h
   ·by_cases hk : ∃ o ∈ a,sameKey o v
    ·obtain ⟨o,ho,hk⟩:=hk
     have:=hag o ho v h hk
     rw [← this]; exact .inl ho
    ·exact .inr ⟨h,fun o ho hk2 => hk ⟨o,ho,hk2⟩⟩
 have hkey : R.Pairwise fun x y => ¬ sameKey x y:=by
  refine (hR.pairwise_iff (fun {x y} h hk => h ⟨hk.1.symm,hk.2.1.symm,hk.2.2.symm⟩)).2 ?_
  refine List.pairwise_append.2 ⟨ha.imp (fun h hk => sameKey_not hk h),(hb.filter _).imp (fun h hk => sameKey_not hk h),fun x hx y hy => ((hnew y).1 hy).2 x hx⟩
 have hstr : R.Pairwise ltV:=by
  rw [List.pairwise_iff_getElem] at hRs hkey ⊢
  intro i j hi hj hij
  refine Classical.byContradiction fun hn => hkey i j hi hj hij (sameKey_of hn (hRs i j hi hj hij))
 exact strict_same ltV_irr (fun _ _ _ => ltV_trans) hstr (merged_strict ha hb hM hs hag) hmem
theorem decF_mono {q : QuoE} {yes no : Int} (hd : q.num ≤ q.den) : ∀ i j : Nat,i ≤ j → decF q (yes + i) no = 1 → decF q (yes + j) no = 1:=fun i j hij h => by
 unfold decF at h ⊢
 by_cases h1 : yes + (i : Int) + no < q.least
 ·rw [if_pos h1] at h; cases h
 ·rw [if_neg h1] at h
  by_cases h2 : q.num * (yes + i + no) ≤ (yes + i) * q.den
  ·rw [if_neg (by omega),if_pos]
   obtain ⟨k,rfl⟩ : ∃ k,j = i + k:=⟨j - i,by omega⟩
   have e1 : q.num * (yes + ((i + k : Nat) : Int) + no) = q.num * (yes + i + no) + q.num * k:=by
    rw [← Int.mul_add]; congr 1; push_cast; omega
   have e2 : (yes + ((i + k : Nat) : Int)) * q.den = (yes + i) * q.den + q.den * k:=by
    rw [Int.mul_comm q.den,← Int.add_mul]; congr 1; push_cast; omega
   rw [e1,e2]
   have:=Int.mul_le_mul_of_nonneg_right hd (show (0 : Int) ≤ k by omega)
   omega
  ·rw [if_neg h2] at h; cases h
end Go.Proofs.YtgeaeockmadhcaaGreatDoor
