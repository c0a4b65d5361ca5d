/- Texts of this seat, laid together: Sym. -/
import Derived.ProofKit
/- The plain theory of slices.SortStableFunc beyond one block: swapRange, rotate, symMerge (as far as: a permutation, in order). -/
namespace Go.Proofs.YtgeaeockmadhcaaGreatDoor
set_option linter.unusedVariables false
set_option linter.unusedSimpArgs false

section
variable {α : Type}
def swapAt (xs : List α) (i j : Nat) : List α:=match xs[i]?,xs[j]? with
 | some x,some y => (xs.set i y).set j x
 | _,_ => xs
def swapN (xs : List α) (a b : Nat) : Nat → List α
 | 0 => xs
 | n + 1 => swapAt (swapN xs a b n) (a + n) (b + n)
theorem swapAt_at {xs : List α} {i j : Nat} (hi : i < xs.length) (hj : j < xs.length) : swapAt xs i j = (xs.set i xs[j]).set j xs[i]:=by
 unfold swapAt
 rw [List.getElem?_eq_getElem hi,List.getElem?_eq_getElem hj]
theorem swapAt_mid (L1 L2 L3 : List α) (p q : α) {i j : Nat} (hi : L1.length = i) (hj : i + 1 + L2.length = j) : swapAt (L1 ++ p :: (L2 ++ q :: L3)) i j = L1 ++ q :: (L2 ++ p :: L3):=by
 subst hi hj
 have e1 : (L1 ++ p :: (L2 ++ q :: L3))[L1.length]? = some p:=by simp
 have e2 : (L1 ++ p :: (L2 ++ q :: L3))[L1.length + 1 + L2.length]? = some q:=by
  rw [List.getElem?_append_right (by omega),show L1.length + 1 + L2.length - L1.length = L2.length + 1 by omega,List.getElem?_cons_succ]; simp
 unfold swapAt
 rw [e1,e2]
 simp only
 rw [List.set_append_right _ _ (Nat.le_refl _),Nat.sub_self,List.set_cons_zero,List.set_append_right _ _ (by omega),show L1.length + 1 + L2.length - L1.length = L2.length + 1 by omega,List.set_cons_succ,List.set_append_right _ _ (Nat.le_refl _),Nat.sub_self,List.set_cons_zero]
theorem swapN_blocks : ∀ (n : Nat) (L1 P M Q L3 : List α) {a b : Nat},P.length = n → Q.length = n → L1.length = a → a + n + M.length = b → swapN (L1 ++ (P ++ (M ++ (Q ++ L3)))) a b n = L1 ++ (Q ++ (M ++ (P ++ L3)))
 | 0,L1,P,M,Q,L3,a,b,hP,hQ,_,_ => by
  rw [List.eq_nil_of_length_eq_zero hP,List.eq_nil_of_length_eq_zero hQ]; rfl
 | n + 1,L1,P,M,Q,L3,a,b,hP,hQ,ha,hb => by
  obtain ⟨P',p,rfl⟩ : ∃ P' p,P = P' ++ [p]:=⟨P.dropLast,P.getLast (by intro h; rw [h] at hP; simp at hP),(List.dropLast_concat_getLast _).symm⟩
  obtain ⟨Q',q,rfl⟩ : ∃ Q' q,Q = Q' ++ [q]:=⟨Q.dropLast,Q.getLast (by intro h; rw [h] at hQ; simp at hQ),(List.dropLast_concat_getLast _).symm⟩
  simp only [List.length_append,List.length_cons,List.length_nil] at hP hQ
  have ih:=swapN_blocks n L1 P' ([p] ++ M) Q' ([q] ++ L3) (a:=a) (b:=b) (by omega) (by omega) ha (by simp; omega)
  show swapAt (swapN _ a b n) (a + n) (b + n) = _
  have e : L1 ++ (P' ++ [p] ++ (M ++ (Q' ++ [q] ++ L3))) = L1 ++ (P' ++ ([p] ++ M ++ (Q' ++ ([q] ++ L3)))):=by simp
  rw [e,ih]
  have e2 : L1 ++ (Q' ++ ([p] ++ M ++ (P' ++ ([q] ++ L3)))) = (L1 ++ Q') ++ p :: ((M ++ P') ++ q :: L3):=by simp
  rw [e2,swapAt_mid (L1 ++ Q') (M ++ P') L3 p q (by simp; omega) (by simp; omega)]
  simp
structure RotI (goal cur : List α) (m i j : Nat) : Prop where
  ex : ∃ L1 X Y L3 : List α, cur = L1 ++ (X ++ (Y ++ L3)) ∧ L1.length + i = m ∧ X.length = i ∧ Y.length = j ∧ L1 ++ (Y ++ (X ++ L3)) = goal
theorem RotI.gt {goal cur : List α} {m i j : Nat} (h : RotI goal cur m i j) (hij : j < i) : RotI goal (swapN cur (m - i) m j) m (i - j) j:=by
 obtain ⟨L1,X,Y,L3,rfl,h1,h2,h3,h4⟩:=h.ex
 have eX : X = X.take j ++ X.drop j:=(List.take_append_drop _ _).symm
 refine ⟨L1 ++ Y,X.drop j,X.take j,L3,?_,by simp; omega,by simp; omega,by simp; omega,?_⟩
 ·have:=swapN_blocks j L1 (X.take j) (X.drop j) Y L3 (a:=m - i) (b:=m) (by simp; omega) h3 (by omega) (by simp; omega)
  rw [show L1 ++ (X ++ (Y ++ L3)) = L1 ++ (X.take j ++ (X.drop j ++ (Y ++ L3))) by rw [← List.append_assoc (X.take j),List.take_append_drop],this]
  simp
 ·rw [← h4]
  rw [show L1 ++ (Y ++ (X ++ L3)) = L1 ++ (Y ++ (X.take j ++ (X.drop j ++ L3))) by rw [← List.append_assoc (X.take j),List.take_append_drop]]
  simp
theorem RotI.lt {goal cur : List α} {m i j : Nat} (h : RotI goal cur m i j) (hij : i < j) : RotI goal (swapN cur (m - i) (m + j - i) i) m i (j - i):=by
 obtain ⟨L1,X,Y,L3,rfl,h1,h2,h3,h4⟩:=h.ex
 refine ⟨L1,Y.drop (j - i),Y.take (j - i),X ++ L3,?_,h1,by simp; omega,by simp; omega,?_⟩
 ·have:=swapN_blocks i L1 X (Y.take (j - i)) (Y.drop (j - i)) L3 (a:=m - i) (b:=m + j - i) h2 (by simp; omega) (by omega) (by simp; omega)
  rw [show L1 ++ (X ++ (Y ++ L3)) = L1 ++ (X ++ (Y.take (j - i) ++ (Y.drop (j - i) ++ L3))) by rw [← List.append_assoc (Y.take (j - i)),List.take_append_drop],this]
 ·rw [← h4,← List.append_assoc (Y.take (j - i)),List.take_append_drop]
theorem RotI.eq {goal cur : List α} {m i : Nat} (h : RotI goal cur m i i) : swapN cur (m - i) m i = goal:=by
 obtain ⟨L1,X,Y,L3,rfl,h1,h2,h3,h4⟩:=h.ex
 have:=swapN_blocks i L1 X [] Y L3 (a:=m - i) (b:=m) h2 h3 (by omega) (by simp; omega)
 simp only [List.nil_append] at this
 rw [this,← h4]
theorem carry_right (L1 X L2 : List α) (x y : α) {k : Nat} (hk : L1.length + X.length = k) : swapAt (L1 ++ (X ++ x :: y :: L2)) k (k + 1) = L1 ++ ((X ++ [y]) ++ x :: L2):=by
 have:=swapAt_mid (L1 ++ X) [] L2 x y (i:=k) (j:=k + 1) (by simp; omega) (by simp)
 simp only [List.nil_append] at this
 rw [show L1 ++ (X ++ x :: y :: L2) = L1 ++ X ++ x :: y :: L2 by simp,this]
 simp
variable {le : α → α → Prop}
theorem sorted_app {u v : List α} (hu : u.Pairwise le) (hv : v.Pairwise le) (h : ∀ x ∈ u,∀ y ∈ v,le x y) : (u ++ v).Pairwise le:=List.pairwise_append.2 ⟨hu,hv,h⟩
theorem halves_done {L R L' R' : List α} (hL : L'.Perm L) (hR : R'.Perm R) (sL : L'.Pairwise le) (sR : R'.Pairwise le) (h : ∀ x ∈ L,∀ y ∈ R,le x y) : (L' ++ R').Perm (L ++ R) ∧ (L' ++ R').Pairwise le :=
 ⟨hL.append hR,sorted_app sL sR (fun x hx y hy => h x (hL.mem_iff.1 hx) y (hR.mem_iff.1 hy))⟩
theorem last_le (tr : ∀ x y z,le x y → le y z → le x z) (rf : ∀ x,le x x) {u : List α} (hu : u.Pairwise le) {s : Nat} (hs : s < u.length) : ∀ x ∈ u.take (s + 1),le x u[s]:=fun x hx => by
 obtain ⟨k,hk,rfl⟩:=List.mem_iff_getElem.1 hx
 rw [List.length_take] at hk
 rw [List.getElem_take]
 rcases Nat.lt_or_ge k s with h | h
 ·exact List.pairwise_iff_getElem.1 hu k s (by omega) hs h
 ·have : k = s:=by omega
  subst this; exact rf _
theorem first_le (tr : ∀ x y z,le x y → le y z → le x z) (rf : ∀ x,le x x) {u : List α} (hu : u.Pairwise le) {s : Nat} (hs : s < u.length) : ∀ x ∈ u.drop s,le u[s] x:=fun x hx => by
 obtain ⟨k,hk,rfl⟩:=List.mem_iff_getElem.1 hx
 rw [List.length_drop] at hk
 rw [List.getElem_drop]
 rcases Nat.eq_zero_or_pos k with h | h
 ·subst h; exact rf _
 ·exact List.pairwise_iff_getElem.1 hu s (s + k) hs (by omega) (by omega)
theorem cut_le (tr : ∀ x y z,le x y → le y z → le x z) (rf : ∀ x,le x x) {u v : List α} (hu : u.Pairwise le) (hv : v.Pairwise le) {s e : Nat} (hs : s ≤ u.length) (he : e ≤ v.length)
  (h1 : s = 0 ∨ e = v.length ∨ ∃ (a : s - 1 < u.length) (b : e < v.length),le u[s - 1] v[e]) (h2 : s = u.length ∨ e = 0 ∨ ∃ (a : s < u.length) (b : e - 1 < v.length),le v[e - 1] u[s]) :
  ∀ x ∈ u.take s ++ v.take e,∀ y ∈ u.drop s ++ v.drop e,le x y:=fun x hx0 y hy0 => by
 have hx1:=List.mem_append.1 hx0
 have hy1:=List.mem_append.1 hy0
 clear hx0 hy0
 rcases hx1 with hx | hx <;> rcases hy1 with hy | hy
 ·have:=List.pairwise_append.1 (show (u.take s ++ u.drop s).Pairwise le by rw [List.take_append_drop]; exact hu)
  exact this.2.2 x hx y hy
 ·rcases h1 with h | h | ⟨a,b,h⟩
  ·subst h; simp at hx
  ·subst h; simp at hy
  ·rcases Nat.eq_zero_or_pos s with h0 | h0
   ·subst h0; simp at hx
   ·obtain ⟨s,rfl⟩ : ∃ s',s = s' + 1:=⟨s - 1,by omega⟩
    exact tr _ _ _ (last_le tr rf hu (by omega) x hx) (tr _ _ _ h (first_le tr rf hv b y hy))
 ·rcases h2 with h | h | ⟨a,b,h⟩
  ·subst h; simp at hy
  ·subst h; simp at hx
  ·rcases Nat.eq_zero_or_pos e with h0 | h0
   ·subst h0; simp at hx
   ·obtain ⟨e,rfl⟩ : ∃ e',e = e' + 1:=⟨e - 1,by omega⟩
    exact tr _ _ _ (last_le tr rf hv (by omega) x hx) (tr _ _ _ h (first_le tr rf hu a y hy))
 ·have:=List.pairwise_append.1 (show (v.take e ++ v.drop e).Pairwise le by rw [List.take_append_drop]; exact hv)
  exact this.2.2 x hx y hy
theorem cut_perm (u v : List α) (s e : Nat) : ((u.take s ++ v.take e) ++ (u.drop s ++ v.drop e)).Perm (u ++ v):=by
 have h : ((u.take s ++ v.take e) ++ (u.drop s ++ v.drop e)).Perm ((u.take s ++ u.drop s) ++ (v.take e ++ v.drop e)):=by
  rw [List.append_assoc,List.append_assoc]
  refine List.Perm.append_left _ ?_
  rw [← List.append_assoc,← List.append_assoc]
  exact List.Perm.append_right _ List.perm_append_comm
 rwa [List.take_append_drop,List.take_append_drop] at h
theorem ins_sorted (tr : ∀ x y z,le x y → le y z → le x z) (rf : ∀ x,le x x) {v : List α} (hv : v.Pairwise le) {x : α} {i : Nat} (hi : i ≤ v.length) (h1 : i = 0 ∨ ∃ a : i - 1 < v.length,le v[i - 1] x) (h2 : i = v.length ∨ ∃ a : i < v.length,le x v[i]) : (v.take i ++ x :: v.drop i).Pairwise le ∧ (v.take i ++ x :: v.drop i).Perm (x :: v):=by
 have hp:=List.pairwise_append.1 (show (v.take i ++ v.drop i).Pairwise le by rw [List.take_append_drop]; exact hv)
 refine ⟨?_,?_⟩
 ·rw [List.pairwise_append]
  refine ⟨hp.1,List.pairwise_cons.2 ⟨fun y hy => ?_,hp.2.1⟩,fun a ha y hy => ?_⟩
  ·rcases h2 with h | ⟨b,h⟩
   ·subst h; simp at hy
   ·exact tr _ _ _ h (first_le tr rf hv b y hy)
  ·rcases List.mem_cons.1 hy with e | hy
   ·rw [e]
    rcases h1 with h | ⟨b,h⟩
    ·subst h; simp at ha
    ·rcases Nat.eq_zero_or_pos i with h0 | h0
     ·subst h0; simp at ha
     ·obtain ⟨i,rfl⟩ : ∃ i',i = i' + 1:=⟨i - 1,by omega⟩
      exact tr _ _ _ (last_le tr rf hv (by omega) a ha) h
   ·exact hp.2.2 a ha y hy
 ·have:=@List.perm_middle _ x (v.take i) (v.drop i)
  rwa [List.take_append_drop] at this
theorem sym_cut (tr : ∀ x y z,le x y → le y z → le x z) (rf : ∀ x,le x x) {u v : List α} (hu : u.Pairwise le) (hv : v.Pairwise le) {a m b mid lo hi start : Nat} (lu : u.length = m - a) (lv : v.length = b - m) (ham : a < m) (hmb : m < b) (hmid : mid = (a + b) / 2)
  (hlo : lo = if mid < m then mid + m - b else a) (hhi : hi = if mid < m then mid else m) (hs1 : lo ≤ start) (hs2 : start ≤ hi)
  (h1 : start = lo ∨ ∃ x y,u[start - 1 - a]? = some x ∧ v[mid - start]? = some y ∧ le x y) (h2 : start = hi ∨ ∃ x y,u[start - a]? = some x ∧ v[mid - 1 - start]? = some y ∧ le y x) :
  start - a ≤ u.length ∧ mid - start ≤ v.length ∧ a ≤ start ∧ start ≤ mid ∧ ∀ x ∈ u.take (start - a) ++ v.take (mid - start),∀ y ∈ u.drop (start - a) ++ v.drop (mid - start),le x y:=by
 have hb1 : a ≤ start ∧ start ≤ m ∧ start ≤ mid ∧ mid - start ≤ b - m:=by
  by_cases hm : mid < m
  ·rw [if_pos hm] at hlo hhi; omega
  ·rw [if_neg hm] at hlo hhi; omega
 refine ⟨by omega,by omega,hb1.1,hb1.2.2.1,cut_le tr rf hu hv (by omega) (by omega) ?_ ?_⟩
 ·rcases h1 with h | ⟨x,y,hx,hy,h⟩
  ·by_cases hm : mid < m
   ·rw [if_pos hm] at hlo hhi; right; left; omega
   ·rw [if_neg hm] at hlo hhi; left; omega
  ·right; right
   obtain ⟨a1,rfl⟩:=List.getElem?_eq_some_iff.1 hx
   obtain ⟨a2,rfl⟩:=List.getElem?_eq_some_iff.1 hy
   have e : start - a - 1 = start - 1 - a:=by omega
   exact ⟨by omega,a2,by simp only [e]; exact h⟩
 ·rcases h2 with h | ⟨x,y,hx,hy,h⟩
  ·by_cases hm : mid < m
   ·rw [if_pos hm] at hlo hhi; right; left; omega
   ·rw [if_neg hm] at hlo hhi; left; omega
  ·right; right
   obtain ⟨a1,rfl⟩:=List.getElem?_eq_some_iff.1 hx
   obtain ⟨a2,rfl⟩:=List.getElem?_eq_some_iff.1 hy
   have e : mid - start - 1 = mid - 1 - start:=by omega
   exact ⟨a1,by omega,by simp only [e]; exact h⟩
theorem rot_start (L1 u v L3 : List α) {a m b start e : Nat} (ha : L1.length = a) (lu : u.length = m - a) (ham : a ≤ m) (hs : a ≤ start) (hs2 : start ≤ m) (he : e ≤ v.length) : RotI (L1 ++ ((u.take (start - a) ++ v.take e) ++ ((u.drop (start - a) ++ v.drop e) ++ L3))) (L1 ++ (u ++ (v ++ L3))) m (m - start) e:=by
 refine ⟨L1 ++ u.take (start - a),u.drop (start - a),v.take e,v.drop e ++ L3,?_,?_,?_,?_,?_⟩
 ·rw [List.append_assoc,← List.append_assoc (u.take _),List.take_append_drop,← List.append_assoc (v.take e),List.take_append_drop]
 ·rw [List.length_append,List.length_take]; omega
 ·rw [List.length_drop]; omega
 ·rw [List.length_take]; omega
 ·simp only [List.append_assoc]
end
end Go.Proofs.YtgeaeockmadhcaaGreatDoor
