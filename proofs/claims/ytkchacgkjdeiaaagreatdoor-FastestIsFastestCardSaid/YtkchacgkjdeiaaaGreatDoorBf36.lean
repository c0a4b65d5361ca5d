/- Texts of this seat, laid together: Sym HpA. -/
import Derived.ProofKit
/- The plain theory of slices.SortStableFunc beyond one block: swapRange, rotate, symMerge (as far as: a permutation, in order). -/
set_option linter.unusedVariables false
set_option linter.unusedSimpArgs false
namespace Go.Proofs.YtkchacgkjdeiaaaGreatDoor

section
variable {α : Type}
def swapAt (xs : List α) (i j : Nat) : List α:=match xs[i]?,xs[j]? with
 | some x,some y => (xs.set i y).set j x
 | _,_ => xs
def swapN (xs : List α) (a b : Nat) : Nat → List α
 | 0 => xs
 | n + 1 => swapAt (swapN xs a b n) (a + n) (b + n)
theorem swapAt_at {xs : List α} {i j : Nat} (hi : i < xs.length) (hj : j < xs.length) : swapAt xs i j = (xs.set i xs[j]).set j xs[i]:=by
 unfold swapAt;rw [List.getElem?_eq_getElem hi,List.getElem?_eq_getElem hj]
theorem swapAt_mid (L1 L2 L3 : List α) (p q : α) {i j : Nat} (hi : L1.length = i) (hj : i + 1 + L2.length = j) : swapAt (L1 ++ p :: (L2 ++ q :: L3)) i j = L1 ++ q :: (L2 ++ p :: L3):=by
 subst hi hj
 have e1 : (L1 ++ p :: (L2 ++ q :: L3))[L1.length]? = some p:=by simp
 have e2 : (L1 ++ p :: (L2 ++ q :: L3))[L1.length + 1 + L2.length]? = some q:=by
  rw [List.getElem?_append_right (by omega),show L1.length + 1 + L2.length - L1.length = L2.length + 1 by omega,List.getElem?_cons_succ]; simp
 unfold swapAt;rw [e1,e2];simp only;rw [List.set_append_right _ _ (Nat.le_refl _),Nat.sub_self,List.set_cons_zero,List.set_append_right _ _ (by omega),show L1.length + 1 + L2.length - L1.length = L2.length + 1 by omega,List.set_cons_succ,List.set_append_right _ _ (Nat.le_refl _),Nat.sub_self,List.set_cons_zero]
theorem swapN_blocks : ∀ (n : Nat) (L1 P M Q L3 : List α) {a b : Nat},P.length = n → Q.length = n → L1.length = a → a + n + M.length = b → swapN (L1 ++ (P ++ (M ++ (Q ++ L3)))) a b n = L1 ++ (Q ++ (M ++ (P ++ L3)))
 | 0,L1,P,M,Q,L3,a,b,hP,hQ,_,_ => by
  rw [List.eq_nil_of_length_eq_zero hP,List.eq_nil_of_length_eq_zero hQ]; rfl
 | n + 1,L1,P,M,Q,L3,a,b,hP,hQ,ha,hb => by
  obtain ⟨P',p,rfl⟩ : ∃ P' p,P = P' ++ [p]:=⟨P.dropLast,P.getLast (by intro h; rw [h] at hP; simp at hP),(List.dropLast_concat_getLast _).symm⟩
  obtain ⟨Q',q,rfl⟩ : ∃ Q' q,Q = Q' ++ [q]:=⟨Q.dropLast,Q.getLast (by intro h; rw [h] at hQ; simp at hQ),(List.dropLast_concat_getLast _).symm⟩
  simp only [List.length_append,List.length_cons,List.length_nil] at hP hQ;have ih:=swapN_blocks n L1 P' ([p] ++ M) Q' ([q] ++ L3) (a:=a) (b:=b) (by omega) (by omega) ha (by simp; omega);show swapAt (swapN _ a b n) (a + n) (b + n) = _
  have e : L1 ++ (P' ++ [p] ++ (M ++ (Q' ++ [q] ++ L3))) = L1 ++ (P' ++ ([p] ++ M ++ (Q' ++ ([q] ++ L3)))):=by simp
  rw [e,ih]
  have e2 : L1 ++ (Q' ++ ([p] ++ M ++ (P' ++ ([q] ++ L3)))) = (L1 ++ Q') ++ p :: ((M ++ P') ++ q :: L3):=by simp
  rw [e2,swapAt_mid (L1 ++ Q') (M ++ P') L3 p q (by simp; omega) (by simp; omega)]
  simp
structure RotI (goal cur : List α) (m i j : Nat) : Prop where
  ex : ∃ L1 X Y L3 : List α, cur = L1 ++ (X ++ (Y ++ L3)) ∧ L1.length + i = m ∧ X.length = i ∧ Y.length = j ∧ L1 ++ (Y ++ (X ++ L3)) = goal
theorem RotI.lt {goal cur : List α} {m i j : Nat} (h : RotI goal cur m i j) (hij : i < j) : RotI goal (swapN cur (m - i) (m + j - i) i) m i (j - i):=by
 obtain ⟨L1,X,Y,L3,rfl,h1,h2,h3,h4⟩:=h.ex;refine ⟨L1,Y.drop (j - i),Y.take (j - i),X ++ L3,?_,h1,by simp; omega,by simp; omega,?_⟩
 ·have:=swapN_blocks i L1 X (Y.take (j - i)) (Y.drop (j - i)) L3 (a:=m - i) (b:=m + j - i) h2 (by simp; omega) (by omega) (by simp; omega)
  rw [show L1 ++ (X ++ (Y ++ L3)) = L1 ++ (X ++ (Y.take (j - i) ++ (Y.drop (j - i) ++ L3))) by rw [← List.append_assoc (Y.take (j - i)),List.take_append_drop],this]
 ·rw [← h4,← List.append_assoc (Y.take (j - i)),List.take_append_drop]
variable {le : α → α → Prop}
end
end Go.Proofs.YtkchacgkjdeiaaaGreatDoor
/- The plain theory of heaps: container/heap's up and down. -/
namespace Go.Proofs.YtkchacgkjdeiaaaGreatDoor

section
variable {α : Type} (lt : α → α → Bool)
structure OrdH : Prop where
  asym : ∀ a b, lt a b = true → lt b a = false
  neg : ∀ a b c, lt a b = false → lt b c = false → lt a c = false
def swF (f : Nat → α) (i j : Nat) : Nat → α:=fun k => if k = i then f j else if k = j then f i else f k
def HeapF (f : Nat → α) (n : Nat) : Prop:=∀ k,0 < k → k < n → lt (f k) (f ((k - 1) / 2)) = false
def UpF (f : Nat → α) (n j : Nat) : Prop:=(∀ k,0 < k → k < n → k ≠ j → lt (f k) (f ((k - 1) / 2)) = false) ∧ ∀ k,0 < k → k < n → (k - 1) / 2 = j → 0 < j → lt (f k) (f ((j - 1) / 2)) = false
def DownF (f : Nat → α) (n i : Nat) : Prop:=(∀ k,0 < k → k < n → (k - 1) / 2 ≠ i → lt (f k) (f ((k - 1) / 2)) = false) ∧ ∀ k,0 < k → k < n → (k - 1) / 2 = i → 0 < i → lt (f k) (f ((i - 1) / 2)) = false
variable {lt} {f : Nat → α} {n i j : Nat}
theorem swF_1 : swF f i j i = f j:=if_pos rfl
theorem swF_2 : swF f i j j = f i:=by unfold swF; split <;> simp_all
theorem swF_3 {k : Nat} (h1 : k ≠ i) (h2 : k ≠ j) : swF f i j k = f k:=by unfold swF; rw [if_neg h1,if_neg h2]
theorem UpF.zero (h : UpF lt f n 0) : HeapF lt f n:=fun k h0 hn => h.1 k h0 hn (by omega)
theorem UpF.stop (h : UpF lt f n j) (hs : lt (f j) (f ((j - 1) / 2)) = false) : HeapF lt f n:=fun k h0 hn => by
 by_cases e : k = j
 ·subst e; exact hs
 ·exact h.1 k h0 hn e
theorem UpF.step (o : OrdH lt) (h : UpF lt f n j) (hj : 0 < j) (hjn : j < n) (hs : lt (f j) (f ((j - 1) / 2)) = true) : UpF lt (swF f ((j - 1) / 2) j) n ((j - 1) / 2):=by
 obtain ⟨i,hi⟩ : ∃ i,i = (j - 1) / 2:=⟨_,rfl⟩
 have hij : i < j:=by omega
 rw [← hi] at hs ⊢;have hij':=o.asym _ _ hs;refine ⟨fun k h0 hn hne => ?_,fun k h0 hn hp hi0 => ?_⟩
 ·by_cases e1 : k = j
  ·subst e1; rw [← hi,swF_1,swF_2]; exact hij'
  ·rw [swF_3 hne e1]
   by_cases e2 : (k - 1) / 2 = j
   ·rw [e2,swF_2]
    have:=h.2 k h0 hn e2 hj
    rwa [← hi] at this
   ·by_cases e3 : (k - 1) / 2 = i
    ·rw [e3,swF_1]
     have h1:=h.1 k h0 hn e1;rw [e3] at h1;exact o.neg _ _ _ h1 hij'
    ·rw [swF_3 e3 e2]
     exact h.1 k h0 hn e1
 ·have e4 : (i - 1) / 2 ≠ i:=by omega
  have e5 : (i - 1) / 2 ≠ j:=by omega
  rw [swF_3 e4 e5];have hpi : lt (f i) (f ((i - 1) / 2)) = false:=h.1 i hi0 (by omega) (by omega)
  by_cases e1 : k = j
  ·subst e1; rw [swF_2]; exact hpi
  ·rw [swF_3 (by omega) e1]
   have h1:=h.1 k h0 hn e1;rw [hp] at h1;exact o.neg _ _ _ h1 hpi
theorem DownF.zero (h : HeapF lt f n) : DownF lt f n n:=⟨fun k h0 hn _ => h k h0 hn,fun k h0 hn e _ => by omega⟩
theorem DownF.none (h : DownF lt f n i) (hs : n ≤ 2 * i + 1) : HeapF lt f n:=fun k h0 hn => h.1 k h0 hn (by omega)
theorem DownF.stop (o : OrdH lt) (h : DownF lt f n i) {c : Nat} (hc : c = 2 * i + 1 ∨ c = 2 * i + 2) (hm : ∀ k,0 < k → k < n → (k - 1) / 2 = i → lt (f k) (f c) = false) (hs : lt (f c) (f i) = false) : HeapF lt f n:=fun k h0 hn => by
 by_cases e : (k - 1) / 2 = i
 ·rw [e]; exact o.neg _ _ _ (hm k h0 hn e) hs
 ·exact h.1 k h0 hn e
theorem DownF.step (o : OrdH lt) (h : DownF lt f n i) {c : Nat} (hc : c = 2 * i + 1 ∨ c = 2 * i + 2) (hcn : c < n) (hm : ∀ k,0 < k → k < n → (k - 1) / 2 = i → lt (f k) (f c) = false) (hs : lt (f c) (f i) = true) : DownF lt (swF f i c) n c:=by
 have hic : i < c:=by omega
 have hpc : (c - 1) / 2 = i:=by omega
 have has:=o.asym _ _ hs;refine ⟨fun k h0 hn hne => ?_,fun k h0 hn hp hc0 => ?_⟩
 ·by_cases e1 : k = c
  ·subst e1; rw [hpc,swF_1,swF_2]; exact has
  ·by_cases e2 : (k - 1) / 2 = i
   ·rw [e2,swF_1,swF_3 (by omega) e1]
    exact hm k h0 hn e2
   ·rw [swF_3 (k:=(k - 1) / 2) e2 hne]
    by_cases e3 : k = i
    ·subst e3
     rw [swF_1];exact h.2 c (by omega) hcn hpc h0
    ·rw [swF_3 e3 e1]; exact h.1 k h0 hn e2
 ·rw [hpc,swF_1,swF_3 (by omega) (by omega)]
  have:=h.1 k h0 hn (by omega)
  rwa [hp] at this
theorem HeapF.top (o : OrdH lt) (h : HeapF lt f n) : ∀ k,k < n → lt (f k) (f 0) = false:=by
 intro k
 induction k using Nat.strongRecOn with
 | _ k ih =>
  intro hk
  by_cases e : k = 0
  ·subst e
   cases hx : lt (f 0) (f 0) with
   | false => rfl
   | true => have:=o.asym _ _ hx; rw [hx] at this; cases this
  ·exact o.neg _ _ _ (h k (by omega) hk) (ih _ (by omega) (by omega))
end
section
variable {α : Type} [Inhabited α] {lt : α → α → Bool}
def atF (l : List α) (k : Nat) : α:=l.getD k default
theorem atF_lt {l : List α} {k : Nat} (h : k < l.length) : atF l k = l[k]:=by unfold atF; rw [List.getD_eq_getElem?_getD,List.getElem?_eq_getElem h]; rfl
theorem atF_swap {l : List α} {i j : Nat} (hi : i < l.length) (hj : j < l.length) : atF (swapAt l i j) = swF (atF l) i j:=by
 funext k
 rw [swapAt_at hi hj];unfold swF
 by_cases e1 : k = i
 ·subst e1
  rw [if_pos rfl,atF_lt (by simpa using hi),atF_lt hj]
  by_cases e2 : j = k
  ·subst e2; simp
  ·rw [List.getElem_set_ne e2]; simp
 ·rw [if_neg e1]
  by_cases e2 : k = j
  ·subst e2; rw [if_pos rfl,atF_lt (by simpa using hj),atF_lt hi]; simp
  ·rw [if_neg e2]
   unfold atF;simp only [List.getD_eq_getElem?_getD];rw [List.getElem?_set_ne (Ne.symm e2),List.getElem?_set_ne (Ne.symm e1)]
end
section
variable {α : Type}
theorem swap_perm {l : List α} {i j : Nat} (hi : i < l.length) (hj : j < l.length) : (swapAt l i j).Perm l:=by
 by_cases e : i = j
 ·subst e; rw [swapAt_at hi hi]; simp
 ·have key : ∀ {a b : Nat},a < b → ∀ (hb : b < l.length),(swapAt l a b).Perm l:=by
   intro a b hab hb
   have e1 : l = l.take a ++ l[a] :: ((l.drop (a + 1)).take (b - (a + 1)) ++ l[b] :: l.drop (b + 1)):=by
    conv => lhs; rw [← List.take_append_drop a l]
    congr 1
    rw [List.drop_eq_getElem_cons (by omega)]
    congr 1
    conv => lhs; rw [← List.take_append_drop (b - (a + 1)) (l.drop (a + 1))]
    congr 1
    rw [List.drop_drop,show a + 1 + (b - (a + 1)) = b by omega,List.drop_eq_getElem_cons hb]
   have e2 : swapAt l a b = l.take a ++ l[b] :: ((l.drop (a + 1)).take (b - (a + 1)) ++ l[a] :: l.drop (b + 1)):=by
    conv => lhs; rw [e1]
    exact swapAt_mid _ _ _ _ _ (by simp; omega) (by simp; omega)
   rw [e2]
   conv => rhs; rw [e1]
   refine List.Perm.append_left _ ?_;refine ((List.perm_middle (a:=l[a])).cons l[b]).trans ?_;refine (List.Perm.swap _ _ _).trans ?_;exact (List.perm_middle (a:=l[b])).symm.cons l[a]
  have sym : swapAt l i j = swapAt l j i:=by
   rw [swapAt_at hi hj,swapAt_at hj hi,List.set_comm _ _ e]
  rcases Nat.lt_or_gt_of_ne e with h | h
  ·exact key h hj
  ·rw [sym]; exact key h hi
end
section
variable {α : Type} [Inhabited α] {lt : α → α → Bool}
def HeapL (lt : α → α → Bool) (l : List α) : Prop:=HeapF lt (atF l) l.length
theorem HeapL.push {l : List α} (h : HeapL lt l) (x : α) : UpF lt (atF (l ++ [x])) (l ++ [x]).length l.length:=by
 have hl : (l ++ [x]).length = l.length + 1:=by simp
 have e : ∀ k,k < l.length → atF (l ++ [x]) k = atF l k:=fun k hk => by rw [atF_lt (by omega),atF_lt hk,List.getElem_append_left hk]
 refine ⟨fun k h0 hn hne => ?_,fun k h0 hn hp hj => by omega⟩;rw [e k (by omega),e _ (by omega)];exact h k h0 (by omega)
theorem HeapL.pop {l : List α} (h : HeapL lt l) (hp : 0 < l.length) : DownF lt (atF (swapAt l 0 (l.length - 1))) (l.length - 1) 0:=by
 refine ⟨fun k h0 hn hne => ?_,fun k h0 hn _ hz => by omega⟩;rw [atF_swap hp (by omega),swF_3 (by omega) (by omega),swF_3 hne (by omega)];exact h k h0 (by omega)
theorem HeapF.take {l : List α} {n : Nat} (h : HeapF lt (atF l) n) (hn : n ≤ l.length) : HeapL lt (l.take n):=by
 intro k h0 hk;rw [List.length_take,Nat.min_eq_left hn] at hk
 have e : ∀ k,k < n → atF (l.take n) k = atF l k:=fun k hk => by rw [atF_lt (by simp; omega),atF_lt (by omega)]; simp
 rw [e k hk,e _ (by omega)];exact h k h0 hk
theorem last_split {l : List α} {n : Nat} (h : l.length = n + 1) : l = l.take n ++ [atF l n]:=by
 conv => lhs; rw [← List.take_append_drop n l]
 congr 1
 rw [List.drop_eq_getElem_cons (by omega),atF_lt (by omega),List.drop_of_length_le (by omega)]
end
end Go.Proofs.YtkchacgkjdeiaaaGreatDoor
