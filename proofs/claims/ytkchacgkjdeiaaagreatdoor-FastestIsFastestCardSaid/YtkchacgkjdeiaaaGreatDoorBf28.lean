/- Texts of this seat, laid together: HeldK App AppN. -/
import Derived.Deep.RegionHeld3
import Derived.Test.YtkchacgkjdeiaaaGreatDoorBf00
/- A region whose loads come ahead of its stores: what is read may be held till the first store comes up. -/
set_option linter.unusedVariables false
set_option linter.unusedSimpArgs false
namespace Go.Proofs.YtkchacgkjdeiaaaGreatDoor
open Go

section
variable {P : Program} {ops : Array Oper} {Q : Exit → Act → World → Prop} {md : Region.Mode} {S T : World → Prop} {k : Nat}

def wpAnyK (P : Program) (md : Region.Mode) (ops : Array Oper) (Q : Exit → Act → World → Prop) (S T : World → Prop) (k : Nat) : Nat → Array Bool → Act → World → Prop
 | 0,l,a,w => Region.ready md ops l = [] ∧ Q .normal a w
 | n + 1,l,a,w =>
  (Region.ready md ops l = [] → Q .normal a w) ∧
  ∀ i ∈ Region.ready md ops l,wpOp P ops Q i (fun a' w' => (T w' ∧ ((l.setIfInBounds i true).getD k true = false → S w')) ∧ wpAnyK P md ops Q S T k n (l.setIfInBounds i true) a' w') a w

theorem wpAnyK.any : ∀ (n : Nat) (l : Array Bool) (a : Act) (w : World),wpAnyK P md ops Q S T k n l a w → wpAny P md ops Q n l a w
 | 0,_,_,_,h => h
 | n + 1,_,_,_,h => ⟨h.1,fun i hi => wpOp_mono (fun a' w' h' => wpAnyK.any n _ a' w' h'.2) (h.2 i hi)⟩

def waits (md : Region.Mode) (ops : Array Oper) (k i : Nat) : Bool :=
 match ops[k]? with
 | some o => o.after.any fun e => Region.binds md e && e.on == i
 | none => false

theorem wpAnyK_first {i : Nat} {oi : Oper} {v : Value} {U : World → Prop} (hi : ops[i]? = some oi) (hsel : ∀ (j : Nat) (o : Oper) cs b,ops[j]? = some o → o.op ≠ .select cs b)
  (hQ : ∀ c a w,Q (.panic c) (a.put oi.dst v) w → Q (.panic c) a w) (hik : i ≠ k) :
  ∀ (n : Nat) (l : Array Bool) (a : Act) (w : World),
   ((∀ w,T w → U w) ∨ (l.getD k true = false ∧ waits md ops k i = true ∧ ∀ w,T w → S w → U w)) →
   (∀ j oj,ops[j]? = some oj → j ≠ i → l.getD j true = false → (∀ e ∈ oj.after,Region.binds md e = true → e.on ≠ i) → oi.apart ops oj = true) →
   i ∈ Region.ready md ops l → YieldsIf P ops U oi v a → U w → T w → (l.getD k true = false → S w) →
   wpAnyK P md ops Q S T k n (l.setIfInBounds i true) (a.put oi.dst v) w → wpAnyK P md ops Q S T k (n + 1) l a w:=by
 have hset : ∀ l : Array Bool,(l.setIfInBounds i true).getD k true = l.getD k true:=fun l => getD_set_ne true hik
 intro n
 induction n with
 | zero =>
  intro l a w _ _ hr hy hU hT hS H;refine ⟨fun h => (by rw [h] at hr; cases hr),fun j hj => ?_⟩
  by_cases hji : j = i
  ·subst hji
   exact hy.wpOp hi hU ⟨⟨hT,fun h => hS (by rw [← hset]; exact h)⟩,H⟩
  ·have h1:=ready_mono hj hji
   rw [H.1] at h1
   cases h1
 | succ n ih =>
  intro l a w hk hfree hr hy hU hT hS H;refine ⟨fun h => (by rw [h] at hr; cases hr),fun j hj => ?_⟩
  by_cases hji : j = i
  ·subst hji
   exact hy.wpOp hi hU ⟨⟨hT,fun h => hS (by rw [← hset]; exact h)⟩,H⟩
  ·have h1:=H.2 j (ready_mono hj hji)
   obtain ⟨hjun,oj,hoj,hall⟩:=mem_ready.1 hj
   have hnot : ∀ e ∈ oj.after,Region.binds md e = true → e.on ≠ i:=fun e he hb heq => by
    have h2:=hall e he hb;have h0:=(mem_ready.1 hr).1;rw [heq] at h2;rcases Nat.lt_or_ge i l.size with h' | h'
    ·simp [h'] at h0 h2; rw [h0] at h2; cases h2
    ·simp [Array.getElem?_eq_none h'] at h2
   have h2:=wpOp_putIf hoj (hfree j oj hoj hji hjun hnot) (fun cs b => hsel i oi cs b hi) (fun cs b => hsel j oj cs b hoj) hQ hy h1;have hfree' : ∀ m om,ops[m]? = some om → m ≠ i → (l.setIfInBounds j true).getD m true = false →
     (∀ e ∈ om.after,Region.binds md e = true → e.on ≠ i) → oi.apart ops om = true:=fun m om hm hmi hun hno => by
    refine hfree m om hm hmi ?_ hno
    by_cases hjm : j = m
    ·subst hjm; exact hjun
    ·rw [getD_set_ne true hjm] at hun; exact hun
   refine wpOp_mono (fun a' w' h3 => ?_) h2;have hcomm : (l.setIfInBounds i true).setIfInBounds j true = (l.setIfInBounds j true).setIfInBounds i true:=Array.setIfInBounds_comm _ _ (Ne.symm hji)
   have hS' : (l.setIfInBounds j true).getD k true = false → S w':=fun h => h3.2.1.2 (by rw [hcomm,hset]; exact h)
   have hk' : (∀ w,T w → U w) ∨ ((l.setIfInBounds j true).getD k true = false ∧ waits md ops k i = true ∧ ∀ w,T w → S w → U w):=by
    rcases hk with hk | ⟨h4,h5,h6⟩
    ·exact .inl hk
    ·refine .inr ⟨?_,h5,h6⟩
     have hjk : j ≠ k:=by
      intro e;subst e;unfold waits at h5;rw [hoj] at h5;simp only [Array.any_eq_true'] at h5;obtain ⟨e,he,hb⟩:=h5;simp only [Bool.and_eq_true,beq_iff_eq] at hb;exact hnot e he hb.1 hb.2
     rw [getD_set_ne true hjk];exact h4
   have hU' : U w':=by
    rcases hk' with hk | ⟨h4,_,h6⟩
    ·exact hk _ h3.2.1.1
    ·exact h6 _ h3.2.1.1 (hS' h4)
   refine ⟨⟨h3.2.1.1,hS'⟩,ih (l.setIfInBounds j true) a' w' hk' hfree' (ready_mono hr (Ne.symm hji)) h3.1 hU' h3.2.1.1 hS' ?_⟩;rw [← hcomm];exact h3.2.2

theorem wpAnyK_take1 {i : Nat} {oi : Oper} {v : Value} {n : Nat} {l : Array Bool} {a : Act} {w : World} (hi : ops[i]? = some oi)
  (hs : Region.noSelect ops = true) (hf : Region.free md ops l i = true) (hr : (Region.ready md ops l).contains i = true) (hik : (i == k) = false) (hw : waits md ops k i = true) (hl : l.getD k true = false)
  (hQ : ∀ c a w,Q (.panic c) (a.put oi.dst v) w → Q (.panic c) a w) (hy : YieldsIf P ops (fun w => T w ∧ S w) oi v a) (hT : T w) (hS : S w)
  (h : wpAnyK P md ops Q S T k n (l.setIfInBounds i true) (a.put oi.dst v) w) : wpAnyK P md ops Q S T k (n + 1) l a w :=
 wpAnyK_first hi (Region.noSelect_spec hs) hQ (by simpa using hik) n l a w (.inr ⟨hl,hw,fun _ h1 h2 => ⟨h1,h2⟩⟩) (Region.free_spec hi hf) (by simpa using hr) hy ⟨hT,hS⟩ hT (fun _ => hS) h
theorem wpAnyK_take2 {i : Nat} {oi : Oper} {v : Value} {n : Nat} {l : Array Bool} {a : Act} {w : World} (hi : ops[i]? = some oi)
  (hs : Region.noSelect ops = true) (hf : Region.free md ops l i = true) (hr : (Region.ready md ops l).contains i = true) (hik : (i == k) = false)
  (hQ : ∀ c a w,Q (.panic c) (a.put oi.dst v) w → Q (.panic c) a w) (hy : YieldsIf P ops T oi v a) (hT : T w) (hS : S w)
  (h : wpAnyK P md ops Q S T k n (l.setIfInBounds i true) (a.put oi.dst v) w) : wpAnyK P md ops Q S T k (n + 1) l a w :=
 wpAnyK_first hi (Region.noSelect_spec hs) hQ (by simpa using hik) n l a w (.inl fun _ h => h) (Region.free_spec hi hf) (by simpa using hr) hy hT hT (fun _ => hS) h
theorem wpAnyK_take3 {i : Nat} {oi : Oper} {v : Value} {n : Nat} {l : Array Bool} {a : Act} {w : World} (hi : ops[i]? = some oi)
  (hs : Region.noSelect ops = true) (hf : Region.free md ops l i = true) (hr : (Region.ready md ops l).contains i = true) (hik : (i == k) = false) (hl : l.getD k true = true)
  (hQ : ∀ c a w,Q (.panic c) (a.put oi.dst v) w → Q (.panic c) a w) (hy : YieldsIf P ops T oi v a) (hT : T w)
  (h : wpAnyK P md ops Q S T k n (l.setIfInBounds i true) (a.put oi.dst v) w) : wpAnyK P md ops Q S T k (n + 1) l a w :=
 wpAnyK_first hi (Region.noSelect_spec hs) hQ (by simpa using hik) n l a w (.inl fun _ h => h) (Region.free_spec hi hf) (by simpa using hr) hy hT hT (fun h => by rw [hl] at h; cases h) h

theorem KU1 {P:Program} {ops:Array Oper} {S T:World → Prop} {Q:Exit → Act → World → Prop} {md:_} {k:Nat} (i:Nat) {oi:Oper} {v:Value} {n:Nat} {l:Array Bool} {a:Act} {w:World} (h:wpAnyK P md ops Q S T k n (l.setIfInBounds i true) (a.put oi.dst v) w) (hi:ops[i]? = some oi:=by (simp only [List.getElem?_toArray,List.getElem?_cons_succ,List.getElem?_cons_zero]; rfl)) (hs:Region.noSelect ops = true:=by kernel_rfl) (hf:Region.free md ops l i = true:=by kernel_rfl) (hr:(Region.ready md ops l).contains i = true:=by kernel_rfl) (hik:(i == k) = false:=by decide) (hw:waits md ops k i = true:=by kernel_rfl) (hl:l.getD k true = false:=by kernel_rfl) (hQ:∀ c a w, Q (.panic c) (a.put oi.dst v) w → Q (.panic c) a w:=by exact fun _ _ _ h => h) (hwa:Region.wanted oi (yielded ops a.tmps) = true:=by rfl) (hT:T w:=by assumption) (hS:S w:=by assumption) (hy:∀ w, (T w ∧ S w) → (execOp a.eval oi).run P w = .ok (.value v) w:=by intro w hSw; (try dsimp only at hSw); go_simp; (try with_reducible rfl)):wpAnyK P md ops Q S T k (n+1) l a w:=wpAnyK_take1 hi hs hf hr hik hw hl hQ (.inl ⟨hwa,hy⟩) hT hS h
theorem KU2 {P:Program} {ops:Array Oper} {S T:World → Prop} {Q:Exit → Act → World → Prop} {md:_} {k:Nat} (i:Nat) {oi:Oper} {v:Value} {n:Nat} {l:Array Bool} {a:Act} {w:World} (h:wpAnyK P md ops Q S T k n (l.setIfInBounds i true) (a.put oi.dst v) w) (hi:ops[i]? = some oi:=by (simp only [List.getElem?_toArray,List.getElem?_cons_succ,List.getElem?_cons_zero]; rfl)) (hs:Region.noSelect ops = true:=by kernel_rfl) (hf:Region.free md ops l i = true:=by kernel_rfl) (hr:(Region.ready md ops l).contains i = true:=by kernel_rfl) (hik:(i == k) = false:=by decide) (hQ:∀ c a w, Q (.panic c) (a.put oi.dst v) w → Q (.panic c) a w:=by exact fun _ _ _ h => h) (hwa:Region.wanted oi (yielded ops a.tmps) = true:=by rfl) (hT:T w:=by assumption) (hS:S w:=by assumption) (hy:∀ w, T w → (execOp a.eval oi).run P w = .ok (.value v) w:=by intro w hSw; (try dsimp only at hSw); go_simp; (try with_reducible rfl)):wpAnyK P md ops Q S T k (n+1) l a w:=wpAnyK_take2 hi hs hf hr hik hQ (.inl ⟨hwa,hy⟩) hT hS h
theorem KU3 {P:Program} {ops:Array Oper} {S T:World → Prop} {Q:Exit → Act → World → Prop} {md:_} {k:Nat} (i:Nat) {oi:Oper} {v:Value} {n:Nat} {l:Array Bool} {a:Act} {w:World} (h:wpAnyK P md ops Q S T k n (l.setIfInBounds i true) (a.put oi.dst v) w) (hi:ops[i]? = some oi:=by (simp only [List.getElem?_toArray,List.getElem?_cons_succ,List.getElem?_cons_zero]; rfl)) (hs:Region.noSelect ops = true:=by kernel_rfl) (hf:Region.free md ops l i = true:=by kernel_rfl) (hr:(Region.ready md ops l).contains i = true:=by kernel_rfl) (hik:(i == k) = false:=by decide) (hl:l.getD k true = true:=by kernel_rfl) (hQ:∀ c a w, Q (.panic c) (a.put oi.dst v) w → Q (.panic c) a w:=by exact fun _ _ _ h => h) (hwa:Region.wanted oi (yielded ops a.tmps) = true:=by rfl) (hT:T w:=by assumption) (hy:∀ w, T w → (execOp a.eval oi).run P w = .ok (.value v) w:=by intro w hSw; (try dsimp only at hSw); go_simp; (try with_reducible rfl)):wpAnyK P md ops Q S T k (n+1) l a w:=wpAnyK_take3 hi hs hf hr hik hl hQ (.inl ⟨hwa,hy⟩) hT h
def AllReadyK (P : Program) (md : Region.Mode) (ops : Array Oper) (Q : Exit → Act → World → Prop) (S T : World → Prop) (k n : Nat) (l : Array Bool) (a : Act) (w : World) (rs : List Nat) : Prop :=
 ∀ i ∈ rs,wpOp P ops Q i (fun a' w' => (T w' ∧ ((l.setIfInBounds i true).getD k true = false → S w')) ∧ wpAnyK P md ops Q S T k n (l.setIfInBounds i true) a' w') a w
theorem AllReadyK.nil {n : Nat} {l : Array Bool} {a : Act} {w : World} : AllReadyK P md ops Q S T k n l a w []:=fun _ h => by cases h
theorem AllReadyK.cons {n : Nat} {l : Array Bool} {a : Act} {w : World} {i : Nat} {o : Oper} {rs : List Nat} (ho : ops[i]? = some o)
  (h : ∀ K' : Act → World → Prop,Shut (∀ a w,T w → S w → (T w → S w → wpAnyK P md ops Q S T k n (l.setIfInBounds i true) a w) → K' a w) → if Region.wanted o (yielded ops a.tmps) = true then Oper.wp P o a w K' Q else K' (a.put o.dst undef) w)
  (hs : AllReadyK P md ops Q S T k n l a w rs) : AllReadyK P md ops Q S T k n l a w (i :: rs):=fun j hj => by
 rcases List.mem_cons.1 hj with rfl | hj
 ·exact wpOp_step ho (fun K' hK => h K' (fun a w hT hS hW => hK a w ⟨⟨hT,fun _ => hS⟩,hW hT hS⟩))
 ·exact hs j hj
theorem AllReadyK.consT {n : Nat} {l : Array Bool} {a : Act} {w : World} {i : Nat} {o : Oper} {rs : List Nat} (hl : (l.setIfInBounds i true).getD k true = true) (ho : ops[i]? = some o)
  (h : ∀ K' : Act → World → Prop,Shut (∀ a w,T w → (T w → wpAnyK P md ops Q S T k n (l.setIfInBounds i true) a w) → K' a w) → if Region.wanted o (yielded ops a.tmps) = true then Oper.wp P o a w K' Q else K' (a.put o.dst undef) w)
  (hs : AllReadyK P md ops Q S T k n l a w rs) : AllReadyK P md ops Q S T k n l a w (i :: rs):=fun j hj => by
 rcases List.mem_cons.1 hj with rfl | hj
 ·exact wpOp_step ho (fun K' hK => h K' (fun a w hT hW => hK a w ⟨⟨hT,fun e => by rw [hl] at e; cases e⟩,hW hT⟩))
 ·exact hs j hj
theorem wpAnyK_ready {rs : List Nat} {n : Nat} {l : Array Bool} {a : Act} {w : World} (hr : Region.ready md ops l = rs) (hne : rs ≠ [])
  (h : AllReadyK P md ops Q S T k n l a w rs) : wpAnyK P md ops Q S T k (n + 1) l a w:=⟨fun h0 => absurd (hr ▸ h0) hne,hr ▸ h⟩
theorem wpAnyK_done {l : Array Bool} {a : Act} {w : World} (hr : Region.ready md ops l = []) (h : Q .normal a w) :
  ∀ n,wpAnyK P md ops Q S T k n l a w
 | 0 => ⟨hr,h⟩
 | _ + 1 => ⟨fun _ => h,by rw [hr]; simp⟩
theorem wp_region_heldK {id : Nat} {a : Act} {w : World} (k : Nat) (S T : World → Prop) (hm : P.follows .mixedOrders = true) (hT : T w.drew) (hS : S w.drew)
  (h : T w.drew → S w.drew → wpAnyK P .any ops Q S T k ops.size (Array.replicate ops.size false) a w.drew) : (Code.region id ops true).wp P Q a w :=
 wp_region_any hm (wpAnyK.any _ _ _ _ (h hT hS))
end
end Go.Proofs.YtkchacgkjdeiaaaGreatDoor
/- An append onto a row of the call's own, inside a region that draws its order. -/
namespace Go.Proofs.YtkchacgkjdeiaaaGreatDoor
open Go.RowKit

theorem step_app {P : Program} {w : World} {ops : Array Oper} {o : Oper} {a : Act} {K : Act → World → Prop} {Q : Exit → Act → World → Prop} {E : Prop} {base : Nat} {t e : TypeId} {size bytes : Nat} {v : Value} {n : Nat} {xs : List Value} {lo : Nat} {A : Option Addr} {m : Nat} (c : Nat) {news : List Value}
  (hgd : o.guard = none) (s x : Operand) (T : SliceTy P t e size bytes)
  (ho : o.op = .call { callee:=.builtin .append,args:=#[s,x],argTypes:=#[t,t] })
  (hown : w.ownsRow base e size v n xs) (hs : a.eval s = v)
  (hr : Row w lo size A m news) (hx : a.eval x = .slice A m c) (h1 : news.all (·.oneCell') = true)
  (hbytes : (n + m) * bytes ≤ 140737488355328) (h63 : n + m ≤ 9223372036854775807) (hbase : base ≤ w.heap.size)
  (h : ∀ A' c' w',w'.ownsRow base e size (.slice A' (n + m) c') (n + m) (xs ++ news) → w.grownBy w' v.ownBlock → ((Value.slice A' (n + m) c').ownBlock = v.ownBlock ∨ (Value.slice A' (n + m) c').ownBlock = some w.heap.size) → K (a.put o.dst (.slice A' (n + m) c')) w') :
  if Region.wanted o (yielded ops a.tmps) = true then Oper.wp P o a w K Q else E:=by
 have hw : Region.wanted o (yielded ops a.tmps) = true:=by simp [Region.wanted,hgd]
 rw [if_pos hw];obtain ⟨A',c',w',hrun,h2,h3,h4⟩:=run_app (P:=P) w base t o.type e size bytes T v n xs hown lo A m c news hr h1 hbytes h63 hbase;unfold Oper.wp execOp;simp only [ho,resolve,invoke,builtin,Sem.run_bind,Sem.run_pure,Result.andThen_ok,List.map_toArray,List.map_cons,List.map_nil,hs,hx,hrun];exact h A' c' w' h2 h3 h4
end Go.Proofs.YtkchacgkjdeiaaaGreatDoor
/- An append of nothing: the slice stays as it is. -/
namespace Go.Proofs.YtkchacgkjdeiaaaGreatDoor
open Go.RowKit

end Go.Proofs.YtkchacgkjdeiaaaGreatDoor
