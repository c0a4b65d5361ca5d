/- Texts of this seat, laid together: Srt. -/
import Derived.Shelf.SlSortCmp.NoneTotal
import Derived.Test.YtkchacgkjdeiaaaGreatDoorBf00
/- A slice of structs that the call has built, sorted by the library, read again as a row of the call's own. -/
namespace Go.Proofs.YtkchacgkjdeiaaaGreatDoor
set_option linter.unusedVariables false
set_option linter.unusedSimpArgs false
open Go.RowKit Go.Sort Go.Shelf Go.Lib

theorem flat_len {α : Type} (enc : α → List Value) (k : Nat) (hk : ∀ x,(enc x).length = k) (l : List α) : (l.flatMap enc).length = l.length * k:=by
 induction l with
 | nil => simp
 | cons x l ih => simp only [List.flatMap_cons,List.length_append,hk,ih,List.length_cons]; rw [Nat.add_mul]; omega
theorem flat_get {α : Type} [Inhabited α] (enc : α → List Value) (k : Nat) (hk : ∀ x, (enc x).length = k) (l : List α) (t : Nat) (ht : t < l.length * k) : (l.flatMap enc)[t]? = some ((enc l[t / k]!)[t % k]!) := by
  have k0 : 0 < k := by rcases Nat.eq_zero_or_pos k with h | h; · subst h; simp at ht
                        · exact h
  induction l generalizing t with
  | nil => simp at ht
  | cons x l ih =>
    simp only [List.flatMap_cons];rcases Nat.lt_or_ge t k with h | h
    · rw [List.getElem?_append_left (by rw [hk]; exact h), Nat.div_eq_of_lt h, Nat.mod_eq_of_lt h, List.getElem?_eq_getElem (by rw [hk]; exact h)]
      simp [getElem!_pos, hk, h]
    · rw [List.getElem?_append_right (by rw [hk]; exact h), hk, ih (t - k) (by simp only [List.length_cons, Nat.add_mul] at ht; omega)]
      obtain ⟨d, rfl⟩ : ∃ d, t = d + k := ⟨t - k, by omega⟩;rw [Nat.add_sub_cancel, Nat.add_div_right _ k0, Nat.add_mod_right]
      simp
theorem flatK_list {α : Type} [Inhabited α] (enc : α → List Value) (k : Nat) (hk : ∀ x,(enc x).length = k) (l : List α) : flatK enc k l.toArray = (l.flatMap enc).toArray:=by
 apply Array.ext
 ·rw [size_flatK,List.size_toArray,List.size_toArray,flat_len enc k hk]
 ·intro t h1 h2
  have h3 : t < l.length * k:=by rw [size_flatK,List.size_toArray] at h1; exact h1
  have e:=get_flatK enc k l.toArray t (by simpa using h3);rw [getElem!_pos (flatK enc k l.toArray) t h1] at e;rw [e,List.getElem_toArray];have f:=flat_get enc k hk l t h3;rw [List.getElem?_eq_getElem (by simpa using h2)] at f;injection f with f;rw [f]
  simp
theorem holdsV {w : World} {g : Nat} {cur : Array Value} {e : TypeId} {ss : List Value} (hb : w.heap[g]? = some (.cells cur e (0,0))) (ht : cur.toList.take ss.length = ss) : Holds id w g 0 ss.toArray:=by
 intro j hj
 have hj' : j < ss.length:=by simpa using hj
 refine ⟨?_,by simp [World.frozen?,hb]⟩
 have h1 : (cur.toList.take ss.length)[j]? = ss[j]?:=by rw [ht]
 rw [List.getElem?_take_of_lt hj'] at h1;simp only [World.cell?,hb,Nat.zero_add];simp only [Option.isSome_none,Bool.false_eq_true,if_false];rw [← Array.getElem?_toList,h1]
 simp [hj']
theorem heap_sortedV {w : World} {g n : Nat} {os : Array Obj} {cur : Array Value} {e : TypeId} {fr : Nat × Nat} (d : Array Value) (hb : w.heap[g]? = some (.cells cur e fr)) :
  (grow (putRow id (Sort.ahead w n) g 0 d) os).heap[g]? = some (.cells (putCells id 0 d cur) e fr):=by
 have hg : g < w.heap.size:=(Array.getElem?_eq_some_iff.1 hb).1;rw [heap_grow_old _ _ (by simpa using hg)]
 simp [putRow,mapBlock,Sort.ahead,Array.getElem?_modify,hb,onCells]
theorem grownBy_sortedV {w : World} {g n : Nat} {os : Array Obj} (d : Array Value) : w.grownBy (grow (putRow id (Sort.ahead w n) g 0 d) os) (some g):=by
 refine ⟨rfl,rfl,rfl,by simp,fun k hk hne => ?_⟩;rw [heap_grow_old _ _ (by simpa using hk)]
 have : g ≠ k:=fun e => hne (by rw [e])
 simp [putRow,mapBlock,Sort.ahead,Array.getElem?_modify,this]
theorem take_putCellsV (cur : Array Value) (ts : List Value) (h : ts.length ≤ cur.size) : (putCells id 0 ts.toArray cur).toList.take ts.length = ts:=by
 apply List.ext_getElem?;intro j
 by_cases hj : j < ts.length
 ·rw [List.getElem?_take_of_lt hj,Array.getElem?_toList]
  simp [putCells,hj,show j < cur.size by omega]
 ·rw [List.getElem?_take_eq_none (by omega),List.getElem?_eq_none (by omega)]

theorem sortK_own {α : Type} [Inhabited α] {P : Program} {ρ : Ren} (L : SlLaysF0.n6 P ρ) (k : Nat) (hk0 : 0 < k) (aE : ∀ w,(isAgg (ρ.t 24)).run P w = .ok true w) (zE : ∀ w,(Go.sizeOf (ρ.t 24)).run P w = .ok k w) (enc : α → List Value) (hk : ∀ x,(enc x).length = k) (h1 : ∀ x,∀ v ∈ enc x,v.oneCell' = true)
  (cf : α → α → Int) (hO : SWO (ltOf cf)) (g : Nat) (cb : Array Value) (eg : ∀ args w,(callFunc g args).run P w = .ok (.enter g args) w)
  (hcmp : ∀ (x y : α) (w : World),Calls P g (#[.agg (enc x).toArray,.agg (enc y).toArray] ++ cb) w fun e w' => e = .returned (.int .i64 (cf x y)) ∧ ∃ os,w' = grow w os)
  (A : Option Addr) (c base : Nat) (e : TypeId) (zs : List α) (w : World) (ho : w.ownsRow base e k (.slice A zs.length c) zs.length (zs.flatMap enc)) (hl : zs.length ≤ 1000000000) :
  Calls P (ρ.f 6) #[.slice A zs.length c,.func (.func g) #[] cb] w fun e' w' => e' = .returned (.tuple #[]) ∧ ∃ ys : List α,ys.Perm zs ∧ ys.Pairwise (fun x y => ¬ cf y x < 0) ∧ w'.ownsRow base e k (.slice A ys.length c) ys.length (ys.flatMap enc) ∧ w.grownBy w' (Value.slice A zs.length c).ownBlock:=by
 by_cases hz : zs = []
 ·subst hz
  refine (AnyF.slices_SortFunc_none (P:=P) (ρ:=ρ) { L with } A c _ w).mono ?_;rintro e' w' ⟨rfl,rfl⟩;exact ⟨rfl,[],List.Perm.refl _,List.Pairwise.nil,ho,World.grownBy.refl _ _⟩
 ·have hpos : 0 < zs.length:=List.length_pos_iff.2 hz
  rcases ho.2 with ⟨h0,hn⟩ | ⟨g',cap,cur,hv,hg,hh,hcap,hm,hcs,ht⟩
  ·omega
  ·injection hv with e1 e2 e3
   subst e1 e3;have hfl:=flat_len enc k hk zs;rw [← hfl] at ht
   have hH : HoldsK enc k w g' 0 zs.toArray:=by
    unfold HoldsK;rw [flatK_list enc k hk];exact holdsV hh ht
   refine (AnyQ.slices_SortFunc (P:=P) (ρ:=ρ) L k aE zE enc hk h1 cf hO g cb g' 0 c zs.toArray w eg ?_ hH (Array.getElem?_eq_some_iff.1 hh).1 (by simp; omega)).mono ?_
   ·intro m os dk _ x y
    refine (hcmp x y _).mono ?_;rintro e' w' ⟨rfl,os',rfl⟩;exact ⟨rfl,0,os',rfl⟩
   ·rintro e' w' ⟨rfl,d',n,os,hP,hS,rfl⟩
    obtain ⟨hsz,_,hperm⟩:=hP
    have e1 : d'.extract 0 zs.toArray.size = d':=by rw [← hsz]; exact Array.extract_size
    rw [e1,Array.extract_size] at hperm
    have hpl : d'.toList.length = zs.length:=by simpa using hperm.length_eq
    have hf2:=flat_len enc k hk d'.toList
    have hd : d' = d'.toList.toArray:=by simp
    refine ⟨rfl,d'.toList,hperm,?_,?_,?_⟩
    ·rw [List.pairwise_iff_getElem]
     intro i j hi hj hij
     have hi' : i < d'.size:=by simpa using hi
     have hj' : j < d'.size:=by simpa using hj
     have:=hS i j (Nat.zero_le _) hij (by rw [← hsz]; exact hj');rw [getElem!_pos d' j hj',getElem!_pos d' i hi'] at this
     simpa [ltOf] using this
    ·unfold sortWorldK putRowK
     rw [hd,flatK_list enc k hk];have hmul : d'.toList.length * k ≤ c * k:=Nat.mul_le_mul_right k (by omega);refine ⟨by simpa using hf2,.inr ⟨g',c,_,rfl,hg,heap_sortedV _ hh,by simpa using (by omega : d'.toList.length ≤ c),hm,by simpa [putCells] using hcs,?_⟩⟩;have:=take_putCellsV cur (d'.toList.flatMap enc) (by rw [hf2,hcs]; exact hmul);rw [hf2] at this
     simpa using this
    ·unfold sortWorldK putRowK
     exact grownBy_sortedV _
end Go.Proofs.YtkchacgkjdeiaaaGreatDoor
