/- Texts of this seat, laid together: Srt. -/
import Derived.Shelf.SlSortCmp.NoneTotal
import Derived.Test.YtjggbpchmbdocaaGreatDoorBl00
/- A slice of structs that the call has built, sorted by the library, read again as a row of the call's own. -/
namespace Go.Proofs.YtjggbpchmbdocaaGreatDoor
set_option linter.unusedVariables false
set_option linter.unusedSimpArgs false
open Go.RowKit Go.Sort Go.Shelf Go.Lib

theorem flat_len {α : Type} (enc : α → List Value) (k : Nat) (hk : ∀ x,(enc x).length = k) (l : List α) : (l.flatMap enc).length = l.length * k:=by
 induction l with
 | nil => simp
 | cons x l ih => simp only [List.flatMap_cons,List.length_append,hk,ih,List.length_cons]; rw [Nat.add_mul]; omega
theorem flat_get {α : Type} [Inhabited α] (enc : α → List Value) (k : Nat) (hk : ∀ x, (enc x).length = k) (l : List α) (t : Nat) (ht : t < l.length * k) : (l.flatMap enc)[t]? = some ((enc l[t / k]!)[t % k]!) := by
  have k0 : 0 < k := by rcases Nat.eq_zero_or_pos k with h | h; · subst h; simp at ht
                        · exact h
  induction l generalizing t with
  | nil => simp at ht
  | cons x l ih =>
    simp only [List.flatMap_cons]
    rcases Nat.lt_or_ge t k with h | h
    · rw [List.getElem?_append_left (by rw [hk]; exact h), Nat.div_eq_of_lt h, Nat.mod_eq_of_lt h, List.getElem?_eq_getElem (by rw [hk]; exact h)]
      simp [getElem!_pos, hk, h]
    · rw [List.getElem?_append_right (by rw [hk]; exact h), hk, ih (t - k) (by simp only [List.length_cons, Nat.add_mul] at ht; omega)]
      obtain ⟨d, rfl⟩ : ∃ d, t = d + k := ⟨t - k, by omega⟩
      rw [Nat.add_sub_cancel, Nat.add_div_right _ k0, Nat.add_mod_right]
      simp
theorem flatK_list {α : Type} [Inhabited α] (enc : α → List Value) (k : Nat) (hk : ∀ x,(enc x).length = k) (l : List α) : flatK enc k l.toArray = (l.flatMap enc).toArray:=by
 apply Array.ext
 ·rw [size_flatK,List.size_toArray,List.size_toArray,flat_len enc k hk]
 ·intro t h1 h2
  have h3 : t < l.length * k:=by rw [size_flatK,List.size_toArray] at h1; exact h1
  have e:=get_flatK enc k l.toArray t (by simpa using h3)
  rw [getElem!_pos (flatK enc k l.toArray) t h1] at e
  rw [e,List.getElem_toArray]
  have f:=flat_get enc k hk l t h3
  rw [List.getElem?_eq_getElem (by simpa using h2)] at f
  injection f with f
  rw [f]
  simp
theorem holdsV {w : World} {g : Nat} {cur : Array Value} {e : TypeId} {ss : List Value} (hb : w.heap[g]? = some (.cells cur e (0,0))) (ht : cur.toList.take ss.length = ss) : Holds id w g 0 ss.toArray:=by
 intro j hj
 have hj' : j < ss.length:=by simpa using hj
 refine ⟨?_,by simp [World.frozen?,hb]⟩
 have h1 : (cur.toList.take ss.length)[j]? = ss[j]?:=by rw [ht]
 rw [List.getElem?_take_of_lt hj'] at h1
 simp only [World.cell?,hb,Nat.zero_add]
 simp only [Option.isSome_none,Bool.false_eq_true,if_false]
 rw [← Array.getElem?_toList,h1]
 simp [hj']
theorem heap_sortedV {w : World} {g n : Nat} {os : Array Obj} {cur : Array Value} {e : TypeId} {fr : Nat × Nat} (d : Array Value) (hb : w.heap[g]? = some (.cells cur e fr)) :
  (grow (putRow id (Sort.ahead w n) g 0 d) os).heap[g]? = some (.cells (putCells id 0 d cur) e fr):=by
 have hg : g < w.heap.size:=(Array.getElem?_eq_some_iff.1 hb).1
 rw [heap_grow_old _ _ (by simpa using hg)]
 simp [putRow,mapBlock,Sort.ahead,Array.getElem?_modify,hb,onCells]
theorem grownBy_sortedV {w : World} {g n : Nat} {os : Array Obj} (d : Array Value) : w.grownBy (grow (putRow id (Sort.ahead w n) g 0 d) os) (some g):=by
 refine ⟨rfl,rfl,rfl,by simp,fun k hk hne => ?_⟩
 rw [heap_grow_old _ _ (by simpa using hk)]
 have : g ≠ k:=fun e => hne (by rw [e])
 simp [putRow,mapBlock,Sort.ahead,Array.getElem?_modify,this]
theorem take_putCellsV (cur : Array Value) (ts : List Value) (h : ts.length ≤ cur.size) : (putCells id 0 ts.toArray cur).toList.take ts.length = ts:=by
 apply List.ext_getElem?
 intro j
 by_cases hj : j < ts.length
 ·rw [List.getElem?_take_of_lt hj,Array.getElem?_toList]
  simp [putCells,hj,show j < cur.size by omega]
 ·rw [List.getElem?_take_eq_none (by omega),List.getElem?_eq_none (by omega)]

end Go.Proofs.YtjggbpchmbdocaaGreatDoor
