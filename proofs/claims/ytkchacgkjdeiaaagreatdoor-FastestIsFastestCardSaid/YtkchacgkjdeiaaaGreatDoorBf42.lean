/- Texts of this seat, laid together: MqS. -/
import Derived.Sort.OwnSorted
import Derived.Test.YtkchacgkjdeiaaaGreatDoorBf38
import Derived.Test.YtkchacgkjdeiaaaGreatDoorBf23
import Derived.Test.YtkchacgkjdeiaaaGreatDoorBf06
/- Lists of texts of the call's own: sorted, each once. -/
namespace Go.Proofs.YtkchacgkjdeiaaaGreatDoor
set_option linter.unusedVariables false
set_option linter.unusedSimpArgs false
open Go.RowKit Go.Sort

def sortT (l : List (List UInt8)) : List (List UInt8):=l.mergeSort fun x y => decide (x ≤ y)
theorem sortT_len (l : List (List UInt8)) : (sortT l).length = l.length:=List.length_mergeSort l
theorem sortT_any (A : Option Addr) (c base : Nat) (zs : List (List UInt8)) (w : World) (ho : w.ownsRow base 9 1 (.slice A zs.length c) zs.length (strs zs)) (hl : zs.length ≤ 1000000000) :
  Calls Tryz.prog 85 #[.slice A zs.length c] w fun e w' => e = .returned (.tuple #[]) ∧ w'.ownsRow base 9 1 (.slice A zs.length c) zs.length (strs (sortT zs)) ∧ w.grownBy w' (Value.slice A zs.length c).ownBlock:=by
 rcases ho.2 with ⟨hv,h0⟩ | ⟨g,cap,cur,hv,hg,hh,hcap,hm,hcs,ht⟩
 ·have hz : zs = []:=List.eq_nil_of_length_eq_zero h0
  subst hz;injection hv with e1 _ e2;subst e1 e2;refine (Tryz.slices_Sort_string_none none 0 w).mono ?_;rintro e w' ⟨rfl,rfl⟩;exact ⟨rfl,by simpa [sortT] using ho,World.grownBy.refl _ _⟩
 ·injection hv with e1 _ e2
  subst e1 e2;rw [Nat.mul_one] at ht;refine (Tryz.slices_Sort_string g 0 c zs w (holds_of_block hh ht) (Array.getElem?_eq_some_iff.1 hh).1 (by omega)).mono ?_;rintro e w' ⟨rfl,n,os,rfl⟩;exact ⟨rfl,ownsRow_sorted (sortT_len zs) hg hh hcap hm hcs,grownBy_sorted _⟩
theorem grow_nil (w : World) : grow w #[] = w:=by simp [grow]
theorem take_pad (ts : List (List UInt8)) (k : Nat) (cur : Array Value) (h : ts.length + k ≤ cur.size) : (putCells encStr 0 (ts ++ List.replicate k []).toArray cur).toList.take ts.length = strs ts:=by
 have h1:=take_putCells cur (ts ++ List.replicate k []) (by simp; omega)
 have h2 : ((putCells encStr 0 (ts ++ List.replicate k []).toArray cur).toList.take (ts ++ List.replicate k []).length).take ts.length = (putCells encStr 0 (ts ++ List.replicate k []).toArray cur).toList.take ts.length:=by
  rw [List.take_take]; congr 1; simp
 rw [← h2,h1,List.map_append,List.take_left' (by simp)];rfl
theorem compact_le (zs : List (List UInt8)) : (Lib.compact zs).length ≤ zs.length:=by
 unfold Lib.compact Lib.compactUpTo;rw [List.length_map];exact Nat.le_trans (List.length_filter_le _ _) (by simp)
theorem compactT_any (A : Option Addr) (c base : Nat) (zs : List (List UInt8)) (w : World) (ho : w.ownsRow base 9 1 (.slice A zs.length c) zs.length (strs zs)) (hl : zs.length ≤ 1000000000) :
  Calls Tryz.prog 170 #[.slice A zs.length c] w fun e w' => e = .returned (.slice A (Lib.compact zs).length c) ∧ w'.ownsRow base 9 1 (.slice A (Lib.compact zs).length c) (Lib.compact zs).length (strs (Lib.compact zs)) ∧ w.grownBy w' (Value.slice A zs.length c).ownBlock:=by
 rcases ho.2 with ⟨hv,h0⟩ | ⟨g,cap,cur,hv,hg,hh,hcap,hm,hcs,ht⟩
 ·have hz : zs = []:=List.eq_nil_of_length_eq_zero h0
  subst hz;injection hv with e1 _ e2;subst e1 e2;have hc : Lib.compact ([] : List (List UInt8)) = []:=List.eq_nil_of_length_eq_zero (Nat.le_zero.1 (compact_le []));rw [hc];refine (Tryz.slices_Compact_string_empty none 0 w).mono ?_;rintro e w' ⟨rfl,rfl⟩;exact ⟨rfl,ho,World.grownBy.refl _ _⟩
 ·injection hv with e1 _ e2
  subst e1 e2;rw [Nat.mul_one] at ht;refine (Tryz.slices_Compact_string g 0 c zs w (holds_of_block hh ht) (by omega) hcap).mono ?_;rintro e w' ⟨rfl,q,rfl⟩;have hle:=compact_le zs;rw [← grow_nil (putRow _ _ _ _ _)];refine ⟨rfl,⟨by simp [strs],.inr ⟨g,c,_,rfl,hg,heap_sorted _ hh,by omega,hm,by simp [putCells,hcs],?_⟩⟩,grownBy_sorted _⟩;rw [Nat.mul_one];exact take_pad _ _ _ (by omega)
end Go.Proofs.YtkchacgkjdeiaaaGreatDoor
