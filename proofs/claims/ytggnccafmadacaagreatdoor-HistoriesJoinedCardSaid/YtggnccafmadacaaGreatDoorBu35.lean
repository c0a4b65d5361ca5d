/- Texts of this seat, laid together: Del. -/
import Derived.Test.YtggnccafmadacaaGreatDoorBu13
import Derived.Test.YtggnccafmadacaaGreatDoorBu02
import Derived.Test.YtggnccafmadacaaGreatDoorBu05
/- slices.Delete of one element of a row of the call's own. -/
namespace Go.Proofs.YtggnccafmadacaaGreatDoor
set_option linter.unusedVariables false
set_option linter.unusedSimpArgs false
open Go.RowKit Go.Sort Go.Shelf Go.Lib

theorem holdsE {α : Type} [Inhabited α] (enc : α → Value) {w : World} {g : Nat} {cur : Array Value} {e : TypeId} {zs : List α} (hb : w.heap[g]? = some (.cells cur e (0, 0))) (ht : cur.toList.take zs.length = zs.map enc) : Holds enc w g 0 zs.toArray := by
  intro j hj
  have hj' : j < zs.length := by simpa using hj
  refine ⟨?_, by simp [World.frozen?, hb]⟩
  have h1 : (cur.toList.take zs.length)[j]? = (zs.map enc)[j]? := by rw [ht]
  rw [List.getElem?_take_of_lt hj'] at h1
  simp only [World.cell?, hb, Nat.zero_add]
  simp only [Option.isSome_none, Bool.false_eq_true, if_false]
  rw [← Array.getElem?_toList, h1]
  simp [hj']
/-- What slices.Delete leaves of a row of the call's own. -/
theorem own_deleted {α : Type} [Inhabited α] (enc : α → Value) (z : α) {w : World} {base q k : Nat} {e : TypeId} {g c : Nat} {zs : List α} (h : w.ownsRow base e 1 (.slice (some ⟨g, 0, none⟩) zs.length c) zs.length (zs.map enc)) (hk : k < zs.length) :
    (putRow enc (Sort.ahead w q) g 0 (zs.take k ++ zs.drop (k + 1) ++ List.replicate (k + 1 - k) z).toArray).ownsRow base e 1 (.slice (some ⟨g, 0, none⟩) (zs.length - (k + 1 - k)) c) (zs.length - 1) ((zs.eraseIdx k).map enc) ∧
    w.grownBy (putRow enc (Sort.ahead w q) g 0 (zs.take k ++ zs.drop (k + 1) ++ List.replicate (k + 1 - k) z).toArray) (some g) := by
  rcases h.2 with ⟨h0, _⟩ | ⟨g', cap, cur, hv, hg, hh, hcap, hm, hcs, ht⟩
  · cases h0
  · injection hv with h1 h2 h3
    injection h1 with h1
    injection h1 with h1
    subst h1 h3
    have el : (zs.take k ++ zs.drop (k + 1) ++ List.replicate (k + 1 - k) z).length = zs.length := by simp; omega
    have ee : zs.eraseIdx k = zs.take k ++ zs.drop (k + 1) := List.eraseIdx_eq_take_drop_succ zs k
    have en : (zs.eraseIdx k).length = zs.length - 1 := by rw [List.length_eraseIdx, if_pos hk]
    generalize hD : zs.take k ++ zs.drop (k + 1) ++ List.replicate (k + 1 - k) z = D at *
    have eD : D.take (zs.length - 1) = zs.eraseIdx k := by rw [← hD, ← ee, ← en, List.take_left']; rfl
    refine ⟨⟨by simp [en], .inr ⟨g, c, putCells enc 0 D.toArray cur, by rw [show k + 1 - k = 1 by omega], hg, ?_, by omega, hm, by simpa [putCells] using hcs, ?_⟩⟩, rfl, rfl, rfl, by simp, fun i hi hne => ?_⟩
    · simp [putRow, mapBlock, Sort.ahead, Array.getElem?_modify, hh, onCells]
    · rw [← eD]
      apply List.ext_getElem?
      intro j
      by_cases hj : j < zs.length - 1
      · rw [List.getElem?_take_of_lt (by omega), Array.getElem?_toList, List.getElem?_map, List.getElem?_take_of_lt hj]
        have hjD : j < D.length := by omega
        simp [putCells, hjD, show j < cur.size by omega]
      · rw [List.getElem?_take_eq_none (by omega), List.getElem?_eq_none (by simp; omega)]
    · have : g ≠ i := fun e => hne (by rw [e])
      simp [putRow, mapBlock, Sort.ahead, Array.getElem?_modify, this]
theorem deleteI_any (A : Option Addr) (c base k : Nat) (zs : List Int) (w : World) (ho : w.ownsRow base 3 1 (.slice A zs.length c) zs.length (ints zs)) (hk : k < zs.length) :
    Calls Tryz.prog 96 #[.slice A zs.length c, .int .i64 k, .int .i64 ((k : Int) + 1)] w fun e w' => e = .returned (.slice A (zs.length - 1) c) ∧ w'.ownsRow base 3 1 (.slice A (zs.length - 1) c) (zs.length - 1) (ints (zs.eraseIdx k)) ∧ w.grownBy w' (Value.slice A zs.length c).ownBlock := by
  obtain ⟨g, rfl, _, _, _, _⟩ := ownBlk ho (by omega)
  rcases ho.2 with ⟨h0, _⟩ | ⟨g', cap, cur, hv, hg, hh, hcap, hm, hcs, ht⟩
  · cases h0
  · injection hv with h1 h2 h3
    injection h1 with h1
    injection h1 with h1
    subst h1 h3
    rw [Nat.mul_one] at ht
    have hH : Holds (Value.int .i64) w g 0 zs.toArray := holdsE (Value.int .i64) hh ht
    refine (Tryz.slices_Delete_int g 0 c k (k + 1) zs w hH hcap (by simp only [maxLen] at hm; omega) (by omega) (by omega)).mono ?_
    rintro e w' ⟨rfl, q, rfl⟩
    obtain ⟨r1, r2⟩ := own_deleted (Value.int .i64) 0 (q := q) ho hk
    rw [show k + 1 - k = 1 by omega] at r1 r2 ⊢
    exact ⟨rfl, r1, r2⟩
theorem deleteS_any (A : Option Addr) (c base k : Nat) (zs : List (List UInt8)) (w : World) (ho : w.ownsRow base 9 1 (.slice A zs.length c) zs.length (strs zs)) (hk : k < zs.length) :
    Calls Tryz.prog 95 #[.slice A zs.length c, .int .i64 k, .int .i64 ((k : Int) + 1)] w fun e w' => e = .returned (.slice A (zs.length - 1) c) ∧ w'.ownsRow base 9 1 (.slice A (zs.length - 1) c) (zs.length - 1) (strs (zs.eraseIdx k)) ∧ w.grownBy w' (Value.slice A zs.length c).ownBlock := by
  obtain ⟨g, rfl, _, _, _, _⟩ := ownBlk ho (by omega)
  rcases ho.2 with ⟨h0, _⟩ | ⟨g', cap, cur, hv, hg, hh, hcap, hm, hcs, ht⟩
  · cases h0
  · injection hv with h1 h2 h3
    injection h1 with h1
    injection h1 with h1
    subst h1 h3
    rw [Nat.mul_one] at ht
    have hH : Holds encStr w g 0 zs.toArray := holdsE encStr hh ht
    refine (Tryz.slices_Delete_string g 0 c k (k + 1) zs w hH hcap (by simp only [maxLen] at hm; omega) (by omega) (by omega)).mono ?_
    rintro e w' ⟨rfl, q, rfl⟩
    obtain ⟨r1, r2⟩ := own_deleted encStr [] (q := q) ho hk
    rw [show k + 1 - k = 1 by omega] at r1 r2 ⊢
    exact ⟨rfl, r1, r2⟩
end Go.Proofs.YtggnccafmadacaaGreatDoor
