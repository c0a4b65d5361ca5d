/- Texts of this seat, laid together: Rr. -/
import Derived.Test.YtagghmfhfboejaaGreatDoorBu57
import Derived.Test.YtagghmfhfboejaaGreatDoorBu09
import Derived.Test.YtagghmfhfboejaaGreatDoorBu27
import Derived.Test.YtagghmfhfboejaaGreatDoorBu51
/- What splitref1.SplitsFor holds in memory: its boxes and the rows that it collects. -/
namespace Go.Proofs.YtagghmfhfboejaaGreatDoor
set_option linter.unusedVariables false
set_option linter.unusedSimpArgs false
open Go.RowKit

theorem ty_intss : SliceTy Tryz.prog 94 22 1 24 := .mk' Tryz.underlying94 (z := .slice none 0 0) (by kernel_rfl) rfl (by decide)
/-- Rows of different types lie in different blocks. -/
theorem own_other {w : World} {base base' size size' n n' : Nat} {e e' : TypeId} {v v' : Value} {xs xs' : List Value} (h : w.ownsRow base e size v n xs) (h' : w.ownsRow base' e' size' v' n' xs') (hne : e ≠ e') : v.ownBlock = none ∨ v'.ownBlock ≠ v.ownBlock := by
  rcases h.2 with ⟨rfl, _⟩ | ⟨g, cap, cur, rfl, _, hh, _⟩
  · exact .inl rfl
  · right
    rcases h'.2 with ⟨rfl, _⟩ | ⟨g', cap', cur', rfl, _, hh', _⟩
    · simp [Value.ownBlock]
    · intro he
      have : g' = g := by simpa [Value.ownBlock] using he
      subst this
      rw [hh] at hh'
      injection hh' with hh'
      injection hh' with _ h1
      exact hne h1
theorem Blk.far {w1 w2 : World} {g base n size : Nat} {t e : TypeId} {cs : Array Value} {v : Value} {xs : List Value} (hown : w1.ownsRow base e size v n xs) (h : Blk w1 g t cs) (hg : w1.grownBy w2 v.ownBlock) (hb : g < base) : Blk w2 g t cs :=
  (hg.block g h.lt (fun e => by have := (hown.lt g e.symm).1; omega)).trans h
theorem own_low {w : World} {base size n g : Nat} {e : TypeId} {v : Value} {xs : List Value} (h : w.ownsRow base e size v n xs) (hb : g < base) (i : Nat) (u : Value) : (w.setCell ⟨g, i, none⟩ u).ownsRow base e size v n xs :=
  own_aside h (fun e => by have := (h.lt _ e).1; omega) i u
/-- The boxes of SplitsFor, and the rows so far. -/
structure SFw (w wr : World) (SA TA : Option Addr) (n c m d : Nat) (A : Option Addr) (cc : Nat) (rows : List (List Int)) (cells : List Value) : Prop where
  b2 : Blk wr w.heap.size 29 #[.slice SA n c, .slice TA m d]
  b4 : Blk wr (w.heap.size + 1) 22 #[.slice none 0 0]
  b5 : Blk wr (w.heap.size + 1 + 1) 4 #[.bool false]
  b6 : Blk wr (w.heap.size + 1 + 1 + 1) 94 #[.slice A rows.length cc]
  b7 : Blk wr (w.heap.size + 1 + 1 + 1 + 1) 4 #[.bool (fullB rows)]
  own : wr.ownsRow (w.heap.size + 5) 22 1 (.slice A rows.length cc) rows.length cells
  row : ∀ i (h : i < rows.length), ∃ B k, cells[i]? = some (.slice B rows[i].length k) ∧ wr.ownsRow (w.heap.size + 5) 3 1 (.slice B rows[i].length k) rows[i].length (ints rows[i])
  bel : Below w.heap.size w wr
section
variable {w wr w' : World} {SA TA : Option Addr} {n c m d : Nat} {A : Option Addr} {cc : Nat} {rows : List (List Int)} {cells : List Value}
theorem SFw.below (h : SFw w wr SA TA n c m d A cc rows cells) (hb : Below wr.heap.size wr w') : SFw w w' SA TA n c m d A cc rows cells :=
  ⟨h.b2.below hb, h.b4.below hb, h.b5.below hb, h.b6.below hb, h.b7.below hb, own_keep h.own hb, fun i hi => let ⟨B, k, a, b⟩ := h.row i hi; ⟨B, k, a, own_keep b hb⟩, below_up h.bel hb⟩
theorem SFw.alloc (h : SFw w wr SA TA n c m d A cc rows cells) (o : Obj) : SFw w (wr.alloc o) SA TA n c m d A cc rows cells := h.below ((Below.refl _ _).alloc (Nat.le_refl _) o)
theorem SFw.drew (h : SFw w wr SA TA n c m d A cc rows cells) : SFw w wr.drew SA TA n c m d A cc rows cells := h.below (Below.refl _ _).drew
theorem SFw.size (h : SFw w wr SA TA n c m d A cc rows cells) : w.heap.size + 5 ≤ wr.heap.size := h.b7.lt
/-- A row has been appended and its slice put into the box of the rows. -/
theorem SFw.push (h : SFw w wr SA TA n c m d A cc rows cells) {w5 : World} {A5 : Option Addr} {c5 : Nat} {B : Option Addr} {k : Nat} {row : List Int} (hg : wr.grownBy w5 (Value.slice A rows.length cc).ownBlock)
    (ho : w5.ownsRow (w.heap.size + 5) 22 1 (.slice A5 (rows.length + 1) c5) (rows.length + 1) (cells ++ [.slice B row.length k]))
    (hr : wr.ownsRow (w.heap.size + 5) 3 1 (.slice B row.length k) row.length (ints row)) :
    SFw w ((w5.setCell ⟨w.heap.size + 1 + 1 + 1, 0, none⟩ (.slice A5 (rows.length + 1) c5)).setCell ⟨w.heap.size + 1 + 1 + 1 + 1, 0, none⟩ (.bool (fullB rows && decide (0 < row.length)))) SA TA n c m d A5 c5 (rows ++ [row]) (cells ++ [.slice B row.length k]) := by
  have hlen : cells.length = rows.length := by have := h.own.1; omega
  have hz := h.size
  have c6 : Blk w5 (w.heap.size + 1 + 1 + 1) 94 #[.slice A rows.length cc] := Blk.far h.own h.b6 hg (by omega)
  have c7 : Blk w5 (w.heap.size + 1 + 1 + 1 + 1) 4 #[.bool (fullB rows)] := Blk.far h.own h.b7 hg (by omega)
  have e9 : (rows ++ [row]).length = rows.length + 1 := by simp
  refine ⟨((Blk.far h.own h.b2 hg (by omega)).past _ _ _ (by omega)).past _ _ _ (by omega), ((Blk.far h.own h.b4 hg (by omega)).past _ _ _ (by omega)).past _ _ _ (by omega), ((Blk.far h.own h.b5 hg (by omega)).past _ _ _ (by omega)).past _ _ _ (by omega), ?_, ?_, ?_, fun i hi => ?_, ?_⟩
  · have := (c6.poke 0 (.slice A5 (rows.length + 1) c5)).past (w.heap.size + 1 + 1 + 1 + 1) 0 (.bool (fullB rows && decide (0 < row.length))) (by omega)
    rw [e9]
    simpa using this
  · have := (c7.past (w.heap.size + 1 + 1 + 1) 0 (.slice A5 (rows.length + 1) c5) (by omega)).poke 0 (.bool (fullB rows && decide (0 < row.length)))
    rw [fullB_snoc]
    simpa using this
  · rw [e9]
    exact own_low (own_low ho (by omega) _ _) (by omega) _ _
  · by_cases hlt : i < rows.length
    · obtain ⟨B1, k1, a1, o1⟩ := h.row i hlt
      have e1 : (rows ++ [row])[i] = rows[i] := by rw [List.getElem_append_left hlt]
      refine ⟨B1, k1, ?_, ?_⟩
      · rw [List.getElem?_append_left (by omega), e1]; exact a1
      · rw [e1]; exact own_low (own_low (o1.kept hg ((own_other o1 h.own (by decide)).imp id Ne.symm)) (by omega) _ _) (by omega) _ _
    · have hi' : i = rows.length := by rw [e9] at hi; omega
      subst hi'
      have e1 : (rows ++ [row])[rows.length] = row := by rw [List.getElem_append_right (Nat.le_refl _)]; simp
      refine ⟨B, k, ?_, ?_⟩
      · rw [e1, List.getElem?_append_right (by omega), hlen]; simp
      · rw [e1]; exact own_low (own_low (hr.kept hg ((own_other hr h.own (by decide)).imp id Ne.symm)) (by omega) _ _) (by omega) _ _
  · exact Below.setCell (Below.setCell (below_app h.own h.bel hg (by omega) (by omega)) (by simp; omega) _) (by simp; omega) _
/-- The rows, once they are all there. -/
theorem SFw.rows_ (h : SFw w wr SA TA n c m d A cc rows cells) (h0 : 0 < rows.length) : ∃ g, A = some ⟨g, 0, none⟩ ∧ RowsR wr g rows := by
  obtain ⟨g, cs, rfl, hg, hblk, hcs, _⟩ := own_blkS h.own h0
  refine ⟨g, rfl, Blk.lt hblk, fun i hi => ?_⟩
  obtain ⟨B, k, a, o⟩ := h.row i hi
  refine ⟨B, k, ?_, (Row.of_own o).weak (Nat.zero_le _)⟩
  rw [Blk.cell hblk, hcs i hi]
  exact a
end
end Go.Proofs.YtagghmfhfboejaaGreatDoor
