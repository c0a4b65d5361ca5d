/- A row of rows of bytes, all of the call's own; and what 'make' of a variable size leaves. -/
import Derived.Test.YtnlblgkoecnfmaaDoorBlk
namespace Go.Proofs.YtnlblgkoecnfmaaDoor
set_option linter.unusedVariables false
set_option linter.unusedSimpArgs false
open Go.RowKit

/-- Rows of bytes behind the slices in a block, each in a block of its own. -/
structure NestU (tI tS : TypeId) (w : World) (base g : Nat) (rows : List (List Int)) : Prop where
  ne : tI ≠ tS
  has : ∃ cs : Array Value, Blk w g tS cs ∧ (∀ i (h : i < rows.length), ∃ A c, cs[i]? = some (.slice A rows[i].length c) ∧ w.ownsRow base tI 1 (.slice A rows[i].length c) rows[i].length (u8s rows[i])) ∧
    (∀ (i j : Nat) (u v : Value) (b : Nat), i < rows.length → j < rows.length → i ≠ j → cs[i]? = some u → cs[j]? = some v → u.ownBlock = some b → v.ownBlock ≠ some b)
section
variable {tI tS : TypeId} {w w' : World} {base g : Nat} {rows : List (List Int)}
theorem NestU.lt (h : NestU tI tS w base g rows) : g < w.heap.size := by obtain ⟨cs, h1, _⟩ := h.has; exact h1.lt
theorem NestU.frz (h : NestU tI tS w base g rows) (i : Nat) : w.frozen? ⟨g, i, none⟩ = false := by obtain ⟨cs, h1, _⟩ := h.has; exact h1.thaw i
theorem NestU.below (h : NestU tI tS w base g rows) (hb : Below w.heap.size w w') : NestU tI tS w' base g rows := by
  obtain ⟨ne, cs, h1, h2, h3⟩ := h
  exact ⟨ne, cs, h1.below hb, fun i hi => let ⟨A, c, a, b⟩ := h2 i hi; ⟨A, c, a, own_keep b hb⟩, h3⟩
theorem NestU.alloc (h : NestU tI tS w base g rows) (o : Obj) : NestU tI tS (w.alloc o) base g rows := h.below ((Below.refl _ _).alloc (Nat.le_refl _) o)
theorem NestU.drewN (h : NestU tI tS w base g rows) (q : Nat) : NestU tI tS (w.drewN q) base g rows := by
  obtain ⟨ne, cs, h1, h2, h3⟩ := h
  exact ⟨ne, cs, h1, fun i hi => let ⟨A, c, a, b⟩ := h2 i hi; ⟨A, c, a, b⟩, h3⟩
theorem NestU.row (h : NestU tI tS w base g rows) {i : Nat} (hi : i < rows.length) : ∃ A c, w.cell? ⟨g, i, none⟩ = some (.slice A rows[i].length c) ∧ w.ownsRow base tI 1 (.slice A rows[i].length c) rows[i].length (u8s rows[i]) := by
  obtain ⟨ne, cs, h1, h2, h3⟩ := h
  obtain ⟨A, c, a, b⟩ := h2 i hi
  exact ⟨A, c, by rw [h1.cell]; exact a, b⟩
/-- One row is written anew in its place. -/
theorem NestU.turn (h : NestU tI tS w base g rows) {i : Nat} (hi : i < rows.length) {A : Option Addr} {c : Nat} (hc : w.cell? ⟨g, i, none⟩ = some (.slice A rows[i].length c)) {xs : List Int} (hx : xs.length = rows[i].length)
    (hg : w.grownBy w' (Value.slice A rows[i].length c).ownBlock) (ho : w'.ownsRow base tI 1 (.slice A rows[i].length c) rows[i].length (u8s xs)) : NestU tI tS w' base g (rows.set i xs) := by
  obtain ⟨ne, cs, h1, h2, h3⟩ := h
  rw [h1.cell] at hc
  obtain ⟨A1, c1, a1, b1⟩ := h2 i hi
  rw [a1] at hc
  injection hc with hc
  injection hc with e1 _ e2
  subst e1 e2
  refine ⟨ne, cs, Blk.app b1 h1 hg ne, fun j hj => ?_, fun i' j' u v b hi' hj' => h3 i' j' u v b (by simpa using hi') (by simpa using hj')⟩
  have hj' : j < rows.length := by simpa using hj
  by_cases e : i = j
  · subst e
    have : (rows.set i xs)[i] = xs := by simp
    rw [this, hx]
    exact ⟨A1, c1, a1, ho⟩
  · have : (rows.set i xs)[j] = rows[j] := by simp [List.getElem_set, e]
    rw [this]
    obtain ⟨A2, c2, a2, b2⟩ := h2 j hj'
    refine ⟨A2, c2, a2, b2.kept hg ?_⟩
    cases hv : (Value.slice A2 rows[j].length c2).ownBlock with
    | none => exact .inl rfl
    | some b =>
      right
      intro he
      exact h3 i j _ _ b hi hj' e a1 a2 he.symm hv
/-- One row is appended to and its slice is put back. -/
theorem NestU.push (h : NestU tI tS w base g rows) {i : Nat} (hi : i < rows.length) {A A' : Option Addr} {c c' : Nat} (hc : w.cell? ⟨g, i, none⟩ = some (.slice A rows[i].length c)) {xs : List Int}
    (hg : w.grownBy w' (Value.slice A rows[i].length c).ownBlock) (ho : w'.ownsRow base tI 1 (.slice A' xs.length c') xs.length (u8s xs))
    (hb : (Value.slice A' xs.length c').ownBlock = (Value.slice A rows[i].length c).ownBlock ∨ (Value.slice A' xs.length c').ownBlock = some w.heap.size) : NestU tI tS (w'.setCell ⟨g, i, none⟩ (.slice A' xs.length c')) base g (rows.set i xs) := by
  obtain ⟨ne, cs, h1, h2, h3⟩ := h
  rw [h1.cell] at hc
  obtain ⟨A1, c1, a1, b1⟩ := h2 i hi
  rw [a1] at hc
  injection hc with hc
  injection hc with e1 _ e2
  subst e1 e2
  have k1 := Blk.app b1 h1 hg ne
  have hs : i < cs.size := (Array.getElem?_eq_some_iff.1 a1).1
  have hget : ∀ j, (cs.setIfInBounds i (.slice A' xs.length c'))[j]? = if i = j then some (.slice A' xs.length c') else cs[j]? := by
    intro j
    rw [Array.getElem?_setIfInBounds]
    by_cases e : i = j
    · subst e; simp [hs]
    · simp [e]
  -- the other rows stand behind other blocks
  have hfar : ∀ j (hj : j < rows.length), i ≠ j → ∀ v b, cs[j]? = some v → v.ownBlock = some b → (Value.slice A' xs.length c').ownBlock ≠ some b := by
    intro j hj e v b hv hvb hx
    rcases hb with hb | hb
    · rw [hb] at hx
      exact h3 i j _ _ b hi hj e a1 hv hx hvb
    · rw [hb] at hx
      injection hx with hx
      obtain ⟨A2, c2, a2, b2⟩ := h2 j hj
      rw [hv] at a2
      injection a2 with a2
      subst a2
      have := (b2.lt b hvb).2
      omega
  refine ⟨ne, _, Blk.poke k1 i _, fun j hj => ?_, fun i' j' u v b hi' hj' hne hu hv hub => ?_⟩
  · have hj' : j < rows.length := by simpa using hj
    rw [hget]
    by_cases e : i = j
    · subst e
      have : (rows.set i xs)[i] = xs := by simp
      rw [this, if_pos rfl]
      exact ⟨A', c', rfl, own_past ho k1 ne i _⟩
    · have : (rows.set i xs)[j] = rows[j] := by simp [List.getElem_set, e]
      rw [this, if_neg e]
      obtain ⟨A2, c2, a2, b2⟩ := h2 j hj'
      refine ⟨A2, c2, a2, own_past (b2.kept hg ?_) k1 ne i _⟩
      cases hv : (Value.slice A2 rows[j].length c2).ownBlock with
      | none => exact .inl rfl
      | some b =>
        right
        intro he
        exact h3 i j _ _ b hi hj' e a1 a2 he.symm hv
  · have hi2 : i' < rows.length := by simpa using hi'
    have hj2 : j' < rows.length := by simpa using hj'
    rw [hget] at hu hv
    by_cases e1 : i = i'
    · subst e1
      rw [if_pos rfl] at hu
      injection hu with hu
      subst hu
      rw [if_neg hne] at hv
      intro hvb
      exact hfar j' hj2 hne v b hv hvb hub
    · rw [if_neg e1] at hu
      by_cases e2 : i = j'
      · subst e2
        rw [if_pos rfl] at hv
        injection hv with hv
        subst hv
        exact hfar i' hi2 e1 u b hu hub
      · rw [if_neg e2] at hv
        exact h3 i' j' u v b hi2 hj2 hne hu hv hub
/-- As many empty rows as were made. -/
theorem NestU.made {n : Nat} (hne : tI ≠ tS) {cs : Array Value} (h : Blk w g tS cs) (hc : ∀ i, i < n → cs[i]? = some (.slice none 0 0)) : NestU tI tS w base g (List.replicate n []) := by
  refine ⟨hne, cs, h, fun i hi => ?_, fun i j u v b hi hj _ hu hv hub => ?_⟩
  · have hi' : i < n := by simpa using hi
    have : (List.replicate n ([] : List Int))[i] = [] := by simp
    rw [this]
    exact ⟨none, 0, hc i hi', World.ownsRow_nil _ _ _ _⟩
  · rw [hc i (by simpa using hi)] at hu
    injection hu with hu
    subst hu
    cases hub
/-- Behind the append, before the slice is put back. -/
theorem NestU.grown_ (h : NestU tI tS w base g rows) {i : Nat} (hi : i < rows.length) {A : Option Addr} {c : Nat} (hc : w.cell? ⟨g, i, none⟩ = some (.slice A rows[i].length c)) (hg : w.grownBy w' (Value.slice A rows[i].length c).ownBlock) : (∃ cs, Blk w' g tS cs) ∧ ∀ j, w'.cell? ⟨g, j, none⟩ = w.cell? ⟨g, j, none⟩ := by
  obtain ⟨ne, cs, h1, h2, h3⟩ := h
  rw [h1.cell] at hc
  obtain ⟨A1, c1, a1, b1⟩ := h2 i hi
  rw [a1] at hc
  injection hc with hc
  injection hc with e1 _ e2
  subst e1 e2
  have k1 := Blk.app b1 h1 hg ne
  exact ⟨⟨cs, k1⟩, fun j => by rw [k1.cell, h1.cell]⟩
theorem NestU.blk_ (h : NestU tI tS w base g rows) : ∃ cs, Blk w g tS cs := by obtain ⟨cs, h1, _⟩ := h.has; exact ⟨cs, h1⟩
theorem NestU.app {e : TypeId} {size n : Nat} {v : Value} {xs : List Value} {b2 : Nat} (h : NestU tI tS w base g rows) (hown : w.ownsRow b2 e size v n xs) (hg : w.grownBy w' v.ownBlock) (he : e ≠ tS) (hlt : ∀ k, v.ownBlock = some k → k < base) : NestU tI tS w' base g rows := by
  obtain ⟨ne, cs, h1, h2, h3⟩ := h
  refine ⟨ne, cs, Blk.app hown h1 hg he, fun i hi => ?_, h3⟩
  obtain ⟨A, c, a, b⟩ := h2 i hi
  refine ⟨A, c, a, b.kept hg ?_⟩
  cases hv : (Value.slice A rows[i].length c).ownBlock with
  | none => exact .inl rfl
  | some k =>
    right
    intro he
    have := hlt k he.symm
    have := (b.lt k hv).1
    omega
end
end Go.Proofs.YtnlblgkoecnfmaaDoor
