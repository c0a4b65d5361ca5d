/- Rows of bytes, none empty, that a call made: what is read of them and written to them. -/
import Derived.Test.YtnlblgkoecnfmaaDoorGmN
import Derived.Test.YtnlblgkoecnfmaaDoorBr
namespace Go.Proofs.YtnlblgkoecnfmaaDoor
set_option linter.unusedVariables false
set_option linter.unusedSimpArgs false
open Go.RowKit

def byR (r : List UInt8) : List Int := r.map fun c => (c.toNat : Int)
theorem byR_len (r : List UInt8) : (byR r).length = r.length := by simp [byR]
/-- Rows behind the slices in block G, each in a block of its own. -/
structure PU (w : World) (base G : Nat) (cs : Array Value) (rows : List (List UInt8)) : Prop where
  box : Blk w G 51 cs
  hG : base ≤ G
  at_ : ∀ i (h : i < rows.length), ∃ gb c, cs[i]? = some (.slice (some ⟨gb, 0, none⟩) rows[i].length c) ∧ base ≤ gb ∧ gb < w.heap.size ∧ gb ≠ G ∧ ∀ j (hj : j < rows[i].length), w.cell? ⟨gb, j, none⟩ = some (.int .u8 ((rows[i][j].toNat : Nat) : Int)) ∧ w.frozen? ⟨gb, j, none⟩ = false
  ne : ∀ (i j gi gj li lj ci cj : Nat), i < rows.length → j < rows.length → i ≠ j → cs[i]? = some (.slice (some ⟨gi, 0, none⟩) li ci) → cs[j]? = some (.slice (some ⟨gj, 0, none⟩) lj cj) → gi ≠ gj
section
variable {w w' : World} {base G : Nat} {cs : Array Value} {rows : List (List UInt8)}
theorem PU.keep (h : PU w base G cs rows) (hs : w.heap.size ≤ w'.heap.size) (hb : ∀ k, base ≤ k → k < w.heap.size → w'.heap[k]? = w.heap[k]?) : PU w' base G cs rows := by
  refine ⟨(hb G h.hG h.box.lt).trans h.box, h.hG, fun i hi => ?_, h.ne⟩
  obtain ⟨gb, c, h1, h2, h3, h4, h5⟩ := h.at_ i hi
  refine ⟨gb, c, h1, h2, by omega, h4, fun j hj => ?_⟩
  have e := hb gb h2 h3
  exact ⟨(World.cell?_of_block (a := ⟨gb, j, none⟩) e).trans (h5 j hj).1, (World.frozen?_of_block (a := ⟨gb, j, none⟩) e).trans (h5 j hj).2⟩
theorem PU.below (h : PU w base G cs rows) (hb : Below w.heap.size w w') : PU w' base G cs rows := h.keep hb.size (fun k _ hk => hb.block k hk)
theorem PU.alloc (h : PU w base G cs rows) (o : Obj) : PU (w.alloc o) base G cs rows := h.below ((Below.refl _ _).alloc (Nat.le_refl _) o)
theorem PU.stream {g : Nat} (h : PU w base G cs rows) (hg : w.grownBy w' (some g)) (hlt : g < base) : PU w' base G cs rows :=
  h.keep hg.size (fun k h1 h2 => hg.block k h2 (fun e => by injection e with e; omega))
theorem PU.row (h : PU w base G cs rows) {i : Nat} (hi : i < rows.length) : ∃ gb c, w.cell? ⟨G, i, none⟩ = some (.slice (some ⟨gb, 0, none⟩) rows[i].length c) ∧ base ≤ gb ∧ gb < w.heap.size ∧ gb ≠ G ∧ ∀ j (hj : j < rows[i].length), w.cell? ⟨gb, j, none⟩ = some (.int .u8 ((rows[i][j].toNat : Nat) : Int)) ∧ w.frozen? ⟨gb, j, none⟩ = false := by
  obtain ⟨gb, c, h1, h2⟩ := h.at_ i hi
  exact ⟨gb, c, by rw [h.box.cell]; exact h1, h2⟩
/-- A byte of a row is written. -/
theorem PU.poke (h : PU w base G cs rows) {i j gb c : Nat} (hi : i < rows.length) (hj : j < rows[i].length) (hc : w.cell? ⟨G, i, none⟩ = some (.slice (some ⟨gb, 0, none⟩) rows[i].length c)) (u : UInt8) :
    PU (w.setCell ⟨gb, j, none⟩ (.int .u8 ((u.toNat : Nat) : Int))) base G cs (rows.set i (rows[i].set j u)) := by
  rw [h.box.cell] at hc
  obtain ⟨gb', c', h1, h2, h3, h4, h5⟩ := h.at_ i hi
  rw [hc] at h1
  injection h1 with h1
  injection h1 with e1 _ e3
  injection e1 with e1
  injection e1 with e1
  subst e1 e3
  refine ⟨h.box.past gb j _ (fun e => h4 e.symm), h.hG, fun i' hi' => ?_, fun a b ga gb' la lb ca cb ha hb hne h6 h7 => h.ne a b ga gb' la lb ca cb (by simpa using ha) (by simpa using hb) hne h6 h7⟩
  have hi2 : i' < rows.length := by simpa using hi'
  by_cases e : i = i'
  · subst e
    have er : (rows.set i (rows[i].set j u))[i] = rows[i].set j u := by simp
    refine ⟨gb, c, by rw [er, List.length_set]; exact hc, h2, by simpa using h3, h4, fun k hk => ?_⟩
    have hk2 : k < rows[i].length := by rw [er, List.length_set] at hk; exact hk
    obtain ⟨k1, k2⟩ := h5 k hk2
    by_cases ek : j = k
    · subst ek
      have ev : (rows.set i (rows[i].set j u))[i][j] = u := by simp
      rw [ev]
      exact ⟨by first | exact World.cell?_setCell_same _ _ k1 | exact World.cell?_setCell_same _ _ _ k1, by rw [World.frozen?_setCell]; exact k2⟩
    · have ev : (rows.set i (rows[i].set j u))[i][k] = rows[i][k] := by simp [List.getElem_set, ek]
      rw [ev]
      exact ⟨(by first | exact World.cell?_setCell_other _ _ (fun e' => ek (by injection e')) | exact World.cell?_setCell_other _ _ _ _ (fun e' => ek (by injection e')) : (w.setCell ⟨gb, j, none⟩ (.int .u8 ((u.toNat : Nat) : Int))).cell? ⟨gb, k, none⟩ = w.cell? ⟨gb, k, none⟩).trans k1, by rw [World.frozen?_setCell]; exact k2⟩
  · have er : (rows.set i (rows[i].set j u))[i'] = rows[i'] := by simp [List.getElem_set, e]
    obtain ⟨gx, cx, x1, x2, x3, x4, x5⟩ := h.at_ i' hi2
    have hne := h.ne i i' gb gx _ _ _ _ hi hi2 e hc x1
    refine ⟨gx, cx, by rw [er]; exact x1, x2, by simpa using x3, x4, fun k hk => ?_⟩
    have hk2 : k < rows[i'].length := by rw [er] at hk; exact hk
    have ev : (rows.set i (rows[i].set j u))[i'][k] = rows[i'][k] := by simp [List.getElem_set, e]
    rw [ev]
    have eb := Below.heap_setCell w ⟨gb, j, none⟩ (.int .u8 ((u.toNat : Nat) : Int)) gx (fun ee => hne ee.symm)
    exact ⟨(World.cell?_of_block (a := ⟨gx, k, none⟩) eb).trans (x5 k hk2).1, (World.frozen?_of_block (a := ⟨gx, k, none⟩) eb).trans (x5 k hk2).2⟩
/-- Out of rows that were built by appends. -/
theorem PU.of_nest (hN : NestU 5 51 w base G (rows.map byR)) (hG : base ≤ G) (h0 : ∀ r ∈ rows, 0 < r.length) : ∃ cs, PU w base G cs rows := by
  obtain ⟨ne, cs, h1, h2, h3⟩ := hN
  have hat : ∀ i (h : i < rows.length), ∃ gb c, cs[i]? = some (.slice (some ⟨gb, 0, none⟩) rows[i].length c) ∧ base ≤ gb ∧ gb < w.heap.size ∧ gb ≠ G ∧ ∀ j (hj : j < rows[i].length), w.cell? ⟨gb, j, none⟩ = some (.int .u8 ((rows[i][j].toNat : Nat) : Int)) ∧ w.frozen? ⟨gb, j, none⟩ = false := by
    intro i hi
    obtain ⟨A, c, a1, a2⟩ := h2 i (by simpa using hi)
    have er : (rows.map byR)[i]'(by simpa using hi) = byR rows[i] := by simp
    rw [er, byR_len] at a1 a2
    have hp := h0 _ (List.getElem_mem hi)
    rcases a2.2 with ⟨_, hz⟩ | ⟨gb, cap, cur, hv, hb, hh, hcap, _, hsz, ht⟩
    · omega
    · injection hv with e1 _ e3
      subst e1 e3
      refine ⟨gb, c, a1, hb, (Array.getElem?_eq_some_iff.1 hh).1, fun e => ?_, fun j hj => ?_⟩
      · subst e
        rw [show w.heap[gb]? = some (.cells cs 51 (0, 0)) from h1] at hh
        injection hh with hh
        injection hh with _ e2
        exact ne e2.symm
      · have hu : (u8s (byR rows[i]))[j]? = some (.int .u8 ((rows[i][j].toNat : Nat) : Int)) := by simp [u8s, byR, hj]
        refine ⟨?_, by simp [World.frozen?, hh]⟩
        rw [cell_of_row w gb j cur _ (0, 0) hh]
        rw [← ht, Nat.mul_one, List.getElem?_take, if_pos hj] at hu
        simpa using hu
  refine ⟨cs, h1, hG, hat, fun i j gi gj li lj ci cj hi hj hij e1 e2 e => ?_⟩
  exact h3 i j _ _ gi (by simpa using hi) (by simpa using hj) hij e1 e2 rfl (by simp [Value.ownBlock, e])
theorem PU.bytes (h : PU w base G cs rows) {i gb c : Nat} (hi : i < rows.length) (hc : w.cell? ⟨G, i, none⟩ = some (.slice (some ⟨gb, 0, none⟩) rows[i].length c)) : ∀ j (hj : j < rows[i].length), w.cell? ⟨gb, j, none⟩ = some (.int .u8 ((rows[i][j].toNat : Nat) : Int)) ∧ w.frozen? ⟨gb, j, none⟩ = false := by
  obtain ⟨gb', c', h1, _, _, _, h5⟩ := h.row hi
  rw [hc] at h1
  injection h1 with h1
  injection h1 with e1
  injection e1 with e1
  injection e1 with e1
  subst e1
  exact h5
end
theorem NestU.stream {w w' : World} {tI tS : TypeId} {base g k : Nat} {rows : List (List Int)} (h : NestU tI tS w base g rows) (hg : w.grownBy w' (some k)) (hk : k < base) (hkg : k ≠ g) : NestU tI tS w' base g rows := by
  obtain ⟨ne, cs, h1, h2, h3⟩ := h
  refine ⟨ne, cs, (hg.block g h1.lt (fun e => by injection e with e; exact hkg e.symm)).trans h1, fun i hi => ?_, h3⟩
  obtain ⟨A, c, a, b⟩ := h2 i hi
  refine ⟨A, c, a, b.kept hg ?_⟩
  cases hv : (Value.slice A rows[i].length c).ownBlock with
  | none => exact .inl rfl
  | some x =>
    right
    intro he
    have := (b.lt x hv).1
    injection he with he
    omega
end Go.Proofs.YtnlblgkoecnfmaaDoor
