/- Marks of a video: plain laws of what is played up to a mark; no program of Go in sight. -/
import Derived.Test.YtgkjpcapoofphaaMkC
namespace Go.Proofs.Ytgkjpcapoofphaa

theorem mk_at (l : List Mk) (k : Nat) (h : k < l.length) : l.getD k (0, 0) = l[k] := by rw [List.getD_eq_getElem?_getD, List.getElem?_eq_getElem h]; rfl
/-- What counts up to mark number k. -/
def pS (v : List St) (l : List Mk) (loads : Bool) : Nat → Int
  | 0 => 0
  | k + 1 => pS v l loads k + (if loads = true ∨ (l.getD k (0, 0)).2 ≠ 3 then begM v (l.getD (k + 1) (0, 0)).1 - begM v (l.getD k (0, 0)).1 else 0)
theorem pS_on (v : List St) (l : List Mk) (loads : Bool) (k : Nat) (hk : k + 1 < l.length) (h : loads = true ∨ l[k].2 ≠ 3) : pS v l loads (k + 1) = pS v l loads k + (begM v l[k + 1].1 - begM v l[k].1) := by
  rw [pS, mk_at l k (by omega), mk_at l (k + 1) hk, if_pos h]
theorem pS_off (v : List St) (l : List Mk) (k : Nat) (hk : k + 1 < l.length) (h : l[k].2 = 3) : pS v l false (k + 1) = pS v l false k := by
  rw [pS, mk_at l k (by omega), if_neg (by simp [h])]; omega
theorem pS_bd {v : List St} (hg : Good v) (l : List Mk) (hR : Rises l) (loads : Bool) : ∀ k, (h : k < l.length) → 0 ≤ pS v l loads k ∧ pS v l loads k ≤ begM v l[k].1 := by
  intro k
  induction k with
  | zero => intro h; exact ⟨by simp [pS], by simp [pS]; exact (begM_bd' hg _).1⟩
  | succ k ih =>
    intro h
    have i := ih (by omega)
    have m := begM_mono hg _ _ (hR k h)
    by_cases hc : loads = true ∨ l[k].2 ≠ 3
    · rw [pS_on v l loads k h hc]; omega
    · rw [pS, mk_at l k (by omega), if_neg hc]; omega
/-- The times that the reference gathers. -/
def spl (v : List St) (l : List Mk) : Nat → List Int
  | 0 => []
  | k + 1 => if (l.getD k (0, 0)).2 = 5 ∨ (l.getD k (0, 0)).2 = 2 then spl v l k ++ [msM (multK v) (pS v l false k)] else spl v l k
theorem spl_out (v : List St) (l : List Mk) (k : Nat) (hk : k < l.length) (h : l[k].2 = 5 ∨ l[k].2 = 2) : spl v l (k + 1) = spl v l k ++ [msM (multK v) (pS v l false k)] := by rw [spl, mk_at l k hk, if_pos h]
theorem spl_not (v : List St) (l : List Mk) (k : Nat) (hk : k < l.length) (h : ¬ (l[k].2 = 5 ∨ l[k].2 = 2)) : spl v l (k + 1) = spl v l k := by rw [spl, mk_at l k hk, if_neg h]
theorem spl_len (v : List St) (l : List Mk) : ∀ k, k ≤ l.length → (spl v l k).length ≤ k := by
  intro k
  induction k with
  | zero => intro _; simp [spl]
  | succ k ih =>
    intro h
    have := ih (by omega)
    by_cases hc : l[k].2 = 5 ∨ l[k].2 = 2
    · rw [spl_out v l k (by omega) hc]; simp; omega
    · rw [spl_not v l k (by omega) hc]; omega

theorem misB_false {x a : Int} (h : misB x a = false) : (a = 0 → x = 1) ∧ (a ≠ 0 → x ≠ 1 ∧ a ≠ 2 ∧ (a = 3 → x = 4) ∧ (a ≠ 3 → x ≠ 4)) := by
  unfold misB at h
  by_cases h1 : a = 0 ∨ x = 1
  · rw [if_pos h1] at h
    simp at h
    omega
  · rw [if_neg h1] at h
    by_cases h2 : a = 2
    · rw [if_pos h2] at h; cases h
    · rw [if_neg h2] at h
      by_cases h3 : a = 3
      · rw [if_pos h3] at h; simp at h; omega
      · rw [if_neg h3] at h; simp at h; omega
/-- Marks in a right order of kinds. -/
def Turn (l : List Mk) : Prop := (∀ x ∈ l, 1 ≤ x.2 ∧ x.2 ≤ 5) ∧ ∀ k, (hk : k < l.length) → misB l[k].2 (lastM (l.take k)) = false
theorem turn_inv {l : List Mk} (v : List St) (h : Turn l) : ∀ k, (hk : k < l.length) → (lastM (l.take (k + 1)) = 3 ∧ l[k].2 = 3 ∧ (tS v (l.take (k + 1))).2.1 = pS v l false k) ∨ (lastM (l.take (k + 1)) ≠ 3 ∧ lastM (l.take (k + 1)) ≠ 0 ∧ l[k].2 ≠ 3 ∧ pS v l false k = (tS v (l.take (k + 1))).2.1 + begM v l[k].1 - (tS v (l.take (k + 1))).1) := by
  intro k
  induction k with
  | zero =>
    intro hk
    have m := (misB_false (h.2 0 hk)).1 rfl
    right
    rw [lastM_take l 0 hk, tS_take v l 0 hk, tstep_on _ _ _ (.inl m), m]
    refine ⟨by simp, by simp, by simp, ?_⟩
    simp [pS, tS]
  | succ k ih =>
    intro hk
    have m := misB_false (h.2 (k + 1) hk)
    have hkind := h.1 _ (List.getElem_mem hk)
    rw [lastM_take l (k + 1) hk, tS_take v l (k + 1) hk]
    rcases ih (by omega) with ⟨a, b, c⟩ | ⟨a, a', b, c⟩
    · have hx : l[k + 1].2 = 4 := ((m.2 (by omega)).2.2.1) a
      right
      rw [tstep_on _ _ _ (.inr hx), hx, pS_off v l k hk b, ← c]
      refine ⟨by simp, by simp, by simp, ?_⟩
      simp
    · have hm := m.2 a'
      have h4 := hm.2.2.2 a
      rw [pS_on v l false k hk (.inr b), c]
      by_cases h3 : l[k + 1].2 = 3
      · left
        rw [tstep_off _ _ _ h3, h3]
        refine ⟨by simp, rfl, ?_⟩
        simp; omega
      · right
        rw [tstep_out _ _ _ (by omega) h3]
        refine ⟨?_, ?_, h3, by simp; omega⟩
        · by_cases h5 : l[k + 1].2 = 5
          · rw [if_pos h5]; exact a
          · rw [if_neg h5]; exact h3
        · by_cases h5 : l[k + 1].2 = 5
          · rw [if_pos h5]; exact a'
          · rw [if_neg h5]; omega
theorem spl_law {l : List Mk} (v : List St) (h : Turn l) : ∀ k, k ≤ l.length → (tS v (l.take k)).2.2 = spl v l k := by
  intro k
  induction k with
  | zero => intro _; simp [tS, spl]
  | succ k ih =>
    intro hk
    have i := ih (by omega)
    have t := turn_inv v h k (by omega)
    have hkind := h.1 _ (List.getElem_mem (show k < l.length by omega))
    rw [tS_take v l k (by omega)] at t ⊢
    by_cases h1 : l[k].2 = 1 ∨ l[k].2 = 4
    · rw [tstep_on _ _ _ h1, spl_not v l k (by omega) (by omega)]; exact i
    · by_cases h3 : l[k].2 = 3
      · rw [tstep_off _ _ _ h3, spl_not v l k (by omega) (by omega)]; exact i
      · rw [tstep_out _ _ _ h1 h3] at t ⊢
        rw [spl_out v l k (by omega) (by omega)]
        rcases t with ⟨_, b, _⟩ | ⟨_, _, _, c⟩
        · exact absurd b h3
        · simp only at c ⊢
          rw [i, c]
theorem turn_last {l : List Mk} (h : Turn l) (h2 : lastM l = 2) : ∃ n, l.length = n + 1 ∧ ∃ hn : n < l.length, l[n].2 = 2 := by
  rcases Nat.eq_zero_or_pos l.length with h0 | h0
  · have : l = [] := List.eq_nil_of_length_eq_zero h0
    subst this
    simp [lastM] at h2
  · refine ⟨l.length - 1, by omega, by omega, ?_⟩
    have e := lastM_take l (l.length - 1) (by omega)
    rw [show l.length - 1 + 1 = l.length by omega, List.take_length, h2] at e
    by_cases h5 : l[l.length - 1].2 = 5
    · rw [if_pos h5] at e
      have m := misB_false (h.2 (l.length - 1) (by omega))
      rw [← e] at m
      have := (m.2 (by omega)).2.1
      omega
    · rw [if_neg h5] at e; exact e.symm
theorem turn_first {l : List Mk} (h : Turn l) (h0 : 0 < l.length) : l[0].2 = 1 := (misB_false (h.2 0 h0)).1 rfl
theorem time_law {l : List Mk} (v : List St) (h : Turn l) (h2 : lastM l = 2) : (tS v l).2.2.getLastD 0 = msM (multK v) (pS v l false (l.length - 1)) := by
  obtain ⟨n, e, hn, hk⟩ := turn_last h h2
  have s := spl_law v h l.length (Nat.le_refl _)
  rw [List.take_length] at s
  rw [s, e, spl_out v l n hn (.inr hk), Nat.add_sub_cancel]
  simp
theorem pS_loads (v : List St) (l : List Mk) : ∀ k, (h : k < l.length) → pS v l true k = begM v l[k].1 - begM v (l[0]'(by omega)).1 := by
  intro k
  induction k with
  | zero => intro h; simp [pS]
  | succ k ih =>
    intro h
    rw [pS_on v l true k h (.inl rfl), ih (by omega)]; omega
theorem whole_law {l : List Mk} (v : List St) (h : Turn l) (h2 : lastM l = 2) (h0 : 0 < l.length) : (tS v [l[0], l[l.length - 1]]).2.2.getLastD 0 = msM (multK v) (pS v l true (l.length - 1)) := by
  obtain ⟨n, e, hn, hk⟩ := turn_last h h2
  have hf := turn_first h h0
  rw [pS_loads v l (l.length - 1) (by omega)]
  have hk' : l[l.length - 1].2 = 2 := by
    have : l.length - 1 = n := by omega
    simp only [this]; exact hk
  have e2 : tS v [l[0], l[l.length - 1]] = tstep v (tstep v (0, 0, []) l[0]) l[l.length - 1] := rfl
  rw [e2, tstep_on _ _ _ (.inl hf), tstep_out _ _ _ (by omega) (by omega)]
  simp
/-- Marks moved apart. -/
def shF (all d last : Int) (x : Mk) : Int := max last (min all (if x.2 = 2 ∨ x.2 = 3 then x.1 + d else x.1 - d))
def shS (all d : Int) (s : Int × List Mk) (x : Mk) : Int × List Mk := if x.2 = 5 then s else (shF all d s.1 x, s.2 ++ [(shF all d s.1 x, x.2)])
def shM (all d : Int) (l : List Mk) : Int × List Mk := l.foldl (shS all d) (0, [])
theorem shM_take (all d : Int) (l : List Mk) (k : Nat) (h : k < l.length) : shM all d (l.take (k + 1)) = shS all d (shM all d (l.take k)) l[k] := by
  unfold shM; rw [List.take_succ_eq_append_getElem h, List.foldl_append]; rfl
theorem shS_split {all d : Int} {s : Int × List Mk} {x : Mk} (h : x.2 = 5) : shS all d s x = s := by simp [shS, h]
theorem shS_not {all d : Int} {s : Int × List Mk} {x : Mk} (h : ¬ x.2 = 5) : shS all d s x = (shF all d s.1 x, s.2 ++ [(shF all d s.1 x, x.2)]) := by simp [shS, h]
theorem lastM_snoc (l : List Mk) (x : Mk) (h : ¬ x.2 = 5) : lastM (l ++ [x]) = x.2 := by simp [lastM, h]
theorem turn_snoc {l : List Mk} {x : Mk} (h : Turn l) (hx : 1 ≤ x.2 ∧ x.2 ≤ 5) (hm : misB x.2 (lastM l) = false) : Turn (l ++ [x]) := by
  refine ⟨fun y hy => ?_, fun k hk => ?_⟩
  · rcases List.mem_append.1 hy with hy | hy
    · exact h.1 y hy
    · simp at hy; subst hy; exact hx
  · rcases Nat.lt_or_ge k l.length with hl | hl
    · rw [List.getElem_append_left hl, List.take_append_of_le_length (by omega)]; exact h.2 k hl
    · have : k = l.length := by simp at hk; omega
      subst this
      rw [List.take_left']
      · simpa using hm
      · rfl
theorem rises_snoc {l : List Mk} {x : Mk} (h : Rises l) (hx : ∀ y ∈ l, y.1 ≤ x.1) : Rises (l ++ [x]) := by
  intro k hk
  simp at hk
  rcases Nat.lt_or_ge (k + 1) l.length with hl | hl
  · rw [List.getElem_append_left hl, List.getElem_append_left (by omega)]; exact h k hl
  · have : k + 1 = l.length := by omega
    rw [List.getElem_append_left (by omega), List.getElem_append_right (by omega)]
    simpa using hx _ (List.getElem_mem _)
structure Sh (all : Int) (l : List Mk) (s : Int × List Mk) : Prop where
  last : 0 ≤ s.1 ∧ s.1 ≤ all
  bd : ∀ y ∈ s.2, 0 ≤ y.1 ∧ y.1 ≤ s.1
  rises : Rises s.2
  turn : Turn s.2
  kind : lastM s.2 = lastM l
  len : s.2.length ≤ l.length
theorem sh_inv {all d : Int} {l : List Mk} (h : Turn l) (ha : 0 ≤ all) : ∀ k, k ≤ l.length → Sh all (l.take k) (shM all d (l.take k)) := by
  intro k
  induction k with
  | zero => intro _; exact ⟨by simp [shM, ha], by simp [shM], by intro k hk; simp [shM] at hk, ⟨by simp [shM], by intro k hk; simp [shM] at hk⟩, by simp [shM], by simp [shM]⟩
  | succ k ih =>
    intro hk
    have hlt : k < l.length := by omega
    have i := ih (by omega)
    have m := h.2 k hlt
    have hkind := h.1 _ (List.getElem_mem hlt)
    have hln : (l.take (k + 1)).length = (l.take k).length + 1 := by simp; omega
    rw [shM_take all d l k hlt]
    by_cases h5 : l[k].2 = 5
    · rw [shS_split h5]
      exact ⟨i.last, i.bd, i.rises, i.turn, by rw [lastM_take l k hlt, if_pos h5]; exact i.kind, by have := i.len; omega⟩
    · rw [shS_not h5]
      have hb : (shM all d (l.take k)).1 ≤ shF all d (shM all d (l.take k)).1 l[k] ∧ shF all d (shM all d (l.take k)).1 l[k] ≤ all := by have := i.last; unfold shF; omega
      generalize shF all d (shM all d (l.take k)).1 l[k] = f at *
      refine ⟨by have := i.last; simp; omega, ?_, rises_snoc i.rises (fun y hy => by have := i.bd y hy; simp; omega), turn_snoc i.turn (by simpa using hkind) (by rw [i.kind]; exact m), ?_, by have := i.len; simp at this hln ⊢; omega⟩
      · intro y hy
        have hl := i.last
        rcases List.mem_append.1 hy with hy | hy
        · have := i.bd y hy; simp; omega
        · simp at hy; subst hy; simp; omega
      · rw [lastM_take l k hlt, if_neg h5]; exact lastM_snoc _ _ (by simpa using h5)
theorem sh_all {all d : Int} {l : List Mk} (h : Turn l) (ha : 0 ≤ all) : Sh all l (shM all d l) := by
  have := sh_inv (d := d) h ha l.length (Nat.le_refl _)
  rwa [List.take_length] at this
/-- Marks some frames later. -/
def mvL (all d : Int) (l : List Mk) : List Mk := if (0 ≤ d + 10000000 ∧ d ≤ 10000000) ∧ ∀ x ∈ l, 0 ≤ x.1 + d ∧ x.1 + d ≤ all then l.map fun x => (x.1 + d, x.2) else []
def mvE (all d : Int) (l : List Mk) : Int := if (0 ≤ d + 10000000 ∧ d ≤ 10000000) ∧ ∀ x ∈ l, 0 ≤ x.1 + d ∧ x.1 + d ≤ all then 0 else 1
theorem mv_ok {all d : Int} {l : List Mk} (h : (0 ≤ d + 10000000 ∧ d ≤ 10000000) ∧ ∀ x ∈ l, 0 ≤ x.1 + d ∧ x.1 + d ≤ all) : mvL all d l = (l.map fun x => (x.1 + d, x.2)) ∧ mvE all d l = 0 := ⟨if_pos h, if_pos h⟩
theorem mv_bad {all d : Int} {l : List Mk} (h : ¬ ((0 ≤ d + 10000000 ∧ d ≤ 10000000) ∧ ∀ x ∈ l, 0 ≤ x.1 + d ∧ x.1 + d ≤ all)) : mvL all d l = [] ∧ mvE all d l = 1 := ⟨if_neg h, if_neg h⟩
theorem mv_take {all d : Int} {l : List Mk} {k : Nat} (hk : k < l.length) (h : ∀ x ∈ l.take k, 0 ≤ x.1 + d ∧ x.1 + d ≤ all) (hx : 0 ≤ l[k].1 + d ∧ l[k].1 + d ≤ all) : ∀ x ∈ l.take (k + 1), 0 ≤ x.1 + d ∧ x.1 + d ≤ all := by
  intro x hx'
  rw [List.take_succ_eq_append_getElem hk] at hx'
  rcases List.mem_append.1 hx' with h' | h'
  · exact h x h'
  · simp at h'; subst h'; exact hx
end Go.Proofs.Ytgkjpcapoofphaa
