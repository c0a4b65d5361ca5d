/- Texts of this seat, laid together: MkP MkG Nest. -/
import Derived.Test.YtggnccafmadacaaGreatDoorBu03
/- Marks of a video: plain laws of what is played up to a mark; no program of Go in sight. -/
namespace Go.Proofs.YtggnccafmadacaaGreatDoor
set_option linter.unusedVariables false
set_option linter.unusedSimpArgs false

theorem mk_at (l : List Mk) (k : Nat) (h : k < l.length) : l.getD k (0, 0) = l[k] := by rw [List.getD_eq_getElem?_getD, List.getElem?_eq_getElem h]; rfl
/-- What counts up to mark number k. -/
def pS (v : List St) (l : List Mk) (loads : Bool) : Nat → Int
  | 0 => 0
  | k + 1 => pS v l loads k + (if loads = true ∨ (l.getD k (0, 0)).2 ≠ 3 then begM v (l.getD (k + 1) (0, 0)).1 - begM v (l.getD k (0, 0)).1 else 0)
theorem pS_on (v : List St) (l : List Mk) (loads : Bool) (k : Nat) (hk : k + 1 < l.length) (h : loads = true ∨ l[k].2 ≠ 3) : pS v l loads (k + 1) = pS v l loads k + (begM v l[k + 1].1 - begM v l[k].1) := by
  rw [pS, mk_at l k (by omega), mk_at l (k + 1) hk, if_pos h]
theorem pS_off (v : List St) (l : List Mk) (k : Nat) (hk : k + 1 < l.length) (h : l[k].2 = 3) : pS v l false (k + 1) = pS v l false k := by
  rw [pS, mk_at l k (by omega), if_neg (by simp [h])]; omega
theorem pS_bd {v : List St} (hg : Good v) (l : List Mk) (hR : Rises l) (loads : Bool) : ∀ k, (h : k < l.length) → 0 ≤ pS v l loads k ∧ pS v l loads k ≤ begM v l[k].1 := by
  intro k
  induction k with
  | zero => intro h; exact ⟨by simp [pS], by simp [pS]; exact (begM_bd' hg _).1⟩
  | succ k ih =>
    intro h
    have i := ih (by omega)
    have m := begM_mono hg _ _ (hR k h)
    by_cases hc : loads = true ∨ l[k].2 ≠ 3
    · rw [pS_on v l loads k h hc]; omega
    · rw [pS, mk_at l k (by omega), if_neg hc]; omega
/-- The times that the reference gathers. -/
def spl (v : List St) (l : List Mk) : Nat → List Int
  | 0 => []
  | k + 1 => if (l.getD k (0, 0)).2 = 5 ∨ (l.getD k (0, 0)).2 = 2 then spl v l k ++ [msM (multK v) (pS v l false k)] else spl v l k
theorem spl_out (v : List St) (l : List Mk) (k : Nat) (hk : k < l.length) (h : l[k].2 = 5 ∨ l[k].2 = 2) : spl v l (k + 1) = spl v l k ++ [msM (multK v) (pS v l false k)] := by rw [spl, mk_at l k hk, if_pos h]
theorem spl_not (v : List St) (l : List Mk) (k : Nat) (hk : k < l.length) (h : ¬ (l[k].2 = 5 ∨ l[k].2 = 2)) : spl v l (k + 1) = spl v l k := by rw [spl, mk_at l k hk, if_neg h]
theorem spl_len (v : List St) (l : List Mk) : ∀ k, k ≤ l.length → (spl v l k).length ≤ k := by
  intro k
  induction k with
  | zero => intro _; simp [spl]
  | succ k ih =>
    intro h
    have := ih (by omega)
    by_cases hc : l[k].2 = 5 ∨ l[k].2 = 2
    · rw [spl_out v l k (by omega) hc]; simp; omega
    · rw [spl_not v l k (by omega) hc]; omega

theorem misB_false {x a : Int} (h : misB x a = false) : (a = 0 → x = 1) ∧ (a ≠ 0 → x ≠ 1 ∧ a ≠ 2 ∧ (a = 3 → x = 4) ∧ (a ≠ 3 → x ≠ 4)) := by
  unfold misB at h
  by_cases h1 : a = 0 ∨ x = 1
  · rw [if_pos h1] at h
    simp at h
    omega
  · rw [if_neg h1] at h
    by_cases h2 : a = 2
    · rw [if_pos h2] at h; cases h
    · rw [if_neg h2] at h
      by_cases h3 : a = 3
      · rw [if_pos h3] at h; simp at h; omega
      · rw [if_neg h3] at h; simp at h; omega
/-- Marks in a right order of kinds. -/
def Turn (l : List Mk) : Prop := (∀ x ∈ l, 1 ≤ x.2 ∧ x.2 ≤ 5) ∧ ∀ k, (hk : k < l.length) → misB l[k].2 (lastM (l.take k)) = false
theorem turn_inv {l : List Mk} (v : List St) (h : Turn l) : ∀ k, (hk : k < l.length) → (lastM (l.take (k + 1)) = 3 ∧ l[k].2 = 3 ∧ (tS v (l.take (k + 1))).2.1 = pS v l false k) ∨ (lastM (l.take (k + 1)) ≠ 3 ∧ lastM (l.take (k + 1)) ≠ 0 ∧ l[k].2 ≠ 3 ∧ pS v l false k = (tS v (l.take (k + 1))).2.1 + begM v l[k].1 - (tS v (l.take (k + 1))).1) := by
  intro k
  induction k with
  | zero =>
    intro hk
    have m := (misB_false (h.2 0 hk)).1 rfl
    right
    rw [lastM_take l 0 hk, tS_take v l 0 hk, tstep_on _ _ _ (.inl m), m]
    refine ⟨by simp, by simp, by simp, ?_⟩
    simp [pS, tS]
  | succ k ih =>
    intro hk
    have m := misB_false (h.2 (k + 1) hk)
    have hkind := h.1 _ (List.getElem_mem hk)
    rw [lastM_take l (k + 1) hk, tS_take v l (k + 1) hk]
    rcases ih (by omega) with ⟨a, b, c⟩ | ⟨a, a', b, c⟩
    · have hx : l[k + 1].2 = 4 := ((m.2 (by omega)).2.2.1) a
      right
      rw [tstep_on _ _ _ (.inr hx), hx, pS_off v l k hk b, ← c]
      refine ⟨by simp, by simp, by simp, ?_⟩
      simp
    · have hm := m.2 a'
      have h4 := hm.2.2.2 a
      rw [pS_on v l false k hk (.inr b), c]
      by_cases h3 : l[k + 1].2 = 3
      · left
        rw [tstep_off _ _ _ h3, h3]
        refine ⟨by simp, rfl, ?_⟩
        simp; omega
      · right
        rw [tstep_out _ _ _ (by omega) h3]
        refine ⟨?_, ?_, h3, by simp; omega⟩
        · by_cases h5 : l[k + 1].2 = 5
          · rw [if_pos h5]; exact a
          · rw [if_neg h5]; exact h3
        · by_cases h5 : l[k + 1].2 = 5
          · rw [if_pos h5]; exact a'
          · rw [if_neg h5]; omega
theorem spl_law {l : List Mk} (v : List St) (h : Turn l) : ∀ k, k ≤ l.length → (tS v (l.take k)).2.2 = spl v l k := by
  intro k
  induction k with
  | zero => intro _; simp [tS, spl]
  | succ k ih =>
    intro hk
    have i := ih (by omega)
    have t := turn_inv v h k (by omega)
    have hkind := h.1 _ (List.getElem_mem (show k < l.length by omega))
    rw [tS_take v l k (by omega)] at t ⊢
    by_cases h1 : l[k].2 = 1 ∨ l[k].2 = 4
    · rw [tstep_on _ _ _ h1, spl_not v l k (by omega) (by omega)]; exact i
    · by_cases h3 : l[k].2 = 3
      · rw [tstep_off _ _ _ h3, spl_not v l k (by omega) (by omega)]; exact i
      · rw [tstep_out _ _ _ h1 h3] at t ⊢
        rw [spl_out v l k (by omega) (by omega)]
        rcases t with ⟨_, b, _⟩ | ⟨_, _, _, c⟩
        · exact absurd b h3
        · simp only at c ⊢
          rw [i, c]
theorem turn_last {l : List Mk} (h : Turn l) (h2 : lastM l = 2) : ∃ n, l.length = n + 1 ∧ ∃ hn : n < l.length, l[n].2 = 2 := by
  rcases Nat.eq_zero_or_pos l.length with h0 | h0
  · have : l = [] := List.eq_nil_of_length_eq_zero h0
    subst this
    simp [lastM] at h2
  · refine ⟨l.length - 1, by omega, by omega, ?_⟩
    have e := lastM_take l (l.length - 1) (by omega)
    rw [show l.length - 1 + 1 = l.length by omega, List.take_length, h2] at e
    by_cases h5 : l[l.length - 1].2 = 5
    · rw [if_pos h5] at e
      have m := misB_false (h.2 (l.length - 1) (by omega))
      rw [← e] at m
      have := (m.2 (by omega)).2.1
      omega
    · rw [if_neg h5] at e; exact e.symm
theorem turn_first {l : List Mk} (h : Turn l) (h0 : 0 < l.length) : l[0].2 = 1 := (misB_false (h.2 0 h0)).1 rfl
theorem time_law {l : List Mk} (v : List St) (h : Turn l) (h2 : lastM l = 2) : (tS v l).2.2.getLastD 0 = msM (multK v) (pS v l false (l.length - 1)) := by
  obtain ⟨n, e, hn, hk⟩ := turn_last h h2
  have s := spl_law v h l.length (Nat.le_refl _)
  rw [List.take_length] at s
  rw [s, e, spl_out v l n hn (.inr hk), Nat.add_sub_cancel]
  simp
theorem pS_loads (v : List St) (l : List Mk) : ∀ k, (h : k < l.length) → pS v l true k = begM v l[k].1 - begM v (l[0]'(by omega)).1 := by
  intro k
  induction k with
  | zero => intro h; simp [pS]
  | succ k ih =>
    intro h
    rw [pS_on v l true k h (.inl rfl), ih (by omega)]; omega
theorem whole_law {l : List Mk} (v : List St) (h : Turn l) (h2 : lastM l = 2) (h0 : 0 < l.length) : (tS v [l[0], l[l.length - 1]]).2.2.getLastD 0 = msM (multK v) (pS v l true (l.length - 1)) := by
  obtain ⟨n, e, hn, hk⟩ := turn_last h h2
  have hf := turn_first h h0
  rw [pS_loads v l (l.length - 1) (by omega)]
  have hk' : l[l.length - 1].2 = 2 := by
    have : l.length - 1 = n := by omega
    simp only [this]; exact hk
  have e2 : tS v [l[0], l[l.length - 1]] = tstep v (tstep v (0, 0, []) l[0]) l[l.length - 1] := rfl
  rw [e2, tstep_on _ _ _ (.inl hf), tstep_out _ _ _ (by omega) (by omega)]
  simp
/-- Marks moved apart. -/
def shF (all d last : Int) (x : Mk) : Int := max last (min all (if x.2 = 2 ∨ x.2 = 3 then x.1 + d else x.1 - d))
def shS (all d : Int) (s : Int × List Mk) (x : Mk) : Int × List Mk := if x.2 = 5 then s else (shF all d s.1 x, s.2 ++ [(shF all d s.1 x, x.2)])
def shM (all d : Int) (l : List Mk) : Int × List Mk := l.foldl (shS all d) (0, [])
theorem shM_take (all d : Int) (l : List Mk) (k : Nat) (h : k < l.length) : shM all d (l.take (k + 1)) = shS all d (shM all d (l.take k)) l[k] := by
  unfold shM; rw [List.take_succ_eq_append_getElem h, List.foldl_append]; rfl
theorem shS_split {all d : Int} {s : Int × List Mk} {x : Mk} (h : x.2 = 5) : shS all d s x = s := by simp [shS, h]
theorem shS_not {all d : Int} {s : Int × List Mk} {x : Mk} (h : ¬ x.2 = 5) : shS all d s x = (shF all d s.1 x, s.2 ++ [(shF all d s.1 x, x.2)]) := by simp [shS, h]
theorem lastM_snoc (l : List Mk) (x : Mk) (h : ¬ x.2 = 5) : lastM (l ++ [x]) = x.2 := by simp [lastM, h]
theorem turn_snoc {l : List Mk} {x : Mk} (h : Turn l) (hx : 1 ≤ x.2 ∧ x.2 ≤ 5) (hm : misB x.2 (lastM l) = false) : Turn (l ++ [x]) := by
  refine ⟨fun y hy => ?_, fun k hk => ?_⟩
  · rcases List.mem_append.1 hy with hy | hy
    · exact h.1 y hy
    · simp at hy; subst hy; exact hx
  · rcases Nat.lt_or_ge k l.length with hl | hl
    · rw [List.getElem_append_left hl, List.take_append_of_le_length (by omega)]; exact h.2 k hl
    · have : k = l.length := by simp at hk; omega
      subst this
      rw [List.take_left']
      · simpa using hm
      · rfl
theorem rises_snoc {l : List Mk} {x : Mk} (h : Rises l) (hx : ∀ y ∈ l, y.1 ≤ x.1) : Rises (l ++ [x]) := by
  intro k hk
  simp at hk
  rcases Nat.lt_or_ge (k + 1) l.length with hl | hl
  · rw [List.getElem_append_left hl, List.getElem_append_left (by omega)]; exact h k hl
  · have : k + 1 = l.length := by omega
    rw [List.getElem_append_left (by omega), List.getElem_append_right (by omega)]
    simpa using hx _ (List.getElem_mem _)
structure Sh (all : Int) (l : List Mk) (s : Int × List Mk) : Prop where
  last : 0 ≤ s.1 ∧ s.1 ≤ all
  bd : ∀ y ∈ s.2, 0 ≤ y.1 ∧ y.1 ≤ s.1
  rises : Rises s.2
  turn : Turn s.2
  kind : lastM s.2 = lastM l
  len : s.2.length ≤ l.length
theorem sh_inv {all d : Int} {l : List Mk} (h : Turn l) (ha : 0 ≤ all) : ∀ k, k ≤ l.length → Sh all (l.take k) (shM all d (l.take k)) := by
  intro k
  induction k with
  | zero => intro _; exact ⟨by simp [shM, ha], by simp [shM], by intro k hk; simp [shM] at hk, ⟨by simp [shM], by intro k hk; simp [shM] at hk⟩, by simp [shM], by simp [shM]⟩
  | succ k ih =>
    intro hk
    have hlt : k < l.length := by omega
    have i := ih (by omega)
    have m := h.2 k hlt
    have hkind := h.1 _ (List.getElem_mem hlt)
    have hln : (l.take (k + 1)).length = (l.take k).length + 1 := by simp; omega
    rw [shM_take all d l k hlt]
    by_cases h5 : l[k].2 = 5
    · rw [shS_split h5]
      exact ⟨i.last, i.bd, i.rises, i.turn, by rw [lastM_take l k hlt, if_pos h5]; exact i.kind, by have := i.len; omega⟩
    · rw [shS_not h5]
      have hb : (shM all d (l.take k)).1 ≤ shF all d (shM all d (l.take k)).1 l[k] ∧ shF all d (shM all d (l.take k)).1 l[k] ≤ all := by have := i.last; unfold shF; omega
      generalize shF all d (shM all d (l.take k)).1 l[k] = f at *
      refine ⟨by have := i.last; simp; omega, ?_, rises_snoc i.rises (fun y hy => by have := i.bd y hy; simp; omega), turn_snoc i.turn (by simpa using hkind) (by rw [i.kind]; exact m), ?_, by have := i.len; simp at this hln ⊢; omega⟩
      · intro y hy
        have hl := i.last
        rcases List.mem_append.1 hy with hy | hy
        · have := i.bd y hy; simp; omega
        · simp at hy; subst hy; simp; omega
      · rw [lastM_take l k hlt, if_neg h5]; exact lastM_snoc _ _ (by simpa using h5)
theorem sh_all {all d : Int} {l : List Mk} (h : Turn l) (ha : 0 ≤ all) : Sh all l (shM all d l) := by
  have := sh_inv (d := d) h ha l.length (Nat.le_refl _)
  rwa [List.take_length] at this
/-- Marks some frames later. -/
def mvL (all d : Int) (l : List Mk) : List Mk := if (0 ≤ d + 10000000 ∧ d ≤ 10000000) ∧ ∀ x ∈ l, 0 ≤ x.1 + d ∧ x.1 + d ≤ all then l.map fun x => (x.1 + d, x.2) else []
def mvE (all d : Int) (l : List Mk) : Int := if (0 ≤ d + 10000000 ∧ d ≤ 10000000) ∧ ∀ x ∈ l, 0 ≤ x.1 + d ∧ x.1 + d ≤ all then 0 else 1
theorem mv_ok {all d : Int} {l : List Mk} (h : (0 ≤ d + 10000000 ∧ d ≤ 10000000) ∧ ∀ x ∈ l, 0 ≤ x.1 + d ∧ x.1 + d ≤ all) : mvL all d l = (l.map fun x => (x.1 + d, x.2)) ∧ mvE all d l = 0 := ⟨if_pos h, if_pos h⟩
theorem mv_bad {all d : Int} {l : List Mk} (h : ¬ ((0 ≤ d + 10000000 ∧ d ≤ 10000000) ∧ ∀ x ∈ l, 0 ≤ x.1 + d ∧ x.1 + d ≤ all)) : mvL all d l = [] ∧ mvE all d l = 1 := ⟨if_neg h, if_neg h⟩
theorem mv_take {all d : Int} {l : List Mk} {k : Nat} (hk : k < l.length) (h : ∀ x ∈ l.take k, 0 ≤ x.1 + d ∧ x.1 + d ≤ all) (hx : 0 ≤ l[k].1 + d ∧ l[k].1 + d ≤ all) : ∀ x ∈ l.take (k + 1), 0 ≤ x.1 + d ∧ x.1 + d ≤ all := by
  intro x hx'
  rw [List.take_succ_eq_append_getElem hk] at hx'
  rcases List.mem_append.1 hx' with h' | h'
  · exact h x h'
  · simp at h'; subst h'; exact hx
end Go.Proofs.YtggnccafmadacaaGreatDoor
/- The walks of slices.Equal over integers and marks, of rounded, playedTo, TimeOf and SplitsBy. -/
namespace Go.Proofs.YtggnccafmadacaaGreatDoor
set_option linter.unusedVariables false
set_option linter.unusedSimpArgs false
open Go.RowKit

set_option maxHeartbeats 1000000 in
theorem equalI_any (A B : Option Addr) (c d lo lo' : Nat) (ps qs : List Int) (w : World) (hr : Row w lo 1 A ps.length (ints ps)) (hr' : Row w lo' 1 B qs.length (ints qs)) (hl : ps.length ≤ 1000000000) (hl' : qs.length ≤ 1000000000) :
    Calls Tryz.prog 86 #[.slice A ps.length c, .slice B qs.length d] w fun e w' => e = .returned (.bool (decide (ps = qs))) ∧ ∃ q, w' = w.drewN q := by
  by_cases hlen : ps.length = qs.length
  · have h0 : ((ps.length : Int) != (qs.length : Int)) = false := by simp [hlen]
    have HLEN := Lib.hid hlen
    clear hlen
    go_enter Tryz.func86, Tryz.ntmps86
    go_wp2_with fail
    go_loopw [13] (fun i wr => ∃ (k : Nat) (q : Nat), k ≤ ps.length ∧ i = .int .i64 k ∧ Hid (ps.take k = qs.take k) ∧ wr = w.drewN q) (fun i _ => ps.length - (intOf i).toNat)
    case atStart => exact ⟨0, 0, Nat.zero_le _, rfl, Lib.hid rfl, rfl⟩
    case round =>
      obtain ⟨k, q, hk, rfl, htk, rfl⟩ := hrel
      by_cases hlt : k < ps.length
      · obtain ⟨b, off, rfl, _, hbs, c0⟩ := hr.int_at hlt
        have hlt' : k < qs.length := by have := HLEN.out; omega
        obtain ⟨b', off', rfl, _, hbs', d0⟩ := hr'.int_at hlt'
        by_cases he : ps[k] = qs[k]
        · have HN : Hid (ps.take (k + 1) = qs.take (k + 1)) := Lib.hid (by rw [List.take_succ_eq_append_getElem hlt, List.take_succ_eq_append_getElem hlt', htk.out, he])
          rw [← he] at d0
          clear he
          go_wp2_with fail
          go_quiet (fail)
          go_wp2_with fail
          go_roundw
          case rel => exact ⟨k + 1, _, by omega, by go_num, HN, rfl⟩
          case measure => simp [intOf]; omega
        · have HN : Hid (¬ ps = qs) := Lib.hid (fun h => he (by subst h; rfl))
          have e1 : (ps[k] != qs[k]) = true := by simpa using he
          clear he
          go_wp2_with fail
          go_quiet (fail)
          go_wp2_with fail
          go_ret
          exact ⟨ret_bool' (by simp [HN.out]), _, World.drewN_drewN _ _ _⟩
      · have HN : Hid (ps = qs) := Lib.hid (by
          have := htk.out
          have hh := HLEN.out
          rwa [List.take_of_length_le (by omega), List.take_of_length_le (by omega)] at this)
        go_wp2_with fail
        go_ret
        exact ⟨ret_bool' (by simp [HN.out]), _, rfl⟩
  · have h0 : ((ps.length : Int) != (qs.length : Int)) = true := by rw [bne_iff_ne]; omega
    have HN : Hid (¬ ps = qs) := Lib.hid (fun h => hlen (by rw [h]))
    clear hlen
    go_enter Tryz.func86, Tryz.ntmps86
    go_wp2_with fail
    go_ret
    exact ⟨ret_bool' (by simp [HN.out]), 0, rfl⟩

end Go.Proofs.YtggnccafmadacaaGreatDoor
/- A row of rows of integers, all of the call's own; and what 'make' of a variable size leaves. -/
namespace Go.Proofs.YtggnccafmadacaaGreatDoor
set_option linter.unusedVariables false
set_option linter.unusedSimpArgs false
open Go.RowKit

/-- Rows of integers behind the slices in a block, each in a block of its own. -/
structure Nest (tI tS : TypeId) (w : World) (base g : Nat) (rows : List (List Int)) : Prop where
  ne : tI ≠ tS
  has : ∃ cs : Array Value, Blk w g tS cs ∧ (∀ i (h : i < rows.length), ∃ A c, cs[i]? = some (.slice A rows[i].length c) ∧ w.ownsRow base tI 1 (.slice A rows[i].length c) rows[i].length (ints rows[i])) ∧
    (∀ (i j : Nat) (u v : Value) (b : Nat), i < rows.length → j < rows.length → i ≠ j → cs[i]? = some u → cs[j]? = some v → u.ownBlock = some b → v.ownBlock ≠ some b)
section
variable {tI tS : TypeId} {w w' : World} {base g : Nat} {rows : List (List Int)}
theorem Nest.lt (h : Nest tI tS w base g rows) : g < w.heap.size := by obtain ⟨cs, h1, _⟩ := h.has; exact h1.lt
theorem Nest.frz (h : Nest tI tS w base g rows) (i : Nat) : w.frozen? ⟨g, i, none⟩ = false := by obtain ⟨cs, h1, _⟩ := h.has; exact h1.thaw i
theorem Nest.below (h : Nest tI tS w base g rows) (hb : Below w.heap.size w w') : Nest tI tS w' base g rows := by
  obtain ⟨ne, cs, h1, h2, h3⟩ := h
  exact ⟨ne, cs, h1.below hb, fun i hi => let ⟨A, c, a, b⟩ := h2 i hi; ⟨A, c, a, own_keep b hb⟩, h3⟩
theorem Nest.alloc (h : Nest tI tS w base g rows) (o : Obj) : Nest tI tS (w.alloc o) base g rows := h.below ((Below.refl _ _).alloc (Nat.le_refl _) o)
theorem Nest.drewN (h : Nest tI tS w base g rows) (q : Nat) : Nest tI tS (w.drewN q) base g rows := by
  obtain ⟨ne, cs, h1, h2, h3⟩ := h
  exact ⟨ne, cs, h1, fun i hi => let ⟨A, c, a, b⟩ := h2 i hi; ⟨A, c, a, b⟩, h3⟩
theorem Nest.row (h : Nest tI tS w base g rows) {i : Nat} (hi : i < rows.length) : ∃ A c, w.cell? ⟨g, i, none⟩ = some (.slice A rows[i].length c) ∧ w.ownsRow base tI 1 (.slice A rows[i].length c) rows[i].length (ints rows[i]) := by
  obtain ⟨ne, cs, h1, h2, h3⟩ := h
  obtain ⟨A, c, a, b⟩ := h2 i hi
  exact ⟨A, c, by rw [h1.cell]; exact a, b⟩
/-- One row is written anew in its place. -/
theorem Nest.turn (h : Nest tI tS w base g rows) {i : Nat} (hi : i < rows.length) {A : Option Addr} {c : Nat} (hc : w.cell? ⟨g, i, none⟩ = some (.slice A rows[i].length c)) {xs : List Int} (hx : xs.length = rows[i].length)
    (hg : w.grownBy w' (Value.slice A rows[i].length c).ownBlock) (ho : w'.ownsRow base tI 1 (.slice A rows[i].length c) rows[i].length (ints xs)) : Nest tI tS w' base g (rows.set i xs) := by
  obtain ⟨ne, cs, h1, h2, h3⟩ := h
  rw [h1.cell] at hc
  obtain ⟨A1, c1, a1, b1⟩ := h2 i hi
  rw [a1] at hc
  injection hc with hc
  injection hc with e1 _ e2
  subst e1 e2
  refine ⟨ne, cs, Blk.app b1 h1 hg ne, fun j hj => ?_, fun i' j' u v b hi' hj' => h3 i' j' u v b (by simpa using hi') (by simpa using hj')⟩
  have hj' : j < rows.length := by simpa using hj
  by_cases e : i = j
  · subst e
    have : (rows.set i xs)[i] = xs := by simp
    rw [this, hx]
    exact ⟨A1, c1, a1, ho⟩
  · have : (rows.set i xs)[j] = rows[j] := by simp [List.getElem_set, e]
    rw [this]
    obtain ⟨A2, c2, a2, b2⟩ := h2 j hj'
    refine ⟨A2, c2, a2, b2.kept hg ?_⟩
    cases hv : (Value.slice A2 rows[j].length c2).ownBlock with
    | none => exact .inl rfl
    | some b =>
      right
      intro he
      exact h3 i j _ _ b hi hj' e a1 a2 he.symm hv
/-- One row is appended to and its slice is put back. -/
theorem Nest.push (h : Nest tI tS w base g rows) {i : Nat} (hi : i < rows.length) {A A' : Option Addr} {c c' : Nat} (hc : w.cell? ⟨g, i, none⟩ = some (.slice A rows[i].length c)) {xs : List Int}
    (hg : w.grownBy w' (Value.slice A rows[i].length c).ownBlock) (ho : w'.ownsRow base tI 1 (.slice A' xs.length c') xs.length (ints xs))
    (hb : (Value.slice A' xs.length c').ownBlock = (Value.slice A rows[i].length c).ownBlock ∨ (Value.slice A' xs.length c').ownBlock = some w.heap.size) : Nest tI tS (w'.setCell ⟨g, i, none⟩ (.slice A' xs.length c')) base g (rows.set i xs) := by
  obtain ⟨ne, cs, h1, h2, h3⟩ := h
  rw [h1.cell] at hc
  obtain ⟨A1, c1, a1, b1⟩ := h2 i hi
  rw [a1] at hc
  injection hc with hc
  injection hc with e1 _ e2
  subst e1 e2
  have k1 := Blk.app b1 h1 hg ne
  have hs : i < cs.size := (Array.getElem?_eq_some_iff.1 a1).1
  have hget : ∀ j, (cs.setIfInBounds i (.slice A' xs.length c'))[j]? = if i = j then some (.slice A' xs.length c') else cs[j]? := by
    intro j
    rw [Array.getElem?_setIfInBounds]
    by_cases e : i = j
    · subst e; simp [hs]
    · simp [e]
  -- the other rows stand behind other blocks
  have hfar : ∀ j (hj : j < rows.length), i ≠ j → ∀ v b, cs[j]? = some v → v.ownBlock = some b → (Value.slice A' xs.length c').ownBlock ≠ some b := by
    intro j hj e v b hv hvb hx
    rcases hb with hb | hb
    · rw [hb] at hx
      exact h3 i j _ _ b hi hj e a1 hv hx hvb
    · rw [hb] at hx
      injection hx with hx
      obtain ⟨A2, c2, a2, b2⟩ := h2 j hj
      rw [hv] at a2
      injection a2 with a2
      subst a2
      have := (b2.lt b hvb).2
      omega
  refine ⟨ne, _, Blk.poke k1 i _, fun j hj => ?_, fun i' j' u v b hi' hj' hne hu hv hub => ?_⟩
  · have hj' : j < rows.length := by simpa using hj
    rw [hget]
    by_cases e : i = j
    · subst e
      have : (rows.set i xs)[i] = xs := by simp
      rw [this, if_pos rfl]
      exact ⟨A', c', rfl, own_past ho k1 ne i _⟩
    · have : (rows.set i xs)[j] = rows[j] := by simp [List.getElem_set, e]
      rw [this, if_neg e]
      obtain ⟨A2, c2, a2, b2⟩ := h2 j hj'
      refine ⟨A2, c2, a2, own_past (b2.kept hg ?_) k1 ne i _⟩
      cases hv : (Value.slice A2 rows[j].length c2).ownBlock with
      | none => exact .inl rfl
      | some b =>
        right
        intro he
        exact h3 i j _ _ b hi hj' e a1 a2 he.symm hv
  · have hi2 : i' < rows.length := by simpa using hi'
    have hj2 : j' < rows.length := by simpa using hj'
    rw [hget] at hu hv
    by_cases e1 : i = i'
    · subst e1
      rw [if_pos rfl] at hu
      injection hu with hu
      subst hu
      rw [if_neg hne] at hv
      intro hvb
      exact hfar j' hj2 hne v b hv hvb hub
    · rw [if_neg e1] at hu
      by_cases e2 : i = j'
      · subst e2
        rw [if_pos rfl] at hv
        injection hv with hv
        subst hv
        exact hfar i' hi2 e1 u b hu hub
      · rw [if_neg e2] at hv
        exact h3 i' j' u v b hi2 hj2 hne hu hv hub
/-- As many empty rows as were made. -/
theorem Nest.made {n : Nat} (hne : tI ≠ tS) {cs : Array Value} (h : Blk w g tS cs) (hc : ∀ i, i < n → cs[i]? = some (.slice none 0 0)) : Nest tI tS w base g (List.replicate n []) := by
  refine ⟨hne, cs, h, fun i hi => ?_, fun i j u v b hi hj _ hu hv hub => ?_⟩
  · have hi' : i < n := by simpa using hi
    have : (List.replicate n ([] : List Int))[i] = [] := by simp
    rw [this]
    exact ⟨none, 0, hc i hi', World.ownsRow_nil _ _ _ _⟩
  · rw [hc i (by simpa using hi)] at hu
    injection hu with hu
    subst hu
    cases hub
/-- Rows of rows beside another row of the call's own: they share no block. -/
structure NestT (tI tS : TypeId) (w : World) (base g : Nat) (rows : List (List Int)) (v : Value) (n : Nat) (xs : List Value) : Prop where
  nest : Nest tI tS w base g rows
  own : w.ownsRow base tI 1 v n xs
  free : ∀ i, i < rows.length → ∀ u, w.cell? ⟨g, i, none⟩ = some u → u.ownBlock = none ∨ u.ownBlock ≠ v.ownBlock
theorem NestT.cellEq {w w' : World} {i : Nat} (h : Nest tI tS w base g rows) (hb : w'.heap[g]? = w.heap[g]?) : w'.cell? ⟨g, i, none⟩ = w.cell? ⟨g, i, none⟩ := World.cell?_of_block (w := w) hb
theorem NestT.below {v : Value} {n : Nat} {xs : List Value} (h : NestT tI tS w base g rows v n xs) (hb : Below w.heap.size w w') : NestT tI tS w' base g rows v n xs :=
  ⟨h.nest.below hb, own_keep h.own hb, fun i hi u hu => h.free i hi u (by rw [← NestT.cellEq h.nest (hb.block g h.nest.lt)]; exact hu)⟩
theorem NestT.alloc {v : Value} {n : Nat} {xs : List Value} (h : NestT tI tS w base g rows v n xs) (o : Obj) : NestT tI tS (w.alloc o) base g rows v n xs := h.below ((Below.refl _ _).alloc (Nat.le_refl _) o)
/-- A new row beside. -/
theorem NestT.begin {v : Value} {n : Nat} {xs : List Value} (h : Nest tI tS w base g rows) (hb : Below w.heap.size w w') (ho : w'.ownsRow w.heap.size tI 1 v n xs) (hB : base ≤ w.heap.size) : NestT tI tS w' base g rows v n xs := by
  refine ⟨h.below hb, own_weak ho hB, fun i hi u hu => ?_⟩
  rw [NestT.cellEq h (hb.block g h.lt)] at hu
  obtain ⟨A, c, h1, h2⟩ := h.row hi
  rw [h1] at hu
  injection hu with hu
  subst hu
  cases hv : (Value.slice A rows[i].length c).ownBlock with
  | none => exact .inl rfl
  | some b =>
    right
    intro he
    have h3 := (h2.lt b hv).2
    have h4 := (ho.lt b he.symm).1
    omega
/-- Behind the append, before the slice is put back. -/
theorem Nest.grown_ (h : Nest tI tS w base g rows) {i : Nat} (hi : i < rows.length) {A : Option Addr} {c : Nat} (hc : w.cell? ⟨g, i, none⟩ = some (.slice A rows[i].length c)) (hg : w.grownBy w' (Value.slice A rows[i].length c).ownBlock) : (∃ cs, Blk w' g tS cs) ∧ ∀ j, w'.cell? ⟨g, j, none⟩ = w.cell? ⟨g, j, none⟩ := by
  obtain ⟨ne, cs, h1, h2, h3⟩ := h
  rw [h1.cell] at hc
  obtain ⟨A1, c1, a1, b1⟩ := h2 i hi
  rw [a1] at hc
  injection hc with hc
  injection hc with e1 _ e2
  subst e1 e2
  have k1 := Blk.app b1 h1 hg ne
  exact ⟨⟨cs, k1⟩, fun j => by rw [k1.cell, h1.cell]⟩
theorem NestT.push {v : Value} {n : Nat} {ys : List Value} (h : NestT tI tS w base g rows v n ys) {i : Nat} (hi : i < rows.length) {A A' : Option Addr} {c c' : Nat} (hc : w.cell? ⟨g, i, none⟩ = some (.slice A rows[i].length c)) {xs : List Int}
    (hg : w.grownBy w' (Value.slice A rows[i].length c).ownBlock) (ho : w'.ownsRow base tI 1 (.slice A' xs.length c') xs.length (ints xs))
    (hb : (Value.slice A' xs.length c').ownBlock = (Value.slice A rows[i].length c).ownBlock ∨ (Value.slice A' xs.length c').ownBlock = some w.heap.size) : NestT tI tS (w'.setCell ⟨g, i, none⟩ (.slice A' xs.length c')) base g (rows.set i xs) v n ys := by
  obtain ⟨⟨cs, k1⟩, hcell⟩ := h.nest.grown_ hi hc hg
  have hs : i < cs.size := by
    have e := hcell i
    rw [hc, k1.cell] at e
    exact (Array.getElem?_eq_some_iff.1 e).1
  refine ⟨h.nest.push hi hc hg ho hb, own_past (h.own.kept hg ?_) k1 h.nest.ne i _, fun j hj u hu => ?_⟩
  · rcases h.free i hi _ hc with e | e
    · rw [e]
      cases v.ownBlock <;> simp
    · exact .inr (fun e2 => e e2.symm)
  · have hj' : j < rows.length := by simpa using hj
    have k2 := Blk.poke k1 i (.slice A' xs.length c')
    rw [k2.cell, Array.getElem?_setIfInBounds] at hu
    by_cases e : i = j
    · subst e
      simp only [if_true, if_pos hs] at hu
      injection hu with hu
      subst hu
      rcases hb with hb | hb
      · rw [hb]; exact h.free i hi _ hc
      · rw [hb]
        right
        intro he
        have := (h.own.lt _ he.symm).2
        omega
    · rw [if_neg e, ← k1.cell, hcell j] at hu
      exact h.free j hj' u hu
theorem Nest.blk_ (h : Nest tI tS w base g rows) : ∃ cs, Blk w g tS cs := by obtain ⟨cs, h1, _⟩ := h.has; exact ⟨cs, h1⟩
theorem Nest.app {e : TypeId} {size n : Nat} {v : Value} {xs : List Value} {b2 : Nat} (h : Nest tI tS w base g rows) (hown : w.ownsRow b2 e size v n xs) (hg : w.grownBy w' v.ownBlock) (he : e ≠ tS) (hlt : ∀ k, v.ownBlock = some k → k < base) : Nest tI tS w' base g rows := by
  obtain ⟨ne, cs, h1, h2, h3⟩ := h
  refine ⟨ne, cs, Blk.app hown h1 hg he, fun i hi => ?_, h3⟩
  obtain ⟨A, c, a, b⟩ := h2 i hi
  refine ⟨A, c, a, b.kept hg ?_⟩
  cases hv : (Value.slice A rows[i].length c).ownBlock with
  | none => exact .inl rfl
  | some k =>
    right
    intro he
    have := hlt k he.symm
    have := (b.lt k hv).1
    omega
end
end Go.Proofs.YtggnccafmadacaaGreatDoor
