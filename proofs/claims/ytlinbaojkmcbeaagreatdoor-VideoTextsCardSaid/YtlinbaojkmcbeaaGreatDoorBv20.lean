/- Texts of this seat, laid together: MkP EvC MkF MkG Ve RepF. -/
import Derived.Test.YtlinbaojkmcbeaaGreatDoorBv08
/- Marks of a video: plain laws of what is played up to a mark; no program of Go in sight. -/
namespace Go.Proofs.YtlinbaojkmcbeaaGreatDoor
set_option linter.unusedVariables false
set_option linter.unusedSimpArgs false

theorem mk_at (l : List Mk) (k : Nat) (h : k < l.length) : l.getD k (0, 0) = l[k] := by rw [List.getD_eq_getElem?_getD, List.getElem?_eq_getElem h]; rfl
/-- What counts up to mark number k. -/
def pS (v : List St) (l : List Mk) (loads : Bool) : Nat → Int
  | 0 => 0
  | k + 1 => pS v l loads k + (if loads = true ∨ (l.getD k (0, 0)).2 ≠ 3 then begM v (l.getD (k + 1) (0, 0)).1 - begM v (l.getD k (0, 0)).1 else 0)
theorem pS_on (v : List St) (l : List Mk) (loads : Bool) (k : Nat) (hk : k + 1 < l.length) (h : loads = true ∨ l[k].2 ≠ 3) : pS v l loads (k + 1) = pS v l loads k + (begM v l[k + 1].1 - begM v l[k].1) := by
  rw [pS, mk_at l k (by omega), mk_at l (k + 1) hk, if_pos h]
theorem pS_off (v : List St) (l : List Mk) (k : Nat) (hk : k + 1 < l.length) (h : l[k].2 = 3) : pS v l false (k + 1) = pS v l false k := by
  rw [pS, mk_at l k (by omega), if_neg (by simp [h])]; omega
theorem pS_bd {v : List St} (hg : Good v) (l : List Mk) (hR : Rises l) (loads : Bool) : ∀ k, (h : k < l.length) → 0 ≤ pS v l loads k ∧ pS v l loads k ≤ begM v l[k].1 := by
  intro k
  induction k with
  | zero => intro h; exact ⟨by simp [pS], by simp [pS]; exact (begM_bd' hg _).1⟩
  | succ k ih =>
    intro h
    have i := ih (by omega)
    have m := begM_mono hg _ _ (hR k h)
    by_cases hc : loads = true ∨ l[k].2 ≠ 3
    · rw [pS_on v l loads k h hc]; omega
    · rw [pS, mk_at l k (by omega), if_neg hc]; omega
/-- The times that the reference gathers. -/
def spl (v : List St) (l : List Mk) : Nat → List Int
  | 0 => []
  | k + 1 => if (l.getD k (0, 0)).2 = 5 ∨ (l.getD k (0, 0)).2 = 2 then spl v l k ++ [msM (multK v) (pS v l false k)] else spl v l k
theorem spl_out (v : List St) (l : List Mk) (k : Nat) (hk : k < l.length) (h : l[k].2 = 5 ∨ l[k].2 = 2) : spl v l (k + 1) = spl v l k ++ [msM (multK v) (pS v l false k)] := by rw [spl, mk_at l k hk, if_pos h]
theorem spl_not (v : List St) (l : List Mk) (k : Nat) (hk : k < l.length) (h : ¬ (l[k].2 = 5 ∨ l[k].2 = 2)) : spl v l (k + 1) = spl v l k := by rw [spl, mk_at l k hk, if_neg h]
theorem spl_len (v : List St) (l : List Mk) : ∀ k, k ≤ l.length → (spl v l k).length ≤ k := by
  intro k
  induction k with
  | zero => intro _; simp [spl]
  | succ k ih =>
    intro h
    have := ih (by omega)
    by_cases hc : l[k].2 = 5 ∨ l[k].2 = 2
    · rw [spl_out v l k (by omega) hc]; simp; omega
    · rw [spl_not v l k (by omega) hc]; omega

theorem misB_false {x a : Int} (h : misB x a = false) : (a = 0 → x = 1) ∧ (a ≠ 0 → x ≠ 1 ∧ a ≠ 2 ∧ (a = 3 → x = 4) ∧ (a ≠ 3 → x ≠ 4)) := by
  unfold misB at h
  by_cases h1 : a = 0 ∨ x = 1
  · rw [if_pos h1] at h
    simp at h
    omega
  · rw [if_neg h1] at h
    by_cases h2 : a = 2
    · rw [if_pos h2] at h; cases h
    · rw [if_neg h2] at h
      by_cases h3 : a = 3
      · rw [if_pos h3] at h; simp at h; omega
      · rw [if_neg h3] at h; simp at h; omega
/-- Marks in a right order of kinds. -/
def Turn (l : List Mk) : Prop := (∀ x ∈ l, 1 ≤ x.2 ∧ x.2 ≤ 5) ∧ ∀ k, (hk : k < l.length) → misB l[k].2 (lastM (l.take k)) = false
theorem turn_inv {l : List Mk} (v : List St) (h : Turn l) : ∀ k, (hk : k < l.length) → (lastM (l.take (k + 1)) = 3 ∧ l[k].2 = 3 ∧ (tS v (l.take (k + 1))).2.1 = pS v l false k) ∨ (lastM (l.take (k + 1)) ≠ 3 ∧ lastM (l.take (k + 1)) ≠ 0 ∧ l[k].2 ≠ 3 ∧ pS v l false k = (tS v (l.take (k + 1))).2.1 + begM v l[k].1 - (tS v (l.take (k + 1))).1) := by
  intro k
  induction k with
  | zero =>
    intro hk
    have m := (misB_false (h.2 0 hk)).1 rfl
    right
    rw [lastM_take l 0 hk, tS_take v l 0 hk, tstep_on _ _ _ (.inl m), m]
    refine ⟨by simp, by simp, by simp, ?_⟩
    simp [pS, tS]
  | succ k ih =>
    intro hk
    have m := misB_false (h.2 (k + 1) hk)
    have hkind := h.1 _ (List.getElem_mem hk)
    rw [lastM_take l (k + 1) hk, tS_take v l (k + 1) hk]
    rcases ih (by omega) with ⟨a, b, c⟩ | ⟨a, a', b, c⟩
    · have hx : l[k + 1].2 = 4 := ((m.2 (by omega)).2.2.1) a
      right
      rw [tstep_on _ _ _ (.inr hx), hx, pS_off v l k hk b, ← c]
      refine ⟨by simp, by simp, by simp, ?_⟩
      simp
    · have hm := m.2 a'
      have h4 := hm.2.2.2 a
      rw [pS_on v l false k hk (.inr b), c]
      by_cases h3 : l[k + 1].2 = 3
      · left
        rw [tstep_off _ _ _ h3, h3]
        refine ⟨by simp, rfl, ?_⟩
        simp; omega
      · right
        rw [tstep_out _ _ _ (by omega) h3]
        refine ⟨?_, ?_, h3, by simp; omega⟩
        · by_cases h5 : l[k + 1].2 = 5
          · rw [if_pos h5]; exact a
          · rw [if_neg h5]; exact h3
        · by_cases h5 : l[k + 1].2 = 5
          · rw [if_pos h5]; exact a'
          · rw [if_neg h5]; omega
theorem spl_law {l : List Mk} (v : List St) (h : Turn l) : ∀ k, k ≤ l.length → (tS v (l.take k)).2.2 = spl v l k := by
  intro k
  induction k with
  | zero => intro _; simp [tS, spl]
  | succ k ih =>
    intro hk
    have i := ih (by omega)
    have t := turn_inv v h k (by omega)
    have hkind := h.1 _ (List.getElem_mem (show k < l.length by omega))
    rw [tS_take v l k (by omega)] at t ⊢
    by_cases h1 : l[k].2 = 1 ∨ l[k].2 = 4
    · rw [tstep_on _ _ _ h1, spl_not v l k (by omega) (by omega)]; exact i
    · by_cases h3 : l[k].2 = 3
      · rw [tstep_off _ _ _ h3, spl_not v l k (by omega) (by omega)]; exact i
      · rw [tstep_out _ _ _ h1 h3] at t ⊢
        rw [spl_out v l k (by omega) (by omega)]
        rcases t with ⟨_, b, _⟩ | ⟨_, _, _, c⟩
        · exact absurd b h3
        · simp only at c ⊢
          rw [i, c]
theorem turn_last {l : List Mk} (h : Turn l) (h2 : lastM l = 2) : ∃ n, l.length = n + 1 ∧ ∃ hn : n < l.length, l[n].2 = 2 := by
  rcases Nat.eq_zero_or_pos l.length with h0 | h0
  · have : l = [] := List.eq_nil_of_length_eq_zero h0
    subst this
    simp [lastM] at h2
  · refine ⟨l.length - 1, by omega, by omega, ?_⟩
    have e := lastM_take l (l.length - 1) (by omega)
    rw [show l.length - 1 + 1 = l.length by omega, List.take_length, h2] at e
    by_cases h5 : l[l.length - 1].2 = 5
    · rw [if_pos h5] at e
      have m := misB_false (h.2 (l.length - 1) (by omega))
      rw [← e] at m
      have := (m.2 (by omega)).2.1
      omega
    · rw [if_neg h5] at e; exact e.symm
theorem turn_first {l : List Mk} (h : Turn l) (h0 : 0 < l.length) : l[0].2 = 1 := (misB_false (h.2 0 h0)).1 rfl
theorem time_law {l : List Mk} (v : List St) (h : Turn l) (h2 : lastM l = 2) : (tS v l).2.2.getLastD 0 = msM (multK v) (pS v l false (l.length - 1)) := by
  obtain ⟨n, e, hn, hk⟩ := turn_last h h2
  have s := spl_law v h l.length (Nat.le_refl _)
  rw [List.take_length] at s
  rw [s, e, spl_out v l n hn (.inr hk), Nat.add_sub_cancel]
  simp
theorem pS_loads (v : List St) (l : List Mk) : ∀ k, (h : k < l.length) → pS v l true k = begM v l[k].1 - begM v (l[0]'(by omega)).1 := by
  intro k
  induction k with
  | zero => intro h; simp [pS]
  | succ k ih =>
    intro h
    rw [pS_on v l true k h (.inl rfl), ih (by omega)]; omega
theorem whole_law {l : List Mk} (v : List St) (h : Turn l) (h2 : lastM l = 2) (h0 : 0 < l.length) : (tS v [l[0], l[l.length - 1]]).2.2.getLastD 0 = msM (multK v) (pS v l true (l.length - 1)) := by
  obtain ⟨n, e, hn, hk⟩ := turn_last h h2
  have hf := turn_first h h0
  rw [pS_loads v l (l.length - 1) (by omega)]
  have hk' : l[l.length - 1].2 = 2 := by
    have : l.length - 1 = n := by omega
    simp only [this]; exact hk
  have e2 : tS v [l[0], l[l.length - 1]] = tstep v (tstep v (0, 0, []) l[0]) l[l.length - 1] := rfl
  rw [e2, tstep_on _ _ _ (.inl hf), tstep_out _ _ _ (by omega) (by omega)]
  simp
/-- Marks moved apart. -/
def shF (all d last : Int) (x : Mk) : Int := max last (min all (if x.2 = 2 ∨ x.2 = 3 then x.1 + d else x.1 - d))
def shS (all d : Int) (s : Int × List Mk) (x : Mk) : Int × List Mk := if x.2 = 5 then s else (shF all d s.1 x, s.2 ++ [(shF all d s.1 x, x.2)])
def shM (all d : Int) (l : List Mk) : Int × List Mk := l.foldl (shS all d) (0, [])
theorem shM_take (all d : Int) (l : List Mk) (k : Nat) (h : k < l.length) : shM all d (l.take (k + 1)) = shS all d (shM all d (l.take k)) l[k] := by
  unfold shM; rw [List.take_succ_eq_append_getElem h, List.foldl_append]; rfl
theorem shS_split {all d : Int} {s : Int × List Mk} {x : Mk} (h : x.2 = 5) : shS all d s x = s := by simp [shS, h]
theorem shS_not {all d : Int} {s : Int × List Mk} {x : Mk} (h : ¬ x.2 = 5) : shS all d s x = (shF all d s.1 x, s.2 ++ [(shF all d s.1 x, x.2)]) := by simp [shS, h]
theorem lastM_snoc (l : List Mk) (x : Mk) (h : ¬ x.2 = 5) : lastM (l ++ [x]) = x.2 := by simp [lastM, h]
theorem turn_snoc {l : List Mk} {x : Mk} (h : Turn l) (hx : 1 ≤ x.2 ∧ x.2 ≤ 5) (hm : misB x.2 (lastM l) = false) : Turn (l ++ [x]) := by
  refine ⟨fun y hy => ?_, fun k hk => ?_⟩
  · rcases List.mem_append.1 hy with hy | hy
    · exact h.1 y hy
    · simp at hy; subst hy; exact hx
  · rcases Nat.lt_or_ge k l.length with hl | hl
    · rw [List.getElem_append_left hl, List.take_append_of_le_length (by omega)]; exact h.2 k hl
    · have : k = l.length := by simp at hk; omega
      subst this
      rw [List.take_left']
      · simpa using hm
      · rfl
theorem rises_snoc {l : List Mk} {x : Mk} (h : Rises l) (hx : ∀ y ∈ l, y.1 ≤ x.1) : Rises (l ++ [x]) := by
  intro k hk
  simp at hk
  rcases Nat.lt_or_ge (k + 1) l.length with hl | hl
  · rw [List.getElem_append_left hl, List.getElem_append_left (by omega)]; exact h k hl
  · have : k + 1 = l.length := by omega
    rw [List.getElem_append_left (by omega), List.getElem_append_right (by omega)]
    simpa using hx _ (List.getElem_mem _)
structure Sh (all : Int) (l : List Mk) (s : Int × List Mk) : Prop where
  last : 0 ≤ s.1 ∧ s.1 ≤ all
  bd : ∀ y ∈ s.2, 0 ≤ y.1 ∧ y.1 ≤ s.1
  rises : Rises s.2
  turn : Turn s.2
  kind : lastM s.2 = lastM l
  len : s.2.length ≤ l.length
theorem sh_inv {all d : Int} {l : List Mk} (h : Turn l) (ha : 0 ≤ all) : ∀ k, k ≤ l.length → Sh all (l.take k) (shM all d (l.take k)) := by
  intro k
  induction k with
  | zero => intro _; exact ⟨by simp [shM, ha], by simp [shM], by intro k hk; simp [shM] at hk, ⟨by simp [shM], by intro k hk; simp [shM] at hk⟩, by simp [shM], by simp [shM]⟩
  | succ k ih =>
    intro hk
    have hlt : k < l.length := by omega
    have i := ih (by omega)
    have m := h.2 k hlt
    have hkind := h.1 _ (List.getElem_mem hlt)
    have hln : (l.take (k + 1)).length = (l.take k).length + 1 := by simp; omega
    rw [shM_take all d l k hlt]
    by_cases h5 : l[k].2 = 5
    · rw [shS_split h5]
      exact ⟨i.last, i.bd, i.rises, i.turn, by rw [lastM_take l k hlt, if_pos h5]; exact i.kind, by have := i.len; omega⟩
    · rw [shS_not h5]
      have hb : (shM all d (l.take k)).1 ≤ shF all d (shM all d (l.take k)).1 l[k] ∧ shF all d (shM all d (l.take k)).1 l[k] ≤ all := by have := i.last; unfold shF; omega
      generalize shF all d (shM all d (l.take k)).1 l[k] = f at *
      refine ⟨by have := i.last; simp; omega, ?_, rises_snoc i.rises (fun y hy => by have := i.bd y hy; simp; omega), turn_snoc i.turn (by simpa using hkind) (by rw [i.kind]; exact m), ?_, by have := i.len; simp at this hln ⊢; omega⟩
      · intro y hy
        have hl := i.last
        rcases List.mem_append.1 hy with hy | hy
        · have := i.bd y hy; simp; omega
        · simp at hy; subst hy; simp; omega
      · rw [lastM_take l k hlt, if_neg h5]; exact lastM_snoc _ _ (by simpa using h5)
theorem sh_all {all d : Int} {l : List Mk} (h : Turn l) (ha : 0 ≤ all) : Sh all l (shM all d l) := by
  have := sh_inv (d := d) h ha l.length (Nat.le_refl _)
  rwa [List.take_length] at this
/-- Marks some frames later. -/
def mvL (all d : Int) (l : List Mk) : List Mk := if (0 ≤ d + 10000000 ∧ d ≤ 10000000) ∧ ∀ x ∈ l, 0 ≤ x.1 + d ∧ x.1 + d ≤ all then l.map fun x => (x.1 + d, x.2) else []
def mvE (all d : Int) (l : List Mk) : Int := if (0 ≤ d + 10000000 ∧ d ≤ 10000000) ∧ ∀ x ∈ l, 0 ≤ x.1 + d ∧ x.1 + d ≤ all then 0 else 1
theorem mv_ok {all d : Int} {l : List Mk} (h : (0 ≤ d + 10000000 ∧ d ≤ 10000000) ∧ ∀ x ∈ l, 0 ≤ x.1 + d ∧ x.1 + d ≤ all) : mvL all d l = (l.map fun x => (x.1 + d, x.2)) ∧ mvE all d l = 0 := ⟨if_pos h, if_pos h⟩
theorem mv_bad {all d : Int} {l : List Mk} (h : ¬ ((0 ≤ d + 10000000 ∧ d ≤ 10000000) ∧ ∀ x ∈ l, 0 ≤ x.1 + d ∧ x.1 + d ≤ all)) : mvL all d l = [] ∧ mvE all d l = 1 := ⟨if_neg h, if_neg h⟩
theorem mv_take {all d : Int} {l : List Mk} {k : Nat} (hk : k < l.length) (h : ∀ x ∈ l.take k, 0 ≤ x.1 + d ∧ x.1 + d ≤ all) (hx : 0 ≤ l[k].1 + d ∧ l[k].1 + d ≤ all) : ∀ x ∈ l.take (k + 1), 0 ≤ x.1 + d ∧ x.1 + d ≤ all := by
  intro x hx'
  rw [List.take_succ_eq_append_getElem hk] at hx'
  rcases List.mem_append.1 hx' with h' | h'
  · exact h x h'
  · simp at h'; subst h'; exact hx
end Go.Proofs.YtlinbaojkmcbeaaGreatDoor
/- The walk of the stream's function that draws a video. -/
namespace Go.Proofs.YtlinbaojkmcbeaaGreatDoor
set_option linter.unusedVariables false
set_option linter.unusedSimpArgs false
open Go.RowKit

theorem ty_trs : SliceTy Tryz.prog 26 42 3 24 := .mk' Tryz.underlying26 (z := .agg #[.int .i64 0, .int .i64 0, .int .i64 0]) (by kernel_rfl) rfl (by decide)
theorem Blk.grown {w w' : World} {g k : Nat} {t : TypeId} {cs : Array Value} (h : Blk w k t cs) (hb : w.grownBy w' (some g)) (hg : k ≠ g) : Blk w' k t cs := (hb.block k h.lt (fun e => hg (by injection e))).trans h

def rates : List (Int × Int) := [(60, 1), (30000, 1001), (25, 1), (1, 1), (1000, 1), (7, 3)]
def rates7 : List (Int × Int) := [(0, 1), (2, 2), (1, 2), (1001, 1), (99991, 1000), (99989, 1001), (60, 1)]
theorem rates_le : ∀ p ∈ rates, p.1 ≤ 9223372036854775807 := by decide
theorem rates7_le : ∀ p ∈ rates7, p.1 ≤ 9223372036854775807 := by decide
def VideoPost (w : World) (g N : Nat) (e : Ending) (w' : World) : Prop :=
  ∃ (A : Option Addr) (c : Nat) (v : List St), e = .returned (.slice A v.length c) ∧ w'.ownsRow w.heap.size 42 3 (.slice A v.length c) v.length (trs v) ∧ v.length ≤ 4 ∧ (∀ s ∈ v, s.2.1 ≤ 9223372036854775807) ∧ Str w' g N ∧ w.grownBy w' (some g)
theorem own_trs_set3 {w : World} {base : Nat} {e : TypeId} {g c : Nat} {v : List St} (h : w.ownsRow base e 3 (.slice (some ⟨g, 0, none⟩) v.length c) v.length (trs v)) (k : Nat) (hk : k < v.length) (x y z : Int) :
    (((w.setCell ⟨g, k * 3, none⟩ (.int .i64 x)).setCell ⟨g, k * 3 + 1, none⟩ (.int .i64 y)).setCell ⟨g, k * 3 + 2, none⟩ (.int .i64 z)).ownsRow base e 3 (.slice (some ⟨g, 0, none⟩) v.length c) v.length (trs (v.set k (x, y, z))) := by
  rw [← trs_set3 v k hk]
  exact (((h.stored (k * 3) _).1.stored (k * 3 + 1) _).1.stored (k * 3 + 2) _).1

set_option maxHeartbeats 1000000 in
theorem video_any (g N : Nat) (w : World) (hs : Str w g N) (hN : N < 4611686018427387000) :
    Calls Tryz.prog 5 #[.pointer (some ⟨g, 0, none⟩)] w (VideoPost w g (N + 40)) := by
  have hlt := hs.lt
  go_enter Tryz.func5, Tryz.ntmps5
  go_wp2_with fail
  have hbl := Blk.new w 40 #[.int .i64 60, .int .i64 1, .int .i64 30000, .int .i64 1001, .int .i64 25, .int .i64 1, .int .i64 1, .int .i64 1, .int .i64 1000, .int .i64 1, .int .i64 7, .int .i64 3]
  refine (range_any g N _ _ _ (by repeat (first | exact hs | refine Str.alloc ?_ _ | refine Str.drewN ?_ _ | refine Str.drew ?_)) (by omega) (by omega) (by omega) (by omega)).mono ?_
  rintro e w1 ⟨r, rfl, h0, h6, hs1, hg1⟩
  have hbl1 := hbl.grown hg1 (by omega)
  have hgw1 : w.grownBy w1 (some g) := grown_trans' (World.grownBy_alloc _ _ _) hg1
  clear hbl hg1
  obtain ⟨m, rfl⟩ := Int.eq_ofNat_of_zero_le h0
  go_wp2_with fail
  go_loopw [4, 15] (fun v i wr => ∃ (k : Nat) (A : Option Addr) (c : Nat) (ps : List St), k ≤ m ∧ i = .int .i64 k ∧ v = .slice A ps.length c ∧ wr.ownsRow (w.heap.size + 1) 42 3 (.slice A ps.length c) ps.length (trs ps) ∧ ps.length ≤ k ∧ Hid (∀ s ∈ ps, s.2.1 ≤ 9223372036854775807) ∧ Str wr g (N + 1 + 2 * k) ∧ w.grownBy wr (some g) ∧ Blk wr w.heap.size 40 #[.int .i64 60, .int .i64 1, .int .i64 30000, .int .i64 1001, .int .i64 25, .int .i64 1, .int .i64 1, .int .i64 1, .int .i64 1000, .int .i64 1, .int .i64 7, .int .i64 3]) (fun _ i _ => m - (intOf i).toNat)
  case atStart => exact ⟨0, none, 0, [], by omega, rfl, rfl, World.ownsRow_nil _ _ _ _, by simp, Lib.hid (by simp), hs1, hgw1, hbl1⟩
  case round =>
    obtain ⟨k, A, c, ps, hk, rfl, rfl, hown, hpk, hle, hsr, hgr, hblr⟩ := hrel
    by_cases hkm : k < m
    · go_wp2_with fail
      refine (pick_any g _ _ _ _ [1, 2, 10, 60, 500] _ (hsr.alloc _) (by omega) (row_new _ _ _ _ _ _ (Nat.le_refl _) rfl) hsr.lt (by simp) (by simp)).mono ?_
      rintro e w3 ⟨r3, rfl, -, hs3, hg3⟩
      have hgr3 := grown_trans' (grown_alloc hgr _) hg3
      have hown3 := own_grown (hown.alloc _) hg3 (by omega)
      have hbl3 := (hblr.alloc _).grown hg3 (by omega)
      clear hblr hown hg3
      go_wp2_with fail
      refine (next_any g _ _ _ hs3 (by omega) (by omega)).mono ?_
      rintro e w4 ⟨r4, rfl, h40, h41, -, hs4, hg4⟩
      have h42 := h41 (by omega)
      clear h41
      have hgr4 := grown_trans' hgr3 hg4
      have hown4 := own_grown hown3 hg4 (by omega)
      have hbl4 := hbl3.grown hg4 (by omega)
      clear hbl3 hown3 hg4
      obtain ⟨j, rfl⟩ := Int.eq_ofNat_of_zero_le h40
      have hj : j < rates.length := by have : rates.length = 6 := rfl; omega
      have hrr : Row w4 0 2 (some ⟨w.heap.size, 0, none⟩) rates.length (prs rates) := Row.lit hbl4 (Nat.zero_le _) rfl
      obtain ⟨b, off, he, _, _, c1, c2⟩ := hrr.pr_at hj
      have hrl := rates_le rates[j] (List.getElem_mem _)
      clear hrr
      injection he with he
      injection he with he1 he2
      subst he1 he2
      rw [Nat.zero_add] at c1 c2
      generalize rates[j] = q at *
      have z4 := hgr4.size
      have z5 := hbl4.lt
      go_wp2_with (at_builtin; go_must (refine wpList_app (lo := w.heap.size) (base := w.heap.size + 1) (n := ps.length) (xs := trs ps) _ _ rfl _ _ ty_trs rfl (by repeat (first | exact hown4 | refine World.ownsRow.alloc ?_ _ | refine own_drewN ?_ _ | refine World.ownsRow.drew ?_)) rfl (by first | exact row_new' _ (by first | rfl | simp) (by first | omega | (simp; omega)) rfl | exact row_newN _ _ (by first | rfl | simp) (by first | omega | (simp; omega)) rfl | exact row_newD _ (by first | rfl | simp) (by first | omega | (simp; omega)) rfl) rfl rfl (by omega) (by omega) (by first | omega | (simp; omega)) ?_))
      intro A5 c5 w5 hown5 hg5 _
      go_wp2_with fail
      go_roundw
      case rel => exact ⟨k + 1, A5, c5, ps ++ [(r3, q.1, q.2)], by omega, by go_num, by simp, by simpa [trs] using hown5, by simp; omega, Lib.hid (by intro s hs; rcases List.mem_append.1 hs with h | h; exact hle.out s h; simp at h; subst h; exact hrl), ((hs4.alloc _).app (hown4.alloc _) hg5 (by omega)).more (by omega), grown_app (grown_alloc hgr4 _) (hown4.alloc _) hg5 (by omega), Blk.app (hown4.alloc _) (hbl4.alloc _) hg5 (by decide)⟩
      case measure => simp [intOf]; omega
    · by_cases hp : 0 < ps.length
      · have hp' : decide (0 < ps.length) = true := by simpa using hp
        clear hblr
        go_wp2_with fail
        refine (flip_any g _ _ _ hsr (by omega) (by omega)).mono ?_
        rintro e w2 ⟨r2, rfl, hs2, hg2⟩
        cases r2
        · go_wp2_with fail
          refine bodyPost_ret (results_tmp rfl _ _ _) rfl ?_
          exact ⟨A, c, ps, rfl, own_weak (own_grown hown hg2 (by omega)) (by omega), by omega, hle.out, hs2.more (by omega), grown_trans' hgr hg2⟩
        · have hown2 := own_grown hown hg2 (by omega)
          go_wp2_with fail
          refine (next_any g _ _ _ hs2 (by omega) (by omega)).mono ?_
          rintro e w3 ⟨r3, rfl, h30, h31, h32, hs3, hg3⟩
          have h33 := h31 (by omega)
          clear h31
          have hown3 := own_grown hown2 hg3 (by omega)
          have hgr3 := grown_trans' (grown_trans' hgr hg2) hg3
          clear hown hown2 hg2 hg3
          obtain ⟨j, rfl⟩ := Int.eq_ofNat_of_zero_le h30
          have hj : j < ps.length := by omega
          obtain ⟨gb, rfl, hgb, hgb', hcb, hfb⟩ := ownBlk hown3 hp
          have c1 := hcb _ _ (trs_at ps j hj).1
          clear hcb hfb
          go_wp2_with fail
          refine (pick_any g _ _ _ _ [ps[j].1, 0, 10000000, 10000001] _ (hs3.alloc _) (by omega) (row_new _ _ _ _ _ _ (Nat.le_refl _) rfl) hs3.lt (by simp) (by simp)).mono ?_
          rintro e w4 ⟨r4, rfl, -, hs4, hg4⟩
          have hgr4 := grown_trans' (grown_alloc hgr3 _) hg4
          have hown4 := own_grown (hown3.alloc _) hg4 (by omega)
          have zz := hgr4.size
          have hbn := Blk.new w4 40 #[.int .i64 0, .int .i64 1, .int .i64 2, .int .i64 2, .int .i64 1, .int .i64 2, .int .i64 1001, .int .i64 1, .int .i64 99991, .int .i64 1000, .int .i64 99989, .int .i64 1001, .int .i64 60, .int .i64 1]
          clear hown3 hg4 c1
          go_wp2_with fail
          refine (next_any g _ _ _ (hs4.alloc _) (by omega) (by omega)).mono ?_
          rintro e w5 ⟨r5, rfl, h50, h51, -, hs5, hg5⟩
          have h53 := h51 (by omega)
          clear h51
          have hb5 := hbn.grown hg5 (by have := hs4.lt; omega)
          have hown5 := own_grown (hown4.alloc _) hg5 (by omega)
          have hgr5 := grown_trans' (grown_alloc hgr4 _) hg5
          clear hbn hown4 hg5
          obtain ⟨i, rfl⟩ := Int.eq_ofNat_of_zero_le h50
          have hi : i < rates7.length := by have : rates7.length = 7 := rfl; omega
          have hrr : Row w5 0 2 (some ⟨w4.heap.size, 0, none⟩) rates7.length (prs rates7) := Row.lit hb5 (Nat.zero_le _) rfl
          obtain ⟨b, off, he, _, _, c1, c2⟩ := hrr.pr_at hi
          have hrl := rates7_le rates7[i] (List.getElem_mem _)
          clear hrr
          injection he with he
          injection he with he1 he2
          subst he1 he2
          rw [Nat.zero_add] at c1 c2
          generalize rates7[i] = q at *
          obtain ⟨gb2, hA, _, _, hcb, hfb⟩ := ownBlk hown5 hp
          injection hA with hA
          injection hA with hA
          subst hA
          have d0 := hcb _ _ (trs_at ps j hj).1
          have d1 := hcb _ _ (trs_at ps j hj).2.1
          have d2 := hcb _ _ (trs_at ps j hj).2.2
          have f0 := hfb (j * 3)
          have f1 := hfb (j * 3 + 1)
          have f2 := hfb (j * 3 + 2)
          clear hcb hfb
          go_wp2_with fail
          refine bodyPost_ret (results_tmp rfl _ _ _) rfl ?_
          exact ⟨some ⟨gb, 0, none⟩, c, ps.set j (r4, q.1, q.2), by simp, own_weak (by simpa using own_trs_set3 hown5 j hj r4 q.1 q.2) (by omega), by simp; omega, by
            intro s hs
            rcases List.mem_or_eq_of_mem_set hs with h | h
            · exact hle.out s h
            · subst h; exact hrl, (((hs5.set (by simp; omega) _).set (by simp; omega) _).set (by simp; omega) _).more (by omega), grown_set_new (grown_set_new (grown_set_new hgr5 (by simp; omega) _) (by simp; omega) _) (by simp; omega) _⟩
      · have hp' : decide (0 < ps.length) = false := by simpa using hp
        go_wp2_with fail
        refine bodyPost_ret (results_tmp rfl _ _ _) rfl ?_
        exact ⟨A, c, ps, rfl, own_weak hown (by omega), by omega, hle.out, hsr.more (by omega), hgr⟩
end Go.Proofs.YtlinbaojkmcbeaaGreatDoor
/- The walks of MarksFault and NoneFault. -/
namespace Go.Proofs.YtlinbaojkmcbeaaGreatDoor
set_option linter.unusedVariables false
set_option linter.unusedSimpArgs false
open Go.RowKit

/-- How the reference tells what is misplaced. -/
theorem misB_true {x a : Int} (h : misB x a = true) : (a = 0 → x ≠ 1) ∧ (a ≠ 0 → x = 1 ∨ a = 2 ∨ ((a == 3) = true ∧ (x == 4) = false) ∨ ((a == 3) = false ∧ (x == 4) = true)) := by
  unfold misB at h
  by_cases h1 : a = 0 ∨ x = 1
  · rw [if_pos h1] at h
    simp at h
    omega
  · rw [if_neg h1] at h
    by_cases h2 : a = 2
    · omega
    · rw [if_neg h2] at h
      by_cases h3 : a = 3
      · rw [if_pos h3] at h; simp at h; subst h3; simp; omega
      · rw [if_neg h3] at h; simp at h; simp; omega
theorem misB_same {x a : Int} (h : misB x a = false) (ha : a ≠ 0) : ((a == 3) = true ∧ (x == 4) = true) ∨ ((a == 3) = false ∧ (x == 4) = false) := by
  have m := (misB_false h).2 ha
  simp
  omega
/-- What is known of the last kind, when all marks before are right. -/
theorem last_next {x a : Int} (hx : 1 ≤ x ∧ x ≤ 5) (h : misB x a = false) : ((if x = 5 then a else x) == 3) = (x == 3) ∧ ((if x = 5 then a else x) == 2) = (x == 2) ∧ (if x = 5 then a else x) ≠ 0 := by
  have m := misB_false h
  have key : ((if x = 5 then a else x) = 3 ↔ x = 3) ∧ ((if x = 5 then a else x) = 2 ↔ x = 2) ∧ (if x = 5 then a else x) ≠ 0 := by
    by_cases h5 : x = 5
    · rw [if_pos h5]
      have a0 : a ≠ 0 := fun h0 => by have := m.1 h0; omega
      have := m.2 a0
      omega
    · rw [if_neg h5]; omega
  generalize (if x = 5 then a else x) = q at *
  refine ⟨?_, ?_, key.2.2⟩
  · rw [Bool.eq_iff_iff]; simpa using key.1
  · rw [Bool.eq_iff_iff]; simpa using key.2.1

set_option maxHeartbeats 400000 in
theorem noneFault_any (b : Bool) (w : World) : Calls Tryz.prog 33 #[.bool b] w fun e w' => e = .returned (.int .i64 (if b = true then 8 else 0)) ∧ w = w' := by
  cases b
  · go_enter Tryz.func33, Tryz.ntmps33
    go_wp2_with fail
    go_ret
    exact ⟨rfl, rfl⟩
  · go_enter Tryz.func33, Tryz.ntmps33
    go_wp2_with fail
    go_ret
    exact ⟨rfl, rfl⟩

set_option maxHeartbeats 4000000 in
theorem marksFault_any (lo lo' c d : Nat) (A B : Option Addr) (v : List St) (l : List Mk) (w : World) (hr : Row w lo 3 A v.length (trs v)) (hrm : Row w lo' 2 B l.length (prs l)) (hl : v.length ≤ 1000000000) (hlm : l.length ≤ 1000000000) (hi : ∀ s ∈ v, s.2.1 ≤ 9223372036854775807) :
    Calls Tryz.prog 8 #[.slice A v.length c, .slice B l.length d] w fun e w' => e = .returned (.int .i64 (mkFault v l)) ∧ Below w.heap.size w w' := by
  have HI := Lib.hid hi
  clear hi
  go_enter Tryz.func8, Tryz.ntmps8
  go_wp2_with fail
  refine (videoFault_any _ _ _ v _ hr hl HI.out).mono ?_
  rintro e w1 ⟨rfl, hb1⟩
  by_cases h0 : vFault v = 0
  · have h0' : (vFault v != 0) = false := by simpa using h0
    have HE := Lib.hid (mkFault_ok (l := l) h0)
    have HG := Lib.hid (vFault_ok h0)
    clear h0
    by_cases hlong : 200 < l.length
    · have HF := Lib.hid (mkF_long (all := fsum v) hlong)
      go_wp2_with fail
      go_ret
      exact ⟨ret_int' (by rw [HE.out, HF.out]), hb1⟩
    · have s1 := HG.out.sum
      have s0 := fsum_nonneg v HG.out.nonneg
      go_wp2_with fail
      clear h0'
      go_loopw [6, 7, 20] (fun a b i wr => ∃ k : Nat, k ≤ l.length ∧ i = .int .i64 k ∧ a = .bool (lastM (l.take k) == 3) ∧ b = .bool (lastM (l.take k) == 2) ∧ Hid (∀ j, j < k → mF (fsum v) l j = 0) ∧ Hid (lastM (l.take k) = 0 ↔ k = 0) ∧ Below w.heap.size w wr) (fun _ _ i _ => l.length - (intOf i).toNat)
      case atStart => exact ⟨0, Nat.zero_le _, rfl, rfl, rfl, Lib.hid (fun j hj => absurd hj (by omega)), Lib.hid (by simp [lastM]), hb1⟩
      case round =>
        obtain ⟨k, hk, rfl, rfl, rfl, hv, H0, hbw⟩ := hrel
        have zw := hbw.size
        by_cases hlt : k < l.length
        · have hrw := hrm.below hbw
          have hrv := hr.below hbw
          obtain ⟨b, off, hB, _, hbs, c0, c1⟩ := hrw.pr_at hlt
          have HBAD := Lib.hid (mkF_bad (all := fsum v) k (by omega) hlt hv.out)
          have HAT := Lib.hid (mF_at (fsum v) l k hlt)
          have HLT := Lib.hid (lastM_take l k hlt)
          have HP : Hid (∀ j, k = j + 1 → prevM l k = some (l.getD j (0, 0))) := Lib.hid (by
            rintro j rfl
            simp only [prevM, Nat.add_one_ne_zero, if_false, Nat.add_sub_cancel]
            rw [List.getD_eq_getElem?_getD, List.getElem?_eq_getElem (by omega)]; rfl)
          have HCP : Hid (∀ w2, Below wr.heap.size wr w2 → ∀ j, k = j + 1 → w2.cell? ⟨b, off + j * 2, none⟩ = some (.int .i64 (l.getD j (0, 0)).1)) := Lib.hid (by
            rintro w2 hw2 j rfl
            obtain ⟨b', off', hB', _, _, c0', _⟩ := (hrw.below hw2).pr_at (k := j) (by omega)
            rw [hB] at hB'
            injection hB' with hB'
            injection hB' with e1 e2
            subst e1 e2
            rw [List.getD_eq_getElem?_getD, List.getElem?_eq_getElem (by omega)]
            exact c0')
          subst hB
          generalize lastM (l.take k) = la at *
          generalize hxk : l[k] = x at *
          clear hxk hrw
          go_wp2_with fail
          refine (in_any _ _ _ _).mono ?_
          rintro e w3 ⟨rfl, rfl⟩
          by_cases h1 : 1 ≤ x.2 ∧ x.2 ≤ 5
          · have h1' : (decide (1 ≤ x.2) && decide (x.2 ≤ 5)) = true := by simp; omega
            rw [h1']
            clear h1'
            have kb0 := Blk.new wr 45 #[.int .i64 x.1, .int .i64 x.2]
            have hba : Below wr.heap.size wr (wr.alloc (.cells #[.int .i64 x.1, .int .i64 x.2] 45)) := (Below.refl _ _).alloc (Nat.le_refl _) _
            have hrva := hrv.alloc (.cells #[.int .i64 x.1, .int .i64 x.2] 45)
            have kc0 : (wr.alloc (.cells #[.int .i64 x.1, .int .i64 x.2] 45)).cell? ⟨wr.heap.size, 0, none⟩ = some (.int .i64 x.1) := kb0.cell 0
            generalize hwa : wr.alloc (.cells #[.int .i64 x.1, .int .i64 x.2] 45) = wa at *
            have hbx : Below w.heap.size w wa := by rw [← hwa]; exact (by repeat (first | exact hbw | refine Below.alloc ?_ (by first | omega | (simp; omega)) _ | refine below_drewN' ?_ _ | refine Below.drew ?_))
            clear hwa c0 c1
            have kb0d : Blk wa.drew wr.heap.size 45 #[.int .i64 x.1, .int .i64 x.2] := kb0
            have kc0d : wa.drew.cell? ⟨wr.heap.size, 0, none⟩ = some (.int .i64 x.1) := kc0
            have hrvd : Row wa.drew lo 3 A v.length (trs v) := hrva
            have hbad : Below wr.heap.size wr wa.drew := hba.drew
            have hbxd : Below w.heap.size w wa.drew := hbx.drew
            go_wp2_with fail
            go_region_held3 (fun w' => w'.cell? ⟨wr.heap.size, 0, none⟩ = some (.int .i64 x.1)) (first | exact kc5 | exact kc0d) (first | (go_at_call 23; refine (framesIn_any _ _ lo v _ hrvd hl HG.out.nonneg (by omega)).mono ?_; rintro e w5 ⟨rfl, hb5⟩; have kb5 := Blk.below kb0d hb5; have hba5 := below_up hbad hb5; have hbx5 := below_up hbxd hb5; have kc5 : w5.cell? ⟨wr.heap.size, 0, none⟩ = some (.int .i64 x.1) := kb5.cell 0) | (go_at_call 32; refine (in_any _ _ _ _).mono ?_; rintro e w6 ⟨rfl, rfl⟩))
            all_goals
              have kd5 : w5.cell? ⟨wr.heap.size, 1, none⟩ = some (.int .i64 x.2) := kb5.cell 1
              clear kb0 kc0 kb0d kc0d hba hrva hbx hrvd hbad hbxd hb5 kb5
              by_cases h2 : 0 ≤ x.1 ∧ x.1 ≤ fsum v
              · have d1 : decide (0 ≤ x.1) = true := by simp; omega
                have d2 : decide (x.1 ≤ fsum v) = true := by simp; omega
                rw [d1, d2]
                have HRE := Lib.hid (mX_rest (p := prevM l k) (last := la) h1 h2)
                have H1 := Lib.hid h1
                clear h1 h2 d1 d2
                rcases Nat.eq_zero_or_pos k with hk0 | hk0
                · subst hk0
                  have HRX : Hid (mF (fsum v) l 0 = if misB x.2 la = true then 16 else 0) := Lib.hid (by rw [HAT.out, HRE.out]; rfl)
                  have la0 : la = 0 := H0.out.2 rfl
                  subst la0
                  go_wp2_with fail
                  go_quiet (fail)
                  by_cases h4 : misB x.2 0 = true
                  · have HF := Lib.hid (HBAD.out (by rw [HRX.out, if_pos h4]; omega))
                    have H4 := Lib.hid h4
                    have x1 : (x.2 == 1) = false := by have := (misB_true h4).1 rfl; simpa using this
                    clear h4
                    go_wp2_with fail
                    go_ret
                    exact ⟨ret_int' (by rw [HE.out, HF.out, HRX.out, if_pos H4.out]), (by repeat (first | exact hbx5 | refine Below.alloc ?_ (by first | omega | (simp; omega)) _ | refine below_drewN' ?_ _ | refine Below.drew ?_))⟩
                  · have h4' : misB x.2 0 = false := by simpa using h4
                    have xx : x.2 = 1 := (misB_false h4').1 rfl
                    have HNX := Lib.hid (last_next H1.out h4')
                    rw [← HLT.out] at HNX
                    have HN : Hid (∀ j, j < 0 + 1 → mF (fsum v) l j = 0) := Lib.hid (by
                      intro j hj
                      have : j = 0 := by omega
                      subst this
                      rw [HRX.out, if_neg h4])
                    have x1 : (x.2 == 1) = true := by simpa using xx
                    have x4 : (x.2 == 4) = false := by simp; omega
                    clear h4 h4' xx
                    go_wp2_with fail
                    go_roundw
                    case rel => exact ⟨0 + 1, by omega, by go_num, by rw [HNX.out.1], by rw [HNX.out.2.1], HN, Lib.hid ⟨fun h => absurd h HNX.out.2.2, fun h => absurd h (by omega)⟩, (by repeat (first | exact hbx5 | refine Below.alloc ?_ (by first | omega | (simp; omega)) _ | refine below_drewN' ?_ _ | refine Below.drew ?_))⟩
                    case measure => simp [intOf]; omega
                · obtain ⟨j, rfl⟩ : ∃ j, k = j + 1 := ⟨k - 1, by omega⟩
                  have hcp := HCP.out w5 hba5 j rfl
                  have HRX : Hid (mF (fsum v) l (j + 1) = if x.1 < (l.getD j (0, 0)).1 then 7 else if misB x.2 la = true then 16 else 0) := Lib.hid (by rw [HAT.out, HRE.out, HP.out j rfl]; simp)
                  have HLA : Hid (la ≠ 0) := Lib.hid (fun h => by have := H0.out.1 h; omega)
                  generalize (l.getD j (0, 0)).1 = y at *
                  have wj : IntKind.i64.wrap ((j : Int) + 1 - 1) = j := by rw [show (j : Int) + 1 - 1 = j by omega]; exact IntWalk.i64_in _ ⟨by omega, by omega⟩
                  by_cases h3 : x.1 < y
                  · have t3 : decide (x.1 < y) = true := by simpa using h3
                    have HF := Lib.hid (HBAD.out (by rw [HRX.out, if_pos h3]; omega))
                    go_wp2_with fail
                    go_quiet (fail)
                    clear wj
                    go_wp2_with fail
                    go_ret
                    exact ⟨ret_int' (by rw [HE.out, HF.out, HRX.out, if_pos h3]), (by repeat (first | exact hbx5 | refine Below.alloc ?_ (by first | omega | (simp; omega)) _ | refine below_drewN' ?_ _ | refine Below.drew ?_))⟩
                  · have t3 : decide (x.1 < y) = false := by simpa using h3
                    have H3 := Lib.hid h3
                    clear h3
                    go_wp2_with fail
                    go_quiet (fail)
                    clear wj t3
                    by_cases h4 : misB x.2 la = true
                    · have HF := Lib.hid (HBAD.out (by rw [HRX.out, if_neg (by have := H3.out; omega : ¬ x.1 < y), if_pos h4]; omega))
                      have H4 := Lib.hid h4
                      have HR2 := Lib.hid ((misB_true h4).2 HLA.out)
                      clear h4
                      by_cases a2 : la = 2
                      · have t2 : (la == 2) = true := by simpa using a2
                        clear a2 HR2
                        go_wp2_with fail
                        go_ret
                        exact ⟨ret_int' (by rw [HE.out, HF.out, HRX.out, if_neg (by have := H3.out; omega : ¬ x.1 < y), if_pos H4.out]), (by repeat (first | exact hbx5 | refine Below.alloc ?_ (by first | omega | (simp; omega)) _ | refine below_drewN' ?_ _ | refine Below.drew ?_))⟩
                      · have t2 : (la == 2) = false := by simpa using a2
                        by_cases b1 : x.2 = 1
                        · have x1 : (x.2 == 1) = true := by simpa using b1
                          clear a2 b1 HR2
                          go_wp2_with fail
                          go_ret
                          exact ⟨ret_int' (by rw [HE.out, HF.out, HRX.out, if_neg (by have := H3.out; omega : ¬ x.1 < y), if_pos H4.out]), (by repeat (first | exact hbx5 | refine Below.alloc ?_ (by first | omega | (simp; omega)) _ | refine below_drewN' ?_ _ | refine Below.drew ?_))⟩
                        · have x1 : (x.2 == 1) = false := by simpa using b1
                          rcases HR2.out with h | h | ⟨p, q⟩ | ⟨p, q⟩
                          · exact absurd h b1
                          · exact absurd h a2
                          · clear a2 b1 HR2
                            go_wp2_with fail
                            go_ret
                            exact ⟨ret_int' (by rw [HE.out, HF.out, HRX.out, if_neg (by have := H3.out; omega : ¬ x.1 < y), if_pos H4.out]), (by repeat (first | exact hbx5 | refine Below.alloc ?_ (by first | omega | (simp; omega)) _ | refine below_drewN' ?_ _ | refine Below.drew ?_))⟩
                          · clear a2 b1 HR2
                            go_wp2_with fail
                            go_ret
                            exact ⟨ret_int' (by rw [HE.out, HF.out, HRX.out, if_neg (by have := H3.out; omega : ¬ x.1 < y), if_pos H4.out]), (by repeat (first | exact hbx5 | refine Below.alloc ?_ (by first | omega | (simp; omega)) _ | refine below_drewN' ?_ _ | refine Below.drew ?_))⟩
                    · have h4' : misB x.2 la = false := by simpa using h4
                      have HN : Hid (∀ i, i < j + 1 + 1 → mF (fsum v) l i = 0) := Lib.hid (by
                        intro i hi
                        rcases Nat.lt_or_ge i (j + 1) with h | h
                        · exact hv.out i h
                        · have : i = j + 1 := by omega
                          subst this
                          rw [HRX.out, if_neg (by have := H3.out; omega : ¬ x.1 < y), if_neg h4])
                      have mm := (misB_false h4').2 HLA.out
                      have t2 : (la == 2) = false := by simpa using mm.2.1
                      have x1 : (x.2 == 1) = false := by simpa using mm.1
                      have HNX := Lib.hid (last_next H1.out h4')
                      rw [← HLT.out] at HNX
                      rcases misB_same h4' HLA.out with ⟨p, q⟩ | ⟨p, q⟩
                      · clear h4 h4' mm
                        go_wp2_with fail
                        go_roundw
                        case rel => exact ⟨(j + 1) + 1, by omega, by go_num, by rw [HNX.out.1], by rw [HNX.out.2.1], HN, Lib.hid ⟨fun h => absurd h HNX.out.2.2, fun h => absurd h (by omega)⟩, (by repeat (first | exact hbx5 | refine Below.alloc ?_ (by first | omega | (simp; omega)) _ | refine below_drewN' ?_ _ | refine Below.drew ?_))⟩
                        case measure => simp [intOf]; omega
                      · clear h4 h4' mm
                        go_wp2_with fail
                        go_roundw
                        case rel => exact ⟨(j + 1) + 1, by omega, by go_num, by rw [HNX.out.1], by rw [HNX.out.2.1], HN, Lib.hid ⟨fun h => absurd h HNX.out.2.2, fun h => absurd h (by omega)⟩, (by repeat (first | exact hbx5 | refine Below.alloc ?_ (by first | omega | (simp; omega)) _ | refine below_drewN' ?_ _ | refine Below.drew ?_))⟩
                        case measure => simp [intOf]; omega
              · have HA := Lib.hid (mX_arg (p := prevM l k) (last := la) h1 h2)
                have HF := Lib.hid (HBAD.out (by rw [HAT.out, HA.out]; omega))
                have dd : (!decide (0 ≤ x.1) || !decide (x.1 ≤ fsum v)) = true := by simp; omega
                rw [dd]
                clear dd
                go_wp2_with fail
                go_ret
                exact ⟨ret_int' (by rw [HE.out, HF.out, HAT.out, HA.out]), (by repeat (first | exact hbx5 | refine Below.alloc ?_ (by first | omega | (simp; omega)) _ | refine below_drewN' ?_ _ | refine Below.drew ?_))⟩
          · have h1' : (decide (1 ≤ x.2) && decide (x.2 ≤ 5)) = false := by simp; omega
            have HA := Lib.hid (mX_kind (all := fsum v) (p := prevM l k) (last := la) h1)
            have HF := Lib.hid (HBAD.out (by rw [HAT.out, HA.out]; omega))
            rw [h1']
            go_wp2_with fail
            go_ret
            exact ⟨ret_int' (by rw [HE.out, HF.out, HAT.out, HA.out]), (by repeat (first | exact hbw | refine Below.alloc ?_ (by first | omega | (simp; omega)) _ | refine below_drewN' ?_ _ | refine Below.drew ?_))⟩
        · have hkk : k = l.length := by omega
          subst hkk
          have HF := Lib.hid (mkF_good (by omega) hv.out)
          rw [List.take_length]
          by_cases h2 : lastM l = 2
          · have t2 : (lastM l == 2) = true := by simpa using h2
            have HF2 : Hid (mkF (fsum v) l = 0) := Lib.hid (by rw [HF.out, if_pos h2])
            rw [t2]
            clear h2 t2
            go_wp2_with fail
            refine (noneFault_any _ _).mono ?_
            rintro e w3 ⟨rfl, rfl⟩
            go_wp2_with fail
            go_ret
            exact ⟨ret_int' (by rw [HE.out, HF2.out]), hbw⟩
          · have t2 : (lastM l == 2) = false := by simpa using h2
            have HF2 : Hid (mkF (fsum v) l = 8) := Lib.hid (by rw [HF.out, if_neg h2])
            rw [t2]
            clear h2 t2
            go_wp2_with fail
            refine (noneFault_any _ _).mono ?_
            rintro e w3 ⟨rfl, rfl⟩
            go_wp2_with fail
            go_ret
            exact ⟨ret_int' (by rw [HE.out, HF2.out]), hbw⟩
  · have h0' : (vFault v != 0) = true := by simpa using h0
    have HE := Lib.hid (mkFault_bad (l := l) h0)
    clear h0
    go_wp2_with fail
    go_ret
    exact ⟨ret_int' HE.out.symm, hb1⟩
end Go.Proofs.YtlinbaojkmcbeaaGreatDoor
/- The walks of slices.Equal over integers and marks, of rounded, playedTo, TimeOf and SplitsBy. -/
namespace Go.Proofs.YtlinbaojkmcbeaaGreatDoor
set_option linter.unusedVariables false
set_option linter.unusedSimpArgs false
open Go.RowKit

set_option maxHeartbeats 1000000 in
theorem equalM_any (A B : Option Addr) (c d lo lo' : Nat) (ps qs : List (Int × Int)) (w : World) (hr : Row w lo 2 A ps.length (prs ps)) (hr' : Row w lo' 2 B qs.length (prs qs)) (hl : ps.length ≤ 1000000000) (hl' : qs.length ≤ 1000000000) :
    Calls Tryz.prog 14 #[.slice A ps.length c, .slice B qs.length d] w fun e w' => e = .returned (.bool (decide (ps = qs))) ∧ ∃ q, w' = w.drewN q := by
  by_cases hlen : ps.length = qs.length
  · have h0 : ((ps.length : Int) != (qs.length : Int)) = false := by simp [hlen]
    have HLEN := Lib.hid hlen
    clear hlen
    go_enter Tryz.func14, Tryz.ntmps14
    go_wp2_with fail
    go_loopw [13] (fun i wr => ∃ (k : Nat) (q : Nat), k ≤ ps.length ∧ i = .int .i64 k ∧ Hid (ps.take k = qs.take k) ∧ wr = w.drewN q) (fun i _ => ps.length - (intOf i).toNat)
    case atStart => exact ⟨0, 0, Nat.zero_le _, rfl, Lib.hid rfl, rfl⟩
    case round =>
      obtain ⟨k, q, hk, rfl, htk, rfl⟩ := hrel
      by_cases hlt : k < ps.length
      · obtain ⟨b, off, rfl, _, hbs, c0, c1⟩ := hr.pr_at hlt
        have hlt' : k < qs.length := by have := HLEN.out; omega
        obtain ⟨b', off', rfl, _, hbs', d0, d1⟩ := hr'.pr_at hlt'
        by_cases he : ps[k] = qs[k]
        · have HN : Hid (ps.take (k + 1) = qs.take (k + 1)) := Lib.hid (by rw [List.take_succ_eq_append_getElem hlt, List.take_succ_eq_append_getElem hlt', htk.out, he])
          rw [← he] at d0 d1
          clear he
          go_wp2_with fail
          go_quiet (fail)
          go_wp2_with fail
          go_roundw
          case rel => exact ⟨k + 1, _, by omega, by go_num, HN, rfl⟩
          case measure => simp [intOf]; omega
        · have HN : Hid (¬ ps = qs) := Lib.hid (fun h => he (by subst h; rfl))
          by_cases he1 : ps[k].1 = qs[k].1
          · have e1 : (ps[k].1 == qs[k].1) = true := by simpa using he1
            have e2 : (ps[k].2 == qs[k].2) = false := by simpa using fun h => he (Prod.ext he1 h)
            clear he he1
            go_wp2_with fail
            go_quiet (fail)
            go_wp2_with fail
            go_ret
            exact ⟨ret_bool' (by simp [HN.out]), _, World.drewN_drewN _ _ _⟩
          · have e1 : (ps[k].1 == qs[k].1) = false := by simpa using he1
            clear he he1
            go_wp2_with fail
            go_quiet (fail)
            go_wp2_with fail
            go_ret
            exact ⟨ret_bool' (by simp [HN.out]), _, World.drewN_drewN _ _ _⟩
      · have HN : Hid (ps = qs) := Lib.hid (by
          have := htk.out
          have hh := HLEN.out
          rwa [List.take_of_length_le (by omega), List.take_of_length_le (by omega)] at this)
        go_wp2_with fail
        go_ret
        exact ⟨ret_bool' (by simp [HN.out]), _, rfl⟩
  · have h0 : ((ps.length : Int) != (qs.length : Int)) = true := by rw [bne_iff_ne]; omega
    have HN : Hid (¬ ps = qs) := Lib.hid (fun h => hlen (by rw [h]))
    clear hlen
    go_enter Tryz.func14, Tryz.ntmps14
    go_wp2_with fail
    go_ret
    exact ⟨ret_bool' (by simp [HN.out]), 0, rfl⟩

end Go.Proofs.YtlinbaojkmcbeaaGreatDoor
/- The walk of slices.Equal over stretches that are the same. -/
namespace Go.Proofs.YtlinbaojkmcbeaaGreatDoor
set_option linter.unusedVariables false
set_option linter.unusedSimpArgs false
open Go.RowKit

set_option maxHeartbeats 1000000 in
theorem equalT_any (A B : Option Addr) (c d lo lo' : Nat) (ps qs : List St) (w : World) (hr : Row w lo 3 A ps.length (trs ps)) (hr' : Row w lo' 3 B qs.length (trs qs)) (hl : ps.length ≤ 1000000000) (heq : ps = qs) :
    Calls Tryz.prog 13 #[.slice A ps.length c, .slice B qs.length d] w fun e w' => e = .returned (.bool true) ∧ ∃ q, w' = w.drewN q := by
  subst heq
  have h0 : ((ps.length : Int) != (ps.length : Int)) = false := by simp
  go_enter Tryz.func13, Tryz.ntmps13
  go_wp2_with fail
  go_loopw [13] (fun i wr => ∃ (k : Nat) (q : Nat), k ≤ ps.length ∧ i = .int .i64 k ∧ wr = w.drewN q) (fun i _ => ps.length - (intOf i).toNat)
  case atStart => exact ⟨0, 0, Nat.zero_le _, rfl, rfl⟩
  case round =>
    obtain ⟨k, q, hk, rfl, rfl⟩ := hrel
    by_cases hlt : k < ps.length
    · obtain ⟨b, off, rfl, _, hbs, c0, c1, c2⟩ := hr.tr_at hlt
      obtain ⟨b', off', rfl, _, hbs', d0, d1, d2⟩ := hr'.tr_at hlt
      go_wp2_with fail
      go_quiet (fail)
      go_wp2_with fail
      go_roundw
      case rel => exact ⟨k + 1, _, by omega, by go_num, rfl⟩
      case measure => simp [intOf]; omega
    · go_wp2_with fail
      go_ret
      exact ⟨rfl, _, rfl⟩
end Go.Proofs.YtlinbaojkmcbeaaGreatDoor
/- copy at elements of more than one cell; the walk of slices.Repeat at one pair of numbers. -/
namespace Go.Proofs.YtlinbaojkmcbeaaGreatDoor
set_option linter.unusedVariables false
set_option linter.unusedSimpArgs false
open Go.RowKit

theorem run_copy_rowN {P : Program} (w : World) (dT sT ty elem : TypeId) (g o dLen dCap : Nat) (a : Addr) (sLen sCap : Nat) (cur : Array Value) (t : TypeId) (cs : List Value) (size m : Nat)
    (hu : P.underlying dT = some (.slice elem)) (hs : (P.info? elem).map (·.size) = some size)
    (hg : w.heap[g]? = some (.cells cur t (0, 0))) (hm : m = Nat.min sLen dLen) (hn : cs.length = m * size)
    (hsrc : ∀ j v, cs[j]? = some v → w.cell? (a.add j) = some v) (hfit : o + cs.length ≤ cur.size) (h1 : ∀ v ∈ cs, v.oneCell' = true) :
    (Builtin.copy_ #[dT, sT] ty #[.slice (some ⟨g, o, none⟩) dLen dCap, .slice (some a) sLen sCap]).run P w =
      .ok (goInt m) (w.setRow g (cur.toList.take o ++ cs ++ cur.toList.drop (o + cs.length)).toArray) := by
  have hl := run_loadCells_list (P := P) w a cs hsrc
  have hst := run_storeCells_at P g o t cs 0 cur w hg (by simpa using hfit) h1
  cases hq : P.info? elem with
  | none => simp [hq] at hs
  | some i =>
    have hi : i.size = size := by simpa [hq] using hs
    rw [hn] at hl
    subst hm
    simp [Builtin.copy_, run_underlying hu, Builtin.lenOf, Builtin.firstCells, sizeOf, typeInfo, hq, hi, hl, hst]

theorem wpList_copyN {P : Program} {w : World} {ops : Array Oper} {rest : List Oper} {o : Oper} {a : Act} {Q : Exit → Act → World → Prop} (hgd : o.guard = none) (d s : Operand) (dT sT : TypeId)
    (ho : o.op = .call { callee := .builtin .copy, args := #[d, s], argTypes := #[dT, sT] }) (elem : TypeId) (size m : Nat) (hu : P.underlying dT = some (.slice elem)) (hsz : (P.info? elem).map (·.size) = some size)
    (g off dLen dCap : Nat) (ad : Addr) (sLen sCap : Nat) (hd : a.eval d = .slice (some ⟨g, off, none⟩) dLen dCap) (hs : a.eval s = .slice (some ad) sLen sCap)
    (cur : List Value) (t : TypeId) (hg : w.heap[g]? = some (.cells cur.toArray t (0, 0))) (cs : List Value) (hm : m = Nat.min sLen dLen) (hn : cs.length = m * size)
    (hsrc : ∀ j v, cs[j]? = some v → w.cell? (ad.add j) = some v) (hfit : off + cs.length ≤ cur.length) (h1 : ∀ v ∈ cs, v.oneCell' = true) (B : Nat) (w0 : World) (hb : Below B w0 w) (hBg : B ≤ g)
    (h : ∀ w', Hid (w'.heap[g]? = some (.cells (splice cur off cs).toArray t (0, 0))) → Below B w0 w' → wpList P ops Q rest (a.put o.dst (goInt m)) w') : wpList P ops Q (o :: rest) a w := by
  refine wpList_plain hgd fun K hK => ?_
  have hrun := run_copy_rowN (P := P) w dT sT o.type elem g off dLen dCap ad sLen sCap cur.toArray t cs size m hu hsz hg hm hn hsrc (by simpa using hfit) h1
  unfold Oper.wp
  simp [execOp, ho, resolve, invoke, builtin, hd, hs, hrun, Result.andThen]
  exact hK _ _ (h _ (show _ = _ by simpa [splice] using setRow_heap w g _ _ t _ hg) (below_setRow hb hBg _))
theorem step_copyN {P : Program} {ops : Array Oper} {o : Oper} {a : Act} {w : World} {K : Act → World → Prop} {Q : Exit → Act → World → Prop} {E : Prop} (hgd : o.guard = none) (d s : Operand) (dT sT : TypeId)
    (ho : o.op = .call { callee := .builtin .copy, args := #[d, s], argTypes := #[dT, sT] }) (elem : TypeId) (size m : Nat) (hu : P.underlying dT = some (.slice elem)) (hsz : (P.info? elem).map (·.size) = some size)
    (g off dLen dCap : Nat) (ad : Addr) (sLen sCap : Nat) (hd : a.eval d = .slice (some ⟨g, off, none⟩) dLen dCap) (hs : a.eval s = .slice (some ad) sLen sCap)
    (cur : List Value) (t : TypeId) (hg : w.heap[g]? = some (.cells cur.toArray t (0, 0))) (cs : List Value) (hm : m = Nat.min sLen dLen) (hn : cs.length = m * size)
    (hsrc : ∀ j v, cs[j]? = some v → w.cell? (ad.add j) = some v) (hfit : off + cs.length ≤ cur.length) (h1 : ∀ v ∈ cs, v.oneCell' = true) (B : Nat) (w0 : World) (hb : Below B w0 w) (hBg : B ≤ g)
    (h : ∀ w', Hid (w'.heap[g]? = some (.cells (splice cur off cs).toArray t (0, 0))) → Below B w0 w' → K (a.put o.dst (goInt m)) w') :
    if Region.wanted o (yielded ops a.tmps) = true then Oper.wp P o a w K Q else E := by
  have hw : Region.wanted o (yielded ops a.tmps) = true := by simp [Region.wanted, hgd]
  rw [if_pos hw]
  have hrun := run_copy_rowN (P := P) w dT sT o.type elem g off dLen dCap ad sLen sCap cur.toArray t cs size m hu hsz hg hm hn hsrc (by simpa using hfit) h1
  unfold Oper.wp
  simp [execOp, ho, resolve, invoke, builtin, hd, hs, hrun, Result.andThen]
  exact h _ (show _ = _ by simpa [splice] using setRow_heap w g _ _ t _ hg) (below_setRow hb hBg _)

theorem prs_cons (p : Int × Int) (ps : List (Int × Int)) : prs (p :: ps) = .int .i64 p.1 :: .int .i64 p.2 :: prs ps := rfl
theorem prs_take (ps : List (Int × Int)) (k : Nat) : (prs ps).take (k * 2) = prs (ps.take k) := by
  induction ps generalizing k with
  | nil => simp [prs]
  | cons p ps ih =>
    cases k with
    | zero => rfl
    | succ k =>
      have e : (k + 1) * 2 = k * 2 + 1 + 1 := by omega
      rw [prs_cons, e, List.take_succ_cons, List.take_succ_cons, ih, List.take_succ_cons, prs_cons]
theorem prs_drop (ps : List (Int × Int)) (k : Nat) : (prs ps).drop (k * 2) = prs (ps.drop k) := by
  induction ps generalizing k with
  | nil => simp [prs]
  | cons p ps ih =>
    cases k with
    | zero => rfl
    | succ k =>
      have e : (k + 1) * 2 = k * 2 + 1 + 1 := by omega
      rw [prs_cons, e, List.drop_succ_cons, List.drop_succ_cons, ih, List.drop_succ_cons]
theorem prs_splice (ps qs : List (Int × Int)) (k : Nat) : splice (prs ps) (k * 2) (prs qs) = prs (splice ps k qs) := by
  unfold splice
  rw [prs_take, prs_len, ← Nat.add_mul, prs_drop, prs_app, prs_app]
def repP (p : Int × Int) (n k : Nat) : List (Int × Int) := List.replicate k p ++ List.replicate (n - k) (0, 0)
theorem repP_len (p : Int × Int) (n k : Nat) (hk : k ≤ n) : (repP p n k).length = n := by simp [repP]; omega
theorem repP_splice (p : Int × Int) (n k m : Nat) (_ : k + m ≤ n) : splice (repP p n k) k (List.replicate m p) = repP p n (k + m) := by
  unfold splice repP
  rw [List.take_left' (by simp), List.length_replicate, List.drop_append, List.drop_replicate, List.drop_replicate, List.length_replicate]
  have e1 : k - (k + m) = 0 := by omega
  have e2 : k + m - k = m := by omega
  have e3 : n - k - m = n - (k + m) := by omega
  rw [e1, e2, e3, List.replicate_zero, List.nil_append, ← List.append_assoc, List.replicate_append_replicate]
theorem repP_full (p : Int × Int) (n : Nat) : repP p n n = List.replicate n p := by simp [repP]
def repC (p : Int × Int) (n k : Nat) : List Value := prs (repP p n k)
def repS (p : Int × Int) (m : Nat) : List Value := prs (List.replicate m p)
theorem repC_len (p : Int × Int) (n k : Nat) (hk : k ≤ n) : (repC p n k).length = n * 2 := by rw [repC, prs_len, repP_len p n k hk]
theorem repS_len (p : Int × Int) (m : Nat) : (repS p m).length = m * 2 := by rw [repS, prs_len, List.length_replicate]
theorem repC_splice (p : Int × Int) (n k m : Nat) (h : k + m ≤ n) : splice (repC p n k) (k * 2) (repS p m) = repC p n (k + m) := by rw [repC, repS, prs_splice, repP_splice p n k m h, repC]
theorem repC_none (p : Int × Int) (n : Nat) : repC p n 0 = (madeCells #[.int .i64 0, .int .i64 0] (n * 2)).toList := by
  apply List.ext_getElem?
  intro j
  by_cases hj : j < n * 2
  · have h1 : (repC p n 0)[j]? = some (.int .i64 0) := by
      have h0 : repC p n 0 = List.replicate (n * 2) (.int .i64 0) := by
        rw [repC, repP]
        simp only [List.replicate_zero, List.nil_append, Nat.sub_zero]
        clear hj
        induction n with
        | zero => rfl
        | succ n ih =>
          have e : (n + 1) * 2 = n * 2 + 1 + 1 := by omega
          rw [List.replicate_succ, prs_cons, ih, e, List.replicate_succ, List.replicate_succ]
      rw [h0, List.getElem?_replicate, if_pos hj]
    rw [h1]
    have h2 : ((madeCells #[Value.int .i64 0, Value.int .i64 0] (n * 2)).toList)[j]? = some (#[Value.int .i64 0, Value.int .i64 0][j % 2]!) := by
      simp [madeCells, hj]
    rw [h2]
    have : j % 2 = 0 ∨ j % 2 = 1 := by omega
    rcases this with h | h <;> rw [h] <;> rfl
  · rw [List.getElem?_eq_none (by rw [repC_len p n 0 (by omega)]; omega), List.getElem?_eq_none (by simp [size_madeCells]; omega)]
theorem own_wholeN {w : World} {base : Nat} {e : TypeId} {g n size : Nat} {xs : List Value} (h : w.ownsRow base e size (.slice (some ⟨g, 0, none⟩) n n) n xs) : w.heap[g]? = some (.cells xs.toArray e (0, 0)) := by
  rcases h.2 with ⟨h0, _⟩ | ⟨g', cap, cur, hv, hg, hh, hcap, hm, hcs, ht⟩
  · cases h0
  · injection hv with h1 _ h3
    injection h1 with h1
    injection h1 with h1
    subst h1 h3
    rw [hh]
    rw [List.take_of_length_le (by simp [hcs])] at ht
    subst ht
    simp
theorem own_of_wholeN {w : World} {base : Nat} {e : TypeId} {g n size : Nat} {xs : List Value} (h : w.heap[g]? = some (.cells xs.toArray e (0, 0))) (hx : xs.length = n * size) (hb : base ≤ g) (hm : n ≤ 9223372036854775807) : w.ownsRow base e size (.slice (some ⟨g, 0, none⟩) n n) n xs :=
  ⟨hx, .inr ⟨g, n, xs.toArray, rfl, hb, h, Nat.le_refl _, by simp only [maxLen]; omega, by simp [hx], by rw [List.take_of_length_le (by simp [hx])]⟩⟩
theorem repC_src {w : World} {g : Nat} {e : TypeId} (p : Int × Int) (n k j : Nat) (v : Value) (m : Nat) (hm : m ≤ k) (hr : w.heap[g]? = some (.cells (repC p n k).toArray e (0, 0))) (hv : (repS p m)[j]? = some v) : w.cell? ((⟨g, 0, none⟩ : Addr).add j) = some v := by
  refine World.news_of_block hr j v ?_
  have e1 : repS p m = (repC p n k).take (m * 2) := by
    rw [repS, repC, prs_take, repP, List.take_append_of_le_length (by simp; omega), List.take_replicate]
    congr 2
    omega
  rw [e1] at hv
  have := (List.getElem?_eq_some_iff.1 hv).1
  rw [List.getElem?_take_of_lt (by simp at this; omega)] at hv
  simpa using hv
theorem sz_far : (Tryz.prog.info? 171).map (·.size) = some 2 := by kernel_rfl
theorem ty_fars : SliceTy Tryz.prog 175 171 2 16 := .mk' Tryz.underlying175 (z := .agg #[.int .i64 0, .int .i64 0]) (by kernel_rfl) rfl (by decide)
set_option maxRecDepth 100000 in
set_option maxHeartbeats 1000000 in
theorem repeatF_any (A : Option Addr) (c lo : Nat) (p : Int × Int) (n : Nat) (w : World) (hr : Row w lo 2 A 1 (prs [p])) (hn : n ≤ 1000000000) (hn1 : 1 ≤ n) :
    Calls Tryz.prog 181 #[.slice A 1 c, .int .i64 n] w fun e w' => ∃ A' c', e = .returned (.slice A' n c') ∧ w'.ownsRow w.heap.size 171 2 (.slice A' n c') n (prs (List.replicate n p)) ∧ Below w.heap.size w w' := by
  obtain ⟨und, ⟨i0, z0, hi0, hz0, hz1, hz2, hz3⟩, _⟩ := ty_fars
  have hz0' : z0 = .agg #[.int .i64 0, .int .i64 0] := by
    have : (Tryz.prog.info? 171).map (fun i => i.zero) = some (some (.agg #[.int .i64 0, .int .i64 0])) := by kernel_rfl
    rw [hi0] at this
    simp [hz0] at this
    exact this
  subst hz0'
  obtain ⟨sb, so, rfl, _, hsb, hsc⟩ := hr.2 (by omega)
  have hd0 : decide ((n : Int) < 0) = false := by simp
  have hd1 : decide ((9223372036854775807 : Int) < (n : Int)) = false := by simp; omega
  go_enter Tryz.func181, Tryz.ntmps181
  go_wp2_with fail
  refine (mul_one' n hn _).mono ?_
  rintro e w' ⟨rfl, rfl⟩
  go_wp2_with (first | (at_make; go_must (refine wpList_make_full _ rfl _ _ 175 rfl w.heap.size 171 i0 _ 2 und hi0 hz0 hz1 .i64 .i64 _ _ n rfl rfl rfl rfl (by rw [hz2]; omega) (by simp only [maxLen]; omega) (Nat.le_refl _) ?_)))
  intro w1 hown1 hg1
  rw [← repC_none p n] at hown1
  have HR0 := Lib.hid (own_wholeN hown1)
  have hb1 : Below w.heap.size w w1 := below_of_grown hg1 (Nat.le_refl _) (fun k hk => by cases hk)
  have hr1 := hr.below hb1
  have hl0 := repC_len p n 0 (by omega)
  have hs1 : ∀ j v, (repS p 1)[j]? = some v → w1.cell? ((⟨sb, so, none⟩ : Addr).add j) = some v := by
    intro j v hv
    have e : (⟨sb, so, none⟩ : Addr).add j = ⟨sb, so + j, none⟩ := by unfold Addr.add; split <;> simp_all
    rw [e, World.cell?_of_block (hb1.block sb hsb)]
    exact hsc j v hv
  have HS := Lib.hid hs1
  clear hown1 hs1 hsc
  go_wp2_with (refine wpList_copyN rfl (.tmp 31) (.tmp 32) 175 175 rfl 171 2 1 und sz_far w.heap.size 0 n n ⟨sb, so, none⟩ 1 c rfl rfl (repC p n 0) 171 HR0.out (repS p 1) (by simp only [Nat.min_def]; split <;> omega) (repS_len _ _) HS.out (by rw [repS_len]; omega) (prs_one _) w.heap.size w hb1 (Nat.le_refl _) ?_)
  intro w2 HR1 hb2
  have HR2 : Hid (w2.heap[w.heap.size]? = some (.cells (repC p n 1).toArray 171 (0, 0))) := by
    have h1 := HR1.out
    rw [show (0 : Nat) = 0 * 2 from rfl, repC_splice p n 0 1 (by omega), Nat.zero_add] at h1
    exact Lib.hid h1
  clear HR1 HR0 hl0 HS hr hr1
  go_wp2_with fail
  go_loopw [8] (fun i wr => ∃ k : Nat, k ≤ n ∧ 0 < k ∧ i = .int .i64 k ∧ Hid (wr.heap[w.heap.size]? = some (.cells (repC p n k).toArray 171 (0, 0))) ∧ Below w.heap.size w wr) (fun i _ => n - (intOf i).toNat)
  case atStart => exact ⟨1, by omega, by omega, rfl, HR2, hb2⟩
  case round =>
    obtain ⟨k, hk, hk1, rfl, HR, hbw⟩ := hrel
    by_cases hlt : k < n
    · have hl1 := repC_len p n k hk
      have HL1 := Lib.hid hl1
      clear hl1
      have hnk : ¬ n = k := by omega
      have hw1 : IntKind.i64.wrap ((k : Int) + ((min k (n - k) : Nat) : Int)) = (k : Int) + ((min k (n - k) : Nat) : Int) := IntWalk.i64_in _ ⟨by omega, by omega⟩
      generalize hm : min k (n - k) = m at hw1
      have HM := Lib.hid hm
      clear hm
      go_wp2_with fail
      go_region_law (refine step_copyN rfl (.tmp 41) (.tmp 44) 175 175 rfl 171 2 m und sz_far w.heap.size (k * 2) (n - k) (n - k) ⟨w.heap.size, 0, none⟩ k n (by simp [Act.eval, Act.put, hnk]) (by simp [Act.eval, Act.put]) (repC p n k) 171 HR.out (repS p m) (by have := HM.out; simp only [Nat.min_def] at this ⊢; exact this.symm) (repS_len _ _) (fun j v hv => repC_src p n k j v m (by have := HM.out; omega) HR.out hv) (by rw [repS_len, HL1.out]; have := HM.out; omega) (prs_one _) w.heap.size w hbw.drew (Nat.le_refl _) ?_; intro w3 HR3 hb3)
      have HR4 : Hid (w3.heap[w.heap.size]? = some (.cells (repC p n (k + m)).toArray 171 (0, 0))) := by
        have h1 := HR3.out
        rw [repC_splice p n k m (by have := HM.out; omega)] at h1
        exact Lib.hid h1
      clear HR3
      go_wp2_with fail
      go_frame
      clear hw1
      have := HM.out
      go_roundw
      case rel =>
        refine ⟨_, _, _, _, _, _, _, _, _, _, _, _, _, _, ?_, rfl⟩
        exact ⟨k + m, by omega, by omega, by simp, HR4, hb3⟩
      case measure => simp [intOf]; omega
    · have hkn : k = n := by omega
      subst hkn
      go_wp2_with fail
      go_ret
      refine ⟨_, _, rfl, ?_, hbw⟩
      have := own_of_wholeN (base := w.heap.size) (size := 2) HR.out (repC_len _ _ _ (Nat.le_refl _)) (Nat.le_refl _) (by omega)
      rw [repC, repP_full] at this
      exact this
end Go.Proofs.YtlinbaojkmcbeaaGreatDoor
