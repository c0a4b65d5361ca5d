/- The walks of slices.Compare over integers, of the closure that orders flaws, and of pressFlaws. -/
import Derived.Test.YtlnencloodlnbaaFlA
import Derived.Shelf.GgSortFunc.InsertionK
namespace Go.Proofs.Ytlnencloodlnbaa
open Go.RowKit

/-- slices.Compare of two rows of one length: the first places that differ. -/
def cmpL : List Int → List Int → Int
  | [], _ => 0
  | _ :: _, [] => 0
  | x :: xs, y :: ys => if cmpI x y ≠ 0 then cmpI x y else cmpL xs ys
theorem cmpL_hit (a b : List Int) (k : Nat) (hk : k < a.length) (hk' : k < b.length) (h0 : a.take k = b.take k) (h : cmpI a[k] b[k] ≠ 0) : cmpL a b = cmpI a[k] b[k] := by
  induction a generalizing b k with
  | nil => simp at hk
  | cons x a ih =>
    cases b with
    | nil => simp at hk'
    | cons y b =>
      cases k with
      | zero => simp only [List.getElem_cons_zero] at h ⊢; simp only [cmpL]; rw [if_pos h]
      | succ k =>
        simp only [List.take_succ_cons, List.cons.injEq] at h0
        simp only [List.getElem_cons_succ] at h ⊢
        simp only [cmpL]
        rw [if_neg (by rw [(cmpI_eq x y).2 h0.1]; simp)]
        exact ih b k (by simpa using hk) (by simpa using hk') h0.2 h
theorem cmpL_none (a : List Int) : cmpL a a = 0 := by
  induction a with
  | nil => rfl
  | cons x a ih => simp only [cmpL]; rw [if_neg (by rw [(cmpI_eq x x).2 rfl]; simp), ih]

set_option maxHeartbeats 1000000 in
theorem compare_any (A B : Option Addr) (c d lo lo' : Nat) (a b : List Int) (w : World) (hr : Row w lo 1 A a.length (ints a)) (hr' : Row w lo' 1 B b.length (ints b)) (hl : a.length ≤ 1000000000) (hlen : a.length = b.length) :
    Calls Try.prog 31 #[.slice A a.length c, .slice B b.length d] w fun e w' => e = .returned (.int .i64 (cmpL a b)) ∧ w = w' := by
  have HLEN := Lib.hid hlen
  clear hlen
  go_enter Try.func31, Try.ntmps31
  go_wp2_with fail
  go_loop [11] (fun i => ∃ (k : Nat), k ≤ a.length ∧ i = .int .i64 k ∧ Hid (a.take k = b.take k)) (fun i => a.length - (intOf i).toNat)
  case atStart => exact ⟨0, Nat.zero_le _, rfl, Lib.hid rfl⟩
  case round =>
    obtain ⟨k, hk, rfl, htk⟩ := hrel
    by_cases hlt : k < a.length
    · obtain ⟨p, off, rfl, _, hbs, c0⟩ := hr.int_at hlt
      have hlt' : k < b.length := by have := HLEN.out; omega
      obtain ⟨p', off', rfl, _, hbs', d0⟩ := hr'.int_at hlt'
      have HH := Lib.hid (cmpL_hit a b k hlt hlt' htk.out)
      go_wp2_with fail
      refine (cmpInt_any _ _ _).mono ?_
      rintro e w1 ⟨rfl, rfl⟩
      by_cases he : cmpI a[k] b[k] = 0
      · have HN : Hid (a.take (k + 1) = b.take (k + 1)) := Lib.hid (by rw [List.take_succ_eq_append_getElem hlt, List.take_succ_eq_append_getElem hlt', htk.out, (cmpI_eq _ _).1 he])
        have g : (cmpI a[k] b[k] != 0) = false := by simpa using he
        clear he
        go_wp2_with fail
        go_round
        case rel => exact ⟨k + 1, by omega, by go_num, HN⟩
        case measure => simp [intOf]; omega
      · have g : (cmpI a[k] b[k] != 0) = true := by simpa using he
        have HN := Lib.hid (HH.out he)
        clear he
        go_wp2_with fail
        go_ret
        exact ⟨ret_int' HN.out.symm, rfl⟩
    · have HN : Hid (cmpL a b = 0) := Lib.hid (by
        have := htk.out
        have hh := HLEN.out
        rw [List.take_of_length_le (by omega), List.take_of_length_le (by omega)] at this
        rw [this]; exact cmpL_none b)
      have g : decide (a.length < b.length) = false := by have := HLEN.out; simp; omega
      go_wp2_with fail
      go_ret
      exact ⟨ret_int' HN.out.symm, rfl⟩

theorem cmpF_L (x y : Flw) : cmpL [x.1, x.2.1, x.2.2] [y.1, y.2.1, y.2.2] = cmpF x y := by
  unfold cmpF
  simp only [cmpL]
  split
  · rfl
  · split
    · rfl
    · split
      · rfl
      · rename_i h; simp at h; exact h.symm

def encF (x : Flw) : List Value := [.int .i64 x.1, .int .i64 x.2.1, .int .i64 x.2.2]
set_option maxHeartbeats 1000000 in
theorem flawsCmp_any (x y : Flw) (w : World) :
    Calls Try.prog 30 #[.agg #[.int .i64 x.1, .int .i64 x.2.1, .int .i64 x.2.2], .agg #[.int .i64 y.1, .int .i64 y.2.1, .int .i64 y.2.2]] w fun e w' => e = .returned (.int .i64 (cmpF x y)) ∧ ∃ os, w' = Sort.grow w os := by
  go_enter Try.func30, Try.ntmps30
  go_wp2_with fail
  refine (compare_any _ _ _ _ w.heap.size w.heap.size [x.1, x.2.1, x.2.2] [y.1, y.2.1, y.2.2] _ ((row_new' _ (by simp) (by simp; omega) rfl).alloc _) (row_new' _ (by simp) (by simp; omega) rfl) (by simp) rfl).mono ?_
  rintro e w1 ⟨rfl, rfl⟩
  rw [cmpF_L]
  go_wp2_with fail
  go_ret
  refine ⟨rfl, ?_⟩
  simp only [Sort.alloc_eq_grow, Sort.grow_grow]
  exact ⟨_, rfl⟩
end Go.Proofs.Ytlnencloodlnbaa
