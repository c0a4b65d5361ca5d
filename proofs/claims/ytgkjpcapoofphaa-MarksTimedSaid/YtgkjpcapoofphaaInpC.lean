/- The walks of Tidy, Frames, HeldAt and their references, and of slices' Index, Contains and Equal. -/
import Derived.Test.YtgkjpcapoofphaaInpB
import Derived.Test.YtgkjpcapoofphaaInpP
namespace Go.Proofs.Ytgkjpcapoofphaa
open Go.RowKit

theorem ret2_is {a b c d : Value} (h1 : a = c) (h2 : b = d) : Ending.returned (.tuple #[a, b]) = .returned (.tuple #[c, d]) := by rw [h1, h2]

set_option maxHeartbeats 400000 in
theorem index_any (A : Option Addr) (c lo : Nat) (zs : List Int) (x : Int) (w : World) (hr : Row w lo 1 A zs.length (ints zs)) (hl : zs.length ≤ 1000000000) :
    Calls Try.prog 97 #[.slice A zs.length c, .int .i64 x] w fun e w' => ∃ r : Int, e = .returned (.int .i64 r) ∧ (r < 0 ↔ x ∉ zs) ∧ w = w' := by
  go_enter Try.func97, Try.ntmps97
  go_wp2_with fail
  go_loop [8] (fun i => ∃ k : Nat, k ≤ zs.length ∧ i = .int .i64 k ∧ Hid (∀ y ∈ zs.take k, y ≠ x)) (fun i => zs.length - (intOf i).toNat)
  case atStart => exact ⟨0, Nat.zero_le _, rfl, Lib.hid (by simp)⟩
  case round =>
    obtain ⟨k, hk, rfl, hno⟩ := hrel
    by_cases hlt : k < zs.length
    · obtain ⟨b, off, rfl, _, hbs, c0⟩ := hr.int_at hlt
      by_cases he : x = zs[k]
      · have he' : (x == zs[k]) = true := by simpa using he
        have hm : Hid (x ∈ zs) := Lib.hid (by rw [he]; exact List.getElem_mem _)
        clear he
        go_wp2_with fail
        go_ret
        exact ⟨_, rfl, ⟨fun h => absurd h (by omega), fun h => absurd hm.out h⟩, rfl⟩
      · have he' : (x == zs[k]) = false := by simpa using he
        have hn : Hid (∀ y ∈ zs.take (k + 1), y ≠ x) := Lib.hid (by
          intro y hy
          rw [List.take_succ_eq_append_getElem hlt] at hy
          rcases List.mem_append.1 hy with h1 | h1
          · exact hno.out y h1
          · simp at h1; subst h1; exact fun h => he h.symm)
        clear he
        go_wp2_with fail
        go_round
        case rel => exact ⟨k + 1, by omega, by go_num, hn⟩
        case measure => simp [intOf]; omega
    · have hm : Hid (x ∉ zs) := Lib.hid (by
        have := hno.out
        rw [List.take_of_length_le (by omega)] at this
        exact fun h => this x h rfl)
      go_wp2_with fail
      go_ret
      exact ⟨-1, rfl, ⟨fun _ => hm.out, fun _ => by omega⟩, rfl⟩

set_option maxHeartbeats 400000 in
theorem contains_any (A : Option Addr) (c lo : Nat) (zs : List Int) (x : Int) (w : World) (hr : Row w lo 1 A zs.length (ints zs)) (hl : zs.length ≤ 1000000000) :
    Calls Try.prog 64 #[.slice A zs.length c, .int .i64 x] w fun e w' => e = .returned (.bool (decide (x ∈ zs))) ∧ w = w' := by
  go_enter Try.func64, Try.ntmps64
  go_wp2_with fail
  refine (index_any _ _ _ zs x _ hr hl).mono ?_
  rintro e w' ⟨r, rfl, hx, rfl⟩
  have HX := Lib.hid hx
  clear hx
  go_wp2_with fail
  go_ret
  refine ⟨ret_bool' ?_, rfl⟩
  have h := HX.out
  by_cases h1 : x ∈ zs
  · have : 0 ≤ r := by
      rcases Int.lt_or_le r 0 with h2 | h2
      · exact absurd h1 (h.1 h2)
      · exact h2
    simp [h1, this]
  · have := h.2 h1
    simp [h1]; omega

def btns : List Int := [1, 2, 4, 8, 16, 32]
def btnFault (b : Int) : Int := if b ∈ btns then 0 else 4

set_option maxHeartbeats 400000 in
theorem buttons_any (w : World) : Calls Try.prog 65 #[] w fun e w' => ∃ A c, e = .returned (.slice A btns.length c) ∧ Row w' w.heap.size 1 A btns.length (ints btns) ∧ Below w.heap.size w w' := by
  go_enter Try.func65, Try.ntmps65
  go_wp2_with fail
  go_ret
  exact ⟨_, _, rfl, row_new w _ _ _ _ _ (Nat.le_refl _) rfl, (Below.refl _ _).alloc (Nat.le_refl _) _⟩
set_option maxHeartbeats 400000 in
theorem rbuttons_any (w : World) : Calls Try.prog 69 #[] w fun e w' => ∃ A c, e = .returned (.slice A btns.length c) ∧ Row w' w.heap.size 1 A btns.length (ints btns) ∧ Below w.heap.size w w' := by
  go_enter Try.func69, Try.ntmps69
  go_wp2_with fail
  go_ret
  exact ⟨_, _, rfl, row_new w _ _ _ _ _ (Nat.le_refl _) rfl, (Below.refl _ _).alloc (Nat.le_refl _) _⟩

set_option maxHeartbeats 400000 in
theorem buttonFault_any (b : Int) (w : World) : Calls Try.prog 20 #[.int .i64 b] w fun e w' => e = .returned (.int .i64 (btnFault b)) ∧ Below w.heap.size w w' := by
  go_enter Try.func20, Try.ntmps20
  go_wp2_with fail
  refine (rbuttons_any _).mono ?_
  rintro e w1 ⟨A, c, rfl, hr, hb⟩
  go_wp2_with fail
  refine (contains_any _ _ _ btns b _ hr (by decide)).mono ?_
  rintro e w' ⟨rfl, rfl⟩
  by_cases h : b ∈ btns
  · have hd : decide (b ∈ btns) = true := by simpa using h
    rw [hd]
    have HF : Hid (btnFault b = 0) := Lib.hid (by simp [btnFault, h])
    clear h hd
    go_wp2_with fail
    go_ret
    exact ⟨ret_int' HF.out.symm, hb⟩
  · have hd : decide (b ∈ btns) = false := by simpa using h
    rw [hd]
    have HF : Hid (btnFault b = 4) := Lib.hid (by simp [btnFault, h])
    clear h hd
    go_wp2_with fail
    go_ret
    exact ⟨ret_int' HF.out.symm, hb⟩

set_option maxHeartbeats 400000 in
theorem tidyF_any (A : Option Addr) (c lo : Nat) (ps : List (Int × Int)) (w : World) (hr : Row w lo 2 A ps.length (prs ps)) (hl : ps.length ≤ 1000000000) :
    Calls Try.prog 11 #[.slice A ps.length c] w fun e w' => ∃ A' c', e = .returned (.tuple #[.slice A' (tidyR ps).length c', .int .i64 (inFault ps)]) ∧ Row w' w.heap.size 2 A' (tidyR ps).length (prs (tidyR ps)) ∧ Below w.heap.size w w' := by
  go_enter Try.func11, Try.ntmps11
  go_wp2_with fail
  refine (checkInput_any _ _ _ ps _ hr hl).mono ?_
  rintro e w1 ⟨rfl, hb1⟩
  by_cases h0 : inFault ps = 0
  · obtain ⟨h1, h2, h3⟩ := inFault_ok h0
    have h0' : (inFault ps != 0) = false := by simpa using h0
    have HF := Lib.hid (fold_unf ps fun p hp => by have := h2 p hp; omega)
    have H0 := Lib.hid h0
    clear h0
    go_wp2_with fail
    refine (tidy_any _ _ _ ps _ (hr.below hb1) hl (fun p hp => by have := h2 p hp; omega) (by omega)).mono ?_
    rintro e w2 ⟨A', c', rfl, hown, hb2⟩
    clear h2
    go_wp2_with fail
    go_ret2
    rw [tidyR_ok H0.out, HF.out]
    exact ⟨A', c', ret2_is rfl (by rw [H0.out]; rfl), (Row.of_own hown).weak hb1.size, below_up hb1 hb2⟩
  · have h0' : (inFault ps != 0) = true := by simpa using h0
    have H0 := Lib.hid h0
    clear h0
    go_wp2_with fail
    go_ret2
    rw [tidyR_bad H0.out]
    exact ⟨none, 0, rfl, Row.none_ _ _ _ _, hb1⟩

set_option maxHeartbeats 400000 in
theorem framesF_any (A : Option Addr) (c lo : Nat) (ps : List (Int × Int)) (w : World) (hr : Row w lo 2 A ps.length (prs ps)) (hl : ps.length ≤ 1000000000) :
    Calls Try.prog 12 #[.slice A ps.length c] w fun e w' => e = .returned (.tuple #[.int .i64 (framesR ps), .int .i64 (inFault ps)]) ∧ Below w.heap.size w w' := by
  go_enter Try.func12, Try.ntmps12
  go_wp2_with fail
  refine (checkInput_any _ _ _ ps _ hr hl).mono ?_
  rintro e w1 ⟨rfl, hb1⟩
  by_cases h0 : inFault ps = 0
  · obtain ⟨h1, h2, h3⟩ := inFault_ok h0
    have h0' : (inFault ps != 0) = false := by simpa using h0
    have HF := Lib.hid (unf_len ps fun p hp => by have := h2 p hp; omega)
    have H0 := Lib.hid h0
    clear h0
    go_wp2_with fail
    refine (frames_any _ _ _ ps _ (hr.below hb1) hl (fun p hp => by have := h2 p hp; omega) (by omega)).mono ?_
    rintro e w2 ⟨rfl, hb2⟩
    clear h2
    go_wp2_with fail
    go_ret2
    exact ⟨ret2_is (by rw [framesR_ok H0.out, HF.out]; rfl) (by rw [H0.out]; rfl), below_up hb1 hb2⟩
  · have h0' : (inFault ps != 0) = true := by simpa using h0
    have H0 := Lib.hid h0
    clear h0
    go_wp2_with fail
    go_ret2
    exact ⟨ret2_is (by rw [framesR_bad H0.out]; rfl) rfl, hb1⟩
end Go.Proofs.Ytgkjpcapoofphaa
