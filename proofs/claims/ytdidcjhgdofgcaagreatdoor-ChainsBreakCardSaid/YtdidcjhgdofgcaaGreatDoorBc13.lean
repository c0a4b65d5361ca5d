/- Texts of this seat, laid together: AgS. -/
import Derived.Test.YtdidcjhgdofgcaaGreatDoorBc10
import Derived.Test.YtdidcjhgdofgcaaGreatDoorBc02
/- The walks of ContainsFunc over strings, sumsFault and Some. -/
namespace Go.Proofs.YtdidcjhgdofgcaaGreatDoor
set_option linter.unusedVariables false
set_option linter.unusedSimpArgs false
open Go.RowKit Go.Sort

theorem ty_strs : SliceTy Tryz.prog 33 9 1 16 := .mk' Tryz.underlying33 (z := .string ⟨#[]⟩) (by kernel_rfl) rfl (by decide)

set_option maxHeartbeats 400000 in
theorem cloP_any (s : List UInt8) (w : World) (hs : s.length ≤ 9223372036854775807) : Calls Tryz.prog 92 #[encStr s] w fun e w' => e = .returned (.bool (!isSum s)) ∧ Below w.heap.size w w' := by
  go_enter Tryz.func92, Tryz.ntmps92
  go_wp2_with fail
  refine (isSum_any s _ hs).mono ?_
  rintro e w1 ⟨rfl, hb1⟩
  go_wp2_with fail
  go_ret
  exact ⟨rfl, hb1⟩

set_option maxHeartbeats 1000000 in
theorem indexFuncP_any (A : Option Addr) (c lo : Nat) (ss : List (List UInt8)) (w : World) (hr : Row w lo 1 A ss.length (strs ss)) (hl : ss.length ≤ 1000000000) (hs : ∀ s ∈ ss, s.length ≤ 9223372036854775807) :
    Calls Tryz.prog 124 #[.slice A ss.length c, .func (.func 92) #[] #[]] w fun e w' => ∃ r : Int, e = .returned (.int .i64 r) ∧ (decide (0 ≤ r) = ss.any fun s => !isSum s) ∧ Below w.heap.size w w' := by
  have HS := Lib.hid hs
  clear hs
  go_enter Tryz.func124, Tryz.ntmps124
  go_wp2_with fail
  go_loopw [8] (fun i wr => ∃ k : Nat, k ≤ ss.length ∧ i = .int .i64 k ∧ Hid ((ss.take k).any (fun s => !isSum s) = false) ∧ Below w.heap.size w wr) (fun i _ => ss.length - (intOf i).toNat)
  case atStart => exact ⟨0, Nat.zero_le _, rfl, Lib.hid (by simp), Below.refl _ _⟩
  case round =>
    obtain ⟨k, hk, rfl, hno, hbw⟩ := hrel
    by_cases hlt : k < ss.length
    · obtain ⟨b, off, rfl, _, hbs, c0⟩ := (hr.below hbw).str_at hlt
      have HT : Hid (ss.take (k + 1) = ss.take k ++ [ss[k]]) := Lib.hid (List.take_succ_eq_append_getElem hlt)
      have HM := Lib.hid (List.getElem_mem hlt)
      generalize ss[k] = z at *
      go_wp2_with fail
      refine (cloP_any z _ (HS.out z HM.out)).mono ?_
      rintro e w1 ⟨rfl, hb1⟩
      have hx1 := below_up hbw hb1
      clear hb1 c0
      cases hp : isSum z
      · have HP := Lib.hid hp
        clear hp
        go_wp2_with fail
        go_ret
        exact ⟨k, rfl, by rw [decide_eq_true (by omega)]; exact (List.any_eq_true.2 ⟨z, HM.out, by rw [HP.out]; rfl⟩).symm, hx1⟩
      · have HP := Lib.hid hp
        clear hp
        go_wp2_with fail
        go_roundw
        case rel => exact ⟨k + 1, by omega, by go_num, Lib.hid (by rw [HT.out, List.any_append, hno.out]; simp [HP.out]), hx1⟩
        case measure => simp [intOf]; omega
    · have HN : Hid ((ss.any fun s => !isSum s) = false) := Lib.hid (by have := hno.out; rwa [List.take_of_length_le (by omega)] at this)
      have hkk : k = ss.length := by omega
      subst hkk
      clear hno
      go_wp2_with fail
      go_ret
      exact ⟨-1, rfl, by rw [HN.out]; rfl, hbw⟩

set_option maxHeartbeats 400000 in
theorem containsFuncP_any (A : Option Addr) (c lo : Nat) (ss : List (List UInt8)) (w : World) (hr : Row w lo 1 A ss.length (strs ss)) (hl : ss.length ≤ 1000000000) (hs : ∀ s ∈ ss, s.length ≤ 9223372036854775807) :
    Calls Tryz.prog 91 #[.slice A ss.length c, .func (.func 92) #[] #[]] w fun e w' => e = .returned (.bool (ss.any fun s => !isSum s)) ∧ Below w.heap.size w w' := by
  go_enter Tryz.func91, Tryz.ntmps91
  go_wp2_with fail
  refine (indexFuncP_any A c lo ss _ hr hl hs).mono ?_
  rintro e w' ⟨r, rfl, h, hb⟩
  have H := Lib.hid h
  clear h hs
  go_wp2_with fail
  go_ret
  exact ⟨ret_bool' H.out, hb⟩

def sF (l : List (List UInt8)) : Int := if (l.any fun s => !isSum s) = true then 3 else 0

set_option maxHeartbeats 400000 in
theorem sumsFaultP_any (A : Option Addr) (c lo : Nat) (ss : List (List UInt8)) (w : World) (hr : Row w lo 1 A ss.length (strs ss)) (hl : ss.length ≤ 1000000000) (hs : ∀ s ∈ ss, s.length ≤ 9223372036854775807) :
    Calls Tryz.prog 68 #[.slice A ss.length c] w fun e w' => e = .returned (.int .i64 (sF ss)) ∧ Below w.heap.size w w' := by
  go_enter Tryz.func68, Tryz.ntmps68
  go_wp2_with fail
  refine (containsFuncP_any A c lo ss _ hr hl hs).mono ?_
  rintro e w1 ⟨rfl, hb1⟩
  clear hs
  cases hp : ss.any fun s => !isSum s
  · have HP : Hid (sF ss = 0) := Lib.hid (by rw [sF, hp]; rfl)
    clear hp
    go_wp2_with fail
    go_ret
    exact ⟨ret_int' HP.out.symm, hb1⟩
  · have HP : Hid (sF ss = 3) := Lib.hid (by rw [sF, hp]; rfl)
    clear hp
    go_wp2_with fail
    go_ret
    exact ⟨ret_int' HP.out.symm, hb1⟩

set_option maxHeartbeats 400000 in
theorem some_any (g N lo : Nat) (A : Option Addr) (c : Nat) (ss : List (List UInt8)) (w : World) (hs : Str w g N) (hN : N < 4611686018427387904) (hr : Row w lo 1 A ss.length (strs ss)) (hlo : g < lo) (hz : 0 < ss.length) (hz' : ss.length ≤ 1000000) :
    Calls Tryz.prog 7 #[.pointer (some ⟨g, 0, none⟩), .slice A ss.length c] w fun e w' => ∃ r : List UInt8, e = .returned (encStr r) ∧ r ∈ ss ∧ Str w' g (N + 1) ∧ w.grownBy w' (some g) := by
  go_enter Tryz.func7, Tryz.ntmps7
  go_wp2_with fail
  refine (next_any g N _ _ hs hN (by omega)).mono ?_
  rintro e w' ⟨r, rfl, h2, h3, h4, hs', hg⟩
  have h5 := h3 (by omega)
  obtain ⟨k, rfl⟩ := Int.eq_ofNat_of_zero_le h2
  have hk : k < ss.length := by omega
  obtain ⟨b, off, rfl, hlb, hb, hc⟩ := (hr.grown hg hlo).str_at hk
  clear h3
  go_wp2_with fail
  go_ret
  exact ⟨_, rfl, List.getElem_mem _, hs', hg⟩
end Go.Proofs.YtdidcjhgdofgcaaGreatDoor
