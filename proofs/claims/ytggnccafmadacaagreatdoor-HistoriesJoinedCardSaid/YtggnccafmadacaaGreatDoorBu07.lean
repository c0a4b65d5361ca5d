/- Texts of this seat, laid together: AgS. -/
import Derived.Test.YtggnccafmadacaaGreatDoorBu06
import Derived.Test.YtggnccafmadacaaGreatDoorBu03
/- The walks of ContainsFunc over strings, sumsFault and Some. -/
namespace Go.Proofs.YtggnccafmadacaaGreatDoor
set_option linter.unusedVariables false
set_option linter.unusedSimpArgs false
open Go.RowKit Go.Sort

theorem ty_strs : SliceTy Tryz.prog 33 9 1 16 := .mk' Tryz.underlying33 (z := .string ⟨#[]⟩) (by kernel_rfl) rfl (by decide)

def sF (l : List (List UInt8)) : Int := if (l.any fun s => !isSum s) = true then 3 else 0

set_option maxHeartbeats 400000 in
theorem some_any (g N lo : Nat) (A : Option Addr) (c : Nat) (ss : List (List UInt8)) (w : World) (hs : Str w g N) (hN : N < 4611686018427387904) (hr : Row w lo 1 A ss.length (strs ss)) (hlo : g < lo) (hz : 0 < ss.length) (hz' : ss.length ≤ 1000000) :
    Calls Tryz.prog 8 #[.pointer (some ⟨g, 0, none⟩), .slice A ss.length c] w fun e w' => ∃ r : List UInt8, e = .returned (encStr r) ∧ r ∈ ss ∧ Str w' g (N + 1) ∧ w.grownBy w' (some g) := by
  go_enter Tryz.func8, Tryz.ntmps8
  go_wp2_with fail
  refine (next_any g N _ _ hs hN (by omega)).mono ?_
  rintro e w' ⟨r, rfl, h2, h3, h4, hs', hg⟩
  have h5 := h3 (by omega)
  obtain ⟨k, rfl⟩ := Int.eq_ofNat_of_zero_le h2
  have hk : k < ss.length := by omega
  obtain ⟨b, off, rfl, hlb, hb, hc⟩ := (hr.grown hg hlo).str_at hk
  clear h3
  go_wp2_with fail
  go_ret
  exact ⟨_, rfl, List.getElem_mem _, hs', hg⟩
end Go.Proofs.YtggnccafmadacaaGreatDoor
