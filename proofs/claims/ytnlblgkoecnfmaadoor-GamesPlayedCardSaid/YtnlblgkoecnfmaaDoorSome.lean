/- The walk of Stream.Some: one of some strings. -/
import Derived.Test.YtnlblgkoecnfmaaDoorStr
namespace Go.Proofs.YtnlblgkoecnfmaaDoor
set_option linter.unusedVariables false
set_option linter.unusedSimpArgs false
open Go.RowKit Go.Sort

set_option maxHeartbeats 400000 in
theorem some_any (g N lo : Nat) (A : Option Addr) (c : Nat) (ss : List (List UInt8)) (w : World) (hs : Str w g N) (hN : N < 4611686018427387904) (hr : Row w lo 1 A ss.length (strs ss)) (hlo : g < lo) (hz : 0 < ss.length) (hz' : ss.length ≤ 1000000) :
    Calls Tryd.prog 22 #[.pointer (some ⟨g, 0, none⟩), .slice A ss.length c] w fun e w' => ∃ r : List UInt8, e = .returned (encStr r) ∧ r ∈ ss ∧ Str w' g (N + 1) ∧ w.grownBy w' (some g) := by
  go_enter Tryd.func22, Tryd.ntmps22
  go_wp2_with fail
  refine (next_any g N _ _ hs hN (by omega)).mono ?_
  rintro e w' ⟨r, rfl, h2, h3, h4, hs', hg⟩
  have h5 := h3 (by omega)
  obtain ⟨k, rfl⟩ := Int.eq_ofNat_of_zero_le h2
  have hk : k < ss.length := by omega
  obtain ⟨b, off, rfl, hlb, hb, hc⟩ := (hr.grown hg hlo).str_at hk
  clear h3
  go_wp2_with fail
  go_ret
  exact ⟨_, rfl, List.getElem_mem _, hs', hg⟩
end Go.Proofs.YtnlblgkoecnfmaaDoor
