/- The walk of slices.Equal over bodies. -/
import Derived.Test.YtnlblgkoecnfmaaDoorGmJ
namespace Go.Proofs.YtnlblgkoecnfmaaDoor
set_option linter.unusedVariables false
set_option linter.unusedSimpArgs false
open Go.RowKit

theorem Row.six_at {w : World} {lo : Nat} {A : Option Addr} {v : List GS} (h : Row w lo 6 A v.length (gss v)) {k : Nat} (hk : k < v.length) :
    ∃ b off, A = some ⟨b, off, none⟩ ∧ lo ≤ b ∧ b < w.heap.size ∧ w.cell? ⟨b, off + k * 6, none⟩ = some (.int .i64 v[k].x) ∧ w.cell? ⟨b, off + k * 6 + 1, none⟩ = some (.int .i64 v[k].y) ∧ w.cell? ⟨b, off + k * 6 + 2, none⟩ = some (.int .i64 v[k].rise) ∧ w.cell? ⟨b, off + k * 6 + 3, none⟩ = some (.bool v[k].held) ∧ w.cell? ⟨b, off + k * 6 + 4, none⟩ = some (.int .i64 v[k].mask) ∧ w.cell? ⟨b, off + k * 6 + 5, none⟩ = some (.int .i64 v[k].fin) := by
  obtain ⟨b, off, e, hl, hb, hc⟩ := h.2 (by omega)
  obtain ⟨h0, h1, h2, h3, h4, h5⟩ := gss_at v k hk
  exact ⟨b, off, e, hl, hb, hc _ _ h0, by rw [Nat.add_assoc]; exact hc _ _ h1, by rw [Nat.add_assoc]; exact hc _ _ h2, by rw [Nat.add_assoc]; exact hc _ _ h3, by rw [Nat.add_assoc]; exact hc _ _ h4, by rw [Nat.add_assoc]; exact hc _ _ h5⟩
set_option maxHeartbeats 1000000 in
theorem equalB_any (A B : Option Addr) (c d lo lo' : Nat) (ps : List GS) (w : World) (hr : Row w lo 6 A ps.length (gss ps)) (hr' : Row w lo' 6 B ps.length (gss ps)) (hl : ps.length ≤ 1000000000) :
    Calls Tryd.prog 16 #[.slice A ps.length c, .slice B ps.length d] w fun e w' => e = .returned (.bool true) ∧ Below w.heap.size w w' := by
  have h0 : ((ps.length : Int) != (ps.length : Int)) = false := by simp
  go_enter Tryd.func16, Tryd.ntmps16
  go_wp2_with fail
  go_loopw [13] (fun i wr => ∃ (k : Nat), k ≤ ps.length ∧ i = .int .i64 k ∧ Below w.heap.size w wr) (fun i _ => ps.length - (intOf i).toNat)
  case atStart => exact ⟨0, Nat.zero_le _, rfl, Below.refl _ _⟩
  case round =>
    obtain ⟨k, hk, rfl, hbw⟩ := hrel
    have hsz := hbw.size
    by_cases hlt : k < ps.length
    · obtain ⟨b, off, rfl, _, hbs, c0, c1, c2, c3, c4, c5⟩ := (hr.below hbw).six_at hlt
      obtain ⟨b', off', rfl, _, hbs', d0, d1, d2, d3, d4, d5⟩ := (hr'.below hbw).six_at hlt
      generalize ps[k] = q at *
      obtain ⟨qx, qy, qr, qh, qm, qf⟩ := q
      dsimp only at c0 c1 c2 c3 c4 c5 d0 d1 d2 d3 d4 d5
      go_wp2_with fail
      go_quiet (fail)
      have hb2 : Below w.heap.size w (wr.drewN nq) := below_drewN' hbw nq
      generalize wr.drewN nq = wd at *
      clear c0 c1 c2 c3 c4 c5 d0 d1 d2 d3 d4 d5
      go_wp2_with fail
      go_roundw
      case rel => exact ⟨k + 1, by omega, by go_num, hb2⟩
      case measure => simp [intOf]; omega
    · go_wp2_with fail
      go_ret
      exact ⟨rfl, hbw⟩
end Go.Proofs.YtnlblgkoecnfmaaDoor
