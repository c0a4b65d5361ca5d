/- The walk of the stream's function that draws an input: pieces of what is held. -/
import Derived.Test.YtnlblgkoecnfmaaDoorStream
namespace Go.Proofs.YtnlblgkoecnfmaaDoor
set_option linter.unusedVariables false
set_option linter.unusedSimpArgs false
open Go.RowKit

theorem ty_prs : SliceTy Tryd.prog 28 58 2 16 := .mk' Tryd.underlying28 (z := .agg #[.int .i64 0, .int .i64 0]) (by kernel_rfl) rfl (by decide)

def PiecesPost (w : World) (g N : Nat) (e : Ending) (w' : World) : Prop :=
  ∃ (A : Option Addr) (c : Nat) (ps : List (Int × Int)), e = .returned (.slice A ps.length c) ∧ w'.ownsRow w.heap.size 58 2 (.slice A ps.length c) ps.length (prs ps) ∧ ps.length ≤ 6 ∧ Str w' g N ∧ w.grownBy w' (some g)

theorem grown_app {w w1 w2 : World} {g base : Nat} {e : TypeId} {size : Nat} {v : Value} {n : Nat} {xs : List Value} (h : w.grownBy w1 (some g)) (hown : w1.ownsRow base e size v n xs) (hg : w1.grownBy w2 v.ownBlock) (hb : w.heap.size ≤ base) : w.grownBy w2 (some g) :=
  ⟨hg.os.trans h.os, hg.tape.trans h.tape, hg.output.trans h.output, Nat.le_trans h.size hg.size, fun i hi hne => (hg.block i (Nat.lt_of_lt_of_le hi h.size) (fun e => by have := (hown.lt i e.symm).1; omega)).trans (h.block i hi hne)⟩

set_option maxHeartbeats 1000000 in
theorem pieces_any (g N : Nat) (w : World) (hs : Str w g N) (hN : N < 4611686018427387000) :
    Calls Tryd.prog 7 #[.pointer (some ⟨g, 0, none⟩)] w (PiecesPost w g (N + 40)) := by
  have hlt := hs.lt
  go_enter Tryd.func7, Tryd.ntmps7
  go_wp2_with fail
  refine (range_any g N _ _ _ hs (by omega) (by omega) (by omega) (by omega)).mono ?_
  rintro e w1 ⟨r, rfl, h0, h6, hs1, hg1⟩
  obtain ⟨m, rfl⟩ := Int.eq_ofNat_of_zero_le h0
  go_wp2_with fail
  go_loopw [3, 7] (fun v i wr => ∃ (k : Nat) (A : Option Addr) (c : Nat) (ps : List (Int × Int)), k ≤ m ∧ i = .int .i64 k ∧ v = .slice A ps.length c ∧ wr.ownsRow w.heap.size 58 2 (.slice A ps.length c) ps.length (prs ps) ∧ ps.length ≤ k ∧ Str wr g (N + 1 + 3 * k) ∧ w.grownBy wr (some g)) (fun _ i _ => m - (intOf i).toNat)
  case atStart => exact ⟨0, none, 0, [], by omega, rfl, rfl, World.ownsRow_nil _ _ _ _, by simp, hs1, hg1⟩
  case round =>
    obtain ⟨k, A, c, ps, hk, rfl, rfl, hown, hpk, hsr, hgr⟩ := hrel
    by_cases hkm : k < m
    · go_wp2_with fail
      refine (range_any g _ _ _ _ hsr (by omega) (by omega) (by omega) (by omega)).mono ?_
      rintro e w2 ⟨r2, rfl, h20, h26, hs2, hg2⟩
      go_wp2_with fail
      refine (pick_any g _ _ _ _ [0, 1, 2, 3, 16, 17, 18, 12, 63, r2] _ (hs2.alloc _) (by omega) (row_new _ _ _ _ _ _ (Nat.le_refl _) rfl) hs2.lt (by simp) (by simp)).mono ?_
      rintro e w3 ⟨r3, rfl, -, hs3, hg3⟩
      go_wp2_with fail
      refine (pick_any g _ _ _ _ [1, 1, 2, 3, 7, 30, 61] _ (hs3.alloc _) (by omega) (row_new _ _ _ _ _ _ (Nat.le_refl _) rfl) hs3.lt (by simp) (by simp)).mono ?_
      rintro e w4 ⟨r4, rfl, -, hs4, hg4⟩
      have hgr4 := grown_trans' (grown_alloc (grown_trans' (grown_alloc (grown_trans' hgr hg2) _) hg3) _) hg4
      have hown4 := own_grown (own_grown (own_grown hown hg2 hlt) (grown_trans' (World.grownBy_alloc _ _ _) hg3) hlt) (grown_trans' (World.grownBy_alloc _ _ _) hg4) hlt
      have z4 := hgr4.size
      go_wp2_with (at_builtin; refine wpList_app _ _ rfl _ _ ty_prs rfl (hown4.alloc _) rfl (row_new _ _ _ w.heap.size 2 1 z4 rfl) rfl rfl (by omega) (by omega) (by simp; omega) ?_)
      intro A5 c5 w5 hown5 hg5 _
      go_wp2_with fail
      go_roundw
      case rel => exact ⟨k + 1, A5, c5, ps ++ [(r3, r4)], by omega, by go_num, by simp, by simpa [prs] using hown5, by simp; omega, ((hs4.alloc _).app (hown4.alloc _) hg5 hlt).more (by omega), grown_app (grown_alloc hgr4 _) (hown4.alloc _) hg5 (Nat.le_refl _)⟩
      case measure => simp [intOf]; omega
    · by_cases hp : 0 < ps.length
      · have hp' : decide (0 < ps.length) = true := by simpa using hp
        go_wp2_with fail
        refine (flip_any g _ _ _ hsr (by omega) (by omega)).mono ?_
        rintro e w2 ⟨r2, rfl, hs2, hg2⟩
        cases r2
        · go_wp2_with fail
          refine bodyPost_ret (results_tmp rfl _ _ _) rfl ?_
          exact ⟨A, c, ps, rfl, own_grown hown hg2 hlt, by omega, hs2.more (by omega), grown_trans' hgr hg2⟩
        · have hown2 := own_grown hown hg2 hlt
          go_wp2_with fail
          refine (next_any g _ _ _ hs2 (by omega) (by omega)).mono ?_
          rintro e w3 ⟨r3, rfl, h30, h31, h32, hs3, hg3⟩
          have h33 := h31 (by omega)
          clear h31
          have hown3 := own_grown hown2 hg3 hlt
          obtain ⟨j, rfl⟩ := Int.eq_ofNat_of_zero_le h30
          have hj : j < ps.length := by omega
          obtain ⟨gb, rfl, hgb, hgb', hcb, hfb⟩ := ownBlk hown3 hp
          obtain ⟨e1, e2⟩ := prs_at ps j hj
          have c1 := hcb _ _ e1
          have c2 := hcb _ _ e2
          have f1 := hfb (j * 2)
          have f2 := hfb (j * 2 + 1)
          clear hcb hfb e1 e2
          go_wp2_with fail
          go_region_with (first | (go_at_call 25; refine (odd_any g (N + 1 + 3 * k + 1 + 1) _ _ _ (by first | exact hs3 | exact hs3.alloc _) (by omega) (by omega) (by omega) (by omega)).mono ?_; rintro e w5 ⟨r5, rfl, h51, h52, hs5, hg5⟩; have q5 : w3.grownBy w5 (some g) := (by first | exact grown_undrew hg5 | exact grown_trans' (World.grownBy_alloc _ _ _) (grown_undrew hg5)); have x5 := q5.cell c2 (by simp; omega)) | (go_at_call 24; refine (pick_any g (N + 1 + 3 * k + 1 + 1 + 2) (g + 1) _ _ [ps[j].2, 0, 200000, 200001] _ (by first | exact hs5 | exact hs5.alloc _) (by omega) (by first | exact row_new _ _ _ _ _ _ hs5.lt rfl | exact (row_new w3.drew _ _ _ _ _ hs3.lt rfl).grown hg5 (by omega)) (by omega) (by simp) (by simp)).mono ?_; rintro e w6 ⟨r6, rfl, -, hs6, hg6⟩; have q6 : w3.grownBy w6 (some g) := (by first | exact grown_trans' q5 hg6 | exact grown_trans' (grown_alloc q5 _) hg6); have x1 := q6.cell c1 (by simp; omega); have x2 := q6.cell c2 (by simp; omega); have y1 := (own_grown hown3 q6 hlt).frozenAt (j * 2); have y2 := (own_grown hown3 q6 hlt).frozenAt (j * 2 + 1)))
          all_goals
            go_wp2_with fail
            refine bodyPost_ret (results_tmp rfl _ _ _) rfl ?_
            exact ⟨some ⟨gb, 0, none⟩, c, ps.set j (r5, r6), by simp, by simpa using own_prs_set2 (own_grown hown3 q6 hlt) j hj r5 r6, by simp; omega, ((hs6.set (by simp; omega) _).set (by simp; omega) _).more (by omega), grown_set_new (grown_set_new (grown_trans' (grown_trans' (grown_trans' hgr hg2) hg3) q6) hgb _) hgb _⟩
      · have hp' : decide (0 < ps.length) = false := by simpa using hp
        go_wp2_with fail
        refine bodyPost_ret (results_tmp rfl _ _ _) rfl ?_
        exact ⟨A, c, ps, rfl, hown, by omega, hsr.more (by omega), hgr⟩
end Go.Proofs.YtnlblgkoecnfmaaDoor
