/- The walk of body. -/
import Derived.Test.YtnlblgkoecnfmaaDoorGmQ
import Derived.Test.YtnlblgkoecnfmaaDoorGmO
import Derived.Test.YtnlblgkoecnfmaaDoorGmT
namespace Go.Proofs.YtnlblgkoecnfmaaDoor
set_option linter.unusedVariables false
set_option linter.unusedSimpArgs false
open Go.RowKit

theorem u64_small (m : Nat) (hm : m < 1024) : IntKind.u64.wrap (m : Int) = (m : Int) := IntWalk.u64_in _ ⟨by omega, by omega⟩
theorem res_body (tmps : Array Value) (w : World) (g : Nat) (x y r m f : Int) (hd : Bool) (hx : tmps.getD 2 undef = .pointer (some ⟨g, 0, none⟩)) (f0 : w.cell? ⟨g, 0, none⟩ = some (.int .i64 x)) (f1 : w.cell? ⟨g, 1, none⟩ = some (.int .i64 y)) (f2 : w.cell? ⟨g, 2, none⟩ = some (.int .i64 r)) (f3 : w.cell? ⟨g, 3, none⟩ = some (.bool hd)) (f4 : w.cell? ⟨g, 4, none⟩ = some (.int .i64 m)) (f5 : w.cell? ⟨g, 5, none⟩ = some (.int .i64 f)) :
    (results Tryd.f35 tmps).run Tryd.prog w = .ok (.agg #[.int .i64 x, .int .i64 y, .int .i64 r, .bool hd, .int .i64 m, .int .i64 f]) w := by
  have e : Tryd.f35.results = #[.cell 2 36] := by kernel_rfl
  have hx' : tmps[2]?.getD undef = .pointer (some ⟨g, 0, none⟩) := by simpa using hx
  simp [results, e, hx', go_sem, f0, f1, f2, f3, f4, f5]
set_option maxHeartbeats 2000000 in
set_option maxRecDepth 100000 in
theorem body_any (s : GS) (hm : s.mask < 1024) (w : World) :
    Calls Tryd.prog 35 #[gsV s] w fun e w' => e = .returned (gsV (bodyG s)) ∧ Below w.heap.size w w' := by
  have hu := u64_small s.mask hm
  have HM := Lib.hid hm
  clear hm
  unfold gsV
  go_enter Tryd.func35, Tryd.ntmps35
  go_wp2_with fail
  have hB := (Blk.new w 74 #[.int .i64 s.x, .int .i64 s.y, .int .i64 s.rise, .bool s.held, .int .i64 s.mask, .int .i64 s.fin]).alloc (.cells #[.int .i64 0, .int .i64 0, .int .i64 0, .bool false, .int .i64 0, .int .i64 0] 36)
  have hR := Blk.new (w.alloc (.cells #[.int .i64 s.x, .int .i64 s.y, .int .i64 s.rise, .bool s.held, .int .i64 s.mask, .int .i64 s.fin] 74)) 36 #[.int .i64 0, .int .i64 0, .int .i64 0, .bool false, .int .i64 0, .int .i64 0]
  rw [show (w.alloc (.cells #[.int .i64 s.x, .int .i64 s.y, .int .i64 s.rise, .bool s.held, .int .i64 s.mask, .int .i64 s.fin] 74)).heap.size = w.heap.size + 1 by simp] at hR
  have hb0 : Below w.heap.size w ((w.alloc (.cells #[.int .i64 s.x, .int .i64 s.y, .int .i64 s.rise, .bool s.held, .int .i64 s.mask, .int .i64 s.fin] 74)).alloc (.cells #[.int .i64 0, .int .i64 0, .int .i64 0, .bool false, .int .i64 0, .int .i64 0] 36)) := ((Below.refl _ w).alloc (Nat.le_refl _) _).alloc (by simp) _
  generalize (w.alloc (.cells #[.int .i64 s.x, .int .i64 s.y, .int .i64 s.rise, .bool s.held, .int .i64 s.mask, .int .i64 s.fin] 74)).alloc (.cells #[.int .i64 0, .int .i64 0, .int .i64 0, .bool false, .int .i64 0, .int .i64 0] 36) = w0 at *
  refine wp_region_held_drew (S := (fun w' => w'.cell? ⟨w.heap.size, 0, none⟩ = some (.int .i64 s.x) ∧ w'.cell? ⟨w.heap.size, 1, none⟩ = some (.int .i64 s.y) ∧ w'.cell? ⟨w.heap.size, 2, none⟩ = some (.int .i64 s.rise) ∧ w'.cell? ⟨w.heap.size, 3, none⟩ = some (.bool s.held) ∧ w'.cell? ⟨w.heap.size, 4, none⟩ = some (.int .i64 s.mask) ∧ w'.cell? ⟨w.heap.size, 5, none⟩ = some (.int .i64 s.fin))) (by kernel_rfl) (⟨hB.cell 0, hB.cell 1, hB.cell 2, hB.cell 3, hB.cell 4, hB.cell 5⟩) (fun hHeld => ?_)
  have hB1 := hB.drew
  have hR1 := hR.drew
  have hb1 := hb0.drew
  generalize w0.drew = wd at *
  clear hB hR hb0
  (refine wpAnyH_take (i := 0) (v := ?_) (by (simp only [List.getElem?_toArray, List.getElem?_cons_zero]; rfl)) (by kernel_rfl) (by kernel_rfl) (by kernel_rfl) (by exact fun _ _ _ h => h) (Or.inl ⟨by rfl, ?_⟩) (by assumption) ?_; (rotate_left 1; (intro w hSw; (try dsimp only at hSw); go_simp); (try with_reducible rfl)); (try simp only [Act.put, List.setIfInBounds_toArray, List.set_cons_zero, List.set_cons_succ]))
  (refine wpAnyH_take (i := 1) (v := ?_) (by (simp only [List.getElem?_toArray, List.getElem?_cons_succ, List.getElem?_cons_zero]; rfl)) (by kernel_rfl) (by kernel_rfl) (by kernel_rfl) (by exact fun _ _ _ h => h) (Or.inl ⟨by rfl, ?_⟩) (by assumption) ?_; (rotate_left 1; (intro w hSw; (try dsimp only at hSw); go_simp); (try with_reducible rfl)); (try simp only [Act.put, List.setIfInBounds_toArray, List.set_cons_zero, List.set_cons_succ]))
  (refine wpAnyH_take (i := 2) (v := ?_) (by (simp only [List.getElem?_toArray, List.getElem?_cons_succ, List.getElem?_cons_zero]; rfl)) (by kernel_rfl) (by kernel_rfl) (by kernel_rfl) (by exact fun _ _ _ h => h) (Or.inl ⟨by rfl, ?_⟩) (by assumption) ?_; (rotate_left 1; (intro w hSw; (try dsimp only at hSw); go_simp); (try with_reducible rfl)); (try simp only [Act.put, List.setIfInBounds_toArray, List.set_cons_zero, List.set_cons_succ]))
  (refine wpAnyH_take (i := 3) (v := ?_) (by (simp only [List.getElem?_toArray, List.getElem?_cons_succ, List.getElem?_cons_zero]; rfl)) (by kernel_rfl) (by kernel_rfl) (by kernel_rfl) (by exact fun _ _ _ h => h) (Or.inl ⟨by rfl, ?_⟩) (by assumption) ?_; (rotate_left 1; (intro w hSw; (try dsimp only at hSw); go_simp); (try with_reducible rfl)); (try simp only [Act.put, List.setIfInBounds_toArray, List.set_cons_zero, List.set_cons_succ]))
  (refine wpAnyH_take (i := 4) (v := ?_) (by (simp only [List.getElem?_toArray, List.getElem?_cons_succ, List.getElem?_cons_zero]; rfl)) (by kernel_rfl) (by kernel_rfl) (by kernel_rfl) (by exact fun _ _ _ h => h) (Or.inl ⟨by rfl, ?_⟩) (by assumption) ?_; (rotate_left 1; (intro w hSw; (try dsimp only at hSw); go_simp); (try with_reducible rfl)); (try simp only [Act.put, List.setIfInBounds_toArray, List.set_cons_zero, List.set_cons_succ]))
  (refine wpAnyH_take (i := 5) (v := ?_) (by (simp only [List.getElem?_toArray, List.getElem?_cons_succ, List.getElem?_cons_zero]; rfl)) (by kernel_rfl) (by kernel_rfl) (by kernel_rfl) (by exact fun _ _ _ h => h) (Or.inl ⟨by rfl, ?_⟩) (by assumption) ?_; (rotate_left 1; (intro w hSw; (try dsimp only at hSw); go_simp); (try with_reducible rfl)); (try simp only [Act.put, List.setIfInBounds_toArray, List.set_cons_zero, List.set_cons_succ]))
  (refine wpAnyH_take (i := 6) (v := ?_) (by (simp only [List.getElem?_toArray, List.getElem?_cons_succ, List.getElem?_cons_zero]; rfl)) (by kernel_rfl) (by kernel_rfl) (by kernel_rfl) (by exact fun _ _ _ h => h) (Or.inl ⟨by rfl, ?_⟩) (by assumption) ?_; (rotate_left 1; (intro w hSw; (try dsimp only at hSw); go_simp); (try with_reducible rfl)); (try simp only [Act.put, List.setIfInBounds_toArray, List.set_cons_zero, List.set_cons_succ]))
  (refine wpAnyH_take (i := 7) (v := ?_) (by (simp only [List.getElem?_toArray, List.getElem?_cons_succ, List.getElem?_cons_zero]; rfl)) (by kernel_rfl) (by kernel_rfl) (by kernel_rfl) (by exact fun _ _ _ h => h) (Or.inl ⟨by rfl, ?_⟩) (by assumption) ?_; (rotate_left 1; (intro w hSw; (try dsimp only at hSw); go_simp); (try with_reducible rfl)); (try simp only [Act.put, List.setIfInBounds_toArray, List.set_cons_zero, List.set_cons_succ]))
  (refine wpAnyH_take (i := 8) (v := ?_) (by (simp only [List.getElem?_toArray, List.getElem?_cons_succ, List.getElem?_cons_zero]; rfl)) (by kernel_rfl) (by kernel_rfl) (by kernel_rfl) (by exact fun _ _ _ h => h) (Or.inl ⟨by rfl, ?_⟩) (by assumption) ?_; (rotate_left 1; (intro w hSw; (try dsimp only at hSw); go_simp); (try with_reducible rfl)); (try simp only [Act.put, List.setIfInBounds_toArray, List.set_cons_zero, List.set_cons_succ]))
  (refine wpAnyH_take (i := 9) (v := ?_) (by (simp only [List.getElem?_toArray, List.getElem?_cons_succ, List.getElem?_cons_zero]; rfl)) (by kernel_rfl) (by kernel_rfl) (by kernel_rfl) (by exact fun _ _ _ h => h) (Or.inl ⟨by rfl, ?_⟩) (by assumption) ?_; (rotate_left 1; (intro w hSw; (try dsimp only at hSw); go_simp); (try with_reducible rfl)); (try simp only [Act.put, List.setIfInBounds_toArray, List.set_cons_zero, List.set_cons_succ]))
  (refine wpAnyH_take (i := 10) (v := ?_) (by (simp only [List.getElem?_toArray, List.getElem?_cons_succ, List.getElem?_cons_zero]; rfl)) (by kernel_rfl) (by kernel_rfl) (by kernel_rfl) (by exact fun _ _ _ h => h) (Or.inl ⟨by rfl, ?_⟩) (by assumption) ?_; (rotate_left 1; (intro w hSw; (try dsimp only at hSw); go_simp); (try with_reducible rfl)); (try simp only [Act.put, List.setIfInBounds_toArray, List.set_cons_zero, List.set_cons_succ]))
  (refine wpAnyH_take (i := 11) (v := ?_) (by (simp only [List.getElem?_toArray, List.getElem?_cons_succ, List.getElem?_cons_zero]; rfl)) (by kernel_rfl) (by kernel_rfl) (by kernel_rfl) (by exact fun _ _ _ h => h) (Or.inl ⟨by rfl, ?_⟩) (by assumption) ?_; (rotate_left 1; (intro w hSw; (try dsimp only at hSw); go_simp); (try with_reducible rfl)); (try simp only [Act.put, List.setIfInBounds_toArray, List.set_cons_zero, List.set_cons_succ]))
  (refine wpAnyH_take (i := 12) (v := ?_) (by (simp only [List.getElem?_toArray, List.getElem?_cons_succ, List.getElem?_cons_zero]; rfl)) (by kernel_rfl) (by kernel_rfl) (by kernel_rfl) (by exact fun _ _ _ h => h) (Or.inl ⟨by rfl, ?_⟩) (by assumption) ?_; (rotate_left 1; (intro w hSw; (try dsimp only at hSw); go_simp); (try with_reducible rfl)); (try simp only [Act.put, List.setIfInBounds_toArray, List.set_cons_zero, List.set_cons_succ]))
  (refine wpAnyH_take (i := 14) (v := ?_) (by (simp only [List.getElem?_toArray, List.getElem?_cons_succ, List.getElem?_cons_zero]; rfl)) (by kernel_rfl) (by kernel_rfl) (by kernel_rfl) (by exact fun _ _ _ h => h) (Or.inl ⟨by rfl, ?_⟩) (by assumption) ?_; (rotate_left 1; (intro w hSw; (try dsimp only at hSw); go_simp); (try with_reducible rfl)); (try simp only [Act.put, List.setIfInBounds_toArray, List.set_cons_zero, List.set_cons_succ]))
  (refine wpAnyH_take (i := 15) (v := ?_) (by (simp only [List.getElem?_toArray, List.getElem?_cons_succ, List.getElem?_cons_zero]; rfl)) (by kernel_rfl) (by kernel_rfl) (by kernel_rfl) (by exact fun _ _ _ h => h) (Or.inl ⟨by rfl, ?_⟩) (by assumption) ?_; (rotate_left 1; (intro w hSw; (try dsimp only at hSw); go_simp); (try with_reducible rfl)); (try simp only [Act.put, List.setIfInBounds_toArray, List.set_cons_zero, List.set_cons_succ]))
  refine wpAnyH_ready (rs := [13]) (by kernel_rfl) (by simp) ?_
  refine AllReadyH.cons rfl (fun K hK => ?_) AllReadyH.nil
  go_simp
  refine (onesCount_any s.mask HM.out _).mono ?_
  rintro e w1 ⟨rfl, rfl⟩
  go_wp2_with fail
  refine hK.out _ _ hHeld (fun _ => ?_)
  clear hK K
  (try simp only [Act.put, List.setIfInBounds_toArray, List.set_cons_zero, List.set_cons_succ])
  (refine wpAnyH_take (i := 16) (v := ?_) (by (simp only [List.getElem?_toArray, List.getElem?_cons_succ, List.getElem?_cons_zero]; rfl)) (by kernel_rfl) (by kernel_rfl) (by kernel_rfl) (by exact fun _ _ _ h => h) (Or.inl ⟨by rfl, ?_⟩) (by assumption) ?_; (rotate_left 1; (intro w hSw; (try dsimp only at hSw); go_simp); (try with_reducible rfl)); (try simp only [Act.put, List.setIfInBounds_toArray, List.set_cons_zero, List.set_cons_succ]))
  refine wpAnyH_ready (rs := [17]) (by kernel_rfl) (by simp) ?_
  refine AllReadyH.cons rfl (fun K hK => ?_) AllReadyH.nil
  have z0 := hR1.thaw 0
  have z1 := hR1.thaw 1
  have z2 := hR1.thaw 2
  have z3 := hR1.thaw 3
  have z4 := hR1.thaw 4
  have z5 := hR1.thaw 5
  have x0 := hR1.cell 0
  have x1 := hR1.cell 1
  have x2 := hR1.cell 2
  have x3 := hR1.cell 3
  have x4 := hR1.cell 4
  have x5 := hR1.cell 5
  simp only [List.getElem?_toArray, List.getElem?_cons_zero, List.getElem?_cons_succ] at x0 x1 x2 x3 x4 x5
  go_simp
  clear x0 x1 x2 x3 x4 x5 z0 z1 z2 z3 z4 z5
  have hR2 := ((((((hR1.poke 0 (.int .i64 s.x)).poke 1 (.int .i64 s.y)).poke 2 (.int .i64 s.rise)).poke 3 (.bool s.held)).poke 4 (.int .i64 (popN s.mask))).poke 5 (.int .i64 s.fin))
  have hB2 := ((((((hB1.past (w.heap.size + 1) 0 (.int .i64 s.x) (by omega)).past (w.heap.size + 1) 1 (.int .i64 s.y) (by omega)).past (w.heap.size + 1) 2 (.int .i64 s.rise) (by omega)).past (w.heap.size + 1) 3 (.bool s.held) (by omega)).past (w.heap.size + 1) 4 (.int .i64 (popN s.mask)) (by omega)).past (w.heap.size + 1) 5 (.int .i64 s.fin) (by omega))
  have hb2 := ((((((hb1.setCell (p := ⟨w.heap.size + 1, 0, none⟩) (by show w.heap.size ≤ w.heap.size + 1; omega) (.int .i64 s.x)).setCell (p := ⟨w.heap.size + 1, 1, none⟩) (by show w.heap.size ≤ w.heap.size + 1; omega) (.int .i64 s.y)).setCell (p := ⟨w.heap.size + 1, 2, none⟩) (by show w.heap.size ≤ w.heap.size + 1; omega) (.int .i64 s.rise)).setCell (p := ⟨w.heap.size + 1, 3, none⟩) (by show w.heap.size ≤ w.heap.size + 1; omega) (.bool s.held)).setCell (p := ⟨w.heap.size + 1, 4, none⟩) (by show w.heap.size ≤ w.heap.size + 1; omega) (.int .i64 (popN s.mask))).setCell (p := ⟨w.heap.size + 1, 5, none⟩) (by show w.heap.size ≤ w.heap.size + 1; omega) (.int .i64 s.fin))
  simp only [List.setIfInBounds_toArray, List.set_cons_zero, List.set_cons_succ] at hR2
  have hS2 : _ ∧ _ ∧ _ ∧ _ ∧ _ ∧ _ := ⟨hB2.cell 0, hB2.cell 1, hB2.cell 2, hB2.cell 3, hB2.cell 4, hB2.cell 5⟩
  simp only [List.getElem?_toArray, List.getElem?_cons_zero, List.getElem?_cons_succ] at hS2
  refine hK.out _ _ ?_ (fun _ => ?_)
  · exact hS2
  clear hK K hB2 hB1 hR1 hb1 hS2
  refine wpAnyH_done (by kernel_rfl) ?_ _
  have f0 := hR2.cell 0
  have f1 := hR2.cell 1
  have f2 := hR2.cell 2
  have f3 := hR2.cell 3
  have f4 := hR2.cell 4
  have f5 := hR2.cell 5
  simp only [List.getElem?_toArray, List.getElem?_cons_zero, List.getElem?_cons_succ] at f0 f1 f2 f3 f4 f5
  clear hR2 hHeld
  generalize ((((((w1.setCell ⟨w.heap.size + 1, 0, none⟩ (.int .i64 s.x)).setCell ⟨w.heap.size + 1, 1, none⟩ (.int .i64 s.y)).setCell ⟨w.heap.size + 1, 2, none⟩ (.int .i64 s.rise)).setCell ⟨w.heap.size + 1, 3, none⟩ (.bool s.held)).setCell ⟨w.heap.size + 1, 4, none⟩ (.int .i64 (popN s.mask))).setCell ⟨w.heap.size + 1, 5, none⟩ (.int .i64 s.fin)) = W at f0 f1 f2 f3 f4 f5 hb2 ⊢
  go_step
  go_step
  refine wp_ret (show bodyPost _ _ _ _ _ _ from ?_)
  refine bodyPost_ret (res_body _ _ (w.heap.size + 1) _ _ _ _ _ _ rfl f0 f1 f2 f3 f4 f5) rfl ?_
  refine ⟨?_, hb2⟩
  simp only [bodyG]
end Go.Proofs.YtnlblgkoecnfmaaDoor
