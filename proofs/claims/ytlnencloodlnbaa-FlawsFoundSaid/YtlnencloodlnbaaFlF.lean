/- The walks of HandOf, HandFault and of slices.Equal over flaws. -/
import Derived.Test.YtlnencloodlnbaaFlD
import Derived.Test.YtlnencloodlnbaaInpG
namespace Go.Proofs.Ytlnencloodlnbaa
open Go.RowKit

set_option maxHeartbeats 1000000 in
theorem equalF_any (A B : Option Addr) (c d lo lo' : Nat) (ps qs : List Flw) (w : World) (hr : Row w lo 3 A ps.length (trs ps)) (hr' : Row w lo' 3 B qs.length (trs qs)) (hl : ps.length ≤ 1000000000) (heq : ps = qs) :
    Calls Try.prog 12 #[.slice A ps.length c, .slice B qs.length d] w fun e w' => e = .returned (.bool true) ∧ ∃ q, w' = w.drewN q := by
  subst heq
  have h0 : ((ps.length : Int) != (ps.length : Int)) = false := by simp
  go_enter Try.func12, Try.ntmps12
  go_wp2_with fail
  go_loopw [13] (fun i wr => ∃ (k : Nat) (q : Nat), k ≤ ps.length ∧ i = .int .i64 k ∧ wr = w.drewN q) (fun i _ => ps.length - (intOf i).toNat)
  case atStart => exact ⟨0, 0, Nat.zero_le _, rfl, rfl⟩
  case round =>
    obtain ⟨k, q, hk, rfl, rfl⟩ := hrel
    by_cases hlt : k < ps.length
    · obtain ⟨b, off, rfl, _, hbs, c0, c1, c2⟩ := hr.tr_at hlt
      obtain ⟨b', off', rfl, _, hbs', d0, d1, d2⟩ := hr'.tr_at hlt
      go_wp2_with fail
      go_quiet (fail)
      go_wp2_with fail
      go_roundw
      case rel => exact ⟨k + 1, _, by omega, by go_num, rfl⟩
      case measure => simp [intOf]; omega
    · go_wp2_with fail
      go_ret
      exact ⟨rfl, _, rfl⟩

set_option maxHeartbeats 1000000 in
theorem handFault_any (most short : Int) (both : Bool) (w : World) :
    Calls Try.prog 11 #[.agg #[.int .i64 most, .int .i64 short, .bool both]] w fun e w' => e = .returned (.int .i64 (handE most short)) ∧ Below w.heap.size w w' := by
  go_enter Try.func11, Try.ntmps11
  go_wp2_with fail
  have hk0 : Blk (w.alloc (.cells #[.int .i64 most, .int .i64 short, .bool both] 29)).drew w.heap.size 29 #[.int .i64 most, .int .i64 short, .bool both] := Blk.new _ _ _
  have hb0 : Below w.heap.size w (w.alloc (.cells #[.int .i64 most, .int .i64 short, .bool both] 29)) := (Below.refl _ _).alloc (Nat.le_refl _) _
  obtain ⟨g0, g1, _⟩ := hk0.three
  generalize w.alloc (.cells #[.int .i64 most, .int .i64 short, .bool both] 29) = w0 at *
  have z0 := hb0.size
  go_region_held3 (fun w' => w'.cell? ⟨w.heap.size, 0, none⟩ = some (.int .i64 most) ∧ w'.cell? ⟨w.heap.size, 1, none⟩ = some (.int .i64 short)) (first | exact ⟨g0, g1⟩ | exact ⟨(hk0.alloc _).three.1, (hk0.alloc _).three.2.1⟩)
    (first
    | (go_at_call 32; refine (span_any _ _ _ _).mono ?_; rintro e w5 ⟨rfl, rfl⟩)
    | (go_at_call 10; refine (or_any _ _ w.heap.size [spanFault most 1 60, spanFault short 1 60] _ (by first | exact row_new' _ (by first | rfl | simp) (by first | omega | (simp; omega)) rfl | exact row_newN _ _ (by first | rfl | simp) (by first | omega | (simp; omega)) rfl | exact row_newD _ (by first | rfl | simp) (by first | omega | (simp; omega)) rfl) (by simp)).mono ?_; rintro e w6 ⟨rfl, rfl⟩))
  all_goals
    go_wp2_with fail
    go_ret
    exact ⟨rfl, (by repeat (first | exact hb0 | refine Below.alloc ?_ (by first | omega | (simp; omega)) _ | refine below_drewN' ?_ _ | refine Below.drew ?_))⟩

theorem Blk.grw {w w' : World} {g k : Nat} {t : TypeId} {cs : Array Value} (h : Blk w k t cs) (hb : w.grownBy w' (some g)) (hg : k ≠ g) : Blk w' k t cs := (hb.block k h.lt (fun e => hg (by injection e))).trans h
theorem Blk.frz {w : World} {g : Nat} {t : TypeId} {cs : Array Value} (h : Blk w g t cs) (i : Nat) : w.frozen? ⟨g, i, none⟩ = false := by
  have h' : w.heap[g]? = some (.cells cs t (0, 0)) := h
  simp [World.frozen?, h']
theorem Blk.put {w : World} {g : Nat} {t : TypeId} {cs : Array Value} (h : Blk w g t cs) (i : Nat) (u : Value) : Blk (w.setCell ⟨g, i, none⟩ u) g t (cs.setIfInBounds i u) := by
  have h' : w.heap[g]? = some (.cells cs t (0, 0)) := h
  unfold Blk
  simp [World.setCell, Array.getElem?_modify, h']
theorem Blk.aside {w : World} {g : Nat} {t : TypeId} {cs : Array Value} (h : Blk w g t cs) (k i : Nat) (u : Value) (hne : g ≠ k) : Blk (w.setCell ⟨k, i, none⟩ u) g t cs := by
  have h' : w.heap[g]? = some (.cells cs t (0, 0)) := h
  unfold Blk
  have hne' : ¬ k = g := fun e => hne e.symm
  simp [World.setCell, Array.getElem?_modify, h', hne']
theorem Blk.set3 {w : World} {g : Nat} {t : TypeId} {a b c : Value} (h : Blk w g t #[a, b, c]) (x y z : Value) :
    (((w.setCell ⟨g, 0, none⟩ x).setCell ⟨g, 1, none⟩ y).setCell ⟨g, 2, none⟩ z).cell? ⟨g, 0, none⟩ = some x ∧ (((w.setCell ⟨g, 0, none⟩ x).setCell ⟨g, 1, none⟩ y).setCell ⟨g, 2, none⟩ z).cell? ⟨g, 1, none⟩ = some y ∧ (((w.setCell ⟨g, 0, none⟩ x).setCell ⟨g, 1, none⟩ y).setCell ⟨g, 2, none⟩ z).cell? ⟨g, 2, none⟩ = some z := by
  have h3 := ((h.put 0 x).put 1 y).put 2 z
  exact ⟨by rw [h3.cell]; rfl, by rw [h3.cell]; rfl, by rw [h3.cell]; rfl⟩
set_option maxHeartbeats 2000000 in
theorem handOf_any (g N : Nat) (w : World) (hs : Str w g N) (hN : N < 4611686018427387000) :
    Calls Try.prog 5 #[.pointer (some ⟨g, 0, none⟩)] w fun e w' => ∃ (most short : Int) (both : Bool), e = .returned (.agg #[.int .i64 most, .int .i64 short, .bool both]) ∧ Str w' g (N + 8) ∧ w.grownBy w' (some g) := by
  have hgl := hs.lt
  have hs0 := hs.alloc (.cells #[.int .i64 0, .int .i64 0, .bool false] 29)
  have hg0 : w.grownBy (w.alloc (.cells #[.int .i64 0, .int .i64 0, .bool false] 29)) (some g) := grown_alloc (World.grownBy.refl _ _) _
  have hk0 : Blk (w.alloc (.cells #[.int .i64 0, .int .i64 0, .bool false] 29)) w.heap.size 29 #[.int .i64 0, .int .i64 0, .bool false] := Blk.new _ _ _
  go_enter Try.func5, Try.ntmps5
  go_wp2_with fail
  refine (pick_any g N (g + 1) _ _ [1, 2, 3, 10] _ (hs0.alloc _) (by omega) (by first | exact row_new' _ (by first | rfl | simp) (by first | omega | (simp; omega)) rfl | exact row_newN _ _ (by first | rfl | simp) (by first | omega | (simp; omega)) rfl | exact row_newD _ (by first | rfl | simp) (by first | omega | (simp; omega)) rfl) (by omega) (by simp) (by simp)).mono ?_
  rintro e w1 ⟨most, rfl, -, hs1, hg1⟩
  have hk1 := (hk0.alloc (.cells #[.int .i64 1, .int .i64 2, .int .i64 3, .int .i64 10] 3)).grw hg1 (by omega)
  have hx1 := grown_trans' (grown_alloc hg0 _) hg1
  have z1 := hk1.lt
  clear hk0 hs0 hg0 hg1
  go_wp2_with fail
  refine (pick_any g (N + 1) (g + 1) _ _ [1, 2, 3] _ (hs1.alloc _) (by omega) (by first | exact row_new' _ (by first | rfl | simp) (by first | omega | (simp; omega)) rfl | exact row_newN _ _ (by first | rfl | simp) (by first | omega | (simp; omega)) rfl | exact row_newD _ (by first | rfl | simp) (by first | omega | (simp; omega)) rfl) (by omega) (by simp) (by simp)).mono ?_
  rintro e w2 ⟨short, rfl, -, hs2, hg2⟩
  have hk2 := (hk1.alloc (.cells #[.int .i64 1, .int .i64 2, .int .i64 3] 3)).grw hg2 (by omega)
  have hx2 := grown_trans' (grown_alloc hx1 _) hg2
  have z2 := hk2.lt
  clear hk1 hs1 hx1 hg2
  go_wp2_with fail
  refine (flip_any g (N + 1 + 1) _ _ hs2 (by omega) (by omega)).mono ?_
  rintro e w3 ⟨both, rfl, hs3, hg3⟩
  have hk3 := hk2.grw hg3 (by omega)
  have hx3 := grown_trans' hx2 hg3
  have z3 := hk3.lt
  clear hk2 hs2 hx2 hg3
  go_wp2_with fail
  have hs4 := hs3.alloc (.cells #[.int .i64 most, .int .i64 short, .bool both] 29)
  have hk4 := hk3.alloc (.cells #[.int .i64 most, .int .i64 short, .bool both] 29)
  have hx4 := grown_alloc hx3 (.cells #[.int .i64 most, .int .i64 short, .bool both] 29)
  have hn4 : Blk (w3.alloc (.cells #[.int .i64 most, .int .i64 short, .bool both] 29)) w3.heap.size 29 #[.int .i64 most, .int .i64 short, .bool both] := Blk.new _ _ _
  generalize w3.alloc (.cells #[.int .i64 most, .int .i64 short, .bool both] 29) = w4 at *
  refine (flip_any g (N + 1 + 1 + 1) _ _ hs4 (by omega) (by omega)).mono ?_
  rintro e w5 ⟨fl, rfl, hs5, hg5⟩
  have hk5 := hk4.grw hg5 (by omega)
  have hx5 := grown_trans' hx4 hg5
  have hn5 := hn4.grw hg5 (by omega)
  clear hk4 hs4 hx4 hg5 hk3 hs3 hx3 hn4
  have hne : w.heap.size ≠ w3.heap.size := by omega
  cases fl
  · obtain ⟨c0, c1, c2⟩ := hn5.three
    obtain ⟨d0, d1, d2⟩ := hk5.three
    have f0 := hk5.frz 0
    have f1 := hk5.frz 1
    have f2 := hk5.frz 2
    have z5 := hk5.lt
    go_wp2_with fail
    refine bodyPost_ret (v := .agg #[.int .i64 most, .int .i64 short, .bool both]) (by simp [results, Try.results5, go_sem, (hk5.set3 _ _ _).1, (hk5.set3 _ _ _).2.1, (hk5.set3 _ _ _).2.2]) rfl ?_
    exact ⟨most, short, both, rfl, (((hs5.set (by simp; omega) _).set (by simp; omega) _).set (by simp; omega) _).more (by omega), grown_set_new (grown_set_new (grown_set_new hx5 (by simp) _) (by simp) _) (by simp) _⟩
  · go_wp2_with fail
    refine (odd_any g (N + 1 + 1 + 1 + 1) _ _ _ hs5 (by omega) (by omega) (by omega) (by omega)).mono ?_
    rintro e w6 ⟨r6, rfl, -, -, hs6, hg6⟩
    have hk6 := hk5.grw hg6 (by omega)
    have hx6 := grown_trans' hx5 hg6
    have hn6 := hn5.grw hg6 (by omega)
    clear hk5 hs5 hx5 hg6 hn5
    go_wp2_with fail
    refine (odd_any g (N + 1 + 1 + 1 + 1 + 2) _ _ _ hs6 (by omega) (by omega) (by omega) (by omega)).mono ?_
    rintro e w7 ⟨r7, rfl, -, -, hs7, hg7⟩
    have hk7 := hk6.grw hg7 (by omega)
    have hx7 := grown_trans' hx6 hg7
    have hn7 := hn6.grw hg7 (by omega)
    clear hk6 hs6 hx6 hg7 hn6
    obtain ⟨c0, c1, c2⟩ := hn7.three
    obtain ⟨d0, d1, d2⟩ := hk7.three
    have f0 := hk7.frz 0
    have f1 := hk7.frz 1
    have f2 := hk7.frz 2
    have e0 := hn7.frz 0
    have e1 := hn7.frz 1
    have z7 := hk7.lt
    have hsx := (hs7.set (p := ⟨w3.heap.size, 0, none⟩) (by simp; omega) (.int .i64 r6)).set (p := ⟨w3.heap.size, 1, none⟩) (by simp; omega) (.int .i64 r7)
    have hxx := grown_set_new (grown_set_new hx7 (p := ⟨w3.heap.size, 0, none⟩) (by simp; omega) (.int .i64 r6)) (p := ⟨w3.heap.size, 1, none⟩) (by simp; omega) (.int .i64 r7)
    have hkx := (hk7.aside w3.heap.size 0 (.int .i64 r6) hne).aside w3.heap.size 1 (.int .i64 r7) hne
    go_wp2_with fail
    refine bodyPost_ret (v := .agg #[.int .i64 r6, .int .i64 r7, .bool both]) (by simp [results, Try.results5, go_sem, (hkx.set3 _ _ _).1, (hkx.set3 _ _ _).2.1, (hkx.set3 _ _ _).2.2]) rfl ?_
    exact ⟨r6, r7, both, rfl, (((hsx.set (by simp; omega) _).set (by simp; omega) _).set (by simp; omega) _), grown_set_new (grown_set_new (grown_set_new hxx (by simp) _) (by simp) _) (by simp) _⟩
end Go.Proofs.Ytlnencloodlnbaa
