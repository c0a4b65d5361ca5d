/- The walk of the stream's function that draws a video. -/
import Derived.Test.YtgkjpcapoofphaaEvB
namespace Go.Proofs.Ytgkjpcapoofphaa
open Go.RowKit

theorem ty_trs : SliceTy Try.prog 46 102 3 24 := .mk' Try.underlying46 (z := .agg #[.int .i64 0, .int .i64 0, .int .i64 0]) (by kernel_rfl) rfl (by decide)
theorem Blk.grown {w w' : World} {g k : Nat} {t : TypeId} {cs : Array Value} (h : Blk w k t cs) (hb : w.grownBy w' (some g)) (hg : k ≠ g) : Blk w' k t cs := (hb.block k h.lt (fun e => hg (by injection e))).trans h

def rates : List (Int × Int) := [(60, 1), (30000, 1001), (25, 1), (1, 1), (1000, 1), (7, 3)]
def rates7 : List (Int × Int) := [(0, 1), (2, 2), (1, 2), (1001, 1), (99991, 1000), (99989, 1001), (60, 1)]
theorem rates_le : ∀ p ∈ rates, p.1 ≤ 9223372036854775807 := by decide
theorem rates7_le : ∀ p ∈ rates7, p.1 ≤ 9223372036854775807 := by decide
def VideoPost (w : World) (g N : Nat) (e : Ending) (w' : World) : Prop :=
  ∃ (A : Option Addr) (c : Nat) (v : List St), e = .returned (.slice A v.length c) ∧ w'.ownsRow w.heap.size 102 3 (.slice A v.length c) v.length (trs v) ∧ v.length ≤ 4 ∧ (∀ s ∈ v, s.2.1 ≤ 9223372036854775807) ∧ Str w' g N ∧ w.grownBy w' (some g)
theorem own_trs_set3 {w : World} {base : Nat} {e : TypeId} {g c : Nat} {v : List St} (h : w.ownsRow base e 3 (.slice (some ⟨g, 0, none⟩) v.length c) v.length (trs v)) (k : Nat) (hk : k < v.length) (x y z : Int) :
    (((w.setCell ⟨g, k * 3, none⟩ (.int .i64 x)).setCell ⟨g, k * 3 + 1, none⟩ (.int .i64 y)).setCell ⟨g, k * 3 + 2, none⟩ (.int .i64 z)).ownsRow base e 3 (.slice (some ⟨g, 0, none⟩) v.length c) v.length (trs (v.set k (x, y, z))) := by
  rw [← trs_set3 v k hk]
  exact (((h.stored (k * 3) _).1.stored (k * 3 + 1) _).1.stored (k * 3 + 2) _).1

set_option maxHeartbeats 1000000 in
theorem video_any (g N : Nat) (w : World) (hs : Str w g N) (hN : N < 4611686018427387000) :
    Calls Try.prog 23 #[.pointer (some ⟨g, 0, none⟩)] w (VideoPost w g (N + 40)) := by
  have hlt := hs.lt
  go_enter Try.func23, Try.ntmps23
  go_wp2_with fail
  have hbl := Blk.new w 51 #[.int .i64 60, .int .i64 1, .int .i64 30000, .int .i64 1001, .int .i64 25, .int .i64 1, .int .i64 1, .int .i64 1, .int .i64 1000, .int .i64 1, .int .i64 7, .int .i64 3]
  refine (range_any g N _ _ _ (by repeat (first | exact hs | refine Str.alloc ?_ _ | refine Str.drewN ?_ _ | refine Str.drew ?_)) (by omega) (by omega) (by omega) (by omega)).mono ?_
  rintro e w1 ⟨r, rfl, h0, h6, hs1, hg1⟩
  have hbl1 := hbl.grown hg1 (by omega)
  have hgw1 : w.grownBy w1 (some g) := grown_trans' (World.grownBy_alloc _ _ _) hg1
  clear hbl hg1
  obtain ⟨m, rfl⟩ := Int.eq_ofNat_of_zero_le h0
  go_wp2_with fail
  go_loopw [4, 15] (fun v i wr => ∃ (k : Nat) (A : Option Addr) (c : Nat) (ps : List St), k ≤ m ∧ i = .int .i64 k ∧ v = .slice A ps.length c ∧ wr.ownsRow (w.heap.size + 1) 102 3 (.slice A ps.length c) ps.length (trs ps) ∧ ps.length ≤ k ∧ Hid (∀ s ∈ ps, s.2.1 ≤ 9223372036854775807) ∧ Str wr g (N + 1 + 2 * k) ∧ w.grownBy wr (some g) ∧ Blk wr w.heap.size 51 #[.int .i64 60, .int .i64 1, .int .i64 30000, .int .i64 1001, .int .i64 25, .int .i64 1, .int .i64 1, .int .i64 1, .int .i64 1000, .int .i64 1, .int .i64 7, .int .i64 3]) (fun _ i _ => m - (intOf i).toNat)
  case atStart => exact ⟨0, none, 0, [], by omega, rfl, rfl, World.ownsRow_nil _ _ _ _, by simp, Lib.hid (by simp), hs1, hgw1, hbl1⟩
  case round =>
    obtain ⟨k, A, c, ps, hk, rfl, rfl, hown, hpk, hle, hsr, hgr, hblr⟩ := hrel
    by_cases hkm : k < m
    · go_wp2_with fail
      refine (pick_any g _ _ _ _ [1, 2, 10, 60, 500] _ (hsr.alloc _) (by omega) (row_new _ _ _ _ _ _ (Nat.le_refl _) rfl) hsr.lt (by simp) (by simp)).mono ?_
      rintro e w3 ⟨r3, rfl, -, hs3, hg3⟩
      have hgr3 := grown_trans' (grown_alloc hgr _) hg3
      have hown3 := own_grown (hown.alloc _) hg3 (by omega)
      have hbl3 := (hblr.alloc _).grown hg3 (by omega)
      clear hblr hown hg3
      go_wp2_with fail
      refine (next_any g _ _ _ hs3 (by omega) (by omega)).mono ?_
      rintro e w4 ⟨r4, rfl, h40, h41, -, hs4, hg4⟩
      have h42 := h41 (by omega)
      clear h41
      have hgr4 := grown_trans' hgr3 hg4
      have hown4 := own_grown hown3 hg4 (by omega)
      have hbl4 := hbl3.grown hg4 (by omega)
      clear hbl3 hown3 hg4
      obtain ⟨j, rfl⟩ := Int.eq_ofNat_of_zero_le h40
      have hj : j < rates.length := by have : rates.length = 6 := rfl; omega
      have hrr : Row w4 0 2 (some ⟨w.heap.size, 0, none⟩) rates.length (prs rates) := Row.lit hbl4 (Nat.zero_le _) rfl
      obtain ⟨b, off, he, _, _, c1, c2⟩ := hrr.pr_at hj
      have hrl := rates_le rates[j] (List.getElem_mem _)
      clear hrr
      injection he with he
      injection he with he1 he2
      subst he1 he2
      rw [Nat.zero_add] at c1 c2
      generalize rates[j] = q at *
      have z4 := hgr4.size
      have z5 := hbl4.lt
      go_wp2_with (at_builtin; go_must (refine wpList_app (lo := w.heap.size) (base := w.heap.size + 1) (n := ps.length) (xs := trs ps) _ _ rfl _ _ ty_trs rfl (by repeat (first | exact hown4 | refine World.ownsRow.alloc ?_ _ | refine own_drewN ?_ _ | refine World.ownsRow.drew ?_)) rfl (by first | exact row_new' _ (by first | rfl | simp) (by first | omega | (simp; omega)) rfl | exact row_newN _ _ (by first | rfl | simp) (by first | omega | (simp; omega)) rfl | exact row_newD _ (by first | rfl | simp) (by first | omega | (simp; omega)) rfl) rfl rfl (by omega) (by omega) (by first | omega | (simp; omega)) ?_))
      intro A5 c5 w5 hown5 hg5 _
      go_wp2_with fail
      go_roundw
      case rel => exact ⟨k + 1, A5, c5, ps ++ [(r3, q.1, q.2)], by omega, by go_num, by simp, by simpa [trs] using hown5, by simp; omega, Lib.hid (by intro s hs; rcases List.mem_append.1 hs with h | h; exact hle.out s h; simp at h; subst h; exact hrl), ((hs4.alloc _).app (hown4.alloc _) hg5 (by omega)).more (by omega), grown_app (grown_alloc hgr4 _) (hown4.alloc _) hg5 (by omega), Blk.app (hown4.alloc _) (hbl4.alloc _) hg5 (by decide)⟩
      case measure => simp [intOf]; omega
    · by_cases hp : 0 < ps.length
      · have hp' : decide (0 < ps.length) = true := by simpa using hp
        clear hblr
        go_wp2_with fail
        refine (flip_any g _ _ _ hsr (by omega) (by omega)).mono ?_
        rintro e w2 ⟨r2, rfl, hs2, hg2⟩
        cases r2
        · go_wp2_with fail
          refine bodyPost_ret (results_tmp rfl _ _ _) rfl ?_
          exact ⟨A, c, ps, rfl, own_weak (own_grown hown hg2 (by omega)) (by omega), by omega, hle.out, hs2.more (by omega), grown_trans' hgr hg2⟩
        · have hown2 := own_grown hown hg2 (by omega)
          go_wp2_with fail
          refine (next_any g _ _ _ hs2 (by omega) (by omega)).mono ?_
          rintro e w3 ⟨r3, rfl, h30, h31, h32, hs3, hg3⟩
          have h33 := h31 (by omega)
          clear h31
          have hown3 := own_grown hown2 hg3 (by omega)
          have hgr3 := grown_trans' (grown_trans' hgr hg2) hg3
          clear hown hown2 hg2 hg3
          obtain ⟨j, rfl⟩ := Int.eq_ofNat_of_zero_le h30
          have hj : j < ps.length := by omega
          obtain ⟨gb, rfl, hgb, hgb', hcb, hfb⟩ := ownBlk hown3 hp
          have c1 := hcb _ _ (trs_at ps j hj).1
          clear hcb hfb
          go_wp2_with fail
          refine (pick_any g _ _ _ _ [ps[j].1, 0, 10000000, 10000001] _ (hs3.alloc _) (by omega) (row_new _ _ _ _ _ _ (Nat.le_refl _) rfl) hs3.lt (by simp) (by simp)).mono ?_
          rintro e w4 ⟨r4, rfl, -, hs4, hg4⟩
          have hgr4 := grown_trans' (grown_alloc hgr3 _) hg4
          have hown4 := own_grown (hown3.alloc _) hg4 (by omega)
          have zz := hgr4.size
          have hbn := Blk.new w4 51 #[.int .i64 0, .int .i64 1, .int .i64 2, .int .i64 2, .int .i64 1, .int .i64 2, .int .i64 1001, .int .i64 1, .int .i64 99991, .int .i64 1000, .int .i64 99989, .int .i64 1001, .int .i64 60, .int .i64 1]
          clear hown3 hg4 c1
          go_wp2_with fail
          refine (next_any g _ _ _ (hs4.alloc _) (by omega) (by omega)).mono ?_
          rintro e w5 ⟨r5, rfl, h50, h51, -, hs5, hg5⟩
          have h53 := h51 (by omega)
          clear h51
          have hb5 := hbn.grown hg5 (by have := hs4.lt; omega)
          have hown5 := own_grown (hown4.alloc _) hg5 (by omega)
          have hgr5 := grown_trans' (grown_alloc hgr4 _) hg5
          clear hbn hown4 hg5
          obtain ⟨i, rfl⟩ := Int.eq_ofNat_of_zero_le h50
          have hi : i < rates7.length := by have : rates7.length = 7 := rfl; omega
          have hrr : Row w5 0 2 (some ⟨w4.heap.size, 0, none⟩) rates7.length (prs rates7) := Row.lit hb5 (Nat.zero_le _) rfl
          obtain ⟨b, off, he, _, _, c1, c2⟩ := hrr.pr_at hi
          have hrl := rates7_le rates7[i] (List.getElem_mem _)
          clear hrr
          injection he with he
          injection he with he1 he2
          subst he1 he2
          rw [Nat.zero_add] at c1 c2
          generalize rates7[i] = q at *
          obtain ⟨gb2, hA, _, _, hcb, hfb⟩ := ownBlk hown5 hp
          injection hA with hA
          injection hA with hA
          subst hA
          have d0 := hcb _ _ (trs_at ps j hj).1
          have d1 := hcb _ _ (trs_at ps j hj).2.1
          have d2 := hcb _ _ (trs_at ps j hj).2.2
          have f0 := hfb (j * 3)
          have f1 := hfb (j * 3 + 1)
          have f2 := hfb (j * 3 + 2)
          clear hcb hfb
          go_wp2_with fail
          refine bodyPost_ret (results_tmp rfl _ _ _) rfl ?_
          exact ⟨some ⟨gb, 0, none⟩, c, ps.set j (r4, q.1, q.2), by simp, own_weak (by simpa using own_trs_set3 hown5 j hj r4 q.1 q.2) (by omega), by simp; omega, by
            intro s hs
            rcases List.mem_or_eq_of_mem_set hs with h | h
            · exact hle.out s h
            · subst h; exact hrl, (((hs5.set (by simp; omega) _).set (by simp; omega) _).set (by simp; omega) _).more (by omega), grown_set_new (grown_set_new (grown_set_new hgr5 (by simp; omega) _) (by simp; omega) _) (by simp; omega) _⟩
      · have hp' : decide (0 < ps.length) = false := by simpa using hp
        go_wp2_with fail
        refine bodyPost_ret (results_tmp rfl _ _ _) rfl ?_
        exact ⟨A, c, ps, rfl, own_weak hown (by omega), by omega, hle.out, hsr.more (by omega), hgr⟩
end Go.Proofs.Ytgkjpcapoofphaa
