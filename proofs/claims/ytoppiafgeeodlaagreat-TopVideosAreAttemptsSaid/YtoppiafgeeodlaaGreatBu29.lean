/- Texts of this seat, laid together: EvC MkF. -/
import Derived.Test.YtoppiafgeeodlaaGreatBu25
import Derived.Test.YtoppiafgeeodlaaGreatBu26
/- The walk of the stream's function that draws a video. -/
namespace Go.Proofs.YtoppiafgeeodlaaGreat
set_option linter.unusedVariables false
set_option linter.unusedSimpArgs false
open Go.RowKit

theorem ty_trs : SliceTy Tryz.prog 26 55 3 24 := .mk' Tryz.underlying26 (z := .agg #[.int .i64 0, .int .i64 0, .int .i64 0]) (by kernel_rfl) rfl (by decide)
theorem Blk.grown {w w' : World} {g k : Nat} {t : TypeId} {cs : Array Value} (h : Blk w k t cs) (hb : w.grownBy w' (some g)) (hg : k ≠ g) : Blk w' k t cs := (hb.block k h.lt (fun e => hg (by injection e))).trans h

def rates : List (Int × Int) := [(60, 1), (30000, 1001), (25, 1), (1, 1), (1000, 1), (7, 3)]
def rates7 : List (Int × Int) := [(0, 1), (2, 2), (1, 2), (1001, 1), (99991, 1000), (99989, 1001), (60, 1)]
theorem rates_le : ∀ p ∈ rates, p.1 ≤ 9223372036854775807 := by decide
theorem rates7_le : ∀ p ∈ rates7, p.1 ≤ 9223372036854775807 := by decide
def VideoPost (w : World) (g N : Nat) (e : Ending) (w' : World) : Prop :=
  ∃ (A : Option Addr) (c : Nat) (v : List St), e = .returned (.slice A v.length c) ∧ w'.ownsRow w.heap.size 55 3 (.slice A v.length c) v.length (trs v) ∧ v.length ≤ 4 ∧ (∀ s ∈ v, s.2.1 ≤ 9223372036854775807) ∧ Str w' g N ∧ w.grownBy w' (some g)
theorem own_trs_set3 {w : World} {base : Nat} {e : TypeId} {g c : Nat} {v : List St} (h : w.ownsRow base e 3 (.slice (some ⟨g, 0, none⟩) v.length c) v.length (trs v)) (k : Nat) (hk : k < v.length) (x y z : Int) :
    (((w.setCell ⟨g, k * 3, none⟩ (.int .i64 x)).setCell ⟨g, k * 3 + 1, none⟩ (.int .i64 y)).setCell ⟨g, k * 3 + 2, none⟩ (.int .i64 z)).ownsRow base e 3 (.slice (some ⟨g, 0, none⟩) v.length c) v.length (trs (v.set k (x, y, z))) := by
  rw [← trs_set3 v k hk]
  exact (((h.stored (k * 3) _).1.stored (k * 3 + 1) _).1.stored (k * 3 + 2) _).1

set_option maxHeartbeats 1000000 in
theorem video_any (g N : Nat) (w : World) (hs : Str w g N) (hN : N < 4611686018427387000) :
    Calls Tryz.prog 12 #[.pointer (some ⟨g, 0, none⟩)] w (VideoPost w g (N + 40)) := by
  have hlt := hs.lt
  go_enter Tryz.func12, Tryz.ntmps12
  go_wp2_with fail
  have hbl := Blk.new w 53 #[.int .i64 60, .int .i64 1, .int .i64 30000, .int .i64 1001, .int .i64 25, .int .i64 1, .int .i64 1, .int .i64 1, .int .i64 1000, .int .i64 1, .int .i64 7, .int .i64 3]
  refine (range_any g N _ _ _ (by repeat (first | exact hs | refine Str.alloc ?_ _ | refine Str.drewN ?_ _ | refine Str.drew ?_)) (by omega) (by omega) (by omega) (by omega)).mono ?_
  rintro e w1 ⟨r, rfl, h0, h6, hs1, hg1⟩
  have hbl1 := hbl.grown hg1 (by omega)
  have hgw1 : w.grownBy w1 (some g) := grown_trans' (World.grownBy_alloc _ _ _) hg1
  clear hbl hg1
  obtain ⟨m, rfl⟩ := Int.eq_ofNat_of_zero_le h0
  go_wp2_with fail
  go_loopw [4, 15] (fun v i wr => ∃ (k : Nat) (A : Option Addr) (c : Nat) (ps : List St), k ≤ m ∧ i = .int .i64 k ∧ v = .slice A ps.length c ∧ wr.ownsRow (w.heap.size + 1) 55 3 (.slice A ps.length c) ps.length (trs ps) ∧ ps.length ≤ k ∧ Hid (∀ s ∈ ps, s.2.1 ≤ 9223372036854775807) ∧ Str wr g (N + 1 + 2 * k) ∧ w.grownBy wr (some g) ∧ Blk wr w.heap.size 53 #[.int .i64 60, .int .i64 1, .int .i64 30000, .int .i64 1001, .int .i64 25, .int .i64 1, .int .i64 1, .int .i64 1, .int .i64 1000, .int .i64 1, .int .i64 7, .int .i64 3]) (fun _ i _ => m - (intOf i).toNat)
  case atStart => exact ⟨0, none, 0, [], by omega, rfl, rfl, World.ownsRow_nil _ _ _ _, by simp, Lib.hid (by simp), hs1, hgw1, hbl1⟩
  case round =>
    obtain ⟨k, A, c, ps, hk, rfl, rfl, hown, hpk, hle, hsr, hgr, hblr⟩ := hrel
    by_cases hkm : k < m
    · go_wp2_with fail
      refine (pick_any g _ _ _ _ [1, 2, 10, 60, 500] _ (hsr.alloc _) (by omega) (row_new _ _ _ _ _ _ (Nat.le_refl _) rfl) hsr.lt (by simp) (by simp)).mono ?_
      rintro e w3 ⟨r3, rfl, -, hs3, hg3⟩
      have hgr3 := grown_trans' (grown_alloc hgr _) hg3
      have hown3 := own_grown (hown.alloc _) hg3 (by omega)
      have hbl3 := (hblr.alloc _).grown hg3 (by omega)
      clear hblr hown hg3
      go_wp2_with fail
      refine (next_any g _ _ _ hs3 (by omega) (by omega)).mono ?_
      rintro e w4 ⟨r4, rfl, h40, h41, -, hs4, hg4⟩
      have h42 := h41 (by omega)
      clear h41
      have hgr4 := grown_trans' hgr3 hg4
      have hown4 := own_grown hown3 hg4 (by omega)
      have hbl4 := hbl3.grown hg4 (by omega)
      clear hbl3 hown3 hg4
      obtain ⟨j, rfl⟩ := Int.eq_ofNat_of_zero_le h40
      have hj : j < rates.length := by have : rates.length = 6 := rfl; omega
      have hrr : Row w4 0 2 (some ⟨w.heap.size, 0, none⟩) rates.length (prs rates) := Row.lit hbl4 (Nat.zero_le _) rfl
      obtain ⟨b, off, he, _, _, c1, c2⟩ := hrr.pr_at hj
      have hrl := rates_le rates[j] (List.getElem_mem _)
      clear hrr
      injection he with he
      injection he with he1 he2
      subst he1 he2
      rw [Nat.zero_add] at c1 c2
      generalize rates[j] = q at *
      have z4 := hgr4.size
      have z5 := hbl4.lt
      go_wp2_with (at_builtin; go_must (refine wpList_app (lo := w.heap.size) (base := w.heap.size + 1) (n := ps.length) (xs := trs ps) _ _ rfl _ _ ty_trs rfl (by repeat (first | exact hown4 | refine World.ownsRow.alloc ?_ _ | refine own_drewN ?_ _ | refine World.ownsRow.drew ?_)) rfl (by first | exact row_new' _ (by first | rfl | simp) (by first | omega | (simp; omega)) rfl | exact row_newN _ _ (by first | rfl | simp) (by first | omega | (simp; omega)) rfl | exact row_newD _ (by first | rfl | simp) (by first | omega | (simp; omega)) rfl) rfl rfl (by omega) (by omega) (by first | omega | (simp; omega)) ?_))
      intro A5 c5 w5 hown5 hg5 _
      go_wp2_with fail
      go_roundw
      case rel => exact ⟨k + 1, A5, c5, ps ++ [(r3, q.1, q.2)], by omega, by go_num, by simp, by simpa [trs] using hown5, by simp; omega, Lib.hid (by intro s hs; rcases List.mem_append.1 hs with h | h; exact hle.out s h; simp at h; subst h; exact hrl), ((hs4.alloc _).app (hown4.alloc _) hg5 (by omega)).more (by omega), grown_app (grown_alloc hgr4 _) (hown4.alloc _) hg5 (by omega), Blk.app (hown4.alloc _) (hbl4.alloc _) hg5 (by decide)⟩
      case measure => simp [intOf]; omega
    · by_cases hp : 0 < ps.length
      · have hp' : decide (0 < ps.length) = true := by simpa using hp
        clear hblr
        go_wp2_with fail
        refine (flip_any g _ _ _ hsr (by omega) (by omega)).mono ?_
        rintro e w2 ⟨r2, rfl, hs2, hg2⟩
        cases r2
        · go_wp2_with fail
          refine bodyPost_ret (results_tmp rfl _ _ _) rfl ?_
          exact ⟨A, c, ps, rfl, own_weak (own_grown hown hg2 (by omega)) (by omega), by omega, hle.out, hs2.more (by omega), grown_trans' hgr hg2⟩
        · have hown2 := own_grown hown hg2 (by omega)
          go_wp2_with fail
          refine (next_any g _ _ _ hs2 (by omega) (by omega)).mono ?_
          rintro e w3 ⟨r3, rfl, h30, h31, h32, hs3, hg3⟩
          have h33 := h31 (by omega)
          clear h31
          have hown3 := own_grown hown2 hg3 (by omega)
          have hgr3 := grown_trans' (grown_trans' hgr hg2) hg3
          clear hown hown2 hg2 hg3
          obtain ⟨j, rfl⟩ := Int.eq_ofNat_of_zero_le h30
          have hj : j < ps.length := by omega
          obtain ⟨gb, rfl, hgb, hgb', hcb, hfb⟩ := ownBlk hown3 hp
          have c1 := hcb _ _ (trs_at ps j hj).1
          clear hcb hfb
          go_wp2_with fail
          refine (pick_any g _ _ _ _ [ps[j].1, 0, 10000000, 10000001] _ (hs3.alloc _) (by omega) (row_new _ _ _ _ _ _ (Nat.le_refl _) rfl) hs3.lt (by simp) (by simp)).mono ?_
          rintro e w4 ⟨r4, rfl, -, hs4, hg4⟩
          have hgr4 := grown_trans' (grown_alloc hgr3 _) hg4
          have hown4 := own_grown (hown3.alloc _) hg4 (by omega)
          have zz := hgr4.size
          have hbn := Blk.new w4 53 #[.int .i64 0, .int .i64 1, .int .i64 2, .int .i64 2, .int .i64 1, .int .i64 2, .int .i64 1001, .int .i64 1, .int .i64 99991, .int .i64 1000, .int .i64 99989, .int .i64 1001, .int .i64 60, .int .i64 1]
          clear hown3 hg4 c1
          go_wp2_with fail
          refine (next_any g _ _ _ (hs4.alloc _) (by omega) (by omega)).mono ?_
          rintro e w5 ⟨r5, rfl, h50, h51, -, hs5, hg5⟩
          have h53 := h51 (by omega)
          clear h51
          have hb5 := hbn.grown hg5 (by have := hs4.lt; omega)
          have hown5 := own_grown (hown4.alloc _) hg5 (by omega)
          have hgr5 := grown_trans' (grown_alloc hgr4 _) hg5
          clear hbn hown4 hg5
          obtain ⟨i, rfl⟩ := Int.eq_ofNat_of_zero_le h50
          have hi : i < rates7.length := by have : rates7.length = 7 := rfl; omega
          have hrr : Row w5 0 2 (some ⟨w4.heap.size, 0, none⟩) rates7.length (prs rates7) := Row.lit hb5 (Nat.zero_le _) rfl
          obtain ⟨b, off, he, _, _, c1, c2⟩ := hrr.pr_at hi
          have hrl := rates7_le rates7[i] (List.getElem_mem _)
          clear hrr
          injection he with he
          injection he with he1 he2
          subst he1 he2
          rw [Nat.zero_add] at c1 c2
          generalize rates7[i] = q at *
          obtain ⟨gb2, hA, _, _, hcb, hfb⟩ := ownBlk hown5 hp
          injection hA with hA
          injection hA with hA
          subst hA
          have d0 := hcb _ _ (trs_at ps j hj).1
          have d1 := hcb _ _ (trs_at ps j hj).2.1
          have d2 := hcb _ _ (trs_at ps j hj).2.2
          have f0 := hfb (j * 3)
          have f1 := hfb (j * 3 + 1)
          have f2 := hfb (j * 3 + 2)
          clear hcb hfb
          go_wp2_with fail
          refine bodyPost_ret (results_tmp rfl _ _ _) rfl ?_
          exact ⟨some ⟨gb, 0, none⟩, c, ps.set j (r4, q.1, q.2), by simp, own_weak (by simpa using own_trs_set3 hown5 j hj r4 q.1 q.2) (by omega), by simp; omega, by
            intro s hs
            rcases List.mem_or_eq_of_mem_set hs with h | h
            · exact hle.out s h
            · subst h; exact hrl, (((hs5.set (by simp; omega) _).set (by simp; omega) _).set (by simp; omega) _).more (by omega), grown_set_new (grown_set_new (grown_set_new hgr5 (by simp; omega) _) (by simp; omega) _) (by simp; omega) _⟩
      · have hp' : decide (0 < ps.length) = false := by simpa using hp
        go_wp2_with fail
        refine bodyPost_ret (results_tmp rfl _ _ _) rfl ?_
        exact ⟨A, c, ps, rfl, own_weak hown (by omega), by omega, hle.out, hsr.more (by omega), hgr⟩
end Go.Proofs.YtoppiafgeeodlaaGreat
/- The walks of MarksFault and NoneFault. -/
namespace Go.Proofs.YtoppiafgeeodlaaGreat
set_option linter.unusedVariables false
set_option linter.unusedSimpArgs false
open Go.RowKit

/-- How the reference tells what is misplaced. -/
theorem misB_true {x a : Int} (h : misB x a = true) : (a = 0 → x ≠ 1) ∧ (a ≠ 0 → x = 1 ∨ a = 2 ∨ ((a == 3) = true ∧ (x == 4) = false) ∨ ((a == 3) = false ∧ (x == 4) = true)) := by
  unfold misB at h
  by_cases h1 : a = 0 ∨ x = 1
  · rw [if_pos h1] at h
    simp at h
    omega
  · rw [if_neg h1] at h
    by_cases h2 : a = 2
    · omega
    · rw [if_neg h2] at h
      by_cases h3 : a = 3
      · rw [if_pos h3] at h; simp at h; subst h3; simp; omega
      · rw [if_neg h3] at h; simp at h; simp; omega
theorem misB_same {x a : Int} (h : misB x a = false) (ha : a ≠ 0) : ((a == 3) = true ∧ (x == 4) = true) ∨ ((a == 3) = false ∧ (x == 4) = false) := by
  have m := (misB_false h).2 ha
  simp
  omega
/-- What is known of the last kind, when all marks before are right. -/
theorem last_next {x a : Int} (hx : 1 ≤ x ∧ x ≤ 5) (h : misB x a = false) : ((if x = 5 then a else x) == 3) = (x == 3) ∧ ((if x = 5 then a else x) == 2) = (x == 2) ∧ (if x = 5 then a else x) ≠ 0 := by
  have m := misB_false h
  have key : ((if x = 5 then a else x) = 3 ↔ x = 3) ∧ ((if x = 5 then a else x) = 2 ↔ x = 2) ∧ (if x = 5 then a else x) ≠ 0 := by
    by_cases h5 : x = 5
    · rw [if_pos h5]
      have a0 : a ≠ 0 := fun h0 => by have := m.1 h0; omega
      have := m.2 a0
      omega
    · rw [if_neg h5]; omega
  generalize (if x = 5 then a else x) = q at *
  refine ⟨?_, ?_, key.2.2⟩
  · rw [Bool.eq_iff_iff]; simpa using key.1
  · rw [Bool.eq_iff_iff]; simpa using key.2.1

set_option maxHeartbeats 400000 in
theorem noneFault_any (b : Bool) (w : World) : Calls Tryz.prog 34 #[.bool b] w fun e w' => e = .returned (.int .i64 (if b = true then 8 else 0)) ∧ w = w' := by
  cases b
  · go_enter Tryz.func34, Tryz.ntmps34
    go_wp2_with fail
    go_ret
    exact ⟨rfl, rfl⟩
  · go_enter Tryz.func34, Tryz.ntmps34
    go_wp2_with fail
    go_ret
    exact ⟨rfl, rfl⟩

set_option maxHeartbeats 4000000 in
theorem marksFault_any (lo lo' c d : Nat) (A B : Option Addr) (v : List St) (l : List Mk) (w : World) (hr : Row w lo 3 A v.length (trs v)) (hrm : Row w lo' 2 B l.length (prs l)) (hl : v.length ≤ 1000000000) (hlm : l.length ≤ 1000000000) (hi : ∀ s ∈ v, s.2.1 ≤ 9223372036854775807) :
    Calls Tryz.prog 14 #[.slice A v.length c, .slice B l.length d] w fun e w' => e = .returned (.int .i64 (mkFault v l)) ∧ Below w.heap.size w w' := by
  have HI := Lib.hid hi
  clear hi
  go_enter Tryz.func14, Tryz.ntmps14
  go_wp2_with fail
  refine (videoFault_any _ _ _ v _ hr hl HI.out).mono ?_
  rintro e w1 ⟨rfl, hb1⟩
  by_cases h0 : vFault v = 0
  · have h0' : (vFault v != 0) = false := by simpa using h0
    have HE := Lib.hid (mkFault_ok (l := l) h0)
    have HG := Lib.hid (vFault_ok h0)
    clear h0
    by_cases hlong : 200 < l.length
    · have HF := Lib.hid (mkF_long (all := fsum v) hlong)
      go_wp2_with fail
      go_ret
      exact ⟨ret_int' (by rw [HE.out, HF.out]), hb1⟩
    · have s1 := HG.out.sum
      have s0 := fsum_nonneg v HG.out.nonneg
      go_wp2_with fail
      clear h0'
      go_loopw [6, 7, 20] (fun a b i wr => ∃ k : Nat, k ≤ l.length ∧ i = .int .i64 k ∧ a = .bool (lastM (l.take k) == 3) ∧ b = .bool (lastM (l.take k) == 2) ∧ Hid (∀ j, j < k → mF (fsum v) l j = 0) ∧ Hid (lastM (l.take k) = 0 ↔ k = 0) ∧ Below w.heap.size w wr) (fun _ _ i _ => l.length - (intOf i).toNat)
      case atStart => exact ⟨0, Nat.zero_le _, rfl, rfl, rfl, Lib.hid (fun j hj => absurd hj (by omega)), Lib.hid (by simp [lastM]), hb1⟩
      case round =>
        obtain ⟨k, hk, rfl, rfl, rfl, hv, H0, hbw⟩ := hrel
        have zw := hbw.size
        by_cases hlt : k < l.length
        · have hrw := hrm.below hbw
          have hrv := hr.below hbw
          obtain ⟨b, off, hB, _, hbs, c0, c1⟩ := hrw.pr_at hlt
          have HBAD := Lib.hid (mkF_bad (all := fsum v) k (by omega) hlt hv.out)
          have HAT := Lib.hid (mF_at (fsum v) l k hlt)
          have HLT := Lib.hid (lastM_take l k hlt)
          have HP : Hid (∀ j, k = j + 1 → prevM l k = some (l.getD j (0, 0))) := Lib.hid (by
            rintro j rfl
            simp only [prevM, Nat.add_one_ne_zero, if_false, Nat.add_sub_cancel]
            rw [List.getD_eq_getElem?_getD, List.getElem?_eq_getElem (by omega)]; rfl)
          have HCP : Hid (∀ w2, Below wr.heap.size wr w2 → ∀ j, k = j + 1 → w2.cell? ⟨b, off + j * 2, none⟩ = some (.int .i64 (l.getD j (0, 0)).1)) := Lib.hid (by
            rintro w2 hw2 j rfl
            obtain ⟨b', off', hB', _, _, c0', _⟩ := (hrw.below hw2).pr_at (k := j) (by omega)
            rw [hB] at hB'
            injection hB' with hB'
            injection hB' with e1 e2
            subst e1 e2
            rw [List.getD_eq_getElem?_getD, List.getElem?_eq_getElem (by omega)]
            exact c0')
          subst hB
          generalize lastM (l.take k) = la at *
          generalize hxk : l[k] = x at *
          clear hxk hrw
          go_wp2_with fail
          refine (in_any _ _ _ _).mono ?_
          rintro e w3 ⟨rfl, rfl⟩
          by_cases h1 : 1 ≤ x.2 ∧ x.2 ≤ 5
          · have h1' : (decide (1 ≤ x.2) && decide (x.2 ≤ 5)) = true := by simp; omega
            rw [h1']
            clear h1'
            have kb0 := Blk.new wr 57 #[.int .i64 x.1, .int .i64 x.2]
            have hba : Below wr.heap.size wr (wr.alloc (.cells #[.int .i64 x.1, .int .i64 x.2] 57)) := (Below.refl _ _).alloc (Nat.le_refl _) _
            have hrva := hrv.alloc (.cells #[.int .i64 x.1, .int .i64 x.2] 57)
            have kc0 : (wr.alloc (.cells #[.int .i64 x.1, .int .i64 x.2] 57)).cell? ⟨wr.heap.size, 0, none⟩ = some (.int .i64 x.1) := kb0.cell 0
            generalize hwa : wr.alloc (.cells #[.int .i64 x.1, .int .i64 x.2] 57) = wa at *
            have hbx : Below w.heap.size w wa := by rw [← hwa]; exact (by repeat (first | exact hbw | refine Below.alloc ?_ (by first | omega | (simp; omega)) _ | refine below_drewN' ?_ _ | refine Below.drew ?_))
            clear hwa c0 c1
            have kb0d : Blk wa.drew wr.heap.size 57 #[.int .i64 x.1, .int .i64 x.2] := kb0
            have kc0d : wa.drew.cell? ⟨wr.heap.size, 0, none⟩ = some (.int .i64 x.1) := kc0
            have hrvd : Row wa.drew lo 3 A v.length (trs v) := hrva
            have hbad : Below wr.heap.size wr wa.drew := hba.drew
            have hbxd : Below w.heap.size w wa.drew := hbx.drew
            go_wp2_with fail
            go_region_held3 (fun w' => w'.cell? ⟨wr.heap.size, 0, none⟩ = some (.int .i64 x.1)) (first | exact kc5 | exact kc0d) (first | (go_at_call 31; refine (framesIn_any _ _ lo v _ hrvd hl HG.out.nonneg (by omega)).mono ?_; rintro e w5 ⟨rfl, hb5⟩; have kb5 := Blk.below kb0d hb5; have hba5 := below_up hbad hb5; have hbx5 := below_up hbxd hb5; have kc5 : w5.cell? ⟨wr.heap.size, 0, none⟩ = some (.int .i64 x.1) := kb5.cell 0) | (go_at_call 19; refine (in_any _ _ _ _).mono ?_; rintro e w6 ⟨rfl, rfl⟩))
            all_goals
              have kd5 : w5.cell? ⟨wr.heap.size, 1, none⟩ = some (.int .i64 x.2) := kb5.cell 1
              clear kb0 kc0 kb0d kc0d hba hrva hbx hrvd hbad hbxd hb5 kb5
              by_cases h2 : 0 ≤ x.1 ∧ x.1 ≤ fsum v
              · have d1 : decide (0 ≤ x.1) = true := by simp; omega
                have d2 : decide (x.1 ≤ fsum v) = true := by simp; omega
                rw [d1, d2]
                have HRE := Lib.hid (mX_rest (p := prevM l k) (last := la) h1 h2)
                have H1 := Lib.hid h1
                clear h1 h2 d1 d2
                rcases Nat.eq_zero_or_pos k with hk0 | hk0
                · subst hk0
                  have HRX : Hid (mF (fsum v) l 0 = if misB x.2 la = true then 16 else 0) := Lib.hid (by rw [HAT.out, HRE.out]; rfl)
                  have la0 : la = 0 := H0.out.2 rfl
                  subst la0
                  go_wp2_with fail
                  go_quiet (fail)
                  by_cases h4 : misB x.2 0 = true
                  · have HF := Lib.hid (HBAD.out (by rw [HRX.out, if_pos h4]; omega))
                    have H4 := Lib.hid h4
                    have x1 : (x.2 == 1) = false := by have := (misB_true h4).1 rfl; simpa using this
                    clear h4
                    go_wp2_with fail
                    go_ret
                    exact ⟨ret_int' (by rw [HE.out, HF.out, HRX.out, if_pos H4.out]), (by repeat (first | exact hbx5 | refine Below.alloc ?_ (by first | omega | (simp; omega)) _ | refine below_drewN' ?_ _ | refine Below.drew ?_))⟩
                  · have h4' : misB x.2 0 = false := by simpa using h4
                    have xx : x.2 = 1 := (misB_false h4').1 rfl
                    have HNX := Lib.hid (last_next H1.out h4')
                    rw [← HLT.out] at HNX
                    have HN : Hid (∀ j, j < 0 + 1 → mF (fsum v) l j = 0) := Lib.hid (by
                      intro j hj
                      have : j = 0 := by omega
                      subst this
                      rw [HRX.out, if_neg h4])
                    have x1 : (x.2 == 1) = true := by simpa using xx
                    have x4 : (x.2 == 4) = false := by simp; omega
                    clear h4 h4' xx
                    go_wp2_with fail
                    go_roundw
                    case rel => exact ⟨0 + 1, by omega, by go_num, by rw [HNX.out.1], by rw [HNX.out.2.1], HN, Lib.hid ⟨fun h => absurd h HNX.out.2.2, fun h => absurd h (by omega)⟩, (by repeat (first | exact hbx5 | refine Below.alloc ?_ (by first | omega | (simp; omega)) _ | refine below_drewN' ?_ _ | refine Below.drew ?_))⟩
                    case measure => simp [intOf]; omega
                · obtain ⟨j, rfl⟩ : ∃ j, k = j + 1 := ⟨k - 1, by omega⟩
                  have hcp := HCP.out w5 hba5 j rfl
                  have HRX : Hid (mF (fsum v) l (j + 1) = if x.1 < (l.getD j (0, 0)).1 then 7 else if misB x.2 la = true then 16 else 0) := Lib.hid (by rw [HAT.out, HRE.out, HP.out j rfl]; simp)
                  have HLA : Hid (la ≠ 0) := Lib.hid (fun h => by have := H0.out.1 h; omega)
                  generalize (l.getD j (0, 0)).1 = y at *
                  have wj : IntKind.i64.wrap ((j : Int) + 1 - 1) = j := by rw [show (j : Int) + 1 - 1 = j by omega]; exact IntWalk.i64_in _ ⟨by omega, by omega⟩
                  by_cases h3 : x.1 < y
                  · have t3 : decide (x.1 < y) = true := by simpa using h3
                    have HF := Lib.hid (HBAD.out (by rw [HRX.out, if_pos h3]; omega))
                    go_wp2_with fail
                    go_quiet (fail)
                    clear wj
                    go_wp2_with fail
                    go_ret
                    exact ⟨ret_int' (by rw [HE.out, HF.out, HRX.out, if_pos h3]), (by repeat (first | exact hbx5 | refine Below.alloc ?_ (by first | omega | (simp; omega)) _ | refine below_drewN' ?_ _ | refine Below.drew ?_))⟩
                  · have t3 : decide (x.1 < y) = false := by simpa using h3
                    have H3 := Lib.hid h3
                    clear h3
                    go_wp2_with fail
                    go_quiet (fail)
                    clear wj t3
                    by_cases h4 : misB x.2 la = true
                    · have HF := Lib.hid (HBAD.out (by rw [HRX.out, if_neg (by have := H3.out; omega : ¬ x.1 < y), if_pos h4]; omega))
                      have H4 := Lib.hid h4
                      have HR2 := Lib.hid ((misB_true h4).2 HLA.out)
                      clear h4
                      by_cases a2 : la = 2
                      · have t2 : (la == 2) = true := by simpa using a2
                        clear a2 HR2
                        go_wp2_with fail
                        go_ret
                        exact ⟨ret_int' (by rw [HE.out, HF.out, HRX.out, if_neg (by have := H3.out; omega : ¬ x.1 < y), if_pos H4.out]), (by repeat (first | exact hbx5 | refine Below.alloc ?_ (by first | omega | (simp; omega)) _ | refine below_drewN' ?_ _ | refine Below.drew ?_))⟩
                      · have t2 : (la == 2) = false := by simpa using a2
                        by_cases b1 : x.2 = 1
                        · have x1 : (x.2 == 1) = true := by simpa using b1
                          clear a2 b1 HR2
                          go_wp2_with fail
                          go_ret
                          exact ⟨ret_int' (by rw [HE.out, HF.out, HRX.out, if_neg (by have := H3.out; omega : ¬ x.1 < y), if_pos H4.out]), (by repeat (first | exact hbx5 | refine Below.alloc ?_ (by first | omega | (simp; omega)) _ | refine below_drewN' ?_ _ | refine Below.drew ?_))⟩
                        · have x1 : (x.2 == 1) = false := by simpa using b1
                          rcases HR2.out with h | h | ⟨p, q⟩ | ⟨p, q⟩
                          · exact absurd h b1
                          · exact absurd h a2
                          · clear a2 b1 HR2
                            go_wp2_with fail
                            go_ret
                            exact ⟨ret_int' (by rw [HE.out, HF.out, HRX.out, if_neg (by have := H3.out; omega : ¬ x.1 < y), if_pos H4.out]), (by repeat (first | exact hbx5 | refine Below.alloc ?_ (by first | omega | (simp; omega)) _ | refine below_drewN' ?_ _ | refine Below.drew ?_))⟩
                          · clear a2 b1 HR2
                            go_wp2_with fail
                            go_ret
                            exact ⟨ret_int' (by rw [HE.out, HF.out, HRX.out, if_neg (by have := H3.out; omega : ¬ x.1 < y), if_pos H4.out]), (by repeat (first | exact hbx5 | refine Below.alloc ?_ (by first | omega | (simp; omega)) _ | refine below_drewN' ?_ _ | refine Below.drew ?_))⟩
                    · have h4' : misB x.2 la = false := by simpa using h4
                      have HN : Hid (∀ i, i < j + 1 + 1 → mF (fsum v) l i = 0) := Lib.hid (by
                        intro i hi
                        rcases Nat.lt_or_ge i (j + 1) with h | h
                        · exact hv.out i h
                        · have : i = j + 1 := by omega
                          subst this
                          rw [HRX.out, if_neg (by have := H3.out; omega : ¬ x.1 < y), if_neg h4])
                      have mm := (misB_false h4').2 HLA.out
                      have t2 : (la == 2) = false := by simpa using mm.2.1
                      have x1 : (x.2 == 1) = false := by simpa using mm.1
                      have HNX := Lib.hid (last_next H1.out h4')
                      rw [← HLT.out] at HNX
                      rcases misB_same h4' HLA.out with ⟨p, q⟩ | ⟨p, q⟩
                      · clear h4 h4' mm
                        go_wp2_with fail
                        go_roundw
                        case rel => exact ⟨(j + 1) + 1, by omega, by go_num, by rw [HNX.out.1], by rw [HNX.out.2.1], HN, Lib.hid ⟨fun h => absurd h HNX.out.2.2, fun h => absurd h (by omega)⟩, (by repeat (first | exact hbx5 | refine Below.alloc ?_ (by first | omega | (simp; omega)) _ | refine below_drewN' ?_ _ | refine Below.drew ?_))⟩
                        case measure => simp [intOf]; omega
                      · clear h4 h4' mm
                        go_wp2_with fail
                        go_roundw
                        case rel => exact ⟨(j + 1) + 1, by omega, by go_num, by rw [HNX.out.1], by rw [HNX.out.2.1], HN, Lib.hid ⟨fun h => absurd h HNX.out.2.2, fun h => absurd h (by omega)⟩, (by repeat (first | exact hbx5 | refine Below.alloc ?_ (by first | omega | (simp; omega)) _ | refine below_drewN' ?_ _ | refine Below.drew ?_))⟩
                        case measure => simp [intOf]; omega
              · have HA := Lib.hid (mX_arg (p := prevM l k) (last := la) h1 h2)
                have HF := Lib.hid (HBAD.out (by rw [HAT.out, HA.out]; omega))
                have dd : (!decide (0 ≤ x.1) || !decide (x.1 ≤ fsum v)) = true := by simp; omega
                rw [dd]
                clear dd
                go_wp2_with fail
                go_ret
                exact ⟨ret_int' (by rw [HE.out, HF.out, HAT.out, HA.out]), (by repeat (first | exact hbx5 | refine Below.alloc ?_ (by first | omega | (simp; omega)) _ | refine below_drewN' ?_ _ | refine Below.drew ?_))⟩
          · have h1' : (decide (1 ≤ x.2) && decide (x.2 ≤ 5)) = false := by simp; omega
            have HA := Lib.hid (mX_kind (all := fsum v) (p := prevM l k) (last := la) h1)
            have HF := Lib.hid (HBAD.out (by rw [HAT.out, HA.out]; omega))
            rw [h1']
            go_wp2_with fail
            go_ret
            exact ⟨ret_int' (by rw [HE.out, HF.out, HAT.out, HA.out]), (by repeat (first | exact hbw | refine Below.alloc ?_ (by first | omega | (simp; omega)) _ | refine below_drewN' ?_ _ | refine Below.drew ?_))⟩
        · have hkk : k = l.length := by omega
          subst hkk
          have HF := Lib.hid (mkF_good (by omega) hv.out)
          rw [List.take_length]
          by_cases h2 : lastM l = 2
          · have t2 : (lastM l == 2) = true := by simpa using h2
            have HF2 : Hid (mkF (fsum v) l = 0) := Lib.hid (by rw [HF.out, if_pos h2])
            rw [t2]
            clear h2 t2
            go_wp2_with fail
            refine (noneFault_any _ _).mono ?_
            rintro e w3 ⟨rfl, rfl⟩
            go_wp2_with fail
            go_ret
            exact ⟨ret_int' (by rw [HE.out, HF2.out]), hbw⟩
          · have t2 : (lastM l == 2) = false := by simpa using h2
            have HF2 : Hid (mkF (fsum v) l = 8) := Lib.hid (by rw [HF.out, if_neg h2])
            rw [t2]
            clear h2 t2
            go_wp2_with fail
            refine (noneFault_any _ _).mono ?_
            rintro e w3 ⟨rfl, rfl⟩
            go_wp2_with fail
            go_ret
            exact ⟨ret_int' (by rw [HE.out, HF2.out]), hbw⟩
  · have h0' : (vFault v != 0) = true := by simpa using h0
    have HE := Lib.hid (mkFault_bad (l := l) h0)
    clear h0
    go_wp2_with fail
    go_ret
    exact ⟨ret_int' HE.out.symm, hb1⟩
end Go.Proofs.YtoppiafgeeodlaaGreat
