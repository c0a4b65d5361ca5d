/- The walks of Moved and MovedMarks. -/
import Derived.Test.YtgkjpcapoofphaaMkH
namespace Go.Proofs.Ytgkjpcapoofphaa
open Go.RowKit

def mvd (d : Int) (l : List Mk) : List Mk := l.map fun x => (x.1 + d, x.2)
theorem mvd_take (d : Int) (l : List Mk) (k : Nat) (h : k < l.length) : mvd d (l.take (k + 1)) = mvd d (l.take k) ++ [(l[k].1 + d, l[k].2)] := by
  unfold mvd; rw [List.take_succ_eq_append_getElem h, List.map_append]; rfl
theorem mvd_len (d : Int) (l : List Mk) : (mvd d l).length = l.length := by simp [mvd]
theorem mv_all {all d : Int} {l : List Mk} (h : 0 ≤ d + 10000000 ∧ d ≤ 10000000) (h' : ∀ x ∈ l, 0 ≤ x.1 + d ∧ x.1 + d ≤ all) : mvL all d l = mvd d l ∧ mvE all d l = 0 := mv_ok ⟨h, h'⟩
theorem mv_one {all d : Int} {l : List Mk} {k : Nat} (hk : k < l.length) (h : ¬ (0 ≤ l[k].1 + d ∧ l[k].1 + d ≤ all)) : mvL all d l = [] ∧ mvE all d l = 1 := mv_bad fun hh => h (hh.2 _ (List.getElem_mem hk))
def moE (v : List St) (l : List Mk) (d : Int) : Int := if mkFault v l = 0 then mvE (fsum v) d l else mkFault v l
def moL (v : List St) (l : List Mk) (d : Int) : List Mk := if mkFault v l = 0 then mvL (fsum v) d l else []
theorem mo_ok {v : List St} {l : List Mk} {d : Int} (h : mkFault v l = 0) : moE v l d = mvE (fsum v) d l ∧ moL v l d = mvL (fsum v) d l := by simp [moE, moL, h]
theorem mo_bad {v : List St} {l : List Mk} {d : Int} (h : ¬ mkFault v l = 0) : moE v l d = mkFault v l ∧ moL v l d = [] := by simp [moE, moL, h]

set_option maxHeartbeats 2000000 in
theorem movedMarks_any (lo lo' c d : Nat) (A B : Option Addr) (v : List St) (l : List Mk) (by_ : Int) (w : World) (hr : Row w lo 3 A v.length (trs v)) (hrm : Row w lo' 2 B l.length (prs l)) (hg : Good v) (hlm : l.length ≤ 500) (hb : ∀ x ∈ l, 0 ≤ x.1 ∧ x.1 ≤ 1000000000000) :
    Calls Try.prog 42 #[.slice A v.length c, .slice B l.length d, .int .i64 by_] w fun e w' => ∃ A' c', e = .returned (.tuple #[.slice A' (mvL (fsum v) by_ l).length c', .int .i64 (mvE (fsum v) by_ l)]) ∧ Row w' w.heap.size 2 A' (mvL (fsum v) by_ l).length (prs (mvL (fsum v) by_ l)) ∧ Below w.heap.size w w' := by
  have HG := Lib.hid hg
  have HB := Lib.hid hb
  have s1 := hg.sum
  have s0 := fsum_nonneg v hg.nonneg
  have hl := hg.len
  clear hg hb
  go_enter Try.func42, Try.ntmps42
  go_wp2_with fail
  refine (in_any _ _ _ _).mono ?_
  rintro e w1 ⟨rfl, rfl⟩
  by_cases h1 : 0 ≤ by_ + 10000000 ∧ by_ ≤ 10000000
  · have h1' : (decide (-10000000 ≤ by_) && decide (by_ ≤ 10000000)) = true := by simp; omega
    rw [h1']
    clear h1'
    go_wp2_with fail
    go_loopw [8, 16] (fun o i wr => ∃ (k : Nat) (A' : Option Addr) (c' : Nat), k ≤ l.length ∧ i = .int .i64 k ∧ o = .slice A' (mvd by_ (l.take k)).length c' ∧ wr.ownsRow w.heap.size 76 2 (.slice A' (mvd by_ (l.take k)).length c') (mvd by_ (l.take k)).length (prs (mvd by_ (l.take k))) ∧ Hid (∀ x ∈ l.take k, 0 ≤ x.1 + by_ ∧ x.1 + by_ ≤ fsum v) ∧ Below w.heap.size w wr) (fun _ i _ => l.length - (intOf i).toNat)
    case atStart => exact ⟨0, none, 0, Nat.zero_le _, rfl, rfl, World.ownsRow_nil _ _ _ _, Lib.hid (by simp), Below.refl _ _⟩
    case round =>
      obtain ⟨k, A', c', hk, rfl, rfl, hown, HIN, hbw⟩ := hrel
      have zw := hbw.size
      by_cases hlt : k < l.length
      · obtain ⟨b, off, hB, _, hbs, c0, c1⟩ := (hrm.below hbw).pr_at hlt
        have HTK := Lib.hid (mvd_take by_ l k hlt)
        have HMT := Lib.hid (mv_take (all := fsum v) hlt HIN.out)
        have HONE := Lib.hid (mv_one (all := fsum v) (d := by_) hlt)
        have hln : (mvd by_ (l.take k)).length ≤ 500 := by rw [mvd_len]; simp; omega
        obtain ⟨x0, x1⟩ := HB.out l[k] (List.getElem_mem _)
        subst hB
        generalize l[k] = x at *
        generalize mvd by_ (l.take k) = xs at *
        have hrv := (hr.below hbw)
        have kb1 := Blk.new wr 76 #[.int .i64 (x.1 + by_), .int .i64 x.2]
        have hown1 := hown.alloc (.cells #[.int .i64 (x.1 + by_), .int .i64 x.2] 76)
        have hbx0 : Below w.heap.size w (wr.alloc (.cells #[.int .i64 (x.1 + by_), .int .i64 x.2] 76)) := (by repeat (first | exact hbw | refine Below.alloc ?_ (by first | omega | (simp; omega)) _ | refine below_drewN' ?_ _ | refine Below.drew ?_))
        have hby0 : Below wr.heap.size wr (wr.alloc (.cells #[.int .i64 (x.1 + by_), .int .i64 x.2] 76)) := (Below.refl _ _).alloc (Nat.le_refl _) _
        go_upto_region 8 with (fail)
        generalize hwa : wr.alloc (.cells #[.int .i64 (x.1 + by_), .int .i64 x.2] 76) = wa at *
        have hrva := hrv.below hby0
        clear hwa hrv
        have kb0d : Blk wa.drew wr.heap.size 76 #[.int .i64 (x.1 + by_), .int .i64 x.2] := kb1
        have kc0d : wa.drew.cell? ⟨wr.heap.size, 0, none⟩ = some (.int .i64 (x.1 + by_)) := kb0d.cell 0
        have hrvd : Row wa.drew lo 3 A v.length (trs v) := hrva
        have hbxd : Below w.heap.size w wa.drew := hbx0.drew
        have hownd : wa.drew.ownsRow w.heap.size 76 2 (.slice A' xs.length c') xs.length (prs xs) := hown1
        clear c0 c1 kb1 hrva hbx0 hown1 hby0
        go_region_held3 (fun w' => w'.cell? ⟨wr.heap.size, 0, none⟩ = some (.int .i64 (x.1 + by_))) (first | exact kc5 | exact kc0d) (first | (go_at_call 30; refine (framesIn_any _ _ lo v _ hrvd (by omega) HG.out.nonneg (by omega)).mono ?_; rintro e w5 ⟨rfl, hb5⟩; have kb5 := Blk.below kb0d hb5; have hown5 := own_keep hownd hb5; have hbx5 := below_up hbxd hb5; have kc5 : w5.cell? ⟨wr.heap.size, 0, none⟩ = some (.int .i64 (x.1 + by_)) := kb5.cell 0) | (go_at_call 60; refine (in_any _ _ _ _).mono ?_; rintro e w6 ⟨rfl, rfl⟩))
        all_goals
          have kd5 : w5.cell? ⟨wr.heap.size, 1, none⟩ = some (.int .i64 x.2) := kb5.cell 1
          have z5 := hbx5.size
          clear kb0d kc0d hrvd hbxd hownd hb5
          by_cases h2 : 0 ≤ x.1 + by_ ∧ x.1 + by_ ≤ fsum v
          · have dd : (!decide (0 ≤ x.1 + by_) || !decide (x.1 + by_ ≤ fsum v)) = false := by simp; omega
            have HN := Lib.hid (HMT.out h2)
            rw [dd]
            clear dd h2
            go_wp2_with (at_builtin; go_must (refine wpList_app (lo := w.heap.size) (base := w.heap.size) (n := xs.length) (xs := prs xs) _ _ rfl _ _ ty_mks rfl (by repeat (first | exact hown5 | refine World.ownsRow.alloc ?_ _ | refine own_drewN ?_ _ | refine World.ownsRow.drew ?_)) rfl (by first | exact row_new' _ (by first | rfl | simp) (by first | omega | (simp; omega)) rfl | exact row_newN _ _ (by first | rfl | simp) (by first | omega | (simp; omega)) rfl | exact row_newD _ (by first | rfl | simp) (by first | omega | (simp; omega)) rfl) rfl rfl (by first | omega | decide) (by first | omega | decide) (by first | omega | (simp; omega)) ?_))
            intro A7 c7 w7 hown7 hg7 _
            go_wp2_with fail
            go_roundw
            case rel => exact ⟨k + 1, A7, c7, by omega, by go_num, by rw [HTK.out]; simp, by rw [HTK.out]; simpa [prs] using hown7, HN, below_app hown5 (by repeat (first | exact hbx5 | refine Below.alloc ?_ (by first | omega | (simp; omega)) _ | refine below_drewN' ?_ _ | refine Below.drew ?_)) hg7 (Nat.le_refl _) (by simp; omega)⟩
            case measure => simp [intOf]; omega
          · have dd : (!decide (0 ≤ x.1 + by_) || !decide (x.1 + by_ ≤ fsum v)) = true := by simp; omega
            have HN := Lib.hid (HONE.out h2)
            rw [dd]
            clear dd h2
            go_wp2_with fail
            go_ret2
            rw [HN.out.1, HN.out.2]
            exact ⟨none, 0, ret2_is rfl rfl, Row.none_ _ _ _ _, hbx5⟩
      · have hkk : k = l.length := by omega
        subst hkk
        rw [List.take_length] at hown HIN ⊢
        have HN := Lib.hid (mv_all h1 HIN.out)
        go_wp2_with fail
        go_ret2
        rw [HN.out.1, HN.out.2]
        exact ⟨A', c', ret2_is rfl rfl, Row.of_own hown, hbw⟩
  · have h1' : (decide (-10000000 ≤ by_) && decide (by_ ≤ 10000000)) = false := by simp; omega
    have HN := Lib.hid (mv_bad (all := fsum v) (l := l) (d := by_) fun h => h1 h.1)
    rw [h1']
    clear h1'
    go_wp2_with fail
    go_ret2
    rw [HN.out.1, HN.out.2]
    exact ⟨none, 0, ret2_is rfl rfl, Row.none_ _ _ _ _, Below.refl _ _⟩

set_option maxHeartbeats 2000000 in
theorem moved_any (lo lo' c d : Nat) (A B : Option Addr) (v : List St) (l : List Mk) (by_ : Int) (w : World) (hr : Row w lo 3 A v.length (trs v)) (hrm : Row w lo' 2 B l.length (prs l)) (hl : v.length ≤ 1000000000) (hlm : l.length ≤ 1000000000) (hi : ∀ s ∈ v, s.2.1 ≤ 9223372036854775807) :
    Calls Try.prog 40 #[.slice A v.length c, .slice B l.length d, .int .i64 by_] w fun e w' => ∃ A' c', e = .returned (.tuple #[.slice A' (moL v l by_).length c', .int .i64 (moE v l by_)]) ∧ Row w' w.heap.size 2 A' (moL v l by_).length (prs (moL v l by_)) ∧ Below w.heap.size w w' := by
  go_enter Try.func40, Try.ntmps40
  go_wp2_with fail
  refine (checkMarks_any lo lo' _ _ _ _ v l _ hr hrm hl hlm hi).mono ?_
  rintro e w1 ⟨rfl, hb1⟩
  clear hi
  by_cases h0 : mkFault v l = 0
  · have h0' : (mkFault v l != 0) = false := by simpa using h0
    obtain ⟨hv, hm⟩ := mkFault_zero h0
    have HG := Lib.hid (vFault_ok hv)
    have HM := Lib.hid (mkF_ok hm)
    have HMO := Lib.hid (mo_ok (d := by_) h0)
    clear h0 hv hm
    have hln := HM.out.1
    have s1 := HG.out.sum
    have s0 := fsum_nonneg v HG.out.nonneg
    go_wp2_with fail
    refine (out_any _ _ _ _).mono ?_
    rintro e w2 ⟨rfl, rfl⟩
    by_cases h1 : 0 ≤ by_ + 10000000 ∧ by_ ≤ 10000000
    · have h1' : (decide (by_ < -10000000) || decide (10000000 < by_)) = false := by simp; omega
      rw [h1']
      clear h1'
      go_wp2_with fail
      refine (vframes_any _ _ _ v _ (hr.below hb1) hl HG.out.nonneg (by omega)).mono ?_
      rintro e w2 ⟨rfl, hb2⟩
      have hx2 := below_up hb1 hb2
      clear hb1 hb2 h0'
      go_wp2_with fail
      go_loopw [10, 25] (fun o i wr => ∃ (k : Nat) (A' : Option Addr) (c' : Nat), k ≤ l.length ∧ i = .int .i64 k ∧ o = .slice A' (mvd by_ (l.take k)).length c' ∧ wr.ownsRow w.heap.size 76 2 (.slice A' (mvd by_ (l.take k)).length c') (mvd by_ (l.take k)).length (prs (mvd by_ (l.take k))) ∧ Hid (∀ x ∈ l.take k, 0 ≤ x.1 + by_ ∧ x.1 + by_ ≤ fsum v) ∧ Below w.heap.size w wr) (fun _ i _ => l.length - (intOf i).toNat)
      case atStart => exact ⟨0, none, 0, Nat.zero_le _, rfl, rfl, World.ownsRow_nil _ _ _ _, Lib.hid (by simp), hx2⟩
      case round =>
        obtain ⟨k, A', c', hk, rfl, rfl, hown, HIN, hbw⟩ := hrel
        have zw := hbw.size
        by_cases hlt : k < l.length
        · obtain ⟨b, off, hB, _, hbs, c0, c1⟩ := (hrm.below hbw).pr_at hlt
          have HTK := Lib.hid (mvd_take by_ l k hlt)
          have HMT := Lib.hid (mv_take (all := fsum v) hlt HIN.out)
          have HONE := Lib.hid (mv_one (all := fsum v) (d := by_) hlt)
          have hls : (mvd by_ (l.take k)).length ≤ 500 := by rw [mvd_len]; simp; omega
          obtain ⟨_, _, x0, x1⟩ := HM.out.2.2.1 l[k] (List.getElem_mem _)
          subst hB
          generalize l[k] = x at *
          generalize mvd by_ (l.take k) = xs at *
          go_wp2_with fail
          refine (out_any _ _ _ _).mono ?_
          rintro e w3 ⟨rfl, rfl⟩
          have kb1 := Blk.new wr 76 #[.int .i64 (x.1 + by_), .int .i64 x.2]
          have hown5 := hown.alloc (.cells #[.int .i64 (x.1 + by_), .int .i64 x.2] 76)
          have hbx5 : Below w.heap.size w (wr.alloc (.cells #[.int .i64 (x.1 + by_), .int .i64 x.2] 76)) := (by repeat (first | exact hbw | refine Below.alloc ?_ (by first | omega | (simp; omega)) _ | refine below_drewN' ?_ _ | refine Below.drew ?_))
          generalize hwa : wr.alloc (.cells #[.int .i64 (x.1 + by_), .int .i64 x.2] 76) = wa at *
          have kc5 : wa.cell? ⟨wr.heap.size, 0, none⟩ = some (.int .i64 (x.1 + by_)) := kb1.cell 0
          have kd5 : wa.cell? ⟨wr.heap.size, 1, none⟩ = some (.int .i64 x.2) := kb1.cell 1
          have z5 := hbx5.size
          clear hwa c0 c1 kb1 hown
          by_cases h2 : 0 ≤ x.1 + by_ ∧ x.1 + by_ ≤ fsum v
          · have dd : (decide (x.1 + by_ < 0) || decide (fsum v < x.1 + by_)) = false := by simp; omega
            have HN := Lib.hid (HMT.out h2)
            rw [dd]
            clear dd h2
            go_wp2_with (at_builtin; go_must (refine wpList_app (lo := w.heap.size) (base := w.heap.size) (n := xs.length) (xs := prs xs) _ _ rfl _ _ ty_mks rfl (by repeat (first | exact hown5 | refine World.ownsRow.alloc ?_ _ | refine own_drewN ?_ _ | refine World.ownsRow.drew ?_)) rfl (by first | exact row_new' _ (by first | rfl | simp) (by first | omega | (simp; omega)) rfl | exact row_newN _ _ (by first | rfl | simp) (by first | omega | (simp; omega)) rfl | exact row_newD _ (by first | rfl | simp) (by first | omega | (simp; omega)) rfl) rfl rfl (by first | omega | decide) (by first | omega | decide) (by first | omega | (simp; omega)) ?_))
            intro A7 c7 w7 hown7 hg7 _
            go_wp2_with fail
            go_roundw
            case rel => exact ⟨k + 1, A7, c7, by omega, by go_num, by rw [HTK.out]; simp, by rw [HTK.out]; simpa [prs] using hown7, HN, below_app hown5 (by repeat (first | exact hbx5 | refine Below.alloc ?_ (by first | omega | (simp; omega)) _ | refine below_drewN' ?_ _ | refine Below.drew ?_)) hg7 (Nat.le_refl _) (by simp; omega)⟩
            case measure => simp [intOf]; omega
          · have dd : (decide (x.1 + by_ < 0) || decide (fsum v < x.1 + by_)) = true := by simp; omega
            have HN := Lib.hid (HONE.out h2)
            rw [dd]
            clear dd h2
            go_wp2_with fail
            go_ret2
            rw [HMO.out.1, HMO.out.2, HN.out.1, HN.out.2]
            exact ⟨none, 0, ret2_is rfl rfl, Row.none_ _ _ _ _, hbx5⟩
        · have hkk : k = l.length := by omega
          subst hkk
          rw [List.take_length] at hown HIN ⊢
          have HN := Lib.hid (mv_all h1 HIN.out)
          go_wp2_with fail
          go_ret2
          rw [HMO.out.1, HMO.out.2, HN.out.1, HN.out.2]
          exact ⟨A', c', ret2_is rfl rfl, Row.of_own hown, hbw⟩
    · have h1' : (decide (by_ < -10000000) || decide (10000000 < by_)) = true := by simp; omega
      have HN := Lib.hid (mv_bad (all := fsum v) (l := l) (d := by_) fun h => h1 h.1)
      rw [h1']
      clear h1'
      go_wp2_with fail
      go_ret2
      rw [HMO.out.1, HMO.out.2, HN.out.1, HN.out.2]
      exact ⟨none, 0, ret2_is rfl rfl, Row.none_ _ _ _ _, hb1⟩
  · have h0' : (mkFault v l != 0) = true := by simpa using h0
    have HMO := Lib.hid (mo_bad (d := by_) h0)
    clear h0
    go_wp2_with fail
    go_ret2
    rw [HMO.out.1, HMO.out.2]
    exact ⟨none, 0, ret2_is rfl rfl, Row.none_ _ _ _ _, hb1⟩
end Go.Proofs.Ytgkjpcapoofphaa
