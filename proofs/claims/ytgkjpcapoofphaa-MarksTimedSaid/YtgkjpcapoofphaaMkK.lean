/- The walk of the reference's shifted. -/
import Derived.Test.YtgkjpcapoofphaaMkJ
namespace Go.Proofs.Ytgkjpcapoofphaa
open Go.RowKit

theorem shF_ref (all d last : Int) (x : Mk) (f : Int) (h0 : 0 ≤ last) (h1 : 0 ≤ all) (hf : f = if x.2 = 2 ∨ x.2 = 3 then x.1 + d else x.1 - d) : (if last < (if all < (if f < 0 then 0 else f) then all else (if f < 0 then 0 else f)) then (if all < (if f < 0 then 0 else f) then all else (if f < 0 then 0 else f)) else last) = shF all d last x := by
  unfold shF; rw [← hf]; split <;> split <;> split <;> omega

set_option maxHeartbeats 2000000 in
theorem shiftedR_any (lo lo' c b_ : Nat) (A B : Option Addr) (v : List St) (l : List Mk) (by_ d : Int) (w : World) (hr : Row w lo 3 A v.length (trs v)) (hrm : Row w lo' 2 B l.length (prs l)) (hg : Good v) (hlm : l.length ≤ 500) (ht : Turn l) (hb : ∀ x ∈ l, 0 ≤ x.1 ∧ x.1 ≤ 1000000000000) (hd : -1000 ≤ d) (hd' : d ≤ 1000) (hdb : by_ = -d) :
    Calls Try.prog 91 #[.slice A v.length c, .slice B l.length b_, .int .i64 by_] w fun e w' => ∃ A' c', e = .returned (.slice A' (shM (fsum v) d l).2.length c') ∧ w'.ownsRow w.heap.size 76 2 (.slice A' (shM (fsum v) d l).2.length c') (shM (fsum v) d l).2.length (prs (shM (fsum v) d l).2) ∧ Below w.heap.size w w' := by
  have HG := Lib.hid hg
  have HB := Lib.hid hb
  have HT := Lib.hid ht
  have HD := Lib.hid hdb
  have s1 := hg.sum
  have s0 := fsum_nonneg v hg.nonneg
  have hl := hg.len
  have hd2 : -1000 ≤ by_ ∧ by_ ≤ 1000 := by omega
  have hlv : v.length ≤ 1000000000 := by omega
  have hsv : fsum v ≤ 1000000000000000 := by omega
  clear hg hb ht hdb
  go_enter Try.func91, Try.ntmps91
  go_wp2_with fail
  go_loopw [7, 8, 13] (fun o la i wr => ∃ (k : Nat) (A' : Option Addr) (c' : Nat), k ≤ l.length ∧ i = .int .i64 k ∧ la = .int .i64 (shM (fsum v) d (l.take k)).1 ∧ o = .slice A' (shM (fsum v) d (l.take k)).2.length c' ∧ wr.ownsRow w.heap.size 76 2 (.slice A' (shM (fsum v) d (l.take k)).2.length c') (shM (fsum v) d (l.take k)).2.length (prs (shM (fsum v) d (l.take k)).2) ∧ Below w.heap.size w wr) (fun _ _ i _ => l.length - (intOf i).toNat)
  case atStart => exact ⟨0, none, 0, Nat.zero_le _, rfl, rfl, rfl, World.ownsRow_nil _ _ _ _, Below.refl _ _⟩
  case round =>
    obtain ⟨k, A', c', hk, rfl, rfl, rfl, hown, hbw⟩ := hrel
    have zw := hbw.size
    by_cases hlt : k < l.length
    · obtain ⟨b, off, hB, _, hbs, c0, c1⟩ := (hrm.below hbw).pr_at hlt
      have hrv := hr.below hbw
      have HTK := Lib.hid (shM_take (fsum v) d l k hlt)
      have HSP := Lib.hid (shS_split (all := fsum v) (d := d) (s := shM (fsum v) d (l.take k)) (x := l[k]))
      have HSN := Lib.hid (shS_not (all := fsum v) (d := d) (s := shM (fsum v) d (l.take k)) (x := l[k]))
      have hsh := sh_inv (d := d) HT.out s0 k hk
      have sl := hsh.last
      have hln : (shM (fsum v) d (l.take k)).2.length ≤ 500 := by have := hsh.len; simp at this; omega
      obtain ⟨x0, x1⟩ := HB.out l[k] (List.getElem_mem _)
      have HKI := Lib.hid (HT.out.1 l[k] (List.getElem_mem _))
      have HSF := Lib.hid (fun f => shF_ref (fsum v) d (shM (fsum v) d (l.take k)).1 l[k] f sl.1 s0)
      subst hB
      clear hsh
      generalize l[k] = x at *
      generalize shM (fsum v) d (l.take k) = s at *
      by_cases h5 : x.2 = 5
      · have t1 : (x.2 == 1) = false := by simp; omega
        have t4 : (x.2 == 4) = false := by simp; omega
        have t2 : (x.2 == 2) = false := by simp; omega
        have t3 : (x.2 == 3) = false := by simp; omega
        have HE := Lib.hid (HSP.out h5)
        clear h5 HSP HSN
        go_wp2_with fail
        go_roundw
        case rel => exact ⟨k + 1, A', c', by omega, by go_num, by rw [HTK.out, HE.out], by rw [HTK.out, HE.out], by rw [HTK.out, HE.out]; exact (by repeat (first | exact hown | refine World.ownsRow.alloc ?_ _ | refine own_drewN ?_ _ | refine World.ownsRow.drew ?_)), (by repeat (first | exact hbw | refine Below.alloc ?_ (by first | omega | (simp; omega)) _ | refine below_drewN' ?_ _ | refine Below.drew ?_))⟩
        case measure => simp [intOf]; omega
      · have HE := Lib.hid (HSN.out h5)
        have hki := HKI.out
        clear HSP HSN
        have key : ∀ f : Int, f = (if x.2 = 2 ∨ x.2 = 3 then x.1 + d else x.1 - d) → -1000000000000000 ≤ f ∧ f ≤ 1000000000000000 := by
          intro f hf; subst hf; split <;> omega
        have KEY := Lib.hid key
        clear key
        by_cases h1 : x.2 = 1
        · have t1 : (x.2 == 1) = true := by simpa using h1
          have HF : Hid (x.1 + by_ = (if x.2 = 2 ∨ x.2 = 3 then x.1 + d else x.1 - d)) := Lib.hid (by rw [HD.out, if_neg (by omega)]; omega)
          have hbd := KEY.out _ HF.out
          have HSV := Lib.hid (HSF.out _ HF.out)
          clear h1 h5 hki
          generalize hfv : x.1 + by_ = f at *
          have kb1 := Blk.new wr 76 #[.int .i64 f, .int .i64 x.2]
          have hown1 := hown.alloc (.cells #[.int .i64 f, .int .i64 x.2] 76)
          have HOB : Hid (∀ k, (Value.slice A' s.2.length c').ownBlock = some k → k ≠ wr.heap.size) := Lib.hid (fun k hk => by have := (hown.lt k hk).2; omega)
          have hbx1 : Below w.heap.size w (wr.alloc (.cells #[.int .i64 f, .int .i64 x.2] 76)) := (by repeat (first | exact hbw | refine Below.alloc ?_ (by first | omega | (simp; omega)) _ | refine below_drewN' ?_ _ | refine Below.drew ?_))
          have hr1 := hrv.alloc (.cells #[.int .i64 f, .int .i64 x.2] 76)
          have hfv' : IntKind.i64.wrap (x.1 + by_) = f := by rw [hfv]; exact IntWalk.i64_in _ ⟨by omega, by omega⟩
          go_upto_region 13 with (fail)
          clear hfv' hfv HSF KEY HF c0 c1 hown hrv
          generalize hwa : wr.alloc (.cells #[.int .i64 f, .int .i64 x.2] 76) = wa at *
          have kc0 : wa.cell? ⟨wr.heap.size, 0, none⟩ = some (.int .i64 f) := kb1.cell 0
          have kf0 := kb1.froze 0
          have kb1d : Blk wa.drew wr.heap.size 76 #[.int .i64 f, .int .i64 x.2] := kb1
          have hr1d : Row wa.drew lo 3 A v.length (trs v) := hr1
          have hown1d : wa.drew.ownsRow w.heap.size 76 2 (.slice A' s.2.length c') s.2.length (prs s.2) := hown1
          have hbx1d : Below w.heap.size w wa.drew := hbx1.drew
          clear hwa kb1 hr1 hown1 hbx1
          refine wp_region_held_drew (S := (fun _ => True)) (by kernel_rfl) trivial (fun hHeld => ?_)
          (refine wpAnyH_take (i := 0) (v := ?_) (by (simp only [List.getElem?_toArray, List.getElem?_cons_succ, List.getElem?_cons_zero]; rfl)) (by kernel_rfl) (by kernel_rfl) (by kernel_rfl) (by exact fun _ _ _ h => h) (Or.inl ⟨by rfl, ?_⟩) (by assumption) ?_; (rotate_left 1; (intro w hSw; (try dsimp only at hSw); go_simp); (try with_reducible rfl)); (try simp only [Act.put, List.setIfInBounds_toArray, List.set_cons_zero, List.set_cons_succ]))
          (refine wpAnyH_take (i := 1) (v := ?_) (by (simp only [List.getElem?_toArray, List.getElem?_cons_succ, List.getElem?_cons_zero]; rfl)) (by kernel_rfl) (by kernel_rfl) (by kernel_rfl) (by exact fun _ _ _ h => h) (Or.inl ⟨by rfl, ?_⟩) (by assumption) ?_; (rotate_left 1; (intro w hSw; (try dsimp only at hSw); go_simp); (try with_reducible rfl)); (try simp only [Act.put, List.setIfInBounds_toArray, List.set_cons_zero, List.set_cons_succ]))
          (refine wpAnyH_take (i := 4) (v := ?_) (by (simp only [List.getElem?_toArray, List.getElem?_cons_succ, List.getElem?_cons_zero]; rfl)) (by kernel_rfl) (by kernel_rfl) (by kernel_rfl) (by exact fun _ _ _ h => h) (Or.inl ⟨by rfl, ?_⟩) (by assumption) ?_; (rotate_left 1; (intro w hSw; (try dsimp only at hSw); go_simp); (try with_reducible rfl)); (try simp only [Act.put, List.setIfInBounds_toArray, List.set_cons_zero, List.set_cons_succ]))
          refine wpAnyH_ready (rs := [2, 5]) (by kernel_rfl) (by simp) ?_
          refine AllReadyH.cons rfl (fun K hK => ?_) (AllReadyH.cons rfl (fun K hK => ?_) AllReadyH.nil)
          case refine_1 =>
            go_simp
            refine hK.out _ _ trivial (fun hHeld4 => ?_)
            clear hK K
            (try simp only [Act.put, List.setIfInBounds_toArray, List.set_cons_zero, List.set_cons_succ])
            (refine wpAnyH_take (i := 3) (v := ?_) (by (simp only [List.getElem?_toArray, List.getElem?_cons_succ, List.getElem?_cons_zero]; rfl)) (by kernel_rfl) (by kernel_rfl) (by kernel_rfl) (by exact fun _ _ _ h => h) (Or.inl ⟨by rfl, ?_⟩) (by assumption) ?_; (rotate_left 1; (intro w hSw; (try dsimp only at hSw); go_simp); (try with_reducible rfl)); (try simp only [Act.put, List.setIfInBounds_toArray, List.set_cons_zero, List.set_cons_succ]))
            generalize (if f < 0 then 0 else f) = mx at *
            refine wpAnyH_ready (rs := [5]) (by kernel_rfl) (by simp) ?_
            refine AllReadyH.cons rfl (fun K hK => ?_) AllReadyH.nil
            go_simp
            go_at_call 30
            refine (framesIn_any _ _ lo v _ hr1d hlv HG.out.nonneg hsv).mono ?_
            rintro e w5 ⟨rfl, hb5⟩
            have kb5 := Blk.below kb1d hb5
            have hown5 := own_keep hown1d hb5
            have hbx5 := below_up hbx1d hb5
            have kc5 : w5.cell? ⟨wr.heap.size, 0, none⟩ = some (.int .i64 f) := kb5.cell 0
            have kf5 := kb5.froze 0
            go_wp2_with fail
            refine hK.out _ _ trivial (fun hHeld5 => ?_)
            clear hK K
            (try simp only [Act.put, List.setIfInBounds_toArray, List.set_cons_zero, List.set_cons_succ])
            (refine wpAnyH_take (i := 6) (v := ?_) (by (simp only [List.getElem?_toArray, List.getElem?_cons_succ, List.getElem?_cons_zero]; rfl)) (by kernel_rfl) (by kernel_rfl) (by kernel_rfl) (by exact fun _ _ _ h => h) (Or.inl ⟨by rfl, ?_⟩) (by assumption) ?_; (rotate_left 1; (intro w hSw; (try dsimp only at hSw); go_simp); (try with_reducible rfl)); (try simp only [Act.put, List.setIfInBounds_toArray, List.set_cons_zero, List.set_cons_succ]))
            generalize (if fsum v < mx then fsum v else mx) = mn at *
            (refine wpAnyH_take (i := 7) (v := ?_) (by (simp only [List.getElem?_toArray, List.getElem?_cons_succ, List.getElem?_cons_zero]; rfl)) (by kernel_rfl) (by kernel_rfl) (by kernel_rfl) (by exact fun _ _ _ h => h) (Or.inl ⟨by rfl, ?_⟩) (by assumption) ?_; (rotate_left 1; (intro w hSw; (try dsimp only at hSw); go_simp); (try with_reducible rfl)); (try simp only [Act.put, List.setIfInBounds_toArray, List.set_cons_zero, List.set_cons_succ]))
            (refine wpAnyH_take (i := 8) (v := ?_) (by (simp only [List.getElem?_toArray, List.getElem?_cons_succ, List.getElem?_cons_zero]; rfl)) (by kernel_rfl) (by kernel_rfl) (by kernel_rfl) (by exact fun _ _ _ h => h) (Or.inl ⟨by rfl, ?_⟩) (by assumption) ?_; (rotate_left 1; (intro w hSw; (try dsimp only at hSw); go_simp); (try with_reducible rfl)); (try simp only [Act.put, List.setIfInBounds_toArray, List.set_cons_zero, List.set_cons_succ]))
            refine wpAnyH_ready (rs := [9]) (by kernel_rfl) (by simp) ?_
            refine AllReadyH.cons rfl (fun K hK => ?_) AllReadyH.nil
            go_simp
            refine hK.out _ _ trivial (fun hHeld6 => ?_)
            clear hK K
            refine wpAnyH_done (by kernel_rfl) ?_ _
            rw [HSV.out]
            clear HSV
            generalize shF (fsum v) d s.1 x = q at *
            have kb2 : Blk (w5.setCell ⟨wr.heap.size, 0, none⟩ (.int .i64 q)) wr.heap.size 76 #[.int .i64 q, .int .i64 x.2] := kb5.set 0 (.int .i64 q)
            have hown2 : (w5.setCell ⟨wr.heap.size, 0, none⟩ (.int .i64 q)).ownsRow w.heap.size 76 2 (.slice A' s.2.length c') s.2.length (prs s.2) := own_set_other hown5 HOB.out _
            have hbx2 : Below w.heap.size w (w5.setCell ⟨wr.heap.size, 0, none⟩ (.int .i64 q)) := Below.setCell hbx5 (by simp; omega) _
            generalize (w5.setCell ⟨wr.heap.size, 0, none⟩ (.int .i64 q)) = wb at *
            have kd0 : wb.cell? ⟨wr.heap.size, 0, none⟩ = some (.int .i64 q) := kb2.cell 0
            have kd1 : wb.cell? ⟨wr.heap.size, 1, none⟩ = some (.int .i64 x.2) := kb2.cell 1
            have zb := hbx2.size
            clear kb1d hown1d hbx1d hr1d kc0 kf0 HOB kb5 hown5 hbx5 kc5 kf5 hb5
            go_wp2_with (at_builtin; go_must (refine wpList_app (lo := w.heap.size) (base := w.heap.size) (n := s.2.length) (xs := prs s.2) _ _ rfl _ _ ty_mks rfl (by repeat (first | exact hown2 | refine World.ownsRow.alloc ?_ _ | refine own_drewN ?_ _ | refine World.ownsRow.drew ?_)) rfl (by first | exact row_new' _ (by first | rfl | simp) (by first | omega | (simp; omega)) rfl | exact row_newN _ _ (by first | rfl | simp) (by first | omega | (simp; omega)) rfl | exact row_newD _ (by first | rfl | simp) (by first | omega | (simp; omega)) rfl) rfl rfl (by first | omega | decide) (by first | omega | decide) (by first | omega | (simp; omega)) ?_))
            intro A7 c7 w7 hown7 hg7 _
            go_wp2_with fail
            go_roundw
            case rel => exact ⟨k + 1, A7, c7, by omega, by go_num, by rw [HTK.out, HE.out], by rw [HTK.out, HE.out]; simp, by rw [HTK.out, HE.out]; simpa [prs] using hown7, below_app hown2 (by repeat (first | exact hbx2 | refine Below.alloc ?_ (by first | omega | (simp; omega)) _ | refine below_drewN' ?_ _ | refine Below.drew ?_)) hg7 (Nat.le_refl _) (by simp; omega)⟩
            case measure => simp [intOf]; omega
          case refine_2 =>
            go_simp
            go_at_call 30
            refine (framesIn_any _ _ lo v _ hr1d hlv HG.out.nonneg hsv).mono ?_
            rintro e w5 ⟨rfl, hb5⟩
            have kb5 := Blk.below kb1d hb5
            have hown5 := own_keep hown1d hb5
            have hbx5 := below_up hbx1d hb5
            have kc5 : w5.cell? ⟨wr.heap.size, 0, none⟩ = some (.int .i64 f) := kb5.cell 0
            have kf5 := kb5.froze 0
            go_wp2_with fail
            refine hK.out _ _ trivial (fun hHeld5 => ?_)
            clear hK K
            (try simp only [Act.put, List.setIfInBounds_toArray, List.set_cons_zero, List.set_cons_succ])
            refine wpAnyH_ready (rs := [2]) (by kernel_rfl) (by simp) ?_
            refine AllReadyH.cons rfl (fun K hK => ?_) AllReadyH.nil
            go_simp
            refine hK.out _ _ trivial (fun hHeld4 => ?_)
            clear hK K
            (try simp only [Act.put, List.setIfInBounds_toArray, List.set_cons_zero, List.set_cons_succ])
            (refine wpAnyH_take (i := 3) (v := ?_) (by (simp only [List.getElem?_toArray, List.getElem?_cons_succ, List.getElem?_cons_zero]; rfl)) (by kernel_rfl) (by kernel_rfl) (by kernel_rfl) (by exact fun _ _ _ h => h) (Or.inl ⟨by rfl, ?_⟩) (by assumption) ?_; (rotate_left 1; (intro w hSw; (try dsimp only at hSw); go_simp); (try with_reducible rfl)); (try simp only [Act.put, List.setIfInBounds_toArray, List.set_cons_zero, List.set_cons_succ]))
            generalize (if f < 0 then 0 else f) = mx at *
            (refine wpAnyH_take (i := 6) (v := ?_) (by (simp only [List.getElem?_toArray, List.getElem?_cons_succ, List.getElem?_cons_zero]; rfl)) (by kernel_rfl) (by kernel_rfl) (by kernel_rfl) (by exact fun _ _ _ h => h) (Or.inl ⟨by rfl, ?_⟩) (by assumption) ?_; (rotate_left 1; (intro w hSw; (try dsimp only at hSw); go_simp); (try with_reducible rfl)); (try simp only [Act.put, List.setIfInBounds_toArray, List.set_cons_zero, List.set_cons_succ]))
            generalize (if fsum v < mx then fsum v else mx) = mn at *
            (refine wpAnyH_take (i := 7) (v := ?_) (by (simp only [List.getElem?_toArray, List.getElem?_cons_succ, List.getElem?_cons_zero]; rfl)) (by kernel_rfl) (by kernel_rfl) (by kernel_rfl) (by exact fun _ _ _ h => h) (Or.inl ⟨by rfl, ?_⟩) (by assumption) ?_; (rotate_left 1; (intro w hSw; (try dsimp only at hSw); go_simp); (try with_reducible rfl)); (try simp only [Act.put, List.setIfInBounds_toArray, List.set_cons_zero, List.set_cons_succ]))
            (refine wpAnyH_take (i := 8) (v := ?_) (by (simp only [List.getElem?_toArray, List.getElem?_cons_succ, List.getElem?_cons_zero]; rfl)) (by kernel_rfl) (by kernel_rfl) (by kernel_rfl) (by exact fun _ _ _ h => h) (Or.inl ⟨by rfl, ?_⟩) (by assumption) ?_; (rotate_left 1; (intro w hSw; (try dsimp only at hSw); go_simp); (try with_reducible rfl)); (try simp only [Act.put, List.setIfInBounds_toArray, List.set_cons_zero, List.set_cons_succ]))
            refine wpAnyH_ready (rs := [9]) (by kernel_rfl) (by simp) ?_
            refine AllReadyH.cons rfl (fun K hK => ?_) AllReadyH.nil
            go_simp
            refine hK.out _ _ trivial (fun hHeld6 => ?_)
            clear hK K
            refine wpAnyH_done (by kernel_rfl) ?_ _
            rw [HSV.out]
            clear HSV
            generalize shF (fsum v) d s.1 x = q at *
            have kb2 : Blk (w5.setCell ⟨wr.heap.size, 0, none⟩ (.int .i64 q)) wr.heap.size 76 #[.int .i64 q, .int .i64 x.2] := kb5.set 0 (.int .i64 q)
            have hown2 : (w5.setCell ⟨wr.heap.size, 0, none⟩ (.int .i64 q)).ownsRow w.heap.size 76 2 (.slice A' s.2.length c') s.2.length (prs s.2) := own_set_other hown5 HOB.out _
            have hbx2 : Below w.heap.size w (w5.setCell ⟨wr.heap.size, 0, none⟩ (.int .i64 q)) := Below.setCell hbx5 (by simp; omega) _
            generalize (w5.setCell ⟨wr.heap.size, 0, none⟩ (.int .i64 q)) = wb at *
            have kd0 : wb.cell? ⟨wr.heap.size, 0, none⟩ = some (.int .i64 q) := kb2.cell 0
            have kd1 : wb.cell? ⟨wr.heap.size, 1, none⟩ = some (.int .i64 x.2) := kb2.cell 1
            have zb := hbx2.size
            clear kb1d hown1d hbx1d hr1d kc0 kf0 HOB kb5 hown5 hbx5 kc5 kf5 hb5
            go_wp2_with (at_builtin; go_must (refine wpList_app (lo := w.heap.size) (base := w.heap.size) (n := s.2.length) (xs := prs s.2) _ _ rfl _ _ ty_mks rfl (by repeat (first | exact hown2 | refine World.ownsRow.alloc ?_ _ | refine own_drewN ?_ _ | refine World.ownsRow.drew ?_)) rfl (by first | exact row_new' _ (by first | rfl | simp) (by first | omega | (simp; omega)) rfl | exact row_newN _ _ (by first | rfl | simp) (by first | omega | (simp; omega)) rfl | exact row_newD _ (by first | rfl | simp) (by first | omega | (simp; omega)) rfl) rfl rfl (by first | omega | decide) (by first | omega | decide) (by first | omega | (simp; omega)) ?_))
            intro A7 c7 w7 hown7 hg7 _
            go_wp2_with fail
            go_roundw
            case rel => exact ⟨k + 1, A7, c7, by omega, by go_num, by rw [HTK.out, HE.out], by rw [HTK.out, HE.out]; simp, by rw [HTK.out, HE.out]; simpa [prs] using hown7, below_app hown2 (by repeat (first | exact hbx2 | refine Below.alloc ?_ (by first | omega | (simp; omega)) _ | refine below_drewN' ?_ _ | refine Below.drew ?_)) hg7 (Nat.le_refl _) (by simp; omega)⟩
            case measure => simp [intOf]; omega
        · have t1 : (x.2 == 1) = false := by simpa using h1
          by_cases h4 : x.2 = 4
          · have t4 : (x.2 == 4) = true := by simpa using h4
            have HF : Hid (x.1 + by_ = (if x.2 = 2 ∨ x.2 = 3 then x.1 + d else x.1 - d)) := Lib.hid (by rw [HD.out, if_neg (by omega)]; omega)
            have hbd := KEY.out _ HF.out
            have HSV := Lib.hid (HSF.out _ HF.out)
            clear h1 h4 h5 hki
            generalize hfv : x.1 + by_ = f at *
            have kb1 := Blk.new wr 76 #[.int .i64 f, .int .i64 x.2]
            have hown1 := hown.alloc (.cells #[.int .i64 f, .int .i64 x.2] 76)
            have HOB : Hid (∀ k, (Value.slice A' s.2.length c').ownBlock = some k → k ≠ wr.heap.size) := Lib.hid (fun k hk => by have := (hown.lt k hk).2; omega)
            have hbx1 : Below w.heap.size w (wr.alloc (.cells #[.int .i64 f, .int .i64 x.2] 76)) := (by repeat (first | exact hbw | refine Below.alloc ?_ (by first | omega | (simp; omega)) _ | refine below_drewN' ?_ _ | refine Below.drew ?_))
            have hr1 := hrv.alloc (.cells #[.int .i64 f, .int .i64 x.2] 76)
            have hfv' : IntKind.i64.wrap (x.1 + by_) = f := by rw [hfv]; exact IntWalk.i64_in _ ⟨by omega, by omega⟩
            go_upto_region 13 with (fail)
            clear hfv' hfv HSF KEY HF c0 c1 hown hrv
            generalize hwa : wr.alloc (.cells #[.int .i64 f, .int .i64 x.2] 76) = wa at *
            have kc0 : wa.cell? ⟨wr.heap.size, 0, none⟩ = some (.int .i64 f) := kb1.cell 0
            have kf0 := kb1.froze 0
            have kb1d : Blk wa.drew wr.heap.size 76 #[.int .i64 f, .int .i64 x.2] := kb1
            have hr1d : Row wa.drew lo 3 A v.length (trs v) := hr1
            have hown1d : wa.drew.ownsRow w.heap.size 76 2 (.slice A' s.2.length c') s.2.length (prs s.2) := hown1
            have hbx1d : Below w.heap.size w wa.drew := hbx1.drew
            clear hwa kb1 hr1 hown1 hbx1
            refine wp_region_held_drew (S := (fun _ => True)) (by kernel_rfl) trivial (fun hHeld => ?_)
            (refine wpAnyH_take (i := 0) (v := ?_) (by (simp only [List.getElem?_toArray, List.getElem?_cons_succ, List.getElem?_cons_zero]; rfl)) (by kernel_rfl) (by kernel_rfl) (by kernel_rfl) (by exact fun _ _ _ h => h) (Or.inl ⟨by rfl, ?_⟩) (by assumption) ?_; (rotate_left 1; (intro w hSw; (try dsimp only at hSw); go_simp); (try with_reducible rfl)); (try simp only [Act.put, List.setIfInBounds_toArray, List.set_cons_zero, List.set_cons_succ]))
            (refine wpAnyH_take (i := 1) (v := ?_) (by (simp only [List.getElem?_toArray, List.getElem?_cons_succ, List.getElem?_cons_zero]; rfl)) (by kernel_rfl) (by kernel_rfl) (by kernel_rfl) (by exact fun _ _ _ h => h) (Or.inl ⟨by rfl, ?_⟩) (by assumption) ?_; (rotate_left 1; (intro w hSw; (try dsimp only at hSw); go_simp); (try with_reducible rfl)); (try simp only [Act.put, List.setIfInBounds_toArray, List.set_cons_zero, List.set_cons_succ]))
            (refine wpAnyH_take (i := 4) (v := ?_) (by (simp only [List.getElem?_toArray, List.getElem?_cons_succ, List.getElem?_cons_zero]; rfl)) (by kernel_rfl) (by kernel_rfl) (by kernel_rfl) (by exact fun _ _ _ h => h) (Or.inl ⟨by rfl, ?_⟩) (by assumption) ?_; (rotate_left 1; (intro w hSw; (try dsimp only at hSw); go_simp); (try with_reducible rfl)); (try simp only [Act.put, List.setIfInBounds_toArray, List.set_cons_zero, List.set_cons_succ]))
            refine wpAnyH_ready (rs := [2, 5]) (by kernel_rfl) (by simp) ?_
            refine AllReadyH.cons rfl (fun K hK => ?_) (AllReadyH.cons rfl (fun K hK => ?_) AllReadyH.nil)
            case refine_1 =>
              go_simp
              refine hK.out _ _ trivial (fun hHeld4 => ?_)
              clear hK K
              (try simp only [Act.put, List.setIfInBounds_toArray, List.set_cons_zero, List.set_cons_succ])
              (refine wpAnyH_take (i := 3) (v := ?_) (by (simp only [List.getElem?_toArray, List.getElem?_cons_succ, List.getElem?_cons_zero]; rfl)) (by kernel_rfl) (by kernel_rfl) (by kernel_rfl) (by exact fun _ _ _ h => h) (Or.inl ⟨by rfl, ?_⟩) (by assumption) ?_; (rotate_left 1; (intro w hSw; (try dsimp only at hSw); go_simp); (try with_reducible rfl)); (try simp only [Act.put, List.setIfInBounds_toArray, List.set_cons_zero, List.set_cons_succ]))
              generalize (if f < 0 then 0 else f) = mx at *
              refine wpAnyH_ready (rs := [5]) (by kernel_rfl) (by simp) ?_
              refine AllReadyH.cons rfl (fun K hK => ?_) AllReadyH.nil
              go_simp
              go_at_call 30
              refine (framesIn_any _ _ lo v _ hr1d hlv HG.out.nonneg hsv).mono ?_
              rintro e w5 ⟨rfl, hb5⟩
              have kb5 := Blk.below kb1d hb5
              have hown5 := own_keep hown1d hb5
              have hbx5 := below_up hbx1d hb5
              have kc5 : w5.cell? ⟨wr.heap.size, 0, none⟩ = some (.int .i64 f) := kb5.cell 0
              have kf5 := kb5.froze 0
              go_wp2_with fail
              refine hK.out _ _ trivial (fun hHeld5 => ?_)
              clear hK K
              (try simp only [Act.put, List.setIfInBounds_toArray, List.set_cons_zero, List.set_cons_succ])
              (refine wpAnyH_take (i := 6) (v := ?_) (by (simp only [List.getElem?_toArray, List.getElem?_cons_succ, List.getElem?_cons_zero]; rfl)) (by kernel_rfl) (by kernel_rfl) (by kernel_rfl) (by exact fun _ _ _ h => h) (Or.inl ⟨by rfl, ?_⟩) (by assumption) ?_; (rotate_left 1; (intro w hSw; (try dsimp only at hSw); go_simp); (try with_reducible rfl)); (try simp only [Act.put, List.setIfInBounds_toArray, List.set_cons_zero, List.set_cons_succ]))
              generalize (if fsum v < mx then fsum v else mx) = mn at *
              (refine wpAnyH_take (i := 7) (v := ?_) (by (simp only [List.getElem?_toArray, List.getElem?_cons_succ, List.getElem?_cons_zero]; rfl)) (by kernel_rfl) (by kernel_rfl) (by kernel_rfl) (by exact fun _ _ _ h => h) (Or.inl ⟨by rfl, ?_⟩) (by assumption) ?_; (rotate_left 1; (intro w hSw; (try dsimp only at hSw); go_simp); (try with_reducible rfl)); (try simp only [Act.put, List.setIfInBounds_toArray, List.set_cons_zero, List.set_cons_succ]))
              (refine wpAnyH_take (i := 8) (v := ?_) (by (simp only [List.getElem?_toArray, List.getElem?_cons_succ, List.getElem?_cons_zero]; rfl)) (by kernel_rfl) (by kernel_rfl) (by kernel_rfl) (by exact fun _ _ _ h => h) (Or.inl ⟨by rfl, ?_⟩) (by assumption) ?_; (rotate_left 1; (intro w hSw; (try dsimp only at hSw); go_simp); (try with_reducible rfl)); (try simp only [Act.put, List.setIfInBounds_toArray, List.set_cons_zero, List.set_cons_succ]))
              refine wpAnyH_ready (rs := [9]) (by kernel_rfl) (by simp) ?_
              refine AllReadyH.cons rfl (fun K hK => ?_) AllReadyH.nil
              go_simp
              refine hK.out _ _ trivial (fun hHeld6 => ?_)
              clear hK K
              refine wpAnyH_done (by kernel_rfl) ?_ _
              rw [HSV.out]
              clear HSV
              generalize shF (fsum v) d s.1 x = q at *
              have kb2 : Blk (w5.setCell ⟨wr.heap.size, 0, none⟩ (.int .i64 q)) wr.heap.size 76 #[.int .i64 q, .int .i64 x.2] := kb5.set 0 (.int .i64 q)
              have hown2 : (w5.setCell ⟨wr.heap.size, 0, none⟩ (.int .i64 q)).ownsRow w.heap.size 76 2 (.slice A' s.2.length c') s.2.length (prs s.2) := own_set_other hown5 HOB.out _
              have hbx2 : Below w.heap.size w (w5.setCell ⟨wr.heap.size, 0, none⟩ (.int .i64 q)) := Below.setCell hbx5 (by simp; omega) _
              generalize (w5.setCell ⟨wr.heap.size, 0, none⟩ (.int .i64 q)) = wb at *
              have kd0 : wb.cell? ⟨wr.heap.size, 0, none⟩ = some (.int .i64 q) := kb2.cell 0
              have kd1 : wb.cell? ⟨wr.heap.size, 1, none⟩ = some (.int .i64 x.2) := kb2.cell 1
              have zb := hbx2.size
              clear kb1d hown1d hbx1d hr1d kc0 kf0 HOB kb5 hown5 hbx5 kc5 kf5 hb5
              go_wp2_with (at_builtin; go_must (refine wpList_app (lo := w.heap.size) (base := w.heap.size) (n := s.2.length) (xs := prs s.2) _ _ rfl _ _ ty_mks rfl (by repeat (first | exact hown2 | refine World.ownsRow.alloc ?_ _ | refine own_drewN ?_ _ | refine World.ownsRow.drew ?_)) rfl (by first | exact row_new' _ (by first | rfl | simp) (by first | omega | (simp; omega)) rfl | exact row_newN _ _ (by first | rfl | simp) (by first | omega | (simp; omega)) rfl | exact row_newD _ (by first | rfl | simp) (by first | omega | (simp; omega)) rfl) rfl rfl (by first | omega | decide) (by first | omega | decide) (by first | omega | (simp; omega)) ?_))
              intro A7 c7 w7 hown7 hg7 _
              go_wp2_with fail
              go_roundw
              case rel => exact ⟨k + 1, A7, c7, by omega, by go_num, by rw [HTK.out, HE.out], by rw [HTK.out, HE.out]; simp, by rw [HTK.out, HE.out]; simpa [prs] using hown7, below_app hown2 (by repeat (first | exact hbx2 | refine Below.alloc ?_ (by first | omega | (simp; omega)) _ | refine below_drewN' ?_ _ | refine Below.drew ?_)) hg7 (Nat.le_refl _) (by simp; omega)⟩
              case measure => simp [intOf]; omega
            case refine_2 =>
              go_simp
              go_at_call 30
              refine (framesIn_any _ _ lo v _ hr1d hlv HG.out.nonneg hsv).mono ?_
              rintro e w5 ⟨rfl, hb5⟩
              have kb5 := Blk.below kb1d hb5
              have hown5 := own_keep hown1d hb5
              have hbx5 := below_up hbx1d hb5
              have kc5 : w5.cell? ⟨wr.heap.size, 0, none⟩ = some (.int .i64 f) := kb5.cell 0
              have kf5 := kb5.froze 0
              go_wp2_with fail
              refine hK.out _ _ trivial (fun hHeld5 => ?_)
              clear hK K
              (try simp only [Act.put, List.setIfInBounds_toArray, List.set_cons_zero, List.set_cons_succ])
              refine wpAnyH_ready (rs := [2]) (by kernel_rfl) (by simp) ?_
              refine AllReadyH.cons rfl (fun K hK => ?_) AllReadyH.nil
              go_simp
              refine hK.out _ _ trivial (fun hHeld4 => ?_)
              clear hK K
              (try simp only [Act.put, List.setIfInBounds_toArray, List.set_cons_zero, List.set_cons_succ])
              (refine wpAnyH_take (i := 3) (v := ?_) (by (simp only [List.getElem?_toArray, List.getElem?_cons_succ, List.getElem?_cons_zero]; rfl)) (by kernel_rfl) (by kernel_rfl) (by kernel_rfl) (by exact fun _ _ _ h => h) (Or.inl ⟨by rfl, ?_⟩) (by assumption) ?_; (rotate_left 1; (intro w hSw; (try dsimp only at hSw); go_simp); (try with_reducible rfl)); (try simp only [Act.put, List.setIfInBounds_toArray, List.set_cons_zero, List.set_cons_succ]))
              generalize (if f < 0 then 0 else f) = mx at *
              (refine wpAnyH_take (i := 6) (v := ?_) (by (simp only [List.getElem?_toArray, List.getElem?_cons_succ, List.getElem?_cons_zero]; rfl)) (by kernel_rfl) (by kernel_rfl) (by kernel_rfl) (by exact fun _ _ _ h => h) (Or.inl ⟨by rfl, ?_⟩) (by assumption) ?_; (rotate_left 1; (intro w hSw; (try dsimp only at hSw); go_simp); (try with_reducible rfl)); (try simp only [Act.put, List.setIfInBounds_toArray, List.set_cons_zero, List.set_cons_succ]))
              generalize (if fsum v < mx then fsum v else mx) = mn at *
              (refine wpAnyH_take (i := 7) (v := ?_) (by (simp only [List.getElem?_toArray, List.getElem?_cons_succ, List.getElem?_cons_zero]; rfl)) (by kernel_rfl) (by kernel_rfl) (by kernel_rfl) (by exact fun _ _ _ h => h) (Or.inl ⟨by rfl, ?_⟩) (by assumption) ?_; (rotate_left 1; (intro w hSw; (try dsimp only at hSw); go_simp); (try with_reducible rfl)); (try simp only [Act.put, List.setIfInBounds_toArray, List.set_cons_zero, List.set_cons_succ]))
              (refine wpAnyH_take (i := 8) (v := ?_) (by (simp only [List.getElem?_toArray, List.getElem?_cons_succ, List.getElem?_cons_zero]; rfl)) (by kernel_rfl) (by kernel_rfl) (by kernel_rfl) (by exact fun _ _ _ h => h) (Or.inl ⟨by rfl, ?_⟩) (by assumption) ?_; (rotate_left 1; (intro w hSw; (try dsimp only at hSw); go_simp); (try with_reducible rfl)); (try simp only [Act.put, List.setIfInBounds_toArray, List.set_cons_zero, List.set_cons_succ]))
              refine wpAnyH_ready (rs := [9]) (by kernel_rfl) (by simp) ?_
              refine AllReadyH.cons rfl (fun K hK => ?_) AllReadyH.nil
              go_simp
              refine hK.out _ _ trivial (fun hHeld6 => ?_)
              clear hK K
              refine wpAnyH_done (by kernel_rfl) ?_ _
              rw [HSV.out]
              clear HSV
              generalize shF (fsum v) d s.1 x = q at *
              have kb2 : Blk (w5.setCell ⟨wr.heap.size, 0, none⟩ (.int .i64 q)) wr.heap.size 76 #[.int .i64 q, .int .i64 x.2] := kb5.set 0 (.int .i64 q)
              have hown2 : (w5.setCell ⟨wr.heap.size, 0, none⟩ (.int .i64 q)).ownsRow w.heap.size 76 2 (.slice A' s.2.length c') s.2.length (prs s.2) := own_set_other hown5 HOB.out _
              have hbx2 : Below w.heap.size w (w5.setCell ⟨wr.heap.size, 0, none⟩ (.int .i64 q)) := Below.setCell hbx5 (by simp; omega) _
              generalize (w5.setCell ⟨wr.heap.size, 0, none⟩ (.int .i64 q)) = wb at *
              have kd0 : wb.cell? ⟨wr.heap.size, 0, none⟩ = some (.int .i64 q) := kb2.cell 0
              have kd1 : wb.cell? ⟨wr.heap.size, 1, none⟩ = some (.int .i64 x.2) := kb2.cell 1
              have zb := hbx2.size
              clear kb1d hown1d hbx1d hr1d kc0 kf0 HOB kb5 hown5 hbx5 kc5 kf5 hb5
              go_wp2_with (at_builtin; go_must (refine wpList_app (lo := w.heap.size) (base := w.heap.size) (n := s.2.length) (xs := prs s.2) _ _ rfl _ _ ty_mks rfl (by repeat (first | exact hown2 | refine World.ownsRow.alloc ?_ _ | refine own_drewN ?_ _ | refine World.ownsRow.drew ?_)) rfl (by first | exact row_new' _ (by first | rfl | simp) (by first | omega | (simp; omega)) rfl | exact row_newN _ _ (by first | rfl | simp) (by first | omega | (simp; omega)) rfl | exact row_newD _ (by first | rfl | simp) (by first | omega | (simp; omega)) rfl) rfl rfl (by first | omega | decide) (by first | omega | decide) (by first | omega | (simp; omega)) ?_))
              intro A7 c7 w7 hown7 hg7 _
              go_wp2_with fail
              go_roundw
              case rel => exact ⟨k + 1, A7, c7, by omega, by go_num, by rw [HTK.out, HE.out], by rw [HTK.out, HE.out]; simp, by rw [HTK.out, HE.out]; simpa [prs] using hown7, below_app hown2 (by repeat (first | exact hbx2 | refine Below.alloc ?_ (by first | omega | (simp; omega)) _ | refine below_drewN' ?_ _ | refine Below.drew ?_)) hg7 (Nat.le_refl _) (by simp; omega)⟩
              case measure => simp [intOf]; omega
          · have t4 : (x.2 == 4) = false := by simpa using h4
            by_cases h2 : x.2 = 2
            · have t2 : (x.2 == 2) = true := by simpa using h2
              have HF : Hid (x.1 - by_ = (if x.2 = 2 ∨ x.2 = 3 then x.1 + d else x.1 - d)) := Lib.hid (by rw [HD.out, if_pos (.inl h2)]; omega)
              have hbd := KEY.out _ HF.out
              have HSV := Lib.hid (HSF.out _ HF.out)
              clear h1 h2 h4 h5 hki
              generalize hfv : x.1 - by_ = f at *
              have kb1 := Blk.new wr 76 #[.int .i64 f, .int .i64 x.2]
              have hown1 := hown.alloc (.cells #[.int .i64 f, .int .i64 x.2] 76)
              have HOB : Hid (∀ k, (Value.slice A' s.2.length c').ownBlock = some k → k ≠ wr.heap.size) := Lib.hid (fun k hk => by have := (hown.lt k hk).2; omega)
              have hbx1 : Below w.heap.size w (wr.alloc (.cells #[.int .i64 f, .int .i64 x.2] 76)) := (by repeat (first | exact hbw | refine Below.alloc ?_ (by first | omega | (simp; omega)) _ | refine below_drewN' ?_ _ | refine Below.drew ?_))
              have hr1 := hrv.alloc (.cells #[.int .i64 f, .int .i64 x.2] 76)
              have hfv' : IntKind.i64.wrap (x.1 - by_) = f := by rw [hfv]; exact IntWalk.i64_in _ ⟨by omega, by omega⟩
              go_upto_region 13 with (fail)
              clear hfv' hfv HSF KEY HF c0 c1 hown hrv
              generalize hwa : wr.alloc (.cells #[.int .i64 f, .int .i64 x.2] 76) = wa at *
              have kc0 : wa.cell? ⟨wr.heap.size, 0, none⟩ = some (.int .i64 f) := kb1.cell 0
              have kf0 := kb1.froze 0
              have kb1d : Blk wa.drew wr.heap.size 76 #[.int .i64 f, .int .i64 x.2] := kb1
              have hr1d : Row wa.drew lo 3 A v.length (trs v) := hr1
              have hown1d : wa.drew.ownsRow w.heap.size 76 2 (.slice A' s.2.length c') s.2.length (prs s.2) := hown1
              have hbx1d : Below w.heap.size w wa.drew := hbx1.drew
              clear hwa kb1 hr1 hown1 hbx1
              refine wp_region_held_drew (S := (fun _ => True)) (by kernel_rfl) trivial (fun hHeld => ?_)
              (refine wpAnyH_take (i := 0) (v := ?_) (by (simp only [List.getElem?_toArray, List.getElem?_cons_succ, List.getElem?_cons_zero]; rfl)) (by kernel_rfl) (by kernel_rfl) (by kernel_rfl) (by exact fun _ _ _ h => h) (Or.inl ⟨by rfl, ?_⟩) (by assumption) ?_; (rotate_left 1; (intro w hSw; (try dsimp only at hSw); go_simp); (try with_reducible rfl)); (try simp only [Act.put, List.setIfInBounds_toArray, List.set_cons_zero, List.set_cons_succ]))
              (refine wpAnyH_take (i := 1) (v := ?_) (by (simp only [List.getElem?_toArray, List.getElem?_cons_succ, List.getElem?_cons_zero]; rfl)) (by kernel_rfl) (by kernel_rfl) (by kernel_rfl) (by exact fun _ _ _ h => h) (Or.inl ⟨by rfl, ?_⟩) (by assumption) ?_; (rotate_left 1; (intro w hSw; (try dsimp only at hSw); go_simp); (try with_reducible rfl)); (try simp only [Act.put, List.setIfInBounds_toArray, List.set_cons_zero, List.set_cons_succ]))
              (refine wpAnyH_take (i := 4) (v := ?_) (by (simp only [List.getElem?_toArray, List.getElem?_cons_succ, List.getElem?_cons_zero]; rfl)) (by kernel_rfl) (by kernel_rfl) (by kernel_rfl) (by exact fun _ _ _ h => h) (Or.inl ⟨by rfl, ?_⟩) (by assumption) ?_; (rotate_left 1; (intro w hSw; (try dsimp only at hSw); go_simp); (try with_reducible rfl)); (try simp only [Act.put, List.setIfInBounds_toArray, List.set_cons_zero, List.set_cons_succ]))
              refine wpAnyH_ready (rs := [2, 5]) (by kernel_rfl) (by simp) ?_
              refine AllReadyH.cons rfl (fun K hK => ?_) (AllReadyH.cons rfl (fun K hK => ?_) AllReadyH.nil)
              case refine_1 =>
                go_simp
                refine hK.out _ _ trivial (fun hHeld4 => ?_)
                clear hK K
                (try simp only [Act.put, List.setIfInBounds_toArray, List.set_cons_zero, List.set_cons_succ])
                (refine wpAnyH_take (i := 3) (v := ?_) (by (simp only [List.getElem?_toArray, List.getElem?_cons_succ, List.getElem?_cons_zero]; rfl)) (by kernel_rfl) (by kernel_rfl) (by kernel_rfl) (by exact fun _ _ _ h => h) (Or.inl ⟨by rfl, ?_⟩) (by assumption) ?_; (rotate_left 1; (intro w hSw; (try dsimp only at hSw); go_simp); (try with_reducible rfl)); (try simp only [Act.put, List.setIfInBounds_toArray, List.set_cons_zero, List.set_cons_succ]))
                generalize (if f < 0 then 0 else f) = mx at *
                refine wpAnyH_ready (rs := [5]) (by kernel_rfl) (by simp) ?_
                refine AllReadyH.cons rfl (fun K hK => ?_) AllReadyH.nil
                go_simp
                go_at_call 30
                refine (framesIn_any _ _ lo v _ hr1d hlv HG.out.nonneg hsv).mono ?_
                rintro e w5 ⟨rfl, hb5⟩
                have kb5 := Blk.below kb1d hb5
                have hown5 := own_keep hown1d hb5
                have hbx5 := below_up hbx1d hb5
                have kc5 : w5.cell? ⟨wr.heap.size, 0, none⟩ = some (.int .i64 f) := kb5.cell 0
                have kf5 := kb5.froze 0
                go_wp2_with fail
                refine hK.out _ _ trivial (fun hHeld5 => ?_)
                clear hK K
                (try simp only [Act.put, List.setIfInBounds_toArray, List.set_cons_zero, List.set_cons_succ])
                (refine wpAnyH_take (i := 6) (v := ?_) (by (simp only [List.getElem?_toArray, List.getElem?_cons_succ, List.getElem?_cons_zero]; rfl)) (by kernel_rfl) (by kernel_rfl) (by kernel_rfl) (by exact fun _ _ _ h => h) (Or.inl ⟨by rfl, ?_⟩) (by assumption) ?_; (rotate_left 1; (intro w hSw; (try dsimp only at hSw); go_simp); (try with_reducible rfl)); (try simp only [Act.put, List.setIfInBounds_toArray, List.set_cons_zero, List.set_cons_succ]))
                generalize (if fsum v < mx then fsum v else mx) = mn at *
                (refine wpAnyH_take (i := 7) (v := ?_) (by (simp only [List.getElem?_toArray, List.getElem?_cons_succ, List.getElem?_cons_zero]; rfl)) (by kernel_rfl) (by kernel_rfl) (by kernel_rfl) (by exact fun _ _ _ h => h) (Or.inl ⟨by rfl, ?_⟩) (by assumption) ?_; (rotate_left 1; (intro w hSw; (try dsimp only at hSw); go_simp); (try with_reducible rfl)); (try simp only [Act.put, List.setIfInBounds_toArray, List.set_cons_zero, List.set_cons_succ]))
                (refine wpAnyH_take (i := 8) (v := ?_) (by (simp only [List.getElem?_toArray, List.getElem?_cons_succ, List.getElem?_cons_zero]; rfl)) (by kernel_rfl) (by kernel_rfl) (by kernel_rfl) (by exact fun _ _ _ h => h) (Or.inl ⟨by rfl, ?_⟩) (by assumption) ?_; (rotate_left 1; (intro w hSw; (try dsimp only at hSw); go_simp); (try with_reducible rfl)); (try simp only [Act.put, List.setIfInBounds_toArray, List.set_cons_zero, List.set_cons_succ]))
                refine wpAnyH_ready (rs := [9]) (by kernel_rfl) (by simp) ?_
                refine AllReadyH.cons rfl (fun K hK => ?_) AllReadyH.nil
                go_simp
                refine hK.out _ _ trivial (fun hHeld6 => ?_)
                clear hK K
                refine wpAnyH_done (by kernel_rfl) ?_ _
                rw [HSV.out]
                clear HSV
                generalize shF (fsum v) d s.1 x = q at *
                have kb2 : Blk (w5.setCell ⟨wr.heap.size, 0, none⟩ (.int .i64 q)) wr.heap.size 76 #[.int .i64 q, .int .i64 x.2] := kb5.set 0 (.int .i64 q)
                have hown2 : (w5.setCell ⟨wr.heap.size, 0, none⟩ (.int .i64 q)).ownsRow w.heap.size 76 2 (.slice A' s.2.length c') s.2.length (prs s.2) := own_set_other hown5 HOB.out _
                have hbx2 : Below w.heap.size w (w5.setCell ⟨wr.heap.size, 0, none⟩ (.int .i64 q)) := Below.setCell hbx5 (by simp; omega) _
                generalize (w5.setCell ⟨wr.heap.size, 0, none⟩ (.int .i64 q)) = wb at *
                have kd0 : wb.cell? ⟨wr.heap.size, 0, none⟩ = some (.int .i64 q) := kb2.cell 0
                have kd1 : wb.cell? ⟨wr.heap.size, 1, none⟩ = some (.int .i64 x.2) := kb2.cell 1
                have zb := hbx2.size
                clear kb1d hown1d hbx1d hr1d kc0 kf0 HOB kb5 hown5 hbx5 kc5 kf5 hb5
                go_wp2_with (at_builtin; go_must (refine wpList_app (lo := w.heap.size) (base := w.heap.size) (n := s.2.length) (xs := prs s.2) _ _ rfl _ _ ty_mks rfl (by repeat (first | exact hown2 | refine World.ownsRow.alloc ?_ _ | refine own_drewN ?_ _ | refine World.ownsRow.drew ?_)) rfl (by first | exact row_new' _ (by first | rfl | simp) (by first | omega | (simp; omega)) rfl | exact row_newN _ _ (by first | rfl | simp) (by first | omega | (simp; omega)) rfl | exact row_newD _ (by first | rfl | simp) (by first | omega | (simp; omega)) rfl) rfl rfl (by first | omega | decide) (by first | omega | decide) (by first | omega | (simp; omega)) ?_))
                intro A7 c7 w7 hown7 hg7 _
                go_wp2_with fail
                go_roundw
                case rel => exact ⟨k + 1, A7, c7, by omega, by go_num, by rw [HTK.out, HE.out], by rw [HTK.out, HE.out]; simp, by rw [HTK.out, HE.out]; simpa [prs] using hown7, below_app hown2 (by repeat (first | exact hbx2 | refine Below.alloc ?_ (by first | omega | (simp; omega)) _ | refine below_drewN' ?_ _ | refine Below.drew ?_)) hg7 (Nat.le_refl _) (by simp; omega)⟩
                case measure => simp [intOf]; omega
              case refine_2 =>
                go_simp
                go_at_call 30
                refine (framesIn_any _ _ lo v _ hr1d hlv HG.out.nonneg hsv).mono ?_
                rintro e w5 ⟨rfl, hb5⟩
                have kb5 := Blk.below kb1d hb5
                have hown5 := own_keep hown1d hb5
                have hbx5 := below_up hbx1d hb5
                have kc5 : w5.cell? ⟨wr.heap.size, 0, none⟩ = some (.int .i64 f) := kb5.cell 0
                have kf5 := kb5.froze 0
                go_wp2_with fail
                refine hK.out _ _ trivial (fun hHeld5 => ?_)
                clear hK K
                (try simp only [Act.put, List.setIfInBounds_toArray, List.set_cons_zero, List.set_cons_succ])
                refine wpAnyH_ready (rs := [2]) (by kernel_rfl) (by simp) ?_
                refine AllReadyH.cons rfl (fun K hK => ?_) AllReadyH.nil
                go_simp
                refine hK.out _ _ trivial (fun hHeld4 => ?_)
                clear hK K
                (try simp only [Act.put, List.setIfInBounds_toArray, List.set_cons_zero, List.set_cons_succ])
                (refine wpAnyH_take (i := 3) (v := ?_) (by (simp only [List.getElem?_toArray, List.getElem?_cons_succ, List.getElem?_cons_zero]; rfl)) (by kernel_rfl) (by kernel_rfl) (by kernel_rfl) (by exact fun _ _ _ h => h) (Or.inl ⟨by rfl, ?_⟩) (by assumption) ?_; (rotate_left 1; (intro w hSw; (try dsimp only at hSw); go_simp); (try with_reducible rfl)); (try simp only [Act.put, List.setIfInBounds_toArray, List.set_cons_zero, List.set_cons_succ]))
                generalize (if f < 0 then 0 else f) = mx at *
                (refine wpAnyH_take (i := 6) (v := ?_) (by (simp only [List.getElem?_toArray, List.getElem?_cons_succ, List.getElem?_cons_zero]; rfl)) (by kernel_rfl) (by kernel_rfl) (by kernel_rfl) (by exact fun _ _ _ h => h) (Or.inl ⟨by rfl, ?_⟩) (by assumption) ?_; (rotate_left 1; (intro w hSw; (try dsimp only at hSw); go_simp); (try with_reducible rfl)); (try simp only [Act.put, List.setIfInBounds_toArray, List.set_cons_zero, List.set_cons_succ]))
                generalize (if fsum v < mx then fsum v else mx) = mn at *
                (refine wpAnyH_take (i := 7) (v := ?_) (by (simp only [List.getElem?_toArray, List.getElem?_cons_succ, List.getElem?_cons_zero]; rfl)) (by kernel_rfl) (by kernel_rfl) (by kernel_rfl) (by exact fun _ _ _ h => h) (Or.inl ⟨by rfl, ?_⟩) (by assumption) ?_; (rotate_left 1; (intro w hSw; (try dsimp only at hSw); go_simp); (try with_reducible rfl)); (try simp only [Act.put, List.setIfInBounds_toArray, List.set_cons_zero, List.set_cons_succ]))
                (refine wpAnyH_take (i := 8) (v := ?_) (by (simp only [List.getElem?_toArray, List.getElem?_cons_succ, List.getElem?_cons_zero]; rfl)) (by kernel_rfl) (by kernel_rfl) (by kernel_rfl) (by exact fun _ _ _ h => h) (Or.inl ⟨by rfl, ?_⟩) (by assumption) ?_; (rotate_left 1; (intro w hSw; (try dsimp only at hSw); go_simp); (try with_reducible rfl)); (try simp only [Act.put, List.setIfInBounds_toArray, List.set_cons_zero, List.set_cons_succ]))
                refine wpAnyH_ready (rs := [9]) (by kernel_rfl) (by simp) ?_
                refine AllReadyH.cons rfl (fun K hK => ?_) AllReadyH.nil
                go_simp
                refine hK.out _ _ trivial (fun hHeld6 => ?_)
                clear hK K
                refine wpAnyH_done (by kernel_rfl) ?_ _
                rw [HSV.out]
                clear HSV
                generalize shF (fsum v) d s.1 x = q at *
                have kb2 : Blk (w5.setCell ⟨wr.heap.size, 0, none⟩ (.int .i64 q)) wr.heap.size 76 #[.int .i64 q, .int .i64 x.2] := kb5.set 0 (.int .i64 q)
                have hown2 : (w5.setCell ⟨wr.heap.size, 0, none⟩ (.int .i64 q)).ownsRow w.heap.size 76 2 (.slice A' s.2.length c') s.2.length (prs s.2) := own_set_other hown5 HOB.out _
                have hbx2 : Below w.heap.size w (w5.setCell ⟨wr.heap.size, 0, none⟩ (.int .i64 q)) := Below.setCell hbx5 (by simp; omega) _
                generalize (w5.setCell ⟨wr.heap.size, 0, none⟩ (.int .i64 q)) = wb at *
                have kd0 : wb.cell? ⟨wr.heap.size, 0, none⟩ = some (.int .i64 q) := kb2.cell 0
                have kd1 : wb.cell? ⟨wr.heap.size, 1, none⟩ = some (.int .i64 x.2) := kb2.cell 1
                have zb := hbx2.size
                clear kb1d hown1d hbx1d hr1d kc0 kf0 HOB kb5 hown5 hbx5 kc5 kf5 hb5
                go_wp2_with (at_builtin; go_must (refine wpList_app (lo := w.heap.size) (base := w.heap.size) (n := s.2.length) (xs := prs s.2) _ _ rfl _ _ ty_mks rfl (by repeat (first | exact hown2 | refine World.ownsRow.alloc ?_ _ | refine own_drewN ?_ _ | refine World.ownsRow.drew ?_)) rfl (by first | exact row_new' _ (by first | rfl | simp) (by first | omega | (simp; omega)) rfl | exact row_newN _ _ (by first | rfl | simp) (by first | omega | (simp; omega)) rfl | exact row_newD _ (by first | rfl | simp) (by first | omega | (simp; omega)) rfl) rfl rfl (by first | omega | decide) (by first | omega | decide) (by first | omega | (simp; omega)) ?_))
                intro A7 c7 w7 hown7 hg7 _
                go_wp2_with fail
                go_roundw
                case rel => exact ⟨k + 1, A7, c7, by omega, by go_num, by rw [HTK.out, HE.out], by rw [HTK.out, HE.out]; simp, by rw [HTK.out, HE.out]; simpa [prs] using hown7, below_app hown2 (by repeat (first | exact hbx2 | refine Below.alloc ?_ (by first | omega | (simp; omega)) _ | refine below_drewN' ?_ _ | refine Below.drew ?_)) hg7 (Nat.le_refl _) (by simp; omega)⟩
                case measure => simp [intOf]; omega
            · have t2 : (x.2 == 2) = false := by simpa using h2
              have h3 : x.2 = 3 := by omega
              have t3 : (x.2 == 3) = true := by simpa using h3
              have HF : Hid (x.1 - by_ = (if x.2 = 2 ∨ x.2 = 3 then x.1 + d else x.1 - d)) := Lib.hid (by rw [HD.out, if_pos (.inr h3)]; omega)
              have hbd := KEY.out _ HF.out
              have HSV := Lib.hid (HSF.out _ HF.out)
              clear h1 h2 h3 h4 h5 hki
              generalize hfv : x.1 - by_ = f at *
              have kb1 := Blk.new wr 76 #[.int .i64 f, .int .i64 x.2]
              have hown1 := hown.alloc (.cells #[.int .i64 f, .int .i64 x.2] 76)
              have HOB : Hid (∀ k, (Value.slice A' s.2.length c').ownBlock = some k → k ≠ wr.heap.size) := Lib.hid (fun k hk => by have := (hown.lt k hk).2; omega)
              have hbx1 : Below w.heap.size w (wr.alloc (.cells #[.int .i64 f, .int .i64 x.2] 76)) := (by repeat (first | exact hbw | refine Below.alloc ?_ (by first | omega | (simp; omega)) _ | refine below_drewN' ?_ _ | refine Below.drew ?_))
              have hr1 := hrv.alloc (.cells #[.int .i64 f, .int .i64 x.2] 76)
              have hfv' : IntKind.i64.wrap (x.1 - by_) = f := by rw [hfv]; exact IntWalk.i64_in _ ⟨by omega, by omega⟩
              go_upto_region 13 with (fail)
              clear hfv' hfv HSF KEY HF c0 c1 hown hrv
              generalize hwa : wr.alloc (.cells #[.int .i64 f, .int .i64 x.2] 76) = wa at *
              have kc0 : wa.cell? ⟨wr.heap.size, 0, none⟩ = some (.int .i64 f) := kb1.cell 0
              have kf0 := kb1.froze 0
              have kb1d : Blk wa.drew wr.heap.size 76 #[.int .i64 f, .int .i64 x.2] := kb1
              have hr1d : Row wa.drew lo 3 A v.length (trs v) := hr1
              have hown1d : wa.drew.ownsRow w.heap.size 76 2 (.slice A' s.2.length c') s.2.length (prs s.2) := hown1
              have hbx1d : Below w.heap.size w wa.drew := hbx1.drew
              clear hwa kb1 hr1 hown1 hbx1
              refine wp_region_held_drew (S := (fun _ => True)) (by kernel_rfl) trivial (fun hHeld => ?_)
              (refine wpAnyH_take (i := 0) (v := ?_) (by (simp only [List.getElem?_toArray, List.getElem?_cons_succ, List.getElem?_cons_zero]; rfl)) (by kernel_rfl) (by kernel_rfl) (by kernel_rfl) (by exact fun _ _ _ h => h) (Or.inl ⟨by rfl, ?_⟩) (by assumption) ?_; (rotate_left 1; (intro w hSw; (try dsimp only at hSw); go_simp); (try with_reducible rfl)); (try simp only [Act.put, List.setIfInBounds_toArray, List.set_cons_zero, List.set_cons_succ]))
              (refine wpAnyH_take (i := 1) (v := ?_) (by (simp only [List.getElem?_toArray, List.getElem?_cons_succ, List.getElem?_cons_zero]; rfl)) (by kernel_rfl) (by kernel_rfl) (by kernel_rfl) (by exact fun _ _ _ h => h) (Or.inl ⟨by rfl, ?_⟩) (by assumption) ?_; (rotate_left 1; (intro w hSw; (try dsimp only at hSw); go_simp); (try with_reducible rfl)); (try simp only [Act.put, List.setIfInBounds_toArray, List.set_cons_zero, List.set_cons_succ]))
              (refine wpAnyH_take (i := 4) (v := ?_) (by (simp only [List.getElem?_toArray, List.getElem?_cons_succ, List.getElem?_cons_zero]; rfl)) (by kernel_rfl) (by kernel_rfl) (by kernel_rfl) (by exact fun _ _ _ h => h) (Or.inl ⟨by rfl, ?_⟩) (by assumption) ?_; (rotate_left 1; (intro w hSw; (try dsimp only at hSw); go_simp); (try with_reducible rfl)); (try simp only [Act.put, List.setIfInBounds_toArray, List.set_cons_zero, List.set_cons_succ]))
              refine wpAnyH_ready (rs := [2, 5]) (by kernel_rfl) (by simp) ?_
              refine AllReadyH.cons rfl (fun K hK => ?_) (AllReadyH.cons rfl (fun K hK => ?_) AllReadyH.nil)
              case refine_1 =>
                go_simp
                refine hK.out _ _ trivial (fun hHeld4 => ?_)
                clear hK K
                (try simp only [Act.put, List.setIfInBounds_toArray, List.set_cons_zero, List.set_cons_succ])
                (refine wpAnyH_take (i := 3) (v := ?_) (by (simp only [List.getElem?_toArray, List.getElem?_cons_succ, List.getElem?_cons_zero]; rfl)) (by kernel_rfl) (by kernel_rfl) (by kernel_rfl) (by exact fun _ _ _ h => h) (Or.inl ⟨by rfl, ?_⟩) (by assumption) ?_; (rotate_left 1; (intro w hSw; (try dsimp only at hSw); go_simp); (try with_reducible rfl)); (try simp only [Act.put, List.setIfInBounds_toArray, List.set_cons_zero, List.set_cons_succ]))
                generalize (if f < 0 then 0 else f) = mx at *
                refine wpAnyH_ready (rs := [5]) (by kernel_rfl) (by simp) ?_
                refine AllReadyH.cons rfl (fun K hK => ?_) AllReadyH.nil
                go_simp
                go_at_call 30
                refine (framesIn_any _ _ lo v _ hr1d hlv HG.out.nonneg hsv).mono ?_
                rintro e w5 ⟨rfl, hb5⟩
                have kb5 := Blk.below kb1d hb5
                have hown5 := own_keep hown1d hb5
                have hbx5 := below_up hbx1d hb5
                have kc5 : w5.cell? ⟨wr.heap.size, 0, none⟩ = some (.int .i64 f) := kb5.cell 0
                have kf5 := kb5.froze 0
                go_wp2_with fail
                refine hK.out _ _ trivial (fun hHeld5 => ?_)
                clear hK K
                (try simp only [Act.put, List.setIfInBounds_toArray, List.set_cons_zero, List.set_cons_succ])
                (refine wpAnyH_take (i := 6) (v := ?_) (by (simp only [List.getElem?_toArray, List.getElem?_cons_succ, List.getElem?_cons_zero]; rfl)) (by kernel_rfl) (by kernel_rfl) (by kernel_rfl) (by exact fun _ _ _ h => h) (Or.inl ⟨by rfl, ?_⟩) (by assumption) ?_; (rotate_left 1; (intro w hSw; (try dsimp only at hSw); go_simp); (try with_reducible rfl)); (try simp only [Act.put, List.setIfInBounds_toArray, List.set_cons_zero, List.set_cons_succ]))
                generalize (if fsum v < mx then fsum v else mx) = mn at *
                (refine wpAnyH_take (i := 7) (v := ?_) (by (simp only [List.getElem?_toArray, List.getElem?_cons_succ, List.getElem?_cons_zero]; rfl)) (by kernel_rfl) (by kernel_rfl) (by kernel_rfl) (by exact fun _ _ _ h => h) (Or.inl ⟨by rfl, ?_⟩) (by assumption) ?_; (rotate_left 1; (intro w hSw; (try dsimp only at hSw); go_simp); (try with_reducible rfl)); (try simp only [Act.put, List.setIfInBounds_toArray, List.set_cons_zero, List.set_cons_succ]))
                (refine wpAnyH_take (i := 8) (v := ?_) (by (simp only [List.getElem?_toArray, List.getElem?_cons_succ, List.getElem?_cons_zero]; rfl)) (by kernel_rfl) (by kernel_rfl) (by kernel_rfl) (by exact fun _ _ _ h => h) (Or.inl ⟨by rfl, ?_⟩) (by assumption) ?_; (rotate_left 1; (intro w hSw; (try dsimp only at hSw); go_simp); (try with_reducible rfl)); (try simp only [Act.put, List.setIfInBounds_toArray, List.set_cons_zero, List.set_cons_succ]))
                refine wpAnyH_ready (rs := [9]) (by kernel_rfl) (by simp) ?_
                refine AllReadyH.cons rfl (fun K hK => ?_) AllReadyH.nil
                go_simp
                refine hK.out _ _ trivial (fun hHeld6 => ?_)
                clear hK K
                refine wpAnyH_done (by kernel_rfl) ?_ _
                rw [HSV.out]
                clear HSV
                generalize shF (fsum v) d s.1 x = q at *
                have kb2 : Blk (w5.setCell ⟨wr.heap.size, 0, none⟩ (.int .i64 q)) wr.heap.size 76 #[.int .i64 q, .int .i64 x.2] := kb5.set 0 (.int .i64 q)
                have hown2 : (w5.setCell ⟨wr.heap.size, 0, none⟩ (.int .i64 q)).ownsRow w.heap.size 76 2 (.slice A' s.2.length c') s.2.length (prs s.2) := own_set_other hown5 HOB.out _
                have hbx2 : Below w.heap.size w (w5.setCell ⟨wr.heap.size, 0, none⟩ (.int .i64 q)) := Below.setCell hbx5 (by simp; omega) _
                generalize (w5.setCell ⟨wr.heap.size, 0, none⟩ (.int .i64 q)) = wb at *
                have kd0 : wb.cell? ⟨wr.heap.size, 0, none⟩ = some (.int .i64 q) := kb2.cell 0
                have kd1 : wb.cell? ⟨wr.heap.size, 1, none⟩ = some (.int .i64 x.2) := kb2.cell 1
                have zb := hbx2.size
                clear kb1d hown1d hbx1d hr1d kc0 kf0 HOB kb5 hown5 hbx5 kc5 kf5 hb5
                go_wp2_with (at_builtin; go_must (refine wpList_app (lo := w.heap.size) (base := w.heap.size) (n := s.2.length) (xs := prs s.2) _ _ rfl _ _ ty_mks rfl (by repeat (first | exact hown2 | refine World.ownsRow.alloc ?_ _ | refine own_drewN ?_ _ | refine World.ownsRow.drew ?_)) rfl (by first | exact row_new' _ (by first | rfl | simp) (by first | omega | (simp; omega)) rfl | exact row_newN _ _ (by first | rfl | simp) (by first | omega | (simp; omega)) rfl | exact row_newD _ (by first | rfl | simp) (by first | omega | (simp; omega)) rfl) rfl rfl (by first | omega | decide) (by first | omega | decide) (by first | omega | (simp; omega)) ?_))
                intro A7 c7 w7 hown7 hg7 _
                go_wp2_with fail
                go_roundw
                case rel => exact ⟨k + 1, A7, c7, by omega, by go_num, by rw [HTK.out, HE.out], by rw [HTK.out, HE.out]; simp, by rw [HTK.out, HE.out]; simpa [prs] using hown7, below_app hown2 (by repeat (first | exact hbx2 | refine Below.alloc ?_ (by first | omega | (simp; omega)) _ | refine below_drewN' ?_ _ | refine Below.drew ?_)) hg7 (Nat.le_refl _) (by simp; omega)⟩
                case measure => simp [intOf]; omega
              case refine_2 =>
                go_simp
                go_at_call 30
                refine (framesIn_any _ _ lo v _ hr1d hlv HG.out.nonneg hsv).mono ?_
                rintro e w5 ⟨rfl, hb5⟩
                have kb5 := Blk.below kb1d hb5
                have hown5 := own_keep hown1d hb5
                have hbx5 := below_up hbx1d hb5
                have kc5 : w5.cell? ⟨wr.heap.size, 0, none⟩ = some (.int .i64 f) := kb5.cell 0
                have kf5 := kb5.froze 0
                go_wp2_with fail
                refine hK.out _ _ trivial (fun hHeld5 => ?_)
                clear hK K
                (try simp only [Act.put, List.setIfInBounds_toArray, List.set_cons_zero, List.set_cons_succ])
                refine wpAnyH_ready (rs := [2]) (by kernel_rfl) (by simp) ?_
                refine AllReadyH.cons rfl (fun K hK => ?_) AllReadyH.nil
                go_simp
                refine hK.out _ _ trivial (fun hHeld4 => ?_)
                clear hK K
                (try simp only [Act.put, List.setIfInBounds_toArray, List.set_cons_zero, List.set_cons_succ])
                (refine wpAnyH_take (i := 3) (v := ?_) (by (simp only [List.getElem?_toArray, List.getElem?_cons_succ, List.getElem?_cons_zero]; rfl)) (by kernel_rfl) (by kernel_rfl) (by kernel_rfl) (by exact fun _ _ _ h => h) (Or.inl ⟨by rfl, ?_⟩) (by assumption) ?_; (rotate_left 1; (intro w hSw; (try dsimp only at hSw); go_simp); (try with_reducible rfl)); (try simp only [Act.put, List.setIfInBounds_toArray, List.set_cons_zero, List.set_cons_succ]))
                generalize (if f < 0 then 0 else f) = mx at *
                (refine wpAnyH_take (i := 6) (v := ?_) (by (simp only [List.getElem?_toArray, List.getElem?_cons_succ, List.getElem?_cons_zero]; rfl)) (by kernel_rfl) (by kernel_rfl) (by kernel_rfl) (by exact fun _ _ _ h => h) (Or.inl ⟨by rfl, ?_⟩) (by assumption) ?_; (rotate_left 1; (intro w hSw; (try dsimp only at hSw); go_simp); (try with_reducible rfl)); (try simp only [Act.put, List.setIfInBounds_toArray, List.set_cons_zero, List.set_cons_succ]))
                generalize (if fsum v < mx then fsum v else mx) = mn at *
                (refine wpAnyH_take (i := 7) (v := ?_) (by (simp only [List.getElem?_toArray, List.getElem?_cons_succ, List.getElem?_cons_zero]; rfl)) (by kernel_rfl) (by kernel_rfl) (by kernel_rfl) (by exact fun _ _ _ h => h) (Or.inl ⟨by rfl, ?_⟩) (by assumption) ?_; (rotate_left 1; (intro w hSw; (try dsimp only at hSw); go_simp); (try with_reducible rfl)); (try simp only [Act.put, List.setIfInBounds_toArray, List.set_cons_zero, List.set_cons_succ]))
                (refine wpAnyH_take (i := 8) (v := ?_) (by (simp only [List.getElem?_toArray, List.getElem?_cons_succ, List.getElem?_cons_zero]; rfl)) (by kernel_rfl) (by kernel_rfl) (by kernel_rfl) (by exact fun _ _ _ h => h) (Or.inl ⟨by rfl, ?_⟩) (by assumption) ?_; (rotate_left 1; (intro w hSw; (try dsimp only at hSw); go_simp); (try with_reducible rfl)); (try simp only [Act.put, List.setIfInBounds_toArray, List.set_cons_zero, List.set_cons_succ]))
                refine wpAnyH_ready (rs := [9]) (by kernel_rfl) (by simp) ?_
                refine AllReadyH.cons rfl (fun K hK => ?_) AllReadyH.nil
                go_simp
                refine hK.out _ _ trivial (fun hHeld6 => ?_)
                clear hK K
                refine wpAnyH_done (by kernel_rfl) ?_ _
                rw [HSV.out]
                clear HSV
                generalize shF (fsum v) d s.1 x = q at *
                have kb2 : Blk (w5.setCell ⟨wr.heap.size, 0, none⟩ (.int .i64 q)) wr.heap.size 76 #[.int .i64 q, .int .i64 x.2] := kb5.set 0 (.int .i64 q)
                have hown2 : (w5.setCell ⟨wr.heap.size, 0, none⟩ (.int .i64 q)).ownsRow w.heap.size 76 2 (.slice A' s.2.length c') s.2.length (prs s.2) := own_set_other hown5 HOB.out _
                have hbx2 : Below w.heap.size w (w5.setCell ⟨wr.heap.size, 0, none⟩ (.int .i64 q)) := Below.setCell hbx5 (by simp; omega) _
                generalize (w5.setCell ⟨wr.heap.size, 0, none⟩ (.int .i64 q)) = wb at *
                have kd0 : wb.cell? ⟨wr.heap.size, 0, none⟩ = some (.int .i64 q) := kb2.cell 0
                have kd1 : wb.cell? ⟨wr.heap.size, 1, none⟩ = some (.int .i64 x.2) := kb2.cell 1
                have zb := hbx2.size
                clear kb1d hown1d hbx1d hr1d kc0 kf0 HOB kb5 hown5 hbx5 kc5 kf5 hb5
                go_wp2_with (at_builtin; go_must (refine wpList_app (lo := w.heap.size) (base := w.heap.size) (n := s.2.length) (xs := prs s.2) _ _ rfl _ _ ty_mks rfl (by repeat (first | exact hown2 | refine World.ownsRow.alloc ?_ _ | refine own_drewN ?_ _ | refine World.ownsRow.drew ?_)) rfl (by first | exact row_new' _ (by first | rfl | simp) (by first | omega | (simp; omega)) rfl | exact row_newN _ _ (by first | rfl | simp) (by first | omega | (simp; omega)) rfl | exact row_newD _ (by first | rfl | simp) (by first | omega | (simp; omega)) rfl) rfl rfl (by first | omega | decide) (by first | omega | decide) (by first | omega | (simp; omega)) ?_))
                intro A7 c7 w7 hown7 hg7 _
                go_wp2_with fail
                go_roundw
                case rel => exact ⟨k + 1, A7, c7, by omega, by go_num, by rw [HTK.out, HE.out], by rw [HTK.out, HE.out]; simp, by rw [HTK.out, HE.out]; simpa [prs] using hown7, below_app hown2 (by repeat (first | exact hbx2 | refine Below.alloc ?_ (by first | omega | (simp; omega)) _ | refine below_drewN' ?_ _ | refine Below.drew ?_)) hg7 (Nat.le_refl _) (by simp; omega)⟩
                case measure => simp [intOf]; omega
    · have hkk : k = l.length := by omega
      subst hkk
      rw [List.take_length] at hown
      rw [List.take_length]
      go_wp2_with fail
      go_ret
      exact ⟨A', c', rfl, hown, hbw⟩
end Go.Proofs.Ytgkjpcapoofphaa
