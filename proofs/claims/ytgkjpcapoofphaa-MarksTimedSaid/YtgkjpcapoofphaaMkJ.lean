/- The walks of film.shifted, shifted, Doubt and DoubtOf. -/
import Derived.Test.YtgkjpcapoofphaaMkH
namespace Go.Proofs.Ytgkjpcapoofphaa
open Go.RowKit

theorem shF_max (all d last : Int) (x : Mk) (f : Int) (hf : f = if x.2 = 2 ∨ x.2 = 3 then x.1 + d else x.1 - d) : (if last < (if f < all then f else all) then (if f < all then f else all) else last) = shF all d last x := by
  unfold shF; rw [← hf]; split <;> split <;> omega

set_option maxHeartbeats 2000000 in
theorem shiftedF_any (g lo lo' c b_ : Nat) (A B : Option Addr) (v : List St) (l : List Mk) (d : Int) (w : World) (hf : Film w g lo A c v) (hrm : Row w lo' 2 B l.length (prs l)) (hg : Good v) (hlm : l.length ≤ 500) (ht : Turn l) (hb : ∀ x ∈ l, 0 ≤ x.1 ∧ x.1 ≤ 1000000000000) (hd : -1000 ≤ d) (hd' : d ≤ 1000) :
    Calls Try.prog 90 #[.pointer (some ⟨g, 0, none⟩), .slice B l.length b_, .int .i64 d] w fun e w' => ∃ A' c', e = .returned (.slice A' (shM (fsum v) d l).2.length c') ∧ w'.ownsRow w.heap.size 76 2 (.slice A' (shM (fsum v) d l).2.length c') (shM (fsum v) d l).2.length (prs (shM (fsum v) d l).2) ∧ Below w.heap.size w w' := by
  have HG := Lib.hid hg
  have HB := Lib.hid hb
  have HT := Lib.hid ht
  have s1 := hg.sum
  have s0 := fsum_nonneg v hg.nonneg
  clear hg hb ht
  go_enter Try.func90, Try.ntmps90
  go_wp2_with fail
  go_loopw [7, 8, 13] (fun o la i wr => ∃ (k : Nat) (A' : Option Addr) (c' : Nat), k ≤ l.length ∧ i = .int .i64 k ∧ la = .int .i64 (shM (fsum v) d (l.take k)).1 ∧ o = .slice A' (shM (fsum v) d (l.take k)).2.length c' ∧ wr.ownsRow w.heap.size 76 2 (.slice A' (shM (fsum v) d (l.take k)).2.length c') (shM (fsum v) d (l.take k)).2.length (prs (shM (fsum v) d (l.take k)).2) ∧ Below w.heap.size w wr) (fun _ _ i _ => l.length - (intOf i).toNat)
  case atStart => exact ⟨0, none, 0, Nat.zero_le _, rfl, rfl, rfl, World.ownsRow_nil _ _ _ _, Below.refl _ _⟩
  case round =>
    obtain ⟨k, A', c', hk, rfl, rfl, rfl, hown, hbw⟩ := hrel
    have zw := hbw.size
    by_cases hlt : k < l.length
    · obtain ⟨b, off, hB, _, hbs, c0, c1⟩ := (hrm.below hbw).pr_at hlt
      have hfw := hf.below hbw
      have HTK := Lib.hid (shM_take (fsum v) d l k hlt)
      have HSP := Lib.hid (shS_split (all := fsum v) (d := d) (s := shM (fsum v) d (l.take k)) (x := l[k]))
      have HSN := Lib.hid (shS_not (all := fsum v) (d := d) (s := shM (fsum v) d (l.take k)) (x := l[k]))
      have hsh := sh_inv (d := d) HT.out s0 k hk
      have sl := hsh.last
      have hln : (shM (fsum v) d (l.take k)).2.length ≤ 500 := by have := hsh.len; simp at this; omega
      obtain ⟨x0, x1⟩ := HB.out l[k] (List.getElem_mem _)
      have HKI := Lib.hid (HT.out.1 l[k] (List.getElem_mem _))
      have HSF := Lib.hid (shF_max (fsum v) d (shM (fsum v) d (l.take k)).1 l[k])
      subst hB
      clear hsh
      generalize l[k] = x at *
      generalize shM (fsum v) d (l.take k) = s at *
      by_cases h5 : x.2 = 5
      · have t5 : (x.2 == 5) = true := by simpa using h5
        have HE := Lib.hid (HSP.out h5)
        clear h5 HSP HSN
        go_wp2_with fail
        go_roundw
        case rel => exact ⟨k + 1, A', c', by omega, by go_num, by rw [HTK.out, HE.out], by rw [HTK.out, HE.out], by rw [HTK.out, HE.out]; exact (by repeat (first | exact hown | refine World.ownsRow.alloc ?_ _ | refine own_drewN ?_ _ | refine World.ownsRow.drew ?_)), (by repeat (first | exact hbw | refine Below.alloc ?_ (by first | omega | (simp; omega)) _ | refine below_drewN' ?_ _ | refine Below.drew ?_))⟩
        case measure => simp [intOf]; omega
      · have t5 : (x.2 == 5) = false := by simpa using h5
        have HE := Lib.hid (HSN.out h5)
        clear h5 HSP HSN
        have key : ∀ f : Int, f = (if x.2 = 2 ∨ x.2 = 3 then x.1 + d else x.1 - d) → -1000000000000000 ≤ f ∧ f ≤ 1000000000000000 := by
          intro f hf; subst hf; split <;> omega
        have KEY := Lib.hid key
        clear key
        by_cases h2 : x.2 = 2
        · have t2 : (x.2 == 2) = true := by simpa using h2
          have HF : Hid (x.1 + d = (if x.2 = 2 ∨ x.2 = 3 then x.1 + d else x.1 - d)) := Lib.hid (by rw [if_pos (.inl h2)])
          have hbd := KEY.out _ HF.out
          have HSV := Lib.hid (HSF.out _ HF.out)
          clear h2
          generalize hfv : x.1 + d = f at *
          have kb1 := Blk.new wr 76 #[.int .i64 f, .int .i64 x.2]
          have hown1 := hown.alloc (.cells #[.int .i64 f, .int .i64 x.2] 76)
          have HOB : Hid (∀ k, (Value.slice A' s.2.length c').ownBlock = some k → k ≠ wr.heap.size) := Lib.hid (fun k hk => by have := (hown.lt k hk).2; omega)
          have hbx1 : Below w.heap.size w (wr.alloc (.cells #[.int .i64 f, .int .i64 x.2] 76)) := (by repeat (first | exact hbw | refine Below.alloc ?_ (by first | omega | (simp; omega)) _ | refine below_drewN' ?_ _ | refine Below.drew ?_))
          have hf1 := hfw.below ((Below.refl _ _).alloc (Nat.le_refl _) (.cells #[.int .i64 f, .int .i64 x.2] 76))
          have hfv' : IntKind.i64.wrap (x.1 + d) = f := by rw [hfv]; exact IntWalk.i64_in _ ⟨by omega, by omega⟩
          go_upto_region 12 with (fail)
          clear hfv' hfv HSF KEY HF c0 c1 hown hfw
          generalize hwa : wr.alloc (.cells #[.int .i64 f, .int .i64 x.2] 76) = wa at *
          obtain ⟨_, _, f2⟩ := hf1.cells
          have kc0 : wa.cell? ⟨wr.heap.size, 0, none⟩ = some (.int .i64 f) := kb1.cell 0
          have kf0 := kb1.froze 0
          clear hwa
          go_region
          rw [HSV.out]
          clear HSV
          generalize (if f < fsum v then f else fsum v) = mn at *
          generalize shF (fsum v) d s.1 x = q at *
          have kb2 : Blk (wa.setCell ⟨wr.heap.size, 0, none⟩ (.int .i64 q)).drew wr.heap.size 76 #[.int .i64 q, .int .i64 x.2] := kb1.set 0 (.int .i64 q)
          have hown2 : (wa.setCell ⟨wr.heap.size, 0, none⟩ (.int .i64 q)).drew.ownsRow w.heap.size 76 2 (.slice A' s.2.length c') s.2.length (prs s.2) := own_set_other hown1 HOB.out _
          have hbx2 : Below w.heap.size w (wa.setCell ⟨wr.heap.size, 0, none⟩ (.int .i64 q)).drew := (Below.setCell hbx1 (by simp; omega) _).drew
          generalize (wa.setCell ⟨wr.heap.size, 0, none⟩ (.int .i64 q)).drew = wb at *
          have kd0 : wb.cell? ⟨wr.heap.size, 0, none⟩ = some (.int .i64 q) := kb2.cell 0
          have kd1 : wb.cell? ⟨wr.heap.size, 1, none⟩ = some (.int .i64 x.2) := kb2.cell 1
          have zb := hbx2.size
          clear kb1 hown1 hbx1 hf1 f2 kc0 kf0 HOB
          go_wp2_with (at_builtin; go_must (refine wpList_app (lo := w.heap.size) (base := w.heap.size) (n := s.2.length) (xs := prs s.2) _ _ rfl _ _ ty_mks rfl (by repeat (first | exact hown2 | refine World.ownsRow.alloc ?_ _ | refine own_drewN ?_ _ | refine World.ownsRow.drew ?_)) rfl (by first | exact row_new' _ (by first | rfl | simp) (by first | omega | (simp; omega)) rfl | exact row_newN _ _ (by first | rfl | simp) (by first | omega | (simp; omega)) rfl | exact row_newD _ (by first | rfl | simp) (by first | omega | (simp; omega)) rfl) rfl rfl (by first | omega | decide) (by first | omega | decide) (by first | omega | (simp; omega)) ?_))
          intro A7 c7 w7 hown7 hg7 _
          go_wp2_with fail
          go_roundw
          case rel => exact ⟨k + 1, A7, c7, by omega, by go_num, by rw [HTK.out, HE.out], by rw [HTK.out, HE.out]; simp, by rw [HTK.out, HE.out]; simpa [prs] using hown7, below_app hown2 (by repeat (first | exact hbx2 | refine Below.alloc ?_ (by first | omega | (simp; omega)) _ | refine below_drewN' ?_ _ | refine Below.drew ?_)) hg7 (Nat.le_refl _) (by simp; omega)⟩
          case measure => simp [intOf]; omega
        · have t2 : (x.2 == 2) = false := by simpa using h2
          by_cases h3 : x.2 = 3
          · have t3 : (x.2 == 3) = true := by simpa using h3
            have HF : Hid (x.1 + d = (if x.2 = 2 ∨ x.2 = 3 then x.1 + d else x.1 - d)) := Lib.hid (by rw [if_pos (.inr h3)])
            have hbd := KEY.out _ HF.out
            have HSV := Lib.hid (HSF.out _ HF.out)
            clear h2 h3
            generalize hfv : x.1 + d = f at *
            have kb1 := Blk.new wr 76 #[.int .i64 f, .int .i64 x.2]
            have hown1 := hown.alloc (.cells #[.int .i64 f, .int .i64 x.2] 76)
            have HOB : Hid (∀ k, (Value.slice A' s.2.length c').ownBlock = some k → k ≠ wr.heap.size) := Lib.hid (fun k hk => by have := (hown.lt k hk).2; omega)
            have hbx1 : Below w.heap.size w (wr.alloc (.cells #[.int .i64 f, .int .i64 x.2] 76)) := (by repeat (first | exact hbw | refine Below.alloc ?_ (by first | omega | (simp; omega)) _ | refine below_drewN' ?_ _ | refine Below.drew ?_))
            have hf1 := hfw.below ((Below.refl _ _).alloc (Nat.le_refl _) (.cells #[.int .i64 f, .int .i64 x.2] 76))
            have hfv' : IntKind.i64.wrap (x.1 + d) = f := by rw [hfv]; exact IntWalk.i64_in _ ⟨by omega, by omega⟩
            go_upto_region 12 with (fail)
            clear hfv' hfv HSF KEY HF c0 c1 hown hfw
            generalize hwa : wr.alloc (.cells #[.int .i64 f, .int .i64 x.2] 76) = wa at *
            obtain ⟨_, _, f2⟩ := hf1.cells
            have kc0 : wa.cell? ⟨wr.heap.size, 0, none⟩ = some (.int .i64 f) := kb1.cell 0
            have kf0 := kb1.froze 0
            clear hwa
            go_region
            rw [HSV.out]
            clear HSV
            generalize (if f < fsum v then f else fsum v) = mn at *
            generalize shF (fsum v) d s.1 x = q at *
            have kb2 : Blk (wa.setCell ⟨wr.heap.size, 0, none⟩ (.int .i64 q)).drew wr.heap.size 76 #[.int .i64 q, .int .i64 x.2] := kb1.set 0 (.int .i64 q)
            have hown2 : (wa.setCell ⟨wr.heap.size, 0, none⟩ (.int .i64 q)).drew.ownsRow w.heap.size 76 2 (.slice A' s.2.length c') s.2.length (prs s.2) := own_set_other hown1 HOB.out _
            have hbx2 : Below w.heap.size w (wa.setCell ⟨wr.heap.size, 0, none⟩ (.int .i64 q)).drew := (Below.setCell hbx1 (by simp; omega) _).drew
            generalize (wa.setCell ⟨wr.heap.size, 0, none⟩ (.int .i64 q)).drew = wb at *
            have kd0 : wb.cell? ⟨wr.heap.size, 0, none⟩ = some (.int .i64 q) := kb2.cell 0
            have kd1 : wb.cell? ⟨wr.heap.size, 1, none⟩ = some (.int .i64 x.2) := kb2.cell 1
            have zb := hbx2.size
            clear kb1 hown1 hbx1 hf1 f2 kc0 kf0 HOB
            go_wp2_with (at_builtin; go_must (refine wpList_app (lo := w.heap.size) (base := w.heap.size) (n := s.2.length) (xs := prs s.2) _ _ rfl _ _ ty_mks rfl (by repeat (first | exact hown2 | refine World.ownsRow.alloc ?_ _ | refine own_drewN ?_ _ | refine World.ownsRow.drew ?_)) rfl (by first | exact row_new' _ (by first | rfl | simp) (by first | omega | (simp; omega)) rfl | exact row_newN _ _ (by first | rfl | simp) (by first | omega | (simp; omega)) rfl | exact row_newD _ (by first | rfl | simp) (by first | omega | (simp; omega)) rfl) rfl rfl (by first | omega | decide) (by first | omega | decide) (by first | omega | (simp; omega)) ?_))
            intro A7 c7 w7 hown7 hg7 _
            go_wp2_with fail
            go_roundw
            case rel => exact ⟨k + 1, A7, c7, by omega, by go_num, by rw [HTK.out, HE.out], by rw [HTK.out, HE.out]; simp, by rw [HTK.out, HE.out]; simpa [prs] using hown7, below_app hown2 (by repeat (first | exact hbx2 | refine Below.alloc ?_ (by first | omega | (simp; omega)) _ | refine below_drewN' ?_ _ | refine Below.drew ?_)) hg7 (Nat.le_refl _) (by simp; omega)⟩
            case measure => simp [intOf]; omega
          · have t3 : (x.2 == 3) = false := by simpa using h3
            have HF : Hid (x.1 - d = (if x.2 = 2 ∨ x.2 = 3 then x.1 + d else x.1 - d)) := Lib.hid (by rw [if_neg (by omega)])
            have hbd := KEY.out _ HF.out
            have HSV := Lib.hid (HSF.out _ HF.out)
            clear h2 h3
            generalize hfv : x.1 - d = f at *
            have kb1 := Blk.new wr 76 #[.int .i64 f, .int .i64 x.2]
            have hown1 := hown.alloc (.cells #[.int .i64 f, .int .i64 x.2] 76)
            have HOB : Hid (∀ k, (Value.slice A' s.2.length c').ownBlock = some k → k ≠ wr.heap.size) := Lib.hid (fun k hk => by have := (hown.lt k hk).2; omega)
            have hbx1 : Below w.heap.size w (wr.alloc (.cells #[.int .i64 f, .int .i64 x.2] 76)) := (by repeat (first | exact hbw | refine Below.alloc ?_ (by first | omega | (simp; omega)) _ | refine below_drewN' ?_ _ | refine Below.drew ?_))
            have hf1 := hfw.below ((Below.refl _ _).alloc (Nat.le_refl _) (.cells #[.int .i64 f, .int .i64 x.2] 76))
            have hfv' : IntKind.i64.wrap (x.1 - d) = f := by rw [hfv]; exact IntWalk.i64_in _ ⟨by omega, by omega⟩
            go_upto_region 12 with (fail)
            clear hfv' hfv HSF KEY HF c0 c1 hown hfw
            generalize hwa : wr.alloc (.cells #[.int .i64 f, .int .i64 x.2] 76) = wa at *
            obtain ⟨_, _, f2⟩ := hf1.cells
            have kc0 : wa.cell? ⟨wr.heap.size, 0, none⟩ = some (.int .i64 f) := kb1.cell 0
            have kf0 := kb1.froze 0
            clear hwa
            go_region
            rw [HSV.out]
            clear HSV
            generalize (if f < fsum v then f else fsum v) = mn at *
            generalize shF (fsum v) d s.1 x = q at *
            have kb2 : Blk (wa.setCell ⟨wr.heap.size, 0, none⟩ (.int .i64 q)).drew wr.heap.size 76 #[.int .i64 q, .int .i64 x.2] := kb1.set 0 (.int .i64 q)
            have hown2 : (wa.setCell ⟨wr.heap.size, 0, none⟩ (.int .i64 q)).drew.ownsRow w.heap.size 76 2 (.slice A' s.2.length c') s.2.length (prs s.2) := own_set_other hown1 HOB.out _
            have hbx2 : Below w.heap.size w (wa.setCell ⟨wr.heap.size, 0, none⟩ (.int .i64 q)).drew := (Below.setCell hbx1 (by simp; omega) _).drew
            generalize (wa.setCell ⟨wr.heap.size, 0, none⟩ (.int .i64 q)).drew = wb at *
            have kd0 : wb.cell? ⟨wr.heap.size, 0, none⟩ = some (.int .i64 q) := kb2.cell 0
            have kd1 : wb.cell? ⟨wr.heap.size, 1, none⟩ = some (.int .i64 x.2) := kb2.cell 1
            have zb := hbx2.size
            clear kb1 hown1 hbx1 hf1 f2 kc0 kf0 HOB
            go_wp2_with (at_builtin; go_must (refine wpList_app (lo := w.heap.size) (base := w.heap.size) (n := s.2.length) (xs := prs s.2) _ _ rfl _ _ ty_mks rfl (by repeat (first | exact hown2 | refine World.ownsRow.alloc ?_ _ | refine own_drewN ?_ _ | refine World.ownsRow.drew ?_)) rfl (by first | exact row_new' _ (by first | rfl | simp) (by first | omega | (simp; omega)) rfl | exact row_newN _ _ (by first | rfl | simp) (by first | omega | (simp; omega)) rfl | exact row_newD _ (by first | rfl | simp) (by first | omega | (simp; omega)) rfl) rfl rfl (by first | omega | decide) (by first | omega | decide) (by first | omega | (simp; omega)) ?_))
            intro A7 c7 w7 hown7 hg7 _
            go_wp2_with fail
            go_roundw
            case rel => exact ⟨k + 1, A7, c7, by omega, by go_num, by rw [HTK.out, HE.out], by rw [HTK.out, HE.out]; simp, by rw [HTK.out, HE.out]; simpa [prs] using hown7, below_app hown2 (by repeat (first | exact hbx2 | refine Below.alloc ?_ (by first | omega | (simp; omega)) _ | refine below_drewN' ?_ _ | refine Below.drew ?_)) hg7 (Nat.le_refl _) (by simp; omega)⟩
            case measure => simp [intOf]; omega
    · have hkk : k = l.length := by omega
      subst hkk
      rw [List.take_length] at hown
      rw [List.take_length]
      go_wp2_with fail
      go_ret
      exact ⟨A', c', rfl, hown, hbw⟩
end Go.Proofs.Ytgkjpcapoofphaa
