/- Texts of this seat, laid together: Iw. -/
import Derived.Handy
import Derived.Test.YtdidcjhgdofgcaaGreatDoorBc30
import Derived.Test.YtdidcjhgdofgcaaGreatDoorBc33
import Derived.Test.YtdidcjhgdofgcaaGreatDoorBc18
/- The walks of input.Text and splitref1.InputLines. -/
namespace Go.Proofs.YtdidcjhgdofgcaaGreatDoor
set_option linter.unusedVariables false
set_option linter.unusedSimpArgs false
open Go.RowKit Go.Sort

theorem Bld.kind {w : World} {B b : Nat} {l : List UInt8} (h : Bld w B b l) : ∃ cs, w.heap[b]? = some (.cells cs 80 (0, 0)) := by
  rcases h with h | h
  · obtain ⟨_, v, hbk, _, _⟩ := h
    exact ⟨_, hbk⟩
  · obtain ⟨_, v, hbk, _, _⟩ := h
    exact ⟨_, hbk⟩
/-- A row of another kind stays when a builder is written to. -/
theorem own_wrote {w w' : World} {base size n B b : Nat} {e : TypeId} {v : Value} {xs : List Value} {l : List UInt8} (h : w.ownsRow base e size v n xs) (hB : Bld w B b l) (hw : Wrote b w w') (h1 : e ≠ 80) (h2 : e ≠ 5) : w'.ownsRow base e size v n xs := by
  refine ⟨h.1, ?_⟩
  rcases h.2 with h0 | ⟨g, cap, cur, hv, hg, hh, h3⟩
  · exact .inl h0
  · refine .inr ⟨g, cap, cur, hv, hg, ?_, h3⟩
    have hlt := (Array.getElem?_eq_some_iff.1 hh).1
    rw [hw.block g hlt ?_ ?_]
    · exact hh
    · intro e1
      subst e1
      obtain ⟨cs, hb⟩ := hB.kind
      rw [hh] at hb
      injection hb with hb
      injection hb with _ e2 _
      exact h1 e2
    · intro cs f e1
      rw [hh] at e1
      injection e1 with e1
      injection e1 with _ e2 _
      exact h2 e2
/-- What input.Text hands out. -/
def inTextV (ps : List (Int × Int)) : Value := if inFault ps = 0 then .tuple #[encStr (inT (tidyR ps) (tidyR ps).length), .int .i64 0] else .tuple #[.string ⟨#[]⟩, .int .i64 (inFault ps)]
def InTextPost (w : World) (ps : List (Int × Int)) (e : Ending) (w' : World) : Prop := e = .returned (inTextV ps) ∧ Below w.heap.size w w'
theorem inTextV_ok {ps : List (Int × Int)} (h : inFault ps = 0) : inTextV ps = .tuple #[encStr (inT (tidyR ps) (tidyR ps).length), .int .i64 0] := by unfold inTextV; rw [if_pos h]
theorem inTextV_bad {ps : List (Int × Int)} (h : inFault ps ≠ 0) : inTextV ps = .tuple #[.string ⟨#[]⟩, .int .i64 (inFault ps)] := by unfold inTextV; rw [if_neg h]
theorem right_piece {ps : List (Int × Int)} (h : inFault ps = 0) : ∀ p ∈ ps, 0 ≤ p.1 ∧ p.1 ≤ 63 ∧ 1 ≤ p.2 ∧ p.2 ≤ 200000 := fun p hp => by
  have := (inFault_ok h).2.1 p hp
  omega
set_option maxHeartbeats 4000000 in
set_option maxRecDepth 100000 in
theorem inText_any (A : Option Addr) (c lo : Nat) (ps : List (Int × Int)) (w : World) (hr : Row w lo 2 A ps.length (prs ps)) (hl : ps.length ≤ 1000000000) (hE : Env w) :
    Calls Tryz.prog 18 #[.slice A ps.length c] w (InTextPost w ps) := by
  go_enter Tryz.func18, Tryz.ntmps18
  go_wp2_with fail
  refine (checkInput_any _ _ _ ps _ hr hl).mono ?_
  rintro e wz ⟨rfl, hb⟩
  have hr := hr.below hb
  have hE := hE.below hb
  have hx := hb
  clear hb
  by_cases h0 : inFault ps = 0
  rotate_left
  · have h0' : (inFault ps != 0) = true := by simpa using h0
    have H0 := Lib.hid (inTextV_bad h0)
    clear h0
    go_wp2_with fail
    go_returns
    exact ⟨by rw [H0.out]; rfl, hx⟩
  have HV := Lib.hid (inTextV_ok h0)
  obtain ⟨q1, -, q3⟩ := tidy_right h0
  have HF := Lib.hid (inFault_ok h0)
  have h0' : (inFault ps != 0) = false := by simpa using h0
  rw [q3] at q1 HV
  clear h0 q3
  go_wp2_with fail
  have hBn := Bld.new wz wz.heap.size (Nat.le_refl _)
  have hyn : Below wz.heap.size wz (wz.alloc (.cells #[.pointer none, .slice none 0 0] 80)) := (Below.refl _ _).alloc (Nat.le_refl _) _
  have hyz : wz.heap.size < (wz.alloc (.cells #[.pointer none, .slice none 0 0] 80)).heap.size := by simp
  generalize wz.alloc (.cells #[.pointer none, .slice none 0 0] 80) = w1 at *
  refine (tidy_any _ _ _ ps _ (hr.below hyn) hl (fun p hp => by have := HF.out.2.1 p hp; omega) (by have := HF.out.2.2; omega)).mono ?_
  rintro e w2 ⟨A', c', rfl, hown, hb⟩
  have hB := hBn.below hb
  have hown := own_weak hown (Nat.le_of_lt hyz)
  have hy := hyn.trans (hb.mono (by omega))
  have hyz : wz.heap.size < w2.heap.size := by have := hb.size; omega
  clear hBn hyn hb hr
  have HQ := Lib.hid q1
  clear q1
  generalize tidyM ps = qs at *
  clear HF
  have hqn : qs.length ≤ 5000 := (inFault_ok HQ.out).1
  have HP := Lib.hid (right_piece HQ.out)
  have ALL : Hid (∀ k, k ≤ qs.length → (inT qs k).length ≤ 27 * k) := Lib.hid (inT_len HP.out)
  go_wp2_with fail
  go_loopw [16] (fun i wr => ∃ k : Nat, k ≤ qs.length ∧ i = .int .i64 k ∧ Bld wr wz.heap.size wz.heap.size (inT qs k) ∧ wr.ownsRow wz.heap.size 51 2 (.slice A' qs.length c') qs.length (prs qs) ∧ Below wz.heap.size wz wr ∧ wz.heap.size < wr.heap.size) (fun i _ => qs.length - (intOf i).toNat)
  case atStart => exact ⟨0, Nat.zero_le _, rfl, hB, hown, hy, hyz⟩
  case round =>
    clear hB hown hy hyz
    obtain ⟨k, hk, rfl, hB, hown, hy, hyz⟩ := hrel
    by_cases hlt : k < qs.length
    · obtain ⟨b, off, rfl, _, hbs, c0, c1⟩ := (Row.of_own hown).pr_at hlt
      have HN := Lib.hid (inT_next hlt)
      have hla := ALL.out k (by omega)
      have hpc := HP.out qs[k] (List.getElem_mem _)
      obtain ⟨p0, p1, p2, p3⟩ := hpc
      have HTT : Hid (pcT qs[k] = hldT qs[k].1 ++ [32] ++ Lib.itoa qs[k].2 ++ [10]) := Lib.hid rfl
      have hhl := (hldT_free p0 p1).2.2.2.1
      have hil := itoa_len qs[k].2 (by omega) (by omega)
      generalize qs[k].1 = x at *
      generalize qs[k].2 = y at *
      generalize pcT qs[k] = pt at *
      generalize inT qs k = pre at *
      go_wp2_with fail
      have kT : Blk (wr.alloc (.cells #[.int .i64 x, .int .i64 y] 51)) wr.heap.size 51 #[.int .i64 x, .int .i64 y] := Blk.new _ _ _
      have hB := hB.alloc (.cells #[.int .i64 x, .int .i64 y] 51)
      have hown := hown.alloc (.cells #[.int .i64 x, .int .i64 y] 51)
      have hy := hy.alloc (by omega) (.cells #[.int .i64 x, .int .i64 y] 51)
      have hyz : wz.heap.size < (wr.alloc (.cells #[.int .i64 x, .int .i64 y] 51)).heap.size := by simp; omega
      have hne : wr.heap.size ≠ wz.heap.size := by omega
      clear c0 c1
      generalize wr.alloc (.cells #[.int .i64 x, .int .i64 y] 51) = w4 at *
      generalize wr.heap.size = bt at *
      have hb := (Below.refl w4.heap.size w4).drew
      replace kT := kT.below hb
      replace hB := hB.below hb
      replace hown := own_keep hown hb
      replace hy := hy.trans (hb.mono (by omega))
      replace hyz : wz.heap.size < w4.drew.heap.size := by have := hb.size; omega
      clear hb
      refine wp_region_held_drew (S := (fun w' => w'.cell? ⟨bt, 0, none⟩ = some (.int .i64 x) ∧ w'.cell? ⟨bt, 1, none⟩ = some (.int .i64 y))) (by kernel_rfl) (kT.two_) (fun hHeld => ?_)
      generalize w4.drew = wd at *
      (refine wpAnyH_take (i := 0) (v := ?_) (by (simp only [List.getElem?_toArray, List.getElem?_cons_zero]; rfl)) (by kernel_rfl) (by kernel_rfl) (by kernel_rfl) (by exact fun _ _ _ h => h) (Or.inl ⟨by rfl, ?_⟩) (by assumption) ?_; (rotate_left 1; (intro w hSw; (try dsimp only at hSw); go_simp); (try with_reducible rfl)); (try simp only [Act.put, List.setIfInBounds_toArray, List.set_cons_zero, List.set_cons_succ]))
      (refine wpAnyH_take (i := 1) (v := ?_) (by (simp only [List.getElem?_toArray, List.getElem?_cons_succ, List.getElem?_cons_zero]; rfl)) (by kernel_rfl) (by kernel_rfl) (by kernel_rfl) (by exact fun _ _ _ h => h) (Or.inl ⟨by rfl, ?_⟩) (by assumption) ?_; (rotate_left 1; (intro w hSw; (try dsimp only at hSw); go_simp); (try with_reducible rfl)); (try simp only [Act.put, List.setIfInBounds_toArray, List.set_cons_zero, List.set_cons_succ]))
      (refine wpAnyH_take (i := 4) (v := ?_) (by (simp only [List.getElem?_toArray, List.getElem?_cons_succ, List.getElem?_cons_zero]; rfl)) (by kernel_rfl) (by kernel_rfl) (by kernel_rfl) (by exact fun _ _ _ h => h) (Or.inl ⟨by rfl, ?_⟩) (by assumption) ?_; (rotate_left 1; (intro w hSw; (try dsimp only at hSw); go_simp); (try with_reducible rfl)); (try simp only [Act.put, List.setIfInBounds_toArray, List.set_cons_zero, List.set_cons_succ]))
      (refine wpAnyH_take (i := 5) (v := ?_) (by (simp only [List.getElem?_toArray, List.getElem?_cons_succ, List.getElem?_cons_zero]; rfl)) (by kernel_rfl) (by kernel_rfl) (by kernel_rfl) (by exact fun _ _ _ h => h) (Or.inl ⟨by rfl, ?_⟩) (by assumption) ?_; (rotate_left 1; (intro w hSw; (try dsimp only at hSw); go_simp); (try with_reducible rfl)); (try simp only [Act.put, List.setIfInBounds_toArray, List.set_cons_zero, List.set_cons_succ]))
      refine wpAnyH_ready (rs := [2]) (by kernel_rfl) (by simp) ?_
      refine AllReadyH.cons rfl (fun K hK => ?_) AllReadyH.nil
      go_simp
      go_at_call 48
      refine (heldText_any x _).mono ?_
      rintro e w5 ⟨rfl, hb⟩
      replace kT := kT.below hb
      replace hB := hB.below hb
      replace hown := own_keep hown hb
      replace hy := hy.trans (hb.mono (by omega))
      replace hyz : wz.heap.size < w5.heap.size := by have := hb.size; omega
      clear hb
      generalize hldT x = hx at *
      have c1 : ¬ (9223372036854775807 < hx.length + 1) := by omega
      go_wp2_with fail
      refine hK.out _ _ (kT.two_) (fun hHeld => ?_)
      clear hK K
      (try simp only [Act.put, List.setIfInBounds_toArray, List.set_cons_zero, List.set_cons_succ])
      (refine wpAnyH_take (i := 3) (v := ?_) (by (simp only [List.getElem?_toArray, List.getElem?_cons_succ, List.getElem?_cons_zero]; rfl)) (by kernel_rfl) (by kernel_rfl) (by kernel_rfl) (by exact fun _ _ _ h => h) (Or.inl ⟨by rfl, ?_⟩) (by assumption) ?_; (rotate_left 1; (intro w hSw; (try dsimp only at hSw); go_simp); (try with_reducible rfl)); (try simp only [Act.put, List.setIfInBounds_toArray, List.set_cons_zero, List.set_cons_succ]))
      refine wpAnyH_ready (rs := [6]) (by kernel_rfl) (by simp) ?_
      refine AllReadyH.cons rfl (fun K hK => ?_) AllReadyH.nil
      go_simp
      go_at_call 49
      refine (itoaE_any y (by omega) (by omega) _ (hE.below hy)).mono ?_
      rintro e w6 ⟨rfl, hb⟩
      replace kT := kT.below hb
      replace hB := hB.below hb
      replace hown := own_keep hown hb
      replace hy := hy.trans (hb.mono (by omega))
      replace hyz : wz.heap.size < w6.heap.size := by have := hb.size; omega
      clear hb
      generalize Lib.itoa y = iy at *
      have c2 : ¬ (9223372036854775807 < hx.length + 1 + iy.length) := by omega
      have c3 : ¬ (9223372036854775807 < hx.length + 1 + iy.length + 1) := by omega
      go_wp2_with fail
      refine hK.out _ _ (kT.two_) (fun hHeld => ?_)
      clear hK K
      (try simp only [Act.put, List.setIfInBounds_toArray, List.set_cons_zero, List.set_cons_succ])
      (refine wpAnyH_take (i := 7) (v := ?_) (by (simp only [List.getElem?_toArray, List.getElem?_cons_succ, List.getElem?_cons_zero]; rfl)) (by kernel_rfl) (by kernel_rfl) (by kernel_rfl) (by exact fun _ _ _ h => h) (Or.inl ⟨by rfl, ?_⟩) (by assumption) ?_; (rotate_left 1; (intro w hSw; (try dsimp only at hSw); go_simp); (try with_reducible rfl)); (try simp only [Act.put, List.setIfInBounds_toArray, List.set_cons_zero, List.set_cons_succ]))
      (refine wpAnyH_take (i := 8) (v := ?_) (by (simp only [List.getElem?_toArray, List.getElem?_cons_succ, List.getElem?_cons_zero]; rfl)) (by kernel_rfl) (by kernel_rfl) (by kernel_rfl) (by exact fun _ _ _ h => h) (Or.inl ⟨by rfl, ?_⟩) (by assumption) ?_; (rotate_left 1; (intro w hSw; (try dsimp only at hSw); go_simp); (try with_reducible rfl)); (try simp only [Act.put, List.setIfInBounds_toArray, List.set_cons_zero, List.set_cons_succ]))
      refine wpAnyH_ready (rs := [9]) (by kernel_rfl) (by simp) ?_
      refine AllReadyH.cons rfl (fun K hK => ?_) AllReadyH.nil
      go_simp
      go_at_call 47
      have e1 : (⟨hx.toArray⟩ : ByteArray) ++ ⟨#[32]⟩ ++ ⟨iy.toArray⟩ ++ ⟨#[10]⟩ = ⟨pt.toArray⟩ := by
        rw [HTT.out]
        have h1 := ba_app hx [32]
        have h2 := ba_app (hx ++ [32]) iy
        have h3 := ba_app (hx ++ [32] ++ iy) [10]
        rw [← h3, ← h2, ← h1]
      rw [e1]
      clear e1
      have hpl : pt.length ≤ 27 := by rw [HTT.out]; simp only [List.length_append, List.length_cons, List.length_nil]; omega
      refine (write_any wz.heap.size wz.heap.size pre pt _ hB (by omega) (by omega)).mono ?_
      rintro e w7 ⟨rfl, hB2, hb, hw⟩
      replace hown := own_wrote hown hB hw (by decide) (by decide)
      replace kT := kT.wrote hw hne (by decide)
      replace hy := hy.trans hb
      replace hyz : wz.heap.size < w7.heap.size := by have := hb.size; omega
      clear hb hw hB
      go_wp2_with fail
      refine hK.out _ _ (kT.two_) (fun hHeld => ?_)
      clear hK K
      (try simp only [Act.put, List.setIfInBounds_toArray, List.set_cons_zero, List.set_cons_succ])
      refine wpAnyH_done (by kernel_rfl) ?_ _
      go_wp2_with fail
      go_roundw
      case rel => exact ⟨k + 1, by omega, by go_num, by rw [HN.out]; exact hB2, hown, hy, hyz⟩
      case measure => simp [intOf]; omega
    · have hkk : k = qs.length := by omega
      subst hkk
      have hla := ALL.out qs.length (Nat.le_refl _)
      generalize hT : inT qs qs.length = T at *
      have HT := Lib.hid hT
      clear hT
      go_wp2_with fail
      refine (bldLen_any _ _ _ _ hB).mono ?_
      rintro e w' ⟨rfl, rfl⟩
      go_wp2_with fail
      refine (bldString_any _ _ _ _ hB (by omega)).mono ?_
      rintro e w' ⟨rfl, hb⟩
      go_wp2_with fail
      go_returns
      exact ⟨by rw [HV.out]; rfl, below_up hx (hy.trans hb)⟩
set_option maxHeartbeats 4000000 in
set_option maxRecDepth 100000 in
/-- The reference's text of a right input. -/
theorem inputLines_any (A : Option Addr) (c lo : Nat) (ps : List (Int × Int)) (w : World) (hr : Row w lo 2 A ps.length (prs ps)) (h0 : inFault ps = 0) (hE : Env w) :
    Calls Tryz.prog 19 #[.slice A ps.length c] w fun e w' => e = .returned (encStr (inT (tidyR ps) (tidyR ps).length)) ∧ Below w.heap.size w w' := by
  obtain ⟨q1, -, q3⟩ := tidy_right h0
  have HF := Lib.hid (inFault_ok h0)
  have HU := Lib.hid (fold_unf ps (fun p hp => by have := HF.out.2.1 p hp; omega))
  have hul : ((unf ps).length : Int) = psum ps := unf_len ps (fun p hp => by have := HF.out.2.1 p hp; omega)
  have hsum := HF.out.2.2
  have hl := HF.out.1
  have HTR := Lib.hid q3
  rw [q3] at q1 ⊢
  clear q3 h0
  have HQ := Lib.hid q1
  clear q1
  go_enter Tryz.func19, Tryz.ntmps19
  go_wp2_with fail
  have hBn := Bld.new w w.heap.size (Nat.le_refl _)
  have hyn : Below w.heap.size w (w.alloc (.cells #[.pointer none, .slice none 0 0] 80)) := (Below.refl _ _).alloc (Nat.le_refl _) _
  have hyz : w.heap.size < (w.alloc (.cells #[.pointer none, .slice none 0 0] 80)).heap.size := by simp
  generalize w.alloc (.cells #[.pointer none, .slice none 0 0] 80) = w1 at *
  refine (unfolded_any _ _ _ ps _ (hr.below hyn) (by omega) (fun p hp => by have := HF.out.2.1 p hp; omega) (by omega)).mono ?_
  rintro e w2 ⟨A2, c2, rfl, hru, hb⟩
  have hB := hBn.below hb
  have hy := hyn.trans (hb.mono (by omega))
  have hyz : w.heap.size < w2.heap.size := by have := hb.size; omega
  clear hBn hyn hb hr
  go_wp2_with fail
  refine (folded_any _ _ _ (unf ps) _ (Row.of_own hru) (by omega)).mono ?_
  rintro e w3 ⟨A', c', rfl, hown, hb⟩
  rw [HU.out] at hown ⊢
  have hB := hB.below hb
  have hown := own_weak hown (Nat.le_of_lt hyz)
  have hy := hy.trans (hb.mono (by omega))
  have hyz : w.heap.size < w3.heap.size := by have := hb.size; omega
  clear hb hru HU hul hsum hl HTR
  generalize hqs : tidyM ps = qs at *
  have HQS := Lib.hid hqs
  clear hqs
  clear HF
  have hqn : qs.length ≤ 5000 := (inFault_ok HQ.out).1
  have HP := Lib.hid (right_piece HQ.out)
  have ALL : Hid (∀ k, k ≤ qs.length → (inT qs k).length ≤ 27 * k) := Lib.hid (inT_len HP.out)
  go_wp2_with fail
  go_loopw [10] (fun i wr => ∃ k : Nat, k ≤ qs.length ∧ i = .int .i64 k ∧ Bld wr w.heap.size w.heap.size (inT qs k) ∧ wr.ownsRow w.heap.size 51 2 (.slice A' qs.length c') qs.length (prs qs) ∧ Below w.heap.size w wr ∧ w.heap.size < wr.heap.size) (fun i _ => qs.length - (intOf i).toNat)
  case atStart => exact ⟨0, Nat.zero_le _, rfl, hB, hown, hy, hyz⟩
  case round =>
    clear hB hown hy hyz
    obtain ⟨k, hk, rfl, hB, hown, hy, hyz⟩ := hrel
    by_cases hlt : k < qs.length
    · obtain ⟨b, off, rfl, _, hbs, c0, c1⟩ := (Row.of_own hown).pr_at hlt
      have HN := Lib.hid (inT_next hlt)
      have hla := ALL.out k (by omega)
      have hpc := HP.out qs[k] (List.getElem_mem _)
      obtain ⟨p0, p1, p2, p3⟩ := hpc
      have HTT : Hid (pcT qs[k] = hldT qs[k].1 ++ [32] ++ Lib.itoa qs[k].2 ++ [10]) := Lib.hid rfl
      have hhl := (hldT_free p0 p1).2.2.2.1
      have hil := itoa_len qs[k].2 (by omega) (by omega)
      generalize qs[k].1 = x at *
      generalize qs[k].2 = y at *
      generalize pcT qs[k] = pt at *
      generalize inT qs k = pre at *
      go_wp2_with fail
      have kT : Blk (wr.alloc (.cells #[.int .i64 x, .int .i64 y] 51)) wr.heap.size 51 #[.int .i64 x, .int .i64 y] := Blk.new _ _ _
      have hB := hB.alloc (.cells #[.int .i64 x, .int .i64 y] 51)
      have hown := hown.alloc (.cells #[.int .i64 x, .int .i64 y] 51)
      have hy := hy.alloc (by omega) (.cells #[.int .i64 x, .int .i64 y] 51)
      have hyz : w.heap.size < (wr.alloc (.cells #[.int .i64 x, .int .i64 y] 51)).heap.size := by simp; omega
      have hne : wr.heap.size ≠ w.heap.size := by omega
      clear c0 c1
      generalize wr.alloc (.cells #[.int .i64 x, .int .i64 y] 51) = w4 at *
      generalize wr.heap.size = bt at *
      obtain ⟨xn, rfl⟩ := Int.eq_ofNat_of_zero_le p0
      have hb := (Below.refl w4.heap.size w4).drew
      replace kT := kT.below hb
      replace hB := hB.below hb
      replace hown := own_keep hown hb
      replace hy := hy.trans (hb.mono (by omega))
      replace hyz : w.heap.size < w4.drew.heap.size := by have := hb.size; omega
      clear hb
      refine wp_region_held_drew (S := (fun w' => w'.cell? ⟨bt, 0, none⟩ = some (.int .i64 (xn : Int)) ∧ w'.cell? ⟨bt, 1, none⟩ = some (.int .i64 y))) (by kernel_rfl) (kT.two_) (fun hHeld => ?_)
      generalize w4.drew = wd at *
      (refine wpAnyH_take (i := 0) (v := ?_) (by (simp only [List.getElem?_toArray, List.getElem?_cons_zero]; rfl)) (by kernel_rfl) (by kernel_rfl) (by kernel_rfl) (by exact fun _ _ _ h => h) (Or.inl ⟨by rfl, ?_⟩) (by assumption) ?_; (rotate_left 1; (intro w hSw; (try dsimp only at hSw); go_simp); (try with_reducible rfl)); (try simp only [Act.put, List.setIfInBounds_toArray, List.set_cons_zero, List.set_cons_succ]))
      (refine wpAnyH_take (i := 1) (v := ?_) (by (simp only [List.getElem?_toArray, List.getElem?_cons_succ, List.getElem?_cons_zero]; rfl)) (by kernel_rfl) (by kernel_rfl) (by kernel_rfl) (by exact fun _ _ _ h => h) (Or.inl ⟨by rfl, ?_⟩) (by assumption) ?_; (rotate_left 1; (intro w hSw; (try dsimp only at hSw); go_simp); (try with_reducible rfl)); (try simp only [Act.put, List.setIfInBounds_toArray, List.set_cons_zero, List.set_cons_succ]))
      (refine wpAnyH_take (i := 4) (v := ?_) (by (simp only [List.getElem?_toArray, List.getElem?_cons_succ, List.getElem?_cons_zero]; rfl)) (by kernel_rfl) (by kernel_rfl) (by kernel_rfl) (by exact fun _ _ _ h => h) (Or.inl ⟨by rfl, ?_⟩) (by assumption) ?_; (rotate_left 1; (intro w hSw; (try dsimp only at hSw); go_simp); (try with_reducible rfl)); (try simp only [Act.put, List.setIfInBounds_toArray, List.set_cons_zero, List.set_cons_succ]))
      (refine wpAnyH_take (i := 5) (v := ?_) (by (simp only [List.getElem?_toArray, List.getElem?_cons_succ, List.getElem?_cons_zero]; rfl)) (by kernel_rfl) (by kernel_rfl) (by kernel_rfl) (by exact fun _ _ _ h => h) (Or.inl ⟨by rfl, ?_⟩) (by assumption) ?_; (rotate_left 1; (intro w hSw; (try dsimp only at hSw); go_simp); (try with_reducible rfl)); (try simp only [Act.put, List.setIfInBounds_toArray, List.set_cons_zero, List.set_cons_succ]))
      refine wpAnyH_ready (rs := [2]) (by kernel_rfl) (by simp) ?_
      refine AllReadyH.cons rfl (fun K hK => ?_) AllReadyH.nil
      go_simp
      go_at_call 53
      refine (heldLetters_any xn (by omega) _).mono ?_
      rintro e w5 ⟨rfl, hb⟩
      replace kT := kT.below hb
      replace hB := hB.below hb
      replace hown := own_keep hown hb
      replace hy := hy.trans (hb.mono (by omega))
      replace hyz : w.heap.size < w5.heap.size := by have := hb.size; omega
      clear hb
      generalize hldT (xn : Int) = hx at *
      have c1 : ¬ (9223372036854775807 < hx.length + 1) := by omega
      go_wp2_with fail
      refine hK.out _ _ (kT.two_) (fun hHeld => ?_)
      clear hK K
      (try simp only [Act.put, List.setIfInBounds_toArray, List.set_cons_zero, List.set_cons_succ])
      (refine wpAnyH_take (i := 3) (v := ?_) (by (simp only [List.getElem?_toArray, List.getElem?_cons_succ, List.getElem?_cons_zero]; rfl)) (by kernel_rfl) (by kernel_rfl) (by kernel_rfl) (by exact fun _ _ _ h => h) (Or.inl ⟨by rfl, ?_⟩) (by assumption) ?_; (rotate_left 1; (intro w hSw; (try dsimp only at hSw); go_simp); (try with_reducible rfl)); (try simp only [Act.put, List.setIfInBounds_toArray, List.set_cons_zero, List.set_cons_succ]))
      refine wpAnyH_ready (rs := [6]) (by kernel_rfl) (by simp) ?_
      refine AllReadyH.cons rfl (fun K hK => ?_) AllReadyH.nil
      go_simp
      go_at_call 49
      refine (itoaE_any y (by omega) (by omega) _ (hE.below hy)).mono ?_
      rintro e w6 ⟨rfl, hb⟩
      replace kT := kT.below hb
      replace hB := hB.below hb
      replace hown := own_keep hown hb
      replace hy := hy.trans (hb.mono (by omega))
      replace hyz : w.heap.size < w6.heap.size := by have := hb.size; omega
      clear hb
      generalize Lib.itoa y = iy at *
      have c2 : ¬ (9223372036854775807 < hx.length + 1 + iy.length) := by omega
      have c3 : ¬ (9223372036854775807 < hx.length + 1 + iy.length + 1) := by omega
      go_wp2_with fail
      refine hK.out _ _ (kT.two_) (fun hHeld => ?_)
      clear hK K
      (try simp only [Act.put, List.setIfInBounds_toArray, List.set_cons_zero, List.set_cons_succ])
      (refine wpAnyH_take (i := 7) (v := ?_) (by (simp only [List.getElem?_toArray, List.getElem?_cons_succ, List.getElem?_cons_zero]; rfl)) (by kernel_rfl) (by kernel_rfl) (by kernel_rfl) (by exact fun _ _ _ h => h) (Or.inl ⟨by rfl, ?_⟩) (by assumption) ?_; (rotate_left 1; (intro w hSw; (try dsimp only at hSw); go_simp); (try with_reducible rfl)); (try simp only [Act.put, List.setIfInBounds_toArray, List.set_cons_zero, List.set_cons_succ]))
      (refine wpAnyH_take (i := 8) (v := ?_) (by (simp only [List.getElem?_toArray, List.getElem?_cons_succ, List.getElem?_cons_zero]; rfl)) (by kernel_rfl) (by kernel_rfl) (by kernel_rfl) (by exact fun _ _ _ h => h) (Or.inl ⟨by rfl, ?_⟩) (by assumption) ?_; (rotate_left 1; (intro w hSw; (try dsimp only at hSw); go_simp); (try with_reducible rfl)); (try simp only [Act.put, List.setIfInBounds_toArray, List.set_cons_zero, List.set_cons_succ]))
      refine wpAnyH_ready (rs := [9]) (by kernel_rfl) (by simp) ?_
      refine AllReadyH.cons rfl (fun K hK => ?_) AllReadyH.nil
      go_simp
      go_at_call 47
      have e1 : (⟨hx.toArray⟩ : ByteArray) ++ ⟨#[32]⟩ ++ ⟨iy.toArray⟩ ++ ⟨#[10]⟩ = ⟨pt.toArray⟩ := by
        rw [HTT.out]
        have h1 := ba_app hx [32]
        have h2 := ba_app (hx ++ [32]) iy
        have h3 := ba_app (hx ++ [32] ++ iy) [10]
        rw [← h3, ← h2, ← h1]
      rw [e1]
      clear e1
      have hpl : pt.length ≤ 27 := by rw [HTT.out]; simp only [List.length_append, List.length_cons, List.length_nil]; omega
      refine (write_any w.heap.size w.heap.size pre pt _ hB (by omega) (by omega)).mono ?_
      rintro e w7 ⟨rfl, hB2, hb, hw⟩
      replace hown := own_wrote hown hB hw (by decide) (by decide)
      replace kT := kT.wrote hw hne (by decide)
      replace hy := hy.trans hb
      replace hyz : w.heap.size < w7.heap.size := by have := hb.size; omega
      clear hb hw hB
      go_wp2_with fail
      refine hK.out _ _ (kT.two_) (fun hHeld => ?_)
      clear hK K
      (try simp only [Act.put, List.setIfInBounds_toArray, List.set_cons_zero, List.set_cons_succ])
      refine wpAnyH_done (by kernel_rfl) ?_ _
      go_wp2_with fail
      go_roundw
      case rel => exact ⟨k + 1, by omega, by go_num, by rw [HN.out]; exact hB2, hown, hy, hyz⟩
      case measure => simp [intOf]; omega
    · have hkk : k = qs.length := by omega
      subst hkk
      have hla := ALL.out qs.length (Nat.le_refl _)
      generalize hT : inT qs qs.length = T at *
      have HT := Lib.hid hT
      clear hT
      go_wp2_with fail
      refine (bldString_any _ _ _ _ hB (by omega)).mono ?_
      rintro e w' ⟨rfl, hb⟩
      go_wp2_with fail
      go_ret
      exact ⟨by rw [HQS.out, HT.out]; rfl, hy.trans hb⟩
end Go.Proofs.YtdidcjhgdofgcaaGreatDoor
