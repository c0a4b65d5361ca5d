/- Texts of this seat, laid together: Vw. -/
import Derived.Handy
import Derived.Test.YtlinbaojkmcbeaaGreatDoorBv21
import Derived.Test.YtlinbaojkmcbeaaGreatDoorBv25
import Derived.Test.YtlinbaojkmcbeaaGreatDoorBv06
import Derived.Test.YtlinbaojkmcbeaaGreatDoorBv18
import Derived.Test.YtlinbaojkmcbeaaGreatDoorBv08
import Derived.Test.YtlinbaojkmcbeaaGreatDoorBv20
/- The walks of evidence.Text and splitref1.VideoLines. -/
namespace Go.Proofs.YtlinbaojkmcbeaaGreatDoor
set_option linter.unusedVariables false
set_option linter.unusedSimpArgs false
open Go.RowKit Go.Sort

/-- What evidence.Text hands out. -/
def vTextV (v : List St) (m : List Mk) : Value := if mkFault v m = 0 then .tuple #[encStr (vidT v m), .int .i64 0] else .tuple #[.string ⟨#[]⟩, .int .i64 (mkFault v m)]
theorem vTextV_ok {v : List St} {m : List Mk} (h : mkFault v m = 0) : vTextV v m = .tuple #[encStr (vidT v m), .int .i64 0] := by unfold vTextV; rw [if_pos h]
theorem vTextV_bad {v : List St} {m : List Mk} (h : mkFault v m ≠ 0) : vTextV v m = .tuple #[.string ⟨#[]⟩, .int .i64 (mkFault v m)] := by unfold vTextV; rw [if_neg h]
def VTextPost (w : World) (v : List St) (m : List Mk) (e : Ending) (w' : World) : Prop := e = .returned (vTextV v m) ∧ Below w.heap.size w w'
theorem st_bytes (x y z : List UInt8) : (⟨#[115, 116, 114, 101, 116, 99, 104, 32]⟩ : ByteArray) ++ ⟨x.toArray⟩ ++ ⟨#[32]⟩ ++ ⟨y.toArray⟩ ++ ⟨#[32]⟩ ++ ⟨z.toArray⟩ ++ ⟨#[10]⟩ = ⟨(strW ++ Lib.joinTail [32] [x, y, z] ++ [10]).toArray⟩ := by
  apply ByteArray.ext
  simp [strW, Lib.joinTail]
theorem mk_bytes (a x : List UInt8) : (⟨a.toArray⟩ : ByteArray) ++ ⟨#[32]⟩ ++ ⟨x.toArray⟩ ++ ⟨#[10]⟩ = ⟨(a ++ Lib.joinTail [32] [x] ++ [10]).toArray⟩ := by
  apply ByteArray.ext
  simp [Lib.joinTail]
theorem mkWs_at {k : Nat} (h : k < 5) : (strs mkWs).toArray[k]? = some (encStr (mkN ((k : Int) + 1))) ∧ (strs ([] :: mkWs)).toArray[k + 1]? = some (encStr (mkN ((k : Int) + 1))) := by
  have e : mkN ((k : Int) + 1) = mkWs.getD k [] := by
    unfold mkN
    congr 1
    omega
  rw [e]
  rcases (show k = 0 ∨ k = 1 ∨ k = 2 ∨ k = 3 ∨ k = 4 by omega) with rfl | rfl | rfl | rfl | rfl <;> exact ⟨rfl, rfl⟩
theorem Blk.triple {w : World} {g : Nat} {t : TypeId} {a b c : Value} (h : Blk w g t #[a, b, c]) : w.cell? ⟨g, 0, none⟩ = some a ∧ w.cell? ⟨g, 1, none⟩ = some b ∧ w.cell? ⟨g, 2, none⟩ = some c := ⟨by simpa using h.cell 0, by simpa using h.cell 1, by simpa using h.cell 2⟩
theorem stLn_parts (s : St) : stLn s ++ [10] = strW ++ Lib.joinTail [32] [Lib.itoa s.1, Lib.itoa s.2.1, Lib.itoa s.2.2] ++ [10] := rfl
theorem mkLn_parts (x : Mk) : mkLn x ++ [10] = mkN x.2 ++ Lib.joinTail [32] [Lib.itoa x.1] ++ [10] := rfl
set_option maxHeartbeats 4000000 in
set_option maxRecDepth 100000 in
theorem vText_any (A B : Option Addr) (c d lo lo' : Nat) (v : List St) (m : List Mk) (w : World) (hrv : Row w lo 3 A v.length (trs v)) (hrm : Row w lo' 2 B m.length (prs m)) (hl : v.length ≤ 1000000000) (hlm : m.length ≤ 1000000000) (hi : ∀ s ∈ v, s.2.1 ≤ 9223372036854775807) (hE : Env w) :
    Calls Tryz.prog 7 #[.slice A v.length c, .slice B m.length d] w (VTextPost w v m) := by
  go_enter Tryz.func7, Tryz.ntmps7
  go_wp2_with fail
  refine (checkMarks_any _ _ c d A B v m _ hrv hrm hl hlm hi).mono ?_
  rintro e wz ⟨rfl, hb⟩
  have hrv := hrv.below hb
  have hrm := hrm.below hb
  have hE := hE.below hb
  have hx := hb
  clear hb hi
  by_cases h0 : mkFault v m = 0
  rotate_left
  · have h0' : (mkFault v m != 0) = true := by simpa using h0
    have H0 := Lib.hid (vTextV_bad h0)
    clear h0
    go_wp2_with fail
    go_returns
    exact ⟨by rw [H0.out]; rfl, hx⟩
  have HV := Lib.hid (vTextV_ok h0)
  have HF := Lib.hid h0
  have h0' : (mkFault v m != 0) = false := by simpa using h0
  clear h0
  have hBn := Bld.new wz wz.heap.size (Nat.le_refl _)
  have hyn : Below wz.heap.size wz (wz.alloc (.cells #[.pointer none, .slice none 0 0] 63)) := (Below.refl _ _).alloc (Nat.le_refl _) _
  have hyz : wz.heap.size < (wz.alloc (.cells #[.pointer none, .slice none 0 0] 63)).heap.size := by simp
  obtain ⟨w1, hw1⟩ : ∃ x, x = wz.alloc (.cells #[.pointer none, .slice none 0 0] 63) := ⟨_, rfl⟩
  rw [← hw1] at hBn hyn hyz
  have hB := hBn
  have hy := hyn
  clear hBn hyn
  have hs0 : stsT v 0 = [] := rfl
  rw [← hs0] at hB
  clear hs0
  have hvo := vid_ok HF.out
  have hvl := hvo.vl
  have hml := hvo.ml
  have HVS := Lib.hid hvo.sts
  have HMS := Lib.hid hvo.mks
  have HVL : Hid (∀ k, k ≤ v.length → (stsT v k).length ≤ 80 * k) := Lib.hid (stsT_len hvo)
  have HML : Hid (∀ k, k ≤ m.length → (mksT m k).length ≤ 40 * k) := Lib.hid (mksT_len hvo)
  have HTL := vidT_len hvo
  clear hvo
  go_wp2_with fail
  try rw [← hw1]
  clear hw1
  go_loopw [20] (fun i wr => ∃ k : Nat, k ≤ v.length ∧ i = .int .i64 k ∧ Bld wr wz.heap.size wz.heap.size (stsT v k) ∧ Below wz.heap.size wz wr ∧ wz.heap.size < wr.heap.size) (fun i _ => v.length - (intOf i).toNat)
  case atStart => exact ⟨0, Nat.zero_le _, rfl, hB, hy, hyz⟩
  case round =>
    clear hB hy hyz
    obtain ⟨k, hk, rfl, hB, hy, hyz⟩ := hrel
    by_cases hlt : k < v.length
    · obtain ⟨b, off, rfl, _, hbs0, d0, d1, d2⟩ := hrv.tr_at hlt
      have c0 := (hy.cell (p := ⟨b, off + k * 3, none⟩) hbs0).trans d0
      have c1 := (hy.cell (p := ⟨b, off + k * 3 + 1, none⟩) hbs0).trans d1
      have c2 := (hy.cell (p := ⟨b, off + k * 3 + 2, none⟩) hbs0).trans d2
      have hbs : b < wr.heap.size := by omega
      clear d0 d1 d2
      have HN := Lib.hid (stsT_next hlt)
      have hla := HVL.out k (by omega)
      have hst := HVS.out v[k] (List.getElem_mem _)
      have HPL : Hid ((stLn v[k] ++ [10]).length ≤ 80) := Lib.hid (stLn_len hst)
      have HPT := Lib.hid (stLn_parts v[k])
      obtain ⟨p0, p1, p2, p3, p4, p5⟩ := hst
      have l0 := itoa_len v[k].1 (by omega) (by omega)
      have l1 := itoa_len v[k].2.1 (by omega) (by omega)
      have l2 := itoa_len v[k].2.2 (by omega) (by omega)
      generalize stLn v[k] ++ [10] = pt at *
      generalize v[k].1 = f0 at *
      generalize v[k].2.1 = f1 at *
      generalize v[k].2.2 = f2 at *
      generalize stsT v k = pre at *
      go_wp2_with fail
      have kT : Blk (wr.alloc (.cells #[.int .i64 f0, .int .i64 f1, .int .i64 f2] 42)) wr.heap.size 42 #[.int .i64 f0, .int .i64 f1, .int .i64 f2] := Blk.new _ _ _
      have hB := hB.alloc (.cells #[.int .i64 f0, .int .i64 f1, .int .i64 f2] 42)
      have hy := hy.alloc (by omega) (.cells #[.int .i64 f0, .int .i64 f1, .int .i64 f2] 42)
      have hyz : wz.heap.size < (wr.alloc (.cells #[.int .i64 f0, .int .i64 f1, .int .i64 f2] 42)).heap.size := by simp; omega
      have hne : wr.heap.size ≠ wz.heap.size := by omega
      clear c0 c1 c2
      generalize wr.alloc (.cells #[.int .i64 f0, .int .i64 f1, .int .i64 f2] 42) = w4 at *
      generalize wr.heap.size = bt at *
      have hb := (Below.refl w4.heap.size w4).drew
      replace kT := kT.below hb
      replace hB := hB.below hb
      replace hy := hy.trans (hb.mono (by omega))
      replace hyz : wz.heap.size < w4.drew.heap.size := by have := hb.size; omega
      clear hb
      refine wp_region_held_drew (S := (fun w' => w'.cell? ⟨bt, 0, none⟩ = some (.int .i64 f0) ∧ w'.cell? ⟨bt, 1, none⟩ = some (.int .i64 f1) ∧ w'.cell? ⟨bt, 2, none⟩ = some (.int .i64 f2))) (by kernel_rfl) (kT.triple) (fun hHeld => ?_)
      generalize w4.drew = wd at *
      (refine wpAnyH_take (i := 0) (v := ?_) (by (simp only [List.getElem?_toArray, List.getElem?_cons_zero]; rfl)) (by kernel_rfl) (by kernel_rfl) (by kernel_rfl) (by exact fun _ _ _ h => h) (Or.inl ⟨by rfl, ?_⟩) (by assumption) ?_; (rotate_left 1; (intro w hSw; (try dsimp only at hSw); go_simp); (try with_reducible rfl)); (try simp only [Act.put, List.setIfInBounds_toArray, List.set_cons_zero, List.set_cons_succ]))
      (refine wpAnyH_take (i := 1) (v := ?_) (by (simp only [List.getElem?_toArray, List.getElem?_cons_succ, List.getElem?_cons_zero]; rfl)) (by kernel_rfl) (by kernel_rfl) (by kernel_rfl) (by exact fun _ _ _ h => h) (Or.inl ⟨by rfl, ?_⟩) (by assumption) ?_; (rotate_left 1; (intro w hSw; (try dsimp only at hSw); go_simp); (try with_reducible rfl)); (try simp only [Act.put, List.setIfInBounds_toArray, List.set_cons_zero, List.set_cons_succ]))
      (refine wpAnyH_take (i := 5) (v := ?_) (by (simp only [List.getElem?_toArray, List.getElem?_cons_succ, List.getElem?_cons_zero]; rfl)) (by kernel_rfl) (by kernel_rfl) (by kernel_rfl) (by exact fun _ _ _ h => h) (Or.inl ⟨by rfl, ?_⟩) (by assumption) ?_; (rotate_left 1; (intro w hSw; (try dsimp only at hSw); go_simp); (try with_reducible rfl)); (try simp only [Act.put, List.setIfInBounds_toArray, List.set_cons_zero, List.set_cons_succ]))
      (refine wpAnyH_take (i := 6) (v := ?_) (by (simp only [List.getElem?_toArray, List.getElem?_cons_succ, List.getElem?_cons_zero]; rfl)) (by kernel_rfl) (by kernel_rfl) (by kernel_rfl) (by exact fun _ _ _ h => h) (Or.inl ⟨by rfl, ?_⟩) (by assumption) ?_; (rotate_left 1; (intro w hSw; (try dsimp only at hSw); go_simp); (try with_reducible rfl)); (try simp only [Act.put, List.setIfInBounds_toArray, List.set_cons_zero, List.set_cons_succ]))
      (refine wpAnyH_take (i := 7) (v := ?_) (by (simp only [List.getElem?_toArray, List.getElem?_cons_succ, List.getElem?_cons_zero]; rfl)) (by kernel_rfl) (by kernel_rfl) (by kernel_rfl) (by exact fun _ _ _ h => h) (Or.inl ⟨by rfl, ?_⟩) (by assumption) ?_; (rotate_left 1; (intro w hSw; (try dsimp only at hSw); go_simp); (try with_reducible rfl)); (try simp only [Act.put, List.setIfInBounds_toArray, List.set_cons_zero, List.set_cons_succ]))
      (refine wpAnyH_take (i := 11) (v := ?_) (by (simp only [List.getElem?_toArray, List.getElem?_cons_succ, List.getElem?_cons_zero]; rfl)) (by kernel_rfl) (by kernel_rfl) (by kernel_rfl) (by exact fun _ _ _ h => h) (Or.inl ⟨by rfl, ?_⟩) (by assumption) ?_; (rotate_left 1; (intro w hSw; (try dsimp only at hSw); go_simp); (try with_reducible rfl)); (try simp only [Act.put, List.setIfInBounds_toArray, List.set_cons_zero, List.set_cons_succ]))
      (refine wpAnyH_take (i := 12) (v := ?_) (by (simp only [List.getElem?_toArray, List.getElem?_cons_succ, List.getElem?_cons_zero]; rfl)) (by kernel_rfl) (by kernel_rfl) (by kernel_rfl) (by exact fun _ _ _ h => h) (Or.inl ⟨by rfl, ?_⟩) (by assumption) ?_; (rotate_left 1; (intro w hSw; (try dsimp only at hSw); go_simp); (try with_reducible rfl)); (try simp only [Act.put, List.setIfInBounds_toArray, List.set_cons_zero, List.set_cons_succ]))
      (refine wpAnyH_take (i := 13) (v := ?_) (by (simp only [List.getElem?_toArray, List.getElem?_cons_succ, List.getElem?_cons_zero]; rfl)) (by kernel_rfl) (by kernel_rfl) (by kernel_rfl) (by exact fun _ _ _ h => h) (Or.inl ⟨by rfl, ?_⟩) (by assumption) ?_; (rotate_left 1; (intro w hSw; (try dsimp only at hSw); go_simp); (try with_reducible rfl)); (try simp only [Act.put, List.setIfInBounds_toArray, List.set_cons_zero, List.set_cons_succ]))
      refine wpAnyH_ready (rs := [2]) (by kernel_rfl) (by simp) ?_
      refine AllReadyH.cons rfl (fun K hK => ?_) AllReadyH.nil
      go_simp
      go_at_call 28
      refine (itoaE_any f0 (by omega) (by omega) _ (hE.below hy)).mono ?_
      rintro e w5 ⟨rfl, hb⟩
      replace kT := kT.below hb
      replace hB := hB.below hb
      replace hy := hy.trans (hb.mono (by omega))
      replace hyz : wz.heap.size < w5.heap.size := by have := hb.size; omega
      clear hb
      generalize Lib.itoa f0 = x0 at *
      have c0a : ¬ (9223372036854775807 < 8 + x0.length) := by omega
      have c0b : ¬ (9223372036854775807 < 8 + x0.length + 1) := by omega
      go_wp2_with fail
      refine hK.out _ _ (kT.triple) (fun hHeld => ?_)
      clear hK K
      (try simp only [Act.put, List.setIfInBounds_toArray, List.set_cons_zero, List.set_cons_succ])
      (refine wpAnyH_take (i := 3) (v := ?_) (by (simp only [List.getElem?_toArray, List.getElem?_cons_succ, List.getElem?_cons_zero]; rfl)) (by kernel_rfl) (by kernel_rfl) (by kernel_rfl) (by exact fun _ _ _ h => h) (Or.inl ⟨by rfl, ?_⟩) (by assumption) ?_; (rotate_left 1; (intro w hSw; (try dsimp only at hSw); go_simp); (try with_reducible rfl)); (try simp only [Act.put, List.setIfInBounds_toArray, List.set_cons_zero, List.set_cons_succ]))
      (refine wpAnyH_take (i := 4) (v := ?_) (by (simp only [List.getElem?_toArray, List.getElem?_cons_succ, List.getElem?_cons_zero]; rfl)) (by kernel_rfl) (by kernel_rfl) (by kernel_rfl) (by exact fun _ _ _ h => h) (Or.inl ⟨by rfl, ?_⟩) (by assumption) ?_; (rotate_left 1; (intro w hSw; (try dsimp only at hSw); go_simp); (try with_reducible rfl)); (try simp only [Act.put, List.setIfInBounds_toArray, List.set_cons_zero, List.set_cons_succ]))
      refine wpAnyH_ready (rs := [8]) (by kernel_rfl) (by simp) ?_
      refine AllReadyH.cons rfl (fun K hK => ?_) AllReadyH.nil
      go_simp
      go_at_call 28
      refine (itoaE_any f1 (by omega) (by omega) _ (hE.below hy)).mono ?_
      rintro e w6 ⟨rfl, hb⟩
      replace kT := kT.below hb
      replace hB := hB.below hb
      replace hy := hy.trans (hb.mono (by omega))
      replace hyz : wz.heap.size < w6.heap.size := by have := hb.size; omega
      clear hb
      generalize Lib.itoa f1 = x1 at *
      have c1a : ¬ (9223372036854775807 < 8 + x0.length + 1 + x1.length) := by omega
      have c1b : ¬ (9223372036854775807 < 8 + x0.length + 1 + x1.length + 1) := by omega
      go_wp2_with fail
      refine hK.out _ _ (kT.triple) (fun hHeld => ?_)
      clear hK K
      (try simp only [Act.put, List.setIfInBounds_toArray, List.set_cons_zero, List.set_cons_succ])
      (refine wpAnyH_take (i := 9) (v := ?_) (by (simp only [List.getElem?_toArray, List.getElem?_cons_succ, List.getElem?_cons_zero]; rfl)) (by kernel_rfl) (by kernel_rfl) (by kernel_rfl) (by exact fun _ _ _ h => h) (Or.inl ⟨by rfl, ?_⟩) (by assumption) ?_; (rotate_left 1; (intro w hSw; (try dsimp only at hSw); go_simp); (try with_reducible rfl)); (try simp only [Act.put, List.setIfInBounds_toArray, List.set_cons_zero, List.set_cons_succ]))
      (refine wpAnyH_take (i := 10) (v := ?_) (by (simp only [List.getElem?_toArray, List.getElem?_cons_succ, List.getElem?_cons_zero]; rfl)) (by kernel_rfl) (by kernel_rfl) (by kernel_rfl) (by exact fun _ _ _ h => h) (Or.inl ⟨by rfl, ?_⟩) (by assumption) ?_; (rotate_left 1; (intro w hSw; (try dsimp only at hSw); go_simp); (try with_reducible rfl)); (try simp only [Act.put, List.setIfInBounds_toArray, List.set_cons_zero, List.set_cons_succ]))
      refine wpAnyH_ready (rs := [14]) (by kernel_rfl) (by simp) ?_
      refine AllReadyH.cons rfl (fun K hK => ?_) AllReadyH.nil
      go_simp
      go_at_call 28
      refine (itoaE_any f2 (by omega) (by omega) _ (hE.below hy)).mono ?_
      rintro e w7 ⟨rfl, hb⟩
      replace kT := kT.below hb
      replace hB := hB.below hb
      replace hy := hy.trans (hb.mono (by omega))
      replace hyz : wz.heap.size < w7.heap.size := by have := hb.size; omega
      clear hb
      generalize Lib.itoa f2 = x2 at *
      have c2a : ¬ (9223372036854775807 < 8 + x0.length + 1 + x1.length + 1 + x2.length) := by omega
      have c2b : ¬ (9223372036854775807 < 8 + x0.length + 1 + x1.length + 1 + x2.length + 1) := by omega
      go_wp2_with fail
      refine hK.out _ _ (kT.triple) (fun hHeld => ?_)
      clear hK K
      (try simp only [Act.put, List.setIfInBounds_toArray, List.set_cons_zero, List.set_cons_succ])
      (refine wpAnyH_take (i := 15) (v := ?_) (by (simp only [List.getElem?_toArray, List.getElem?_cons_succ, List.getElem?_cons_zero]; rfl)) (by kernel_rfl) (by kernel_rfl) (by kernel_rfl) (by exact fun _ _ _ h => h) (Or.inl ⟨by rfl, ?_⟩) (by assumption) ?_; (rotate_left 1; (intro w hSw; (try dsimp only at hSw); go_simp); (try with_reducible rfl)); (try simp only [Act.put, List.setIfInBounds_toArray, List.set_cons_zero, List.set_cons_succ]))
      (refine wpAnyH_take (i := 16) (v := ?_) (by (simp only [List.getElem?_toArray, List.getElem?_cons_succ, List.getElem?_cons_zero]; rfl)) (by kernel_rfl) (by kernel_rfl) (by kernel_rfl) (by exact fun _ _ _ h => h) (Or.inl ⟨by rfl, ?_⟩) (by assumption) ?_; (rotate_left 1; (intro w hSw; (try dsimp only at hSw); go_simp); (try with_reducible rfl)); (try simp only [Act.put, List.setIfInBounds_toArray, List.set_cons_zero, List.set_cons_succ]))
      refine wpAnyH_ready (rs := [17]) (by kernel_rfl) (by simp) ?_
      refine AllReadyH.cons rfl (fun K hK => ?_) AllReadyH.nil
      go_simp
      go_at_call 27
      rw [st_bytes x0 x1 x2, ← HPT.out]
      have hpl : pt.length ≤ 80 := HPL.out
      refine (write_any wz.heap.size wz.heap.size pre pt _ hB (by omega) (by omega)).mono ?_
      rintro e w9 ⟨rfl, hB2, hb, hw⟩
      replace kT := kT.wrote hw hne (by decide)
      clear hw
      replace hy := hy.trans hb
      replace hyz : wz.heap.size < w9.heap.size := by have := hb.size; omega
      clear hb hB
      go_wp2_with fail
      refine hK.out _ _ (kT.triple) (fun hHeld => ?_)
      clear hK K
      (try simp only [Act.put, List.setIfInBounds_toArray, List.set_cons_zero, List.set_cons_succ])
      refine wpAnyH_done (by kernel_rfl) ?_ _
      go_wp2_with fail
      go_roundw
      case rel => exact ⟨k + 1, by omega, by go_num, by rw [HN.out]; exact hB2, hy, hyz⟩
      case measure => simp [intOf]; omega
    · have hkk : k = v.length := by omega
      subst hkk
      have hla := HVL.out v.length (Nat.le_refl _)
      have hp0 : stsT v v.length ++ mksT m 0 = stsT v v.length := by simp [mksT]
      have HTX : Hid (vidT v m = stsT v v.length ++ mksT m m.length) := Lib.hid rfl
      rw [← hp0] at hB
      clear hp0
      generalize stsT v v.length = pre0 at *
      go_wp2_with fail
      go_loopw [45] (fun i wr => ∃ k : Nat, k ≤ m.length ∧ i = .int .i64 k ∧ Bld wr wz.heap.size wz.heap.size (pre0 ++ mksT m k) ∧ Below wz.heap.size wz wr ∧ wz.heap.size < wr.heap.size) (fun i _ => m.length - (intOf i).toNat)
      case atStart => exact ⟨0, Nat.zero_le _, rfl, hB, hy, hyz⟩
      case round =>
        clear hB hy hyz
        obtain ⟨k, hk, rfl, hB, hy, hyz⟩ := hrel
        by_cases hlt : k < m.length
        · obtain ⟨b, off, rfl, _, hbs0, d0, d1⟩ := hrm.pr_at hlt
          have c0 := (hy.cell (p := ⟨b, off + k * 2, none⟩) hbs0).trans d0
          have c1 := (hy.cell (p := ⟨b, off + k * 2 + 1, none⟩) hbs0).trans d1
          have hbs : b < wr.heap.size := by omega
          clear d0 d1
          have HN := Lib.hid (mksT_next hlt)
          have hlb := HML.out k (by omega)
          have hst := HMS.out m[k] (List.getElem_mem _)
          have HPL : Hid ((mkLn m[k] ++ [10]).length ≤ 80) := Lib.hid (Nat.le_trans (mkLn_len hst) (by decide))
          have HPT := Lib.hid (mkLn_parts m[k])
          obtain ⟨p0, p1, p2, p3⟩ := hst
          have l0 := itoa_len m[k].1 (by omega) (by omega)
          generalize mkLn m[k] ++ [10] = pt at *
          generalize m[k].1 = f0 at *
          generalize m[k].2 = kd at *
          obtain ⟨kn, hkn⟩ := Int.eq_ofNat_of_zero_le (show 0 ≤ kd - 1 by omega)
          have hkd : kd = (kn : Int) + 1 := by omega
          subst hkd
          have hk5 : kn < 5 := by omega
          have HMW := Lib.hid (mkWs_at hk5).1
          have hwl : (mkN ((kn : Int) + 1)).length ≤ 5 := (mkWs_all _ (mkN_K p0 p1).2).2.2.2.2.2.2.2
          generalize mkN ((kn : Int) + 1) = wd2 at *
          have hwk : IntKind.i64.wrap (kn : Int) = (kn : Int) := IntWalk.i64_in _ ⟨by omega, by omega⟩
          have hi5 : (kn : Int) < 5 := by omega
          have hi6 : (kn : Int) + 1 < 6 := by omega
          have hi7 : (0 : Int) ≤ (kn : Int) + 1 := by omega
          have hsub : IntKind.i64.wrap ((kn : Int) + 1 - 1) = (kn : Int) := by rw [show (kn : Int) + 1 - 1 = kn by omega]; exact IntWalk.i64_in _ ⟨by omega, by omega⟩
          have cA : ¬ (9223372036854775807 < wd2.length + 1) := by omega
          clear hkn
          generalize mksT m k = pre1 at *
          generalize hpr : pre0 ++ pre1 = pre at *
          have hprl : pre.length ≤ 1000000 := by rw [← hpr, List.length_append]; omega
          have HPR := Lib.hid hpr
          clear hpr
          go_wp2_with fail
          have kT : Blk (wr.alloc (.cells #[.int .i64 f0, .int .i64 ((kn : Int) + 1)] 45)) wr.heap.size 45 #[.int .i64 f0, .int .i64 ((kn : Int) + 1)] := Blk.new _ _ _
          have hB := hB.alloc (.cells #[.int .i64 f0, .int .i64 ((kn : Int) + 1)] 45)
          have hy := hy.alloc (by omega) (.cells #[.int .i64 f0, .int .i64 ((kn : Int) + 1)] 45)
          have hyz : wz.heap.size < (wr.alloc (.cells #[.int .i64 f0, .int .i64 ((kn : Int) + 1)] 45)).heap.size := by simp; omega
          have hne : wr.heap.size ≠ wz.heap.size := by omega
          clear c0 c1
          generalize wr.alloc (.cells #[.int .i64 f0, .int .i64 ((kn : Int) + 1)] 45) = w4 at *
          generalize wr.heap.size = bt at *
          have hb := (Below.refl w4.heap.size w4).drew
          replace kT := kT.below hb
          replace hB := hB.below hb
          replace hy := hy.trans (hb.mono (by omega))
          replace hyz : wz.heap.size < w4.drew.heap.size := by have := hb.size; omega
          clear hb
          refine wp_region_held_drew (S := (fun w' => w'.cell? ⟨bt, 0, none⟩ = some (.int .i64 f0) ∧ w'.cell? ⟨bt, 1, none⟩ = some (.int .i64 ((kn : Int) + 1)))) (by kernel_rfl) (kT.two_) (fun hHeld => ?_)
          generalize w4.drew = wd at *
          (refine wpAnyH_take (i := 1) (v := ?_) (by (simp only [List.getElem?_toArray, List.getElem?_cons_succ, List.getElem?_cons_zero]; rfl)) (by kernel_rfl) (by kernel_rfl) (by kernel_rfl) (by exact fun _ _ _ h => h) (Or.inl ⟨by rfl, ?_⟩) (by assumption) ?_; (rotate_left 1; (intro w hSw; (try dsimp only at hSw); go_simp); (try with_reducible rfl)); (try simp only [Act.put, List.setIfInBounds_toArray, List.set_cons_zero, List.set_cons_succ]))
          (refine wpAnyH_take (i := 2) (v := ?_) (by (simp only [List.getElem?_toArray, List.getElem?_cons_succ, List.getElem?_cons_zero]; rfl)) (by kernel_rfl) (by kernel_rfl) (by kernel_rfl) (by exact fun _ _ _ h => h) (Or.inl ⟨by rfl, ?_⟩) (by assumption) ?_; (rotate_left 1; (intro w hSw; (try dsimp only at hSw); go_simp); (try with_reducible rfl)); (try simp only [Act.put, List.setIfInBounds_toArray, List.set_cons_zero, List.set_cons_succ]))
          (refine wpAnyH_take (i := 3) (v := ?_) (by (simp only [List.getElem?_toArray, List.getElem?_cons_succ, List.getElem?_cons_zero]; rfl)) (by kernel_rfl) (by kernel_rfl) (by kernel_rfl) (by exact fun _ _ _ h => h) (Or.inl ⟨by rfl, ?_⟩) (by assumption) ?_; (rotate_left 1; (intro w hSw; (try dsimp only at hSw); go_simp); (try with_reducible rfl)); (try simp only [Act.put, List.setIfInBounds_toArray, List.set_cons_zero, List.set_cons_succ]))
          (refine wpAnyH_take (i := 7) (v := ?_) (by (simp only [List.getElem?_toArray, List.getElem?_cons_succ, List.getElem?_cons_zero]; rfl)) (by kernel_rfl) (by kernel_rfl) (by kernel_rfl) (by exact fun _ _ _ h => h) (Or.inl ⟨by rfl, ?_⟩) (by assumption) ?_; (rotate_left 1; (intro w hSw; (try dsimp only at hSw); go_simp); (try with_reducible rfl)); (try simp only [Act.put, List.setIfInBounds_toArray, List.set_cons_zero, List.set_cons_succ]))
          (refine wpAnyH_take (i := 8) (v := ?_) (by (simp only [List.getElem?_toArray, List.getElem?_cons_succ, List.getElem?_cons_zero]; rfl)) (by kernel_rfl) (by kernel_rfl) (by kernel_rfl) (by exact fun _ _ _ h => h) (Or.inl ⟨by rfl, ?_⟩) (by assumption) ?_; (rotate_left 1; (intro w hSw; (try dsimp only at hSw); go_simp); (try with_reducible rfl)); (try simp only [Act.put, List.setIfInBounds_toArray, List.set_cons_zero, List.set_cons_succ]))
          refine wpAnyH_ready (rs := [0]) (by kernel_rfl) (by simp) ?_
          refine AllReadyH.cons rfl (fun K hK => ?_) AllReadyH.nil
          go_simp
          go_at_call 29
          refine (marksW_any _).mono ?_
          rintro e w5 ⟨bm, rfl, hbm, kM, hb⟩
          replace kT := kT.below hb
          replace hB := hB.below hb
          replace hy := hy.trans (hb.mono (by omega))
          replace hyz : wz.heap.size < w5.heap.size := by have := hb.size; omega
          clear hb hbm
          go_wp2_with fail
          refine hK.out _ _ (kT.two_) (fun hHeld => ?_)
          clear hK K
          (try simp only [Act.put, List.setIfInBounds_toArray, List.set_cons_zero, List.set_cons_succ])
          (refine wpAnyH_take (i := 4) (v := ?_) (by (simp only [List.getElem?_toArray, List.getElem?_cons_succ, List.getElem?_cons_zero]; rfl)) (by kernel_rfl) (by kernel_rfl) (by kernel_rfl) (by exact fun _ _ _ h => h) (Or.inl ⟨by rfl, ?_⟩) (by assumption) ?_; (rotate_left 1; (intro w hSw; (try dsimp only at hSw); go_simp); (try with_reducible rfl)); (try simp only [Act.put, List.setIfInBounds_toArray, List.set_cons_zero, List.set_cons_succ]))
          refine wpAnyH_ready (rs := [5, 9]) (by kernel_rfl) (by simp) ?_
          refine AllReadyH.cons rfl (fun K hK => ?_) (AllReadyH.cons rfl (fun K hK => ?_) AllReadyH.nil)
          case refine_1 =>
            have cM : w5.cell? ⟨bm, kn, none⟩ = some (encStr wd2) := by rw [kM.cell]; exact HMW.out
            have mz := kM.lt
            go_simp
            clear cM mz
            refine hK.out _ _ (kT.two_) (fun hHeld => ?_)
            clear hK K
            (try simp only [Act.put, List.setIfInBounds_toArray, List.set_cons_zero, List.set_cons_succ])
            (refine wpAnyH_take (i := 6) (v := ?_) (by (simp only [List.getElem?_toArray, List.getElem?_cons_succ, List.getElem?_cons_zero]; rfl)) (by kernel_rfl) (by kernel_rfl) (by kernel_rfl) (by exact fun _ _ _ h => h) (Or.inl ⟨by rfl, ?_⟩) (by assumption) ?_; (rotate_left 1; (intro w hSw; (try dsimp only at hSw); go_simp); (try with_reducible rfl)); (try simp only [Act.put, List.setIfInBounds_toArray, List.set_cons_zero, List.set_cons_succ]))
            refine wpAnyH_ready (rs := [9]) (by kernel_rfl) (by simp) ?_
            refine AllReadyH.cons rfl (fun K hK => ?_) AllReadyH.nil
            go_simp
            go_at_call 28
            refine (itoaE_any f0 (by omega) (by omega) _ (hE.below hy)).mono ?_
            rintro e w6 ⟨rfl, hb⟩
            replace kT := kT.below hb
            replace hB := hB.below hb
            replace hy := hy.trans (hb.mono (by omega))
            replace hyz : wz.heap.size < w6.heap.size := by have := hb.size; omega
            replace kM := kM.below hb
            clear hb
            generalize Lib.itoa f0 = x0 at *
            have c0 : ¬ (9223372036854775807 < wd2.length + 1 + x0.length) := by omega
            have c1 : ¬ (9223372036854775807 < wd2.length + 1 + x0.length + 1) := by omega
            go_wp2_with fail
            refine hK.out _ _ (kT.two_) (fun hHeld => ?_)
            clear hK K
            (try simp only [Act.put, List.setIfInBounds_toArray, List.set_cons_zero, List.set_cons_succ])
            (refine wpAnyH_take (i := 10) (v := ?_) (by (simp only [List.getElem?_toArray, List.getElem?_cons_succ, List.getElem?_cons_zero]; rfl)) (by kernel_rfl) (by kernel_rfl) (by kernel_rfl) (by exact fun _ _ _ h => h) (Or.inl ⟨by rfl, ?_⟩) (by assumption) ?_; (rotate_left 1; (intro w hSw; (try dsimp only at hSw); go_simp); (try with_reducible rfl)); (try simp only [Act.put, List.setIfInBounds_toArray, List.set_cons_zero, List.set_cons_succ]))
            (refine wpAnyH_take (i := 11) (v := ?_) (by (simp only [List.getElem?_toArray, List.getElem?_cons_succ, List.getElem?_cons_zero]; rfl)) (by kernel_rfl) (by kernel_rfl) (by kernel_rfl) (by exact fun _ _ _ h => h) (Or.inl ⟨by rfl, ?_⟩) (by assumption) ?_; (rotate_left 1; (intro w hSw; (try dsimp only at hSw); go_simp); (try with_reducible rfl)); (try simp only [Act.put, List.setIfInBounds_toArray, List.set_cons_zero, List.set_cons_succ]))
            refine wpAnyH_ready (rs := [12]) (by kernel_rfl) (by simp) ?_
            refine AllReadyH.cons rfl (fun K hK => ?_) AllReadyH.nil
            go_simp
            go_at_call 27
            rw [mk_bytes wd2 x0, ← HPT.out]
            have hpl : pt.length ≤ 80 := HPL.out
            refine (write_any wz.heap.size wz.heap.size pre pt _ hB (by omega) (by omega)).mono ?_
            rintro e w9 ⟨rfl, hB2, hb, hw⟩
            replace kT := kT.wrote hw hne (by decide)
            clear hw
            replace hy := hy.trans hb
            replace hyz : wz.heap.size < w9.heap.size := by have := hb.size; omega
            clear hb hB
            go_wp2_with fail
            refine hK.out _ _ (kT.two_) (fun hHeld => ?_)
            clear hK K
            (try simp only [Act.put, List.setIfInBounds_toArray, List.set_cons_zero, List.set_cons_succ])
            refine wpAnyH_done (by kernel_rfl) ?_ _
            go_wp2_with fail
            go_roundw
            case rel => exact ⟨k + 1, by omega, by go_num, by rw [HN.out, ← List.append_assoc, HPR.out]; exact hB2, hy, hyz⟩
            case measure => simp [intOf]; omega
          case refine_2 =>
            go_simp
            go_at_call 28
            refine (itoaE_any f0 (by omega) (by omega) _ (hE.below hy)).mono ?_
            rintro e w6 ⟨rfl, hb⟩
            replace kT := kT.below hb
            replace hB := hB.below hb
            replace hy := hy.trans (hb.mono (by omega))
            replace hyz : wz.heap.size < w6.heap.size := by have := hb.size; omega
            replace kM := kM.below hb
            clear hb
            generalize Lib.itoa f0 = x0 at *
            have c0 : ¬ (9223372036854775807 < wd2.length + 1 + x0.length) := by omega
            have c1 : ¬ (9223372036854775807 < wd2.length + 1 + x0.length + 1) := by omega
            go_wp2_with fail
            refine hK.out _ _ (kT.two_) (fun hHeld => ?_)
            clear hK K
            (try simp only [Act.put, List.setIfInBounds_toArray, List.set_cons_zero, List.set_cons_succ])
            refine wpAnyH_ready (rs := [5]) (by kernel_rfl) (by simp) ?_
            refine AllReadyH.cons rfl (fun K hK => ?_) AllReadyH.nil
            have cM : w6.cell? ⟨bm, kn, none⟩ = some (encStr wd2) := by rw [kM.cell]; exact HMW.out
            have mz := kM.lt
            go_simp
            clear cM mz
            refine hK.out _ _ (kT.two_) (fun hHeld => ?_)
            clear hK K
            (try simp only [Act.put, List.setIfInBounds_toArray, List.set_cons_zero, List.set_cons_succ])
            (refine wpAnyH_take (i := 6) (v := ?_) (by (simp only [List.getElem?_toArray, List.getElem?_cons_succ, List.getElem?_cons_zero]; rfl)) (by kernel_rfl) (by kernel_rfl) (by kernel_rfl) (by exact fun _ _ _ h => h) (Or.inl ⟨by rfl, ?_⟩) (by assumption) ?_; (rotate_left 1; (intro w hSw; (try dsimp only at hSw); go_simp); (try with_reducible rfl)); (try simp only [Act.put, List.setIfInBounds_toArray, List.set_cons_zero, List.set_cons_succ]))
            (refine wpAnyH_take (i := 10) (v := ?_) (by (simp only [List.getElem?_toArray, List.getElem?_cons_succ, List.getElem?_cons_zero]; rfl)) (by kernel_rfl) (by kernel_rfl) (by kernel_rfl) (by exact fun _ _ _ h => h) (Or.inl ⟨by rfl, ?_⟩) (by assumption) ?_; (rotate_left 1; (intro w hSw; (try dsimp only at hSw); go_simp); (try with_reducible rfl)); (try simp only [Act.put, List.setIfInBounds_toArray, List.set_cons_zero, List.set_cons_succ]))
            (refine wpAnyH_take (i := 11) (v := ?_) (by (simp only [List.getElem?_toArray, List.getElem?_cons_succ, List.getElem?_cons_zero]; rfl)) (by kernel_rfl) (by kernel_rfl) (by kernel_rfl) (by exact fun _ _ _ h => h) (Or.inl ⟨by rfl, ?_⟩) (by assumption) ?_; (rotate_left 1; (intro w hSw; (try dsimp only at hSw); go_simp); (try with_reducible rfl)); (try simp only [Act.put, List.setIfInBounds_toArray, List.set_cons_zero, List.set_cons_succ]))
            refine wpAnyH_ready (rs := [12]) (by kernel_rfl) (by simp) ?_
            refine AllReadyH.cons rfl (fun K hK => ?_) AllReadyH.nil
            go_simp
            go_at_call 27
            rw [mk_bytes wd2 x0, ← HPT.out]
            have hpl : pt.length ≤ 80 := HPL.out
            refine (write_any wz.heap.size wz.heap.size pre pt _ hB (by omega) (by omega)).mono ?_
            rintro e w9 ⟨rfl, hB2, hb, hw⟩
            replace kT := kT.wrote hw hne (by decide)
            clear hw
            replace hy := hy.trans hb
            replace hyz : wz.heap.size < w9.heap.size := by have := hb.size; omega
            clear hb hB
            go_wp2_with fail
            refine hK.out _ _ (kT.two_) (fun hHeld => ?_)
            clear hK K
            (try simp only [Act.put, List.setIfInBounds_toArray, List.set_cons_zero, List.set_cons_succ])
            refine wpAnyH_done (by kernel_rfl) ?_ _
            go_wp2_with fail
            go_roundw
            case rel => exact ⟨k + 1, by omega, by go_num, by rw [HN.out, ← List.append_assoc, HPR.out]; exact hB2, hy, hyz⟩
            case measure => simp [intOf]; omega
        · have hkk : k = m.length := by omega
          subst hkk
          have hlb := HML.out m.length (Nat.le_refl _)
          rw [← HTX.out] at hB
          generalize hT : vidT v m = T at *
          have HT := Lib.hid hT
          clear hT
          go_wp2_with fail
          refine (bldLen_any _ _ _ _ hB).mono ?_
          rintro e w' ⟨rfl, rfl⟩
          go_wp2_with fail
          refine (bldString_any _ _ _ _ hB (by omega)).mono ?_
          rintro e w' ⟨rfl, hb⟩
          go_wp2_with fail
          go_returns
          exact ⟨by rw [HV.out]; rfl, below_up hx (hy.trans hb)⟩
set_option maxHeartbeats 4000000 in
set_option maxRecDepth 100000 in
theorem videoLines_any (A B : Option Addr) (c d lo lo' : Nat) (v : List St) (m : List Mk) (w : World) (hrv : Row w lo 3 A v.length (trs v)) (hrm : Row w lo' 2 B m.length (prs m)) (h0 : mkFault v m = 0) (hE : Env w) :
    Calls Tryz.prog 9 #[.slice A v.length c, .slice B m.length d] w fun e w' => e = .returned (encStr (vidT v m)) ∧ Below w.heap.size w w' := by
  have HF := Lib.hid h0
  clear h0
  go_enter Tryz.func9, Tryz.ntmps9
  have hBn := Bld.new w w.heap.size (Nat.le_refl _)
  have hyn : Below w.heap.size w (w.alloc (.cells #[.pointer none, .slice none 0 0] 63)) := (Below.refl _ _).alloc (Nat.le_refl _) _
  have hyz : w.heap.size < (w.alloc (.cells #[.pointer none, .slice none 0 0] 63)).heap.size := by simp
  obtain ⟨w1, hw1⟩ : ∃ x, x = w.alloc (.cells #[.pointer none, .slice none 0 0] 63) := ⟨_, rfl⟩
  rw [← hw1] at hBn hyn hyz
  have hB := hBn
  have hy := hyn
  clear hBn hyn
  have hs0 : stsT v 0 = [] := rfl
  rw [← hs0] at hB
  clear hs0
  have hvo := vid_ok HF.out
  have hvl := hvo.vl
  have hml := hvo.ml
  have HVS := Lib.hid hvo.sts
  have HMS := Lib.hid hvo.mks
  have HVL : Hid (∀ k, k ≤ v.length → (stsT v k).length ≤ 80 * k) := Lib.hid (stsT_len hvo)
  have HML : Hid (∀ k, k ≤ m.length → (mksT m k).length ≤ 40 * k) := Lib.hid (mksT_len hvo)
  have HTL := vidT_len hvo
  clear hvo
  go_wp2_with fail
  try rw [← hw1]
  clear hw1
  go_loopw [13] (fun i wr => ∃ k : Nat, k ≤ v.length ∧ i = .int .i64 k ∧ Bld wr w.heap.size w.heap.size (stsT v k) ∧ Below w.heap.size w wr ∧ w.heap.size < wr.heap.size) (fun i _ => v.length - (intOf i).toNat)
  case atStart => exact ⟨0, Nat.zero_le _, rfl, hB, hy, hyz⟩
  case round =>
    clear hB hy hyz
    obtain ⟨k, hk, rfl, hB, hy, hyz⟩ := hrel
    by_cases hlt : k < v.length
    · obtain ⟨b, off, rfl, _, hbs0, d0, d1, d2⟩ := hrv.tr_at hlt
      have c0 := (hy.cell (p := ⟨b, off + k * 3, none⟩) hbs0).trans d0
      have c1 := (hy.cell (p := ⟨b, off + k * 3 + 1, none⟩) hbs0).trans d1
      have c2 := (hy.cell (p := ⟨b, off + k * 3 + 2, none⟩) hbs0).trans d2
      have hbs : b < wr.heap.size := by omega
      clear d0 d1 d2
      have HN := Lib.hid (stsT_next hlt)
      have hla := HVL.out k (by omega)
      have hst := HVS.out v[k] (List.getElem_mem _)
      have HPL : Hid ((stLn v[k] ++ [10]).length ≤ 80) := Lib.hid (stLn_len hst)
      have HPT := Lib.hid (stLn_parts v[k])
      obtain ⟨p0, p1, p2, p3, p4, p5⟩ := hst
      have l0 := itoa_len v[k].1 (by omega) (by omega)
      have l1 := itoa_len v[k].2.1 (by omega) (by omega)
      have l2 := itoa_len v[k].2.2 (by omega) (by omega)
      generalize stLn v[k] ++ [10] = pt at *
      generalize v[k].1 = f0 at *
      generalize v[k].2.1 = f1 at *
      generalize v[k].2.2 = f2 at *
      generalize stsT v k = pre at *
      go_wp2_with fail
      have kT : Blk (wr.alloc (.cells #[.int .i64 f0, .int .i64 f1, .int .i64 f2] 42)) wr.heap.size 42 #[.int .i64 f0, .int .i64 f1, .int .i64 f2] := Blk.new _ _ _
      have hB := hB.alloc (.cells #[.int .i64 f0, .int .i64 f1, .int .i64 f2] 42)
      have hy := hy.alloc (by omega) (.cells #[.int .i64 f0, .int .i64 f1, .int .i64 f2] 42)
      have hyz : w.heap.size < (wr.alloc (.cells #[.int .i64 f0, .int .i64 f1, .int .i64 f2] 42)).heap.size := by simp; omega
      have hne : wr.heap.size ≠ w.heap.size := by omega
      clear c0 c1 c2
      generalize wr.alloc (.cells #[.int .i64 f0, .int .i64 f1, .int .i64 f2] 42) = w4 at *
      generalize wr.heap.size = bt at *
      have hb := (Below.refl w4.heap.size w4).drew
      replace kT := kT.below hb
      replace hB := hB.below hb
      replace hy := hy.trans (hb.mono (by omega))
      replace hyz : w.heap.size < w4.drew.heap.size := by have := hb.size; omega
      clear hb
      refine wp_region_held_drew (S := (fun w' => w'.cell? ⟨bt, 0, none⟩ = some (.int .i64 f0) ∧ w'.cell? ⟨bt, 1, none⟩ = some (.int .i64 f1) ∧ w'.cell? ⟨bt, 2, none⟩ = some (.int .i64 f2))) (by kernel_rfl) (kT.triple) (fun hHeld => ?_)
      generalize w4.drew = wd at *
      (refine wpAnyH_take (i := 0) (v := ?_) (by (simp only [List.getElem?_toArray, List.getElem?_cons_zero]; rfl)) (by kernel_rfl) (by kernel_rfl) (by kernel_rfl) (by exact fun _ _ _ h => h) (Or.inl ⟨by rfl, ?_⟩) (by assumption) ?_; (rotate_left 1; (intro w hSw; (try dsimp only at hSw); go_simp); (try with_reducible rfl)); (try simp only [Act.put, List.setIfInBounds_toArray, List.set_cons_zero, List.set_cons_succ]))
      (refine wpAnyH_take (i := 1) (v := ?_) (by (simp only [List.getElem?_toArray, List.getElem?_cons_succ, List.getElem?_cons_zero]; rfl)) (by kernel_rfl) (by kernel_rfl) (by kernel_rfl) (by exact fun _ _ _ h => h) (Or.inl ⟨by rfl, ?_⟩) (by assumption) ?_; (rotate_left 1; (intro w hSw; (try dsimp only at hSw); go_simp); (try with_reducible rfl)); (try simp only [Act.put, List.setIfInBounds_toArray, List.set_cons_zero, List.set_cons_succ]))
      (refine wpAnyH_take (i := 2) (v := ?_) (by (simp only [List.getElem?_toArray, List.getElem?_cons_succ, List.getElem?_cons_zero]; rfl)) (by kernel_rfl) (by kernel_rfl) (by kernel_rfl) (by exact fun _ _ _ h => h) (Or.inl ⟨by rfl, ?_⟩) (by assumption) ?_; (rotate_left 1; (intro w hSw; (try dsimp only at hSw); go_simp); (try with_reducible rfl)); (try simp only [Act.put, List.setIfInBounds_toArray, List.set_cons_zero, List.set_cons_succ]))
      (refine wpAnyH_take (i := 6) (v := ?_) (by (simp only [List.getElem?_toArray, List.getElem?_cons_succ, List.getElem?_cons_zero]; rfl)) (by kernel_rfl) (by kernel_rfl) (by kernel_rfl) (by exact fun _ _ _ h => h) (Or.inl ⟨by rfl, ?_⟩) (by assumption) ?_; (rotate_left 1; (intro w hSw; (try dsimp only at hSw); go_simp); (try with_reducible rfl)); (try simp only [Act.put, List.setIfInBounds_toArray, List.set_cons_zero, List.set_cons_succ]))
      (refine wpAnyH_take (i := 7) (v := ?_) (by (simp only [List.getElem?_toArray, List.getElem?_cons_succ, List.getElem?_cons_zero]; rfl)) (by kernel_rfl) (by kernel_rfl) (by kernel_rfl) (by exact fun _ _ _ h => h) (Or.inl ⟨by rfl, ?_⟩) (by assumption) ?_; (rotate_left 1; (intro w hSw; (try dsimp only at hSw); go_simp); (try with_reducible rfl)); (try simp only [Act.put, List.setIfInBounds_toArray, List.set_cons_zero, List.set_cons_succ]))
      (refine wpAnyH_take (i := 8) (v := ?_) (by (simp only [List.getElem?_toArray, List.getElem?_cons_succ, List.getElem?_cons_zero]; rfl)) (by kernel_rfl) (by kernel_rfl) (by kernel_rfl) (by exact fun _ _ _ h => h) (Or.inl ⟨by rfl, ?_⟩) (by assumption) ?_; (rotate_left 1; (intro w hSw; (try dsimp only at hSw); go_simp); (try with_reducible rfl)); (try simp only [Act.put, List.setIfInBounds_toArray, List.set_cons_zero, List.set_cons_succ]))
      (refine wpAnyH_take (i := 9) (v := ?_) (by (simp only [List.getElem?_toArray, List.getElem?_cons_succ, List.getElem?_cons_zero]; rfl)) (by kernel_rfl) (by kernel_rfl) (by kernel_rfl) (by exact fun _ _ _ h => h) (Or.inl ⟨by rfl, ?_⟩) (by assumption) ?_; (rotate_left 1; (intro w hSw; (try dsimp only at hSw); go_simp); (try with_reducible rfl)); (try simp only [Act.put, List.setIfInBounds_toArray, List.set_cons_zero, List.set_cons_succ]))
      (refine wpAnyH_take (i := 13) (v := ?_) (by (simp only [List.getElem?_toArray, List.getElem?_cons_succ, List.getElem?_cons_zero]; rfl)) (by kernel_rfl) (by kernel_rfl) (by kernel_rfl) (by exact fun _ _ _ h => h) (Or.inl ⟨by rfl, ?_⟩) (by assumption) ?_; (rotate_left 1; (intro w hSw; (try dsimp only at hSw); go_simp); (try with_reducible rfl)); (try simp only [Act.put, List.setIfInBounds_toArray, List.set_cons_zero, List.set_cons_succ]))
      (refine wpAnyH_take (i := 14) (v := ?_) (by (simp only [List.getElem?_toArray, List.getElem?_cons_succ, List.getElem?_cons_zero]; rfl)) (by kernel_rfl) (by kernel_rfl) (by kernel_rfl) (by exact fun _ _ _ h => h) (Or.inl ⟨by rfl, ?_⟩) (by assumption) ?_; (rotate_left 1; (intro w hSw; (try dsimp only at hSw); go_simp); (try with_reducible rfl)); (try simp only [Act.put, List.setIfInBounds_toArray, List.set_cons_zero, List.set_cons_succ]))
      (refine wpAnyH_take (i := 15) (v := ?_) (by (simp only [List.getElem?_toArray, List.getElem?_cons_succ, List.getElem?_cons_zero]; rfl)) (by kernel_rfl) (by kernel_rfl) (by kernel_rfl) (by exact fun _ _ _ h => h) (Or.inl ⟨by rfl, ?_⟩) (by assumption) ?_; (rotate_left 1; (intro w hSw; (try dsimp only at hSw); go_simp); (try with_reducible rfl)); (try simp only [Act.put, List.setIfInBounds_toArray, List.set_cons_zero, List.set_cons_succ]))
      (refine wpAnyH_take (i := 16) (v := ?_) (by (simp only [List.getElem?_toArray, List.getElem?_cons_succ, List.getElem?_cons_zero]; rfl)) (by kernel_rfl) (by kernel_rfl) (by kernel_rfl) (by exact fun _ _ _ h => h) (Or.inl ⟨by rfl, ?_⟩) (by assumption) ?_; (rotate_left 1; (intro w hSw; (try dsimp only at hSw); go_simp); (try with_reducible rfl)); (try simp only [Act.put, List.setIfInBounds_toArray, List.set_cons_zero, List.set_cons_succ]))
      refine wpAnyH_ready (rs := [3]) (by kernel_rfl) (by simp) ?_
      refine AllReadyH.cons rfl (fun K hK => ?_) AllReadyH.nil
      go_simp
      go_at_call 28
      refine (itoaE_any f0 (by omega) (by omega) _ (hE.below hy)).mono ?_
      rintro e w5 ⟨rfl, hb⟩
      replace kT := kT.below hb
      replace hB := hB.below hb
      replace hy := hy.trans (hb.mono (by omega))
      replace hyz : w.heap.size < w5.heap.size := by have := hb.size; omega
      clear hb
      generalize Lib.itoa f0 = x0 at *
      have c0a : ¬ (9223372036854775807 < 8 + x0.length) := by omega
      have c0b : ¬ (9223372036854775807 < 8 + x0.length + 1) := by omega
      go_wp2_with fail
      refine hK.out _ _ (kT.triple) (fun hHeld => ?_)
      clear hK K
      (try simp only [Act.put, List.setIfInBounds_toArray, List.set_cons_zero, List.set_cons_succ])
      (refine wpAnyH_take (i := 4) (v := ?_) (by (simp only [List.getElem?_toArray, List.getElem?_cons_succ, List.getElem?_cons_zero]; rfl)) (by kernel_rfl) (by kernel_rfl) (by kernel_rfl) (by exact fun _ _ _ h => h) (Or.inl ⟨by rfl, ?_⟩) (by assumption) ?_; (rotate_left 1; (intro w hSw; (try dsimp only at hSw); go_simp); (try with_reducible rfl)); (try simp only [Act.put, List.setIfInBounds_toArray, List.set_cons_zero, List.set_cons_succ]))
      (refine wpAnyH_take (i := 5) (v := ?_) (by (simp only [List.getElem?_toArray, List.getElem?_cons_succ, List.getElem?_cons_zero]; rfl)) (by kernel_rfl) (by kernel_rfl) (by kernel_rfl) (by exact fun _ _ _ h => h) (Or.inl ⟨by rfl, ?_⟩) (by assumption) ?_; (rotate_left 1; (intro w hSw; (try dsimp only at hSw); go_simp); (try with_reducible rfl)); (try simp only [Act.put, List.setIfInBounds_toArray, List.set_cons_zero, List.set_cons_succ]))
      refine wpAnyH_ready (rs := [10]) (by kernel_rfl) (by simp) ?_
      refine AllReadyH.cons rfl (fun K hK => ?_) AllReadyH.nil
      go_simp
      go_at_call 28
      refine (itoaE_any f1 (by omega) (by omega) _ (hE.below hy)).mono ?_
      rintro e w6 ⟨rfl, hb⟩
      replace kT := kT.below hb
      replace hB := hB.below hb
      replace hy := hy.trans (hb.mono (by omega))
      replace hyz : w.heap.size < w6.heap.size := by have := hb.size; omega
      clear hb
      generalize Lib.itoa f1 = x1 at *
      have c1a : ¬ (9223372036854775807 < 8 + x0.length + 1 + x1.length) := by omega
      have c1b : ¬ (9223372036854775807 < 8 + x0.length + 1 + x1.length + 1) := by omega
      go_wp2_with fail
      refine hK.out _ _ (kT.triple) (fun hHeld => ?_)
      clear hK K
      (try simp only [Act.put, List.setIfInBounds_toArray, List.set_cons_zero, List.set_cons_succ])
      (refine wpAnyH_take (i := 11) (v := ?_) (by (simp only [List.getElem?_toArray, List.getElem?_cons_succ, List.getElem?_cons_zero]; rfl)) (by kernel_rfl) (by kernel_rfl) (by kernel_rfl) (by exact fun _ _ _ h => h) (Or.inl ⟨by rfl, ?_⟩) (by assumption) ?_; (rotate_left 1; (intro w hSw; (try dsimp only at hSw); go_simp); (try with_reducible rfl)); (try simp only [Act.put, List.setIfInBounds_toArray, List.set_cons_zero, List.set_cons_succ]))
      (refine wpAnyH_take (i := 12) (v := ?_) (by (simp only [List.getElem?_toArray, List.getElem?_cons_succ, List.getElem?_cons_zero]; rfl)) (by kernel_rfl) (by kernel_rfl) (by kernel_rfl) (by exact fun _ _ _ h => h) (Or.inl ⟨by rfl, ?_⟩) (by assumption) ?_; (rotate_left 1; (intro w hSw; (try dsimp only at hSw); go_simp); (try with_reducible rfl)); (try simp only [Act.put, List.setIfInBounds_toArray, List.set_cons_zero, List.set_cons_succ]))
      refine wpAnyH_ready (rs := [17]) (by kernel_rfl) (by simp) ?_
      refine AllReadyH.cons rfl (fun K hK => ?_) AllReadyH.nil
      go_simp
      go_at_call 28
      refine (itoaE_any f2 (by omega) (by omega) _ (hE.below hy)).mono ?_
      rintro e w7 ⟨rfl, hb⟩
      replace kT := kT.below hb
      replace hB := hB.below hb
      replace hy := hy.trans (hb.mono (by omega))
      replace hyz : w.heap.size < w7.heap.size := by have := hb.size; omega
      clear hb
      generalize Lib.itoa f2 = x2 at *
      have c2a : ¬ (9223372036854775807 < 8 + x0.length + 1 + x1.length + 1 + x2.length) := by omega
      have c2b : ¬ (9223372036854775807 < 8 + x0.length + 1 + x1.length + 1 + x2.length + 1) := by omega
      go_wp2_with fail
      refine hK.out _ _ (kT.triple) (fun hHeld => ?_)
      clear hK K
      (try simp only [Act.put, List.setIfInBounds_toArray, List.set_cons_zero, List.set_cons_succ])
      (refine wpAnyH_take (i := 18) (v := ?_) (by (simp only [List.getElem?_toArray, List.getElem?_cons_succ, List.getElem?_cons_zero]; rfl)) (by kernel_rfl) (by kernel_rfl) (by kernel_rfl) (by exact fun _ _ _ h => h) (Or.inl ⟨by rfl, ?_⟩) (by assumption) ?_; (rotate_left 1; (intro w hSw; (try dsimp only at hSw); go_simp); (try with_reducible rfl)); (try simp only [Act.put, List.setIfInBounds_toArray, List.set_cons_zero, List.set_cons_succ]))
      (refine wpAnyH_take (i := 19) (v := ?_) (by (simp only [List.getElem?_toArray, List.getElem?_cons_succ, List.getElem?_cons_zero]; rfl)) (by kernel_rfl) (by kernel_rfl) (by kernel_rfl) (by exact fun _ _ _ h => h) (Or.inl ⟨by rfl, ?_⟩) (by assumption) ?_; (rotate_left 1; (intro w hSw; (try dsimp only at hSw); go_simp); (try with_reducible rfl)); (try simp only [Act.put, List.setIfInBounds_toArray, List.set_cons_zero, List.set_cons_succ]))
      refine wpAnyH_ready (rs := [20]) (by kernel_rfl) (by simp) ?_
      refine AllReadyH.cons rfl (fun K hK => ?_) AllReadyH.nil
      go_simp
      go_at_call 27
      rw [st_bytes x0 x1 x2, ← HPT.out]
      have hpl : pt.length ≤ 80 := HPL.out
      refine (write_any w.heap.size w.heap.size pre pt _ hB (by omega) (by omega)).mono ?_
      rintro e w9 ⟨rfl, hB2, hb, hw⟩
      replace kT := kT.wrote hw hne (by decide)
      clear hw
      replace hy := hy.trans hb
      replace hyz : w.heap.size < w9.heap.size := by have := hb.size; omega
      clear hb hB
      go_wp2_with fail
      refine hK.out _ _ (kT.triple) (fun hHeld => ?_)
      clear hK K
      (try simp only [Act.put, List.setIfInBounds_toArray, List.set_cons_zero, List.set_cons_succ])
      refine wpAnyH_done (by kernel_rfl) ?_ _
      go_wp2_with fail
      go_roundw
      case rel => exact ⟨k + 1, by omega, by go_num, by rw [HN.out]; exact hB2, hy, hyz⟩
      case measure => simp [intOf]; omega
    · have hkk : k = v.length := by omega
      subst hkk
      have hla := HVL.out v.length (Nat.le_refl _)
      have hp0 : stsT v v.length ++ mksT m 0 = stsT v v.length := by simp [mksT]
      have HTX : Hid (vidT v m = stsT v v.length ++ mksT m m.length) := Lib.hid rfl
      rw [← hp0] at hB
      clear hp0
      generalize stsT v v.length = pre0 at *
      go_wp2_with fail
      go_loopw [41] (fun i wr => ∃ k : Nat, k ≤ m.length ∧ i = .int .i64 k ∧ Bld wr w.heap.size w.heap.size (pre0 ++ mksT m k) ∧ Below w.heap.size w wr ∧ w.heap.size < wr.heap.size) (fun i _ => m.length - (intOf i).toNat)
      case atStart => exact ⟨0, Nat.zero_le _, rfl, hB, hy, hyz⟩
      case round =>
        clear hB hy hyz
        obtain ⟨k, hk, rfl, hB, hy, hyz⟩ := hrel
        by_cases hlt : k < m.length
        · obtain ⟨b, off, rfl, _, hbs0, d0, d1⟩ := hrm.pr_at hlt
          have c0 := (hy.cell (p := ⟨b, off + k * 2, none⟩) hbs0).trans d0
          have c1 := (hy.cell (p := ⟨b, off + k * 2 + 1, none⟩) hbs0).trans d1
          have hbs : b < wr.heap.size := by omega
          clear d0 d1
          have HN := Lib.hid (mksT_next hlt)
          have hlb := HML.out k (by omega)
          have hst := HMS.out m[k] (List.getElem_mem _)
          have HPL : Hid ((mkLn m[k] ++ [10]).length ≤ 80) := Lib.hid (Nat.le_trans (mkLn_len hst) (by decide))
          have HPT := Lib.hid (mkLn_parts m[k])
          obtain ⟨p0, p1, p2, p3⟩ := hst
          have l0 := itoa_len m[k].1 (by omega) (by omega)
          generalize mkLn m[k] ++ [10] = pt at *
          generalize m[k].1 = f0 at *
          generalize m[k].2 = kd at *
          obtain ⟨kn, hkn⟩ := Int.eq_ofNat_of_zero_le (show 0 ≤ kd - 1 by omega)
          have hkd : kd = (kn : Int) + 1 := by omega
          subst hkd
          have hk5 : kn < 5 := by omega
          have HMW := Lib.hid (mkWs_at hk5).2
          have hwl : (mkN ((kn : Int) + 1)).length ≤ 5 := (mkWs_all _ (mkN_K p0 p1).2).2.2.2.2.2.2.2
          generalize mkN ((kn : Int) + 1) = wd2 at *
          have hwk : IntKind.i64.wrap (kn : Int) = (kn : Int) := IntWalk.i64_in _ ⟨by omega, by omega⟩
          have hi5 : (kn : Int) < 5 := by omega
          have hi6 : (kn : Int) + 1 < 6 := by omega
          have hi7 : (0 : Int) ≤ (kn : Int) + 1 := by omega
          have hsub : IntKind.i64.wrap ((kn : Int) + 1 - 1) = (kn : Int) := by rw [show (kn : Int) + 1 - 1 = kn by omega]; exact IntWalk.i64_in _ ⟨by omega, by omega⟩
          have cA : ¬ (9223372036854775807 < wd2.length + 1) := by omega
          clear hkn
          generalize mksT m k = pre1 at *
          generalize hpr : pre0 ++ pre1 = pre at *
          have hprl : pre.length ≤ 1000000 := by rw [← hpr, List.length_append]; omega
          have HPR := Lib.hid hpr
          clear hpr
          go_wp2_with fail
          have kT : Blk (wr.alloc (.cells #[.int .i64 f0, .int .i64 ((kn : Int) + 1)] 45)) wr.heap.size 45 #[.int .i64 f0, .int .i64 ((kn : Int) + 1)] := Blk.new _ _ _
          have hB := hB.alloc (.cells #[.int .i64 f0, .int .i64 ((kn : Int) + 1)] 45)
          have hy := hy.alloc (by omega) (.cells #[.int .i64 f0, .int .i64 ((kn : Int) + 1)] 45)
          have hyz : w.heap.size < (wr.alloc (.cells #[.int .i64 f0, .int .i64 ((kn : Int) + 1)] 45)).heap.size := by simp; omega
          have hne : wr.heap.size ≠ w.heap.size := by omega
          clear c0 c1
          generalize wr.alloc (.cells #[.int .i64 f0, .int .i64 ((kn : Int) + 1)] 45) = w4 at *
          generalize wr.heap.size = bt at *
          have hb := (Below.refl w4.heap.size w4).drew
          replace kT := kT.below hb
          replace hB := hB.below hb
          replace hy := hy.trans (hb.mono (by omega))
          replace hyz : w.heap.size < w4.drew.heap.size := by have := hb.size; omega
          clear hb
          refine wp_region_held_drew (S := (fun w' => w'.cell? ⟨bt, 0, none⟩ = some (.int .i64 f0) ∧ w'.cell? ⟨bt, 1, none⟩ = some (.int .i64 ((kn : Int) + 1)))) (by kernel_rfl) (kT.two_) (fun hHeld => ?_)
          generalize w4.drew = wd at *
          (refine wpAnyH_take (i := 1) (v := ?_) (by (simp only [List.getElem?_toArray, List.getElem?_cons_succ, List.getElem?_cons_zero]; rfl)) (by kernel_rfl) (by kernel_rfl) (by kernel_rfl) (by exact fun _ _ _ h => h) (Or.inl ⟨by rfl, ?_⟩) (by assumption) ?_; (rotate_left 1; (intro w hSw; (try dsimp only at hSw); go_simp); (try with_reducible rfl)); (try simp only [Act.put, List.setIfInBounds_toArray, List.set_cons_zero, List.set_cons_succ]))
          (refine wpAnyH_take (i := 2) (v := ?_) (by (simp only [List.getElem?_toArray, List.getElem?_cons_succ, List.getElem?_cons_zero]; rfl)) (by kernel_rfl) (by kernel_rfl) (by kernel_rfl) (by exact fun _ _ _ h => h) (Or.inl ⟨by rfl, ?_⟩) (by assumption) ?_; (rotate_left 1; (intro w hSw; (try dsimp only at hSw); go_simp); (try with_reducible rfl)); (try simp only [Act.put, List.setIfInBounds_toArray, List.set_cons_zero, List.set_cons_succ]))
          (refine wpAnyH_take (i := 6) (v := ?_) (by (simp only [List.getElem?_toArray, List.getElem?_cons_succ, List.getElem?_cons_zero]; rfl)) (by kernel_rfl) (by kernel_rfl) (by kernel_rfl) (by exact fun _ _ _ h => h) (Or.inl ⟨by rfl, ?_⟩) (by assumption) ?_; (rotate_left 1; (intro w hSw; (try dsimp only at hSw); go_simp); (try with_reducible rfl)); (try simp only [Act.put, List.setIfInBounds_toArray, List.set_cons_zero, List.set_cons_succ]))
          (refine wpAnyH_take (i := 7) (v := ?_) (by (simp only [List.getElem?_toArray, List.getElem?_cons_succ, List.getElem?_cons_zero]; rfl)) (by kernel_rfl) (by kernel_rfl) (by kernel_rfl) (by exact fun _ _ _ h => h) (Or.inl ⟨by rfl, ?_⟩) (by assumption) ?_; (rotate_left 1; (intro w hSw; (try dsimp only at hSw); go_simp); (try with_reducible rfl)); (try simp only [Act.put, List.setIfInBounds_toArray, List.set_cons_zero, List.set_cons_succ]))
          (refine wpAnyH_take (i := 8) (v := ?_) (by (simp only [List.getElem?_toArray, List.getElem?_cons_succ, List.getElem?_cons_zero]; rfl)) (by kernel_rfl) (by kernel_rfl) (by kernel_rfl) (by exact fun _ _ _ h => h) (Or.inl ⟨by rfl, ?_⟩) (by assumption) ?_; (rotate_left 1; (intro w hSw; (try dsimp only at hSw); go_simp); (try with_reducible rfl)); (try simp only [Act.put, List.setIfInBounds_toArray, List.set_cons_zero, List.set_cons_succ]))
          refine wpAnyH_ready (rs := [0]) (by kernel_rfl) (by simp) ?_
          refine AllReadyH.cons rfl (fun K hK => ?_) AllReadyH.nil
          go_simp
          go_at_call 34
          refine (markWords_any _).mono ?_
          rintro e w5 ⟨bm, rfl, hbm, kM, hb⟩
          replace kT := kT.below hb
          replace hB := hB.below hb
          replace hy := hy.trans (hb.mono (by omega))
          replace hyz : w.heap.size < w5.heap.size := by have := hb.size; omega
          clear hb hbm
          go_wp2_with fail
          refine hK.out _ _ (kT.two_) (fun hHeld => ?_)
          clear hK K
          (try simp only [Act.put, List.setIfInBounds_toArray, List.set_cons_zero, List.set_cons_succ])
          (refine wpAnyH_take (i := 3) (v := ?_) (by (simp only [List.getElem?_toArray, List.getElem?_cons_succ, List.getElem?_cons_zero]; rfl)) (by kernel_rfl) (by kernel_rfl) (by kernel_rfl) (by exact fun _ _ _ h => h) (Or.inl ⟨by rfl, ?_⟩) (by assumption) ?_; (rotate_left 1; (intro w hSw; (try dsimp only at hSw); go_simp); (try with_reducible rfl)); (try simp only [Act.put, List.setIfInBounds_toArray, List.set_cons_zero, List.set_cons_succ]))
          refine wpAnyH_ready (rs := [4, 9]) (by kernel_rfl) (by simp) ?_
          refine AllReadyH.cons rfl (fun K hK => ?_) (AllReadyH.cons rfl (fun K hK => ?_) AllReadyH.nil)
          case refine_1 =>
            have cM : w5.cell? ⟨bm, kn + 1, none⟩ = some (encStr wd2) := by rw [kM.cell]; exact HMW.out
            have mz := kM.lt
            go_simp
            clear cM mz
            refine hK.out _ _ (kT.two_) (fun hHeld => ?_)
            clear hK K
            (try simp only [Act.put, List.setIfInBounds_toArray, List.set_cons_zero, List.set_cons_succ])
            (refine wpAnyH_take (i := 5) (v := ?_) (by (simp only [List.getElem?_toArray, List.getElem?_cons_succ, List.getElem?_cons_zero]; rfl)) (by kernel_rfl) (by kernel_rfl) (by kernel_rfl) (by exact fun _ _ _ h => h) (Or.inl ⟨by rfl, ?_⟩) (by assumption) ?_; (rotate_left 1; (intro w hSw; (try dsimp only at hSw); go_simp); (try with_reducible rfl)); (try simp only [Act.put, List.setIfInBounds_toArray, List.set_cons_zero, List.set_cons_succ]))
            refine wpAnyH_ready (rs := [9]) (by kernel_rfl) (by simp) ?_
            refine AllReadyH.cons rfl (fun K hK => ?_) AllReadyH.nil
            go_simp
            go_at_call 28
            refine (itoaE_any f0 (by omega) (by omega) _ (hE.below hy)).mono ?_
            rintro e w6 ⟨rfl, hb⟩
            replace kT := kT.below hb
            replace hB := hB.below hb
            replace hy := hy.trans (hb.mono (by omega))
            replace hyz : w.heap.size < w6.heap.size := by have := hb.size; omega
            replace kM := kM.below hb
            clear hb
            generalize Lib.itoa f0 = x0 at *
            have c0 : ¬ (9223372036854775807 < wd2.length + 1 + x0.length) := by omega
            have c1 : ¬ (9223372036854775807 < wd2.length + 1 + x0.length + 1) := by omega
            go_wp2_with fail
            refine hK.out _ _ (kT.two_) (fun hHeld => ?_)
            clear hK K
            (try simp only [Act.put, List.setIfInBounds_toArray, List.set_cons_zero, List.set_cons_succ])
            (refine wpAnyH_take (i := 10) (v := ?_) (by (simp only [List.getElem?_toArray, List.getElem?_cons_succ, List.getElem?_cons_zero]; rfl)) (by kernel_rfl) (by kernel_rfl) (by kernel_rfl) (by exact fun _ _ _ h => h) (Or.inl ⟨by rfl, ?_⟩) (by assumption) ?_; (rotate_left 1; (intro w hSw; (try dsimp only at hSw); go_simp); (try with_reducible rfl)); (try simp only [Act.put, List.setIfInBounds_toArray, List.set_cons_zero, List.set_cons_succ]))
            (refine wpAnyH_take (i := 11) (v := ?_) (by (simp only [List.getElem?_toArray, List.getElem?_cons_succ, List.getElem?_cons_zero]; rfl)) (by kernel_rfl) (by kernel_rfl) (by kernel_rfl) (by exact fun _ _ _ h => h) (Or.inl ⟨by rfl, ?_⟩) (by assumption) ?_; (rotate_left 1; (intro w hSw; (try dsimp only at hSw); go_simp); (try with_reducible rfl)); (try simp only [Act.put, List.setIfInBounds_toArray, List.set_cons_zero, List.set_cons_succ]))
            refine wpAnyH_ready (rs := [12]) (by kernel_rfl) (by simp) ?_
            refine AllReadyH.cons rfl (fun K hK => ?_) AllReadyH.nil
            go_simp
            go_at_call 27
            rw [mk_bytes wd2 x0, ← HPT.out]
            have hpl : pt.length ≤ 80 := HPL.out
            refine (write_any w.heap.size w.heap.size pre pt _ hB (by omega) (by omega)).mono ?_
            rintro e w9 ⟨rfl, hB2, hb, hw⟩
            replace kT := kT.wrote hw hne (by decide)
            clear hw
            replace hy := hy.trans hb
            replace hyz : w.heap.size < w9.heap.size := by have := hb.size; omega
            clear hb hB
            go_wp2_with fail
            refine hK.out _ _ (kT.two_) (fun hHeld => ?_)
            clear hK K
            (try simp only [Act.put, List.setIfInBounds_toArray, List.set_cons_zero, List.set_cons_succ])
            refine wpAnyH_done (by kernel_rfl) ?_ _
            go_wp2_with fail
            go_roundw
            case rel => exact ⟨k + 1, by omega, by go_num, by rw [HN.out, ← List.append_assoc, HPR.out]; exact hB2, hy, hyz⟩
            case measure => simp [intOf]; omega
          case refine_2 =>
            go_simp
            go_at_call 28
            refine (itoaE_any f0 (by omega) (by omega) _ (hE.below hy)).mono ?_
            rintro e w6 ⟨rfl, hb⟩
            replace kT := kT.below hb
            replace hB := hB.below hb
            replace hy := hy.trans (hb.mono (by omega))
            replace hyz : w.heap.size < w6.heap.size := by have := hb.size; omega
            replace kM := kM.below hb
            clear hb
            generalize Lib.itoa f0 = x0 at *
            have c0 : ¬ (9223372036854775807 < wd2.length + 1 + x0.length) := by omega
            have c1 : ¬ (9223372036854775807 < wd2.length + 1 + x0.length + 1) := by omega
            go_wp2_with fail
            refine hK.out _ _ (kT.two_) (fun hHeld => ?_)
            clear hK K
            (try simp only [Act.put, List.setIfInBounds_toArray, List.set_cons_zero, List.set_cons_succ])
            refine wpAnyH_ready (rs := [4]) (by kernel_rfl) (by simp) ?_
            refine AllReadyH.cons rfl (fun K hK => ?_) AllReadyH.nil
            have cM : w6.cell? ⟨bm, kn + 1, none⟩ = some (encStr wd2) := by rw [kM.cell]; exact HMW.out
            have mz := kM.lt
            go_simp
            clear cM mz
            refine hK.out _ _ (kT.two_) (fun hHeld => ?_)
            clear hK K
            (try simp only [Act.put, List.setIfInBounds_toArray, List.set_cons_zero, List.set_cons_succ])
            (refine wpAnyH_take (i := 5) (v := ?_) (by (simp only [List.getElem?_toArray, List.getElem?_cons_succ, List.getElem?_cons_zero]; rfl)) (by kernel_rfl) (by kernel_rfl) (by kernel_rfl) (by exact fun _ _ _ h => h) (Or.inl ⟨by rfl, ?_⟩) (by assumption) ?_; (rotate_left 1; (intro w hSw; (try dsimp only at hSw); go_simp); (try with_reducible rfl)); (try simp only [Act.put, List.setIfInBounds_toArray, List.set_cons_zero, List.set_cons_succ]))
            (refine wpAnyH_take (i := 10) (v := ?_) (by (simp only [List.getElem?_toArray, List.getElem?_cons_succ, List.getElem?_cons_zero]; rfl)) (by kernel_rfl) (by kernel_rfl) (by kernel_rfl) (by exact fun _ _ _ h => h) (Or.inl ⟨by rfl, ?_⟩) (by assumption) ?_; (rotate_left 1; (intro w hSw; (try dsimp only at hSw); go_simp); (try with_reducible rfl)); (try simp only [Act.put, List.setIfInBounds_toArray, List.set_cons_zero, List.set_cons_succ]))
            (refine wpAnyH_take (i := 11) (v := ?_) (by (simp only [List.getElem?_toArray, List.getElem?_cons_succ, List.getElem?_cons_zero]; rfl)) (by kernel_rfl) (by kernel_rfl) (by kernel_rfl) (by exact fun _ _ _ h => h) (Or.inl ⟨by rfl, ?_⟩) (by assumption) ?_; (rotate_left 1; (intro w hSw; (try dsimp only at hSw); go_simp); (try with_reducible rfl)); (try simp only [Act.put, List.setIfInBounds_toArray, List.set_cons_zero, List.set_cons_succ]))
            refine wpAnyH_ready (rs := [12]) (by kernel_rfl) (by simp) ?_
            refine AllReadyH.cons rfl (fun K hK => ?_) AllReadyH.nil
            go_simp
            go_at_call 27
            rw [mk_bytes wd2 x0, ← HPT.out]
            have hpl : pt.length ≤ 80 := HPL.out
            refine (write_any w.heap.size w.heap.size pre pt _ hB (by omega) (by omega)).mono ?_
            rintro e w9 ⟨rfl, hB2, hb, hw⟩
            replace kT := kT.wrote hw hne (by decide)
            clear hw
            replace hy := hy.trans hb
            replace hyz : w.heap.size < w9.heap.size := by have := hb.size; omega
            clear hb hB
            go_wp2_with fail
            refine hK.out _ _ (kT.two_) (fun hHeld => ?_)
            clear hK K
            (try simp only [Act.put, List.setIfInBounds_toArray, List.set_cons_zero, List.set_cons_succ])
            refine wpAnyH_done (by kernel_rfl) ?_ _
            go_wp2_with fail
            go_roundw
            case rel => exact ⟨k + 1, by omega, by go_num, by rw [HN.out, ← List.append_assoc, HPR.out]; exact hB2, hy, hyz⟩
            case measure => simp [intOf]; omega
        · have hkk : k = m.length := by omega
          subst hkk
          have hlb := HML.out m.length (Nat.le_refl _)
          rw [← HTX.out] at hB
          generalize hT : vidT v m = T at *
          have HT := Lib.hid hT
          clear hT
          go_wp2_with fail
          refine (bldString_any _ _ _ _ hB (by omega)).mono ?_
          rintro e w' ⟨rfl, hb⟩
          go_wp2_with fail
          go_ret
          exact ⟨by rw [HT.out]; rfl, hy.trans hb⟩
end Go.Proofs.YtlinbaojkmcbeaaGreatDoor
