/- Texts of this seat, laid together: Iu Vx Vy Vz. -/
import Derived.Handy
import Derived.BigQuiet
import Derived.Test.YtlinbaojkmcbeaaGreatDoorBv19
import Derived.Test.YtlinbaojkmcbeaaGreatDoorBv05
import Derived.Test.YtlinbaojkmcbeaaGreatDoorBv18
import Derived.Test.YtlinbaojkmcbeaaGreatDoorBv28
import Derived.Test.YtlinbaojkmcbeaaGreatDoorBv21
import Derived.Test.YtlinbaojkmcbeaaGreatDoorBv22
import Derived.Test.YtlinbaojkmcbeaaGreatDoorBv15
import Derived.Test.YtlinbaojkmcbeaaGreatDoorBv23
import Derived.Test.YtlinbaojkmcbeaaGreatDoorBv08
import Derived.Test.YtlinbaojkmcbeaaGreatDoorBv20
import Derived.Test.YtlinbaojkmcbeaaGreatDoorBv24
/- What is held, as letters: the walks of input.heldText and the reference's heldLetters, and of input.readHeld. -/
namespace Go.Proofs.YtlinbaojkmcbeaaGreatDoor
set_option linter.unusedVariables false
set_option linter.unusedSimpArgs false
open Go.RowKit Go.Sort

theorem hldT_some {h : Int} {l : List UInt8} (e : hldP h 6 = l) (hl : l ≠ []) : hldT h = l := by unfold hldT; rw [e, if_neg hl]
theorem hldT_dash {h : Int} (e : hldP h 6 = []) : hldT h = [45] := by unfold hldT; rw [if_pos e]
theorem hldP_len (h : Int) : ∀ k, (hldP h k).length ≤ k
  | 0 => Nat.le_refl _
  | k + 1 => by
    have := hldP_len h k
    rw [hldP_next]
    split
    · rw [List.length_append, List.length_singleton]; omega
    · omega
theorem let_cut {k : Nat} (h : k < 6) : (⟨#[108, 114, 117, 100, 97, 98]⟩ : ByteArray).extract k (k + 1) = ⟨#[letL.getD k 0]⟩ := by
  have e : (⟨#[108, 114, 117, 100, 97, 98]⟩ : ByteArray) = ⟨letL.toArray⟩ := rfl
  have e2 : (⟨#[letL.getD k 0]⟩ : ByteArray) = ⟨([letL.getD k 0] : List UInt8).toArray⟩ := rfl
  rw [e, e2]
  refine ba_ext ?_
  rw [extr_toList]
  rcases (show k = 0 ∨ k = 1 ∨ k = 2 ∨ k = 3 ∨ k = 4 ∨ k = 5 by omega) with rfl | rfl | rfl | rfl | rfl | rfl <;> rfl
theorem let_asc : ∀ k : Fin 6, ((⟨#[108, 114, 117, 100, 97, 98]⟩ : ByteArray)[k.val]'(k.isLt)).toNat < 128 := by decide
theorem btns_at {k : Nat} (h : k < btns.length) : btns[k] = btns.getD k 0 := by rw [List.getD_eq_getElem?_getD, List.getElem?_eq_getElem h]; rfl
theorem idx_mem (s : List UInt8) (c : UInt8) : decide (0 ≤ Lib.indexByte s c) = decide (c ∈ s) := by
  rw [← Lib.contains_iff_indexByte]
  simp
theorem hasL_at (s : List UInt8) {k : Nat} (h : k < 6) : (hasL s).getD k false = decide (letL.getD k 0 ∈ s) := by
  rcases (show k = 0 ∨ k = 1 ∨ k = 2 ∨ k = 3 ∨ k = 4 ∨ k = 5 by omega) with rfl | rfl | rfl | rfl | rfl | rfl <;> rfl
/-- A held button's bit, by shifting. -/
theorem shr_all : ∀ h : Fin 64, ∀ k : Fin 6, (((h.val : Int) / 2 ^ k.val).tmod 2 == 1) = hasB (h.val : Int) (btns.getD k.val 0) := by decide +kernel
/-- A word as what is held, and whether it is how that is written. -/
def heldB (s : List UInt8) : Bool := decide (hldT (hldR s) = s)
theorem heldB_beq (s : List UInt8) : (hldT (hldR s) == s) = heldB s := by unfold heldB; by_cases h : hldT (hldR s) = s <;> simp [h]
end Go.Proofs.YtlinbaojkmcbeaaGreatDoor
/- The walk of evidence.Read's closure: what a line does to the stretches and marks that are read. -/
namespace Go.Proofs.YtlinbaojkmcbeaaGreatDoor
set_option linter.unusedVariables false
set_option linter.unusedSimpArgs false
open Go.RowKit Go.Sort

theorem ty_mks : SliceTy Tryz.prog 28 45 2 16 := .mk' Tryz.underlying28 (z := .agg #[.int .i64 0, .int .i64 0]) (by kernel_rfl) rfl (by decide)
theorem numsB_full {ws : List (List UInt8)} (h : numsB ws = true) : fullW ws = true := by
  unfold fullW
  rw [List.all_eq_true]
  intro s hs
  unfold numsB at h
  have := (numB_short (List.all_eq_true.1 h s hs)).2.2
  cases s with
  | nil => exact absurd rfl this
  | cons a b => rfl
/-- A line that goes through has no empty word. -/
theorem okV_full {t : List UInt8} {k : Nat} (h : fullW (lnW t k) = false) : okV t k = false := by
  cases ho : okV t k with
  | false => rfl
  | true =>
    exfalso
    unfold okV at ho
    rw [Bool.and_eq_true, Bool.or_eq_true, Bool.and_eq_true] at ho
    obtain ⟨h1, h2⟩ := ho
    generalize lnW t k = ws at *
    have hne : ws.getD 0 [] ≠ [] := by
      rcases h2 with h2 | ⟨h2, _⟩
      · unfold mkLB at h2
        rw [Bool.and_eq_true, decide_eq_true_eq] at h2
        exact (mkWs_all _ h2.1).2.2.2.2.2.1
      · unfold stLB at h2
        rw [Bool.and_eq_true, decide_eq_true_eq] at h2
        rw [h2.1]; decide
    cases ws with
    | nil => exact hne rfl
    | cons a r =>
      have h3 := numsB_full h1
      rw [List.drop_succ_cons, List.drop_zero] at h3
      have : fullW (a :: r) = true := by
        unfold fullW at h3 ⊢
        rw [List.all_cons, h3, Bool.and_true]
        have ha : a ≠ [] := hne
        cases a with
        | nil => exact absurd rfl ha
        | cons x y => rfl
      rw [this] at h; cases h
theorem okV_nums {t : List UInt8} {k : Nat} (h : numsB ((lnW t k).drop 1) = false) : okV t k = false := by unfold okV; rw [h]; rfl
theorem okV_kind {t : List UInt8} {k : Nat} (h : mkLB (lnW t k) = false) (h2 : stLB (lnW t k) = false) : okV t k = false := by unfold okV; rw [h, h2]; simp
theorem okV_late {t : List UInt8} {k : Nat} (h : mkLB (lnW t k) = false) (h2 : (vdR t k).2 ≠ []) : okV t k = false := by
  unfold okV; rw [h]
  cases hm : (vdR t k).2 with
  | nil => exact absurd hm h2
  | cons a b => simp
theorem okV_mark {t : List UInt8} {k : Nat} (h0 : numsB ((lnW t k).drop 1) = true) (h : mkLB (lnW t k) = true) : okV t k = true := by unfold okV; rw [h0, h]; rfl
theorem okV_str {t : List UInt8} {k : Nat} (h0 : numsB ((lnW t k).drop 1) = true) (h : stLB (lnW t k) = true) (h2 : (vdR t k).2 = []) : okV t k = true := by unfold okV; rw [h0, h, h2]; simp
theorem mkK_all : ∀ j : Fin 5, mkK (mkWs[j.val]'(j.isLt)) = (j.val : Int) + 1 := by decide +kernel
theorem mkK_idx {w0 : List UInt8} {r : Int} (h : IdxS mkWs w0 r) : (w0 ∈ mkWs → ∃ j : Nat, r = j ∧ mkK w0 = (j : Int) + 1 ∧ j < 5) ∧ (w0 ∉ mkWs → r = -1) := by
  rcases h with ⟨h1, h2⟩ | ⟨j, hj, h1, h2, h3⟩
  · exact ⟨fun h => absurd h h2, fun _ => h1⟩
  · refine ⟨fun _ => ⟨j, h1, ?_, hj⟩, fun h => absurd (by rw [← h2]; exact List.getElem_mem hj) h⟩
    rw [← h2]
    exact mkK_all ⟨j, hj⟩
theorem okV_parts {t : List UInt8} {k : Nat} {w0 : List UInt8} {ds : List (List UInt8)} (h : lnW t k = w0 :: ds) {v : List St} {m : List Mk} (hvm : vdR t k = (v, m)) :
    (numsB ds = false → okV t k = false) ∧
    (¬ (w0 ∈ mkWs ∧ ds.length = 1) → ¬ (w0 = strW ∧ ds.length = 3 ∧ m.length = 0) → okV t k = false) ∧
    (numsB ds = true → w0 ∈ mkWs → ds.length = 1 → okV t k = true ∧ mkLB (lnW t k) = true ∧ mkLV (lnW t k) = ((numsV ds).getD 0 0, mkK w0)) ∧
    (numsB ds = true → w0 = strW → ds.length = 3 → m.length = 0 → okV t k = true ∧ mkLB (lnW t k) = false ∧ stLV (lnW t k) = ((numsV ds).getD 0 0, (numsV ds).getD 1 0, (numsV ds).getD 2 0)) := by
  have hd : (lnW t k).drop 1 = ds := by rw [h]; rfl
  have hm1 : mkLB (lnW t k) = (decide (w0 ∈ mkWs) && decide (ds.length = 1)) := by
    unfold mkLB; rw [h, List.getD_cons_zero, List.length_cons]
    congr 1
    exact decide_eq_decide.2 ⟨fun h => by omega, fun h => by omega⟩
  have hs1 : stLB (lnW t k) = (decide (w0 = strW) && decide (ds.length = 3)) := by
    unfold stLB; rw [h, List.getD_cons_zero, List.length_cons]
    congr 1
    exact decide_eq_decide.2 ⟨fun h => by omega, fun h => by omega⟩
  have he : (vdR t k).2.isEmpty = decide (m.length = 0) := by
    rw [hvm]
    cases m with
    | nil => rfl
    | cons a b => simp
  have hok : okV t k = (numsB ds && ((decide (w0 ∈ mkWs) && decide (ds.length = 1)) || ((decide (w0 = strW) && decide (ds.length = 3)) && decide (m.length = 0)))) := by
    unfold okV; rw [hd, hm1, hs1, he]
  refine ⟨fun h0 => by rw [hok, h0]; rfl, fun h1 h2 => ?_, fun h0 h1 h2 => ?_, fun h0 h1 h2 h3 => ?_⟩
  · rw [hok]
    have a : (decide (w0 ∈ mkWs) && decide (ds.length = 1)) = false := by
      rw [Bool.and_eq_false_iff]
      by_cases hx : w0 ∈ mkWs
      · exact .inr (decide_eq_false fun hy => h1 ⟨hx, hy⟩)
      · exact .inl (decide_eq_false hx)
    have b : ((decide (w0 = strW) && decide (ds.length = 3)) && decide (m.length = 0)) = false := by
      cases hb : ((decide (w0 = strW) && decide (ds.length = 3)) && decide (m.length = 0)) with
      | false => rfl
      | true =>
        rw [Bool.and_eq_true, Bool.and_eq_true, decide_eq_true_eq, decide_eq_true_eq, decide_eq_true_eq] at hb
        exact absurd ⟨hb.1.1, hb.1.2, hb.2⟩ h2
    rw [a, b]; simp
  · refine ⟨by rw [hok, h0, decide_eq_true h1, decide_eq_true h2]; rfl, by rw [hm1, decide_eq_true h1, decide_eq_true h2]; rfl, ?_⟩
    unfold mkLV
    rw [h, List.getD_cons_zero, List.getD_cons_succ]
    obtain ⟨y, rfl⟩ : ∃ y, ds = [y] := by
      match ds, h2 with
      | [y], _ => exact ⟨y, rfl⟩
    rfl
  · have hnm : w0 ∉ mkWs := by rw [h1]; exact strW_free.2.2
    refine ⟨by rw [hok, h0, decide_eq_true h1, decide_eq_true h2, decide_eq_true h3]; simp, by rw [hm1, decide_eq_false hnm]; rfl, ?_⟩
    unfold stLV
    rw [h, List.getD_cons_succ, List.getD_cons_succ, List.getD_cons_succ]
    obtain ⟨y, z, u, rfl⟩ : ∃ y z u, ds = [y, z, u] := by
      match ds, h2 with
      | [y, z, u], _ => exact ⟨y, z, u, rfl⟩
    rfl
/-- The stretches and marks as they stand behind so many lines: their boxes, their rows. -/
structure VdRd (t : List UInt8) (b1 b2 L k : Nat) (W : World) : Prop where
  lt1 : b1 < L
  lt2 : b2 < L
  ne : b1 ≠ b2
  has : ∃ (A B : Option Addr) (c d : Nat), Blk W b1 28 #[.slice A (vdR t k).2.length c] ∧ W.ownsRow L 45 2 (.slice A (vdR t k).2.length c) (vdR t k).2.length (prs (vdR t k).2) ∧
    Blk W b2 26 #[.slice B (vdR t k).1.length d] ∧ W.ownsRow L 42 3 (.slice B (vdR t k).1.length d) (vdR t k).1.length (trs (vdR t k).1)
theorem VdRd.below {t : List UInt8} {b1 b2 L k : Nat} {W W' : World} (h : VdRd t b1 b2 L k W) (hb : Below W.heap.size W W') : VdRd t b1 b2 L k W' := by
  obtain ⟨h0, h1, h2, A, B, c, d, e1, e2, e3, e4⟩ := h
  exact ⟨h0, h1, h2, A, B, c, d, e1.below hb, own_keep e2 hb, e3.below hb, own_keep e4 hb⟩
theorem VdRd.start {t : List UInt8} {b1 b2 L : Nat} {W : World} (h1 : Blk W b1 28 #[.slice none 0 0]) (h2 : Blk W b2 26 #[.slice none 0 0]) (hb1 : b1 < L) (hb2 : b2 < L) (hne : b1 ≠ b2) : VdRd t b1 b2 L 0 W :=
  ⟨hb1, hb2, hne, none, none, 0, 0, h1, World.ownsRow_nil _ _ _ _, h2, World.ownsRow_nil _ _ _ _⟩
theorem VdRd.pushM {t : List UInt8} {b1 b2 L k : Nat} {W W' : World} {A B A5 : Option Addr} {c d c5 : Nat} (hb1 : b1 < L) (hb2 : b2 < L) (hne : b1 ≠ b2) {v : List St} {m : List Mk} (hk : vdR t k = (v, m))
    (h1 : Blk W b1 28 #[.slice A m.length c]) (h2 : W.ownsRow L 45 2 (.slice A m.length c) m.length (prs m))
    (h3 : Blk W b2 26 #[.slice B v.length d]) (h4 : W.ownsRow L 42 3 (.slice B v.length d) v.length (trs v))
    (hg : W.grownBy W' (Value.slice A m.length c).ownBlock) {x y : Int} (hm : mkLB (lnW t k) = true) (hx : mkLV (lnW t k) = (x, y))
    (hw : W'.ownsRow L 45 2 (.slice A5 (m.length + 1) c5) (m.length + 1) (prs m ++ [.int .i64 x, .int .i64 y])) :
    VdRd t b1 b2 L (k + 1) (W'.setCell ⟨b1, 0, none⟩ (.slice A5 (m.length + 1) c5)) := by
  have hkd := own_kindOf h2
  have g1 := h1.otherOf hg hkd (by decide)
  have g3 := h3.otherOf hg hkd (by decide)
  have g4 := own_otherOf h4 hg hkd (by decide)
  have e : vdR t (k + 1) = (v, m ++ [(x, y)]) := by rw [vdR_mark hm, hk, hx]
  refine ⟨hb1, hb2, hne, A5, B, c5, d, ?_⟩
  rw [e]
  dsimp only
  rw [List.length_append, List.length_singleton, prs_app]
  refine ⟨?_, own_past hw g1 (by decide) 0 _, g3.past b1 0 _ (fun e => hne e.symm), own_past g4 g1 (by decide) 0 _⟩
  have := g1.poke 0 (.slice A5 (m.length + 1) c5)
  simpa using this
theorem VdRd.pushS {t : List UInt8} {b1 b2 L k : Nat} {W W' : World} {A B A5 : Option Addr} {c d c5 : Nat} (hb1 : b1 < L) (hb2 : b2 < L) (hne : b1 ≠ b2) {v : List St} {m : List Mk} (hk : vdR t k = (v, m))
    (h1 : Blk W b1 28 #[.slice A m.length c]) (h2 : W.ownsRow L 45 2 (.slice A m.length c) m.length (prs m))
    (h3 : Blk W b2 26 #[.slice B v.length d]) (h4 : W.ownsRow L 42 3 (.slice B v.length d) v.length (trs v))
    (hg : W.grownBy W' (Value.slice B v.length d).ownBlock) {x y z : Int} (hm : mkLB (lnW t k) = false) (hx : stLV (lnW t k) = (x, y, z))
    (hw : W'.ownsRow L 42 3 (.slice A5 (v.length + 1) c5) (v.length + 1) (trs v ++ [.int .i64 x, .int .i64 y, .int .i64 z])) :
    VdRd t b1 b2 L (k + 1) (W'.setCell ⟨b2, 0, none⟩ (.slice A5 (v.length + 1) c5)) := by
  have hkd := own_kindOf h4
  have g1 := h1.otherOf hg hkd (by decide)
  have g3 := h3.otherOf hg hkd (by decide)
  have g2 := own_otherOf h2 hg hkd (by decide)
  have e : vdR t (k + 1) = (v ++ [(x, y, z)], m) := by rw [vdR_str hm, hk, hx]
  have et : trs (v ++ [(x, y, z)]) = trs v ++ [.int .i64 x, .int .i64 y, .int .i64 z] := by simp [trs]
  refine ⟨hb1, hb2, hne, A, A5, c, c5, ?_⟩
  rw [e]
  dsimp only
  rw [List.length_append, List.length_singleton, et]
  refine ⟨g1.past b2 0 _ hne, own_past g2 g3 (by decide) 0 _, ?_, own_past hw g3 (by decide) 0 _⟩
  have := g3.poke 0 (.slice A5 (v.length + 1) c5)
  simpa using this
theorem own_int {w : World} {lo nb no c : Nat} {xs : List Int} (h : w.ownsRow lo 3 1 (.slice (some ⟨nb, no, none⟩) xs.length c) xs.length (ints xs)) (j : Nat) (hj : j < xs.length) : w.cell? ⟨nb, no + j, none⟩ = some (.int .i64 xs[j]) := by
  obtain ⟨b, off, e, _, _, hc⟩ := (Row.of_own h).int_at hj
  injection e with e
  injection e with e1 e2
  subst e1
  subst e2
  exact hc
/-- What a line of the reader does. -/
def VidLine (t : List UInt8) (b1 b2 L k : Nat) (W : World) (e : Ending) (W' : World) : Prop :=
  e = .returned (.bool (okV t k)) ∧ Stays L [b1, b2] W W' ∧ (okV t k = true → VdRd t b1 b2 L (k + 1) W')
set_option maxHeartbeats 8000000 in
set_option maxRecDepth 100000 in
theorem readVd_any (t : List UInt8) (b1 b2 B L k : Nat) (W : World) (ht : t.length ≤ 1000000) (hk : k < (linesL t).length) (hL : L ≤ W.heap.size) (hE : EnvB B W) (hB1 : B ≤ b1) (hB2 : B ≤ b2) (hBL : B ≤ L) (h : VdRd t b1 b2 L k W) :
    Calls Tryz.prog 37 #[encStr (linesL t)[k], .pointer (some ⟨b1, 0, none⟩), .pointer (some ⟨b2, 0, none⟩)] W (VidLine t b1 b2 L k W) := by
  obtain ⟨Hb1, Hb2, Hne, A, B', c, d, hbm, hom, hbv, hov⟩ := h
  have hkn : k ≤ 1000001 := by have := (linesL_le t).1; omega
  have hsl : (linesL t)[k].length ≤ 1000000 := by have := (linesL_le t).2 _ (List.getElem_mem hk); omega
  have HWT := Lib.hid (lnW_at hk)
  have hcc := List.count_le_length (a := (32 : UInt8)) (l := (linesL t)[k])
  have HWL : Hid (∀ x ∈ lnW t k, x.length ≤ 1000000) := Lib.hid (fun x hx => by
    rw [HWT.out] at hx
    have := cutAt_sum 32 _ x hx; omega)
  have hwp : 0 < (lnW t k).length := by rw [HWT.out]; exact List.length_pos_iff.2 (cutAt_ne _ _)
  have hwn : (lnW t k).length ≤ 1000001 := by rw [HWT.out, cutAt_len]; omega
  have BAD : Hid (∀ W', Stays L [b1, b2] W W' → okV t k = false → VidLine t b1 b2 L k W (.returned (.bool false)) W') := Lib.hid (fun W' h1 h2 => ⟨by rw [h2], h1, fun h => by rw [h2] at h; cases h⟩)
  have GOOD : Hid (∀ W', Stays L [b1, b2] W W' → okV t k = true → VdRd t b1 b2 L (k + 1) W' → VidLine t b1 b2 L k W (.returned (.bool true)) W') := Lib.hid (fun W' h1 h2 h3 => ⟨by rw [h2], h1, fun _ => h3⟩)
  have HCW : Hid (cutAt 32 (linesL t)[k] = lnW t k) := Lib.hid HWT.out.symm
  obtain ⟨v, m, hvm⟩ : ∃ v m, vdR t k = (v, m) := ⟨_, _, rfl⟩
  have HVM := Lib.hid hvm
  have hlen := vdR_len t k
  rw [hvm] at hbm hom hbv hov hlen
  dsimp only at hbm hom hbv hov hlen
  clear hvm
  generalize hP : VidLine t b1 b2 L k W = Post at *
  clear hP
  generalize (linesL t)[k] = s at *
  have HFW : Hid (wordsB s (s.count 32 + 1) = fullW (lnW t k)) := Lib.hid (by unfold wordsB; rw [cutAt_len, HCW.out, decide_eq_true rfl]; rfl)
  go_enter Tryz.func37, Tryz.ntmps37
  go_wp2_with fail
  refine (count_any s 32 W).mono ?_
  rintro e w' ⟨rfl, rfl⟩
  generalize s.count 32 = cn at *
  go_wp2_with fail
  have ec : (cn : Int) + 1 = ((cn + 1 : Nat) : Int) := by push_cast; rfl
  rw [ec]
  clear ec
  refine (words_any s (cn + 1) _ (by omega) (by omega) hE.env).mono ?_
  rintro e w2 hW
  rcases hW with ⟨hwb, bw, rfl, hbw, hkw, hb⟩ | ⟨hwb, rfl, hb⟩
  rotate_left
  · rw [HFW.out] at hwb
    have HOK := Lib.hid (okV_full hwb)
    have hst := Stays.of_below (bs := [b1, b2]) hb hL
    clear hwb hb hbm hom hbv hov hE
    go_wp2_with fail
    exact BAD.out _ hst HOK.out
  rw [HCW.out] at hkw
  simp only [HCW.out]
  have hst := Stays.of_below (bs := [b1, b2]) hb hL
  have hbm := hbm.below hb
  have hom := own_keep hom hb
  have hbv := hbv.below hb
  have hov := own_keep hov hb
  have hz : L ≤ w2.heap.size := Nat.le_trans hL hb.size
  clear hb hE hbw HFW hwb
  obtain ⟨w0, ds, hws⟩ : ∃ w0 ds, lnW t k = w0 :: ds := by
    cases hq : lnW t k with
    | nil => rw [hq] at hwp; simp at hwp
    | cons a b => exact ⟨a, b, rfl⟩
  obtain ⟨o1, o2, o3, o4⟩ := okV_parts hws HVM.out
  have O1 := Lib.hid o1
  have O2 := Lib.hid o2
  have O3 := Lib.hid o3
  have O4 := Lib.hid o4
  have HDX : Hid (∀ x ∈ ds, x.length ≤ 1000000) := Lib.hid (fun x hx => HWL.out x (by rw [hws]; exact List.mem_cons_of_mem _ hx))
  have hw0l := HWL.out w0 (by rw [hws]; simp)
  rw [hws] at hkw hwn
  rw [hws]
  rw [List.length_cons] at hwn ⊢
  clear o1 o2 o3 o4 hwp HWL HCW hws
  have HKW := Lib.hid hkw
  obtain ⟨cw, _⟩ : w2.cell? ⟨bw, 0, none⟩ = some (encStr w0) ∧ True := ⟨by rw [hkw.cell 0]; rfl, trivial⟩
  have cwz := hkw.lt
  have hrow : ∀ off, (0 < ds.length → off = 1) → Row w2 0 1 (some ⟨bw, off, none⟩) ds.length (strs ds) := fun off ho => by
    refine ⟨by rw [strs_len, Nat.mul_one], fun hp => ⟨bw, off, rfl, Nat.zero_le _, hkw.lt, fun j u hu => ?_⟩⟩
    rw [ho hp]
    have := hkw.cell (1 + j)
    rw [this]
    have e : (strs (w0 :: ds)).toArray[1 + j]? = (strs ds)[j]? := by rw [Nat.add_comm]; simp [strs]
    rw [e]; exact hu
  have HROW := Lib.hid hrow
  clear hrow hkw
  have KEY : ∀ off, (0 < ds.length → off = 1) → True := fun _ _ => trivial
  clear KEY
  by_cases hd0 : ds.length = 0
  · have hdn : ds = [] := List.eq_nil_of_length_eq_zero hd0
    subst hdn
    clear hd0
    go_wp2_with fail
    refine (numbers_any _ _ _ [] _ (HROW.out _ (fun h => absurd h (by simp))) (by simp) (fun x hx => by cases hx)).mono ?_
    rintro e w3 ⟨A', c', rfl, hnr, hnc, hb⟩
    have HOK := Lib.hid (O2.out (fun h => absurd h.2 (by decide)) (fun h => absurd h.2.1 (by decide)))
    clear O1 O2 O3 O4
    have ne : nmL [] = [] := rfl
    have nb : numsB [] = true := rfl
    rw [ne] at hnr hnc
    rw [ne, nb]
    clear ne nb
    have hkw := HKW.out
    replace hst := hst.trans (Stays.of_below hb hz)
    replace hbm := hbm.below hb
    replace hom := own_keep hom hb
    replace hbv := hbv.below hb
    replace hov := own_keep hov hb
    replace hz : L ≤ w3.heap.size := Nat.le_trans hz hb.size
    replace hkw := hkw.below hb
    clear HKW HROW cw cwz
    clear hb
    go_wp2_with fail
    have hb := (Below.refl w3.heap.size w3).drew
    replace hst := hst.trans (Stays.of_below hb hz)
    replace hbm := hbm.below hb
    replace hom := own_keep hom hb
    replace hbv := hbv.below hb
    replace hov := own_keep hov hb
    replace hz : L ≤ w3.drew.heap.size := Nat.le_trans hz hb.size
    replace hkw := hkw.below hb
    replace hnr := own_keep hnr hb
    clear hb
    refine wp_region_held_drew (S := (fun w' => w'.cell? ⟨bw, 0, none⟩ = some (encStr w0))) (by kernel_rfl) ((show _ = some (encStr w0) by rw [hkw.cell 0]; rfl)) (fun hHeld => ?_)
    generalize w3.drew = wd at *
    (refine wpAnyH_take (i := 1) (v := ?_) (by (simp only [List.getElem?_toArray, List.getElem?_cons_succ, List.getElem?_cons_zero]; rfl)) (by kernel_rfl) (by kernel_rfl) (by kernel_rfl) (by exact fun _ _ _ h => h) (Or.inl ⟨by rfl, ?_⟩) (by assumption) ?_; (rotate_left 1; (intro w hSw; (try dsimp only at hSw); go_simp); (try with_reducible rfl)); (try simp only [Act.put, List.setIfInBounds_toArray, List.set_cons_zero, List.set_cons_succ]))
    (refine wpAnyH_take (i := 2) (v := ?_) (by (simp only [List.getElem?_toArray, List.getElem?_cons_succ, List.getElem?_cons_zero]; rfl)) (by kernel_rfl) (by kernel_rfl) (by kernel_rfl) (by exact fun _ _ _ h => h) (Or.inl ⟨by rfl, ?_⟩) (by assumption) ?_; (rotate_left 1; (intro w hSw; (try dsimp only at hSw); go_simp); (try with_reducible rfl)); (try simp only [Act.put, List.setIfInBounds_toArray, List.set_cons_zero, List.set_cons_succ]))
    (refine wpAnyH_take (i := 3) (v := ?_) (by (simp only [List.getElem?_toArray, List.getElem?_cons_succ, List.getElem?_cons_zero]; rfl)) (by kernel_rfl) (by kernel_rfl) (by kernel_rfl) (by exact fun _ _ _ h => h) (Or.inl ⟨by rfl, ?_⟩) (by assumption) ?_; (rotate_left 1; (intro w hSw; (try dsimp only at hSw); go_simp); (try with_reducible rfl)); (try simp only [Act.put, List.setIfInBounds_toArray, List.set_cons_zero, List.set_cons_succ]))
    refine wpAnyH_ready (rs := [0]) (by kernel_rfl) (by simp) ?_
    refine AllReadyH.cons rfl (fun K hK => ?_) AllReadyH.nil
    go_simp
    go_at_call 29
    refine (marksW_any _).mono ?_
    rintro e w4 ⟨bm, rfl, hbm2, kM, hb⟩
    replace hst := hst.trans (Stays.of_below hb hz)
    replace hbm := hbm.below hb
    replace hom := own_keep hom hb
    replace hbv := hbv.below hb
    replace hov := own_keep hov hb
    replace hz : L ≤ w4.heap.size := Nat.le_trans hz hb.size
    replace hkw := hkw.below hb
    replace hnr := own_keep hnr hb
    clear hb
    clear hbm2
    go_wp2_with fail
    refine hK.out _ _ ((show _ = some (encStr w0) by rw [hkw.cell 0]; rfl)) (fun hHeld => ?_)
    clear hK K
    (try simp only [Act.put, List.setIfInBounds_toArray, List.set_cons_zero, List.set_cons_succ])
    refine wpAnyH_ready (rs := [4]) (by kernel_rfl) (by simp) ?_
    refine AllReadyH.cons rfl (fun K hK => ?_) AllReadyH.nil
    go_simp
    go_at_call 41
    refine (indexS_any (some ⟨bm, 0, none⟩) 5 0 mkWs w0 _ (kM.strRow (Nat.zero_le _)) (by decide)).mono ?_
    rintro e w5 ⟨r, rfl, rfl, hix⟩
    go_wp2_with fail
    refine hK.out _ _ ((show _ = some (encStr w0) by rw [hkw.cell 0]; rfl)) (fun hHeld => ?_)
    clear hK K
    (try simp only [Act.put, List.setIfInBounds_toArray, List.set_cons_zero, List.set_cons_succ])
    (refine wpAnyH_take (i := 5) (v := ?_) (by (simp only [List.getElem?_toArray, List.getElem?_cons_succ, List.getElem?_cons_zero]; rfl)) (by kernel_rfl) (by kernel_rfl) (by kernel_rfl) (by exact fun _ _ _ h => h) (Or.inl ⟨by rfl, ?_⟩) (by assumption) ?_; (rotate_left 1; (intro w hSw; (try dsimp only at hSw); go_simp); (try with_reducible rfl)); (try simp only [Act.put, List.setIfInBounds_toArray, List.set_cons_zero, List.set_cons_succ]))
    refine wpAnyH_done (by kernel_rfl) ?_ _
    clear hix kM
    go_wp2_with fail
    all_goals exact BAD.out _ hst HOK.out
  · have hd1 : 0 < ds.length := by omega
    go_wp2_with fail
    refine (numbers_any _ _ _ ds _ (HROW.out 1 (fun _ => rfl)) (by omega) HDX.out).mono ?_
    rintro e w3 ⟨A', c', rfl, hnr, hnc, hb⟩
    generalize hnl : nmL ds = nl at *
    generalize hok : numsB ds = ok at *
    have hkw := HKW.out
    replace hst := hst.trans (Stays.of_below hb hz)
    replace hbm := hbm.below hb
    replace hom := own_keep hom hb
    replace hbv := hbv.below hb
    replace hov := own_keep hov hb
    replace hz : L ≤ w3.heap.size := Nat.le_trans hz hb.size
    replace hkw := hkw.below hb
    clear HKW HROW cw cwz
    clear hb
    go_wp2_with fail
    have hb := (Below.refl w3.heap.size w3).drew
    replace hst := hst.trans (Stays.of_below hb hz)
    replace hbm := hbm.below hb
    replace hom := own_keep hom hb
    replace hbv := hbv.below hb
    replace hov := own_keep hov hb
    replace hz : L ≤ w3.drew.heap.size := Nat.le_trans hz hb.size
    replace hkw := hkw.below hb
    replace hnr := own_keep hnr hb
    clear hb
    refine wp_region_held_drew (S := (fun w' => w'.cell? ⟨bw, 0, none⟩ = some (encStr w0))) (by kernel_rfl) ((show _ = some (encStr w0) by rw [hkw.cell 0]; rfl)) (fun hHeld => ?_)
    generalize w3.drew = wd at *
    (refine wpAnyH_take (i := 1) (v := ?_) (by (simp only [List.getElem?_toArray, List.getElem?_cons_succ, List.getElem?_cons_zero]; rfl)) (by kernel_rfl) (by kernel_rfl) (by kernel_rfl) (by exact fun _ _ _ h => h) (Or.inl ⟨by rfl, ?_⟩) (by assumption) ?_; (rotate_left 1; (intro w hSw; (try dsimp only at hSw); go_simp); (try with_reducible rfl)); (try simp only [Act.put, List.setIfInBounds_toArray, List.set_cons_zero, List.set_cons_succ]))
    (refine wpAnyH_take (i := 2) (v := ?_) (by (simp only [List.getElem?_toArray, List.getElem?_cons_succ, List.getElem?_cons_zero]; rfl)) (by kernel_rfl) (by kernel_rfl) (by kernel_rfl) (by exact fun _ _ _ h => h) (Or.inl ⟨by rfl, ?_⟩) (by assumption) ?_; (rotate_left 1; (intro w hSw; (try dsimp only at hSw); go_simp); (try with_reducible rfl)); (try simp only [Act.put, List.setIfInBounds_toArray, List.set_cons_zero, List.set_cons_succ]))
    (refine wpAnyH_take (i := 3) (v := ?_) (by (simp only [List.getElem?_toArray, List.getElem?_cons_succ, List.getElem?_cons_zero]; rfl)) (by kernel_rfl) (by kernel_rfl) (by kernel_rfl) (by exact fun _ _ _ h => h) (Or.inl ⟨by rfl, ?_⟩) (by assumption) ?_; (rotate_left 1; (intro w hSw; (try dsimp only at hSw); go_simp); (try with_reducible rfl)); (try simp only [Act.put, List.setIfInBounds_toArray, List.set_cons_zero, List.set_cons_succ]))
    refine wpAnyH_ready (rs := [0]) (by kernel_rfl) (by simp) ?_
    refine AllReadyH.cons rfl (fun K hK => ?_) AllReadyH.nil
    go_simp
    go_at_call 29
    refine (marksW_any _).mono ?_
    rintro e w4 ⟨bm, rfl, hbm2, kM, hb⟩
    replace hst := hst.trans (Stays.of_below hb hz)
    replace hbm := hbm.below hb
    replace hom := own_keep hom hb
    replace hbv := hbv.below hb
    replace hov := own_keep hov hb
    replace hz : L ≤ w4.heap.size := Nat.le_trans hz hb.size
    replace hkw := hkw.below hb
    replace hnr := own_keep hnr hb
    clear hb
    clear hbm2
    go_wp2_with fail
    refine hK.out _ _ ((show _ = some (encStr w0) by rw [hkw.cell 0]; rfl)) (fun hHeld => ?_)
    clear hK K
    (try simp only [Act.put, List.setIfInBounds_toArray, List.set_cons_zero, List.set_cons_succ])
    refine wpAnyH_ready (rs := [4]) (by kernel_rfl) (by simp) ?_
    refine AllReadyH.cons rfl (fun K hK => ?_) AllReadyH.nil
    go_simp
    go_at_call 41
    refine (indexS_any (some ⟨bm, 0, none⟩) 5 0 mkWs w0 _ (kM.strRow (Nat.zero_le _)) (by decide)).mono ?_
    rintro e w5 ⟨r, rfl, rfl, hix⟩
    go_wp2_with fail
    refine hK.out _ _ ((show _ = some (encStr w0) by rw [hkw.cell 0]; rfl)) (fun hHeld => ?_)
    clear hK K
    (try simp only [Act.put, List.setIfInBounds_toArray, List.set_cons_zero, List.set_cons_succ])
    (refine wpAnyH_take (i := 5) (v := ?_) (by (simp only [List.getElem?_toArray, List.getElem?_cons_succ, List.getElem?_cons_zero]; rfl)) (by kernel_rfl) (by kernel_rfl) (by kernel_rfl) (by exact fun _ _ _ h => h) (Or.inl ⟨by rfl, ?_⟩) (by assumption) ?_; (rotate_left 1; (intro w hSw; (try dsimp only at hSw); go_simp); (try with_reducible rfl)); (try simp only [Act.put, List.setIfInBounds_toArray, List.set_cons_zero, List.set_cons_succ]))
    refine wpAnyH_done (by kernel_rfl) ?_ _
    clear kM
    obtain ⟨hmi, hmn⟩ := mkK_idx hix
    clear hix
    have m0 := hbm.lt
    have v0 := hbv.lt
    have mf := hbm.thaw 0
    have vf := hbv.thaw 0
    obtain ⟨cm, cv⟩ : w4.cell? ⟨b1, 0, none⟩ = some (.slice A m.length c) ∧ w4.cell? ⟨b2, 0, none⟩ = some (.slice B' v.length d) := ⟨by simpa using hbm.cell 0, by simpa using hbv.cell 0⟩
    obtain ⟨cw, _⟩ : w4.cell? ⟨bw, 0, none⟩ = some (encStr w0) ∧ True := ⟨by rw [hkw.cell 0]; rfl, trivial⟩
    have cwz := hkw.lt
    cases ok with
    | false =>
      have HOK := Lib.hid (O1.out (by first | exact hok | rfl))
      clear hmi hmn O1 O2 O3 O4 hok hnl
      clear hnr hnc
      go_wp2_with fail
      all_goals exact BAD.out _ hst HOK.out
    | true =>
      have hnl2 : nl = numsV ds := by rw [← hnl]; unfold nmL; rw [hok]; rfl
      have hnlen : nl.length = ds.length := by rw [hnl2, numsV_len]
      clear hnl
      by_cases hm : w0 ∈ mkWs
      · obtain ⟨j, rfl, hmk, hj5⟩ := hmi hm
        have hns : w0 ≠ strW := (mkWs_all _ hm).2.2.2.2.2.2.1
        have e0 : (w0 == [115, 116, 114, 101, 116, 99, 104]) = false := beq_eq_false_iff_ne.2 hns
        by_cases h1 : ds.length = 1
        · obtain ⟨g1, g2, g3⟩ := O3.out (by first | exact hok | rfl) hm h1
          rw [hmk, ← hnl2] at g3
          have HOK := Lib.hid g1
          have HML := Lib.hid g2
          obtain ⟨y, rfl⟩ : ∃ y, nl = [y] := by
            match nl, hnlen.trans h1 with
            | [y], _ => exact ⟨y, rfl⟩
          rw [List.getD_cons_zero] at g3
          have HMV := Lib.hid g3
          obtain ⟨nb, no, rfl, _, hnb, cn0⟩ := (Row.of_own hnr).int_at (show 0 < [y].length from Nat.zero_lt_one)
          have cn1 : w4.cell? ⟨nb, no, none⟩ = some (.int .i64 y) := cn0
          have hwj : IntKind.i64.wrap (1 + (j : Int)) = (j : Int) + 1 := by rw [Int.add_comm]; exact IntWalk.i64_in _ ⟨by omega, by omega⟩
          have hwk : IntKind.i64.wrap ((j : Int) + 1) = (j : Int) + 1 := IntWalk.i64_in _ ⟨by omega, by omega⟩
          have hac : (1 : Int) + (j : Int) = (j : Int) + 1 := Int.add_comm _ _
          have hml : m.length ≤ 1000001 := by omega
          have hvl : v.length ≤ 1000001 := by omega
          have hk0 : (0 : Int) < (j : Int) + 1 := by omega
          clear hmi hmn O1 O2 O3 O4 hok hnl2 hnlen hm hns h1 hmk g1 g2 g3 hnc cn0 hd1 hlen
          go_wp2_with fail
          clear e0 hk0
          have hb := (Below.refl w4.heap.size w4).drew
          replace hst := hst.trans (Stays.of_below hb hz)
          replace hbm := hbm.below hb
          replace hom := own_keep hom hb
          replace hbv := hbv.below hb
          replace hov := own_keep hov hb
          replace hnr := own_keep hnr hb
          replace hz : L ≤ w4.drew.heap.size := Nat.le_trans hz hb.size
          clear hb
          clear cm cv m0 v0 mf vf cw cwz hkw
          refine wp_region_held_drew (S := (fun w' => w'.cell? ⟨nb, no, none⟩ = some (.int .i64 y))) (by kernel_rfl) (own_int hnr 0 Nat.zero_lt_one) (fun hHeld => ?_)
          have hzd : L ≤ w4.drew.heap.size := hz
          generalize w4.drew = wd at *
          (refine wpAnyH_take (i := 1) (v := ?_) (by (simp only [List.getElem?_toArray, List.getElem?_cons_succ, List.getElem?_cons_zero]; rfl)) (by kernel_rfl) (by kernel_rfl) (by kernel_rfl) (by exact fun _ _ _ h => h) (Or.inl ⟨by rfl, ?_⟩) (by assumption) ?_; (rotate_left 1; (intro w hSw; (try dsimp only at hSw); go_simp); (try with_reducible rfl)); (try simp only [Act.put, List.setIfInBounds_toArray, List.set_cons_zero, List.set_cons_succ]))
          (refine wpAnyH_take (i := 2) (v := ?_) (by (simp only [List.getElem?_toArray, List.getElem?_cons_succ, List.getElem?_cons_zero]; rfl)) (by kernel_rfl) (by kernel_rfl) (by kernel_rfl) (by exact fun _ _ _ h => h) (Or.inl ⟨by rfl, ?_⟩) (by assumption) ?_; (rotate_left 1; (intro w hSw; (try dsimp only at hSw); go_simp); (try with_reducible rfl)); (try simp only [Act.put, List.setIfInBounds_toArray, List.set_cons_zero, List.set_cons_succ]))
          (refine wpAnyH_take (i := 3) (v := ?_) (by (simp only [List.getElem?_toArray, List.getElem?_cons_succ, List.getElem?_cons_zero]; rfl)) (by kernel_rfl) (by kernel_rfl) (by kernel_rfl) (by exact fun _ _ _ h => h) (Or.inl ⟨by rfl, ?_⟩) (by assumption) ?_; (rotate_left 1; (intro w hSw; (try dsimp only at hSw); go_simp); (try with_reducible rfl)); (try simp only [Act.put, List.setIfInBounds_toArray, List.set_cons_zero, List.set_cons_succ]))
          (refine wpAnyH_take (i := 4) (v := ?_) (by (simp only [List.getElem?_toArray, List.getElem?_cons_succ, List.getElem?_cons_zero]; rfl)) (by kernel_rfl) (by kernel_rfl) (by kernel_rfl) (by exact fun _ _ _ h => h) (Or.inl ⟨by rfl, ?_⟩) (by assumption) ?_; (rotate_left 1; (intro w hSw; (try dsimp only at hSw); go_simp); (try with_reducible rfl)); (try simp only [Act.put, List.setIfInBounds_toArray, List.set_cons_zero, List.set_cons_succ]))
          (refine wpAnyH_take (i := 5) (v := ?_) (by (simp only [List.getElem?_toArray, List.getElem?_cons_succ, List.getElem?_cons_zero]; rfl)) (by kernel_rfl) (by kernel_rfl) (by kernel_rfl) (by exact fun _ _ _ h => h) (Or.inl ⟨by rfl, ?_⟩) (by assumption) ?_; (rotate_left 1; (intro w hSw; (try dsimp only at hSw); go_simp); (try with_reducible rfl)); (try simp only [Act.put, List.setIfInBounds_toArray, List.set_cons_zero, List.set_cons_succ]))
          (refine wpAnyH_take (i := 6) (v := ?_) (by (simp only [List.getElem?_toArray, List.getElem?_cons_succ, List.getElem?_cons_zero]; rfl)) (by kernel_rfl) (by kernel_rfl) (by kernel_rfl) (by exact fun _ _ _ h => h) (Or.inl ⟨by rfl, ?_⟩) (by assumption) ?_; (rotate_left 1; (intro w hSw; (try dsimp only at hSw); go_simp); (try with_reducible rfl)); (try simp only [Act.put, List.setIfInBounds_toArray, List.set_cons_zero, List.set_cons_succ]))
          refine wpAnyH_ready (rs := [0, 7]) (by kernel_rfl) (by simp) ?_
          refine AllReadyH.cons rfl (fun K hK => ?_) (AllReadyH.cons rfl (fun K hK => ?_) AllReadyH.nil)
          case refine_1 =>
            have m0 := hbm.lt
            obtain ⟨cm, _⟩ : wd.cell? ⟨b1, 0, none⟩ = some (.slice A m.length c) ∧ True := ⟨by simpa using hbm.cell 0, trivial⟩
            go_simp
            clear m0 cm
            refine hK.out _ _ (own_int hnr 0 Nat.zero_lt_one) (fun hHeld => ?_)
            clear hK K
            (try simp only [Act.put, List.setIfInBounds_toArray, List.set_cons_zero, List.set_cons_succ])
            refine wpAnyH_ready (rs := [7]) (by kernel_rfl) (by simp) ?_
            refine AllReadyH.cons rfl (fun K hK => ?_) AllReadyH.nil
            go_simp
            have hb := (Below.refl wd.heap.size wd).alloc (Nat.le_refl _) (.cells #[.int .i64 y, .int .i64 ((j : Int) + 1)] 45)
            replace hst := hst.trans (Stays.of_below hb hz)
            replace hbm := hbm.below hb
            replace hom := own_keep hom hb
            replace hbv := hbv.below hb
            replace hov := own_keep hov hb
            replace hnr := own_keep hnr hb
            replace hz : L ≤ (wd.alloc (.cells #[.int .i64 y, .int .i64 ((j : Int) + 1)] 45)).heap.size := Nat.le_trans hz hb.size
            clear hb
            have hnw : Row (wd.alloc (.cells #[.int .i64 y, .int .i64 ((j : Int) + 1)] 45)) wd.heap.size 2 (some ⟨wd.heap.size, 0, none⟩) 1 [.int .i64 y, .int .i64 ((j : Int) + 1)] := row_new _ _ _ _ _ _ (Nat.le_refl _) rfl
            generalize wd.alloc (.cells #[.int .i64 y, .int .i64 ((j : Int) + 1)] 45) = w6 at *
            refine hK.out _ _ (own_int hnr 0 Nat.zero_lt_one) (fun hHeld => ?_)
            clear hK K
            (try simp only [Act.put, List.setIfInBounds_toArray, List.set_cons_zero, List.set_cons_succ])
            refine wpAnyH_ready (rs := [8]) (by kernel_rfl) (by simp) ?_
            refine AllReadyH.cons rfl (fun K hK => ?_) AllReadyH.nil
            refine step_app (lo := L) (base := L) (n := m.length) (xs := prs m) _ rfl _ _ ty_mks rfl hom rfl (hnw.weak hzd) rfl rfl (by omega) (by omega) hz ?_
            intro A5 c5 w7 hown5 hg5 _
            have hkd := own_kindOf hom
            have kbm := hbm.otherOf hg5 hkd (by decide)
            have kbv := hbv.otherOf hg5 hkd (by decide)
            replace hnr := own_otherOf hnr hg5 hkd (by decide)
            have hst7 := hst.grown hg5 hz (fun q hq => (hom.lt q hq).1)
            clear hkd hst hz
            refine hK.out _ _ (own_int hnr 0 Nat.zero_lt_one) (fun hHeld => ?_)
            clear hK K
            (try simp only [Act.put, List.setIfInBounds_toArray, List.set_cons_zero, List.set_cons_succ])
            refine wpAnyH_ready (rs := [9]) (by kernel_rfl) (by simp) ?_
            refine AllReadyH.cons rfl (fun K hK => ?_) AllReadyH.nil
            have pz := kbm.lt
            have pf := kbm.thaw 0
            obtain ⟨pc, _⟩ : w7.cell? ⟨b1, 0, none⟩ = some (.slice A m.length c) ∧ True := ⟨by simpa using kbm.cell 0, trivial⟩
            go_simp
            clear pz pf pc
            replace hnr := own_past hnr kbm (by decide) 0 (.slice A5 (m.length + 1) c5)
            refine hK.out _ _ (own_int hnr 0 Nat.zero_lt_one) (fun hHeld => ?_)
            clear hK K
            (try simp only [Act.put, List.setIfInBounds_toArray, List.set_cons_zero, List.set_cons_succ])
            refine wpAnyH_done (by kernel_rfl) ?_ _
            have hsf := Stays.set hst7 (p := ⟨b1, 0, none⟩) (.inl (by simp)) (.slice A5 (m.length + 1) c5)
            have hR := VdRd.pushM Hb1 Hb2 Hne HVM.out hbm hom hbv hov hg5 HML.out HMV.out hown5
            clear hnr hst7 kbm kbv hbm hbv hom hov hg5 hown5
            go_wp2_with fail
            exact GOOD.out _ hsf HOK.out hR
          case refine_2 =>
            go_simp
            have hb := (Below.refl wd.heap.size wd).alloc (Nat.le_refl _) (.cells #[.int .i64 y, .int .i64 ((j : Int) + 1)] 45)
            replace hst := hst.trans (Stays.of_below hb hz)
            replace hbm := hbm.below hb
            replace hom := own_keep hom hb
            replace hbv := hbv.below hb
            replace hov := own_keep hov hb
            replace hnr := own_keep hnr hb
            replace hz : L ≤ (wd.alloc (.cells #[.int .i64 y, .int .i64 ((j : Int) + 1)] 45)).heap.size := Nat.le_trans hz hb.size
            clear hb
            have hnw : Row (wd.alloc (.cells #[.int .i64 y, .int .i64 ((j : Int) + 1)] 45)) wd.heap.size 2 (some ⟨wd.heap.size, 0, none⟩) 1 [.int .i64 y, .int .i64 ((j : Int) + 1)] := row_new _ _ _ _ _ _ (Nat.le_refl _) rfl
            generalize wd.alloc (.cells #[.int .i64 y, .int .i64 ((j : Int) + 1)] 45) = w6 at *
            refine hK.out _ _ (own_int hnr 0 Nat.zero_lt_one) (fun hHeld => ?_)
            clear hK K
            (try simp only [Act.put, List.setIfInBounds_toArray, List.set_cons_zero, List.set_cons_succ])
            refine wpAnyH_ready (rs := [0]) (by kernel_rfl) (by simp) ?_
            refine AllReadyH.cons rfl (fun K hK => ?_) AllReadyH.nil
            have m0 := hbm.lt
            obtain ⟨cm, _⟩ : w6.cell? ⟨b1, 0, none⟩ = some (.slice A m.length c) ∧ True := ⟨by simpa using hbm.cell 0, trivial⟩
            go_simp
            clear m0 cm
            refine hK.out _ _ (own_int hnr 0 Nat.zero_lt_one) (fun hHeld => ?_)
            clear hK K
            (try simp only [Act.put, List.setIfInBounds_toArray, List.set_cons_zero, List.set_cons_succ])
            refine wpAnyH_ready (rs := [8]) (by kernel_rfl) (by simp) ?_
            refine AllReadyH.cons rfl (fun K hK => ?_) AllReadyH.nil
            refine step_app (lo := L) (base := L) (n := m.length) (xs := prs m) _ rfl _ _ ty_mks rfl hom rfl (hnw.weak hzd) rfl rfl (by omega) (by omega) hz ?_
            intro A5 c5 w7 hown5 hg5 _
            have hkd := own_kindOf hom
            have kbm := hbm.otherOf hg5 hkd (by decide)
            have kbv := hbv.otherOf hg5 hkd (by decide)
            replace hnr := own_otherOf hnr hg5 hkd (by decide)
            have hst7 := hst.grown hg5 hz (fun q hq => (hom.lt q hq).1)
            clear hkd hst hz
            refine hK.out _ _ (own_int hnr 0 Nat.zero_lt_one) (fun hHeld => ?_)
            clear hK K
            (try simp only [Act.put, List.setIfInBounds_toArray, List.set_cons_zero, List.set_cons_succ])
            refine wpAnyH_ready (rs := [9]) (by kernel_rfl) (by simp) ?_
            refine AllReadyH.cons rfl (fun K hK => ?_) AllReadyH.nil
            have pz := kbm.lt
            have pf := kbm.thaw 0
            obtain ⟨pc, _⟩ : w7.cell? ⟨b1, 0, none⟩ = some (.slice A m.length c) ∧ True := ⟨by simpa using kbm.cell 0, trivial⟩
            go_simp
            clear pz pf pc
            replace hnr := own_past hnr kbm (by decide) 0 (.slice A5 (m.length + 1) c5)
            refine hK.out _ _ (own_int hnr 0 Nat.zero_lt_one) (fun hHeld => ?_)
            clear hK K
            (try simp only [Act.put, List.setIfInBounds_toArray, List.set_cons_zero, List.set_cons_succ])
            refine wpAnyH_done (by kernel_rfl) ?_ _
            have hsf := Stays.set hst7 (p := ⟨b1, 0, none⟩) (.inl (by simp)) (.slice A5 (m.length + 1) c5)
            have hR := VdRd.pushM Hb1 Hb2 Hne HVM.out hbm hom hbv hov hg5 HML.out HMV.out hown5
            clear hnr hst7 kbm kbv hbm hbv hom hov hg5 hown5
            go_wp2_with fail
            exact GOOD.out _ hsf HOK.out hR
        · have HOK := Lib.hid (O2.out (fun h => h1 h.2) (fun h => hns h.1))
          have hn1 : ((nl.length : Int) == 1) = false := by rw [beq_eq_false_iff_ne]; omega
          clear hmi hmn O1 O2 O3 O4 hok hnl2 hnlen hm hns h1 hmk
          clear hnr hnc
          go_wp2_with fail
          all_goals exact BAD.out _ hst HOK.out
      · have hr := hmn hm
        subst hr
        by_cases hs : w0 = strW
        · have e0 : (w0 == [115, 116, 114, 101, 116, 99, 104]) = true := by rw [hs]; decide
          by_cases h3 : ds.length = 3
          · have hn3 : ((nl.length : Int) == 3) = true := by rw [beq_iff_eq]; omega
            by_cases hm0 : m.length = 0
            · obtain ⟨g1, g2, g3⟩ := O4.out (by first | exact hok | rfl) hs h3 hm0
              rw [← hnl2] at g3
              have HOK := Lib.hid g1
              have HML := Lib.hid g2
              obtain ⟨y, z, u, rfl⟩ : ∃ y z u, nl = [y, z, u] := by
                match nl, hnlen.trans h3 with
                | [y, z, u], _ => exact ⟨y, z, u, rfl⟩
              have HMV : Hid (stLV (lnW t k) = (y, z, u)) := Lib.hid g3
              obtain ⟨nb, no, rfl, _, hnb, _⟩ := (Row.of_own hnr).int_at (show 0 < [y, z, u].length by simp)
              have cn1 : w4.cell? ⟨nb, no, none⟩ = some (.int .i64 y) := own_int hnr 0 (by simp)
              have cn2 : w4.cell? ⟨nb, no + 1, none⟩ = some (.int .i64 z) := own_int hnr 1 (by simp)
              have cn3 : w4.cell? ⟨nb, no + 2, none⟩ = some (.int .i64 u) := own_int hnr 2 (by simp)
              have hmz : ¬ (0 : Int) < (m.length : Int) := by omega
              have hml : m.length ≤ 1000001 := by omega
              have hvl : v.length ≤ 1000001 := by omega
              clear hmi hmn O1 O2 O3 O4 hok hnl2 hnlen hm hs h3 hm0 g1 g2 g3 hnc hn3 hd1 hlen
              go_wp2_with fail
              have hb := (Below.refl w4.heap.size w4).drew
              replace hst := hst.trans (Stays.of_below hb hz)
              replace hbm := hbm.below hb
              replace hom := own_keep hom hb
              replace hbv := hbv.below hb
              replace hov := own_keep hov hb
              replace hnr := own_keep hnr hb
              replace hz : L ≤ w4.drew.heap.size := Nat.le_trans hz hb.size
              clear hb
              clear cm cv m0 v0 mf vf cw cwz hkw
              refine wp_region_held_drew (S := (fun w' => w'.cell? ⟨nb, no, none⟩ = some (.int .i64 y) ∧ w'.cell? ⟨nb, no + 1, none⟩ = some (.int .i64 z) ∧ w'.cell? ⟨nb, no + 2, none⟩ = some (.int .i64 u))) (by kernel_rfl) (⟨own_int hnr 0 (by simp), own_int hnr 1 (by simp), own_int hnr 2 (by simp)⟩) (fun hHeld => ?_)
              have hzd : L ≤ w4.drew.heap.size := hz
              generalize w4.drew = wd at *
              (refine wpAnyH_take (i := 1) (v := ?_) (by (simp only [List.getElem?_toArray, List.getElem?_cons_succ, List.getElem?_cons_zero]; rfl)) (by kernel_rfl) (by kernel_rfl) (by kernel_rfl) (by exact fun _ _ _ h => h) (Or.inl ⟨by rfl, ?_⟩) (by assumption) ?_; (rotate_left 1; (intro w hSw; (try dsimp only at hSw); go_simp); (try with_reducible rfl)); (try simp only [Act.put, List.setIfInBounds_toArray, List.set_cons_zero, List.set_cons_succ]))
              (refine wpAnyH_take (i := 2) (v := ?_) (by (simp only [List.getElem?_toArray, List.getElem?_cons_succ, List.getElem?_cons_zero]; rfl)) (by kernel_rfl) (by kernel_rfl) (by kernel_rfl) (by exact fun _ _ _ h => h) (Or.inl ⟨by rfl, ?_⟩) (by assumption) ?_; (rotate_left 1; (intro w hSw; (try dsimp only at hSw); go_simp); (try with_reducible rfl)); (try simp only [Act.put, List.setIfInBounds_toArray, List.set_cons_zero, List.set_cons_succ]))
              (refine wpAnyH_take (i := 3) (v := ?_) (by (simp only [List.getElem?_toArray, List.getElem?_cons_succ, List.getElem?_cons_zero]; rfl)) (by kernel_rfl) (by kernel_rfl) (by kernel_rfl) (by exact fun _ _ _ h => h) (Or.inl ⟨by rfl, ?_⟩) (by assumption) ?_; (rotate_left 1; (intro w hSw; (try dsimp only at hSw); go_simp); (try with_reducible rfl)); (try simp only [Act.put, List.setIfInBounds_toArray, List.set_cons_zero, List.set_cons_succ]))
              (refine wpAnyH_take (i := 4) (v := ?_) (by (simp only [List.getElem?_toArray, List.getElem?_cons_succ, List.getElem?_cons_zero]; rfl)) (by kernel_rfl) (by kernel_rfl) (by kernel_rfl) (by exact fun _ _ _ h => h) (Or.inl ⟨by rfl, ?_⟩) (by assumption) ?_; (rotate_left 1; (intro w hSw; (try dsimp only at hSw); go_simp); (try with_reducible rfl)); (try simp only [Act.put, List.setIfInBounds_toArray, List.set_cons_zero, List.set_cons_succ]))
              (refine wpAnyH_take (i := 5) (v := ?_) (by (simp only [List.getElem?_toArray, List.getElem?_cons_succ, List.getElem?_cons_zero]; rfl)) (by kernel_rfl) (by kernel_rfl) (by kernel_rfl) (by exact fun _ _ _ h => h) (Or.inl ⟨by rfl, ?_⟩) (by assumption) ?_; (rotate_left 1; (intro w hSw; (try dsimp only at hSw); go_simp); (try with_reducible rfl)); (try simp only [Act.put, List.setIfInBounds_toArray, List.set_cons_zero, List.set_cons_succ]))
              (refine wpAnyH_take (i := 6) (v := ?_) (by (simp only [List.getElem?_toArray, List.getElem?_cons_succ, List.getElem?_cons_zero]; rfl)) (by kernel_rfl) (by kernel_rfl) (by kernel_rfl) (by exact fun _ _ _ h => h) (Or.inl ⟨by rfl, ?_⟩) (by assumption) ?_; (rotate_left 1; (intro w hSw; (try dsimp only at hSw); go_simp); (try with_reducible rfl)); (try simp only [Act.put, List.setIfInBounds_toArray, List.set_cons_zero, List.set_cons_succ]))
              (refine wpAnyH_take (i := 7) (v := ?_) (by (simp only [List.getElem?_toArray, List.getElem?_cons_succ, List.getElem?_cons_zero]; rfl)) (by kernel_rfl) (by kernel_rfl) (by kernel_rfl) (by exact fun _ _ _ h => h) (Or.inl ⟨by rfl, ?_⟩) (by assumption) ?_; (rotate_left 1; (intro w hSw; (try dsimp only at hSw); go_simp); (try with_reducible rfl)); (try simp only [Act.put, List.setIfInBounds_toArray, List.set_cons_zero, List.set_cons_succ]))
              (refine wpAnyH_take (i := 8) (v := ?_) (by (simp only [List.getElem?_toArray, List.getElem?_cons_succ, List.getElem?_cons_zero]; rfl)) (by kernel_rfl) (by kernel_rfl) (by kernel_rfl) (by exact fun _ _ _ h => h) (Or.inl ⟨by rfl, ?_⟩) (by assumption) ?_; (rotate_left 1; (intro w hSw; (try dsimp only at hSw); go_simp); (try with_reducible rfl)); (try simp only [Act.put, List.setIfInBounds_toArray, List.set_cons_zero, List.set_cons_succ]))
              (refine wpAnyH_take (i := 9) (v := ?_) (by (simp only [List.getElem?_toArray, List.getElem?_cons_succ, List.getElem?_cons_zero]; rfl)) (by kernel_rfl) (by kernel_rfl) (by kernel_rfl) (by exact fun _ _ _ h => h) (Or.inl ⟨by rfl, ?_⟩) (by assumption) ?_; (rotate_left 1; (intro w hSw; (try dsimp only at hSw); go_simp); (try with_reducible rfl)); (try simp only [Act.put, List.setIfInBounds_toArray, List.set_cons_zero, List.set_cons_succ]))
              (refine wpAnyH_take (i := 10) (v := ?_) (by (simp only [List.getElem?_toArray, List.getElem?_cons_succ, List.getElem?_cons_zero]; rfl)) (by kernel_rfl) (by kernel_rfl) (by kernel_rfl) (by exact fun _ _ _ h => h) (Or.inl ⟨by rfl, ?_⟩) (by assumption) ?_; (rotate_left 1; (intro w hSw; (try dsimp only at hSw); go_simp); (try with_reducible rfl)); (try simp only [Act.put, List.setIfInBounds_toArray, List.set_cons_zero, List.set_cons_succ]))
              (refine wpAnyH_take (i := 11) (v := ?_) (by (simp only [List.getElem?_toArray, List.getElem?_cons_succ, List.getElem?_cons_zero]; rfl)) (by kernel_rfl) (by kernel_rfl) (by kernel_rfl) (by exact fun _ _ _ h => h) (Or.inl ⟨by rfl, ?_⟩) (by assumption) ?_; (rotate_left 1; (intro w hSw; (try dsimp only at hSw); go_simp); (try with_reducible rfl)); (try simp only [Act.put, List.setIfInBounds_toArray, List.set_cons_zero, List.set_cons_succ]))
              refine wpAnyH_ready (rs := [0, 12]) (by kernel_rfl) (by simp) ?_
              refine AllReadyH.cons rfl (fun K hK => ?_) (AllReadyH.cons rfl (fun K hK => ?_) AllReadyH.nil)
              case refine_1 =>
                have m0 := hbv.lt
                obtain ⟨cm, _⟩ : wd.cell? ⟨b2, 0, none⟩ = some (.slice B' v.length d) ∧ True := ⟨by simpa using hbv.cell 0, trivial⟩
                go_simp
                clear m0 cm
                refine hK.out _ _ (⟨own_int hnr 0 (by simp), own_int hnr 1 (by simp), own_int hnr 2 (by simp)⟩) (fun hHeld => ?_)
                clear hK K
                (try simp only [Act.put, List.setIfInBounds_toArray, List.set_cons_zero, List.set_cons_succ])
                refine wpAnyH_ready (rs := [12]) (by kernel_rfl) (by simp) ?_
                refine AllReadyH.cons rfl (fun K hK => ?_) AllReadyH.nil
                go_simp
                have hb := (Below.refl wd.heap.size wd).alloc (Nat.le_refl _) (.cells #[.int .i64 y, .int .i64 z, .int .i64 u] 42)
                replace hst := hst.trans (Stays.of_below hb hz)
                replace hbm := hbm.below hb
                replace hom := own_keep hom hb
                replace hbv := hbv.below hb
                replace hov := own_keep hov hb
                replace hnr := own_keep hnr hb
                replace hz : L ≤ (wd.alloc (.cells #[.int .i64 y, .int .i64 z, .int .i64 u] 42)).heap.size := Nat.le_trans hz hb.size
                clear hb
                have hnw : Row (wd.alloc (.cells #[.int .i64 y, .int .i64 z, .int .i64 u] 42)) wd.heap.size 3 (some ⟨wd.heap.size, 0, none⟩) 1 [.int .i64 y, .int .i64 z, .int .i64 u] := row_new _ _ _ _ _ _ (Nat.le_refl _) rfl
                generalize wd.alloc (.cells #[.int .i64 y, .int .i64 z, .int .i64 u] 42) = w6 at *
                refine hK.out _ _ (⟨own_int hnr 0 (by simp), own_int hnr 1 (by simp), own_int hnr 2 (by simp)⟩) (fun hHeld => ?_)
                clear hK K
                (try simp only [Act.put, List.setIfInBounds_toArray, List.set_cons_zero, List.set_cons_succ])
                refine wpAnyH_ready (rs := [13]) (by kernel_rfl) (by simp) ?_
                refine AllReadyH.cons rfl (fun K hK => ?_) AllReadyH.nil
                refine step_app (lo := L) (base := L) (n := v.length) (xs := trs v) _ rfl _ _ ty_trs rfl hov rfl (hnw.weak hzd) rfl rfl (by omega) (by omega) hz ?_
                intro A5 c5 w7 hown5 hg5 _
                have hkd := own_kindOf hov
                have kbm := hbm.otherOf hg5 hkd (by decide)
                have kbv := hbv.otherOf hg5 hkd (by decide)
                replace hnr := own_otherOf hnr hg5 hkd (by decide)
                have hst7 := hst.grown hg5 hz (fun q hq => (hov.lt q hq).1)
                clear hkd hst hz
                refine hK.out _ _ (⟨own_int hnr 0 (by simp), own_int hnr 1 (by simp), own_int hnr 2 (by simp)⟩) (fun hHeld => ?_)
                clear hK K
                (try simp only [Act.put, List.setIfInBounds_toArray, List.set_cons_zero, List.set_cons_succ])
                refine wpAnyH_ready (rs := [14]) (by kernel_rfl) (by simp) ?_
                refine AllReadyH.cons rfl (fun K hK => ?_) AllReadyH.nil
                have pz := kbv.lt
                have pf := kbv.thaw 0
                obtain ⟨pc, _⟩ : w7.cell? ⟨b2, 0, none⟩ = some (.slice B' v.length d) ∧ True := ⟨by simpa using kbv.cell 0, trivial⟩
                go_simp
                clear pz pf pc
                replace hnr := own_past hnr kbv (by decide) 0 (.slice A5 (v.length + 1) c5)
                refine hK.out _ _ (⟨own_int hnr 0 (by simp), own_int hnr 1 (by simp), own_int hnr 2 (by simp)⟩) (fun hHeld => ?_)
                clear hK K
                (try simp only [Act.put, List.setIfInBounds_toArray, List.set_cons_zero, List.set_cons_succ])
                refine wpAnyH_done (by kernel_rfl) ?_ _
                have hsf := Stays.set hst7 (p := ⟨b2, 0, none⟩) (.inl (by simp)) (.slice A5 (v.length + 1) c5)
                have hR := VdRd.pushS Hb1 Hb2 Hne HVM.out hbm hom hbv hov hg5 HML.out HMV.out hown5
                clear hnr hst7 kbm kbv hbm hbv hom hov hg5 hown5
                go_wp2_with fail
                exact GOOD.out _ hsf HOK.out hR
              case refine_2 =>
                go_simp
                have hb := (Below.refl wd.heap.size wd).alloc (Nat.le_refl _) (.cells #[.int .i64 y, .int .i64 z, .int .i64 u] 42)
                replace hst := hst.trans (Stays.of_below hb hz)
                replace hbm := hbm.below hb
                replace hom := own_keep hom hb
                replace hbv := hbv.below hb
                replace hov := own_keep hov hb
                replace hnr := own_keep hnr hb
                replace hz : L ≤ (wd.alloc (.cells #[.int .i64 y, .int .i64 z, .int .i64 u] 42)).heap.size := Nat.le_trans hz hb.size
                clear hb
                have hnw : Row (wd.alloc (.cells #[.int .i64 y, .int .i64 z, .int .i64 u] 42)) wd.heap.size 3 (some ⟨wd.heap.size, 0, none⟩) 1 [.int .i64 y, .int .i64 z, .int .i64 u] := row_new _ _ _ _ _ _ (Nat.le_refl _) rfl
                generalize wd.alloc (.cells #[.int .i64 y, .int .i64 z, .int .i64 u] 42) = w6 at *
                refine hK.out _ _ (⟨own_int hnr 0 (by simp), own_int hnr 1 (by simp), own_int hnr 2 (by simp)⟩) (fun hHeld => ?_)
                clear hK K
                (try simp only [Act.put, List.setIfInBounds_toArray, List.set_cons_zero, List.set_cons_succ])
                refine wpAnyH_ready (rs := [0]) (by kernel_rfl) (by simp) ?_
                refine AllReadyH.cons rfl (fun K hK => ?_) AllReadyH.nil
                have m0 := hbv.lt
                obtain ⟨cm, _⟩ : w6.cell? ⟨b2, 0, none⟩ = some (.slice B' v.length d) ∧ True := ⟨by simpa using hbv.cell 0, trivial⟩
                go_simp
                clear m0 cm
                refine hK.out _ _ (⟨own_int hnr 0 (by simp), own_int hnr 1 (by simp), own_int hnr 2 (by simp)⟩) (fun hHeld => ?_)
                clear hK K
                (try simp only [Act.put, List.setIfInBounds_toArray, List.set_cons_zero, List.set_cons_succ])
                refine wpAnyH_ready (rs := [13]) (by kernel_rfl) (by simp) ?_
                refine AllReadyH.cons rfl (fun K hK => ?_) AllReadyH.nil
                refine step_app (lo := L) (base := L) (n := v.length) (xs := trs v) _ rfl _ _ ty_trs rfl hov rfl (hnw.weak hzd) rfl rfl (by omega) (by omega) hz ?_
                intro A5 c5 w7 hown5 hg5 _
                have hkd := own_kindOf hov
                have kbm := hbm.otherOf hg5 hkd (by decide)
                have kbv := hbv.otherOf hg5 hkd (by decide)
                replace hnr := own_otherOf hnr hg5 hkd (by decide)
                have hst7 := hst.grown hg5 hz (fun q hq => (hov.lt q hq).1)
                clear hkd hst hz
                refine hK.out _ _ (⟨own_int hnr 0 (by simp), own_int hnr 1 (by simp), own_int hnr 2 (by simp)⟩) (fun hHeld => ?_)
                clear hK K
                (try simp only [Act.put, List.setIfInBounds_toArray, List.set_cons_zero, List.set_cons_succ])
                refine wpAnyH_ready (rs := [14]) (by kernel_rfl) (by simp) ?_
                refine AllReadyH.cons rfl (fun K hK => ?_) AllReadyH.nil
                have pz := kbv.lt
                have pf := kbv.thaw 0
                obtain ⟨pc, _⟩ : w7.cell? ⟨b2, 0, none⟩ = some (.slice B' v.length d) ∧ True := ⟨by simpa using kbv.cell 0, trivial⟩
                go_simp
                clear pz pf pc
                replace hnr := own_past hnr kbv (by decide) 0 (.slice A5 (v.length + 1) c5)
                refine hK.out _ _ (⟨own_int hnr 0 (by simp), own_int hnr 1 (by simp), own_int hnr 2 (by simp)⟩) (fun hHeld => ?_)
                clear hK K
                (try simp only [Act.put, List.setIfInBounds_toArray, List.set_cons_zero, List.set_cons_succ])
                refine wpAnyH_done (by kernel_rfl) ?_ _
                have hsf := Stays.set hst7 (p := ⟨b2, 0, none⟩) (.inl (by simp)) (.slice A5 (v.length + 1) c5)
                have hR := VdRd.pushS Hb1 Hb2 Hne HVM.out hbm hom hbv hov hg5 HML.out HMV.out hown5
                clear hnr hst7 kbm kbv hbm hbv hom hov hg5 hown5
                go_wp2_with fail
                exact GOOD.out _ hsf HOK.out hR
            · have HOK := Lib.hid (O2.out (fun h => hm h.1) (fun h => hm0 h.2.2))
              have hmp : (0 : Int) < (m.length : Int) := by omega
              clear hmi hmn O1 O2 O3 O4 hok hnl2 hnlen hm hs h3 hm0
              clear hnr hnc
              go_wp2_with fail
              all_goals exact BAD.out _ hst HOK.out
          · have HOK := Lib.hid (O2.out (fun h => hm h.1) (fun h => h3 h.2.1))
            have hn3 : ((nl.length : Int) == 3) = false := by rw [beq_eq_false_iff_ne]; omega
            have hn4 : ((nl.length : Int) != 3) = true := by rw [bne_iff_ne]; omega
            clear hmi hmn O1 O2 O3 O4 hok hnl2 hnlen hm hs h3
            clear hnr hnc
            go_wp2_with fail
            all_goals exact BAD.out _ hst HOK.out
        · have HOK := Lib.hid (O2.out (fun h => hm h.1) (fun h => hs h.1))
          have e0 : (w0 == [115, 116, 114, 101, 116, 99, 104]) = false := beq_eq_false_iff_ne.2 hs
          clear hmi hmn O1 O2 O3 O4 hok hnl2 hnlen hm hs
          clear hnr hnc
          go_wp2_with fail
          all_goals exact BAD.out _ hst HOK.out
end Go.Proofs.YtlinbaojkmcbeaaGreatDoor
/- The walk of splitref1.VideoRead's closure: the same lines, the same stretches and marks. -/
namespace Go.Proofs.YtlinbaojkmcbeaaGreatDoor
set_option linter.unusedVariables false
set_option linter.unusedSimpArgs false
open Go.RowKit Go.Sort

theorem row_off1 {w : World} {b : Nat} {x : List UInt8} {ss : List (List UInt8)} (h : Blk w b 9 (strs (x :: ss)).toArray) : Row w 0 1 (some ⟨b, 1, none⟩) ss.length (strs ss) := by
  refine ⟨by rw [strs_len, Nat.mul_one], fun hp => ⟨b, 1, rfl, Nat.zero_le _, h.lt, fun j u hu => ?_⟩⟩
  have := h.cell (1 + j)
  rw [this]
  have e : (strs (x :: ss)).toArray[1 + j]? = (strs ss)[j]? := by rw [Nat.add_comm]; simp [strs]
  rw [e]; exact hu
set_option maxHeartbeats 8000000 in
set_option maxRecDepth 100000 in
theorem refVd_any (t : List UInt8) (b1 b2 B L k : Nat) (W : World) (ht : t.length ≤ 1000000) (hk : k < (linesL t).length) (hL : L ≤ W.heap.size) (hE : EnvB B W) (hB1 : B ≤ b1) (hB2 : B ≤ b2) (hBL : B ≤ L) (h : VdRd t b1 b2 L k W) :
    Calls Tryz.prog 43 #[encStr (linesL t)[k], .pointer (some ⟨b1, 0, none⟩), .pointer (some ⟨b2, 0, none⟩)] W (VidLine t b1 b2 L k W) := by
  obtain ⟨Hb1, Hb2, Hne, A, B', c, d, hbm, hom, hbv, hov⟩ := h
  have hkn : k ≤ 1000001 := by have := (linesL_le t).1; omega
  have hsl : (linesL t)[k].length ≤ 1000000 := by have := (linesL_le t).2 _ (List.getElem_mem hk); omega
  have HWT := Lib.hid (lnW_at hk)
  have hcc := List.count_le_length (a := (32 : UInt8)) (l := (linesL t)[k])
  have HWL : Hid (∀ x ∈ lnW t k, x.length ≤ 1000000) := Lib.hid (fun x hx => by
    rw [HWT.out] at hx
    have := cutAt_sum 32 _ x hx; omega)
  have hwp : 0 < (lnW t k).length := by rw [HWT.out]; exact List.length_pos_iff.2 (cutAt_ne _ _)
  have hwn : (lnW t k).length ≤ 1000001 := by rw [HWT.out, cutAt_len]; omega
  have BAD : Hid (∀ W', Stays L [b1, b2] W W' → okV t k = false → VidLine t b1 b2 L k W (.returned (.bool false)) W') := Lib.hid (fun W' h1 h2 => ⟨by rw [h2], h1, fun h => by rw [h2] at h; cases h⟩)
  have GOOD : Hid (∀ W', Stays L [b1, b2] W W' → okV t k = true → VdRd t b1 b2 L (k + 1) W' → VidLine t b1 b2 L k W (.returned (.bool true)) W') := Lib.hid (fun W' h1 h2 h3 => ⟨by rw [h2], h1, fun _ => h3⟩)
  have HCW : Hid (cutAt 32 (linesL t)[k] = lnW t k) := Lib.hid HWT.out.symm
  obtain ⟨v, m, hvm⟩ : ∃ v m, vdR t k = (v, m) := ⟨_, _, rfl⟩
  have HVM := Lib.hid hvm
  have hlen := vdR_len t k
  rw [hvm] at hbm hom hbv hov hlen
  dsimp only at hbm hom hbv hov hlen
  clear hvm
  generalize hP : VidLine t b1 b2 L k W = Post at *
  clear hP
  generalize (linesL t)[k] = s at *
  have HE := Lib.hid hE
  clear hE
  go_enter Tryz.func43, Tryz.ntmps43
  go_wp2_with fail
  refine (split_any 32 s _ (by omega) HE.out.env).mono ?_
  rintro e w2 ⟨bw, rfl, hbw, hkw, hb⟩
  rw [HCW.out] at hkw
  simp only [HCW.out]
  have hst := Stays.of_below (bs := [b1, b2]) hb hL
  have hbm := hbm.below hb
  have hom := own_keep hom hb
  have hbv := hbv.below hb
  have hov := own_keep hov hb
  have HE2 := Lib.hid (HE.out.below (Below.mono hb (by omega)))
  have hz : L ≤ w2.heap.size := Nat.le_trans hL hb.size
  clear hb hbw HE
  obtain ⟨w0, ds, hws⟩ : ∃ w0 ds, lnW t k = w0 :: ds := by
    cases hq : lnW t k with
    | nil => rw [hq] at hwp; simp at hwp
    | cons a b => exact ⟨a, b, rfl⟩
  obtain ⟨o1, o2, o3, o4⟩ := okV_parts hws HVM.out
  have O1 := Lib.hid o1
  have O2 := Lib.hid o2
  have O3 := Lib.hid o3
  have O4 := Lib.hid o4
  have HDX : Hid (∀ x ∈ ds, x.length ≤ 1000000) := Lib.hid (fun x hx => HWL.out x (by rw [hws]; exact List.mem_cons_of_mem _ hx))
  have hw0l := HWL.out w0 (by rw [hws]; simp)
  rw [hws] at hkw hwn
  rw [hws]
  rw [List.length_cons] at hwn ⊢
  clear o1 o2 o3 o4 hwp HWL HCW hws
  have HKW := Lib.hid hkw
  obtain ⟨cw, _⟩ : w2.cell? ⟨bw, 0, none⟩ = some (encStr w0) ∧ True := ⟨by rw [hkw.cell 0]; rfl, trivial⟩
  have cwz := hkw.lt
  have hrow : ∀ off, (0 < ds.length → off = 1) → Row w2 0 1 (some ⟨bw, off, none⟩) ds.length (strs ds) := fun off ho => by
    refine ⟨by rw [strs_len, Nat.mul_one], fun hp => ⟨bw, off, rfl, Nat.zero_le _, hkw.lt, fun j u hu => ?_⟩⟩
    rw [ho hp]
    have := hkw.cell (1 + j)
    rw [this]
    have e : (strs (w0 :: ds)).toArray[1 + j]? = (strs ds)[j]? := by rw [Nat.add_comm]; simp [strs]
    rw [e]; exact hu
  have HROW := Lib.hid hrow
  clear hrow hkw
  have KEY : ∀ off, (0 < ds.length → off = 1) → True := fun _ _ => trivial
  clear KEY
  by_cases hd0 : ds.length = 0
  · have hdn : ds = [] := List.eq_nil_of_length_eq_zero hd0
    subst hdn
    clear hd0
    go_wp2_with fail
    refine (ints_any _ _ _ [] _ (HROW.out _ (fun h => absurd h (by simp))) (by simp) (fun x hx => by cases hx) HE2.out.env).mono ?_
    rintro e w3 ⟨A', c', rfl, hnr, hnc, hb⟩
    have HOK := Lib.hid (O2.out (fun h => absurd h.2 (by decide)) (fun h => absurd h.2.1 (by decide)))
    clear O1 O2 O3 O4
    have ne : nmL [] = [] := rfl
    have nb : numsB [] = true := rfl
    rw [ne] at hnr hnc
    rw [ne, nb]
    clear ne nb
    have hkw := HKW.out
    replace hst := hst.trans (Stays.of_below hb hz)
    replace hbm := hbm.below hb
    replace hom := own_keep hom hb
    replace hbv := hbv.below hb
    replace hov := own_keep hov hb
    replace hz : L ≤ w3.heap.size := Nat.le_trans hz hb.size
    replace hkw := hkw.below hb
    clear HKW HROW cw cwz
    clear hb
    go_wp2_with fail
    have hb := (Below.refl w3.heap.size w3).drew
    replace hst := hst.trans (Stays.of_below hb hz)
    replace hbm := hbm.below hb
    replace hom := own_keep hom hb
    replace hbv := hbv.below hb
    replace hov := own_keep hov hb
    replace hz : L ≤ w3.drew.heap.size := Nat.le_trans hz hb.size
    replace hkw := hkw.below hb
    replace hnr := own_keep hnr hb
    clear hb
    refine wp_region_held_drew (S := (fun w' => w'.cell? ⟨bw, 0, none⟩ = some (encStr w0))) (by kernel_rfl) ((show _ = some (encStr w0) by rw [hkw.cell 0]; rfl)) (fun hHeld => ?_)
    generalize w3.drew = wd at *
    (refine wpAnyH_take (i := 2) (v := ?_) (by (simp only [List.getElem?_toArray, List.getElem?_cons_succ, List.getElem?_cons_zero]; rfl)) (by kernel_rfl) (by kernel_rfl) (by kernel_rfl) (by exact fun _ _ _ h => h) (Or.inl ⟨by rfl, ?_⟩) (by assumption) ?_; (rotate_left 1; (intro w hSw; (try dsimp only at hSw); go_simp); (try with_reducible rfl)); (try simp only [Act.put, List.setIfInBounds_toArray, List.set_cons_zero, List.set_cons_succ]))
    (refine wpAnyH_take (i := 3) (v := ?_) (by (simp only [List.getElem?_toArray, List.getElem?_cons_succ, List.getElem?_cons_zero]; rfl)) (by kernel_rfl) (by kernel_rfl) (by kernel_rfl) (by exact fun _ _ _ h => h) (Or.inl ⟨by rfl, ?_⟩) (by assumption) ?_; (rotate_left 1; (intro w hSw; (try dsimp only at hSw); go_simp); (try with_reducible rfl)); (try simp only [Act.put, List.setIfInBounds_toArray, List.set_cons_zero, List.set_cons_succ]))
    (refine wpAnyH_take (i := 4) (v := ?_) (by (simp only [List.getElem?_toArray, List.getElem?_cons_succ, List.getElem?_cons_zero]; rfl)) (by kernel_rfl) (by kernel_rfl) (by kernel_rfl) (by exact fun _ _ _ h => h) (Or.inl ⟨by rfl, ?_⟩) (by assumption) ?_; (rotate_left 1; (intro w hSw; (try dsimp only at hSw); go_simp); (try with_reducible rfl)); (try simp only [Act.put, List.setIfInBounds_toArray, List.set_cons_zero, List.set_cons_succ]))
    refine wpAnyH_ready (rs := [0]) (by kernel_rfl) (by simp) ?_
    refine AllReadyH.cons rfl (fun K hK => ?_) AllReadyH.nil
    go_simp
    go_at_call 34
    refine (markWords_any _).mono ?_
    rintro e w4 ⟨bm, rfl, hbm2, kM, hb⟩
    replace hst := hst.trans (Stays.of_below hb hz)
    replace hbm := hbm.below hb
    replace hom := own_keep hom hb
    replace hbv := hbv.below hb
    replace hov := own_keep hov hb
    replace hz : L ≤ w4.heap.size := Nat.le_trans hz hb.size
    replace hkw := hkw.below hb
    replace hnr := own_keep hnr hb
    clear hb
    clear hbm2
    have kz := kM.lt
    go_wp2_with fail
    refine hK.out _ _ ((show _ = some (encStr w0) by rw [hkw.cell 0]; rfl)) (fun hHeld => ?_)
    clear hK K
    (try simp only [Act.put, List.setIfInBounds_toArray, List.set_cons_zero, List.set_cons_succ])
    (refine wpAnyH_take (i := 1) (v := ?_) (by (simp only [List.getElem?_toArray, List.getElem?_cons_succ, List.getElem?_cons_zero]; rfl)) (by kernel_rfl) (by kernel_rfl) (by kernel_rfl) (by exact fun _ _ _ h => h) (Or.inl ⟨by rfl, ?_⟩) (by assumption) ?_; (rotate_left 1; (intro w hSw; (try dsimp only at hSw); go_simp); (try with_reducible rfl)); (try simp only [Act.put, List.setIfInBounds_toArray, List.set_cons_zero, List.set_cons_succ]))
    refine wpAnyH_ready (rs := [5]) (by kernel_rfl) (by simp) ?_
    refine AllReadyH.cons rfl (fun K hK => ?_) AllReadyH.nil
    go_simp
    go_at_call 41
    refine (indexS_any (some ⟨bm, 1, none⟩) 5 0 mkWs w0 _ (row_off1 kM) (by decide)).mono ?_
    rintro e w5 ⟨r, rfl, rfl, hix⟩
    go_wp2_with fail
    refine hK.out _ _ ((show _ = some (encStr w0) by rw [hkw.cell 0]; rfl)) (fun hHeld => ?_)
    clear hK K
    (try simp only [Act.put, List.setIfInBounds_toArray, List.set_cons_zero, List.set_cons_succ])
    (refine wpAnyH_take (i := 6) (v := ?_) (by (simp only [List.getElem?_toArray, List.getElem?_cons_succ, List.getElem?_cons_zero]; rfl)) (by kernel_rfl) (by kernel_rfl) (by kernel_rfl) (by exact fun _ _ _ h => h) (Or.inl ⟨by rfl, ?_⟩) (by assumption) ?_; (rotate_left 1; (intro w hSw; (try dsimp only at hSw); go_simp); (try with_reducible rfl)); (try simp only [Act.put, List.setIfInBounds_toArray, List.set_cons_zero, List.set_cons_succ]))
    (refine wpAnyH_take (i := 7) (v := ?_) (by (simp only [List.getElem?_toArray, List.getElem?_cons_succ, List.getElem?_cons_zero]; rfl)) (by kernel_rfl) (by kernel_rfl) (by kernel_rfl) (by exact fun _ _ _ h => h) (Or.inl ⟨by rfl, ?_⟩) (by assumption) ?_; (rotate_left 1; (intro w hSw; (try dsimp only at hSw); go_simp); (try with_reducible rfl)); (try simp only [Act.put, List.setIfInBounds_toArray, List.set_cons_zero, List.set_cons_succ]))
    refine wpAnyH_done (by kernel_rfl) ?_ _
    clear kz
    clear hix kM
    go_wp2_with fail
    all_goals exact BAD.out _ hst HOK.out
  · have hd1 : 0 < ds.length := by omega
    go_wp2_with fail
    refine (ints_any _ _ _ ds _ (HROW.out 1 (fun _ => rfl)) (by omega) HDX.out HE2.out.env).mono ?_
    rintro e w3 ⟨A', c', rfl, hnr, hnc, hb⟩
    generalize hnl : nmL ds = nl at *
    generalize hok : numsB ds = ok at *
    have hkw := HKW.out
    replace hst := hst.trans (Stays.of_below hb hz)
    replace hbm := hbm.below hb
    replace hom := own_keep hom hb
    replace hbv := hbv.below hb
    replace hov := own_keep hov hb
    replace hz : L ≤ w3.heap.size := Nat.le_trans hz hb.size
    replace hkw := hkw.below hb
    clear HKW HROW cw cwz
    clear hb
    go_wp2_with fail
    have hb := (Below.refl w3.heap.size w3).drew
    replace hst := hst.trans (Stays.of_below hb hz)
    replace hbm := hbm.below hb
    replace hom := own_keep hom hb
    replace hbv := hbv.below hb
    replace hov := own_keep hov hb
    replace hz : L ≤ w3.drew.heap.size := Nat.le_trans hz hb.size
    replace hkw := hkw.below hb
    replace hnr := own_keep hnr hb
    clear hb
    refine wp_region_held_drew (S := (fun w' => w'.cell? ⟨bw, 0, none⟩ = some (encStr w0))) (by kernel_rfl) ((show _ = some (encStr w0) by rw [hkw.cell 0]; rfl)) (fun hHeld => ?_)
    generalize w3.drew = wd at *
    (refine wpAnyH_take (i := 2) (v := ?_) (by (simp only [List.getElem?_toArray, List.getElem?_cons_succ, List.getElem?_cons_zero]; rfl)) (by kernel_rfl) (by kernel_rfl) (by kernel_rfl) (by exact fun _ _ _ h => h) (Or.inl ⟨by rfl, ?_⟩) (by assumption) ?_; (rotate_left 1; (intro w hSw; (try dsimp only at hSw); go_simp); (try with_reducible rfl)); (try simp only [Act.put, List.setIfInBounds_toArray, List.set_cons_zero, List.set_cons_succ]))
    (refine wpAnyH_take (i := 3) (v := ?_) (by (simp only [List.getElem?_toArray, List.getElem?_cons_succ, List.getElem?_cons_zero]; rfl)) (by kernel_rfl) (by kernel_rfl) (by kernel_rfl) (by exact fun _ _ _ h => h) (Or.inl ⟨by rfl, ?_⟩) (by assumption) ?_; (rotate_left 1; (intro w hSw; (try dsimp only at hSw); go_simp); (try with_reducible rfl)); (try simp only [Act.put, List.setIfInBounds_toArray, List.set_cons_zero, List.set_cons_succ]))
    (refine wpAnyH_take (i := 4) (v := ?_) (by (simp only [List.getElem?_toArray, List.getElem?_cons_succ, List.getElem?_cons_zero]; rfl)) (by kernel_rfl) (by kernel_rfl) (by kernel_rfl) (by exact fun _ _ _ h => h) (Or.inl ⟨by rfl, ?_⟩) (by assumption) ?_; (rotate_left 1; (intro w hSw; (try dsimp only at hSw); go_simp); (try with_reducible rfl)); (try simp only [Act.put, List.setIfInBounds_toArray, List.set_cons_zero, List.set_cons_succ]))
    refine wpAnyH_ready (rs := [0]) (by kernel_rfl) (by simp) ?_
    refine AllReadyH.cons rfl (fun K hK => ?_) AllReadyH.nil
    go_simp
    go_at_call 34
    refine (markWords_any _).mono ?_
    rintro e w4 ⟨bm, rfl, hbm2, kM, hb⟩
    replace hst := hst.trans (Stays.of_below hb hz)
    replace hbm := hbm.below hb
    replace hom := own_keep hom hb
    replace hbv := hbv.below hb
    replace hov := own_keep hov hb
    replace hz : L ≤ w4.heap.size := Nat.le_trans hz hb.size
    replace hkw := hkw.below hb
    replace hnr := own_keep hnr hb
    clear hb
    clear hbm2
    have kz := kM.lt
    go_wp2_with fail
    refine hK.out _ _ ((show _ = some (encStr w0) by rw [hkw.cell 0]; rfl)) (fun hHeld => ?_)
    clear hK K
    (try simp only [Act.put, List.setIfInBounds_toArray, List.set_cons_zero, List.set_cons_succ])
    (refine wpAnyH_take (i := 1) (v := ?_) (by (simp only [List.getElem?_toArray, List.getElem?_cons_succ, List.getElem?_cons_zero]; rfl)) (by kernel_rfl) (by kernel_rfl) (by kernel_rfl) (by exact fun _ _ _ h => h) (Or.inl ⟨by rfl, ?_⟩) (by assumption) ?_; (rotate_left 1; (intro w hSw; (try dsimp only at hSw); go_simp); (try with_reducible rfl)); (try simp only [Act.put, List.setIfInBounds_toArray, List.set_cons_zero, List.set_cons_succ]))
    refine wpAnyH_ready (rs := [5]) (by kernel_rfl) (by simp) ?_
    refine AllReadyH.cons rfl (fun K hK => ?_) AllReadyH.nil
    go_simp
    go_at_call 41
    refine (indexS_any (some ⟨bm, 1, none⟩) 5 0 mkWs w0 _ (row_off1 kM) (by decide)).mono ?_
    rintro e w5 ⟨r, rfl, rfl, hix⟩
    go_wp2_with fail
    refine hK.out _ _ ((show _ = some (encStr w0) by rw [hkw.cell 0]; rfl)) (fun hHeld => ?_)
    clear hK K
    (try simp only [Act.put, List.setIfInBounds_toArray, List.set_cons_zero, List.set_cons_succ])
    (refine wpAnyH_take (i := 6) (v := ?_) (by (simp only [List.getElem?_toArray, List.getElem?_cons_succ, List.getElem?_cons_zero]; rfl)) (by kernel_rfl) (by kernel_rfl) (by kernel_rfl) (by exact fun _ _ _ h => h) (Or.inl ⟨by rfl, ?_⟩) (by assumption) ?_; (rotate_left 1; (intro w hSw; (try dsimp only at hSw); go_simp); (try with_reducible rfl)); (try simp only [Act.put, List.setIfInBounds_toArray, List.set_cons_zero, List.set_cons_succ]))
    (refine wpAnyH_take (i := 7) (v := ?_) (by (simp only [List.getElem?_toArray, List.getElem?_cons_succ, List.getElem?_cons_zero]; rfl)) (by kernel_rfl) (by kernel_rfl) (by kernel_rfl) (by exact fun _ _ _ h => h) (Or.inl ⟨by rfl, ?_⟩) (by assumption) ?_; (rotate_left 1; (intro w hSw; (try dsimp only at hSw); go_simp); (try with_reducible rfl)); (try simp only [Act.put, List.setIfInBounds_toArray, List.set_cons_zero, List.set_cons_succ]))
    refine wpAnyH_done (by kernel_rfl) ?_ _
    clear kz
    clear kM
    obtain ⟨hmi, hmn⟩ := mkK_idx hix
    clear hix
    have m0 := hbm.lt
    have v0 := hbv.lt
    have mf := hbm.thaw 0
    have vf := hbv.thaw 0
    obtain ⟨cm, cv⟩ : w4.cell? ⟨b1, 0, none⟩ = some (.slice A m.length c) ∧ w4.cell? ⟨b2, 0, none⟩ = some (.slice B' v.length d) := ⟨by simpa using hbm.cell 0, by simpa using hbv.cell 0⟩
    obtain ⟨cw, _⟩ : w4.cell? ⟨bw, 0, none⟩ = some (encStr w0) ∧ True := ⟨by rw [hkw.cell 0]; rfl, trivial⟩
    have cwz := hkw.lt
    cases ok with
    | false =>
      have HOK := Lib.hid (O1.out (by first | exact hok | rfl))
      clear hmi hmn O1 O2 O3 O4 hok hnl
      clear hnr hnc
      go_wp2_with fail
      all_goals exact BAD.out _ hst HOK.out
    | true =>
      have hnl2 : nl = numsV ds := by rw [← hnl]; unfold nmL; rw [hok]; rfl
      have hnlen : nl.length = ds.length := by rw [hnl2, numsV_len]
      clear hnl
      by_cases hm : w0 ∈ mkWs
      · obtain ⟨j, rfl, hmk, hj5⟩ := hmi hm
        have hns : w0 ≠ strW := (mkWs_all _ hm).2.2.2.2.2.2.1
        have e0 : (w0 == [115, 116, 114, 101, 116, 99, 104]) = false := beq_eq_false_iff_ne.2 hns
        by_cases h1 : ds.length = 1
        · obtain ⟨g1, g2, g3⟩ := O3.out (by first | exact hok | rfl) hm h1
          rw [hmk, ← hnl2] at g3
          have HOK := Lib.hid g1
          have HML := Lib.hid g2
          obtain ⟨y, rfl⟩ : ∃ y, nl = [y] := by
            match nl, hnlen.trans h1 with
            | [y], _ => exact ⟨y, rfl⟩
          rw [List.getD_cons_zero] at g3
          have HMV := Lib.hid g3
          obtain ⟨nb, no, rfl, _, hnb, cn0⟩ := (Row.of_own hnr).int_at (show 0 < [y].length from Nat.zero_lt_one)
          have cn1 : w4.cell? ⟨nb, no, none⟩ = some (.int .i64 y) := cn0
          have hwj : IntKind.i64.wrap (1 + (j : Int)) = (j : Int) + 1 := by rw [Int.add_comm]; exact IntWalk.i64_in _ ⟨by omega, by omega⟩
          have hwk : IntKind.i64.wrap ((j : Int) + 1) = (j : Int) + 1 := IntWalk.i64_in _ ⟨by omega, by omega⟩
          have hac : (1 : Int) + (j : Int) = (j : Int) + 1 := Int.add_comm _ _
          have hml : m.length ≤ 1000001 := by omega
          have hvl : v.length ≤ 1000001 := by omega
          have hk0 : (0 : Int) < (j : Int) + 1 := by omega
          clear hmi hmn O1 O2 O3 O4 hok hnl2 hnlen hm hns h1 hmk g1 g2 g3 hnc cn0 hd1 hlen
          go_wp2_with fail
          clear e0 hk0
          have hb := (Below.refl w4.heap.size w4).drew
          replace hst := hst.trans (Stays.of_below hb hz)
          replace hbm := hbm.below hb
          replace hom := own_keep hom hb
          replace hbv := hbv.below hb
          replace hov := own_keep hov hb
          replace hnr := own_keep hnr hb
          replace hz : L ≤ w4.drew.heap.size := Nat.le_trans hz hb.size
          clear hb
          clear cm cv m0 v0 mf vf cw cwz hkw
          refine wp_region_held_drew (S := (fun w' => w'.cell? ⟨nb, no, none⟩ = some (.int .i64 y))) (by kernel_rfl) (own_int hnr 0 Nat.zero_lt_one) (fun hHeld => ?_)
          have hzd : L ≤ w4.drew.heap.size := hz
          generalize w4.drew = wd at *
          (refine wpAnyH_take (i := 1) (v := ?_) (by (simp only [List.getElem?_toArray, List.getElem?_cons_succ, List.getElem?_cons_zero]; rfl)) (by kernel_rfl) (by kernel_rfl) (by kernel_rfl) (by exact fun _ _ _ h => h) (Or.inl ⟨by rfl, ?_⟩) (by assumption) ?_; (rotate_left 1; (intro w hSw; (try dsimp only at hSw); go_simp); (try with_reducible rfl)); (try simp only [Act.put, List.setIfInBounds_toArray, List.set_cons_zero, List.set_cons_succ]))
          (refine wpAnyH_take (i := 2) (v := ?_) (by (simp only [List.getElem?_toArray, List.getElem?_cons_succ, List.getElem?_cons_zero]; rfl)) (by kernel_rfl) (by kernel_rfl) (by kernel_rfl) (by exact fun _ _ _ h => h) (Or.inl ⟨by rfl, ?_⟩) (by assumption) ?_; (rotate_left 1; (intro w hSw; (try dsimp only at hSw); go_simp); (try with_reducible rfl)); (try simp only [Act.put, List.setIfInBounds_toArray, List.set_cons_zero, List.set_cons_succ]))
          (refine wpAnyH_take (i := 3) (v := ?_) (by (simp only [List.getElem?_toArray, List.getElem?_cons_succ, List.getElem?_cons_zero]; rfl)) (by kernel_rfl) (by kernel_rfl) (by kernel_rfl) (by exact fun _ _ _ h => h) (Or.inl ⟨by rfl, ?_⟩) (by assumption) ?_; (rotate_left 1; (intro w hSw; (try dsimp only at hSw); go_simp); (try with_reducible rfl)); (try simp only [Act.put, List.setIfInBounds_toArray, List.set_cons_zero, List.set_cons_succ]))
          (refine wpAnyH_take (i := 4) (v := ?_) (by (simp only [List.getElem?_toArray, List.getElem?_cons_succ, List.getElem?_cons_zero]; rfl)) (by kernel_rfl) (by kernel_rfl) (by kernel_rfl) (by exact fun _ _ _ h => h) (Or.inl ⟨by rfl, ?_⟩) (by assumption) ?_; (rotate_left 1; (intro w hSw; (try dsimp only at hSw); go_simp); (try with_reducible rfl)); (try simp only [Act.put, List.setIfInBounds_toArray, List.set_cons_zero, List.set_cons_succ]))
          (refine wpAnyH_take (i := 5) (v := ?_) (by (simp only [List.getElem?_toArray, List.getElem?_cons_succ, List.getElem?_cons_zero]; rfl)) (by kernel_rfl) (by kernel_rfl) (by kernel_rfl) (by exact fun _ _ _ h => h) (Or.inl ⟨by rfl, ?_⟩) (by assumption) ?_; (rotate_left 1; (intro w hSw; (try dsimp only at hSw); go_simp); (try with_reducible rfl)); (try simp only [Act.put, List.setIfInBounds_toArray, List.set_cons_zero, List.set_cons_succ]))
          refine wpAnyH_ready (rs := [0, 6]) (by kernel_rfl) (by simp) ?_
          refine AllReadyH.cons rfl (fun K hK => ?_) (AllReadyH.cons rfl (fun K hK => ?_) AllReadyH.nil)
          case refine_1 =>
            have m0 := hbm.lt
            obtain ⟨cm, _⟩ : wd.cell? ⟨b1, 0, none⟩ = some (.slice A m.length c) ∧ True := ⟨by simpa using hbm.cell 0, trivial⟩
            go_simp
            clear m0 cm
            refine hK.out _ _ (own_int hnr 0 Nat.zero_lt_one) (fun hHeld => ?_)
            clear hK K
            (try simp only [Act.put, List.setIfInBounds_toArray, List.set_cons_zero, List.set_cons_succ])
            refine wpAnyH_ready (rs := [6]) (by kernel_rfl) (by simp) ?_
            refine AllReadyH.cons rfl (fun K hK => ?_) AllReadyH.nil
            go_simp
            have hb := (Below.refl wd.heap.size wd).alloc (Nat.le_refl _) (.cells #[.int .i64 y, .int .i64 ((j : Int) + 1)] 45)
            replace hst := hst.trans (Stays.of_below hb hz)
            replace hbm := hbm.below hb
            replace hom := own_keep hom hb
            replace hbv := hbv.below hb
            replace hov := own_keep hov hb
            replace hnr := own_keep hnr hb
            replace hz : L ≤ (wd.alloc (.cells #[.int .i64 y, .int .i64 ((j : Int) + 1)] 45)).heap.size := Nat.le_trans hz hb.size
            clear hb
            have hnw : Row (wd.alloc (.cells #[.int .i64 y, .int .i64 ((j : Int) + 1)] 45)) wd.heap.size 2 (some ⟨wd.heap.size, 0, none⟩) 1 [.int .i64 y, .int .i64 ((j : Int) + 1)] := row_new _ _ _ _ _ _ (Nat.le_refl _) rfl
            generalize wd.alloc (.cells #[.int .i64 y, .int .i64 ((j : Int) + 1)] 45) = w6 at *
            refine hK.out _ _ (own_int hnr 0 Nat.zero_lt_one) (fun hHeld => ?_)
            clear hK K
            (try simp only [Act.put, List.setIfInBounds_toArray, List.set_cons_zero, List.set_cons_succ])
            refine wpAnyH_ready (rs := [7]) (by kernel_rfl) (by simp) ?_
            refine AllReadyH.cons rfl (fun K hK => ?_) AllReadyH.nil
            refine step_app (lo := L) (base := L) (n := m.length) (xs := prs m) _ rfl _ _ ty_mks rfl hom rfl (hnw.weak hzd) rfl rfl (by omega) (by omega) hz ?_
            intro A5 c5 w7 hown5 hg5 _
            have hkd := own_kindOf hom
            have kbm := hbm.otherOf hg5 hkd (by decide)
            have kbv := hbv.otherOf hg5 hkd (by decide)
            replace hnr := own_otherOf hnr hg5 hkd (by decide)
            have hst7 := hst.grown hg5 hz (fun q hq => (hom.lt q hq).1)
            clear hkd hst hz
            refine hK.out _ _ (own_int hnr 0 Nat.zero_lt_one) (fun hHeld => ?_)
            clear hK K
            (try simp only [Act.put, List.setIfInBounds_toArray, List.set_cons_zero, List.set_cons_succ])
            refine wpAnyH_ready (rs := [8]) (by kernel_rfl) (by simp) ?_
            refine AllReadyH.cons rfl (fun K hK => ?_) AllReadyH.nil
            have pz := kbm.lt
            have pf := kbm.thaw 0
            obtain ⟨pc, _⟩ : w7.cell? ⟨b1, 0, none⟩ = some (.slice A m.length c) ∧ True := ⟨by simpa using kbm.cell 0, trivial⟩
            go_simp
            clear pz pf pc
            replace hnr := own_past hnr kbm (by decide) 0 (.slice A5 (m.length + 1) c5)
            refine hK.out _ _ (own_int hnr 0 Nat.zero_lt_one) (fun hHeld => ?_)
            clear hK K
            (try simp only [Act.put, List.setIfInBounds_toArray, List.set_cons_zero, List.set_cons_succ])
            refine wpAnyH_done (by kernel_rfl) ?_ _
            have hsf := Stays.set hst7 (p := ⟨b1, 0, none⟩) (.inl (by simp)) (.slice A5 (m.length + 1) c5)
            have hR := VdRd.pushM Hb1 Hb2 Hne HVM.out hbm hom hbv hov hg5 HML.out HMV.out hown5
            clear hnr hst7 kbm kbv hbm hbv hom hov hg5 hown5
            go_wp2_with fail
            exact GOOD.out _ hsf HOK.out hR
          case refine_2 =>
            go_simp
            have hb := (Below.refl wd.heap.size wd).alloc (Nat.le_refl _) (.cells #[.int .i64 y, .int .i64 ((j : Int) + 1)] 45)
            replace hst := hst.trans (Stays.of_below hb hz)
            replace hbm := hbm.below hb
            replace hom := own_keep hom hb
            replace hbv := hbv.below hb
            replace hov := own_keep hov hb
            replace hnr := own_keep hnr hb
            replace hz : L ≤ (wd.alloc (.cells #[.int .i64 y, .int .i64 ((j : Int) + 1)] 45)).heap.size := Nat.le_trans hz hb.size
            clear hb
            have hnw : Row (wd.alloc (.cells #[.int .i64 y, .int .i64 ((j : Int) + 1)] 45)) wd.heap.size 2 (some ⟨wd.heap.size, 0, none⟩) 1 [.int .i64 y, .int .i64 ((j : Int) + 1)] := row_new _ _ _ _ _ _ (Nat.le_refl _) rfl
            generalize wd.alloc (.cells #[.int .i64 y, .int .i64 ((j : Int) + 1)] 45) = w6 at *
            refine hK.out _ _ (own_int hnr 0 Nat.zero_lt_one) (fun hHeld => ?_)
            clear hK K
            (try simp only [Act.put, List.setIfInBounds_toArray, List.set_cons_zero, List.set_cons_succ])
            refine wpAnyH_ready (rs := [0]) (by kernel_rfl) (by simp) ?_
            refine AllReadyH.cons rfl (fun K hK => ?_) AllReadyH.nil
            have m0 := hbm.lt
            obtain ⟨cm, _⟩ : w6.cell? ⟨b1, 0, none⟩ = some (.slice A m.length c) ∧ True := ⟨by simpa using hbm.cell 0, trivial⟩
            go_simp
            clear m0 cm
            refine hK.out _ _ (own_int hnr 0 Nat.zero_lt_one) (fun hHeld => ?_)
            clear hK K
            (try simp only [Act.put, List.setIfInBounds_toArray, List.set_cons_zero, List.set_cons_succ])
            refine wpAnyH_ready (rs := [7]) (by kernel_rfl) (by simp) ?_
            refine AllReadyH.cons rfl (fun K hK => ?_) AllReadyH.nil
            refine step_app (lo := L) (base := L) (n := m.length) (xs := prs m) _ rfl _ _ ty_mks rfl hom rfl (hnw.weak hzd) rfl rfl (by omega) (by omega) hz ?_
            intro A5 c5 w7 hown5 hg5 _
            have hkd := own_kindOf hom
            have kbm := hbm.otherOf hg5 hkd (by decide)
            have kbv := hbv.otherOf hg5 hkd (by decide)
            replace hnr := own_otherOf hnr hg5 hkd (by decide)
            have hst7 := hst.grown hg5 hz (fun q hq => (hom.lt q hq).1)
            clear hkd hst hz
            refine hK.out _ _ (own_int hnr 0 Nat.zero_lt_one) (fun hHeld => ?_)
            clear hK K
            (try simp only [Act.put, List.setIfInBounds_toArray, List.set_cons_zero, List.set_cons_succ])
            refine wpAnyH_ready (rs := [8]) (by kernel_rfl) (by simp) ?_
            refine AllReadyH.cons rfl (fun K hK => ?_) AllReadyH.nil
            have pz := kbm.lt
            have pf := kbm.thaw 0
            obtain ⟨pc, _⟩ : w7.cell? ⟨b1, 0, none⟩ = some (.slice A m.length c) ∧ True := ⟨by simpa using kbm.cell 0, trivial⟩
            go_simp
            clear pz pf pc
            replace hnr := own_past hnr kbm (by decide) 0 (.slice A5 (m.length + 1) c5)
            refine hK.out _ _ (own_int hnr 0 Nat.zero_lt_one) (fun hHeld => ?_)
            clear hK K
            (try simp only [Act.put, List.setIfInBounds_toArray, List.set_cons_zero, List.set_cons_succ])
            refine wpAnyH_done (by kernel_rfl) ?_ _
            have hsf := Stays.set hst7 (p := ⟨b1, 0, none⟩) (.inl (by simp)) (.slice A5 (m.length + 1) c5)
            have hR := VdRd.pushM Hb1 Hb2 Hne HVM.out hbm hom hbv hov hg5 HML.out HMV.out hown5
            clear hnr hst7 kbm kbv hbm hbv hom hov hg5 hown5
            go_wp2_with fail
            exact GOOD.out _ hsf HOK.out hR
        · have HOK := Lib.hid (O2.out (fun h => h1 h.2) (fun h => hns h.1))
          have hn1 : ((nl.length : Int) == 1) = false := by rw [beq_eq_false_iff_ne]; omega
          clear hmi hmn O1 O2 O3 O4 hok hnl2 hnlen hm hns h1 hmk
          clear hnr hnc
          go_wp2_with fail
          all_goals exact BAD.out _ hst HOK.out
      · have hr := hmn hm
        subst hr
        by_cases hs : w0 = strW
        · have e0 : (w0 == [115, 116, 114, 101, 116, 99, 104]) = true := by rw [hs]; decide
          by_cases h3 : ds.length = 3
          · have hn3 : ((nl.length : Int) == 3) = true := by rw [beq_iff_eq]; omega
            by_cases hm0 : m.length = 0
            · obtain ⟨g1, g2, g3⟩ := O4.out (by first | exact hok | rfl) hs h3 hm0
              rw [← hnl2] at g3
              have HOK := Lib.hid g1
              have HML := Lib.hid g2
              obtain ⟨y, z, u, rfl⟩ : ∃ y z u, nl = [y, z, u] := by
                match nl, hnlen.trans h3 with
                | [y, z, u], _ => exact ⟨y, z, u, rfl⟩
              have HMV : Hid (stLV (lnW t k) = (y, z, u)) := Lib.hid g3
              obtain ⟨nb, no, rfl, _, hnb, _⟩ := (Row.of_own hnr).int_at (show 0 < [y, z, u].length by simp)
              have cn1 : w4.cell? ⟨nb, no, none⟩ = some (.int .i64 y) := own_int hnr 0 (by simp)
              have cn2 : w4.cell? ⟨nb, no + 1, none⟩ = some (.int .i64 z) := own_int hnr 1 (by simp)
              have cn3 : w4.cell? ⟨nb, no + 2, none⟩ = some (.int .i64 u) := own_int hnr 2 (by simp)
              have hmz : ¬ (0 : Int) < (m.length : Int) := by omega
              have hml : m.length ≤ 1000001 := by omega
              have hvl : v.length ≤ 1000001 := by omega
              clear hmi hmn O1 O2 O3 O4 hok hnl2 hnlen hm hs h3 hm0 g1 g2 g3 hnc hn3 hd1 hlen
              go_wp2_with fail
              have hb := (Below.refl w4.heap.size w4).drew
              replace hst := hst.trans (Stays.of_below hb hz)
              replace hbm := hbm.below hb
              replace hom := own_keep hom hb
              replace hbv := hbv.below hb
              replace hov := own_keep hov hb
              replace hnr := own_keep hnr hb
              replace hz : L ≤ w4.drew.heap.size := Nat.le_trans hz hb.size
              clear hb
              clear cm cv m0 v0 mf vf cw cwz hkw
              refine wp_region_held_drew (S := (fun w' => w'.cell? ⟨nb, no, none⟩ = some (.int .i64 y) ∧ w'.cell? ⟨nb, no + 1, none⟩ = some (.int .i64 z) ∧ w'.cell? ⟨nb, no + 2, none⟩ = some (.int .i64 u))) (by kernel_rfl) (⟨own_int hnr 0 (by simp), own_int hnr 1 (by simp), own_int hnr 2 (by simp)⟩) (fun hHeld => ?_)
              have hzd : L ≤ w4.drew.heap.size := hz
              generalize w4.drew = wd at *
              (refine wpAnyH_take (i := 1) (v := ?_) (by (simp only [List.getElem?_toArray, List.getElem?_cons_succ, List.getElem?_cons_zero]; rfl)) (by kernel_rfl) (by kernel_rfl) (by kernel_rfl) (by exact fun _ _ _ h => h) (Or.inl ⟨by rfl, ?_⟩) (by assumption) ?_; (rotate_left 1; (intro w hSw; (try dsimp only at hSw); go_simp); (try with_reducible rfl)); (try simp only [Act.put, List.setIfInBounds_toArray, List.set_cons_zero, List.set_cons_succ]))
              (refine wpAnyH_take (i := 2) (v := ?_) (by (simp only [List.getElem?_toArray, List.getElem?_cons_succ, List.getElem?_cons_zero]; rfl)) (by kernel_rfl) (by kernel_rfl) (by kernel_rfl) (by exact fun _ _ _ h => h) (Or.inl ⟨by rfl, ?_⟩) (by assumption) ?_; (rotate_left 1; (intro w hSw; (try dsimp only at hSw); go_simp); (try with_reducible rfl)); (try simp only [Act.put, List.setIfInBounds_toArray, List.set_cons_zero, List.set_cons_succ]))
              (refine wpAnyH_take (i := 3) (v := ?_) (by (simp only [List.getElem?_toArray, List.getElem?_cons_succ, List.getElem?_cons_zero]; rfl)) (by kernel_rfl) (by kernel_rfl) (by kernel_rfl) (by exact fun _ _ _ h => h) (Or.inl ⟨by rfl, ?_⟩) (by assumption) ?_; (rotate_left 1; (intro w hSw; (try dsimp only at hSw); go_simp); (try with_reducible rfl)); (try simp only [Act.put, List.setIfInBounds_toArray, List.set_cons_zero, List.set_cons_succ]))
              (refine wpAnyH_take (i := 4) (v := ?_) (by (simp only [List.getElem?_toArray, List.getElem?_cons_succ, List.getElem?_cons_zero]; rfl)) (by kernel_rfl) (by kernel_rfl) (by kernel_rfl) (by exact fun _ _ _ h => h) (Or.inl ⟨by rfl, ?_⟩) (by assumption) ?_; (rotate_left 1; (intro w hSw; (try dsimp only at hSw); go_simp); (try with_reducible rfl)); (try simp only [Act.put, List.setIfInBounds_toArray, List.set_cons_zero, List.set_cons_succ]))
              (refine wpAnyH_take (i := 5) (v := ?_) (by (simp only [List.getElem?_toArray, List.getElem?_cons_succ, List.getElem?_cons_zero]; rfl)) (by kernel_rfl) (by kernel_rfl) (by kernel_rfl) (by exact fun _ _ _ h => h) (Or.inl ⟨by rfl, ?_⟩) (by assumption) ?_; (rotate_left 1; (intro w hSw; (try dsimp only at hSw); go_simp); (try with_reducible rfl)); (try simp only [Act.put, List.setIfInBounds_toArray, List.set_cons_zero, List.set_cons_succ]))
              (refine wpAnyH_take (i := 6) (v := ?_) (by (simp only [List.getElem?_toArray, List.getElem?_cons_succ, List.getElem?_cons_zero]; rfl)) (by kernel_rfl) (by kernel_rfl) (by kernel_rfl) (by exact fun _ _ _ h => h) (Or.inl ⟨by rfl, ?_⟩) (by assumption) ?_; (rotate_left 1; (intro w hSw; (try dsimp only at hSw); go_simp); (try with_reducible rfl)); (try simp only [Act.put, List.setIfInBounds_toArray, List.set_cons_zero, List.set_cons_succ]))
              (refine wpAnyH_take (i := 7) (v := ?_) (by (simp only [List.getElem?_toArray, List.getElem?_cons_succ, List.getElem?_cons_zero]; rfl)) (by kernel_rfl) (by kernel_rfl) (by kernel_rfl) (by exact fun _ _ _ h => h) (Or.inl ⟨by rfl, ?_⟩) (by assumption) ?_; (rotate_left 1; (intro w hSw; (try dsimp only at hSw); go_simp); (try with_reducible rfl)); (try simp only [Act.put, List.setIfInBounds_toArray, List.set_cons_zero, List.set_cons_succ]))
              (refine wpAnyH_take (i := 8) (v := ?_) (by (simp only [List.getElem?_toArray, List.getElem?_cons_succ, List.getElem?_cons_zero]; rfl)) (by kernel_rfl) (by kernel_rfl) (by kernel_rfl) (by exact fun _ _ _ h => h) (Or.inl ⟨by rfl, ?_⟩) (by assumption) ?_; (rotate_left 1; (intro w hSw; (try dsimp only at hSw); go_simp); (try with_reducible rfl)); (try simp only [Act.put, List.setIfInBounds_toArray, List.set_cons_zero, List.set_cons_succ]))
              (refine wpAnyH_take (i := 9) (v := ?_) (by (simp only [List.getElem?_toArray, List.getElem?_cons_succ, List.getElem?_cons_zero]; rfl)) (by kernel_rfl) (by kernel_rfl) (by kernel_rfl) (by exact fun _ _ _ h => h) (Or.inl ⟨by rfl, ?_⟩) (by assumption) ?_; (rotate_left 1; (intro w hSw; (try dsimp only at hSw); go_simp); (try with_reducible rfl)); (try simp only [Act.put, List.setIfInBounds_toArray, List.set_cons_zero, List.set_cons_succ]))
              (refine wpAnyH_take (i := 10) (v := ?_) (by (simp only [List.getElem?_toArray, List.getElem?_cons_succ, List.getElem?_cons_zero]; rfl)) (by kernel_rfl) (by kernel_rfl) (by kernel_rfl) (by exact fun _ _ _ h => h) (Or.inl ⟨by rfl, ?_⟩) (by assumption) ?_; (rotate_left 1; (intro w hSw; (try dsimp only at hSw); go_simp); (try with_reducible rfl)); (try simp only [Act.put, List.setIfInBounds_toArray, List.set_cons_zero, List.set_cons_succ]))
              (refine wpAnyH_take (i := 11) (v := ?_) (by (simp only [List.getElem?_toArray, List.getElem?_cons_succ, List.getElem?_cons_zero]; rfl)) (by kernel_rfl) (by kernel_rfl) (by kernel_rfl) (by exact fun _ _ _ h => h) (Or.inl ⟨by rfl, ?_⟩) (by assumption) ?_; (rotate_left 1; (intro w hSw; (try dsimp only at hSw); go_simp); (try with_reducible rfl)); (try simp only [Act.put, List.setIfInBounds_toArray, List.set_cons_zero, List.set_cons_succ]))
              refine wpAnyH_ready (rs := [0, 12]) (by kernel_rfl) (by simp) ?_
              refine AllReadyH.cons rfl (fun K hK => ?_) (AllReadyH.cons rfl (fun K hK => ?_) AllReadyH.nil)
              case refine_1 =>
                have m0 := hbv.lt
                obtain ⟨cm, _⟩ : wd.cell? ⟨b2, 0, none⟩ = some (.slice B' v.length d) ∧ True := ⟨by simpa using hbv.cell 0, trivial⟩
                go_simp
                clear m0 cm
                refine hK.out _ _ (⟨own_int hnr 0 (by simp), own_int hnr 1 (by simp), own_int hnr 2 (by simp)⟩) (fun hHeld => ?_)
                clear hK K
                (try simp only [Act.put, List.setIfInBounds_toArray, List.set_cons_zero, List.set_cons_succ])
                refine wpAnyH_ready (rs := [12]) (by kernel_rfl) (by simp) ?_
                refine AllReadyH.cons rfl (fun K hK => ?_) AllReadyH.nil
                go_simp
                have hb := (Below.refl wd.heap.size wd).alloc (Nat.le_refl _) (.cells #[.int .i64 y, .int .i64 z, .int .i64 u] 42)
                replace hst := hst.trans (Stays.of_below hb hz)
                replace hbm := hbm.below hb
                replace hom := own_keep hom hb
                replace hbv := hbv.below hb
                replace hov := own_keep hov hb
                replace hnr := own_keep hnr hb
                replace hz : L ≤ (wd.alloc (.cells #[.int .i64 y, .int .i64 z, .int .i64 u] 42)).heap.size := Nat.le_trans hz hb.size
                clear hb
                have hnw : Row (wd.alloc (.cells #[.int .i64 y, .int .i64 z, .int .i64 u] 42)) wd.heap.size 3 (some ⟨wd.heap.size, 0, none⟩) 1 [.int .i64 y, .int .i64 z, .int .i64 u] := row_new _ _ _ _ _ _ (Nat.le_refl _) rfl
                generalize wd.alloc (.cells #[.int .i64 y, .int .i64 z, .int .i64 u] 42) = w6 at *
                refine hK.out _ _ (⟨own_int hnr 0 (by simp), own_int hnr 1 (by simp), own_int hnr 2 (by simp)⟩) (fun hHeld => ?_)
                clear hK K
                (try simp only [Act.put, List.setIfInBounds_toArray, List.set_cons_zero, List.set_cons_succ])
                refine wpAnyH_ready (rs := [13]) (by kernel_rfl) (by simp) ?_
                refine AllReadyH.cons rfl (fun K hK => ?_) AllReadyH.nil
                refine step_app (lo := L) (base := L) (n := v.length) (xs := trs v) _ rfl _ _ ty_trs rfl hov rfl (hnw.weak hzd) rfl rfl (by omega) (by omega) hz ?_
                intro A5 c5 w7 hown5 hg5 _
                have hkd := own_kindOf hov
                have kbm := hbm.otherOf hg5 hkd (by decide)
                have kbv := hbv.otherOf hg5 hkd (by decide)
                replace hnr := own_otherOf hnr hg5 hkd (by decide)
                have hst7 := hst.grown hg5 hz (fun q hq => (hov.lt q hq).1)
                clear hkd hst hz
                refine hK.out _ _ (⟨own_int hnr 0 (by simp), own_int hnr 1 (by simp), own_int hnr 2 (by simp)⟩) (fun hHeld => ?_)
                clear hK K
                (try simp only [Act.put, List.setIfInBounds_toArray, List.set_cons_zero, List.set_cons_succ])
                refine wpAnyH_ready (rs := [14]) (by kernel_rfl) (by simp) ?_
                refine AllReadyH.cons rfl (fun K hK => ?_) AllReadyH.nil
                have pz := kbv.lt
                have pf := kbv.thaw 0
                obtain ⟨pc, _⟩ : w7.cell? ⟨b2, 0, none⟩ = some (.slice B' v.length d) ∧ True := ⟨by simpa using kbv.cell 0, trivial⟩
                go_simp
                clear pz pf pc
                replace hnr := own_past hnr kbv (by decide) 0 (.slice A5 (v.length + 1) c5)
                refine hK.out _ _ (⟨own_int hnr 0 (by simp), own_int hnr 1 (by simp), own_int hnr 2 (by simp)⟩) (fun hHeld => ?_)
                clear hK K
                (try simp only [Act.put, List.setIfInBounds_toArray, List.set_cons_zero, List.set_cons_succ])
                refine wpAnyH_done (by kernel_rfl) ?_ _
                have hsf := Stays.set hst7 (p := ⟨b2, 0, none⟩) (.inl (by simp)) (.slice A5 (v.length + 1) c5)
                have hR := VdRd.pushS Hb1 Hb2 Hne HVM.out hbm hom hbv hov hg5 HML.out HMV.out hown5
                clear hnr hst7 kbm kbv hbm hbv hom hov hg5 hown5
                go_wp2_with fail
                exact GOOD.out _ hsf HOK.out hR
              case refine_2 =>
                go_simp
                have hb := (Below.refl wd.heap.size wd).alloc (Nat.le_refl _) (.cells #[.int .i64 y, .int .i64 z, .int .i64 u] 42)
                replace hst := hst.trans (Stays.of_below hb hz)
                replace hbm := hbm.below hb
                replace hom := own_keep hom hb
                replace hbv := hbv.below hb
                replace hov := own_keep hov hb
                replace hnr := own_keep hnr hb
                replace hz : L ≤ (wd.alloc (.cells #[.int .i64 y, .int .i64 z, .int .i64 u] 42)).heap.size := Nat.le_trans hz hb.size
                clear hb
                have hnw : Row (wd.alloc (.cells #[.int .i64 y, .int .i64 z, .int .i64 u] 42)) wd.heap.size 3 (some ⟨wd.heap.size, 0, none⟩) 1 [.int .i64 y, .int .i64 z, .int .i64 u] := row_new _ _ _ _ _ _ (Nat.le_refl _) rfl
                generalize wd.alloc (.cells #[.int .i64 y, .int .i64 z, .int .i64 u] 42) = w6 at *
                refine hK.out _ _ (⟨own_int hnr 0 (by simp), own_int hnr 1 (by simp), own_int hnr 2 (by simp)⟩) (fun hHeld => ?_)
                clear hK K
                (try simp only [Act.put, List.setIfInBounds_toArray, List.set_cons_zero, List.set_cons_succ])
                refine wpAnyH_ready (rs := [0]) (by kernel_rfl) (by simp) ?_
                refine AllReadyH.cons rfl (fun K hK => ?_) AllReadyH.nil
                have m0 := hbv.lt
                obtain ⟨cm, _⟩ : w6.cell? ⟨b2, 0, none⟩ = some (.slice B' v.length d) ∧ True := ⟨by simpa using hbv.cell 0, trivial⟩
                go_simp
                clear m0 cm
                refine hK.out _ _ (⟨own_int hnr 0 (by simp), own_int hnr 1 (by simp), own_int hnr 2 (by simp)⟩) (fun hHeld => ?_)
                clear hK K
                (try simp only [Act.put, List.setIfInBounds_toArray, List.set_cons_zero, List.set_cons_succ])
                refine wpAnyH_ready (rs := [13]) (by kernel_rfl) (by simp) ?_
                refine AllReadyH.cons rfl (fun K hK => ?_) AllReadyH.nil
                refine step_app (lo := L) (base := L) (n := v.length) (xs := trs v) _ rfl _ _ ty_trs rfl hov rfl (hnw.weak hzd) rfl rfl (by omega) (by omega) hz ?_
                intro A5 c5 w7 hown5 hg5 _
                have hkd := own_kindOf hov
                have kbm := hbm.otherOf hg5 hkd (by decide)
                have kbv := hbv.otherOf hg5 hkd (by decide)
                replace hnr := own_otherOf hnr hg5 hkd (by decide)
                have hst7 := hst.grown hg5 hz (fun q hq => (hov.lt q hq).1)
                clear hkd hst hz
                refine hK.out _ _ (⟨own_int hnr 0 (by simp), own_int hnr 1 (by simp), own_int hnr 2 (by simp)⟩) (fun hHeld => ?_)
                clear hK K
                (try simp only [Act.put, List.setIfInBounds_toArray, List.set_cons_zero, List.set_cons_succ])
                refine wpAnyH_ready (rs := [14]) (by kernel_rfl) (by simp) ?_
                refine AllReadyH.cons rfl (fun K hK => ?_) AllReadyH.nil
                have pz := kbv.lt
                have pf := kbv.thaw 0
                obtain ⟨pc, _⟩ : w7.cell? ⟨b2, 0, none⟩ = some (.slice B' v.length d) ∧ True := ⟨by simpa using kbv.cell 0, trivial⟩
                go_simp
                clear pz pf pc
                replace hnr := own_past hnr kbv (by decide) 0 (.slice A5 (v.length + 1) c5)
                refine hK.out _ _ (⟨own_int hnr 0 (by simp), own_int hnr 1 (by simp), own_int hnr 2 (by simp)⟩) (fun hHeld => ?_)
                clear hK K
                (try simp only [Act.put, List.setIfInBounds_toArray, List.set_cons_zero, List.set_cons_succ])
                refine wpAnyH_done (by kernel_rfl) ?_ _
                have hsf := Stays.set hst7 (p := ⟨b2, 0, none⟩) (.inl (by simp)) (.slice A5 (v.length + 1) c5)
                have hR := VdRd.pushS Hb1 Hb2 Hne HVM.out hbm hom hbv hov hg5 HML.out HMV.out hown5
                clear hnr hst7 kbm kbv hbm hbv hom hov hg5 hown5
                go_wp2_with fail
                exact GOOD.out _ hsf HOK.out hR
            · have HOK := Lib.hid (O2.out (fun h => hm h.1) (fun h => hm0 h.2.2))
              have hmp : (0 : Int) < (m.length : Int) := by omega
              clear hmi hmn O1 O2 O3 O4 hok hnl2 hnlen hm hs h3 hm0
              clear hnr hnc
              go_wp2_with fail
              all_goals exact BAD.out _ hst HOK.out
          · have HOK := Lib.hid (O2.out (fun h => hm h.1) (fun h => h3 h.2.1))
            have hn3 : ((nl.length : Int) == 3) = false := by rw [beq_eq_false_iff_ne]; omega
            have hn4 : ((nl.length : Int) != 3) = true := by rw [bne_iff_ne]; omega
            clear hmi hmn O1 O2 O3 O4 hok hnl2 hnlen hm hs h3
            clear hnr hnc
            go_wp2_with fail
            all_goals exact BAD.out _ hst HOK.out
        · have HOK := Lib.hid (O2.out (fun h => hm h.1) (fun h => hs h.1))
          have e0 : (w0 == [115, 116, 114, 101, 116, 99, 104]) = false := beq_eq_false_iff_ne.2 hs
          clear hmi hmn O1 O2 O3 O4 hok hnl2 hnlen hm hs
          clear hnr hnc
          go_wp2_with fail
          all_goals exact BAD.out _ hst HOK.out
end Go.Proofs.YtlinbaojkmcbeaaGreatDoor
/- The walks of evidence.Read and splitref1.VideoRead: both hand out the same. -/
namespace Go.Proofs.YtlinbaojkmcbeaaGreatDoor
set_option linter.unusedVariables false
set_option linter.unusedSimpArgs false
open Go.RowKit Go.Sort

def VReadPost (w : World) (t : List UInt8) (e : Ending) (w' : World) : Prop :=
  ∃ (A : Option Addr) (c : Nat) (B : Option Addr) (d : Nat), e = .returned (.tuple #[.slice A (readVd t).1.length c, .slice B (readVd t).2.1.length d, .int .i64 (readVd t).2.2.1, .int .i64 (readVd t).2.2.2]) ∧ Row w' w.heap.size 3 A (readVd t).1.length (trs (readVd t).1) ∧ Row w' w.heap.size 2 B (readVd t).2.1.length (prs (readVd t).2.1) ∧ Below w.heap.size w w'
set_option maxHeartbeats 8000000 in
set_option maxRecDepth 100000 in
theorem vRead_any (t : List UInt8) (w : World) (ht : t.length ≤ 1000000) (hE : Env w) :
    Calls Tryz.prog 11 #[encStr t] w (VReadPost w t) := by
  have EARLY : Hid (∀ i e W', readVd t = ([], [], i, e) → Below w.heap.size w W' → VReadPost w t (.returned (.tuple #[.slice none 0 0, .slice none 0 0, .int .i64 i, .int .i64 e])) W') := Lib.hid (fun i e W' h hb => by
    refine ⟨none, 0, none, 0, ?_, ?_, ?_, hb⟩
    · rw [h]; rfl
    · rw [h]; exact Row.none_ _ _ _ _
    · rw [h]; exact Row.none_ _ _ _ _)
  have LATE : Hid (∀ v m, readVd t = (v, m, 0, 0) → ∀ A c B d W', Row W' w.heap.size 3 A v.length (trs v) → Row W' w.heap.size 2 B m.length (prs m) → Below w.heap.size w W' → VReadPost w t (.returned (.tuple #[.slice A v.length c, .slice B m.length d, .int .i64 0, .int .i64 0])) W') := Lib.hid (fun v m h A c B d W' hv hm hb => by
    refine ⟨A, c, B, d, ?_, ?_, ?_, hb⟩
    · rw [h]
    · rw [h]; exact hv
    · rw [h]; exact hm)
  generalize hP : VReadPost w t = Post at *
  clear hP
  have hEB := EnvB.of hE
  by_cases hbig : 200000 < t.length
  · have hd : decide ((200000 : Int) < (t.length : Int)) = true := by simp; omega
    have HV := Lib.hid (readVd_large hbig)
    clear hbig
    go_enter Tryz.func11, Tryz.ntmps11
    go_wp2_with fail
    go_returns
    exact EARLY.out 0 2 _ HV.out (Below.refl _ _)
  · have hd : decide ((200000 : Int) < (t.length : Int)) = false := by simp; omega
    have HBIG := Lib.hid hbig
    clear hbig
    go_enter Tryz.func11, Tryz.ntmps11
    go_upto_region 2 with (fail)
    have kV : Blk (w.alloc (.cells #[.slice none 0 0] 26)) w.heap.size 26 #[.slice none 0 0] := Blk.new _ _ _
    have hx : Below w.heap.size w (w.alloc (.cells #[.slice none 0 0] 26)) := (Below.refl _ _).alloc (Nat.le_refl _) (.cells #[.slice none 0 0] 26)
    have hz1 : (w.alloc (.cells #[.slice none 0 0] 26)).heap.size = w.heap.size + 1 := by simp
    obtain ⟨b2, hb2⟩ : ∃ b2, b2 = w.heap.size := ⟨_, rfl⟩
    rw [← hb2] at kV hz1
    simp only [← hb2]
    generalize w.alloc (.cells #[.slice none 0 0] 26) = w1 at *
    have hb2l : w.heap.size ≤ b2 := by omega
    have hb2u : b2 ≤ w.heap.size := by omega
    clear hb2
    have kM : Blk (w1.alloc (.cells #[.slice none 0 0] 28)) w1.heap.size 28 #[.slice none 0 0] := Blk.new _ _ _
    have kV := kV.alloc (.cells #[.slice none 0 0] 28)
    have hx := hx.alloc (by omega) (.cells #[.slice none 0 0] 28)
    rw [hz1] at kM
    obtain ⟨b1, hb1⟩ : ∃ b1, b1 = b2 + 1 := ⟨_, rfl⟩
    rw [← hb1] at kM
    simp only [← hb1]
    generalize w1.alloc (.cells #[.slice none 0 0] 28) = w2 at *
    have hb1l : b2 < b1 := by omega
    clear hb1 hz1
    have hEB2 := hEB.below hx
    have hsx := hx.size
    refine (eachVdP_any b1 b2 t w2 w.heap.size (okV t) (VdRd t b1 b2) (by omega) hEB2 (by omega) ?_ ?_ ?_ ?_).mono ?_
    · intro x hx2
      simp only [List.mem_cons, List.not_mem_nil, or_false] at hx2
      rcases hx2 with rfl | rfl
      · exact ⟨by omega, kM.lt⟩
      · exact ⟨by omega, kV.lt⟩
    · intro L W h1 h2 h3
      exact VdRd.start (kM.below h3) (kV.below h3) (by have := kM.lt; omega) (by have := kV.lt; omega) (by omega)
    · intro L k W h4
      exact h4.below (Below.refl _ _).drew
    · intro L k W hk h1 h2 h3 h4
      exact readVd_any t b1 b2 w.heap.size L k W (by omega) hk h2 h3 (by omega) (by omega) (by omega) h4
    rintro e w3 ⟨hst, rfl, hR⟩
    have hx3 : Below w.heap.size w w3 := hx.trans (hst.below (B := w.heap.size) hsx (fun x hx2 => by
      simp only [List.mem_cons, List.not_mem_nil, or_false] at hx2
      rcases hx2 with rfl | rfl <;> omega))
    clear kV kM hEB2 hst hx
    cases hs : stopL t (okV t) with
    | some i =>
      have HV := Lib.hid (readVd_stop HBIG.out hs)
      clear hR hs
      simp only [eachV]
      go_wp2_with fail
      go_returns
      exact EARLY.out i 9 _ HV.out hx3
    | none =>
      obtain ⟨L, hL, hR⟩ := hR hs
      have HS := Lib.hid hs
      simp only [eachV]
      obtain ⟨h1L, h2L, hne, A, B, c, d, hbm, hom, hbv, hov⟩ := hR
      clear hs
      obtain ⟨v, m, hvm⟩ : ∃ v m, vdR t (linesL t).length = (v, m) := ⟨_, _, rfl⟩
      have hvl := vdR_len t (linesL t).length
      have hvi := vdR_le t (linesL t).length
      rw [hvm] at hbm hom hbv hov hvl hvi
      dsimp only at hbm hom hbv hov hvl hvi
      have HVI := Lib.hid hvi
      clear hvi
      have hll := (linesL_le t).1
      have hv7 : v.length ≤ 1000001 := by omega
      have hm7 : m.length ≤ 1000001 := by omega
      have HVB : Hid (mkFault v m ≠ 0 → readVd t = ([], [], 0, mkFault v m)) := Lib.hid (readVd_bad HBIG.out HS.out hvm)
      have HVO : Hid (mkFault v m = 0 → readVd t = (v, m, 0, 0)) := Lib.hid (readVd_ok HBIG.out HS.out hvm)
      clear hvm hvl hll
      have m0 := hbm.lt
      have v0 := hbv.lt
      obtain ⟨cm, cv⟩ : w3.cell? ⟨b1, 0, none⟩ = some (.slice A m.length c) ∧ w3.cell? ⟨b2, 0, none⟩ = some (.slice B v.length d) := ⟨by simpa using hbm.cell 0, by simpa using hbv.cell 0⟩
      have hrm := (Row.of_own hom).weak (show w.heap.size ≤ L by omega)
      have hrv := (Row.of_own hov).weak (show w.heap.size ≤ L by omega)
      clear hom hov HS HBIG hL
      go_wp2_with fail
      refine (checkMarks_any _ _ d c B A v m _ hrv hrm (by omega) (by omega) HVI.out).mono ?_
      rintro e w4 ⟨rfl, hb⟩
      replace hbm := hbm.below hb
      replace hbv := hbv.below hb
      replace hrm := hrm.below hb
      replace hrv := hrv.below hb
      have hx4 := below_up hx3 hb
      clear hb cm cv m0 v0 hx3
      have m0 := hbm.lt
      have v0 := hbv.lt
      obtain ⟨cm, cv⟩ : w4.cell? ⟨b1, 0, none⟩ = some (.slice A m.length c) ∧ w4.cell? ⟨b2, 0, none⟩ = some (.slice B v.length d) := ⟨by simpa using hbm.cell 0, by simpa using hbv.cell 0⟩
      by_cases hf : mkFault v m = 0
      · have HV := Lib.hid (HVO.out hf)
        rw [hf]
        clear hf HVB HVO
        go_wp2_with fail
        first | go_region | go_quiet (fail)
        go_wp2_with fail
        go_returns
        exact LATE.out v m HV.out _ _ _ _ _ (by repeat (first | exact hrv | refine Row.alloc ?_ _ | refine Row.drewN ?_ _ | refine Row.drew ?_)) (by repeat (first | exact hrm | refine Row.alloc ?_ _ | refine Row.drewN ?_ _ | refine Row.drew ?_)) (by repeat (first | exact hx4 | refine Below.alloc ?_ (by first | omega | (simp; omega)) _ | refine below_drewN' ?_ _ | refine Below.drew ?_))
      · have HV := Lib.hid (HVB.out hf)
        have df : (mkFault v m != 0) = true := by simpa using hf
        clear hf HVB HVO
        generalize mkFault v m = ff at *
        go_wp2_with fail
        go_returns
        exact EARLY.out 0 ff _ HV.out hx4
set_option maxHeartbeats 8000000 in
set_option maxRecDepth 100000 in
theorem vidRead_any (t : List UInt8) (w : World) (ht : t.length ≤ 1000000) (hE : Env w) :
    Calls Tryz.prog 12 #[encStr t] w (VReadPost w t) := by
  have EARLY : Hid (∀ i e W', readVd t = ([], [], i, e) → Below w.heap.size w W' → VReadPost w t (.returned (.tuple #[.slice none 0 0, .slice none 0 0, .int .i64 i, .int .i64 e])) W') := Lib.hid (fun i e W' h hb => by
    refine ⟨none, 0, none, 0, ?_, ?_, ?_, hb⟩
    · rw [h]; rfl
    · rw [h]; exact Row.none_ _ _ _ _
    · rw [h]; exact Row.none_ _ _ _ _)
  have LATE : Hid (∀ v m, readVd t = (v, m, 0, 0) → ∀ A c B d W', Row W' w.heap.size 3 A v.length (trs v) → Row W' w.heap.size 2 B m.length (prs m) → Below w.heap.size w W' → VReadPost w t (.returned (.tuple #[.slice A v.length c, .slice B m.length d, .int .i64 0, .int .i64 0])) W') := Lib.hid (fun v m h A c B d W' hv hm hb => by
    refine ⟨A, c, B, d, ?_, ?_, ?_, hb⟩
    · rw [h]
    · rw [h]; exact hv
    · rw [h]; exact hm)
  generalize hP : VReadPost w t = Post at *
  clear hP
  have hEB := EnvB.of hE
  by_cases hbig : 200000 < t.length
  · have hd : decide ((200000 : Int) < (t.length : Int)) = true := by simp; omega
    have HV := Lib.hid (readVd_large hbig)
    clear hbig
    go_enter Tryz.func12, Tryz.ntmps12
    go_wp2_with fail
    go_returns
    exact EARLY.out 0 2 _ HV.out (Below.refl _ _)
  · have hd : decide ((200000 : Int) < (t.length : Int)) = false := by simp; omega
    have HBIG := Lib.hid hbig
    clear hbig
    go_enter Tryz.func12, Tryz.ntmps12
    go_upto_region 2 with (fail)
    have kV : Blk (w.alloc (.cells #[.slice none 0 0] 26)) w.heap.size 26 #[.slice none 0 0] := Blk.new _ _ _
    have hx : Below w.heap.size w (w.alloc (.cells #[.slice none 0 0] 26)) := (Below.refl _ _).alloc (Nat.le_refl _) (.cells #[.slice none 0 0] 26)
    have hz1 : (w.alloc (.cells #[.slice none 0 0] 26)).heap.size = w.heap.size + 1 := by simp
    obtain ⟨b2, hb2⟩ : ∃ b2, b2 = w.heap.size := ⟨_, rfl⟩
    rw [← hb2] at kV hz1
    simp only [← hb2]
    generalize w.alloc (.cells #[.slice none 0 0] 26) = w1 at *
    have hb2l : w.heap.size ≤ b2 := by omega
    have hb2u : b2 ≤ w.heap.size := by omega
    clear hb2
    have kM : Blk (w1.alloc (.cells #[.slice none 0 0] 28)) w1.heap.size 28 #[.slice none 0 0] := Blk.new _ _ _
    have kV := kV.alloc (.cells #[.slice none 0 0] 28)
    have hx := hx.alloc (by omega) (.cells #[.slice none 0 0] 28)
    rw [hz1] at kM
    obtain ⟨b1, hb1⟩ : ∃ b1, b1 = b2 + 1 := ⟨_, rfl⟩
    rw [← hb1] at kM
    simp only [← hb1]
    generalize w1.alloc (.cells #[.slice none 0 0] 28) = w2 at *
    have hb1l : b2 < b1 := by omega
    clear hb1 hz1
    have hEB2 := hEB.below hx
    have hsx := hx.size
    refine (rlinesVdR_any b1 b2 t w2 w.heap.size (okV t) (VdRd t b1 b2) (by omega) hEB2 (by omega) ?_ ?_ ?_ ?_).mono ?_
    · intro x hx2
      simp only [List.mem_cons, List.not_mem_nil, or_false] at hx2
      rcases hx2 with rfl | rfl
      · exact ⟨by omega, kM.lt⟩
      · exact ⟨by omega, kV.lt⟩
    · intro L W h1 h2 h3
      exact VdRd.start (kM.below h3) (kV.below h3) (by have := kM.lt; omega) (by have := kV.lt; omega) (by omega)
    · intro L k W h4
      exact h4.below (Below.refl _ _).drew
    · intro L k W hk h1 h2 h3 h4
      exact refVd_any t b1 b2 w.heap.size L k W (by omega) hk h2 h3 (by omega) (by omega) (by omega) h4
    rintro e w3 ⟨hst, rfl, hR⟩
    have hx3 : Below w.heap.size w w3 := hx.trans (hst.below (B := w.heap.size) hsx (fun x hx2 => by
      simp only [List.mem_cons, List.not_mem_nil, or_false] at hx2
      rcases hx2 with rfl | rfl <;> omega))
    clear kV kM hEB2 hst hx
    cases hs : stopL t (okV t) with
    | some i =>
      have HV := Lib.hid (readVd_stop HBIG.out hs)
      clear hR hs
      simp only [eachV]
      go_wp2_with fail
      go_returns
      exact EARLY.out i 9 _ HV.out hx3
    | none =>
      obtain ⟨L, hL, hR⟩ := hR hs
      have HS := Lib.hid hs
      simp only [eachV]
      obtain ⟨h1L, h2L, hne, A, B, c, d, hbm, hom, hbv, hov⟩ := hR
      clear hs
      obtain ⟨v, m, hvm⟩ : ∃ v m, vdR t (linesL t).length = (v, m) := ⟨_, _, rfl⟩
      have hvl := vdR_len t (linesL t).length
      have hvi := vdR_le t (linesL t).length
      rw [hvm] at hbm hom hbv hov hvl hvi
      dsimp only at hbm hom hbv hov hvl hvi
      have HVI := Lib.hid hvi
      clear hvi
      have hll := (linesL_le t).1
      have hv7 : v.length ≤ 1000001 := by omega
      have hm7 : m.length ≤ 1000001 := by omega
      have HVB : Hid (mkFault v m ≠ 0 → readVd t = ([], [], 0, mkFault v m)) := Lib.hid (readVd_bad HBIG.out HS.out hvm)
      have HVO : Hid (mkFault v m = 0 → readVd t = (v, m, 0, 0)) := Lib.hid (readVd_ok HBIG.out HS.out hvm)
      clear hvm hvl hll
      have m0 := hbm.lt
      have v0 := hbv.lt
      obtain ⟨cm, cv⟩ : w3.cell? ⟨b1, 0, none⟩ = some (.slice A m.length c) ∧ w3.cell? ⟨b2, 0, none⟩ = some (.slice B v.length d) := ⟨by simpa using hbm.cell 0, by simpa using hbv.cell 0⟩
      have hrm := (Row.of_own hom).weak (show w.heap.size ≤ L by omega)
      have hrv := (Row.of_own hov).weak (show w.heap.size ≤ L by omega)
      clear hom hov HS HBIG hL
      go_wp2_with fail
      refine (marksFault_any _ _ d c B A v m _ hrv hrm (by omega) (by omega) HVI.out).mono ?_
      rintro e w4 ⟨rfl, hb⟩
      replace hbm := hbm.below hb
      replace hbv := hbv.below hb
      replace hrm := hrm.below hb
      replace hrv := hrv.below hb
      have hx4 := below_up hx3 hb
      clear hb cm cv m0 v0 hx3
      have m0 := hbm.lt
      have v0 := hbv.lt
      obtain ⟨cm, cv⟩ : w4.cell? ⟨b1, 0, none⟩ = some (.slice A m.length c) ∧ w4.cell? ⟨b2, 0, none⟩ = some (.slice B v.length d) := ⟨by simpa using hbm.cell 0, by simpa using hbv.cell 0⟩
      by_cases hf : mkFault v m = 0
      · have HV := Lib.hid (HVO.out hf)
        rw [hf]
        clear hf HVB HVO
        go_wp2_with fail
        first | go_region | go_quiet (fail)
        go_wp2_with fail
        go_returns
        exact LATE.out v m HV.out _ _ _ _ _ (by repeat (first | exact hrv | refine Row.alloc ?_ _ | refine Row.drewN ?_ _ | refine Row.drew ?_)) (by repeat (first | exact hrm | refine Row.alloc ?_ _ | refine Row.drewN ?_ _ | refine Row.drew ?_)) (by repeat (first | exact hx4 | refine Below.alloc ?_ (by first | omega | (simp; omega)) _ | refine below_drewN' ?_ _ | refine Below.drew ?_))
      · have HV := Lib.hid (HVB.out hf)
        have df : (mkFault v m != 0) = true := by simpa using hf
        clear hf HVB HVO
        generalize mkFault v m = ff at *
        go_wp2_with fail
        go_returns
        exact EARLY.out 0 ff _ HV.out hx4
end Go.Proofs.YtlinbaojkmcbeaaGreatDoor
