/- The walk of Flaws, out of what is asked of slices.SortFunc. -/
import Derived.Test.YtlnencloodlnbaaFlC
import Derived.Test.YtlnencloodlnbaaApp
namespace Go.Proofs.Ytlnencloodlnbaa
open Go.RowKit

/-- What is asked of slices.SortFunc over flaws; it is paid out of the library's contract. -/
def SortsF : Prop := ∀ (A : Option Addr) (c base : Nat) (zs : List Flw) (w : World), w.ownsRow base 42 3 (.slice A zs.length c) zs.length (trs zs) → zs.length ≤ 1000000000 → base ≤ w.heap.size →
    Calls Try.prog 29 #[.slice A zs.length c, .func (.func 30) #[] #[]] w fun e w' => e = .returned (.tuple #[]) ∧ ∃ ys : List Flw, ys.Perm zs ∧ ys.Pairwise leF ∧ w'.ownsRow base 42 3 (.slice A ys.length c) ys.length (trs ys) ∧ Below base w w'

def handE (most short : Int) : Int := firstE [spanFault most 1 60, spanFault short 1 60]
def flE (ps : List (Int × Int)) (most short : Int) : Int := if inFault ps = 0 then handE most short else inFault ps
noncomputable def flR (ps : List (Int × Int)) (most short : Int) (both : Bool) : List Flw := if inFault ps = 0 ∧ handE most short = 0 then flawsM (unf ps) most short both (unf ps).length else []
theorem handE_ok {most short : Int} (h : 1 ≤ most ∧ most ≤ 60) (k : 1 ≤ short ∧ short ≤ 60) : handE most short = 0 := by unfold handE; rw [firstE_two, span_ok h, span_ok k]; rfl
theorem handE_one {most short : Int} (h : ¬ (1 ≤ most ∧ most ≤ 60)) : handE most short = 1 := by unfold handE; rw [firstE_two, span_bad h]; rfl
theorem handE_two {most short : Int} (h : 1 ≤ most ∧ most ≤ 60) (k : ¬ (1 ≤ short ∧ short ≤ 60)) : handE most short = 1 := by unfold handE; rw [firstE_two, span_ok h, span_bad k]; rfl
theorem flE_bad {ps : List (Int × Int)} {most short : Int} (h : ¬ inFault ps = 0) : flE ps most short = inFault ps := by simp [flE, h]
theorem flE_ok {ps : List (Int × Int)} {most short : Int} (h : inFault ps = 0) : flE ps most short = handE most short := by simp [flE, h]
theorem flR_bad {ps : List (Int × Int)} {most short : Int} {both : Bool} (h : ¬ (inFault ps = 0 ∧ handE most short = 0)) : flR ps most short both = [] := by simp only [flR, h, if_false]
theorem flR_ok {ps : List (Int × Int)} {most short : Int} {both : Bool} (h : inFault ps = 0) (k : handE most short = 0) : flR ps most short both = flawsM (unf ps) most short both (unf ps).length := by simp [flR, h, k]
/-- The code's flaws after the first so many buttons. -/
noncomputable def flawsB (xs : List Int) (most short : Int) (both : Bool) (k : Nat) : List Flw :=
  (if both = true then [] else bothL xs 3 1 xs.length ++ bothL xs 12 4 xs.length) ++ (btns.take k).flatMap fun b => pressF xs most short b (posM xs b xs.length)
theorem flawsB_succ (xs : List Int) (most short : Int) (both : Bool) (k : Nat) (hk : k < btns.length) : flawsB xs most short both (k + 1) = flawsB xs most short both k ++ pressF xs most short btns[k] (posM xs btns[k] xs.length) := by
  unfold flawsB
  rw [List.take_succ_eq_append_getElem hk, List.flatMap_append]; simp
theorem flawsB_all (xs : List Int) (most short : Int) (both : Bool) : flawsB xs most short both btns.length = flawsP xs most short both := by unfold flawsB flawsP; rw [List.take_length]
theorem posM_len (xs : List Int) (b : Int) (k : Nat) : (posM xs b k).length ≤ k := by have := List.length_filter_le (fun i : Nat => pressB xs b (i : Int)) (List.range k); simpa [posM] using this
theorem pressF_le (xs : List Int) (most short b : Int) : (pressF xs most short b (posM xs b xs.length)).length ≤ 2 * xs.length := by
  have := pressF_len xs most short b (posM xs b xs.length)
  have := posM_len xs b xs.length
  omega
theorem flawsB_len (xs : List Int) (most short : Int) (both : Bool) (k : Nat) (hk : k ≤ btns.length) : (flawsB xs most short both k).length ≤ 2 * xs.length + k * (2 * xs.length) := by
  induction k with
  | zero =>
    have := bothL_len xs 3 1 xs.length
    have := bothL_len xs 12 4 xs.length
    unfold flawsB
    split <;> simp <;> omega
  | succ k ih =>
    rw [flawsB_succ _ _ _ _ _ (by omega), List.length_append]
    have := ih (by omega)
    have := pressF_le xs most short (btns[k]'(by omega))
    rw [Nat.add_mul]
    omega

set_option maxHeartbeats 400000 in
theorem buttons_blk (w : World) : Calls Try.prog 26 #[] w fun e w' => ∃ g c, e = .returned (.slice (some ⟨g, 0, none⟩) btns.length c) ∧ w.heap.size ≤ g ∧ Blk w' g 3 #[.int .i64 1, .int .i64 2, .int .i64 4, .int .i64 8, .int .i64 16, .int .i64 32] ∧ Below w.heap.size w w' := by
  go_enter Try.func26, Try.ntmps26
  go_wp2_with fail
  go_ret
  exact ⟨_, _, rfl, Nat.le_refl _, Blk.new _ _ _, (Below.refl _ _).alloc (Nat.le_refl _) _⟩
theorem btns_cell {w : World} {g : Nat} (h : Blk w g 3 #[.int .i64 1, .int .i64 2, .int .i64 4, .int .i64 8, .int .i64 16, .int .i64 32]) (k : Nat) (hk : k < btns.length) : w.cell? ⟨g, k, none⟩ = some (.int .i64 btns[k]) := by
  rw [h.cell k]
  match k, hk with
  | 0, _ => rfl
  | 1, _ => rfl
  | 2, _ => rfl
  | 3, _ => rfl
  | 4, _ => rfl
  | 5, _ => rfl
  | k + 6, h => exact absurd h (by simp [btns])

set_option maxHeartbeats 4000000 in
set_option maxRecDepth 100000 in
theorem flawsI_any (HS : SortsF) (A : Option Addr) (c lo : Nat) (ps : List (Int × Int)) (most short : Int) (both : Bool) (w : World) (hr : Row w lo 2 A ps.length (prs ps)) (hl : ps.length ≤ 1000000000) :
    Calls Try.prog 9 #[.slice A ps.length c, .agg #[.int .i64 most, .int .i64 short, .bool both]] w fun e w' => ∃ A' c', e = .returned (.tuple #[.slice A' (flR ps most short both).length c', .int .i64 (flE ps most short)]) ∧ Row w' w.heap.size 3 A' (flR ps most short both).length (trs (flR ps most short both)) ∧ Below w.heap.size w w' := by
  go_enter Try.func9, Try.ntmps9
  go_wp2_with fail
  have hb0 : Below w.heap.size w (w.alloc (.cells #[.int .i64 most, .int .i64 short, .bool both] 29)) := (Below.refl _ _).alloc (Nat.le_refl _) _
  have hk0 : Blk (w.alloc (.cells #[.int .i64 most, .int .i64 short, .bool both] 29)) w.heap.size 29 #[.int .i64 most, .int .i64 short, .bool both] := Blk.new _ _ _
  have hr0 := hr.alloc (.cells #[.int .i64 most, .int .i64 short, .bool both] 29)
  generalize w.alloc (.cells #[.int .i64 most, .int .i64 short, .bool both] 29) = w0 at *
  clear hr
  refine (checkInput_any _ _ _ ps _ hr0 hl).mono ?_
  rintro e w1 ⟨rfl, hb1⟩
  have hr1 := hr0.below hb1
  have hk1 := hk0.below hb1
  have hx1 := hb0.trans (hb1.mono hb0.size)
  clear hr0 hk0 hb0 hb1
  by_cases h0 : inFault ps = 0
  · obtain ⟨h1, h2, h3⟩ := inFault_ok h0
    have hp : ∀ p ∈ ps, 0 ≤ p.2 := fun p hp => by have := h2 p hp; omega
    have hv : ∀ p ∈ ps, 0 ≤ p.1 ∧ p.1 ≤ 255 := fun p hp => by have := h2 p hp; omega
    have hu := unf_len ps hp
    have hul : (unf ps).length ≤ 200000 := by omega
    have H0 := Lib.hid h0
    have HP := Lib.hid hp
    have HV := Lib.hid hv
    rw [h0]
    clear h0 hu h2 hp hv
    obtain ⟨g0, g1, g2⟩ := hk1.three
    go_wp2_with fail
    refine (out_any _ _ _ _).mono ?_
    rintro e w2 ⟨rfl, rfl⟩
    by_cases ha : 1 ≤ most ∧ most ≤ 60
    · have d1 : (decide (most < 1) || decide (60 < most)) = false := by simp; omega
      have HA := Lib.hid ha
      rw [d1]
      clear d1 ha
      go_wp2_with fail
      refine (out_any _ _ _ _).mono ?_
      rintro e w2 ⟨rfl, rfl⟩
      by_cases hb : 1 ≤ short ∧ short ≤ 60
      · have d2 : (decide (short < 1) || decide (60 < short)) = false := by simp; omega
        have HH := Lib.hid (handE_ok HA.out hb)
        rw [d2]
        clear d2 hb HA
        go_wp2_with fail
        refine (spread_any _ _ _ ps _ hr1 hl HP.out HV.out (by omega)).mono ?_
        rintro e w3 ⟨A3, c3, rfl, hown3, hb3⟩
        have hx3 := hx1.trans (hb3.mono hx1.size)
        have hk3 := hk1.below hb3
        have hz3 := hk3.lt
        have hr3 : Row w3 (w.heap.size + 1) 1 A3 (unf ps).length (u8s (unf ps)) := (Row.of_own hown3).weak (by have := hk1.lt; omega)
        have HX : Hid (∀ x ∈ unf ps, 0 ≤ x ∧ x ≤ 255) := Lib.hid (unf_mem HV.out)
        have HR : Hid (flR ps most short both = flawsM (unf ps) most short both (unf ps).length) := Lib.hid (flR_ok H0.out HH.out)
        have HE : Hid (flE ps most short = 0) := Lib.hid (by rw [flE_ok H0.out, HH.out])
        clear hown3 hr1 hk1 hx1 hb3 HV HP H0 HH g0 g1 g2
        have hl6 : btns.length = 6 := rfl
        have HL6 := Lib.hid hl6
        clear hl6
        generalize unf ps = xs at *
        obtain ⟨g0, g1, g2⟩ := hk3.three
        have hzz : w.heap.size ≤ w3.heap.size := by omega
        go_upto_if 28 with (fail)
        go_cut [8] (fun v wx => ∃ (A4 : Option Addr) (c4 : Nat), v = .slice A4 (flawsB xs most short both 0).length c4 ∧ wx.ownsRow w3.heap.size 42 3 (.slice A4 (flawsB xs most short both 0).length c4) (flawsB xs most short both 0).length (trs (flawsB xs most short both 0)) ∧ Below w3.heap.size w3 wx)
        case first =>
          cases both
          · have HB : Hid (flawsB xs most short false 0 = [] ++ bothL xs 3 1 xs.length ++ bothL xs 12 4 xs.length) := Lib.hid (by simp [flawsB])
            have hq1 := bothL_len xs 3 1 xs.length
            have hq2 := bothL_len xs 12 4 xs.length
            go_wp2_with fail
            refine (bothFlaws_any _ _ _ xs 3 1 _ hr3 (by omega) HX.out (by decide)).mono ?_
            rintro e w4 ⟨A4, c4, rfl, hown4, hb4⟩
            have z4 := hb4.size
            generalize bothL xs 3 1 xs.length = o1 at *
            go_wp2_with (at_builtin; go_must (refine wpList_app (lo := w3.heap.size) (base := w3.heap.size) (n := 0) (xs := []) _ _ rfl _ _ ty_flaws rfl (World.ownsRow_nil _ _ _ _) rfl (Row.of_own hown4) rfl (trs_all _) (by omega) (by omega) (by omega) ?_))
            intro A5 c5 w5 hown5 hg5 _
            have hb5 : Below w3.heap.size w3 w5 := hb4.grown hg5 (by omega) (fun k hk => by cases hk)
            have z5 := hb5.size
            clear hown4 hb4 hg5
            go_wp2_with fail
            refine (bothFlaws_any _ _ _ xs 12 4 _ (hr3.below hb5) (by omega) HX.out (by decide)).mono ?_
            rintro e w6 ⟨A6, c6, rfl, hown6, hb6⟩
            have z6 := hb6.size
            have hown5' := own_keep hown5 hb6
            have hb36 := below_up hb5 hb6
            clear hown5 hb5 hb6
            generalize bothL xs 12 4 xs.length = o2 at *
            go_wp2_with (at_builtin; go_must (refine wpList_app (lo := w5.heap.size) (base := w3.heap.size) (n := o1.length) (xs := trs o1) _ _ rfl _ _ ty_flaws rfl hown5' rfl (Row.of_own hown6) rfl (trs_all _) (by omega) (by omega) (by omega) ?_))
            intro A7 c7 w7 hown7 hg7 _
            go_wp2_with fail
            go_meet
            rw [HB.out]
            exact ⟨A7, c7, by simp, by simpa [trs_app] using hown7, below_app hown5' hb36 hg7 (Nat.le_refl _) (by omega)⟩
          · have HB : Hid (flawsB xs most short true 0 = []) := Lib.hid (by simp [flawsB])
            go_wp2_with fail
            go_meet
            rw [HB.out]
            exact ⟨none, 0, rfl, World.ownsRow_nil _ _ _ _, Below.refl _ _⟩
        case rest =>
          obtain ⟨A4, c4, rfl, hown4, hb4⟩ := hcut
          have z4 := hb4.size
          clear g0 g1 g2
          go_wp2_with fail
          refine (buttons_blk _).mono ?_
          rintro e w5 ⟨g, c5, rfl, hg, hkb, hb5⟩
          have hown5 := own_keep hown4 hb5
          have hb35 := below_up hb4 hb5
          clear hown4 hb4 hb5
          go_wp2_with fail
          go_loopw [8, 39] (fun v i wr => ∃ (k : Nat) (A' : Option Addr) (c' : Nat), k ≤ 6 ∧ i = .int .i64 k ∧ v = .slice A' (flawsB xs most short both k).length c' ∧ wr.ownsRow w3.heap.size 42 3 (.slice A' (flawsB xs most short both k).length c') (flawsB xs most short both k).length (trs (flawsB xs most short both k)) ∧ Blk wr g 3 #[.int .i64 1, .int .i64 2, .int .i64 4, .int .i64 8, .int .i64 16, .int .i64 32] ∧ Below w3.heap.size w3 wr) (fun _ i _ => 6 - (intOf i).toNat)
          case atStart => exact ⟨0, A4, c4, by omega, rfl, rfl, hown5, hkb, hb35⟩
          case round =>
            clear hown5 hkb hb35
            obtain ⟨k, A', c', hk, rfl, rfl, hown, hkb, hbw⟩ := hrel
            have z := hbw.size
            by_cases hlt : k < 6
            · have hlt' : k < btns.length := by have := HL6.out; omega
              have c0 := btns_cell hkb k hlt'
              have HT := Lib.hid (flawsB_succ xs most short both k hlt')
              have hpl := pressF_le xs most short btns[k]
              have hol : (flawsB xs most short both k).length ≤ 14 * 200000 := by
                have h1 := flawsB_len xs most short both k (by omega)
                have h2 : k * (2 * xs.length) ≤ 6 * (2 * xs.length) := Nat.mul_le_mul_right _ hk
                omega
              generalize btns[k] = b at *
              generalize flawsB xs most short both k = o at *
              have hk4 : Blk wr w.heap.size 29 #[.int .i64 most, .int .i64 short, .bool both] := (hbw.block _ hz3).trans hk3
              have hr4 := hr3.below hbw
              have hgz := hkb.lt
              go_wp2_with fail
              have hk4d : Blk wr.drew w.heap.size 29 #[.int .i64 most, .int .i64 short, .bool both] := hk4
              have hr4d : Row wr.drew (w.heap.size + 1) 1 A3 xs.length (u8s xs) := hr4
              have hownd : wr.drew.ownsRow w3.heap.size 42 3 (.slice A' o.length c') o.length (trs o) := hown
              have hkbd : Blk wr.drew g 3 #[.int .i64 1, .int .i64 2, .int .i64 4, .int .i64 8, .int .i64 16, .int .i64 32] := hkb
              have hbwd : Below w3.heap.size w3 wr.drew := hbw.drew
              have kc : wr.drew.cell? ⟨w.heap.size, 0, none⟩ = some (.int .i64 most) ∧ wr.drew.cell? ⟨w.heap.size, 1, none⟩ = some (.int .i64 short) ∧ wr.drew.cell? ⟨w.heap.size, 2, none⟩ = some (.bool both) := hk4d.three
              clear hk4 hr4 hown hkb hbw c0
              go_region_held3 (fun w' => w'.cell? ⟨w.heap.size, 0, none⟩ = some (.int .i64 most) ∧ w'.cell? ⟨w.heap.size, 1, none⟩ = some (.int .i64 short) ∧ w'.cell? ⟨w.heap.size, 2, none⟩ = some (.bool both)) (first | exact kc9 | exact kc8 | exact kc7 | exact kc)
                (first
                | (go_at_call 28; refine (holds_any _ _ _ xs b _ hr4d (by omega) HX.out).mono ?_; rintro e w7 ⟨A7, c7, rfl, hown7, hb7⟩; have kc7 := (hk4d.below hb7).three)
                | (go_at_call 27; refine (pressFlaws_any _ _ _ xs most short b both _ (Row.of_own hown7) (by omega)).mono ?_; rintro e w8 ⟨A8, c8, rfl, hown8, hb8⟩; have hb78 := below_up hb7 hb8; have kc8 := (hk4d.below hb78).three; have z78 := hb78.size)
                | (refine step_app (lo := w7.heap.size) (base := w3.heap.size) (n := o.length) (xs := trs o) _ rfl _ _ ty_flaws rfl (own_keep hownd hb78) rfl (Row.of_own hown8) rfl (trs_all _) (by omega) (by omega) (by (have := hbwd.size); omega) ?_; intro A9 c9 w9 hown9 hg9 hx9; have kc9 := (Blk.app (own_keep hownd hb78) (hk4d.below hb78) hg9 (by decide)).three))
              all_goals
                have hown89 := own_keep hownd hb78
                have hkb9 := Blk.app hown89 (hkbd.below hb78) hg9 (by decide)
                have hbw9 := below_app hown89 (below_up hbwd hb78) hg9 (Nat.le_refl _) (by have := hbwd.size; omega)
                clear hg9 hown89 hown7 hown8 hb7 hb8 hb78 kc kc7 kc8 kc9 hk4d hr4d hownd hkbd hbwd
                go_wp2_with fail
                go_roundw
                case rel => exact ⟨k + 1, A9, c9, by omega, by go_num, by rw [HT.out]; simp, by rw [HT.out, trs_app, List.length_append]; exact hown9, hkb9, hbw9⟩
                case measure => simp [intOf]; omega
            · have hk6 : k = btns.length := by have := HL6.out; omega
              have HP : Hid (flawsB xs most short both k = flawsP xs most short both) := Lib.hid (by rw [hk6]; exact flawsB_all xs most short both)
              have hol : (flawsB xs most short both k).length ≤ 14 * 200000 := by
                have h1 := flawsB_len xs most short both k (by omega)
                have h2 : k * (2 * xs.length) ≤ 6 * (2 * xs.length) := Nat.mul_le_mul_right _ hk
                omega
              clear hk6
              rw [HP.out] at hown hol
              have hk7 : ¬ k < btns.length := by have := HL6.out; omega
              rw [HP.out]
              clear HP
              go_wp2_with fail
              refine (HS _ _ _ _ _ hown (by omega) z).mono ?_
              rintro e w7 ⟨rfl, ys, hperm, hpair, hown7, hb7⟩
              have HY := Lib.hid (flaws_sorted hperm hpair)
              have HLY := Lib.hid hperm.length_eq
              have hx7 : Below w.heap.size w w7 := hx3.trans ((hbw.trans hb7).mono hzz)
              rw [HY.out] at hown7
              have HLZ : Hid ((flawsP xs most short both).length = (flawsM xs most short both xs.length).length) := Lib.hid (by rw [← HY.out]; exact HLY.out.symm)
              rw [HLZ.out]
              clear hperm hpair HY HLY HLZ
              go_wp2_with fail
              go_ret2
              rw [HR.out, HE.out]
              exact ⟨A', c', rfl, (Row.of_own hown7).weak hzz, hx7⟩
      · have d2 : (decide (short < 1) || decide (60 < short)) = true := by simp; omega
        have HH := Lib.hid (handE_two HA.out hb)
        have HN : Hid (flR ps most short both = []) := Lib.hid (flR_bad (fun h => by have := h.2; rw [HH.out] at this; omega))
        rw [d2]
        clear d2 hb HA
        go_wp2_with fail
        go_ret2
        rw [HN.out, flE_ok H0.out, HH.out]
        exact ⟨none, 0, rfl, Row.none_ _ _ _ _, hx1⟩
    · have d1 : (decide (most < 1) || decide (60 < most)) = true := by simp; omega
      have HH := Lib.hid (handE_one (short := short) ha)
      have HN : Hid (flR ps most short both = []) := Lib.hid (flR_bad (fun h => by have := h.2; rw [HH.out] at this; omega))
      rw [d1]
      clear d1 ha
      go_wp2_with fail
      go_ret2
      rw [HN.out, flE_ok H0.out, HH.out]
      exact ⟨none, 0, rfl, Row.none_ _ _ _ _, hx1⟩
  · have h0' : (inFault ps != 0) = true := by simpa using h0
    have HN : Hid (flR ps most short both = []) := Lib.hid (flR_bad (fun h => h0 h.1))
    have HE := Lib.hid (flE_bad (most := most) (short := short) h0)
    clear h0
    go_wp2_with fail
    go_ret2
    rw [HN.out, HE.out]
    exact ⟨none, 0, rfl, Row.none_ _ _ _ _, hx1⟩
end Go.Proofs.Ytlnencloodlnbaa
