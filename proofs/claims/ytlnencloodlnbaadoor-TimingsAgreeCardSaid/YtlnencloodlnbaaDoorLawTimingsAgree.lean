/- For every list of numbers the law TimingsAgree returns true and leaves the list as it was: its walk. -/
import Derived.Test.YtlnencloodlnbaaDoorAgN
import Derived.Test.YtlnencloodlnbaaDoorAgF
import Derived.Test.YtlnencloodlnbaaDoorAgC
import Derived.Test.YtlnencloodlnbaaDoorAgG
import Derived.Test.YtlnencloodlnbaaDoorSortI
import Derived.Test.YtlnencloodlnbaaDoorMkC
import Derived.Deep.DeepCutAuto
namespace Go.Proofs.YtlnencloodlnbaaDoor
open Go.RowKit Go.Sort

def sm1 : Sm := [48, 48, 48, 48, 48, 48, 48, 48, 48, 48, 48, 48, 48, 48, 48, 49]
def sm2 : Sm := [48, 48, 48, 48, 48, 48, 48, 48, 48, 48, 48, 48, 48, 48, 48, 50]
def sm3 : Sm := [48, 48, 48, 48, 48, 48, 48, 48, 48, 48, 48, 48, 48, 48, 48, 102]
def sm4 : Sm := [120]
def sm5 : Sm := [48, 48, 48, 48, 48, 48, 48, 48, 48, 48, 48, 48, 48, 48, 48, 70]
theorem sums_le : ∀ s ∈ [sm1, sm2, sm3], s.length ≤ 16 := by decide
theorem odds_le : ∀ s ∈ [sm1, sm4, sm5], s.length ≤ 16 := by decide
theorem tmF_zero {l : List Int} {within : Int} (h : tmF l within = 0) : 0 < l.length ∧ l.length ≤ 50 ∧ tmOk l within := by
  unfold tmF at h
  by_cases h0 : l.length = 0
  · rw [if_pos h0] at h; omega
  · rw [if_neg h0] at h
    by_cases h5 : 50 < l.length
    · rw [if_pos h5] at h; omega
    · rw [if_neg h5] at h
      by_cases hk : tmOk l within
      · exact ⟨by omega, by omega, hk⟩
      · rw [if_neg hk] at h; omega

set_option maxHeartbeats 2000000 in
set_option maxRecDepth 100000 in
theorem timings_walk (A : Option Addr) (n c : Nat) (w : World) (hn : n ≤ 9223372036854775807)
    (hz : ∀ k, k < n → ∃ b off z, A = some ⟨b, off, none⟩ ∧ b < w.heap.size ∧ w.cell? ⟨b, off + k, none⟩ = some (.int .i64 z) ∧ I64 z) :
    LawCall 3 A n c w := by
  have hstr := str_make (c := c) hn hz
  clear hz
  have hb0 : Below w.heap.size w (w.alloc (.cells #[.slice A n c, .int .i64 0] 25)) := (Below.refl _ _).alloc (Nat.le_refl _) _
  have hz0 : (w.alloc (.cells #[.slice A n c, .int .i64 0] 25)).heap.size = w.heap.size + 1 := by simp
  go_enter Tryd.func3, Tryd.ntmps3
  go_wp2_with fail
  generalize w.alloc (.cells #[.slice A n c, .int .i64 0] 25) = w0 at *
  have HZ0 := Lib.hid hz0
  clear hz0
  refine (range_any w.heap.size 0 _ _ _ hstr (by omega) (by omega) (by omega) (by omega)).mono ?_
  rintro e w1 ⟨r, rfl, r0, r7, hs1, hg1⟩
  obtain ⟨m, rfl⟩ := Int.eq_ofNat_of_zero_le r0
  go_wp2_with fail
  go_loopw [4, 24] (fun x i wr => ∃ (k : Nat) (A' : Option Addr) (c' : Nat) (xs : List Int), k ≤ m ∧ i = .int .i64 k ∧ x = .slice A' xs.length c' ∧ wr.ownsRow w0.heap.size 3 1 (.slice A' xs.length c') xs.length (ints xs) ∧ xs.length ≤ k ∧ Str wr w.heap.size (1 + k) ∧ w0.grownBy wr (some w.heap.size)) (fun _ i _ => m - (intOf i).toNat)
  case atStart => exact ⟨0, none, 0, [], by omega, rfl, rfl, World.ownsRow_nil _ _ _ _, by simp, hs1, hg1⟩
  case round =>
    obtain ⟨k, A', c', xs, hk, rfl, rfl, hown, hxk, hsr, hgr⟩ := hrel
    have zr := hgr.size
    have zq : w.heap.size < w0.heap.size := by have := HZ0.out; omega
    by_cases hkm : k < m
    · go_wp2_with fail
      refine (pick_any w.heap.size _ _ _ _ [0, 100, 100, 105, 110, 111, 200, -1] _ (hsr.alloc _) (by omega) (row_new _ _ _ _ _ _ (Nat.le_refl _) rfl) hsr.lt (by simp) (by simp)).mono ?_
      rintro e w3 ⟨r3, rfl, -, hs3, hg3⟩
      have hgr3 := grown_trans' (grown_alloc hgr _) hg3
      have hown3 := own_grown (hown.alloc _) hg3 (by omega)
      have z3 := hgr3.size
      clear hown hg3 hgr
      go_wp2_with (at_builtin; go_must (refine wpList_app (lo := w0.heap.size) (base := w0.heap.size) (n := xs.length) (xs := ints xs) _ _ rfl _ _ ty_ints rfl (by repeat (first | exact hown3 | refine World.ownsRow.alloc ?_ _ | refine own_drewN ?_ _ | refine World.ownsRow.drew ?_)) rfl (by first | exact row_new' _ (by first | rfl | simp) (by first | omega | (simp; omega)) rfl | exact row_newN _ _ (by first | rfl | simp) (by first | omega | (simp; omega)) rfl | exact row_newD _ (by first | rfl | simp) (by first | omega | (simp; omega)) rfl) rfl rfl (by first | omega | decide) (by first | omega | decide) (by first | omega | (simp; omega)) ?_))
      intro A5 c5 w5 hown5 hg5 _
      go_wp2_with fail
      go_roundw
      case rel => exact ⟨k + 1, A5, c5, xs ++ [r3], by omega, by go_num, by simp, by simpa [ints] using hown5, by simp; omega, ((hs3.alloc _).app (hown3.alloc _) hg5 (by omega)).more (by omega), grown_app (grown_alloc hgr3 _) (hown3.alloc _) hg5 (Nat.le_refl _)⟩
      case measure => simp [intOf]; omega
    · go_wp2_with fail
      refine (pick_any w.heap.size _ _ _ _ [0, 5, 10, 10, 100, -1] _ (hsr.alloc _) (by omega) (row_new _ _ _ _ _ _ (Nat.le_refl _) rfl) hsr.lt (by simp) (by simp)).mono ?_
      rintro e w3 ⟨within, rfl, -, hs3, hg3⟩
      have hgr3 := grown_trans' (grown_alloc hgr _) hg3
      have hrow3 := (Row.of_own (own_grown (hown.alloc _) hg3 (by omega)))
      have hb3 : Below w.heap.size w w3 := hb0.grown hgr3 (by omega) (fun k hk => by injection hk with hk; omega)
      have hxl : xs.length ≤ 7 := by omega
      clear hown hg3 hgr hsr
      go_wp2_with fail
      refine (agreed_any sortsI _ _ _ xs within _ hrow3 (by omega)).mono ?_
      rintro e w4 ⟨rfl, hb4⟩
      have hrow4 := hrow3.below hb4
      have hs4 := hs3.keep hb4
      have hx4 := below_up hb3 hb4
      clear hb4 hrow3 hs3 hb3 hgr3
      go_wp2_with fail
      refine (timingsFault_any _ _ _ xs within _ hrow4 (by omega)).mono ?_
      rintro e w5 ⟨rfl, rfl⟩
      go_upto_if 47 with (fail)
      go_cut [6, 7, 8, 9] (fun _ _ _ _ wx => Below w.heap.size w wx ∧ Str wx w.heap.size (1 + k + 1))
      case first =>
        by_cases h0 : tmF xs within = 0
        · obtain ⟨t1, t2, t3⟩ := tmF_zero h0
          have H0 := Lib.hid h0
          have HT := Lib.hid t3
          rw [h0]
          clear h0 t3
          go_wp2_with fail
          refine (agreedOf_any sortsI _ _ _ xs within _ hrow4 (by omega) H0.out t1 HT.out t2).mono ?_
          rintro e w6 ⟨rfl, hb6⟩
          have hx6 := below_up hx4 hb6
          have hs6 := hs4.keep hb6
          generalize agR xs within = r at *
          rcases Int.lt_or_le r 0 with hr | hr
          · have d1 : decide (0 ≤ r) = false := by simp; omega
            have d2 : max r 0 = 0 := by omega
            rw [d1, d2]
            go_wp2_with fail
            go_meet
            exact ⟨hx6, hs6⟩
          · have d1 : decide (0 ≤ r) = true := by simp; omega
            have d2 : max r 0 = r := by omega
            rw [d1, d2]
            go_wp2_with fail
            go_meet
            exact ⟨hx6, hs6⟩
        · have h0' : (tmF xs within != 0) = true := by simpa using h0
          have hr := agR_bad h0
          rw [hr]
          clear h0 hr
          go_wp2_with fail
          go_meet
          exact ⟨hx4, hs4⟩
      case rest =>
        obtain ⟨hx6, hs6⟩ := hcut
        have z6 := hx6.size
        have z7 := hs6.lt
        clear hx4 hs4 hrow4
        go_upto_region 17 with (fail)
        have hsm : Row (wc.alloc (.cells #[.string ⟨#[48, 48, 48, 48, 48, 48, 48, 48, 48, 48, 48, 48, 48, 48, 48, 49]⟩, .string ⟨#[48, 48, 48, 48, 48, 48, 48, 48, 48, 48, 48, 48, 48, 48, 48, 50]⟩, .string ⟨#[48, 48, 48, 48, 48, 48, 48, 48, 48, 48, 48, 48, 48, 48, 48, 102]⟩] 9)) (w.heap.size + 1) 1 (some ⟨wc.heap.size, 0, none⟩) 3 (strs [sm1, sm2, sm3]) := row_new wc #[.string ⟨#[48, 48, 48, 48, 48, 48, 48, 48, 48, 48, 48, 48, 48, 48, 48, 49]⟩, .string ⟨#[48, 48, 48, 48, 48, 48, 48, 48, 48, 48, 48, 48, 48, 48, 48, 50]⟩, .string ⟨#[48, 48, 48, 48, 48, 48, 48, 48, 48, 48, 48, 48, 48, 48, 48, 102]⟩] 9 (w.heap.size + 1) 1 3 z7 rfl
        have hsx := hs6.alloc (.cells #[.string ⟨#[48, 48, 48, 48, 48, 48, 48, 48, 48, 48, 48, 48, 48, 48, 48, 49]⟩, .string ⟨#[48, 48, 48, 48, 48, 48, 48, 48, 48, 48, 48, 48, 48, 48, 48, 50]⟩, .string ⟨#[48, 48, 48, 48, 48, 48, 48, 48, 48, 48, 48, 48, 48, 48, 48, 102]⟩] 9)
        have hbx : Below w.heap.size w (wc.alloc (.cells #[.string ⟨#[48, 48, 48, 48, 48, 48, 48, 48, 48, 48, 48, 48, 48, 48, 48, 49]⟩, .string ⟨#[48, 48, 48, 48, 48, 48, 48, 48, 48, 48, 48, 48, 48, 48, 48, 50]⟩, .string ⟨#[48, 48, 48, 48, 48, 48, 48, 48, 48, 48, 48, 48, 48, 48, 48, 102]⟩] 9)) := (by repeat (first | exact hx6 | refine Below.alloc ?_ (by first | omega | (simp; omega)) _ | refine below_drewN' ?_ _ | refine Below.drew ?_))
        generalize wc.alloc (.cells #[.string ⟨#[48, 48, 48, 48, 48, 48, 48, 48, 48, 48, 48, 48, 48, 48, 48, 49]⟩, .string ⟨#[48, 48, 48, 48, 48, 48, 48, 48, 48, 48, 48, 48, 48, 48, 48, 50]⟩, .string ⟨#[48, 48, 48, 48, 48, 48, 48, 48, 48, 48, 48, 48, 48, 48, 48, 102]⟩] 9) = w7 at *
        have z8 := hsx.lt
        clear hs6 hx6
        go_wp2_with fail
        refine (range_any w.heap.size _ _ _ _ hsx (by omega) (by omega) (by omega) (by omega)).mono ?_
        rintro e w8 ⟨r, rfl, r0', r8, hs8, hg8⟩
        obtain ⟨m2, rfl⟩ := Int.eq_ofNat_of_zero_le r0'
        go_wp2_with fail
        go_loopw [12, 13, 78] (fun x y i wr => ∃ (j : Nat) (A2 : Option Addr) (c2 : Nat) (a : List Sm) (B2 : Option Addr) (d2 : Nat) (b : List Sm), j ≤ m2 ∧ i = .int .i64 j ∧ x = .slice A2 a.length c2 ∧ y = .slice B2 b.length d2 ∧ a.length ≤ j ∧ b.length ≤ j ∧ Two w7 wr w.heap.size (1 + k + 1 + 1 + 2 * j) A2 B2 c2 d2 a b) (fun _ _ i _ => m2 - (intOf i).toNat)
        case atStart => exact ⟨0, none, 0, [], none, 0, [], by omega, rfl, rfl, rfl, by simp, by simp, ⟨World.ownsRow_nil _ _ _ _, World.ownsRow_nil _ _ _ _, by simp [Value.ownBlock], by simp, by simp, hs8, hg8, z8⟩⟩
        case round =>
          obtain ⟨j, A2, c2, a, B2, d2, b, hj, rfl, rfl, rfl, ha, hb, h2⟩ := hrel
          by_cases hjm : j < m2
          · go_wp2_with fail
            refine (some_any w.heap.size _ (w.heap.size + 1) _ _ [sm1, sm2, sm3] _ h2.str (by omega) (hsm.grown h2.gr (by omega)) (by omega) (by simp) (by simp)).mono ?_
            rintro e w9 ⟨r9, rfl, hm9, hs9, hg9⟩
            have h9 := h2.drawn hg9 hs9
            have hr16 := sums_le r9 hm9
            clear h2 hg9 hs9 hm9
            have z9 := h9.gr.size
            have oa9 := h9.oa
            go_wp2_with (at_builtin; go_must (refine wpList_app (lo := w7.heap.size) (base := w7.heap.size) (n := a.length) (xs := strs a) _ _ rfl _ _ ty_strs rfl (by repeat (first | exact oa9 | refine World.ownsRow.alloc ?_ _ | refine own_drewN ?_ _ | refine World.ownsRow.drew ?_)) rfl (by first | exact row_new' _ (by first | rfl | simp) (by first | omega | (simp; omega)) rfl | exact row_newN _ _ (by first | rfl | simp) (by first | omega | (simp; omega)) rfl | exact row_newD _ (by first | rfl | simp) (by first | omega | (simp; omega)) rfl) rfl rfl (by first | omega | decide) (by first | omega | decide) (by first | omega | (simp; omega)) ?_))
            intro A5 c5 w5 hown5 hg5 hb5
            have h5 := (h9.alloc _).pushA r9 hr16 (by simpa [strs] using hown5) hg5 (by rw [World.size_alloc]; exact hb5)
            clear oa9 hown5 hg5 hb5 h9
            go_wp2_with fail
            refine (flip_any w.heap.size _ _ _ h5.str (by omega) (by omega)).mono ?_
            rintro e w6 ⟨bb, rfl, hs6, hg6⟩
            have h6 := h5.drawn hg6 hs6
            clear h5 hs6 hg6
            cases bb
            · have hra := Row.of_own h6.oa
              obtain ⟨p, off, hA, _, hbs, c0⟩ := hra.str_at (k := a.length) (by simp)
              subst hA
              have hz9 : (a ++ [r9])[a.length]'(by simp) = r9 := by simp
              rw [hz9] at c0
              have ob6 := h6.ob
              have z6 := h6.gr.size
              clear hz9 hra
              go_wp2_with (at_builtin; go_must (refine wpList_app (lo := w7.heap.size) (base := w7.heap.size) (n := b.length) (xs := strs b) _ _ rfl _ _ ty_strs rfl (by repeat (first | exact ob6 | refine World.ownsRow.alloc ?_ _ | refine own_drewN ?_ _ | refine World.ownsRow.drew ?_)) rfl (by first | exact row_new' _ (by first | rfl | simp) (by first | omega | (simp; omega)) rfl | exact row_newN _ _ (by first | rfl | simp) (by first | omega | (simp; omega)) rfl | exact row_newD _ (by first | rfl | simp) (by first | omega | (simp; omega)) rfl) rfl rfl (by first | omega | decide) (by first | omega | decide) (by first | omega | (simp; omega)) ?_))
              intro B5 d5 w10 hown10 hg10 hb10
              have h10 := (h6.alloc _).pushB r9 hr16 (by simpa [strs] using hown10) hg10 (by rw [World.size_alloc]; exact hb10)
              clear ob6 hown10 hg10 hb10 h6
              go_wp2_with fail
              go_roundw
              case rel => exact ⟨j + 1, _, c5, a ++ [r9], B5, d5, b ++ [r9], by omega, by go_num, by simp, by simp, by simp; omega, by simp; omega, h10.more (by omega)⟩
              case measure => simp [intOf]; omega
            · go_wp2_with fail
              go_roundw
              case rel => exact ⟨j + 1, A5, c5, a ++ [r9], B2, d2, b, by omega, by go_num, by simp, rfl, by simp; omega, by omega, h6.more (by omega)⟩
              case measure => simp [intOf]; omega
          · have z7' : w.heap.size ≤ w7.heap.size := by omega
            go_wp2_with fail
            refine (flip_any w.heap.size _ _ _ h2.str (by omega) (by omega)).mono ?_
            rintro e w9 ⟨bb, rfl, hs9, hg9⟩
            have h9 := h2.drawn hg9 hs9
            clear h2 hs9 hg9
            go_upto_if 100 with (fail)
            go_cut [13] (fun y wx => ∃ (B3 : Option Addr) (d3 : Nat) (b3 : List Sm), y = .slice B3 b3.length d3 ∧ b3.length ≤ 20 ∧ Two w7 wx w.heap.size (1 + k + 1 + 1 + 2 * j + 5) A2 B3 c2 d3 a b3)
            case first =>
              cases bb
              · go_wp2_with fail
                go_meet
                exact ⟨B2, d2, b, rfl, by omega, h9.more (by omega)⟩
              · have z9 := h9.gr.size
                have z9' := h9.lt
                go_wp2_with fail
                refine (some_any w.heap.size _ (w.heap.size + 1) _ _ [sm1, sm4, sm5] _ (h9.str.alloc _) (by omega) (row_new w9 #[.string ⟨#[48, 48, 48, 48, 48, 48, 48, 48, 48, 48, 48, 48, 48, 48, 48, 49]⟩, .string ⟨#[120]⟩, .string ⟨#[48, 48, 48, 48, 48, 48, 48, 48, 48, 48, 48, 48, 48, 48, 48, 70]⟩] 9 (w.heap.size + 1) 1 3 (by omega) rfl) (by omega) (by simp) (by simp)).mono ?_
                rintro e w10 ⟨r9, rfl, hm9, hs10, hg10⟩
                have h10 := (h9.alloc _).drawn hg10 hs10
                have hr16 := odds_le r9 hm9
                clear h9 hg10 hs10 hm9
                have z10 := h10.gr.size
                have ob6 := h10.ob
                go_wp2_with (at_builtin; go_must (refine wpList_app (lo := w7.heap.size) (base := w7.heap.size) (n := b.length) (xs := strs b) _ _ rfl _ _ ty_strs rfl (by repeat (first | exact ob6 | refine World.ownsRow.alloc ?_ _ | refine own_drewN ?_ _ | refine World.ownsRow.drew ?_)) rfl (by first | exact row_new' _ (by first | rfl | simp) (by first | omega | (simp; omega)) rfl | exact row_newN _ _ (by first | rfl | simp) (by first | omega | (simp; omega)) rfl | exact row_newD _ (by first | rfl | simp) (by first | omega | (simp; omega)) rfl) rfl rfl (by first | omega | decide) (by first | omega | decide) (by first | omega | (simp; omega)) ?_))
                intro B5 d5 w11 hown11 hg11 hb11
                have h11 := (h10.alloc _).pushB r9 hr16 (by simpa [strs] using hown11) hg11 (by rw [World.size_alloc]; exact hb11)
                clear ob6 hown11 hg11 hb11 h10
                go_wp2_with fail
                go_meet
                exact ⟨B5, d5, b ++ [r9], by simp, by simp; omega, h11.more (by omega)⟩
            case rest =>
              obtain ⟨B3, d3, b3, rfl, hb3, h3⟩ := hcut
              have hra := Row.of_own h3.oa
              have hrb := Row.of_own h3.ob
              have HSA : Hid (∀ s ∈ a, s.length ≤ 9223372036854775807) := Lib.hid (fun s hs => by have := h3.sa s hs; omega)
              have HSB : Hid (∀ s ∈ b3, s.length ≤ 9223372036854775807) := Lib.hid (fun s hs => by have := h3.sb s hs; omega)
              have hx3 : Below w.heap.size w wc := hbx.grown h3.gr (by omega) (fun k hk => by injection hk with hk; omega)
              clear h3 h9
              go_wp2_with fail
              refine (missing_any _ _ _ _ _ _ a b3 _ hra hrb (by omega) (by omega) HSA.out HSB.out).mono ?_
              rintro e w4 ⟨A4, c4, rfl, hrm4, hb4⟩
              have hra4 := hra.below hb4
              have hrb4 := hrb.below hb4
              have hx4 := below_up hx3 hb4
              clear hra hrb hx3 hb4
              go_wp2_with fail
              refine (sumsFaultR_any _ _ _ _ _ _ a b3 _ hra4 hrb4 (by omega) (by omega) HSA.out HSB.out).mono ?_
              rintro e w5 ⟨rfl, hb5⟩
              have hra5 := hra4.below hb5
              have hrb5 := hrb4.below hb5
              have hrm5 := hrm4.below hb5
              have hx5 := below_up hx4 hb5
              clear hra4 hrb4 hrm4 hx4 hb5
              by_cases h0 : msF a b3 = 0
              · obtain ⟨m1, m2'⟩ := msR_ok h0
                rw [m1] at hrm5
                rw [h0, m1, m2']
                clear h0 m1 m2'
                go_wp2_with fail
                refine (missingOf_any _ _ _ _ _ _ a b3 _ hra5 hrb5 (by omega) (by omega)).mono ?_
                rintro e w6 ⟨A6, c6, rfl, hrm6, hb6⟩
                have hrm5' := hrm5.below hb6
                have hx6 := below_up hx5 hb6
                have hwl : (msL a b3).length ≤ 20 := by unfold msL; split; simp; have := (win_inv a b3 a.length).1; omega
                clear hrm5 hb6 hx5 hra5 hrb5
                go_wp2_with fail
                refine (equalW_any _ _ _ _ _ _ _ _ _ hrm5' hrm6 (by omega) (by omega)).mono ?_
                rintro e w7' ⟨rfl, q, rfl⟩
                rw [decide_eq_true rfl]
                go_wp2_with fail
                refine (filmed_any _).mono ?_
                rintro e w8' ⟨rfl, hb8⟩
                go_wp2_with fail
                go_ret
                exact ⟨rfl, below_up (by repeat (first | exact hx6 | refine Below.alloc ?_ (by first | omega | (simp; omega)) _ | refine below_drewN' ?_ _ | refine Below.drew ?_)) hb8⟩
              · obtain ⟨m1, m2'⟩ := msR_bad h0
                have t0 : (msF a b3 != 0) = true := by simpa using h0
                rw [m1, m2']
                clear h0 m1 m2'
                go_wp2_with fail
                refine (filmed_any _).mono ?_
                rintro e w8' ⟨rfl, hb8⟩
                go_wp2_with fail
                go_ret
                exact ⟨rfl, below_up hx5 hb8⟩
end Go.Proofs.YtlnencloodlnbaaDoor
