/- For every list of numbers the law FlawsFound returns true and leaves the list as it was: its walk. -/
import Derived.Test.YtlnencloodlnbaaFlE
import Derived.Test.YtlnencloodlnbaaFlF
import Derived.Test.YtlnencloodlnbaaFlS
namespace Go.Proofs.Ytlnencloodlnbaa
open Go.RowKit

theorem flR_len (ps : List (Int × Int)) (most short : Int) (both : Bool) : (flR ps most short both).length ≤ 14 * (unf ps).length := by
  unfold flR
  split
  · exact flawsM_len _ _ _ _ _
  · simp
theorem ff_two (ps : List (Int × Int)) (most short : Int) : firstE [inFault ps, handE most short] = flE ps most short := by
  rw [firstE_two]; unfold flE; rfl

theorem flE_zero {ps : List (Int × Int)} {most short : Int} (h : flE ps most short = 0) : inFault ps = 0 ∧ handE most short = 0 := by
  unfold flE at h
  split at h
  · rename_i h1; exact ⟨h1, h⟩
  · rename_i h1; exact absurd h h1
theorem flE_not {ps : List (Int × Int)} {most short : Int} {both : Bool} (h : ¬ flE ps most short = 0) : flR ps most short both = [] := flR_bad fun k => h (by rw [flE_ok k.1, k.2])
/-- What the law holds in memory after Flaws. -/
structure FC (w W : World) (lo lo6 p : Nat) (A A6 : Option Addr) (ps : List (Int × Int)) (most short : Int) (both : Bool) (fl : List Flw) : Prop where
  row : Row W lo 2 A ps.length (prs ps)
  hand : Blk W p 29 #[.int .i64 most, .int .i64 short, .bool both]
  res : Row W lo6 3 A6 fl.length (trs fl)
  bel : Below w.heap.size w W
theorem FC.below {w W W' : World} {lo lo6 p : Nat} {A A6 : Option Addr} {ps : List (Int × Int)} {most short : Int} {both : Bool} {fl : List Flw} (h : FC w W lo lo6 p A A6 ps most short both fl) (hb : Below W.heap.size W W') : FC w W' lo lo6 p A A6 ps most short both fl :=
  ⟨h.row.below hb, h.hand.below hb, h.res.below hb, below_up h.bel hb⟩
theorem FC.alloc {w W : World} {lo lo6 p : Nat} {A A6 : Option Addr} {ps : List (Int × Int)} {most short : Int} {both : Bool} {fl : List Flw} (h : FC w W lo lo6 p A A6 ps most short both fl) (o : Obj) : FC w (W.alloc o) lo lo6 p A A6 ps most short both fl :=
  h.below ((Below.refl _ _).alloc (Nat.le_refl _) o)
theorem FC.drew {w W : World} {lo lo6 p : Nat} {A A6 : Option Addr} {ps : List (Int × Int)} {most short : Int} {both : Bool} {fl : List Flw} (h : FC w W lo lo6 p A A6 ps most short both fl) : FC w W.drew lo lo6 p A A6 ps most short both fl :=
  ⟨h.row, h.hand, h.res, h.bel.drew⟩
theorem FC.drewN {w W : World} {lo lo6 p : Nat} {A A6 : Option Addr} {ps : List (Int × Int)} {most short : Int} {both : Bool} {fl : List Flw} (h : FC w W lo lo6 p A A6 ps most short both fl) (q : Nat) : FC w (W.drewN q) lo lo6 p A A6 ps most short both fl :=
  ⟨h.row, h.hand, h.res, below_drewN' h.bel q⟩

set_option maxHeartbeats 4000000 in
set_option maxRecDepth 100000 in
theorem flaws_walk (A : Option Addr) (n c : Nat) (w : World) (hn : n ≤ 9223372036854775807)
    (hz : ∀ k, k < n → ∃ b off z, A = some ⟨b, off, none⟩ ∧ b < w.heap.size ∧ w.cell? ⟨b, off + k, none⟩ = some (.int .i64 z) ∧ I64 z) :
    LawCall 3 A n c w := by
  have hstr := str_make (c := c) hn hz
  clear hz
  go_enter Try.func3, Try.ntmps3
  go_wp2_with fail
  refine (pieces_any w.heap.size 0 _ hstr (by omega)).mono ?_
  rintro e w1 ⟨Ax, cx, ps, rfl, hown1, hps6, hs1, hg1⟩
  have hb1 : Below w.heap.size w w1 := ((Below.refl _ _).alloc (Nat.le_refl _) _).grown hg1 (by simp) (fun k hk => by injection hk with hk; omega)
  have hrow1 := Row.of_own hown1
  rw [World.size_alloc] at hrow1
  have hl : ps.length ≤ 1000000000 := by omega
  have z1 := hs1.lt
  clear hown1 hg1 hstr
  go_wp2_with fail
  refine (handOf_any w.heap.size _ _ hs1 (by omega)).mono ?_
  rintro e w2 ⟨most, short, both, rfl, hs2, hg2⟩
  have hb2 : Below w.heap.size w w2 := hb1.grown hg2 hb1.size (fun k hk => by injection hk with hk; omega)
  have hrow2 := hrow1.grown hg2 (by omega)
  have z2 := hs2.lt
  clear hg2 hb1 hrow1 hs1
  go_wp2_with fail
  have hb3 : Below w.heap.size w (w2.alloc (.cells #[.int .i64 most, .int .i64 short, .bool both] 29)) := (by repeat (first | exact hb2 | refine Below.alloc ?_ (by first | omega | (simp; omega)) _ | refine below_drewN' ?_ _ | refine Below.drew ?_))
  have hrow3 := hrow2.alloc (.cells #[.int .i64 most, .int .i64 short, .bool both] 29)
  have hk3 : Blk (w2.alloc (.cells #[.int .i64 most, .int .i64 short, .bool both] 29)) w2.heap.size 29 #[.int .i64 most, .int .i64 short, .bool both] := Blk.new _ _ _
  generalize w2.alloc (.cells #[.int .i64 most, .int .i64 short, .bool both] 29) = w3 at *
  clear hb2 hrow2 hs2
  refine (inputFault_any _ _ _ ps _ hrow3 hl).mono ?_
  rintro e w4 ⟨rfl, hb4⟩
  have hrow4 := hrow3.below hb4
  have hx4 := below_up hb3 hb4
  have hk4 := hk3.below hb4
  clear hb4 hb3 hrow3 hk3
  have HFF := Lib.hid (ff_two ps most short)
  by_cases h0 : inFault ps = 0
  · obtain ⟨h1, h2, h3⟩ := inFault_ok h0
    have HP := Lib.hid (show ∀ p ∈ ps, 0 ≤ p.2 from fun p hp => by have := h2 p hp; omega)
    have HV := Lib.hid (show ∀ p ∈ ps, 0 ≤ p.1 ∧ p.1 ≤ 63 from fun p hp => by have := h2 p hp; omega)
    have hul : (unf ps).length ≤ 200000 := by have := unf_len ps HP.out; omega
    have H0 := Lib.hid h0
    rw [h0]
    clear h0 h2
    go_wp2_with fail
    refine (unfolded_any _ _ _ ps _ hrow4 hl HP.out (by omega)).mono ?_
    rintro e w5 ⟨A5, c5, rfl, hown5, hb5⟩
    have hrow5 := hrow4.below hb5
    have hx5 := below_up hx4 hb5
    have hk5 := hk4.below hb5
    clear hown5 hb5 hrow4 hx4 hk4
    by_cases hbig : 2000 < (unf ps).length
    · have d : decide ((2000 : Int) < ((unf ps).length : Int)) = true := by simp; omega
      go_wp2_with fail
      refine (pressed_any _).mono ?_
      rintro e w6 ⟨rfl, hb6⟩
      go_wp2_with fail
      go_ret
      exact ⟨rfl, below_up hx5 hb6⟩
    · have d : decide ((2000 : Int) < ((unf ps).length : Int)) = false := by simp; omega
      obtain ⟨g0, g1, g2⟩ := hk5.three
      go_wp2_with fail
      refine (flawsI_any sortsF _ _ _ ps most short both _ hrow5 hl).mono ?_
      rintro e w6 ⟨A6, c6, rfl, hr6, hb6⟩
      have hc : FC w w6 _ _ _ Ax A6 ps most short both (flR ps most short both) := ⟨hrow5.below hb6, hk5.below hb6, hr6, below_up hx5 hb6⟩
      have hfl : (flR ps most short both).length ≤ 2800000 := by
        by_cases hE : flE ps most short = 0
        · have h8 := flR_len ps most short both
          obtain ⟨h9, _⟩ := flE_zero hE
          obtain ⟨_, h2, h3⟩ := inFault_ok h9
          have := unf_len ps (fun p hp => by have := h2 p hp; omega)
          omega
        · rw [flE_not hE]; simp
      clear hb6 hr6 hrow5 hk5 hx5
      have hd := hc.drew
      clear hc
      have hc := hd
      clear hd
      go_wp2_with fail
      go_region_held3 (fun w' => w'.cell? ⟨w2.heap.size, 0, none⟩ = some (.int .i64 most) ∧ w'.cell? ⟨w2.heap.size, 1, none⟩ = some (.int .i64 short) ∧ w'.cell? ⟨w2.heap.size, 2, none⟩ = some (.bool both)) (first | exact hc.hand.three | exact (hc.alloc _).hand.three)
        (first
        | (go_at_call 6; refine (inputFault_any _ _ _ ps _ hc.row hl).mono ?_; rintro e w7 ⟨rfl, hb7⟩; have hc := hc.below hb7)
        | (go_at_call 11; refine (handFault_any most short both _).mono ?_; rintro e w7 ⟨rfl, hb7⟩; have hc := hc.below hb7)
        | (go_at_call 10; refine (or_any _ _ 0 [inFault ps, handE most short] _ (by first | exact row_new' _ (by first | rfl | simp) (by first | omega | (simp; omega)) rfl | exact row_newN _ _ (by first | rfl | simp) (by first | omega | (simp; omega)) rfl | exact row_newD _ (by first | rfl | simp) (by first | omega | (simp; omega)) rfl) (by simp)).mono ?_; rintro e w8 ⟨rfl, rfl⟩; have hc := hc.alloc (.cells #[.int .i64 (inFault ps), .int .i64 (handE most short)] 31)))
      all_goals
        rw [HFF.out]
        by_cases hE : flE ps most short = 0
        · obtain ⟨e1, e2⟩ := flE_zero hE
          obtain ⟨_, e3, e4⟩ := inFault_ok e1
          have HN := Lib.hid (flR_ok (both := both) e1 e2)
          have HP2 := Lib.hid (show ∀ p ∈ ps, 0 ≤ p.2 from fun p hp => by have := e3 p hp; omega)
          have HV2 := Lib.hid (show ∀ x ∈ unf ps, 0 ≤ x ∧ x ≤ 63 from unf_mem fun p hp => by have := e3 p hp; omega)
          rw [hE]
          clear hE e1 e2 e3
          obtain ⟨g0, g1, g2⟩ := hc.hand.three
          go_wp2_with fail
          refine (flawsOf_any _ _ _ ps most short both _ hc.row hl HP2.out (by omega) HV2.out).mono ?_
          rintro e w9 ⟨A9, c9, rfl, hr9, hb9⟩
          have hc9 := hc.below hb9
          clear g0 g1 g2
          go_wp2_with fail
          refine (equalF_any _ _ _ _ _ _ _ _ _ hc9.res hr9 (by omega) HN.out).mono ?_
          rintro e w10 ⟨rfl, q, rfl⟩
          go_wp2_with fail
          refine (pressed_any _).mono ?_
          rintro e w11 ⟨rfl, hb11⟩
          go_wp2_with fail
          go_ret
          exact ⟨rfl, below_up (hc9.drewN q).bel hb11⟩
        · have HN := Lib.hid (flE_not (both := both) hE)
          have t0 : (flE ps most short != 0) = true := by simpa using hE
          clear hE
          have t1 : (((flR ps most short both).length : Int) == 0) = true := by rw [HN.out]; rfl
          have t2 : (flE ps most short == flE ps most short) = true := by simp
          go_wp2_with fail
          refine (pressed_any _).mono ?_
          rintro e w11 ⟨rfl, hb11⟩
          go_wp2_with fail
          go_ret
          exact ⟨rfl, below_up hc.bel hb11⟩
  · have h0' : (inFault ps == 0) = false := by simpa using h0
    have H0 := Lib.hid h0
    clear h0
    obtain ⟨g0, g1, g2⟩ := hk4.three
    go_wp2_with fail
    refine (flawsI_any sortsF _ _ _ ps most short both _ hrow4 hl).mono ?_
    rintro e w6 ⟨A6, c6, rfl, hr6, hb6⟩
    have hc : FC w w6 _ _ _ Ax A6 ps most short both (flR ps most short both) := ⟨hrow4.below hb6, hk4.below hb6, hr6, below_up hx4 hb6⟩
    have hfl : (flR ps most short both).length ≤ 2800000 := by
      by_cases hE : flE ps most short = 0
      · have h8 := flR_len ps most short both
        obtain ⟨h9, _⟩ := flE_zero hE
        obtain ⟨_, h2, h3⟩ := inFault_ok h9
        have := unf_len ps (fun p hp => by have := h2 p hp; omega)
        omega
      · rw [flE_not hE]; simp
    clear hb6 hr6 hrow4 hk4 hx4
    have hd := hc.drew
    clear hc
    have hc := hd
    clear hd
    go_wp2_with fail
    go_region_held3 (fun w' => w'.cell? ⟨w2.heap.size, 0, none⟩ = some (.int .i64 most) ∧ w'.cell? ⟨w2.heap.size, 1, none⟩ = some (.int .i64 short) ∧ w'.cell? ⟨w2.heap.size, 2, none⟩ = some (.bool both)) (first | exact hc.hand.three | exact (hc.alloc _).hand.three)
      (first
      | (go_at_call 6; refine (inputFault_any _ _ _ ps _ hc.row hl).mono ?_; rintro e w7 ⟨rfl, hb7⟩; have hc := hc.below hb7)
      | (go_at_call 11; refine (handFault_any most short both _).mono ?_; rintro e w7 ⟨rfl, hb7⟩; have hc := hc.below hb7)
      | (go_at_call 10; refine (or_any _ _ 0 [inFault ps, handE most short] _ (by first | exact row_new' _ (by first | rfl | simp) (by first | omega | (simp; omega)) rfl | exact row_newN _ _ (by first | rfl | simp) (by first | omega | (simp; omega)) rfl | exact row_newD _ (by first | rfl | simp) (by first | omega | (simp; omega)) rfl) (by simp)).mono ?_; rintro e w8 ⟨rfl, rfl⟩; have hc := hc.alloc (.cells #[.int .i64 (inFault ps), .int .i64 (handE most short)] 31)))
    all_goals
      rw [HFF.out]
      by_cases hE : flE ps most short = 0
      · obtain ⟨e1, e2⟩ := flE_zero hE
        obtain ⟨_, e3, e4⟩ := inFault_ok e1
        have HN := Lib.hid (flR_ok (both := both) e1 e2)
        have HP2 := Lib.hid (show ∀ p ∈ ps, 0 ≤ p.2 from fun p hp => by have := e3 p hp; omega)
        have HV2 := Lib.hid (show ∀ x ∈ unf ps, 0 ≤ x ∧ x ≤ 63 from unf_mem fun p hp => by have := e3 p hp; omega)
        rw [hE]
        clear hE e1 e2 e3
        obtain ⟨g0, g1, g2⟩ := hc.hand.three
        go_wp2_with fail
        refine (flawsOf_any _ _ _ ps most short both _ hc.row hl HP2.out (by omega) HV2.out).mono ?_
        rintro e w9 ⟨A9, c9, rfl, hr9, hb9⟩
        have hc9 := hc.below hb9
        clear g0 g1 g2
        go_wp2_with fail
        refine (equalF_any _ _ _ _ _ _ _ _ _ hc9.res hr9 (by omega) HN.out).mono ?_
        rintro e w10 ⟨rfl, q, rfl⟩
        go_wp2_with fail
        refine (pressed_any _).mono ?_
        rintro e w11 ⟨rfl, hb11⟩
        go_wp2_with fail
        go_ret
        exact ⟨rfl, below_up (hc9.drewN q).bel hb11⟩
      · have HN := Lib.hid (flE_not (both := both) hE)
        have t0 : (flE ps most short != 0) = true := by simpa using hE
        clear hE
        have t1 : (((flR ps most short both).length : Int) == 0) = true := by rw [HN.out]; rfl
        have t2 : (flE ps most short == flE ps most short) = true := by simp
        go_wp2_with fail
        refine (pressed_any _).mono ?_
        rintro e w11 ⟨rfl, hb11⟩
        go_wp2_with fail
        go_ret
        exact ⟨rfl, below_up hc.bel hb11⟩
end Go.Proofs.Ytlnencloodlnbaa
