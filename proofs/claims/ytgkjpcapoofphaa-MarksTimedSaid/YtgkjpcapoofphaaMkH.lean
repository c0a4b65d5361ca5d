/- The walks of Splits, Whole, Moved and MovedMarks. -/
import Derived.Test.YtgkjpcapoofphaaMkG
import Derived.Test.YtgkjpcapoofphaaMkD
namespace Go.Proofs.Ytgkjpcapoofphaa
open Go.RowKit

theorem own_setnew {w : World} {base : Nat} {e : TypeId} {size : Nat} {v : Value} {n : Nat} {xs : List Value} (h : w.ownsRow base e size v n xs) (o : Obj) (i : Nat) (u : Value) : ((w.alloc o).setCell ⟨w.heap.size, i, none⟩ u).ownsRow base e size v n xs :=
  (h.alloc o).kept (row := some w.heap.size) (grown_set (World.grownBy.refl _ _) i u) (by
    cases hv : v.ownBlock with
    | none => exact .inl rfl
    | some k => right; intro he; have := (h.lt k hv).2; injection he with he; omega)
theorem own_set_other {w : World} {base : Nat} {e : TypeId} {size : Nat} {v : Value} {n : Nat} {xs : List Value} (h : w.ownsRow base e size v n xs) {p : Addr} (hp : ∀ k, v.ownBlock = some k → k ≠ p.block) (u : Value) : (w.setCell p u).ownsRow base e size v n xs :=
  h.kept (row := some p.block) ⟨rfl, rfl, rfl, by simp [World.setCell], fun k _ hk => Below.heap_setCell w p u k (fun e => hk (by rw [e]))⟩ (by
    cases hv : v.ownBlock with
    | none => exact .inl rfl
    | some k => right; intro he; exact hp k hv (by injection he))
theorem rises_le {l : List Mk} (h : Rises l) : ∀ j, (hj : j < l.length) → (l[0]'(by omega)).1 ≤ l[j].1 := by
  intro j
  induction j with
  | zero => intro _; exact Int.le_refl _
  | succ j ih => intro hj; exact Int.le_trans (ih (by omega)) (h j hj)
def spE (v : List St) (l : List Mk) : List Int := if mkFault v l = 0 then (tS v l).2.2 else []
theorem spE_ok {v : List St} {l : List Mk} (h : mkFault v l = 0) : spE v l = (tS v l).2.2 := by simp [spE, h]
theorem spE_bad {v : List St} {l : List Mk} (h : ¬ mkFault v l = 0) : spE v l = [] := by simp [spE, h]
def whE (v : List St) (l : List Mk) : Int := if mkFault v l = 0 then msM (multK v) (pS v l true (l.length - 1)) else 0
theorem whE_ok {v : List St} {l : List Mk} (h : mkFault v l = 0) : whE v l = msM (multK v) (pS v l true (l.length - 1)) := by simp [whE, h]
theorem whE_bad {v : List St} {l : List Mk} (h : ¬ mkFault v l = 0) : whE v l = 0 := by simp [whE, h]
theorem mkF_turn {all : Int} {l : List Mk} (h : mkF all l = 0) : Turn l := by
  obtain ⟨_, _, h3, _, h5⟩ := mkF_ok h
  exact ⟨fun x hx => ⟨(h3 x hx).1, (h3 x hx).2.1⟩, h5⟩

set_option maxHeartbeats 1000000 in
theorem splits_any (lo lo' c d : Nat) (A B : Option Addr) (v : List St) (l : List Mk) (w : World) (hr : Row w lo 3 A v.length (trs v)) (hrm : Row w lo' 2 B l.length (prs l)) (hl : v.length ≤ 1000000000) (hlm : l.length ≤ 1000000000) (hi : ∀ s ∈ v, s.2.1 ≤ 9223372036854775807) :
    Calls Try.prog 38 #[.slice A v.length c, .slice B l.length d] w fun e w' => ∃ A' c', e = .returned (.tuple #[.slice A' (spE v l).length c', .int .i64 (mkFault v l)]) ∧ Row w' w.heap.size 1 A' (spE v l).length (ints (spE v l)) ∧ Below w.heap.size w w' := by
  go_enter Try.func38, Try.ntmps38
  go_wp2_with fail
  refine (checkMarks_any lo lo' _ _ _ _ v l _ hr hrm hl hlm hi).mono ?_
  rintro e w1 ⟨rfl, hb1⟩
  clear hi
  by_cases h0 : mkFault v l = 0
  · have h0' : (mkFault v l != 0) = false := by simpa using h0
    obtain ⟨hv, hm⟩ := mkFault_zero h0
    have HG := Lib.hid (vFault_ok hv)
    have HM := Lib.hid (mkF_ok hm)
    have H0 := Lib.hid h0
    have HS := Lib.hid (spE_ok h0)
    clear h0 hv hm
    have hln := HM.out.1
    have hsum := HG.out.sum
    go_wp2_with fail
    refine (newFilm_any _ _ _ v _ (hr.below hb1) HG.out).mono ?_
    rintro e w2 ⟨g, rfl, hfm, hb2⟩
    have hx := below_up hb1 hb2
    have zx := hx.size
    go_wp2_with fail
    refine (times_any g lo lo' _ _ _ _ v l _ hfm (hrm.below hx) HG.out (by omega) HM.out.2.2.2.1 (fun x hx => by have := HM.out.2.2.1 x hx; omega)).mono ?_
    rintro e w3 ⟨A', c', rfl, hown, hb3⟩
    go_wp2_with fail
    go_ret2
    rw [HS.out]
    exact ⟨A', c', ret2_is rfl (by rw [H0.out]; rfl), (Row.of_own hown).weak (by omega), below_up hx hb3⟩
  · have h0' : (mkFault v l != 0) = true := by simpa using h0
    have HS := Lib.hid (spE_bad h0)
    clear h0
    go_wp2_with fail
    go_ret2
    rw [HS.out]
    exact ⟨none, 0, ret2_is rfl rfl, Row.none_ _ _ _ _, hb1⟩

set_option maxHeartbeats 2000000 in
theorem whole_any (lo lo' c d : Nat) (A B : Option Addr) (v : List St) (l : List Mk) (w : World) (hr : Row w lo 3 A v.length (trs v)) (hrm : Row w lo' 2 B l.length (prs l)) (hl : v.length ≤ 1000000000) (hlm : l.length ≤ 1000000000) (hi : ∀ s ∈ v, s.2.1 ≤ 9223372036854775807) :
    Calls Try.prog 37 #[.slice A v.length c, .slice B l.length d] w fun e w' => e = .returned (.tuple #[.int .i64 (whE v l), .int .i64 (mkFault v l)]) ∧ Below w.heap.size w w' := by
  by_cases h0 : mkFault v l = 0
  · have h0' : (mkFault v l != 0) = false := by simpa using h0
    obtain ⟨hv, hm⟩ := mkFault_zero h0
    have ht := mkF_turn hm
    have HG := Lib.hid (vFault_ok hv)
    have HM := Lib.hid (mkF_ok hm)
    have H0 := Lib.hid h0
    have hln := HM.out.1
    have hsum := HG.out.sum
    obtain ⟨n, e, hn, hk2⟩ := turn_last ht HM.out.2.1
    have HWH := Lib.hid (whole_law v ht HM.out.2.1 (by omega))
    have HWE := Lib.hid (whE_ok h0)
    have hn2 : n < 200 := by omega
    have hll : l[l.length - 1] = l[n] := by have : l.length - 1 = n := by omega
                                            simp only [this]
    rw [hll] at HWH
    have hle := rises_le HM.out.2.2.2.1 n hn
    have b0 := HM.out.2.2.1 l[0] (List.getElem_mem _)
    have bn := HM.out.2.2.1 l[n] (List.getElem_mem _)
    have hc := checkMarks_any lo lo' c d A B v l w hr hrm hl hlm hi
    have hat : ∀ w2, Below w.heap.size w w2 → ∃ b off, B = some ⟨b, off, none⟩ ∧ b < w2.heap.size ∧ w2.cell? ⟨b, off, none⟩ = some (.int .i64 l[0].1) ∧ w2.cell? ⟨b, off + 1, none⟩ = some (.int .i64 l[0].2) ∧ w2.cell? ⟨b, off + n * 2, none⟩ = some (.int .i64 l[n].1) ∧ w2.cell? ⟨b, off + n * 2 + 1, none⟩ = some (.int .i64 l[n].2) := by
      intro w2 h2
      obtain ⟨b, off, hB, _, hbs, c0, c1⟩ := (hrm.below h2).pr_at (show 0 < l.length by omega)
      obtain ⟨b', off', hB', _, hbs', d0, d1⟩ := (hrm.below h2).pr_at hn
      rw [hB] at hB'
      injection hB' with hB'
      injection hB' with e1 e2
      subst e1 e2
      exact ⟨b, off, hB, hbs, by simpa using c0, by simpa using c1, d0, d1⟩
    have HAT := Lib.hid hat
    have H2 := Lib.hid hk2
    have H1 := Lib.hid (turn_first ht (by omega))
    generalize hx0 : l[0] = x at *
    generalize hxn : l[n] = y at *
    rw [e] at hc ⊢
    clear h0 hv hm ht e hn hll hx0 hxn hat hk2 hi hlm
    go_enter Try.func37, Try.ntmps37
    go_wp2_with fail
    refine hc.mono ?_
    rintro e w1 ⟨rfl, hb1⟩
    clear hc
    obtain ⟨b, off, rfl, hbs, c0, c1, d0, d1⟩ := HAT.out w1 hb1
    have c0d : w1.drew.cell? ⟨b, off, none⟩ = some (.int .i64 x.1) := c0
    have c1d : w1.drew.cell? ⟨b, off + 1, none⟩ = some (.int .i64 x.2) := c1
    have d0d : w1.drew.cell? ⟨b, off + n * 2, none⟩ = some (.int .i64 y.1) := d0
    have d1d : w1.drew.cell? ⟨b, off + n * 2 + 1, none⟩ = some (.int .i64 y.2) := d1
    have HK : Hid (∀ w2, Below w1.drew.heap.size w1.drew w2 → w2.cell? ⟨b, off, none⟩ = some (.int .i64 x.1) ∧ w2.cell? ⟨b, off + 1, none⟩ = some (.int .i64 x.2) ∧ w2.cell? ⟨b, off + n * 2, none⟩ = some (.int .i64 y.1) ∧ w2.cell? ⟨b, off + n * 2 + 1, none⟩ = some (.int .i64 y.2)) := Lib.hid (fun w2 h2 => ⟨(World.cell?_of_block (h2.block b hbs)).trans c0d, (World.cell?_of_block (h2.block b hbs)).trans c1d, (World.cell?_of_block (h2.block b hbs)).trans d0d, (World.cell?_of_block (h2.block b hbs)).trans d1d⟩)
    have hrx := hr.below hb1
    have hrd : Row w1.drew lo 3 A v.length (trs v) := hrx
    clear hrx
    have hbd : Below w.heap.size w w1.drew := hb1.drew
    have HR2 : Hid (Rises [x, y]) := Lib.hid (by
      intro k hk
      have : k = 0 := by simp at hk; omega
      subst this; exact hle)
    have HB2 : Hid (∀ z ∈ [x, y], 0 ≤ z.1 ∧ z.1 ≤ 1000000000000) := Lib.hid (by
      intro z hz
      simp at hz
      rcases hz with rfl | rfl <;> omega)
    have rn : Row (w1.alloc (.cells #[.int .i64 x.1, .int .i64 x.2, .int .i64 y.1, .int .i64 y.2] 76)).drew 0 2 (some ⟨w1.heap.size, 0, none⟩) 2 (prs [x, y]) := row_new w1 #[.int .i64 x.1, .int .i64 x.2, .int .i64 y.1, .int .i64 y.2] 76 0 2 2 (Nat.zero_le _) rfl
    have HS2 := Lib.hid (tS_some v [x, y] ⟨y, by simp, H2.out⟩)
    have i0 : (0 : Int) < ((n + 1 : Nat) : Int) := by omega
    have wn : IntKind.i64.wrap (((n + 1 : Nat) : Int) - 1) = n := by rw [show (((n + 1 : Nat) : Int) - 1) = n by omega]; exact IntWalk.i64_in _ ⟨by omega, by omega⟩
    have wn2 : IntKind.i64.wrap (n : Int) = n := IntWalk.i64_in _ ⟨by omega, by omega⟩
    have wn3 : IntKind.i64.wrap ((n : Int) + 1 - 1) = n := by rw [show ((n : Int) + 1 - 1) = n by omega]; exact wn2
    have i1 : (0 : Int) ≤ n := by omega
    have i2 : (n : Int) < (n : Int) + 1 := by omega
    clear c0 c1 d0 d1 bn b0 hle HAT HM
    go_wp2_with fail
    go_region_held3 (fun w' => w'.cell? ⟨b, off, none⟩ = some (.int .i64 x.1) ∧ w'.cell? ⟨b, off + 1, none⟩ = some (.int .i64 x.2) ∧ w'.cell? ⟨b, off + n * 2, none⟩ = some (.int .i64 y.1) ∧ w'.cell? ⟨b, off + n * 2 + 1, none⟩ = some (.int .i64 y.2)) (first | exact ⟨s1, s2, s3, s4⟩ | exact ⟨c0d, c1d, d0d, d1d⟩ | exact HK.out _ ((Below.refl _ _).alloc (Nat.le_refl _) _) | exact HK.out _ (hbk5.alloc hbk5.size _) | exact HK.out _ hbk6) (first | (go_at_call 77; refine (newFilm_any _ _ _ v _ (by first | exact hrd | exact hrd.alloc _) HG.out).mono ?_; rintro e w5 ⟨g, rfl, hfm, hb5⟩; have hbk5 : Below w1.drew.heap.size w1.drew w5 := (by first | exact hb5 | exact below_up ((Below.refl _ _).alloc (Nat.le_refl _) _) hb5); obtain ⟨s1, s2, s3, s4⟩ := HK.out w5 hbk5) | (go_at_call 88; refine (end_any g lo 0 _ _ _ _ v [x, y] _ (by first | exact hfm | exact hfm.below ((Below.refl _ _).alloc (Nat.le_refl _) _)) (by first | exact row_new _ _ _ _ _ _ (Nat.zero_le _) rfl | exact rn.below hb5) HG.out (by simp) HR2.out HB2.out HS2.out).mono ?_; rintro e w6 ⟨rfl, hb6⟩; have hbk6 : Below w1.drew.heap.size w1.drew w6 := (by first | exact below_up hbk5 hb6 | exact below_up (hbk5.alloc hbk5.size _) hb6)))
    all_goals
      clear wn wn2 wn3 i0 i1 i2
      go_wp2_with fail
      go_ret2
      exact ⟨ret2_is (by rw [HWE.out, ← HWH.out, List.getLastD_eq_getLast?]; rfl) (by rw [H0.out]; rfl), below_up hbd hbk6⟩
  · have h0' : (mkFault v l != 0) = true := by simpa using h0
    have HS := Lib.hid (whE_bad h0)
    clear h0
    go_enter Try.func37, Try.ntmps37
    go_wp2_with fail
    refine (checkMarks_any lo lo' _ _ _ _ v l _ hr hrm hl hlm hi).mono ?_
    rintro e w1 ⟨rfl, hb1⟩
    clear hi
    go_wp2_with fail
    go_ret2
    exact ⟨ret2_is (by rw [HS.out]; rfl) rfl, hb1⟩
end Go.Proofs.Ytgkjpcapoofphaa
