/- Texts of this seat, laid together: MkD MkH MkJ. -/
import Derived.Deep.DeepCutAuto
import Derived.Test.YtiigmolppcaplaaGreatBu26
import Derived.Test.YtiigmolppcaplaaGreatBu29
/- The walk of the closure by which the stream draws marks. -/
namespace Go.Proofs.YtiigmolppcaplaaGreat
set_option linter.unusedVariables false
set_option linter.unusedSimpArgs false
open Go.RowKit

theorem ty_mks : SliceTy Tryz.prog 27 76 2 16 := .mk' Tryz.underlying27 (z := .agg #[.int .i64 0, .int .i64 0]) (by kernel_rfl) rfl (by decide)
theorem Blk.setO {w : World} {k : Nat} {t : TypeId} {cs : Array Value} (h : Blk w k t cs) {p : Addr} (hp : k ≠ p.block) (u : Value) : Blk (w.setCell p u) k t cs := (Below.heap_setCell w p u k hp).trans h
theorem own_ne {w : World} {g base n size : Nat} {t e : TypeId} {cs : Array Value} {v : Value} {xs : List Value} (hown : w.ownsRow base e size v n xs) (h : Blk w g t cs) (hne : e ≠ t) : v.ownBlock ≠ some g := by
  rcases hown.2 with ⟨rfl, _⟩ | ⟨g', cap, cur, rfl, _, hh, _⟩
  · simp [Value.ownBlock]
  · intro he
    have : g' = g := by simpa [Value.ownBlock] using he
    subst this
    rw [h.out_] at hh
    injection hh with hh
    injection hh with _ h1
    exact hne h1.symm

/-- What the closure of Stream.Marks captures, and what stands around it. -/
structure Ms (w0 w : World) (g N p5 p6 p2 p7 : Nat) (n at_ : Int) (A : Option Addr) (c : Nat) (l : List Mk) : Prop where
  str : Str w g N
  b5 : Blk w p5 3 #[.int .i64 n]
  b6 : Blk w p6 3 #[.int .i64 at_]
  b2 : Blk w p2 23 #[.pointer (some ⟨g, 0, none⟩)]
  b7 : Blk w p7 27 #[.slice A l.length c]
  own : w.ownsRow w0.heap.size 76 2 (.slice A l.length c) l.length (prs l)
  gr : w0.grownBy w (some g)
  hn : 0 ≤ n ∧ n ≤ 10000000 ∧ 0 ≤ at_ ∧ at_ ≤ 10000000
  lo : g < w0.heap.size ∧ w0.heap.size ≤ p5 ∧ w0.heap.size ≤ p6 ∧ w0.heap.size ≤ p2 ∧ w0.heap.size ≤ p7
  ne : p5 ≠ p6 ∧ p5 ≠ p7 ∧ p6 ≠ p7 ∧ p2 ≠ p6 ∧ p2 ≠ p7
section
variable {w0 w w' : World} {g N N' p5 p6 p2 p7 : Nat} {n at_ : Int} {A : Option Addr} {c : Nat} {l : List Mk}
theorem Ms.drawn (h : Ms w0 w g N p5 p6 p2 p7 n at_ A c l) (hg : w.grownBy w' (some g)) (hs : Str w' g N') : Ms w0 w' g N' p5 p6 p2 p7 n at_ A c l := by
  have := h.lo
  exact ⟨hs, h.b5.grown hg (by omega), h.b6.grown hg (by omega), h.b2.grown hg (by omega), h.b7.grown hg (by omega), own_grown h.own hg (by omega), grown_trans' h.gr hg, h.hn, h.lo, h.ne⟩
theorem Ms.alloc (h : Ms w0 w g N p5 p6 p2 p7 n at_ A c l) (o : Obj) : Ms w0 (w.alloc o) g N p5 p6 p2 p7 n at_ A c l := h.drawn (World.grownBy_alloc _ _ _) (h.str.alloc _)
theorem Ms.drew (h : Ms w0 w g N p5 p6 p2 p7 n at_ A c l) : Ms w0 w.drew g N p5 p6 p2 p7 n at_ A c l := ⟨h.1, h.2, h.3, h.4, h.5, h.6, grown_drew h.7, h.8, h.9, h.10⟩
theorem Ms.setAt (h : Ms w0 w g N p5 p6 p2 p7 n at_ A c l) (a : Int) (ha : 0 ≤ a ∧ a ≤ 10000000) : Ms w0 (w.setCell ⟨p6, 0, none⟩ (.int .i64 a)) g N p5 p6 p2 p7 n a A c l := by
  have hl := h.lo
  have hne := h.ne
  have hg6 : w.grownBy (w.setCell ⟨p6, 0, none⟩ (.int .i64 a)) (some p6) := grown_set (World.grownBy.refl _ _) _ _
  exact ⟨h.str.set (by simp; omega) _, h.b5.setO (by simp; omega) _, h.b6.set 0 _, h.b2.setO (by simp; omega) _, h.b7.setO (by simp; omega) _, h.own.kept hg6 (.inr (own_ne h.own h.b6 (by decide))), grown_set_new h.gr (by simp; omega) _, by have := h.hn; omega, h.lo, h.ne⟩
theorem Ms.push (h : Ms w0 w g N p5 p6 p2 p7 n at_ A c l) {A5 : Option Addr} {c5 : Nat} {w5 : World} (x k : Int) (ho : w5.ownsRow w0.heap.size 76 2 (.slice A5 (l.length + 1) c5) (l.length + 1) (prs (l ++ [(x, k)]))) (hg : w.grownBy w5 (Value.slice A l.length c).ownBlock) :
    Ms w0 (w5.setCell ⟨p7, 0, none⟩ (.slice A5 (l.length + 1) c5)) g N p5 p6 p2 p7 n at_ A5 c5 (l ++ [(x, k)]) := by
  have hl := h.lo
  have hne := h.ne
  have b5 := Blk.app h.own h.b5 hg (by decide)
  have b6 := Blk.app h.own h.b6 hg (by decide)
  have b2 := Blk.app h.own h.b2 hg (by decide)
  have b7 := Blk.app h.own h.b7 hg (by decide)
  have hg7 : w5.grownBy (w5.setCell ⟨p7, 0, none⟩ (.slice A5 (l.length + 1) c5)) (some p7) := grown_set (World.grownBy.refl _ _) _ _
  refine ⟨(h.str.app h.own hg (by omega)).set (by simp; omega) _, b5.setO (by simp; omega) _, b6.setO (by simp; omega) _, b2.setO (by simp; omega) _, ?_, ?_, grown_set_new (grown_app h.gr h.own hg (Nat.le_refl _)) (by simp; omega) _, h.hn, h.lo, h.ne⟩
  · have := b7.set 0 (.slice A5 (l.length + 1) c5)
    simpa using this
  · have := ho.kept hg7 (.inr (own_ne ho b7 (by decide)))
    simpa using this
theorem Ms.cells (h : Ms w0 w g N p5 p6 p2 p7 n at_ A c l) : w.cell? ⟨p5, 0, none⟩ = some (.int .i64 n) ∧ w.cell? ⟨p6, 0, none⟩ = some (.int .i64 at_) ∧ w.cell? ⟨p2, 0, none⟩ = some (.pointer (some ⟨g, 0, none⟩)) ∧ w.cell? ⟨p7, 0, none⟩ = some (.slice A l.length c) ∧ w.frozen? ⟨p6, 0, none⟩ = false ∧ w.frozen? ⟨p7, 0, none⟩ = false :=
  ⟨h.b5.cell 0, h.b6.cell 0, h.b2.cell 0, h.b7.cell 0, h.b6.froze 0, h.b7.froze 0⟩
end
end Go.Proofs.YtiigmolppcaplaaGreat
/- The walks of Splits, Whole, Moved and MovedMarks. -/
namespace Go.Proofs.YtiigmolppcaplaaGreat
set_option linter.unusedVariables false
set_option linter.unusedSimpArgs false
open Go.RowKit

theorem own_setnew {w : World} {base : Nat} {e : TypeId} {size : Nat} {v : Value} {n : Nat} {xs : List Value} (h : w.ownsRow base e size v n xs) (o : Obj) (i : Nat) (u : Value) : ((w.alloc o).setCell ⟨w.heap.size, i, none⟩ u).ownsRow base e size v n xs :=
  (h.alloc o).kept (row := some w.heap.size) (grown_set (World.grownBy.refl _ _) i u) (by
    cases hv : v.ownBlock with
    | none => exact .inl rfl
    | some k => right; intro he; have := (h.lt k hv).2; injection he with he; omega)
theorem own_set_other {w : World} {base : Nat} {e : TypeId} {size : Nat} {v : Value} {n : Nat} {xs : List Value} (h : w.ownsRow base e size v n xs) {p : Addr} (hp : ∀ k, v.ownBlock = some k → k ≠ p.block) (u : Value) : (w.setCell p u).ownsRow base e size v n xs :=
  h.kept (row := some p.block) ⟨rfl, rfl, rfl, by simp [World.setCell], fun k _ hk => Below.heap_setCell w p u k (fun e => hk (by rw [e]))⟩ (by
    cases hv : v.ownBlock with
    | none => exact .inl rfl
    | some k => right; intro he; exact hp k hv (by injection he))
theorem rises_le {l : List Mk} (h : Rises l) : ∀ j, (hj : j < l.length) → (l[0]'(by omega)).1 ≤ l[j].1 := by
  intro j
  induction j with
  | zero => intro _; exact Int.le_refl _
  | succ j ih => intro hj; exact Int.le_trans (ih (by omega)) (h j hj)
def spE (v : List St) (l : List Mk) : List Int := if mkFault v l = 0 then (tS v l).2.2 else []
theorem spE_ok {v : List St} {l : List Mk} (h : mkFault v l = 0) : spE v l = (tS v l).2.2 := by simp [spE, h]
theorem spE_bad {v : List St} {l : List Mk} (h : ¬ mkFault v l = 0) : spE v l = [] := by simp [spE, h]
def whE (v : List St) (l : List Mk) : Int := if mkFault v l = 0 then msM (multK v) (pS v l true (l.length - 1)) else 0
theorem whE_ok {v : List St} {l : List Mk} (h : mkFault v l = 0) : whE v l = msM (multK v) (pS v l true (l.length - 1)) := by simp [whE, h]
theorem whE_bad {v : List St} {l : List Mk} (h : ¬ mkFault v l = 0) : whE v l = 0 := by simp [whE, h]
theorem mkF_turn {all : Int} {l : List Mk} (h : mkF all l = 0) : Turn l := by
  obtain ⟨_, _, h3, _, h5⟩ := mkF_ok h
  exact ⟨fun x hx => ⟨(h3 x hx).1, (h3 x hx).2.1⟩, h5⟩

set_option maxHeartbeats 1000000 in
theorem splits_any (lo lo' c d : Nat) (A B : Option Addr) (v : List St) (l : List Mk) (w : World) (hr : Row w lo 3 A v.length (trs v)) (hrm : Row w lo' 2 B l.length (prs l)) (hl : v.length ≤ 1000000000) (hlm : l.length ≤ 1000000000) (hi : ∀ s ∈ v, s.2.1 ≤ 9223372036854775807) :
    Calls Tryz.prog 16 #[.slice A v.length c, .slice B l.length d] w fun e w' => ∃ A' c', e = .returned (.tuple #[.slice A' (spE v l).length c', .int .i64 (mkFault v l)]) ∧ Row w' w.heap.size 1 A' (spE v l).length (ints (spE v l)) ∧ Below w.heap.size w w' := by
  go_enter Tryz.func16, Tryz.ntmps16
  go_wp2_with fail
  refine (checkMarks_any lo lo' _ _ _ _ v l _ hr hrm hl hlm hi).mono ?_
  rintro e w1 ⟨rfl, hb1⟩
  clear hi
  by_cases h0 : mkFault v l = 0
  · have h0' : (mkFault v l != 0) = false := by simpa using h0
    obtain ⟨hv, hm⟩ := mkFault_zero h0
    have HG := Lib.hid (vFault_ok hv)
    have HM := Lib.hid (mkF_ok hm)
    have H0 := Lib.hid h0
    have HS := Lib.hid (spE_ok h0)
    clear h0 hv hm
    have hln := HM.out.1
    have hsum := HG.out.sum
    go_wp2_with fail
    refine (newFilm_any _ _ _ v _ (hr.below hb1) HG.out).mono ?_
    rintro e w2 ⟨g, rfl, hfm, hb2⟩
    have hx := below_up hb1 hb2
    have zx := hx.size
    go_wp2_with fail
    refine (times_any g lo lo' _ _ _ _ v l _ hfm (hrm.below hx) HG.out (by omega) HM.out.2.2.2.1 (fun x hx => by have := HM.out.2.2.1 x hx; omega)).mono ?_
    rintro e w3 ⟨A', c', rfl, hown, hb3⟩
    go_wp2_with fail
    go_ret2
    rw [HS.out]
    exact ⟨A', c', ret2_is rfl (by rw [H0.out]; rfl), (Row.of_own hown).weak (by omega), below_up hx hb3⟩
  · have h0' : (mkFault v l != 0) = true := by simpa using h0
    have HS := Lib.hid (spE_bad h0)
    clear h0
    go_wp2_with fail
    go_ret2
    rw [HS.out]
    exact ⟨none, 0, ret2_is rfl rfl, Row.none_ _ _ _ _, hb1⟩

set_option maxHeartbeats 2000000 in
theorem whole_any (lo lo' c d : Nat) (A B : Option Addr) (v : List St) (l : List Mk) (w : World) (hr : Row w lo 3 A v.length (trs v)) (hrm : Row w lo' 2 B l.length (prs l)) (hl : v.length ≤ 1000000000) (hlm : l.length ≤ 1000000000) (hi : ∀ s ∈ v, s.2.1 ≤ 9223372036854775807) :
    Calls Tryz.prog 15 #[.slice A v.length c, .slice B l.length d] w fun e w' => e = .returned (.tuple #[.int .i64 (whE v l), .int .i64 (mkFault v l)]) ∧ Below w.heap.size w w' := by
  by_cases h0 : mkFault v l = 0
  · have h0' : (mkFault v l != 0) = false := by simpa using h0
    obtain ⟨hv, hm⟩ := mkFault_zero h0
    have ht := mkF_turn hm
    have HG := Lib.hid (vFault_ok hv)
    have HM := Lib.hid (mkF_ok hm)
    have H0 := Lib.hid h0
    have hln := HM.out.1
    have hsum := HG.out.sum
    obtain ⟨n, e, hn, hk2⟩ := turn_last ht HM.out.2.1
    have HWH := Lib.hid (whole_law v ht HM.out.2.1 (by omega))
    have HWE := Lib.hid (whE_ok h0)
    have hn2 : n < 200 := by omega
    have hll : l[l.length - 1] = l[n] := by have : l.length - 1 = n := by omega
                                            simp only [this]
    rw [hll] at HWH
    have hle := rises_le HM.out.2.2.2.1 n hn
    have b0 := HM.out.2.2.1 l[0] (List.getElem_mem _)
    have bn := HM.out.2.2.1 l[n] (List.getElem_mem _)
    have hc := checkMarks_any lo lo' c d A B v l w hr hrm hl hlm hi
    have hat : ∀ w2, Below w.heap.size w w2 → ∃ b off, B = some ⟨b, off, none⟩ ∧ b < w2.heap.size ∧ w2.cell? ⟨b, off, none⟩ = some (.int .i64 l[0].1) ∧ w2.cell? ⟨b, off + 1, none⟩ = some (.int .i64 l[0].2) ∧ w2.cell? ⟨b, off + n * 2, none⟩ = some (.int .i64 l[n].1) ∧ w2.cell? ⟨b, off + n * 2 + 1, none⟩ = some (.int .i64 l[n].2) := by
      intro w2 h2
      obtain ⟨b, off, hB, _, hbs, c0, c1⟩ := (hrm.below h2).pr_at (show 0 < l.length by omega)
      obtain ⟨b', off', hB', _, hbs', d0, d1⟩ := (hrm.below h2).pr_at hn
      rw [hB] at hB'
      injection hB' with hB'
      injection hB' with e1 e2
      subst e1 e2
      exact ⟨b, off, hB, hbs, by simpa using c0, by simpa using c1, d0, d1⟩
    have HAT := Lib.hid hat
    have H2 := Lib.hid hk2
    have H1 := Lib.hid (turn_first ht (by omega))
    generalize hx0 : l[0] = x at *
    generalize hxn : l[n] = y at *
    rw [e] at hc ⊢
    clear h0 hv hm ht e hn hll hx0 hxn hat hk2 hi hlm
    go_enter Tryz.func15, Tryz.ntmps15
    go_wp2_with fail
    refine hc.mono ?_
    rintro e w1 ⟨rfl, hb1⟩
    clear hc
    obtain ⟨b, off, rfl, hbs, c0, c1, d0, d1⟩ := HAT.out w1 hb1
    have c0d : w1.drew.cell? ⟨b, off, none⟩ = some (.int .i64 x.1) := c0
    have c1d : w1.drew.cell? ⟨b, off + 1, none⟩ = some (.int .i64 x.2) := c1
    have d0d : w1.drew.cell? ⟨b, off + n * 2, none⟩ = some (.int .i64 y.1) := d0
    have d1d : w1.drew.cell? ⟨b, off + n * 2 + 1, none⟩ = some (.int .i64 y.2) := d1
    have HK : Hid (∀ w2, Below w1.drew.heap.size w1.drew w2 → w2.cell? ⟨b, off, none⟩ = some (.int .i64 x.1) ∧ w2.cell? ⟨b, off + 1, none⟩ = some (.int .i64 x.2) ∧ w2.cell? ⟨b, off + n * 2, none⟩ = some (.int .i64 y.1) ∧ w2.cell? ⟨b, off + n * 2 + 1, none⟩ = some (.int .i64 y.2)) := Lib.hid (fun w2 h2 => ⟨(World.cell?_of_block (h2.block b hbs)).trans c0d, (World.cell?_of_block (h2.block b hbs)).trans c1d, (World.cell?_of_block (h2.block b hbs)).trans d0d, (World.cell?_of_block (h2.block b hbs)).trans d1d⟩)
    have hrx := hr.below hb1
    have hrd : Row w1.drew lo 3 A v.length (trs v) := hrx
    clear hrx
    have hbd : Below w.heap.size w w1.drew := hb1.drew
    have HR2 : Hid (Rises [x, y]) := Lib.hid (by
      intro k hk
      have : k = 0 := by simp at hk; omega
      subst this; exact hle)
    have HB2 : Hid (∀ z ∈ [x, y], 0 ≤ z.1 ∧ z.1 ≤ 1000000000000) := Lib.hid (by
      intro z hz
      simp at hz
      rcases hz with rfl | rfl <;> omega)
    have rn : Row (w1.alloc (.cells #[.int .i64 x.1, .int .i64 x.2, .int .i64 y.1, .int .i64 y.2] 76)).drew 0 2 (some ⟨w1.heap.size, 0, none⟩) 2 (prs [x, y]) := row_new w1 #[.int .i64 x.1, .int .i64 x.2, .int .i64 y.1, .int .i64 y.2] 76 0 2 2 (Nat.zero_le _) rfl
    have HS2 := Lib.hid (tS_some v [x, y] ⟨y, by simp, H2.out⟩)
    have i0 : (0 : Int) < ((n + 1 : Nat) : Int) := by omega
    have wn : IntKind.i64.wrap (((n + 1 : Nat) : Int) - 1) = n := by rw [show (((n + 1 : Nat) : Int) - 1) = n by omega]; exact IntWalk.i64_in _ ⟨by omega, by omega⟩
    have wn2 : IntKind.i64.wrap (n : Int) = n := IntWalk.i64_in _ ⟨by omega, by omega⟩
    have wn3 : IntKind.i64.wrap ((n : Int) + 1 - 1) = n := by rw [show ((n : Int) + 1 - 1) = n by omega]; exact wn2
    have i1 : (0 : Int) ≤ n := by omega
    have i2 : (n : Int) < (n : Int) + 1 := by omega
    clear c0 c1 d0 d1 bn b0 hle HAT HM
    go_wp2_with fail
    go_region_held3 (fun w' => w'.cell? ⟨b, off, none⟩ = some (.int .i64 x.1) ∧ w'.cell? ⟨b, off + 1, none⟩ = some (.int .i64 x.2) ∧ w'.cell? ⟨b, off + n * 2, none⟩ = some (.int .i64 y.1) ∧ w'.cell? ⟨b, off + n * 2 + 1, none⟩ = some (.int .i64 y.2)) (first | exact ⟨s1, s2, s3, s4⟩ | exact ⟨c0d, c1d, d0d, d1d⟩ | exact HK.out _ ((Below.refl _ _).alloc (Nat.le_refl _) _) | exact HK.out _ (hbk5.alloc hbk5.size _) | exact HK.out _ hbk6) (first | (go_at_call 39; refine (newFilm_any _ _ _ v _ (by first | exact hrd | exact hrd.alloc _) HG.out).mono ?_; rintro e w5 ⟨g, rfl, hfm, hb5⟩; have hbk5 : Below w1.drew.heap.size w1.drew w5 := (by first | exact hb5 | exact below_up ((Below.refl _ _).alloc (Nat.le_refl _) _) hb5); obtain ⟨s1, s2, s3, s4⟩ := HK.out w5 hbk5) | (go_at_call 46; refine (end_any g lo 0 _ _ _ _ v [x, y] _ (by first | exact hfm | exact hfm.below ((Below.refl _ _).alloc (Nat.le_refl _) _)) (by first | exact row_new _ _ _ _ _ _ (Nat.zero_le _) rfl | exact rn.below hb5) HG.out (by simp) HR2.out HB2.out HS2.out).mono ?_; rintro e w6 ⟨rfl, hb6⟩; have hbk6 : Below w1.drew.heap.size w1.drew w6 := (by first | exact below_up hbk5 hb6 | exact below_up (hbk5.alloc hbk5.size _) hb6)))
    all_goals
      clear wn wn2 wn3 i0 i1 i2
      go_wp2_with fail
      go_ret2
      exact ⟨ret2_is (by rw [HWE.out, ← HWH.out, List.getLastD_eq_getLast?]; rfl) (by rw [H0.out]; rfl), below_up hbd hbk6⟩
  · have h0' : (mkFault v l != 0) = true := by simpa using h0
    have HS := Lib.hid (whE_bad h0)
    clear h0
    go_enter Tryz.func15, Tryz.ntmps15
    go_wp2_with fail
    refine (checkMarks_any lo lo' _ _ _ _ v l _ hr hrm hl hlm hi).mono ?_
    rintro e w1 ⟨rfl, hb1⟩
    clear hi
    go_wp2_with fail
    go_ret2
    exact ⟨ret2_is (by rw [HS.out]; rfl) rfl, hb1⟩
end Go.Proofs.YtiigmolppcaplaaGreat
/- The walks of film.shifted, shifted, Doubt and DoubtOf. -/
namespace Go.Proofs.YtiigmolppcaplaaGreat
set_option linter.unusedVariables false
set_option linter.unusedSimpArgs false
open Go.RowKit

theorem shF_max (all d last : Int) (x : Mk) (f : Int) (hf : f = if x.2 = 2 ∨ x.2 = 3 then x.1 + d else x.1 - d) : (if last < (if f < all then f else all) then (if f < all then f else all) else last) = shF all d last x := by
  unfold shF; rw [← hf]; split <;> split <;> omega

set_option maxHeartbeats 2000000 in
theorem shiftedF_any (g lo lo' c b_ : Nat) (A B : Option Addr) (v : List St) (l : List Mk) (d : Int) (w : World) (hf : Film w g lo A c v) (hrm : Row w lo' 2 B l.length (prs l)) (hg : Good v) (hlm : l.length ≤ 500) (ht : Turn l) (hb : ∀ x ∈ l, 0 ≤ x.1 ∧ x.1 ≤ 1000000000000) (hd : -1000 ≤ d) (hd' : d ≤ 1000) :
    Calls Tryz.prog 48 #[.pointer (some ⟨g, 0, none⟩), .slice B l.length b_, .int .i64 d] w fun e w' => ∃ A' c', e = .returned (.slice A' (shM (fsum v) d l).2.length c') ∧ w'.ownsRow w.heap.size 76 2 (.slice A' (shM (fsum v) d l).2.length c') (shM (fsum v) d l).2.length (prs (shM (fsum v) d l).2) ∧ Below w.heap.size w w' := by
  have HG := Lib.hid hg
  have HB := Lib.hid hb
  have HT := Lib.hid ht
  have s1 := hg.sum
  have s0 := fsum_nonneg v hg.nonneg
  clear hg hb ht
  go_enter Tryz.func48, Tryz.ntmps48
  go_wp2_with fail
  go_loopw [7, 8, 13] (fun o la i wr => ∃ (k : Nat) (A' : Option Addr) (c' : Nat), k ≤ l.length ∧ i = .int .i64 k ∧ la = .int .i64 (shM (fsum v) d (l.take k)).1 ∧ o = .slice A' (shM (fsum v) d (l.take k)).2.length c' ∧ wr.ownsRow w.heap.size 76 2 (.slice A' (shM (fsum v) d (l.take k)).2.length c') (shM (fsum v) d (l.take k)).2.length (prs (shM (fsum v) d (l.take k)).2) ∧ Below w.heap.size w wr) (fun _ _ i _ => l.length - (intOf i).toNat)
  case atStart => exact ⟨0, none, 0, Nat.zero_le _, rfl, rfl, rfl, World.ownsRow_nil _ _ _ _, Below.refl _ _⟩
  case round =>
    obtain ⟨k, A', c', hk, rfl, rfl, rfl, hown, hbw⟩ := hrel
    have zw := hbw.size
    by_cases hlt : k < l.length
    · obtain ⟨b, off, hB, _, hbs, c0, c1⟩ := (hrm.below hbw).pr_at hlt
      have hfw := hf.below hbw
      have HTK := Lib.hid (shM_take (fsum v) d l k hlt)
      have HSP := Lib.hid (shS_split (all := fsum v) (d := d) (s := shM (fsum v) d (l.take k)) (x := l[k]))
      have HSN := Lib.hid (shS_not (all := fsum v) (d := d) (s := shM (fsum v) d (l.take k)) (x := l[k]))
      have hsh := sh_inv (d := d) HT.out s0 k hk
      have sl := hsh.last
      have hln : (shM (fsum v) d (l.take k)).2.length ≤ 500 := by have := hsh.len; simp at this; omega
      obtain ⟨x0, x1⟩ := HB.out l[k] (List.getElem_mem _)
      have HKI := Lib.hid (HT.out.1 l[k] (List.getElem_mem _))
      have HSF := Lib.hid (shF_max (fsum v) d (shM (fsum v) d (l.take k)).1 l[k])
      subst hB
      clear hsh
      generalize l[k] = x at *
      generalize shM (fsum v) d (l.take k) = s at *
      by_cases h5 : x.2 = 5
      · have t5 : (x.2 == 5) = true := by simpa using h5
        have HE := Lib.hid (HSP.out h5)
        clear h5 HSP HSN
        go_wp2_with fail
        go_roundw
        case rel => exact ⟨k + 1, A', c', by omega, by go_num, by rw [HTK.out, HE.out], by rw [HTK.out, HE.out], by rw [HTK.out, HE.out]; exact (by repeat (first | exact hown | refine World.ownsRow.alloc ?_ _ | refine own_drewN ?_ _ | refine World.ownsRow.drew ?_)), (by repeat (first | exact hbw | refine Below.alloc ?_ (by first | omega | (simp; omega)) _ | refine below_drewN' ?_ _ | refine Below.drew ?_))⟩
        case measure => simp [intOf]; omega
      · have t5 : (x.2 == 5) = false := by simpa using h5
        have HE := Lib.hid (HSN.out h5)
        clear h5 HSP HSN
        have key : ∀ f : Int, f = (if x.2 = 2 ∨ x.2 = 3 then x.1 + d else x.1 - d) → -1000000000000000 ≤ f ∧ f ≤ 1000000000000000 := by
          intro f hf; subst hf; split <;> omega
        have KEY := Lib.hid key
        clear key
        by_cases h2 : x.2 = 2
        · have t2 : (x.2 == 2) = true := by simpa using h2
          have HF : Hid (x.1 + d = (if x.2 = 2 ∨ x.2 = 3 then x.1 + d else x.1 - d)) := Lib.hid (by rw [if_pos (.inl h2)])
          have hbd := KEY.out _ HF.out
          have HSV := Lib.hid (HSF.out _ HF.out)
          clear h2
          generalize hfv : x.1 + d = f at *
          have kb1 := Blk.new wr 76 #[.int .i64 f, .int .i64 x.2]
          have hown1 := hown.alloc (.cells #[.int .i64 f, .int .i64 x.2] 76)
          have HOB : Hid (∀ k, (Value.slice A' s.2.length c').ownBlock = some k → k ≠ wr.heap.size) := Lib.hid (fun k hk => by have := (hown.lt k hk).2; omega)
          have hbx1 : Below w.heap.size w (wr.alloc (.cells #[.int .i64 f, .int .i64 x.2] 76)) := (by repeat (first | exact hbw | refine Below.alloc ?_ (by first | omega | (simp; omega)) _ | refine below_drewN' ?_ _ | refine Below.drew ?_))
          have hf1 := hfw.below ((Below.refl _ _).alloc (Nat.le_refl _) (.cells #[.int .i64 f, .int .i64 x.2] 76))
          have hfv' : IntKind.i64.wrap (x.1 + d) = f := by rw [hfv]; exact IntWalk.i64_in _ ⟨by omega, by omega⟩
          go_upto_region 12 with (fail)
          clear hfv' hfv HSF KEY HF c0 c1 hown hfw
          generalize hwa : wr.alloc (.cells #[.int .i64 f, .int .i64 x.2] 76) = wa at *
          obtain ⟨_, _, f2⟩ := hf1.cells
          have kc0 : wa.cell? ⟨wr.heap.size, 0, none⟩ = some (.int .i64 f) := kb1.cell 0
          have kf0 := kb1.froze 0
          clear hwa
          go_region
          rw [HSV.out]
          clear HSV
          generalize (if f < fsum v then f else fsum v) = mn at *
          generalize shF (fsum v) d s.1 x = q at *
          have kb2 : Blk (wa.setCell ⟨wr.heap.size, 0, none⟩ (.int .i64 q)).drew wr.heap.size 76 #[.int .i64 q, .int .i64 x.2] := kb1.set 0 (.int .i64 q)
          have hown2 : (wa.setCell ⟨wr.heap.size, 0, none⟩ (.int .i64 q)).drew.ownsRow w.heap.size 76 2 (.slice A' s.2.length c') s.2.length (prs s.2) := own_set_other hown1 HOB.out _
          have hbx2 : Below w.heap.size w (wa.setCell ⟨wr.heap.size, 0, none⟩ (.int .i64 q)).drew := (Below.setCell hbx1 (by simp; omega) _).drew
          generalize (wa.setCell ⟨wr.heap.size, 0, none⟩ (.int .i64 q)).drew = wb at *
          have kd0 : wb.cell? ⟨wr.heap.size, 0, none⟩ = some (.int .i64 q) := kb2.cell 0
          have kd1 : wb.cell? ⟨wr.heap.size, 1, none⟩ = some (.int .i64 x.2) := kb2.cell 1
          have zb := hbx2.size
          clear kb1 hown1 hbx1 hf1 f2 kc0 kf0 HOB
          go_wp2_with (at_builtin; go_must (refine wpList_app (lo := w.heap.size) (base := w.heap.size) (n := s.2.length) (xs := prs s.2) _ _ rfl _ _ ty_mks rfl (by repeat (first | exact hown2 | refine World.ownsRow.alloc ?_ _ | refine own_drewN ?_ _ | refine World.ownsRow.drew ?_)) rfl (by first | exact row_new' _ (by first | rfl | simp) (by first | omega | (simp; omega)) rfl | exact row_newN _ _ (by first | rfl | simp) (by first | omega | (simp; omega)) rfl | exact row_newD _ (by first | rfl | simp) (by first | omega | (simp; omega)) rfl) rfl rfl (by first | omega | decide) (by first | omega | decide) (by first | omega | (simp; omega)) ?_))
          intro A7 c7 w7 hown7 hg7 _
          go_wp2_with fail
          go_roundw
          case rel => exact ⟨k + 1, A7, c7, by omega, by go_num, by rw [HTK.out, HE.out], by rw [HTK.out, HE.out]; simp, by rw [HTK.out, HE.out]; simpa [prs] using hown7, below_app hown2 (by repeat (first | exact hbx2 | refine Below.alloc ?_ (by first | omega | (simp; omega)) _ | refine below_drewN' ?_ _ | refine Below.drew ?_)) hg7 (Nat.le_refl _) (by simp; omega)⟩
          case measure => simp [intOf]; omega
        · have t2 : (x.2 == 2) = false := by simpa using h2
          by_cases h3 : x.2 = 3
          · have t3 : (x.2 == 3) = true := by simpa using h3
            have HF : Hid (x.1 + d = (if x.2 = 2 ∨ x.2 = 3 then x.1 + d else x.1 - d)) := Lib.hid (by rw [if_pos (.inr h3)])
            have hbd := KEY.out _ HF.out
            have HSV := Lib.hid (HSF.out _ HF.out)
            clear h2 h3
            generalize hfv : x.1 + d = f at *
            have kb1 := Blk.new wr 76 #[.int .i64 f, .int .i64 x.2]
            have hown1 := hown.alloc (.cells #[.int .i64 f, .int .i64 x.2] 76)
            have HOB : Hid (∀ k, (Value.slice A' s.2.length c').ownBlock = some k → k ≠ wr.heap.size) := Lib.hid (fun k hk => by have := (hown.lt k hk).2; omega)
            have hbx1 : Below w.heap.size w (wr.alloc (.cells #[.int .i64 f, .int .i64 x.2] 76)) := (by repeat (first | exact hbw | refine Below.alloc ?_ (by first | omega | (simp; omega)) _ | refine below_drewN' ?_ _ | refine Below.drew ?_))
            have hf1 := hfw.below ((Below.refl _ _).alloc (Nat.le_refl _) (.cells #[.int .i64 f, .int .i64 x.2] 76))
            have hfv' : IntKind.i64.wrap (x.1 + d) = f := by rw [hfv]; exact IntWalk.i64_in _ ⟨by omega, by omega⟩
            go_upto_region 12 with (fail)
            clear hfv' hfv HSF KEY HF c0 c1 hown hfw
            generalize hwa : wr.alloc (.cells #[.int .i64 f, .int .i64 x.2] 76) = wa at *
            obtain ⟨_, _, f2⟩ := hf1.cells
            have kc0 : wa.cell? ⟨wr.heap.size, 0, none⟩ = some (.int .i64 f) := kb1.cell 0
            have kf0 := kb1.froze 0
            clear hwa
            go_region
            rw [HSV.out]
            clear HSV
            generalize (if f < fsum v then f else fsum v) = mn at *
            generalize shF (fsum v) d s.1 x = q at *
            have kb2 : Blk (wa.setCell ⟨wr.heap.size, 0, none⟩ (.int .i64 q)).drew wr.heap.size 76 #[.int .i64 q, .int .i64 x.2] := kb1.set 0 (.int .i64 q)
            have hown2 : (wa.setCell ⟨wr.heap.size, 0, none⟩ (.int .i64 q)).drew.ownsRow w.heap.size 76 2 (.slice A' s.2.length c') s.2.length (prs s.2) := own_set_other hown1 HOB.out _
            have hbx2 : Below w.heap.size w (wa.setCell ⟨wr.heap.size, 0, none⟩ (.int .i64 q)).drew := (Below.setCell hbx1 (by simp; omega) _).drew
            generalize (wa.setCell ⟨wr.heap.size, 0, none⟩ (.int .i64 q)).drew = wb at *
            have kd0 : wb.cell? ⟨wr.heap.size, 0, none⟩ = some (.int .i64 q) := kb2.cell 0
            have kd1 : wb.cell? ⟨wr.heap.size, 1, none⟩ = some (.int .i64 x.2) := kb2.cell 1
            have zb := hbx2.size
            clear kb1 hown1 hbx1 hf1 f2 kc0 kf0 HOB
            go_wp2_with (at_builtin; go_must (refine wpList_app (lo := w.heap.size) (base := w.heap.size) (n := s.2.length) (xs := prs s.2) _ _ rfl _ _ ty_mks rfl (by repeat (first | exact hown2 | refine World.ownsRow.alloc ?_ _ | refine own_drewN ?_ _ | refine World.ownsRow.drew ?_)) rfl (by first | exact row_new' _ (by first | rfl | simp) (by first | omega | (simp; omega)) rfl | exact row_newN _ _ (by first | rfl | simp) (by first | omega | (simp; omega)) rfl | exact row_newD _ (by first | rfl | simp) (by first | omega | (simp; omega)) rfl) rfl rfl (by first | omega | decide) (by first | omega | decide) (by first | omega | (simp; omega)) ?_))
            intro A7 c7 w7 hown7 hg7 _
            go_wp2_with fail
            go_roundw
            case rel => exact ⟨k + 1, A7, c7, by omega, by go_num, by rw [HTK.out, HE.out], by rw [HTK.out, HE.out]; simp, by rw [HTK.out, HE.out]; simpa [prs] using hown7, below_app hown2 (by repeat (first | exact hbx2 | refine Below.alloc ?_ (by first | omega | (simp; omega)) _ | refine below_drewN' ?_ _ | refine Below.drew ?_)) hg7 (Nat.le_refl _) (by simp; omega)⟩
            case measure => simp [intOf]; omega
          · have t3 : (x.2 == 3) = false := by simpa using h3
            have HF : Hid (x.1 - d = (if x.2 = 2 ∨ x.2 = 3 then x.1 + d else x.1 - d)) := Lib.hid (by rw [if_neg (by omega)])
            have hbd := KEY.out _ HF.out
            have HSV := Lib.hid (HSF.out _ HF.out)
            clear h2 h3
            generalize hfv : x.1 - d = f at *
            have kb1 := Blk.new wr 76 #[.int .i64 f, .int .i64 x.2]
            have hown1 := hown.alloc (.cells #[.int .i64 f, .int .i64 x.2] 76)
            have HOB : Hid (∀ k, (Value.slice A' s.2.length c').ownBlock = some k → k ≠ wr.heap.size) := Lib.hid (fun k hk => by have := (hown.lt k hk).2; omega)
            have hbx1 : Below w.heap.size w (wr.alloc (.cells #[.int .i64 f, .int .i64 x.2] 76)) := (by repeat (first | exact hbw | refine Below.alloc ?_ (by first | omega | (simp; omega)) _ | refine below_drewN' ?_ _ | refine Below.drew ?_))
            have hf1 := hfw.below ((Below.refl _ _).alloc (Nat.le_refl _) (.cells #[.int .i64 f, .int .i64 x.2] 76))
            have hfv' : IntKind.i64.wrap (x.1 - d) = f := by rw [hfv]; exact IntWalk.i64_in _ ⟨by omega, by omega⟩
            go_upto_region 12 with (fail)
            clear hfv' hfv HSF KEY HF c0 c1 hown hfw
            generalize hwa : wr.alloc (.cells #[.int .i64 f, .int .i64 x.2] 76) = wa at *
            obtain ⟨_, _, f2⟩ := hf1.cells
            have kc0 : wa.cell? ⟨wr.heap.size, 0, none⟩ = some (.int .i64 f) := kb1.cell 0
            have kf0 := kb1.froze 0
            clear hwa
            go_region
            rw [HSV.out]
            clear HSV
            generalize (if f < fsum v then f else fsum v) = mn at *
            generalize shF (fsum v) d s.1 x = q at *
            have kb2 : Blk (wa.setCell ⟨wr.heap.size, 0, none⟩ (.int .i64 q)).drew wr.heap.size 76 #[.int .i64 q, .int .i64 x.2] := kb1.set 0 (.int .i64 q)
            have hown2 : (wa.setCell ⟨wr.heap.size, 0, none⟩ (.int .i64 q)).drew.ownsRow w.heap.size 76 2 (.slice A' s.2.length c') s.2.length (prs s.2) := own_set_other hown1 HOB.out _
            have hbx2 : Below w.heap.size w (wa.setCell ⟨wr.heap.size, 0, none⟩ (.int .i64 q)).drew := (Below.setCell hbx1 (by simp; omega) _).drew
            generalize (wa.setCell ⟨wr.heap.size, 0, none⟩ (.int .i64 q)).drew = wb at *
            have kd0 : wb.cell? ⟨wr.heap.size, 0, none⟩ = some (.int .i64 q) := kb2.cell 0
            have kd1 : wb.cell? ⟨wr.heap.size, 1, none⟩ = some (.int .i64 x.2) := kb2.cell 1
            have zb := hbx2.size
            clear kb1 hown1 hbx1 hf1 f2 kc0 kf0 HOB
            go_wp2_with (at_builtin; go_must (refine wpList_app (lo := w.heap.size) (base := w.heap.size) (n := s.2.length) (xs := prs s.2) _ _ rfl _ _ ty_mks rfl (by repeat (first | exact hown2 | refine World.ownsRow.alloc ?_ _ | refine own_drewN ?_ _ | refine World.ownsRow.drew ?_)) rfl (by first | exact row_new' _ (by first | rfl | simp) (by first | omega | (simp; omega)) rfl | exact row_newN _ _ (by first | rfl | simp) (by first | omega | (simp; omega)) rfl | exact row_newD _ (by first | rfl | simp) (by first | omega | (simp; omega)) rfl) rfl rfl (by first | omega | decide) (by first | omega | decide) (by first | omega | (simp; omega)) ?_))
            intro A7 c7 w7 hown7 hg7 _
            go_wp2_with fail
            go_roundw
            case rel => exact ⟨k + 1, A7, c7, by omega, by go_num, by rw [HTK.out, HE.out], by rw [HTK.out, HE.out]; simp, by rw [HTK.out, HE.out]; simpa [prs] using hown7, below_app hown2 (by repeat (first | exact hbx2 | refine Below.alloc ?_ (by first | omega | (simp; omega)) _ | refine below_drewN' ?_ _ | refine Below.drew ?_)) hg7 (Nat.le_refl _) (by simp; omega)⟩
            case measure => simp [intOf]; omega
    · have hkk : k = l.length := by omega
      subst hkk
      rw [List.take_length] at hown
      rw [List.take_length]
      go_wp2_with fail
      go_ret
      exact ⟨A', c', rfl, hown, hbw⟩
end Go.Proofs.YtiigmolppcaplaaGreat
