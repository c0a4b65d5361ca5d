/- Texts of this seat, laid together: LawChainsKept. -/
import Derived.Deep.DeepCutAuto
import Derived.Deep.CutBlock
import Derived.Handy
import Derived.Test.YtdidcjhgdofgcaaGreatDoorBc15
import Derived.Test.YtdidcjhgdofgcaaGreatDoorBc16
import Derived.Test.YtdidcjhgdofgcaaGreatDoorBc01
import Derived.Test.YtdidcjhgdofgcaaGreatDoorBc32
import Derived.Test.YtdidcjhgdofgcaaGreatDoorBc36
import Derived.Test.YtdidcjhgdofgcaaGreatDoorBc02
/- For every list of numbers the law ChainsKept returns true and leaves the list as it was: its walk. -/
namespace Go.Proofs.YtdidcjhgdofgcaaGreatDoor
set_option linter.unusedVariables false
set_option linter.unusedSimpArgs false
open Go.RowKit Go.Sort

theorem some5_len {s : List UInt8} (h : s ∈ ([[48, 49, 50, 51, 52, 53, 54, 55, 56, 57, 97, 98, 99, 100, 101, 102], [102, 102, 102, 102, 102, 102, 102, 102, 102, 102, 102, 102, 102, 102, 102, 102], [99, 98, 102, 50, 57, 99, 101, 52, 56, 52, 50, 50, 50, 51, 50, 53], [48, 49, 50, 51], [48, 49, 50, 51, 52, 53, 54, 55, 56, 57, 65, 66, 67, 68, 69, 70]] : List (List UInt8))) : s.length ≤ 16 := by
  simp only [List.mem_cons, List.not_mem_nil, or_false] at h
  rcases h with rfl | rfl | rfl | rfl | rfl <;> decide
theorem readI_len (t : List UInt8) : (readI t).1.length ≤ 5000 := by
  by_cases h : 200000 < t.length
  · rw [readI_large h]; simp
  · cases hs : stopL t (okI t) with
    | some i => rw [readI_stop h hs]; simp
    | none =>
      by_cases hf : inFault (pcsI t (linesL t).length) = 0
      · rw [readI_ok h hs hf]; exact (inFault_ok hf).1
      · rw [readI_bad h hs hf]; simp
theorem ck_pre {w : World} {lo : Nat} {A : Option Addr} {ss : List (List UInt8)} (h : Row w lo 1 A ss.length (strs ss)) (k : Nat) (hk : k ≤ ss.length) : Row w lo 1 A (ss.take k).length (strs (ss.take k)) := by
  refine ⟨by simp [strs], fun hn => ?_⟩
  rw [List.length_take] at hn
  obtain ⟨b, off, e, h1, h2, h3⟩ := h.2 (by omega)
  refine ⟨b, off, e, h1, h2, fun i u hu => h3 i u ?_⟩
  unfold strs at hu ⊢
  rw [List.map_take, List.getElem?_take] at hu
  split at hu
  · exact hu
  · cases hu
set_option maxHeartbeats 8000000 in
set_option maxRecDepth 100000 in
theorem chains_walk (A : Option Addr) (n c : Nat) (w : World) (hn : n ≤ 9223372036854775807)
    (hz : ∀ k, k < n → ∃ b off z, A = some ⟨b, off, none⟩ ∧ b < w.heap.size ∧ w.cell? ⟨b, off + k, none⟩ = some (.int .i64 z) ∧ I64 z) (hE : Env w) (hT : Tz w) :
    LawCall 3 A n c w := by
  have hstr := str_make (c := c) hn hz
  clear hz
  have hx : Below w.heap.size w (w.alloc (.cells #[.slice A n c, .int .i64 0] 25)) := (Below.refl _ _).alloc (Nat.le_refl _) _
  have hz0 : (w.alloc (.cells #[.slice A n c, .int .i64 0] 25)).heap.size = w.heap.size + 1 := by simp
  have HEB := Lib.hid (EnvB.of hE)
  have HT := Lib.hid hT
  clear hE hT
  go_enter Tryz.func3, Tryz.ntmps3
  go_wp2_with fail
  generalize w.alloc (.cells #[.slice A n c, .int .i64 0] 25) = w0 at *
  have hgl : w.heap.size < w0.heap.size := by omega
  clear hz0
  refine (pieces_any w.heap.size 0 _ hstr (by omega)).mono ?_
  rintro e w1 ⟨X, c', ps, rfl, hown, hl, hs1, hg1⟩
  replace hx := hx.grown hg1 (by omega) (fun k hk => by injection hk with hk; omega)
  have hr := (Row.of_own hown).weak (show w.heap.size + 1 ≤ w0.heap.size by omega)
  have hz1 := hg1.size
  clear hstr hg1 hown
  go_wp2_with fail
  have hN5 := row_new w1 #[.string ⟨#[48, 49, 50, 51, 52, 53, 54, 55, 56, 57, 97, 98, 99, 100, 101, 102]⟩, .string ⟨#[102, 102, 102, 102, 102, 102, 102, 102, 102, 102, 102, 102, 102, 102, 102, 102]⟩, .string ⟨#[99, 98, 102, 50, 57, 99, 101, 52, 56, 52, 50, 50, 50, 51, 50, 53]⟩, .string ⟨#[48, 49, 50, 51]⟩, .string ⟨#[48, 49, 50, 51, 52, 53, 54, 55, 56, 57, 65, 66, 67, 68, 69, 70]⟩] 9 (w.heap.size + 1) 1 5 (by omega) rfl
  replace hr := hr.alloc (.cells #[.string ⟨#[48, 49, 50, 51, 52, 53, 54, 55, 56, 57, 97, 98, 99, 100, 101, 102]⟩, .string ⟨#[102, 102, 102, 102, 102, 102, 102, 102, 102, 102, 102, 102, 102, 102, 102, 102]⟩, .string ⟨#[99, 98, 102, 50, 57, 99, 101, 52, 56, 52, 50, 50, 50, 51, 50, 53]⟩, .string ⟨#[48, 49, 50, 51]⟩, .string ⟨#[48, 49, 50, 51, 52, 53, 54, 55, 56, 57, 65, 66, 67, 68, 69, 70]⟩] 9)
  replace hs1 := hs1.alloc (.cells #[.string ⟨#[48, 49, 50, 51, 52, 53, 54, 55, 56, 57, 97, 98, 99, 100, 101, 102]⟩, .string ⟨#[102, 102, 102, 102, 102, 102, 102, 102, 102, 102, 102, 102, 102, 102, 102, 102]⟩, .string ⟨#[99, 98, 102, 50, 57, 99, 101, 52, 56, 52, 50, 50, 50, 51, 50, 53]⟩, .string ⟨#[48, 49, 50, 51]⟩, .string ⟨#[48, 49, 50, 51, 52, 53, 54, 55, 56, 57, 65, 66, 67, 68, 69, 70]⟩] 9)
  replace hx := Below.alloc hx hx.size (.cells #[.string ⟨#[48, 49, 50, 51, 52, 53, 54, 55, 56, 57, 97, 98, 99, 100, 101, 102]⟩, .string ⟨#[102, 102, 102, 102, 102, 102, 102, 102, 102, 102, 102, 102, 102, 102, 102, 102]⟩, .string ⟨#[99, 98, 102, 50, 57, 99, 101, 52, 56, 52, 50, 50, 50, 51, 50, 53]⟩, .string ⟨#[48, 49, 50, 51]⟩, .string ⟨#[48, 49, 50, 51, 52, 53, 54, 55, 56, 57, 65, 66, 67, 68, 69, 70]⟩] 9)
  generalize w1.alloc (.cells #[.string ⟨#[48, 49, 50, 51, 52, 53, 54, 55, 56, 57, 97, 98, 99, 100, 101, 102]⟩, .string ⟨#[102, 102, 102, 102, 102, 102, 102, 102, 102, 102, 102, 102, 102, 102, 102, 102]⟩, .string ⟨#[99, 98, 102, 50, 57, 99, 101, 52, 56, 52, 50, 50, 50, 51, 50, 53]⟩, .string ⟨#[48, 49, 50, 51]⟩, .string ⟨#[48, 49, 50, 51, 52, 53, 54, 55, 56, 57, 65, 66, 67, 68, 69, 70]⟩] 9) = w2 at *
  refine (some_any w.heap.size _ _ _ _ [[48, 49, 50, 51, 52, 53, 54, 55, 56, 57, 97, 98, 99, 100, 101, 102], [102, 102, 102, 102, 102, 102, 102, 102, 102, 102, 102, 102, 102, 102, 102, 102], [99, 98, 102, 50, 57, 99, 101, 52, 56, 52, 50, 50, 50, 51, 50, 53], [48, 49, 50, 51], [48, 49, 50, 51, 52, 53, 54, 55, 56, 57, 65, 66, 67, 68, 69, 70]] _ hs1 (by omega) hN5 (by omega) (by decide) (by decide)).mono ?_
  rintro e w3 ⟨st, rfl, hst, hs3, hg3⟩
  replace hr := hr.grown hg3 (by omega)
  replace hx := hx.grown hg3 hx.size (fun k hk => by injection hk with hk; omega)
  have hsl := some5_len hst
  clear hN5 hs1 hg3 hz1 hst
  have hs1 := hs3
  clear hs3
  go_wp2_with fail
  refine (inputFault_any X c' _ ps _ hr (by omega)).mono ?_
  rintro e w4 ⟨rfl, hb⟩
  replace hr := hr.below hb
  replace hs1 := hs1.keep hb
  replace hx := below_up hx hb
  clear hb
  go_wp2_with fail
  refine (sumFault_any st _ (by omega)).mono ?_
  rintro e w5 ⟨rfl, hb⟩
  replace hr := hr.below hb
  replace hs1 := hs1.keep hb
  replace hx := below_up hx hb
  clear hb
  go_wp2_with fail
  have hN2 := row_new w5 #[.int .i64 (inFault ps), .int .i64 (sumF st)] 29 0 1 2 (Nat.zero_le _) rfl
  replace hr := hr.alloc (.cells #[.int .i64 (inFault ps), .int .i64 (sumF st)] 29)
  replace hs1 := hs1.alloc (.cells #[.int .i64 (inFault ps), .int .i64 (sumF st)] 29)
  replace hx := Below.alloc hx hx.size (.cells #[.int .i64 (inFault ps), .int .i64 (sumF st)] 29)
  generalize w5.alloc (.cells #[.int .i64 (inFault ps), .int .i64 (sumF st)] 29) = w6 at *
  refine (or_any _ _ 0 [inFault ps, sumF st] _ hN2 (by simp)).mono ?_
  rintro e w7 ⟨rfl, rfl⟩
  rw [startF_or]
  clear hN2
  go_wp2_with fail
  refine (chainF_any X c' _ ps st _ hr (by omega) (by omega) (HT.out.below hx)).mono ?_
  rintro e w8 ⟨Y, cy, rfl, hry, hb⟩
  replace hr := hr.below hb
  replace hs1 := hs1.keep hb
  replace hx := below_up hx hb
  clear hb
  have hchl := chL_in (ps := ps) (s := st)
  have HOK := Lib.hid (chL_ok (ps := ps) (s := st))
  have HBAD := Lib.hid (chL_bad (ps := ps) (s := st))
  have H0 := Lib.hid (startF_0 (ps := ps) (s := st))
  obtain ⟨f, hf⟩ : ∃ f, startF ps st = f := ⟨_, rfl⟩
  have HF := Lib.hid hf
  rw [hf]
  clear hf
  obtain ⟨L, hL⟩ : ∃ L, chL ps st = L := ⟨_, rfl⟩
  have HL := Lib.hid hL
  rw [hL] at hry hchl ⊢
  clear hL
  go_upto_if 44 with (fail)
  go_cut [9] from 45 to 47 (fun v wx => ∃ (W : Option Addr) (cw : Nat), v = .slice W L.length cw ∧ Row wx 0 1 W L.length (strs L) ∧ Below w8.heap.size w8 wx)
  case first =>
    by_cases h : f = 0
    · subst h
      have h0 := H0.out HF.out
      have HI := Lib.hid h0.1
      have HL2 := Lib.hid ((HOK.out HF.out).symm.trans HL.out)
      clear h0
      go_wp2_with fail
      refine (chainOf_A X c' _ ps st _ hr HI.out (by omega) (HT.out.below hx)).mono ?_
      rintro e w9 ⟨W, cw, rfl, how, hb⟩
      rw [HL2.out] at how ⊢
      have hrw := (Row.of_own how).weak (Nat.zero_le _)
      clear how
      go_wp2_with fail
      go_meet
      exact ⟨W, cw, rfl, hrw, hb⟩
    · have d : (f == 0) = false := by simpa using h
      have HL2 : Hid (L = []) := Lib.hid (HL.out.symm.trans (HBAD.out (by rw [HF.out]; exact h)))
      clear h
      go_wp2_with fail
      go_meet
      rw [HL2.out]
      exact ⟨none, 0, rfl, Row.none_ _ _ _ _, Below.refl _ _⟩
  case rest =>
    obtain ⟨W, cw, rfl, hrw, hb⟩ := hcut
    replace hr := hr.below hb
    replace hry := hry.below hb
    replace hs1 := hs1.keep hb
    replace hx := below_up hx hb
    clear hb HOK HBAD
    have e1 : (f != f) = false := by simp
    go_wp2_with fail
    refine (equalS_any Y W cy cw _ 0 L L _ hry hrw (by omega) (by omega)).mono ?_
    rintro e w9 ⟨rfl, qn, rfl⟩
    have hb := below_drewN' (Below.refl wc.heap.size wc) qn
    rw [decide_eq_true (show L = L from rfl)]
    replace hr := hr.below hb
    replace hrw := hrw.below hb
    replace hs1 := hs1.keep hb
    replace hx := below_up hx hb
    clear hb hry e1
    generalize wc.drewN qn = w9 at *
    go_wp2_with fail
    have hz9 : w.heap.size < w9.heap.size := hs1.lt
    refine (cloneS_any W cw 0 L _ hrw (by omega)).mono ?_
    rintro e w10 ⟨Z, cz, rfl, hoz, hb⟩
    have hG := grown_of_below hb (some w.heap.size)
    replace hs1 := hs1.keep hb
    clear hb hrw
    go_wp2_with fail
    refine (next_any w.heap.size _ 4 _ hs1 (by omega) (by omega)).mono ?_
    rintro e w11 ⟨m, rfl, m0, m4, -, hs2, hg2⟩
    replace m4 := m4 (by omega)
    replace hG := grown_trans' hG hg2
    replace hoz := own_grown hoz hg2 hz9
    clear hs1 hg2
    have hzc := own_cap hoz
    have hz11 := hG.size
    go_upto_block 0 with (fail)
    go_cut [10] from 61 to 89 (fun v wx => ∃ (B : Option Addr) (cb : Nat) (ss : List (List UInt8)), v = .slice B ss.length cb ∧ Row wx 0 1 B ss.length (strs ss) ∧ ss.length ≤ 200000 ∧ Row wx (w.heap.size + 1) 2 X ps.length (prs ps) ∧ Str wx w.heap.size 50 ∧ Below w.heap.size w wx)
    case first =>
      have FIN : Hid (∀ (wx : World) (B : Option Addr) (cb : Nat) (ss : List (List UInt8)), w9.grownBy wx (some w.heap.size) → Row wx 0 1 B ss.length (strs ss) → ss.length ≤ 200000 → (∃ N, N ≤ 50 ∧ Str wx w.heap.size N) → ∃ (B' : Option Addr) (cb' : Nat) (ss' : List (List UInt8)), Value.slice B ss.length cb = .slice B' ss'.length cb' ∧ Row wx 0 1 B' ss'.length (strs ss') ∧ ss'.length ≤ 200000 ∧ Row wx (w.heap.size + 1) 2 X ps.length (prs ps) ∧ Str wx w.heap.size 50 ∧ Below w.heap.size w wx) := Lib.hid (fun wx B cb ss h1 h2 h3 ⟨N, h4, h5⟩ => ⟨B, cb, ss, rfl, h2, h3, hr.grown h1 (by omega), h5.more h4, hx.grown h1 hx.size (fun k hk => by injection hk with hk; omega)⟩)
      have hr0 := (Row.of_own hoz).weak (Nat.zero_le _)
      by_cases g0 : m = 0
      · subst g0
        go_wp2_with (at_builtin; go_must (refine wpList_app (lo := w9.heap.size) (base := w9.heap.size) (n := L.length) (xs := strs L) _ _ rfl _ _ ty_strs rfl (by repeat (first | exact hoz | refine World.ownsRow.alloc ?_ _ | refine own_drewN ?_ _ | refine World.ownsRow.drew ?_)) rfl (by first | exact row_new' _ (by first | rfl | simp) (by first | omega | (simp; omega)) rfl | exact row_newN _ _ (by first | rfl | simp) (by first | omega | (simp; omega)) rfl | exact row_newD _ (by first | rfl | simp) (by first | omega | (simp; omega)) rfl) rfl rfl (by first | omega | decide) (by first | omega | decide) (by first | omega | (simp; omega)) ?_))
        intro A5 c5 w5 hown5 hg5 _
        have hown6 : w5.ownsRow w9.heap.size 9 1 (.slice A5 (L ++ [st]).length c5) (L ++ [st]).length (strs (L ++ [st])) := by
          have e : strs (L ++ [st]) = strs L ++ [encStr st] := by simp [strs]
          rw [e, List.length_append]; exact hown5
        have hs5 := (hs2.alloc (.cells #[encStr st] 9)).app (hoz.alloc _) hg5 (by omega)
        have hG5 := grown_app (grown_alloc hG _) (hoz.alloc _) hg5 (Nat.le_refl _)
        have HLN : Hid (L.length + 1 = (L ++ [st]).length) := Lib.hid (by rw [List.length_append]; rfl)
        clear hown5 hg5 hoz
        go_wp2_with fail
        go_meet
        rw [HLN.out]
        exact FIN.out _ _ _ _ hG5 ((Row.of_own hown6).weak (Nat.zero_le _)) (by rw [← HLN.out]; omega) ⟨_, by omega, hs5⟩
      have d0 : (m == 0) = false := by simpa using g0
      by_cases g1 : m = 1
      · subst g1
        by_cases hL0 : L.length = 0
        · have dl : ¬ (0 : Int) < (L.length : Int) := by omega
          have dl2 : decide (0 < L.length) = false := decide_eq_false (by omega)
          have dl3 : ¬ 0 < L.length := by omega
          clear hL0
          go_wp2_with fail
          go_meet
          exact FIN.out _ _ _ _ hG hr0 (by omega) ⟨_, by omega, hs2⟩
        · have dl : (0 : Int) < (L.length : Int) := by omega
          have dl2 : decide (0 < L.length) = true := decide_eq_true (by omega)
          have dl3 : 0 < L.length := by omega
          clear hL0
          go_wp2_with fail
          refine (next_any w.heap.size _ (L.length : Int) _ hs2 (by omega) (by omega)).mono ?_
          rintro e w12 ⟨r, rfl, r0, r4, -, hs3, hg3⟩
          obtain ⟨k, rfl⟩ := Int.eq_ofNat_of_zero_le r0
          have hk : k < L.length := by have := r4 (by omega); omega
          clear r0 r4
          replace hG := grown_trans' hG hg3
          replace hoz := own_grown hoz hg3 hz9
          clear hs2 hg3 hr0
          go_wp2_with fail
          have hN3 := row_new w12 #[.string ⟨#[]⟩, .string ⟨#[120]⟩, .string ⟨#[48, 48, 48, 48, 48, 48, 48, 48, 48, 48, 48, 48, 48, 48, 48, 48]⟩] 9 w9.heap.size 1 3 hG.size rfl
          have hs4 := hs3.alloc (.cells #[.string ⟨#[]⟩, .string ⟨#[120]⟩, .string ⟨#[48, 48, 48, 48, 48, 48, 48, 48, 48, 48, 48, 48, 48, 48, 48, 48]⟩] 9)
          replace hG := grown_alloc hG (.cells #[.string ⟨#[]⟩, .string ⟨#[120]⟩, .string ⟨#[48, 48, 48, 48, 48, 48, 48, 48, 48, 48, 48, 48, 48, 48, 48, 48]⟩] 9)
          replace hoz := hoz.alloc (.cells #[.string ⟨#[]⟩, .string ⟨#[120]⟩, .string ⟨#[48, 48, 48, 48, 48, 48, 48, 48, 48, 48, 48, 48, 48, 48, 48, 48]⟩] 9)
          clear hs3
          generalize w12.alloc (.cells #[.string ⟨#[]⟩, .string ⟨#[120]⟩, .string ⟨#[48, 48, 48, 48, 48, 48, 48, 48, 48, 48, 48, 48, 48, 48, 48, 48]⟩] 9) = w13 at *
          refine (some_any w.heap.size _ _ _ _ [[], [120], [48, 48, 48, 48, 48, 48, 48, 48, 48, 48, 48, 48, 48, 48, 48, 48]] _ hs4 (by omega) hN3 (by omega) (by decide) (by decide)).mono ?_
          rintro e w14 ⟨sv, rfl, -, hs5, hg5⟩
          replace hG := grown_trans' hG hg5
          replace hoz := own_grown hoz hg5 hz9
          clear hs4 hg5 hN3
          obtain ⟨g, off, rfl, hgb, hgl2, hgc⟩ := (Row.of_own hoz).str_at hk
          have hoff : off = 0 := by
            rcases hoz.2 with ⟨h1, h2⟩ | ⟨g', cap, cur, hv, _⟩
            · injection h1 with h1; cases h1
            · injection hv with hv; injection hv with hv; injection hv
          subst hoff
          rw [Nat.zero_add] at hgc
          have hfz := hoz.frozenAt k
          have hk' : (k : Int) < (L.length : Int) := by omega
          obtain ⟨st1, st2⟩ := hoz.stored k (encStr sv)
          have HSET : Hid ((strs L).set k (encStr sv) = strs (L.set k sv)) := Lib.hid (by unfold strs; rw [List.map_set])
          have HSL : Hid (L.length = (L.set k sv).length) := Lib.hid (by simp)
          rw [HSET.out] at st1
          have hs6 := hs5.grown st2 (fun k' hk' => by injection hk' with hk'; omega)
          have hG6 := grown_set_new hG (p := ⟨g, k, none⟩) hgb (encStr sv)
          clear st2 hs5
          go_wp2_with fail
          go_meet
          rw [HSL.out] at st1 ⊢
          exact FIN.out _ _ _ _ hG6 ((Row.of_own st1).weak (Nat.zero_le _)) (by rw [← HSL.out]; omega) ⟨_, by omega, hs6⟩
      have d1 : (m == 1) = false := by simpa using g1
      by_cases g2 : m = 2
      · subst g2
        have wL : IntKind.i64.wrap ((L.length : Int) + 1) = (L.length : Int) + 1 := IntWalk.i64_in _ ⟨by omega, by omega⟩
        go_wp2_with fail
        refine (next_any w.heap.size _ ((L.length : Int) + 1) _ hs2 (by omega) (by omega)).mono ?_
        rintro e w12 ⟨r, rfl, r0, r4, -, hs3, hg3⟩
        obtain ⟨k, rfl⟩ := Int.eq_ofNat_of_zero_le r0
        have hk : k ≤ L.length := by have := r4 (by omega); omega
        clear r0 r4 wL
        replace hG := grown_trans' hG hg3
        replace hoz := own_grown hoz hg3 hz9
        have hkc : k ≤ cz := by omega
        have hp := ck_pre (Row.of_own hoz) k hk
        have HTL : Hid (k = (L.take k).length) := Lib.hid (by rw [List.length_take]; omega)
        clear hs2 hg3 hr0
        go_wp2_with fail
        go_meet
        rw [show (Value.slice Z k cz) = .slice Z (L.take k).length cz by rw [← HTL.out]]
        exact FIN.out _ _ _ _ hG (hp.weak (Nat.zero_le _)) (by rw [← HTL.out]; omega) ⟨_, by omega, hs3⟩
      have d2 : (m == 2) = false := by simpa using g2
      go_wp2_with fail
      go_meet
      exact FIN.out _ _ _ _ hG hr0 (by omega) ⟨_, by omega, hs2⟩
    case rest =>
      obtain ⟨B, cb, ss, rfl, hrs, hss, hr, hs1, hx⟩ := hcut
      clear hz11 hzc hz9
      go_wp2_with fail
      refine (verify_any X B c' cb _ 0 ps st ss _ hr (by omega) (by omega) hrs hss (HT.out.below hx)).mono ?_
      rintro e w12 hv
      obtain ⟨v, b, rfl, HV, hb⟩ := hv.parts
      clear hv
      rw [HF.out]
      replace hr := hr.below hb
      replace hrs := hrs.below hb
      replace hs1 := hs1.keep hb
      replace hx := below_up hx hb
      clear hb
      have e1 : (f != f) = false := by simp
      go_upto_if 99 with (fail)
      go_cut [13] from 100 to 126 (fun _ wx => Row wx (w.heap.size + 1) 2 X ps.length (prs ps) ∧ Str wx w.heap.size 50 ∧ Below w.heap.size w wx)
      case first =>
        by_cases h : f = 0
        · have HF0 : Hid (startF ps st = 0) := Lib.hid (HF.out.trans h)
          have HI := Lib.hid (H0.out HF0.out).1
          obtain ⟨hv1, hv2⟩ := HV.out.2 HF0.out
          have hge := verN_ge (chainA (unf ps) st) ss 0
          have HV1 := Lib.hid hv1
          rw [← hv1] at hge
          clear hv1 HV
          subst h
          rcases hge with rfl | hge
          · have hb1 : b = true := hv2
            clear hv2
            subst hb1
            go_wp2_with fail
            refine (verifiedOf_any X B c' cb _ 0 ps st ss _ hr HI.out (by omega) hrs hss (HT.out.below hx)).mono ?_
            rintro e w13 ⟨rfl, hb⟩
            rw [← HV1.out]
            replace hr := hr.below hb
            replace hs1 := hs1.keep hb
            replace hx := below_up hx hb
            clear hb
            go_wp2_with fail
            go_meet
            exact ⟨hr, hs1, hx⟩
          · have hb1 : b = false := hv2.trans (decide_eq_false (by omega))
            clear hv2
            subst hb1
            have l1 : ¬ v < 0 := by omega
            have l2 : decide (v < 0) = false := decide_eq_false l1
            have l3 : (v != v) = false := by simp
            go_wp2_with fail
            refine (verifiedOf_any X B c' cb _ 0 ps st ss _ hr HI.out (by omega) hrs hss (HT.out.below hx)).mono ?_
            rintro e w13 ⟨rfl, hb⟩
            rw [← HV1.out]
            replace hr := hr.below hb
            replace hs1 := hs1.keep hb
            replace hx := below_up hx hb
            clear hb
            go_wp2_with fail
            go_meet
            exact ⟨hr, hs1, hx⟩
        · obtain ⟨rfl, rfl⟩ := HV.out.1 (by rw [HF.out]; exact h)
          have d : (f != 0) = true := by simpa using h
          have d2 : (f == 0) = false := by simpa using h
          clear HV h
          go_wp2_with fail
          go_meet
          exact ⟨hr, hs1, hx⟩
      case rest =>
      obtain ⟨hr, hs1, hx⟩ := hcut
      clear HV hrs hss H0 HL HF e1
      by_cases hI : inFault ps = 0
      · have HI := Lib.hid hI
        have HTV := Lib.hid (inTextV_ok hI)
        clear hI
        go_wp2_with fail
        refine (inText_any X c' _ ps _ hr (by omega) (HEB.out _ hx)).mono ?_
        rintro e w13 ⟨rfl, hb⟩
        rw [HTV.out]
        replace hr := hr.below hb
        replace hs1 := hs1.keep hb
        replace hx := below_up hx hb
        clear hb HTV
        go_wp2_with fail
        refine (inputFault_any X c' _ ps _ hr (by omega)).mono ?_
        rintro e w14 ⟨rfl, hb⟩
        rw [HI.out]
        replace hr := hr.below hb
        replace hs1 := hs1.keep hb
        replace hx := below_up hx hb
        clear hb
        go_wp2_with fail
        refine (inputLines_any X c' _ ps _ hr HI.out (HEB.out _ hx)).mono ?_
        rintro e w15 ⟨rfl, hb⟩
        replace hs1 := hs1.keep hb
        replace hx := below_up hx hb
        clear hb hr HI
        generalize inT (tidyR ps) (tidyR ps).length = T at *
        have q1 : (T == T) = true := by simp
        have q2 : (T != T) = false := by simp
        go_wp2_with fail
        refine (inputString_any w.heap.size _ w.heap.size _ hs1 (by omega) (HEB.out.below hx) (Nat.le_refl _)).mono ?_
        rintro e w17 ⟨r, rfl, hrl, hs2, hg2⟩
        replace hx := hx.grown hg2 hx.size (fun k hk => by injection hk with hk; omega)
        clear hs1 hg2 hs2
        go_wp2_with fail
        refine (inRead_any r _ hrl (HEB.out _ hx)).mono ?_
        rintro e w18 ⟨Y2, cy2, rfl, hry, hb⟩
        replace hx := below_up hx hb
        clear hb
        go_wp2_with fail
        refine (inputRead_any r _ hrl (HEB.out _ hx)).mono ?_
        rintro e w19 ⟨Y3, cy3, rfl, hry3, hb⟩
        replace hry := hry.below hb
        replace hx := below_up hx hb
        clear hb
        have hrd := readI_len r
        generalize (readI r).1 = R1 at *
        generalize (readI r).2.1 = R2 at *
        generalize (readI r).2.2 = R3 at *
        have q1 : (R2 == R2) = true := by simp
        have q2 : (R3 == R3) = true := by simp
        go_wp2_with fail
        refine (equalP_any Y2 Y3 cy2 cy3 _ _ R1 R1 _ hry hry3 (by omega) (by omega)).mono ?_
        rintro e w20 ⟨rfl, qn, rfl⟩
        have hb := below_drewN' (Below.refl w19.heap.size w19) qn
        rw [decide_eq_true (show R1 = R1 from rfl)]
        replace hx := below_up hx hb
        clear hb hry hry3
        generalize w19.drewN qn = w20 at *
        go_wp2_with fail
        refine (pressed_any _).mono ?_
        rintro e w21 ⟨rfl, hb⟩
        go_wp2_with fail
        go_ret
        exact ⟨rfl, below_up hx hb⟩
      · have HI := Lib.hid hI
        have HTV := Lib.hid (inTextV_bad hI)
        have d1 : (inFault ps == 0) = false := by simpa using hI
        have d2 : (inFault ps != 0) = true := by simpa using hI
        have d3 : (inFault ps != inFault ps) = false := by simp
        clear hI
        go_wp2_with fail
        refine (inText_any X c' _ ps _ hr (by omega) (HEB.out _ hx)).mono ?_
        rintro e w13 ⟨rfl, hb⟩
        rw [HTV.out]
        replace hr := hr.below hb
        replace hs1 := hs1.keep hb
        replace hx := below_up hx hb
        clear hb HTV
        go_wp2_with fail
        refine (inputFault_any X c' _ ps _ hr (by omega)).mono ?_
        rintro e w14 ⟨rfl, hb⟩
        replace hr := hr.below hb
        replace hs1 := hs1.keep hb
        replace hx := below_up hx hb
        clear hb
        go_wp2_with fail
        refine (inputString_any w.heap.size _ w.heap.size _ hs1 (by omega) (HEB.out.below hx) (Nat.le_refl _)).mono ?_
        rintro e w17 ⟨r, rfl, hrl, hs2, hg2⟩
        replace hx := hx.grown hg2 hx.size (fun k hk => by injection hk with hk; omega)
        clear hs1 hg2 hs2
        go_wp2_with fail
        refine (inRead_any r _ hrl (HEB.out _ hx)).mono ?_
        rintro e w18 ⟨Y2, cy2, rfl, hry, hb⟩
        replace hx := below_up hx hb
        clear hb
        go_wp2_with fail
        refine (inputRead_any r _ hrl (HEB.out _ hx)).mono ?_
        rintro e w19 ⟨Y3, cy3, rfl, hry3, hb⟩
        replace hry := hry.below hb
        replace hx := below_up hx hb
        clear hb
        have hrd := readI_len r
        generalize (readI r).1 = R1 at *
        generalize (readI r).2.1 = R2 at *
        generalize (readI r).2.2 = R3 at *
        have q1 : (R2 == R2) = true := by simp
        have q2 : (R3 == R3) = true := by simp
        go_wp2_with fail
        refine (equalP_any Y2 Y3 cy2 cy3 _ _ R1 R1 _ hry hry3 (by omega) (by omega)).mono ?_
        rintro e w20 ⟨rfl, qn, rfl⟩
        have hb := below_drewN' (Below.refl w19.heap.size w19) qn
        rw [decide_eq_true (show R1 = R1 from rfl)]
        replace hx := below_up hx hb
        clear hb hry hry3
        generalize w19.drewN qn = w20 at *
        go_wp2_with fail
        refine (pressed_any _).mono ?_
        rintro e w21 ⟨rfl, hb⟩
        go_wp2_with fail
        go_ret
        exact ⟨rfl, below_up hx hb⟩
end Go.Proofs.YtdidcjhgdofgcaaGreatDoor
