/- For every list of numbers the law GamesPlayed returns true and leaves the list as it was: its walk. -/
import Derived.Test.YtnlblgkoecnfmaaDoorGmK
import Derived.Test.YtnlblgkoecnfmaaDoorGmL
import Derived.Test.YtnlblgkoecnfmaaDoorIv
import Derived.Test.YtnlblgkoecnfmaaDoorInpF
import Derived.Test.YtnlblgkoecnfmaaDoorEnv
import Derived.Deep.DeepCutAuto
import Derived.Deep.CutRange
namespace Go.Proofs.YtnlblgkoecnfmaaDoor
set_option linter.unusedVariables false
set_option linter.unusedSimpArgs false
open Go.RowKit Go.Maps

/-- The level, the input. -/
structure GpC (w W : World) (B : Option Addr) (rows : List (List UInt8)) (X : Option Addr) (ps : List (Int × Int)) : Prop where
  lv : Row W 0 1 B rows.length (strs rows)
  ip : Row W 0 2 X ps.length (prs ps)
  b : Below w.heap.size w W
theorem GpC.below {w W W' : World} {B : Option Addr} {rows : List (List UInt8)} {X : Option Addr} {ps : List (Int × Int)} (h : GpC w W B rows X ps) (hb : Below W.heap.size W W') : GpC w W' B rows X ps := ⟨h.lv.below hb, h.ip.below hb, below_up h.b hb⟩
theorem GpC.alloc {w W : World} {B : Option Addr} {rows : List (List UInt8)} {X : Option Addr} {ps : List (Int × Int)} (h : GpC w W B rows X ps) (o : Obj) : GpC w (W.alloc o) B rows X ps := h.below ((Below.refl _ _).alloc (Nat.le_refl _) o)
set_option maxHeartbeats 8000000 in
set_option maxRecDepth 100000 in
theorem games_walk (A : Option Addr) (n c : Nat) (w : World) (hn : n ≤ 9223372036854775807)
    (hz : ∀ k, k < n → ∃ b off z, A = some ⟨b, off, none⟩ ∧ b < w.heap.size ∧ w.cell? ⟨b, off + k, none⟩ = some (.int .i64 z) ∧ I64 z) (hM : MaxL w) :
    LawCall 3 A n c w := by
  have hstr := str_make (c := c) hn hz
  clear hz
  have hx : Below w.heap.size w (w.alloc (.cells #[.slice A n c, .int .i64 0] 25)) := (Below.refl _ _).alloc (Nat.le_refl _) _
  have hz0 : (w.alloc (.cells #[.slice A n c, .int .i64 0] 25)).heap.size = w.heap.size + 1 := by simp
  have hM0 := hM.below ((Below.refl _ _).alloc (Nat.le_refl _) (.cells #[.slice A n c, .int .i64 0] 25))
  have hmg : 0 < w.heap.size := by
    obtain ⟨m, hm⟩ := hM
    exact World.block_lt_of_cell? w ⟨0, 0, none⟩ hm
  clear hM
  go_enter Tryd.func3, Tryd.ntmps3
  go_wp2_with fail
  generalize w.alloc (.cells #[.slice A n c, .int .i64 0] 25) = w0 at *
  refine (levelOf_any w.heap.size 0 _ hstr (by omega) hM0 hmg).mono ?_
  rintro e w1 ⟨B, cb, rows, rfl, hr1, hcb, hl1, hl0, hw1, hs1, hg1⟩
  replace hx := hx.grown hg1 (by omega) (fun k hk => by injection hk with hk; omega)
  have z1 := hs1.lt
  have HRW := Lib.hid hw1
  have hgl : w.heap.size < w0.heap.size := by omega
  clear hstr hM0 hw1
  have z01 := hg1.size
  clear hg1
  go_wp2_with fail
  refine (rightPieces_any w.heap.size _ _ hs1 (by omega)).mono ?_
  rintro e w2 ⟨X, c2, ps, rfl, hown2, hl2, hall2, hs2, hg2⟩
  replace hx := hx.grown hg2 (by omega) (fun k hk => by injection hk with hk; omega)
  have hr2 := hr1.grown hg2 hgl
  have hx2 := Row.of_own hown2
  have z02 := hg2.size
  clear hs1 hg2 hown2 hr1 hall2
  go_wp2_with fail
  refine (flip_any w.heap.size _ 10 _ hs2 (by omega) (by omega)).mono ?_
  rintro e w3 ⟨r, rfl, hs3, hg3⟩
  replace hx := hx.grown hg3 (by omega) (fun k hk => by injection hk with hk; omega)
  have hr3 := hr2.grown hg3 hgl
  have hx3 := hx2.grown hg3 (by omega)
  have z03 := hg3.size
  clear hs2 hg3 hr2 hx2
  go_upto_if 22 with (fail)
  go_cut [5] from 23 to 24 (fun v wx => ∃ (X : Option Addr) (cx : Nat) (ps : List (Int × Int)), v = .slice X ps.length cx ∧ ps.length ≤ 8 ∧ GpC w wx B rows X ps)
  case first =>
    cases r with
    | false =>
      go_wp2_with fail
      go_meet
      exact ⟨X, c2, ps, rfl, hl2, row_down hr3, row_down hx3, hx⟩
    | true =>
      go_wp2_with fail
      refine (pieces_any w.heap.size _ _ hs3 (by omega)).mono ?_
      rintro e w4 ⟨X4, c4, ps4, rfl, hown4, hl4, hs4, hg4⟩
      go_wp2_with fail
      go_meet
      exact ⟨X4, c4, ps4, rfl, by omega, row_down (hr3.grown hg4 hgl), row_down (Row.of_own hown4), hx.grown hg4 (by omega) (fun k hk => by injection hk with hk; omega)⟩
  case rest =>
  clear hx hr3 hx3 hs3 hl2
  obtain ⟨X, cx, ps, rfl, hlp, hC⟩ := hcut
  have HRL : Hid (rows.length ≤ 1000 ∧ ∀ r ∈ rows, r.length ≤ 1000) := Lib.hid ⟨by omega, fun r hr => by have := HRW.out r hr; omega⟩
  have hn9 : ps.length ≤ 1000000000 := by omega
  go_wp2_with fail
  refine (levelFault_any B cb 0 rows _ hC.lv hcb HRL.out.1 HRL.out.2).mono ?_
  rintro e w5 ⟨rfl, hb5⟩
  replace hC := hC.below hb5
  clear hb5
  go_wp2_with fail
  refine (checkLevel_any B cb 0 rows _ hC.lv HRL.out.1 HRL.out.2).mono ?_
  rintro e w6 ⟨rfl, rfl⟩
  have d0 : (lvF rows != lvF rows) = false := by simp
  obtain ⟨lv, hlv⟩ : ∃ lv, lv = lvF rows := ⟨_, rfl⟩
  rw [← hlv] at d0 ⊢
  have HLV := Lib.hid hlv
  clear hlv
  go_wp2_with fail
  refine (inputFault_any X cx 0 ps _ hC.ip hn9).mono ?_
  rintro e w7 ⟨rfl, hb7⟩
  replace hC := hC.below hb7
  clear hb7 d0
  obtain ⟨iv, hiv⟩ : ∃ iv, iv = inFault ps := ⟨_, rfl⟩
  rw [← hiv]
  have HIV := Lib.hid hiv
  clear hiv
  go_wp2_with fail
  refine (or_any _ _ w7.heap.size [lv, iv] _ (by first | exact row_new' _ (by first | rfl | simp) (by first | omega | (simp; omega)) rfl | exact row_newN _ _ (by first | rfl | simp) (by first | omega | (simp; omega)) rfl | exact row_newD _ (by first | rfl | simp) (by first | omega | (simp; omega)) rfl) (by simp)).mono ?_
  rintro e w8 ⟨rfl, rfl⟩
  replace hC := hC.alloc (.cells #[.int .i64 lv, .int .i64 iv] 31)
  generalize w7.alloc (.cells #[.int .i64 lv, .int .i64 iv] 31) = w8 at *
  have hff : firstE [lv, iv] = firstE [lvF rows, inFault ps] := by rw [HLV.out, HIV.out]
  by_cases h0 : firstE [lv, iv] = 0
  · have hz : lvF rows = 0 ∧ inFault ps = 0 := by
      rw [hff, firstE_two] at h0
      split at h0
      · rename_i h1; exact ⟨h1, h0⟩
      · rename_i h1; exact absurd h0 h1
    have HL := Lib.hid (Lv.of hz.1)
    obtain ⟨sx, sy, hc⟩ := HL.out.start
    have HC := Lib.hid hc
    have HZ := Lib.hid hz
    rw [h0]
    clear h0 hff hz hc
    go_wp2_with fail
    refine (play_ok 0 B cb rows _ sx sy X cx ps _ hC.lv HL.out HC.out hC.ip HZ.out.1 HZ.out.2).mono ?_
    rintro e w9 ⟨rfl, hb9⟩
    replace hC := hC.below hb9
    obtain ⟨q, hq⟩ : ∃ q, q = bodyG (lastG (playF rows (rows.getD 0 []).length (gs0 sx sy) (unf ps)) (gs0 sx sy)) := ⟨_, rfl⟩
    have HQ : Hid (playV rows (rows.getD 0 []).length sx sy (unf ps) = gsV q) := Lib.hid (by rw [hq]; rfl)
    obtain ⟨L, hD⟩ : ∃ L, L = playF rows (rows.getD 0 []).length (gs0 sx sy) (unf ps) := ⟨_, rfl⟩
    have HLL : Hid (L.length ≤ 200000) := Lib.hid (by rw [hD]; exact Nat.le_trans playF_len (unf_20 HZ.out.2))
    have HD := Lib.hid hD
    rw [HQ.out, ← hD]
    simp only [gsV]
    clear hq hD hb9
    go_wp2_with fail
    have hk := Blk.new w9 36 #[.int .i64 q.x, .int .i64 q.y, .int .i64 q.rise, .bool q.held, .int .i64 q.mask, .int .i64 q.fin]
    replace hC := hC.alloc (.cells #[.int .i64 q.x, .int .i64 q.y, .int .i64 q.rise, .bool q.held, .int .i64 q.mask, .int .i64 q.fin] 36)
    generalize w9.alloc (.cells #[.int .i64 q.x, .int .i64 q.y, .int .i64 q.rise, .bool q.held, .int .i64 q.mask, .int .i64 q.fin] 36) = w10 at *
    generalize w9.heap.size = k1 at *
    refine (trace_ok 0 B cb rows _ sx sy X cx ps _ hC.lv HL.out HC.out hC.ip HZ.out.1 HZ.out.2).mono ?_
    rintro e w11 ⟨A11, c11, rfl, hown11, hb11⟩
    replace hC := hC.below hb11
    replace hk := hk.below hb11
    rw [← HD.out] at hown11
    rw [← HD.out]
    have hr11 := row_down (Row.of_own hown11)
    clear hown11 hb11
    go_wp2_with fail
    refine (playedOf_any 0 B cb rows _ sx sy X cx ps _ hC.lv HL.out HC.out hC.ip HZ.out.2).mono ?_
    rintro e w12 ⟨rfl, hb12⟩
    replace hC := hC.below hb12
    replace hk := hk.below hb12
    replace hr11 := hr11.below hb12
    rw [HQ.out, ← HD.out]
    simp only [gsV]
    clear hb12
    go_upto_region 14 with (fail)
    have hk2 := Blk.new w12 36 #[.int .i64 q.x, .int .i64 q.y, .int .i64 q.rise, .bool q.held, .int .i64 q.mask, .int .i64 q.fin]
    replace hk := hk.alloc (.cells #[.int .i64 q.x, .int .i64 q.y, .int .i64 q.rise, .bool q.held, .int .i64 q.mask, .int .i64 q.fin] 36)
    replace hC := hC.alloc (.cells #[.int .i64 q.x, .int .i64 q.y, .int .i64 q.rise, .bool q.held, .int .i64 q.mask, .int .i64 q.fin] 36)
    replace hr11 := hr11.alloc (.cells #[.int .i64 q.x, .int .i64 q.y, .int .i64 q.rise, .bool q.held, .int .i64 q.mask, .int .i64 q.fin] 36)
    generalize w12.alloc (.cells #[.int .i64 q.x, .int .i64 q.y, .int .i64 q.rise, .bool q.held, .int .i64 q.mask, .int .i64 q.fin] 36) = w13 at *
    generalize w12.heap.size = k2 at *
    have x0 := hk.cell 0
    have x1 := hk.cell 1
    have x2 := hk.cell 2
    have x3 := hk.cell 3
    have x4 := hk.cell 4
    have x5 := hk.cell 5
    simp only [List.getElem?_toArray, List.getElem?_cons_zero, List.getElem?_cons_succ] at x0 x1 x2 x3 x4 x5
    have y0 := hk2.cell 0
    have y1 := hk2.cell 1
    have y2 := hk2.cell 2
    have y3 := hk2.cell 3
    have y4 := hk2.cell 4
    have y5 := hk2.cell 5
    simp only [List.getElem?_toArray, List.getElem?_cons_zero, List.getElem?_cons_succ] at y0 y1 y2 y3 y4 y5
    clear hk hk2
    go_wp2_with fail
    have HP := Lib.hid (show ∀ p ∈ ps, 0 ≤ p.2 from fun p hp => by have := (inFault_ok HZ.out.2).2.1 p hp; omega)
    refine (unfolded_any X cx 0 ps _ hC.ip hn9 HP.out (by have := (inFault_ok HZ.out.2).2.2; omega)).mono ?_
    rintro e w14 ⟨A14, c14, rfl, hown14, hb14⟩
    replace hC := hC.below hb14
    replace hr11 := hr11.below hb14
    have hr14 := row_down (Row.of_own hown14)
    clear hown14 hb14 x0 x1 x2 x3 x4 x5 y0 y1 y2 y3 y4 y5
    go_wp2_with fail
    refine (traceOf_any 0 B cb rows _ sx sy _ hC.lv HL.out HC.out A14 c14 (unf ps) hr14 (unf_64 HZ.out.2) (by have := unf_20 HZ.out.2; omega)).mono ?_
    rintro e w15 ⟨A15, c15, rfl, hown15, hb15⟩
    replace hC := hC.below hb15
    replace hr11 := hr11.below hb15
    rw [← HD.out] at hown15
    rw [← HD.out]
    have hr15 := row_down (Row.of_own hown15)
    clear hown15 hb15 hr14
    have hE := equalB_any A11 A15 c11 c15 0 0 (L.map bodyG) w15 (by rw [List.length_map]; exact hr11) (by rw [List.length_map]; exact hr15) (by rw [List.length_map]; have := HLL.out; omega)
    rw [List.length_map] at hE
    have HE := Lib.hid hE
    clear hE hr11 hr15
    go_wp2_with fail
    refine HE.out.mono ?_
    rintro e w16 ⟨rfl, hb16⟩
    replace hC := hC.below hb16
    clear hb16 HE
    go_wp2_with fail
    refine (pressed_any _).mono ?_
    rintro e w17 ⟨rfl, hb17⟩
    replace hC := hC.below hb17
    go_wp2_with fail
    go_ret
    exact ⟨rfl, hC.b⟩
  · have d0 : (firstE [lv, iv] != 0) = true := bne_iff_ne.2 h0
    rw [hff] at h0 d0 ⊢
    have H0 := Lib.hid h0
    clear h0 hff
    go_wp2_with fail
    refine (play_bad 0 B cb rows X cx ps _ hC.lv HRL.out.1 HRL.out.2 hC.ip hn9 H0.out).mono ?_
    rintro e w9 ⟨rfl, hb9⟩
    replace hC := hC.below hb9
    clear hb9
    unfold noBody
    go_wp2_with fail
    have hk := Blk.new w9 36 #[.int .i64 0, .int .i64 0, .int .i64 0, .bool false, .int .i64 0, .int .i64 0]
    replace hC := hC.alloc (.cells #[.int .i64 0, .int .i64 0, .int .i64 0, .bool false, .int .i64 0, .int .i64 0] 36)
    generalize w9.alloc (.cells #[.int .i64 0, .int .i64 0, .int .i64 0, .bool false, .int .i64 0, .int .i64 0] 36) = w10 at *
    generalize w9.heap.size = k1 at *
    refine (trace_bad 0 B cb rows X cx ps _ hC.lv HRL.out.1 HRL.out.2 hC.ip hn9 H0.out).mono ?_
    rintro e w11 ⟨rfl, hb11⟩
    replace hC := hC.below hb11
    replace hk := hk.below hb11
    clear hb11
    have x0 := hk.cell 0
    have x1 := hk.cell 1
    have x2 := hk.cell 2
    have x3 := hk.cell 3
    have x4 := hk.cell 4
    have x5 := hk.cell 5
    simp only [List.getElem?_toArray, List.getElem?_cons_zero, List.getElem?_cons_succ] at x0 x1 x2 x3 x4 x5
    clear hk
    generalize firstE [lvF rows, inFault ps] = ff at *
    have d1 : (ff == ff) = true := by simp
    go_wp2_with fail
    refine (pressed_any _).mono ?_
    rintro e w17 ⟨rfl, hb17⟩
    replace hC := hC.below hb17
    go_wp2_with fail
    go_ret
    exact ⟨rfl, hC.b⟩
end Go.Proofs.YtnlblgkoecnfmaaDoor
