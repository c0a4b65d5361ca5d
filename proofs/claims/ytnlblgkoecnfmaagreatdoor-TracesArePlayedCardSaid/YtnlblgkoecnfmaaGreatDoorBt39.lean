/- Texts of this seat, laid together: LawTracesArePlayed. -/
import Derived.Deep.DeepCutAuto
import Derived.Deep.CutRange
import Derived.Test.YtnlblgkoecnfmaaGreatDoorBt13
import Derived.Test.YtnlblgkoecnfmaaGreatDoorBt18
import Derived.Test.YtnlblgkoecnfmaaGreatDoorBt19
import Derived.Test.YtnlblgkoecnfmaaGreatDoorBt38
import Derived.Test.YtnlblgkoecnfmaaGreatDoorBt17
/- For every list of numbers the law TracesArePlayed returns true and leaves the list as it was: its walk. -/
namespace Go.Proofs.YtnlblgkoecnfmaaGreatDoor
set_option linter.unusedVariables false
set_option linter.unusedSimpArgs false
open Go.RowKit Go.Maps

theorem Row.six_at' {w : World} {lo : Nat} {A : Option Addr} {v : List GS} (h : Row w lo 6 A v.length (gss (v.map bodyG))) {k : Nat} (hk : k < v.length) :
    ∃ b off, A = some ⟨b, off, none⟩ ∧ b < w.heap.size ∧ ∀ j (hj : j < v.length), w.cell? ⟨b, off + j * 6, none⟩ = some (.int .i64 v[j].x) ∧ w.cell? ⟨b, off + j * 6 + 1, none⟩ = some (.int .i64 v[j].y) ∧ w.cell? ⟨b, off + j * 6 + 2, none⟩ = some (.int .i64 v[j].rise) ∧ w.cell? ⟨b, off + j * 6 + 3, none⟩ = some (.bool v[j].held) ∧ w.cell? ⟨b, off + j * 6 + 4, none⟩ = some (.int .i64 (popN v[j].mask)) ∧ w.cell? ⟨b, off + j * 6 + 5, none⟩ = some (.int .i64 v[j].fin) := by
  obtain ⟨b, off, e, hl, hb, hc⟩ := h.2 (by omega)
  refine ⟨b, off, e, hb, fun j hj => ?_⟩
  obtain ⟨h0, h1, h2, h3, h4, h5⟩ := gss_at (v.map bodyG) j (by simpa using hj)
  simp only [List.getElem_map, bodyG] at h0 h1 h2 h3 h4 h5
  exact ⟨hc _ _ h0, by rw [Nat.add_assoc]; exact hc _ _ h1, by rw [Nat.add_assoc]; exact hc _ _ h2, by rw [Nat.add_assoc]; exact hc _ _ h3, by rw [Nat.add_assoc]; exact hc _ _ h4, by rw [Nat.add_assoc]; exact hc _ _ h5⟩
set_option maxHeartbeats 8000000 in
set_option maxRecDepth 100000 in
theorem traces_walk (A : Option Addr) (n c : Nat) (w : World) (hn : n ≤ 9223372036854775807)
    (hz : ∀ k, k < n → ∃ b off z, A = some ⟨b, off, none⟩ ∧ b < w.heap.size ∧ w.cell? ⟨b, off + k, none⟩ = some (.int .i64 z) ∧ I64 z) (hM : MaxL w) :
    LawCall 4 A n c w := by
  have hstr := str_make (c := c) hn hz
  clear hz
  have hx : Below w.heap.size w (w.alloc (.cells #[.slice A n c, .int .i64 0] 25)) := (Below.refl _ _).alloc (Nat.le_refl _) _
  have hz0 : (w.alloc (.cells #[.slice A n c, .int .i64 0] 25)).heap.size = w.heap.size + 1 := by simp
  have hM0 := hM.below ((Below.refl _ _).alloc (Nat.le_refl _) (.cells #[.slice A n c, .int .i64 0] 25))
  have hmg : 0 < w.heap.size := by
    obtain ⟨m, hm⟩ := hM
    exact World.block_lt_of_cell? w ⟨0, 0, none⟩ hm
  clear hM
  go_enter Tryz.func4, Tryz.ntmps4
  go_wp2_with fail
  generalize w.alloc (.cells #[.slice A n c, .int .i64 0] 25) = w0 at *
  refine (levelOf_any w.heap.size 0 _ hstr (by omega) hM0 hmg).mono ?_
  rintro e w1 ⟨B, cb, rows, rfl, hr1, hcb, hl1, hl0, hw1, hs1, hg1⟩
  replace hx := hx.grown hg1 (by omega) (fun k hk => by injection hk with hk; omega)
  have z1 := hs1.lt
  have HRW := Lib.hid hw1
  have hgl : w.heap.size < w0.heap.size := by omega
  clear hstr hM0 hw1
  have z01 := hg1.size
  clear hg1
  go_wp2_with fail
  refine (rightPieces_any w.heap.size _ _ hs1 (by omega)).mono ?_
  rintro e w2 ⟨X, cx, ps, rfl, hown2, hl2, hall2, hs2, hg2⟩
  replace hx := hx.grown hg2 (by omega) (fun k hk => by injection hk with hk; omega)
  have hr2 := row_down (hr1.grown hg2 hgl)
  have hx2 := row_down (Row.of_own hown2)
  have HIN := Lib.hid (rp_right hl2 hall2)
  clear hs1 hg2 hown2 hr1 hall2 hs2 z1 z01
  have HRL : Hid (rows.length ≤ 1000 ∧ ∀ r ∈ rows, r.length ≤ 1000) := Lib.hid ⟨by omega, fun r hr => by have := HRW.out r hr; omega⟩
  go_wp2_with fail
  refine (levelFault_any B cb 0 rows _ hr2 hcb HRL.out.1 HRL.out.2).mono ?_
  rintro e w5 ⟨rfl, hb5⟩
  replace hr2 := hr2.below hb5
  replace hx2 := hx2.below hb5
  replace hx := below_up hx hb5
  clear hb5
  obtain ⟨lv, hlv⟩ : ∃ lv, lv = glvF rows := ⟨_, rfl⟩
  rw [← hlv]
  have HLV := Lib.hid hlv
  clear hlv
  by_cases h0 : lv = 0
  · have hlz : glvF rows = 0 := by rw [← HLV.out]; exact h0
    have HL := Lib.hid (Lv.of hlz)
    obtain ⟨sx, sy, hc⟩ := HL.out.start
    have HC := Lib.hid hc
    have HLZ := Lib.hid hlz
    have d0 : (lv != 0) = false := by rw [h0]; rfl
    clear h0 hlz hc
    go_wp2_with fail
    clear d0
    refine (play_ok 0 B cb rows _ sx sy X cx ps _ hr2 HL.out HC.out hx2 HLZ.out HIN.out).mono ?_
    rintro e w9 ⟨rfl, hb9⟩
    replace hr2 := hr2.below hb9
    replace hx2 := hx2.below hb9
    replace hx := below_up hx hb9
    clear hb9
    have HPV : Hid (playV rows (rows.getD 0 []).length sx sy (unf ps) = gsV (bodyG (lastG (playF rows (rows.getD 0 []).length (gs0 sx sy) (unf ps)) (gs0 sx sy)))) := Lib.hid rfl
    obtain ⟨L, hD⟩ : ∃ L, L = playF rows (rows.getD 0 []).length (gs0 sx sy) (unf ps) := ⟨_, rfl⟩
    have HLL : Hid (L.length ≤ 200000) := Lib.hid (by rw [hD]; exact Nat.le_trans playF_len (unf_20 HIN.out))
    have HOK : Hid (∀ t ∈ L, GOk rows (rows.getD 0 []).length t) := Lib.hid (by rw [hD]; exact playF_ok HL.out (start_ok HL.out HC.out) rfl)
    have HCH : Hid (∀ i (h : i + 1 < L.length), L[i].fin = 0 ∧ ∃ a, L[i + 1] = stepF rows (rows.getD 0 []).length a L[i]) := Lib.hid (by subst hD; exact playF_chain _ _)
    have HD := Lib.hid hD
    rw [← hD] at HPV ⊢
    obtain ⟨q, hq⟩ : ∃ q, q = lastG L (gs0 sx sy) := ⟨_, rfl⟩
    obtain ⟨pm, hpm⟩ : ∃ pm, pm = popN q.mask := ⟨_, rfl⟩
    rw [← hq] at HPV
    rw [HPV.out, gsV_pm hpm]
    have HQ := Lib.hid hq
    have HPM := Lib.hid hpm
    clear hq hpm hD HPV
    go_wp2_with fail
    have hk := Blk.new w9 55 #[.int .i64 q.x, .int .i64 q.y, .int .i64 q.rise, .bool q.held, .int .i64 (pm : Nat), .int .i64 q.fin]
    have hb10 := (Below.refl w9.heap.size w9).alloc (Nat.le_refl _) (.cells #[.int .i64 q.x, .int .i64 q.y, .int .i64 q.rise, .bool q.held, .int .i64 (pm : Nat), .int .i64 q.fin] 55)
    generalize w9.alloc (.cells #[.int .i64 q.x, .int .i64 q.y, .int .i64 q.rise, .bool q.held, .int .i64 (pm : Nat), .int .i64 q.fin] 55) = w10 at *
    replace hr2 := hr2.below hb10
    replace hx2 := hx2.below hb10
    replace hx := below_up hx hb10
    clear hb10
    generalize w9.heap.size = k1 at *
    refine (trace_ok 0 B cb rows _ sx sy X cx ps _ hr2 HL.out HC.out hx2 HLZ.out HIN.out).mono ?_
    rintro e w11 ⟨A11, c11, rfl, hown11, hb11⟩
    rw [← HD.out] at hown11
    rw [← HD.out]
    have hk11 := hk.below hb11
    have hr11 := row_down (Row.of_own hown11)
    replace hx := below_up hx hb11
    clear hown11 hb11 hk hr2 hx2
    obtain ⟨x0, x1, x2, x3, x4, x5⟩ : _ ∧ _ ∧ _ ∧ _ ∧ _ ∧ _ := ⟨hk11.cell 0, hk11.cell 1, hk11.cell 2, hk11.cell 3, hk11.cell 4, hk11.cell 5⟩
    simp only [List.getElem?_toArray, List.getElem?_cons_zero, List.getElem?_cons_succ] at x0 x1 x2 x3 x4 x5
    have hll : L.length ≤ 200000 := HLL.out
    go_upto_region 7 with (fail)
    go_cut [61] from 37 to 60 (fun v wx => v = .bool false ∧ Row wx 0 6 A11 L.length (gss (L.map bodyG)) ∧ Below w.heap.size w wx)
    case first =>
      by_cases hz : L.length = 0
      · have HRX := Lib.hid hr11
        clear hr11
        obtain rfl : L = [] := List.eq_nil_of_length_eq_zero hz
        clear hz
        go_quiet (fail)
        go_wp2_with fail
        go_meet
        exact ⟨rfl, HRX.out.drewN _, below_drewN' hx _⟩
      · have hpos : 0 < L.length := by omega
        have d1 : decide ((0 : Int) < (L.length : Int)) = true := decide_eq_true (by omega)
        have d2 : ((L.length : Int) != (L.length : Int)) = false := by simp
        have w1 : IntKind.i64.wrap ((L.length : Int) - 1) = ((L.length - 1 : Nat) : Int) := by rw [IntWalk.i64_in _ ⟨by omega, by omega⟩]; omega
        obtain ⟨b, off, hA, hbs, hcell⟩ := Row.six_at' hr11 hpos
        have hqq : L[L.length - 1] = q := by rw [HQ.out, lastG_at hpos]
        obtain ⟨y0, y1, y2, y3, y4, y5⟩ := hcell (L.length - 1) (by omega)
        rw [hqq] at y0 y1 y2 y3 y4 y5
        rw [← HPM.out] at y4
        have HRX := Lib.hid hr11
        subst hA
        clear hr11 hz hcell hqq
        go_quiet (fail)
        go_wp2_with fail
        go_meet
        exact ⟨rfl, HRX.out.drewN _, below_drewN' hx _⟩
    case rest =>
    obtain ⟨rfl, hr12, hx12⟩ := hcut
    clear hr11 hx hk11 x0 x1 x2 x3 x4 x5
    go_wp2_with fail
    go_loopw [64] (fun i wr => ∃ (k : Nat), k ≤ L.length ∧ i = .int .i64 k ∧ Row wr 0 6 A11 L.length (gss (L.map bodyG)) ∧ Below w.heap.size w wr) (fun i _ => L.length - (intOf i).toNat)
    case atStart => exact ⟨0, Nat.zero_le _, rfl, hr12, hx12⟩
    case round =>
      obtain ⟨k, hk, rfl, hrk, hxk⟩ := hrel
      clear hr12 hx12
      by_cases hkn : k < L.length
      · obtain ⟨b, off, hA, hbs, hcell⟩ := Row.six_at' hrk hkn
        subst hA
        obtain ⟨y0, y1, y2, y3, y4, y5⟩ := hcell k hkn
        have HRX := Lib.hid hrk
        have HCL := Lib.hid hcell
        have HKN := Lib.hid hkn
        clear hrk hcell
        generalize ht : L[k] = t at y0 y1 y2 y3 y4 y5
        have HT := Lib.hid ht
        obtain ⟨tm, htm⟩ : ∃ tm, tm = popN t.mask := ⟨_, rfl⟩
        rw [← htm] at y4
        have HTM := Lib.hid htm
        clear ht htm
        go_upto_region 12 with (fail)
        have hbl := Blk.new wr 55 #[.int .i64 t.x, .int .i64 t.y, .int .i64 t.rise, .bool t.held, .int .i64 (tm : Nat), .int .i64 t.fin]
        have hra := HRX.out.alloc (.cells #[.int .i64 t.x, .int .i64 t.y, .int .i64 t.rise, .bool t.held, .int .i64 (tm : Nat), .int .i64 t.fin] 55)
        have hxa : Below w.heap.size w (wr.alloc (.cells #[.int .i64 t.x, .int .i64 t.y, .int .i64 t.rise, .bool t.held, .int .i64 (tm : Nat), .int .i64 t.fin] 55)) := hxk.alloc hxk.size _
        generalize wr.alloc (.cells #[.int .i64 t.x, .int .i64 t.y, .int .i64 t.rise, .bool t.held, .int .i64 (tm : Nat), .int .i64 t.fin] 55) = wa at *
        generalize wr.heap.size = kb at *
        clear y0 y1 y2 y3 y4 y5 hxk HRX HCL
        obtain ⟨z0, z4, z5⟩ : _ ∧ _ ∧ _ := ⟨hbl.cell 0, hbl.cell 4, hbl.cell 5⟩
        simp only [List.getElem?_toArray, List.getElem?_cons_zero, List.getElem?_cons_succ] at z0 z4 z5
        obtain ⟨b', off', hA', hbs', hcell⟩ := Row.six_at' hra HKN.out
        obtain ⟨rfl, rfl⟩ : b' = b ∧ off' = off := by
          have := Option.some.inj hA'
          injection this with h1 h2
          exact ⟨h1.symm, h2.symm⟩
        have HRA := Lib.hid hra
        have HTK : Hid (t = L[k]'HKN.out) := Lib.hid HT.out.symm
        have HTO : Hid (GOk rows (rows.getD 0 []).length t) := Lib.hid (by rw [HTK.out]; exact HOK.out _ (List.getElem_mem HKN.out))
        have tx0 := HTO.out.x0
        have txW := HTO.out.xW
        have hW60 := HL.out.W60
        clear hra hbl hA'
        have hfk : t.fin = 0 ∨ t.fin ≠ 0 ∧ k = L.length - 1 := by
          by_cases hf : t.fin = 0
          · exact .inl hf
          · right
            refine ⟨hf, ?_⟩
            by_cases hk1 : k + 1 < L.length
            · exact absurd (by rw [HTK.out]; exact (HCH.out k hk1).1) hf
            · omega
        obtain ⟨nn, hnn⟩ : ∃ nn : Int, nn = IntKind.i64.wrap ((L.length : Int) - 1) := ⟨_, rfl⟩
        have hnn' : nn = (L.length : Int) - 1 := by rw [hnn, IntWalk.i64_in _ ⟨by omega, by omega⟩]
        have w1 : IntKind.i64.wrap ((L.length : Int) - 1) = nn := hnn.symm
        have hfin : ∃ f1 f2 : Bool, (t.fin != 0) = f1 ∧ ((k : Int) != nn) = f2 ∧ (f1 = false ∨ f2 = false) := by
          rcases hfk with h | ⟨h, h'⟩
          · exact ⟨false, _, by rw [h]; rfl, rfl, .inl rfl⟩
          · exact ⟨_, false, rfl, by rw [hnn']; simp; omega, .inr rfl⟩
        obtain ⟨f1, f2, d1, d2, hf12⟩ := hfin
        clear hfk hnn hnn'
        go_cut [114] from 69 to 113 (fun v wx => v = .bool false ∧ Row wx 0 6 (some ⟨b', off', none⟩) L.length (gss (L.map bodyG)) ∧ Below w.heap.size w wx)
        case first =>
          by_cases hk0 : k = 0
          · have d3 : ¬ 0 < k := by omega
            clear hcell hk0
            rcases hf12 with rfl | rfl
            · go_quiet (fail)
              go_wp2_with fail
              go_meet
              exact ⟨rfl, HRA.out.drewN _, below_drewN' hxa _⟩
            · cases f1 with
              | false =>
                go_quiet (fail)
                go_wp2_with fail
                go_meet
                exact ⟨rfl, HRA.out.drewN _, below_drewN' hxa _⟩
              | true =>
                go_quiet (fail)
                go_wp2_with fail
                go_meet
                exact ⟨rfl, HRA.out.drewN _, below_drewN' hxa _⟩
          · have d3 : 0 < k := by omega
            obtain ⟨y0, y1, y2, y3, y4, y5⟩ := hcell (k - 1) (by omega)
            have HUK : Hid (k - 1 + 1 = k ∧ k - 1 + 1 < L.length) := Lib.hid ⟨by omega, by omega⟩
            have wk : IntKind.i64.wrap ((k : Int) - 1) = ((k - 1 : Nat) : Int) := by rw [IntWalk.i64_in _ ⟨by omega, by omega⟩]; omega
            obtain ⟨u, hu⟩ : ∃ u, u = L[k - 1] := ⟨_, rfl⟩
            rw [congrArg GS.x hu.symm] at y0
            rw [congrArg (fun g : GS => popN g.mask) hu.symm] at y4
            have hstep : ∃ a, t = stepF rows (rows.getD 0 []).length a u := by
              obtain ⟨_, a, ha⟩ := HCH.out (k - 1) HUK.out.2
              refine ⟨a, ?_⟩
              rw [HTK.out, hu, ← ha]
              congr 1
              exact HUK.out.1.symm
            have hok : GOk rows (rows.getD 0 []).length u := by rw [hu]; exact HOK.out _ (List.getElem_mem _)
            have ux0 := hok.x0
            have uxW := hok.xW
            have hpop : popN u.mask ≤ tm := by
              obtain ⟨a, ha⟩ := hstep
              rw [HTM.out, ha]
              exact step_pop HL.out a hok.m
            have hxx : t.x = u.x - 1 ∨ t.x = u.x ∨ t.x = u.x + 1 := by
              obtain ⟨a, ha⟩ := hstep
              rw [ha]
              exact step_x a u
            generalize popN u.mask = um at *
            have d4 : ¬ tm < um := by omega
            clear hok hstep hpop hcell hu y1 y2 y3 y5 hk0
            generalize u.x = ux at *
            generalize t.x = tx at *
            rcases hxx with rfl | rfl | rfl
            · have w2 : IntKind.i64.wrap (ux - 1 - ux) = -1 := by rw [show ux - 1 - ux = -1 by omega]; decide
              have w3 : IntKind.i64.wrap (ux - (ux - 1)) = 1 := by rw [show ux - (ux - 1) = 1 by omega]; decide
              rcases hf12 with rfl | rfl
              · go_quiet (fail)
                go_wp2_with fail
                go_meet
                exact ⟨rfl, HRA.out.drewN _, below_drewN' hxa _⟩
              · cases f1 with
                | false =>
                  go_quiet (fail)
                  go_wp2_with fail
                  go_meet
                  exact ⟨rfl, HRA.out.drewN _, below_drewN' hxa _⟩
                | true =>
                  go_quiet (fail)
                  go_wp2_with fail
                  go_meet
                  exact ⟨rfl, HRA.out.drewN _, below_drewN' hxa _⟩
            · have w2 : IntKind.i64.wrap (tx - tx) = 0 := by rw [show tx - tx = 0 by omega]; decide
              rcases hf12 with rfl | rfl
              · go_quiet (fail)
                go_wp2_with fail
                go_meet
                exact ⟨rfl, HRA.out.drewN _, below_drewN' hxa _⟩
              · cases f1 with
                | false =>
                  go_quiet (fail)
                  go_wp2_with fail
                  go_meet
                  exact ⟨rfl, HRA.out.drewN _, below_drewN' hxa _⟩
                | true =>
                  go_quiet (fail)
                  go_wp2_with fail
                  go_meet
                  exact ⟨rfl, HRA.out.drewN _, below_drewN' hxa _⟩
            · have w2 : IntKind.i64.wrap (ux + 1 - ux) = 1 := by rw [show ux + 1 - ux = 1 by omega]; decide
              have w3 : IntKind.i64.wrap (ux - (ux + 1)) = -1 := by rw [show ux - (ux + 1) = -1 by omega]; decide
              rcases hf12 with rfl | rfl
              · go_quiet (fail)
                go_wp2_with fail
                go_meet
                exact ⟨rfl, HRA.out.drewN _, below_drewN' hxa _⟩
              · cases f1 with
                | false =>
                  go_quiet (fail)
                  go_wp2_with fail
                  go_meet
                  exact ⟨rfl, HRA.out.drewN _, below_drewN' hxa _⟩
                | true =>
                  go_quiet (fail)
                  go_wp2_with fail
                  go_meet
                  exact ⟨rfl, HRA.out.drewN _, below_drewN' hxa _⟩
        case rest =>
        obtain ⟨rfl, hr3, hx3⟩ := hcut
        go_wp2_with fail
        go_roundw
        case rel => exact ⟨k + 1, by omega, by go_num, hr3, hx3⟩
        case measure => simp [intOf]; omega
      · have hke : k = L.length := by omega
        subst hke
        clear hrk
        go_wp2_with fail
        refine (ready_any _).mono ?_
        rintro e w17 ⟨rfl, hb17⟩
        go_wp2_with fail
        go_ret
        exact ⟨rfl, below_up hxk hb17⟩
  · have d0 : (lv != 0) = true := bne_iff_ne.2 h0
    clear h0
    go_wp2_with fail
    refine (ready_any _).mono ?_
    rintro e w17 ⟨rfl, hb17⟩
    go_wp2_with fail
    go_ret
    exact ⟨rfl, below_up hx hb17⟩
end Go.Proofs.YtnlblgkoecnfmaaGreatDoor
