/- Texts of this seat, laid together: Co Cf. -/
import Derived.Test.YtapjahbflhingaaGreatDoorBu58
import Derived.Test.YtapjahbflhingaaGreatDoorBu62
/- The walk of splitref1.ChanceOf at a right small history. -/
namespace Go.Proofs.YtapjahbflhingaaGreatDoor
set_option linter.unusedVariables false
set_option linter.unusedSimpArgs false
open Go.RowKit Go.Maps

theorem waysN_zero {rows : List (List Int)} (h : fullB rows = false) : waysN rows = 0 := by
  suffices hh : ∀ (n : Nat) (rs : List (List Int)), rs.length = n → fullB rs = false → waysN rs = 0 from hh _ rows rfl h
  intro n
  induction n with
  | zero =>
    intro rs hl hf
    have : rs = [] := List.eq_nil_of_length_eq_zero hl
    subst this; simp [fullB] at hf
  | succ n ih =>
    intro rs hl hf
    obtain ⟨q, r, rfl⟩ : ∃ q r, rs = q ++ [r] := ⟨rs.dropLast, rs.getLast (by intro e; subst e; simp at hl), (List.dropLast_concat_getLast _).symm⟩
    rw [waysN_snoc]
    rw [fullB_snoc] at hf
    cases hq : fullB q
    · rw [ih q (by simpa using hl) hq, Nat.zero_mul]
    · rw [hq] at hf
      simp only [Bool.true_and, decide_eq_false_iff_not] at hf
      rw [show r.length = 0 by omega, Nat.mul_zero]
/-- What is told of a chance. -/
def coV (atts : List Att) (n : Nat) (t : Int) : Value := if fullB (rowsQ atts n) = true then .tuple #[.agg #[.int .i64 (frN (goodN atts n t) (allN atts n)), .int .i64 (frD (goodN atts n t) (allN atts n))], .bool true] else .tuple #[.agg #[.int .i64 0, .int .i64 0], .bool false]
set_option maxHeartbeats 4000000 in
set_option maxRecDepth 100000 in
theorem chanceOf_any (SA TA : Option Addr) (c d lo : Nat) (t : Int) (segs : List (List UInt8)) (atts : List Att) (w : World) (hh : Hist w lo SA TA segs atts) (hok : HistOk segs atts) (h4 : segs.length ≤ 4) (h7 : atts.length ≤ 7) :
    Calls Tryz.prog 21 #[.agg #[.slice SA segs.length c, .slice TA atts.length d], .int .i64 t] w fun e w' => e = .returned (coV atts segs.length t) ∧ Below w.heap.size w w' := by
  have HO := Lib.hid hok
  have HQ : Hid (∀ r ∈ rowsQ atts segs.length, ∀ x ∈ r, 0 ≤ x ∧ x ≤ 864000000) := Lib.hid (fun r hr => (rowsQ_mem hok segs.length r hr).2)
  have HT : Hid (∀ k, waysN ((rowsQ atts segs.length).take k) ≤ 2401) := Lib.hid (fun k => waysN_small (by rw [rowsQ_len]; exact h4) (fun r hr => Nat.le_trans (rowsQ_mem hok segs.length r hr).1 h7) k)
  clear hok
  have hmm := @run_makeMap Tryz.prog
  go_enter Tryz.func21, Tryz.ntmps21
  have kA : Blk ((w.alloc (.cells #[.slice SA segs.length c, .slice TA atts.length d] 29)).alloc (.cells #[.int .i64 0, .int .i64 0] 41)) w.heap.size 29 #[.slice SA segs.length c, .slice TA atts.length d] := (Blk.new _ _ _).alloc _
  have kR : Blk ((w.alloc (.cells #[.slice SA segs.length c, .slice TA atts.length d] 29)).alloc (.cells #[.int .i64 0, .int .i64 0] 41)) (w.heap.size + 1) 41 #[.int .i64 0, .int .i64 0] := by
    have := Blk.new (w.alloc (.cells #[.slice SA segs.length c, .slice TA atts.length d] 29)) 41 #[.int .i64 0, .int .i64 0]
    simpa using this
  have hx : Below w.heap.size w ((w.alloc (.cells #[.slice SA segs.length c, .slice TA atts.length d] 29)).alloc (.cells #[.int .i64 0, .int .i64 0] 41)) := ((Below.refl _ _).alloc (Nat.le_refl _) _).alloc (by simp) _
  have hh := (hh.alloc (.cells #[.slice SA segs.length c, .slice TA atts.length d] 29)).alloc (.cells #[.int .i64 0, .int .i64 0] 41)
  go_upto_region 1 with (fail)
  generalize (w.alloc (.cells #[.slice SA segs.length c, .slice TA atts.length d] 29)).alloc (.cells #[.int .i64 0, .int .i64 0] 41) = w0 at *
  have M0 : MapF (w0.alloc (.map #[] 0)) w0.heap.size 0 0 (fun _ => 0) := MapF.made w0 0
  have hb0 : Below w0.heap.size w0 (w0.alloc (.map #[] 0)) := (Below.refl _ _).alloc (Nat.le_refl _) _
  go_upto_region 2 with (first
    | (refine wpList_insF rfl _ _ _ rfl rfl M0 (by unfold maxLen; omega) 0 1 (i64_sm (by omega) (by omega)) (i64_sm (by omega) (by omega)) (by omega) rfl rfl ?_; intro w1 hM1 hg1)
    | fail)
  have hb1 : Below w0.heap.size w0 w1 := hb0.grown hg1 (by simp) (fun k hk => by cases hk; exact Nat.le_refl _)
  have hM1' : MapF w1 w0.heap.size (waysN ((rowsQ atts segs.length).take 0)) ((0 : Nat) * 864000000) (cntL ((rowsQ atts segs.length).take 0)) := by
    have e : putF (fun _ => 0) 0 1 = cntL ((rowsQ atts segs.length).take 0) := rfl
    rw [← e]; exact hM1
  have kA := kA.below hb1
  have kR := kR.below hb1
  have hh := hh.below hb1
  have hx := below_up hx hb1
  have hxz := hx.size
  clear M0 hb0 hM1 hg1 hb1
  obtain ⟨a0, a1⟩ := kA.two_
  have za := kA.lt
  go_wp2_with fail
  go_loopw [6, 7, 23] (fun o v i wr => ∃ (k b : Nat), k ≤ segs.length ∧ i = .int .i64 k ∧ o = .map (some b) ∧ v = .int .i64 (waysN ((rowsQ atts segs.length).take k)) ∧ MapF wr b (waysN ((rowsQ atts segs.length).take k)) (k * 864000000) (cntL ((rowsQ atts segs.length).take k)) ∧ Below w1.heap.size w1 wr) (fun _ _ i _ => segs.length - (intOf i).toNat)
  case atStart => exact ⟨0, w0.heap.size, Nat.zero_le _, rfl, rfl, rfl, hM1', Below.refl _ _⟩
  case round =>
    clear hM1' a0 a1 za
    obtain ⟨k, b, hk, rfl, rfl, rfl, hM, hbw⟩ := hrel
    have hz := hbw.size
    have kAw := kA.below hbw
    by_cases hlt : k < segs.length
    · have hlq : k < (rowsQ atts segs.length).length := by rw [rowsQ_len]; exact hlt
      have HW : Hid (waysN ((rowsQ atts segs.length).take (k + 1)) = waysN ((rowsQ atts segs.length).take k) * (sorted (rowA atts k)).length) := Lib.hid (by rw [List.take_succ_eq_append_getElem hlq, waysN_snoc, rowsQ_at])
      have HC : Hid (cntL ((rowsQ atts segs.length).take (k + 1)) = wS (cntL ((rowsQ atts segs.length).take k)) (sorted (rowA atts k))) := Lib.hid (by rw [List.take_succ_eq_append_getElem hlq, cntL_snoc, rowsQ_at])
      have HB := Lib.hid (cntL_bd ((rowsQ atts segs.length).take k))
      have HX : Hid (∀ x ∈ sorted (rowA atts k), 0 ≤ x ∧ x ≤ 864000000) := Lib.hid (fun x hx => HQ.out (rowsQ atts segs.length)[k] (List.getElem_mem hlq) x (by rw [rowsQ_at]; exact hx))
      have hT1 := HT.out (k + 1)
      have hT0 := HT.out k
      rw [HW.out] at hT1
      obtain ⟨a0, a1⟩ := kAw.two_
      have za := kAw.lt
      go_wp2_with fail
      refine (rowOf_any SA TA c d _ k segs atts _ (hh.below hbw) HO.out).mono ?_
      rintro e W ⟨A1, c1, rfl, ho1, hbR⟩
      have hrow : Row W wr.heap.size 1 A1 (sorted (rowA atts k)).length (ints (sorted (rowA atts k))) := Row.of_own ho1
      have hMw := hM.below hbR
      have hbwW := below_up hbw hbR
      clear ho1 a0 a1 za kAw hM hlq
      have hM := hMw
      clear hMw
      generalize sorted (rowA atts k) = row at *
      generalize cntL ((rowsQ atts segs.length).take k) = f at *
      generalize waysN ((rowsQ atts segs.length).take k) = n at *
      have M1 : MapF (W.alloc (.map #[] 0)) W.heap.size 0 (k * 864000000 + 864000000) (fun _ => 0) := MapF.made W _
      have hzl := hM.lt
      have hMa := hM.alloc (.map #[] 0)
      have hb2 : Below W.heap.size W (W.alloc (.map #[] 0)) := (Below.refl _ _).alloc (Nat.le_refl _) _
      have e1 : (W.alloc (.map #[] 0)).heap.size = W.heap.size + 1 := by simp
      clear hM
      go_wp2_with (first
        | (at_range; refine wpList_rangeF rfl _ rfl rfl hMa ?_; intro wa left0 cnt0 hrg0 hcn0 hl0 hg0 hs0)
        | fail)
      go_frame
      rw [e1] at hrg0 hs0 ⊢
      have M2 := M1.kept hg0 (by simp)
      have hb3 : Below W.heap.size W wa := hb2.grown hg0 (by simp) (fun k hk => by cases hk)
      rw [← wS_start hl0 row] at M2
      clear M1 hMa hb2 hg0 hl0 e1
      go_loopw [11] (fun _ wq => ∃ (left : Int → Bool) (cnt : Nat), MapR wq b (W.heap.size + 1) n (k * 864000000) f left cnt ∧ cnt ≤ n ∧ MapF wq W.heap.size ((n - cnt) * row.length) (k * 864000000 + 864000000) (wS (mk_ f left) row) ∧ Below W.heap.size W wq) (fun _ wq => wq.rangeLeft b (W.heap.size + 1))
      case atStart => exact ⟨left0, cnt0, hrg0, hcn0, M2.mono (Nat.zero_le _) (Int.le_refl _), hb3⟩
      case round =>
        clear hrg0 hcn0 M2 hb3
        obtain ⟨left, cnt, hrg, hcn, hM, hbq⟩ := hrel
        go_wp2_with (first
          | (at_next; refine wpList_nextF rfl _ rfl rfl hrg ?_ ?_)
          | fail)
        · intro hl0
          have hM9 := hM.mono (m := n * row.length) (Nat.mul_le_mul_right _ (by omega)) (Int.le_refl _)
          rw [wS_end hl0, ← HC.out, ← HW.out] at hM9
          have eB : (k : Int) * 864000000 + 864000000 = ((k + 1 : Nat) : Int) * 864000000 := by omega
          rw [eB] at hM9
          have wm : IntKind.i64.wrap ((n : Int) * (row.length : Int)) = (n : Int) * (row.length : Int) := by
            rw [← Int.natCast_mul]; exact IntWalk.i64_in _ (by omega)
          clear hM hrg
          go_wp2_with fail
          go_roundw
          case rel => exact ⟨k + 1, W.heap.size, by omega, by go_num, rfl, by rw [HW.out, Int.natCast_mul], hM9, below_up hbwW hbq⟩
          case measure => simp [intOf]; omega
        · intro x wb cnt1 hx hfx hx0 hxB hlx hrg1 hlt1 hg1 hs1 hen
          have hM1 := hM.kept hg1 (fun e => by injection e with e; omega)
          have hb1 : Below W.heap.size W wb := hbq.grown hg1 hbq.size (fun k hk => by injection hk with hk; omega)
          have HE := Lib.hid (pj_end f left row hlx)
          rw [← pj_zero f left row x] at hM1
          have hR1 := hrg1
          clear hrg1 hM
          go_wp2_with fail
          go_loopw [39] (fun j wv => ∃ (j' : Nat), j' ≤ row.length ∧ j = .int .i64 j' ∧ MapR wv b (W.heap.size + 1) n (k * 864000000) f (fun y => left y && !decide (y = x)) cnt1 ∧ MapF wv W.heap.size ((n - cnt) * row.length + j') (k * 864000000 + 864000000) (pj f left row x j') ∧ Below W.heap.size W wv) (fun j _ => row.length - (intOf j).toNat)
          case atStart => exact ⟨0, Nat.zero_le _, rfl, hR1, hM1, hb1⟩
          case round =>
            clear hR1 hM1 hb1
            obtain ⟨j, hj, rfl, hR1, hM1, hb1⟩ := hrel
            by_cases hjl : j < row.length
            · obtain ⟨bb, off, rfl, _, hbs, cj⟩ := (hrow.below hb1).int_at hjl
              have hxr := HX.out row[j] (List.getElem_mem hjl)
              have HS := Lib.hid (pj_step f left row x hjl)
              generalize row[j] = y at *
              have hkx : I64 (x + y) := i64_sm (by omega) (by omega)
              have wk : IntKind.i64.wrap (x + y) = x + y := IntWalk.i64_in _ (by omega)
              obtain ⟨wv', iv⟩ := pj_wrap (x := x) HB.out hlx row j (x + y) (by omega) (by omega)
              have hqn : (n - cnt) * row.length + j < 200000000 := by
                have := Nat.mul_le_mul_right row.length (show n - cnt ≤ n by omega)
                have hz9 : row.length ≤ 100000000 ∨ n = 0 := by
                  rcases Nat.eq_zero_or_pos n with h | h
                  · exact .inr h
                  · have := Nat.mul_le_mul_right row.length (show 1 ≤ n from h)
                    left; omega
                omega
              generalize pj f left row x j = G at *
              go_wp2_with (first
                | (at_lookup; refine wpList_lookF rfl _ _ rfl rfl hM1 (x + y) hkx rfl ?_; intro _)
                | (at_mapUpdate; refine wpList_putF rfl _ _ _ rfl rfl hM1 (by unfold maxLen; omega) (x + y) (G (x + y) + f x) hkx iv (by omega) rfl rfl ?_; intro wd2 hM2 hg2)
                | fail)
              have hR2 := hR1.kept hg2 (fun e => by injection e with e; omega) (fun e => by injection e with e; omega)
              have hb2 : Below W.heap.size W wd2 := hb1.grown hg2 hb1.size (fun k hk => by injection hk with hk; omega)
              go_roundw
              case rel => exact ⟨j + 1, by omega, by go_num, hR2, by rw [HS.out]; exact hM2, hb2⟩
              case measure => simp [intOf]; omega
            · have hjn : j = row.length := by omega
              subst hjn
              rw [HE.out] at hM1
              have hq2 : (n - cnt) * row.length + row.length ≤ (n - cnt1) * row.length := by
                have := Nat.mul_le_mul_right row.length (show n - cnt + 1 ≤ n - cnt1 by omega)
                rw [Nat.add_mul, Nat.one_mul] at this
                exact this
              have hM2 := hM1.mono hq2 (Int.le_refl _)
              clear hM1
              go_wp2_with fail
              go_roundw
              case rel => exact ⟨_, cnt1, hR1, by omega, hM2, hb1⟩
              case measure => rw [hR1.left_eq, hrg.left_eq]; exact hlt1
    · have hke : k = segs.length := by omega
      subst hke
      have htk : (rowsQ atts segs.length).take segs.length = rowsQ atts segs.length := List.take_of_length_le (by rw [rowsQ_len]; exact Nat.le_refl _)
      have HT9 := HT.out segs.length
      rw [htk] at hM HT9 ⊢
      clear htk
      have kR := kR.below hbw
      have hx := below_up hx hbw
      obtain ⟨w2, hw2⟩ : ∃ W, W = wr := ⟨_, rfl⟩
      subst hw2
      clear kAw hbw hz kA
      cases hf : fullB (rowsQ atts segs.length)
      · have HZ := waysN_zero hf
        have HV : Hid (coV atts segs.length t = .tuple #[.agg #[.int .i64 0, .int .i64 0], .bool false]) := Lib.hid (by unfold coV; rw [if_neg (by rw [hf]; decide)])
        rw [HZ]
        obtain ⟨r0, r1⟩ := kR.two_
        have rz := kR.lt
        have rf0 := kR.thaw 0
        have rf1 := kR.thaw 1
        obtain ⟨z0, z1, z2⟩ := kR.two (.int .i64 0) (.int .i64 0)
        have HB := Lib.hid (Below.setCell (Below.setCell hx (p := ⟨w.heap.size + 1, 0, none⟩) (by simp) (.int .i64 0)) (p := ⟨w.heap.size + 1, 1, none⟩) (by simp) (.int .i64 0))
        clear hx kR hM hf HZ
        go_wp2_with fail
        refine bodyPost_ret (v := .tuple #[.agg #[.int .i64 0, .int .i64 0], .bool false]) (by simp [results, Tryz.results21, go_sem, z0, z1, z2]) rfl ?_
        exact ⟨by rw [HV.out], HB.out⟩
      · have HV : Hid (coV atts segs.length t = .tuple #[.agg #[.int .i64 (frN (goodN atts segs.length t) (allN atts segs.length)), .int .i64 (frD (goodN atts segs.length t) (allN atts segs.length))], .bool true]) := Lib.hid (by unfold coV; rw [if_pos hf])
        have hal := allN_bd HO.out h4 h7 hf
        have hgb := goodN_bd HO.out segs.length t
        have HGD : Hid (goodN atts segs.length t = upTo (segs.length * 864000000) (cntL (rowsQ atts segs.length)) t) := Lib.hid rfl
        have HAD : Hid (allN atts segs.length = waysN (rowsQ atts segs.length)) := Lib.hid rfl
        rw [← HAD.out]
        generalize hBn : segs.length * 864000000 = Bn at HGD
        have HBN := Lib.hid hBn
        clear hBn
        generalize hgn : goodN atts segs.length t = gn at *
        generalize han : allN atts segs.length = an at *
        have HGN := Lib.hid hgn
        have HAN := Lib.hid han
        clear hgn han
        have da : (an == 0) = false := by simp; omega
        have hB9 : ((segs.length : Nat) : Int) * 864000000 = (Bn : Int) := by rw [← HBN.out]; omega
        rw [hB9] at hM
        clear hB9 hf
        generalize waysN (rowsQ atts segs.length) = nb at *
        generalize hfq : cntL (rowsQ atts segs.length) = f at *
        have HNN : Hid (∀ s, 0 ≤ f s) := Lib.hid (fun s => by rw [← hfq]; exact (cntL_bd _ s).1)
        clear hfq
        have hr4 := kR.lt
        go_wp2_with (first
          | (at_range; refine wpList_rangeF rfl _ rfl rfl hM ?_; intro w5 left0 cnt0 hrg0 hcn0 hl0 hg0 hs0)
          | fail)
        go_frame
        have kR5 : Blk w5 (w.heap.size + 1) 41 #[.int .i64 0, .int .i64 0] := (hg0.block _ kR.lt (fun e => by cases e)).trans kR
        have hx5 : Below w.heap.size w w5 := hx.grown hg0 hx.size (fun k hk => by cases hk)
        have HU0 : Hid (upTo Bn (mk_ f left0) t = 0) := Lib.hid (upTo_start hl0 t)
        clear kR hx hM hg0 hl0
        go_loopw [15] (fun v wq => ∃ (left : Int → Bool) (cnt : Nat), MapR wq b w2.heap.size nb (Bn : Int) f left cnt ∧ v = .int .i64 (upTo Bn (mk_ f left) t) ∧ Below w2.heap.size w5 wq ∧ Blk wq (w.heap.size + 1) 41 #[.int .i64 0, .int .i64 0] ∧ Below w.heap.size w wq) (fun _ wq => wq.rangeLeft b w2.heap.size)
        case atStart => exact ⟨left0, cnt0, hrg0, by rw [HU0.out], Below.refl _ _, kR5, hx5⟩
        case round =>
          clear hrg0 hcn0 kR5 hx5 HU0
          obtain ⟨left, cnt, hrg, rfl, hby, kR, hx⟩ := hrel
          have HUB : Hid (0 ≤ upTo Bn (mk_ f left) t ∧ upTo Bn (mk_ f left) t ≤ gn) := Lib.hid (by
            have h1 : ∀ s, 0 ≤ mk_ f left s := fun s => by unfold mk_; have := HNN.out s; split <;> omega
            have h2 : ∀ s, mk_ f left s ≤ f s := fun s => by unfold mk_; have := HNN.out s; split <;> omega
            refine ⟨upTo_nonneg h1, ?_⟩
            rw [HGD.out]
            exact upTo_mono h1 h2 (Int.le_refl _))
          go_wp2_with (first
            | (at_next; refine wpList_nextF rfl _ rfl rfl hrg ?_ ?_)
            | fail)
          · intro hl0
            have HE : Hid (upTo Bn (mk_ f left) t = gn) := Lib.hid (by rw [HGD.out]; exact upTo_end hl0 t)
            rw [HE.out]
            obtain ⟨r0, r1⟩ := kR.two_
            have rz := kR.lt
            go_wp2_with fail
            refine (rlowest_any gn an _ (by omega) (by omega) (by omega) (by omega)).mono ?_
            rintro e w6 ⟨rfl, hb⟩
            have kR := kR.below hb
            have hx := below_up hx hb
            generalize hfn : frN gn an = fn at *
            generalize hfd : frD gn an = fd at *
            have HFN := Lib.hid hfn
            have HFD := Lib.hid hfd
            clear hfn hfd
            clear hb r0 r1 rz
            obtain ⟨r0, r1⟩ := kR.two_
            have rz := kR.lt
            have rf0 := kR.thaw 0
            have rf1 := kR.thaw 1
            obtain ⟨z0, z1, z2⟩ := kR.two (.int .i64 fn) (.int .i64 fd)
            have HB := Lib.hid (Below.setCell (Below.setCell hx (p := ⟨w.heap.size + 1, 0, none⟩) (by simp) (.int .i64 fn)) (p := ⟨w.heap.size + 1, 1, none⟩) (by simp) (.int .i64 fd))
            clear hx kR
            go_wp2_with fail
            refine bodyPost_ret (v := .tuple #[.agg #[.int .i64 fn, .int .i64 fd], .bool true]) (by simp [results, Tryz.results21, go_sem, z0, z1, z2]) rfl ?_
            exact ⟨by rw [HV.out], HB.out⟩
          · intro x w6 cnt1 hx1 hfx hx0 hxB hlx hrg1 hlt1 hg1 hs1 hen
            have HST := Lib.hid (upTo_step (B := Bn) (f := f) (t := t) hlx hx0 hxB)
            have hb6 : Below w2.heap.size w5 w6 := hby.grown hg1 (Nat.le_trans (by omega) hby.size) (fun k hk => by injection hk with hk; omega)
            have kR6 : Blk w6 (w.heap.size + 1) 41 #[.int .i64 0, .int .i64 0] := (hg1.block _ kR.lt (fun e => by injection e with e; have := kR.lt; omega)).trans kR
            have hx6 : Below w.heap.size w w6 := hx.grown hg1 hx.size (fun k hk => by injection hk with hk; omega)
            have hub := HUB.out
            have hfb : f x ≤ gn ∨ ¬ x ≤ t := by
              by_cases hxt : x ≤ t
              · left
                have h1 : ∀ s, 0 ≤ mk_ f (fun y => left y && !decide (y = x)) s := fun s => by unfold mk_; have := HNN.out s; split <;> omega
                have h2 : ∀ s, mk_ f (fun y => left y && !decide (y = x)) s ≤ f s := fun s => by unfold mk_; have := HNN.out s; split <;> omega
                have h3 := upTo_mono (B := Bn) (t := t) (u := t) h1 h2 (Int.le_refl _)
                rw [HST.out, if_pos hxt, ← HGD.out] at h3
                omega
              · exact .inr hxt
            generalize upTo Bn (mk_ f left) t = u at *
            by_cases hxt : x ≤ t
            · have dt : decide (x ≤ t) = true := by simpa using hxt
              have wu : IntKind.i64.wrap (u + f x) = u + f x := by
                have := HNN.out x
                exact IntWalk.i64_in _ (by omega)
              have HF : Hid (upTo Bn (mk_ f (fun y => left y && !decide (y = x))) t = u + f x) := Lib.hid (by rw [HST.out, if_pos hxt])
              clear hxt hfb hub HUB HST
              go_wp2_with fail
              go_roundw
              case rel => exact ⟨_, cnt1, hrg1, by rw [HF.out], hb6, kR6, hx6⟩
              case measure => rw [hrg1.left_eq, hrg.left_eq]; exact hlt1
            · have dt : decide (x ≤ t) = false := by simpa using hxt
              have HF : Hid (upTo Bn (mk_ f (fun y => left y && !decide (y = x))) t = u) := Lib.hid (by rw [HST.out, if_neg hxt]; omega)
              clear hxt hfb hub HUB HST
              go_wp2_with fail
              go_roundw
              case rel => exact ⟨_, cnt1, hrg1, by rw [HF.out], hb6, kR6, hx6⟩
              case measure => rw [hrg1.left_eq, hrg.left_eq]; exact hlt1
end Go.Proofs.YtapjahbflhingaaGreatDoor
/- The walk of splitref1.ChanceFault at a right small history. -/
namespace Go.Proofs.YtapjahbflhingaaGreatDoor
set_option linter.unusedVariables false
set_option linter.unusedSimpArgs false
open Go.RowKit Go.Sort

/-- How many ways the first rows have, an empty one counted as one. -/
def capN (atts : List Att) : Nat → Nat
  | 0 => 1
  | k + 1 => capN atts k * max (sorted (rowA atts k)).length 1
theorem capN_bd {atts : List Att} (h7 : atts.length ≤ 7) : ∀ k, 1 ≤ capN atts k ∧ capN atts k ≤ 7 ^ k
  | 0 => ⟨Nat.le_refl _, Nat.le_refl _⟩
  | k + 1 => by
    obtain ⟨h1, h2⟩ := capN_bd h7 k
    have h3 : (sorted (rowA atts k)).length ≤ 7 := by rw [sorted_len]; exact Nat.le_trans (rowA_len _ _) h7
    have h4 : 1 ≤ max (sorted (rowA atts k)).length 1 := by omega
    have h5 : max (sorted (rowA atts k)).length 1 ≤ 7 := by omega
    simp only [capN, Nat.pow_succ]
    exact ⟨Nat.mul_le_mul h1 h4, Nat.mul_le_mul h2 h5⟩
theorem capN_small {atts : List Att} (h7 : atts.length ≤ 7) {k : Nat} (hk : k ≤ 4) : 1 ≤ capN atts k ∧ capN atts k ≤ 2401 := by
  obtain ⟨h1, h2⟩ := capN_bd h7 k
  exact ⟨h1, Nat.le_trans h2 (Nat.le_trans (Nat.pow_le_pow_right (by omega) hk) (by decide))⟩
def chF (t : Int) : Int := if t < 0 ∨ 864000000 < t then 1 else 0
set_option maxHeartbeats 4000000 in
set_option maxRecDepth 100000 in
theorem chanceFault_any (SA TA : Option Addr) (c d lo : Nat) (t : Int) (segs : List (List UInt8)) (atts : List Att) (w : World) (hh : Hist w lo SA TA segs atts) (hok : HistOk segs atts) (h4 : segs.length ≤ 4) (h7 : atts.length ≤ 7) :
    Calls Tryz.prog 20 #[.agg #[.slice SA segs.length c, .slice TA atts.length d], .int .i64 t] w fun e w' => e = .returned (.int .i64 (chF t)) ∧ Below w.heap.size w w' := by
  have HO := Lib.hid hok
  have HS : Hid (spanFault t 0 864000000 = chF t) := Lib.hid (by unfold spanFault chF; split <;> split <;> omega)
  have HC := Lib.hid (fun (k : Nat) (hk : k ≤ 4) => capN_small h7 hk)
  clear hok
  go_enter Tryz.func20, Tryz.ntmps20
  go_wp2_with fail
  have kA : Blk (w.alloc (.cells #[.slice SA segs.length c, .slice TA atts.length d] 29)) w.heap.size 29 #[.slice SA segs.length c, .slice TA atts.length d] := Blk.new _ _ _
  have hx : Below w.heap.size w (w.alloc (.cells #[.slice SA segs.length c, .slice TA atts.length d] 29)) := (Below.refl _ _).alloc (Nat.le_refl _) _
  have hh := hh.alloc (.cells #[.slice SA segs.length c, .slice TA atts.length d] 29)
  generalize w.alloc (.cells #[.slice SA segs.length c, .slice TA atts.length d] 29) = w0 at *
  refine (span_any _ _ _ _).mono ?_
  rintro e w1 ⟨rfl, rfl⟩
  rw [HS.out]
  by_cases hf : t < 0 ∨ 864000000 < t
  · have HF : Hid (chF t = 1) := Lib.hid (by unfold chF; rw [if_pos hf])
    rw [HF.out]
    clear hf
    go_wp2_with fail
    go_ret
    exact ⟨ret_int' HF.out.symm, hx⟩
  · have HF : Hid (chF t = 0) := Lib.hid (by unfold chF; rw [if_neg hf])
    rw [HF.out]
    clear hf
    obtain ⟨a0, a1⟩ := kA.two_
    have za := kA.lt
    have d12 : decide ((12 : Int) < (segs.length : Int)) = false := by simp; omega
    go_wp2_with fail
    go_loopw [6, 7, 22] (fun v b i wr => ∃ (k : Nat) (q : Bool), k ≤ segs.length ∧ i = .int .i64 k ∧ v = .int .i64 (capN atts k) ∧ b = .bool q ∧ Below w0.heap.size w0 wr) (fun _ _ i _ => segs.length - (intOf i).toNat)
    case atStart => exact ⟨0, false, Nat.zero_le _, rfl, rfl, rfl, Below.refl _ _⟩
    case round =>
      clear a0 a1 za d12
      obtain ⟨k, q, hk, rfl, rfl, rfl, hbw⟩ := hrel
      have kAw := kA.below hbw
      obtain ⟨a0, a1⟩ := kAw.two_
      have za := kAw.lt
      by_cases hlt : k < segs.length
      · obtain ⟨c1, c2⟩ := HC.out (k + 1) (by omega)
        obtain ⟨c3, c4⟩ := HC.out k (by omega)
        have HN : Hid (capN atts (k + 1) = capN atts k * max (sorted (rowA atts k)).length 1) := Lib.hid rfl
        have hlen : (sorted (rowA atts k)).length ≤ 7 := by rw [sorted_len]; exact Nat.le_trans (rowA_len _ _) h7
        go_wp2_with fail
        refine (rowOf_any SA TA c d lo k segs atts _ (hh.below hbw) HO.out).mono ?_
        rintro e w2 ⟨A2, c9, rfl, -, hb2⟩
        rw [HN.out] at c1 c2
        generalize (sorted (rowA atts k)).length = n at *
        generalize capN atts k = W at *
        clear a0 a1 za
        have hv : min (wrap64 ((W : Int) * max (n : Int) 1)) 1000001 = ((W * max n 1 : Nat) : Int) := by
          have e1 : (W : Int) * max (n : Int) 1 = ((W * max n 1 : Nat) : Int) := by
            rw [Int.natCast_mul]
            congr 1
            omega
          rw [e1]
          have e2 : wrap64 ((W * max n 1 : Nat) : Int) = ((W * max n 1 : Nat) : Int) := by unfold wrap64; omega
          rw [e2]
          omega
        have HV : Hid (min (wrap64 ((W : Int) * max (n : Int) 1)) 1000001 = (capN atts (k + 1) : Int)) := Lib.hid (by rw [hv, HN.out])
        clear hv c1 c2
        cases q
        · go_wp2_with fail
          go_roundw
          case rel => exact ⟨k + 1, _, by omega, by go_num, by rw [HV.out], rfl, below_up hbw hb2⟩
          case measure => simp [intOf]; omega
        · go_wp2_with fail
          go_roundw
          case rel => exact ⟨k + 1, _, by omega, by go_num, by rw [HV.out], rfl, below_up hbw hb2⟩
          case measure => simp [intOf]; omega
      · have hke : k = segs.length := by omega
        subst hke
        obtain ⟨c3, c4⟩ := HC.out segs.length (by omega)
        generalize capN atts segs.length = W at *
        have d6 : decide ((1000000 : Int) < (W : Int)) = false := by simp; omega
        cases q
        · go_wp2_with fail
          go_ret
          exact ⟨ret_int' HF.out.symm, below_up hx hbw⟩
        · go_wp2_with fail
          go_ret
          exact ⟨ret_int' HF.out.symm, below_up hx hbw⟩
end Go.Proofs.YtapjahbflhingaaGreatDoor
