/- Texts of this seat, laid together: Hl. -/
import Derived.Test.YtagghmfhfboejaaGreatDoorBu30
/- The walk of splitref1.LeastFrom at a right history: the least sums, worked out from the end. -/
namespace Go.Proofs.YtagghmfhfboejaaGreatDoor
set_option linter.unusedVariables false
set_option linter.unusedSimpArgs false
open Go.RowKit

def lwI (n k : Nat) : List Int := List.replicate k (-1) ++ List.replicate (n + 1 - k) 0
theorem lwI_len {n k : Nat} (h : k ≤ n) : (lwI n k).length = n + 1 := by simp [lwI]; omega
theorem lwI_get (n k i : Nat) (h : i < (lwI n k).length) : (lwI n k)[i] = if i < k then -1 else 0 := by
  simp only [lwI, List.getElem_append, List.length_replicate, List.getElem_replicate]
  split <;> simp_all
theorem lwI_zero (n : Nat) : lwI n 0 = List.replicate (n + 1) 0 := by simp [lwI]
theorem lwI_next {n k : Nat} (h : k < n) : (lwI n k).set k (-1) = lwI n (k + 1) := by
  have e : n + 1 - k = (n + 1 - (k + 1)) + 1 := by omega
  unfold lwI
  rw [e, List.replicate_succ, List.set_append_right _ _ (by simp), List.length_replicate, Nat.sub_self, List.replicate_succ']
  simp
def lwL (V : Nat → Int) (n kk : Nat) : List Int := (List.range (n + 1)).map fun i => if i < kk then -1 else V i
theorem lwL_len (V : Nat → Int) (n kk : Nat) : (lwL V n kk).length = n + 1 := by simp [lwL]
theorem lwL_at (V : Nat → Int) (n kk i : Nat) (h : i < (lwL V n kk).length) : (lwL V n kk)[i] = if i < kk then -1 else V i := by simp [lwL]
theorem lwI_end {V : Nat → Int} {n : Nat} (h : V n = 0) : lwI n n = lwL V n n := by
  apply List.ext_getElem
  · rw [lwI_len (Nat.le_refl _), lwL_len]
  · intro i h1 h2
    rw [lwL_at, lwI_get]
    have hi : i < n + 1 := by rw [lwI_len (Nat.le_refl _)] at h1; exact h1
    by_cases e : i < n
    · rw [if_pos e, if_pos e]
    · rw [if_neg e, if_neg e]
      have : i = n := by omega
      subst this
      exact h.symm
def lwT (V : Nat → Int) (atts : List Att) (n k j : Nat) : List Int := (lwL V n (k + 1)).set k (lwA V atts k j)
theorem lwT_len (V : Nat → Int) (atts : List Att) (n k j : Nat) : (lwT V atts n k j).length = n + 1 := by simp [lwT, lwL_len]
theorem lwT_get (V : Nat → Int) (atts : List Att) (n k j i : Nat) (h : i < (lwT V atts n k j).length) (h2 : i < (lwL V n (k + 1)).length) : (lwT V atts n k j)[i] = if k = i then lwA V atts k j else (lwL V n (k + 1))[i] := by
  simp only [lwT, List.getElem_set]
theorem lwT_zero (V : Nat → Int) (atts : List Att) {n k : Nat} (h : k ≤ n) : lwT V atts n k 0 = lwL V n (k + 1) := by
  unfold lwT
  rw [lwA_zero]
  apply List.ext_getElem
  · simp
  · intro i h1 h2
    rw [List.getElem_set]
    split
    · rename_i e; subst e; rw [lwL_at, if_pos (Nat.lt_succ_self _)]
    · rfl
theorem lwT_here (V : Nat → Int) (atts : List Att) (n k j : Nat) (h : k < (lwT V atts n k j).length) : (lwT V atts n k j)[k] = lwA V atts k j := by simp [lwT]
theorem lwT_far (V : Nat → Int) (atts : List Att) (n k j i : Nat) (h : i < (lwT V atts n k j).length) (hi : k < i) : (lwT V atts n k j)[i] = V i := by
  rw [lwT_get V atts n k j i h (by rw [lwT_len] at h; rw [lwL_len]; exact h), if_neg (by omega), lwL_at, if_neg (by omega)]
theorem lwT_end {V : Nat → Int} {atts : List Att} {n k : Nat} (h : lwA V atts k atts.length = V k) : lwT V atts n k atts.length = lwL V n k := by
  unfold lwT
  rw [h]
  apply List.ext_getElem
  · simp [lwL_len]
  · intro i h1 h2
    rw [List.getElem_set, lwL_at, lwL_at]
    by_cases e : k = i
    · subst e; rw [if_pos rfl, if_neg (Nat.lt_irrefl _)]
    · rw [if_neg e]
      by_cases h3 : i < k
      · rw [if_pos h3, if_pos (by omega)]
      · rw [if_neg h3, if_neg (by omega)]
theorem lwT_same {V : Nat → Int} {atts : List Att} {n k j : Nat} (h : lwA V atts k (j + 1) = lwA V atts k j) : lwT V atts n k (j + 1) = lwT V atts n k j := by unfold lwT; rw [h]
theorem lwT_set {V : Nat → Int} {atts : List Att} {n k j : Nat} {x : Int} (h : lwA V atts k (j + 1) = x) : lwT V atts n k (j + 1) = (lwT V atts n k j).set k x := by unfold lwT; rw [h, List.set_set]
theorem lwA_take {V : Nat → Int} {atts : List Att} {k j : Nat} {x : Int} (hj : j < atts.length) (h : candA V atts[j].2 k = [x]) (hc : lwA V atts k j < 0 ∨ x < lwA V atts k j) : lwA V atts k (j + 1) = x := by rw [lwA_step hj h, if_pos hc]
theorem lwA_pass {V : Nat → Int} {atts : List Att} {k j : Nat} {x : Int} (hj : j < atts.length) (h : candA V atts[j].2 k = [x]) (hc : ¬ (lwA V atts k j < 0 ∨ x < lwA V atts k j)) : lwA V atts k (j + 1) = lwA V atts k j := by rw [lwA_step hj h, if_neg hc]

set_option maxHeartbeats 8000000 in
set_option maxRecDepth 100000 in
theorem leastFrom_ok (SA TA : Option Addr) (c d lo from_ : Nat) (segs : List (List UInt8)) (atts : List Att) (w : World) (hh : Hist w lo SA TA segs atts) (hok : HistOk segs atts) (hfr : from_ ≤ segs.length) :
    Calls Tryz.prog 19 #[.agg #[.slice SA segs.length c, .slice TA atts.length d], .int .i64 from_] w fun e w' => e = .returned (.int .i64 (lvV (stepsA atts) segs.length from_)) ∧ Below w.heap.size w w' := by
  have n1 := hok.n1
  have n2 := hok.n2
  have hm := hok.m
  have HO := Lib.hid hok
  obtain ⟨f1, _, f3⟩ := stepsA_fwd hok
  have HVE := Lib.hid (lvV_end (stepsA atts) segs.length)
  have HVG := Lib.hid (fun i hi => lvV_ge f1 i hi)
  have HVL : Hid (∀ i, i ≤ segs.length → lvV (stepsA atts) segs.length i ≤ 60000000000) := Lib.hid (fun i hi => by have := lvV_le f1 f3 (segs.length - i) i rfl hi; omega)
  have HWA := Lib.hid (fun k (hk : k < segs.length) => lwA_all hok hk)
  clear hok f1 f3
  generalize lvV (stepsA atts) segs.length = V at *
  obtain ⟨und, _, _⟩ := ty_ints
  obtain ⟨i0, hi0, hz0, hz1, hz2⟩ := info_parts info_int
  have wn : IntKind.i64.wrap ((segs.length : Int) + 1) = (segs.length : Int) + 1 := IntWalk.i64_in _ (by omega)
  go_enter Tryz.func19, Tryz.ntmps19
  go_wp2_with (at_make; go_must (refine wpList_make_full _ rfl _ _ 22 rfl (w.alloc (.cells #[.slice SA segs.length c, .slice TA atts.length d] 29)).heap.size 3 i0 _ 1 und hi0 hz0 hz1 .i64 .i64 _ _ (segs.length + 1) rfl rfl (by omega) (by omega) (by rw [hz2]; omega) (by simp only [maxLen]; omega) (Nat.le_refl _) ?_))
  intro w1 hown1 hg1
  clear wn
  have hb0 : Below w.heap.size w (w.alloc (.cells #[.slice SA segs.length c, .slice TA atts.length d] 29)) := (Below.refl _ _).alloc (Nat.le_refl _) _
  have hk0 : Blk (w.alloc (.cells #[.slice SA segs.length c, .slice TA atts.length d] 29)) w.heap.size 29 #[.slice SA segs.length c, .slice TA atts.length d] := Blk.new _ _ _
  have hz0 : (w.alloc (.cells #[.slice SA segs.length c, .slice TA atts.length d] 29)).heap.size = w.heap.size + 1 := by simp
  generalize w.alloc (.cells #[.slice SA segs.length c, .slice TA atts.length d] 29) = w0 at *
  have hz9 := hk0.lt
  have hb1 : Below w0.heap.size w0 w1 := (Below.refl _ _).grown hg1 (Nat.le_refl _) (fun k hk => by cases hk)
  obtain ⟨g, cs, eg, hg, hblk, hcs, hsz⟩ := own_blkS hown1 (by omega)
  have eg' : w.heap.size + 1 = g := congrArg Addr.block (Option.some.inj eg)
  have hO1 : OutB w1 g (lwI segs.length 0) := by
    refine ⟨cs, hblk, fun i hi => ?_⟩
    have hi' : i < segs.length + 1 := by rw [lwI_len (Nat.zero_le _)] at hi; exact hi
    rw [hcs i hi']
    first
      | (rw [ints_repz]; simp [lwI, ints, hi'])
      | (rw [toList_madeCells_one]; simp [lwI, hi'])
  subst eg'
  clear hown1 hg1 eg hblk hcs hsz cs hg
  have hx1 := below_up hb0 hb1
  have hk1 := hk0.below hb1
  clear hb0 hk0 hb1
  go_wp2_with fail
  go_loopw [21] (fun i wr => ∃ k : Nat, k ≤ segs.length ∧ i = .int .i64 k ∧ OutB wr (w.heap.size + 1) (lwI segs.length k) ∧ Blk wr w.heap.size 29 #[.slice SA segs.length c, .slice TA atts.length d] ∧ Below w.heap.size w wr) (fun i _ => segs.length - (intOf i).toNat)
  case atStart => exact ⟨0, Nat.zero_le _, rfl, hO1, hk1, hx1⟩
  case round =>
    clear hO1 hk1 hx1
    obtain ⟨k, hk, rfl, hO, hkb, hbw⟩ := hrel
    have hzr := hbw.size
    have hgl := hO.lt
    by_cases hlt : k < segs.length
    · have ck := hO.cell k (by rw [lwI_len hk]; omega)
      have fk := hO.frz k
      have hset := hO.set k (by rw [lwI_len hk]; omega) (-1)
      rw [lwI_next hlt] at hset
      go_wp2_with fail
      go_roundw
      case rel => exact ⟨k + 1, by omega, by go_num, hset, Blk.past hkb _ _ _ (by omega), Below.setCell hbw (by simp) _⟩
      case measure => simp [intOf]; omega
    · have hkn : k = segs.length := by omega
      subst hkn
      rw [lwI_end HVE.out] at hO
      obtain ⟨W1, hW1⟩ : ∃ W, W = wr := ⟨_, rfl⟩
      subst hW1
      have wn1 : IntKind.i64.wrap ((segs.length : Int) - 1) = (segs.length : Int) - 1 := IntWalk.i64_in _ (by omega)
      go_wp2_with fail
      clear wn1
      go_loopw [8] (fun i wr => ∃ kk : Nat, kk ≤ segs.length ∧ from_ ≤ kk ∧ i = .int .i64 ((kk : Int) - 1) ∧ OutB wr (w.heap.size + 1) (lwL V segs.length kk) ∧ Blk wr w.heap.size 29 #[.slice SA segs.length c, .slice TA atts.length d] ∧ Below w.heap.size w wr) (fun i _ => (intOf i + 1).toNat)
      case atStart => exact ⟨segs.length, Nat.le_refl _, hfr, rfl, hO, hkb, hbw⟩
      case round =>
        clear hO hkb hbw hzr hgl
        obtain ⟨kk, hkk, hfk, rfl, hO, hkb, hbw⟩ := hrel
        have hzr := hbw.size
        have hgl := hO.lt
        obtain ⟨q0, q1⟩ := hkb.two_
        have hkl := hkb.lt
        by_cases hge : from_ < kk
        · obtain ⟨k, rfl⟩ : ∃ k, kk = k + 1 := ⟨kk - 1, by omega⟩
          have hks : k < segs.length := by omega
          have ek : ((k + 1 : Nat) : Int) - 1 = (k : Int) := by omega
          rw [ek]
          rw [← lwT_zero V atts (by omega)] at hO
          have hge' : from_ ≤ k := by omega
          have d9 : decide ((from_ : Int) ≤ (k : Int)) = true := by simp; omega
          have HEND := Lib.hid (lwT_end (n := segs.length) (HWA.out k hks))
          clear hge
          obtain ⟨W2, hW2⟩ : ∃ W, W = wr := ⟨_, rfl⟩
          subst hW2
          go_wp2_with fail
          go_loopw [38] (fun i wr => ∃ j : Nat, j ≤ atts.length ∧ i = .int .i64 j ∧ OutB wr (w.heap.size + 1) (lwT V atts segs.length k j) ∧ Blk wr w.heap.size 29 #[.slice SA segs.length c, .slice TA atts.length d] ∧ Below w.heap.size w wr) (fun i _ => atts.length - (intOf i).toNat)
          case atStart => exact ⟨0, Nat.zero_le _, rfl, hO, hkb, hbw⟩
          case round =>
            clear hO hkb hbw hzr hgl q0 q1 hkl
            obtain ⟨j, hj, rfl, hO, hkb, hbw⟩ := hrel
            have hzr := hbw.size
            have hgl := hO.lt
            obtain ⟨q0, q1⟩ := hkb.two_
            have hkl := hkb.lt
            by_cases hlt : j < atts.length
            · obtain ⟨b, off, B, cB, rfl, hbs, c0, c1', hrB⟩ := (hh.below hbw).att hlt
              have HSP := Lib.hid (HO.out.spl j hlt)
              have hsl := HSP.out.len
              have HSK := Lib.hid (fun h => lwT_same (n := segs.length) (lwA_skip (V := V) (k := k) hlt h))
              have HTK := Lib.hid (fun x h hc => lwT_set (n := segs.length) (lwA_take (V := V) (k := k) (x := x) hlt h hc))
              have HPS := Lib.hid (fun x h hc => lwT_same (n := segs.length) (lwA_pass (V := V) (k := k) (x := x) hlt h hc))
              have hrA := hrB.alloc (.cells #[.int .i64 atts[j].1, .slice B atts[j].2.length cB] 45)
              have hkA : Blk (wr.alloc (.cells #[.int .i64 atts[j].1, .slice B atts[j].2.length cB] 45)) wr.heap.size 45 #[.int .i64 atts[j].1, .slice B atts[j].2.length cB] := Blk.new _ _ _
              have hba : Below w.heap.size w (wr.alloc (.cells #[.int .i64 atts[j].1, .slice B atts[j].2.length cB] 45)) := (by repeat (first | exact hbw | refine Below.alloc ?_ (by first | omega | (simp; omega)) _ | refine below_drewN' ?_ _ | refine Below.drew ?_))
              have hkba := hkb.alloc (.cells #[.int .i64 atts[j].1, .slice B atts[j].2.length cB] 45)
              have hOa := hO.alloc (.cells #[.int .i64 atts[j].1, .slice B atts[j].2.length cB] 45)
              generalize hx9 : atts[j].1 = no at *
              generalize hl9 : atts[j].2 = l at *
              clear hx9 hl9 hrB
              by_cases hk0 : k = 0
              · have HGOOD : Hid (goodA l k) := Lib.hid (.inl hk0)
                have HPV : Hid (pvA l k = 0) := Lib.hid (by simp [pvA, hk0])
                have d0 : decide ((0 : Int) < (k : Int)) = false := by simp; omega
                have d0' : decide (0 < k) = false := by simp; omega
                have d2 : (k : Int) ≤ 0 := by omega
                clear hk0
                go_wp2_with fail
                generalize wr.alloc (.cells #[.int .i64 no, .slice B l.length cB] 45) = wa at *
                obtain ⟨a0, a1⟩ := hkA.two_
                have hal := hkA.lt
                go_loop [12] (fun v => ∃ m : Nat, k ≤ m ∧ m ≤ l.length + k ∧ v = .int .i64 m ∧ Hid (∀ i, k ≤ i → i < m → l.getD i 0 = 0)) (fun v => l.length + k - (intOf v).toNat)
                case atStart => exact ⟨k, Nat.le_refl _, by omega, rfl, Lib.hid (fun i h1 h2 => by omega)⟩
                case round =>
                  obtain ⟨m, hkm, hml, rfl, HZ⟩ := hrel
                  by_cases hm2 : m < l.length
                  · obtain ⟨bB, oB, rfl, _, hbB, cm⟩ := hrA.int_at hm2
                    have e1 : decide ((m : Int) < (l.length : Int)) = true := by simp; omega
                    have e1' : decide (m < l.length) = true := by simpa using hm2
                    have bd := HSP.out.bd m hm2
                    have HG9 := Lib.hid (getD_is hm2)
                    generalize l[m] = x at *
                    by_cases hx : x = 0
                    · have HZ2 : Hid (∀ i, k ≤ i → i < m + 1 → l.getD i 0 = 0) := Lib.hid (fun i h1 h2 => by
                        rcases Nat.lt_or_ge i m with h | h
                        · exact HZ.out i h1 h
                        · have : i = m := by omega
                          subst this; rw [HG9.out, hx])
                      have e2 : (x == 0) = true := by simpa using hx
                      have wm : IntKind.i64.wrap ((m : Int) + 1) = (m : Int) + 1 := IntWalk.i64_in _ (by omega)
                      clear hx
                      go_wp2_with fail
                      go_round
                      case rel => exact ⟨m + 1, by omega, by omega, by go_num, HZ2⟩
                      case measure => simp [intOf]; omega
                    · have e2 : (x == 0) = false := by simpa using hx
                      have hne : l.getD m 0 ≠ 0 := by rw [HG9.out]; exact hx
                      have HNG := Lib.hid (fun hv => candA_neg (V := V) hkm hm2 hne HZ.out hv)
                      have HIS := Lib.hid (fun hv => candA_is (V := V) HGOOD.out hkm hm2 hne HZ.out hv)
                      rw [HG9.out, HPV.out] at HIS
                      simp only [Int.sub_zero] at HIS
                      clear hne hx
                      have e3 : decide ((l.length : Int) ≤ (m : Int)) = false := by simp; omega
                      have e3' : decide (l.length ≤ m) = false := by simp; omega
                      have cv := hOa.cell (m + 1) (by rw [lwT_len]; omega)
                      rw [lwT_far _ _ _ _ _ _ _ (by omega)] at cv
                      have ck := hOa.cell k (by rw [lwT_len]; omega)
                      rw [lwT_here] at ck
                      have fk := hOa.frz k
                      have g1 := HVG.out (m + 1) (by omega)
                      have g2 := HVL.out (m + 1) (by omega)
                      have wm : IntKind.i64.wrap ((m : Int) + 1) = ((m + 1 : Nat) : Int) := by rw [IntWalk.i64_in _ (by omega)]; omega
                      have hm3 : m + 1 < segs.length + 1 := by omega
                      have hk3 : k < segs.length + 1 := by omega
                      have HT := Lib.hid (fun h hc => HTK.out _ (HIS.out h) hc)
                      have HP := Lib.hid (fun h hc => HPS.out _ (HIS.out h) hc)
                      have HN := Lib.hid (fun h => HSK.out (HNG.out h))
                      have hset := hOa.set k (by rw [lwT_len]; omega)
                      clear HSK HTK HPS HNG HIS
                      generalize V (m + 1) = v at *
                      generalize lwA V atts k j = r at *
                      have hgx := hOa.lt
                      by_cases hv : v < 0
                      · have HF := Lib.hid (HN.out (by omega))
                        have e4 : decide (v < 0) = true := by simpa using hv
                        clear HT HP HN hv
                        go_wp2_with fail
                        go_roundw
                        case rel => exact ⟨j + 1, by omega, by go_num, by rw [HF.out]; exact hOa, hkba, hba⟩
                        case measure => simp [intOf]; omega
                      · have e4 : decide (v < 0) = false := by simpa using hv
                        have w1 : IntKind.i64.wrap (x) = x := IntWalk.i64_in _ (by omega)
                        have w2 : IntKind.i64.wrap (x + v) = x + v := IntWalk.i64_in _ (by omega)
                        by_cases hr : r < 0
                        · have HF := Lib.hid (HT.out (by omega) (.inl hr))
                          have e5 : decide (r < 0) = true := by simpa using hr
                          clear HT HP HN hv hr
                          go_wp2_with fail
                          go_quiet (fail)
                          clear w1 w2
                          go_wp2_with fail
                          go_roundw
                          case rel => exact ⟨j + 1, by omega, by go_num, by rw [HF.out]; exact OutB.set (hOa.drewN _) k (by rw [lwT_len]; omega) _, Blk.past (hkba.drewN _) _ _ _ (by omega), Below.setCell (below_drewN' hba _) (by simp) _⟩
                          case measure => simp [intOf]; omega
                        · have e5 : decide (r < 0) = false := by simpa using hr
                          by_cases hs : x + v < r
                          · have HF := Lib.hid (HT.out (by omega) (.inr hs))
                            have e6 : decide (x + v < r) = true := by simpa using hs
                            clear HT HP HN hv hr hs
                            go_wp2_with fail
                            go_quiet (fail)
                            clear w1 w2
                            go_wp2_with fail
                            go_roundw
                            case rel => exact ⟨j + 1, by omega, by go_num, by rw [HF.out]; exact OutB.set (hOa.drewN _) k (by rw [lwT_len]; omega) _, Blk.past (hkba.drewN _) _ _ _ (by omega), Below.setCell (below_drewN' hba _) (by simp) _⟩
                            case measure => simp [intOf]; omega
                          · have HF := Lib.hid (HP.out (by omega) (fun h => h.elim hr hs))
                            have e6 : decide (x + v < r) = false := by simpa using hs
                            clear HT HP HN hv hr hs
                            go_wp2_with fail
                            go_quiet (fail)
                            clear w1 w2
                            go_wp2_with fail
                            go_roundw
                            case rel => exact ⟨j + 1, by omega, by go_num, by rw [HF.out]; exact hOa.drewN _, hkba.drewN _, below_drewN' hba _⟩
                            case measure => simp [intOf]; omega
                  · have HF := Lib.hid (HSK.out (candA_none (fun i h1 h2 => HZ.out i h1 (by omega))))
                    have e1 : decide ((m : Int) < (l.length : Int)) = false := by simp; omega
                    have e1' : decide (m < l.length) = false := by simpa using hm2
                    have e3 : decide ((l.length : Int) ≤ (m : Int)) = true := by simp; omega
                    have e3' : decide (l.length ≤ m) = true := by simp; omega
                    clear HSK HTK HPS
                    go_wp2_with fail
                    go_roundw
                    case rel => exact ⟨j + 1, by omega, by go_num, by rw [HF.out]; exact hOa, hkba, hba⟩
                    case measure => simp [intOf]; omega
              · have d0 : decide ((0 : Int) < (k : Int)) = true := by simp; omega
                have d0' : decide (0 < k) = true := by simp; omega
                have d2 : (0 : Int) < (k : Int) := by omega
                by_cases hkl2 : l.length < k
                · have HF := Lib.hid (HSK.out (candA_not (fun h => by rcases h with h | h <;> omega)))
                  have e0 : decide ((l.length : Int) < (k : Int)) = true := by simp; omega
                  have e0' : decide (l.length < k) = true := by simpa using hkl2
                  obtain ⟨a0, a1⟩ := hkA.two_
                  have hal := hkA.lt
                  clear HSK HTK HPS
                  go_wp2_with fail
                  go_roundw
                  case rel => exact ⟨j + 1, by omega, by go_num, by rw [HF.out]; exact hOa, hkba, hba⟩
                  case measure => simp [intOf]; omega
                · have e0 : decide ((l.length : Int) < (k : Int)) = false := by simp; omega
                  have e0' : decide (l.length < k) = false := by simpa using hkl2
                  have hk1 : k - 1 < l.length := by omega
                  have wk : IntKind.i64.wrap ((k : Int) - 1) = ((k - 1 : Nat) : Int) := by rw [IntWalk.i64_in _ (by omega)]; omega
                  have bdy := HSP.out.bd (k - 1) hk1
                  obtain ⟨bP, oP, eP, _, hbP, cp⟩ := hrA.int_at hk1
                  have HGP := Lib.hid (getD_is hk1)
                  have HPV : Hid (pvA l k = l[k - 1]) := Lib.hid (by unfold pvA; rw [if_neg hk0]; exact HGP.out)
                  subst eP
                  generalize l[k - 1] = y at *
                  by_cases hy : y = 0
                  · have HF := Lib.hid (HSK.out (candA_not (fun h => by
                      rcases h with h | h
                      · exact hk0 h
                      · exact h.2 (by rw [HGP.out]; exact hy))))
                    have e9 : (y == 0) = true := by simpa using hy
                    clear HSK HTK HPS hy
                    go_wp2_with fail
                    go_roundw
                    case rel => exact ⟨j + 1, by omega, by go_num, by rw [HF.out]; exact hOa, hkba, hba⟩
                    case measure => simp [intOf]; omega
                  · have HGOOD : Hid (goodA l k) := Lib.hid (.inr ⟨by omega, by rw [HGP.out]; exact hy⟩)
                    have e9 : (y == 0) = false := by simpa using hy
                    clear hy
                    go_wp2_with fail
                    generalize wr.alloc (.cells #[.int .i64 no, .slice (some ⟨bP, oP, none⟩) l.length cB] 45) = wa at *
                    obtain ⟨a0, a1⟩ := hkA.two_
                    have hal := hkA.lt
                    go_loop [12] (fun v => ∃ m : Nat, k ≤ m ∧ m ≤ l.length + k ∧ v = .int .i64 m ∧ Hid (∀ i, k ≤ i → i < m → l.getD i 0 = 0)) (fun v => l.length + k - (intOf v).toNat)
                    case atStart => exact ⟨k, Nat.le_refl _, by omega, rfl, Lib.hid (fun i h1 h2 => by omega)⟩
                    case round =>
                      obtain ⟨m, hkm, hml, rfl, HZ⟩ := hrel
                      by_cases hm2 : m < l.length
                      · obtain ⟨bB, oB, eB, _, hbB, cm⟩ := hrA.int_at hm2
                        obtain ⟨rfl, rfl⟩ : bP = bB ∧ oP = oB := by injection eB with eB; injection eB with h1 h2; exact ⟨h1, h2⟩
                        clear eB
                        have e1 : decide ((m : Int) < (l.length : Int)) = true := by simp; omega
                        have e1' : decide (m < l.length) = true := by simpa using hm2
                        have bd := HSP.out.bd m hm2
                        have HG9 := Lib.hid (getD_is hm2)
                        generalize l[m] = x at *
                        by_cases hx : x = 0
                        · have HZ2 : Hid (∀ i, k ≤ i → i < m + 1 → l.getD i 0 = 0) := Lib.hid (fun i h1 h2 => by
                            rcases Nat.lt_or_ge i m with h | h
                            · exact HZ.out i h1 h
                            · have : i = m := by omega
                              subst this; rw [HG9.out, hx])
                          have e2 : (x == 0) = true := by simpa using hx
                          have wm : IntKind.i64.wrap ((m : Int) + 1) = (m : Int) + 1 := IntWalk.i64_in _ (by omega)
                          clear hx
                          go_wp2_with fail
                          go_round
                          case rel => exact ⟨m + 1, by omega, by omega, by go_num, HZ2⟩
                          case measure => simp [intOf]; omega
                        · have e2 : (x == 0) = false := by simpa using hx
                          have hne : l.getD m 0 ≠ 0 := by rw [HG9.out]; exact hx
                          have HNG := Lib.hid (fun hv => candA_neg (V := V) hkm hm2 hne HZ.out hv)
                          have HIS := Lib.hid (fun hv => candA_is (V := V) HGOOD.out hkm hm2 hne HZ.out hv)
                          rw [HG9.out, HPV.out] at HIS
                          clear hne hx
                          have e3 : decide ((l.length : Int) ≤ (m : Int)) = false := by simp; omega
                          have e3' : decide (l.length ≤ m) = false := by simp; omega
                          have cv := hOa.cell (m + 1) (by rw [lwT_len]; omega)
                          rw [lwT_far _ _ _ _ _ _ _ (by omega)] at cv
                          have ck := hOa.cell k (by rw [lwT_len]; omega)
                          rw [lwT_here] at ck
                          have fk := hOa.frz k
                          have g1 := HVG.out (m + 1) (by omega)
                          have g2 := HVL.out (m + 1) (by omega)
                          have wm : IntKind.i64.wrap ((m : Int) + 1) = ((m + 1 : Nat) : Int) := by rw [IntWalk.i64_in _ (by omega)]; omega
                          have hm3 : m + 1 < segs.length + 1 := by omega
                          have hk3 : k < segs.length + 1 := by omega
                          have HT := Lib.hid (fun h hc => HTK.out _ (HIS.out h) hc)
                          have HP := Lib.hid (fun h hc => HPS.out _ (HIS.out h) hc)
                          have HN := Lib.hid (fun h => HSK.out (HNG.out h))
                          have hset := hOa.set k (by rw [lwT_len]; omega)
                          clear HSK HTK HPS HNG HIS
                          generalize V (m + 1) = v at *
                          generalize lwA V atts k j = r at *
                          have hgx := hOa.lt
                          by_cases hv : v < 0
                          · have HF := Lib.hid (HN.out (by omega))
                            have e4 : decide (v < 0) = true := by simpa using hv
                            clear HT HP HN hv
                            go_wp2_with fail
                            go_roundw
                            case rel => exact ⟨j + 1, by omega, by go_num, by rw [HF.out]; exact hOa, hkba, hba⟩
                            case measure => simp [intOf]; omega
                          · have e4 : decide (v < 0) = false := by simpa using hv
                            have w1 : IntKind.i64.wrap (x - y) = x - y := IntWalk.i64_in _ (by omega)
                            have w2 : IntKind.i64.wrap (x - y + v) = x - y + v := IntWalk.i64_in _ (by omega)
                            by_cases hr : r < 0
                            · have HF := Lib.hid (HT.out (by omega) (.inl hr))
                              have e5 : decide (r < 0) = true := by simpa using hr
                              clear HT HP HN hv hr
                              go_wp2_with fail
                              go_quiet (fail)
                              clear w1 w2
                              go_wp2_with fail
                              go_roundw
                              case rel => exact ⟨j + 1, by omega, by go_num, by rw [HF.out]; exact OutB.set (hOa.drewN _) k (by rw [lwT_len]; omega) _, Blk.past (hkba.drewN _) _ _ _ (by omega), Below.setCell (below_drewN' hba _) (by simp) _⟩
                              case measure => simp [intOf]; omega
                            · have e5 : decide (r < 0) = false := by simpa using hr
                              by_cases hs : x - y + v < r
                              · have HF := Lib.hid (HT.out (by omega) (.inr hs))
                                have e6 : decide (x - y + v < r) = true := by simpa using hs
                                clear HT HP HN hv hr hs
                                go_wp2_with fail
                                go_quiet (fail)
                                clear w1 w2
                                go_wp2_with fail
                                go_roundw
                                case rel => exact ⟨j + 1, by omega, by go_num, by rw [HF.out]; exact OutB.set (hOa.drewN _) k (by rw [lwT_len]; omega) _, Blk.past (hkba.drewN _) _ _ _ (by omega), Below.setCell (below_drewN' hba _) (by simp) _⟩
                                case measure => simp [intOf]; omega
                              · have HF := Lib.hid (HP.out (by omega) (fun h => h.elim hr hs))
                                have e6 : decide (x - y + v < r) = false := by simpa using hs
                                clear HT HP HN hv hr hs
                                go_wp2_with fail
                                go_quiet (fail)
                                clear w1 w2
                                go_wp2_with fail
                                go_roundw
                                case rel => exact ⟨j + 1, by omega, by go_num, by rw [HF.out]; exact hOa.drewN _, hkba.drewN _, below_drewN' hba _⟩
                                case measure => simp [intOf]; omega
                      · have HF := Lib.hid (HSK.out (candA_none (fun i h1 h2 => HZ.out i h1 (by omega))))
                        have e1 : decide ((m : Int) < (l.length : Int)) = false := by simp; omega
                        have e1' : decide (m < l.length) = false := by simpa using hm2
                        have e3 : decide ((l.length : Int) ≤ (m : Int)) = true := by simp; omega
                        have e3' : decide (l.length ≤ m) = true := by simp; omega
                        clear HSK HTK HPS
                        go_wp2_with fail
                        go_roundw
                        case rel => exact ⟨j + 1, by omega, by go_num, by rw [HF.out]; exact hOa, hkba, hba⟩
                        case measure => simp [intOf]; omega
            · have hjn : j = atts.length := by omega
              rw [hjn, HEND.out] at hO
              have wk : IntKind.i64.wrap ((k : Int) - 1) = (k : Int) - 1 := IntWalk.i64_in _ (by omega)
              go_wp2_with fail
              clear wk
              go_roundw
              case rel => exact ⟨k, by omega, by omega, rfl, hO, hkb, hbw⟩
              case measure => simp [intOf]
        · have hkf : kk = from_ := by omega
          subst hkf
          have cf := hO.cell kk (by rw [lwL_len]; omega)
          rw [lwL_at, if_neg (Nat.lt_irrefl _)] at cf
          have d9 : decide ((kk : Int) ≤ (kk : Int) - 1) = false := by simp; omega
          have hkc : kk < segs.length + 1 := by omega
          go_wp2_with fail
          go_ret
          exact ⟨rfl, hbw⟩
end Go.Proofs.YtagghmfhfboejaaGreatDoor
