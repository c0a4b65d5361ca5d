/- The walk of the reference FlawsOf. -/
import Derived.Test.YtlnencloodlnbaaFlD
namespace Go.Proofs.Ytlnencloodlnbaa
open Go.RowKit

def twoB (x p q : Int) : Bool := hasB x p && hasB x q
def pqs : List (Int × Int) := [(1, 2), (4, 8)]
def pms : List Int := [3, 12]
theorem two_all : ∀ x : Fin 64, allB (x.val : Int) 3 = twoB (x.val : Int) 1 2 ∧ allB (x.val : Int) 12 = twoB (x.val : Int) 4 8 := by decide
theorem two_at (x : Int) (h0 : 0 ≤ x) (h1 : x ≤ 63) (j : Nat) (hj : j < 2) : allB x (pms[j]'hj) = twoB x (pqs[j]'hj).1 (pqs[j]'hj).2 := by
  obtain ⟨n, rfl⟩ := Int.eq_ofNat_of_zero_le h0
  have := two_all ⟨n, by omega⟩
  match j, hj with
  | 0, _ => exact this.1
  | 1, _ => exact this.2
theorem heldL_bd {xs : List Int} (h : ∀ x ∈ xs, 0 ≤ x ∧ x ≤ 63) (f : Int) : 0 ≤ heldL xs f ∧ heldL xs f ≤ 63 := by
  unfold heldL
  split
  · omega
  · rename_i h1
    have : f.toNat < xs.length := by omega
    rw [List.getD_eq_getElem?_getD, List.getElem?_eq_getElem this]
    exact h _ (List.getElem_mem _)
def bothJ (xs : List Int) (both : Bool) (i j : Nat) : List Flw := ((pms.zip pqs).take j).flatMap fun p => bothF xs both p.1 p.2.1 i
theorem bothJ_succ (xs : List Int) (both : Bool) (i j : Nat) (hj : j < 2) : bothJ xs both i (j + 1) = bothJ xs both i j ++ bothF xs both (pms[j]'hj) (pqs[j]'hj).1 i := by
  match j, hj with
  | 0, _ => simp [bothJ, pms, pqs]
  | 1, _ => simp [bothJ, pms, pqs]
theorem bothJ_all (xs : List Int) (both : Bool) (i : Nat) : bothJ xs both i 2 = bothF xs both 3 1 i ++ bothF xs both 12 4 i := by simp [bothJ, pms, pqs]
theorem bothJ_len (xs : List Int) (both : Bool) (i j : Nat) (hj : j ≤ 2) : (bothJ xs both i j).length ≤ j := by
  induction j with
  | zero => simp [bothJ]
  | succ j ih => rw [bothJ_succ _ _ _ _ (by omega), List.length_append]; have := ih (by omega); have := bothF_len xs both (pms[j]'(by simp [pms]; omega)) (pqs[j]'(by simp [pqs]; omega)).1 i; omega
noncomputable def shortJ (xs : List Int) (short : Int) (i j : Nat) : List Flw := (btns.take j).flatMap fun b => shortF xs short b i
noncomputable def oftenJ (xs : List Int) (most : Int) (i j : Nat) : List Flw := (btns.take j).flatMap fun b => oftenF xs most b i
theorem shortJ_succ (xs : List Int) (short : Int) (i j : Nat) (hj : j < btns.length) : shortJ xs short i (j + 1) = shortJ xs short i j ++ shortF xs short btns[j] i := by unfold shortJ; rw [List.take_succ_eq_append_getElem hj, List.flatMap_append]; simp
theorem oftenJ_succ (xs : List Int) (most : Int) (i j : Nat) (hj : j < btns.length) : oftenJ xs most i (j + 1) = oftenJ xs most i j ++ oftenF xs most btns[j] i := by unfold oftenJ; rw [List.take_succ_eq_append_getElem hj, List.flatMap_append]; simp
theorem shortJ_len (xs : List Int) (short : Int) (i j : Nat) (hj : j ≤ btns.length) : (shortJ xs short i j).length ≤ j := by
  induction j with
  | zero => simp [shortJ]
  | succ j ih => rw [shortJ_succ _ _ _ _ (by omega), List.length_append]; have := ih (by omega); have := shortF_len xs short (btns[j]'(by omega)) i; omega
theorem oftenJ_len (xs : List Int) (most : Int) (i j : Nat) (hj : j ≤ btns.length) : (oftenJ xs most i j).length ≤ j := by
  induction j with
  | zero => simp [oftenJ]
  | succ j ih => rw [oftenJ_succ _ _ _ _ (by omega), List.length_append]; have := ih (by omega); have := oftenF_len xs most (btns[j]'(by omega)) i; omega
theorem flawsAt_J (xs : List Int) (most short : Int) (both : Bool) (i : Nat) : flawsAt xs most short both i = bothJ xs both i 2 ++ (shortJ xs short i btns.length ++ oftenJ xs most i btns.length) := by
  unfold flawsAt shortJ oftenJ; rw [bothJ_all, List.take_length]
theorem flawsM_len (xs : List Int) (most short : Int) (both : Bool) (n : Nat) : (flawsM xs most short both n).length ≤ 14 * n := by
  induction n with
  | zero => simp [flawsM]
  | succ n ih =>
    rw [flawsM_succ, List.length_append, flawsAt_J, List.length_append, List.length_append]
    have := bothJ_len xs both n 2 (by omega)
    have := shortJ_len xs short n btns.length (Nat.le_refl _)
    have := oftenJ_len xs most n btns.length (Nat.le_refl _)
    have : btns.length = 6 := rfl
    omega
/-- How many presses lie in the second that ends with a frame, up to a frame. -/
def manyK (xs : List Int) (b : Int) (i k : Nat) : Nat := ((List.range k).filter fun f : Nat => decide (i ≤ f + 59) && pressB xs b (f : Int)).length
theorem manyK_zero (xs : List Int) (b : Int) (i k : Nat) (h : k ≤ i - 59) : manyK xs b i k = 0 := by
  unfold manyK
  rw [List.length_eq_zero_iff, List.filter_eq_nil_iff]
  intro f hf
  have := List.mem_range.1 hf
  simp; omega
theorem manyK_succ (xs : List Int) (b : Int) (i k : Nat) (h : i ≤ k + 59) : manyK xs b i (k + 1) = manyK xs b i k + if pressB xs b (k : Int) = true then 1 else 0 := by
  unfold manyK
  rw [List.range_succ, List.filter_append, List.length_append]
  congr 1
  by_cases h' : pressB xs b (k : Int) = true
  · simp [h', h]
  · simp [h']
theorem manyK_le (xs : List Int) (b : Int) (i k : Nat) : manyK xs b i k ≤ k := by have := List.length_filter_le (fun f : Nat => decide (i ≤ f + 59) && pressB xs b (f : Int)) (List.range k); simpa [manyK] using this

theorem two_any (n p q : Int) (w : World) : Calls Try.prog 33 #[.int .i64 n, .int .i64 p, .int .i64 q] w fun e w' => e = .returned (.bool (twoB n p q)) ∧ w' = w := by
  by_cases h1 : hasB n p = true
  · have g1 : (bits .and .i64 n p != 0) = true := h1
    have H1 := Lib.hid h1
    clear h1
    go_enter Try.func33, Try.ntmps33
    go_wp2_with fail
    go_ret
    exact ⟨ret_bool' (by unfold twoB; rw [H1.out, Bool.true_and]; unfold hasB; simp [bne]), rfl⟩
  · have g1 : (bits .and .i64 n p != 0) = false := by simpa [hasB] using h1
    have H1 := Lib.hid h1
    clear h1
    go_enter Try.func33, Try.ntmps33
    go_wp2_with fail
    go_ret
    exact ⟨ret_bool' (by unfold twoB; rw [Bool.eq_false_iff.2 H1.out]; rfl), rfl⟩
theorem quietS {P : Program} {f : FuncId} {args : Array Value} {w : World} {n : Nat} {v : Value} (h : Calls P f args (w.drewN n) fun e w' => e = .returned v ∧ w.drewN n = w') : Calls P f args (w.drewN n) fun e w'' => e = .returned v ∧ ∃ m, w'' = w.drewN m := h.mono fun _ _ ⟨he, hm⟩ => ⟨he, n, hm.symm⟩

set_option maxHeartbeats 400000 in
theorem rbuttons_blk (w : World) : Calls Try.prog 35 #[] w fun e w' => ∃ g c, e = .returned (.slice (some ⟨g, 0, none⟩) btns.length c) ∧ w.heap.size ≤ g ∧ Blk w' g 3 #[.int .i64 1, .int .i64 2, .int .i64 4, .int .i64 8, .int .i64 16, .int .i64 32] ∧ Below w.heap.size w w' := by
  go_enter Try.func35, Try.ntmps35
  go_wp2_with fail
  go_ret
  exact ⟨_, _, rfl, Nat.le_refl _, Blk.new _ _ _, (Below.refl _ _).alloc (Nat.le_refl _) _⟩
theorem pqs_cell {w : World} {g : Nat} {t : TypeId} (h : Blk w g t #[.int .i64 1, .int .i64 2, .int .i64 4, .int .i64 8]) (j : Nat) (hj : j < 2) : w.cell? ⟨g, j * 2, none⟩ = some (.int .i64 (pqs[j]'hj).1) ∧ w.cell? ⟨g, j * 2 + 1, none⟩ = some (.int .i64 (pqs[j]'hj).2) := by
  rw [h.cell, h.cell]
  match j, hj with
  | 0, _ => exact ⟨rfl, rfl⟩
  | 1, _ => exact ⟨rfl, rfl⟩

set_option maxHeartbeats 8000000 in
set_option maxRecDepth 100000 in
theorem flawsOf_any (A : Option Addr) (c lo : Nat) (ps : List (Int × Int)) (most short : Int) (both : Bool) (w : World) (hr : Row w lo 2 A ps.length (prs ps)) (hl : ps.length ≤ 1000000000) (hb : ∀ p ∈ ps, 0 ≤ p.2) (hs : psum ps ≤ 200000) (hx : ∀ x ∈ unf ps, 0 ≤ x ∧ x ≤ 63) :
    Calls Try.prog 13 #[.slice A ps.length c, .agg #[.int .i64 most, .int .i64 short, .bool both]] w fun e w' => ∃ A' c', e = .returned (.slice A' (flawsM (unf ps) most short both (unf ps).length).length c') ∧ Row w' w.heap.size 3 A' (flawsM (unf ps) most short both (unf ps).length).length (trs (flawsM (unf ps) most short both (unf ps).length)) ∧ Below w.heap.size w w' := by
  have hu := unf_len ps hb
  have hul : (unf ps).length ≤ 200000 := by omega
  clear hu
  have HX := Lib.hid hx
  clear hx
  go_enter Try.func13, Try.ntmps13
  go_wp2_with fail
  have hb0 : Below w.heap.size w (w.alloc (.cells #[.int .i64 most, .int .i64 short, .bool both] 29)) := (Below.refl _ _).alloc (Nat.le_refl _) _
  have hk0 : Blk (w.alloc (.cells #[.int .i64 most, .int .i64 short, .bool both] 29)) w.heap.size 29 #[.int .i64 most, .int .i64 short, .bool both] := Blk.new _ _ _
  have hr0 := hr.alloc (.cells #[.int .i64 most, .int .i64 short, .bool both] 29)
  generalize w.alloc (.cells #[.int .i64 most, .int .i64 short, .bool both] 29) = w0 at *
  clear hr
  refine (unfolded_any _ _ _ ps _ hr0 hl hb (by omega)).mono ?_
  rintro e w1 ⟨A1, c1, rfl, hown1, hb1⟩
  have hk1 := hk0.below hb1
  have hx1 := hb0.trans (hb1.mono hb0.size)
  have hr1 := Row.of_own hown1
  have hz1 := hk1.lt
  have hzz : w.heap.size ≤ w1.heap.size := by omega
  clear hr0 hk0 hb0 hb1 hown1 hb
  generalize hU : unf ps = xs at *
  have HU := Lib.hid hU
  clear hU
  go_wp2_with fail
  go_loopw [6, 22] (fun v i wr => ∃ (k : Nat) (A' : Option Addr) (c' : Nat), k ≤ xs.length ∧ i = .int .i64 k ∧ v = .slice A' (flawsM xs most short both k).length c' ∧ wr.ownsRow w1.heap.size 42 3 (.slice A' (flawsM xs most short both k).length c') (flawsM xs most short both k).length (trs (flawsM xs most short both k)) ∧ Below w1.heap.size w1 wr) (fun _ i _ => xs.length - (intOf i).toNat)
  case atStart => exact ⟨0, none, 0, Nat.zero_le _, rfl, rfl, World.ownsRow_nil _ _ _ _, Below.refl _ _⟩
  case round =>
    obtain ⟨k, A', c', hk, rfl, rfl, hown, hbw⟩ := hrel
    by_cases hlt : k < xs.length
    · have HT : Hid (flawsM xs most short both (k + 1) = flawsM xs most short both k ++ (bothJ xs both k 2 ++ (shortJ xs short k btns.length ++ oftenJ xs most k btns.length))) := Lib.hid (by rw [flawsM_succ, flawsAt_J])
      have hol := flawsM_len xs most short both k
      generalize flawsM xs most short both k = o at *
      have HK := Lib.hid (heldL_at xs k hlt)
      have HXB : Hid (∀ f, 0 ≤ heldL xs f ∧ heldL xs f ≤ 63) := Lib.hid (heldL_bd HX.out)
      have zw := hbw.size
      go_wp2_with fail
      have hkp : Blk (wr.alloc (.cells #[.int .i64 1, .int .i64 2, .int .i64 4, .int .i64 8] 68)) wr.heap.size 68 #[.int .i64 1, .int .i64 2, .int .i64 4, .int .i64 8] := Blk.new _ _ _
      have hownp := hown.alloc (.cells #[.int .i64 1, .int .i64 2, .int .i64 4, .int .i64 8] 68)
      have hbwp : Below w1.heap.size w1 (wr.alloc (.cells #[.int .i64 1, .int .i64 2, .int .i64 4, .int .i64 8] 68)) := (by repeat (first | exact hbw | refine Below.alloc ?_ (by first | omega | (simp; omega)) _ | refine below_drewN' ?_ _ | refine Below.drew ?_))
      generalize hgp : wr.heap.size = gp at *
      generalize wr.alloc (.cells #[.int .i64 1, .int .i64 2, .int .i64 4, .int .i64 8] 68) = wp at *
      clear hown hbw hgp
      go_loopw [6, 29] (fun v i wq => ∃ (j : Nat) (A2 : Option Addr) (c2 : Nat), j ≤ 2 ∧ i = .int .i64 j ∧ v = .slice A2 (o ++ bothJ xs both k j).length c2 ∧ wq.ownsRow w1.heap.size 42 3 (.slice A2 (o ++ bothJ xs both k j).length c2) (o ++ bothJ xs both k j).length (trs (o ++ bothJ xs both k j)) ∧ Blk wq gp 68 #[.int .i64 1, .int .i64 2, .int .i64 4, .int .i64 8] ∧ Below w1.heap.size w1 wq) (fun _ i _ => 2 - (intOf i).toNat)
      case atStart => exact ⟨0, A', c', by omega, rfl, by simp [bothJ], by simpa [bothJ] using hownp, hkp, hbwp⟩
      case round =>
        clear hkp hownp hbwp
        obtain ⟨j, A2, c2, hj, rfl, rfl, hown2, hkq, hbw2⟩ := hrel
        have zq := hbw2.size
        have zgp := hkq.lt
        by_cases hj2 : j < 2
        · have HJ := Lib.hid (bothJ_succ xs both k j hj2)
          have hjl := bothJ_len xs both k j (by omega)
          obtain ⟨q0, q1⟩ := pqs_cell hkq j hj2
          have HTW := Lib.hid (fun x h0 h1 => two_at x h0 h1 j hj2)
          generalize (pms[j]'hj2) = m at *
          generalize (pqs[j]'hj2).1 = p at *
          generalize (pqs[j]'hj2).2 = q at *
          have hkh : Blk wr w.heap.size 29 #[.int .i64 most, .int .i64 short, .bool both] := (hbw2.block _ hz1).trans hk1
          have hrx := hr1.below hbw2
          obtain ⟨_, _, hbc⟩ := hkh.three
          have hzr := hkh.lt
          obtain ⟨xb, xoff, rfl, _, hxb, xc⟩ := hrx.int_at hlt
          have hwk : Blk (wr.alloc (.cells #[.int .i64 p, .int .i64 q] 68)) gp 68 #[.int .i64 1, .int .i64 2, .int .i64 4, .int .i64 8] := hkq.alloc _
          have hwo := hown2.alloc (.cells #[.int .i64 p, .int .i64 q] 68)
          have hwb : Below w1.heap.size w1 (wr.alloc (.cells #[.int .i64 p, .int .i64 q] 68)) := (by repeat (first | exact hbw2 | refine Below.alloc ?_ (by first | omega | (simp; omega)) _ | refine below_drewN' ?_ _ | refine Below.drew ?_))
          have hrxa := hrx.alloc (.cells #[.int .i64 p, .int .i64 q] 68)
          have hll : (o ++ bothJ xs both k j).length ≤ 2800002 := by rw [List.length_append]; omega
          generalize hl2 : o ++ bothJ xs both k j = l2 at *
          have HL2 := Lib.hid hl2
          clear hl2
          have HBF : Hid (∀ h : both = false ∧ twoB xs[k] p q = true ∧ twoB (heldL xs ((k : Int) - 1)) p q = false, bothF xs both m p k = [((k : Int), 1, p)]) := Lib.hid (by
            rintro ⟨h1, h2, h3⟩
            have e1 := HXB.out (k : Int)
            have e2 := HXB.out ((k : Int) - 1)
            unfold bothF
            have e3 : bothS xs m k = true := by
              unfold bothS
              rw [HTW.out _ e1.1 e1.2, HTW.out _ e2.1 e2.2, HK.out, h2, h3]; rfl
            rw [if_pos ⟨h1, e3⟩])
          have HBN : Hid (∀ h : ¬ (both = false ∧ twoB xs[k] p q = true ∧ twoB (heldL xs ((k : Int) - 1)) p q = false), bothF xs both m p k = []) := Lib.hid (by
            intro h
            have e1 := HXB.out (k : Int)
            have e2 := HXB.out ((k : Int) - 1)
            unfold bothF
            rw [if_neg]
            rintro ⟨h1, h2⟩
            unfold bothS at h2
            rw [HTW.out _ e1.1 e1.2, HTW.out _ e2.1 e2.2, HK.out] at h2
            simp at h2
            exact h ⟨h1, h2.1, h2.2⟩)
          have hj0 : (0 : Int) ≤ (j : Int) := by omega
          have hj1 : (j : Int) < 2 := by omega
          by_cases hcs : both = false ∧ twoB xs[k] p q = true ∧ twoB (heldL xs ((k : Int) - 1)) p q = false
          · have HN := Lib.hid (HBF.out hcs)
            obtain ⟨rfl, h2, h3⟩ := hcs
            clear HBF HBN
            have e2 : IntKind.i64.wrap ((k : Int) - 1) = (k : Int) - 1 := IntWalk.i64_in _ (by omega)
            go_wp2_with fail
            go_quiet ((first | (go_at_call 33; exact Calls.quiet_of_same (two_any _ _ _ _)) | (go_at_call 34; exact quietS (heldAt_any _ _ _ xs _ _ (Row.drewN hrxa _) (by omega)))))
            clear e2 h2 h3
            go_wp2_with (at_builtin; go_must (refine wpList_app (lo := w1.heap.size) (base := w1.heap.size) (n := l2.length) (xs := trs l2) _ _ rfl _ _ ty_flaws rfl (by repeat (first | exact hwo | refine World.ownsRow.alloc ?_ _ | refine own_drewN ?_ _ | refine World.ownsRow.drew ?_)) rfl (by first | exact row_new' _ (by first | rfl | simp) (by first | omega | (simp; omega)) rfl | exact row_newN _ _ (by first | rfl | simp) (by first | omega | (simp; omega)) rfl | exact row_newD _ (by first | rfl | simp) (by first | omega | (simp; omega)) rfl) rfl rfl (by first | omega | decide) (by first | omega | decide) (by first | omega | (simp; omega)) ?_))
            intro A5 c5 w5 hown5 hg5 _
            have hb5 : Below w1.heap.size w1 w5 := below_app hwo (by repeat (first | exact hwb | refine Below.alloc ?_ (by first | omega | (simp; omega)) _ | refine below_drewN' ?_ _ | refine Below.drew ?_)) hg5 (Nat.le_refl _) (by simp; omega)
            have hk5 : Blk w5 gp 68 #[.int .i64 1, .int .i64 2, .int .i64 4, .int .i64 8] := Blk.app (World.ownsRow.alloc (own_drewN hwo _) _) (Blk.alloc (hwk.drewN _) _) hg5 (by decide)
            go_wp2_with fail
            go_roundw
            case rel => exact ⟨j + 1, A5, c5, by omega, by go_num, by rw [HJ.out, HN.out, ← List.append_assoc, HL2.out]; simp, by rw [HJ.out, HN.out, ← List.append_assoc, HL2.out, trs_app, List.length_append]; exact hown5, hk5, hb5⟩
            case measure => simp [intOf]; omega
          · have HN := Lib.hid (HBN.out hcs)
            clear HBF HBN
            have HCS := Lib.hid hcs
            clear hcs
            cases both
            · by_cases h2 : twoB xs[k] p q = true
              · have h3 : twoB (heldL xs ((k : Int) - 1)) p q = true := by
                  cases h4 : twoB (heldL xs ((k : Int) - 1)) p q
                  · exact absurd ⟨rfl, h2, h4⟩ HCS.out
                  · rfl
                have e2 : IntKind.i64.wrap ((k : Int) - 1) = (k : Int) - 1 := IntWalk.i64_in _ (by omega)
                go_wp2_with fail
                go_quiet ((first | (go_at_call 33; exact Calls.quiet_of_same (two_any _ _ _ _)) | (go_at_call 34; exact quietS (heldAt_any _ _ _ xs _ _ (Row.drewN hrxa _) (by omega)))))
                (try clear e2)
                go_wp2_with fail
                go_roundw
                case rel => exact ⟨j + 1, A2, c2, by omega, by go_num, by rw [HJ.out, HN.out, List.append_nil, HL2.out], by rw [HJ.out, HN.out, List.append_nil, HL2.out]; exact own_drewN hwo _, hwk.drewN _, below_drewN' hwb _⟩
                case measure => simp [intOf]; omega
              · have h3 : twoB xs[k] p q = false := by simpa using h2
                clear h2

                go_wp2_with fail
                go_quiet ((first | (go_at_call 33; exact Calls.quiet_of_same (two_any _ _ _ _)) | (go_at_call 34; exact quietS (heldAt_any _ _ _ xs _ _ (Row.drewN hrxa _) (by omega)))))
                (try clear e2)
                go_wp2_with fail
                go_roundw
                case rel => exact ⟨j + 1, A2, c2, by omega, by go_num, by rw [HJ.out, HN.out, List.append_nil, HL2.out], by rw [HJ.out, HN.out, List.append_nil, HL2.out]; exact own_drewN hwo _, hwk.drewN _, below_drewN' hwb _⟩
                case measure => simp [intOf]; omega
            ·

              go_wp2_with fail
              go_quiet ((first | (go_at_call 33; exact Calls.quiet_of_same (two_any _ _ _ _)) | (go_at_call 34; exact quietS (heldAt_any _ _ _ xs _ _ (Row.drewN hrxa _) (by omega)))))
              (try clear e2)
              go_wp2_with fail
              go_roundw
              case rel => exact ⟨j + 1, A2, c2, by omega, by go_num, by rw [HJ.out, HN.out, List.append_nil, HL2.out], by rw [HJ.out, HN.out, List.append_nil, HL2.out]; exact own_drewN hwo _, hwk.drewN _, below_drewN' hwb _⟩
              case measure => simp [intOf]; omega
        · have hj3 : j = 2 := by omega
          subst hj3
          clear hj2 hj
          have h2l := bothJ_len xs both k 2 (by omega)
          generalize bothJ xs both k 2 = oj at *
          have hll : (o ++ oj).length ≤ 2800002 := by rw [List.length_append]; omega
          have HT2 : Hid (flawsM xs most short both (k + 1) = (o ++ oj) ++ (shortJ xs short k btns.length ++ oftenJ xs most k btns.length)) := Lib.hid (by rw [HT.out, List.append_assoc])
          clear HT
          generalize o ++ oj = l2 at *
          clear hkq
          go_wp2_with fail
          refine (rbuttons_blk _).mono ?_
          rintro e w3 ⟨g3, c3, rfl, hg3, hkb3, hb3⟩
          have hown3 := own_keep hown2 hb3
          have hbw3 := below_up hbw2 hb3
          have z3 := hbw3.size
          clear hown2 hbw2 hb3
          go_wp2_with fail
          go_loopw [6, 71] (fun v i wq => ∃ (j : Nat) (A2 : Option Addr) (c2 : Nat), j ≤ 6 ∧ i = .int .i64 j ∧ v = .slice A2 (l2 ++ shortJ xs short k j).length c2 ∧ wq.ownsRow w1.heap.size 42 3 (.slice A2 (l2 ++ shortJ xs short k j).length c2) (l2 ++ shortJ xs short k j).length (trs (l2 ++ shortJ xs short k j)) ∧ Blk wq g3 3 #[.int .i64 1, .int .i64 2, .int .i64 4, .int .i64 8, .int .i64 16, .int .i64 32] ∧ Below w1.heap.size w1 wq) (fun _ i _ => 6 - (intOf i).toNat)
          case atStart => exact ⟨0, A2, c2, by omega, rfl, by simp [shortJ], by simpa [shortJ] using hown3, hkb3, hbw3⟩
          case round =>
            clear hown3 hkb3 hbw3
            obtain ⟨j, A4, c4, hj, rfl, rfl, hown4, hkb4, hbw4⟩ := hrel
            have hrx := hr1.below hbw4
            have hkh : Blk wr w.heap.size 29 #[.int .i64 most, .int .i64 short, .bool both] := (hbw4.block _ hz1).trans hk1
            obtain ⟨hm0, hm1, _⟩ := hkh.three
            have hzr := hkh.lt
            have z4 := hbw4.size
            have zg4 := hkb4.lt
            by_cases hj6 : j < 6
            · have hjb : j < btns.length := hj6
              have c0 := btns_cell hkb4 j hjb
              have HJ := Lib.hid (shortJ_succ xs short k j hjb)
              have hjl := shortJ_len xs short k j (by omega)
              generalize btns[j] = b at *
              have hl3 : (l2 ++ shortJ xs short k j).length ≤ 2800008 := by rw [List.length_append]; omega
              have HJ2 : Hid (l2 ++ shortJ xs short k (j + 1) = (l2 ++ shortJ xs short k j) ++ shortF xs short b k) := Lib.hid (by rw [HJ.out, List.append_assoc])
              clear HJ
              generalize l2 ++ shortJ xs short k j = l3 at *
              go_wp2_with fail
              go_loop [13] (fun v => ∃ l : Nat, v = .int .i64 l ∧ k + l ≤ xs.length ∧ Hid (∀ t, t < l → hasB (heldL xs ((k + t : Nat) : Int)) b = true)) (fun v => xs.length + 1 - (intOf v).toNat)
              case atStart => exact ⟨0, rfl, by omega, Lib.hid (fun t h => absurd h (by omega))⟩
              case round =>
                obtain ⟨l, rfl, hkl, hall⟩ := hrel
                go_wp2_with fail
                refine (heldAt_any _ _ _ xs _ _ hrx (by omega)).mono ?_
                rintro e w5 ⟨rfl, rfl⟩
                by_cases hh : hasB (heldL xs ((k : Int) + (l : Int))) b = true
                · have hlt2 : k + l < xs.length := by
                    rcases Nat.lt_or_ge (k + l) xs.length with h | h
                    · exact h
                    · rw [heldL_out xs _ (by omega), hasB_zero] at hh; cases hh
                  have HN : Hid (∀ t, t < l + 1 → hasB (heldL xs ((k + t : Nat) : Int)) b = true) := Lib.hid (fun t ht => by
                    rcases Nat.lt_or_ge t l with h | h
                    · exact hall.out t h
                    · have : t = l := by omega
                      subst this
                      rw [Int.natCast_add]; exact hh)
                  have g : (bits .and .i64 (heldL xs ((k : Int) + (l : Int))) b != 0) = true := hh
                  clear hh
                  go_wp2_with fail
                  go_round
                  case rel => exact ⟨l + 1, by go_num, by omega, HN⟩
                  case measure => simp [intOf]; omega
                · have HI : Hid (holdN xs b k = l) := Lib.hid (holdN_eq ⟨hall.out, by rw [Int.natCast_add]; exact Bool.eq_false_iff.2 hh⟩)
                  have g : (bits .and .i64 (heldL xs ((k : Int) + (l : Int))) b != 0) = false := by simpa [hasB] using hh
                  clear hh hall
                  go_wp2_with fail
                  refine (rpressed_any _ _ _ xs (k : Int) b _ hrx (by omega) (by omega) (by omega)).mono ?_
                  rintro e w5 ⟨rfl, rfl⟩
                  by_cases hp : pressB xs b (k : Int) = true ∧ (l : Int) < short
                  · have HE : Hid (shortF xs short b k = [((k : Int), 2, b)]) := Lib.hid (by unfold shortF; rw [HI.out, if_pos hp])
                    obtain ⟨hp1, hp2⟩ := hp
                    have g2 : decide ((l : Int) < short) = true := by simpa using hp2
                    rw [hp1]
                    clear hp1 hp2
                    go_wp2_with (at_builtin; go_must (refine wpList_app (lo := w1.heap.size) (base := w1.heap.size) (n := l3.length) (xs := trs l3) _ _ rfl _ _ ty_flaws rfl (by repeat (first | exact hown4 | refine World.ownsRow.alloc ?_ _ | refine own_drewN ?_ _ | refine World.ownsRow.drew ?_)) rfl (by first | exact row_new' _ (by first | rfl | simp) (by first | omega | (simp; omega)) rfl | exact row_newN _ _ (by first | rfl | simp) (by first | omega | (simp; omega)) rfl | exact row_newD _ (by first | rfl | simp) (by first | omega | (simp; omega)) rfl) rfl rfl (by first | omega | decide) (by first | omega | decide) (by first | omega | (simp; omega)) ?_))
                    intro A5 c5 w5 hown5 hg5 _
                    have hb5 : Below w1.heap.size w1 w5 := below_app hown4 (by repeat (first | exact hbw4 | refine Below.alloc ?_ (by first | omega | (simp; omega)) _ | refine below_drewN' ?_ _ | refine Below.drew ?_)) hg5 (Nat.le_refl _) (by simp; omega)
                    have hk5 := Blk.app (hown4.alloc _) (hkb4.alloc _) hg5 (by decide)
                    go_wp2_with fail
                    go_roundw
                    case rel => exact ⟨j + 1, A5, c5, by omega, by go_num, by rw [HJ2.out, HE.out]; simp, by rw [HJ2.out, HE.out, trs_app, List.length_append]; exact hown5, hk5, hb5⟩
                    case measure => simp [intOf]; omega
                  · have HE : Hid (shortF xs short b k = []) := Lib.hid (by unfold shortF; rw [HI.out, if_neg hp])
                    have HP := Lib.hid hp
                    clear hp
                    cases hp1 : pressB xs b (k : Int)
                    · go_wp2_with fail
                      go_roundw
                      case rel => exact ⟨j + 1, A4, c4, by omega, by go_num, by rw [HJ2.out, HE.out, List.append_nil], by rw [HJ2.out, HE.out, List.append_nil]; exact hown4, hkb4, hbw4⟩
                      case measure => simp [intOf]; omega
                    · have g2 : decide ((l : Int) < short) = false := by simp; have := HP.out; simp [hp1] at this; exact this
                      go_wp2_with fail
                      go_roundw
                      case rel => exact ⟨j + 1, A4, c4, by omega, by go_num, by rw [HJ2.out, HE.out, List.append_nil], by rw [HJ2.out, HE.out, List.append_nil]; exact hown4, hkb4, hbw4⟩
                      case measure => simp [intOf]; omega
            · have hj7 : j = btns.length := by have : btns.length = 6 := rfl
                                               omega
              have h2l := shortJ_len xs short k j (by omega)
              have HSJ : Hid (shortJ xs short k btns.length = shortJ xs short k j) := Lib.hid (by rw [hj7])
              clear hj7
              have HT3 : Hid (flawsM xs most short both (k + 1) = (l2 ++ shortJ xs short k j) ++ oftenJ xs most k btns.length) := Lib.hid (by rw [HT2.out, HSJ.out, List.append_assoc])
              have hll3 : (l2 ++ shortJ xs short k j).length ≤ 2800008 := by rw [List.length_append]; omega
              clear HT2 HSJ h2l
              generalize l2 ++ shortJ xs short k j = l3 at *
              clear hkb4 hrx hkh hm0 hm1 hzr zg4
              have hj8 : ¬ (j : Int) < 6 := by omega
              go_wp2_with fail
              refine (rbuttons_blk _).mono ?_
              rintro e w5 ⟨g5, c5, rfl, hg5, hkb5, hb5⟩
              have hown5 := own_keep hown4 hb5
              have hbw5 := below_up hbw4 hb5
              clear hown4 hbw4 hb5 hj6 hj hj8
              go_wp2_with fail
              go_loopw [6, 104] (fun v i wq => ∃ (j : Nat) (A2 : Option Addr) (c2 : Nat), j ≤ 6 ∧ i = .int .i64 j ∧ v = .slice A2 (l3 ++ oftenJ xs most k j).length c2 ∧ wq.ownsRow w1.heap.size 42 3 (.slice A2 (l3 ++ oftenJ xs most k j).length c2) (l3 ++ oftenJ xs most k j).length (trs (l3 ++ oftenJ xs most k j)) ∧ Blk wq g5 3 #[.int .i64 1, .int .i64 2, .int .i64 4, .int .i64 8, .int .i64 16, .int .i64 32] ∧ Below w1.heap.size w1 wq) (fun _ i _ => 6 - (intOf i).toNat)
              case atStart => exact ⟨0, A4, c4, by omega, rfl, by simp [oftenJ], by simpa [oftenJ] using hown5, hkb5, hbw5⟩
              case round =>
                clear hown5 hkb5 hbw5
                obtain ⟨j, A6, c6, hj, rfl, rfl, hown6, hkb6, hbw6⟩ := hrel
                have hrx := hr1.below hbw6
                have hkh : Blk wr w.heap.size 29 #[.int .i64 most, .int .i64 short, .bool both] := (hbw6.block _ hz1).trans hk1
                obtain ⟨hm0, hm1, _⟩ := hkh.three
                have hzr := hkh.lt
                have z6 := hbw6.size
                have zg6 := hkb6.lt
                by_cases hj6 : j < 6
                · have hjb : j < btns.length := hj6
                  have c0 := btns_cell hkb6 j hjb
                  have HJ := Lib.hid (oftenJ_succ xs most k j hjb)
                  have hjl := oftenJ_len xs most k j (by omega)
                  generalize btns[j] = b at *
                  have hl4 : (l3 ++ oftenJ xs most k j).length ≤ 2800014 := by rw [List.length_append]; omega
                  have HJ2 : Hid (l3 ++ oftenJ xs most k (j + 1) = (l3 ++ oftenJ xs most k j) ++ oftenF xs most b k) := Lib.hid (by rw [HJ.out, List.append_assoc])
                  clear HJ
                  generalize l3 ++ oftenJ xs most k j = l4 at *
                  have HZ := Lib.hid (manyK_zero xs b k (k - 59) (Nat.le_refl _))
                  have HS : Hid (∀ f : Nat, k ≤ f + 59 → manyK xs b k (f + 1) = manyK xs b k f + if pressB xs b (f : Int) = true then 1 else 0) := Lib.hid (fun f h => manyK_succ xs b k f h)
                  have HLE := Lib.hid (fun f => manyK_le xs b k f)
                  rcases Int.lt_or_le ((k : Int) - 59) 0 with h59 | h59
                  all_goals
                    go_wp2_with fail
                    go_loop [16, 17] (fun v u => ∃ f : Nat, u = .int .i64 f ∧ v = .int .i64 (manyK xs b k f) ∧ k ≤ f + 59 ∧ f ≤ k + 1) (fun _ u => k + 1 - (intOf u).toNat)
                    case atStart => first | exact ⟨0, rfl, by rw [show 0 = k - 59 by omega, HZ.out]; rfl, by omega, by omega⟩ | exact ⟨k - 59, by congr 1; omega, by rw [HZ.out]; rfl, by omega, by omega⟩
                    case round =>
                      obtain ⟨f, rfl, rfl, hf1, hf2⟩ := hrel
                      have hml := HLE.out f
                      by_cases hfk : f ≤ k
                      · have hfk' : decide (f ≤ k) = true := by simpa using hfk
                        have HSF := Lib.hid (HS.out f hf1)
                        go_wp2_with fail
                        refine (rpressed_any _ _ _ xs (f : Int) b _ hrx (by omega) (by omega) (by omega)).mono ?_
                        rintro e w7 ⟨rfl, rfl⟩
                        cases hp1 : pressB xs b (f : Int)
                        · have HE : Hid (manyK xs b k (f + 1) = manyK xs b k f) := Lib.hid (by rw [HSF.out, hp1]; simp)
                          clear HSF hp1
                          go_wp2_with fail
                          go_round
                          case rel => exact ⟨f + 1, by go_num, by rw [HE.out], by omega, by omega⟩
                          case measure => simp [intOf]; omega
                        · have HE : Hid (manyK xs b k (f + 1) = manyK xs b k f + 1) := Lib.hid (by rw [HSF.out, hp1]; simp)
                          clear HSF hp1
                          go_wp2_with fail
                          go_round
                          case rel => exact ⟨f + 1, by go_num, by rw [HE.out]; go_num, by omega, by omega⟩
                          case measure => simp [intOf]; omega
                      · have hfe : f = k + 1 := by omega
                        have HI : Hid (manyM xs b k = manyK xs b k f) := Lib.hid (by rw [hfe]; rfl)
                        have hfk' : decide (f ≤ k) = false := by simpa using hfk
                        clear hfe
                        generalize manyK xs b k f = n at *
                        go_wp2_with fail
                        refine (rpressed_any _ _ _ xs (k : Int) b _ hrx (by omega) (by omega) (by omega)).mono ?_
                        rintro e w7 ⟨rfl, rfl⟩
                        by_cases hp : pressB xs b (k : Int) = true ∧ most < (n : Int)
                        · have HE : Hid (oftenF xs most b k = [((k : Int), 3, b)]) := Lib.hid (by unfold oftenF; rw [HI.out, if_pos hp])
                          obtain ⟨hp1, hp2⟩ := hp
                          have g2 : decide (most < (n : Int)) = true := by simpa using hp2
                          rw [hp1]
                          clear hp1 hp2
                          go_wp2_with (at_builtin; go_must (refine wpList_app (lo := w1.heap.size) (base := w1.heap.size) (n := l4.length) (xs := trs l4) _ _ rfl _ _ ty_flaws rfl (by repeat (first | exact hown6 | refine World.ownsRow.alloc ?_ _ | refine own_drewN ?_ _ | refine World.ownsRow.drew ?_)) rfl (by first | exact row_new' _ (by first | rfl | simp) (by first | omega | (simp; omega)) rfl | exact row_newN _ _ (by first | rfl | simp) (by first | omega | (simp; omega)) rfl | exact row_newD _ (by first | rfl | simp) (by first | omega | (simp; omega)) rfl) rfl rfl (by first | omega | decide) (by first | omega | decide) (by first | omega | (simp; omega)) ?_))
                          intro A7 c7 w7 hown7 hg7 _
                          have hb7 : Below w1.heap.size w1 w7 := below_app hown6 (by repeat (first | exact hbw6 | refine Below.alloc ?_ (by first | omega | (simp; omega)) _ | refine below_drewN' ?_ _ | refine Below.drew ?_)) hg7 (Nat.le_refl _) (by simp; omega)
                          have hk7 := Blk.app (hown6.alloc _) (hkb6.alloc _) hg7 (by decide)
                          go_wp2_with fail
                          go_roundw
                          case rel => exact ⟨j + 1, A7, c7, by omega, by go_num, by rw [HJ2.out, HE.out]; simp, by rw [HJ2.out, HE.out, trs_app, List.length_append]; exact hown7, hk7, hb7⟩
                          case measure => simp [intOf]; omega
                        · have HE : Hid (oftenF xs most b k = []) := Lib.hid (by unfold oftenF; rw [HI.out, if_neg hp])
                          have HP := Lib.hid hp
                          clear hp
                          cases hp1 : pressB xs b (k : Int)
                          · go_wp2_with fail
                            go_roundw
                            case rel => exact ⟨j + 1, A6, c6, by omega, by go_num, by rw [HJ2.out, HE.out, List.append_nil], by rw [HJ2.out, HE.out, List.append_nil]; exact hown6, hkb6, hbw6⟩
                            case measure => simp [intOf]; omega
                          · have g2 : decide (most < (n : Int)) = false := by simp; have := HP.out; simp [hp1] at this; exact this
                            go_wp2_with fail
                            go_roundw
                            case rel => exact ⟨j + 1, A6, c6, by omega, by go_num, by rw [HJ2.out, HE.out, List.append_nil], by rw [HJ2.out, HE.out, List.append_nil]; exact hown6, hkb6, hbw6⟩
                            case measure => simp [intOf]; omega
                · have hj7 : j = btns.length := by have : btns.length = 6 := rfl
                                                   omega
                  have HF : Hid (flawsM xs most short both (k + 1) = l3 ++ oftenJ xs most k j) := Lib.hid (by rw [HT3.out, hj7])
                  clear hj7
                  go_wp2_with fail
                  go_roundw
                  case rel => exact ⟨k + 1, A6, c6, by omega, by go_num, by rw [HF.out], by rw [HF.out]; exact hown6, hbw6⟩
                  case measure => simp [intOf]; omega
    · have hkn : k = xs.length := by omega
      subst hkn
      go_wp2_with fail
      go_ret
      rw [HU.out]
      exact ⟨A', c', rfl, (Row.of_own hown).weak hzz, hx1.trans (hbw.mono hzz)⟩
end Go.Proofs.Ytlnencloodlnbaa
