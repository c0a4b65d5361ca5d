/- Texts of this seat, laid together: Rd Re Rf Rg Rq Tg Tb. -/
import Derived.Handy
import Derived.BigQuiet
import Derived.Test.YtggnccafmadacaaGreatDoorBu41
import Derived.Test.YtggnccafmadacaaGreatDoorBu42
import Derived.Test.YtggnccafmadacaaGreatDoorBu43
import Derived.Test.YtggnccafmadacaaGreatDoorBu18
import Derived.Test.YtggnccafmadacaaGreatDoorBu21
import Derived.Test.YtggnccafmadacaaGreatDoorBu27
import Derived.Test.YtggnccafmadacaaGreatDoorBu34
import Derived.Test.YtggnccafmadacaaGreatDoorBu08
import Derived.Test.YtggnccafmadacaaGreatDoorBu25
/- What is read of a history's text, line by line; the walk of segment.readAttempt. -/
namespace Go.Proofs.YtggnccafmadacaaGreatDoor
set_option linter.unusedVariables false
set_option linter.unusedSimpArgs false
open Go.RowKit Go.Sort

/-- A word as a split. -/
def spX (s : List UInt8) : Int := if s = [45] then 0 else numV s 9
def spOK (s : List UInt8) : Bool := decide (s = [45]) || (numB s 9 && decide (numV s 9 ≠ 0))
def attHd (ws : List (List UInt8)) : Bool := decide (2 ≤ ws.length) && decide (ws.getD 0 [] = attW)
/-- The words of an attempt. -/
def attB (ws : List (List UInt8)) : Bool := attHd ws && (numB (ws.getD 1 []) 9 && (ws.drop 2).all spOK)
def attR (ws : List (List UInt8)) : Att := if attHd ws then (numV (ws.getD 1 []) 9, (ws.drop 2).map spX) else (0, [])
theorem spOK_dash : spOK [45] = true ∧ spX [45] = 0 := ⟨by decide, by decide⟩
theorem spOK_num {s : List UInt8} (h : s ≠ [45]) : spOK s = (numB s 9 && decide (numV s 9 ≠ 0)) ∧ spX s = numV s 9 := by
  unfold spOK spX
  rw [decide_eq_false h, if_neg h]; exact ⟨rfl, rfl⟩
/-- How far an attempt's words go through. -/
def okTo (ws : List (List UInt8)) (k : Nat) : Bool := numB (ws.getD 1 []) 9 && ((ws.drop 2).take k).all spOK
theorem okTo_next {ws : List (List UInt8)} {k : Nat} (h : k < (ws.drop 2).length) : okTo ws (k + 1) = (okTo ws k && spOK (ws.drop 2)[k]) := by
  unfold okTo
  rw [List.take_succ_eq_append_getElem h, List.all_append]
  simp [Bool.and_assoc]
theorem okTo_all (ws : List (List UInt8)) : okTo ws (ws.drop 2).length = (numB (ws.getD 1 []) 9 && (ws.drop 2).all spOK) := by
  unfold okTo; rw [List.take_length]
theorem str_word_eq {x y : List UInt8} (h : x = y) : (x == y) = true := by simpa using h
theorem str_word_ne {x y : List UInt8} (h : x ≠ y) : (x == y) = false := by simpa using h
theorem numV_i64 (s : List UInt8) (m : Nat) (hm : m ≤ 17) : -100000000000000000 ≤ numV s m ∧ numV s m ≤ 100000000000000000 := by
  unfold numV
  cases h : numB s m
  · simp
  · rw [if_pos rfl]
    unfold numB at h
    simp only [Bool.and_eq_true, decide_eq_true_eq] at h
    have h1 := valD_lt (unsign s) h.1.1.1
    have h2 : 10 ^ (unsign s).length ≤ 10 ^ 17 := Nat.pow_le_pow_right (by decide) (by omega)
    have h3 : (10 : Nat) ^ 17 = 100000000000000000 := by decide
    unfold valS
    split <;> omega
/-- What readAttempt hands out. -/
def ReadAttPost (w : World) (ws : List (List UInt8)) (e : Ending) (w' : World) : Prop :=
  ∃ B c, e = .returned (.tuple #[.agg #[.int .i64 (attR ws).1, .slice B (attR ws).2.length c], .bool (attB ws)]) ∧ w'.ownsRow w.heap.size 3 1 (.slice B (attR ws).2.length c) (attR ws).2.length (ints (attR ws).2) ∧ Below w.heap.size w w'
set_option maxHeartbeats 4000000 in
set_option maxRecDepth 100000 in
theorem readAttempt_any (b : Nat) (ws : List (List UInt8)) (w : World) (hk : Blk w b 9 (strs ws).toArray) (hn : ws.length ≤ 1000001) (hl : ∀ x ∈ ws, x.length ≤ 1000000) :
    Calls Tryz.prog 101 #[.slice (some ⟨b, 0, none⟩) ws.length ws.length] w (ReadAttPost w ws) := by
  have hr : Row w b 1 (some ⟨b, 0, none⟩) ws.length (strs ws) := hk.strRow (Nat.le_refl _)
  have HL := Lib.hid hl
  have hbz := hk.lt
  clear hl
  have hc : ∀ k (h : k < ws.length), w.cell? ⟨b, k, none⟩ = some (encStr ws[k]) := by
    intro k h
    have := hk.cell k
    rw [this]; simp [strs, h]
  have HC := Lib.hid hc
  have BAD : Hid (attHd ws = false → ∀ w', Below w.heap.size w w' → ReadAttPost w ws (.returned (.tuple #[.agg #[.int .i64 0, .slice none 0 0], .bool false])) w') := Lib.hid (fun h w' hb => by
    refine ⟨none, 0, ?_, ?_, hb⟩
    · unfold attR attB; rw [h]; rfl
    · unfold attR; rw [h]; exact World.ownsRow_nil _ _ _ _)
  have GOOD : Hid (attHd ws = true → ∀ B c w', w'.ownsRow w.heap.size 3 1 (.slice B ((ws.drop 2).map spX).length c) ((ws.drop 2).map spX).length (ints ((ws.drop 2).map spX)) → Below w.heap.size w w' → ReadAttPost w ws (.returned (.tuple #[.agg #[.int .i64 (numV (ws.getD 1 []) 9), .slice B ((ws.drop 2).map spX).length c], .bool (okTo ws (ws.drop 2).length)])) w') := Lib.hid (fun h B c w' ho hb => by
    have e : attR ws = (numV (ws.getD 1 []) 9, (ws.drop 2).map spX) := by unfold attR; rw [h]; rfl
    refine ⟨B, c, ?_, ?_, hb⟩
    · rw [e, okTo_all]; unfold attB; rw [h]; rfl
    · rw [e]; exact ho)
  clear hk hc
  generalize hP : ReadAttPost w ws = Post at *
  clear hP
  by_cases h2 : ws.length < 2
  · have HB := Lib.hid (show attHd ws = false by unfold attHd; rw [decide_eq_false (by omega)]; rfl)
    go_enter Tryz.func101, Tryz.ntmps101
    have d2 : decide ((ws.length : Int) < 2) = true := by simp; omega
    clear h2
    go_wp2_with fail
    go_returns
    exact BAD.out HB.out _ ((Below.refl _ _).alloc (Nat.le_refl _) _)
  · have d2 : decide ((ws.length : Int) < 2) = false := by simp; omega
    have c0 := HC.out 0 (by omega)
    have c1 := HC.out 1 (by omega)
    have g0 : ws.getD 0 [] = ws[0] := by rw [List.getD_eq_getElem?_getD, List.getElem?_eq_getElem (by omega)]; rfl
    have g1 : ws.getD 1 [] = ws[1] := by rw [List.getD_eq_getElem?_getD, List.getElem?_eq_getElem (by omega)]; rfl
    have hl1 := HL.out ws[1] (List.getElem_mem _)
    generalize ws[0] = x0 at *
    generalize ws[1] = x1 at *
    by_cases h0 : x0 = attW
    · have HB := Lib.hid (show attHd ws = true by unfold attHd; rw [decide_eq_true (by omega), g0, decide_eq_true h0]; rfl)
      subst h0
      have e0 : (attW == [97, 116, 116, 101, 109, 112, 116]) = true := by decide
      have e0' : (attW != [97, 116, 116, 101, 109, 112, 116]) = false := by decide
      have hno := numV_i64 x1 9 (by decide)
      have HNO : Hid (numV (ws.getD 1 []) 9 = numV x1 9 ∧ okTo ws 0 = numB x1 9) := Lib.hid ⟨by rw [g1], by unfold okTo; rw [g1]; simp⟩
      have HG := Lib.hid (GOOD.out HB.out)
      have HNX : Hid (∀ k (h : k < (ws.drop 2).length), okTo ws (k + 1) = (okTo ws k && spOK (ws.drop 2)[k])) := Lib.hid (fun k h => okTo_next h)
      have HRS : Hid (∀ k (h : k < (ws.drop 2).length), (ws.drop 2)[k].length ≤ 1000000 ∧ w.cell? ⟨b, 2 + k, none⟩ = some (encStr (ws.drop 2)[k])) := Lib.hid (fun k h => by
        have hk : 2 + k < ws.length := by rw [List.length_drop] at h; omega
        rw [List.getElem_drop]
        exact ⟨HL.out _ (List.getElem_mem _), HC.out (2 + k) hk⟩)
      have hrl : (ws.drop 2).length = ws.length - 2 := List.length_drop
      clear BAD GOOD g0 g1
      generalize ws.drop 2 = rest at *
      by_cases hw2 : ws.length = 2
      · have hr0 : rest = [] := List.eq_nil_of_length_eq_zero (by omega)
        subst hr0
        clear HNX HRS hrl d2
        go_enter Tryz.func101, Tryz.ntmps101
        go_wp2_with fail
        have hA : Blk (w.alloc (.cells #[.int .i64 0, .slice none 0 0] 62)) w.heap.size 62 #[.int .i64 0, .slice none 0 0] := Blk.new _ _ _
        have hx : Below w.heap.size w (w.alloc (.cells #[.int .i64 0, .slice none 0 0] 62)) := (Below.refl _ _).alloc (Nat.le_refl _) _
        have hw0 : (w.alloc (.cells #[.int .i64 0, .slice none 0 0] 62)).heap.size = w.heap.size + 1 := by simp
        generalize w.alloc (.cells #[.int .i64 0, .slice none 0 0] 62) = w0 at *
        refine (number_any x1 9 _ (by omega) (by omega)).mono ?_
        rintro e w1 ⟨rfl, hb⟩
        have hA := hA.below hb
        have hx := below_up hx hb
        have hba : w.heap.size < w1.heap.size := by have := hb.size; omega
        have hOK := HNO.out.2
        have HOK := Lib.hid hOK
        have HNV := Lib.hid HNO.out.1
        clear hb hw0 hOK HNO
        generalize numV x1 9 = no at *
        generalize numB x1 9 = ok0 at *
        go_wp2_with fail
        have hB : Blk (w1.alloc (.cells #[.int .i64 no, .slice none 0 0] 62)) w1.heap.size 62 #[.int .i64 no, .slice none 0 0] := Blk.new _ _ _
        have hA := hA.alloc (.cells #[.int .i64 no, .slice none 0 0] 62)
        have hx := below_up hx ((Below.refl _ _).alloc (Nat.le_refl _) (.cells #[.int .i64 no, .slice none 0 0] 62))
        generalize w1.alloc (.cells #[.int .i64 no, .slice none 0 0] 62) = w2 at *
        generalize w1.heap.size = ba at *
        go_loopw [5, 34] (fun o i wr => o = .bool (okTo ws 0) ∧ i = .int .i64 0 ∧ Blk wr w.heap.size 62 #[.int .i64 0, .slice none 0 0] ∧ Blk wr ba 62 #[.int .i64 no, .slice none 0 0] ∧ Below w.heap.size w wr) (fun _ _ _ => 0)
        case atStart => exact ⟨by rw [HOK.out], rfl, hA, hB, hx⟩
        case round =>
          clear hA hB hx
          obtain ⟨rfl, rfl, hA, hB, hx⟩ := hrel
          obtain ⟨q0, q1⟩ := hA.two_
          obtain ⟨r0, r1⟩ := hB.two_
          have qz := hA.lt
          have rz := hB.lt
          have qf0 := hA.thaw 0
          have qf1 := hA.thaw 1
          obtain ⟨z0, z1, z2⟩ := hA.two2 (.int .i64 no) (.slice none 0 0)
          generalize okTo ws 0 = ok at *
          go_wp2_with fail
          refine bodyPost_ret (v := .tuple #[.agg #[.int .i64 no, .slice none 0 0], .bool ok]) (by simp [results, Tryz.results101, go_sem, z0, z1, z2]) rfl ?_
          have hfin := HG.out none 0 _ (World.ownsRow_nil _ _ _ _) (Below.setCell (p := ⟨w.heap.size, 1, none⟩) (Below.setCell (p := ⟨w.heap.size, 0, none⟩) hx (Nat.le_refl _) (.int .i64 no)) (Nat.le_refl _) (.slice none 0 0))
          rw [HNV.out] at hfin
          exact hfin
      · have hw3 : 2 < ws.length := by omega
        go_enter Tryz.func101, Tryz.ntmps101
        go_wp2_with fail
        have hA : Blk (w.alloc (.cells #[.int .i64 0, .slice none 0 0] 62)) w.heap.size 62 #[.int .i64 0, .slice none 0 0] := Blk.new _ _ _
        have hx : Below w.heap.size w (w.alloc (.cells #[.int .i64 0, .slice none 0 0] 62)) := (Below.refl _ _).alloc (Nat.le_refl _) _
        have hw0 : (w.alloc (.cells #[.int .i64 0, .slice none 0 0] 62)).heap.size = w.heap.size + 1 := by simp
        generalize w.alloc (.cells #[.int .i64 0, .slice none 0 0] 62) = w0 at *
        refine (number_any x1 9 _ (by omega) (by omega)).mono ?_
        rintro e w1 ⟨rfl, hb⟩
        have hA := hA.below hb
        have hx := below_up hx hb
        have hba : w.heap.size < w1.heap.size := by have := hb.size; omega
        have hOK := HNO.out.2
        have HOK := Lib.hid hOK
        have HNV := Lib.hid HNO.out.1
        clear hb hw0 hOK HNO
        generalize numV x1 9 = no at *
        generalize numB x1 9 = ok0 at *
        go_wp2_with fail
        have hB : Blk (w1.alloc (.cells #[.int .i64 no, .slice none 0 0] 62)) w1.heap.size 62 #[.int .i64 no, .slice none 0 0] := Blk.new _ _ _
        have hA := hA.alloc (.cells #[.int .i64 no, .slice none 0 0] 62)
        have hx := below_up hx ((Below.refl _ _).alloc (Nat.le_refl _) (.cells #[.int .i64 no, .slice none 0 0] 62))
        generalize w1.alloc (.cells #[.int .i64 no, .slice none 0 0] 62) = w2 at *
        generalize w1.heap.size = ba at *
        go_loopw [5, 34] (fun o i wr => ∃ (k : Nat) (B : Option Addr) (c : Nat) (l : List Int), k ≤ rest.length ∧ l.length = k ∧ Hid (l = (rest.take k).map spX) ∧ o = .bool (okTo ws k) ∧ i = .int .i64 k ∧ Blk wr w.heap.size 62 #[.int .i64 0, .slice none 0 0] ∧ Blk wr ba 62 #[.int .i64 no, .slice B l.length c] ∧ wr.ownsRow w.heap.size 3 1 (.slice B l.length c) l.length (ints l) ∧ Below w.heap.size w wr) (fun _ i _ => rest.length - (intOf i).toNat)
        case atStart => exact ⟨0, none, 0, [], Nat.zero_le _, rfl, Lib.hid rfl, by rw [HOK.out], rfl, hA, hB, World.ownsRow_nil _ _ _ _, hx⟩
        case round =>
          clear hA hB hx
          obtain ⟨k, B, c, l, hk, hlk, HLK, rfl, rfl, hA, hB, hown, hx⟩ := hrel
          have hzw := hx.size
          by_cases hlt : k < rest.length
          · obtain ⟨hsl, hcell⟩ := HRS.out k hlt
            have hcell := (hx.cell (p := ⟨b, 2 + k, none⟩) hbz).trans hcell
            have hbw : b < wr.heap.size := by omega
            have HN1 := Lib.hid (HNX.out k hlt)
            have HTK : Hid ((rest.take (k + 1)).map spX = (rest.take k).map spX ++ [spX rest[k]]) := Lib.hid (by rw [List.take_succ_eq_append_getElem hlt, List.map_append]; rfl)
            generalize rest[k] = s at *
            generalize okTo ws k = okk at *
            have HLEQ := Lib.hid hlk
            have hll : l.length ≤ 1000001 := by omega
            clear hlk
            by_cases hs : s = [45]
            · subst hs
              have HD : Hid (spOK [45] = true ∧ spX [45] = 0) := Lib.hid spOK_dash
              obtain ⟨r0, r1⟩ := hB.two_
              have rz := hB.lt
              have rf := hB.thaw 1
              cases okk
              all_goals
                go_wp2_with (at_builtin; go_must (refine wpList_app (lo := w.heap.size) (base := w.heap.size) (n := l.length) (xs := ints l) _ _ rfl _ _ ty_ints rfl (by repeat (first | exact hown | refine World.ownsRow.alloc ?_ _ | refine own_drewN ?_ _ | refine World.ownsRow.drew ?_)) rfl (by first | exact row_new' _ (by first | rfl | simp) (by first | omega | (simp; omega)) rfl | exact row_newN _ _ (by first | rfl | simp) (by first | omega | (simp; omega)) rfl | exact row_newD _ (by first | rfl | simp) (by first | omega | (simp; omega)) rfl) rfl rfl (by first | omega | decide) (by first | omega | decide) (by first | omega | (simp; omega)) ?_))
                intro A5 c5 w5 hown5 hg5 _
                have hA5 := (hA.alloc (.cells #[.int .i64 0] 3)).otherOf hg5 (own_kindOf (hown.alloc (.cells #[.int .i64 0] 3))) (by decide)
                have hB5 := (hB.alloc (.cells #[.int .i64 0] 3)).otherOf hg5 (own_kindOf (hown.alloc (.cells #[.int .i64 0] 3))) (by decide)
                have hx5 : Below w.heap.size w w5 := below_app (hown.alloc (.cells #[.int .i64 0] 3)) (hx.alloc hzw _) hg5 (Nat.le_refl _) (by simp; omega)
                clear r0 r1 rz rf
                obtain ⟨r0, r1⟩ := hB5.two_
                have rz := hB5.lt
                have rf := hB5.thaw 1
                go_wp2_with fail
                go_roundw
                case rel =>
                  refine ⟨k + 1, A5, c5, l ++ [0], by omega, by rw [List.length_append, HLEQ.out]; rfl, Lib.hid (by rw [HTK.out, HLK.out, HD.out.2]), by rw [HN1.out, HD.out.1]; rfl, by go_num, ?_, ?_, ?_, ?_⟩
                  · exact hA5.past ba 1 _ (by omega)
                  · have := hB5.poke 1 (.slice A5 (l.length + 1) c5)
                    rw [List.length_append]; simpa using this
                  · have := own_past hown5 hB5 (by decide) 1 (.slice A5 (l.length + 1) c5)
                    rw [ints_app, List.length_append]; exact this
                  · exact Below.setCell (p := ⟨ba, 1, none⟩) hx5 (by show w.heap.size ≤ ba; omega) _
                case measure => simp [intOf]; omega
            · have e1 : (s == [45]) = false := str_word_ne hs
              have HSP := Lib.hid (spOK_num hs)
              clear hs
              go_wp2_with fail
              refine (number_any s 9 _ (by omega) (by omega)).mono ?_
              rintro e w3 ⟨rfl, hb⟩
              have hA := hA.below hb
              have hB := hB.below hb
              have hown := own_keep hown hb
              have hx := below_up hx hb
              have hzw := hx.size
              clear hb hcell
              have hm := numV_i64 s 9 (by decide)
              obtain ⟨bm, hbm⟩ : ∃ bm, (numV s 9 != 0) = bm := ⟨_, rfl⟩
              have HBM : Hid (decide (numV s 9 ≠ 0) = bm) := Lib.hid (by rw [← hbm, Bool.eq_iff_iff]; simp)
              generalize numV s 9 = m at *
              generalize numB s 9 = is at *
              obtain ⟨r0, r1⟩ := hB.two_
              have rz := hB.lt
              have rf := hB.thaw 1
              cases okk <;> cases is <;> cases bm
              all_goals
                go_wp2_with (at_builtin; go_must (refine wpList_app (lo := w.heap.size) (base := w.heap.size) (n := l.length) (xs := ints l) _ _ rfl _ _ ty_ints rfl (by repeat (first | exact hown | refine World.ownsRow.alloc ?_ _ | refine own_drewN ?_ _ | refine World.ownsRow.drew ?_)) rfl (by first | exact row_new' _ (by first | rfl | simp) (by first | omega | (simp; omega)) rfl | exact row_newN _ _ (by first | rfl | simp) (by first | omega | (simp; omega)) rfl | exact row_newD _ (by first | rfl | simp) (by first | omega | (simp; omega)) rfl) rfl rfl (by first | omega | decide) (by first | omega | decide) (by first | omega | (simp; omega)) ?_))
                intro A5 c5 w5 hown5 hg5 _
                have hA5 := (hA.alloc (.cells #[.int .i64 m] 3)).otherOf hg5 (own_kindOf (hown.alloc (.cells #[.int .i64 m] 3))) (by decide)
                have hB5 := (hB.alloc (.cells #[.int .i64 m] 3)).otherOf hg5 (own_kindOf (hown.alloc (.cells #[.int .i64 m] 3))) (by decide)
                have hx5 : Below w.heap.size w w5 := below_app (hown.alloc (.cells #[.int .i64 m] 3)) (hx.alloc hzw _) hg5 (Nat.le_refl _) (by simp; omega)
                clear r0 r1 rz rf
                obtain ⟨r0, r1⟩ := hB5.two_
                have rz := hB5.lt
                have rf := hB5.thaw 1
                go_wp2_with fail
                go_roundw
                case rel =>
                  refine ⟨k + 1, A5, c5, l ++ [m], by omega, by rw [List.length_append, HLEQ.out]; rfl, Lib.hid (by rw [HTK.out, HLK.out, HSP.out.2]), by rw [HN1.out, HSP.out.1, HBM.out]; rfl, by go_num, ?_, ?_, ?_, ?_⟩
                  · exact hA5.past ba 1 _ (by omega)
                  · have := hB5.poke 1 (.slice A5 (l.length + 1) c5)
                    rw [List.length_append]; simpa using this
                  · have := own_past hown5 hB5 (by decide) 1 (.slice A5 (l.length + 1) c5)
                    rw [ints_app, List.length_append]; exact this
                  · exact Below.setCell (p := ⟨ba, 1, none⟩) hx5 (by show w.heap.size ≤ ba; omega) _
                case measure => simp [intOf]; omega
          · have hkk : k = rest.length := by omega
            subst hkk
            have HLF : Hid (l = rest.map spX) := Lib.hid (by rw [HLK.out, List.take_length])
            have HLEN : Hid ((rest.map spX) = l) := Lib.hid HLF.out.symm
            clear HLK hlk
            obtain ⟨q0, q1⟩ := hA.two_
            obtain ⟨r0, r1⟩ := hB.two_
            have qz := hA.lt
            have rz := hB.lt
            have qf0 := hA.thaw 0
            have qf1 := hA.thaw 1
            obtain ⟨z0, z1, z2⟩ := hA.two2 (.int .i64 no) (.slice B l.length c)
            generalize okTo ws rest.length = ok at *
            go_wp2_with fail
            refine bodyPost_ret (v := .tuple #[.agg #[.int .i64 no, .slice B l.length c], .bool ok]) (by simp [results, Tryz.results101, go_sem, z0, z1, z2]) rfl ?_
            have hfin := HG.out B c _ (by rw [HLEN.out]; exact own_past (own_past hown hA (by decide) 0 (.int .i64 no)) (hA.poke 0 (.int .i64 no)) (by decide) 1 (.slice B l.length c)) (Below.setCell (p := ⟨w.heap.size, 1, none⟩) (Below.setCell (p := ⟨w.heap.size, 0, none⟩) hx (Nat.le_refl _) (.int .i64 no)) (Nat.le_refl _) (.slice B l.length c))
            rw [HNV.out, HLEN.out] at hfin
            exact hfin
    · have HB := Lib.hid (show attHd ws = false by unfold attHd; rw [g0, decide_eq_false h0, Bool.and_false])
      have e0 := str_word_ne h0
      have e0' : (x0 != attW) = true := by simpa using h0
      unfold attW at e0 e0'
      go_enter Tryz.func101, Tryz.ntmps101
      go_wp2_with fail
      go_returns
      exact BAD.out HB.out _ ((Below.refl _ _).alloc (Nat.le_refl _) _)
end Go.Proofs.YtggnccafmadacaaGreatDoor
/- The closure of segment.Read: what a line does to the history that is read. -/
namespace Go.Proofs.YtggnccafmadacaaGreatDoor
set_option linter.unusedVariables false
set_option linter.unusedSimpArgs false
open Go.RowKit Go.Sort

/-- The words of a line. -/
def wordsT (t : List UInt8) (k : Nat) : List (List UInt8) := cutAt 32 ((linesL t).getD k [])
/-- What the lines so far gave. -/
def segsT (t : List UInt8) (k : Nat) : List (List UInt8) := if k = 0 then [] else (wordsT t 0).drop 1
def attsR (t : List UInt8) (k : Nat) : List Att := (List.range (k - 1)).map fun j => attR (wordsT t (j + 1))
/-- Whether a line goes through. -/
def okH (t : List UInt8) (k : Nat) : Bool := fullW (wordsT t k) && (if k = 0 then decide ((wordsT t k).getD 0 [] = segW) else attB (wordsT t k))
theorem wordsT_at {t : List UInt8} {k : Nat} (h : k < (linesL t).length) : wordsT t k = cutAt 32 (linesL t)[k] := by
  unfold wordsT; rw [List.getD_eq_getElem?_getD, List.getElem?_eq_getElem h]; rfl
theorem attsR_next (t : List UInt8) (k : Nat) (h : 0 < k) : attsR t (k + 1) = attsR t k ++ [attR (wordsT t k)] := by
  obtain ⟨m, rfl⟩ : ∃ m, k = m + 1 := ⟨k - 1, by omega⟩
  simp [attsR, List.range_succ]
theorem attsR_len (t : List UInt8) (k : Nat) : (attsR t k).length = k - 1 := by simp [attsR]
/-- The history as it stands behind so many lines: its box, its attempts, its segments. -/
structure HRd (t : List UInt8) (L k b : Nat) (W : World) : Prop where
  lt : b < L
  has : ∃ (SA TA : Option Addr) (sc td : Nat) (zs : List AttE), Blk W b 56 #[.slice SA (segsT t k).length sc, .slice TA zs.length td] ∧ OAtts W L TA td zs ∧ attE zs = attsR t k ∧
    ((k = 0 ∨ (segsT t k).length = 0) ∨ ∃ b', L ≤ b' ∧ SA = some ⟨b', 1, none⟩ ∧ Blk W b' 9 (strs (wordsT t 0)).toArray) ∧ (segsT t k).length ≤ sc
theorem HRd.below {t : List UInt8} {L k b : Nat} {W W' : World} (h : HRd t L k b W) (hb : Below W.heap.size W W') : HRd t L k b W' := by
  obtain ⟨h0, SA, TA, sc, td, zs, h1, h2, h3, h4, h5⟩ := h
  exact ⟨h0, SA, TA, sc, td, zs, h1.below hb, h2.below hb, h3, h4.imp id (fun ⟨b', e1, e2, e3⟩ => ⟨b', e1, e2, e3.below hb⟩), h5⟩
theorem HRd.aside {t : List UInt8} {L k b g i : Nat} {W : World} (h : HRd t L k b W) (hg : g < L) (hne : g ≠ b) (u : Value) : HRd t L k b (W.setCell ⟨g, i, none⟩ u) := by
  obtain ⟨h0, SA, TA, sc, td, zs, h1, h2, h3, h4, h5⟩ := h
  have p := grown_pokeOf W g i u
  exact ⟨h0, SA, TA, sc, td, zs, h1.past g i u (fun e => hne e.symm), ⟨own_grown h2.row p hg, fun x hx => own_grown (h2.spl x hx) p hg⟩, h3, h4.imp id (fun ⟨b', e1, e2, e3⟩ => ⟨b', e1, e2, e3.past g i u (by omega)⟩), h5⟩
theorem HRd.start {t : List UInt8} {L b : Nat} {W : World} (h : Blk W b 56 #[.slice none 0 0, .slice none 0 0]) (hb : b < L) : HRd t L 0 b W :=
  ⟨hb, none, none, 0, 0, [], h, OAtts.nil _ _, by simp [attE, attsR], .inl (.inl rfl), Nat.le_refl _⟩
/-- The first line gives the segments. -/
theorem HRd.first {t : List UInt8} {L b b' : Nat} {W : World} (h : HRd t L 0 b W) (hb : L ≤ b') (hk : Blk W b' 9 (strs (wordsT t 0)).toArray) {SA : Option Addr} {sc : Nat} (hS : (wordsT t 0).length - 1 = 0 ∨ SA = some ⟨b', 1, none⟩) (hc : (wordsT t 0).length - 1 ≤ sc) :
    HRd t L 1 b (W.setCell ⟨b, 0, none⟩ (.slice SA ((wordsT t 0).length - 1) sc)) := by
  obtain ⟨h0, SA0, TA, sc0, td, zs, h1, h2, h3, h4, h5⟩ := h
  have e : (segsT t 1).length = (wordsT t 0).length - 1 := by unfold segsT; rw [if_neg (by decide), List.length_drop]
  have hz : zs = [] := by
    have := congrArg List.length h3
    rw [attE_len, attsR_len] at this
    exact List.eq_nil_of_length_eq_zero this
  subst hz
  refine ⟨h0, SA, TA, sc, td, [], ?_, ?_, by simp [attE, attsR], ?_, by rw [e]; exact hc⟩
  · have := h1.poke 0 (.slice SA ((wordsT t 0).length - 1) sc)
    rw [e]; simpa using this
  · have p := grown_pokeOf W b 0 (.slice SA ((wordsT t 0).length - 1) sc)
    exact h2.other p h1.kindOf (by decide) (by decide)
  · rcases hS with hS | hS
    · exact .inl (.inr (by rw [e]; exact hS))
    · exact .inr ⟨b', hb, hS, hk.past b 0 _ (by omega)⟩
/-- Each other line gives an attempt. -/
theorem HRd.push {t : List UInt8} {L k b : Nat} {W W' : World} {SA TA : Option Addr} {sc td : Nat} {zs : List AttE} (hk : 0 < k) (hb : b < L)
    (h1 : Blk W b 56 #[.slice SA (segsT t k).length sc, .slice TA zs.length td]) (h2 : OAtts W L TA td zs) (h3 : attE zs = attsR t k)
    (h4 : (k = 0 ∨ (segsT t k).length = 0) ∨ ∃ b', L ≤ b' ∧ SA = some ⟨b', 1, none⟩ ∧ Blk W b' 9 (strs (wordsT t 0)).toArray) (h5 : (segsT t k).length ≤ sc)
    (hg : W.grownBy W' (Value.slice TA zs.length td).ownBlock) {x : AttE} (ho : W.ownsRow L 3 1 (.slice x.2.1 x.1.2.length x.2.2) x.1.2.length (ints x.1.2)) (hx : x.1 = attR (wordsT t k))
    {A5 : Option Addr} {d5 : Nat} (hw : W'.ownsRow L 62 2 (.slice A5 (zs.length + 1) d5) (zs.length + 1) (zs.flatMap encE ++ encE x)) :
    HRd t L (k + 1) b (W'.setCell ⟨b, 1, none⟩ (.slice A5 (zs.length + 1) d5)) := by
  have hkd := own_kindOf h2.row
  have b1 := h1.otherOf hg hkd (by decide)
  have e : segsT t (k + 1) = segsT t k := by unfold segsT; rw [if_neg (by omega), if_neg (by omega)]
  have p := grown_pokeOf W' b 1 (.slice A5 (zs.length + 1) d5)
  refine ⟨hb, SA, A5, sc, d5, zs ++ [x], ?_, ?_, ?_, ?_, by rw [e]; exact h5⟩
  · have := b1.poke 1 (.slice A5 (zs.length + 1) d5)
    rw [e, List.length_append]; simpa using this
  · exact (h2.push hg ho hw).other p b1.kindOf (by decide) (by decide)
  · rw [attE_app, h3, attsR_next t k hk]
    simp [attE, hx]
  · rw [e]
    rcases h4 with h4 | ⟨b', e1, e2, e3⟩
    · exact .inl (.inr (h4.resolve_left (by omega)))
    · exact .inr ⟨b', e1, e2, (e3.otherOf hg hkd (by decide)).past b 1 _ (by omega)⟩
/-- What holds for the program's reader, and for the reference's. -/
def RPr (t : List UInt8) (b1 b2 L k : Nat) (W : World) : Prop := Blk W b1 3 #[.int .i64 k] ∧ b1 < L ∧ b1 ≠ b2 ∧ HRd t L k b2 W
def RRf (t : List UInt8) (b1 b2 L k : Nat) (W : World) : Prop := Blk W b1 4 #[.bool (decide (k = 0))] ∧ b1 < L ∧ b1 ≠ b2 ∧ HRd t L k b2 W
end Go.Proofs.YtggnccafmadacaaGreatDoor
/- The walk of segment.Read's closure. -/
namespace Go.Proofs.YtggnccafmadacaaGreatDoor
set_option linter.unusedVariables false
set_option linter.unusedSimpArgs false
open Go.RowKit Go.Sort

theorem attB_head {ws : List (List UInt8)} (h : ws.getD 0 [] = segW) : attB ws = false := by
  unfold attB attHd
  rw [h, decide_eq_false (show ¬ segW = attW by decide), Bool.and_false]; rfl
theorem okH_zero {t : List UInt8} {k : Nat} (h : k = 0) : okH t k = (fullW (wordsT t k) && decide ((wordsT t k).getD 0 [] = segW)) := by unfold okH; rw [if_pos h]
theorem okH_pos {t : List UInt8} {k : Nat} (h : k ≠ 0) : okH t k = (fullW (wordsT t k) && attB (wordsT t k)) := by unfold okH; rw [if_neg h]
theorem wordsB_full (s : List UInt8) : wordsB s (s.count 32 + 1) = fullW (cutAt 32 s) := by
  unfold wordsB; rw [cutAt_len, decide_eq_true rfl]; rfl
/-- What a line of the program's reader does. -/
def LinePost (t : List UInt8) (b1 b2 L k : Nat) (W : World) (R : Nat → Nat → World → Prop) (e : Ending) (W' : World) : Prop :=
  e = .returned (.bool (okH t k)) ∧ Stays L [b1, b2] W W' ∧ (okH t k = true → R L (k + 1) W')
set_option maxHeartbeats 4000000 in
set_option maxRecDepth 100000 in
theorem readCl_any (t : List UInt8) (b1 b2 B L k : Nat) (W : World) (ht : t.length ≤ 1000000) (hk : k < (linesL t).length) (hL : L ≤ W.heap.size) (hE : EnvB B W) (hB1 : B ≤ b1) (hBL : B ≤ L) (h : RPr t b1 b2 L k W) :
    Calls Tryz.prog 99 #[encStr (linesL t)[k], .pointer (some ⟨b1, 0, none⟩), .pointer (some ⟨b2, 0, none⟩)] W (LinePost t b1 b2 L k W (RPr t b1 b2)) := by
  obtain ⟨hbx, hb1L, hne, hH⟩ := h
  have hkn : k ≤ 1000001 := by have := (linesL_le t).1; omega
  have hsl : (linesL t)[k].length ≤ 1000000 := by have := (linesL_le t).2 _ (List.getElem_mem hk); omega
  have HWT := Lib.hid (wordsT_at hk)
  have hcl := cutAt_len 32 (linesL t)[k]
  have hcc := List.count_le_length (a := (32 : UInt8)) (l := (linesL t)[k])
  have HWL : Hid (∀ x ∈ wordsT t k, x.length ≤ 1000000) := Lib.hid (fun x hx => by
    rw [HWT.out] at hx
    have := cutAt_sum 32 _ x hx; omega)
  have HNE : Hid (wordsT t k ≠ []) := Lib.hid (by rw [HWT.out]; exact cutAt_ne _ _)
  have hwn : (wordsT t k).length ≤ 1000001 := by rw [HWT.out]; omega
  have BAD : Hid (∀ W', Stays L [b1, b2] W W' → okH t k = false → LinePost t b1 b2 L k W (RPr t b1 b2) (.returned (.bool false)) W') := Lib.hid (fun W' h1 h2 => ⟨by rw [h2], h1, fun h => by rw [h2] at h; cases h⟩)
  have GOOD : Hid (∀ ok W', Stays L [b1, b2] W W' → okH t k = ok → (ok = true → RPr t b1 b2 L (k + 1) W') → LinePost t b1 b2 L k W (RPr t b1 b2) (.returned (.bool ok)) W') := Lib.hid (fun ok W' h1 h2 h3 => ⟨by rw [h2], h1, fun h => h3 (by rw [← h2]; exact h)⟩)
  have HFW : Hid (wordsB (linesL t)[k] ((linesL t)[k].count 32 + 1) = fullW (wordsT t k)) := Lib.hid (by rw [wordsB_full, HWT.out])
  have HCW : Hid (cutAt 32 (linesL t)[k] = wordsT t k) := Lib.hid HWT.out.symm
  clear hcl
  generalize hP : LinePost t b1 b2 L k W (RPr t b1 b2) = Post at *
  clear hP
  generalize (linesL t)[k] = s at *
  have c0 : W.cell? ⟨b1, 0, none⟩ = some (.int .i64 k) := by simpa using hbx.cell 0
  have cz := hbx.lt
  have cf := hbx.thaw 0
  go_enter Tryz.func99, Tryz.ntmps99
  go_upto_region 2 with (fail)
  have hst : Stays L [b1, b2] W (W.setCell ⟨b1, 0, none⟩ (.int .i64 ((k : Int) + 1))) := (Stays.refl _ _ _).set (.inl (by simp)) _
  have hbx1 : Blk (W.setCell ⟨b1, 0, none⟩ (.int .i64 ((k : Int) + 1))) b1 3 #[.int .i64 ((k + 1 : Nat) : Int)] := by
    have := hbx.poke 0 (.int .i64 ((k : Int) + 1))
    simpa using this
  have hH1 := hH.aside (i := 0) hb1L hne (.int .i64 ((k : Int) + 1))
  have hE1 := hE.below ((Below.refl B W).setCell (p := ⟨b1, 0, none⟩) hB1 (.int .i64 ((k : Int) + 1)))
  have hz1 : L ≤ (W.setCell ⟨b1, 0, none⟩ (.int .i64 ((k : Int) + 1))).heap.size := by simpa [World.setCell] using hL
  clear c0 cz cf hbx hH hE
  generalize W.setCell ⟨b1, 0, none⟩ (.int .i64 ((k : Int) + 1)) = W1 at *
  go_wp2_with fail
  refine (Tryz.strings_Count_one ⟨s.toArray⟩ 32 W1).mono ?_
  rintro e w' ⟨rfl, rfl⟩
  have ec : Lib.countByte (⟨s.toArray⟩ : ByteArray).data.toList 32 = s.count 32 := rfl
  rw [ec]
  clear ec
  generalize s.count 32 = cn at *
  go_wp2_with fail
  have ec : (cn : Int) + 1 = ((cn + 1 : Nat) : Int) := by push_cast; rfl
  rw [ec]
  clear ec
  refine (words_any s (cn + 1) _ (by omega) (by omega) hE1.env).mono ?_
  rintro e w2 hW
  rcases hW with ⟨hwb, bw, rfl, hbw, hkw, hb⟩ | ⟨hwb, rfl, hb⟩
  · rw [HFW.out] at hwb
    have HFB := Lib.hid hwb
    rw [HCW.out] at hkw
    simp only [HCW.out]
    have hst := hst.trans (Stays.of_below hb hz1)
    have hbx2 := hbx1.below hb
    have hH2 := hH1.below hb
    have hz2 : L ≤ w2.heap.size := by have := hb.size; omega
    have hbwL : L ≤ bw := by omega
    clear hwb hb hbx1 hH1 hE1 hbw HFW
    have hwp : 0 < (wordsT t k).length := List.length_pos_iff.2 HNE.out
    have g0 : (wordsT t k).getD 0 [] = (wordsT t k)[0] := by rw [List.getD_eq_getElem?_getD, List.getElem?_eq_getElem hwp]; rfl
    have cw : w2.cell? ⟨bw, 0, none⟩ = some (encStr (wordsT t k)[0]) := by
      have := hkw.cell 0
      rw [this]; simp [strs, hwp]
    have cwz := hkw.lt
    have cx : w2.cell? ⟨b1, 0, none⟩ = some (.int .i64 ((k + 1 : Nat) : Int)) := by simpa using hbx2.cell 0
    have cxz := hbx2.lt
    have HG0 := Lib.hid g0
    clear g0
    obtain ⟨kk, hkk⟩ : ∃ kk : Int, kk = ((k + 1 : Nat) : Int) := ⟨_, rfl⟩
    rw [← hkk] at cx
    by_cases hx0 : (wordsT t k)[0] = segW
    · by_cases hk0 : k = 0
      · have e1 : (kk == 1) = true := by rw [hkk, hk0]; rfl
        have HOK : Hid (okH t k = true) := Lib.hid (by rw [okH_zero hk0, HFB.out, HG0.out, decide_eq_true hx0]; rfl)
        rw [hx0] at cw
        have e0 : (segW == [115, 101, 103, 109, 101, 110, 116, 115]) = true := by decide
        have HK0 := Lib.hid hk0
        have HKK := Lib.hid hkk
        obtain ⟨hb2L, SA, TA, sc, td, zs, hb2, _⟩ := id hH2
        obtain ⟨p0, p1⟩ := hb2.two_
        have pz := hb2.lt
        have pf := hb2.thaw 0
        clear hx0 hkk hk0 hb2
        by_cases hw1 : (wordsT t k).length = 1
        · have HW1 := Lib.hid hw1
          go_wp2_with fail
          go_quiet (fail)
          go_wp2_with fail
          refine GOOD.out true _ ?_ HOK.out (fun _ => ?_)
          · exact Stays.set (by first | exact hst | exact ⟨hst.os, hst.tape, hst.output, hst.size, hst.block⟩) (.inl (by simp)) _
          · have hk0 := HK0.out
            subst hk0
            refine ⟨(hbx2.past b2 0 _ hne), hb1L, hne, ?_⟩
            have := (hH2.below (below_drewN' (Below.refl _ _) nq)).first hbwL (hkw.below (below_drewN' (Below.refl _ _) nq)) (SA := some ⟨bw, 0, none⟩) (sc := 0) (.inl (by rw [HW1.out])) (by rw [HW1.out]; exact Nat.le_refl _)
            rw [HW1.out] at this
            exact this
        · have hw2 : 1 < (wordsT t k).length := by omega
          go_wp2_with fail
          go_quiet (fail)
          go_wp2_with fail
          refine GOOD.out true _ ?_ HOK.out (fun _ => ?_)
          · exact Stays.set (by first | exact hst | exact ⟨hst.os, hst.tape, hst.output, hst.size, hst.block⟩) (.inl (by simp)) _
          · have hk0 := HK0.out
            subst hk0
            refine ⟨(hbx2.past b2 0 _ hne), hb1L, hne, ?_⟩
            exact (hH2.below (below_drewN' (Below.refl _ _) nq)).first hbwL (hkw.below (below_drewN' (Below.refl _ _) nq)) (SA := some ⟨bw, 1, none⟩) (sc := (wordsT t 0).length - 1) (.inr rfl) (Nat.le_refl _)
      · have e1 : (kk == 1) = false := by rw [hkk, beq_eq_false_iff_ne]; omega
        have HOK : Hid (okH t k = false) := Lib.hid (by rw [okH_pos hk0, attB_head (by rw [HG0.out, hx0]), Bool.and_false])
        rw [hx0] at cw
        have e0 : (segW == [115, 101, 103, 109, 101, 110, 116, 115]) = true := by decide
        clear hx0 hkk hk0
        go_wp2_with fail
        go_quiet (fail)
        go_wp2_with fail
        exact BAD.out _ (by first | exact hst | exact ⟨hst.os, hst.tape, hst.output, hst.size, hst.block⟩) HOK.out
    · have e0 : ((wordsT t k)[0] == [115, 101, 103, 109, 101, 110, 116, 115]) = false := str_word_ne hx0
      by_cases hk0 : k = 0
      · have e1 : (kk == 1) = true := by rw [hkk, hk0]; rfl
        have HOK : Hid (okH t k = false) := Lib.hid (by rw [okH_zero hk0, HG0.out, decide_eq_false hx0, Bool.and_false])
        clear hx0 hkk hk0
        generalize (wordsT t k)[0] = x0 at *
        go_wp2_with fail
        go_quiet (fail)
        go_wp2_with fail
        exact BAD.out _ (by first | exact hst | exact ⟨hst.os, hst.tape, hst.output, hst.size, hst.block⟩) HOK.out
      · have e1 : (kk == 1) = false := by rw [hkk, beq_eq_false_iff_ne]; omega
        have HOK : Hid (okH t k = attB (wordsT t k)) := Lib.hid (by rw [okH_pos hk0, HFB.out, Bool.true_and])
        have HKP : Hid (0 < k) := Lib.hid (by omega)
        have HKK := Lib.hid hkk
        clear hx0 hkk hk0
        generalize (wordsT t k)[0] = x0 at *
        go_wp2_with fail
        go_quiet (fail)
        have hD := below_drewN' (Below.refl w2.heap.size w2) nq
        have hst := hst.trans (Stays.of_below hD hz2)
        have hbx2 := hbx2.below hD
        have hH2 := hH2.below hD
        have hkw := hkw.below hD
        have hz2 : L ≤ (w2.drewN nq).heap.size := hz2
        clear hD
        generalize w2.drewN nq = w3 at *
        obtain ⟨cx, _⟩ : w3.cell? ⟨b1, 0, none⟩ = some (.int .i64 kk) ∧ True := ⟨by rw [HKK.out]; simpa using hbx2.cell 0, trivial⟩
        have cxz := hbx2.lt
        go_wp2_with fail
        refine (readAttempt_any bw (wordsT t k) _ hkw hwn (by exact fun x hx => HWL.out x hx)).mono ?_
        rintro e w4 ⟨B, c, rfl, hown, hb⟩
        have hst := hst.trans (Stays.of_below hb hz2)
        have hbx4 := hbx2.below hb
        have hH4 := hH2.below hb
        have hz4 : L ≤ w4.heap.size := Nat.le_trans hz2 hb.size
        have hown4 := own_weak hown hz2
        clear hown hb hbx2 hH2 hkw hz2 cx cxz
        generalize hat : attR (wordsT t k) = x at *
        have HAT := Lib.hid hat
        clear hat
        obtain ⟨no, l⟩ := x
        dsimp only at *
        generalize hab : attB (wordsT t k) = ok at *
        have HOK2 : Hid (okH t k = ok) := Lib.hid HOK.out
        clear hab HOK
        obtain ⟨hb2L, SA, TA, sc, td, zs, hb2, hat, hze, hsg, hsc⟩ := hH4
        have hzl : zs.length ≤ 1000001 := by
          have := congrArg List.length hze
          rw [attE_len, attsR_len] at this; omega
        obtain ⟨p0, p1⟩ := hb2.two_
        have pz := hb2.lt
        have pf := hb2.thaw 1
        have hrow := hat.row
        go_wp2_with (at_builtin; go_must (refine wpList_app (lo := L) (base := L) (n := zs.length) (xs := zs.flatMap encE) _ _ rfl _ _ ty_atts rfl (by repeat (first | exact hrow | refine World.ownsRow.alloc ?_ _ | refine own_drewN ?_ _ | refine World.ownsRow.drew ?_)) rfl (by first | exact row_new' _ (by first | rfl | simp) (by first | omega | (simp; omega)) rfl | exact row_newN _ _ (by first | rfl | simp) (by first | omega | (simp; omega)) rfl | exact row_newD _ (by first | rfl | simp) (by first | omega | (simp; omega)) rfl) rfl rfl (by first | omega | decide) (by first | omega | decide) (by first | omega | (simp; omega)) ?_))
        intro A5 d5 w5 hown5 hg5 _
        have hX := (Below.refl w4.heap.size w4).alloc (Nat.le_refl _) (.cells #[.int .i64 no, .slice B l.length c] 62)
        have hX := hX.alloc (by simp) (.cells #[.int .i64 no, .slice B l.length c] 62)
        have hst6 := hst.trans (Stays.of_below hX hz4)
        have hb6 := hb2.below hX
        have hbx6 := hbx4.below hX
        have hat6 := hat.below hX
        have hsg6 : (k = 0 ∨ (segsT t k).length = 0) ∨ ∃ b', L ≤ b' ∧ SA = some ⟨b', 1, none⟩ ∧ Blk ((w4.alloc (.cells #[.int .i64 no, .slice B l.length c] 62)).alloc (.cells #[.int .i64 no, .slice B l.length c] 62)) b' 9 (strs (wordsT t 0)).toArray := hsg.imp id (fun ⟨b', e1, e2, e3⟩ => ⟨b', e1, e2, e3.below hX⟩)
        have hownl := own_keep hown4 hX
        have hz6 : L ≤ ((w4.alloc (.cells #[.int .i64 no, .slice B l.length c] 62)).alloc (.cells #[.int .i64 no, .slice B l.length c] 62)).heap.size := by simp; omega
        clear hX hst hb2 hbx4 hat hsg hown4 hrow p0 p1 pz pf
        generalize (w4.alloc (.cells #[.int .i64 no, .slice B l.length c] 62)).alloc (.cells #[.int .i64 no, .slice B l.length c] 62) = w6 at *
        have hkd := own_kindOf hat6.row
        have hb7 := hb6.otherOf hg5 hkd (by decide)
        have hbx7 := hbx6.otherOf hg5 hkd (by decide)
        obtain ⟨p0, p1⟩ := hb7.two_
        have pz := hb7.lt
        have pf := hb7.thaw 1
        go_wp2_with fail
        refine GOOD.out ok _ ?_ HOK2.out (fun _ => ?_)
        · exact Stays.set (hst6.grown hg5 hz6 (fun q hq => (hat6.row.lt q hq).1)) (.inl (by simp)) _
        · have hP := HRd.push HKP.out hb2L hb6 hat6 hze hsg6 hsc hg5 (x := ((no, l), (B, c))) hownl HAT.out.symm hown5
          exact ⟨by have := hbx7.past b2 1 (.slice A5 (zs.length + 1) d5) hne; exact this, hb1L, hne, hP⟩
  · rw [HFW.out] at hwb
    have HOK : Hid (okH t k = false) := Lib.hid (by unfold okH; rw [hwb]; rfl)
    have hst := hst.trans (Stays.of_below hb hz1)
    clear hwb hb hbx1 hH1 hE1
    go_wp2_with fail
    go_quiet (fail)
    go_wp2_with fail
    exact BAD.out _ (by first | exact hst | exact ⟨hst.os, hst.tape, hst.output, hst.size, hst.block⟩) HOK.out
end Go.Proofs.YtggnccafmadacaaGreatDoor
/- The walk of splitref1.HistoryRead's closure. -/
namespace Go.Proofs.YtggnccafmadacaaGreatDoor
set_option linter.unusedVariables false
set_option linter.unusedSimpArgs false
open Go.RowKit Go.Sort

theorem intV_num {s : List UInt8} {m : Nat} (h : numB s m = true) : intV s m = numV s m := by
  unfold intV numV
  rw [h, if_pos rfl]
  unfold numB at h
  simp only [Bool.and_eq_true] at h
  rw [h.1.1.1, h.1.1.2, h.1.2]; rfl
/-- A word as the reference takes it. -/
def spI (s : List UInt8) : Int := if s = [45] then 0 else intV s 9
theorem spI_ok {s : List UInt8} (h : spOK s = true) : spI s = spX s := by
  unfold spI spX
  by_cases h1 : s = [45]
  · rw [if_pos h1, if_pos h1]
  · rw [if_neg h1, if_neg h1]
    rw [(spOK_num h1).1, Bool.and_eq_true] at h
    exact intV_num h.1
theorem spI_map {l : List (List UInt8)} (h : l.all spOK = true) : l.map spI = l.map spX := by
  apply List.map_congr_left
  intro x hx
  exact spI_ok (List.all_eq_true.1 h x hx)
theorem nil_mem_full (ws : List (List UInt8)) : decide (([] : List UInt8) ∈ ws) = !fullW ws := by
  cases h : fullW ws
  · rw [fullW, List.all_eq_false] at h
    obtain ⟨x, hx, hp⟩ := h
    have : x = [] := by cases x with | nil => rfl | cons a b => simp at hp
    subst this
    exact decide_eq_true hx
  · refine decide_eq_false fun hm => ?_
    have := List.all_eq_true.1 h [] hm
    simp at this
theorem attB_short {ws : List (List UInt8)} (h : ws.length < 2) : attB ws = false := by
  unfold attB attHd
  rw [decide_eq_false (by omega)]; rfl
theorem HRd.one {t : List UInt8} {L b : Nat} {W : World} (h : HRd t L 0 b W) (h1 : (wordsT t 0).length = 1) : HRd t L 1 b W := by
  obtain ⟨h0, SA, TA, sc, td, zs, h2, h3, h4, h5, h6⟩ := h
  have e : (segsT t 1).length = 0 := by unfold segsT; rw [if_neg (by decide), List.length_drop, h1]
  exact ⟨h0, SA, TA, sc, td, zs, by rw [e]; exact h2, h3, h4, .inl (.inr e), by rw [e]; exact Nat.zero_le _⟩
theorem spOK_int {s : List UInt8} (h : s ≠ [45]) : spOK s = (!(intV s 9 == 0) && numB s 9) ∧ spI s = intV s 9 := by
  refine ⟨?_, by unfold spI; rw [if_neg h]⟩
  rw [(spOK_num h).1]
  cases hn : numB s 9
  · simp
  · rw [intV_num hn, Bool.eq_iff_iff]
    simp
theorem i64_numI (s : List UInt8) : -100000000000000000 ≤ intV s 9 ∧ intV s 9 ≤ 100000000000000000 := by
  unfold intV
  cases h : (decide (1 ≤ (unsign s).length) && decide ((unsign s).length ≤ 9) && digs (unsign s))
  · simp
  · rw [if_pos rfl]
    simp only [Bool.and_eq_true, decide_eq_true_eq] at h
    exact valS_bound h.2 h.1.2 (by decide)

set_option maxHeartbeats 8000000 in
set_option maxRecDepth 100000 in
theorem refCl_any (t : List UInt8) (b1 b2 B L k : Nat) (W : World) (ht : t.length ≤ 1000000) (hk : k < (linesL t).length) (hL : L ≤ W.heap.size) (hE : EnvB B W) (hB1 : B ≤ b1) (hB2 : B ≤ b2) (hBL : B ≤ L) (h : RRf t b1 b2 L k W) :
    Calls Tryz.prog 102 #[encStr (linesL t)[k], .pointer (some ⟨b1, 0, none⟩), .pointer (some ⟨b2, 0, none⟩)] W (LinePost t b1 b2 L k W (RRf t b1 b2)) := by
  obtain ⟨hbx, hb1L, hne, hH⟩ := h
  have hkn : k ≤ 1000001 := by have := (linesL_le t).1; omega
  have hsl : (linesL t)[k].length ≤ 1000000 := by have := (linesL_le t).2 _ (List.getElem_mem hk); omega
  have HWT := Lib.hid (wordsT_at hk)
  have hcl := cutAt_len 32 (linesL t)[k]
  have hcc := List.count_le_length (a := (32 : UInt8)) (l := (linesL t)[k])
  have HWL : Hid (∀ x ∈ wordsT t k, x.length ≤ 1000000) := Lib.hid (fun x hx => by
    rw [HWT.out] at hx
    have := cutAt_sum 32 _ x hx; omega)
  have HNE : Hid (wordsT t k ≠ []) := Lib.hid (by rw [HWT.out]; exact cutAt_ne _ _)
  have hwn : (wordsT t k).length ≤ 1000001 := by rw [HWT.out]; omega
  have BAD : Hid (∀ W', Stays L [b1, b2] W W' → okH t k = false → LinePost t b1 b2 L k W (RRf t b1 b2) (.returned (.bool false)) W') := Lib.hid (fun W' h1 h2 => ⟨by rw [h2], h1, fun h => by rw [h2] at h; cases h⟩)
  have GOOD : Hid (∀ ok W', Stays L [b1, b2] W W' → okH t k = ok → (ok = true → RRf t b1 b2 L (k + 1) W') → LinePost t b1 b2 L k W (RRf t b1 b2) (.returned (.bool ok)) W') := Lib.hid (fun ok W' h1 h2 h3 => ⟨by rw [h2], h1, fun h => h3 (by rw [← h2]; exact h)⟩)
  have HCW : Hid (cutAt 32 (linesL t)[k] = wordsT t k) := Lib.hid HWT.out.symm
  clear hcl hcc
  generalize hP : LinePost t b1 b2 L k W (RRf t b1 b2) = Post at *
  clear hP
  generalize (linesL t)[k] = s at *
  have HE := Lib.hid hE
  have hwp : 0 < (wordsT t k).length := List.length_pos_iff.2 HNE.out
  have HG0 : Hid ((wordsT t k).getD 0 [] = (wordsT t k)[0]) := Lib.hid (by rw [List.getD_eq_getElem?_getD, List.getElem?_eq_getElem hwp]; rfl)
  have HFE := Lib.hid (nil_mem_full (wordsT t k))
  clear hE HWT HNE
  go_enter Tryz.func102, Tryz.ntmps102
  go_wp2_with fail
  refine (split_any 32 s _ (by omega) HE.out.env).mono ?_
  rintro e w1 ⟨bw, rfl, hbw, hkw, hb⟩
  rw [HCW.out] at hkw
  simp only [HCW.out]
  have hst := Stays.of_below (bs := [b1, b2]) hb hL
  have hbx := hbx.below hb
  have hH := hH.below hb
  have hE := Lib.hid (HE.out.below (Below.mono hb (by omega)))
  have hz : L ≤ w1.heap.size := Nat.le_trans hL hb.size
  have hbwL : L ≤ bw := by omega
  clear hb hbw HE
  obtain ⟨c0, _⟩ : w1.cell? ⟨b1, 0, none⟩ = some (.bool (decide (k = 0))) ∧ True := ⟨by simpa using hbx.cell 0, trivial⟩
  have cz := hbx.lt
  have cf := hbx.thaw 0
  go_upto_region 4 with (fail)
  have hst := hst.set (p := ⟨b1, 0, none⟩) (.inl (by simp)) (.bool false)
  have hbx : Blk (w1.setCell ⟨b1, 0, none⟩ (.bool false)) b1 4 #[.bool (decide (k + 1 = 0))] := by
    have := hbx.poke 0 (.bool false)
    simpa using this
  have hH := hH.aside (i := 0) hb1L hne (.bool false)
  have hkw := hkw.past b1 0 (.bool false) (by omega)
  have hE := Lib.hid (hE.out.below ((Below.refl B w1).setCell (p := ⟨b1, 0, none⟩) hB1 (.bool false)))
  have hz : L ≤ (w1.setCell ⟨b1, 0, none⟩ (.bool false)).heap.size := by simpa [World.setCell] using hz
  clear c0 cz cf
  generalize w1.setCell ⟨b1, 0, none⟩ (.bool false) = w2 at *
  go_wp2_with fail
  refine (containsS_any (some ⟨bw, 0, none⟩) _ _ (wordsT t k) [] _ (hkw.strRow (Nat.le_refl _)) (by omega)).mono ?_
  rintro e w3 ⟨rfl, rfl⟩
  rw [HFE.out]
  have cw : w2.cell? ⟨bw, 0, none⟩ = some (encStr (wordsT t k)[0]) := by
    have := hkw.cell 0
    rw [this]; simp [strs, hwp]
  have cwz := hkw.lt
  cases hfw : fullW (wordsT t k)
  · have HOK : Hid (okH t k = false) := Lib.hid (by unfold okH; rw [hfw]; rfl)
    have HZ : Hid ((wordsT t k).length = 1 → (wordsT t k)[0] = []) := Lib.hid (fun h1 => by
      rw [fullW, List.all_eq_false] at hfw
      obtain ⟨x, hx, hp⟩ := hfw
      have hx0 : x = [] := by cases x with | nil => rfl | cons a b => simp at hp
      subst hx0
      obtain ⟨i, hi, he⟩ := List.mem_iff_getElem.1 hx
      have : i = 0 := by omega
      subst this
      exact he)
    clear hfw
    by_cases h1 : (wordsT t k).length = 1
    · have d1 : (((wordsT t k).length : Int) == 1) = true := by rw [h1]; rfl
      rw [HZ.out h1] at cw
      have e0 : (([] : List UInt8) == [115, 101, 103, 109, 101, 110, 116, 115]) = false := by decide
      clear h1 HZ
      go_wp2_with fail
      exact BAD.out _ hst HOK.out
    · have d1 : (((wordsT t k).length : Int) == 1) = false := by rw [beq_eq_false_iff_ne]; omega
      clear h1 HZ
      go_wp2_with fail
      exact BAD.out _ hst HOK.out
  · have HFB := Lib.hid hfw
    clear hfw
    by_cases h1 : (wordsT t k).length = 1
    · have d2 : decide (((wordsT t k).length : Int) < 2) = true := by rw [h1]; rfl
      have d1 : (((wordsT t k).length : Int) == 1) = true := by rw [h1]; rfl
      have H1 := Lib.hid h1
      by_cases hk0 : k = 0
      · have dk : decide (k = 0) = true := decide_eq_true hk0
        have HK0 := Lib.hid hk0
        by_cases hx0 : (wordsT t k)[0] = segW
        · have HOK : Hid (okH t k = true) := Lib.hid (by rw [okH_zero hk0, HFB.out, HG0.out, decide_eq_true hx0]; rfl)
          rw [hx0] at cw
          have e0 : (segW == [115, 101, 103, 109, 101, 110, 116, 115]) = true := by decide
          clear hx0 hk0 h1
          go_wp2_with fail
          refine GOOD.out true _ hst HOK.out (fun _ => ?_)
          have hk0 := HK0.out
          subst hk0
          exact ⟨hbx, hb1L, hne, hH.one H1.out⟩
        · have HOK : Hid (okH t k = false) := Lib.hid (by rw [okH_zero hk0, HG0.out, decide_eq_false hx0, Bool.and_false])
          have e0 : ((wordsT t k)[0] == [115, 101, 103, 109, 101, 110, 116, 115]) = false := str_word_ne hx0
          clear hx0 hk0 h1 HG0
          generalize (wordsT t k)[0] = x0 at *
          go_wp2_with fail
          exact BAD.out _ hst HOK.out
      · have dk : decide (k = 0) = false := decide_eq_false hk0
        have HOK : Hid (okH t k = false) := Lib.hid (by rw [okH_pos hk0, attB_short (by omega), Bool.and_false])
        clear hk0 h1 HG0
        obtain ⟨bx, hbx0⟩ : ∃ bx, ((wordsT t k)[0] == [115, 101, 103, 109, 101, 110, 116, 115]) = bx := ⟨_, rfl⟩
        generalize (wordsT t k)[0] = x0 at *
        cases bx
        all_goals
          go_wp2_with fail
          exact BAD.out _ hst HOK.out
    · have d2 : decide (((wordsT t k).length : Int) < 2) = false := by simp; omega
      have hw2 : 2 ≤ (wordsT t k).length := by omega
      by_cases hk0 : k = 0
      · have dk : decide (k = 0) = true := decide_eq_true hk0
        have HK0 := Lib.hid hk0
        have HOKW : Hid (okH t k = decide ((wordsT t k)[0] = segW)) := Lib.hid (by rw [okH_zero hk0, HFB.out, HG0.out]; rfl)
        obtain ⟨hb2L, SA, TA, sc, td, zs, hb2, _⟩ := id hH
        obtain ⟨p0, p1⟩ := hb2.two_
        have pz := hb2.lt
        have pf := hb2.thaw 0
        have hbb : bw ≠ b2 := by omega
        by_cases hx0 : (wordsT t k)[0] = segW
        · have HOK : Hid (okH t k = true) := Lib.hid (by rw [HOKW.out, decide_eq_true hx0])
          rw [hx0] at cw
          have e0 : (segW == [115, 101, 103, 109, 101, 110, 116, 115]) = true := by decide
          clear hx0 hk0 h1 hb2
          go_upto_region 8 with (fail)
          have cw := (World.cell?_of_block (Below.heap_setCell w2 ⟨b2, 0, none⟩ (.slice (some ⟨bw, 1, none⟩) ((wordsT t k).length - 1) ((wordsT t k).length - 1)) bw hbb)).trans cw
          have cwz : bw < (w2.setCell ⟨b2, 0, none⟩ (.slice (some ⟨bw, 1, none⟩) ((wordsT t k).length - 1) ((wordsT t k).length - 1))).heap.size := by simpa [World.setCell] using cwz
          go_wp2_with fail
          refine GOOD.out true _ (hst.set (.inl (by simp)) _) HOK.out (fun _ => ?_)
          have hk0 := HK0.out
          subst hk0
          exact ⟨hbx.past b2 0 _ hne, hb1L, hne, hH.first hbwL hkw (SA := some ⟨bw, 1, none⟩) (sc := (wordsT t 0).length - 1) (.inr rfl) (Nat.le_refl _)⟩
        · have HOK : Hid (okH t k = false) := Lib.hid (by rw [HOKW.out, decide_eq_false hx0])
          have e0 : ((wordsT t k)[0] == [115, 101, 103, 109, 101, 110, 116, 115]) = false := str_word_ne hx0
          clear hx0 hk0 h1 hb2 HG0 HOKW
          generalize (wordsT t k)[0] = x0 at *
          go_upto_region 8 with (fail)
          have cw := (World.cell?_of_block (Below.heap_setCell w2 ⟨b2, 0, none⟩ (.slice (some ⟨bw, 1, none⟩) ((wordsT t k).length - 1) ((wordsT t k).length - 1)) bw hbb)).trans cw
          have cwz : bw < (w2.setCell ⟨b2, 0, none⟩ (.slice (some ⟨bw, 1, none⟩) ((wordsT t k).length - 1) ((wordsT t k).length - 1))).heap.size := by simpa [World.setCell] using cwz
          go_wp2_with fail
          exact BAD.out _ (hst.set (.inl (by simp)) _) HOK.out
      · have dk : decide (k = 0) = false := decide_eq_false hk0
        have HKP : Hid (0 < k) := Lib.hid (by omega)
        have HOKW : Hid (okH t k = attB (wordsT t k)) := Lib.hid (by rw [okH_pos hk0, HFB.out, Bool.true_and])
        have c1 : w2.cell? ⟨bw, 1, none⟩ = some (encStr (wordsT t k)[1]) := by
          have := hkw.cell 1
          rw [this]; simp [strs, hw2]
        have C0 : Hid ((strs (wordsT t k)).toArray[0]? = some (encStr (wordsT t k)[0])) := Lib.hid (by simp [strs, hwp])
        have hx1l := HWL.out (wordsT t k)[1] (List.getElem_mem _)
        have HRS : Hid (∀ j (h : j < ((wordsT t k).drop 2).length), ((wordsT t k).drop 2)[j].length ≤ 1000000 ∧ (strs (wordsT t k)).toArray[2 + j]? = some (encStr ((wordsT t k).drop 2)[j])) := Lib.hid (fun j h => by
          have hj : 2 + j < (wordsT t k).length := by rw [List.length_drop] at h; omega
          rw [List.getElem_drop]
          exact ⟨HWL.out _ (List.getElem_mem _), by simp [strs, hj]⟩)
        have HAB : Hid (attB (wordsT t k) = (decide ((wordsT t k)[0] = attW) && (numB (wordsT t k)[1] 9 && ((wordsT t k).drop 2).all spOK)) ∧ (attB (wordsT t k) = true → attR (wordsT t k) = (numV (wordsT t k)[1] 9, ((wordsT t k).drop 2).map spX))) := Lib.hid (by
          have g1 : (wordsT t k).getD 1 [] = (wordsT t k)[1] := by rw [List.getD_eq_getElem?_getD, List.getElem?_eq_getElem (by omega)]; rfl
          have e1 : attHd (wordsT t k) = decide ((wordsT t k)[0] = attW) := by unfold attHd; rw [decide_eq_true hw2, HG0.out]; rfl
          refine ⟨by unfold attB; rw [e1, g1], fun h => ?_⟩
          unfold attB at h
          rw [Bool.and_eq_true] at h
          unfold attR
          rw [h.1, if_pos rfl, g1])
        have hrl : ((wordsT t k).drop 2).length = (wordsT t k).length - 2 := List.length_drop
        clear hk0 h1 HG0 HFB HFE HWL
        generalize (wordsT t k).drop 2 = rest at *
        generalize (wordsT t k)[0] = x0 at *
        generalize (wordsT t k)[1] = x1 at *
        by_cases hw3 : (wordsT t k).length = 2
        · have hr0 : rest = [] := List.eq_nil_of_length_eq_zero (by omega)
          subst hr0
          clear HRS hrl
          go_wp2_with fail
          refine (int_any x1 9 _ (by omega) (by omega) hE.out.env).mono ?_
          rintro e w4 ⟨rfl, hb⟩
          have hst := hst.trans (Stays.of_below hb hz)
          have hbx := hbx.below hb
          have hH := hH.below hb
          have hkw := hkw.below hb
          have hE := Lib.hid (hE.out.below (Below.mono hb (by omega)))
          have hz : L ≤ w4.heap.size := Nat.le_trans hz hb.size
          have hno := i64_numI x1
          have HNO : Hid (numB x1 9 = true → intV x1 9 = numV x1 9) := Lib.hid intV_num
          clear hb c1 cw cwz
          generalize hniv : intV x1 9 = no at *
          obtain ⟨ok0, hok0⟩ : ∃ ok0, ok0 = numB x1 9 := ⟨_, rfl⟩
          have HOK0 := Lib.hid hok0
          rw [← hok0]
          clear hok0 hniv
          obtain ⟨ba, hBA⟩ : ∃ ba, ba = w4.heap.size := ⟨_, rfl⟩
          go_wp2_with fail
          have hB : Blk (w4.alloc (.cells #[.int .i64 no, .slice none 0 0] 62)) w4.heap.size 62 #[.int .i64 no, .slice none 0 0] := Blk.new _ _ _
          have hbel : Below w4.heap.size w4 (w4.alloc (.cells #[.int .i64 no, .slice none 0 0] 62)) := (Below.refl _ _).alloc (Nat.le_refl _) (.cells #[.int .i64 no, .slice none 0 0] 62)
          have hbz : w4.heap.size < (w4.alloc (.cells #[.int .i64 no, .slice none 0 0] 62)).heap.size := by simp
          rw [← hBA] at hB hbel hbz
          simp only [← hBA]
          have hLba : L ≤ ba := by omega
          have HBA := Lib.hid hBA
          clear hBA
          generalize w4.alloc (.cells #[.int .i64 no, .slice none 0 0] 62) = w5 at *
          go_loopw [8, 56] (fun o i wr => o = .bool ok0 ∧ i = .int .i64 0 ∧ Blk wr ba 62 #[.int .i64 no, .slice none 0 0] ∧ Below ba w4 wr ∧ ba < wr.heap.size) (fun _ _ _ => 0)
          case atStart => exact ⟨rfl, rfl, hB, hbel, hbz⟩
          case round =>
            clear hB hbel hbz
            obtain ⟨rfl, rfl, hB, hbel, hbz⟩ := hrel
            have hown : wr.ownsRow ba 3 1 (.slice none ([] : List Int).length 0) ([] : List Int).length (ints []) := World.ownsRow_nil _ _ _ _
            have HLI : Hid (([] : List (List UInt8)).map spI = ([] : List Int)) := Lib.hid rfl
            have HOKE : Hid (ok0 = (numB x1 9 && ([] : List (List UInt8)).all spOK)) := Lib.hid (by rw [HOK0.out]; simp)
            have hbel' : Below w4.heap.size w4 wr := HBA.out ▸ hbel
            have hst := hst.trans (Stays.of_below hbel' hz)
            have hbx := hbx.below hbel'
            have hH := hH.below hbel'
            have hkw := hkw.below hbel'
            have hz : L ≤ wr.heap.size := Nat.le_trans hz hbel'.size
            have hown := own_weak hown (show L ≤ ba by omega)
            clear hbel hbel' hE
            obtain ⟨hb2L, SA, TA, sc, td, zs, hb2, hat, hze, hsg, hsc⟩ := hH
            have hzl : zs.length ≤ 1000001 := by
              have := congrArg List.length hze
              rw [attE_len, attsR_len] at this; omega
            obtain ⟨p0, p1⟩ := hb2.two_
            have pz := hb2.lt
            have pf := hb2.thaw 1
            obtain ⟨r0, r1⟩ := hB.two_
            have rz := hB.lt
            have hrow := hat.row
            go_wp2_with (at_builtin; go_must (refine wpList_app (lo := L) (base := L) (n := zs.length) (xs := zs.flatMap encE) _ _ rfl _ _ ty_atts rfl (by repeat (first | exact hrow | refine World.ownsRow.alloc ?_ _ | refine own_drewN ?_ _ | refine World.ownsRow.drew ?_)) rfl (by first | exact row_new' _ (by first | rfl | simp) (by first | omega | (simp; omega)) rfl | exact row_newN _ _ (by first | rfl | simp) (by first | omega | (simp; omega)) rfl | exact row_newD _ (by first | rfl | simp) (by first | omega | (simp; omega)) rfl) rfl rfl (by first | omega | decide) (by first | omega | decide) (by first | omega | (simp; omega)) ?_))
            intro A5 d5 w7 hown5 hg5 _
            have hX := (Below.refl wr.heap.size wr).alloc (Nat.le_refl _) (.cells #[.int .i64 no, .slice none 0 0] 62)
            have hst6 := hst.trans (Stays.of_below hX hz)
            have hb6 := hb2.below hX
            have hbx6 := hbx.below hX
            have hat6 := hat.below hX
            have hkw6 := hkw.below hX
            have hsg6 : (k = 0 ∨ (segsT t k).length = 0) ∨ ∃ b', L ≤ b' ∧ SA = some ⟨b', 1, none⟩ ∧ Blk (wr.alloc (.cells #[.int .i64 no, .slice none 0 0] 62)) b' 9 (strs (wordsT t 0)).toArray := hsg.imp id (fun ⟨b', e1, e2, e3⟩ => ⟨b', e1, e2, e3.below hX⟩)
            have hownl := own_keep hown hX
            have hz6 : L ≤ (wr.alloc (.cells #[.int .i64 no, .slice none 0 0] 62)).heap.size := by simp; omega
            clear hX hst hb2 hbx hat hsg hown hrow p0 p1 pz pf r0 r1 rz hkw hB
            generalize wr.alloc (.cells #[.int .i64 no, .slice none 0 0] 62) = w6 at *
            have hkd := own_kindOf hat6.row
            have hb7 := hb6.otherOf hg5 hkd (by decide)
            have hbx7 := hbx6.otherOf hg5 hkd (by decide)
            have hkw7 := hkw6.otherOf hg5 hkd (by decide)
            obtain ⟨p0, p1⟩ := hb7.two_
            have pz := hb7.lt
            have pf := hb7.thaw 1
            have hbb : bw ≠ b2 := by omega
            go_upto_region 23 with (fail)
            have hst8 : Stays L [b1, b2] W (w7.setCell ⟨b2, 1, none⟩ (.slice A5 (zs.length + 1) d5)) := Stays.set (hst6.grown hg5 hz6 (fun q hq => (hat6.row.lt q hq).1)) (.inl (by simp)) _
            have hkw8 := hkw7.past b2 1 (.slice A5 (zs.length + 1) d5) hbb
            have HPUSH : Hid (attR (wordsT t k) = (no, []) → RRf t b1 b2 L (k + 1) (w7.setCell ⟨b2, 1, none⟩ (.slice A5 (zs.length + 1) d5))) := Lib.hid (fun hr => by
              have hP := HRd.push HKP.out hb2L hb6 hat6 hze hsg6 hsc hg5 (x := ((no, []), (none, 0))) hownl hr.symm hown5
              exact ⟨by have := hbx7.past b2 1 (.slice A5 (zs.length + 1) d5) hne; simpa using this, hb1L, hne, hP⟩)
            have cw := (hkw8.cell 0).trans C0.out
            have cwz := hkw8.lt
            clear p0 p1 pz pf hkw8 hkw7 hb7 hbx7 hkw6 hb6 hbx6 hat6 hsg6 hownl hst6 hown5 hg5
            generalize w7.setCell ⟨b2, 1, none⟩ (.slice A5 (zs.length + 1) d5) = w8 at *
            obtain ⟨bq, hbq⟩ : ∃ bq, (x0 == [97, 116, 116, 101, 109, 112, 116]) = bq := ⟨_, rfl⟩
            have HBQ : Hid (decide (x0 = attW) = bq) := Lib.hid (by rw [← hbq, Bool.eq_iff_iff, decide_eq_true_eq, beq_iff_eq]; exact Iff.rfl)
            have HOKF : Hid (okH t k = (bq && ok0)) := Lib.hid (by rw [HOKW.out, HAB.out.1, HBQ.out, ← HOKE.out])
            have HFIN : Hid (okH t k = true → attR (wordsT t k) = (no, [])) := Lib.hid (fun h => by
              rw [HOKW.out] at h
              have h2 := h
              rw [HAB.out.1, Bool.and_eq_true, Bool.and_eq_true] at h2
              rw [HAB.out.2 h, HNO.out h2.2.1, ← spI_map h2.2.2, HLI.out])
            cases ok0 <;> cases bq
            all_goals
              go_wp2_with fail
              first
              | exact GOOD.out true _ hst8 (by rw [HOKF.out]; rfl) (fun _ => HPUSH.out (HFIN.out (by rw [HOKF.out]; rfl)))
              | exact BAD.out _ hst8 (by rw [HOKF.out]; rfl)
        · have hw4 : 2 < (wordsT t k).length := by omega
          go_wp2_with fail
          refine (int_any x1 9 _ (by omega) (by omega) hE.out.env).mono ?_
          rintro e w4 ⟨rfl, hb⟩
          have hst := hst.trans (Stays.of_below hb hz)
          have hbx := hbx.below hb
          have hH := hH.below hb
          have hkw := hkw.below hb
          have hE := Lib.hid (hE.out.below (Below.mono hb (by omega)))
          have hz : L ≤ w4.heap.size := Nat.le_trans hz hb.size
          have hno := i64_numI x1
          have HNO : Hid (numB x1 9 = true → intV x1 9 = numV x1 9) := Lib.hid intV_num
          clear hb c1 cw cwz
          generalize hniv : intV x1 9 = no at *
          obtain ⟨ok0, hok0⟩ : ∃ ok0, ok0 = numB x1 9 := ⟨_, rfl⟩
          have HOK0 := Lib.hid hok0
          rw [← hok0]
          clear hok0 hniv
          obtain ⟨ba, hBA⟩ : ∃ ba, ba = w4.heap.size := ⟨_, rfl⟩
          go_wp2_with fail
          have hB : Blk (w4.alloc (.cells #[.int .i64 no, .slice none 0 0] 62)) w4.heap.size 62 #[.int .i64 no, .slice none 0 0] := Blk.new _ _ _
          have hbel : Below w4.heap.size w4 (w4.alloc (.cells #[.int .i64 no, .slice none 0 0] 62)) := (Below.refl _ _).alloc (Nat.le_refl _) (.cells #[.int .i64 no, .slice none 0 0] 62)
          have hbz : w4.heap.size < (w4.alloc (.cells #[.int .i64 no, .slice none 0 0] 62)).heap.size := by simp
          rw [← hBA] at hB hbel hbz
          simp only [← hBA]
          have hLba : L ≤ ba := by omega
          have HBA := Lib.hid hBA
          clear hBA
          generalize w4.alloc (.cells #[.int .i64 no, .slice none 0 0] 62) = w5 at *
          go_loopw [8, 56] (fun o i wr => ∃ (j : Nat) (Bq : Option Addr) (cq : Nat) (l : List Int) (okj : Bool), j ≤ rest.length ∧ l.length ≤ 1000001 ∧ Hid (l.length = j ∧ l = (rest.take j).map spI ∧ okj = (numB x1 9 && (rest.take j).all spOK)) ∧ o = .bool okj ∧ i = .int .i64 j ∧ Blk wr ba 62 #[.int .i64 no, .slice Bq l.length cq] ∧ wr.ownsRow ba 3 1 (.slice Bq l.length cq) l.length (ints l) ∧ Below ba w4 wr ∧ ba < wr.heap.size) (fun _ i _ => rest.length - (intOf i).toNat)
          case atStart => exact ⟨0, none, 0, [], ok0, Nat.zero_le _, by simp, Lib.hid ⟨rfl, rfl, by rw [HOK0.out]; simp⟩, rfl, rfl, hB, World.ownsRow_nil _ _ _ _, hbel, hbz⟩
          case round =>
            clear hB hbel hbz
            obtain ⟨j, Bq, cq, l, okj, hj, hl9, HLJ, rfl, rfl, hB, hown, hbel, hbz⟩ := hrel
            by_cases hlt : j < rest.length
            · obtain ⟨hsl2, hcell⟩ := HRS.out j hlt
              have hkwr := hkw.below (HBA.out ▸ hbel)
              have hcell := (hkwr.cell (2 + j)).trans hcell
              have hbwz := hkwr.lt
              have HTK : Hid ((rest.take (j + 1)).map spI = (rest.take j).map spI ++ [spI rest[j]] ∧ (rest.take (j + 1)).all spOK = ((rest.take j).all spOK && spOK rest[j])) := Lib.hid (by rw [List.take_succ_eq_append_getElem hlt, List.map_append, List.all_append]; simp)
              clear hkwr
              generalize rest[j] = s2 at *
              go_wp2_with fail
              refine (int_any s2 9 _ (by omega) (by omega) (hE.out.below (Below.mono hbel (by omega))).env).mono ?_
              rintro e w6 ⟨rfl, hb⟩
              have hB := hB.below hb
              have hown := own_keep hown hb
              have hbel := hbel.trans (hb.mono (by omega))
              have hbz : ba < w6.heap.size := by have := hb.size; omega
              clear hb hcell hbwz
              have hni := i64_numI s2
              by_cases hs : s2 = [45]
              · have e0 : (s2 == [45]) = true := str_word_eq hs
                have HD : Hid (spOK s2 = true ∧ spI s2 = 0) := Lib.hid ⟨by rw [hs]; exact spOK_dash.1, by unfold spI; rw [if_pos hs]⟩
                clear hs
                generalize intV s2 9 = m0 at *
                generalize numB s2 9 = is at *
                obtain ⟨r0, r1⟩ := hB.two_
                have rz := hB.lt
                have rf := hB.thaw 1
                cases okj
                all_goals
                  go_wp2_with (at_builtin; go_must (refine wpList_app (lo := ba) (base := ba) (n := l.length) (xs := ints l) _ _ rfl _ _ ty_ints rfl (by repeat (first | exact hown | refine World.ownsRow.alloc ?_ _ | refine own_drewN ?_ _ | refine World.ownsRow.drew ?_)) rfl (by first | exact row_new' _ (by first | rfl | simp) (by first | omega | (simp; omega)) rfl | exact row_newN _ _ (by first | rfl | simp) (by first | omega | (simp; omega)) rfl | exact row_newD _ (by first | rfl | simp) (by first | omega | (simp; omega)) rfl) rfl rfl (by first | omega | decide) (by first | omega | decide) (by first | omega | (simp; omega)) ?_))
                  intro A5 c5 w7 hown5 hg5 _
                  have hkd := own_kindOf (hown.alloc (.cells #[.int .i64 0] 3))
                  have hB5 := (hB.alloc (.cells #[.int .i64 0] 3)).otherOf hg5 hkd (by decide)
                  have hx5 : Below ba w4 w7 := below_app (hown.alloc (.cells #[.int .i64 0] 3)) (hbel.alloc (by omega) _) hg5 (Nat.le_refl _) (by simp; omega)
                  have hz7 : ba < w7.heap.size := by have := hg5.size; simp at this; omega
                  clear r0 r1 rz rf
                  obtain ⟨r0, r1⟩ := hB5.two_
                  have rz := hB5.lt
                  have rf := hB5.thaw 1
                  go_wp2_with fail
                  go_roundw
                  case rel =>
                    refine ⟨j + 1, A5, c5, l ++ [0], _, by omega, by rw [List.length_append]; have := HLJ.out.1; simp; omega, Lib.hid ⟨by rw [List.length_append, HLJ.out.1]; rfl, by rw [HTK.out.1, ← HLJ.out.2.1, HD.out.2], by rw [HTK.out.2, ← Bool.and_assoc, ← HLJ.out.2.2, HD.out.1]; rfl⟩, rfl, by go_num, ?_, ?_, ?_, ?_⟩
                    · have := hB5.poke 1 (.slice A5 (l.length + 1) c5)
                      rw [List.length_append]; simpa using this
                    · have := own_past hown5 hB5 (by decide) 1 (.slice A5 (l.length + 1) c5)
                      rw [ints_app, List.length_append]; exact this
                    · exact Below.setCell (p := ⟨ba, 1, none⟩) hx5 (Nat.le_refl _) _
                    · simpa [World.setCell] using hz7
                  case measure => simp [intOf]; omega
              · have e0 : (s2 == [45]) = false := str_word_ne hs
                obtain ⟨sp1, sp2⟩ := spOK_int hs
                have HSP := Lib.hid sp1
                have HSI := Lib.hid sp2
                clear hs sp1 sp2
                obtain ⟨bz, hbz0⟩ : ∃ bz, (intV s2 9 == 0) = bz := ⟨_, rfl⟩
                generalize intV s2 9 = m at *
                generalize numB s2 9 = is at *
                have HSP2 : Hid (spOK s2 = (!bz && is)) := Lib.hid (by rw [HSP.out, hbz0])
                clear HSP
                obtain ⟨r0, r1⟩ := hB.two_
                have rz := hB.lt
                have rf := hB.thaw 1
                cases okj <;> cases is <;> cases bz
                all_goals
                  go_wp2_with (at_builtin; go_must (refine wpList_app (lo := ba) (base := ba) (n := l.length) (xs := ints l) _ _ rfl _ _ ty_ints rfl (by repeat (first | exact hown | refine World.ownsRow.alloc ?_ _ | refine own_drewN ?_ _ | refine World.ownsRow.drew ?_)) rfl (by first | exact row_new' _ (by first | rfl | simp) (by first | omega | (simp; omega)) rfl | exact row_newN _ _ (by first | rfl | simp) (by first | omega | (simp; omega)) rfl | exact row_newD _ (by first | rfl | simp) (by first | omega | (simp; omega)) rfl) rfl rfl (by first | omega | decide) (by first | omega | decide) (by first | omega | (simp; omega)) ?_))
                  intro A5 c5 w7 hown5 hg5 _
                  have hkd := own_kindOf (hown.alloc (.cells #[.int .i64 m] 3))
                  have hB5 := (hB.alloc (.cells #[.int .i64 m] 3)).otherOf hg5 hkd (by decide)
                  have hx5 : Below ba w4 w7 := below_app (hown.alloc (.cells #[.int .i64 m] 3)) (hbel.alloc (by omega) _) hg5 (Nat.le_refl _) (by simp; omega)
                  have hz7 : ba < w7.heap.size := by have := hg5.size; simp at this; omega
                  clear r0 r1 rz rf
                  obtain ⟨r0, r1⟩ := hB5.two_
                  have rz := hB5.lt
                  have rf := hB5.thaw 1
                  go_wp2_with fail
                  go_roundw
                  case rel =>
                    refine ⟨j + 1, A5, c5, l ++ [m], _, by omega, by rw [List.length_append]; have := HLJ.out.1; simp; omega, Lib.hid ⟨by rw [List.length_append, HLJ.out.1]; rfl, by rw [HTK.out.1, ← HLJ.out.2.1, HSI.out], by rw [HTK.out.2, ← Bool.and_assoc, ← HLJ.out.2.2, HSP2.out]; rfl⟩, rfl, by go_num, ?_, ?_, ?_, ?_⟩
                    · have := hB5.poke 1 (.slice A5 (l.length + 1) c5)
                      rw [List.length_append]; simpa using this
                    · have := own_past hown5 hB5 (by decide) 1 (.slice A5 (l.length + 1) c5)
                      rw [ints_app, List.length_append]; exact this
                    · exact Below.setCell (p := ⟨ba, 1, none⟩) hx5 (Nat.le_refl _) _
                    · simpa [World.setCell] using hz7
                  case measure => simp [intOf]; omega
            · have hjj : j = rest.length := by omega
              subst hjj
              have HLI : Hid (rest.map spI = l) := Lib.hid (by have := HLJ.out.2.1; rw [List.take_length] at this; exact this.symm)
              have HOKE : Hid (okj = (numB x1 9 && rest.all spOK)) := Lib.hid (by have := HLJ.out.2.2; rw [List.take_length] at this; exact this)
              clear HLJ
              have hbel' : Below w4.heap.size w4 wr := HBA.out ▸ hbel
              have hst := hst.trans (Stays.of_below hbel' hz)
              have hbx := hbx.below hbel'
              have hH := hH.below hbel'
              have hkw := hkw.below hbel'
              have hz : L ≤ wr.heap.size := Nat.le_trans hz hbel'.size
              have hown := own_weak hown (show L ≤ ba by omega)
              clear hbel hbel' hE
              obtain ⟨hb2L, SA, TA, sc, td, zs, hb2, hat, hze, hsg, hsc⟩ := hH
              have hzl : zs.length ≤ 1000001 := by
                have := congrArg List.length hze
                rw [attE_len, attsR_len] at this; omega
              obtain ⟨p0, p1⟩ := hb2.two_
              have pz := hb2.lt
              have pf := hb2.thaw 1
              obtain ⟨r0, r1⟩ := hB.two_
              have rz := hB.lt
              have hrow := hat.row
              go_wp2_with (at_builtin; go_must (refine wpList_app (lo := L) (base := L) (n := zs.length) (xs := zs.flatMap encE) _ _ rfl _ _ ty_atts rfl (by repeat (first | exact hrow | refine World.ownsRow.alloc ?_ _ | refine own_drewN ?_ _ | refine World.ownsRow.drew ?_)) rfl (by first | exact row_new' _ (by first | rfl | simp) (by first | omega | (simp; omega)) rfl | exact row_newN _ _ (by first | rfl | simp) (by first | omega | (simp; omega)) rfl | exact row_newD _ (by first | rfl | simp) (by first | omega | (simp; omega)) rfl) rfl rfl (by first | omega | decide) (by first | omega | decide) (by first | omega | (simp; omega)) ?_))
              intro A5 d5 w7 hown5 hg5 _
              have hX := (Below.refl wr.heap.size wr).alloc (Nat.le_refl _) (.cells #[.int .i64 no, .slice Bq l.length cq] 62)
              have hst6 := hst.trans (Stays.of_below hX hz)
              have hb6 := hb2.below hX
              have hbx6 := hbx.below hX
              have hat6 := hat.below hX
              have hkw6 := hkw.below hX
              have hsg6 : (k = 0 ∨ (segsT t k).length = 0) ∨ ∃ b', L ≤ b' ∧ SA = some ⟨b', 1, none⟩ ∧ Blk (wr.alloc (.cells #[.int .i64 no, .slice Bq l.length cq] 62)) b' 9 (strs (wordsT t 0)).toArray := hsg.imp id (fun ⟨b', e1, e2, e3⟩ => ⟨b', e1, e2, e3.below hX⟩)
              have hownl := own_keep hown hX
              have hz6 : L ≤ (wr.alloc (.cells #[.int .i64 no, .slice Bq l.length cq] 62)).heap.size := by simp; omega
              clear hX hst hb2 hbx hat hsg hown hrow p0 p1 pz pf r0 r1 rz hkw hB
              generalize wr.alloc (.cells #[.int .i64 no, .slice Bq l.length cq] 62) = w6 at *
              have hkd := own_kindOf hat6.row
              have hb7 := hb6.otherOf hg5 hkd (by decide)
              have hbx7 := hbx6.otherOf hg5 hkd (by decide)
              have hkw7 := hkw6.otherOf hg5 hkd (by decide)
              obtain ⟨p0, p1⟩ := hb7.two_
              have pz := hb7.lt
              have pf := hb7.thaw 1
              have hbb : bw ≠ b2 := by omega
              go_upto_region 23 with (fail)
              have hst8 : Stays L [b1, b2] W (w7.setCell ⟨b2, 1, none⟩ (.slice A5 (zs.length + 1) d5)) := Stays.set (hst6.grown hg5 hz6 (fun q hq => (hat6.row.lt q hq).1)) (.inl (by simp)) _
              have hkw8 := hkw7.past b2 1 (.slice A5 (zs.length + 1) d5) hbb
              have HPUSH : Hid (attR (wordsT t k) = (no, l) → RRf t b1 b2 L (k + 1) (w7.setCell ⟨b2, 1, none⟩ (.slice A5 (zs.length + 1) d5))) := Lib.hid (fun hr => by
                have hP := HRd.push HKP.out hb2L hb6 hat6 hze hsg6 hsc hg5 (x := ((no, l), (Bq, cq))) hownl hr.symm hown5
                exact ⟨by have := hbx7.past b2 1 (.slice A5 (zs.length + 1) d5) hne; simpa using this, hb1L, hne, hP⟩)
              have cw := (hkw8.cell 0).trans C0.out
              have cwz := hkw8.lt
              clear p0 p1 pz pf hkw8 hkw7 hb7 hbx7 hkw6 hb6 hbx6 hat6 hsg6 hownl hst6 hown5 hg5
              generalize w7.setCell ⟨b2, 1, none⟩ (.slice A5 (zs.length + 1) d5) = w8 at *
              obtain ⟨bq, hbq⟩ : ∃ bq, (x0 == [97, 116, 116, 101, 109, 112, 116]) = bq := ⟨_, rfl⟩
              have HBQ : Hid (decide (x0 = attW) = bq) := Lib.hid (by rw [← hbq, Bool.eq_iff_iff, decide_eq_true_eq, beq_iff_eq]; exact Iff.rfl)
              have HOKF : Hid (okH t k = (bq && okj)) := Lib.hid (by rw [HOKW.out, HAB.out.1, HBQ.out, ← HOKE.out])
              have HFIN : Hid (okH t k = true → attR (wordsT t k) = (no, l)) := Lib.hid (fun h => by
                rw [HOKW.out] at h
                have h2 := h
                rw [HAB.out.1, Bool.and_eq_true, Bool.and_eq_true] at h2
                rw [HAB.out.2 h, HNO.out h2.2.1, ← spI_map h2.2.2, HLI.out])
              cases okj <;> cases bq
              all_goals
                go_wp2_with fail
                first
                | exact GOOD.out true _ hst8 (by rw [HOKF.out]; rfl) (fun _ => HPUSH.out (HFIN.out (by rw [HOKF.out]; rfl)))
                | exact BAD.out _ hst8 (by rw [HOKF.out]; rfl)
end Go.Proofs.YtggnccafmadacaaGreatDoor
/- The walks of segment.Read and splitref1.HistoryRead: both hand out the same. -/
namespace Go.Proofs.YtggnccafmadacaaGreatDoor
set_option linter.unusedVariables false
set_option linter.unusedSimpArgs false
open Go.RowKit Go.Sort

/-- What is read of a text: the segments, the attempts, the line that is wrong, the error. -/
def readV (t : List UInt8) : List (List UInt8) × List Att × Int × Int :=
  if 200000 < t.length then ([], [], 0, 2) else
  match stopL t (okH t) with
  | some i => ([], [], (i : Int), 9)
  | none => if (linesL t).length = 0 then ([], [], 0, 9) else
    if histF (segsT t (linesL t).length) (attsR t (linesL t).length) = 0 then (segsT t (linesL t).length, attsR t (linesL t).length, 0, 0) else ([], [], 0, histF (segsT t (linesL t).length) (attsR t (linesL t).length))
def ReadPost (w : World) (t : List UInt8) (e : Ending) (w' : World) : Prop :=
  ∃ (SA TA : Option Addr) (sc td : Nat), e = .returned (.tuple #[.agg #[.slice SA (readV t).1.length sc, .slice TA (readV t).2.1.length td], .int .i64 (readV t).2.2.1, .int .i64 (readV t).2.2.2]) ∧ Hist w' w.heap.size SA TA (readV t).1 (readV t).2.1 ∧ (readV t).1.length ≤ sc ∧ Below w.heap.size w w'
theorem readV_large {t : List UInt8} (h : 200000 < t.length) : readV t = ([], [], 0, 2) := by unfold readV; rw [if_pos h]
theorem readV_stop {t : List UInt8} (h : ¬ 200000 < t.length) {i : Nat} (hs : stopL t (okH t) = some i) : readV t = ([], [], (i : Int), 9) := by unfold readV; rw [if_neg h, hs]
theorem readV_none {t : List UInt8} (h : ¬ 200000 < t.length) (hs : stopL t (okH t) = none) (h0 : (linesL t).length = 0) : readV t = ([], [], 0, 9) := by unfold readV; rw [if_neg h, hs]; simp [h0]
theorem readV_bad {t : List UInt8} (h : ¬ 200000 < t.length) (hs : stopL t (okH t) = none) (h0 : (linesL t).length ≠ 0) (hf : histF (segsT t (linesL t).length) (attsR t (linesL t).length) ≠ 0) : readV t = ([], [], 0, histF (segsT t (linesL t).length) (attsR t (linesL t).length)) := by unfold readV; rw [if_neg h, hs]; simp [h0, hf]
theorem readV_ok {t : List UInt8} (h : ¬ 200000 < t.length) (hs : stopL t (okH t) = none) (h0 : (linesL t).length ≠ 0) (hf : histF (segsT t (linesL t).length) (attsR t (linesL t).length) = 0) : readV t = (segsT t (linesL t).length, attsR t (linesL t).length, 0, 0) := by unfold readV; rw [if_neg h, hs]; simp [h0, hf]
theorem Hist.none_ (w : World) (lo : Nat) (SA TA : Option Addr) : Hist w lo SA TA [] [] := ⟨Row.none_ _ _ _ _, [], Row.none_ _ _ _ _, fun i h => by simp at h⟩
theorem wordsT_len (t : List UInt8) (ht : t.length ≤ 1000000) (k : Nat) : (wordsT t k).length ≤ 1000001 ∧ ∀ x ∈ wordsT t k, x.length ≤ 1000000 := by
  have hl : ((linesL t).getD k []).length ≤ 1000000 := by
    rcases Nat.lt_or_ge k (linesL t).length with h | h
    · rw [List.getD_eq_getElem?_getD, List.getElem?_eq_getElem h]
      have := (linesL_le t).2 _ (List.getElem_mem h); simp only [Option.getD_some]; omega
    · rw [List.getD_eq_getElem?_getD, List.getElem?_eq_none h]; simp
  unfold wordsT
  refine ⟨?_, fun x hx => Nat.le_trans (cutAt_sum 32 _ x hx) hl⟩
  rw [cutAt_len]
  have := List.count_le_length (a := (32 : UInt8)) (l := (linesL t).getD k [])
  omega
theorem attR_len (ws : List (List UInt8)) : (attR ws).2.length ≤ ws.length := by
  unfold attR
  split
  · simp
  · simp
/-- Sizes of what is read. -/
theorem read_sz (t : List UInt8) (ht : t.length ≤ 1000000) (c : Nat) (hc : (segsT t (linesL t).length).length ≤ c) : HistSz (segsT t (linesL t).length) (attsR t (linesL t).length) c := by
  have hll := linesL_le t
  refine ⟨hc, ?_, ?_, fun i h => ?_, fun s hs => ?_⟩
  · have := (wordsT_len t ht 0).1
    unfold segsT
    split
    · simp
    · rw [List.length_drop]; omega
  · rw [attsR_len]; omega
  · have e : (attsR t (linesL t).length)[i] = attR (wordsT t (i + 1)) := by simp [attsR]
    rw [e]
    have h1 := attR_len (wordsT t (i + 1))
    have h2 := (wordsT_len t ht (i + 1)).1
    omega
  · unfold segsT at hs
    split at hs
    · cases hs
    · have := (wordsT_len t ht 0).2 s (List.mem_of_mem_drop hs); omega
/-- The history that is read, in memory. -/
theorem HRd.hist {t : List UInt8} {L k b lo : Nat} {W : World} (h : HRd t L k b W) (hl : lo ≤ L) (hk : 0 < k) : ∃ (SA TA : Option Addr) (sc td : Nat), Blk W b 56 #[.slice SA (segsT t k).length sc, .slice TA (attsR t k).length td] ∧ Hist W lo SA TA (segsT t k) (attsR t k) ∧ (segsT t k).length ≤ sc := by
  obtain ⟨h0, SA, TA, sc, td, zs, h1, h2, h3, h4, h5⟩ := h
  have hn : zs.length = (attsR t k).length := by rw [← h3, attE_len]
  refine ⟨SA, TA, sc, td, by rw [← hn]; exact h1, ⟨?_, ?_⟩, h5⟩
  · rcases h4 with h4 | ⟨b', e1, e2, e3⟩
    · have h6 : (segsT t k).length = 0 := h4.resolve_left (by omega)
      have h7 := List.eq_nil_of_length_eq_zero h6
      rw [h7]; exact Row.none_ _ _ _ _
    · have e : segsT t k = (wordsT t 0).drop 1 := by unfold segsT; rw [if_neg (by omega)]
      rw [e, e2]
      refine ⟨by rw [strs_len, Nat.mul_one], fun hp => ⟨b', 1, rfl, by omega, e3.lt, fun j u hu => ?_⟩⟩
      have := e3.cell (1 + j)
      rw [this]
      simp only [strs, List.getElem?_map, List.getElem?_drop, List.getElem?_toArray] at hu ⊢
      exact hu
  · have hh := (h2.row)
    refine ⟨zs.flatMap encE, by rw [← hn]; exact (Row.of_own h2.row).weak hl, fun i hi => ?_⟩
    have hi' : i < zs.length := by omega
    have e : (attsR t k)[i] = zs[i].1 := by simp only [← h3]; simp [attE]
    rw [e]
    exact ⟨zs[i].2.1, zs[i].2.2, (encE_at zs i hi').1, (encE_at zs i hi').2, (Row.of_own (h2.spl _ (List.getElem_mem _))).weak hl⟩
set_option maxHeartbeats 8000000 in
set_option maxRecDepth 100000 in
theorem Read_any (t : List UInt8) (w : World) (ht : t.length ≤ 1000000) (hE : Env w) :
    Calls Tryz.prog 38 #[encStr t] w (ReadPost w t) := by
  have EARLY : Hid (∀ i e W', readV t = ([], [], i, e) → Below w.heap.size w W' → ReadPost w t (.returned (.tuple #[.agg #[.slice none 0 0, .slice none 0 0], .int .i64 i, .int .i64 e])) W') := Lib.hid (fun i e W' h hb => by
    refine ⟨none, none, 0, 0, ?_, ?_, ?_, hb⟩
    · rw [h]; rfl
    · rw [h]; exact Hist.none_ _ _ _ _
    · rw [h]; exact Nat.le_refl _)
  have LATE : Hid (∀ SA TA sc td W', readV t = (segsT t (linesL t).length, attsR t (linesL t).length, 0, 0) → Hist W' w.heap.size SA TA (segsT t (linesL t).length) (attsR t (linesL t).length) → (segsT t (linesL t).length).length ≤ sc → Below w.heap.size w W' → ReadPost w t (.returned (.tuple #[.agg #[.slice SA (segsT t (linesL t).length).length sc, .slice TA (attsR t (linesL t).length).length td], .int .i64 0, .int .i64 0])) W') := Lib.hid (fun SA TA sc td W' h hh hc hb => by
    refine ⟨SA, TA, sc, td, ?_, ?_, ?_, hb⟩
    · rw [h]
    · rw [h]; exact hh
    · rw [h]; exact hc)
  generalize hP : ReadPost w t = Post at *
  clear hP
  have hEB := EnvB.of hE
  by_cases hbig : 200000 < t.length
  · have hd : decide ((200000 : Int) < (t.length : Int)) = true := by simp; omega
    have HV := Lib.hid (readV_large hbig)
    clear hbig
    go_enter Tryz.func38, Tryz.ntmps38
    go_upto_region 1 with (fail)
    have kR : Blk (w.alloc (.cells #[.slice none 0 0, .slice none 0 0] 56)) w.heap.size 56 #[.slice none 0 0, .slice none 0 0] := Blk.new _ _ _
    have hx : Below w.heap.size w (w.alloc (.cells #[.slice none 0 0, .slice none 0 0] 56)) := (Below.refl _ _).alloc (Nat.le_refl _) (.cells #[.slice none 0 0, .slice none 0 0] 56)
    generalize w.alloc (.cells #[.slice none 0 0, .slice none 0 0] 56) = w0 at *
    obtain ⟨q0, q1⟩ := kR.two_
    have qz := kR.lt
    have qf0 := kR.thaw 0
    have qf1 := kR.thaw 1
    obtain ⟨z0, z1, z2⟩ := kR.two2 (.slice none 0 0) (.slice none 0 0)
    go_wp2_with fail
    refine bodyPost_ret (v := .tuple #[.agg #[.slice none 0 0, .slice none 0 0], .int .i64 0, .int .i64 2]) (by simp [results, Tryz.results38, go_sem, z0, z1, z2]) rfl ?_
    exact EARLY.out 0 2 _ HV.out (Below.setCell (p := ⟨w.heap.size, 1, none⟩) (Below.setCell (p := ⟨w.heap.size, 0, none⟩) hx (Nat.le_refl _) _) (Nat.le_refl _) _)
  · have hd : decide ((200000 : Int) < (t.length : Int)) = false := by simp; omega
    have HBIG := Lib.hid hbig
    clear hbig
    go_enter Tryz.func38, Tryz.ntmps38
    go_upto_region 1 with (fail)
    have kR : Blk (w.alloc (.cells #[.slice none 0 0, .slice none 0 0] 56)) w.heap.size 56 #[.slice none 0 0, .slice none 0 0] := Blk.new _ _ _
    have hx : Below w.heap.size w (w.alloc (.cells #[.slice none 0 0, .slice none 0 0] 56)) := (Below.refl _ _).alloc (Nat.le_refl _) (.cells #[.slice none 0 0, .slice none 0 0] 56)
    have hz0 : w.heap.size < (w.alloc (.cells #[.slice none 0 0, .slice none 0 0] 56)).heap.size := by simp
    generalize w.alloc (.cells #[.slice none 0 0, .slice none 0 0] 56) = w0 at *
    go_upto_region 4 with (fail)
    have kH : Blk (w0.alloc (.cells #[.slice none 0 0, .slice none 0 0] 56)) w0.heap.size 56 #[.slice none 0 0, .slice none 0 0] := Blk.new _ _ _
    have kR := kR.alloc (.cells #[.slice none 0 0, .slice none 0 0] 56)
    have hx := hx.alloc (by omega) (.cells #[.slice none 0 0, .slice none 0 0] 56)
    have hz1 : w0.heap.size < (w0.alloc (.cells #[.slice none 0 0, .slice none 0 0] 56)).heap.size := by simp
    obtain ⟨b2, hb2⟩ : ∃ b2, b2 = w0.heap.size := ⟨_, rfl⟩
    rw [← hb2] at kH hz1
    simp only [← hb2]
    have hb2l : w.heap.size < b2 := by omega
    generalize w0.alloc (.cells #[.slice none 0 0, .slice none 0 0] 56) = w1 at *
    clear hb2 hz0
    go_upto_region 5 with (fail)
    have kL : Blk (w1.alloc (.cells #[.int .i64 0] 3)) w1.heap.size 3 #[.int .i64 0] := Blk.new _ _ _
    have kR := kR.alloc (.cells #[.int .i64 0] 3)
    have kH := kH.alloc (.cells #[.int .i64 0] 3)
    have hx := hx.alloc (by omega) (.cells #[.int .i64 0] 3)
    have hz2 : w1.heap.size < (w1.alloc (.cells #[.int .i64 0] 3)).heap.size := by simp
    obtain ⟨b1, hb1⟩ : ∃ b1, b1 = w1.heap.size := ⟨_, rfl⟩
    rw [← hb1] at kL hz2
    simp only [← hb1]
    have hb1l : b2 < b1 := by omega
    generalize w1.alloc (.cells #[.int .i64 0] 3) = w2 at *
    clear hb1 hz1
    have hEB2 := hEB.below hx
    have hsx := hx.size
    go_wp2_with fail
    refine (eachHisP_any b1 b2 t w2 w.heap.size (okH t) (RPr t b1 b2) (by omega) hEB2 (by omega) ?_ ?_ ?_ ?_).mono ?_
    · intro x hx2
      simp only [List.mem_cons, List.not_mem_nil, or_false] at hx2
      rcases hx2 with rfl | rfl
      · exact ⟨by omega, kL.lt⟩
      · exact ⟨by omega, kH.lt⟩
    · intro L W h1 h2 h3
      exact ⟨kL.below h3, by have := kL.lt; omega, by omega, HRd.start (kH.below h3) (by have := kH.lt; omega)⟩
    · intro L k W ⟨h1, h2, h3, h4⟩
      exact ⟨h1, h2, h3, h4.below (Below.refl _ _).drew⟩
    · intro L k W hk h1 h2 h3 h4
      have := readCl_any t b1 b2 w.heap.size L k W (by omega) hk h2 h3 (by omega) (by omega) h4
      exact this
    rintro e w3 ⟨hst, rfl, hR⟩
    have kR3 : Blk w3 w.heap.size 56 #[.slice none 0 0, .slice none 0 0] := (hst.block w.heap.size kR.lt (by simp; omega)).trans kR
    have hx3 : Below w.heap.size w w3 := hx.trans (hst.below (B := w.heap.size) hsx (fun x hx2 => by
      simp only [List.mem_cons, List.not_mem_nil, or_false] at hx2
      rcases hx2 with rfl | rfl <;> omega))
    clear kR kL kH hEB2 hst
    obtain ⟨q0, q1⟩ := kR3.two_
    have qz := kR3.lt
    have qf0 := kR3.thaw 0
    have qf1 := kR3.thaw 1
    obtain ⟨z0, z1, z2⟩ := kR3.two2 (.slice none 0 0) (.slice none 0 0)
    cases hs : stopL t (okH t) with
    | some i =>
      have HV := Lib.hid (readV_stop HBIG.out hs)
      clear hR hs
      simp only [eachV]
      go_wp2_with fail
      refine bodyPost_ret (v := .tuple #[.agg #[.slice none 0 0, .slice none 0 0], .int .i64 i, .int .i64 9]) (by simp [results, Tryz.results38, go_sem, z0, z1, z2]) rfl ?_
      exact EARLY.out i 9 _ HV.out (Below.setCell (p := ⟨w.heap.size, 1, none⟩) (Below.setCell (p := ⟨w.heap.size, 0, none⟩) hx3 (Nat.le_refl _) _) (Nat.le_refl _) _)
    | none =>
      obtain ⟨L, hL, hR⟩ := hR hs
      have HS := Lib.hid hs
      simp only [eachV]
      obtain ⟨hbx, hb1L, hne, hH⟩ := hR
      clear hs
      have cz := hbx.lt
      by_cases hn0 : (linesL t).length = 0
      · have HV := Lib.hid (readV_none HBIG.out HS.out hn0)
        obtain ⟨cx, _⟩ : w3.cell? ⟨b1, 0, none⟩ = some (.int .i64 0) ∧ True := ⟨by rw [hn0] at hbx; simpa using hbx.cell 0, trivial⟩
        clear hn0
        go_wp2_with fail
        refine bodyPost_ret (v := .tuple #[.agg #[.slice none 0 0, .slice none 0 0], .int .i64 0, .int .i64 9]) (by simp [results, Tryz.results38, go_sem, z0, z1, z2]) rfl ?_
        exact EARLY.out 0 9 _ HV.out (Below.setCell (p := ⟨w.heap.size, 1, none⟩) (Below.setCell (p := ⟨w.heap.size, 0, none⟩) hx3 (Nat.le_refl _) _) (Nat.le_refl _) _)
      · have HN0 := Lib.hid hn0
        obtain ⟨cx, _⟩ : w3.cell? ⟨b1, 0, none⟩ = some (.int .i64 ((linesL t).length : Nat)) ∧ True := ⟨by simpa using hbx.cell 0, trivial⟩
        have dn : (((linesL t).length : Int) == 0) = false := by rw [beq_eq_false_iff_ne]; omega
        obtain ⟨SA, TA, sc, td, kH, hh, hsc⟩ := hH.hist (lo := w.heap.size + 1) (by omega) (by omega)
        have hsz := read_sz t (by omega) sc hsc
        obtain ⟨p0, p1⟩ := kH.two_
        have pz := kH.lt
        clear hn0 hH hbx
        generalize hlT : segsT t (linesL t).length = S at *
        generalize hlA : attsR t (linesL t).length = T at *
        have HLT := Lib.hid hlT
        have HLA := Lib.hid hlA
        clear hlT hlA
        go_wp2_with fail
        refine (checkHistory_any SA TA sc td _ S T _ hh hsz.hc hsz.h9 hsz.h8 hsz.h7 hsz.h6).mono ?_
        rintro e w4 ⟨rfl, hb⟩
        have kH := kH.below hb
        have kR4 := kR3.below hb
        have hh := hh.below hb
        have hx4 := below_up hx3 hb
        clear hb q0 q1 qz qf0 qf1 z0 z1 z2 p0 p1 pz
        obtain ⟨q0, q1⟩ := kR4.two_
        have qz := kR4.lt
        have qf0 := kR4.thaw 0
        have qf1 := kR4.thaw 1
        by_cases hf : histF S T = 0
        · have HV : Hid (readV t = (S, T, 0, 0)) := Lib.hid (by rw [← HLT.out, ← HLA.out] at hf ⊢; exact readV_ok HBIG.out HS.out HN0.out hf)
          rw [hf]
          clear hf
          obtain ⟨z0, z1, z2⟩ := kR4.two2 (.slice SA S.length sc) (.slice TA T.length td)
          obtain ⟨p0, p1⟩ := kH.two_
          have pz := kH.lt
          go_wp2_with fail
          refine bodyPost_ret (v := .tuple #[.agg #[.slice SA S.length sc, .slice TA T.length td], .int .i64 0, .int .i64 0]) (by simp [results, Tryz.results38, go_sem, z0, z1, z2]) rfl ?_
          have hfin := LATE.out SA TA sc td ((w4.setCell ⟨w.heap.size, 0, none⟩ (.slice SA S.length sc)).setCell ⟨w.heap.size, 1, none⟩ (.slice TA T.length td))
          refine hfin HV.out ?_ hsc (Below.setCell (p := ⟨w.heap.size, 1, none⟩) (Below.setCell (p := ⟨w.heap.size, 0, none⟩) hx4 (Nat.le_refl _) _) (Nat.le_refl _) _)
          exact (hh.two kR4 (Nat.lt_succ_self _) _ _).weak (Nat.le_succ _)
        · have HV : Hid (readV t = ([], [], 0, histF S T)) := Lib.hid (by rw [← HLT.out, ← HLA.out] at hf ⊢; exact readV_bad HBIG.out HS.out HN0.out hf)
          have df : (histF S T != 0) = true := by simpa using hf
          obtain ⟨z0, z1, z2⟩ := kR4.two2 (.slice none 0 0) (.slice none 0 0)
          clear hf
          generalize hff : histF S T = ff at *
          clear hff
          go_wp2_with fail
          refine bodyPost_ret (v := .tuple #[.agg #[.slice none 0 0, .slice none 0 0], .int .i64 0, .int .i64 ff]) (by simp [results, Tryz.results38, go_sem, z0, z1, z2]) rfl ?_
          exact EARLY.out 0 ff _ HV.out (Below.setCell (p := ⟨w.heap.size, 1, none⟩) (Below.setCell (p := ⟨w.heap.size, 0, none⟩) hx4 (Nat.le_refl _) _) (Nat.le_refl _) _)
set_option maxHeartbeats 8000000 in
set_option maxRecDepth 100000 in
theorem HistoryRead_any (t : List UInt8) (w : World) (ht : t.length ≤ 1000000) (hE : Env w) :
    Calls Tryz.prog 39 #[encStr t] w (ReadPost w t) := by
  have EARLY : Hid (∀ i e W', readV t = ([], [], i, e) → Below w.heap.size w W' → ReadPost w t (.returned (.tuple #[.agg #[.slice none 0 0, .slice none 0 0], .int .i64 i, .int .i64 e])) W') := Lib.hid (fun i e W' h hb => by
    refine ⟨none, none, 0, 0, ?_, ?_, ?_, hb⟩
    · rw [h]; rfl
    · rw [h]; exact Hist.none_ _ _ _ _
    · rw [h]; exact Nat.le_refl _)
  have LATE : Hid (∀ SA TA sc td W', readV t = (segsT t (linesL t).length, attsR t (linesL t).length, 0, 0) → Hist W' w.heap.size SA TA (segsT t (linesL t).length) (attsR t (linesL t).length) → (segsT t (linesL t).length).length ≤ sc → Below w.heap.size w W' → ReadPost w t (.returned (.tuple #[.agg #[.slice SA (segsT t (linesL t).length).length sc, .slice TA (attsR t (linesL t).length).length td], .int .i64 0, .int .i64 0])) W') := Lib.hid (fun SA TA sc td W' h hh hc hb => by
    refine ⟨SA, TA, sc, td, ?_, ?_, ?_, hb⟩
    · rw [h]
    · rw [h]; exact hh
    · rw [h]; exact hc)
  generalize hP : ReadPost w t = Post at *
  clear hP
  have hEB := EnvB.of hE
  by_cases hbig : 200000 < t.length
  · have hd : decide ((200000 : Int) < (t.length : Int)) = true := by simp; omega
    have HV := Lib.hid (readV_large hbig)
    clear hbig
    go_enter Tryz.func39, Tryz.ntmps39
    go_upto_region 1 with (fail)
    have kR : Blk (w.alloc (.cells #[.slice none 0 0, .slice none 0 0] 56)) w.heap.size 56 #[.slice none 0 0, .slice none 0 0] := Blk.new _ _ _
    have hx : Below w.heap.size w (w.alloc (.cells #[.slice none 0 0, .slice none 0 0] 56)) := (Below.refl _ _).alloc (Nat.le_refl _) (.cells #[.slice none 0 0, .slice none 0 0] 56)
    generalize w.alloc (.cells #[.slice none 0 0, .slice none 0 0] 56) = w0 at *
    obtain ⟨q0, q1⟩ := kR.two_
    have qz := kR.lt
    have qf0 := kR.thaw 0
    have qf1 := kR.thaw 1
    obtain ⟨z0, z1, z2⟩ := kR.two2 (.slice none 0 0) (.slice none 0 0)
    go_wp2_with fail
    refine bodyPost_ret (v := .tuple #[.agg #[.slice none 0 0, .slice none 0 0], .int .i64 0, .int .i64 2]) (by simp [results, Tryz.results39, go_sem, z0, z1, z2]) rfl ?_
    exact EARLY.out 0 2 _ HV.out (Below.setCell (p := ⟨w.heap.size, 1, none⟩) (Below.setCell (p := ⟨w.heap.size, 0, none⟩) hx (Nat.le_refl _) _) (Nat.le_refl _) _)
  · have hd : decide ((200000 : Int) < (t.length : Int)) = false := by simp; omega
    have HBIG := Lib.hid hbig
    clear hbig
    go_enter Tryz.func39, Tryz.ntmps39
    go_upto_region 1 with (fail)
    have kR : Blk (w.alloc (.cells #[.slice none 0 0, .slice none 0 0] 56)) w.heap.size 56 #[.slice none 0 0, .slice none 0 0] := Blk.new _ _ _
    have hx : Below w.heap.size w (w.alloc (.cells #[.slice none 0 0, .slice none 0 0] 56)) := (Below.refl _ _).alloc (Nat.le_refl _) (.cells #[.slice none 0 0, .slice none 0 0] 56)
    have hz0 : w.heap.size < (w.alloc (.cells #[.slice none 0 0, .slice none 0 0] 56)).heap.size := by simp
    generalize w.alloc (.cells #[.slice none 0 0, .slice none 0 0] 56) = w0 at *
    go_upto_region 4 with (fail)
    have kH : Blk (w0.alloc (.cells #[.slice none 0 0, .slice none 0 0] 56)) w0.heap.size 56 #[.slice none 0 0, .slice none 0 0] := Blk.new _ _ _
    have kR := kR.alloc (.cells #[.slice none 0 0, .slice none 0 0] 56)
    have hx := hx.alloc (by omega) (.cells #[.slice none 0 0, .slice none 0 0] 56)
    have hz1 : w0.heap.size < (w0.alloc (.cells #[.slice none 0 0, .slice none 0 0] 56)).heap.size := by simp
    obtain ⟨b2, hb2⟩ : ∃ b2, b2 = w0.heap.size := ⟨_, rfl⟩
    rw [← hb2] at kH hz1
    simp only [← hb2]
    have hb2l : w.heap.size < b2 := by omega
    generalize w0.alloc (.cells #[.slice none 0 0, .slice none 0 0] 56) = w1 at *
    clear hb2 hz0
    go_upto_region 5 with (fail)
    have kL : Blk (w1.alloc (.cells #[.bool true] 4)) w1.heap.size 4 #[.bool true] := Blk.new _ _ _
    have kR := kR.alloc (.cells #[.bool true] 4)
    have kH := kH.alloc (.cells #[.bool true] 4)
    have hx := hx.alloc (by omega) (.cells #[.bool true] 4)
    have hz2 : w1.heap.size < (w1.alloc (.cells #[.bool true] 4)).heap.size := by simp
    obtain ⟨b1, hb1⟩ : ∃ b1, b1 = w1.heap.size := ⟨_, rfl⟩
    rw [← hb1] at kL hz2
    simp only [← hb1]
    have hb1l : b2 < b1 := by omega
    generalize w1.alloc (.cells #[.bool true] 4) = w2 at *
    clear hb1 hz1
    have hEB2 := hEB.below hx
    have hsx := hx.size
    go_wp2_with fail
    refine (rlinesHisR_any b1 b2 t w2 w.heap.size (okH t) (RRf t b1 b2) (by omega) hEB2 (by omega) ?_ ?_ ?_ ?_).mono ?_
    · intro x hx2
      simp only [List.mem_cons, List.not_mem_nil, or_false] at hx2
      rcases hx2 with rfl | rfl
      · exact ⟨by omega, kL.lt⟩
      · exact ⟨by omega, kH.lt⟩
    · intro L W h1 h2 h3
      exact ⟨kL.below h3, by have := kL.lt; omega, by omega, HRd.start (kH.below h3) (by have := kH.lt; omega)⟩
    · intro L k W ⟨h1, h2, h3, h4⟩
      exact ⟨h1, h2, h3, h4.below (Below.refl _ _).drew⟩
    · intro L k W hk h1 h2 h3 h4
      have := refCl_any t b1 b2 w.heap.size L k W (by omega) hk h2 h3 (by omega) (by omega) (by omega) h4
      exact this
    rintro e w3 ⟨hst, rfl, hR⟩
    have kR3 : Blk w3 w.heap.size 56 #[.slice none 0 0, .slice none 0 0] := (hst.block w.heap.size kR.lt (by simp; omega)).trans kR
    have hx3 : Below w.heap.size w w3 := hx.trans (hst.below (B := w.heap.size) hsx (fun x hx2 => by
      simp only [List.mem_cons, List.not_mem_nil, or_false] at hx2
      rcases hx2 with rfl | rfl <;> omega))
    clear kR kL kH hEB2 hst
    obtain ⟨q0, q1⟩ := kR3.two_
    have qz := kR3.lt
    have qf0 := kR3.thaw 0
    have qf1 := kR3.thaw 1
    obtain ⟨z0, z1, z2⟩ := kR3.two2 (.slice none 0 0) (.slice none 0 0)
    cases hs : stopL t (okH t) with
    | some i =>
      have HV := Lib.hid (readV_stop HBIG.out hs)
      clear hR hs
      simp only [eachV]
      go_wp2_with fail
      refine bodyPost_ret (v := .tuple #[.agg #[.slice none 0 0, .slice none 0 0], .int .i64 i, .int .i64 9]) (by simp [results, Tryz.results39, go_sem, z0, z1, z2]) rfl ?_
      exact EARLY.out i 9 _ HV.out (Below.setCell (p := ⟨w.heap.size, 1, none⟩) (Below.setCell (p := ⟨w.heap.size, 0, none⟩) hx3 (Nat.le_refl _) _) (Nat.le_refl _) _)
    | none =>
      obtain ⟨L, hL, hR⟩ := hR hs
      have HS := Lib.hid hs
      simp only [eachV]
      obtain ⟨hbx, hb1L, hne, hH⟩ := hR
      clear hs
      have cz := hbx.lt
      by_cases hn0 : (linesL t).length = 0
      · have HV := Lib.hid (readV_none HBIG.out HS.out hn0)
        have e0 : t.isEmpty = true := by
          cases t with
          | nil => rfl
          | cons a r => exact absurd (List.eq_nil_of_length_eq_zero hn0) (linesL_ne (by simp))
        clear hn0
        go_wp2_with fail
        refine bodyPost_ret (v := .tuple #[.agg #[.slice none 0 0, .slice none 0 0], .int .i64 0, .int .i64 9]) (by simp [results, Tryz.results39, go_sem, z0, z1, z2]) rfl ?_
        exact EARLY.out 0 9 _ HV.out (Below.setCell (p := ⟨w.heap.size, 1, none⟩) (Below.setCell (p := ⟨w.heap.size, 0, none⟩) hx3 (Nat.le_refl _) _) (Nat.le_refl _) _)
      · have HN0 := Lib.hid hn0
        have e0 : t.isEmpty = false := by
          cases t with
          | nil => exact absurd rfl hn0
          | cons a r => rfl
        obtain ⟨SA, TA, sc, td, kH, hh, hsc⟩ := hH.hist (lo := w.heap.size + 1) (by omega) (by omega)
        have hsz := read_sz t (by omega) sc hsc
        obtain ⟨p0, p1⟩ := kH.two_
        have pz := kH.lt
        clear hn0 hH hbx
        generalize hlT : segsT t (linesL t).length = S at *
        generalize hlA : attsR t (linesL t).length = T at *
        have HLT := Lib.hid hlT
        have HLA := Lib.hid hlA
        clear hlT hlA
        go_wp2_with fail
        refine (historyFault_any SA TA sc td _ S T _ hh hsz.hc hsz.h9 hsz.h8 hsz.h7 hsz.h6).mono ?_
        rintro e w4 ⟨rfl, hb⟩
        have kH := kH.below hb
        have kR4 := kR3.below hb
        have hh := hh.below hb
        have hx4 := below_up hx3 hb
        clear hb q0 q1 qz qf0 qf1 z0 z1 z2 p0 p1 pz
        obtain ⟨q0, q1⟩ := kR4.two_
        have qz := kR4.lt
        have qf0 := kR4.thaw 0
        have qf1 := kR4.thaw 1
        by_cases hf : histF S T = 0
        · have HV : Hid (readV t = (S, T, 0, 0)) := Lib.hid (by rw [← HLT.out, ← HLA.out] at hf ⊢; exact readV_ok HBIG.out HS.out HN0.out hf)
          rw [hf]
          clear hf
          obtain ⟨z0, z1, z2⟩ := kR4.two2 (.slice SA S.length sc) (.slice TA T.length td)
          obtain ⟨p0, p1⟩ := kH.two_
          have pz := kH.lt
          go_wp2_with fail
          refine bodyPost_ret (v := .tuple #[.agg #[.slice SA S.length sc, .slice TA T.length td], .int .i64 0, .int .i64 0]) (by simp [results, Tryz.results39, go_sem, z0, z1, z2]) rfl ?_
          have hfin := LATE.out SA TA sc td ((w4.setCell ⟨w.heap.size, 0, none⟩ (.slice SA S.length sc)).setCell ⟨w.heap.size, 1, none⟩ (.slice TA T.length td))
          refine hfin HV.out ?_ hsc (Below.setCell (p := ⟨w.heap.size, 1, none⟩) (Below.setCell (p := ⟨w.heap.size, 0, none⟩) hx4 (Nat.le_refl _) _) (Nat.le_refl _) _)
          exact (hh.two kR4 (Nat.lt_succ_self _) _ _).weak (Nat.le_succ _)
        · have HV : Hid (readV t = ([], [], 0, histF S T)) := Lib.hid (by rw [← HLT.out, ← HLA.out] at hf ⊢; exact readV_bad HBIG.out HS.out HN0.out hf)
          have df : (histF S T != 0) = true := by simpa using hf
          obtain ⟨z0, z1, z2⟩ := kR4.two2 (.slice none 0 0) (.slice none 0 0)
          clear hf
          generalize hff : histF S T = ff at *
          clear hff
          go_wp2_with fail
          refine bodyPost_ret (v := .tuple #[.agg #[.slice none 0 0, .slice none 0 0], .int .i64 0, .int .i64 ff]) (by simp [results, Tryz.results39, go_sem, z0, z1, z2]) rfl ?_
          exact EARLY.out 0 ff _ HV.out (Below.setCell (p := ⟨w.heap.size, 1, none⟩) (Below.setCell (p := ⟨w.heap.size, 0, none⟩) hx4 (Nat.le_refl _) _) (Nat.le_refl _) _)
end Go.Proofs.YtggnccafmadacaaGreatDoor
/- Plain laws of texts: numbers as words, words as lines, lines as a text. -/
namespace Go.Proofs.YtggnccafmadacaaGreatDoor
set_option linter.unusedVariables false
set_option linter.unusedSimpArgs false
open Go.RowKit Go.Sort

theorem decDigits_unsign (u : Nat) : unsign (Lib.decDigits u) = Lib.decDigits u := by
  have h := (decDigits_digs u).1
  cases hd : Lib.decDigits u with
  | nil => exact absurd hd (decDigits_ne u)
  | cons b r =>
    rw [hd] at h
    refine unsign_pos b r ?_
    rintro rfl
    have := (List.all_eq_true.1 h) 45 (by simp)
    revert this; decide
theorem valS_dec (u : Nat) : valS (Lib.decDigits u) = u := by
  have h := (decDigits_digs u)
  have hu := decDigits_unsign u
  have hh : (Lib.decDigits u).head? ≠ some 45 := by
    cases hd : Lib.decDigits u with
    | nil => simp
    | cons b r =>
      rw [hd] at h
      intro e
      have : b = 45 := by simpa using e
      subst this
      have := (List.all_eq_true.1 h.1) 45 (by simp)
      revert this; decide
  unfold valS
  rw [if_neg hh, hu, h.2]
theorem numB_dec (u m : Nat) (h : u < 10 ^ m) (hm : 1 ≤ m) : numB (Lib.decDigits u) m = true := by
  have hd := (decDigits_digs u).1
  have hu := decDigits_unsign u
  have hl : (Lib.decDigits u).length ≤ m := by rw [Lib.decDigits_length]; exact nDigits_le m u h hm
  have hp : 1 ≤ (Lib.decDigits u).length := by rw [Lib.decDigits_length]; exact Lib.nDigits_pos u
  have key := itoa_valS (Lib.decDigits u) (by rw [hu]; exact hd) (by rw [hu]; exact decDigits_ne u)
  rw [valS_dec, Lib.itoa_nonneg, decide_eq_true rfl] at key
  unfold numB
  rw [← key, hu, hd, decide_eq_true hl, decide_eq_true hp]; rfl
theorem numB_itoaN (n : Int) (h0 : 0 ≤ n) (h1 : n < 1000000000) : numB (Lib.itoa n) 9 = true ∧ numV (Lib.itoa n) 9 = n := by
  obtain ⟨u, rfl⟩ := Int.eq_ofNat_of_zero_le h0
  rw [Lib.itoa_nonneg]
  have hb := numB_dec u 9 (by have : (10 : Nat) ^ 9 = 1000000000 := by decide
                              omega) (by decide)
  refine ⟨hb, ?_⟩
  unfold numV
  rw [hb, if_pos rfl, valS_dec]
theorem itoa_numV {s : List UInt8} {m : Nat} (h : numB s m = true) : Lib.itoa (numV s m) = s := by
  have h' := h
  unfold numB at h
  simp only [Bool.and_eq_true, decide_eq_true_eq] at h
  have hn : unsign s ≠ [] := by intro e; rw [e] at h; simp at h
  have e := itoa_valS s h.1.1.1 hn
  rw [h.2] at e
  unfold numV
  rw [h', if_pos rfl]
  exact of_decide_eq_true e
/-- Which bytes a number has. -/
theorem dec_bytes (u : Nat) : ∀ b ∈ Lib.decDigits u, 48 ≤ b.toNat ∧ b.toNat ≤ 57 := by
  intro b hb
  have := (List.all_eq_true.1 (decDigits_digs u).1) b hb
  simpa using this
/-- Any number from 0 on is read as it was written. -/
theorem numB_itoaM (n : Int) (m : Nat) (hm : 1 ≤ m) (h0 : 0 ≤ n) (h1 : n < ((10 ^ m : Nat) : Int)) : numB (Lib.itoa n) m = true ∧ numV (Lib.itoa n) m = n := by
  obtain ⟨u, rfl⟩ := Int.eq_ofNat_of_zero_le h0
  rw [Lib.itoa_nonneg]
  have hb := numB_dec u m (by omega) hm
  refine ⟨hb, ?_⟩
  unfold numV
  rw [hb, if_pos rfl, valS_dec]
theorem itoa_free (n : Int) (h0 : 0 ≤ n) : (10 : UInt8) ∉ Lib.itoa n ∧ (32 : UInt8) ∉ Lib.itoa n ∧ Lib.itoa n ≠ [] := by
  obtain ⟨u, rfl⟩ := Int.eq_ofNat_of_zero_le h0
  rw [Lib.itoa_nonneg]
  refine ⟨fun h => ?_, fun h => ?_, decDigits_ne u⟩
  · have := dec_bytes u 10 h; revert this; decide
  · have := dec_bytes u 32 h; revert this; decide
theorem joinTail_free {c : UInt8} (hc : c ≠ 32) : ∀ {ws : List (List UInt8)}, (∀ x ∈ ws, c ∉ x) → c ∉ Lib.joinTail [32] ws
  | [], _ => by simp [Lib.joinTail]
  | x :: ws, h => by
    have ih := joinTail_free hc (ws := ws) (fun y hy => h y (by simp [hy]))
    have e : Lib.joinTail [32] (x :: ws) = 32 :: (x ++ Lib.joinTail [32] ws) := by simp [Lib.joinTail]
    rw [e]
    intro hm
    rcases List.mem_cons.1 hm with hm | hm
    · exact hc hm
    · rcases List.mem_append.1 hm with hm | hm
      · exact h x (by simp) hm
      · exact ih hm
theorem join_cut (c : UInt8) (l : List UInt8) : ∃ x ws, cutAt c l = x :: ws ∧ l = x ++ Lib.joinTail [c] ws := by
  induction l with
  | nil => exact ⟨[], [], rfl, rfl⟩
  | cons b l ih =>
    obtain ⟨x, ws, e1, e2⟩ := ih
    unfold cutAt
    by_cases h : b = c
    · subst h
      rw [if_pos rfl, e1]
      exact ⟨[], x :: ws, rfl, by
        have : Lib.joinTail [b] (x :: ws) = b :: (x ++ Lib.joinTail [b] ws) := by simp [Lib.joinTail]
        rw [this, ← e2]; rfl⟩
    · rw [if_neg h, e1]
      exact ⟨b :: x, ws, rfl, by rw [List.cons_append, ← e2]⟩
/-- A text whose last line is ended is its lines. -/
theorem text_lines (t : List UInt8) (h : endsB t = true) : t = (linesL t).flatMap (· ++ [10]) := by
  induction hk : t.length using Nat.strongRecOn generalizing t with
  | _ n ih =>
    by_cases h0 : t = []
    · subst h0; rfl
    · rcases split_first 10 t with hn | ⟨a, r, rfl, hn⟩
      · rw [(lines_last t hn h0).2] at h; cases h
      · obtain ⟨e1, e2⟩ := lines_cons a r hn
        rw [e1, List.flatMap_cons, ← ih r.length (by subst hk; simp; omega) r (by rw [← e2]; exact h) rfl]
        simp
theorem lines_text : ∀ (ls : List (List UInt8)), (∀ x ∈ ls, (10 : UInt8) ∉ x) → linesL (ls.flatMap (· ++ [10])) = ls ∧ endsB (ls.flatMap (· ++ [10])) = true
  | [], _ => ⟨rfl, rfl⟩
  | x :: ls, h => by
    obtain ⟨i1, i2⟩ := lines_text ls (fun y hy => h y (by simp [hy]))
    have e : (x :: ls).flatMap (· ++ [10]) = x ++ 10 :: ls.flatMap (· ++ [10]) := by simp
    obtain ⟨e1, e2⟩ := lines_cons x (ls.flatMap (· ++ [10])) (h x (by simp))
    rw [e, e1, e2, i1, i2]; exact ⟨rfl, rfl⟩
end Go.Proofs.YtggnccafmadacaaGreatDoor
/- Plain laws: a history that is written is read again; what is read is written so. -/
namespace Go.Proofs.YtggnccafmadacaaGreatDoor
set_option linter.unusedVariables false
set_option linter.unusedSimpArgs false
open Go.RowKit Go.Sort

theorem spT_free (n : Int) (h0 : 0 ≤ n) : (10 : UInt8) ∉ spT n ∧ (32 : UInt8) ∉ spT n ∧ spT n ≠ [] := by
  unfold spT
  split
  · decide
  · obtain ⟨u, rfl⟩ := Int.eq_ofNat_of_zero_le h0
    rw [Lib.itoa_nonneg]
    refine ⟨fun h => ?_, fun h => ?_, decDigits_ne u⟩
    · have := dec_bytes u 10 h; revert this; decide
    · have := dec_bytes u 32 h; revert this; decide
theorem spT_read (n : Int) (h0 : 0 ≤ n) (h1 : n ≤ 864000000) : spOK (spT n) = true ∧ spX (spT n) = n := by
  unfold spT
  split
  · rename_i h; subst h; exact spOK_dash
  · rename_i h
    obtain ⟨hb, hv⟩ := numB_itoaN n h0 (by omega)
    have hne : Lib.itoa n ≠ [45] := by
      intro e
      rw [e] at hb; revert hb; decide
    obtain ⟨e1, e2⟩ := spOK_num hne
    rw [e1, e2, hb, hv]
    exact ⟨by simp [h], rfl⟩
theorem spT_spX {s : List UInt8} (h : spOK s = true) : spT (spX s) = s := by
  by_cases hs : s = [45]
  · subst hs; rfl
  · obtain ⟨e1, e2⟩ := spOK_num hs
    rw [e1, Bool.and_eq_true, decide_eq_true_eq] at h
    unfold spT
    rw [e2, if_neg h.2, itoa_numV h.1]

/-! ### words and lines -/
theorem spsT_tail (l : List Int) : ∀ k, k ≤ l.length → spsT l k = Lib.joinTail [32] ((l.take k).map spT)
  | 0, _ => rfl
  | k + 1, hk => by
    rw [spsT_next hk, spsT_tail l k (by omega), List.take_succ_eq_append_getElem hk, List.map_append]
    have e : ∀ (a b : List (List UInt8)), Lib.joinTail [32] (a ++ b) = Lib.joinTail [32] a ++ Lib.joinTail [32] b := by
      intro a b
      unfold Lib.joinTail
      simp
    rw [e]
    simp [Lib.joinTail]
/-- An attempt's line. -/
def attLn (a : Att) : List UInt8 := attW ++ Lib.joinTail [32] (Lib.itoa a.1 :: a.2.map spT)
theorem attT_ln (a : Att) : attT a = attLn a ++ [10] := by
  unfold attT attLn
  rw [spsT_tail a.2 a.2.length (Nat.le_refl _), List.take_length]
  simp [Lib.joinTail]
def headLn (segs : List (List UInt8)) : List UInt8 := segW ++ Lib.joinTail [32] segs
theorem headT_ln {segs : List (List UInt8)} (h : segs ≠ []) : headT segs = headLn segs ++ [10] := by
  cases segs with
  | nil => exact absurd rfl h
  | cons s segs =>
    unfold headT headLn
    rw [Lib.join_cons]
    simp [Lib.joinTail]
theorem key_free {s : List UInt8} (h : keyB s = true) : (10 : UInt8) ∉ s ∧ (32 : UInt8) ∉ s ∧ s ≠ [] := by
  have hl := keyB_le h
  unfold keyB at h
  simp only [Bool.and_eq_true] at h
  have ha := List.all_eq_true.1 h.2
  refine ⟨fun hm => ?_, fun hm => ?_, fun e => by rw [e] at hl; simp at hl⟩
  · have := ha 10 hm; revert this; decide
  · have := ha 32 hm; revert this; decide
theorem attsT_flat (atts : List Att) : ∀ k, k ≤ atts.length → attsT atts k = ((atts.take k).map attLn).flatMap (· ++ [10])
  | 0, _ => rfl
  | k + 1, hk => by
    rw [attsT_next hk, attsT_flat atts k (by omega), attT_ln, List.take_succ_eq_append_getElem hk, List.map_append, List.flatMap_append]
    congr 1
    simp
theorem histT_flat {segs : List (List UInt8)} {atts : List Att} (h : segs ≠ []) : histT segs atts = (headLn segs :: atts.map attLn).flatMap (· ++ [10]) := by
  unfold histT
  rw [headT_ln h, attsT_flat atts atts.length (Nat.le_refl _), List.take_length]
  simp
/-- What is written of a right history is read as it was. -/
theorem hist_comes {segs : List (List UInt8)} {atts : List Att} (h : HistOk segs atts) (hl : (histT segs atts).length ≤ 200000) : readV (histT segs atts) = (segs, atts, 0, 0) := by
  have hne : segs ≠ [] := by intro e; have := h.n1; rw [e] at this; simp at this
  have hkey : ∀ s ∈ segs, keyB s = true := fun s hs => by
    obtain ⟨i, hi, rfl⟩ := List.mem_iff_getElem.1 hs
    exact h.key i hi
  have hsp : ∀ a ∈ atts, ∀ n ∈ a.2, 0 ≤ n ∧ n ≤ 864000000 := fun a ha n hn => by
    obtain ⟨i, hi, rfl⟩ := List.mem_iff_getElem.1 ha
    obtain ⟨j, hj, rfl⟩ := List.mem_iff_getElem.1 hn
    exact (h.spl i hi).bd j hj
  have hno : ∀ a ∈ atts, 1 ≤ a.1 ∧ a.1 ≤ 1000000 := fun a ha => by
    obtain ⟨i, hi, rfl⟩ := List.mem_iff_getElem.1 ha
    exact h.no i hi
  have ifree : ∀ n : Int, 0 ≤ n → (10 : UInt8) ∉ Lib.itoa n ∧ (32 : UInt8) ∉ Lib.itoa n ∧ Lib.itoa n ≠ [] := fun n h0 => by
    obtain ⟨u, rfl⟩ := Int.eq_ofNat_of_zero_le h0
    rw [Lib.itoa_nonneg]
    refine ⟨fun h => ?_, fun h => ?_, decDigits_ne u⟩
    · have := dec_bytes u 10 h; revert this; decide
    · have := dec_bytes u 32 h; revert this; decide
  have wf : ∀ a ∈ atts, ∀ x ∈ attW :: Lib.itoa a.1 :: a.2.map spT, (10 : UInt8) ∉ x ∧ (32 : UInt8) ∉ x ∧ x ≠ [] := by
    intro a ha x hx
    rcases List.mem_cons.1 hx with rfl | hx
    · decide
    · rcases List.mem_cons.1 hx with rfl | hx
      · exact ifree a.1 (by have := hno a ha; omega)
      · obtain ⟨n, hn, rfl⟩ := List.mem_map.1 hx
        exact spT_free n (hsp a ha n hn).1
  have hfree : ∀ x ∈ headLn segs :: atts.map attLn, (10 : UInt8) ∉ x := by
    intro x hx
    rcases List.mem_cons.1 hx with rfl | hx
    · unfold headLn
      intro hm
      rcases List.mem_append.1 hm with hm | hm
      · revert hm; decide
      · exact joinTail_free (by decide) (fun s hs => (key_free (hkey s hs)).1) hm
    · obtain ⟨a, ha, rfl⟩ := List.mem_map.1 hx
      unfold attLn
      intro hm
      rcases List.mem_append.1 hm with hm | hm
      · revert hm; decide
      · exact joinTail_free (by decide) (fun s hs => (wf a ha s (by simp [hs])).1) hm
  obtain ⟨L1, L2⟩ := lines_text _ hfree
  rw [← histT_flat hne] at L1 L2
  have hn : (linesL (histT segs atts)).length = atts.length + 1 := by rw [L1]; simp
  have w0 : wordsT (histT segs atts) 0 = segW :: segs := by
    unfold wordsT
    rw [L1]
    show cutAt 32 (headLn segs) = _
    exact cutAt_join 32 segW segs (fun y hy => by
      rcases List.mem_cons.1 hy with rfl | hy
      · decide
      · exact (key_free (hkey y hy)).2.1)
  have wk : ∀ j (hj : j < atts.length), wordsT (histT segs atts) (j + 1) = attW :: Lib.itoa atts[j].1 :: atts[j].2.map spT := by
    intro j hj
    unfold wordsT
    rw [L1]
    have e : (headLn segs :: atts.map attLn).getD (j + 1) [] = attLn atts[j] := by simp [hj]
    rw [e]
    exact cutAt_join 32 attW _ (fun y hy => (wf atts[j] (List.getElem_mem _) y hy).2.1)
  have full : ∀ ws : List (List UInt8), (∀ x ∈ ws, x ≠ []) → fullW ws = true := fun ws hw => by
    rw [fullW, List.all_eq_true]
    intro x hx
    have := hw x hx
    cases x with | nil => exact absurd rfl this | cons a b => rfl
  have rdk : ∀ j (hj : j < atts.length), attB (attW :: Lib.itoa atts[j].1 :: atts[j].2.map spT) = true ∧ attR (attW :: Lib.itoa atts[j].1 :: atts[j].2.map spT) = atts[j] := by
    intro j hj
    have ha := hno atts[j] (List.getElem_mem _)
    obtain ⟨n1, n2⟩ := numB_itoaN atts[j].1 (by omega) (by omega)
    have hd : attHd (attW :: Lib.itoa atts[j].1 :: atts[j].2.map spT) = true := by unfold attHd; simp
    have hm : (atts[j].2.map spT).all spOK = true := by
      rw [List.all_eq_true]
      intro x hx
      obtain ⟨n, hn, rfl⟩ := List.mem_map.1 hx
      have := hsp _ (List.getElem_mem hj) n hn
      exact (spT_read n this.1 this.2).1
    have hx : (atts[j].2.map spT).map spX = atts[j].2 := by
      rw [List.map_map]
      have : ∀ n ∈ atts[j].2, (spX ∘ spT) n = n := fun n hn => by
        have := hsp _ (List.getElem_mem hj) n hn
        exact (spT_read n this.1 this.2).2
      rw [List.map_congr_left this, List.map_id']
    constructor
    · unfold attB
      rw [hd]
      simp only [Bool.true_and, List.getD_cons_succ, List.getD_cons_zero, List.drop_succ_cons, List.drop_zero]
      rw [n1, hm]; rfl
    · unfold attR
      rw [hd, if_pos rfl]
      simp only [List.getD_cons_succ, List.getD_cons_zero, List.drop_succ_cons, List.drop_zero]
      rw [n2, hx]
  have ok : ∀ k, k < (linesL (histT segs atts)).length → okH (histT segs atts) k = true := by
    intro k hk
    cases k with
    | zero =>
      rw [okH_zero rfl, w0, full _ (fun x hx => by
        rcases List.mem_cons.1 hx with rfl | hx
        · decide
        · exact (key_free (hkey x hx)).2.2)]
      simp
    | succ j =>
      have hj : j < atts.length := by omega
      rw [okH_pos (by omega), wk j hj, full _ (fun x hx => (wf atts[j] (List.getElem_mem _) x hx).2.2), (rdk j hj).1]; rfl
  have hs : stopL (histT segs atts) (okH (histT segs atts)) = none := stopL_none (fun k hk => by unfold badL; rw [L2, ok k hk]; rfl)
  have e1 : segsT (histT segs atts) (linesL (histT segs atts)).length = segs := by
    unfold segsT
    rw [if_neg (by omega), w0]; rfl
  have e2 : attsR (histT segs atts) (linesL (histT segs atts)).length = atts := by
    unfold attsR
    rw [hn, Nat.add_sub_cancel]
    apply List.ext_getElem
    · simp
    · intro j h1 h2
      simp only [List.getElem_map, List.getElem_range]
      rw [wk j h2, (rdk j h2).2]
  rw [readV_ok (by omega) hs (by omega) (by rw [e1, e2]; exact histF_zero h), e1, e2]
/-- What is read without an error is what would be written. -/
theorem text_comes {t : List UInt8} (h : (readV t).2.2.2 = 0) : HistOk (readV t).1 (readV t).2.1 ∧ histT (readV t).1 (readV t).2.1 = t ∧ t.length ≤ 200000 := by
  by_cases hb : 200000 < t.length
  · rw [readV_large hb] at h; cases h
  cases hs : stopL t (okH t) with
  | some i => rw [readV_stop hb hs] at h; cases h
  | none =>
    by_cases h0 : (linesL t).length = 0
    · rw [readV_none hb hs h0] at h; cases h
    by_cases hf : histF (segsT t (linesL t).length) (attsR t (linesL t).length) = 0
    · rw [readV_ok hb hs h0 hf]
      have hok := histF_ok hf
      refine ⟨hok, ?_, by omega⟩
      have hall : ∀ k, k < (linesL t).length → badL t (okH t) k = false := by
        intro k hk
        unfold stopL at hs
        rw [List.find?_eq_none] at hs
        have := hs k (by simpa using hk)
        simpa using this
      have hend : endsB t = true := by
        have := hall ((linesL t).length - 1) (by omega)
        unfold badL at this
        rw [Bool.or_eq_false_iff, decide_eq_true (by omega), Bool.and_true] at this
        simpa using this.1
      have hgood : ∀ k, k < (linesL t).length → okH t k = true := by
        intro k hk
        have := hall k hk
        unfold badL at this
        rw [Bool.or_eq_false_iff] at this
        simpa using this.2
      have hne : segsT t (linesL t).length ≠ [] := by intro e; have := hok.n1; rw [e] at this; simp at this
      rw [histT_flat hne]
      conv => rhs; rw [text_lines t hend]
      congr 1
      apply List.ext_getElem
      · simp only [List.length_cons, List.length_map, attsR_len]; omega
      · intro k h1 h2
        have hw := wordsT_at h2
        have hg := hgood k h2
        obtain ⟨x, ws, e1, e2⟩ := join_cut 32 (linesL t)[k]
        rw [e1] at hw
        cases k with
        | zero =>
          simp only [List.getElem_cons_zero]
          rw [okH_zero rfl, hw, Bool.and_eq_true, decide_eq_true_eq] at hg
          have hx : x = segW := by simpa using hg.2
          unfold headLn segsT
          rw [if_neg h0, hw, e2, hx]; rfl
        | succ j =>
          simp only [List.getElem_cons_succ, List.getElem_map]
          have ea : (attsR t (linesL t).length)[j]'(by rw [attsR_len]; omega) = attR (wordsT t (j + 1)) := by simp [attsR]
          rw [ea, hw]
          rw [okH_pos (by omega), hw, Bool.and_eq_true] at hg
          have hB := hg.2
          unfold attB at hB
          rw [Bool.and_eq_true, Bool.and_eq_true] at hB
          obtain ⟨hd, hn, hsp⟩ := hB
          have hd' := hd
          unfold attHd at hd'
          rw [Bool.and_eq_true, decide_eq_true_eq, decide_eq_true_eq] at hd'
          have hx : x = attW := by simpa using hd'.2
          cases ws with
          | nil => simp at hd'
          | cons w1 r =>
            simp only [List.getD_cons_succ, List.getD_cons_zero] at hn
            simp only [List.drop_succ_cons, List.drop_zero] at hsp
            have er : attR (x :: w1 :: r) = (numV w1 9, r.map spX) := by unfold attR; rw [hd]; rfl
            have em : (r.map spX).map spT = r := by
              rw [List.map_map]
              have : ∀ y ∈ r, (spT ∘ spX) y = y := fun y hy => spT_spX ((List.all_eq_true.1 hsp) y hy)
              rw [List.map_congr_left this, List.map_id']
            rw [er]
            unfold attLn
            rw [itoa_numV hn, em, e2, hx]
    · rw [readV_bad hb hs h0 hf] at h
      exact absurd h hf
end Go.Proofs.YtggnccafmadacaaGreatDoor
