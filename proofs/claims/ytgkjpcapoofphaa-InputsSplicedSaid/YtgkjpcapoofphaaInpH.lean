/- The walks of Splice, SplicedOf, Differ, DifferOf and slices.Clone over pieces. -/
import Derived.Test.YtgkjpcapoofphaaInpG
namespace Go.Proofs.Ytgkjpcapoofphaa
open Go.RowKit

/-- The first frames of an input, 0 where it has none, and all of another one. -/
def firsts (xs : List Int) (n : Nat) : List Int := (List.range n).map fun i : Nat => heldL xs (i : Int)
theorem firsts_succ (xs : List Int) (n : Nat) : firsts xs (n + 1) = firsts xs n ++ [heldL xs (n : Int)] := by simp [firsts, List.range_succ]
theorem firsts_len (xs : List Int) (n : Nat) : (firsts xs n).length = n := by simp [firsts]
theorem firsts_eq (xs : List Int) (n : Nat) : firsts xs n = xs.take n ++ List.replicate (n - xs.length) 0 := by
  induction n with
  | zero => simp [firsts]
  | succ n ih =>
    rw [firsts_succ, ih]
    rcases Nat.lt_or_ge n xs.length with h | h
    · rw [heldL_at xs n h, List.take_succ_eq_append_getElem h]
      have e1 : n - xs.length = 0 := by omega
      have e2 : n + 1 - xs.length = 0 := by omega
      simp [e1, e2]
    · rw [heldL_out xs n (by omega), List.take_of_length_le (by omega), List.take_of_length_le (by omega), List.append_assoc]
      have e1 : n + 1 - xs.length = (n - xs.length) + 1 := by omega
      rw [e1, List.replicate_succ']
def spliced (xs ys : List Int) (n : Nat) : List Int := firsts xs n ++ ys
def sqE (xs ys : List Int) (n : Nat) : Int := if 200000 < n + ys.length then 2 else if 5000 < (foldM (spliced xs ys n)).length then 2 else 0
def sqR (xs ys : List Int) (n : Nat) : List (Int × Int) := if sqE xs ys n = 0 then foldM (spliced xs ys n) else []
theorem sqE_long {xs ys : List Int} {n : Nat} (h : 200000 < n + ys.length) : sqE xs ys n = 2 := by simp [sqE, h]
theorem sqE_many {xs ys : List Int} {n : Nat} (h : 5000 < (foldM (spliced xs ys n)).length) : sqE xs ys n = 2 := by unfold sqE; split <;> simp [h]
theorem sqE_ok {xs ys : List Int} {n : Nat} (h : ¬ 200000 < n + ys.length) (h' : ¬ 5000 < (foldM (spliced xs ys n)).length) : sqE xs ys n = 0 := by simp [sqE, h, h']
theorem sqR_ok {xs ys : List Int} {n : Nat} (h : sqE xs ys n = 0) : sqR xs ys n = foldM (spliced xs ys n) := by simp [sqR, h]
theorem sqR_bad {xs ys : List Int} {n : Nat} (h : sqE xs ys n = 2) : sqR xs ys n = [] := by simp [sqR, h]

set_option maxHeartbeats 1000000 in
theorem splicedOf_any (A B : Option Addr) (c d lo lo' : Nat) (ps qs : List (Int × Int)) (n : Nat) (w : World) (hr : Row w lo 2 A ps.length (prs ps)) (hr' : Row w lo' 2 B qs.length (prs qs)) (hl : ps.length ≤ 1000000000) (hl' : qs.length ≤ 1000000000)
    (hb : ∀ p ∈ ps, 0 ≤ p.2) (hb' : ∀ p ∈ qs, 0 ≤ p.2) (hs : psum ps ≤ 1000000000) (hs' : psum qs ≤ 1000000000) (hn : n ≤ 200000) :
    Calls Try.prog 54 #[.slice A ps.length c, .slice B qs.length d, .int .i64 n] w fun e w' => ∃ A' c', e = .returned (.tuple #[.slice A' (sqR (unf ps) (unf qs) n).length c', .int .i64 (sqE (unf ps) (unf qs) n)]) ∧ Row w' w.heap.size 2 A' (sqR (unf ps) (unf qs) n).length (prs (sqR (unf ps) (unf qs) n)) ∧ Below w.heap.size w w' := by
  have hul : (unf ps).length ≤ 1000000000 := by have := unf_len ps hb; omega
  have hul' : (unf qs).length ≤ 1000000000 := by have := unf_len qs hb'; omega
  go_enter Try.func54, Try.ntmps54
  go_wp2_with fail
  refine (unfolded_any _ _ _ ps _ hr hl hb hs).mono ?_
  rintro e w1 ⟨A1, c1, rfl, hown1, hb1⟩
  go_wp2_with fail
  refine (unfolded_any _ _ _ qs _ (hr'.below hb1) hl' hb' hs').mono ?_
  rintro e w2 ⟨A2, c2, rfl, hown2, hb2⟩
  have hbx := below_up hb1 hb2
  have hrow1 := (Row.of_own hown1).below hb2
  have hrow2 := Row.of_own hown2
  clear hown1 hown2 hb hb' hb1
  generalize hxs : unf ps = xs at *
  generalize hys : unf qs = ys at *
  have HXS := Lib.hid hxs
  have HYS := Lib.hid hys
  clear hxs hys
  by_cases h1 : 200000 < n + ys.length
  · have HE := Lib.hid (sqE_long (xs := xs) h1)
    go_wp2_with fail
    go_ret2
    rw [HXS.out, HYS.out, sqR_bad HE.out, HE.out]
    exact ⟨none, 0, rfl, Row.none_ _ _ _ _, hbx⟩
  · go_wp2_with fail
    go_loopw [10, 23] (fun v i wr => ∃ (k : Nat) (A' : Option Addr) (c' : Nat), k ≤ n ∧ i = .int .i64 k ∧ v = .slice A' (firsts xs k).length c' ∧ wr.ownsRow w2.heap.size 3 1 (.slice A' (firsts xs k).length c') (firsts xs k).length (ints (firsts xs k)) ∧ Below w2.heap.size w2 wr) (fun _ i _ => n - (intOf i).toNat)
    case atStart => exact ⟨0, none, 0, Nat.zero_le _, rfl, rfl, World.ownsRow_nil _ _ _ _, Below.refl _ _⟩
    case round =>
      obtain ⟨k, A', c', hk, rfl, rfl, hown, hbw⟩ := hrel
      have hfl := firsts_len xs k
      have hz := hbw.size
      by_cases hlt : k < n
      · have HT := Lib.hid (firsts_succ xs k)
        have hfl2 : (firsts xs k).length ≤ 200000 := by omega
        clear hfl
        go_wp2_with fail
        refine (heldAt_any _ _ _ xs (k : Int) _ (hrow1.below hbw) hul).mono ?_
        rintro e w3 ⟨rfl, rfl⟩
        generalize firsts xs k = o at *
        generalize heldL xs (k : Int) = x at *
        go_wp2_with (at_builtin; go_must (refine wpList_app (lo := w2.heap.size) (base := w2.heap.size) (n := o.length) (xs := ints o) _ _ rfl _ _ ty_ints rfl (by repeat (first | exact hown | refine World.ownsRow.alloc ?_ _ | refine own_drewN ?_ _ | refine World.ownsRow.drew ?_)) rfl (by first | exact row_new' _ (by first | rfl | simp) (by first | omega | (simp; omega)) rfl | exact row_newN _ _ (by first | rfl | simp) (by first | omega | (simp; omega)) rfl | exact row_newD _ (by first | rfl | simp) (by first | omega | (simp; omega)) rfl) rfl rfl (by omega) (by omega) (by first | omega | (simp; omega)) ?_))
        intro A5 c5 w5 hown5 hg5 _
        go_wp2_with fail
        go_roundw
        case rel => exact ⟨k + 1, A5, c5, by omega, by go_num, by rw [HT.out]; simp, by rw [HT.out, ints_app, List.length_append]; exact hown5, below_app hown (by repeat (first | exact hbw | refine Below.alloc ?_ (by first | omega | (simp; omega)) _ | refine below_drewN' ?_ _ | refine Below.drew ?_)) hg5 (Nat.le_refl _) (by simp; omega)⟩
        case measure => simp [intOf]; omega
      · have hkn : k = n := by omega
        subst hkn
        have hfl2 : (firsts xs k).length ≤ 200000 := by omega
        have HSP : Hid (spliced xs ys k = firsts xs k ++ ys) := Lib.hid rfl
        have HSL : Hid ((spliced xs ys k).length = k + ys.length) := Lib.hid (by rw [HSP.out, List.length_append, hfl])
        have hf0 := foldM_len (spliced xs ys k)
        have hb2x := below_up hbx hbw
        clear hfl
        have HOK : Hid (∀ m, ¬ 5000 < m → (foldM (spliced xs ys k)).length = m → sqE xs ys k = 0) := Lib.hid (fun m h2 h3 => sqE_ok h1 (by omega))
        have HMANY : Hid (5000 < (foldM (spliced xs ys k)).length → sqE xs ys k = 2) := Lib.hid sqE_many
        generalize firsts xs k = o at *
        go_wp2_with (at_builtin; go_must (refine wpList_app _ _ rfl _ _ ty_ints rfl hown rfl (hrow2.below hbw) rfl (ints_all _) (by omega) (by omega) hz ?_))
        intro A5 c5 w5 hown5 hg5 _
        have hb5 : Below w2.heap.size w2 w5 := below_app hown hbw hg5 (Nat.le_refl _) hz
        have hrow5 : Row w5 w2.heap.size 1 A5 (spliced xs ys k).length (ints (spliced xs ys k)) := by
          rw [HSP.out, ints_app, List.length_append]; exact Row.of_own hown5
        have HLN : Hid (o.length + ys.length = (spliced xs ys k).length) := Lib.hid (by rw [HSP.out, List.length_append])
        have hsl : (spliced xs ys k).length ≤ 200000 := by rw [HSL.out]; omega
        rw [HLN.out]
        clear hown5 HSP HLN HSL
        generalize hsp : spliced xs ys k = sp at *
        have HSPX := Lib.hid hsp
        clear hsp
        go_wp2_with fail
        refine (folded_any _ _ _ sp _ hrow5 (by omega)).mono ?_
        rintro e w6 ⟨A6, c6, rfl, hown6, hb6⟩
        have hb56 := below_up (below_up hbx hb5) hb6
        by_cases h2 : 5000 < (foldM sp).length
        · have HE := Lib.hid (HMANY.out h2)
          go_wp2_with fail
          go_ret2
          rw [HXS.out, HYS.out, sqR_bad HE.out, HE.out]
          exact ⟨none, 0, rfl, Row.none_ _ _ _ _, hb56⟩
        · have HE := Lib.hid (HOK.out _ h2 rfl)
          go_wp2_with fail
          go_ret2
          rw [HXS.out, HYS.out, sqR_ok HE.out, HE.out, HSPX.out]
          exact ⟨A6, c6, rfl, (Row.of_own hown6).weak (by have := (below_up hbx hb5).size; omega), hb56⟩
end Go.Proofs.Ytgkjpcapoofphaa
