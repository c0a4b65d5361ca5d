/- Texts of this seat, laid together: SgI. -/
import Derived.Handy
import Derived.Test.YtagghmfhfboejaaGreatDoorBu22
/- The walk of Best at a right history; plain: the best and the sum of one attempt. -/
namespace Go.Proofs.YtagghmfhfboejaaGreatDoor
set_option linter.unusedVariables false
set_option linter.unusedSimpArgs false
open Go.RowKit

def bT (n : Nat) (atts : List Att) : Int := if bI n atts atts.length < 0 then 0 else lastT (atts.getD (bI n atts atts.length).toNat (0, []))
def bN (n : Nat) (atts : List Att) : Int := if bI n atts atts.length < 0 then 0 else (atts.getD (bI n atts atts.length).toNat (0, [])).1
theorem bT_none {n : Nat} {atts : List Att} (h : bI n atts atts.length = -1) : bT n atts = 0 ∧ bN n atts = 0 ∧ decide (0 ≤ bI n atts atts.length) = false := by simp [bT, bN, h]
theorem bT_at {n : Nat} {atts : List Att} {j : Nat} (h : bI n atts atts.length = j) (hj : j < atts.length) (hn : atts[j].2.length = n) (h1 : n - 1 < n) : bT n atts = atts[j].2[n - 1]'(by omega) ∧ bN n atts = atts[j].1 ∧ decide (0 ≤ bI n atts atts.length) = true := by
  have hneg : ¬ ((j : Int) < 0) := by omega
  have e : atts.getD j (0, []) = atts[j] := by rw [List.getD_eq_getElem?_getD, List.getElem?_eq_getElem hj]; rfl
  refine ⟨?_, ?_, by rw [h]; simp⟩
  · unfold bT; rw [h, if_neg hneg, Int.toNat_natCast, e]; unfold lastT; simp only [List.getD_eq_getElem?_getD]; simp only [hn]; rw [List.getElem?_eq_getElem (by omega)]; rfl
  · unfold bN; rw [h, if_neg hneg, Int.toNat_natCast, e]
set_option maxHeartbeats 1000000 in
theorem Best_ok (SA TA : Option Addr) (c d lo : Nat) (segs : List (List UInt8)) (atts : List Att) (w : World) (hh : Hist w lo SA TA segs atts) (hc : segs.length ≤ c) (hok : HistOk segs atts) :
    Calls Tryz.prog 14 #[.agg #[.slice SA segs.length c, .slice TA atts.length d]] w fun e w' => e = .returned (.tuple #[.int .i64 (bT segs.length atts), .int .i64 (bN segs.length atts), .bool (decide (0 ≤ bI segs.length atts atts.length)), .int .i64 0]) ∧ Below w.heap.size w w' := by
  have HO := Lib.hid hok
  have n1 := hok.n1
  have n2 := hok.n2
  have hm := hok.m
  clear hok
  go_enter Tryz.func14, Tryz.ntmps14
  go_wp2_with fail
  have hb0 : Below w.heap.size w (w.alloc (.cells #[.slice SA segs.length c, .slice TA atts.length d] 29)) := (Below.refl _ _).alloc (Nat.le_refl _) _
  have hk0 : Blk (w.alloc (.cells #[.slice SA segs.length c, .slice TA atts.length d] 29)) w.heap.size 29 #[.slice SA segs.length c, .slice TA atts.length d] := Blk.new _ _ _
  have hh0 := hh.alloc (.cells #[.slice SA segs.length c, .slice TA atts.length d] 29)
  generalize w.alloc (.cells #[.slice SA segs.length c, .slice TA atts.length d] 29) = w0 at *
  refine (checkHistory_ok _ _ _ _ _ segs atts _ hh0 hc HO.out).mono ?_
  rintro e w1 ⟨rfl, hb1⟩
  have hh1 := hh0.below hb1
  have hk1 := hk0.below hb1
  have hx1 := hb0.trans (hb1.mono hb0.size)
  clear hb1 hb0 hh0 hk0 hh
  go_wp2_with fail
  refine (best_ok _ _ _ _ _ _ segs atts _ hk1 hh1 n1 n2 (by omega)).mono ?_
  rintro e w2 ⟨rfl, hb2⟩
  have hh2 := hh1.below hb2
  have hk2 := hk1.below hb2
  have hx2 := hx1.trans (hb2.mono hx1.size)
  clear hb2 hx1 hh1 hk1
  rcases bI_inv segs.length atts atts.length (Nat.le_refl _) with h | ⟨j, hj, h, hjk, hn⟩
  · obtain ⟨e1, e2, e3⟩ := bT_none h
    have E1 := Lib.hid e1
    have E2 := Lib.hid e2
    have E3 := Lib.hid e3
    rw [h]
    clear e1 e2 e3 h
    go_wp2_with fail
    go_returns
    exact ⟨by rw [E1.out, E2.out, E3.out], hx2⟩
  · obtain ⟨e1, e2, e3⟩ := bT_at h hj hn (by omega)
    rw [h]
    obtain ⟨tb, tO, B, cc, rfl, ztb, t0, t1, hrB⟩ := hh2.att hj
    have c1 : w2.cell? ⟨w.heap.size, 1, none⟩ = some (.slice (some ⟨tb, tO, none⟩) atts.length d) := by simpa using hk2.cell 1
    have zh := hk2.lt
    obtain ⟨l, hl⟩ : ∃ l, segs.length - 1 = l := ⟨_, rfl⟩
    have hl1 : l < atts[j].2.length := by omega
    obtain ⟨b1, o1, rfl, _, zb, x0⟩ := hrB.int_at hl1
    have ex : atts[j].2[segs.length - 1]'(by omega) = atts[j].2[l] := by congr 1
    rw [ex] at e1
    have E1 := Lib.hid e1
    have E2 := Lib.hid e2
    have E3 := Lib.hid e3
    clear ex e1 e2 e3 h hrB
    generalize atts[j].2[l] = x at *
    rw [hn] at t1
    generalize atts[j].1 = no at *
    have q0 : ¬ ((j : Int) < 0) := by omega
    have wl : IntKind.i64.wrap ((segs.length : Int) - 1) = (l : Int) := by rw [IntWalk.i64_in _ ⟨by omega, by omega⟩]; omega
    have hln : l < segs.length := by omega
    clear hn hl hl1 hh2
    go_wp2_with fail
    go_quiet (fail)
    go_wp2_with fail
    go_returns
    exact ⟨by rw [E1.out, E2.out, E3.out], below_drewN' (hx2.alloc (Nat.le_trans (Nat.le_refl _) hx2.size) _) _⟩

/-! ### one attempt, all of whose splits are known -/
def pv (l : List Int) (k : Nat) : Int := if k = 0 then 0 else l.getD (k - 1) 0
def chS (l : List Int) (i : Nat) : Stp := ((i : Int), (i : Int) + 1, l.getD i 0 - pv l i)
theorem stS_chain {l : List Int} (h : ∀ x ∈ l, x ≠ 0) : ∀ k, k ≤ l.length → stS l k = ((k : Int), pv l k, (List.range k).map (chS l)) := by
  intro k
  induction k with
  | zero => intro _; rfl
  | succ k ih =>
    intro hk
    have hlt : k < l.length := by omega
    have e : l.getD k 0 = l[k] := by rw [List.getD_eq_getElem?_getD, List.getElem?_eq_getElem hlt]; rfl
    rw [stS_yes l k hlt (h _ (List.getElem_mem _)), ih (by omega), List.range_succ, List.map_append]
    simp only [chS, pv, Nat.add_sub_cancel, List.map_cons, List.map_nil, e]
    simp
theorem cands_chain (V : Nat → Int) (l : List Int) (i : Nat) (hV : 0 ≤ V (i + 1)) : ∀ k, cands V ((List.range k).map (chS l)) i = if i < k then [l.getD i 0 - pv l i + V (i + 1)] else [] := by
  intro k
  induction k with
  | zero => rfl
  | succ k ih =>
    rw [List.range_succ, List.map_append, List.map_cons, List.map_nil, cands_snoc, ih]
    by_cases hik : i = k
    · subst hik
      have e : ((i : Int) + 1).toNat = i + 1 := by omega
      have : 0 ≤ V ((chS l i).2.1).toNat := by simp only [chS, e]; exact hV
      rw [if_neg (Nat.lt_irrefl _), if_pos (Nat.lt_succ_self _), if_pos ⟨rfl, this⟩]
      simp only [chS, e, List.nil_append]
    · have h1 : ¬ ((chS l k).1 = (i : Int) ∧ 0 ≤ V (chS l k).2.1.toNat) := fun h => hik (by have := h.1; simp only [chS] at this; omega)
      rw [if_neg h1, List.append_nil]
      by_cases h2 : i < k
      · rw [if_pos h2, if_pos (by omega)]
      · rw [if_neg h2, if_neg (by omega)]
theorem foldl_max_ge (l : List Int) : ∀ (a : Int), a ≤ l.foldl max a ∧ ∀ x ∈ l, x ≤ l.foldl max a := by
  induction l with
  | nil => intro a; exact ⟨Int.le_refl _, fun x hx => by cases hx⟩
  | cons y l ih =>
    intro a
    have := ih (max a y)
    refine ⟨by simp only [List.foldl_cons]; omega, fun x hx => ?_⟩
    rcases List.mem_cons.1 hx with rfl | hx
    · simp only [List.foldl_cons]; omega
    · exact this.2 x hx
theorem spl_last {n : Nat} {l : List Int} (hok : SplOk n l) (h : ∀ x ∈ l, x ≠ 0) (i : Nat) (hi : i < l.length) : l[i] ≤ l[l.length - 1]'(by omega) := by
  rcases Nat.lt_or_ge i (l.length - 1) with h1 | h1
  · have := hok.up (l.length - 1) (by omega) (h _ (List.getElem_mem _))
    have h2 := (foldl_max_ge (l.take (l.length - 1)) 0).2 l[i] (by rw [List.mem_take_iff_getElem]; exact ⟨i, by omega, rfl⟩)
    unfold sgM at this
    omega
  · have : i = l.length - 1 := by omega
    subst this; exact Int.le_refl _
theorem lv_chain {n : Nat} {l : List Int} (hok : SplOk n l) (hn : l.length = n) (h : ∀ x ∈ l, x ≠ 0) (h1 : 1 ≤ n) (hf : Fwd ((List.range n).map (chS l)) n) : ∀ d i, i + d = n → lvV ((List.range n).map (chS l)) n i = l.getD (n - 1) 0 - pv l i := by
  have eL : l.getD (n - 1) 0 = l[n - 1]'(by omega) := by rw [List.getD_eq_getElem?_getD, List.getElem?_eq_getElem (by omega)]; rfl
  intro d
  induction d with
  | zero =>
    intro i hi
    have : i = n := by omega
    subst this
    rw [lvV_end, pv, if_neg (by omega)]; omega
  | succ d ih =>
    intro i hi
    have e2 := ih (i + 1) (by omega)
    have e3 : pv l (i + 1) = l.getD i 0 := by simp [pv]
    have eI : l.getD i 0 = l[i]'(by omega) := by rw [List.getD_eq_getElem?_getD, List.getElem?_eq_getElem (by omega)]; rfl
    have hle := spl_last hok h i (by omega)
    have eL2 : l[l.length - 1]'(by omega) = l[n - 1]'(by omega) := by congr 1; omega
    rw [eL2] at hle
    rw [lvV_eq hf i (by omega), cands_chain _ l i (by rw [e2, e3, eL, eI]; omega) n, if_pos (by omega), e2, e3]
    have : ∀ c : Int, leastOf [c] = c := fun c => by simp [leastOf]
    rw [this]; omega
theorem sum_one {segs : List (List UInt8)} {no : Int} {l : List Int} (hok : HistOk segs [(no, l)]) (hn : l.length = segs.length) (h : ∀ x ∈ l, x ≠ 0) : sumV segs [(no, l)] = l.getD (segs.length - 1) 0 := by
  have hs : SplOk segs.length l := hok.spl 0 (by simp)
  have e : stepsA [(no, l)] = (List.range segs.length).map (chS l) := by
    have : stepsA [(no, l)] = stepsOf l := by simp [stepsA]
    rw [this, stepsOf, stS_chain h l.length (Nat.le_refl _), hn]
  have hf := (stepsA_fwd hok).1
  unfold sumV
  rw [e] at hf ⊢
  rw [lv_chain hs hn h hok.n1 hf segs.length 0 (by omega)]
  simp [pv]
theorem best_one {n : Nat} {no : Int} {l : List Int} (hn : l.length = n) : bI n [(no, l)] 1 = 0 := by simp [bI, hn]
end Go.Proofs.YtagghmfhfboejaaGreatDoor
