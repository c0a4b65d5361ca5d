/- Texts of this seat, laid together: Ix Iy Iz. -/
import Derived.BigQuiet
import Derived.Handy
import Derived.Test.YtdidcjhgdofgcaaGreatDoorBc30
import Derived.Test.YtdidcjhgdofgcaaGreatDoorBc27
import Derived.Test.YtdidcjhgdofgcaaGreatDoorBc31
import Derived.Test.YtdidcjhgdofgcaaGreatDoorBc28
import Derived.Test.YtdidcjhgdofgcaaGreatDoorBc02
import Derived.Test.YtdidcjhgdofgcaaGreatDoorBc01
/- The walk of input.Read's closure: what a line does to the pieces that are read. -/
namespace Go.Proofs.YtdidcjhgdofgcaaGreatDoor
set_option linter.unusedVariables false
set_option linter.unusedSimpArgs false
open Go.RowKit Go.Sort

theorem hldT_six (h : Int) : 1 ≤ (hldT h).length := by
  unfold hldT
  split
  · decide
  · rename_i hn
    exact List.length_pos_iff.2 hn
theorem numB_nil (m : Nat) : numB [] m = false := by
  cases h : numB [] m with
  | false => rfl
  | true => exact absurd rfl (numB_short h).2.2
theorem pcB_two {s0 s1 : List UInt8} : pcB [s0, s1] = (heldB s0 && numB s1 6) := by
  unfold pcB heldB
  simp
/-- A line that is a piece has two words. -/
theorem pcB_full {ws : List (List UInt8)} (h : (decide (ws.length = 2) && fullW ws) = false) : pcB ws = false := by
  cases hp : pcB ws with
  | false => rfl
  | true =>
    exfalso
    unfold pcB at hp
    rw [Bool.and_eq_true, Bool.and_eq_true, decide_eq_true_eq, decide_eq_true_eq] at hp
    obtain ⟨h2, h3, h4⟩ := hp
    rw [decide_eq_true h2, Bool.true_and] at h
    obtain ⟨s0, s1, rfl⟩ : ∃ s0 s1, ws = [s0, s1] := by
      match ws, h2 with
      | [a, b], _ => exact ⟨a, b, rfl⟩
    simp only [List.getD_cons_zero, List.getD_cons_succ] at h3 h4
    have a0 : s0 ≠ [] := fun e => by
      have := hldT_six (hldR s0)
      rw [h3, e] at this
      simp at this
    have a1 : s1 ≠ [] := fun e => by rw [e, numB_nil] at h4; cases h4
    have : fullW [s0, s1] = true := by
      unfold fullW
      simp only [List.all_cons, List.all_nil, Bool.and_true, str_nil_ne a0, str_nil_ne a1]; rfl
    rw [this] at h; cases h
theorem okI_of {t : List UInt8} {k : Nat} {s0 s1 : List UInt8} (h : lnW t k = [s0, s1]) : okI t k = (heldB s0 && numB s1 6 && (decide (k = 0) || decide ((pcI t (k - 1)).1 ≠ hldR s0))) ∧ pcI t k = (hldR s0, numV s1 6) := by
  have e : pcI t k = (hldR s0, numV s1 6) := by unfold pcI; rw [h]; rfl
  refine ⟨?_, e⟩
  unfold okI
  rw [e, h, pcB_two]
theorem okI_bad {t : List UInt8} {k : Nat} (h : pcB (lnW t k) = false) : okI t k = false := by unfold okI; rw [h]; rfl
theorem pcsI_last {t : List UInt8} {k : Nat} (h : 0 < k) (hk : k - 1 < (pcsI t k).length) : (pcsI t k)[k - 1] = pcI t (k - 1) := by
  have := pcsI_at (t := t) (show k - 1 < k by omega)
  exact this
/-- The pieces as they stand behind so many lines: their box, their row. -/
structure InRd (t : List UInt8) (b L k : Nat) (W : World) : Prop where
  lt : b < L
  has : ∃ (A : Option Addr) (c : Nat), Blk W b 26 #[.slice A (pcsI t k).length c] ∧ W.ownsRow L 51 2 (.slice A (pcsI t k).length c) (pcsI t k).length (prs (pcsI t k))
theorem InRd.below {t : List UInt8} {b L k : Nat} {W W' : World} (h : InRd t b L k W) (hb : Below W.heap.size W W') : InRd t b L k W' := by
  obtain ⟨h0, A, c, h1, h2⟩ := h
  exact ⟨h0, A, c, h1.below hb, own_keep h2 hb⟩
theorem InRd.start {t : List UInt8} {b L : Nat} {W : World} (h : Blk W b 26 #[.slice none 0 0]) (hb : b < L) : InRd t b L 0 W :=
  ⟨hb, none, 0, h, World.ownsRow_nil _ _ _ _⟩
theorem InRd.push {t : List UInt8} {b L k : Nat} {W W' : World} {A A5 : Option Addr} {c c5 : Nat} (hb : b < L) (h1 : Blk W b 26 #[.slice A (pcsI t k).length c])
    (h2 : W.ownsRow L 51 2 (.slice A (pcsI t k).length c) (pcsI t k).length (prs (pcsI t k))) (hg : W.grownBy W' (Value.slice A (pcsI t k).length c).ownBlock)
    {x y : Int} (hx : pcI t k = (x, y)) (hw : W'.ownsRow L 51 2 (.slice A5 ((pcsI t k).length + 1) c5) ((pcsI t k).length + 1) (prs (pcsI t k) ++ [.int .i64 x, .int .i64 y])) :
    InRd t b L (k + 1) (W'.setCell ⟨b, 0, none⟩ (.slice A5 ((pcsI t k).length + 1) c5)) := by
  have h3 := h1.otherOf hg (own_kindOf h2) (by decide)
  have e : pcsI t (k + 1) = pcsI t k ++ [(x, y)] := by rw [pcsI_next, hx]
  refine ⟨hb, A5, c5, ?_, ?_⟩
  · rw [e, List.length_append, List.length_singleton]
    have := h3.poke 0 (.slice A5 ((pcsI t k).length + 1) c5)
    simpa using this
  · rw [e, List.length_append, List.length_singleton, prs_app]
    exact own_past hw h3 (by decide) 0 _
/-- What a line of the reader does. -/
def PieceLine (t : List UInt8) (b L k : Nat) (W : World) (e : Ending) (W' : World) : Prop :=
  e = .returned (.bool (okI t k)) ∧ Stays L [b] W W' ∧ (okI t k = true → InRd t b L (k + 1) W')
set_option maxHeartbeats 8000000 in
set_option maxRecDepth 100000 in
theorem readIn_any (t : List UInt8) (b B L k : Nat) (W : World) (ht : t.length ≤ 1000000) (hk : k < (linesL t).length) (hL : L ≤ W.heap.size) (hE : EnvB B W) (hB1 : B ≤ b) (hBL : B ≤ L) (h : InRd t b L k W) :
    Calls Tryz.prog 56 #[encStr (linesL t)[k], .pointer (some ⟨b, 0, none⟩)] W (PieceLine t b L k W) := by
  obtain ⟨HbL, A, c, hbx, hown⟩ := h
  have hkn : k ≤ 1000001 := by have := (linesL_le t).1; omega
  have hsl : (linesL t)[k].length ≤ 1000000 := by have := (linesL_le t).2 _ (List.getElem_mem hk); omega
  have HWT := Lib.hid (lnW_at hk)
  have HWL : Hid (∀ x ∈ lnW t k, x.length ≤ 1000000) := Lib.hid (fun x hx => by
    rw [HWT.out] at hx
    have := cutAt_sum 32 _ x hx; omega)
  have BAD : Hid (∀ W', Stays L [b] W W' → okI t k = false → PieceLine t b L k W (.returned (.bool false)) W') := Lib.hid (fun W' h1 h2 => ⟨by rw [h2], h1, fun h => by rw [h2] at h; cases h⟩)
  have GOOD : Hid (∀ ok W', Stays L [b] W W' → okI t k = ok → (ok = true → InRd t b L (k + 1) W') → PieceLine t b L k W (.returned (.bool ok)) W') := Lib.hid (fun ok W' h1 h2 h3 => ⟨by rw [h2], h1, fun h => h3 (by rw [← h2]; exact h)⟩)
  have HCW : Hid (cutAt 32 (linesL t)[k] = lnW t k) := Lib.hid HWT.out.symm
  generalize hP : PieceLine t b L k W = Post at *
  clear hP
  generalize (linesL t)[k] = s at *
  have HFW : Hid (wordsB s 2 = (decide ((lnW t k).length = 2) && fullW (lnW t k))) := Lib.hid (by unfold wordsB; rw [HCW.out])
  go_enter Tryz.func56, Tryz.ntmps56
  go_wp2_with fail
  refine (words_any s 2 _ (by omega) (by omega) hE.env).mono ?_
  rintro e w2 hW
  rcases hW with ⟨hwb, bw, rfl, hbw, hkw, hb⟩ | ⟨hwb, rfl, hb⟩
  · rw [HFW.out, Bool.and_eq_true, decide_eq_true_eq] at hwb
    obtain ⟨hlen, -⟩ := hwb
    rw [HCW.out] at hkw
    simp only [HCW.out]
    have hst := Stays.of_below (bs := [b]) hb hL
    have hbx := hbx.below hb
    have hown := own_keep hown hb
    have hz : L ≤ w2.heap.size := Nat.le_trans hL hb.size
    clear hb hE hbw HFW
    obtain ⟨s0, s1, hws⟩ : ∃ s0 s1, lnW t k = [s0, s1] := by
      match lnW t k, hlen with
      | [a, b], _ => exact ⟨a, b, rfl⟩
    have HOK := Lib.hid (okI_of hws).1
    have HPC := Lib.hid (okI_of hws).2
    have hl0 := HWL.out s0 (by rw [hws]; simp)
    have hl1 := HWL.out s1 (by rw [hws]; simp)
    rw [hws] at hkw
    obtain ⟨q0, q1⟩ : w2.cell? ⟨bw, 0, none⟩ = some (encStr s0) ∧ w2.cell? ⟨bw, 1, none⟩ = some (encStr s1) := ⟨by rw [hkw.cell 0]; rfl, by rw [hkw.cell 1]; rfl⟩
    have qz := hkw.lt
    have hnl : (lnW t k).length = 2 := by rw [hws]; rfl
    rw [hnl]
    clear hlen hws hnl HWL HCW
    go_wp2_with fail
    refine (readHeld_any s0 _).mono ?_
    rintro e w3 ⟨rfl, hb⟩
    have hst := hst.trans (Stays.of_below hb hz)
    have hbx := hbx.below hb
    have hown := own_keep hown hb
    have hkw := hkw.below hb
    have hz : L ≤ w3.heap.size := Nat.le_trans hz hb.size
    clear hb q0 q1 qz
    obtain ⟨q0, q1⟩ : w3.cell? ⟨bw, 0, none⟩ = some (encStr s0) ∧ w3.cell? ⟨bw, 1, none⟩ = some (encStr s1) := ⟨by rw [hkw.cell 0]; rfl, by rw [hkw.cell 1]; rfl⟩
    have qz := hkw.lt
    go_wp2_with fail
    refine (number_any s1 6 _ (by omega) (by omega)).mono ?_
    rintro e w4 ⟨rfl, hb⟩
    have hst := hst.trans (Stays.of_below hb hz)
    have hbx := hbx.below hb
    have hown := own_keep hown hb
    have hz : L ≤ w4.heap.size := Nat.le_trans hz hb.size
    clear hb q0 q1 qz hkw
    have hps := pcsI_len t k
    have HPS : Hid (∀ (h : 0 < k) (h2 : k - 1 < (pcsI t k).length), (pcsI t k)[k - 1] = pcI t (k - 1)) := Lib.hid (fun h h2 => pcsI_last h h2)
    have cz := hbx.lt
    have cf := hbx.thaw 0
    have HBX := Lib.hid hbx
    obtain ⟨c0, _⟩ : w4.cell? ⟨b, 0, none⟩ = some (.slice A (pcsI t k).length c) ∧ True := ⟨by simpa using hbx.cell 0, trivial⟩
    have HPU : Hid (∀ (x y : Int), pcI t k = (x, y) → ∀ (WX W' : World) (A5 : Option Addr) (c5 : Nat), Blk WX b 26 #[.slice A (pcsI t k).length c] → WX.ownsRow L 51 2 (.slice A (pcsI t k).length c) (pcsI t k).length (prs (pcsI t k)) → WX.grownBy W' (Value.slice A (pcsI t k).length c).ownBlock → W'.ownsRow L 51 2 (.slice A5 ((pcsI t k).length + 1) c5) ((pcsI t k).length + 1) (prs (pcsI t k) ++ [.int .i64 x, .int .i64 y]) → InRd t b L (k + 1) (W'.setCell ⟨b, 0, none⟩ (.slice A5 ((pcsI t k).length + 1) c5)) ∧ Blk W' b 26 #[.slice A (pcsI t k).length c]) := Lib.hid (fun x y hx WX W' A5 c5 h1 h2 hg hw => ⟨InRd.push HbL h1 h2 hg hx hw, h1.otherOf hg (own_kindOf h2) (by decide)⟩)
    clear hbx
    generalize pcsI t k = ps at *
    generalize hldR s0 = hd at *
    generalize numV s1 6 = nv at *
    generalize numB s1 6 = nb at *
    generalize heldB s0 = hb0 at *
    by_cases hk0 : k = 0
    · have hp0 : ps.length = 0 := by omega
      have ex : decide (k = 0) = true := decide_eq_true hk0
      rw [ex, Bool.true_or, Bool.and_true] at HOK
      clear ex hk0 HPS
      have hpn : ps = [] := List.eq_nil_of_length_eq_zero hp0
      subst hpn
      clear hp0 hps
      go_wp2_with (at_builtin; go_must (refine wpList_app (lo := L) (base := L) (n := ([] : List (Int × Int)).length) (xs := prs ([] : List (Int × Int))) _ _ rfl _ _ ty_prs rfl (by repeat (first | exact hown | refine World.ownsRow.alloc ?_ _ | refine own_drewN ?_ _ | refine World.ownsRow.drew ?_)) rfl (by first | exact row_new' _ (by first | rfl | simp) (by first | omega | (simp; omega)) rfl | exact row_newN _ _ (by first | rfl | simp) (by first | omega | (simp; omega)) rfl | exact row_newD _ (by first | rfl | simp) (by first | omega | (simp; omega)) rfl) rfl rfl (by first | omega | decide) (by first | omega | decide) (by first | omega | (simp; omega)) ?_))
      intro A5 c5 w5 hown5 hg5 _
      have hX := (Below.refl w4.heap.size w4).alloc (Nat.le_refl _) (.cells #[.int .i64 hd, .int .i64 nv] 51)
      have hst6 := hst.trans (Stays.of_below hX hz)
      have hb6 := HBX.out.below hX
      have hown6 := own_keep hown hX
      have hz6 : L ≤ (w4.alloc (.cells #[.int .i64 hd, .int .i64 nv] 51)).heap.size := by simp; omega
      clear hX hst hown hz c0 cz cf HBX
      generalize w4.alloc (.cells #[.int .i64 hd, .int .i64 nv] 51) = w6 at *
      obtain ⟨hR, hb7⟩ := HPU.out hd nv HPC.out _ _ A5 c5 hb6 hown6 hg5 hown5
      have hsf := Stays.set (hst6.grown hg5 hz6 (fun q hq => (hown6.lt q hq).1)) (p := ⟨b, 0, none⟩) (.inl (by simp)) (.slice A5 (([] : List (Int × Int)).length + 1) c5)
      have pz := hb7.lt
      have pf := hb7.thaw 0
      obtain ⟨pc, _⟩ : w5.cell? ⟨b, 0, none⟩ = some (.slice A ([] : List (Int × Int)).length c) ∧ True := ⟨by simpa using hb7.cell 0, trivial⟩
      clear HPU hst6 hb6 hown6 hz6 hb7 hown5 hg5 HPC
      cases hb0 with
      | false =>
        go_wp2_with fail
        exact BAD.out _ hsf (by rw [HOK.out]; rfl)
      | true =>
        go_wp2_with fail
        exact GOOD.out nb _ hsf (by rw [HOK.out]; rfl) (fun _ => hR)
    · obtain ⟨m, rfl⟩ : ∃ m, k = m + 1 := ⟨k - 1, by omega⟩
      have hkp : m < ps.length := by omega
      have hl1 : ps[m] = pcI t m := HPS.out (by omega) hkp
      rw [decide_eq_false hk0, Bool.false_or, show m + 1 - 1 = m from rfl, ← hl1] at HOK
      clear hl1 HPS hk0
      obtain ⟨g, rfl, hg1, hg2, hcb, hfb⟩ := ownBlk hown (by omega)
      have hj : ps.length - 1 < ps.length := by omega
      have em : ps[ps.length - 1].1 = ps[m].1 := by
        have : ps.length - 1 = m := by omega
        simp only [this]
      have d1 := hcb _ _ (prs_at ps _ hj).1
      rw [em] at d1
      have q1 : 1 ≤ ps.length := by omega
      have q2 : (0 : Int) ≤ (ps.length : Int) - 1 := by omega
      have q3 : decide ((1 : Int) ≤ (ps.length : Int)) = true := by simp; omega
      have hpl : ps.length ≤ 1000001 := by omega
      clear hcb hfb em hj
      generalize ps[m].1 = lh at *
      clear hkp hps
      by_cases he : lh = hd
      · have he' : (lh == hd) = true := by simpa using he
        have ex : decide (lh ≠ hd) = false := by simpa using he
        rw [ex, Bool.and_false] at HOK
        clear ex he
        go_wp2_with (at_builtin; go_must (refine wpList_app (lo := L) (base := L) (n := ps.length) (xs := prs ps) _ _ rfl _ _ ty_prs rfl (by repeat (first | exact hown | refine World.ownsRow.alloc ?_ _ | refine own_drewN ?_ _ | refine World.ownsRow.drew ?_)) rfl (by first | exact row_new' _ (by first | rfl | simp) (by first | omega | (simp; omega)) rfl | exact row_newN _ _ (by first | rfl | simp) (by first | omega | (simp; omega)) rfl | exact row_newD _ (by first | rfl | simp) (by first | omega | (simp; omega)) rfl) rfl rfl (by first | omega | decide) (by first | omega | decide) (by first | omega | (simp; omega)) ?_))
        intro A5 c5 w5 hown5 hg5 _
        have hX := (Below.refl w4.heap.size w4).alloc (Nat.le_refl _) (.cells #[.int .i64 hd, .int .i64 nv] 51)
        have hst6 := hst.trans (Stays.of_below hX hz)
        have hb6 := HBX.out.below hX
        have hown6 := own_keep hown hX
        have hz6 : L ≤ (w4.alloc (.cells #[.int .i64 hd, .int .i64 nv] 51)).heap.size := by simp; omega
        clear hX hst hown hz c0 cz cf HBX
        generalize w4.alloc (.cells #[.int .i64 hd, .int .i64 nv] 51) = w6 at *
        obtain ⟨hR, hb7⟩ := HPU.out hd nv HPC.out _ _ A5 c5 hb6 hown6 hg5 hown5
        have hsf := Stays.set (hst6.grown hg5 hz6 (fun q hq => (hown6.lt q hq).1)) (p := ⟨b, 0, none⟩) (.inl (by simp)) (.slice A5 (ps.length + 1) c5)
        have pz := hb7.lt
        have pf := hb7.thaw 0
        obtain ⟨pc, _⟩ : w5.cell? ⟨b, 0, none⟩ = some (.slice (some ⟨g, 0, none⟩) ps.length c) ∧ True := ⟨by simpa using hb7.cell 0, trivial⟩
        clear HPU hst6 hb6 hown6 hz6 hb7 hown5 hg5 HPC
        go_wp2_with fail
        exact BAD.out _ hsf HOK.out
      · have he' : (lh == hd) = false := by simpa using he
        have ex : decide (lh ≠ hd) = true := by simpa using he
        rw [ex, Bool.and_true] at HOK
        clear ex he
        go_wp2_with (at_builtin; go_must (refine wpList_app (lo := L) (base := L) (n := ps.length) (xs := prs ps) _ _ rfl _ _ ty_prs rfl (by repeat (first | exact hown | refine World.ownsRow.alloc ?_ _ | refine own_drewN ?_ _ | refine World.ownsRow.drew ?_)) rfl (by first | exact row_new' _ (by first | rfl | simp) (by first | omega | (simp; omega)) rfl | exact row_newN _ _ (by first | rfl | simp) (by first | omega | (simp; omega)) rfl | exact row_newD _ (by first | rfl | simp) (by first | omega | (simp; omega)) rfl) rfl rfl (by first | omega | decide) (by first | omega | decide) (by first | omega | (simp; omega)) ?_))
        intro A5 c5 w5 hown5 hg5 _
        have hX := (Below.refl w4.heap.size w4).alloc (Nat.le_refl _) (.cells #[.int .i64 hd, .int .i64 nv] 51)
        have hst6 := hst.trans (Stays.of_below hX hz)
        have hb6 := HBX.out.below hX
        have hown6 := own_keep hown hX
        have hz6 : L ≤ (w4.alloc (.cells #[.int .i64 hd, .int .i64 nv] 51)).heap.size := by simp; omega
        clear hX hst hown hz c0 cz cf HBX
        generalize w4.alloc (.cells #[.int .i64 hd, .int .i64 nv] 51) = w6 at *
        obtain ⟨hR, hb7⟩ := HPU.out hd nv HPC.out _ _ A5 c5 hb6 hown6 hg5 hown5
        have hsf := Stays.set (hst6.grown hg5 hz6 (fun q hq => (hown6.lt q hq).1)) (p := ⟨b, 0, none⟩) (.inl (by simp)) (.slice A5 (ps.length + 1) c5)
        have pz := hb7.lt
        have pf := hb7.thaw 0
        obtain ⟨pc, _⟩ : w5.cell? ⟨b, 0, none⟩ = some (.slice (some ⟨g, 0, none⟩) ps.length c) ∧ True := ⟨by simpa using hb7.cell 0, trivial⟩
        clear HPU hst6 hb6 hown6 hz6 hb7 hown5 hg5 HPC
        cases hb0 with
        | false =>
          go_wp2_with fail
          exact BAD.out _ hsf (by rw [HOK.out]; rfl)
        | true =>
          go_wp2_with fail
          exact GOOD.out nb _ hsf (by rw [HOK.out]; rfl) (fun _ => hR)
  · rw [HFW.out] at hwb
    have HOK := Lib.hid (okI_bad (pcB_full hwb))
    have hst := Stays.of_below (bs := [b]) hb hL
    clear hwb hb hbx hown hE
    go_wp2_with fail
    exact BAD.out _ hst HOK.out
end Go.Proofs.YtdidcjhgdofgcaaGreatDoor
/- The walk of splitref1.InputRead's closure: the same lines, the same pieces. -/
namespace Go.Proofs.YtdidcjhgdofgcaaGreatDoor
set_option linter.unusedVariables false
set_option linter.unusedSimpArgs false
open Go.RowKit Go.Sort

theorem heldB_at {s : List UInt8} {j : Nat} (hj : j < 64) (h : hldT j = s) : heldB s = true ∧ hldR s = j := by
  have h1 := (hldT_free (h := (j : Int)) (by omega) (by omega)).1
  rw [h] at h1
  exact ⟨by unfold heldB; rw [h1, h]; exact decide_eq_true rfl, h1⟩
theorem heldB_none {s : List UInt8} (h : ∀ m : Nat, m < 64 → hldT m ≠ s) : heldB s = false := by
  cases hb : heldB s with
  | false => rfl
  | true =>
    unfold heldB at hb
    rw [decide_eq_true_eq] at hb
    obtain ⟨r0, r1⟩ := hldR_le s
    obtain ⟨m, hm⟩ := Int.eq_ofNat_of_zero_le r0
    rw [hm] at hb
    exact absurd hb (h m (by omega))
theorem pcB_len {ws : List (List UInt8)} (h : ws.length ≠ 2) : pcB ws = false := by
  unfold pcB
  rw [decide_eq_false h]; rfl
set_option maxHeartbeats 8000000 in
set_option maxRecDepth 100000 in
theorem refIn_any (t : List UInt8) (b B L k : Nat) (W : World) (ht : t.length ≤ 1000000) (hk : k < (linesL t).length) (hL : L ≤ W.heap.size) (hE : EnvB B W) (hB1 : B ≤ b) (hBL : B ≤ L) (h : InRd t b L k W) :
    Calls Tryz.prog 61 #[encStr (linesL t)[k], .pointer (some ⟨b, 0, none⟩)] W (PieceLine t b L k W) := by
  obtain ⟨HbL, A, c, hbx, hown⟩ := h
  have hkn : k ≤ 1000001 := by have := (linesL_le t).1; omega
  have hsl : (linesL t)[k].length ≤ 1000000 := by have := (linesL_le t).2 _ (List.getElem_mem hk); omega
  have HWT := Lib.hid (lnW_at hk)
  have HWL : Hid (∀ x ∈ lnW t k, x.length ≤ 1000000) := Lib.hid (fun x hx => by
    rw [HWT.out] at hx
    have := cutAt_sum 32 _ x hx; omega)
  have BAD : Hid (∀ W', Stays L [b] W W' → okI t k = false → PieceLine t b L k W (.returned (.bool false)) W') := Lib.hid (fun W' h1 h2 => ⟨by rw [h2], h1, fun h => by rw [h2] at h; cases h⟩)
  have GOOD : Hid (∀ ok W', Stays L [b] W W' → okI t k = ok → (ok = true → InRd t b L (k + 1) W') → PieceLine t b L k W (.returned (.bool ok)) W') := Lib.hid (fun ok W' h1 h2 h3 => ⟨by rw [h2], h1, fun h => h3 (by rw [← h2]; exact h)⟩)
  have HCW : Hid (cutAt 32 (linesL t)[k] = lnW t k) := Lib.hid HWT.out.symm
  generalize hP : PieceLine t b L k W = Post at *
  clear hP
  generalize (linesL t)[k] = s at *
  have HE := Lib.hid hE
  clear hE
  go_enter Tryz.func61, Tryz.ntmps61
  go_wp2_with fail
  refine (split_any 32 s _ (by omega) HE.out.env).mono ?_
  rintro e w1 ⟨bw, rfl, hbw, hkw, hb⟩
  rw [HCW.out] at hkw
  simp only [HCW.out]
  have hst := Stays.of_below (bs := [b]) hb hL
  have hbx := hbx.below hb
  have hown := own_keep hown hb
  have hE := Lib.hid (HE.out.below (Below.mono hb (by omega)))
  have hz : L ≤ w1.heap.size := Nat.le_trans hL hb.size
  clear hb hbw HE HCW
  by_cases hlen : (lnW t k).length = 2
  rotate_left
  · have HOK := Lib.hid (okI_bad (pcB_len hlen))
    have dn : (((lnW t k).length : Int) != 2) = true := by simp; omega
    clear hlen hbx hown hkw
    generalize (lnW t k).length = ln at *
    go_wp2_with fail
    exact BAD.out _ hst HOK.out
  · obtain ⟨s0, s1, hws⟩ : ∃ s0 s1, lnW t k = [s0, s1] := by
      match lnW t k, hlen with
      | [a, b], _ => exact ⟨a, b, rfl⟩
    have HOK := Lib.hid (okI_of hws).1
    have HPC := Lib.hid (okI_of hws).2
    have hl0 := HWL.out s0 (by rw [hws]; simp)
    have hl1 := HWL.out s1 (by rw [hws]; simp)
    rw [hws] at hkw
    rw [hlen]
    clear hlen hws HWL
    obtain ⟨q0, q1⟩ : w1.cell? ⟨bw, 0, none⟩ = some (encStr s0) ∧ w1.cell? ⟨bw, 1, none⟩ = some (encStr s1) := ⟨by rw [hkw.cell 0]; rfl, by rw [hkw.cell 1]; rfl⟩
    have qz := hkw.lt
    go_wp2_with fail
    refine (int_any s1 6 _ (by omega) (by omega) hE.out.env).mono ?_
    rintro e w3 ⟨rfl, hb⟩
    have hst := hst.trans (Stays.of_below hb hz)
    have hbx := hbx.below hb
    have hown := own_keep hown hb
    have hkw := hkw.below hb
    have hz : L ≤ w3.heap.size := Nat.le_trans hz hb.size
    clear hb q0 q1 qz hE
    have HNV : Hid (numB s1 6 = true → intV s1 6 = numV s1 6) := Lib.hid intV_num
    generalize intV s1 6 = nv at *
    generalize numB s1 6 = nb at *
    go_wp2_with fail
    go_loopw [21] (fun i wr => ∃ j : Nat, j ≤ 64 ∧ i = .int .i64 j ∧ Below w3.heap.size w3 wr ∧ Hid (∀ m : Nat, m < j → hldT m ≠ s0)) (fun i _ => 64 - (intOf i).toNat)
    case atStart => exact ⟨0, Nat.zero_le _, rfl, Below.refl _ _, Lib.hid (fun _ h => absurd h (Nat.not_lt_zero _))⟩
    case round =>
      obtain ⟨j, hj, rfl, hbr, hno⟩ := hrel
      by_cases hlt : j < 64
      · replace hst := hst.trans (Stays.of_below hbr hz)
        replace hbx := hbx.below hbr
        replace hown := own_keep hown hbr
        replace hkw := hkw.below hbr
        replace hz : L ≤ wr.heap.size := Nat.le_trans hz hbr.size
        have hqw := hkw.lt
        go_wp2_with fail
        have hb := (Below.refl wr.heap.size wr).drew
        replace hst := hst.trans (Stays.of_below hb hz)
        replace hbx := hbx.below hb
        replace hown := own_keep hown hb
        replace hkw := hkw.below hb
        replace hz : L ≤ wr.drew.heap.size := Nat.le_trans hz hb.size
        replace hbr := below_up hbr hb
        clear hb
        refine wp_region_held_drew (S := (fun w' => w'.cell? ⟨bw, 0, none⟩ = some (encStr s0))) (by kernel_rfl) ((show _ = some (encStr s0) by rw [hkw.cell 0]; rfl)) (fun hHeld => ?_)
        generalize wr.drew = wd at *
        (refine wpAnyH_take (i := 0) (v := ?_) (by (simp only [List.getElem?_toArray, List.getElem?_cons_zero]; rfl)) (by kernel_rfl) (by kernel_rfl) (by kernel_rfl) (by exact fun _ _ _ h => h) (Or.inl ⟨by rfl, ?_⟩) (by assumption) ?_; (rotate_left 1; (intro w hSw; (try dsimp only at hSw); go_simp); (try with_reducible rfl)); (try simp only [Act.put, List.setIfInBounds_toArray, List.set_cons_zero, List.set_cons_succ]))
        (refine wpAnyH_take (i := 2) (v := ?_) (by (simp only [List.getElem?_toArray, List.getElem?_cons_succ, List.getElem?_cons_zero]; rfl)) (by kernel_rfl) (by kernel_rfl) (by kernel_rfl) (by exact fun _ _ _ h => h) (Or.inl ⟨by rfl, ?_⟩) (by assumption) ?_; (rotate_left 1; (intro w hSw; (try dsimp only at hSw); go_simp); (try with_reducible rfl)); (try simp only [Act.put, List.setIfInBounds_toArray, List.set_cons_zero, List.set_cons_succ]))
        (refine wpAnyH_take (i := 3) (v := ?_) (by (simp only [List.getElem?_toArray, List.getElem?_cons_succ, List.getElem?_cons_zero]; rfl)) (by kernel_rfl) (by kernel_rfl) (by kernel_rfl) (by exact fun _ _ _ h => h) (Or.inl ⟨by rfl, ?_⟩) (by assumption) ?_; (rotate_left 1; (intro w hSw; (try dsimp only at hSw); go_simp); (try with_reducible rfl)); (try simp only [Act.put, List.setIfInBounds_toArray, List.set_cons_zero, List.set_cons_succ]))
        (refine wpAnyH_take (i := 4) (v := ?_) (by (simp only [List.getElem?_toArray, List.getElem?_cons_succ, List.getElem?_cons_zero]; rfl)) (by kernel_rfl) (by kernel_rfl) (by kernel_rfl) (by exact fun _ _ _ h => h) (Or.inl ⟨by rfl, ?_⟩) (by assumption) ?_; (rotate_left 1; (intro w hSw; (try dsimp only at hSw); go_simp); (try with_reducible rfl)); (try simp only [Act.put, List.setIfInBounds_toArray, List.set_cons_zero, List.set_cons_succ]))
        refine wpAnyH_ready (rs := [1]) (by kernel_rfl) (by simp) ?_
        refine AllReadyH.cons rfl (fun K hK => ?_) AllReadyH.nil
        go_simp
        go_at_call 53
        refine (heldLetters_any j hlt _).mono ?_
        rintro e w5 ⟨rfl, hb⟩
        replace hst := hst.trans (Stays.of_below hb hz)
        replace hbx := hbx.below hb
        replace hown := own_keep hown hb
        replace hkw := hkw.below hb
        replace hz : L ≤ w5.heap.size := Nat.le_trans hz hb.size
        replace hbr := below_up hbr hb
        clear hb
        go_wp2_with fail
        refine hK.out _ _ ((show _ = some (encStr s0) by rw [hkw.cell 0]; rfl)) (fun hHeld => ?_)
        clear hK K
        (try simp only [Act.put, List.setIfInBounds_toArray, List.set_cons_zero, List.set_cons_succ])
        (refine wpAnyH_take (i := 5) (v := ?_) (by (simp only [List.getElem?_toArray, List.getElem?_cons_succ, List.getElem?_cons_zero]; rfl)) (by kernel_rfl) (by kernel_rfl) (by kernel_rfl) (by exact fun _ _ _ h => h) (Or.inl ⟨by rfl, ?_⟩) (by assumption) ?_; (rotate_left 1; (intro w hSw; (try dsimp only at hSw); go_simp); (try with_reducible rfl)); (try simp only [Act.put, List.setIfInBounds_toArray, List.set_cons_zero, List.set_cons_succ]))
        refine wpAnyH_done (by kernel_rfl) ?_ _
        generalize w5 = w6 at *
        generalize hcq : (hldT (j : Int) == s0) = cq at *
        cases cq with
        | true =>
          have hs : hldT (j : Int) = s0 := by simpa using hcq
          clear hcq
          obtain ⟨he1, he2⟩ := heldB_at hlt hs
          have HPC2 : Hid (nb = true → pcI t k = ((j : Int), nv)) := Lib.hid (fun h => by rw [HPC.out, he2, HNV.out h])
          have HOK2 : Hid (okI t k = (nb && (decide (k = 0) || decide ((pcI t (k - 1)).1 ≠ (j : Int))))) := Lib.hid (by rw [HOK.out, he1, Bool.true_and, he2])
          clear HOK HPC HNV he1 he2 hs hno hkw hbr
          have HPC := HPC2
          have HOK := HOK2
          clear HPC2 HOK2
          have hps := pcsI_len t k
          have HPS : Hid (∀ (h : 0 < k) (h2 : k - 1 < (pcsI t k).length), (pcsI t k)[k - 1] = pcI t (k - 1)) := Lib.hid (fun h h2 => pcsI_last h h2)
          have cz := hbx.lt
          have cf := hbx.thaw 0
          have HBX := Lib.hid hbx
          obtain ⟨c0, _⟩ : w6.cell? ⟨b, 0, none⟩ = some (.slice A (pcsI t k).length c) ∧ True := ⟨by simpa using hbx.cell 0, trivial⟩
          have HPU : Hid (∀ (x y : Int), pcI t k = (x, y) → ∀ (WX W' : World) (A5 : Option Addr) (c5 : Nat), Blk WX b 26 #[.slice A (pcsI t k).length c] → WX.ownsRow L 51 2 (.slice A (pcsI t k).length c) (pcsI t k).length (prs (pcsI t k)) → WX.grownBy W' (Value.slice A (pcsI t k).length c).ownBlock → W'.ownsRow L 51 2 (.slice A5 ((pcsI t k).length + 1) c5) ((pcsI t k).length + 1) (prs (pcsI t k) ++ [.int .i64 x, .int .i64 y]) → InRd t b L (k + 1) (W'.setCell ⟨b, 0, none⟩ (.slice A5 ((pcsI t k).length + 1) c5))) := Lib.hid (fun x y hx WX W' A5 c5 h1 h2 hg hw => InRd.push HbL h1 h2 hg hx hw)
          clear hbx
          generalize pcsI t k = ps at *
          by_cases hk0 : k = 0
          · have hp0 : ps.length = 0 := by omega
            have ex : decide (k = 0) = true := decide_eq_true hk0
            rw [ex, Bool.true_or, Bool.and_true] at HOK
            clear ex hk0 HPS
            have hpn : ps = [] := List.eq_nil_of_length_eq_zero hp0
            subst hpn
            clear hp0 hps
            go_wp2_with (at_builtin; go_must (refine wpList_app (lo := L) (base := L) (n := ([] : List (Int × Int)).length) (xs := prs ([] : List (Int × Int))) _ _ rfl _ _ ty_prs rfl (by repeat (first | exact hown | refine World.ownsRow.alloc ?_ _ | refine own_drewN ?_ _ | refine World.ownsRow.drew ?_)) rfl (by first | exact row_new' _ (by first | rfl | simp) (by first | omega | (simp; omega)) rfl | exact row_newN _ _ (by first | rfl | simp) (by first | omega | (simp; omega)) rfl | exact row_newD _ (by first | rfl | simp) (by first | omega | (simp; omega)) rfl) rfl rfl (by first | omega | decide) (by first | omega | decide) (by first | omega | (simp; omega)) ?_))
            intro A5 c5 w7 hown5 hg5 _
            have hX := (Below.refl w6.heap.size w6).alloc (Nat.le_refl _) (.cells #[.int .i64 j, .int .i64 nv] 51)
            have hst6 := hst.trans (Stays.of_below hX hz)
            have hb6 := HBX.out.below hX
            have hown6 := own_keep hown hX
            have hz6 : L ≤ (w6.alloc (.cells #[.int .i64 j, .int .i64 nv] 51)).heap.size := by simp; omega
            clear hX hst hown hz c0 cz cf HBX
            generalize w6.alloc (.cells #[.int .i64 j, .int .i64 nv] 51) = w8 at *
            have hb7 := hb6.otherOf hg5 (own_kindOf hown6) (by decide)
            have hR := Lib.hid (fun h => HPU.out j nv (HPC.out h) _ _ A5 c5 hb6 hown6 hg5 hown5)
            have hsf := Stays.set (hst6.grown hg5 hz6 (fun q hq => (hown6.lt q hq).1)) (p := ⟨b, 0, none⟩) (.inl (by simp)) (.slice A5 (([] : List (Int × Int)).length + 1) c5)
            have pz := hb7.lt
            have pf := hb7.thaw 0
            obtain ⟨pc, _⟩ : w7.cell? ⟨b, 0, none⟩ = some (.slice A ([] : List (Int × Int)).length c) ∧ True := ⟨by simpa using hb7.cell 0, trivial⟩
            clear HPU hst6 hb6 hown6 hz6 hb7 hown5 hg5 HPC
            go_wp2_with fail
            exact GOOD.out nb _ hsf (by first | exact HOK.out | (rw [HOK.out]; rfl)) (fun h => hR.out h)
          · obtain ⟨m, rfl⟩ : ∃ m, k = m + 1 := ⟨k - 1, by omega⟩
            have hkp : m < ps.length := by omega
            have hl1 : ps[m] = pcI t m := HPS.out (by omega) hkp
            rw [decide_eq_false hk0, Bool.false_or, show m + 1 - 1 = m from rfl, ← hl1] at HOK
            clear hl1 HPS hk0
            obtain ⟨g, rfl, hg1, hg2, hcb, hfb⟩ := ownBlk hown (by omega)
            have hj : ps.length - 1 < ps.length := by omega
            have em : ps[ps.length - 1].1 = ps[m].1 := by
              have : ps.length - 1 = m := by omega
              simp only [this]
            have d1 := hcb _ _ (prs_at ps _ hj).1
            rw [em] at d1
            have q0 : 0 < ps.length := by omega
            have q1 : 1 ≤ ps.length := by omega
            have q2 : (0 : Int) ≤ (ps.length : Int) - 1 := by omega
            have q3 : decide ((1 : Int) ≤ (ps.length : Int)) = true := by simp; omega
            have q4 : (0 : Int) < (ps.length : Int) := by omega
            have hpl : ps.length ≤ 1000001 := by omega
            clear hcb hfb em hj
            generalize ps[m].1 = lh at *
            clear hkp hps
            by_cases he : lh = (j : Int)
            · have he' : (lh == (j : Int)) = true := by simpa using he
              have ex : decide (lh ≠ (j : Int)) = false := by simpa using he
              rw [ex, Bool.and_false] at HOK
              clear ex he
              go_wp2_with fail
              exact BAD.out _ hst HOK.out
            · have he' : (lh == (j : Int)) = false := by simpa using he
              have ex : decide (lh ≠ (j : Int)) = true := by simpa using he
              rw [ex, Bool.and_true] at HOK
              clear ex he
              go_wp2_with (at_builtin; go_must (refine wpList_app (lo := L) (base := L) (n := ps.length) (xs := prs ps) _ _ rfl _ _ ty_prs rfl (by repeat (first | exact hown | refine World.ownsRow.alloc ?_ _ | refine own_drewN ?_ _ | refine World.ownsRow.drew ?_)) rfl (by first | exact row_new' _ (by first | rfl | simp) (by first | omega | (simp; omega)) rfl | exact row_newN _ _ (by first | rfl | simp) (by first | omega | (simp; omega)) rfl | exact row_newD _ (by first | rfl | simp) (by first | omega | (simp; omega)) rfl) rfl rfl (by first | omega | decide) (by first | omega | decide) (by first | omega | (simp; omega)) ?_))
              intro A5 c5 w7 hown5 hg5 _
              have hX := (Below.refl w6.heap.size w6).alloc (Nat.le_refl _) (.cells #[.int .i64 j, .int .i64 nv] 51)
              have hst6 := hst.trans (Stays.of_below hX hz)
              have hb6 := HBX.out.below hX
              have hown6 := own_keep hown hX
              have hz6 : L ≤ (w6.alloc (.cells #[.int .i64 j, .int .i64 nv] 51)).heap.size := by simp; omega
              clear hX hst hown hz c0 cz cf HBX
              generalize w6.alloc (.cells #[.int .i64 j, .int .i64 nv] 51) = w8 at *
              have hb7 := hb6.otherOf hg5 (own_kindOf hown6) (by decide)
              have hR := Lib.hid (fun h => HPU.out j nv (HPC.out h) _ _ A5 c5 hb6 hown6 hg5 hown5)
              have hsf := Stays.set (hst6.grown hg5 hz6 (fun q hq => (hown6.lt q hq).1)) (p := ⟨b, 0, none⟩) (.inl (by simp)) (.slice A5 (ps.length + 1) c5)
              have pz := hb7.lt
              have pf := hb7.thaw 0
              obtain ⟨pc, _⟩ : w7.cell? ⟨b, 0, none⟩ = some (.slice (some ⟨g, 0, none⟩) ps.length c) ∧ True := ⟨by simpa using hb7.cell 0, trivial⟩
              clear HPU hst6 hb6 hown6 hz6 hb7 hown5 hg5 HPC
              go_wp2_with fail
              exact GOOD.out nb _ hsf (by first | exact HOK.out | (rw [HOK.out]; rfl)) (fun h => hR.out h)
        | false =>
          have hs : hldT (j : Int) ≠ s0 := by simpa using hcq
          clear hcq
          have HNO : Hid (∀ m : Nat, m < j + 1 → hldT m ≠ s0) := Lib.hid (fun m hm => by
            rcases Nat.lt_or_ge m j with h | h
            · exact hno.out m h
            · have : m = j := by omega
              subst this; exact hs)
          clear hs hno
          go_wp2_with fail
          go_roundw
          case rel => exact ⟨j + 1, by omega, by go_num, hbr, HNO⟩
          case measure => simp [intOf]; omega
      · have hjj : j = 64 := by omega
        subst hjj
        have HF := Lib.hid (heldB_none hno.out)
        rw [HF.out] at HOK
        go_wp2_with fail
        exact BAD.out _ (hst.trans (Stays.of_below hbr hz)) HOK.out
end Go.Proofs.YtdidcjhgdofgcaaGreatDoor
/- The walks of input.Read and splitref1.InputRead: both hand out the same. -/
namespace Go.Proofs.YtdidcjhgdofgcaaGreatDoor
set_option linter.unusedVariables false
set_option linter.unusedSimpArgs false
open Go.RowKit Go.Sort

def InReadPost (w : World) (t : List UInt8) (e : Ending) (w' : World) : Prop :=
  ∃ (A : Option Addr) (c : Nat), e = .returned (.tuple #[.slice A (readI t).1.length c, .int .i64 (readI t).2.1, .int .i64 (readI t).2.2]) ∧ Row w' w.heap.size 2 A (readI t).1.length (prs (readI t).1) ∧ Below w.heap.size w w'
set_option maxHeartbeats 8000000 in
set_option maxRecDepth 100000 in
theorem inRead_any (t : List UInt8) (w : World) (ht : t.length ≤ 1000000) (hE : Env w) :
    Calls Tryz.prog 21 #[encStr t] w (InReadPost w t) := by
  have EARLY : Hid (∀ i e W', readI t = ([], i, e) → Below w.heap.size w W' → InReadPost w t (.returned (.tuple #[.slice none 0 0, .int .i64 i, .int .i64 e])) W') := Lib.hid (fun i e W' h hb => by
    refine ⟨none, 0, ?_, ?_, hb⟩
    · rw [h]; rfl
    · rw [h]; exact Row.none_ _ _ _ _)
  have LATE : Hid (∀ A c W', readI t = (pcsI t (linesL t).length, 0, 0) → Row W' w.heap.size 2 A (pcsI t (linesL t).length).length (prs (pcsI t (linesL t).length)) → Below w.heap.size w W' → InReadPost w t (.returned (.tuple #[.slice A (pcsI t (linesL t).length).length c, .int .i64 0, .int .i64 0])) W') := Lib.hid (fun A c W' h hh hb => by
    refine ⟨A, c, ?_, ?_, hb⟩
    · rw [h]
    · rw [h]; exact hh)
  generalize hP : InReadPost w t = Post at *
  clear hP
  have hEB := EnvB.of hE
  by_cases hbig : 200000 < t.length
  · have hd : decide ((200000 : Int) < (t.length : Int)) = true := by simp; omega
    have HV := Lib.hid (readI_large hbig)
    clear hbig
    go_enter Tryz.func21, Tryz.ntmps21
    go_wp2_with fail
    exact EARLY.out 0 2 _ HV.out (Below.refl _ _)
  · have hd : decide ((200000 : Int) < (t.length : Int)) = false := by simp; omega
    have HBIG := Lib.hid hbig
    clear hbig
    go_enter Tryz.func21, Tryz.ntmps21
    go_upto_region 2 with (fail)
    have kL : Blk (w.alloc (.cells #[.slice none 0 0] 26)) w.heap.size 26 #[.slice none 0 0] := Blk.new _ _ _
    have hx : Below w.heap.size w (w.alloc (.cells #[.slice none 0 0] 26)) := (Below.refl _ _).alloc (Nat.le_refl _) (.cells #[.slice none 0 0] 26)
    have hz2 : w.heap.size < (w.alloc (.cells #[.slice none 0 0] 26)).heap.size := by simp
    obtain ⟨b1, hb1⟩ : ∃ b1, b1 = w.heap.size := ⟨_, rfl⟩
    rw [← hb1] at kL
    simp only [← hb1]
    generalize w.alloc (.cells #[.slice none 0 0] 26) = w2 at *
    have hEB2 := hEB.below hx
    have hsx := hx.size
    have hbl : w.heap.size ≤ b1 := by omega
    clear hb1
    go_wp2_with fail
    refine (eachInP_any b1 t w2 w.heap.size (okI t) (InRd t b1) (by omega) hEB2 (by omega) ?_ ?_ ?_ ?_).mono ?_
    · intro x hx2
      simp only [List.mem_cons, List.not_mem_nil, or_false] at hx2
      subst hx2
      exact ⟨by omega, kL.lt⟩
    · intro L W h1 h2 h3
      exact InRd.start (kL.below h3) (by have := kL.lt; omega)
    · intro L k W h4
      exact h4.below (Below.refl _ _).drew
    · intro L k W hk h1 h2 h3 h4
      exact readIn_any t b1 w.heap.size L k W (by omega) hk h2 h3 (by omega) (by omega) h4
    rintro e w3 ⟨hst, rfl, hR⟩
    have hx3 : Below w.heap.size w w3 := hx.trans (hst.below (B := w.heap.size) hsx (fun x hx2 => by
      simp only [List.mem_cons, List.not_mem_nil, or_false] at hx2
      subst hx2; omega))
    clear kL hEB2 hst hx
    cases hs : stopL t (okI t) with
    | some i =>
      have HV := Lib.hid (readI_stop HBIG.out hs)
      clear hR hs
      simp only [eachV]
      go_wp2_with fail
      exact EARLY.out i 9 _ HV.out hx3
    | none =>
      obtain ⟨L, hL, hR⟩ := hR hs
      have HS := Lib.hid hs
      simp only [eachV]
      obtain ⟨hb1L, A, c, hbx, hown⟩ := hR
      clear hs
      have cz := hbx.lt
      obtain ⟨cx, _⟩ : w3.cell? ⟨b1, 0, none⟩ = some (.slice A (pcsI t (linesL t).length).length c) ∧ True := ⟨by simpa using hbx.cell 0, trivial⟩
      have hpl : (pcsI t (linesL t).length).length ≤ 1000001 := by rw [pcsI_len]; exact Nat.le_trans (linesL_le t).1 (by omega)
      have hr := (Row.of_own hown).weak (show w.heap.size ≤ L by omega)
      have HVB : Hid (inFault (pcsI t (linesL t).length) ≠ 0 → readI t = ([], 0, inFault (pcsI t (linesL t).length))) := Lib.hid (readI_bad HBIG.out HS.out)
      have HVO : Hid (inFault (pcsI t (linesL t).length) = 0 → readI t = (pcsI t (linesL t).length, 0, 0)) := Lib.hid (readI_ok HBIG.out HS.out)
      generalize pcsI t (linesL t).length = ps at *
      clear hown HS HBIG hL
      go_wp2_with fail
      refine (checkInput_any A c _ ps _ hr (by omega)).mono ?_
      rintro e w4 ⟨rfl, hb⟩
      replace hbx := hbx.below hb
      replace hr := hr.below hb
      have hx4 := below_up hx3 hb
      clear hb cx cz hx3
      have cz := hbx.lt
      obtain ⟨cx, _⟩ : w4.cell? ⟨b1, 0, none⟩ = some (.slice A ps.length c) ∧ True := ⟨by simpa using hbx.cell 0, trivial⟩
      by_cases hf : inFault ps = 0
      · have HV := Lib.hid (HVO.out hf)
        rw [hf]
        clear hf HVB HVO
        go_wp2_with fail
        exact LATE.out A c _ HV.out hr hx4
      · have HV := Lib.hid (HVB.out hf)
        have df : (inFault ps != 0) = true := by simpa using hf
        clear hf HVB HVO
        generalize inFault ps = ff at *
        go_wp2_with fail
        exact EARLY.out 0 ff _ HV.out hx4
set_option maxHeartbeats 8000000 in
set_option maxRecDepth 100000 in
theorem inputRead_any (t : List UInt8) (w : World) (ht : t.length ≤ 1000000) (hE : Env w) :
    Calls Tryz.prog 22 #[encStr t] w (InReadPost w t) := by
  have EARLY : Hid (∀ i e W', readI t = ([], i, e) → Below w.heap.size w W' → InReadPost w t (.returned (.tuple #[.slice none 0 0, .int .i64 i, .int .i64 e])) W') := Lib.hid (fun i e W' h hb => by
    refine ⟨none, 0, ?_, ?_, hb⟩
    · rw [h]; rfl
    · rw [h]; exact Row.none_ _ _ _ _)
  have LATE : Hid (∀ A c W', readI t = (pcsI t (linesL t).length, 0, 0) → Row W' w.heap.size 2 A (pcsI t (linesL t).length).length (prs (pcsI t (linesL t).length)) → Below w.heap.size w W' → InReadPost w t (.returned (.tuple #[.slice A (pcsI t (linesL t).length).length c, .int .i64 0, .int .i64 0])) W') := Lib.hid (fun A c W' h hh hb => by
    refine ⟨A, c, ?_, ?_, hb⟩
    · rw [h]
    · rw [h]; exact hh)
  generalize hP : InReadPost w t = Post at *
  clear hP
  have hEB := EnvB.of hE
  by_cases hbig : 200000 < t.length
  · have hd : decide ((200000 : Int) < (t.length : Int)) = true := by simp; omega
    have HV := Lib.hid (readI_large hbig)
    clear hbig
    go_enter Tryz.func22, Tryz.ntmps22
    go_wp2_with fail
    exact EARLY.out 0 2 _ HV.out (Below.refl _ _)
  · have hd : decide ((200000 : Int) < (t.length : Int)) = false := by simp; omega
    have HBIG := Lib.hid hbig
    clear hbig
    go_enter Tryz.func22, Tryz.ntmps22
    go_upto_region 2 with (fail)
    have kL : Blk (w.alloc (.cells #[.slice none 0 0] 26)) w.heap.size 26 #[.slice none 0 0] := Blk.new _ _ _
    have hx : Below w.heap.size w (w.alloc (.cells #[.slice none 0 0] 26)) := (Below.refl _ _).alloc (Nat.le_refl _) (.cells #[.slice none 0 0] 26)
    have hz2 : w.heap.size < (w.alloc (.cells #[.slice none 0 0] 26)).heap.size := by simp
    obtain ⟨b1, hb1⟩ : ∃ b1, b1 = w.heap.size := ⟨_, rfl⟩
    rw [← hb1] at kL
    simp only [← hb1]
    generalize w.alloc (.cells #[.slice none 0 0] 26) = w2 at *
    have hEB2 := hEB.below hx
    have hsx := hx.size
    have hbl : w.heap.size ≤ b1 := by omega
    clear hb1
    go_wp2_with fail
    refine (rlinesInR_any b1 t w2 w.heap.size (okI t) (InRd t b1) (by omega) hEB2 (by omega) ?_ ?_ ?_ ?_).mono ?_
    · intro x hx2
      simp only [List.mem_cons, List.not_mem_nil, or_false] at hx2
      subst hx2
      exact ⟨by omega, kL.lt⟩
    · intro L W h1 h2 h3
      exact InRd.start (kL.below h3) (by have := kL.lt; omega)
    · intro L k W h4
      exact h4.below (Below.refl _ _).drew
    · intro L k W hk h1 h2 h3 h4
      exact refIn_any t b1 w.heap.size L k W (by omega) hk h2 h3 (by omega) (by omega) h4
    rintro e w3 ⟨hst, rfl, hR⟩
    have hx3 : Below w.heap.size w w3 := hx.trans (hst.below (B := w.heap.size) hsx (fun x hx2 => by
      simp only [List.mem_cons, List.not_mem_nil, or_false] at hx2
      subst hx2; omega))
    clear kL hEB2 hst hx
    cases hs : stopL t (okI t) with
    | some i =>
      have HV := Lib.hid (readI_stop HBIG.out hs)
      clear hR hs
      simp only [eachV]
      go_wp2_with fail
      exact EARLY.out i 9 _ HV.out hx3
    | none =>
      obtain ⟨L, hL, hR⟩ := hR hs
      have HS := Lib.hid hs
      simp only [eachV]
      obtain ⟨hb1L, A, c, hbx, hown⟩ := hR
      clear hs
      have cz := hbx.lt
      obtain ⟨cx, _⟩ : w3.cell? ⟨b1, 0, none⟩ = some (.slice A (pcsI t (linesL t).length).length c) ∧ True := ⟨by simpa using hbx.cell 0, trivial⟩
      have hpl : (pcsI t (linesL t).length).length ≤ 1000001 := by rw [pcsI_len]; exact Nat.le_trans (linesL_le t).1 (by omega)
      have hr := (Row.of_own hown).weak (show w.heap.size ≤ L by omega)
      have HVB : Hid (inFault (pcsI t (linesL t).length) ≠ 0 → readI t = ([], 0, inFault (pcsI t (linesL t).length))) := Lib.hid (readI_bad HBIG.out HS.out)
      have HVO : Hid (inFault (pcsI t (linesL t).length) = 0 → readI t = (pcsI t (linesL t).length, 0, 0)) := Lib.hid (readI_ok HBIG.out HS.out)
      generalize pcsI t (linesL t).length = ps at *
      clear hown HS HBIG hL
      go_wp2_with fail
      refine (inputFault_any A c _ ps _ hr (by omega)).mono ?_
      rintro e w4 ⟨rfl, hb⟩
      replace hbx := hbx.below hb
      replace hr := hr.below hb
      have hx4 := below_up hx3 hb
      clear hb cx cz hx3
      have cz := hbx.lt
      obtain ⟨cx, _⟩ : w4.cell? ⟨b1, 0, none⟩ = some (.slice A ps.length c) ∧ True := ⟨by simpa using hbx.cell 0, trivial⟩
      by_cases hf : inFault ps = 0
      · have HV := Lib.hid (HVO.out hf)
        rw [hf]
        clear hf HVB HVO
        go_wp2_with fail
        exact LATE.out A c _ HV.out hr hx4
      · have HV := Lib.hid (HVB.out hf)
        have df : (inFault ps != 0) = true := by simpa using hf
        clear hf HVB HVO
        generalize inFault ps = ff at *
        go_wp2_with fail
        exact EARLY.out 0 ff _ HV.out hx4
end Go.Proofs.YtdidcjhgdofgcaaGreatDoor
