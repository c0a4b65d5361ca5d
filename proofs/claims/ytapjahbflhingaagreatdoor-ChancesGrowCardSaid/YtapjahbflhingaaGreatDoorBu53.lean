/- Texts of this seat, laid together: Hq Hc Sl Lv. -/
import Derived.IntWalk
import Derived.Test.YtapjahbflhingaaGreatDoorBu52
import Derived.Test.YtapjahbflhingaaGreatDoorBu24
import Derived.Test.YtapjahbflhingaaGreatDoorBu09
import Derived.Test.YtapjahbflhingaaGreatDoorBu01
import Derived.Test.YtapjahbflhingaaGreatDoorBu03
/- Plain laws of histories: the times of segments, their rows, records, where an attempt is, the least sums from the end on. No program in sight. -/
namespace Go.Proofs.YtapjahbflhingaaGreatDoor
set_option linter.unusedVariables false
set_option linter.unusedSimpArgs false


theorem getD_is {l : List Int} {k : Nat} (h : k < l.length) : l.getD k 0 = l[k] := by rw [List.getD_eq_getElem?_getD, List.getElem?_eq_getElem h]; rfl
/-- The time of a segment; 0: not known. -/
def tmA (l : List Int) (k : Nat) : Int := if l.getD k 0 ≠ 0 ∧ goodA l k then l.getD k 0 - pvA l k else 0
def tmL (l : List Int) (j : Nat) : List Int := (List.range j).map (tmA l)
theorem tmL_len (l : List Int) (j : Nat) : (tmL l j).length = j := by simp [tmL]
theorem tmL_snoc (l : List Int) (j : Nat) : tmL l (j + 1) = tmL l j ++ [tmA l j] := by simp [tmL, List.range_succ]
theorem tmL_at (l : List Int) (j i : Nat) (h : i < (tmL l j).length) : (tmL l j)[i] = tmA l i := by simp [tmL]
theorem tmA_zero {l : List Int} {k : Nat} (hk : k < l.length) (h : l[k] = 0) : tmA l k = 0 := by
  unfold tmA; rw [getD_is hk, if_neg (fun x => x.1 h)]
theorem tmA_first {l : List Int} (hk : 0 < l.length) : tmA l 0 = l[0] := by
  unfold tmA
  rw [getD_is hk]
  by_cases h : l[0] = 0
  · rw [if_neg (fun x => x.1 h), h]
  · rw [if_pos ⟨h, .inl rfl⟩]; simp [pvA]
theorem tmA_gap {l : List Int} {k : Nat} (hk : k + 1 < l.length) (h : l[k] = 0) : tmA l (k + 1) = 0 := by
  unfold tmA
  rw [if_neg]
  rintro ⟨_, h1 | ⟨_, h1⟩⟩
  · omega
  · rw [Nat.add_sub_cancel, getD_is (by omega)] at h1; exact h1 h
theorem tmA_diff {l : List Int} {k : Nat} (hk : k + 1 < l.length) (h : l[k] ≠ 0) (h1 : l[k + 1] ≠ 0) : tmA l (k + 1) = l[k + 1] - l[k] := by
  unfold tmA
  rw [getD_is hk, if_pos ⟨h1, .inr ⟨by omega, by rw [Nat.add_sub_cancel, getD_is (by omega)]; exact h⟩⟩]
  unfold pvA
  rw [if_neg (by omega), Nat.add_sub_cancel, getD_is (by omega)]
theorem spl_le {n : Nat} {l : List Int} (h : SplOk n l) {i k : Nat} (hk : k < l.length) (hi : i < k) (h0 : l[k] ≠ 0) : l[i] < l[k] := by
  have h1 := h.up k hk h0
  have h2 : ∀ (m : List Int) (a : Int), a ≤ m.foldl max a ∧ ∀ x ∈ m, x ≤ m.foldl max a := by
    intro m
    induction m with
    | nil => intro a; exact ⟨Int.le_refl _, fun x hx => by cases hx⟩
    | cons y m ih =>
      intro a
      have := ih (max a y)
      refine ⟨by simp only [List.foldl_cons]; omega, fun x hx => ?_⟩
      rcases List.mem_cons.1 hx with rfl | hx
      · simp only [List.foldl_cons]; omega
      · exact this.2 x hx
  have h3 := (h2 (l.take k) 0).2 l[i] (by rw [List.mem_take_iff_getElem]; exact ⟨i, by omega, rfl⟩)
  unfold sgM at h1
  omega
theorem tmA_bd {n : Nat} {l : List Int} (h : SplOk n l) (k : Nat) : 0 ≤ tmA l k ∧ tmA l k ≤ 864000000 := by
  rcases Nat.lt_or_ge k l.length with hk | hk
  · by_cases h0 : l[k] = 0
    · rw [tmA_zero hk h0]; omega
    · have b := h.bd k hk
      rcases k with _ | k
      · rw [tmA_first hk]; exact b
      · by_cases h1 : l[k] = 0
        · rw [tmA_gap hk h1]; omega
        · rw [tmA_diff hk h1 h0]
          have := spl_le h hk (Nat.lt_succ_self k) h0
          have := h.bd k (by omega)
          omega
  · have : tmA l k = 0 := by
      unfold tmA
      rw [if_neg]
      rintro ⟨h1, _⟩
      rw [List.getD_eq_getElem?_getD, List.getElem?_eq_none (by omega)] at h1
      exact h1 rfl
    omega

/-- The known times of a segment, attempt by attempt. -/
def rowA (atts : List Att) (k : Nat) : List Int := atts.flatMap fun a => if k < a.2.length ∧ 0 < tmA a.2 k then [tmA a.2 k] else []
theorem rowA_snoc (atts : List Att) (a : Att) (k : Nat) : rowA (atts ++ [a]) k = rowA atts k ++ if k < a.2.length ∧ 0 < tmA a.2 k then [tmA a.2 k] else [] := by simp [rowA]
theorem rowA_take (atts : List Att) (j k : Nat) (hj : j < atts.length) : rowA (atts.take (j + 1)) k = rowA (atts.take j) k ++ if k < atts[j].2.length ∧ 0 < tmA atts[j].2 k then [tmA atts[j].2 k] else [] := by
  rw [List.take_succ_eq_append_getElem hj, rowA_snoc]
theorem rowA_len (atts : List Att) (k : Nat) : (rowA atts k).length ≤ atts.length := by
  induction atts with
  | nil => simp [rowA]
  | cons a atts ih =>
    have e : rowA (a :: atts) k = (if k < a.2.length ∧ 0 < tmA a.2 k then [tmA a.2 k] else []) ++ rowA atts k := by simp [rowA]
    rw [e, List.length_append, List.length_cons]
    split <;> simp <;> omega
theorem rowA_bd {n : Nat} {atts : List Att} (h : ∀ i (hi : i < atts.length), SplOk n atts[i].2) (k : Nat) : ∀ x ∈ rowA atts k, 0 < x ∧ x ≤ 864000000 := by
  intro x hx
  obtain ⟨a, ha, hx⟩ := List.mem_flatMap.1 hx
  obtain ⟨i, hi, rfl⟩ := List.mem_iff_getElem.1 ha
  split at hx
  · rename_i h1
    simp at hx
    subst hx
    exact ⟨h1.2, (tmA_bd (h i hi) k).2⟩
  · cases hx
/-- What one attempt adds to the rows, after so many of its segments. -/
def rowP (atts : List Att) (l : List Int) (j k : Nat) : List Int := rowA atts k ++ if k < j ∧ k < l.length ∧ 0 < tmA l k then [tmA l k] else []
end Go.Proofs.YtapjahbflhingaaGreatDoor
/- The walks of segment.times and splitref1.LengthsOf at right splits. -/
namespace Go.Proofs.YtapjahbflhingaaGreatDoor
set_option linter.unusedVariables false
set_option linter.unusedSimpArgs false
open Go.RowKit

theorem info_int : (Tryz.prog.info? 3).map (fun i => (i.zero, i.size, i.bytes)) = some (some (.int .i64 0), 1, 8) := by kernel_rfl
theorem ints_repz (n : Nat) : (madeCells #[Value.int .i64 0] n).toList = ints (List.replicate n 0) := by
  rw [toList_madeCells_one]
  simp [ints]
theorem ints_set (xs : List Int) (k : Nat) (x : Int) : (ints xs).set k (.int .i64 x) = ints (xs.set k x) := by simp [ints, List.map_set]
/-- What is laid down after so many segments. -/
def tmS (l : List Int) (k n : Nat) : List Int := tmL l k ++ List.replicate (n - k) 0
theorem tmS_len (l : List Int) (k n : Nat) (h : k ≤ n) : (tmS l k n).length = n := by simp [tmS, tmL_len]; omega
theorem tmS_zero (l : List Int) (n : Nat) : tmS l 0 n = List.replicate n 0 := by simp [tmS, tmL]
theorem tmS_end (l : List Int) (n : Nat) : tmS l n n = tmL l n := by simp [tmS]
theorem tmS_next {l : List Int} {k n : Nat} (h : k < n) : tmS l (k + 1) n = (tmS l k n).set k (tmA l k) := by
  have e : n - k = (n - (k + 1)) + 1 := by omega
  unfold tmS
  rw [tmL_snoc, e, List.replicate_succ, List.set_append_right _ _ (by rw [tmL_len]; exact Nat.le_refl _), tmL_len, Nat.sub_self]
  simp
theorem tmS_same {l : List Int} {k n : Nat} (h : k < n) (h0 : tmA l k = 0) : tmS l (k + 1) n = tmS l k n := by
  have e : n - k = (n - (k + 1)) + 1 := by omega
  unfold tmS
  rw [tmL_snoc, h0, e, List.replicate_succ]
  simp

set_option maxHeartbeats 2000000 in
theorem htimes_any (many : Nat) (B : Option Addr) (c lo : Nat) (l : List Int) (w : World) (hr : Row w lo 1 B l.length (ints l)) (hl : l.length ≤ 1000000000) (hok : SplOk many l) :
    Calls Tryz.prog 47 #[.slice B l.length c] w fun e w' => ∃ A' c', e = .returned (.slice A' (tmL l l.length).length c') ∧ w'.ownsRow w.heap.size 3 1 (.slice A' (tmL l l.length).length c') (tmL l l.length).length (ints (tmL l l.length)) ∧ Below w.heap.size w w' := by
  obtain ⟨und, _, _⟩ := ty_ints
  obtain ⟨i0, hi0, hz0, hz1, hz2⟩ := info_parts info_int
  have HO := Lib.hid hok
  clear hok
  have HE : Hid ((tmL l l.length).length = l.length) := Lib.hid (tmL_len _ _)
  go_enter Tryz.func47, Tryz.ntmps47
  go_wp2_with (at_make; go_must (refine wpList_make_full _ rfl _ _ 22 rfl w.heap.size 3 i0 _ 1 und hi0 hz0 hz1 .i64 .i64 _ _ l.length rfl rfl rfl rfl (by rw [hz2]; omega) (by simp only [maxLen]; omega) (Nat.le_refl _) ?_))
  intro w1 hown1 hg1
  rw [ints_repz, ← tmS_zero l] at hown1
  have hb1 : Below w.heap.size w w1 := (Below.refl _ _).grown hg1 (Nat.le_refl _) (fun k hk => by cases hk)
  clear hg1
  go_wp2_with fail
  go_loopw [12] (fun i wr => ∃ k : Nat, k ≤ l.length ∧ i = .int .i64 k ∧ wr.ownsRow w.heap.size 3 1 (.slice (some ⟨w.heap.size, 0, none⟩) l.length l.length) l.length (ints (tmS l k l.length)) ∧ Below w.heap.size w wr) (fun i _ => l.length - (intOf i).toNat)
  case atStart => exact ⟨0, Nat.zero_le _, rfl, hown1, hb1⟩
  case round =>
    obtain ⟨k, hk, rfl, hown, hbw⟩ := hrel
    clear hown1 hb1
    by_cases hlt : k < l.length
    · obtain ⟨b, off, rfl, _, hbs, c0⟩ := (hr.below hbw).int_at hlt
      obtain ⟨g, hg, hg1, hgs, hcs, hfr⟩ := ownBlk hown (by omega)
      have eg : g = w.heap.size := (congrArg Addr.block (Option.some.inj hg)).symm
      rw [eg] at hcs hfr
      clear eg hg1 hgs
      obtain ⟨old, ck⟩ : ∃ old, wr.cell? ⟨w.heap.size, k, none⟩ = some old := by
        have hll : k < (tmS l k l.length).length := by rw [tmS_len _ _ _ hk]; exact hlt
        exact ⟨_, hcs k (.int .i64 (tmS l k l.length)[k]) (by simp [ints, List.getElem?_eq_getElem hll])⟩
      have fk := hfr k
      clear hcs hfr hg
      have HNX := Lib.hid (tmS_next (l := l) hlt)
      have HSM := Lib.hid (tmS_same (l := l) hlt)
      have HST := Lib.hid (fun x => by have := (hown.stored k (.int .i64 x)); rw [ints_set] at this; exact this)
      have bd := HO.out.bd k hlt
      by_cases h0 : l[k] = 0
      · have HF := Lib.hid (HSM.out (tmA_zero hlt h0))
        have d1 : (l[k] != 0) = false := by simpa using h0
        generalize l[k] = x at *
        clear HSM HNX h0
        by_cases hk0 : k = 0
        · have d0 : decide ((0 : Int) < (k : Int)) = false := by simp; omega
          have d0' : decide (0 < k) = false := by simp; omega
          have d2 : (k : Int) ≤ 0 := by omega
          clear hk0
          go_wp2_with fail
          go_roundw
          case rel => exact ⟨k + 1, by omega, by go_num, by rw [HF.out]; exact hown, hbw⟩
          case measure => simp [intOf]; omega
        · have d0 : decide ((0 : Int) < (k : Int)) = true := by simp; omega
          have d0' : decide (0 < k) = true := by simp; omega
          have d2 : (0 : Int) < (k : Int) := by omega
          obtain ⟨b', off', e', _, hbs', cp⟩ := (hr.below hbw).int_at (k := k - 1) (by omega)
          obtain ⟨rfl, rfl⟩ : b' = b ∧ off' = off := by injection e' with e'; injection e' with h1 h2; exact ⟨h1.symm, h2.symm⟩
          generalize l[k - 1] = y at *
          have d3 : IntKind.i64.wrap ((k : Int) - 1) = ((k - 1 : Nat) : Int) := by rw [IntWalk.i64_in _ (by omega)]; omega
          clear e' hk0
          have hk1 : k - 1 < l.length := by omega
          go_wp2_with fail
          go_roundw
          case rel => exact ⟨k + 1, by omega, by go_num, by rw [HF.out]; exact hown, hbw⟩
          case measure => simp [intOf]; omega
      · have d1 : (l[k] != 0) = true := by simpa using h0
        by_cases hk0 : k = 0
        · have HT : Hid (tmA l k = l[k] - 0) := Lib.hid (by subst hk0; rw [tmA_first hlt]; omega)
          have HF : Hid (tmS l (k + 1) l.length = (tmS l k l.length).set k (l[k] - 0)) := Lib.hid (by rw [HNX.out, HT.out])
          generalize l[k] = x at *
          have d0 : decide ((0 : Int) < (k : Int)) = false := by simp; omega
          have d0' : decide (0 < k) = false := by simp; omega
          have d2 : (k : Int) ≤ 0 := by omega
          have d4 : ((k : Int) == 0) = true := by rw [beq_iff_eq]; omega
          have d5 : IntKind.i64.wrap (x - 0) = x - 0 := IntWalk.i64_in _ (by omega)
          have hs := HST.out (x - 0)
          clear hk0 HT HNX HSM h0
          go_wp2_with fail
          go_roundw
          case rel => exact ⟨k + 1, by omega, by go_num, by rw [HF.out]; first | exact hs.1 | simpa using hs.1, Below.setCell hbw (Nat.le_refl _) _⟩
          case measure => simp [intOf]; omega
        · have d0 : decide ((0 : Int) < (k : Int)) = true := by simp; omega
          have d0' : decide (0 < k) = true := by simp; omega
          have d2 : (0 : Int) < (k : Int) := by omega
          have d4 : ((k : Int) == 0) = false := by rw [beq_eq_false_iff_ne]; omega
          obtain ⟨b', off', e', _, hbs', cp⟩ := (hr.below hbw).int_at (k := k - 1) (by omega)
          obtain ⟨rfl, rfl⟩ : b' = b ∧ off' = off := by injection e' with e'; injection e' with h1 h2; exact ⟨h1.symm, h2.symm⟩
          have d3 : IntKind.i64.wrap ((k : Int) - 1) = ((k - 1 : Nat) : Int) := by rw [IntWalk.i64_in _ (by omega)]; omega
          have hk1 : k - 1 < l.length := by omega
          have bd' := HO.out.bd (k - 1) hk1
          have HG : Hid (l[k - 1] = 0 → tmA l k = 0) := Lib.hid (fun h => by
            obtain ⟨m, rfl⟩ : ∃ m, k = m + 1 := ⟨k - 1, by omega⟩
            exact tmA_gap hlt (by simpa using h))
          have HD : Hid (l[k - 1] ≠ 0 → tmA l k = l[k] - l[k - 1]) := Lib.hid (fun h => by
            obtain ⟨m, rfl⟩ : ∃ m, k = m + 1 := ⟨k - 1, by omega⟩
            simpa using tmA_diff hlt (by simpa using h) h0)
          generalize l[k - 1] = y at *
          clear e' hk0 h0
          by_cases hy : y = 0
          · have HF := Lib.hid (HSM.out (HG.out hy))
            have d6 : (y != 0) = false := by simpa using hy
            generalize l[k] = x at *
            clear hy HG HD HSM HNX
            go_wp2_with fail
            go_roundw
            case rel => exact ⟨k + 1, by omega, by go_num, by rw [HF.out]; exact hown, hbw⟩
            case measure => simp [intOf]; omega
          · have HF : Hid (tmS l (k + 1) l.length = (tmS l k l.length).set k (l[k] - y)) := Lib.hid (by rw [HNX.out, HD.out hy])
            have d6 : (y != 0) = true := by simpa using hy
            generalize l[k] = x at *
            have d5 : IntKind.i64.wrap (x - y) = x - y := IntWalk.i64_in _ (by omega)
            have hs := HST.out (x - y)
            clear hy HG HD HSM HNX
            go_wp2_with fail
            go_roundw
            case rel => exact ⟨k + 1, by omega, by go_num, by rw [HF.out]; exact hs.1, Below.setCell hbw (Nat.le_refl _) _⟩
            case measure => simp [intOf]; omega
    · have hkn : k = l.length := by omega
      subst hkn
      rw [tmS_end] at hown
      go_wp2_with fail
      go_ret
      exact ⟨some ⟨w.heap.size, 0, none⟩, l.length, by rw [HE.out]; rfl, by rw [HE.out]; exact hown, hbw⟩

set_option maxHeartbeats 2000000 in
theorem lengthsOf_any (many : Nat) (B : Option Addr) (c lo : Nat) (l : List Int) (w : World) (hr : Row w lo 1 B l.length (ints l)) (hl : l.length ≤ 1000000000) (hok : SplOk many l) :
    Calls Tryz.prog 59 #[.slice B l.length c] w fun e w' => ∃ A' c', e = .returned (.slice A' (tmL l l.length).length c') ∧ w'.ownsRow w.heap.size 3 1 (.slice A' (tmL l l.length).length c') (tmL l l.length).length (ints (tmL l l.length)) ∧ Below w.heap.size w w' := by
  have HO := Lib.hid hok
  clear hok
  go_enter Tryz.func59, Tryz.ntmps59
  go_wp2_with fail
  go_loopw [3, 9] (fun v i wr => ∃ (k : Nat) (A' : Option Addr) (c' : Nat), k ≤ l.length ∧ i = .int .i64 k ∧ v = .slice A' (tmL l k).length c' ∧ wr.ownsRow w.heap.size 3 1 (.slice A' (tmL l k).length c') (tmL l k).length (ints (tmL l k)) ∧ Below w.heap.size w wr) (fun _ i _ => l.length - (intOf i).toNat)
  case atStart => exact ⟨0, none, 0, Nat.zero_le _, rfl, rfl, World.ownsRow_nil _ _ _ _, Below.refl _ _⟩
  case round =>
    obtain ⟨k, A', c', hk, rfl, rfl, hown, hbw⟩ := hrel
    have hz := hbw.size
    by_cases hlt : k < l.length
    · obtain ⟨b, off, rfl, _, hbs, c0⟩ := (hr.below hbw).int_at hlt
      have bd := HO.out.bd k hlt
      have HS := Lib.hid (tmL_snoc l k)
      have hlk : (tmL l k).length ≤ 1000000000 := by rw [tmL_len]; omega
      generalize tmL l k = o at *
      by_cases hk0 : k = 0
      · have HT : Hid (tmA l k = l[k]) := Lib.hid (by subst hk0; exact tmA_first hlt)
        have d0 : decide ((0 : Int) < (k : Int)) = false := by simp; omega
        have d0' : decide (0 < k) = false := by simp; omega
        have d2 : (k : Int) ≤ 0 := by omega
        have d4 : ((k : Int) == 0) = true := by rw [beq_iff_eq]; omega
        generalize l[k] = x at *
        clear hk0
        by_cases hx : x = 0
        · have HF : Hid (tmL l (k + 1) = o ++ [0]) := Lib.hid (by rw [HS.out, HT.out, hx])
          have d1 : decide (0 < x) = false := by simp; omega
          clear hx HS HT
          go_wp2_with (at_builtin; go_must (refine wpList_app (lo := w.heap.size) (base := w.heap.size) (n := o.length) (xs := ints o) _ _ rfl _ _ ty_ints rfl (by repeat (first | exact hown | refine World.ownsRow.alloc ?_ _ | refine own_drewN ?_ _ | refine World.ownsRow.drew ?_)) rfl (by first | exact row_new' _ (by first | rfl | simp) (by first | omega | (simp; omega)) rfl | exact row_newN _ _ (by first | rfl | simp) (by first | omega | (simp; omega)) rfl | exact row_newD _ (by first | rfl | simp) (by first | omega | (simp; omega)) rfl) rfl rfl (by first | omega | decide) (by first | omega | decide) (by first | omega | (simp; omega)) ?_))
          intro A5 c5 w5 hown5 hg5 _
          go_wp2_with fail
          go_roundw
          case rel => exact ⟨k + 1, A5, c5, by omega, by go_num, by rw [HF.out]; simp, by rw [HF.out, ints_app, List.length_append]; exact hown5, below_app hown (by repeat (first | exact hbw | refine Below.alloc ?_ (by first | omega | (simp; omega)) _ | refine below_drewN' ?_ _ | refine Below.drew ?_)) hg5 (Nat.le_refl _) (by simp; omega)⟩
          case measure => simp [intOf]; omega
        · have HF : Hid (tmL l (k + 1) = o ++ [x]) := Lib.hid (by rw [HS.out, HT.out])
          have d1 : decide (0 < x) = true := by simp; omega
          clear hx HS HT
          go_wp2_with (at_builtin; go_must (refine wpList_app (lo := w.heap.size) (base := w.heap.size) (n := o.length) (xs := ints o) _ _ rfl _ _ ty_ints rfl (by repeat (first | exact hown | refine World.ownsRow.alloc ?_ _ | refine own_drewN ?_ _ | refine World.ownsRow.drew ?_)) rfl (by first | exact row_new' _ (by first | rfl | simp) (by first | omega | (simp; omega)) rfl | exact row_newN _ _ (by first | rfl | simp) (by first | omega | (simp; omega)) rfl | exact row_newD _ (by first | rfl | simp) (by first | omega | (simp; omega)) rfl) rfl rfl (by first | omega | decide) (by first | omega | decide) (by first | omega | (simp; omega)) ?_))
          intro A5 c5 w5 hown5 hg5 _
          go_wp2_with fail
          go_roundw
          case rel => exact ⟨k + 1, A5, c5, by omega, by go_num, by rw [HF.out]; simp, by rw [HF.out, ints_app, List.length_append]; exact hown5, below_app hown (by repeat (first | exact hbw | refine Below.alloc ?_ (by first | omega | (simp; omega)) _ | refine below_drewN' ?_ _ | refine Below.drew ?_)) hg5 (Nat.le_refl _) (by simp; omega)⟩
          case measure => simp [intOf]; omega
      · have d0 : decide ((0 : Int) < (k : Int)) = true := by simp; omega
        have d0' : decide (0 < k) = true := by simp; omega
        have d2 : (0 : Int) < (k : Int) := by omega
        have d4 : ((k : Int) == 0) = false := by rw [beq_eq_false_iff_ne]; omega
        obtain ⟨b', off', e', _, hbs', cp⟩ := (hr.below hbw).int_at (k := k - 1) (by omega)
        obtain ⟨rfl, rfl⟩ : b' = b ∧ off' = off := by injection e' with e'; injection e' with h1 h2; exact ⟨h1.symm, h2.symm⟩
        have d3 : IntKind.i64.wrap ((k : Int) - 1) = ((k - 1 : Nat) : Int) := by rw [IntWalk.i64_in _ (by omega)]; omega
        have hk1 : k - 1 < l.length := by omega
        have bd' := HO.out.bd (k - 1) hk1
        have HZ : Hid (l[k] = 0 → tmA l k = 0) := Lib.hid (fun h => tmA_zero hlt h)
        have HG : Hid (l[k - 1] = 0 → tmA l k = 0) := Lib.hid (fun h => by
          obtain ⟨m, rfl⟩ : ∃ m, k = m + 1 := ⟨k - 1, by omega⟩
          exact tmA_gap hlt (by simpa using h))
        have HD : Hid (l[k] ≠ 0 → l[k - 1] ≠ 0 → tmA l k = l[k] - l[k - 1]) := Lib.hid (fun h0 h => by
          obtain ⟨m, rfl⟩ : ∃ m, k = m + 1 := ⟨k - 1, by omega⟩
          simpa using tmA_diff hlt (by simpa using h) h0)
        generalize l[k - 1] = y at *
        generalize l[k] = x at *
        clear e' hk0
        by_cases hx : x = 0
        · have HF : Hid (tmL l (k + 1) = o ++ [0]) := Lib.hid (by rw [HS.out, HZ.out hx])
          have d1 : decide (0 < x) = false := by simp; omega
          clear hx HS HZ HG HD
          go_wp2_with (at_builtin; go_must (refine wpList_app (lo := w.heap.size) (base := w.heap.size) (n := o.length) (xs := ints o) _ _ rfl _ _ ty_ints rfl (by repeat (first | exact hown | refine World.ownsRow.alloc ?_ _ | refine own_drewN ?_ _ | refine World.ownsRow.drew ?_)) rfl (by first | exact row_new' _ (by first | rfl | simp) (by first | omega | (simp; omega)) rfl | exact row_newN _ _ (by first | rfl | simp) (by first | omega | (simp; omega)) rfl | exact row_newD _ (by first | rfl | simp) (by first | omega | (simp; omega)) rfl) rfl rfl (by first | omega | decide) (by first | omega | decide) (by first | omega | (simp; omega)) ?_))
          intro A5 c5 w5 hown5 hg5 _
          go_wp2_with fail
          go_roundw
          case rel => exact ⟨k + 1, A5, c5, by omega, by go_num, by rw [HF.out]; simp, by rw [HF.out, ints_app, List.length_append]; exact hown5, below_app hown (by repeat (first | exact hbw | refine Below.alloc ?_ (by first | omega | (simp; omega)) _ | refine below_drewN' ?_ _ | refine Below.drew ?_)) hg5 (Nat.le_refl _) (by simp; omega)⟩
          case measure => simp [intOf]; omega
        · have d1 : decide (0 < x) = true := by simp; omega
          by_cases hy : y = 0
          · have HF : Hid (tmL l (k + 1) = o ++ [0]) := Lib.hid (by rw [HS.out, HG.out hy])
            have d6 : decide (0 < y) = false := by simp; omega
            clear hx hy HS HZ HG HD
            go_wp2_with (at_builtin; go_must (refine wpList_app (lo := w.heap.size) (base := w.heap.size) (n := o.length) (xs := ints o) _ _ rfl _ _ ty_ints rfl (by repeat (first | exact hown | refine World.ownsRow.alloc ?_ _ | refine own_drewN ?_ _ | refine World.ownsRow.drew ?_)) rfl (by first | exact row_new' _ (by first | rfl | simp) (by first | omega | (simp; omega)) rfl | exact row_newN _ _ (by first | rfl | simp) (by first | omega | (simp; omega)) rfl | exact row_newD _ (by first | rfl | simp) (by first | omega | (simp; omega)) rfl) rfl rfl (by first | omega | decide) (by first | omega | decide) (by first | omega | (simp; omega)) ?_))
            intro A5 c5 w5 hown5 hg5 _
            go_wp2_with fail
            go_roundw
            case rel => exact ⟨k + 1, A5, c5, by omega, by go_num, by rw [HF.out]; simp, by rw [HF.out, ints_app, List.length_append]; exact hown5, below_app hown (by repeat (first | exact hbw | refine Below.alloc ?_ (by first | omega | (simp; omega)) _ | refine below_drewN' ?_ _ | refine Below.drew ?_)) hg5 (Nat.le_refl _) (by simp; omega)⟩
            case measure => simp [intOf]; omega
          · have HF : Hid (tmL l (k + 1) = o ++ [x - y]) := Lib.hid (by rw [HS.out, HD.out hx hy])
            have d6 : decide (0 < y) = true := by simp; omega
            have d5 : IntKind.i64.wrap (x - y) = x - y := IntWalk.i64_in _ (by omega)
            clear hx hy HS HZ HG HD
            go_wp2_with (at_builtin; go_must (refine wpList_app (lo := w.heap.size) (base := w.heap.size) (n := o.length) (xs := ints o) _ _ rfl _ _ ty_ints rfl (by repeat (first | exact hown | refine World.ownsRow.alloc ?_ _ | refine own_drewN ?_ _ | refine World.ownsRow.drew ?_)) rfl (by first | exact row_new' _ (by first | rfl | simp) (by first | omega | (simp; omega)) rfl | exact row_newN _ _ (by first | rfl | simp) (by first | omega | (simp; omega)) rfl | exact row_newD _ (by first | rfl | simp) (by first | omega | (simp; omega)) rfl) rfl rfl (by first | omega | decide) (by first | omega | decide) (by first | omega | (simp; omega)) ?_))
            intro A5 c5 w5 hown5 hg5 _
            go_wp2_with fail
            go_roundw
            case rel => exact ⟨k + 1, A5, c5, by omega, by go_num, by rw [HF.out]; simp, by rw [HF.out, ints_app, List.length_append]; exact hown5, below_app hown (by repeat (first | exact hbw | refine Below.alloc ?_ (by first | omega | (simp; omega)) _ | refine below_drewN' ?_ _ | refine Below.drew ?_)) hg5 (Nat.le_refl _) (by simp; omega)⟩
            case measure => simp [intOf]; omega
    · have hkn : k = l.length := by omega
      subst hkn
      go_wp2_with fail
      go_ret
      exact ⟨A', c', rfl, hown, hbw⟩
end Go.Proofs.YtapjahbflhingaaGreatDoor
/- Plain laws: the sum of best is no more than any attempt's way, than the golds together, than what a live run can reach. No program in sight. -/
namespace Go.Proofs.YtapjahbflhingaaGreatDoor
set_option linter.unusedVariables false
set_option linter.unusedSimpArgs false

end Go.Proofs.YtapjahbflhingaaGreatDoor
/- Plain laws of comparisons: levels and means of rows, sums from the first on, the greatest part that is in time. No program in sight. -/
namespace Go.Proofs.YtapjahbflhingaaGreatDoor
set_option linter.unusedVariables false
set_option linter.unusedSimpArgs false

/-- A row as it is meant: sorted, of times. -/
structure RowOk (row : List Int) : Prop where
  up : ∀ i (h : i + 1 < row.length), row[i] ≤ row[i + 1]
  bd : ∀ x ∈ row, 0 < x ∧ x ≤ 864000000
  m : row.length ≤ 500
theorem RowOk.at {row : List Int} (h : RowOk row) {i : Nat} (hi : i < row.length) : 0 < row[i] ∧ row[i] ≤ 864000000 := h.bd _ (List.getElem_mem hi)
end Go.Proofs.YtapjahbflhingaaGreatDoor
