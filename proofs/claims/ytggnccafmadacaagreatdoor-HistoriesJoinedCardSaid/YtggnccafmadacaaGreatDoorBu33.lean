/- Texts of this seat, laid together: Hf Mgr Hmg. -/
import Derived.Test.YtggnccafmadacaaGreatDoorBu25
import Derived.Test.YtggnccafmadacaaGreatDoorBu27
import Derived.Test.YtggnccafmadacaaGreatDoorBu31
import Derived.Test.YtggnccafmadacaaGreatDoorBu32
import Derived.Test.YtggnccafmadacaaGreatDoorBu21
import Derived.Test.YtggnccafmadacaaGreatDoorBu23
import Derived.Test.YtggnccafmadacaaGreatDoorBu26
import Derived.Test.YtggnccafmadacaaGreatDoorBu14
/- The walks of segment.Times, Golds, Records (and of SumOfBest and Best where a history is not right), splitref1.AttemptAt and RecordsOf. -/
namespace Go.Proofs.YtggnccafmadacaaGreatDoor
set_option linter.unusedVariables false
set_option linter.unusedSimpArgs false
open Go.RowKit

set_option maxHeartbeats 1000000 in
theorem SumOfBest_bad (SA TA : Option Addr) (c d lo : Nat) (segs : List (List UInt8)) (atts : List Att) (w : World) (hh : Hist w lo SA TA segs atts) (hz : HistSz segs atts c) (hf : histF segs atts ≠ 0) :
    Calls Tryz.prog 103 #[.agg #[.slice SA segs.length c, .slice TA atts.length d]] w fun e w' => e = .returned (.tuple #[.int .i64 0, .bool false, .int .i64 (histF segs atts)]) ∧ Below w.heap.size w w' := by
  have d5 : (histF segs atts != 0) = true := by simpa using hf
  clear hf
  go_enter Tryz.func103, Tryz.ntmps103
  go_wp2_with fail
  have hb0 : Below w.heap.size w (w.alloc (.cells #[.slice SA segs.length c, .slice TA atts.length d] 56)) := (Below.refl _ _).alloc (Nat.le_refl _) _
  have hk0 : Blk (w.alloc (.cells #[.slice SA segs.length c, .slice TA atts.length d] 56)) w.heap.size 56 #[.slice SA segs.length c, .slice TA atts.length d] := Blk.new _ _ _
  have hh0 := hh.alloc (.cells #[.slice SA segs.length c, .slice TA atts.length d] 56)
  generalize w.alloc (.cells #[.slice SA segs.length c, .slice TA atts.length d] 56) = w0 at *
  refine (checkHistory_any _ _ _ _ _ segs atts _ hh0 hz.hc hz.h9 hz.h8 hz.h7 hz.h6).mono ?_
  rintro e w1 ⟨rfl, hb1⟩
  have hh1 := hh0.below hb1
  have hk1 := hk0.below hb1
  have hx1 := hb0.trans (hb1.mono hb0.size)
  clear hb1 hb0 hh0 hk0 hh
  generalize he : histF segs atts = ef at *
  have HE := Lib.hid he
  clear he
  go_wp2_with fail
  go_returns
  exact ⟨by first | (rw [HE.out]; done) | (rw [HE.out]; rfl), hx1⟩
/-- The times of an attempt by its number. -/
def timesAt (atts : List Att) (no : Int) : List Int := if atI atts no < 0 then [] else tmL (atts.getD (atI atts no).toNat (0, [])).2 (atts.getD (atI atts no).toNat (0, [])).2.length
def timesE (atts : List Att) (no : Int) : Int := if atI atts no < 0 then 8 else 0
theorem timesAt_none {atts : List Att} {no : Int} (h : atI atts no = -1) : timesAt atts no = [] ∧ timesE atts no = 8 := by simp [timesAt, timesE, h]
theorem timesAt_some {atts : List Att} {no : Int} {k : Nat} (hk : k < atts.length) (h : atI atts no = k) : timesAt atts no = tmL atts[k].2 atts[k].2.length ∧ timesE atts no = 0 := by
  have hn : ¬ (k : Int) < 0 := by omega
  have e : atts.getD k (0, []) = atts[k] := by rw [List.getD_eq_getElem?_getD, List.getElem?_eq_getElem hk]; rfl
  simp only [timesAt, timesE, h, hn, if_false, Int.toNat_natCast, e, and_self]
theorem attemptAt1_any (B : Option Addr) (k cc g : Nat) (n no : Int) (w : World) (hg : Blk w g 3 #[.int .i64 no]) :
    Calls Tryz.prog 133 #[.agg #[.int .i64 n, .slice B k cc], .pointer (some ⟨g, 0, none⟩)] w fun e w' => e = .returned (.bool (n == no)) ∧ Below w.heap.size w w' := by
  have c0 : w.cell? ⟨g, 0, none⟩ = some (.int .i64 no) := by simpa using hg.cell 0
  have zg := hg.lt
  go_enter Tryz.func133, Tryz.ntmps133
  go_wp2_with fail
  go_ret
  exact ⟨rfl, (Below.refl _ _).alloc (Nat.le_refl _) _⟩
set_option maxHeartbeats 1000000 in
theorem indexFuncA_any (TA : Option Addr) (d g lo : Nat) (SA : Option Addr) (segs : List (List UInt8)) (atts : List Att) (no : Int) (w : World) (hh : Hist w lo SA TA segs atts) (hg : Blk w g 3 #[.int .i64 no]) (hm : atts.length ≤ 1000000000) :
    Calls Tryz.prog 132 #[.slice TA atts.length d, .func (.func 133) #[] #[.pointer (some ⟨g, 0, none⟩)]] w fun e w' => e = .returned (.int .i64 (atI atts no)) ∧ Below w.heap.size w w' := by
  go_enter Tryz.func132, Tryz.ntmps132
  go_wp2_with fail
  go_loopw [8] (fun i wr => ∃ k : Nat, k ≤ atts.length ∧ i = .int .i64 k ∧ Hid (∀ j (hj : j < atts.length), j < k → atts[j].1 ≠ no) ∧ Below w.heap.size w wr) (fun i _ => atts.length - (intOf i).toNat)
  case atStart => exact ⟨0, Nat.zero_le _, rfl, Lib.hid (fun _ _ h => absurd h (Nat.not_lt_zero _)), Below.refl _ _⟩
  case round =>
    obtain ⟨k, hk, rfl, HA, hbw⟩ := hrel
    by_cases hlt : k < atts.length
    · obtain ⟨b, off, B, cB, rfl, hbs, c0, c1', hrB⟩ := (hh.below hbw).att hlt
      have hgw := hg.below hbw
      by_cases hno : atts[k].1 = no
      · have HE := Lib.hid (atI_some hlt HA.out hno)
        have d1 : (atts[k].1 == no) = true := by simpa using hno
        clear hno
        generalize atts[k].1 = n0 at *
        generalize atts[k].2.length = ll at *
        go_wp2_with fail
        refine (attemptAt1_any _ _ _ _ _ _ _ hgw).mono ?_
        rintro e w2 ⟨rfl, hb2⟩
        rw [d1]
        go_wp2_with fail
        go_ret
        exact ⟨ret_int' HE.out.symm, below_up hbw hb2⟩
      · have HB : Hid (∀ j (hj : j < atts.length), j < k + 1 → atts[j].1 ≠ no) := Lib.hid (fun j hj hjk => by
          rcases Nat.lt_or_ge j k with h | h
          · exact HA.out j hj h
          · have : j = k := by omega
            subst this; exact hno)
        have d1 : (atts[k].1 == no) = false := by simpa using hno
        clear hno
        generalize atts[k].1 = n0 at *
        generalize atts[k].2.length = ll at *
        go_wp2_with fail
        refine (attemptAt1_any _ _ _ _ _ _ _ hgw).mono ?_
        rintro e w2 ⟨rfl, hb2⟩
        rw [d1]
        have hb9 := below_up hbw hb2
        clear hb2
        go_wp2_with fail
        go_roundw
        case rel => exact ⟨k + 1, by omega, by go_num, HB, hb9⟩
        case measure => simp [intOf]; omega
    · have HE := Lib.hid (atI_none (atts := atts) (no := no) (fun j hj => HA.out j hj (by omega)))
      go_wp2_with fail
      go_ret
      exact ⟨ret_int' HE.out.symm, hbw⟩
theorem attemptAt_any (SA TA : Option Addr) (c d lo : Nat) (no : Int) (segs : List (List UInt8)) (atts : List Att) (w : World) (hh : Hist w lo SA TA segs atts) (hm : atts.length ≤ 1000000000) :
    Calls Tryz.prog 90 #[.agg #[.slice SA segs.length c, .slice TA atts.length d], .int .i64 no] w fun e w' => e = .returned (.int .i64 (atI atts no)) ∧ Below w.heap.size w w' := by
  go_enter Tryz.func90, Tryz.ntmps90
  go_wp2_with fail
  have hh2 := (hh.alloc (.cells #[.slice SA segs.length c, .slice TA atts.length d] 56)).alloc (.cells #[.int .i64 no] 3)
  have hb2 : Below w.heap.size w ((w.alloc (.cells #[.slice SA segs.length c, .slice TA atts.length d] 56)).alloc (.cells #[.int .i64 no] 3)) := ((Below.refl _ _).alloc (Nat.le_refl _) _).alloc (by simp) _
  have hg2 : Blk ((w.alloc (.cells #[.slice SA segs.length c, .slice TA atts.length d] 56)).alloc (.cells #[.int .i64 no] 3)) (w.heap.size + 1) 3 #[.int .i64 no] := by
    have := Blk.new (w.alloc (.cells #[.slice SA segs.length c, .slice TA atts.length d] 56)) 3 #[.int .i64 no]
    simpa using this
  refine (indexFuncA_any _ _ _ _ SA segs atts no _ hh2 hg2 hm).mono ?_
  rintro e w2 ⟨rfl, hb3⟩
  go_wp2_with fail
  go_ret
  exact ⟨rfl, below_up hb2 hb3⟩
end Go.Proofs.YtggnccafmadacaaGreatDoor
/- Attempts whose splits lie anywhere: a history's row as attempts with their slices, slices.Clone over attempts, slices.SortFunc by R.HistoriesMerged's closure. -/
namespace Go.Proofs.YtggnccafmadacaaGreatDoor
set_option linter.unusedVariables false
set_option linter.unusedSimpArgs false
open Go.RowKit Go.Sort

theorem flat_ext (cs : List Value) (zs : List AttE) (hl : cs.length = zs.length * 2) (h : ∀ i (hi : i < zs.length), cs[i * 2]? = some (.int .i64 zs[i].1.1) ∧ cs[i * 2 + 1]? = some (.slice zs[i].2.1 zs[i].1.2.length zs[i].2.2)) : cs = zs.flatMap encE := by
  apply List.ext_getElem?
  intro k
  by_cases hk : k < zs.length * 2
  · have h2 := encE_at zs (k / 2) (by omega)
    have h3 := h (k / 2) (by omega)
    rcases Nat.mod_two_eq_zero_or_one k with hm | hm
    · have e : k / 2 * 2 = k := by omega
      rw [e] at h2 h3
      rw [h2.1, h3.1]
    · have e : k / 2 * 2 + 1 = k := by omega
      rw [e] at h2 h3
      rw [h2.2, h3.2]
  · rw [List.getElem?_eq_none (by omega), List.getElem?_eq_none (by rw [encE_len]; omega)]
/-- The attempts of a history, with where their splits lie. -/
theorem hist_zs {w : World} {lo : Nat} {SA TA : Option Addr} {segs : List (List UInt8)} {atts : List Att} (h : Hist w lo SA TA segs atts) :
    ∃ zs : List AttE, attE zs = atts ∧ zs.length = atts.length ∧ Row w lo 2 TA zs.length (zs.flatMap encE) ∧ ∀ x ∈ zs, Row w lo 1 x.2.1 x.1.2.length (ints x.1.2) := by
  obtain ⟨_, cs, h2, h3⟩ := h
  have hB : ∀ i : Fin atts.length, ∃ Bc : Option Addr × Nat, cs[i.1 * 2]? = some (.int .i64 atts[i.1].1) ∧ cs[i.1 * 2 + 1]? = some (.slice Bc.1 atts[i.1].2.length Bc.2) ∧ Row w lo 1 Bc.1 atts[i.1].2.length (ints atts[i.1].2) := fun i => by
    obtain ⟨B, c, a, b, d⟩ := h3 i.1 i.2
    exact ⟨(B, c), a, b, d⟩
  let g : Fin atts.length → AttE := fun i => (atts[i.1], Classical.choose (hB i))
  have hg : ∀ i, cs[i.1 * 2]? = some (.int .i64 atts[i.1].1) ∧ cs[i.1 * 2 + 1]? = some (.slice (g i).2.1 atts[i.1].2.length (g i).2.2) ∧ Row w lo 1 (g i).2.1 atts[i.1].2.length (ints atts[i.1].2) := fun i => Classical.choose_spec (hB i)
  have hl : (List.ofFn g).length = atts.length := by simp
  have ha : attE (List.ofFn g) = atts := by
    apply List.ext_getElem (by simp [attE])
    intro i h1 h2
    simp [attE, g]
  refine ⟨List.ofFn g, ha, hl, ?_, fun x hx => ?_⟩
  · rw [← flat_ext cs (List.ofFn g) (by rw [hl]; exact h2.1) (fun i hi => by
      have hi' : i < atts.length := by rw [hl] at hi; exact hi
      have := hg ⟨i, hi'⟩
      simp only [List.getElem_ofFn]
      exact ⟨this.1, this.2.1⟩), hl]
    exact h2
  · obtain ⟨i, rfl⟩ := List.mem_ofFn.1 hx
    exact (hg i).2.2
set_option maxHeartbeats 1000000 in
theorem cloneA_any (A : Option Addr) (c lo : Nat) (ps : List AttE) (w : World) (hr : Row w lo 2 A ps.length (ps.flatMap encE)) (hl : ps.length ≤ 1000000000) :
    Calls Tryz.prog 89 #[.slice A ps.length c] w fun e w' => ∃ A' c', e = .returned (.slice A' ps.length c') ∧ w'.ownsRow w.heap.size 62 2 (.slice A' ps.length c') ps.length (ps.flatMap encE) ∧ Below w.heap.size w w' := by
  have hnil := fun (r : Option Addr) (n c : Nat) (w : World) => Lib.run_eql_slice_nil (P := Tryz.prog) w 54 62 r n c 0 0 Tryz.underlying54
  cases A with
  | none =>
    have hz : ps.length = 0 := by
      rcases Nat.eq_zero_or_pos ps.length with h | h
      · exact h
      · obtain ⟨b, off, h1, _⟩ := hr.2 h
        cases h1
    have HZ := Lib.hid hz
    clear hz
    go_enter Tryz.func89, Tryz.ntmps89
    go_wp2_with fail
    go_ret
    refine ⟨none, 0, ?_, ?_, Below.refl _ _⟩
    · rw [HZ.out]; rfl
    · have : ps = [] := List.eq_nil_of_length_eq_zero HZ.out
      subst this
      exact World.ownsRow_nil _ _ _ _
  | some ad =>
    have hown0 : (w.alloc (.cells #[] 62)).ownsRow w.heap.size 62 2 (.slice (some ⟨w.heap.size, 0, none⟩) 0 0) 0 [] := World.ownsRow_made w #[] 0 (Nat.le_refl _) (by simp [maxLen]) rfl
    go_enter Tryz.func89, Tryz.ntmps89
    go_wp2_with (at_builtin; go_must (refine wpList_app _ _ rfl _ _ ty_atts rfl hown0 rfl (hr.alloc _) rfl (encE_all _) (by omega) (by omega) (by simp) ?_))
    intro A5 c5 w5 hown5 hg5 _
    go_wp2_with fail
    go_ret
    exact ⟨A5, c5, by first | rfl | simp, hown5, below_app hown0 ((Below.refl _ _).alloc (Nat.le_refl _) _) hg5 (Nat.le_refl _) (by simp)⟩
theorem histCmp_any (x y : Int) (u v : Value) (w : World) : Calls Tryz.prog 92 #[.agg #[.int .i64 x, u], .agg #[.int .i64 y, v]] w fun e w' => e = .returned (.int .i64 (cmpI x y)) ∧ ∃ os, w' = Sort.grow w os := by
  go_enter Tryz.func92, Tryz.ntmps92
  go_wp2_with fail
  refine (cmpInt_any _ _ _).mono ?_
  rintro e w1 ⟨rfl, rfl⟩
  go_wp2_with fail
  go_ret
  refine ⟨rfl, ?_⟩
  simp only [Sort.alloc_eq_grow, Sort.grow_grow]
  exact ⟨_, rfl⟩
theorem sortR_any (A : Option Addr) (d base : Nat) (zs : List AttE) (w : World) (ho : w.ownsRow base 62 2 (.slice A zs.length d) zs.length (zs.flatMap encE)) (hl : zs.length ≤ 1000000000) :
    Calls Tryz.prog 87 #[.slice A zs.length d, .func (.func 92) #[] #[]] w fun e w' => e = .returned (.tuple #[]) ∧ ∃ ys : List AttE, ys.Perm zs ∧ ys.Pairwise (fun x y => x.1.1 ≤ y.1.1) ∧ w'.ownsRow base 62 2 (.slice A ys.length d) ys.length (ys.flatMap encE) ∧ w.grownBy w' (Value.slice A zs.length d).ownBlock := by
  have h := sortK_own (α := AttE) Tryz.sortAtt 2 (by omega) Tryz.isAgg62 Tryz.sizeOf62 encE (fun _ => rfl) encE_one (fun x y => cmpI x.1.1 y.1.1) ⟨fun x => by unfold ltOf; simp only [decide_eq_false_iff_not]; rw [cmpI_lt]; omega, fun x y z h1 h2 => by unfold ltOf at *; simp only [decide_eq_true_eq] at *; rw [cmpI_lt] at *; omega, fun x y z h1 h2 => by unfold ltOf at *; simp only [decide_eq_false_iff_not] at *; rw [cmpI_lt] at *; omega⟩ 92 #[] (enters_of Tryz.func92 (by kernel_rfl) rfl)
    (fun x y w => histCmp_any x.1.1 y.1.1 _ _ w) A d base 62 zs w ho hl
  change Calls Tryz.prog 87 _ _ _ at h
  refine h.mono ?_
  rintro e w' ⟨rfl, ys, hp, hs, hown, hg⟩
  exact ⟨rfl, ys, hp, hs.imp (fun {x y} hxy => by rw [cmpI_lt] at hxy; omega), hown, hg⟩
end Go.Proofs.YtggnccafmadacaaGreatDoor
/- The walk of R.HistoriesMerged at any two right histories. -/
namespace Go.Proofs.YtggnccafmadacaaGreatDoor
set_option linter.unusedVariables false
set_option linter.unusedSimpArgs false
open Go.RowKit Go.Sort

/-- A history is made of another's attempts; where its box lies. -/
structure MR (W0 wr : World) (hb : Nat) (u : Value) (A : Option Addr) (d : Nat) (zs : List AttE) : Prop where
  box : Blk wr hb 56 #[u, .slice A zs.length d]
  row : wr.ownsRow W0.heap.size 62 2 (.slice A zs.length d) zs.length (zs.flatMap encE)
  bel : Below W0.heap.size W0 wr
  hle : W0.heap.size ≤ hb
section
variable {W0 wr w' : World} {hb : Nat} {u : Value} {A : Option Addr} {d : Nat} {zs : List AttE}
theorem MR.below (h : MR W0 wr hb u A d zs) (hq : Below wr.heap.size wr w') : MR W0 w' hb u A d zs := ⟨h.box.below hq, own_keep h.row hq, below_up h.bel hq, h.hle⟩
theorem MR.alloc (h : MR W0 wr hb u A d zs) (o : Obj) : MR W0 (wr.alloc o) hb u A d zs := h.below ((Below.refl _ _).alloc (Nat.le_refl _) o)
theorem MR.drew (h : MR W0 wr hb u A d zs) : MR W0 wr.drew hb u A d zs := h.below (Below.refl _ _).drew
theorem MR.size (h : MR W0 wr hb u A d zs) : W0.heap.size ≤ wr.heap.size := h.bel.size
theorem MR.box_app (h : MR W0 wr hb u A d zs) (hg : wr.grownBy w' (Value.slice A zs.length d).ownBlock) : Blk w' hb 56 #[u, .slice A zs.length d] := h.box.otherOf hg (own_kindOf h.row) (by decide)
theorem MR.push (h : MR W0 wr hb u A d zs) (hg : wr.grownBy w' (Value.slice A zs.length d).ownBlock) {x : AttE}
    {A5 : Option Addr} {d5 : Nat} (h5 : w'.ownsRow W0.heap.size 62 2 (.slice A5 (zs.length + 1) d5) (zs.length + 1) (zs.flatMap encE ++ encE x)) :
    MR W0 (w'.setCell ⟨hb, 1, none⟩ (.slice A5 (zs.length + 1) d5)) hb u A5 d5 (zs ++ [x]) := by
  have b5 := h.box_app hg
  have p := grown_pokeOf w' hb 1 (.slice A5 (zs.length + 1) d5)
  have hb5 := b5.poke 1 (.slice A5 (zs.length + 1) d5)
  have e : (zs ++ [x]).flatMap encE = zs.flatMap encE ++ encE x := by simp
  refine ⟨by rw [List.length_append]; simpa using hb5, by rw [e, List.length_append]; exact own_otherOf h5 p b5.kindOf (by decide), ?_, h.hle⟩
  have hbw : Below W0.heap.size W0 w' := h.bel.grown hg h.size (fun k hk => (h.row.lt k hk).1)
  exact Below.setCell hbw h.hle _
/-- The attempts are in order. -/
theorem MR.turned (h : MR W0 wr hb u A d zs) (hg : wr.grownBy w' (Value.slice A zs.length d).ownBlock) {ys : List AttE} (hl : ys.length = zs.length) (h5 : w'.ownsRow W0.heap.size 62 2 (.slice A ys.length d) ys.length (ys.flatMap encE)) : MR W0 w' hb u A d ys :=
  ⟨by rw [hl]; exact h.box_app hg, h5, h.bel.grown hg h.size (fun k hk => (h.row.lt k hk).1), h.hle⟩
end
/-- A row of attempts and their splits is a history's. -/
theorem hist_row {w : World} {lo : Nat} {A SA : Option Addr} {zs : List AttE} {ss : List (List UInt8)} (hs : Row w lo 1 SA ss.length (strs ss)) (hr : Row w lo 2 A zs.length (zs.flatMap encE)) (hx : ∀ x ∈ zs, Row w lo 1 x.2.1 x.1.2.length (ints x.1.2)) : Hist w lo SA A ss (attE zs) := by
  refine ⟨hs, zs.flatMap encE, by rw [attE_len]; exact hr, fun i hi => ?_⟩
  have hi' : i < zs.length := by rw [attE_len] at hi; exact hi
  have e : (attE zs)[i] = zs[i].1 := by simp [attE]
  rw [e]
  exact ⟨zs[i].2.1, zs[i].2.2, (encE_at zs i hi').1, (encE_at zs i hi').2, hx _ (List.getElem_mem _)⟩
theorem zs_att {w : World} {lo : Nat} {A : Option Addr} {zs : List AttE} (hr : Row w lo 2 A zs.length (zs.flatMap encE)) {k : Nat} (hk : k < zs.length) :
    ∃ b off, A = some ⟨b, off, none⟩ ∧ b < w.heap.size ∧ w.cell? ⟨b, off + k * 2, none⟩ = some (.int .i64 zs[k].1.1) ∧ w.cell? ⟨b, off + k * 2 + 1, none⟩ = some (.slice zs[k].2.1 zs[k].1.2.length zs[k].2.2) := by
  obtain ⟨b, off, e, _, hb, hc⟩ := hr.2 (by omega)
  have h := encE_at zs k hk
  exact ⟨b, off, e, hb, hc _ _ h.1, by rw [Nat.add_assoc]; exact hc _ _ h.2⟩
theorem atI_cases (atts : List Att) (no : Int) : (atI atts no = -1 ∧ ∀ j (hj : j < atts.length), atts[j].1 ≠ no) ∨ ∃ k : Nat, ∃ h : k < atts.length, atI atts no = k ∧ atts[k].1 = no := by
  by_cases hex : ∃ j, ∃ hj : j < atts.length, atts[j].1 = no
  · rcases atI_inv atts no with h | h
    · exfalso
      unfold atI at h
      cases hf : atts.findIdx? (fun a => decide (a.1 = no)) with
      | none =>
        obtain ⟨j, hj, he⟩ := hex
        rw [List.findIdx?_eq_none_iff] at hf
        have := hf _ (List.getElem_mem hj)
        simp [he] at this
      | some k => rw [hf] at h; simp at h
    · exact .inr h
  · exact .inl ⟨atI_none (fun j hj he => hex ⟨j, hj, he⟩), fun j hj he => hex ⟨j, hj, he⟩⟩
def MergedR (w : World) (segs segs' : List (List UInt8)) (us bs : List Att) (e : Ending) (w' : World) : Prop :=
  (segs = segs' ∧ confl us bs = false ∧ ∃ (SA TA : Option Addr) (c d : Nat) (atts : List Att), e = .returned (.tuple #[.agg #[.slice SA segs.length c, .slice TA atts.length d], .int .i64 0]) ∧ Hist w' 0 SA TA segs atts ∧ atts.Perm (us ++ mgN us bs) ∧ atts.Pairwise (fun x y => x.1 ≤ y.1) ∧ Below w.heap.size w w') ∨
  ((segs = segs' → confl us bs = true) ∧ e = .returned (.tuple #[.agg #[.slice none 0 0, .slice none 0 0], .int .i64 13]) ∧ Below w.heap.size w w')
set_option maxHeartbeats 8000000 in
set_option maxRecDepth 100000 in
theorem HistoriesMerged_two (SA TA SB TB : Option Addr) (c d c' d' lo lo' : Nat) (segs segs' : List (List UInt8)) (us bs : List Att) (w : World) (hA : Hist w lo SA TA segs us) (hB : Hist w lo' SB TB segs' bs) (okA : HistOk segs us) (okB : HistOk segs' bs)
    (hlen : us.length + bs.length ≤ 500) :
    Calls Tryz.prog 31 #[.agg #[.slice SA segs.length c, .slice TA us.length d], .agg #[.slice SB segs'.length c', .slice TB bs.length d']] w (MergedR w segs segs' us bs) := by
  have n2 := okA.n2
  have n2' := okB.n2
  have ma := okA.m
  have mb := okB.m
  have HA := Lib.hid okA
  have HB := Lib.hid okB
  have HUP := Lib.hid (up_lt okA.up)
  have HLEN : Hid ((us ++ mgN us bs).length ≤ 500) := Lib.hid (by have := mgN_len us bs bs.length; rw [List.take_length] at this; rw [List.length_append]; omega)
  have BADP : Hid (∀ W', (segs = segs' → confl us bs = true) → Below w.heap.size w W' → MergedR w segs segs' us bs (.returned (.tuple #[.agg #[.slice none 0 0, .slice none 0 0], .int .i64 13])) W') := Lib.hid (fun W' h1 h2 => .inr ⟨h1, rfl, h2⟩)
  obtain ⟨za, eza, hza, hrza, hsza⟩ := hist_zs hA
  obtain ⟨zb, ezb, hzb, hrzb, hszb⟩ := hist_zs hB
  have HSA : Hid (∀ x ∈ za, Row w 0 1 x.2.1 x.1.2.length (ints x.1.2)) := Lib.hid (fun x hx => (hsza x hx).weak (Nat.zero_le _))
  have HSB : Hid (∀ x ∈ zb, Row w 0 1 x.2.1 x.1.2.length (ints x.1.2)) := Lib.hid (fun x hx => (hszb x hx).weak (Nat.zero_le _))
  have EZA := Lib.hid eza
  have EZB := Lib.hid ezb
  have hSG : Row w 0 1 SA segs.length (strs segs) := hA.1.weak (Nat.zero_le _)
  have HSG := Lib.hid hSG
  have HCL := Lib.hid (fun (W : World) (h : Row W lo 2 TA za.length (za.flatMap encE)) => cloneA_any TA d lo za W h (by omega))
  rw [hza] at HCL hrza
  have HZL := Lib.hid hza
  have HZL' := Lib.hid hzb
  clear okA okB hlen hsza hszb eza ezb hSG hza hzb
  go_enter Tryz.func31, Tryz.ntmps31
  go_upto_region 1 with (fail)
  have kA : Blk (((w.alloc (.cells #[.slice SA segs.length c, .slice TA us.length d] 56)).alloc (.cells #[.slice SB segs'.length c', .slice TB bs.length d'] 56)).alloc (.cells #[.slice none 0 0, .slice none 0 0] 56)) w.heap.size 56 #[.slice SA segs.length c, .slice TA us.length d] := ((Blk.new _ _ _).alloc _).alloc _
  have kB : Blk (((w.alloc (.cells #[.slice SA segs.length c, .slice TA us.length d] 56)).alloc (.cells #[.slice SB segs'.length c', .slice TB bs.length d'] 56)).alloc (.cells #[.slice none 0 0, .slice none 0 0] 56)) (w.heap.size + 1) 56 #[.slice SB segs'.length c', .slice TB bs.length d'] := by
    have := (Blk.new (w.alloc (.cells #[.slice SA segs.length c, .slice TA us.length d] 56)) 56 #[.slice SB segs'.length c', .slice TB bs.length d']).alloc (.cells #[.slice none 0 0, .slice none 0 0] 56)
    simpa using this
  have kR : Blk (((w.alloc (.cells #[.slice SA segs.length c, .slice TA us.length d] 56)).alloc (.cells #[.slice SB segs'.length c', .slice TB bs.length d'] 56)).alloc (.cells #[.slice none 0 0, .slice none 0 0] 56)) (w.heap.size + 2) 56 #[.slice none 0 0, .slice none 0 0] := by
    have := Blk.new ((w.alloc (.cells #[.slice SA segs.length c, .slice TA us.length d] 56)).alloc (.cells #[.slice SB segs'.length c', .slice TB bs.length d'] 56)) 56 #[.slice none 0 0, .slice none 0 0]
    simpa using this
  replace hA := ((hA.alloc (.cells #[.slice SA segs.length c, .slice TA us.length d] 56)).alloc (.cells #[.slice SB segs'.length c', .slice TB bs.length d'] 56)).alloc (.cells #[.slice none 0 0, .slice none 0 0] 56)
  replace hB := ((hB.alloc (.cells #[.slice SA segs.length c, .slice TA us.length d] 56)).alloc (.cells #[.slice SB segs'.length c', .slice TB bs.length d'] 56)).alloc (.cells #[.slice none 0 0, .slice none 0 0] 56)
  replace hrza := ((hrza.alloc (.cells #[.slice SA segs.length c, .slice TA us.length d] 56)).alloc (.cells #[.slice SB segs'.length c', .slice TB bs.length d'] 56)).alloc (.cells #[.slice none 0 0, .slice none 0 0] 56)
  replace hrzb := ((hrzb.alloc (.cells #[.slice SA segs.length c, .slice TA us.length d] 56)).alloc (.cells #[.slice SB segs'.length c', .slice TB bs.length d'] 56)).alloc (.cells #[.slice none 0 0, .slice none 0 0] 56)
  have hx : Below w.heap.size w (((w.alloc (.cells #[.slice SA segs.length c, .slice TA us.length d] 56)).alloc (.cells #[.slice SB segs'.length c', .slice TB bs.length d'] 56)).alloc (.cells #[.slice none 0 0, .slice none 0 0] 56)) := (((Below.refl _ _).alloc (Nat.le_refl _) _).alloc (by simp) _).alloc (by simp; omega) _
  generalize ((w.alloc (.cells #[.slice SA segs.length c, .slice TA us.length d] 56)).alloc (.cells #[.slice SB segs'.length c', .slice TB bs.length d'] 56)).alloc (.cells #[.slice none 0 0, .slice none 0 0] 56) = w1 at *
  have HZ1 := Lib.hid hx.size
  obtain ⟨a0, a1⟩ := kA.two_
  obtain ⟨b0, b1⟩ := kB.two_
  have za1 := kA.lt
  have zb1 := kB.lt
  have zr := kR.lt
  go_wp2_with fail
  refine (equalS_any SA SB c c' _ _ segs segs' _ hA.1 hB.1 (by omega) (by omega)).mono ?_
  rintro e w2 ⟨rfl, q, rfl⟩
  have bq : Below w1.heap.size w1 (w1.drewN q) := below_drewN' (Below.refl _ _) q
  replace hA := hA.below bq
  replace hB := hB.below bq
  replace hrza := hrza.below bq
  replace hrzb := hrzb.below bq
  replace kA := kA.below bq
  replace kB := kB.below bq
  replace kR := kR.below bq
  replace hx := below_up hx bq
  generalize w1.drewN q = w2 at *
  clear bq a0 a1 b0 b1 za1 zb1 zr HZ1
  by_cases hss : segs = segs'
  case neg =>
    rw [decide_eq_false hss]
    have HNS : Hid (segs = segs' → confl us bs = true) := Lib.hid (fun h => absurd h hss)
    clear hss
    obtain ⟨r0, r1⟩ := kR.two_
    have rz := kR.lt
    have rf0 := kR.thaw 0
    have rf1 := kR.thaw 1
    obtain ⟨z0, z1, z2⟩ := kR.two2 (.slice none 0 0) (.slice none 0 0)
    go_wp2_with fail
    refine bodyPost_ret (v := .tuple #[.agg #[.slice none 0 0, .slice none 0 0], .int .i64 13]) (by simp [results, Tryz.results31, go_sem, z0, z1, z2]) rfl ?_
    exact BADP.out _ HNS.out (Below.setCell (Below.setCell hx (p := ⟨w.heap.size + 2, 0, none⟩) (by simp) _) (p := ⟨w.heap.size + 2, 1, none⟩) (by simp) _)
  case pos =>
    subst hss
    rw [decide_eq_true rfl]
    go_upto_region 3 with (fail)
    go_cut [6] (fun p wx => ∃ (hb : Nat) (A : Option Addr) (dz : Nat), p = .pointer (some ⟨hb, 0, none⟩) ∧ MR w2 wx hb (.slice SA segs.length c) A dz za)
    case first =>
      have kAD := kA.drew
      have hrzaD := hrza.drew
      refine wp_region_held_drew (S := (fun w' => w'.cell? ⟨w.heap.size, 0, none⟩ = some (.slice SA segs.length c) ∧ w'.cell? ⟨w.heap.size, 1, none⟩ = some (.slice TA us.length d))) (by kernel_rfl) (kAD.two_) (fun hHeld => ?_)
      generalize hwd : w2.drew = wd at *
      have hxd := Below.refl wd.heap.size wd
      (refine wpAnyH_take (i := 0) (v := ?_) (by (simp only [List.getElem?_toArray, List.getElem?_cons_zero]; rfl)) (by kernel_rfl) (by kernel_rfl) (by kernel_rfl) (by exact fun _ _ _ h => h) (Or.inl ⟨by rfl, ?_⟩) (by assumption) ?_; (rotate_left 1; (intro w hSw; (try dsimp only at hSw); go_simp); (try with_reducible rfl)); (try simp only [Act.put, List.setIfInBounds_toArray, List.set_cons_zero, List.set_cons_succ]))
      (refine wpAnyH_take (i := 1) (v := ?_) (by (simp only [List.getElem?_toArray, List.getElem?_cons_succ, List.getElem?_cons_zero]; rfl)) (by kernel_rfl) (by kernel_rfl) (by kernel_rfl) (by exact fun _ _ _ h => h) (Or.inl ⟨by rfl, ?_⟩) (by assumption) ?_; (rotate_left 1; (intro w hSw; (try dsimp only at hSw); go_simp); (try with_reducible rfl)); (try simp only [Act.put, List.setIfInBounds_toArray, List.set_cons_zero, List.set_cons_succ]))
      (refine wpAnyH_take (i := 2) (v := ?_) (by (simp only [List.getElem?_toArray, List.getElem?_cons_succ, List.getElem?_cons_zero]; rfl)) (by kernel_rfl) (by kernel_rfl) (by kernel_rfl) (by exact fun _ _ _ h => h) (Or.inl ⟨by rfl, ?_⟩) (by assumption) ?_; (rotate_left 1; (intro w hSw; (try dsimp only at hSw); go_simp); (try with_reducible rfl)); (try simp only [Act.put, List.setIfInBounds_toArray, List.set_cons_zero, List.set_cons_succ]))
      (refine wpAnyH_take (i := 3) (v := ?_) (by (simp only [List.getElem?_toArray, List.getElem?_cons_succ, List.getElem?_cons_zero]; rfl)) (by kernel_rfl) (by kernel_rfl) (by kernel_rfl) (by exact fun _ _ _ h => h) (Or.inl ⟨by rfl, ?_⟩) (by assumption) ?_; (rotate_left 1; (intro w hSw; (try dsimp only at hSw); go_simp); (try with_reducible rfl)); (try simp only [Act.put, List.setIfInBounds_toArray, List.set_cons_zero, List.set_cons_succ]))
      refine wpAnyH_ready (rs := [4, 6]) (by kernel_rfl) (by simp) ?_
      refine AllReadyH.cons rfl (fun K hK => ?_) (AllReadyH.cons rfl (fun K hK => ?_) AllReadyH.nil)
      case refine_1 =>
        go_simp
        go_at_call 89
        refine (HCL.out _ (hrzaD.below hxd)).mono ?_
        rintro e wc2 ⟨A', dz', rfl, hown, hbc⟩
        replace hown := own_weak hown hxd.size
        replace hxd := below_up hxd hbc
        clear hbc
        go_wp2_with fail
        refine hK.out _ _ ((kAD.below hxd).two_) (fun hHeld => ?_)
        clear hK K
        (try simp only [Act.put, List.setIfInBounds_toArray, List.set_cons_zero, List.set_cons_succ])
        (refine wpAnyH_take (i := 5) (v := ?_) (by (simp only [List.getElem?_toArray, List.getElem?_cons_succ, List.getElem?_cons_zero]; rfl)) (by kernel_rfl) (by kernel_rfl) (by kernel_rfl) (by exact fun _ _ _ h => h) (Or.inl ⟨by rfl, ?_⟩) (by assumption) ?_; (rotate_left 1; (intro w hSw; (try dsimp only at hSw); go_simp); (try with_reducible rfl)); (try simp only [Act.put, List.setIfInBounds_toArray, List.set_cons_zero, List.set_cons_succ]))
        refine wpAnyH_ready (rs := [6]) (by kernel_rfl) (by simp) ?_
        refine AllReadyH.cons rfl (fun K hK => ?_) AllReadyH.nil
        go_simp
        obtain ⟨hb9, hhb9⟩ : ∃ b, b = wc2.heap.size := ⟨_, rfl⟩
        have hbox : Blk (wc2.alloc (.cells #[.slice none 0 0, .slice none 0 0] 56)) hb9 56 #[.slice none 0 0, .slice none 0 0] := by rw [hhb9]; exact Blk.new _ _ _
        have hle9 : wd.heap.size ≤ hb9 := by rw [hhb9]; exact hxd.size
        replace hown := own_keep hown ((Below.refl wc2.heap.size wc2).alloc (Nat.le_refl _) (.cells #[.slice none 0 0, .slice none 0 0] 56))
        replace hxd := Below.alloc hxd hxd.size (.cells #[.slice none 0 0, .slice none 0 0] 56)
        refine hK.out _ _ ((kAD.below hxd).two_) (fun hHeld => ?_)
        clear hK K
        (try simp only [Act.put, List.setIfInBounds_toArray, List.set_cons_zero, List.set_cons_succ])
        refine wpAnyH_ready (rs := [7]) (by kernel_rfl) (by simp) ?_
        refine AllReadyH.cons rfl (fun K hK => ?_) AllReadyH.nil
        subst hhb9
        generalize wc2.alloc (.cells #[.slice none 0 0, .slice none 0 0] 56) = wk at *
        obtain ⟨r0, r1⟩ := hbox.two_
        have rz := hbox.lt
        have rf0 := hbox.thaw 0
        have rf1 := hbox.thaw 1
        go_simp
        clear r0 r1 rz rf0 rf1
        have p9 := grown_pokeOf wk wc2.heap.size 0 (.slice SA segs.length c)
        have q9 := grown_pokeOf (wk.setCell ⟨wc2.heap.size, 0, none⟩ (.slice SA segs.length c)) wc2.heap.size 1 (.slice A' us.length dz')
        have k9 := (hbox.poke 0 (.slice SA segs.length c)).kindOf
        replace hown := own_otherOf (own_otherOf hown p9 hbox.kindOf (by decide)) q9 k9 (by decide)
        replace hxd := Below.setCell (Below.setCell hxd (p := ⟨wc2.heap.size, 0, none⟩) hle9 (.slice SA segs.length c)) (p := ⟨wc2.heap.size, 1, none⟩) hle9 (.slice A' us.length dz')
        replace hbox := (hbox.poke 0 (.slice SA segs.length c)).poke 1 (.slice A' us.length dz')
        clear p9 q9 k9
        refine hK.out _ _ ((kAD.below hxd).two_) (fun hHeld => ?_)
        clear hK K
        (try simp only [Act.put, List.setIfInBounds_toArray, List.set_cons_zero, List.set_cons_succ])
        refine wpAnyH_done (by kernel_rfl) ?_ _
        go_wp2_with fail
        go_meet
        subst hwd
        exact ⟨_, A', dz', rfl, by rw [HZL.out]; simpa using hbox, by rw [HZL.out]; exact hown, below_up (Below.refl w2.heap.size w2).drew hxd, hle9⟩
      case refine_2 =>
        go_simp
        obtain ⟨hb9, hhb9⟩ : ∃ b, b = wd.heap.size := ⟨_, rfl⟩
        have hbox : Blk (wd.alloc (.cells #[.slice none 0 0, .slice none 0 0] 56)) hb9 56 #[.slice none 0 0, .slice none 0 0] := by rw [hhb9]; exact Blk.new _ _ _
        have hle9 : wd.heap.size ≤ hb9 := by rw [hhb9]; exact hxd.size
        replace hxd := Below.alloc hxd hxd.size (.cells #[.slice none 0 0, .slice none 0 0] 56)
        refine hK.out _ _ ((kAD.below hxd).two_) (fun hHeld => ?_)
        clear hK K
        (try simp only [Act.put, List.setIfInBounds_toArray, List.set_cons_zero, List.set_cons_succ])
        refine wpAnyH_ready (rs := [4]) (by kernel_rfl) (by simp) ?_
        refine AllReadyH.cons rfl (fun K hK => ?_) AllReadyH.nil
        go_simp
        go_at_call 89
        refine (HCL.out _ (hrzaD.below hxd)).mono ?_
        rintro e wc2 ⟨A', dz', rfl, hown, hbc⟩
        replace hown := own_weak hown hxd.size
        replace hbox := hbox.below hbc
        replace hxd := below_up hxd hbc
        clear hbc
        go_wp2_with fail
        refine hK.out _ _ ((kAD.below hxd).two_) (fun hHeld => ?_)
        clear hK K
        (try simp only [Act.put, List.setIfInBounds_toArray, List.set_cons_zero, List.set_cons_succ])
        (refine wpAnyH_take (i := 5) (v := ?_) (by (simp only [List.getElem?_toArray, List.getElem?_cons_succ, List.getElem?_cons_zero]; rfl)) (by kernel_rfl) (by kernel_rfl) (by kernel_rfl) (by exact fun _ _ _ h => h) (Or.inl ⟨by rfl, ?_⟩) (by assumption) ?_; (rotate_left 1; (intro w hSw; (try dsimp only at hSw); go_simp); (try with_reducible rfl)); (try simp only [Act.put, List.setIfInBounds_toArray, List.set_cons_zero, List.set_cons_succ]))
        refine wpAnyH_ready (rs := [7]) (by kernel_rfl) (by simp) ?_
        refine AllReadyH.cons rfl (fun K hK => ?_) AllReadyH.nil
        subst hhb9
        obtain ⟨r0, r1⟩ := hbox.two_
        have rz := hbox.lt
        have rf0 := hbox.thaw 0
        have rf1 := hbox.thaw 1
        go_simp
        clear r0 r1 rz rf0 rf1
        have p9 := grown_pokeOf wc2 wd.heap.size 0 (.slice SA segs.length c)
        have q9 := grown_pokeOf (wc2.setCell ⟨wd.heap.size, 0, none⟩ (.slice SA segs.length c)) wd.heap.size 1 (.slice A' us.length dz')
        have k9 := (hbox.poke 0 (.slice SA segs.length c)).kindOf
        replace hown := own_otherOf (own_otherOf hown p9 hbox.kindOf (by decide)) q9 k9 (by decide)
        replace hxd := Below.setCell (Below.setCell hxd (p := ⟨wd.heap.size, 0, none⟩) hle9 (.slice SA segs.length c)) (p := ⟨wd.heap.size, 1, none⟩) hle9 (.slice A' us.length dz')
        replace hbox := (hbox.poke 0 (.slice SA segs.length c)).poke 1 (.slice A' us.length dz')
        clear p9 q9 k9
        refine hK.out _ _ ((kAD.below hxd).two_) (fun hHeld => ?_)
        clear hK K
        (try simp only [Act.put, List.setIfInBounds_toArray, List.set_cons_zero, List.set_cons_succ])
        refine wpAnyH_done (by kernel_rfl) ?_ _
        go_wp2_with fail
        go_meet
        subst hwd
        exact ⟨_, A', dz', rfl, by rw [HZL.out]; simpa using hbox, by rw [HZL.out]; exact hown, below_up (Below.refl w2.heap.size w2).drew hxd, hle9⟩
    case rest =>
      obtain ⟨hb, A, dz, rfl, hw⟩ := hcut
      obtain ⟨w4, hw4⟩ : ∃ W, W = wc := ⟨_, rfl⟩
      subst hw4
      have hhb := hw.hle
      have HXB := Lib.hid hx
      have hxz := hx.size
      have kB4 := kB.below hw.bel
      obtain ⟨b0, b1⟩ := kB4.two_
      have zb1 := kB4.lt
      clear kB4 hx
      go_wp2_with fail
      go_loopw [26] (fun i wr => ∃ (k : Nat) (A : Option Addr) (dz : Nat) (zs : List AttE), k ≤ bs.length ∧ i = .int .i64 k ∧ Hid (attE zs = us ++ mgN us (bs.take k)) ∧ Hid (∀ x ∈ bs.take k, ∀ y ∈ us, y.1 = x.1 → y.2 = x.2) ∧ Hid (∀ x ∈ zs, Row w 0 1 x.2.1 x.1.2.length (ints x.1.2)) ∧ MR w2 wr hb (.slice SA segs.length c) A dz zs) (fun i _ => bs.length - (intOf i).toNat)
      case atStart => exact ⟨0, A, dz, za, Nat.zero_le _, rfl, Lib.hid (by rw [EZA.out]; simp [mgN]), Lib.hid (fun x hx => by simp at hx), HSA, hw⟩
      case round =>
        clear hw b0 b1 zb1
        obtain ⟨k, A, dz, zs, hk, rfl, HZ, HNC, HXS, hw⟩ := hrel
        have hzl : zs.length ≤ 500 := by
          have h1 := congrArg List.length HZ.out
          have h2 := mgN_take_len us bs k
          have h3 := HLEN.out
          rw [attE_len] at h1
          omega
        by_cases hlt : k < bs.length
        · have hltz : k < zb.length := by rw [HZL'.out]; exact hlt
          have hbk : bs[k] = zb[k].1 := by
            have : ∀ (l : List Att) (h : k < l.length), attE zb = l → l[k] = zb[k].1 := fun l h e => by subst e; simp [attE]
            exact this bs hlt EZB.out
          have hsl := (HB.out.spl k hlt).len
          have HN1 := Lib.hid (fun h => mgN_new (a := us) hlt h)
          have HN2 := Lib.hid (fun h => mgN_old (a := us) hlt h)
          have HTB : Hid (bs.take (k + 1) = bs.take k ++ [bs[k]]) := Lib.hid (List.take_succ_eq_append_getElem hlt)
          have HMB := Lib.hid (List.getElem_mem hlt)
          have HRB := Lib.hid (HSB.out _ (List.getElem_mem hltz))
          obtain ⟨b, off, rfl, hbs, c0, c1⟩ := zs_att (hrzb.below hw.bel) hltz
          rw [hbk] at hsl HN1 HN2 HTB HMB
          clear hbk
          generalize zb[k] = x at *
          obtain ⟨⟨no, l⟩, B, cB⟩ := x
          dsimp only at *
          have kX : Blk (wr.alloc (.cells #[.int .i64 no, .slice B l.length cB] 62)) wr.heap.size 62 #[.int .i64 no, .slice B l.length cB] := Blk.new _ _ _
          replace hw := hw.alloc (.cells #[.int .i64 no, .slice B l.length cB] 62)
          go_upto_region 7 with (fail)
          clear c0 c1 hbs
          generalize wr.alloc (.cells #[.int .i64 no, .slice B l.length cB] 62) = wx at *
          generalize wr.heap.size = xb at *
          have kAx := kA.below hw.bel
          have hAx := hA.below hw.bel
          obtain ⟨a0, a1⟩ := kAx.two_
          have za1 := kAx.lt
          obtain ⟨x0, x1⟩ := kX.two_
          have xz := kX.lt
          go_wp2_with fail
          refine (attemptAt_any SA TA c d lo no segs us _ hAx (by omega)).mono ?_
          rintro e ws ⟨rfl, hbs⟩
          replace hw := hw.below hbs
          replace kX := kX.below hbs
          replace kAx := kAx.below hbs
          replace hAx := hAx.below hbs
          clear hbs a0 a1 za1 x0 x1 xz
          rcases atI_cases us no with ⟨e1, hno⟩ | ⟨r, hr, e1, her⟩
          · rw [e1]
            have HNO := Lib.hid hno
            have HT : Hid (us ++ mgN us (bs.take (k + 1)) = us ++ mgN us (bs.take k) ++ [(no, l)]) := Lib.hid (by rw [HN1.out hno, List.append_assoc])
            have HNC2 : Hid (∀ x ∈ bs.take (k + 1), ∀ y ∈ us, y.1 = x.1 → y.2 = x.2) := Lib.hid (fun x hx y hy e => by
              rw [HTB.out] at hx
              rcases List.mem_append.1 hx with hx | hx
              · exact HNC.out x hx y hy e
              · have hx := List.mem_singleton.1 hx
                subst hx
                obtain ⟨j, hj, rfl⟩ := List.mem_iff_getElem.1 hy
                exact absurd e (HNO.out j hj))
            clear HN1 HN2 hno HNO e1 kAx hAx
            have hby : Blk (ws.alloc (.cells #[.int .i64 no, .slice B l.length cB] 62)) ws.heap.size 62 #[.int .i64 no, .slice B l.length cB] := Blk.new _ _ _
            have hw9 := hw.alloc (.cells #[.int .i64 no, .slice B l.length cB] 62)
            obtain ⟨q0, q1⟩ := hw.box.two_
            have qz := hw.box.lt
            obtain ⟨x0, x1⟩ := kX.two_
            have xz := kX.lt
            go_wp2_with (at_builtin; go_must (refine wpList_app (lo := 0) (base := w2.heap.size) (n := zs.length) (xs := zs.flatMap encE) _ _ rfl _ _ ty_atts rfl hw9.row rfl (Row.lit (n := 1) (size := 2) hby (Nat.zero_le _) rfl) rfl rfl (by omega) (by omega) hw9.size ?_))
            intro A5 d5 w5 hown5 hg5 _
            have hbx5 := hw9.box_app hg5
            have hw10 := hw9.push (x := ((no, l), (B, cB))) hg5 hown5
            clear q0 q1 qz x0 x1 xz hw
            obtain ⟨q0, q1⟩ := hbx5.two_
            have qz := hbx5.lt
            have qf := hbx5.thaw 1
            go_wp2_with fail
            go_roundw
            case rel => exact ⟨k + 1, A5, d5, zs ++ [((no, l), (B, cB))], by omega, by go_num, Lib.hid (by rw [attE_app, HZ.out]; exact HT.out.symm), HNC2, Lib.hid (fun y hy => by
              rcases List.mem_append.1 hy with hy | hy
              · exact HXS.out y hy
              · have hy := List.mem_singleton.1 hy
                subst hy; exact HRB.out), hw10⟩
            case measure => simp [intOf]; omega
          · rw [e1]
            have HT : Hid (mgN us (bs.take (k + 1)) = mgN us (bs.take k)) := Lib.hid (HN2.out ⟨r, hr, her⟩)
            have hul := (HA.out.spl r hr).len
            have HER := Lib.hid her
            have HYS := Lib.hid (fun (y : Att) (hy : y ∈ us) (e : y.1 = no) => lt_inj HUP.out hy (List.getElem_mem hr) (e.trans her.symm))
            clear HN1 HN2
            have HMU := Lib.hid (List.getElem_mem hr)
            have dlt : decide ((r : Int) < 0) = false := by simp
            go_upto_region 10 with (fail)
            obtain ⟨b2, off2, B2, cB2, rfl, hbs2, c0, c1, hrB2⟩ := hAx.att hr
            have hrl : (r : Int) < (us.length : Int) := by omega
            generalize us[r] = xr at *
            obtain ⟨no2, l2⟩ := xr
            dsimp only at *
            subst her
            have hBw : Below w.heap.size w ws.drew := (below_up HXB.out hw.bel).drew
            have hwD := hw.drew
            have kAxD := kAx.drew
            have kXD := kX.drew
            have hrBD := hrB2.drew
            have c0D : ws.drew.cell? ⟨b2, off2 + r * 2, none⟩ = some (.int .i64 no2) := c0
            have c1D : ws.drew.cell? ⟨b2, off2 + r * 2 + 1, none⟩ = some (.slice B2 l2.length cB2) := c1
            have hbsD : b2 < ws.drew.heap.size := hbs2
            clear c0 c1 hbs2 hrB2 hw kAx kX hAx
            refine wp_region_held_drew (S := (fun w' => ((w'.cell? ⟨w.heap.size, 0, none⟩ = some (.slice SA segs.length c) ∧ w'.cell? ⟨w.heap.size, 1, none⟩ = some (.slice (some ⟨b2, off2, none⟩) us.length d)) ∧ w'.cell? ⟨xb, 0, none⟩ = some (.int .i64 no2) ∧ w'.cell? ⟨xb, 1, none⟩ = some (.slice B l.length cB)) ∧ w'.cell? ⟨b2, off2 + r * 2, none⟩ = some (.int .i64 no2) ∧ w'.cell? ⟨b2, off2 + r * 2 + 1, none⟩ = some (.slice B2 l2.length cB2))) (by kernel_rfl) (⟨⟨kAxD.two_, kXD.two_⟩, c0D, c1D⟩) (fun hHeld => ?_)
            generalize ws.drew = wd at *
            (refine wpAnyH_take (i := 0) (v := ?_) (by (simp only [List.getElem?_toArray, List.getElem?_cons_zero]; rfl)) (by kernel_rfl) (by kernel_rfl) (by kernel_rfl) (by exact fun _ _ _ h => h) (Or.inl ⟨by rfl, ?_⟩) (by assumption) ?_; (rotate_left 1; (intro w hSw; (try dsimp only at hSw); go_simp); (try with_reducible rfl)); (try simp only [Act.put, List.setIfInBounds_toArray, List.set_cons_zero, List.set_cons_succ]))
            (refine wpAnyH_take (i := 1) (v := ?_) (by (simp only [List.getElem?_toArray, List.getElem?_cons_succ, List.getElem?_cons_zero]; rfl)) (by kernel_rfl) (by kernel_rfl) (by kernel_rfl) (by exact fun _ _ _ h => h) (Or.inl ⟨by rfl, ?_⟩) (by assumption) ?_; (rotate_left 1; (intro w hSw; (try dsimp only at hSw); go_simp); (try with_reducible rfl)); (try simp only [Act.put, List.setIfInBounds_toArray, List.set_cons_zero, List.set_cons_succ]))
            (refine wpAnyH_take (i := 2) (v := ?_) (by (simp only [List.getElem?_toArray, List.getElem?_cons_succ, List.getElem?_cons_zero]; rfl)) (by kernel_rfl) (by kernel_rfl) (by kernel_rfl) (by exact fun _ _ _ h => h) (Or.inl ⟨by rfl, ?_⟩) (by assumption) ?_; (rotate_left 1; (intro w hSw; (try dsimp only at hSw); go_simp); (try with_reducible rfl)); (try simp only [Act.put, List.setIfInBounds_toArray, List.set_cons_zero, List.set_cons_succ]))
            (refine wpAnyH_take (i := 3) (v := ?_) (by (simp only [List.getElem?_toArray, List.getElem?_cons_succ, List.getElem?_cons_zero]; rfl)) (by kernel_rfl) (by kernel_rfl) (by kernel_rfl) (by exact fun _ _ _ h => h) (Or.inl ⟨by rfl, ?_⟩) (by assumption) ?_; (rotate_left 1; (intro w hSw; (try dsimp only at hSw); go_simp); (try with_reducible rfl)); (try simp only [Act.put, List.setIfInBounds_toArray, List.set_cons_zero, List.set_cons_succ]))
            (refine wpAnyH_take (i := 4) (v := ?_) (by (simp only [List.getElem?_toArray, List.getElem?_cons_succ, List.getElem?_cons_zero]; rfl)) (by kernel_rfl) (by kernel_rfl) (by kernel_rfl) (by exact fun _ _ _ h => h) (Or.inl ⟨by rfl, ?_⟩) (by assumption) ?_; (rotate_left 1; (intro w hSw; (try dsimp only at hSw); go_simp); (try with_reducible rfl)); (try simp only [Act.put, List.setIfInBounds_toArray, List.set_cons_zero, List.set_cons_succ]))
            (refine wpAnyH_take (i := 5) (v := ?_) (by (simp only [List.getElem?_toArray, List.getElem?_cons_succ, List.getElem?_cons_zero]; rfl)) (by kernel_rfl) (by kernel_rfl) (by kernel_rfl) (by exact fun _ _ _ h => h) (Or.inl ⟨by rfl, ?_⟩) (by assumption) ?_; (rotate_left 1; (intro w hSw; (try dsimp only at hSw); go_simp); (try with_reducible rfl)); (try simp only [Act.put, List.setIfInBounds_toArray, List.set_cons_zero, List.set_cons_succ]))
            refine wpAnyH_ready (rs := [6]) (by kernel_rfl) (by simp) ?_
            refine AllReadyH.cons rfl (fun K hK => ?_) AllReadyH.nil
            go_simp
            go_at_call 91
            refine (sameAttempt_any no2 no2 B2 B cB2 cB lo 0 l2 l wd hrBD (HRB.out.below hBw) (by omega) (by omega)).mono ?_
            rintro e wq ⟨rfl, hbq⟩
            rw [show decide (((no2, l2) : Int × List Int) = (no2, l)) = decide (l2 = l) from decide_eq_decide.2 ⟨fun h => congrArg Prod.snd h, fun h => by rw [h]⟩]
            go_wp2_with fail
            refine hK.out _ _ (⟨⟨(kAxD.below hbq).two_, (kXD.below hbq).two_⟩, (hbq.cell hbsD).trans c0D, (hbq.cell hbsD).trans c1D⟩) (fun hHeld => ?_)
            clear hK K
            (try simp only [Act.put, List.setIfInBounds_toArray, List.set_cons_zero, List.set_cons_succ])
            (refine wpAnyH_take (i := 7) (v := ?_) (by (simp only [List.getElem?_toArray, List.getElem?_cons_succ, List.getElem?_cons_zero]; rfl)) (by kernel_rfl) (by kernel_rfl) (by kernel_rfl) (by exact fun _ _ _ h => h) (Or.inl ⟨by rfl, ?_⟩) (by assumption) ?_; (rotate_left 1; (intro w hSw; (try dsimp only at hSw); go_simp); (try with_reducible rfl)); (try simp only [Act.put, List.setIfInBounds_toArray, List.set_cons_zero, List.set_cons_succ]))
            (refine wpAnyH_take (i := 8) (v := ?_) (by (simp only [List.getElem?_toArray, List.getElem?_cons_succ, List.getElem?_cons_zero]; rfl)) (by kernel_rfl) (by kernel_rfl) (by kernel_rfl) (by exact fun _ _ _ h => h) (Or.inl ⟨by rfl, ?_⟩) (by assumption) ?_; (rotate_left 1; (intro w hSw; (try dsimp only at hSw); go_simp); (try with_reducible rfl)); (try simp only [Act.put, List.setIfInBounds_toArray, List.set_cons_zero, List.set_cons_succ]))
            refine wpAnyH_done (by kernel_rfl) ?_ _
            have hw := hwD.below hbq
            by_cases hsp : l2 = l
            · have HNC2 : Hid (∀ x ∈ bs.take (k + 1), ∀ y ∈ us, y.1 = x.1 → y.2 = x.2) := Lib.hid (fun x hx y hy e => by
                rw [HTB.out] at hx
                rcases List.mem_append.1 hx with hx | hx
                · exact HNC.out x hx y hy e
                · have hx := List.mem_singleton.1 hx
                  subst hx
                  rw [HYS.out y hy e]; exact hsp)
              rw [decide_eq_true hsp]
              clear hsp HYS HER
              go_wp2_with fail
              go_roundw
              case rel => exact ⟨k + 1, A, dz, zs, by omega, by go_num, by rw [HT.out]; exact HZ, HNC2, HXS, hw⟩
              case measure => simp [intOf]; omega
            · have HCF : Hid (confl us bs = true) := Lib.hid (confl_yes HMB.out HMU.out rfl hsp)
              rw [decide_eq_false hsp]
              have kR9 := kR.below hw.bel
              have hx9 := below_up HXB.out hw.bel
              clear hsp HYS HER HT HTB HMB
              obtain ⟨r0, r1⟩ := kR9.two_
              have rz := kR9.lt
              have rf0 := kR9.thaw 0
              have rf1 := kR9.thaw 1
              obtain ⟨z0, z1, z2⟩ := kR9.two2 (.slice none 0 0) (.slice none 0 0)
              go_wp2_with fail
              refine bodyPost_ret (v := .tuple #[.agg #[.slice none 0 0, .slice none 0 0], .int .i64 13]) (by simp [results, Tryz.results31, go_sem, z0, z1, z2]) rfl ?_
              exact BADP.out _ (fun _ => HCF.out) (Below.setCell (Below.setCell hx9 (p := ⟨w.heap.size + 2, 0, none⟩) (by simp) _) (p := ⟨w.heap.size + 2, 1, none⟩) (by simp) _)
        · have hkn : bs.take k = bs := List.take_of_length_le (by omega)
          rw [hkn] at HZ HNC
          have hke : k = bs.length := by omega
          subst hke
          clear hkn hk hlt
          obtain ⟨q0, q1⟩ := hw.box.two_
          have qz := hw.box.lt
          have d5 : decide (500 < zs.length) = false := by simp; omega
          go_wp2_with fail
          refine (sortR_any A dz w2.heap.size zs _ hw.row (by omega)).mono ?_
          rintro e ws ⟨rfl, ys, hp, hsd, hoA, hgA⟩
          replace hw := hw.turned hgA hp.length_eq hoA
          rw [← hp.length_eq] at hzl
          clear q0 q1 qz d5 hgA hoA
          have kR9 := kR.below hw.bel
          have hx9 := below_up HXB.out hw.bel
          obtain ⟨q0, q1⟩ := hw.box.two_
          have qz := hw.box.lt
          obtain ⟨r0, r1⟩ := kR9.two_
          have rz := kR9.lt
          have rf0 := kR9.thaw 0
          have rf1 := kR9.thaw 1
          obtain ⟨z0, z1, z2⟩ := kR9.two2 (.slice SA segs.length c) (.slice A ys.length dz)
          have p := grown_pokeOf ws (w.heap.size + 2) 0 (.slice SA segs.length c)
          have qq := grown_pokeOf (ws.setCell ⟨w.heap.size + 2, 0, none⟩ (.slice SA segs.length c)) (w.heap.size + 2) 1 (.slice A ys.length dz)
          have k1 := (kR9.poke 0 (.slice SA segs.length c)).kindOf
          have HRW := Lib.hid ((Row.of_own (own_otherOf (own_otherOf hw.row p kR9.kindOf (by decide)) qq k1 (by decide))).weak (Nat.zero_le _))
          have HBW := Lib.hid (Below.setCell (Below.setCell hx9 (p := ⟨w.heap.size + 2, 0, none⟩) (by simp) (.slice SA segs.length c)) (p := ⟨w.heap.size + 2, 1, none⟩) (by simp) (.slice A ys.length dz))
          have HPM : Hid ((attE ys).Perm (us ++ mgN us bs)) := Lib.hid (by rw [← HZ.out]; exact hp.map _)
          have HSD : Hid ((attE ys).Pairwise (fun x y => x.1 ≤ y.1)) := Lib.hid (by unfold attE; rw [List.pairwise_map]; exact hsd)
          have HYR : Hid (∀ x ∈ ys, Row w 0 1 x.2.1 x.1.2.length (ints x.1.2)) := Lib.hid (fun x hx => HXS.out x (hp.mem_iff.1 hx))
          clear hw kR9 hx9 p qq k1 hp hsd
          go_wp2_with fail
          refine bodyPost_ret (v := .tuple #[.agg #[.slice SA segs.length c, .slice A ys.length dz], .int .i64 0]) (by simp [results, Tryz.results31, go_sem, z0, z1, z2]) rfl ?_
          refine .inl ⟨rfl, confl_no HNC.out, SA, A, c, dz, attE ys, by rw [attE_len], hist_row (HSG.out.below HBW.out) HRW.out (fun x hx => (HYR.out x hx).below HBW.out), HPM.out, HSD.out, HBW.out⟩
end Go.Proofs.YtggnccafmadacaaGreatDoor
