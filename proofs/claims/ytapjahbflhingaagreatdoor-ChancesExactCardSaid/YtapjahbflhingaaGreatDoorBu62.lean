/- Texts of this seat, laid together: Lx Ly Lz He. -/
import Derived.Handy
import Derived.Test.YtapjahbflhingaaGreatDoorBu61
import Derived.Test.YtapjahbflhingaaGreatDoorBu57
import Derived.Test.YtapjahbflhingaaGreatDoorBu56
import Derived.Test.YtapjahbflhingaaGreatDoorBu04
/- The walks of the closures of a comparison, of even, and of ContainsFunc over rows. -/
namespace Go.Proofs.YtapjahbflhingaaGreatDoor
set_option linter.unusedVariables false
set_option linter.unusedSimpArgs false
open Go.RowKit

def optL (o : Option (List Int)) : List Int := o.getD []
theorem optL_some (l : List Int) : optL (some l) = l := rfl
theorem optL_none : optL none = [] := rfl
theorem mapF_bd {rows : List (List Int)} {f : List Int → Int} (hf : ∀ r ∈ rows, 0 < r.length → 0 ≤ f r ∧ f r ≤ 864000000) (h0 : fullB rows = true) : ∀ x ∈ rows.map f, 0 ≤ x ∧ x ≤ 864000000 := by
  intro x hx
  obtain ⟨r, hr, rfl⟩ := List.mem_map.1 hx
  have := List.all_eq_true.1 h0 r hr
  exact hf r hr (by simpa using this)
/-! ### rows that are empty -/
theorem empty1_any (A : Option Addr) (n c : Nat) (w : World) :
    Calls Tryz.prog 108 #[.slice A n c] w fun e w' => e = .returned (.bool (decide (n = 0))) ∧ w = w' := by
  go_enter Tryz.func108, Tryz.ntmps108
  go_wp2_with fail
  go_ret
  refine ⟨?_, rfl⟩
  first | rfl | (congr 2; by_cases h : n = 0 <;> simp [h])
set_option maxHeartbeats 1000000 in
theorem indexFuncN_any (g base c : Nat) (rows : List (List Int)) (w : World) (hN : Nest 3 22 w base g rows) (h6 : rows.length ≤ 60) :
    Calls Tryz.prog 90 #[.slice (some ⟨g, 0, none⟩) rows.length c, .func (.func 108) #[] #[]] w fun e w' => ∃ r : Int, e = .returned (.int .i64 r) ∧ (decide (0 ≤ r) = !fullB rows) ∧ w = w' := by
  have hgl := hN.lt
  go_enter Tryz.func90, Tryz.ntmps90
  go_wp2_with fail
  go_loop [8] (fun i => ∃ k : Nat, k ≤ rows.length ∧ i = .int .i64 k ∧ Hid (fullB (rows.take k) = true)) (fun i => rows.length - (intOf i).toNat)
  case atStart => exact ⟨0, Nat.zero_le _, rfl, Lib.hid (by simp [fullB])⟩
  case round =>
    obtain ⟨k, hk, rfl, hno⟩ := hrel
    by_cases hlt : k < rows.length
    · obtain ⟨A1, c1, cg, _⟩ := hN.row hlt
      have HT : Hid (rows.take (k + 1) = rows.take k ++ [rows[k]]) := Lib.hid (List.take_succ_eq_append_getElem hlt)
      have HM := Lib.hid (List.getElem_mem hlt)
      generalize rows[k] = z at *
      go_wp2_with fail
      refine (empty1_any _ _ _ _).mono ?_
      rintro e w' ⟨rfl, rfl⟩
      by_cases hp : z.length = 0
      · have HF : Hid (fullB rows = false) := Lib.hid (by
          unfold fullB
          rw [List.all_eq_false]
          exact ⟨z, HM.out, by rw [decide_eq_true_eq]; omega⟩)
        have d9 : decide (z.length = 0) = true := decide_eq_true hp
        clear hp HM
        rw [d9]
        go_wp2_with fail
        go_ret
        exact ⟨k, rfl, by rw [decide_eq_true (by omega), HF.out]; rfl, rfl⟩
      · have HF : Hid (fullB (rows.take (k + 1)) = true) := Lib.hid (by rw [HT.out, fullB_snoc, hno.out]; simp; omega)
        have d9 : decide (z.length = 0) = false := decide_eq_false hp
        clear hp HM
        rw [d9]
        go_wp2_with fail
        go_round
        case rel => exact ⟨k + 1, by omega, by go_num, HF⟩
        case measure => simp [intOf]; omega
    · have HN : Hid (fullB rows = true) := Lib.hid (by have := hno.out; rwa [List.take_of_length_le (by omega)] at this)
      have hkk : k = rows.length := by omega
      subst hkk
      clear hno
      go_wp2_with fail
      go_ret
      exact ⟨-1, rfl, by rw [HN.out]; rfl, rfl⟩
theorem containsFuncN_any (g base c : Nat) (rows : List (List Int)) (w : World) (hN : Nest 3 22 w base g rows) (h6 : rows.length ≤ 60) :
    Calls Tryz.prog 53 #[.slice (some ⟨g, 0, none⟩) rows.length c, .func (.func 108) #[] #[]] w fun e w' => e = .returned (.bool (!fullB rows)) ∧ w = w' := by
  go_enter Tryz.func53, Tryz.ntmps53
  go_wp2_with fail
  refine (indexFuncN_any g base c rows _ hN h6).mono ?_
  rintro e w' ⟨r, rfl, h, rfl⟩
  have H := Lib.hid h
  clear h
  go_wp2_with fail
  go_ret
  exact ⟨ret_bool' H.out, rfl⟩
/-! ### values of a row -/
theorem gold3_any (A : Option Addr) (c lo : Nat) (row : List Int) (w : World) (hr : Row w lo 1 A row.length (ints row)) (hk : RowOk row) (h0 : 0 < row.length) :
    Calls Tryz.prog 111 #[.slice A row.length c] w fun e w' => e = .returned (.int .i64 (goldF row)) ∧ Below w.heap.size w w' := by
  have HG := Lib.hid (goldF_at h0)
  obtain ⟨b, off, rfl, _, hbs, c0⟩ := hr.int_at (k := 0) h0
  rw [Nat.add_zero] at c0
  generalize row[0] = x at *
  clear hk
  go_enter Tryz.func111, Tryz.ntmps111
  go_wp2_with fail
  go_ret
  exact ⟨ret_int' HG.out.symm, Below.refl _ _⟩
theorem mid4_any (A : Option Addr) (c lo : Nat) (row : List Int) (w : World) (hr : Row w lo 1 A row.length (ints row)) (hk : RowOk row) (h0 : 0 < row.length) :
    Calls Tryz.prog 113 #[.slice A row.length c] w fun e w' => e = .returned (.int .i64 (levA row 500)) ∧ Below w.heap.size w w' := by
  go_enter Tryz.func113, Tryz.ntmps113
  go_wp2_with fail
  refine (level_any A c lo 500 row _ hr hk h0 (by omega)).mono ?_
  rintro e w1 ⟨rfl, hb⟩
  go_wp2_with fail
  go_ret
  exact ⟨rfl, hb⟩
end Go.Proofs.YtapjahbflhingaaGreatDoor
/- The walks of the closure of a comparison that goes through the rows. -/
namespace Go.Proofs.YtapjahbflhingaaGreatDoor
set_option linter.unusedVariables false
set_option linter.unusedSimpArgs false
open Go.RowKit

/-! ### each of the rows -/

set_option maxHeartbeats 2000000 in
set_option maxRecDepth 100000 in
theorem each2_any (pf pb g base c : Nat) (rows : List (List Int)) (w : World) (hf : Blk w pf 4 #[.bool (fullB rows)]) (hb : Blk w pb 98 #[.slice (some ⟨g, 0, none⟩) rows.length c]) (hN : Nest 3 22 w base g rows) (hr : ∀ r ∈ rows, RowOk r) (h6 : rows.length ≤ 60) :
    Calls Tryz.prog 109 #[.func (.func 111) #[] #[], .pointer (some ⟨pf, 0, none⟩), .pointer (some ⟨pb, 0, none⟩)] w fun e w' => ∃ A' c', e = .returned (.tuple #[.slice A' (optL (eachO goldF rows)).length c', .bool (eachO goldF rows).isSome]) ∧ w'.ownsRow w.heap.size 3 1 (.slice A' (optL (eachO goldF rows)).length c') (optL (eachO goldF rows)).length (ints (optL (eachO goldF rows))) ∧ Below w.heap.size w w' := by
  have cf : w.cell? ⟨pf, 0, none⟩ = some (.bool (fullB rows)) := by simpa using hf.cell 0
  have cb : w.cell? ⟨pb, 0, none⟩ = some (.slice (some ⟨g, 0, none⟩) rows.length c) := by simpa using hb.cell 0
  have zf := hf.lt
  have zb := hb.lt
  have HR := Lib.hid hr
  clear hr hf hb
  by_cases h0 : fullB rows = true
  · have HO : Hid (eachO goldF rows = some (addA (rows.map goldF))) := Lib.hid (by unfold eachO; rw [if_pos h0])
    have HF := Lib.hid (fun (k : Nat) (hk : k < rows.length) => fullB_at h0 hk)
    have HBD := Lib.hid (mapF_bd (rows := rows) (f := goldF) (fun r hm hl => by exact goldF_bd (HR.out r hm) hl) h0)
    have HVN := Lib.hid (fun (k : Nat) (hk : k < rows.length) => valL_next (f := goldF) hk)
    have HVA := Lib.hid (valL_all goldF rows)
    have HVL := Lib.hid (fun (k : Nat) (hk : k ≤ rows.length) => valL_len (f := goldF) hk)
    rw [h0] at cf
    clear h0
    go_enter Tryz.func109, Tryz.ntmps109
    go_wp2_with fail
    go_loopw [6, 13] (fun v i wr => ∃ (k : Nat) (A' : Option Addr) (c' : Nat), k ≤ rows.length ∧ i = .int .i64 k ∧ v = .slice A' (valL goldF rows k).length c' ∧ wr.ownsRow w.heap.size 3 1 (.slice A' (valL goldF rows k).length c') (valL goldF rows k).length (ints (valL goldF rows k)) ∧ Below w.heap.size w wr) (fun _ i _ => rows.length - (intOf i).toNat)
    case atStart => exact ⟨0, none, 0, Nat.zero_le _, rfl, rfl, World.ownsRow_nil _ _ _ _, Below.refl _ _⟩
    case round =>
      clear cf cb
      obtain ⟨k, A', c', hk, rfl, rfl, hown, hbw⟩ := hrel
      have hz := hbw.size
      have hlk : (valL goldF rows k).length ≤ 60 := by rw [HVL.out k hk]; omega
      by_cases hlt : k < rows.length
      · have hNr := hN.below hbw
        obtain ⟨A1, c1, cg, ho1⟩ := hNr.row hlt
        have hgl := hNr.lt
        have HK := Lib.hid (HR.out rows[k] (List.getElem_mem hlt))
        have HS := Lib.hid (HVN.out k hlt)
        have h0 := HF.out k hlt
        have hr1 := Row.of_own ho1
        generalize rows[k] = row at *
        generalize valL goldF rows k = o at *
        clear ho1 hNr
        go_wp2_with fail
        refine (gold3_any A1 c1 _ row _ hr1 HK.out h0).mono ?_
        rintro e w2 ⟨rfl, hb2⟩
        have hown2 := own_keep hown hb2
        have hx2 := below_up hbw hb2
        have hz2 := hx2.size
        generalize goldF row = x at *
        clear hb2 hbw hown hr1
        go_wp2_with (at_builtin; go_must (refine wpList_app (lo := w.heap.size) (base := w.heap.size) (n := o.length) (xs := ints o) _ _ rfl _ _ ty_ints rfl (by repeat (first | exact hown2 | refine World.ownsRow.alloc ?_ _ | refine own_drewN ?_ _ | refine World.ownsRow.drew ?_)) rfl (by first | exact row_new' _ (by first | rfl | simp) (by first | omega | (simp; omega)) rfl | exact row_newN _ _ (by first | rfl | simp) (by first | omega | (simp; omega)) rfl | exact row_newD _ (by first | rfl | simp) (by first | omega | (simp; omega)) rfl) rfl rfl (by first | omega | decide) (by first | omega | decide) (by first | omega | (simp; omega)) ?_))
        intro A5 c5 w5 hown5 hg5 _
        go_wp2_with fail
        go_roundw
        case rel => exact ⟨k + 1, A5, c5, by omega, by go_num, by rw [HS.out]; simp, by rw [HS.out, ints_app, List.length_append]; exact hown5, below_app hown2 (by repeat (first | exact hx2 | refine Below.alloc ?_ (by first | omega | (simp; omega)) _ | refine below_drewN' ?_ _ | refine Below.drew ?_)) hg5 (Nat.le_refl _) (by simp; omega)⟩
        case measure => simp [intOf]; omega
      · have hkn : k = rows.length := by omega
        subst hkn
        rw [HVA.out] at hown ⊢
        have hll : (rows.map goldF).length ≤ 60 := by simpa using h6
        clear HVA HVL HVN hlk
        generalize rows.map goldF = l at *
        go_wp2_with fail
        refine (added_any A' c' _ l _ (Row.of_own hown) hll HBD.out).mono ?_
        rintro e w2 ⟨A2, c2, rfl, ho2, hb2⟩
        go_wp2_with fail
        go_returns
        exact ⟨A2, c2, by rw [HO.out]; rfl, by rw [HO.out]; exact own_weak ho2 hz, below_up hbw hb2⟩
  · have h0' : fullB rows = false := by simpa using h0
    have HO : Hid (eachO goldF rows = none) := Lib.hid (by unfold eachO; rw [if_neg h0])
    rw [h0'] at cf
    clear h0 h0'
    go_enter Tryz.func109, Tryz.ntmps109
    go_wp2_with fail
    go_returns
    exact ⟨none, 0, by rw [HO.out]; rfl, by rw [HO.out]; exact World.ownsRow_nil _ _ _ _, Below.refl _ _⟩

set_option maxHeartbeats 2000000 in
set_option maxRecDepth 100000 in
theorem each3_any (pf pb g base c : Nat) (rows : List (List Int)) (w : World) (hf : Blk w pf 4 #[.bool (fullB rows)]) (hb : Blk w pb 98 #[.slice (some ⟨g, 0, none⟩) rows.length c]) (hN : Nest 3 22 w base g rows) (hr : ∀ r ∈ rows, RowOk r) (h6 : rows.length ≤ 60) :
    Calls Tryz.prog 109 #[.func (.func 112) #[] #[], .pointer (some ⟨pf, 0, none⟩), .pointer (some ⟨pb, 0, none⟩)] w fun e w' => ∃ A' c', e = .returned (.tuple #[.slice A' (optL (eachO mnA rows)).length c', .bool (eachO mnA rows).isSome]) ∧ w'.ownsRow w.heap.size 3 1 (.slice A' (optL (eachO mnA rows)).length c') (optL (eachO mnA rows)).length (ints (optL (eachO mnA rows))) ∧ Below w.heap.size w w' := by
  have cf : w.cell? ⟨pf, 0, none⟩ = some (.bool (fullB rows)) := by simpa using hf.cell 0
  have cb : w.cell? ⟨pb, 0, none⟩ = some (.slice (some ⟨g, 0, none⟩) rows.length c) := by simpa using hb.cell 0
  have zf := hf.lt
  have zb := hb.lt
  have HR := Lib.hid hr
  clear hr hf hb
  by_cases h0 : fullB rows = true
  · have HO : Hid (eachO mnA rows = some (addA (rows.map mnA))) := Lib.hid (by unfold eachO; rw [if_pos h0])
    have HF := Lib.hid (fun (k : Nat) (hk : k < rows.length) => fullB_at h0 hk)
    have HBD := Lib.hid (mapF_bd (rows := rows) (f := mnA) (fun r hm hl => by exact mnA_bd (HR.out r hm) hl) h0)
    have HVN := Lib.hid (fun (k : Nat) (hk : k < rows.length) => valL_next (f := mnA) hk)
    have HVA := Lib.hid (valL_all mnA rows)
    have HVL := Lib.hid (fun (k : Nat) (hk : k ≤ rows.length) => valL_len (f := mnA) hk)
    rw [h0] at cf
    clear h0
    go_enter Tryz.func109, Tryz.ntmps109
    go_wp2_with fail
    go_loopw [6, 13] (fun v i wr => ∃ (k : Nat) (A' : Option Addr) (c' : Nat), k ≤ rows.length ∧ i = .int .i64 k ∧ v = .slice A' (valL mnA rows k).length c' ∧ wr.ownsRow w.heap.size 3 1 (.slice A' (valL mnA rows k).length c') (valL mnA rows k).length (ints (valL mnA rows k)) ∧ Below w.heap.size w wr) (fun _ i _ => rows.length - (intOf i).toNat)
    case atStart => exact ⟨0, none, 0, Nat.zero_le _, rfl, rfl, World.ownsRow_nil _ _ _ _, Below.refl _ _⟩
    case round =>
      clear cf cb
      obtain ⟨k, A', c', hk, rfl, rfl, hown, hbw⟩ := hrel
      have hz := hbw.size
      have hlk : (valL mnA rows k).length ≤ 60 := by rw [HVL.out k hk]; omega
      by_cases hlt : k < rows.length
      · have hNr := hN.below hbw
        obtain ⟨A1, c1, cg, ho1⟩ := hNr.row hlt
        have hgl := hNr.lt
        have HK := Lib.hid (HR.out rows[k] (List.getElem_mem hlt))
        have HS := Lib.hid (HVN.out k hlt)
        have h0 := HF.out k hlt
        have hr1 := Row.of_own ho1
        generalize rows[k] = row at *
        generalize valL mnA rows k = o at *
        clear ho1 hNr
        go_wp2_with fail
        refine (mean_any A1 c1 _ row _ hr1 HK.out h0).mono ?_
        rintro e w2 ⟨rfl, hb2⟩
        have hown2 := own_keep hown hb2
        have hx2 := below_up hbw hb2
        have hz2 := hx2.size
        generalize mnA row = x at *
        clear hb2 hbw hown hr1
        go_wp2_with (at_builtin; go_must (refine wpList_app (lo := w.heap.size) (base := w.heap.size) (n := o.length) (xs := ints o) _ _ rfl _ _ ty_ints rfl (by repeat (first | exact hown2 | refine World.ownsRow.alloc ?_ _ | refine own_drewN ?_ _ | refine World.ownsRow.drew ?_)) rfl (by first | exact row_new' _ (by first | rfl | simp) (by first | omega | (simp; omega)) rfl | exact row_newN _ _ (by first | rfl | simp) (by first | omega | (simp; omega)) rfl | exact row_newD _ (by first | rfl | simp) (by first | omega | (simp; omega)) rfl) rfl rfl (by first | omega | decide) (by first | omega | decide) (by first | omega | (simp; omega)) ?_))
        intro A5 c5 w5 hown5 hg5 _
        go_wp2_with fail
        go_roundw
        case rel => exact ⟨k + 1, A5, c5, by omega, by go_num, by rw [HS.out]; simp, by rw [HS.out, ints_app, List.length_append]; exact hown5, below_app hown2 (by repeat (first | exact hx2 | refine Below.alloc ?_ (by first | omega | (simp; omega)) _ | refine below_drewN' ?_ _ | refine Below.drew ?_)) hg5 (Nat.le_refl _) (by simp; omega)⟩
        case measure => simp [intOf]; omega
      · have hkn : k = rows.length := by omega
        subst hkn
        rw [HVA.out] at hown ⊢
        have hll : (rows.map mnA).length ≤ 60 := by simpa using h6
        clear HVA HVL HVN hlk
        generalize rows.map mnA = l at *
        go_wp2_with fail
        refine (added_any A' c' _ l _ (Row.of_own hown) hll HBD.out).mono ?_
        rintro e w2 ⟨A2, c2, rfl, ho2, hb2⟩
        go_wp2_with fail
        go_returns
        exact ⟨A2, c2, by rw [HO.out]; rfl, by rw [HO.out]; exact own_weak ho2 hz, below_up hbw hb2⟩
  · have h0' : fullB rows = false := by simpa using h0
    have HO : Hid (eachO mnA rows = none) := Lib.hid (by unfold eachO; rw [if_neg h0])
    rw [h0'] at cf
    clear h0 h0'
    go_enter Tryz.func109, Tryz.ntmps109
    go_wp2_with fail
    go_returns
    exact ⟨none, 0, by rw [HO.out]; rfl, by rw [HO.out]; exact World.ownsRow_nil _ _ _ _, Below.refl _ _⟩

set_option maxHeartbeats 2000000 in
set_option maxRecDepth 100000 in
theorem each4_any (pf pb g base c : Nat) (rows : List (List Int)) (w : World) (hf : Blk w pf 4 #[.bool (fullB rows)]) (hb : Blk w pb 98 #[.slice (some ⟨g, 0, none⟩) rows.length c]) (hN : Nest 3 22 w base g rows) (hr : ∀ r ∈ rows, RowOk r) (h6 : rows.length ≤ 60) :
    Calls Tryz.prog 109 #[.func (.func 113) #[] #[], .pointer (some ⟨pf, 0, none⟩), .pointer (some ⟨pb, 0, none⟩)] w fun e w' => ∃ A' c', e = .returned (.tuple #[.slice A' (optL (eachO (fun r => levA r 500) rows)).length c', .bool (eachO (fun r => levA r 500) rows).isSome]) ∧ w'.ownsRow w.heap.size 3 1 (.slice A' (optL (eachO (fun r => levA r 500) rows)).length c') (optL (eachO (fun r => levA r 500) rows)).length (ints (optL (eachO (fun r => levA r 500) rows))) ∧ Below w.heap.size w w' := by
  have cf : w.cell? ⟨pf, 0, none⟩ = some (.bool (fullB rows)) := by simpa using hf.cell 0
  have cb : w.cell? ⟨pb, 0, none⟩ = some (.slice (some ⟨g, 0, none⟩) rows.length c) := by simpa using hb.cell 0
  have zf := hf.lt
  have zb := hb.lt
  have HR := Lib.hid hr
  clear hr hf hb
  by_cases h0 : fullB rows = true
  · have HO : Hid (eachO (fun r => levA r 500) rows = some (addA (rows.map (fun r => levA r 500)))) := Lib.hid (by unfold eachO; rw [if_pos h0])
    have HF := Lib.hid (fun (k : Nat) (hk : k < rows.length) => fullB_at h0 hk)
    have HBD := Lib.hid (mapF_bd (rows := rows) (f := (fun r => levA r 500)) (fun r hm hl => by have := levA_bd (HR.out r hm) (part := 500) hl (by omega); omega) h0)
    have HVN := Lib.hid (fun (k : Nat) (hk : k < rows.length) => valL_next (f := (fun r => levA r 500)) hk)
    have HVA := Lib.hid (valL_all (fun r => levA r 500) rows)
    have HVL := Lib.hid (fun (k : Nat) (hk : k ≤ rows.length) => valL_len (f := (fun r => levA r 500)) hk)
    rw [h0] at cf
    clear h0
    go_enter Tryz.func109, Tryz.ntmps109
    go_wp2_with fail
    go_loopw [6, 13] (fun v i wr => ∃ (k : Nat) (A' : Option Addr) (c' : Nat), k ≤ rows.length ∧ i = .int .i64 k ∧ v = .slice A' (valL (fun r => levA r 500) rows k).length c' ∧ wr.ownsRow w.heap.size 3 1 (.slice A' (valL (fun r => levA r 500) rows k).length c') (valL (fun r => levA r 500) rows k).length (ints (valL (fun r => levA r 500) rows k)) ∧ Below w.heap.size w wr) (fun _ i _ => rows.length - (intOf i).toNat)
    case atStart => exact ⟨0, none, 0, Nat.zero_le _, rfl, rfl, World.ownsRow_nil _ _ _ _, Below.refl _ _⟩
    case round =>
      clear cf cb
      obtain ⟨k, A', c', hk, rfl, rfl, hown, hbw⟩ := hrel
      have hz := hbw.size
      have hlk : (valL (fun r => levA r 500) rows k).length ≤ 60 := by rw [HVL.out k hk]; omega
      by_cases hlt : k < rows.length
      · have hNr := hN.below hbw
        obtain ⟨A1, c1, cg, ho1⟩ := hNr.row hlt
        have hgl := hNr.lt
        have HK := Lib.hid (HR.out rows[k] (List.getElem_mem hlt))
        have HS := Lib.hid (HVN.out k hlt)
        have h0 := HF.out k hlt
        have hr1 := Row.of_own ho1
        generalize rows[k] = row at *
        generalize valL (fun r => levA r 500) rows k = o at *
        clear ho1 hNr
        go_wp2_with fail
        refine (mid4_any A1 c1 _ row _ hr1 HK.out h0).mono ?_
        rintro e w2 ⟨rfl, hb2⟩
        have hown2 := own_keep hown hb2
        have hx2 := below_up hbw hb2
        have hz2 := hx2.size
        generalize levA row 500 = x at *
        clear hb2 hbw hown hr1
        go_wp2_with (at_builtin; go_must (refine wpList_app (lo := w.heap.size) (base := w.heap.size) (n := o.length) (xs := ints o) _ _ rfl _ _ ty_ints rfl (by repeat (first | exact hown2 | refine World.ownsRow.alloc ?_ _ | refine own_drewN ?_ _ | refine World.ownsRow.drew ?_)) rfl (by first | exact row_new' _ (by first | rfl | simp) (by first | omega | (simp; omega)) rfl | exact row_newN _ _ (by first | rfl | simp) (by first | omega | (simp; omega)) rfl | exact row_newD _ (by first | rfl | simp) (by first | omega | (simp; omega)) rfl) rfl rfl (by first | omega | decide) (by first | omega | decide) (by first | omega | (simp; omega)) ?_))
        intro A5 c5 w5 hown5 hg5 _
        go_wp2_with fail
        go_roundw
        case rel => exact ⟨k + 1, A5, c5, by omega, by go_num, by rw [HS.out]; simp, by rw [HS.out, ints_app, List.length_append]; exact hown5, below_app hown2 (by repeat (first | exact hx2 | refine Below.alloc ?_ (by first | omega | (simp; omega)) _ | refine below_drewN' ?_ _ | refine Below.drew ?_)) hg5 (Nat.le_refl _) (by simp; omega)⟩
        case measure => simp [intOf]; omega
      · have hkn : k = rows.length := by omega
        subst hkn
        rw [HVA.out] at hown ⊢
        have hll : (rows.map (fun r => levA r 500)).length ≤ 60 := by simpa using h6
        clear HVA HVL HVN hlk
        generalize rows.map (fun r => levA r 500) = l at *
        go_wp2_with fail
        refine (added_any A' c' _ l _ (Row.of_own hown) hll HBD.out).mono ?_
        rintro e w2 ⟨A2, c2, rfl, ho2, hb2⟩
        go_wp2_with fail
        go_returns
        exact ⟨A2, c2, by rw [HO.out]; rfl, by rw [HO.out]; exact own_weak ho2 hz, below_up hbw hb2⟩
  · have h0' : fullB rows = false := by simpa using h0
    have HO : Hid (eachO (fun r => levA r 500) rows = none) := Lib.hid (by unfold eachO; rw [if_neg h0])
    rw [h0'] at cf
    clear h0 h0'
    go_enter Tryz.func109, Tryz.ntmps109
    go_wp2_with fail
    go_returns
    exact ⟨none, 0, by rw [HO.out]; rfl, by rw [HO.out]; exact World.ownsRow_nil _ _ _ _, Below.refl _ _⟩

end Go.Proofs.YtapjahbflhingaaGreatDoor
/- The walks of even and its closure. -/
namespace Go.Proofs.YtapjahbflhingaaGreatDoor
set_option linter.unusedVariables false
set_option linter.unusedSimpArgs false
open Go.RowKit

/-! ### the greatest part -/
theorem fun_lev (part : Nat) : (fun r : List Int => levA r part) = (levA · part) := rfl
set_option maxHeartbeats 2000000 in
theorem even1_any (part pb g base c : Nat) (rows : List (List Int)) (w : World) (hp : part ≤ 1000) (hb : Blk w pb 98 #[.slice (some ⟨g, 0, none⟩) rows.length c]) (hN : Nest 3 22 w base g rows) (hr : ∀ r ∈ rows, RowOk r) (h0 : fullB rows = true) (h6 : rows.length ≤ 60) :
    Calls Tryz.prog 152 #[.int .i64 part, .pointer (some ⟨pb, 0, none⟩)] w fun e w' => ∃ A' c', e = .returned (.slice A' (rows.map (levA · part)).length c') ∧ w'.ownsRow w.heap.size 3 1 (.slice A' (rows.map (levA · part)).length c') (rows.map (levA · part)).length (ints (rows.map (levA · part))) ∧ Below w.heap.size w w' := by
  have cb : w.cell? ⟨pb, 0, none⟩ = some (.slice (some ⟨g, 0, none⟩) rows.length c) := by simpa using hb.cell 0
  have zb := hb.lt
  have HR := Lib.hid hr
  have HF := Lib.hid (fun (k : Nat) (hk : k < rows.length) => fullB_at h0 hk)
  have HVN := Lib.hid (fun (k : Nat) (hk : k < rows.length) => valL_next (f := (levA · part)) hk)
  have HVA := Lib.hid (valL_all (levA · part) rows)
  have HVL := Lib.hid (fun (k : Nat) (hk : k ≤ rows.length) => valL_len (f := (levA · part)) hk)
  clear hr hb h0
  go_enter Tryz.func152, Tryz.ntmps152
  go_wp2_with fail
  go_loopw [4, 9] (fun v i wr => ∃ (k : Nat) (A' : Option Addr) (c' : Nat), k ≤ rows.length ∧ i = .int .i64 k ∧ v = .slice A' (valL (levA · part) rows k).length c' ∧ wr.ownsRow w.heap.size 3 1 (.slice A' (valL (levA · part) rows k).length c') (valL (levA · part) rows k).length (ints (valL (levA · part) rows k)) ∧ Below w.heap.size w wr) (fun _ i _ => rows.length - (intOf i).toNat)
  case atStart => exact ⟨0, none, 0, Nat.zero_le _, rfl, rfl, World.ownsRow_nil _ _ _ _, Below.refl _ _⟩
  case round =>
    clear cb
    obtain ⟨k, A', c', hk, rfl, rfl, hown, hbw⟩ := hrel
    have hz := hbw.size
    have hlk : (valL (levA · part) rows k).length ≤ 60 := by rw [HVL.out k hk]; omega
    by_cases hlt : k < rows.length
    · have hNr := hN.below hbw
      obtain ⟨A1, c1, cg, ho1⟩ := hNr.row hlt
      have hgl := hNr.lt
      have HK := Lib.hid (HR.out rows[k] (List.getElem_mem hlt))
      have HS := Lib.hid (HVN.out k hlt)
      have h0 := HF.out k hlt
      have hr1 := Row.of_own ho1
      generalize rows[k] = row at *
      generalize valL (levA · part) rows k = o at *
      clear ho1 hNr
      go_wp2_with fail
      refine (level_any A1 c1 _ part row _ hr1 HK.out h0 hp).mono ?_
      rintro e w2 ⟨rfl, hb2⟩
      have hown2 := own_keep hown hb2
      have hx2 := below_up hbw hb2
      have hz2 := hx2.size
      generalize levA row part = x at *
      clear hb2 hbw hown hr1
      go_wp2_with (at_builtin; go_must (refine wpList_app (lo := w.heap.size) (base := w.heap.size) (n := o.length) (xs := ints o) _ _ rfl _ _ ty_ints rfl (by repeat (first | exact hown2 | refine World.ownsRow.alloc ?_ _ | refine own_drewN ?_ _ | refine World.ownsRow.drew ?_)) rfl (by first | exact row_new' _ (by first | rfl | simp) (by first | omega | (simp; omega)) rfl | exact row_newN _ _ (by first | rfl | simp) (by first | omega | (simp; omega)) rfl | exact row_newD _ (by first | rfl | simp) (by first | omega | (simp; omega)) rfl) rfl rfl (by first | omega | decide) (by first | omega | decide) (by first | omega | (simp; omega)) ?_))
      intro A5 c5 w5 hown5 hg5 _
      go_wp2_with fail
      go_roundw
      case rel => exact ⟨k + 1, A5, c5, by omega, by go_num, by rw [HS.out]; simp, by rw [HS.out, ints_app, List.length_append]; exact hown5, below_app hown2 (by repeat (first | exact hx2 | refine Below.alloc ?_ (by first | omega | (simp; omega)) _ | refine below_drewN' ?_ _ | refine Below.drew ?_)) hg5 (Nat.le_refl _) (by simp; omega)⟩
      case measure => simp [intOf]; omega
    · have hkn : k = rows.length := by omega
      subst hkn
      rw [HVA.out] at hown ⊢
      go_wp2_with fail
      go_ret
      exact ⟨A', c', rfl, hown, hbw⟩
set_option maxHeartbeats 2000000 in
theorem even_any (g base c : Nat) (most : Int) (rows : List (List Int)) (w : World) (hN : Nest 3 22 w base g rows) (hr : ∀ r ∈ rows, RowOk r) (h0 : fullB rows = true) (h1 : 1 ≤ rows.length) (h6 : rows.length ≤ 60) :
    Calls Tryz.prog 115 #[.slice (some ⟨g, 0, none⟩) rows.length c, .int .i64 most] w fun e w' => ∃ A' c', e = .returned (.tuple #[.slice A' (evL rows (evF rows most 1001)).length c', .bool (evF rows most 1001).isSome]) ∧ w'.ownsRow w.heap.size 3 1 (.slice A' (evL rows (evF rows most 1001)).length c') (evL rows (evF rows most 1001)).length (ints (evL rows (evF rows most 1001))) ∧ Below w.heap.size w w' := by
  have HR := Lib.hid hr
  have H0 := Lib.hid h0
  have HBD := Lib.hid (fun (q : Nat) (hq : q ≤ 1000) => mapF_bd (rows := rows) (f := (levA · q)) (fun r hm hl => by have := levA_bd (hr r hm) (part := q) hl hq; omega) h0)
  clear hr h0
  go_enter Tryz.func115, Tryz.ntmps115
  go_wp2_with fail
  have hb0 : Below w.heap.size w (w.alloc (.cells #[.slice (some ⟨g, 0, none⟩) rows.length c] 98)) := (Below.refl _ _).alloc (Nat.le_refl _) _
  have hk0 : Blk (w.alloc (.cells #[.slice (some ⟨g, 0, none⟩) rows.length c] 98)) w.heap.size 98 #[.slice (some ⟨g, 0, none⟩) rows.length c] := Blk.new _ _ _
  have hN0 := hN.alloc (.cells #[.slice (some ⟨g, 0, none⟩) rows.length c] 98)
  generalize w.alloc (.cells #[.slice (some ⟨g, 0, none⟩) rows.length c] 98) = W at *
  have hz0 := hb0.size
  go_loopw [7] (fun i wr => ∃ p : Nat, p ≤ 1001 ∧ i = .int .i64 ((p : Int) - 1) ∧ Hid (evF rows most 1001 = evF rows most p) ∧ Below W.heap.size W wr) (fun i _ => (intOf i + 1).toNat)
  case atStart => exact ⟨1001, Nat.le_refl _, rfl, Lib.hid rfl, Below.refl _ _⟩
  case round =>
    obtain ⟨p, hp, rfl, HE, hbw⟩ := hrel
    have hz := hbw.size
    rcases p with _ | q
    · have HF : Hid (evF rows most 1001 = none) := HE
      have e1 : ((0 : Nat) : Int) - 1 = -1 := by omega
      rw [e1]
      go_wp2_with fail
      go_returns
      exact ⟨none, 0, by rw [HF.out]; rfl, by rw [HF.out]; exact World.ownsRow_nil _ _ _ _, below_up hb0 hbw⟩
    · have e1 : ((q + 1 : Nat) : Int) - 1 = (q : Int) := by omega
      rw [e1]
      clear e1
      have hkw := hk0.below hbw
      have hNw := hN0.below hbw
      have d0 : decide ((0 : Int) ≤ (q : Int)) = true := decide_eq_true (by omega)
      go_wp2_with fail
      refine (even1_any q w.heap.size g base c rows _ (by omega) hkw hNw HR.out H0.out h6).mono ?_
      rintro e w2 ⟨A2, c2, rfl, ho2, hb2⟩
      have hx2 := below_up hbw hb2
      have hz2 := hb2.size
      have HB2 := Lib.hid (HBD.out q (by omega))
      have HY := Lib.hid (evF_yes (rows := rows) (most := most) (p := q))
      have HN := Lib.hid (evF_no (rows := rows) (most := most) (p := q))
      have HEL : Hid (evL rows (some q) = rows.map (levA · q)) := Lib.hid rfl
      have hll : 1 ≤ (rows.map (levA · q)).length ∧ (rows.map (levA · q)).length ≤ 60 := by simp; omega
      rw [fun_lev] at HY HN
      generalize rows.map (levA · q) = l at *
      clear hkw hNw
      go_wp2_with fail
      refine (added_any A2 c2 _ l _ (Row.of_own ho2) (by omega) HB2.out).mono ?_
      rintro e w3 ⟨A3, c3, rfl, ho3, hb3⟩
      have ho2' := own_keep ho2 hb3
      have hx3 := below_up hx2 hb3
      obtain ⟨m, hm⟩ : ∃ m, m + 1 = (addA l).length := ⟨(addA l).length - 1, by rw [addA_len]; omega⟩
      have hla : 1 ≤ (addA l).length ∧ (addA l).length ≤ 60 := by rw [addA_len]; omega
      obtain ⟨b, off, rfl, _, hbs, c9⟩ := (Row.of_own ho3).int_at (k := m) (by omega)
      have es : (addA l)[m]'(by omega) = l.sum := by
        rw [addA_at]
        have : m + 1 = l.length := by rw [hm, addA_len]
        rw [this, preS_all]
      rw [es] at c9
      have hml : m < (addA l).length := by omega
      have wm : IntKind.i64.wrap (((addA l).length : Int) - 1) = (m : Int) := by rw [IntWalk.i64_in _ ⟨by omega, by omega⟩]; omega
      clear es ho2 ho3
      generalize (addA l).length = n3 at *
      generalize l.sum = s at *
      by_cases hs : s ≤ most
      · have HF : Hid (evF rows most 1001 = some q) := Lib.hid (by rw [HE.out, HY.out hs])
        have d1 : decide (s ≤ most) = true := decide_eq_true hs
        clear HY HN hs
        go_wp2_with fail
        go_returns
        exact ⟨A2, c2, by rw [HF.out, HEL.out]; rfl, by rw [HF.out, HEL.out]; exact own_weak ho2' (by omega), below_up hb0 hx3⟩
      · have HF : Hid (evF rows most 1001 = evF rows most q) := Lib.hid (by rw [HE.out]; first | exact HN.out hs | exact HN.out (by omega))
        have d1 : decide (s ≤ most) = false := decide_eq_false hs
        clear HY HN hs
        go_wp2_with fail
        go_roundw
        case rel => exact ⟨q, by omega, by go_num, HF, hx3⟩
        case measure => simp [intOf]
end Go.Proofs.YtapjahbflhingaaGreatDoor
/- The walks of segment.golds and Golds, of splitref1.RowOf and GoldsOf at a right history. -/
namespace Go.Proofs.YtapjahbflhingaaGreatDoor
set_option linter.unusedVariables false
set_option linter.unusedSimpArgs false
open Go.RowKit

theorem goldA_none {atts : List Att} {k : Nat} (h : (sorted (rowA atts k)).length = 0) : goldA atts k = 0 := by
  unfold goldA
  rw [List.eq_nil_of_length_eq_zero h]; rfl
theorem goldA_some {atts : List Att} {k : Nat} (h : 0 < (sorted (rowA atts k)).length) : goldA atts k = (sorted (rowA atts k))[0] := by
  unfold goldA
  rw [List.headD_eq_head?_getD, List.head?_eq_getElem?, List.getElem?_eq_getElem h]; rfl
set_option maxHeartbeats 2000000 in
theorem golds_any (p : Nat) (SA TA : Option Addr) (c d lo : Nat) (segs : List (List UInt8)) (atts : List Att) (w : World) (hp : Blk w p 29 #[.slice SA segs.length c, .slice TA atts.length d]) (hh : Hist w lo SA TA segs atts) (hok : HistOk segs atts) :
    Calls Tryz.prog 46 #[.pointer (some ⟨p, 0, none⟩)] w fun e w' => ∃ A' c', e = .returned (.slice A' (goldL atts segs.length).length c') ∧ w'.ownsRow w.heap.size 3 1 (.slice A' (goldL atts segs.length).length c') (goldL atts segs.length).length (ints (goldL atts segs.length)) ∧ Below w.heap.size w w' := by
  have n1 := hok.n1
  have n2 := hok.n2
  have m := hok.m
  have HO := Lib.hid hok
  clear hok
  go_enter Tryz.func46, Tryz.ntmps46
  go_wp2_with fail
  refine (rows_any _ _ _ _ _ _ segs atts _ hp hh HO.out).mono ?_
  rintro e W ⟨g, c', rfl, hg, hN, hbW⟩
  have hzW := hbW.size
  go_wp2_with fail
  go_loopw [3, 10] (fun v i wr => ∃ (k : Nat) (A' : Option Addr) (c' : Nat), k ≤ segs.length ∧ i = .int .i64 k ∧ v = .slice A' (goldL atts k).length c' ∧ wr.ownsRow W.heap.size 3 1 (.slice A' (goldL atts k).length c') (goldL atts k).length (ints (goldL atts k)) ∧ Below W.heap.size W wr) (fun _ i _ => segs.length - (intOf i).toNat)
  case atStart => exact ⟨0, none, 0, Nat.zero_le _, rfl, rfl, World.ownsRow_nil _ _ _ _, Below.refl _ _⟩
  case round =>
    obtain ⟨k, A', c', hk, rfl, rfl, hown, hbw⟩ := hrel
    have hz := hbw.size
    by_cases hlt : k < segs.length
    · have hNr := hN.below hbw
      have hPL : k < (rowsS atts segs.length segs.length).length := by rw [rowsS_len]; omega
      have hat : (rowsS atts segs.length segs.length)[k] = sorted (rowA atts k) := by rw [rowsS_at, if_pos hlt]
      obtain ⟨A1, c1, cg, ho1⟩ := hNr.row hPL
      rw [hat] at cg ho1
      have hgl := hNr.lt
      have hgs := goldL_snoc atts k
      have hlk : (goldL atts k).length ≤ 1000 := by rw [goldL_len]; omega
      have HGN := Lib.hid (goldA_none (atts := atts) (k := k))
      have HGS := Lib.hid (goldA_some (atts := atts) (k := k))
      have HS := Lib.hid hgs
      clear hat hgs hNr
      generalize sorted (rowA atts k) = row at *
      generalize goldL atts k = o at *
      by_cases h0 : 0 < row.length
      · have HG := Lib.hid (HGS.out h0)
        have hr1 := Row.of_own ho1
        obtain ⟨b, off, rfl, _, hbs, cr⟩ := hr1.int_at (k := 0) h0
        rw [Nat.add_zero] at cr
        generalize row[0] = x at *
        have d1 : decide (0 < row.length) = true := by simpa using h0
        have HF : Hid (goldL atts (k + 1) = o ++ [x]) := Lib.hid (by rw [HS.out, HG.out])
        clear HGS HGN HG HS
        go_wp2_with (at_builtin; go_must (refine wpList_app (lo := W.heap.size) (base := W.heap.size) (n := o.length) (xs := ints o) _ _ rfl _ _ ty_ints rfl (by repeat (first | exact hown | refine World.ownsRow.alloc ?_ _ | refine own_drewN ?_ _ | refine World.ownsRow.drew ?_)) rfl (by first | exact row_new' _ (by first | rfl | simp) (by first | omega | (simp; omega)) rfl | exact row_newN _ _ (by first | rfl | simp) (by first | omega | (simp; omega)) rfl | exact row_newD _ (by first | rfl | simp) (by first | omega | (simp; omega)) rfl) rfl rfl (by first | omega | decide) (by first | omega | decide) (by first | omega | (simp; omega)) ?_))
        intro A5 c5 w5 hown5 hg5 _
        go_wp2_with fail
        go_roundw
        case rel => exact ⟨k + 1, A5, c5, by omega, by go_num, by rw [HF.out]; simp, by rw [HF.out, ints_app, List.length_append]; exact hown5, below_app hown (by repeat (first | exact hbw | refine Below.alloc ?_ (by first | omega | (simp; omega)) _ | refine below_drewN' ?_ _ | refine Below.drew ?_)) hg5 (Nat.le_refl _) (by simp; omega)⟩
        case measure => simp [intOf]; omega
      · have HG := Lib.hid (HGN.out (by omega))
        have d1 : decide (0 < row.length) = false := by simpa using h0
        have HF : Hid (goldL atts (k + 1) = o ++ [0]) := Lib.hid (by rw [HS.out, HG.out])
        clear HGS HGN HG HS
        go_wp2_with (at_builtin; go_must (refine wpList_app (lo := W.heap.size) (base := W.heap.size) (n := o.length) (xs := ints o) _ _ rfl _ _ ty_ints rfl (by repeat (first | exact hown | refine World.ownsRow.alloc ?_ _ | refine own_drewN ?_ _ | refine World.ownsRow.drew ?_)) rfl (by first | exact row_new' _ (by first | rfl | simp) (by first | omega | (simp; omega)) rfl | exact row_newN _ _ (by first | rfl | simp) (by first | omega | (simp; omega)) rfl | exact row_newD _ (by first | rfl | simp) (by first | omega | (simp; omega)) rfl) rfl rfl (by first | omega | decide) (by first | omega | decide) (by first | omega | (simp; omega)) ?_))
        intro A5 c5 w5 hown5 hg5 _
        go_wp2_with fail
        go_roundw
        case rel => exact ⟨k + 1, A5, c5, by omega, by go_num, by rw [HF.out]; simp, by rw [HF.out, ints_app, List.length_append]; exact hown5, below_app hown (by repeat (first | exact hbw | refine Below.alloc ?_ (by first | omega | (simp; omega)) _ | refine below_drewN' ?_ _ | refine Below.drew ?_)) hg5 (Nat.le_refl _) (by simp; omega)⟩
        case measure => simp [intOf]; omega
    · have hkn : k = segs.length := by omega
      subst hkn
      go_wp2_with fail
      go_ret
      exact ⟨A', c', rfl, own_weak hown hzW, below_up hbW hbw⟩

set_option maxHeartbeats 2000000 in
theorem rowOf_any (SA TA : Option Addr) (c d lo k : Nat) (segs : List (List UInt8)) (atts : List Att) (w : World) (hh : Hist w lo SA TA segs atts) (hok : HistOk segs atts) :
    Calls Tryz.prog 63 #[.agg #[.slice SA segs.length c, .slice TA atts.length d], .int .i64 k] w fun e w' => ∃ A' c', e = .returned (.slice A' (sorted (rowA atts k)).length c') ∧ w'.ownsRow w.heap.size 3 1 (.slice A' (sorted (rowA atts k)).length c') (sorted (rowA atts k)).length (ints (sorted (rowA atts k))) ∧ Below w.heap.size w w' := by
  have m := hok.m
  have HO := Lib.hid hok
  have hsl : (sorted (rowA atts k)).length = (rowA atts k).length := sorted_len _
  have HSL := Lib.hid hsl
  clear hok hsl
  go_enter Tryz.func63, Tryz.ntmps63
  go_wp2_with fail
  have hb0 : Below w.heap.size w (w.alloc (.cells #[.slice SA segs.length c, .slice TA atts.length d] 29)) := (Below.refl _ _).alloc (Nat.le_refl _) _
  have hk0 : Blk (w.alloc (.cells #[.slice SA segs.length c, .slice TA atts.length d] 29)) w.heap.size 29 #[.slice SA segs.length c, .slice TA atts.length d] := Blk.new _ _ _
  have hh0 := hh.alloc (.cells #[.slice SA segs.length c, .slice TA atts.length d] 29)
  generalize w.alloc (.cells #[.slice SA segs.length c, .slice TA atts.length d] 29) = W at *
  have hz0 := hk0.lt
  obtain ⟨k0, k1⟩ := hk0.two_
  clear hh
  have hzW := hb0.size
  go_loopw [5, 12] (fun v i wr => ∃ (j : Nat) (A' : Option Addr) (c' : Nat), j ≤ atts.length ∧ i = .int .i64 j ∧ v = .slice A' (rowA (atts.take j) k).length c' ∧ wr.ownsRow W.heap.size 3 1 (.slice A' (rowA (atts.take j) k).length c') (rowA (atts.take j) k).length (ints (rowA (atts.take j) k)) ∧ Below W.heap.size W wr) (fun _ i _ => atts.length - (intOf i).toNat)
  case atStart => exact ⟨0, none, 0, Nat.zero_le _, rfl, rfl, World.ownsRow_nil _ _ _ _, Below.refl _ _⟩
  case round =>
    obtain ⟨j, A', c', hj, rfl, rfl, hown, hbw⟩ := hrel
    have hz := hbw.size
    by_cases hlt : j < atts.length
    · obtain ⟨b, off, B, cB, rfl, hbs, c0, c1', hrB⟩ := (hh0.below hbw).att hlt
      have HSP := Lib.hid (HO.out.spl j hlt)
      have hsl := HSP.out.len
      have hrl := rowA_take_len atts j k
      have HRT := Lib.hid (rowA_take atts j k hlt)
      have hrBa := hrB.alloc (.cells #[.int .i64 atts[j].1, .slice B atts[j].2.length cB] 81)
      generalize hx9 : atts[j].1 = no at *
      generalize hl9 : atts[j].2 = l at *
      clear hx9 hl9
      generalize rowA (atts.take j) k = o at *
      have hownA := hown.alloc (.cells #[.int .i64 no, .slice B l.length cB] 81)
      have hba : Below W.heap.size W (wr.alloc (.cells #[.int .i64 no, .slice B l.length cB] 81)) := (by repeat (first | exact hbw | refine Below.alloc ?_ (by first | omega | (simp; omega)) _ | refine below_drewN' ?_ _ | refine Below.drew ?_))
      have n2 := HO.out.n2
      go_wp2_with fail
      refine (lengthsOf_any segs.length B _ _ l _ hrBa (by omega) HSP.out).mono ?_
      rintro e w2 ⟨A2, c2, rfl, hownT, hb2⟩
      have hown2 := own_keep hownA hb2
      have hx2 := below_up hba hb2
      have hz2 := hx2.size
      have hrT := Row.of_own hownT
      have hTL : (tmL l l.length).length = l.length := tmL_len _ _
      clear hownT hb2 hba hownA hown hbw hrBa hrB
      by_cases hkl : k < l.length
      · obtain ⟨bT, oT, rfl, _, hbT, cj⟩ := hrT.int_at (k := k) (by rw [hTL]; exact hkl)
        rw [tmL_at] at cj
        rw [hTL]
        have d0 : decide ((k : Int) < (l.length : Int)) = true := by simp; omega
        have d0' : decide (k < l.length) = true := by simpa using hkl
        clear hrT
        by_cases ht : 0 < tmA l k
        · have HF : Hid (rowA (atts.take (j + 1)) k = o ++ [tmA l k]) := Lib.hid (by rw [HRT.out, if_pos ⟨hkl, ht⟩])
          have d1 : decide (0 < tmA l k) = true := by simpa using ht
          generalize tmA l k = x at *
          clear HRT ht
          go_wp2_with (at_builtin; go_must (refine wpList_app (lo := W.heap.size) (base := W.heap.size) (n := o.length) (xs := ints o) _ _ rfl _ _ ty_ints rfl (by repeat (first | exact hown2 | refine World.ownsRow.alloc ?_ _ | refine own_drewN ?_ _ | refine World.ownsRow.drew ?_)) rfl (by first | exact row_new' _ (by first | rfl | simp) (by first | omega | (simp; omega)) rfl | exact row_newN _ _ (by first | rfl | simp) (by first | omega | (simp; omega)) rfl | exact row_newD _ (by first | rfl | simp) (by first | omega | (simp; omega)) rfl) rfl rfl (by first | omega | decide) (by first | omega | decide) (by first | omega | (simp; omega)) ?_))
          intro A5 c5 w5 hown5 hg5 _
          have hb5 : Below W.heap.size W w5 := below_app hown2 (by repeat (first | exact hx2 | refine Below.alloc ?_ (by first | omega | (simp; omega)) _ | refine below_drewN' ?_ _ | refine Below.drew ?_)) hg5 (Nat.le_refl _) (by simp; omega)
          go_wp2_with fail
          go_roundw
          case rel => exact ⟨j + 1, A5, c5, by omega, by go_num, by rw [HF.out]; simp, by rw [HF.out, ints_app, List.length_append]; exact hown5, hb5⟩
          case measure => simp [intOf]; omega
        · have HF : Hid (rowA (atts.take (j + 1)) k = o) := Lib.hid (by rw [HRT.out, if_neg (fun h => ht h.2), List.append_nil])
          have d1 : decide (0 < tmA l k) = false := by simpa using ht
          generalize tmA l k = x at *
          clear HRT ht
          go_wp2_with fail
          go_roundw
          case rel => exact ⟨j + 1, A', c', by omega, by go_num, by rw [HF.out], by rw [HF.out]; exact hown2, hx2⟩
          case measure => simp [intOf]; omega
      · have HF : Hid (rowA (atts.take (j + 1)) k = o) := Lib.hid (by rw [HRT.out, if_neg (fun h => hkl h.1), List.append_nil])
        have d0 : decide ((k : Int) < (l.length : Int)) = false := by simp; omega
        have d0' : decide (k < l.length) = false := by simpa using hkl
        rw [hTL]
        clear HRT hkl
        go_wp2_with fail
        go_roundw
        case rel => exact ⟨j + 1, A', c', by omega, by go_num, by rw [HF.out], by rw [HF.out]; exact hown2, hx2⟩
        case measure => simp [intOf]; omega
    · have hkn : atts.take j = atts := List.take_of_length_le (by omega)
      rw [hkn] at hown ⊢
      have hrl := rowA_len atts k
      clear hkn
      go_wp2_with fail
      refine (sortI_any _ _ _ (rowA atts k) _ hown (by omega)).mono ?_
      rintro e w5 ⟨rfl, ho5, hg5⟩
      have hb5 : Below w.heap.size w w5 := (below_up hb0 hbw).grown hg5 (by omega) (fun k hk => by have := (hown.lt k hk).1; omega)
      go_wp2_with fail
      go_ret
      exact ⟨A', c', by rw [HSL.out]; rfl, by rw [HSL.out]; exact own_weak ho5 hzW, hb5⟩

set_option maxHeartbeats 2000000 in
theorem goldsOf_any (SA TA : Option Addr) (c d lo : Nat) (segs : List (List UInt8)) (atts : List Att) (w : World) (hh : Hist w lo SA TA segs atts) (hok : HistOk segs atts) :
    Calls Tryz.prog 58 #[.agg #[.slice SA segs.length c, .slice TA atts.length d]] w fun e w' => ∃ A' c', e = .returned (.slice A' (goldL atts segs.length).length c') ∧ w'.ownsRow w.heap.size 3 1 (.slice A' (goldL atts segs.length).length c') (goldL atts segs.length).length (ints (goldL atts segs.length)) ∧ Below w.heap.size w w' := by
  have m := hok.m
  have n2 := hok.n2
  have HO := Lib.hid hok
  clear hok
  go_enter Tryz.func58, Tryz.ntmps58
  go_wp2_with fail
  have hb0 : Below w.heap.size w (w.alloc (.cells #[.slice SA segs.length c, .slice TA atts.length d] 29)) := (Below.refl _ _).alloc (Nat.le_refl _) _
  have hk0 : Blk (w.alloc (.cells #[.slice SA segs.length c, .slice TA atts.length d] 29)) w.heap.size 29 #[.slice SA segs.length c, .slice TA atts.length d] := Blk.new _ _ _
  have hh0 := hh.alloc (.cells #[.slice SA segs.length c, .slice TA atts.length d] 29)
  generalize w.alloc (.cells #[.slice SA segs.length c, .slice TA atts.length d] 29) = W at *
  have hz0 := hk0.lt
  obtain ⟨k0, k1⟩ := hk0.two_
  clear hh
  have hzW := hb0.size
  go_loopw [3, 10] (fun v i wr => ∃ (k : Nat) (A' : Option Addr) (c' : Nat), k ≤ segs.length ∧ i = .int .i64 k ∧ v = .slice A' (goldL atts k).length c' ∧ wr.ownsRow W.heap.size 3 1 (.slice A' (goldL atts k).length c') (goldL atts k).length (ints (goldL atts k)) ∧ Below W.heap.size W wr) (fun _ i _ => segs.length - (intOf i).toNat)
  case atStart => exact ⟨0, none, 0, Nat.zero_le _, rfl, rfl, World.ownsRow_nil _ _ _ _, Below.refl _ _⟩
  case round =>
    obtain ⟨k, A', c', hk, rfl, rfl, hown, hbw⟩ := hrel
    have hz := hbw.size
    by_cases hlt : k < segs.length
    · have hkw := hk0.below hbw
      have hhw := hh0.below hbw
      have hzw := hkw.lt
      obtain ⟨q0, q1⟩ := hkw.two_
      have hgs := goldL_snoc atts k
      have hlk : (goldL atts k).length ≤ 1000 := by rw [goldL_len]; omega
      have HGN := Lib.hid (goldA_none (atts := atts) (k := k))
      have HGS := Lib.hid (goldA_some (atts := atts) (k := k))
      have HS := Lib.hid hgs
      clear hgs
      generalize goldL atts k = o at *
      go_wp2_with fail
      refine (rowOf_any SA TA c d lo k segs atts _ hhw HO.out).mono ?_
      rintro e w2 ⟨A2, c2, rfl, hownT, hb2⟩
      have hown2 := own_keep hown hb2
      have hx2 := below_up hbw hb2
      have hz2 := hx2.size
      have hrT := Row.of_own hownT
      clear hownT hb2 hown hbw
      generalize sorted (rowA atts k) = row at *
      by_cases h0 : 0 < row.length
      · have HG := Lib.hid (HGS.out h0)
        obtain ⟨b, off, rfl, _, hbs, cr⟩ := hrT.int_at (k := 0) h0
        rw [Nat.add_zero] at cr
        generalize row[0] = x at *
        have d1 : decide (0 < row.length) = true := by simpa using h0
        have HF : Hid (goldL atts (k + 1) = o ++ [x]) := Lib.hid (by rw [HS.out, HG.out])
        clear HGS HGN HG HS hrT
        go_wp2_with (at_builtin; go_must (refine wpList_app (lo := W.heap.size) (base := W.heap.size) (n := o.length) (xs := ints o) _ _ rfl _ _ ty_ints rfl (by repeat (first | exact hown2 | refine World.ownsRow.alloc ?_ _ | refine own_drewN ?_ _ | refine World.ownsRow.drew ?_)) rfl (by first | exact row_new' _ (by first | rfl | simp) (by first | omega | (simp; omega)) rfl | exact row_newN _ _ (by first | rfl | simp) (by first | omega | (simp; omega)) rfl | exact row_newD _ (by first | rfl | simp) (by first | omega | (simp; omega)) rfl) rfl rfl (by first | omega | decide) (by first | omega | decide) (by first | omega | (simp; omega)) ?_))
        intro A5 c5 w5 hown5 hg5 _
        go_wp2_with fail
        go_roundw
        case rel => exact ⟨k + 1, A5, c5, by omega, by go_num, by rw [HF.out]; simp, by rw [HF.out, ints_app, List.length_append]; exact hown5, below_app hown2 (by repeat (first | exact hx2 | refine Below.alloc ?_ (by first | omega | (simp; omega)) _ | refine below_drewN' ?_ _ | refine Below.drew ?_)) hg5 (Nat.le_refl _) (by simp; omega)⟩
        case measure => simp [intOf]; omega
      · have HG := Lib.hid (HGN.out (by omega))
        have d1 : decide (0 < row.length) = false := by simpa using h0
        have HF : Hid (goldL atts (k + 1) = o ++ [0]) := Lib.hid (by rw [HS.out, HG.out])
        clear HGS HGN HG HS hrT
        go_wp2_with (at_builtin; go_must (refine wpList_app (lo := W.heap.size) (base := W.heap.size) (n := o.length) (xs := ints o) _ _ rfl _ _ ty_ints rfl (by repeat (first | exact hown2 | refine World.ownsRow.alloc ?_ _ | refine own_drewN ?_ _ | refine World.ownsRow.drew ?_)) rfl (by first | exact row_new' _ (by first | rfl | simp) (by first | omega | (simp; omega)) rfl | exact row_newN _ _ (by first | rfl | simp) (by first | omega | (simp; omega)) rfl | exact row_newD _ (by first | rfl | simp) (by first | omega | (simp; omega)) rfl) rfl rfl (by first | omega | decide) (by first | omega | decide) (by first | omega | (simp; omega)) ?_))
        intro A5 c5 w5 hown5 hg5 _
        go_wp2_with fail
        go_roundw
        case rel => exact ⟨k + 1, A5, c5, by omega, by go_num, by rw [HF.out]; simp, by rw [HF.out, ints_app, List.length_append]; exact hown5, below_app hown2 (by repeat (first | exact hx2 | refine Below.alloc ?_ (by first | omega | (simp; omega)) _ | refine below_drewN' ?_ _ | refine Below.drew ?_)) hg5 (Nat.le_refl _) (by simp; omega)⟩
        case measure => simp [intOf]; omega
    · have hkn : k = segs.length := by omega
      subst hkn
      go_wp2_with fail
      go_ret
      exact ⟨A', c', rfl, own_weak hown hzW, below_up hb0 hbw⟩
end Go.Proofs.YtapjahbflhingaaGreatDoor
