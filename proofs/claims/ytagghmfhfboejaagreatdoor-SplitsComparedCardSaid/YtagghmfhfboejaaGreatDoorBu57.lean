/- Texts of this seat, laid together: Rx. -/
import Derived.Test.YtagghmfhfboejaaGreatDoorBu49
import Derived.Test.YtagghmfhfboejaaGreatDoorBu56
/- The walks of the closures of splitref1.SplitsFor. -/
namespace Go.Proofs.YtagghmfhfboejaaGreatDoor
set_option linter.unusedVariables false
set_option linter.unusedSimpArgs false
open Go.RowKit

/-- Rows that can be read behind the slices of a block. -/
structure RowsR (w : World) (g : Nat) (rows : List (List Int)) : Prop where
  lt : g < w.heap.size
  row : ∀ i (h : i < rows.length), ∃ A c, w.cell? ⟨g, i, none⟩ = some (.slice A rows[i].length c) ∧ Row w 0 1 A rows[i].length (ints rows[i])
theorem RowsR.below {w w' : World} {g : Nat} {rows : List (List Int)} (h : RowsR w g rows) (hb : Below w.heap.size w w') : RowsR w' g rows :=
  ⟨Nat.lt_of_lt_of_le h.lt hb.size, fun i hi => let ⟨A, c, a, b⟩ := h.row i hi; ⟨A, c, (hb.cell h.lt).trans a, b.below hb⟩⟩
theorem RowsR.alloc {w : World} {g : Nat} {rows : List (List Int)} (h : RowsR w g rows) (o : Obj) : RowsR (w.alloc o) g rows := h.below ((Below.refl _ _).alloc (Nat.le_refl _) o)
theorem rgold_any (A : Option Addr) (c lo : Nat) (row : List Int) (w : World) (hr : Row w lo 1 A row.length (ints row)) (hk : RowOk row) (h0 : 0 < row.length) :
    Calls Tryz.prog 77 #[.slice A row.length c] w fun e w' => e = .returned (.int .i64 (goldF row)) ∧ Below w.heap.size w w' := by
  have HG := Lib.hid (goldF_at h0)
  obtain ⟨b, off, rfl, _, hbs, c0⟩ := hr.int_at (k := 0) h0
  rw [Nat.add_zero] at c0
  generalize row[0] = x at *
  clear hk
  go_enter Tryz.func77, Tryz.ntmps77
  go_wp2_with fail
  go_ret
  exact ⟨ret_int' HG.out.symm, Below.refl _ _⟩
theorem rmid_any (A : Option Addr) (c lo : Nat) (row : List Int) (w : World) (hr : Row w lo 1 A row.length (ints row)) (hk : RowOk row) (h0 : 0 < row.length) :
    Calls Tryz.prog 78 #[.slice A row.length c] w fun e w' => e = .returned (.int .i64 (levA row 500)) ∧ Below w.heap.size w w' := by
  go_enter Tryz.func78, Tryz.ntmps78
  go_wp2_with fail
  refine (levelOf_any A c lo 500 row _ hr hk h0 (by omega)).mono ?_
  rintro e w1 ⟨rfl, hb⟩
  go_wp2_with fail
  go_ret
  exact ⟨rfl, hb⟩

set_option maxHeartbeats 1000000 in
theorem rmean_any (A : Option Addr) (c lo : Nat) (row : List Int) (w : World) (hr : Row w lo 1 A row.length (ints row)) (hk : RowOk row) (h0 : 0 < row.length) :
    Calls Tryz.prog 79 #[.slice A row.length c] w fun e w' => e = .returned (.int .i64 (mnA row)) ∧ Below w.heap.size w w' := by
  have hm := hk.m
  have HB := Lib.hid (fun k hk1 => preS_bd (l := row) (fun x hx => by have := hk.bd x hx; omega) k hk1)
  have HN := Lib.hid (fun k hk1 => preS_next (l := row) (k := k) hk1)
  have HZ := Lib.hid (preS_all row)
  have HM : Hid (mnA row = row.sum / (row.length : Int)) := Lib.hid rfl
  have HO := Lib.hid hk
  clear hk
  go_enter Tryz.func79, Tryz.ntmps79
  go_wp2_with fail
  go_loop [3, 8] (fun v i => ∃ k : Nat, k ≤ row.length ∧ i = .int .i64 k ∧ v = .int .i64 (preS row k)) (fun _ i => row.length - (intOf i).toNat)
  case atStart => exact ⟨0, Nat.zero_le _, rfl, by rw [preS_zero]⟩
  case round =>
    obtain ⟨k, hk, rfl, rfl⟩ := hrel
    have bk := HB.out k hk
    by_cases hlt : k < row.length
    · obtain ⟨b, off, rfl, _, hbs, c0⟩ := hr.int_at hlt
      have HT := Lib.hid (HN.out k hlt)
      have bx := HO.out.at hlt
      generalize preS row k = s at *
      generalize row[k] = x at *
      have wx : IntKind.i64.wrap (s + x) = s + x := IntWalk.i64_in _ ⟨by omega, by omega⟩
      go_wp2_with fail
      go_round
      case rel => exact ⟨k + 1, by omega, by go_num, by rw [HT.out]⟩
      case measure => simp [intOf]; omega
    · have hkn : k = row.length := by omega
      subst hkn
      have hz : ¬ (row.length : Int) = 0 := by omega
      rw [HZ.out] at bk ⊢
      have hq1 : 0 ≤ row.sum / (row.length : Int) := Int.ediv_nonneg bk.1 (by omega)
      have hq2 : row.sum / (row.length : Int) ≤ 864000000 := Int.ediv_le_of_le_mul (by omega) bk.2
      have HM2 := HM
      generalize row.sum = s at *
      have td : s.tdiv (row.length : Int) = s / (row.length : Int) := tdiv_ediv bk.1
      generalize s / (row.length : Int) = q at *
      have wq : IntKind.i64.wrap q = q := IntWalk.i64_in _ ⟨by omega, by omega⟩
      clear bk
      go_wp2_with fail
      go_ret
      exact ⟨ret_int' HM.out.symm, Below.refl _ _⟩

theorem rlev_any (pp part : Nat) (A : Option Addr) (c lo : Nat) (row : List Int) (w : World) (hr : Row w lo 1 A row.length (ints row)) (hk : RowOk row) (h0 : 0 < row.length) (hq : part ≤ 1000) (hpp : Blk w pp 3 #[.int .i64 part]) :
    Calls Tryz.prog 80 #[.slice A row.length c, .pointer (some ⟨pp, 0, none⟩)] w fun e w' => e = .returned (.int .i64 (levA row part)) ∧ Below w.heap.size w w' := by
  have cp : w.cell? ⟨pp, 0, none⟩ = some (.int .i64 part) := by simpa using hpp.cell 0
  have zp := hpp.lt
  go_enter Tryz.func80, Tryz.ntmps80
  go_wp2_with fail
  refine (levelOf_any A c lo part row _ hr hk h0 hq).mono ?_
  rintro e w1 ⟨rfl, hb⟩
  go_wp2_with fail
  go_ret
  exact ⟨rfl, hb⟩

set_option maxHeartbeats 2000000 in
set_option maxRecDepth 100000 in
theorem reach2_any (pf pb g c : Nat) (rows : List (List Int)) (w : World) (hf : Blk w pf 4 #[.bool (fullB rows)]) (hb : Blk w pb 94 #[.slice (some ⟨g, 0, none⟩) rows.length c]) (hN : RowsR w g rows) (hr : ∀ r ∈ rows, RowOk r) (h6 : rows.length ≤ 60) :
    Calls Tryz.prog 74 #[.func (.func 77) #[] #[], .pointer (some ⟨pf, 0, none⟩), .pointer (some ⟨pb, 0, none⟩)] w fun e w' => ∃ A' c', e = .returned (.tuple #[.slice A' (optL (eachO goldF rows)).length c', .bool (eachO goldF rows).isSome]) ∧ w'.ownsRow w.heap.size 3 1 (.slice A' (optL (eachO goldF rows)).length c') (optL (eachO goldF rows)).length (ints (optL (eachO goldF rows))) ∧ Below w.heap.size w w' := by
  have cf : w.cell? ⟨pf, 0, none⟩ = some (.bool (fullB rows)) := by simpa using hf.cell 0
  have cb : w.cell? ⟨pb, 0, none⟩ = some (.slice (some ⟨g, 0, none⟩) rows.length c) := by simpa using hb.cell 0
  have zf := hf.lt
  have zb := hb.lt
  have HR := Lib.hid hr
  clear hr hf hb
  by_cases h0 : fullB rows = true
  · have HO : Hid (eachO goldF rows = some (addA (rows.map goldF))) := Lib.hid (by unfold eachO; rw [if_pos h0])
    have HF := Lib.hid (fun (k : Nat) (hk : k < rows.length) => fullB_at h0 hk)
    have HBD := Lib.hid (mapF_bd (rows := rows) (f := goldF) (fun r hm hl => by exact goldF_bd (HR.out r hm) hl) h0)
    have HVN := Lib.hid (fun (k : Nat) (hk : k < rows.length) => valL_next (f := goldF) hk)
    have HVA := Lib.hid (valL_all goldF rows)
    have HVL := Lib.hid (fun (k : Nat) (hk : k ≤ rows.length) => valL_len (f := goldF) hk)
    rw [h0] at cf
    clear h0
    go_enter Tryz.func74, Tryz.ntmps74
    go_wp2_with fail
    go_loopw [6, 13] (fun v i wr => ∃ (k : Nat) (A' : Option Addr) (c' : Nat), k ≤ rows.length ∧ i = .int .i64 k ∧ v = .slice A' (valL goldF rows k).length c' ∧ wr.ownsRow w.heap.size 3 1 (.slice A' (valL goldF rows k).length c') (valL goldF rows k).length (ints (valL goldF rows k)) ∧ Below w.heap.size w wr) (fun _ i _ => rows.length - (intOf i).toNat)
    case atStart => exact ⟨0, none, 0, Nat.zero_le _, rfl, rfl, World.ownsRow_nil _ _ _ _, Below.refl _ _⟩
    case round =>
      clear cf cb
      obtain ⟨k, A', c', hk, rfl, rfl, hown, hbw⟩ := hrel
      have hz := hbw.size
      have hlk : (valL goldF rows k).length ≤ 60 := by rw [HVL.out k hk]; omega
      by_cases hlt : k < rows.length
      · have hNr := hN.below hbw
        obtain ⟨A1, c1, cg, ho1⟩ := hNr.row _ hlt
        have hgl := hNr.lt
        have HK := Lib.hid (HR.out rows[k] (List.getElem_mem hlt))
        have HS := Lib.hid (HVN.out k hlt)
        have h0 := HF.out k hlt
        have hr1 := ho1
        generalize rows[k] = row at *
        generalize valL goldF rows k = o at *
        clear ho1 hNr
        go_wp2_with fail
        refine (rgold_any A1 c1 _ row _ hr1 HK.out h0).mono ?_
        rintro e w2 ⟨rfl, hb2⟩
        have hown2 := own_keep hown hb2
        have hx2 := below_up hbw hb2
        have hz2 := hx2.size
        generalize goldF row = x at *
        clear hb2 hbw hown hr1
        go_wp2_with (at_builtin; go_must (refine wpList_app (lo := w.heap.size) (base := w.heap.size) (n := o.length) (xs := ints o) _ _ rfl _ _ ty_ints rfl (by repeat (first | exact hown2 | refine World.ownsRow.alloc ?_ _ | refine own_drewN ?_ _ | refine World.ownsRow.drew ?_)) rfl (by first | exact row_new' _ (by first | rfl | simp) (by first | omega | (simp; omega)) rfl | exact row_newN _ _ (by first | rfl | simp) (by first | omega | (simp; omega)) rfl | exact row_newD _ (by first | rfl | simp) (by first | omega | (simp; omega)) rfl) rfl rfl (by first | omega | decide) (by first | omega | decide) (by first | omega | (simp; omega)) ?_))
        intro A5 c5 w5 hown5 hg5 _
        go_wp2_with fail
        go_roundw
        case rel => exact ⟨k + 1, A5, c5, by omega, by go_num, by rw [HS.out]; simp, by rw [HS.out, ints_app, List.length_append]; exact hown5, below_app hown2 (by repeat (first | exact hx2 | refine Below.alloc ?_ (by first | omega | (simp; omega)) _ | refine below_drewN' ?_ _ | refine Below.drew ?_)) hg5 (Nat.le_refl _) (by simp; omega)⟩
        case measure => simp [intOf]; omega
      · have hkn : k = rows.length := by omega
        subst hkn
        rw [HVA.out] at hown ⊢
        have hll : (rows.map goldF).length ≤ 60 := by simpa using h6
        clear HVA HVL HVN hlk
        generalize rows.map goldF = l at *
        go_wp2_with fail
        refine (sums_any A' c' _ l _ (Row.of_own hown) hll HBD.out).mono ?_
        rintro e w2 ⟨A2, c2, rfl, ho2, hb2⟩
        go_wp2_with fail
        go_returns
        exact ⟨A2, c2, by rw [HO.out]; rfl, by rw [HO.out]; exact own_weak ho2 hz, below_up hbw hb2⟩
  · have h0' : fullB rows = false := by simpa using h0
    have HO : Hid (eachO goldF rows = none) := Lib.hid (by unfold eachO; rw [if_neg h0])
    rw [h0'] at cf
    clear h0 h0'
    go_enter Tryz.func74, Tryz.ntmps74
    go_wp2_with fail
    go_returns
    exact ⟨none, 0, by rw [HO.out]; rfl, by rw [HO.out]; exact World.ownsRow_nil _ _ _ _, Below.refl _ _⟩

set_option maxHeartbeats 2000000 in
set_option maxRecDepth 100000 in
theorem reach3_any (pf pb g c : Nat) (rows : List (List Int)) (w : World) (hf : Blk w pf 4 #[.bool (fullB rows)]) (hb : Blk w pb 94 #[.slice (some ⟨g, 0, none⟩) rows.length c]) (hN : RowsR w g rows) (hr : ∀ r ∈ rows, RowOk r) (h6 : rows.length ≤ 60) :
    Calls Tryz.prog 74 #[.func (.func 79) #[] #[], .pointer (some ⟨pf, 0, none⟩), .pointer (some ⟨pb, 0, none⟩)] w fun e w' => ∃ A' c', e = .returned (.tuple #[.slice A' (optL (eachO mnA rows)).length c', .bool (eachO mnA rows).isSome]) ∧ w'.ownsRow w.heap.size 3 1 (.slice A' (optL (eachO mnA rows)).length c') (optL (eachO mnA rows)).length (ints (optL (eachO mnA rows))) ∧ Below w.heap.size w w' := by
  have cf : w.cell? ⟨pf, 0, none⟩ = some (.bool (fullB rows)) := by simpa using hf.cell 0
  have cb : w.cell? ⟨pb, 0, none⟩ = some (.slice (some ⟨g, 0, none⟩) rows.length c) := by simpa using hb.cell 0
  have zf := hf.lt
  have zb := hb.lt
  have HR := Lib.hid hr
  clear hr hf hb
  by_cases h0 : fullB rows = true
  · have HO : Hid (eachO mnA rows = some (addA (rows.map mnA))) := Lib.hid (by unfold eachO; rw [if_pos h0])
    have HF := Lib.hid (fun (k : Nat) (hk : k < rows.length) => fullB_at h0 hk)
    have HBD := Lib.hid (mapF_bd (rows := rows) (f := mnA) (fun r hm hl => by exact mnA_bd (HR.out r hm) hl) h0)
    have HVN := Lib.hid (fun (k : Nat) (hk : k < rows.length) => valL_next (f := mnA) hk)
    have HVA := Lib.hid (valL_all mnA rows)
    have HVL := Lib.hid (fun (k : Nat) (hk : k ≤ rows.length) => valL_len (f := mnA) hk)
    rw [h0] at cf
    clear h0
    go_enter Tryz.func74, Tryz.ntmps74
    go_wp2_with fail
    go_loopw [6, 13] (fun v i wr => ∃ (k : Nat) (A' : Option Addr) (c' : Nat), k ≤ rows.length ∧ i = .int .i64 k ∧ v = .slice A' (valL mnA rows k).length c' ∧ wr.ownsRow w.heap.size 3 1 (.slice A' (valL mnA rows k).length c') (valL mnA rows k).length (ints (valL mnA rows k)) ∧ Below w.heap.size w wr) (fun _ i _ => rows.length - (intOf i).toNat)
    case atStart => exact ⟨0, none, 0, Nat.zero_le _, rfl, rfl, World.ownsRow_nil _ _ _ _, Below.refl _ _⟩
    case round =>
      clear cf cb
      obtain ⟨k, A', c', hk, rfl, rfl, hown, hbw⟩ := hrel
      have hz := hbw.size
      have hlk : (valL mnA rows k).length ≤ 60 := by rw [HVL.out k hk]; omega
      by_cases hlt : k < rows.length
      · have hNr := hN.below hbw
        obtain ⟨A1, c1, cg, ho1⟩ := hNr.row _ hlt
        have hgl := hNr.lt
        have HK := Lib.hid (HR.out rows[k] (List.getElem_mem hlt))
        have HS := Lib.hid (HVN.out k hlt)
        have h0 := HF.out k hlt
        have hr1 := ho1
        generalize rows[k] = row at *
        generalize valL mnA rows k = o at *
        clear ho1 hNr
        go_wp2_with fail
        refine (rmean_any A1 c1 _ row _ hr1 HK.out h0).mono ?_
        rintro e w2 ⟨rfl, hb2⟩
        have hown2 := own_keep hown hb2
        have hx2 := below_up hbw hb2
        have hz2 := hx2.size
        generalize mnA row = x at *
        clear hb2 hbw hown hr1
        go_wp2_with (at_builtin; go_must (refine wpList_app (lo := w.heap.size) (base := w.heap.size) (n := o.length) (xs := ints o) _ _ rfl _ _ ty_ints rfl (by repeat (first | exact hown2 | refine World.ownsRow.alloc ?_ _ | refine own_drewN ?_ _ | refine World.ownsRow.drew ?_)) rfl (by first | exact row_new' _ (by first | rfl | simp) (by first | omega | (simp; omega)) rfl | exact row_newN _ _ (by first | rfl | simp) (by first | omega | (simp; omega)) rfl | exact row_newD _ (by first | rfl | simp) (by first | omega | (simp; omega)) rfl) rfl rfl (by first | omega | decide) (by first | omega | decide) (by first | omega | (simp; omega)) ?_))
        intro A5 c5 w5 hown5 hg5 _
        go_wp2_with fail
        go_roundw
        case rel => exact ⟨k + 1, A5, c5, by omega, by go_num, by rw [HS.out]; simp, by rw [HS.out, ints_app, List.length_append]; exact hown5, below_app hown2 (by repeat (first | exact hx2 | refine Below.alloc ?_ (by first | omega | (simp; omega)) _ | refine below_drewN' ?_ _ | refine Below.drew ?_)) hg5 (Nat.le_refl _) (by simp; omega)⟩
        case measure => simp [intOf]; omega
      · have hkn : k = rows.length := by omega
        subst hkn
        rw [HVA.out] at hown ⊢
        have hll : (rows.map mnA).length ≤ 60 := by simpa using h6
        clear HVA HVL HVN hlk
        generalize rows.map mnA = l at *
        go_wp2_with fail
        refine (sums_any A' c' _ l _ (Row.of_own hown) hll HBD.out).mono ?_
        rintro e w2 ⟨A2, c2, rfl, ho2, hb2⟩
        go_wp2_with fail
        go_returns
        exact ⟨A2, c2, by rw [HO.out]; rfl, by rw [HO.out]; exact own_weak ho2 hz, below_up hbw hb2⟩
  · have h0' : fullB rows = false := by simpa using h0
    have HO : Hid (eachO mnA rows = none) := Lib.hid (by unfold eachO; rw [if_neg h0])
    rw [h0'] at cf
    clear h0 h0'
    go_enter Tryz.func74, Tryz.ntmps74
    go_wp2_with fail
    go_returns
    exact ⟨none, 0, by rw [HO.out]; rfl, by rw [HO.out]; exact World.ownsRow_nil _ _ _ _, Below.refl _ _⟩

set_option maxHeartbeats 2000000 in
set_option maxRecDepth 100000 in
theorem reach4_any (pf pb g c : Nat) (rows : List (List Int)) (w : World) (hf : Blk w pf 4 #[.bool (fullB rows)]) (hb : Blk w pb 94 #[.slice (some ⟨g, 0, none⟩) rows.length c]) (hN : RowsR w g rows) (hr : ∀ r ∈ rows, RowOk r) (h6 : rows.length ≤ 60) :
    Calls Tryz.prog 74 #[.func (.func 78) #[] #[], .pointer (some ⟨pf, 0, none⟩), .pointer (some ⟨pb, 0, none⟩)] w fun e w' => ∃ A' c', e = .returned (.tuple #[.slice A' (optL (eachO (fun r => levA r 500) rows)).length c', .bool (eachO (fun r => levA r 500) rows).isSome]) ∧ w'.ownsRow w.heap.size 3 1 (.slice A' (optL (eachO (fun r => levA r 500) rows)).length c') (optL (eachO (fun r => levA r 500) rows)).length (ints (optL (eachO (fun r => levA r 500) rows))) ∧ Below w.heap.size w w' := by
  have cf : w.cell? ⟨pf, 0, none⟩ = some (.bool (fullB rows)) := by simpa using hf.cell 0
  have cb : w.cell? ⟨pb, 0, none⟩ = some (.slice (some ⟨g, 0, none⟩) rows.length c) := by simpa using hb.cell 0
  have zf := hf.lt
  have zb := hb.lt
  have HR := Lib.hid hr
  clear hr hf hb
  by_cases h0 : fullB rows = true
  · have HO : Hid (eachO (fun r => levA r 500) rows = some (addA (rows.map (fun r => levA r 500)))) := Lib.hid (by unfold eachO; rw [if_pos h0])
    have HF := Lib.hid (fun (k : Nat) (hk : k < rows.length) => fullB_at h0 hk)
    have HBD := Lib.hid (mapF_bd (rows := rows) (f := (fun r => levA r 500)) (fun r hm hl => by have := levA_bd (HR.out r hm) (part := 500) hl (by omega); omega) h0)
    have HVN := Lib.hid (fun (k : Nat) (hk : k < rows.length) => valL_next (f := (fun r => levA r 500)) hk)
    have HVA := Lib.hid (valL_all (fun r => levA r 500) rows)
    have HVL := Lib.hid (fun (k : Nat) (hk : k ≤ rows.length) => valL_len (f := (fun r => levA r 500)) hk)
    rw [h0] at cf
    clear h0
    go_enter Tryz.func74, Tryz.ntmps74
    go_wp2_with fail
    go_loopw [6, 13] (fun v i wr => ∃ (k : Nat) (A' : Option Addr) (c' : Nat), k ≤ rows.length ∧ i = .int .i64 k ∧ v = .slice A' (valL (fun r => levA r 500) rows k).length c' ∧ wr.ownsRow w.heap.size 3 1 (.slice A' (valL (fun r => levA r 500) rows k).length c') (valL (fun r => levA r 500) rows k).length (ints (valL (fun r => levA r 500) rows k)) ∧ Below w.heap.size w wr) (fun _ i _ => rows.length - (intOf i).toNat)
    case atStart => exact ⟨0, none, 0, Nat.zero_le _, rfl, rfl, World.ownsRow_nil _ _ _ _, Below.refl _ _⟩
    case round =>
      clear cf cb
      obtain ⟨k, A', c', hk, rfl, rfl, hown, hbw⟩ := hrel
      have hz := hbw.size
      have hlk : (valL (fun r => levA r 500) rows k).length ≤ 60 := by rw [HVL.out k hk]; omega
      by_cases hlt : k < rows.length
      · have hNr := hN.below hbw
        obtain ⟨A1, c1, cg, ho1⟩ := hNr.row _ hlt
        have hgl := hNr.lt
        have HK := Lib.hid (HR.out rows[k] (List.getElem_mem hlt))
        have HS := Lib.hid (HVN.out k hlt)
        have h0 := HF.out k hlt
        have hr1 := ho1
        generalize rows[k] = row at *
        generalize valL (fun r => levA r 500) rows k = o at *
        clear ho1 hNr
        go_wp2_with fail
        refine (rmid_any A1 c1 _ row _ hr1 HK.out h0).mono ?_
        rintro e w2 ⟨rfl, hb2⟩
        have hown2 := own_keep hown hb2
        have hx2 := below_up hbw hb2
        have hz2 := hx2.size
        generalize levA row 500 = x at *
        clear hb2 hbw hown hr1
        go_wp2_with (at_builtin; go_must (refine wpList_app (lo := w.heap.size) (base := w.heap.size) (n := o.length) (xs := ints o) _ _ rfl _ _ ty_ints rfl (by repeat (first | exact hown2 | refine World.ownsRow.alloc ?_ _ | refine own_drewN ?_ _ | refine World.ownsRow.drew ?_)) rfl (by first | exact row_new' _ (by first | rfl | simp) (by first | omega | (simp; omega)) rfl | exact row_newN _ _ (by first | rfl | simp) (by first | omega | (simp; omega)) rfl | exact row_newD _ (by first | rfl | simp) (by first | omega | (simp; omega)) rfl) rfl rfl (by first | omega | decide) (by first | omega | decide) (by first | omega | (simp; omega)) ?_))
        intro A5 c5 w5 hown5 hg5 _
        go_wp2_with fail
        go_roundw
        case rel => exact ⟨k + 1, A5, c5, by omega, by go_num, by rw [HS.out]; simp, by rw [HS.out, ints_app, List.length_append]; exact hown5, below_app hown2 (by repeat (first | exact hx2 | refine Below.alloc ?_ (by first | omega | (simp; omega)) _ | refine below_drewN' ?_ _ | refine Below.drew ?_)) hg5 (Nat.le_refl _) (by simp; omega)⟩
        case measure => simp [intOf]; omega
      · have hkn : k = rows.length := by omega
        subst hkn
        rw [HVA.out] at hown ⊢
        have hll : (rows.map (fun r => levA r 500)).length ≤ 60 := by simpa using h6
        clear HVA HVL HVN hlk
        generalize rows.map (fun r => levA r 500) = l at *
        go_wp2_with fail
        refine (sums_any A' c' _ l _ (Row.of_own hown) hll HBD.out).mono ?_
        rintro e w2 ⟨A2, c2, rfl, ho2, hb2⟩
        go_wp2_with fail
        go_returns
        exact ⟨A2, c2, by rw [HO.out]; rfl, by rw [HO.out]; exact own_weak ho2 hz, below_up hbw hb2⟩
  · have h0' : fullB rows = false := by simpa using h0
    have HO : Hid (eachO (fun r => levA r 500) rows = none) := Lib.hid (by unfold eachO; rw [if_neg h0])
    rw [h0'] at cf
    clear h0 h0'
    go_enter Tryz.func74, Tryz.ntmps74
    go_wp2_with fail
    go_returns
    exact ⟨none, 0, by rw [HO.out]; rfl, by rw [HO.out]; exact World.ownsRow_nil _ _ _ _, Below.refl _ _⟩

set_option maxHeartbeats 2000000 in
set_option maxRecDepth 100000 in
theorem reach5_any (pp part pf pb g c : Nat) (rows : List (List Int)) (w : World) (hf : Blk w pf 4 #[.bool (fullB rows)]) (hb : Blk w pb 94 #[.slice (some ⟨g, 0, none⟩) rows.length c]) (hN : RowsR w g rows) (hr : ∀ r ∈ rows, RowOk r) (h6 : rows.length ≤ 60) (hq : part ≤ 1000) (hpp : Blk w pp 3 #[.int .i64 part]) :
    Calls Tryz.prog 74 #[.func (.func 80) #[] #[.pointer (some ⟨pp, 0, none⟩)], .pointer (some ⟨pf, 0, none⟩), .pointer (some ⟨pb, 0, none⟩)] w fun e w' => ∃ A' c', e = .returned (.tuple #[.slice A' (optL (eachO (levA · part) rows)).length c', .bool (eachO (levA · part) rows).isSome]) ∧ w'.ownsRow w.heap.size 3 1 (.slice A' (optL (eachO (levA · part) rows)).length c') (optL (eachO (levA · part) rows)).length (ints (optL (eachO (levA · part) rows))) ∧ Below w.heap.size w w' := by
  have cf : w.cell? ⟨pf, 0, none⟩ = some (.bool (fullB rows)) := by simpa using hf.cell 0
  have cb : w.cell? ⟨pb, 0, none⟩ = some (.slice (some ⟨g, 0, none⟩) rows.length c) := by simpa using hb.cell 0
  have zf := hf.lt
  have zb := hb.lt
  have HR := Lib.hid hr
  clear hr hf hb
  by_cases h0 : fullB rows = true
  · have HO : Hid (eachO (levA · part) rows = some (addA (rows.map (levA · part)))) := Lib.hid (by unfold eachO; rw [if_pos h0])
    have HF := Lib.hid (fun (k : Nat) (hk : k < rows.length) => fullB_at h0 hk)
    have HBD := Lib.hid (mapF_bd (rows := rows) (f := (levA · part)) (fun r hm hl => by have := levA_bd (HR.out r hm) (part := part) hl hq; omega) h0)
    have HVN := Lib.hid (fun (k : Nat) (hk : k < rows.length) => valL_next (f := (levA · part)) hk)
    have HVA := Lib.hid (valL_all (levA · part) rows)
    have HVL := Lib.hid (fun (k : Nat) (hk : k ≤ rows.length) => valL_len (f := (levA · part)) hk)
    rw [h0] at cf
    clear h0
    go_enter Tryz.func74, Tryz.ntmps74
    go_wp2_with fail
    go_loopw [6, 13] (fun v i wr => ∃ (k : Nat) (A' : Option Addr) (c' : Nat), k ≤ rows.length ∧ i = .int .i64 k ∧ v = .slice A' (valL (levA · part) rows k).length c' ∧ wr.ownsRow w.heap.size 3 1 (.slice A' (valL (levA · part) rows k).length c') (valL (levA · part) rows k).length (ints (valL (levA · part) rows k)) ∧ Below w.heap.size w wr) (fun _ i _ => rows.length - (intOf i).toNat)
    case atStart => exact ⟨0, none, 0, Nat.zero_le _, rfl, rfl, World.ownsRow_nil _ _ _ _, Below.refl _ _⟩
    case round =>
      clear cf cb
      obtain ⟨k, A', c', hk, rfl, rfl, hown, hbw⟩ := hrel
      have hz := hbw.size
      have hlk : (valL (levA · part) rows k).length ≤ 60 := by rw [HVL.out k hk]; omega
      by_cases hlt : k < rows.length
      · have hNr := hN.below hbw
        obtain ⟨A1, c1, cg, ho1⟩ := hNr.row _ hlt
        have hgl := hNr.lt
        have HK := Lib.hid (HR.out rows[k] (List.getElem_mem hlt))
        have HS := Lib.hid (HVN.out k hlt)
        have h0 := HF.out k hlt
        have hr1 := ho1
        generalize rows[k] = row at *
        generalize valL (levA · part) rows k = o at *
        clear ho1 hNr
        go_wp2_with fail
        refine (rlev_any pp part A1 c1 _ row _ hr1 HK.out h0 hq (hpp.below hbw)).mono ?_
        rintro e w2 ⟨rfl, hb2⟩
        have hown2 := own_keep hown hb2
        have hx2 := below_up hbw hb2
        have hz2 := hx2.size
        generalize levA row part = x at *
        clear hb2 hbw hown hr1
        go_wp2_with (at_builtin; go_must (refine wpList_app (lo := w.heap.size) (base := w.heap.size) (n := o.length) (xs := ints o) _ _ rfl _ _ ty_ints rfl (by repeat (first | exact hown2 | refine World.ownsRow.alloc ?_ _ | refine own_drewN ?_ _ | refine World.ownsRow.drew ?_)) rfl (by first | exact row_new' _ (by first | rfl | simp) (by first | omega | (simp; omega)) rfl | exact row_newN _ _ (by first | rfl | simp) (by first | omega | (simp; omega)) rfl | exact row_newD _ (by first | rfl | simp) (by first | omega | (simp; omega)) rfl) rfl rfl (by first | omega | decide) (by first | omega | decide) (by first | omega | (simp; omega)) ?_))
        intro A5 c5 w5 hown5 hg5 _
        go_wp2_with fail
        go_roundw
        case rel => exact ⟨k + 1, A5, c5, by omega, by go_num, by rw [HS.out]; simp, by rw [HS.out, ints_app, List.length_append]; exact hown5, below_app hown2 (by repeat (first | exact hx2 | refine Below.alloc ?_ (by first | omega | (simp; omega)) _ | refine below_drewN' ?_ _ | refine Below.drew ?_)) hg5 (Nat.le_refl _) (by simp; omega)⟩
        case measure => simp [intOf]; omega
      · have hkn : k = rows.length := by omega
        subst hkn
        rw [HVA.out] at hown ⊢
        have hll : (rows.map (levA · part)).length ≤ 60 := by simpa using h6
        clear HVA HVL HVN hlk
        generalize rows.map (levA · part) = l at *
        go_wp2_with fail
        refine (sums_any A' c' _ l _ (Row.of_own hown) hll HBD.out).mono ?_
        rintro e w2 ⟨A2, c2, rfl, ho2, hb2⟩
        go_wp2_with fail
        go_returns
        exact ⟨A2, c2, by rw [HO.out]; rfl, by rw [HO.out]; exact own_weak ho2 hz, below_up hbw hb2⟩
  · have h0' : fullB rows = false := by simpa using h0
    have HO : Hid (eachO (levA · part) rows = none) := Lib.hid (by unfold eachO; rw [if_neg h0])
    rw [h0'] at cf
    clear h0 h0'
    go_enter Tryz.func74, Tryz.ntmps74
    go_wp2_with fail
    go_returns
    exact ⟨none, 0, by rw [HO.out]; rfl, by rw [HO.out]; exact World.ownsRow_nil _ _ _ _, Below.refl _ _⟩

end Go.Proofs.YtagghmfhfboejaaGreatDoor
