/- The walk of PlayedOf. -/
import Derived.Test.YtnlblgkoecnfmaaDoorGmI
namespace Go.Proofs.YtnlblgkoecnfmaaDoor
set_option linter.unusedVariables false
set_option linter.unusedSimpArgs false
open Go.RowKit Go.Maps

theorem res_played (tmps : Array Value) (w : World) (g : Nat) (x y r m f : Int) (hd : Bool) (u : Value) (hx : tmps.getD 4 undef = .pointer (some ⟨g, 0, none⟩)) (hu : tmps.getD 5 undef = u) (f0 : w.cell? ⟨g, 0, none⟩ = some (.int .i64 x)) (f1 : w.cell? ⟨g, 1, none⟩ = some (.int .i64 y)) (f2 : w.cell? ⟨g, 2, none⟩ = some (.int .i64 r)) (f3 : w.cell? ⟨g, 3, none⟩ = some (.bool hd)) (f4 : w.cell? ⟨g, 4, none⟩ = some (.int .i64 m)) (f5 : w.cell? ⟨g, 5, none⟩ = some (.int .i64 f)) :
    (results Tryd.f15 tmps).run Tryd.prog w = .ok (.tuple #[.agg #[.int .i64 x, .int .i64 y, .int .i64 r, .bool hd, .int .i64 m, .int .i64 f], u]) w := by
  have e : Tryd.f15.results = #[.cell 4 36, .tmp 5] := by kernel_rfl
  have hx' : tmps[4]?.getD undef = .pointer (some ⟨g, 0, none⟩) := by simpa using hx
  have hu' : tmps[5]?.getD undef = u := by simpa using hu
  simp [results, e, hx', hu', go_sem, f0, f1, f2, f3, f4, f5]
set_option maxHeartbeats 2000000 in
set_option maxRecDepth 100000 in
theorem playedOf_any (lo : Nat) (A : Option Addr) (c : Nat) (rows : List (List UInt8)) (W : Nat) (sx sy : Int) (B : Option Addr) (d : Nat) (ps : List (Int × Int)) (w : World) (hr : Row w lo 1 A rows.length (strs rows)) (hL : Lv rows W) (hc : cellF rows W sx sy = 115) (hx : Row w lo 2 B ps.length (prs ps)) (hin : inFault ps = 0) :
    Calls Tryd.prog 15 #[.slice A rows.length c, .slice B ps.length d] w fun e w' => e = .returned (.tuple #[playV rows W sx sy (unf ps), .int .i64 (playF rows W (gs0 sx sy) (unf ps)).length]) ∧ Below w.heap.size w w' := by
  obtain ⟨i1, i2, i3⟩ := inFault_ok hin
  have HP : Hid (∀ p ∈ ps, 0 ≤ p.2) := Lib.hid (fun p hp => by have := i2 p hp; omega)
  have H64 := Lib.hid (unf_64 hin)
  have H20 := Lib.hid (unf_20 hin)
  have hk := Blk.new w 36 #[.int .i64 0, .int .i64 0, .int .i64 0, .bool false, .int .i64 0, .int .i64 0]
  have hb0 : Below w.heap.size w (w.alloc (.cells #[.int .i64 0, .int .i64 0, .int .i64 0, .bool false, .int .i64 0, .int .i64 0] 36)) := (Below.refl _ w).alloc (Nat.le_refl _) _
  have HL := Lib.hid hL
  have HCC := Lib.hid hc
  have HR := Lib.hid hr
  have HX := Lib.hid (hx.alloc (.cells #[.int .i64 0, .int .i64 0, .int .i64 0, .bool false, .int .i64 0, .int .i64 0] 36))
  have HI : Hid (psum ps ≤ 1000000000 ∧ ps.length ≤ 1000000000) := Lib.hid ⟨by omega, by omega⟩
  clear hr hL hc hx hin i1 i2 i3
  go_enter Tryd.func15, Tryd.ntmps15
  go_wp2_with fail
  refine (unfolded_any B d lo ps _ HX.out HI.out.2 HP.out HI.out.1).mono ?_
  rintro e w5 ⟨A5, c5, rfl, hown5, hb5⟩
  have hk5 := hk.below hb5
  have hb6 : Below w.heap.size w w5 := hb0.trans (hb5.mono (by simp))
  clear hk hb0 hb5
  go_wp2_with fail
  refine (traceOf_any 0 A c rows W sx sy w5 (row_down (HR.out.below hb6)) HL.out HCC.out A5 c5 (unf ps) (row_down (Row.of_own hown5)) H64.out (by have := H20.out; omega)).mono ?_
  rintro e w7 ⟨A7, c7, rfl, hown7, hb7⟩
  have hk7 := hk5.below hb7
  have hb8 := below_up hb6 (hb7.mono (Nat.le_refl _))
  clear hk5 hb6 hb7 hown5
  have HOK : Hid (∀ t ∈ playF rows W (gs0 sx sy) (unf ps), GOk rows W t) := Lib.hid (playF_ok HL.out (start_ok HL.out HCC.out) rfl)
  have HLL : Hid ((playF rows W (gs0 sx sy) (unf ps)).length ≤ 200000) := Lib.hid (Nat.le_trans playF_len H20.out)
  have HPV : Hid (playV rows W sx sy (unf ps) = gsV (bodyG (lastG (playF rows W (gs0 sx sy) (unf ps)) (gs0 sx sy)))) := Lib.hid rfl
  obtain ⟨L, hD⟩ : ∃ L, L = playF rows W (gs0 sx sy) (unf ps) := ⟨_, rfl⟩
  rw [← hD] at HPV HOK HLL hown7 ⊢
  have HD := Lib.hid hD
  clear hD
  by_cases h0 : L.length = 0
  · have HN : Hid (L = []) := Lib.hid (List.eq_nil_of_length_eq_zero h0)
    have d0 : ((L.length : Int) == 0) = true := by simp [h0]
    have HLZ : Hid ((L.length : Int) = 0) := Lib.hid (by omega)
    clear h0 hown7
    generalize L.length = n at *
    go_wp2_with fail
    refine (begun_any lo A c rows W _ (HR.out.below hb8) HL.out).mono ?_
    rintro e w8 ⟨p, sx', sy', mb, rfl, hg8, hp, hmb, hc8, hb9⟩
    obtain ⟨rfl, rfl⟩ := HL.out.start_one HCC.out hc8
    have hk8 := hk7.below hb9
    replace hb8 : Below w.heap.size w w8 := below_up hb8 (hb9.mono (Nat.le_refl _))
    have HQ : Hid (lastG L (gs0 sx sy) = gs0 sx sy) := Lib.hid (by rw [HN.out]; rfl)
    obtain ⟨q, hq⟩ : ∃ q, q = gs0 sx sy := ⟨_, rfl⟩
    obtain ⟨y1, y2, y3, y4, y5, y6⟩ : _ ∧ _ ∧ _ ∧ _ ∧ _ ∧ _ := ⟨hg8.blk.cell 1, hg8.blk.cell 2, hg8.blk.cell 3, hg8.blk.cell 4, hg8.blk.cell 5, hg8.blk.cell 6⟩
    simp only [List.getElem?_toArray, List.getElem?_cons_zero, List.getElem?_cons_succ] at y1 y2 y3 y4 y5 y6
    rw [← hq] at HQ HPV HD y1 y2 y3 y4 y5 y6
    have HQQ := Lib.hid hq
    have HZ : Hid ((n : Int) = 0 ∧ L.length = n) := Lib.hid ⟨HLZ.out, by have := HLZ.out; rw [HN.out]; simp; omega⟩
    obtain ⟨pm, hpm⟩ : ∃ pm, pm = popN q.mask := ⟨_, rfl⟩
    rw [← hpm] at y5
    have HPM := Lib.hid hpm
    clear hpm hq hg8 hp hmb hc8 hb9 hk7
    have hi : (Tryd.prog.info? 36).map (·.size) = some 6 := by kernel_rfl
    have hone := one6 q.x q.y q.rise (pm : Nat) q.fin q.held
    go_wp2_with (first | (refine wpList_storeRow rfl 36 _ _ rfl w.heap.size #[.int .i64 q.x, .int .i64 q.y, .int .i64 q.rise, .bool q.held, .int .i64 (pm : Nat), .int .i64 q.fin] rfl rfl 36 _ hk8 hi rfl hone ?_; intro w9 hS9 hg9) | fail)
    have f0 := hS9.cell 0
    have f1 := hS9.cell 1
    have f2 := hS9.cell 2
    have f3 := hS9.cell 3
    have f4 := hS9.cell 4
    have f5 := hS9.cell 5
    simp only [List.getElem?_toArray, List.getElem?_cons_zero, List.getElem?_cons_succ] at f0 f1 f2 f3 f4 f5
    refine bodyPost_ret (res_played _ w9 w.heap.size _ _ _ _ _ _ _ rfl rfl f0 f1 f2 f3 f4 f5) rfl ?_
    refine ⟨?_, hb8.grown hg9 hb8.size (fun k hk => by injection hk with hk; omega)⟩
    rw [HPV.out, HQ.out, gsV_pm HPM.out, ← HQQ.out, ← HD.out, HZ.out.2, HZ.out.1]
    rfl
  · have hpos : 0 < L.length := by omega
    have d0 : ((L.length : Int) == 0) = false := by rw [beq_eq_false_iff_ne]; omega
    have HQ : Hid (lastG L (gs0 sx sy) = L[L.length - 1]) := Lib.hid (lastG_at hpos)
    obtain ⟨gb, hA, hgb, hgb2, hcell, _⟩ := ownBlk hown7 hpos
    subst hA
    have hll2 : L.length - 1 < (L.map bodyG).length := by simp; omega
    obtain ⟨l0, l1, l2, l3, l4, l5⟩ := gss_at (L.map bodyG) (L.length - 1) hll2
    have c0 := hcell _ _ l0
    have c1 := hcell _ _ l1
    have c2 := hcell _ _ l2
    have c3 := hcell _ _ l3
    have c4 := hcell _ _ l4
    have c5 := hcell _ _ l5
    simp only [List.getElem_map] at c0 c1 c2 c3 c4 c5
    clear l0 l1 l2 l3 l4 l5 hcell hown7 h0 hgb hgb2
    generalize L[L.length - 1] = q at *
    clear hll2
    obtain ⟨pm, hpm⟩ : ∃ pm, pm = popN q.mask := ⟨_, rfl⟩
    unfold bodyG at c0 c1 c2 c3 c4 c5
    dsimp only at c0 c1 c2 c3 c4 c5
    rw [← hpm] at c4
    have HPM := Lib.hid hpm
    clear hpm
    have hk8 := hk7
    have hll : L.length ≤ 200000 := HLL.out
    have w1 : IntKind.i64.wrap ((L.length : Int) - 1) = ((L.length - 1 : Nat) : Int) := by rw [IntWalk.i64_in _ ⟨by omega, by omega⟩]; omega
    have hi : (Tryd.prog.info? 36).map (·.size) = some 6 := by kernel_rfl
    have hone := one6 q.x q.y q.rise (pm : Nat) q.fin q.held
    go_wp2_with (first | (refine wpList_storeRow rfl 36 _ _ rfl w.heap.size #[.int .i64 q.x, .int .i64 q.y, .int .i64 q.rise, .bool q.held, .int .i64 (pm : Nat), .int .i64 q.fin] rfl rfl 36 _ hk8 hi rfl hone ?_; intro w9 hS9 hg9) | fail)
    have f0 := hS9.cell 0
    have f1 := hS9.cell 1
    have f2 := hS9.cell 2
    have f3 := hS9.cell 3
    have f4 := hS9.cell 4
    have f5 := hS9.cell 5
    simp only [List.getElem?_toArray, List.getElem?_cons_zero, List.getElem?_cons_succ] at f0 f1 f2 f3 f4 f5
    refine bodyPost_ret (res_played _ w9 w.heap.size _ _ _ _ _ _ _ rfl rfl f0 f1 f2 f3 f4 f5) rfl ?_
    refine ⟨?_, hb8.grown hg9 hb8.size (fun k hk => by injection hk with hk; omega)⟩
    rw [HPV.out, HQ.out, gsV_pm HPM.out, ← HD.out]
    rfl
end Go.Proofs.YtnlblgkoecnfmaaDoor
