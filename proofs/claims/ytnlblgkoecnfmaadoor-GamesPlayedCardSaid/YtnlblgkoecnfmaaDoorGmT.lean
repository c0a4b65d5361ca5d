/- The walk of step. -/
import Derived.Test.YtnlblgkoecnfmaaDoorGmX
import Derived.Deep.CutBlock
import Derived.Deep.DeepCutAuto
namespace Go.Proofs.YtnlblgkoecnfmaaDoor
set_option linter.unusedVariables false
set_option linter.unusedSimpArgs false
open Go.RowKit Go.Maps

/-- The state s in block w.heap.size, nought in the next one. -/
structure MidG (w wx : World) (t : GS) : Prop where
  B : Blk wx w.heap.size 74 #[.int .i64 t.x, .int .i64 t.y, .int .i64 t.rise, .bool t.held, .int .i64 t.mask, .int .i64 t.fin]
  R : Blk wx (w.heap.size + 1) 74 #[.int .i64 0, .int .i64 0, .int .i64 0, .bool false, .int .i64 0, .int .i64 0]
  b : Below w.heap.size w wx
section
variable {w wx : World} {t : GS}
theorem MidG.drew (h : MidG w wx t) : MidG w wx.drew t := ⟨h.B.drew, h.R.drew, h.b.drew⟩
theorem MidG.cells (h : MidG w wx t) : wx.cell? ⟨w.heap.size, 0, none⟩ = some (.int .i64 t.x) ∧ wx.cell? ⟨w.heap.size, 1, none⟩ = some (.int .i64 t.y) ∧ wx.cell? ⟨w.heap.size, 2, none⟩ = some (.int .i64 t.rise) ∧ wx.cell? ⟨w.heap.size, 3, none⟩ = some (.bool t.held) ∧ wx.cell? ⟨w.heap.size, 4, none⟩ = some (.int .i64 t.mask) ∧ wx.cell? ⟨w.heap.size, 5, none⟩ = some (.int .i64 t.fin) := ⟨h.B.cell 0, h.B.cell 1, h.B.cell 2, h.B.cell 3, h.B.cell 4, h.B.cell 5⟩
theorem MidG.set (h : MidG w wx t) (i : Nat) (u : Value) (t' : GS) (e : (#[.int .i64 t.x, .int .i64 t.y, .int .i64 t.rise, .bool t.held, .int .i64 t.mask, .int .i64 t.fin] : Array Value).setIfInBounds i u = #[.int .i64 t'.x, .int .i64 t'.y, .int .i64 t'.rise, .bool t'.held, .int .i64 t'.mask, .int .i64 t'.fin]) : MidG w (wx.setCell ⟨w.heap.size, i, none⟩ u) t' :=
  ⟨e ▸ h.B.poke i u, h.R.past _ _ _ (by omega), h.b.setCell (Nat.le_refl _) u⟩
end
theorem wpList_storeRow {ops : Array Oper} {rest : List Oper} {o : Oper} {a : Act} {Q : Exit → Act → World → Prop} {w : World} (hg : o.guard = none) (ty : TypeId) (x y : Operand) (ho : o.op = .store ty x y) (g : Nat) (cells : Array Value) (hx : a.eval x = .pointer (some ⟨g, 0, none⟩)) (hy : a.eval y = .agg cells) (t : TypeId) (old : Array Value) (hB : Blk w g t old)
    (hi : (Tryd.prog.info? ty).map (·.size) = some cells.size) (hold : old.size = cells.size) (h1 : cells.all (·.oneCell') = true) (h : ∀ w', Blk w' g t cells → w.grownBy w' (some g) → wpList Tryd.prog ops Q rest (a.put o.dst undef) w') : wpList Tryd.prog ops Q (o :: rest) a w := by
  have hB' : w.heap[g]? = some (.cells old t (0, 0)) := hB
  refine wpList_plain hg fun _ hK => wp_store_row ty x y ho g cells hx hy t old hB hi hold h1 (hK _ _ (h _ ?_ ?_))
  · unfold Blk
    simp [World.setRow, Array.getElem?_modify, hB']
  · refine ⟨rfl, rfl, rfl, by simp [World.setRow], fun i _ hi => ?_⟩
    have hi' : g ≠ i := fun e => hi (by rw [e])
    simp [World.setRow, Array.getElem?_modify, hi']
theorem one6 (x y r m f : Int) (hd : Bool) : (#[.int .i64 x, .int .i64 y, .int .i64 r, .bool hd, .int .i64 m, .int .i64 f] : Array Value).all (·.oneCell') = true := by simp [Value.oneCell']
theorem and3 (h : Int) (h0 : 0 ≤ h) (h1 : h < 64) : bits BinOp.and IntKind.i64 h 3 = h % 4 := by
  have : ∀ k : Fin 64, bits BinOp.and IntKind.i64 (k.val : Int) 3 = (k.val : Int) % 4 := by decide
  obtain ⟨n, rfl⟩ := Int.eq_ofNat_of_zero_le h0
  exact this ⟨n, by omega⟩
theorem and16 (h : Int) (h0 : 0 ≤ h) (h1 : h < 64) : (bits BinOp.and IntKind.i64 h 16 != 0) = jpF h := by
  have : ∀ k : Fin 64, (bits BinOp.and IntKind.i64 (k.val : Int) 16 != 0) = jpF (k.val : Int) := by decide
  obtain ⟨n, rfl⟩ := Int.eq_ofNat_of_zero_le h0
  exact this ⟨n, by omega⟩
theorem or_bits (m k : Nat) (hm : m < 1024) (hk : k < 10) : bits BinOp.or IntKind.i64 (m : Int) ((2 ^ k : Nat) : Int) = ((m ||| 2 ^ k : Nat) : Int) := by
  have : ∀ k : Fin 10, ∀ m : Fin 1024, bits BinOp.or IntKind.i64 (m.val : Int) ((2 ^ k.val : Nat) : Int) = ((m.val ||| 2 ^ k.val : Nat) : Int) := by decide +kernel
  exact this ⟨k, hk⟩ ⟨m, hm⟩
theorem or_bits0 (m : Nat) (hm : m < 1024) : bits BinOp.or IntKind.i64 (m : Int) 0 = (m : Int) := by
  have : ∀ m : Fin 1024, bits BinOp.or IntKind.i64 (m.val : Int) 0 = (m.val : Int) := by decide +kernel
  exact this ⟨m, hm⟩
theorem coin_look {rows : List (List UInt8)} {W : Nat} (x y : Int) : (∃ c', coinF rows W 0 rows.length x y = some (.int .i64 c') ∧ ((bitF rows W x y : Nat) : Int) = c') ∨ coinF rows W 0 rows.length x y = none ∧ ((bitF rows W x y : Nat) : Int) = 0 := by
  unfold coinF
  by_cases hc : cellF rows W x y = 111
  · left
    rcases cellF_where (rows := rows) (W := W) (x := x) (y := y) (by rw [hc]; decide) with h1 | h1
    · rw [cellF_low h1] at hc; cases hc
    · exact ⟨_, if_pos ⟨by omega, hc⟩, rfl⟩
  · right
    refine ⟨if_neg (fun h => hc h.2), ?_⟩
    unfold bitF; rw [if_neg hc]; rfl
theorem or_bit {rows : List (List UInt8)} {W : Nat} (hL : Lv rows W) (m : Nat) (hm : m < 1024) (x y : Int) : bits BinOp.or IntKind.i64 (m : Int) ((bitF rows W x y : Nat) : Int) = ((m ||| bitF rows W x y : Nat) : Int) := by
  rcases hL.bit x y with ⟨h, _⟩ | ⟨k, hk, h, _⟩
  · rw [h]; simp only [Nat.or_zero]; exact or_bits0 m hm
  · rw [h]; exact or_bits m k hm hk
theorem mv_bound (h : Int) {x : Int} (h0 : 0 ≤ x) (h1 : x ≤ 61) : -2 ≤ mvF h x ∧ mvF h x ≤ 62 := by
  unfold mvF
  split
  · omega
  · split <;> omega
theorem res_step (tmps : Array Value) (w : World) (g : Nat) (x y r m f : Int) (hd : Bool) (hx : tmps.getD 6 undef = .pointer (some ⟨g, 0, none⟩)) (f0 : w.cell? ⟨g, 0, none⟩ = some (.int .i64 x)) (f1 : w.cell? ⟨g, 1, none⟩ = some (.int .i64 y)) (f2 : w.cell? ⟨g, 2, none⟩ = some (.int .i64 r)) (f3 : w.cell? ⟨g, 3, none⟩ = some (.bool hd)) (f4 : w.cell? ⟨g, 4, none⟩ = some (.int .i64 m)) (f5 : w.cell? ⟨g, 5, none⟩ = some (.int .i64 f)) :
    (results Tryd.f60 tmps).run Tryd.prog w = .ok (.agg #[.int .i64 x, .int .i64 y, .int .i64 r, .bool hd, .int .i64 m, .int .i64 f]) w := by
  have e : Tryd.f60.results = #[.cell 6 74] := by kernel_rfl
  have hx' : tmps[6]?.getD undef = .pointer (some ⟨g, 0, none⟩) := by simpa using hx
  simp [results, e, hx', go_sem, f0, f1, f2, f3, f4, f5]
def gsV (s : GS) : Value := .agg #[.int .i64 s.x, .int .i64 s.y, .int .i64 s.rise, .bool s.held, .int .i64 s.mask, .int .i64 s.fin]
set_option maxHeartbeats 2000000 in
set_option maxRecDepth 100000 in
theorem step_any (p lo : Nat) (A : Option Addr) (c : Nat) (rows : List (List UInt8)) (W : Nat) (sx sy : Int) (mb : Nat) (w : World) (hr : Row w lo 1 A rows.length (strs rows)) (hL : Lv rows W) (hg : GmI w p A c rows W sx sy mb) (s : GS) (hs : GOk rows W s) (hf : s.fin = 0) (h : Int) (h0 : 0 ≤ h) (h1 : h < 64) :
    Calls Tryd.prog 60 #[.pointer (some ⟨p, 0, none⟩), gsV s, .int .i64 h] w fun e w' => e = .returned (gsV (stepF rows W h s)) ∧ Below w.heap.size w w' := by
  have hM0 : MidG w ((w.alloc (.cells #[.int .i64 s.x, .int .i64 s.y, .int .i64 s.rise, .bool s.held, .int .i64 s.mask, .int .i64 s.fin] 74)).alloc (.cells #[.int .i64 0, .int .i64 0, .int .i64 0, .bool false, .int .i64 0, .int .i64 0] 74)) s := by
    refine ⟨(Blk.new _ _ _).alloc _, ?_, ((Below.refl _ w).alloc (Nat.le_refl _) _).alloc (by simp) _⟩
    have h := Blk.new (w.alloc (.cells #[.int .i64 s.x, .int .i64 s.y, .int .i64 s.rise, .bool s.held, .int .i64 s.mask, .int .i64 s.fin] 74)) 74 #[.int .i64 0, .int .i64 0, .int .i64 0, .bool false, .int .i64 0, .int .i64 0]
    rw [show (w.alloc (.cells #[.int .i64 s.x, .int .i64 s.y, .int .i64 s.rise, .bool s.held, .int .i64 s.mask, .int .i64 s.fin] 74)).heap.size = w.heap.size + 1 by simp] at h
    exact h
  have HG := Lib.hid hg
  have HR := Lib.hid hr
  have HL := Lib.hid hL
  have hx0 := hs.x0
  have hxW := hs.xW
  have hy0 := hs.y0
  have hyl := hs.yl hf
  have h60 := hL.le
  have hW60 := hL.W60
  have hr0 := hs.r0
  have hr3 := hs.r3
  have HSO := Lib.hid hs
  have b3 := and3 h h0 h1
  have b16 := and16 h h0 h1
  have d0 : (s.fin != 0) = false := by rw [hf]; rfl
  have HSF := Lib.hid hf
  clear hg hr hL hs hf
  unfold gsV
  go_enter Tryd.func60, Tryd.ntmps60
  have hmv : -2 ≤ mvF h s.x ∧ mvF h s.x ≤ 62 := mv_bound h (by omega) (by omega)
  go_upto_block 0 with (fail)
  go_cut [7] (fun v wx => v = .int .i64 (mvF h s.x) ∧ MidG w wx s)
  case first =>
    have w1 : IntKind.i64.wrap (s.x - 1) = s.x - 1 := IntWalk.i64_in _ ⟨by omega, by omega⟩
    have w2 : IntKind.i64.wrap (s.x + 1) = s.x + 1 := IntWalk.i64_in _ ⟨by omega, by omega⟩
    by_cases q1 : h % 4 = 1
    · have e1 : (h % 4 == 1) = true := by simp [q1]
      have HV : Hid (mvF h s.x = s.x - 1) := Lib.hid (by unfold mvF; rw [if_pos q1])
      clear q1 hmv
      go_wp2_with fail
      go_meet
      exact ⟨by rw [HV.out], hM0⟩
    have e1 : (h % 4 == 1) = false := by simp [q1]
    by_cases q2 : h % 4 = 2
    · have e2 : (h % 4 == 2) = true := by simp [q2]
      have HV : Hid (mvF h s.x = s.x + 1) := Lib.hid (by unfold mvF; rw [if_neg q1, if_pos q2])
      clear q1 q2 hmv
      go_wp2_with fail
      go_meet
      exact ⟨by rw [HV.out], hM0⟩
    · have e2 : (h % 4 == 2) = false := by simp [q2]
      have HV : Hid (mvF h s.x = s.x) := Lib.hid (by unfold mvF; rw [if_neg q1, if_neg q2])
      clear q1 q2 hmv
      go_wp2_with fail
      go_meet
      exact ⟨by rw [HV.out], hM0⟩
  case rest =>
  obtain ⟨rfl, hM1⟩ := hcut
  clear hM0
  obtain ⟨y0, y1, -, -, -, -⟩ := hM1.cells
  go_wp2_with fail
  go_at_call 80
  refine (cellI_any p lo A c rows W _ ((HG.out.below hM1.b).blk.cell 0) (HR.out.below hM1.b) HL.out _ _ (i64_smG (by omega) (by omega)) (i64_smG (by omega) (by omega))).mono ?_
  rintro e w1 ⟨rfl, rfl⟩
  go_upto_if 33 with (fail)
  go_cut [] (fun wx => MidG w wx (sideF rows W h s))
  case first =>
    have z0 := hM1.B.thaw 0
    by_cases q1 : cellF rows W (mvF h s.x) s.y = 35
    · have e1 : (cellF rows W (mvF h s.x) s.y != 35) = false := by rw [q1]; rfl
      have HS2 : Hid (sideF rows W h s = s) := Lib.hid (by unfold sideF; rw [if_pos q1])
      clear q1
      go_wp2_with fail
      go_meet
      rw [HS2.out]; exact hM1
    · have e1 : (cellF rows W (mvF h s.x) s.y != 35) = true := bne_iff_ne.2 q1
      have HS2 : Hid (sideF rows W h s = { s with x := mvF h s.x }) := Lib.hid (by unfold sideF; rw [if_neg q1])
      clear q1
      go_wp2_with fail
      go_meet
      rw [HS2.out]
      exact hM1.set 0 _ _ rfl
  case rest =>
  have hM2 := hcut
  clear hcut hM1 y0 y1 hmv
  have HO2 := Lib.hid (HSO.out.side (h := h) HSF.out)
  have HF2 : Hid ((sideF rows W h s).fin = 0) := Lib.hid (side_fin.trans HSF.out)
  have HST : Hid (stepF rows W h s = endF rows W (vertF rows W (jumpF rows W h (sideF rows W h s)))) := Lib.hid rfl
  generalize sideF rows W h s = t at *
  have tx0 := HO2.out.x0
  have txW := HO2.out.xW
  have ty0 := HO2.out.y0
  have tyl := HO2.out.yl HF2.out
  have tr0 := HO2.out.r0
  have tr3 := HO2.out.r3
  obtain ⟨y0, y1, y2, y3, -, -⟩ := hM2.cells
  have w1 : IntKind.i64.wrap (t.y + 1) = t.y + 1 := IntWalk.i64_in _ ⟨by omega, by omega⟩
  go_wp2_with fail
  go_at_call 80
  refine (cellI_any p lo A c rows W _ ((HG.out.below hM2.b).blk.cell 0) (HR.out.below hM2.b) HL.out _ _ (i64_smG (by omega) (by omega)) (i64_smG (by omega) (by omega))).mono ?_
  rintro e w2 ⟨rfl, rfl⟩
  obtain ⟨gd, hgd⟩ : ∃ gd, gd = grF rows W t.x t.y := ⟨_, rfl⟩
  have hgr : (cellF rows W t.x (t.y + 1) == 35) = gd := by rw [hgd]; unfold grF; rfl
  obtain ⟨jb, hjb⟩ : ∃ jb, jb = jpF h := ⟨_, rfl⟩
  rw [← hjb] at b16
  have HGD := Lib.hid hgd
  have HJB := Lib.hid hjb
  clear hgd hjb
  go_upto_region 13 with (fail)
  go_cut [58] (fun v wx => v = .bool (jb && !t.held && gd) ∧ MidG w wx t)
  case first =>
    cases jb with
    | false =>
      go_wp2_with fail
      go_meet
      exact ⟨rfl, hM2⟩
    | true =>
      cases hh : t.held with
      | false =>
        rw [hh] at y3
        go_wp2_with fail
        go_meet
        exact ⟨by rw [hh]; simp, hM2⟩
      | true =>
        rw [hh] at y3
        go_wp2_with fail
        go_meet
        exact ⟨by rw [hh]; simp, hM2⟩
  case rest =>
  obtain ⟨rfl, hM3⟩ := hcut
  clear hM2 y0 y1 y2 y3
  obtain ⟨g3, hg3⟩ : ∃ g3, g3 = (jb && !t.held && gd) := ⟨_, rfl⟩
  rw [← hg3]
  have HG3 := Lib.hid hg3
  clear hg3
  go_upto_if 58 with (fail)
  go_cut [] (fun wx => MidG w wx { t with rise := if g3 then 3 else t.rise })
  case first =>
    obtain ⟨-, -, y2, -, -, -⟩ := hM3.cells
    have z2 := hM3.B.thaw 2
    cases g3 with
    | false =>
      go_wp2_with fail
      go_meet
      exact hM3
    | true =>
      go_wp2_with fail
      go_meet
      exact hM3.set 2 _ _ rfl
  case rest =>
  have hM4 := hcut
  clear hcut hM3
  obtain ⟨t3, ht3⟩ : ∃ t3 : GS, t3 = { t with rise := if g3 then 3 else t.rise } := ⟨_, rfl⟩
  rw [← ht3] at hM4
  have HJU : Hid (jumpF rows W h t = { t3 with held := jb }) := Lib.hid (by rw [ht3]; unfold jumpF; rw [← HJB.out, ← HGD.out, ← HG3.out])
  clear ht3
  go_upto_region 15 with (fail)
  go_cut [] (fun wx => MidG w wx (jumpF rows W h t))
  case first =>
    obtain ⟨-, -, -, y3, -, -⟩ := hM4.cells
    have z3 := hM4.B.thaw 3
    go_wp2_with fail
    go_meet
    rw [HJU.out]
    exact hM4.set 3 _ _ rfl
  case rest =>
  have hM5 := hcut
  have HO5 := Lib.hid (HO2.out.jump (h := h))
  have HGD5 : Hid (gd = grF rows W (jumpF rows W h t).x (jumpF rows W h t).y) := Lib.hid HGD.out
  have HF5 : Hid ((jumpF rows W h t).fin = 0) := Lib.hid HF2.out
  clear hcut hM4 HJU HG3 HGD HJB HF2 HO2 tx0 txW ty0 tyl tr0 tr3 w1 hgr b16
  generalize jumpF rows W h t = s5 at *
  clear t3
  have HV5 := Lib.hid (HO5.out.vert HF5.out)
  have tx0 := HO5.out.x0
  have txW := HO5.out.xW
  have ty0 := HO5.out.y0
  have tyl := HO5.out.yl HF5.out
  have tr0 := HO5.out.r0
  have tr3 := HO5.out.r3
  go_upto_block 1 with (fail)
  go_cut [] (fun wx => MidG w wx (vertF rows W s5))
  case first =>
    obtain ⟨y0, y1, y2, -, -, -⟩ := hM5.cells
    have z1 := hM5.B.thaw 1
    have z2 := hM5.B.thaw 2
    have w1 : IntKind.i64.wrap (s5.y - 1) = s5.y - 1 := IntWalk.i64_in _ ⟨by omega, by omega⟩
    have w2 : IntKind.i64.wrap (s5.y + 1) = s5.y + 1 := IntWalk.i64_in _ ⟨by omega, by omega⟩
    have w3 : IntKind.i64.wrap (s5.rise - 1) = s5.rise - 1 := IntWalk.i64_in _ ⟨by omega, by omega⟩
    by_cases q1 : 0 < s5.rise
    · have e1 : decide ((0 : Int) < s5.rise) = true := decide_eq_true q1
      go_wp2_with fail
      go_at_call 80
      refine (cellI_any p lo A c rows W _ ((HG.out.below hM5.b).blk.cell 0) (HR.out.below hM5.b) HL.out _ _ (i64_smG (by omega) (by omega)) (i64_smG (by omega) (by omega))).mono ?_
      rintro e w9 ⟨rfl, rfl⟩
      by_cases q2 : cellF rows W s5.x (s5.y - 1) = 35
      · have e2 : (cellF rows W s5.x (s5.y - 1) == 35) = true := by rw [q2]; rfl
        have HV : Hid (vertF rows W s5 = { s5 with rise := 0 }) := Lib.hid (by unfold vertF; rw [if_pos q1, if_pos q2])
        clear q2 HV5
        go_wp2_with fail
        go_meet
        rw [HV.out]; exact hM5.set 2 _ _ rfl
      · have e2 : (cellF rows W s5.x (s5.y - 1) == 35) = false := beq_eq_false_iff_ne.2 q2
        have HV : Hid (vertF rows W s5 = { s5 with y := s5.y - 1, rise := s5.rise - 1 }) := Lib.hid (by unfold vertF; rw [if_pos q1, if_neg q2])
        have hMy := hM5.set 1 (.int .i64 (s5.y - 1)) { s5 with y := s5.y - 1 } rfl
        obtain ⟨-, -, v2, -, -, -⟩ := hMy.cells
        have v3 := hMy.B.thaw 2
        clear q2 HV5
        go_wp2_with fail
        go_meet
        rw [HV.out]; exact hMy.set 2 _ _ rfl
    · have e1 : decide ((0 : Int) < s5.rise) = false := decide_eq_false q1
      cases gd with
      | true =>
        have HV : Hid (vertF rows W s5 = s5) := Lib.hid (by unfold vertF; rw [if_neg q1, if_pos HGD5.out.symm])
        clear HV5
        go_wp2_with fail
        go_meet
        rw [HV.out]; exact hM5
      | false =>
        have HV : Hid (vertF rows W s5 = { s5 with y := s5.y + 1 }) := Lib.hid (by unfold vertF; rw [if_neg q1, if_neg (by rw [← HGD5.out]; decide)])
        clear HV5
        go_wp2_with fail
        go_meet
        rw [HV.out]; exact hM5.set 1 _ _ rfl
  case rest =>
  have hM6 := hcut
  have HM6 : Hid ((vertF rows W s5).mask < 1024) := Lib.hid (by rw [vert_mask]; exact HO5.out.m)
  clear hcut hM5 tx0 txW ty0 tyl tr0 tr3 HO5 HF5 HGD5
  generalize vertF rows W s5 = s6 at *
  obtain ⟨tx0, txW, ty0, tyl, tr0, tr3⟩ := HV5.out
  clear HV5
  have kx : I64 s6.x := i64_smG (by omega) (by omega)
  have ky : I64 s6.y := i64_smG (by omega) (by omega)
  go_upto_region 23 with (fail)
  go_cut [] (fun wx => MidG w wx { s6 with mask := s6.mask ||| bitF rows W s6.x s6.y })
  case first =>
    obtain ⟨y0, y1, -, -, y4, -⟩ := hM6.cells
    have z4 := hM6.B.thaw 4
    have yp := (HG.out.below hM6.b).blk.cell 3
    simp only [List.getElem?_toArray, List.getElem?_cons_zero, List.getElem?_cons_succ] at yp
    have hlook := (HG.out.below hM6.b).map.drew.lookRun s6.x s6.y _ kx ky (coin_look s6.x s6.y)
    have hor := or_bit HL.out s6.mask HM6.out s6.x s6.y
    generalize bitF rows W s6.x s6.y = bt at *
    go_wp2_with fail
    go_still_tail 11, (by kernel_rfl)
    clear hlook
    go_wp2_with fail
    go_meet
    exact hM6.drew.set 4 _ _ rfl
  case rest =>
  have hM7 := hcut
  clear hcut hM6
  have HEN : Hid (endF rows W s6 = { s6 with mask := s6.mask ||| bitF rows W s6.x s6.y, fin := if cellF rows W s6.x s6.y = 94 then 2 else if cellF rows W s6.x s6.y = 120 then 1 else s6.fin }) := Lib.hid rfl
  generalize s6.mask ||| bitF rows W s6.x s6.y = m7 at *
  obtain ⟨y0, y1, -, -, -, -⟩ := hM7.cells
  go_wp2_with fail
  go_at_call 80
  refine (cellI_any p lo A c rows W _ ((HG.out.below hM7.b).blk.cell 0) (HR.out.below hM7.b) HL.out _ _ kx ky).mono ?_
  rintro e w9 ⟨rfl, rfl⟩
  go_upto_block 2 with (fail)
  go_cut [] (fun wx => MidG w wx (endF rows W s6))
  case first =>
    have z5 := hM7.B.thaw 5
    obtain ⟨-, -, -, -, -, y5⟩ := hM7.cells
    by_cases q1 : cellF rows W s6.x s6.y = 94
    · have e1 : (cellF rows W s6.x s6.y == 94) = true := by rw [q1]; rfl
      have HV : Hid (endF rows W s6 = { s6 with mask := m7, fin := 2 }) := Lib.hid (by rw [HEN.out, if_pos q1])
      clear q1
      go_wp2_with fail
      go_meet
      rw [HV.out]; exact hM7.set 5 _ _ rfl
    have e1 : (cellF rows W s6.x s6.y == 94) = false := beq_eq_false_iff_ne.2 q1
    by_cases q2 : cellF rows W s6.x s6.y = 120
    · have e2 : (cellF rows W s6.x s6.y == 120) = true := by rw [q2]; rfl
      have HV : Hid (endF rows W s6 = { s6 with mask := m7, fin := 1 }) := Lib.hid (by rw [HEN.out, if_neg q1, if_pos q2])
      clear q1 q2
      go_wp2_with fail
      go_meet
      rw [HV.out]; exact hM7.set 5 _ _ rfl
    · have e2 : (cellF rows W s6.x s6.y == 120) = false := beq_eq_false_iff_ne.2 q2
      have HV : Hid (endF rows W s6 = { s6 with mask := m7 }) := Lib.hid (by rw [HEN.out, if_neg q1, if_neg q2])
      clear q1 q2
      go_wp2_with fail
      go_meet
      rw [HV.out]; exact hM7
  case rest =>
  have hM8 := hcut
  clear hcut hM7 y0 y1 HEN
  generalize endF rows W s6 = s8 at *
  obtain ⟨y0, y1, y2, y3, y4, y5⟩ := hM8.cells
  have R0 := hM8.R
  have hb8 := hM8.b
  clear hM8
  have hi74 : (Tryd.prog.info? 74).map (·.size) = some 6 := by kernel_rfl
  go_upto_region 29 with (fail)
  go_cut [] (fun wx => Blk wx (w.heap.size + 1) 74 #[.int .i64 s8.x, .int .i64 s8.y, .int .i64 s8.rise, .bool s8.held, .int .i64 s8.mask, .int .i64 s8.fin] ∧ Below w.heap.size w wx)
  case first =>
    go_wp2_with (first | (refine wpList_storeRow rfl 74 _ _ rfl (w.heap.size + 1) #[.int .i64 s8.x, .int .i64 s8.y, .int .i64 s8.rise, .bool s8.held, .int .i64 s8.mask, .int .i64 s8.fin] rfl rfl 74 _ R0 hi74 rfl (one6 _ _ _ _ _ _) ?_; intro w8 hR8 hg8; clear hi74 R0 y0 y1 y2 y3 y4 y5) | fail)
    go_meet
    exact ⟨hR8, hb8.grown hg8 hb8.size (fun k hk => by injection hk with hk; omega)⟩
  case rest =>
  obtain ⟨hR8, hb9⟩ := hcut
  clear y0 y1 y2 y3 y4 y5 hi74 R0
  have f0 := hR8.cell 0
  have f1 := hR8.cell 1
  have f2 := hR8.cell 2
  have f3 := hR8.cell 3
  have f4 := hR8.cell 4
  have f5 := hR8.cell 5
  simp only [List.getElem?_toArray, List.getElem?_cons_zero, List.getElem?_cons_succ] at f0 f1 f2 f3 f4 f5
  clear hR8
  go_at_K
  go_step
  refine wp_ret (show bodyPost _ _ _ _ _ _ from ?_)
  refine bodyPost_ret (res_step _ wc (w.heap.size + 1) _ _ _ _ _ _ rfl f0 f1 f2 f3 f4 f5) rfl ?_
  exact ⟨by rw [HST.out], hb9⟩
end Go.Proofs.YtnlblgkoecnfmaaDoor
