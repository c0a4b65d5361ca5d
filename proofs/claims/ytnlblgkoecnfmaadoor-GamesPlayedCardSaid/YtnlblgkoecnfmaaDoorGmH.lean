/- The walks of fault, Play and Trace. -/
import Derived.Test.YtnlblgkoecnfmaaDoorGmG
import Derived.Test.YtnlblgkoecnfmaaDoorGmC
import Derived.Test.YtnlblgkoecnfmaaDoorInpG
import Derived.Test.YtnlblgkoecnfmaaDoorInpE
namespace Go.Proofs.YtnlblgkoecnfmaaDoor
set_option linter.unusedVariables false
set_option linter.unusedSimpArgs false
open Go.RowKit Go.Maps

theorem unf_64 {ps : List (Int × Int)} (h : inFault ps = 0) : ∀ x ∈ unf ps, 0 ≤ x ∧ x < 64 :=
  unf_mem (P := fun x => 0 ≤ x ∧ x < 64) fun p hp => by have := (inFault_ok h).2.1 p hp; omega
theorem unf_20 {ps : List (Int × Int)} (h : inFault ps = 0) : (unf ps).length ≤ 200000 := by
  obtain ⟨_, h2, h3⟩ := inFault_ok h
  have := unf_len ps (fun p hp => by have := h2 p hp; omega)
  omega
theorem Lv.start {rows : List (List UInt8)} {W : Nat} (hL : Lv rows W) : ∃ sx sy : Int, cellF rows W sx sy = 115 := by
  have h1 : (115 : UInt8) ∈ rows.flatten := List.count_pos_iff.1 (by have := hL.one; unfold cntG at this; omega)
  obtain ⟨r, hr, h2⟩ := List.mem_flatten.1 h1
  obtain ⟨Y, hY, rfl⟩ := List.getElem_of_mem hr
  obtain ⟨X, hX, h3⟩ := List.getElem_of_mem h2
  have hW := hL.wide _ (List.getElem_mem hY)
  exact ⟨X, Y, by rw [cellF_in hY (by omega) hX, h3]; rfl⟩
theorem row_down {w : World} {lo size : Nat} {A : Option Addr} {n : Nat} {cs : List Value} (h : Row w lo size A n cs) : Row w 0 size A n cs :=
  ⟨h.1, fun hn => let ⟨b, off, e, _, h2, h3⟩ := h.2 hn; ⟨b, off, e, Nat.zero_le _, h2, h3⟩⟩
/-- What is told of a game at the end of its states. -/
def lastG (l : List GS) (s : GS) : GS := l.getLastD s
theorem lastG_at {l : List GS} {s : GS} (h : 0 < l.length) : lastG l s = l[l.length - 1] := by
  unfold lastG
  rw [List.getLastD_eq_getLast?, List.getLast?_eq_getElem?]
  simp [show l.length - 1 < l.length by omega]
theorem lastG_nil (s : GS) : lastG [] s = s := rfl
set_option maxHeartbeats 2000000 in
set_option maxRecDepth 100000 in
theorem faultG_any (lo : Nat) (A : Option Addr) (c : Nat) (rows : List (List UInt8)) (B : Option Addr) (d : Nat) (ps : List (Int × Int)) (w : World) (hr : Row w lo 1 A rows.length (strs rows)) (hl : rows.length ≤ 1000) (hb : ∀ r ∈ rows, r.length ≤ 1000) (hx : Row w lo 2 B ps.length (prs ps)) (hn : ps.length ≤ 1000000000) :
    Calls Tryd.prog 30 #[.slice A rows.length c, .slice B ps.length d] w fun e w' => e = .returned (.int .i64 (firstE [lvF rows, inFault ps])) ∧ Below w.heap.size w w' := by
  go_enter Tryd.func30, Tryd.ntmps30
  go_wp2_with fail
  refine (checkLevel_any A c lo rows _ hr hl hb).mono ?_
  rintro e w1 ⟨rfl, rfl⟩
  go_wp2_with fail
  refine (checkInput_any B d lo ps _ hx hn).mono ?_
  rintro e w2 ⟨rfl, hb2⟩
  clear hb
  go_wp2_with fail
  refine (first_any _ 2 w2.heap.size [lvF rows, inFault ps] _ (by first | exact row_new' _ (by first | rfl | simp) (by first | omega | (simp; omega)) rfl | exact row_newN _ _ (by first | rfl | simp) (by first | omega | (simp; omega)) rfl | exact row_newD _ (by first | rfl | simp) (by first | omega | (simp; omega)) rfl) (by simp)).mono ?_
  rintro e w3 ⟨rfl, rfl⟩
  have hz := hb2.size
  go_wp2_with fail
  go_ret
  exact ⟨rfl, (by repeat (first | exact hb2 | refine Below.alloc ?_ (by first | omega | (simp; omega)) _ | refine below_drewN' ?_ _ | refine Below.drew ?_))⟩
theorem res_play (tmps : Array Value) (w : World) (g : Nat) (x y r m f : Int) (hd : Bool) (u v : Value) (hx : tmps.getD 4 undef = .pointer (some ⟨g, 0, none⟩)) (hu : tmps.getD 5 undef = u) (hv : tmps.getD 6 undef = v) (f0 : w.cell? ⟨g, 0, none⟩ = some (.int .i64 x)) (f1 : w.cell? ⟨g, 1, none⟩ = some (.int .i64 y)) (f2 : w.cell? ⟨g, 2, none⟩ = some (.int .i64 r)) (f3 : w.cell? ⟨g, 3, none⟩ = some (.bool hd)) (f4 : w.cell? ⟨g, 4, none⟩ = some (.int .i64 m)) (f5 : w.cell? ⟨g, 5, none⟩ = some (.int .i64 f)) :
    (results Tryd.f12 tmps).run Tryd.prog w = .ok (.tuple #[.agg #[.int .i64 x, .int .i64 y, .int .i64 r, .bool hd, .int .i64 m, .int .i64 f], u, v]) w := by
  have e : Tryd.f12.results = #[.cell 4 36, .tmp 5, .tmp 6] := by kernel_rfl
  have hx' : tmps[4]?.getD undef = .pointer (some ⟨g, 0, none⟩) := by simpa using hx
  have hu' : tmps[5]?.getD undef = u := by simpa using hu
  have hv' : tmps[6]?.getD undef = v := by simpa using hv
  simp [results, e, hx', hu', hv', go_sem, f0, f1, f2, f3, f4, f5]
def noBody : Value := .agg #[.int .i64 0, .int .i64 0, .int .i64 0, .bool false, .int .i64 0, .int .i64 0]
set_option maxHeartbeats 2000000 in
set_option maxRecDepth 100000 in
theorem play_bad (lo : Nat) (A : Option Addr) (c : Nat) (rows : List (List UInt8)) (B : Option Addr) (d : Nat) (ps : List (Int × Int)) (w : World) (hr : Row w lo 1 A rows.length (strs rows)) (hl : rows.length ≤ 1000) (hb : ∀ r ∈ rows, r.length ≤ 1000) (hx : Row w lo 2 B ps.length (prs ps)) (hn : ps.length ≤ 1000000000) (hf : firstE [lvF rows, inFault ps] ≠ 0) :
    Calls Tryd.prog 12 #[.slice A rows.length c, .slice B ps.length d] w fun e w' => e = .returned (.tuple #[noBody, .int .i64 0, .int .i64 (firstE [lvF rows, inFault ps])]) ∧ Below w.heap.size w w' := by
  have HC := Lib.hid (fun o => faultG_any lo A c rows B d ps (w.alloc o) (hr.alloc o) hl hb (hx.alloc o) hn)
  unfold noBody
  have d0 : (firstE [lvF rows, inFault ps] != 0) = true := bne_iff_ne.2 hf
  generalize firstE [lvF rows, inFault ps] = ff at *
  clear hr hl hb hx hn hf
  have hk := Blk.new w 36 #[.int .i64 0, .int .i64 0, .int .i64 0, .bool false, .int .i64 0, .int .i64 0]
  go_enter Tryd.func12, Tryd.ntmps12
  go_wp2_with fail
  refine (HC.out _).mono ?_
  rintro e w1 ⟨rfl, hb1⟩
  have hk1 := hk.below hb1
  have hb2 : Below w.heap.size w w1 := ((Below.refl _ w).alloc (Nat.le_refl _) _).trans (hb1.mono (by simp))
  clear hk hb1 HC
  have hi : (Tryd.prog.info? 36).map (·.size) = some 6 := by kernel_rfl
  have hone := one6 0 0 0 0 0 false
  go_wp2_with (first | (refine wpList_storeRow rfl 36 _ _ rfl w.heap.size #[.int .i64 0, .int .i64 0, .int .i64 0, .bool false, .int .i64 0, .int .i64 0] rfl rfl 36 _ hk1 hi rfl hone ?_; intro w6 hS6 hg6) | fail)
  have f0 := hS6.cell 0
  have f1 := hS6.cell 1
  have f2 := hS6.cell 2
  have f3 := hS6.cell 3
  have f4 := hS6.cell 4
  have f5 := hS6.cell 5
  simp only [List.getElem?_toArray, List.getElem?_cons_zero, List.getElem?_cons_succ] at f0 f1 f2 f3 f4 f5
  refine bodyPost_ret (res_play _ w6 w.heap.size _ _ _ _ _ _ _ _ rfl rfl rfl f0 f1 f2 f3 f4 f5) rfl ?_
  exact ⟨rfl, hb2.grown hg6 hb2.size (fun k hk => by injection hk with hk; omega)⟩
theorem gsV_pm {q : GS} {pm : Nat} (h : pm = popN q.mask) : gsV (bodyG q) = .agg #[.int .i64 q.x, .int .i64 q.y, .int .i64 q.rise, .bool q.held, .int .i64 pm, .int .i64 q.fin] := by
  unfold gsV bodyG
  dsimp only
  rw [← h]
/-- What playing tells. -/
def playV (rows : List (List UInt8)) (W : Nat) (sx sy : Int) (xs : List Int) : Value := gsV (bodyG (lastG (playF rows W (gs0 sx sy) xs) (gs0 sx sy)))
set_option maxHeartbeats 2000000 in
set_option maxRecDepth 100000 in
theorem play_ok (lo : Nat) (A : Option Addr) (c : Nat) (rows : List (List UInt8)) (W : Nat) (sx sy : Int) (B : Option Addr) (d : Nat) (ps : List (Int × Int)) (w : World) (hr : Row w lo 1 A rows.length (strs rows)) (hL : Lv rows W) (hc : cellF rows W sx sy = 115) (hx : Row w lo 2 B ps.length (prs ps)) (hlv : lvF rows = 0) (hin : inFault ps = 0) :
    Calls Tryd.prog 12 #[.slice A rows.length c, .slice B ps.length d] w fun e w' => e = .returned (.tuple #[playV rows W sx sy (unf ps), .int .i64 (playF rows W (gs0 sx sy) (unf ps)).length, .int .i64 0]) ∧ Below w.heap.size w w' := by
  obtain ⟨i1, i2, i3⟩ := inFault_ok hin
  have HP : Hid (∀ p ∈ ps, 0 ≤ p.2) := Lib.hid (fun p hp => by have := i2 p hp; omega)
  have HV : Hid (∀ p ∈ ps, 0 ≤ p.1 ∧ p.1 ≤ 255) := Lib.hid (fun p hp => by have := i2 p hp; omega)
  have H64 := Lib.hid (unf_64 hin)
  have H20 := Lib.hid (unf_20 hin)
  have HC := Lib.hid (fun o => faultG_any lo A c rows B d ps (w.alloc o) (hr.alloc o) (by have := hL.le; omega) (fun r hr => by have := hL.wide r hr; have := hL.W60; omega) (hx.alloc o) (by omega))
  rw [hlv, hin] at HC
  have hk := Blk.new w 36 #[.int .i64 0, .int .i64 0, .int .i64 0, .bool false, .int .i64 0, .int .i64 0]
  have HL := Lib.hid hL
  have HCC := Lib.hid hc
  have HR := Lib.hid hr
  have HX := Lib.hid hx
  have HI : Hid (psum ps ≤ 1000000000 ∧ ps.length ≤ 1000000000) := Lib.hid ⟨by omega, by omega⟩
  clear hr hL hc hx hlv hin i1 i2 i3
  go_enter Tryd.func12, Tryd.ntmps12
  go_wp2_with fail
  refine (HC.out _).mono ?_
  rintro e w1 ⟨rfl, hb1⟩
  have hk1 := hk.below hb1
  have hb2 : Below w.heap.size w w1 := ((Below.refl _ w).alloc (Nat.le_refl _) _).trans (hb1.mono (by simp))
  clear hk hb1 HC
  go_wp2_with fail
  refine (newGame_any lo A c rows W _ (HR.out.below hb2) HL.out).mono ?_
  rintro e w3 ⟨p, sx', sy', mb, rfl, hg3, hc3, hb3⟩
  obtain ⟨rfl, rfl⟩ := HL.out.start_one HCC.out hc3
  have hk3 := hk1.below hb3
  have hb4 := below_up hb2 (hb3.mono (Nat.le_refl _))
  have HG3 := Lib.hid hg3
  clear hc3 hk1 hb2 hb3 hg3
  go_wp2_with fail
  refine (spread_any B d lo ps _ (HX.out.below hb4) HI.out.2 HP.out HV.out HI.out.1).mono ?_
  rintro e w5 ⟨A5, c5, rfl, hown5, hb5⟩
  have HG5 := Lib.hid (HG3.out.below hb5)
  have hk5 := hk3.below hb5
  have hb6 := below_up hb4 (hb5.mono (Nat.le_refl _))
  clear HG3 hk3 hb4 hb5
  go_wp2_with fail
  refine (states_any p 0 A c rows W sx sy mb w5 (row_down (HR.out.below hb6)) HL.out HG5.out HCC.out A5 c5 (unf ps) (row_down (Row.of_own hown5)) H64.out (by have := H20.out; omega)).mono ?_
  rintro e w7 ⟨A7, c7, rfl, hown7, hb7⟩
  have HG7 := Lib.hid (HG5.out.below hb7)
  have hk7 := hk5.below hb7
  have hb8 := below_up hb6 (hb7.mono (Nat.le_refl _))
  clear HG5 hk5 hb6 hb7 hown5
  have HOK : Hid (∀ t ∈ playF rows W (gs0 sx sy) (unf ps), GOk rows W t) := Lib.hid (playF_ok HL.out (start_ok HL.out HCC.out) rfl)
  have HLL : Hid ((playF rows W (gs0 sx sy) (unf ps)).length ≤ 200000) := Lib.hid (Nat.le_trans playF_len H20.out)
  have HPV : Hid (playV rows W sx sy (unf ps) = gsV (bodyG (lastG (playF rows W (gs0 sx sy) (unf ps)) (gs0 sx sy)))) := Lib.hid rfl
  obtain ⟨L, hD⟩ : ∃ L, L = playF rows W (gs0 sx sy) (unf ps) := ⟨_, rfl⟩
  rw [← hD] at HPV HOK HLL hown7 ⊢
  have HD := Lib.hid hD
  clear hD
  by_cases h0 : L.length = 0
  · have HN : Hid (L = []) := Lib.hid (List.eq_nil_of_length_eq_zero h0)
    have d0 : ((L.length : Int) == 0) = true := by simp [h0]
    have HLZ : Hid ((L.length : Int) = 0) := Lib.hid (by omega)
    clear h0 hown7
    generalize L.length = n at *
    go_wp2_with fail
    refine (begin_any p A c rows W sx sy mb _ HG7.out).mono ?_
    rintro e w8 ⟨rfl, hb9⟩
    go_wp2_with fail
    refine (body_any (gs0 sx sy) (by show (0 : Nat) < 1024; omega) w8).mono ?_
    rintro e w10 ⟨rfl, hb10⟩
    replace hb9 : Below w7.heap.size w7 w10 := below_up hb9 (hb10.mono (Nat.le_refl _))
    clear hb10
    have HQ : Hid (lastG L (gs0 sx sy) = gs0 sx sy) := Lib.hid (by rw [HN.out]; rfl)
    obtain ⟨q, hq⟩ : ∃ q, q = gs0 sx sy := ⟨_, rfl⟩
    rw [← hq] at HQ HPV HD ⊢
    have HZ : Hid ((n : Int) = 0 ∧ L.length = n) := Lib.hid ⟨HLZ.out, by have := HLZ.out; rw [HN.out]; simp; omega⟩
    have HQQ := Lib.hid hq
    clear hq
    have hk8 := hk7.below hb9
    have hb8' := below_up hb8 (hb9.mono (Nat.le_refl _))
    clear hk7 hb8 hb9
    simp only [gsV, bodyG]
    obtain ⟨pm, hpm⟩ : ∃ pm, pm = popN q.mask := ⟨_, rfl⟩
    rw [← hpm]
    have HPM := Lib.hid hpm
    clear hpm
    have hi : (Tryd.prog.info? 36).map (·.size) = some 6 := by kernel_rfl
    have hone := one6 q.x q.y q.rise (pm : Nat) q.fin q.held
    go_wp2_with (first | (refine wpList_storeRow rfl 36 _ _ rfl w.heap.size #[.int .i64 q.x, .int .i64 q.y, .int .i64 q.rise, .bool q.held,   .int .i64 (pm : Nat), .int .i64 q.fin] rfl rfl 36 _ hk8 hi rfl hone ?_; intro w9 hS9 hg9) | fail)
    have f0 := hS9.cell 0
    have f1 := hS9.cell 1
    have f2 := hS9.cell 2
    have f3 := hS9.cell 3
    have f4 := hS9.cell 4
    have f5 := hS9.cell 5
    simp only [List.getElem?_toArray, List.getElem?_cons_zero, List.getElem?_cons_succ] at f0 f1 f2 f3 f4 f5
    refine bodyPost_ret (res_play _ w9 w.heap.size _ _ _ _ _ _ _ _ rfl rfl rfl f0 f1 f2 f3 f4 f5) rfl ?_
    refine ⟨?_, hb8'.grown hg9 hb8'.size (fun k hk => by injection hk with hk; omega)⟩
    rw [HPV.out, HQ.out, gsV_pm HPM.out, ← HQQ.out, ← HD.out, HZ.out.2, HZ.out.1]
    rfl
  · have hpos : 0 < L.length := by omega
    have d0 : ((L.length : Int) == 0) = false := by rw [beq_eq_false_iff_ne]; omega
    have HQ : Hid (lastG L (gs0 sx sy) = L[L.length - 1]) := Lib.hid (lastG_at hpos)
    have HQM : Hid (L[L.length - 1].mask < 1024) := Lib.hid (HOK.out _ (List.getElem_mem _)).m
    obtain ⟨gb, hA, hgb, hgb2, hcell, _⟩ := ownBlk hown7 hpos
    subst hA
    obtain ⟨l0, l1, l2, l3, l4, l5⟩ := gss_at L (L.length - 1) (by omega)
    have c0 := hcell _ _ l0
    have c1 := hcell _ _ l1
    have c2 := hcell _ _ l2
    have c3 := hcell _ _ l3
    have c4 := hcell _ _ l4
    have c5 := hcell _ _ l5
    clear l0 l1 l2 l3 l4 l5 hcell hown7 h0 hgb hgb2
    generalize L[L.length - 1] = q at *
    have hll : L.length ≤ 200000 := HLL.out
    have w1 : IntKind.i64.wrap ((L.length : Int) - 1) = ((L.length - 1 : Nat) : Int) := by rw [IntWalk.i64_in _ ⟨by omega, by omega⟩]; omega
    go_wp2_with fail
    refine (body_any q HQM.out w7).mono ?_
    rintro e w10 ⟨rfl, hb9⟩
    clear c0 c1 c2 c3 c4 c5 w1 d0
    have hk8 := hk7.below hb9
    have hb8' := below_up hb8 (hb9.mono (Nat.le_refl _))
    clear hk7 hb8 hb9
    simp only [gsV, bodyG]
    obtain ⟨pm, hpm⟩ : ∃ pm, pm = popN q.mask := ⟨_, rfl⟩
    rw [← hpm]
    have HPM := Lib.hid hpm
    clear hpm
    have hi : (Tryd.prog.info? 36).map (·.size) = some 6 := by kernel_rfl
    have hone := one6 q.x q.y q.rise (pm : Nat) q.fin q.held
    go_wp2_with (first | (refine wpList_storeRow rfl 36 _ _ rfl w.heap.size #[.int .i64 q.x, .int .i64 q.y, .int .i64 q.rise, .bool q.held,   .int .i64 (pm : Nat), .int .i64 q.fin] rfl rfl 36 _ hk8 hi rfl hone ?_; intro w9 hS9 hg9) | fail)
    have f0 := hS9.cell 0
    have f1 := hS9.cell 1
    have f2 := hS9.cell 2
    have f3 := hS9.cell 3
    have f4 := hS9.cell 4
    have f5 := hS9.cell 5
    simp only [List.getElem?_toArray, List.getElem?_cons_zero, List.getElem?_cons_succ] at f0 f1 f2 f3 f4 f5
    refine bodyPost_ret (res_play _ w9 w.heap.size _ _ _ _ _ _ _ _ rfl rfl rfl f0 f1 f2 f3 f4 f5) rfl ?_
    refine ⟨?_, hb8'.grown hg9 hb8'.size (fun k hk => by injection hk with hk; omega)⟩
    rw [HPV.out, HQ.out, gsV_pm HPM.out, ← HD.out]
    rfl
end Go.Proofs.YtnlblgkoecnfmaaDoor
