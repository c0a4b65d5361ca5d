/- The walk of the reference's frame. -/
import Derived.Test.YtnlblgkoecnfmaaDoorGmE
namespace Go.Proofs.YtnlblgkoecnfmaaDoor
set_option linter.unusedVariables false
set_option linter.unusedSimpArgs false
open Go.RowKit Go.Maps

def mapF (rows : List (List UInt8)) (W m : Nat) : Int → Int → Option Lit := fun a b => if cellF rows W a b = 111 ∧ m &&& bitF rows W a b ≠ 0 then some (.bool true) else none
/-- All blocks but p and q stay. -/
def Others (w wx : World) (p q : Nat) : Prop := w.heap.size ≤ wx.heap.size ∧ ∀ k, k < w.heap.size → k ≠ p → k ≠ q → wx.heap[k]? = w.heap[k]?
theorem Others.below {w wx w' : World} {p q : Nat} (h : Others w wx p q) (hb : Below wx.heap.size wx w') : Others w w' p q := ⟨Nat.le_trans h.1 hb.size, fun k hk h1 h2 => (hb.block k (Nat.lt_of_lt_of_le hk h.1)).trans (h.2 k hk h1 h2)⟩
theorem Others.set {w wx : World} {p q : Nat} (h : Others w wx p q) (g i : Nat) (u : Value) (hg : g = p ∨ w.heap.size ≤ g) : Others w (wx.setCell ⟨g, i, none⟩ u) p q :=
  ⟨by have := h.1; simpa [World.setCell] using this, fun k hk h1 h2 => (Below.heap_setCell wx ⟨g, i, none⟩ u k (by show k ≠ g; rcases hg with rfl | hg; exact h1; omega)).trans (h.2 k hk h1 h2)⟩
theorem Others.grown {w wx w' : World} {p q : Nat} (h : Others w wx p q) (hg : wx.grownBy w' (some q)) : Others w w' p q := ⟨Nat.le_trans h.1 hg.size, fun k hk h1 h2 => (hg.block k (Nat.lt_of_lt_of_le hk h.1) (fun e => h2 (Option.some.inj e))).trans (h.2 k hk h1 h2)⟩
theorem Others.refl (w : World) (p q : Nat) : Others w w p q := ⟨Nat.le_refl _, fun _ _ _ _ => rfl⟩
theorem own_others {w w' : World} {base : Nat} {e : TypeId} {size : Nat} {v : Value} {n : Nat} {xs : List Value} {p q : Nat} (h : w.ownsRow base e size v n xs) (ho : Others w w' p q) (hp : p < base) (hq : q < base) : w'.ownsRow base e size v n xs :=
  ⟨h.1, h.2.imp id fun ⟨g, cap, cur, h1, h2, h3, h4⟩ => ⟨g, cap, cur, h1, h2, (ho.2 g (Array.getElem?_eq_some_iff.1 h3).1 (by omega) (by omega)).trans h3, h4⟩⟩
/-- A game of the reference under way: its block p, the coins that were taken in block mb, the boxes of the pointers to it and to its body. -/
structure MidR (w0 ww wx : World) (p : Nat) (A : Option Addr) (c : Nat) (rows : List (List UInt8)) (W mb b1 b2 : Nat) (t : GS) : Prop where
  g : Blk wx p 81 #[.slice A rows.length c, .int .i64 t.x, .int .i64 t.y, .int .i64 t.rise, .bool t.held, .int .i64 (popN t.mask), .int .i64 t.fin, .map (some mb)]
  k1 : Blk wx b1 82 #[.pointer (some ⟨p, 0, none⟩)]
  k2 : Blk wx b2 120 #[.pointer (some ⟨p, 1, none⟩)]
  m : MapP 122 4 wx mb (popN t.mask) (mapF rows W t.mask)
  ne : b1 ≠ p ∧ b2 ≠ p ∧ mb ≠ p
  lo : w0.heap.size ≤ p ∧ w0.heap.size ≤ mb
  b : Below w0.heap.size w0 wx
  o : Others ww wx p mb
section
variable {w0 ww wx w' : World} {p : Nat} {A : Option Addr} {c : Nat} {rows : List (List UInt8)} {W mb b1 b2 : Nat} {t : GS}
theorem MidR.below (h : MidR w0 ww wx p A c rows W mb b1 b2 t) (hb : Below wx.heap.size wx w') : MidR w0 ww w' p A c rows W mb b1 b2 t :=
  ⟨h.g.below hb, h.k1.below hb, h.k2.below hb, h.m.below hb, h.ne, h.lo, h.b.trans (hb.mono h.b.size), h.o.below hb⟩
theorem MidR.drewN (h : MidR w0 ww wx p A c rows W mb b1 b2 t) (n : Nat) : MidR w0 ww (wx.drewN n) p A c rows W mb b1 b2 t := h.below (below_drewN' (Below.refl _ _) n)
theorem MidR.cells (h : MidR w0 ww wx p A c rows W mb b1 b2 t) : wx.cell? ⟨p, 0, none⟩ = some (.slice A rows.length c) ∧ wx.cell? ⟨p, 1, none⟩ = some (.int .i64 t.x) ∧ wx.cell? ⟨p, 2, none⟩ = some (.int .i64 t.y) ∧ wx.cell? ⟨p, 3, none⟩ = some (.int .i64 t.rise) ∧ wx.cell? ⟨p, 4, none⟩ = some (.bool t.held) ∧ wx.cell? ⟨p, 5, none⟩ = some (.int .i64 (popN t.mask)) ∧ wx.cell? ⟨p, 6, none⟩ = some (.int .i64 t.fin) ∧ wx.cell? ⟨p, 7, none⟩ = some (.map (some mb)) ∧ wx.cell? ⟨b1, 0, none⟩ = some (.pointer (some ⟨p, 0, none⟩)) ∧ wx.cell? ⟨b2, 0, none⟩ = some (.pointer (some ⟨p, 1, none⟩)) :=
  ⟨h.g.cell 0, h.g.cell 1, h.g.cell 2, h.g.cell 3, h.g.cell 4, h.g.cell 5, h.g.cell 6, h.g.cell 7, h.k1.cell 0, h.k2.cell 0⟩
theorem MidR.set (h : MidR w0 ww wx p A c rows W mb b1 b2 t) (i : Nat) (u : Value) (t' : GS) (hm : t'.mask = t.mask)
    (e : (#[.slice A rows.length c, .int .i64 t.x, .int .i64 t.y, .int .i64 t.rise, .bool t.held, .int .i64 (popN t.mask), .int .i64 t.fin, .map (some mb)] : Array Value).setIfInBounds i u = #[.slice A rows.length c, .int .i64 t'.x, .int .i64 t'.y, .int .i64 t'.rise, .bool t'.held, .int .i64 (popN t'.mask), .int .i64 t'.fin, .map (some mb)]) :
    MidR w0 ww (wx.setCell ⟨p, i, none⟩ u) p A c rows W mb b1 b2 t' :=
  ⟨e ▸ h.g.poke i u, h.k1.past _ _ _ h.ne.1, h.k2.past _ _ _ h.ne.2.1, by rw [hm]; exact h.m.kept (grown_set (World.grownBy.refl wx (some p)) i u) (fun e => h.ne.2.2 (by injection e)), h.ne, h.lo, h.b.setCell h.lo.1 u, h.o.set p i u (.inl rfl)⟩
end
theorem MidR.far {w0 ww wx : World} {p : Nat} {A : Option Addr} {c : Nat} {rows : List (List UInt8)} {W mb b1 b2 : Nat} {t : GS} (h : MidR w0 ww wx p A c rows W mb b1 b2 t) (k i : Nat) (u : Value) (n1 : p ≠ k) (n2 : b1 ≠ k) (n3 : b2 ≠ k) (n4 : mb ≠ k) (n5 : w0.heap.size ≤ k) (n6 : ww.heap.size ≤ k) : MidR w0 ww (wx.setCell ⟨k, i, none⟩ u) p A c rows W mb b1 b2 t :=
  ⟨h.g.past _ _ _ n1, h.k1.past _ _ _ n2, h.k2.past _ _ _ n3, h.m.kept (grown_set (World.grownBy.refl wx (some k)) i u) (fun e => n4 (by injection e)), h.ne, h.lo, h.b.setCell n5 u, h.o.set k i u (.inr n6)⟩
theorem MidR.fin {w0 ww wx : World} {p : Nat} {A : Option Addr} {c : Nat} {rows : List (List UInt8)} {W mb b1 b2 : Nat} {t : GS} (h : MidR w0 ww wx p A c rows W mb b1 b2 t) : GmR wx p A c rows W t mb (popN t.mask) ∧ Below w0.heap.size w0 wx ∧ Others ww wx p mb :=
  ⟨⟨h.g, h.m, fun e => h.ne.2.2 e.symm⟩, h.b, h.o⟩
set_option maxHeartbeats 2000000 in
set_option maxRecDepth 100000 in
theorem ground_any (p lo : Nat) (A : Option Addr) (c : Nat) (rows : List (List UInt8)) (W mb b1 b2 : Nat) (t : GS) (w0 ww w : World) (hr : Row w0 lo 1 A rows.length (strs rows)) (hL : Lv rows W) (h : MidR w0 ww w p A c rows W mb b1 b2 t) (hx : -1000 ≤ t.x ∧ t.x ≤ 1000) (hy : -1000 ≤ t.y ∧ t.y ≤ 1000) :
    Calls Tryd.prog 68 #[.pointer (some ⟨b1, 0, none⟩), .pointer (some ⟨b2, 0, none⟩)] w fun e w' => e = .returned (.bool (grF rows W t.x t.y)) ∧ Below w.heap.size w w' := by
  have HR := Lib.hid (hr.below h.b)
  have HL := Lib.hid hL
  obtain ⟨z0, z1, z2, -, -, -, -, -, k1, k2⟩ := h.cells
  have w1 : IntKind.i64.wrap (t.y + 1) = t.y + 1 := IntWalk.i64_in _ ⟨by omega, by omega⟩
  clear hr hL h
  go_enter Tryd.func68, Tryd.ntmps68
  go_wp2_with fail
  go_quiet ((go_at_call 67; exact Calls.quiet_of_same (cellR_any p lo A c rows W _ (by exact z0) (Row.drewN HR.out _) HL.out _ _ (i64_smG (by omega) (by omega)) (i64_smG (by omega) (by omega)))))
  go_wp2_with fail
  go_ret
  exact ⟨rfl, below_drewN' (Below.refl _ _) _⟩
theorem and1b (h : Int) (h0 : 0 ≤ h) (h1 : h < 64) : (bits BinOp.and IntKind.i64 h 1 != 0) = decide (h % 2 = 1) := by
  have : ∀ k : Fin 64, (bits BinOp.and IntKind.i64 (k.val : Int) 1 != 0) = decide ((k.val : Int) % 2 = 1) := by decide
  obtain ⟨n, rfl⟩ := Int.eq_ofNat_of_zero_le h0
  exact this ⟨n, by omega⟩
theorem and2b (h : Int) (h0 : 0 ≤ h) (h1 : h < 64) : (bits BinOp.and IntKind.i64 h 2 != 0) = decide (2 ≤ h % 4) := by
  have : ∀ k : Fin 64, (bits BinOp.and IntKind.i64 (k.val : Int) 2 != 0) = decide (2 ≤ (k.val : Int) % 4) := by decide
  obtain ⟨n, rfl⟩ := Int.eq_ofNat_of_zero_le h0
  exact this ⟨n, by omega⟩
theorem popN_le (m : Nat) (hm : m < 1024) : popN m ≤ 1000 := by
  have : ∀ m : Fin 1024, popN m.val ≤ 1000 := by decide +kernel
  exact this ⟨m, hm⟩
theorem or_has (m k : Nat) (hm : m < 1024) (hk : k < 10) (h : m &&& 2 ^ k ≠ 0) : m ||| 2 ^ k = m := by
  have : ∀ k : Fin 10, ∀ m : Fin 1024, m.val &&& 2 ^ k.val ≠ 0 → m.val ||| 2 ^ k.val = m.val := by decide +kernel
  exact this ⟨k, hk⟩ ⟨m, hm⟩ h
theorem bits_apart (k j : Nat) (hk : k < 10) (hj : j < 10) (h : 2 ^ k ≠ 2 ^ j) : (2 ^ k &&& 2 ^ j : Nat) = 0 := by
  have : ∀ k j : Fin 10, 2 ^ k.val ≠ 2 ^ j.val → 2 ^ k.val &&& 2 ^ j.val = 0 := by decide +kernel
  exact this ⟨k, hk⟩ ⟨j, hj⟩ h
theorem mapF_put {rows : List (List UInt8)} {W : Nat} (hL : Lv rows W) (m : Nat) {x y : Int} (hc : cellF rows W x y = 111) : putP (mapF rows W m) x y (.bool true) = mapF rows W (m ||| bitF rows W x y) := by
  funext a b
  unfold putP mapF
  have hxy : ∃ k, k < 10 ∧ bitF rows W x y = 2 ^ k := by
    rcases hL.bit x y with ⟨_, h⟩ | ⟨k, hk, h, _⟩
    · exact absurd hc h
    · exact ⟨k, hk, h⟩
  obtain ⟨k, hk, ek⟩ := hxy
  by_cases e : a = x ∧ b = y
  · obtain ⟨rfl, rfl⟩ := e
    have hnz : (m ||| bitF rows W a b) &&& bitF rows W a b ≠ 0 := by
      rw [Nat.and_or_distrib_right, Nat.and_self, ek]
      intro h0
      have h1 := Nat.two_pow_pos k
      have h2 : 2 ^ k ≤ (m &&& 2 ^ k) ||| 2 ^ k := Nat.right_le_or
      omega
    rw [if_pos ⟨rfl, rfl⟩, if_pos ⟨hc, hnz⟩]
  · rw [if_neg e]
    have key : cellF rows W a b = 111 → (m ||| bitF rows W x y) &&& bitF rows W a b = m &&& bitF rows W a b := fun h1 => by
      have hj : ∃ j, j < 10 ∧ bitF rows W a b = 2 ^ j := by
        rcases hL.bit a b with ⟨_, h⟩ | ⟨k, hk, h, _⟩
        · exact absurd h1 h
        · exact ⟨k, hk, h⟩
      obtain ⟨j, hj, ej⟩ := hj
      have hne : (2 : Nat) ^ k ≠ 2 ^ j := fun e2 => e (hL.bit_inj h1 hc (by rw [ej, ek, e2]))
      rw [ej, ek, Nat.and_or_distrib_right, bits_apart k j hk hj hne, Nat.or_zero]
    exact ite_iff (and_congr_right fun h1 => by rw [key h1])
def lfF (h x : Int) : Int := if h % 2 = 1 then x - 1 else x
theorem lf_mv (h x : Int) : (if 2 ≤ h % 4 then lfF h x + 1 else lfF h x) = mvF h x := by
  unfold lfF mvF
  split <;> split <;> split <;> (try split) <;> omega
set_option maxHeartbeats 8000000 in
set_option maxRecDepth 100000 in
theorem frame_any (p lo : Nat) (A : Option Addr) (c : Nat) (rows : List (List UInt8)) (W : Nat) (s : GS) (mb : Nat) (w0 w : World) (hr : Row w0 lo 1 A rows.length (strs rows)) (hL : Lv rows W) (hg : GmR w p A c rows W s mb (popN s.mask)) (hb0 : Below w0.heap.size w0 w) (hlo : w0.heap.size ≤ p ∧ w0.heap.size ≤ mb) (hs : GOk rows W s) (hf : s.fin = 0) (h : Int) (h0 : 0 ≤ h) (h1 : h < 64) :
    Calls Tryd.prog 38 #[.pointer (some ⟨p, 0, none⟩), .int .i64 h] w fun e w' => e = .returned (.tuple #[]) ∧ GmR w' p A c rows W (stepF rows W h s) mb (popN (stepF rows W h s).mask) ∧ Below w0.heap.size w0 w' ∧ Others w w' p mb := by
  have hpl := hg.blk.lt
  have hMB := Lib.hid hg.map.lt
  have hM0 : MidR w0 w ((w.alloc (.cells #[.pointer (some ⟨p, 0, none⟩)] 82)).alloc (.cells #[.pointer (some ⟨p, 1, none⟩)] 120)) p A c rows W mb w.heap.size (w.heap.size + 1) s := by
    have hb := ((Below.refl w.heap.size w).alloc (Nat.le_refl _) (.cells #[.pointer (some ⟨p, 0, none⟩)] 82)).alloc (by simp) (.cells #[.pointer (some ⟨p, 1, none⟩)] 120)
    have hk2 := Blk.new (w.alloc (.cells #[.pointer (some ⟨p, 0, none⟩)] 82)) 120 #[.pointer (some ⟨p, 1, none⟩)]
    rw [show (w.alloc (.cells #[.pointer (some ⟨p, 0, none⟩)] 82)).heap.size = w.heap.size + 1 by simp] at hk2
    exact ⟨hg.blk.below hb, (Blk.new _ _ _).alloc _, hk2, hg.map.below hb, ⟨by omega, by omega, fun e => hg.ne e.symm⟩, hlo, hb0.trans (hb.mono hb0.size), (Others.refl w p mb).below hb⟩
  have HR := Lib.hid hr
  have HL := Lib.hid hL
  have hx0 := hs.x0
  have hxW := hs.xW
  have hy0 := hs.y0
  have hyl := hs.yl hf
  have h60 := hL.le
  have hW60 := hL.W60
  have hr0 := hs.r0
  have hr3 := hs.r3
  have HSO := Lib.hid hs
  have b1 := and1b h h0 h1
  have b2 := and2b h h0 h1
  have b16 := and16 h h0 h1
  have d0 : (s.fin != 0) = false := by rw [hf]; rfl
  have HSF := Lib.hid hf
  have z6 := hg.blk.cell 6
  simp only [List.getElem?_toArray, List.getElem?_cons_zero, List.getElem?_cons_succ] at z6
  have HNE := Lib.hid hg.ne
  have z1 := hg.blk.cell 1
  simp only [List.getElem?_toArray, List.getElem?_cons_zero, List.getElem?_cons_succ] at z1
  obtain ⟨lb, hlb⟩ : ∃ lb, lb = decide (h % 2 = 1) := ⟨_, rfl⟩
  obtain ⟨rb, hrb⟩ : ∃ rb, rb = decide (2 ≤ h % 4) := ⟨_, rfl⟩
  obtain ⟨jb, hjb⟩ : ∃ jb, jb = jpF h := ⟨_, rfl⟩
  rw [← hlb] at b1
  rw [← hrb] at b2
  rw [← hjb] at b16
  have HLB := Lib.hid hlb
  have HRB := Lib.hid hrb
  have HJB := Lib.hid hjb
  clear hr hL hs hf hg hlb hrb hjb
  go_enter Tryd.func38, Tryd.ntmps38
  go_upto_if 32 with (fail)
  go_cut [8] from 33 to 34 (fun v wx => v = .int .i64 (lfF h s.x) ∧ MidR w0 w wx p A c rows W mb w.heap.size (w.heap.size + 1) s)
  case first =>
    have w1 : IntKind.i64.wrap (s.x - 1) = s.x - 1 := IntWalk.i64_in _ ⟨by omega, by omega⟩
    cases lb with
    | true =>
      have HV : Hid (lfF h s.x = s.x - 1) := Lib.hid (if_pos (of_decide_eq_true HLB.out.symm))
      go_wp2_with fail
      go_meet
      exact ⟨by rw [HV.out], hM0⟩
    | false =>
      have HV : Hid (lfF h s.x = s.x) := Lib.hid (if_neg (of_decide_eq_false HLB.out.symm))
      go_wp2_with fail
      go_meet
      exact ⟨by rw [HV.out], hM0⟩
  case rest =>
  obtain ⟨rfl, hM1⟩ := hcut
  clear hM0 z1 z6
  have HMV : Hid (mvF h s.x = if rb then lfF h s.x + 1 else lfF h s.x) := Lib.hid (by rw [HRB.out, ← lf_mv]; simp)
  have hlf : s.x - 1 ≤ lfF h s.x ∧ lfF h s.x ≤ s.x := by unfold lfF; split <;> omega
  generalize lfF h s.x = lx at *
  go_upto_if 35 with (fail)
  go_cut [8] from 36 to 37 (fun v wx => v = .int .i64 (mvF h s.x) ∧ MidR w0 w wx p A c rows W mb w.heap.size (w.heap.size + 1) s)
  case first =>
    have w1 : IntKind.i64.wrap (lx + 1) = lx + 1 := IntWalk.i64_in _ ⟨by omega, by omega⟩
    cases rb with
    | true =>
      go_wp2_with fail
      go_meet
      exact ⟨by rw [HMV.out]; rfl, hM1⟩
    | false =>
      go_wp2_with fail
      go_meet
      exact ⟨by rw [HMV.out]; rfl, hM1⟩
  case rest =>
  obtain ⟨rfl, hM2⟩ := hcut
  clear hM1 hlf HMV b1 b2 HLB HRB
  obtain ⟨z0, -, z2, -, -, -, -, -, k1, k2⟩ := hM2.cells
  have hmv := mv_bound h (x := s.x) (by omega) (by omega)
  go_upto_region 9 with (fail)
  go_quiet ((go_at_call 67; exact Calls.quiet_of_same (cellR_any p lo A c rows W _ (by exact z0) (Row.drewN (HR.out.below hM2.b) _) HL.out _ _ (i64_smG (by omega) (by omega)) (i64_smG (by omega) (by omega)))))
  have hM3 := hM2.drewN nq
  generalize wc.drewN nq = wd at *
  clear hM2 z0 z2 k1 k2
  go_upto_if 45 with (fail)
  go_cut [1] from 46 to 49 (fun v wx => v = .int .i64 h ∧ MidR w0 w wx p A c rows W mb w.heap.size (w.heap.size + 1) (sideF rows W h s))
  case first =>
    obtain ⟨-, -, -, -, -, -, -, -, -, k2⟩ := hM3.cells
    have z1 := hM3.g.cell 1
    have f1 := hM3.g.thaw 1
    simp only [List.getElem?_toArray, List.getElem?_cons_zero, List.getElem?_cons_succ] at z1
    by_cases q1 : cellF rows W (mvF h s.x) s.y = 35
    · have e1 : (cellF rows W (mvF h s.x) s.y != 35) = false := by rw [q1]; rfl
      have HS2 : Hid (sideF rows W h s = s) := Lib.hid (by unfold sideF; rw [if_pos q1])
      clear q1
      go_wp2_with fail
      go_meet
      rw [HS2.out]; exact ⟨rfl, hM3⟩
    · have e1 : (cellF rows W (mvF h s.x) s.y != 35) = true := bne_iff_ne.2 q1
      have HS2 : Hid (sideF rows W h s = { s with x := mvF h s.x }) := Lib.hid (by unfold sideF; rw [if_neg q1])
      clear q1
      go_wp2_with fail
      go_meet
      rw [HS2.out]
      exact ⟨rfl, hM3.set 1 _ _ rfl rfl⟩
  case rest =>
  obtain ⟨rfl, hM4⟩ := hcut
  clear hM3 hmv
  have HO2 := Lib.hid (HSO.out.side (h := h) HSF.out)
  have HF2 : Hid ((sideF rows W h s).fin = 0) := Lib.hid (side_fin.trans HSF.out)
  have HST : Hid (stepF rows W h s = endF rows W (vertF rows W (jumpF rows W h (sideF rows W h s)))) := Lib.hid rfl
  generalize sideF rows W h s = t at *
  have tx0 := HO2.out.x0
  have txW := HO2.out.xW
  have ty0 := HO2.out.y0
  have tyl := HO2.out.yl HF2.out
  have tr0 := HO2.out.r0
  have tr3 := HO2.out.r3
  clear hx0 hxW hy0 hyl hr0 hr3 d0
  go_upto_region 12 with (fail)
  go_cut [62] from 50 to 61 (fun v wx => v = .bool (jb && !t.held && grF rows W t.x t.y) ∧ MidR w0 w wx p A c rows W mb w.heap.size (w.heap.size + 1) t)
  case first =>
    obtain ⟨-, -, -, -, z4, -, -, -, -, k2⟩ := hM4.cells
    have HG := Lib.hid (ground_any p lo A c rows W mb w.heap.size (w.heap.size + 1) t w0 w _ HR.out HL.out hM4 ⟨by omega, by omega⟩ ⟨by omega, by omega⟩)
    cases jb with
    | false =>
      go_wp2_with fail
      go_meet
      exact ⟨rfl, hM4⟩
    | true =>
      cases hh : t.held with
      | true =>
        rw [hh] at z4
        go_wp2_with fail
        go_meet
        exact ⟨by rw [hh]; simp, hM4⟩
      | false =>
        rw [hh] at z4
        go_wp2_with fail
        refine HG.out.mono ?_
        rintro e w9 ⟨rfl, hb9⟩
        go_wp2_with fail
        go_meet
        exact ⟨by rw [hh]; simp, hM4.below hb9⟩
  case rest =>
  obtain ⟨rfl, hM5⟩ := hcut
  clear hM4
  obtain ⟨g3, hg3⟩ : ∃ g3, g3 = (jb && !t.held && grF rows W t.x t.y) := ⟨_, rfl⟩
  rw [← hg3]
  have HG3 := Lib.hid hg3
  clear hg3
  go_upto_if 62 with (fail)
  go_cut [1] from 63 to 65 (fun v wx => v = .int .i64 h ∧ MidR w0 w wx p A c rows W mb w.heap.size (w.heap.size + 1) { t with rise := if g3 then 3 else t.rise })
  case first =>
    obtain ⟨-, -, -, z3, -, -, -, -, -, k2⟩ := hM5.cells
    have f3 := hM5.g.thaw 3
    cases g3 with
    | false =>
      go_wp2_with fail
      go_meet
      exact ⟨rfl, hM5⟩
    | true =>
      go_wp2_with fail
      go_meet
      exact ⟨rfl, hM5.set 3 _ _ rfl rfl⟩
  case rest =>
  obtain ⟨rfl, hM6⟩ := hcut
  clear hM5
  obtain ⟨t3, ht3⟩ : ∃ t3 : GS, t3 = { t with rise := if g3 then 3 else t.rise } := ⟨_, rfl⟩
  rw [← ht3] at hM6
  have HJU : Hid (jumpF rows W h t = { t3 with held := jb }) := Lib.hid (by rw [ht3]; unfold jumpF; rw [← HJB.out, ← HG3.out])
  clear ht3
  go_upto_region 14 with (fail)
  go_cut [1] from 66 to 69 (fun v wx => v = .int .i64 h ∧ MidR w0 w wx p A c rows W mb w.heap.size (w.heap.size + 1) (jumpF rows W h t))
  case first =>
    obtain ⟨-, -, -, -, z4, -, -, -, -, k2⟩ := hM6.cells
    have f4 := hM6.g.thaw 4
    go_wp2_with fail
    go_meet
    rw [HJU.out]
    exact ⟨rfl, hM6.set 4 _ _ rfl rfl⟩
  case rest =>
  obtain ⟨rfl, hM7⟩ := hcut
  have HO5 := Lib.hid (HO2.out.jump (h := h))
  have HF5 : Hid ((jumpF rows W h t).fin = 0) := Lib.hid HF2.out
  clear hM6 HJU HG3 HF2 HO2 tx0 txW ty0 tyl tr0 tr3 HJB b16
  generalize jumpF rows W h t = s5 at *
  clear t3
  have HV5 := Lib.hid (HO5.out.vert HF5.out)
  have tx0 := HO5.out.x0
  have txW := HO5.out.xW
  have ty0 := HO5.out.y0
  have tyl := HO5.out.yl HF5.out
  have tr0 := HO5.out.r0
  have tr3 := HO5.out.r3
  go_upto_block 0 with (fail)
  go_cut [1] from 70 to 123 (fun v wx => v = .int .i64 h ∧ MidR w0 w wx p A c rows W mb w.heap.size (w.heap.size + 1) (vertF rows W s5))
  case first =>
    obtain ⟨z0, z1, z2, z3, -, -, -, -, k1, k2⟩ := hM7.cells
    by_cases q1 : 0 < s5.rise
    · have e1 : decide ((0 : Int) < s5.rise) = true := decide_eq_true q1
      have w1 : IntKind.i64.wrap (s5.y - 1) = s5.y - 1 := IntWalk.i64_in _ ⟨by omega, by omega⟩
      go_upto_region 15 with (fail)
      go_quiet ((go_at_call 67; exact Calls.quiet_of_same (cellR_any p lo A c rows W _ (by exact z0) (Row.drewN (HR.out.below hM7.b) _) HL.out _ _ (i64_smG (by omega) (by omega)) (i64_smG (by omega) (by omega)))))
      have hM8 := hM7.drewN nq
      generalize wc.drewN nq = wd at *
      clear hM7 z0 z1 z2 z3 k1 k2
      obtain ⟨-, -, z2, z3, -, -, -, -, -, k2⟩ := hM8.cells
      have f3 := hM8.g.thaw 3
      by_cases q2 : cellF rows W s5.x (s5.y - 1) = 35
      · have e2 : (cellF rows W s5.x (s5.y - 1) == 35) = true := by rw [q2]; rfl
        have HV : Hid (vertF rows W s5 = { s5 with rise := 0 }) := Lib.hid (by unfold vertF; rw [if_pos q1, if_pos q2])
        clear q2 HV5
        go_wp2_with fail
        go_meet
        rw [HV.out]; exact ⟨rfl, hM8.set 3 _ _ rfl rfl⟩
      · have e2 : (cellF rows W s5.x (s5.y - 1) == 35) = false := beq_eq_false_iff_ne.2 q2
        have HV : Hid (vertF rows W s5 = { s5 with y := s5.y - 1, rise := s5.rise - 1 }) := Lib.hid (by unfold vertF; rw [if_pos q1, if_neg q2])
        have w3 : IntKind.i64.wrap (s5.rise - 1) = s5.rise - 1 := IntWalk.i64_in _ ⟨by omega, by omega⟩
        have hMy := hM8.set 3 (.int .i64 (s5.rise - 1)) { s5 with rise := s5.rise - 1 } rfl rfl
        obtain ⟨-, -, v2, -, -, -, -, -, -, l2⟩ := hMy.cells
        have v3 := hMy.g.thaw 2
        clear q2 HV5
        go_wp2_with fail
        go_meet
        rw [HV.out]; exact ⟨rfl, hMy.set 2 _ _ rfl rfl⟩
    · have e1 : decide ((0 : Int) < s5.rise) = false := decide_eq_false q1
      go_upto_region 15 with (fail)
      go_quiet (fail)
      have hM8 := hM7.drewN nq
      generalize wc.drewN nq = wd at *
      clear hM7 z0 z1 z2 z3 k1 k2
      obtain ⟨-, -, -, z3, -, -, -, -, -, k2⟩ := hM8.cells
      have HG := Lib.hid (ground_any p lo A c rows W mb w.heap.size (w.heap.size + 1) s5 w0 w _ HR.out HL.out hM8 ⟨by omega, by omega⟩ ⟨by omega, by omega⟩)
      go_wp2_with fail
      refine HG.out.mono ?_
      rintro e w9 ⟨rfl, hb9⟩
      have hM9 := hM8.below hb9
      clear hM8 z3 k2 hb9 HG
      obtain ⟨-, -, z2, -, -, -, -, -, -, k2⟩ := hM9.cells
      have f2 := hM9.g.thaw 2
      have w2 : IntKind.i64.wrap (s5.y + 1) = s5.y + 1 := IntWalk.i64_in _ ⟨by omega, by omega⟩
      cases hgr : grF rows W s5.x s5.y with
      | true =>
        have HV : Hid (vertF rows W s5 = s5) := Lib.hid (by unfold vertF; rw [if_neg (by omega), if_pos hgr])
        clear HV5
        go_wp2_with fail
        go_meet
        rw [HV.out]; exact ⟨rfl, hM9⟩
      | false =>
        have HV : Hid (vertF rows W s5 = { s5 with y := s5.y + 1 }) := Lib.hid (by unfold vertF; rw [if_neg (by omega), if_neg (by rw [hgr]; decide)])
        clear HV5
        go_wp2_with fail
        go_meet
        rw [HV.out]; exact ⟨rfl, hM9.set 2 _ _ rfl rfl⟩
  case rest =>
  obtain ⟨rfl, hM8⟩ := hcut
  have HM6 : Hid ((vertF rows W s5).mask < 1024) := Lib.hid (by rw [vert_mask]; exact HO5.out.m)
  clear hM7 tx0 txW ty0 tyl tr0 tr3 HO5 HF5
  generalize vertF rows W s5 = s6 at *
  obtain ⟨tx0, txW, ty0, tyl, tr0, tr3⟩ := HV5.out
  clear HV5
  have kx : I64 s6.x := i64_smG (by omega) (by omega)
  have ky : I64 s6.y := i64_smG (by omega) (by omega)
  obtain ⟨z0, z1, z2, -, -, -, -, -, k1, k2⟩ := hM8.cells
  go_upto_region 22 with (fail)
  go_quiet ((go_at_call 67; exact Calls.quiet_of_same (cellR_any p lo A c rows W _ (by exact z0) (Row.drewN (HR.out.below hM8.b) _) HL.out _ _ kx ky)))
  have hM9 := hM8.drewN nq
  generalize wc.drewN nq = wd at *
  clear hM8 z0 z1 z2 k1 k2
  have HEN : Hid (endF rows W s6 = { s6 with mask := s6.mask ||| bitF rows W s6.x s6.y, fin := if cellF rows W s6.x s6.y = 94 then 2 else if cellF rows W s6.x s6.y = 120 then 1 else s6.fin }) := Lib.hid rfl
  by_cases q1 : cellF rows W s6.x s6.y = 111
  · have e1 : (cellF rows W s6.x s6.y == 111) = true := by rw [q1]; rfl
    have HQ1 := Lib.hid q1
    rw [if_neg (by rw [q1]; decide), if_neg (by rw [q1]; decide)] at HEN
    clear q1
    obtain ⟨-, z1, z2, -, -, -, -, -, -, k2⟩ := hM9.cells
    go_upto_region 24 with (fail)
    refine wp_region_held_drew (S := (fun w' => w'.cell? ⟨w.heap.size + 1, 0, none⟩ = some (.pointer (some ⟨p, 1, none⟩)) ∧ w'.cell? ⟨p, 1, none⟩ = some (.int .i64 s6.x) ∧ w'.cell? ⟨p, 2, none⟩ = some (.int .i64 s6.y))) (by kernel_rfl) (⟨k2, z1, z2⟩) (fun hHeld => ?_)
    have hM10 : MidR w0 w wd.drew p A c rows W mb w.heap.size (w.heap.size + 1) s6 := hM9.drewN 1
    generalize wd.drew = we at *
    clear hM9 z1 z2 k2
    (refine wpAnyH_take (i := 0) (v := ?_) (by (simp only [List.getElem?_toArray, List.getElem?_cons_zero]; rfl)) (by kernel_rfl) (by kernel_rfl) (by kernel_rfl) (by exact fun _ _ _ h => h) (Or.inl ⟨by rfl, ?_⟩) (by assumption) ?_; (rotate_left 1; (intro w hSw; (try dsimp only at hSw); go_simp); (try with_reducible rfl)); (try simp only [Act.put, List.setIfInBounds_toArray, List.set_cons_zero, List.set_cons_succ]))
    (refine wpAnyH_take (i := 1) (v := ?_) (by (simp only [List.getElem?_toArray, List.getElem?_cons_succ, List.getElem?_cons_zero]; rfl)) (by kernel_rfl) (by kernel_rfl) (by kernel_rfl) (by exact fun _ _ _ h => h) (Or.inl ⟨by rfl, ?_⟩) (by assumption) ?_; (rotate_left 1; (intro w hSw; (try dsimp only at hSw); go_simp); (try with_reducible rfl)); (try simp only [Act.put, List.setIfInBounds_toArray, List.set_cons_zero, List.set_cons_succ]))
    (refine wpAnyH_take (i := 2) (v := ?_) (by (simp only [List.getElem?_toArray, List.getElem?_cons_succ, List.getElem?_cons_zero]; rfl)) (by kernel_rfl) (by kernel_rfl) (by kernel_rfl) (by exact fun _ _ _ h => h) (Or.inl ⟨by rfl, ?_⟩) (by assumption) ?_; (rotate_left 1; (intro w hSw; (try dsimp only at hSw); go_simp); (try with_reducible rfl)); (try simp only [Act.put, List.setIfInBounds_toArray, List.set_cons_zero, List.set_cons_succ]))
    (refine wpAnyH_take (i := 3) (v := ?_) (by (simp only [List.getElem?_toArray, List.getElem?_cons_succ, List.getElem?_cons_zero]; rfl)) (by kernel_rfl) (by kernel_rfl) (by kernel_rfl) (by exact fun _ _ _ h => h) (Or.inl ⟨by rfl, ?_⟩) (by assumption) ?_; (rotate_left 1; (intro w hSw; (try dsimp only at hSw); go_simp); (try with_reducible rfl)); (try simp only [Act.put, List.setIfInBounds_toArray, List.set_cons_zero, List.set_cons_succ]))
    (refine wpAnyH_take (i := 4) (v := ?_) (by (simp only [List.getElem?_toArray, List.getElem?_cons_succ, List.getElem?_cons_zero]; rfl)) (by kernel_rfl) (by kernel_rfl) (by kernel_rfl) (by exact fun _ _ _ h => h) (Or.inl ⟨by rfl, ?_⟩) (by assumption) ?_; (rotate_left 1; (intro w hSw; (try dsimp only at hSw); go_simp); (try with_reducible rfl)); (try simp only [Act.put, List.setIfInBounds_toArray, List.set_cons_zero, List.set_cons_succ]))
    (refine wpAnyH_take (i := 5) (v := ?_) (by (simp only [List.getElem?_toArray, List.getElem?_cons_succ, List.getElem?_cons_zero]; rfl)) (by kernel_rfl) (by kernel_rfl) (by kernel_rfl) (by exact fun _ _ _ h => h) (Or.inl ⟨by rfl, ?_⟩) (by assumption) ?_; (rotate_left 1; (intro w hSw; (try dsimp only at hSw); go_simp); (try with_reducible rfl)); (try simp only [Act.put, List.setIfInBounds_toArray, List.set_cons_zero, List.set_cons_succ]))
    (refine wpAnyH_take (i := 6) (v := ?_) (by (simp only [List.getElem?_toArray, List.getElem?_cons_succ, List.getElem?_cons_zero]; rfl)) (by kernel_rfl) (by kernel_rfl) (by kernel_rfl) (by exact fun _ _ _ h => h) (Or.inl ⟨by rfl, ?_⟩) (by assumption) ?_; (rotate_left 1; (intro w hSw; (try dsimp only at hSw); go_simp); (try with_reducible rfl)); (try simp only [Act.put, List.setIfInBounds_toArray, List.set_cons_zero, List.set_cons_succ]))
    (refine wpAnyH_take (i := 7) (v := ?_) (by (simp only [List.getElem?_toArray, List.getElem?_cons_succ, List.getElem?_cons_zero]; rfl)) (by kernel_rfl) (by kernel_rfl) (by kernel_rfl) (by exact fun _ _ _ h => h) (Or.inl ⟨by rfl, ?_⟩) (by assumption) ?_; (rotate_left 1; (intro w hSw; (try dsimp only at hSw); go_simp); (try with_reducible rfl)); (try simp only [Act.put, List.setIfInBounds_toArray, List.set_cons_zero, List.set_cons_succ]))
    (refine wpAnyH_take (i := 8) (v := ?_) (by (simp only [List.getElem?_toArray, List.getElem?_cons_succ, List.getElem?_cons_zero]; rfl)) (by kernel_rfl) (by kernel_rfl) (by kernel_rfl) (by exact fun _ _ _ h => h) (Or.inl ⟨by rfl, ?_⟩) (by assumption) ?_; (rotate_left 1; (intro w hSw; (try dsimp only at hSw); go_simp); (try with_reducible rfl)); (try simp only [Act.put, List.setIfInBounds_toArray, List.set_cons_zero, List.set_cons_succ]))
    refine wpAnyH_ready (rs := [9]) (by kernel_rfl) (by simp) ?_
    refine AllReadyH.cons rfl (fun K hK => ?_) AllReadyH.nil
    go_simp
    have hkb := Blk.new we 122 #[.int .i64 0, .int .i64 0]
    have hM11 := hM10.below ((Below.refl we.heap.size we).alloc (Nat.le_refl _) (.cells #[.int .i64 0, .int .i64 0] 122))
    have hkp : p < we.heap.size ∧ w.heap.size + 1 < we.heap.size ∧ mb < we.heap.size ∧ w0.heap.size ≤ we.heap.size := ⟨hM10.g.lt, hM10.k2.lt, hM10.m.lt, hM10.b.size⟩
    obtain ⟨-, x1, x2, -, -, -, -, -, -, l2⟩ := hM11.cells
    generalize we.alloc (.cells #[.int .i64 0, .int .i64 0] 122) = wf at *
    generalize we.heap.size = kb at *
    refine hK.out _ _ ?_ (fun _ => ?_)
    · exact ⟨l2, x1, x2⟩
    clear hK K hM10 x1 x2 l2 hHeld
    (try simp only [Act.put, List.setIfInBounds_toArray, List.set_cons_zero, List.set_cons_succ])
    refine wpAnyH_ready (rs := [10]) (by kernel_rfl) (by simp) ?_
    refine AllReadyH.cons rfl (fun K hK => ?_) AllReadyH.nil
    have x0 := hkb.cell 0
    have x1 := hkb.cell 1
    have y0 := hkb.thaw 0
    have y1 := hkb.thaw 1
    simp only [List.getElem?_toArray, List.getElem?_cons_zero, List.getElem?_cons_succ] at x0 x1
    go_simp
    have hk2 := (hkb.poke 0 (.int .i64 s6.x)).poke 1 (.int .i64 s6.y)
    simp only [List.setIfInBounds_toArray, List.set_cons_zero, List.set_cons_succ] at hk2
    have hM12 := hM11.far kb 0 (.int .i64 s6.x) (by omega) (by omega) (by omega) (by omega) (by omega) (by omega)
    have hM13 := hM12.far kb 1 (.int .i64 s6.y) (by omega) (by omega) (by omega) (by omega) (by omega) (by omega)
    clear x0 x1 y0 y1 hkb hM11 hM12
    generalize (wf.setCell ⟨kb, 0, none⟩ (.int .i64 s6.x)).setCell ⟨kb, 1, none⟩ (.int .i64 s6.y) = wg at *
    obtain ⟨-, x1, x2, -, -, -, -, -, -, l2⟩ := hM13.cells
    refine hK.out _ _ ?_ (fun _ => ?_)
    · exact ⟨l2, x1, x2⟩
    clear hK K
    refine wpAnyH_done (by kernel_rfl) ?_ _
    clear x1 x2 l2
    obtain ⟨tk, htk⟩ : ∃ tk, tk = decide (s6.mask &&& bitF rows W s6.x s6.y ≠ 0) := ⟨_, rfl⟩
    have hmf : mapF rows W s6.mask s6.x s6.y = if tk then some (.bool true) else none := by
      unfold mapF
      rw [htk]
      by_cases hh : s6.mask &&& bitF rows W s6.x s6.y ≠ 0
      · rw [if_pos ⟨HQ1.out, hh⟩]; simp [hh]
      · rw [if_neg (fun e => hh e.2)]; simp [hh]
    have hlook : ∀ n, (Instr.lookup 79 (.map (some mb)) (prV s6.x s6.y) false).run Tryd.prog (wg.drewN n) = .ok (.bool tk) (wg.drewN n) := fun n => (hM13.drewN n).m.lookRunA s6.x s6.y tk kx ky hmf
    unfold prV at hlook
    obtain ⟨-, -, -, -, -, -, -, z7, k1, -⟩ := hM13.cells
    have x0 := hk2.cell 0
    have x1 := hk2.cell 1
    simp only [List.getElem?_toArray, List.getElem?_cons_zero, List.getElem?_cons_succ] at x0 x1
    have HTK := Lib.hid htk
    have HMF := Lib.hid hmf
    clear htk hmf
    go_upto_region 25 with (fail)
    go_quiet (fail)
    clear hlook
    have hM15 : MidR w0 w (wg.drewN nq) p A c rows W mb w.heap.size (w.heap.size + 1) s6 := hM13.drewN nq
    have hk4 : Blk (wg.drewN nq) kb 122 #[.int .i64 s6.x, .int .i64 s6.y] := hk2.drewN nq
    generalize wg.drewN nq = wh at *
    clear hM13 hk2 z7 k1 x0 x1
    have hbk : ∃ k, k < 10 ∧ bitF rows W s6.x s6.y = 2 ^ k := by
      rcases HL.out.bit s6.x s6.y with ⟨_, hh⟩ | ⟨k, hk, hh, _⟩
      · exact absurd HQ1.out hh
      · exact ⟨k, hk, hh⟩
    have HBK := Lib.hid hbk
    clear hbk
    cases tk with
    | true =>
      have HV : Hid (endF rows W s6 = s6) := Lib.hid (by
        obtain ⟨k, hk, hh⟩ := HBK.out
        rw [HEN.out, hh, or_has _ _ HM6.out hk (by have := of_decide_eq_true HTK.out.symm; rwa [hh] at this)])
      clear HEN HMF
      go_wp2_with fail
      (first | refine bodyPost_end (v := .tuple #[]) rfl rfl ?_ | refine bodyPost_ret (v := .tuple #[]) rfl rfl ?_ | go_end0)
      obtain ⟨hg9, hb9, ho9⟩ := hM15.fin
      rw [HST.out, HV.out]
      exact ⟨rfl, hg9, hb9, ho9⟩
    | false =>
      have HPN : Hid (popN (s6.mask ||| bitF rows W s6.x s6.y) = popN s6.mask + 1 ∧ popN s6.mask ≤ 1000) := Lib.hid (by
        obtain ⟨k, hk, hh⟩ := HBK.out
        have h5 := of_decide_eq_false HTK.out.symm
        have h6 : s6.mask &&& 2 ^ k = 0 := by rw [hh] at h5; exact Decidable.not_not.1 h5
        refine ⟨by rw [hh, popN_or _ _ HM6.out hk, if_pos h6], popN_le _ HM6.out⟩)
      have HPU := Lib.hid (mapF_put HL.out s6.mask HQ1.out)
      obtain ⟨-, -, -, -, -, z5, -, z7, k1, k2⟩ := hM15.cells
      have x0 := hk4.cell 0
      have x1 := hk4.cell 1
      simp only [List.getElem?_toArray, List.getElem?_cons_zero, List.getElem?_cons_succ] at x0 x1
      have HM16 := Lib.hid hM15.m.drew
      have HNN : Hid (mapF rows W s6.mask s6.x s6.y = none) := Lib.hid HMF.out
      clear HMF HQ1 HTK HBK
      go_upto_region 26 with (fail)
      go_still_tail 5, (by kernel_rfl)
      go_upto_region 27 with (first | (at_mapUpdate; refine wpList_putA rfl _ _ _ rfl rfl HM16.out (by have := HPN.out.2; unfold maxLen; omega) s6.x s6.y kx ky HNN.out rfl rfl ?_; intro w7 hM7 hg7) | fail)
      have hB7 : Blk w7 p 81 _ := (hg7.block p hM15.g.lt (fun e => HNE.out (Option.some.inj e))).trans hM15.g.drew
      have hK7 : Blk w7 (w.heap.size + 1) 120 _ := (hg7.block _ hM15.k2.lt (fun e => by have := Option.some.inj e; have := hMB.out; omega)).trans hM15.k2.drew
      have hb7 : Below w0.heap.size w0 w7 := hM15.b.drew.grown hg7 hM15.b.size (fun k hk => by injection hk with hk; rw [← hk]; exact hM15.lo.2)
      have ho7 : Others w w7 p mb := (hM15.o.below (below_drewN' (Below.refl _ _) 1)).grown hg7
      clear x0 x1 z5 z7 k1 k2 hM15 hg7 HM16 HNN
      have z5 := hB7.cell 5
      have f5 := hB7.thaw 5
      have k2 := hK7.cell 0
      simp only [List.getElem?_toArray, List.getElem?_cons_zero, List.getElem?_cons_succ] at z5 k2
      have hn6 : popN s6.mask ≤ 1000 := HPN.out.2
      generalize hpn : popN s6.mask = pn at *
      have w9 : IntKind.i64.wrap ((pn : Int) + 1) = (pn : Int) + 1 := IntWalk.i64_in _ ⟨by omega, by omega⟩
      have HN6 := Lib.hid hn6
      clear hn6
      go_wp2_with fail
      (first | refine bodyPost_end (v := .tuple #[]) rfl rfl ?_ | refine bodyPost_ret (v := .tuple #[]) rfl rfl ?_ | go_end0)
      have hB8 := hB7.poke 5 (.int .i64 ((pn : Int) + 1))
      simp only [List.setIfInBounds_toArray, List.set_cons_zero, List.set_cons_succ] at hB8
      have hm8 := hM7.kept (grown_set (World.grownBy.refl w7 (some p)) 5 (.int .i64 ((pn : Int) + 1))) (fun e => HNE.out (Option.some.inj e).symm)
      have hb8 := hb7.setCell (p := ⟨p, 5, none⟩) hlo.1 (.int .i64 ((pn : Int) + 1))
      have HPO : Hid (((popN (s6.mask ||| bitF rows W s6.x s6.y) : Nat) : Int) = (pn : Int) + 1) := Lib.hid (by rw [HPN.out.1]; simp)
      have hGm : GmR (w7.setCell ⟨p, 5, none⟩ (.int .i64 ((pn : Int) + 1))) p A c rows W { s6 with mask := s6.mask ||| bitF rows W s6.x s6.y } mb (popN (s6.mask ||| bitF rows W s6.x s6.y)) := by
        refine ⟨?_, ?_, HNE.out⟩
        · simp only [HPO.out]
          exact hB8
        · rw [HPN.out.1]
          have := hm8
          rw [HPU.out] at this
          exact this
      have hEE : stepF rows W h s = { s6 with mask := s6.mask ||| bitF rows W s6.x s6.y } := by rw [HST.out, HEN.out]
      rw [hEE]
      exact ⟨rfl, hGm, hb8, ho7.set p 5 _ (.inl rfl)⟩
  · have e1 : (cellF rows W s6.x s6.y == 111) = false := beq_eq_false_iff_ne.2 q1
    have hbt : bitF rows W s6.x s6.y = 0 := by unfold bitF; rw [if_neg q1]
    rw [hbt, Nat.or_zero] at HEN
    clear hbt q1
    obtain ⟨-, -, -, -, -, -, z6, -, -, k2⟩ := hM9.cells
    have f6 := hM9.g.thaw 6
    by_cases q2 : cellF rows W s6.x s6.y = 94
    · have e2 : (cellF rows W s6.x s6.y == 94) = true := by rw [q2]; rfl
      have HV : Hid (endF rows W s6 = { s6 with fin := 2 }) := Lib.hid (by rw [HEN.out, if_pos q2])
      clear q2
      go_wp2_with fail
      (first | refine bodyPost_end (v := .tuple #[]) rfl rfl ?_ | refine bodyPost_ret (v := .tuple #[]) rfl rfl ?_ | go_end0)
      obtain ⟨hg9, hb9, ho9⟩ := (hM9.set 6 (.int .i64 2) { s6 with fin := 2 } rfl rfl).fin
      rw [HST.out, HV.out]
      exact ⟨rfl, hg9, hb9, ho9⟩
    have e2 : (cellF rows W s6.x s6.y == 94) = false := beq_eq_false_iff_ne.2 q2
    by_cases q3 : cellF rows W s6.x s6.y = 120
    · have e3 : (cellF rows W s6.x s6.y == 120) = true := by rw [q3]; rfl
      have HV : Hid (endF rows W s6 = { s6 with fin := 1 }) := Lib.hid (by rw [HEN.out, if_neg q2, if_pos q3])
      clear q2 q3
      go_wp2_with fail
      (first | refine bodyPost_end (v := .tuple #[]) rfl rfl ?_ | refine bodyPost_ret (v := .tuple #[]) rfl rfl ?_ | go_end0)
      obtain ⟨hg9, hb9, ho9⟩ := (hM9.set 6 (.int .i64 1) { s6 with fin := 1 } rfl rfl).fin
      rw [HST.out, HV.out]
      exact ⟨rfl, hg9, hb9, ho9⟩
    · have e3 : (cellF rows W s6.x s6.y == 120) = false := beq_eq_false_iff_ne.2 q3
      have HV : Hid (endF rows W s6 = s6) := Lib.hid (by rw [HEN.out, if_neg q2, if_neg q3])
      clear q2 q3
      go_wp2_with fail
      (first | refine bodyPost_end (v := .tuple #[]) rfl rfl ?_ | refine bodyPost_ret (v := .tuple #[]) rfl rfl ?_ | go_end0)
      obtain ⟨hg9, hb9, ho9⟩ := (hM9).fin
      rw [HST.out, HV.out]
      exact ⟨rfl, hg9, hb9, ho9⟩
end Go.Proofs.YtnlblgkoecnfmaaDoor
