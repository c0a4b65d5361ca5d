/- Texts of this seat, laid together: LawHistoriesJoined. -/
import Derived.Handy
import Derived.Deep.DeepCutAuto
import Derived.Deep.CutRange
import Derived.Test.YtggnccafmadacaaGreatDoorBu37
import Derived.Test.YtggnccafmadacaaGreatDoorBu45
import Derived.Test.YtggnccafmadacaaGreatDoorBu47
import Derived.Test.YtggnccafmadacaaGreatDoorBu44
import Derived.Test.YtggnccafmadacaaGreatDoorBu11
import Derived.Test.YtggnccafmadacaaGreatDoorBu21
/- For every list of numbers the law HistoriesJoined returns true and leaves the list as it was: its walk. -/
namespace Go.Proofs.YtggnccafmadacaaGreatDoor
set_option linter.unusedVariables false
set_option linter.unusedSimpArgs false
open Go.RowKit Go.Sort

/-- Sizes of a history that is drawn. -/
structure SmH (segs : List (List UInt8)) (atts : List Att) (c : Nat) : Prop where
  hc : segs.length ≤ c
  n4 : segs.length ≤ 4
  n7 : atts.length ≤ 7
  l4 : ∀ i (h : i < atts.length), atts[i].2.length ≤ 4
  s2 : ∀ s ∈ segs, s.length ≤ 2
theorem txO {T : List UInt8} (h : T.length ≤ 200000) : textV T = .tuple #[encStr T, .int .i64 0] := by unfold textV; rw [if_neg (by omega)]
theorem txO_small {segs : List (List UInt8)} {atts : List Att} (h : HistOk segs atts) (h7 : atts.length ≤ 7) : (histT segs atts).length ≤ 200000 := by
  have h1 := headT_len h
  have h2 := attsT_len h atts.length (Nat.le_refl _)
  unfold histT
  rw [List.length_append]; omega
theorem Row.box {w : World} {lo size n : Nat} {A : Option Addr} {xs : List Value} (h : Row w lo size A n xs) {g : Nat} {t : TypeId} {A1 A2 : Option Addr} {n1 n2 c1 c2 : Nat} (hg : Blk w g t #[.slice A1 n1 c1, .slice A2 n2 c2]) (hv : 0 < n → ∃ v, xs[0]? = some v ∧ ∀ A n c, v ≠ .slice A n c) (i : Nat) (u : Value) : Row (w.setCell ⟨g, i, none⟩ u) lo size A n xs := ((rowOff_top h (Nat.le_refl _)).box hg hv i u).1
theorem Hist.box {w : World} {lo : Nat} {SA TA : Option Addr} {segs : List (List UInt8)} {atts : List Att} (h : Hist w lo SA TA segs atts) {g : Nat} {t : TypeId} {A1 A2 : Option Addr} {n1 n2 c1 c2 : Nat} (hg : Blk w g t #[.slice A1 n1 c1, .slice A2 n2 c2]) (i : Nat) (u : Value) : Hist (w.setCell ⟨g, i, none⟩ u) lo SA TA segs atts := by
  obtain ⟨h1, cs, h2, h3⟩ := h
  refine ⟨h1.box hg strs_head i u, cs, h2.box hg (fun hp => ?_) i u, fun j hj => let ⟨B, c, a, b, d⟩ := h3 j hj; ⟨B, c, a, b, d.box hg ints_head i u⟩⟩
  obtain ⟨B, c, a, _, _⟩ := h3 0 hp
  exact ⟨_, a, fun A n c e => by cases e⟩
theorem Hist.box2 {w : World} {lo : Nat} {SA TA : Option Addr} {segs : List (List UInt8)} {atts : List Att} (h : Hist w lo SA TA segs atts) {g : Nat} {A1 A2 B1 B2 : Option Addr} {n1 n2 c1 c2 m1 m2 e1 e2 : Nat} (hg : Blk w g 56 #[.slice A1 n1 c1, .slice A2 n2 c2]) :
    Hist ((w.setCell ⟨g, 0, none⟩ (.slice B1 m1 e1)).setCell ⟨g, 1, none⟩ (.slice B2 m2 e2)) lo SA TA segs atts := by
  have k1 : Blk (w.setCell ⟨g, 0, none⟩ (.slice B1 m1 e1)) g 56 #[.slice B1 m1 e1, .slice A2 n2 c2] := by simpa using hg.poke 0 (.slice B1 m1 e1)
  exact (h.box hg 0 _).box k1 1 _
theorem Blk.poke2 {w : World} {g : Nat} {t : TypeId} {a b : Value} (hg : Blk w g t #[a, b]) (x y : Value) : Blk ((w.setCell ⟨g, 0, none⟩ x).setCell ⟨g, 1, none⟩ y) g t #[x, y] := by
  simpa using (hg.poke 0 x).poke 1 y
theorem Blk.past2 {w : World} {g k : Nat} {t : TypeId} {cs : Array Value} (hg : Blk w g t cs) (hne : g ≠ k) (x y : Value) : Blk ((w.setCell ⟨k, 0, none⟩ x).setCell ⟨k, 1, none⟩ y) g t cs := (hg.past k 0 x hne).past k 1 y hne
theorem Below.set2 {B : Nat} {a w : World} (h : Below B a w) {g : Nat} (hg : B ≤ g) (x y : Value) : Below B a ((w.setCell ⟨g, 0, none⟩ x).setCell ⟨g, 1, none⟩ y) := Below.setCell (Below.setCell h (p := ⟨g, 0, none⟩) hg x) (p := ⟨g, 1, none⟩) hg y
theorem SmH.sz {segs : List (List UInt8)} {atts : List Att} {c : Nat} (h : SmH segs atts c) : HistSz segs atts c := ⟨h.hc, by have := h.n4; omega, by have := h.n7; omega, fun i hi => by have := h.l4 i hi; omega, fun s hs => by have := h.s2 s hs; omega⟩
theorem SmH.part {segs : List (List UInt8)} {atts us : List Att} {c c' : Nat} (h : SmH segs atts c) (hs : us.Sublist atts) (hc : segs.length ≤ c') : SmH segs us c' := by
  refine ⟨hc, h.n4, Nat.le_trans hs.length_le h.n7, fun i hi => ?_, h.s2⟩
  obtain ⟨j, hj, e⟩ := List.mem_iff_getElem.1 (hs.subset (List.getElem_mem hi))
  rw [← e]; exact h.l4 j hj
theorem SmH.spoil {segs : List (List UInt8)} {atts bs : List Att} {c : Nat} {l : List Int} (h : SmH segs atts c) (hn : bs.length = atts.length) (hl : l.length ≤ 4) (hb : ∀ i (h1 : i < bs.length), bs[i].2 = l ∨ ∃ j, ∃ h2 : j < atts.length, bs[i] = atts[j]) : SmH segs bs c := by
  refine ⟨h.hc, h.n4, by rw [hn]; exact h.n7, fun i hi => ?_, h.s2⟩
  rcases hb i hi with e | ⟨j, hj, e⟩
  · rw [e]; exact hl
  · rw [e]; exact h.l4 j hj
/-- Two histories in boxes. -/
structure JT (w wx : World) (b4 b6 : Nat) (SA TA SB TB : Option Addr) (c d c' d' : Nat) (sa sb : List (List UInt8)) (us bs : List Att) : Prop where
  k4 : Blk wx b4 56 #[.slice SA sa.length c, .slice TA us.length d]
  k6 : Blk wx b6 56 #[.slice SB sb.length c', .slice TB bs.length d']
  hA : Hist wx (w.heap.size + 1) SA TA sa us
  hB : Hist wx (w.heap.size + 1) SB TB sb bs
  hs : Str wx w.heap.size 5300
  hx : Below w.heap.size w wx
theorem JT.below {w wx w' : World} {b4 b6 : Nat} {SA TA SB TB : Option Addr} {c d c' d' : Nat} {sa sb : List (List UInt8)} {us bs : List Att} (h : JT w wx b4 b6 SA TA SB TB c d c' d' sa sb us bs) (hb : Below wx.heap.size wx w') : JT w w' b4 b6 SA TA SB TB c d c' d' sa sb us bs :=
  ⟨h.k4.below hb, h.k6.below hb, h.hA.below hb, h.hB.below hb, h.hs.keep hb, below_up h.hx hb⟩
theorem JT.box2 {w wx : World} {b4 b6 : Nat} {SA TA SB TB : Option Addr} {c d c' d' : Nat} {sa sb : List (List UInt8)} {us bs : List Att} (h : JT w wx b4 b6 SA TA SB TB c d c' d' sa sb us bs) {g : Nat} {A1 A2 B1 B2 : Option Addr} {n1 n2 c1 c2 m1 m2 e1 e2 : Nat} (hg : Blk wx g 56 #[.slice A1 n1 c1, .slice A2 n2 c2]) (h6 : b6 < g) (h46 : b4 < b6) (hw : w.heap.size < b4) :
    JT w ((wx.setCell ⟨g, 0, none⟩ (.slice B1 m1 e1)).setCell ⟨g, 1, none⟩ (.slice B2 m2 e2)) b4 b6 SA TA SB TB c d c' d' sa sb us bs :=
  ⟨h.k4.past2 (by omega) _ _, h.k6.past2 (by omega) _ _, h.hA.box2 hg, h.hB.box2 hg, (h.hs.set (p := ⟨g, 0, none⟩) (show w.heap.size < g by omega) _).set (p := ⟨g, 1, none⟩) (show w.heap.size < g by omega) _, Below.set2 h.hx (g := g) (by omega) _ _⟩
/-- The second one's attempts can be written. -/
structure JS (w wx : World) (b4 b6 : Nat) (SA TA SB TB : Option Addr) (c d c' d' ab : Nat) (sa sb : List (List UInt8)) (zs ys : List AttE) : Prop where
  k4 : Blk wx b4 56 #[.slice SA sa.length c, .slice TA zs.length d]
  k6 : Blk wx b6 56 #[.slice SB sb.length c', .slice TB ys.length d']
  pr : Pair wx (w.heap.size + 1) ab SA TA sa zs SB TB d' sb ys
  hs : Str wx w.heap.size 4000
  hx : Below w.heap.size w wx
theorem JS.stream {w wx w' : World} {b4 b6 : Nat} {SA TA SB TB : Option Addr} {c d c' d' ab : Nat} {sa sb : List (List UInt8)} {zs ys : List AttE} (h : JS w wx b4 b6 SA TA SB TB c d c' d' ab sa sb zs ys) (hg : wx.grownBy w' (some w.heap.size)) {N : Nat} (hs : Str w' w.heap.size N) (hN : N ≤ 4500) (h4 : w.heap.size < b4) (h6 : w.heap.size < b6) :
    Blk w' b4 56 #[.slice SA sa.length c, .slice TA zs.length d] ∧ Blk w' b6 56 #[.slice SB sb.length c', .slice TB ys.length d'] ∧ Pair w' (w.heap.size + 1) ab SA TA sa zs SB TB d' sb ys ∧ Str w' w.heap.size 5000 ∧ Below w.heap.size w w' :=
  ⟨h.k4.stream hg h4, h.k6.stream hg h6, h.pr.stream hg (by omega), hs.more (by omega), h.hx.grown hg h.hx.size (fun k hk => by injection hk with hk; omega)⟩
set_option maxHeartbeats 16000000 in
set_option maxRecDepth 100000 in
theorem joined_walk (A : Option Addr) (n c : Nat) (w : World) (hn : n ≤ 9223372036854775807)
    (hz : ∀ k, k < n → ∃ b off z, A = some ⟨b, off, none⟩ ∧ b < w.heap.size ∧ w.cell? ⟨b, off + k, none⟩ = some (.int .i64 z) ∧ I64 z) (hE : Env w) :
    LawCall 4 A n c w := by
  have hstr := str_make (c := c) hn hz
  clear hz
  have hx : Below w.heap.size w (w.alloc (.cells #[.slice A n c, .int .i64 0] 25)) := (Below.refl _ _).alloc (Nat.le_refl _) _
  have hz0 : (w.alloc (.cells #[.slice A n c, .int .i64 0] 25)).heap.size = w.heap.size + 1 := by simp
  have HEB := Lib.hid (EnvB.of hE)
  clear hE
  go_enter Tryz.func4, Tryz.ntmps4
  go_wp2_with fail
  generalize w.alloc (.cells #[.slice A n c, .int .i64 0] 25) = w0 at *
  have HZ0 := Lib.hid hz0
  clear hz0
  have hgl : w.heap.size < w0.heap.size := by have := HZ0.out; omega
  refine (historyO_any w.heap.size 0 _ hstr (by omega)).mono ?_
  rintro e w1 ⟨SA, TA, c1, d1, sa, us, rfl, hoA, hc1, -, n4, n7, l4, s2, hs1, hg1⟩
  have ZA := Lib.hid (show SmH sa us c1 from ⟨hc1, n4, n7, l4, s2⟩)
  have hA := hoA.hist
  rw [HZ0.out] at hA
  have hz1 := hg1.size
  replace hx := hx.grown hg1 (by omega) (fun k hk => by injection hk with hk; omega)
  clear hoA hc1 n4 n7 l4 s2 hstr hg1
  go_wp2_with fail
  have hN5 := row_new w1 #[.string ⟨#[97, 97]⟩, .string ⟨#[97, 97]⟩, .string ⟨#[98, 98]⟩, .string ⟨#[99, 99]⟩, .string ⟨#[122, 122]⟩] 9 w1.heap.size 1 5 (Nat.le_refl _) rfl
  replace hs1 := hs1.alloc (.cells #[.string ⟨#[97, 97]⟩, .string ⟨#[97, 97]⟩, .string ⟨#[98, 98]⟩, .string ⟨#[99, 99]⟩, .string ⟨#[122, 122]⟩] 9)
  replace hA := hA.alloc (.cells #[.string ⟨#[97, 97]⟩, .string ⟨#[97, 97]⟩, .string ⟨#[98, 98]⟩, .string ⟨#[99, 99]⟩, .string ⟨#[122, 122]⟩] 9)
  replace hx := Below.alloc hx hx.size (.cells #[.string ⟨#[97, 97]⟩, .string ⟨#[97, 97]⟩, .string ⟨#[98, 98]⟩, .string ⟨#[99, 99]⟩, .string ⟨#[122, 122]⟩] 9)
  generalize w1.alloc (.cells #[.string ⟨#[97, 97]⟩, .string ⟨#[97, 97]⟩, .string ⟨#[98, 98]⟩, .string ⟨#[99, 99]⟩, .string ⟨#[122, 122]⟩] 9) = w2 at *
  refine (some_any w.heap.size _ _ _ _ [[97, 97], [97, 97], [98, 98], [99, 99], [122, 122]] _ hs1 (by omega) hN5 (by omega) (by decide) (by decide)).mono ?_
  rintro e w3 ⟨z, rfl, -, hs3, hg3⟩
  replace hA := hA.stream hg3 (by omega)
  replace hx := hx.grown hg3 hx.size (fun k hk => by injection hk with hk; omega)
  clear hN5 hs1 hg3 hz1
  go_wp2_with fail
  have k4 : Blk (w3.alloc (.cells #[.slice SA sa.length c1, .slice TA us.length d1] 56)) w3.heap.size 56 #[.slice SA sa.length c1, .slice TA us.length d1] := Blk.new _ _ _
  have hz4 : (w3.alloc (.cells #[.slice SA sa.length c1, .slice TA us.length d1] 56)).heap.size = w3.heap.size + 1 := by simp
  have hb4 : w.heap.size ≤ w3.heap.size := hx.size
  have hlt3 := hs3.lt
  replace hs3 := hs3.alloc (.cells #[.slice SA sa.length c1, .slice TA us.length d1] 56)
  replace hA := hA.alloc (.cells #[.slice SA sa.length c1, .slice TA us.length d1] 56)
  replace hx := Below.alloc hx hx.size (.cells #[.slice SA sa.length c1, .slice TA us.length d1] 56)
  generalize w3.alloc (.cells #[.slice SA sa.length c1, .slice TA us.length d1] 56) = w4 at *
  generalize w3.heap.size = b4 at *
  refine (historyO_any w.heap.size _ _ hs3 (by omega)).mono ?_
  rintro e w5 ⟨SB, TB, c2, d2, sb, bs, rfl, hoB, hc1, -, n4, n7, l4, s2, hs5, hg5⟩
  have ZB := Lib.hid (show SmH sb bs c2 from ⟨hc1, n4, n7, l4, s2⟩)
  obtain ⟨ab, zs, ys, rfl, rfl, hP⟩ := pair_two hA hoB hg5 (by omega) (by omega)
  rw [attE_len] at k4 ⊢
  rw [attE_len]
  replace k4 := k4.stream hg5 (by omega)
  replace hx := hx.grown hg5 hx.size (fun k hk => by injection hk with hk; omega)
  have hz5 := hg5.size
  clear hA hoB hc1 n4 n7 l4 s2 hs3 hg5
  go_wp2_with fail
  have k6 : Blk (w5.alloc (.cells #[.slice SB sb.length c2, .slice TB ys.length d2] 56)) w5.heap.size 56 #[.slice SB sb.length c2, .slice TB ys.length d2] := Blk.new _ _ _
  have hb46 : b4 < w5.heap.size := by omega
  replace k4 := k4.alloc (.cells #[.slice SB sb.length c2, .slice TB ys.length d2] 56)
  replace hP := hP.alloc (.cells #[.slice SB sb.length c2, .slice TB ys.length d2] 56)
  replace hs5 := hs5.alloc (.cells #[.slice SB sb.length c2, .slice TB ys.length d2] 56)
  replace hx := Below.alloc hx hx.size (.cells #[.slice SB sb.length c2, .slice TB ys.length d2] 56)
  generalize w5.alloc (.cells #[.slice SB sb.length c2, .slice TB ys.length d2] 56) = w6 at *
  generalize w5.heap.size = b6 at *
  have hJ : JS w w6 b4 b6 SA TA SB TB c1 d1 c2 d2 ab sa sb zs ys := ⟨k4, k6, hP, hs5.more (by omega), hx⟩
  clear k4 k6 hP hs5 hx hz4 hz5
  refine (flip_any w.heap.size _ _ _ hJ.hs (by omega) (by omega)).mono ?_
  rintro e w7 ⟨f3, rfl, hs7, hg7⟩
  replace hJ := hJ.stream hg7 hs7 (by omega) hlt3 (by omega)
  clear hs7 hg7
  go_upto_if 34 with (fail)
  go_cut [2] from 35 to 40 (fun s wx => s = .bool false ∧ ∃ (SA TA SB TB : Option Addr) (c d c' d' ab : Nat) (sa sb : List (List UInt8)) (zs ys : List AttE), (Blk wx b4 56 #[.slice SA sa.length c, .slice TA zs.length d] ∧ Blk wx b6 56 #[.slice SB sb.length c', .slice TB ys.length d'] ∧ Pair wx (w.heap.size + 1) ab SA TA sa zs SB TB d' sb ys ∧ Str wx w.heap.size 5100 ∧ Below w.heap.size w wx) ∧ Hid (SmH sa (attE zs) c) ∧ Hid (SmH sb (attE ys) c'))
  case first =>
    obtain ⟨k4, k6, hP, hs, hx⟩ := hJ
    cases f3
    · have hzA := ZA.out.n7
      have hzA4 := ZA.out.n4
      rw [attE_len] at hzA
      have HALF := half2_any w.heap.size _ (w.heap.size + 1) SA TA c1 d1 sa (attE zs) w7 hs (by omega) hP.histA (by omega) (by have := k4.lt; omega) (by omega) (by rw [attE_len]; omega)
      rw [attE_len] at HALF
      obtain ⟨q0, q1⟩ := k4.two_
      have qz := k4.lt
      go_wp2_with fail
      refine HALF.mono ?_
      rintro e w8 ⟨SA2, TA2, SB2, TB2, e1, f1, e2, f2, zs2, ys2, rfl, o1, o2, o3, o4, hdj, hxx, hprt, hs8, hg8⟩
      obtain ⟨ab2, hP2⟩ := pair_half o1 o2 o3 o4 hdj hxx hg8 (by omega) (by omega)
      have ZA2 := Lib.hid (ZA.out.part hprt.1 (own_cap o1))
      have ZB2 := Lib.hid (ZA.out.part hprt.2.1 (own_cap o2))
      replace k4 := k4.stream hg8 hlt3
      replace k6 := k6.stream hg8 (by omega)
      replace hx := hx.grown hg8 hx.size (fun k hk => by injection hk with hk; omega)
      clear HALF q0 q1 qz o1 o2 o3 o4 hdj hxx hprt hg8 hP
      have hs9 := hs8.more (N' := 5100) (by omega)
      have k6b := k6.past2 (k := b4) (by omega) (.slice SA2 sa.length e1) (.slice TA2 zs2.length f1)
      have k4b := k4.poke2 (.slice SA2 sa.length e1) (.slice TA2 zs2.length f1)
      have HPR := Lib.hid ((hP2.box2 (B1 := SA2) (m1 := sa.length) (e1 := e1) (B2 := TA2) (m2 := zs2.length) (e2 := f1) k4).box2 (B1 := SB2) (m1 := sa.length) (e1 := e2) (B2 := TB2) (m2 := ys2.length) (e2 := f2) k6b)
      have HK4 := Lib.hid (k4b.past2 (k := b6) (by omega) (.slice SB2 sa.length e2) (.slice TB2 ys2.length f2))
      have HK6 := Lib.hid (k6b.poke2 (.slice SB2 sa.length e2) (.slice TB2 ys2.length f2))
      have HHX := Lib.hid (Below.set2 (Below.set2 hx (g := b4) (by omega) (.slice SA2 sa.length e1) (.slice TA2 zs2.length f1)) (g := b6) (by omega) (.slice SB2 sa.length e2) (.slice TB2 ys2.length f2))
      have HHS := Lib.hid ((((hs9.set (p := ⟨b4, 0, none⟩) hlt3 (.slice SA2 sa.length e1)).set (p := ⟨b4, 1, none⟩) hlt3 (.slice TA2 zs2.length f1)).set (p := ⟨b6, 0, none⟩) (show w.heap.size < b6 by omega) (.slice SB2 sa.length e2)).set (p := ⟨b6, 1, none⟩) (show w.heap.size < b6 by omega) (.slice TB2 ys2.length f2))
      obtain ⟨q0, q1⟩ := k4.two_
      have qz := k4.lt
      have qf0 := k4.thaw 0
      have qf1 := k4.thaw 1
      obtain ⟨r0, r1⟩ := k6b.two_
      have rz := k6b.lt
      have rf0 := k6b.thaw 0
      have rf1 := k6b.thaw 1
      clear hs8 hs9 k6b k4b k4 k6 hP2 hx hs
      go_wp2_with fail
      go_meet
      exact ⟨rfl, SA2, TA2, SB2, TB2, e1, f1, e2, f2, ab2, sa, sa, zs2, ys2, ⟨HK4.out, HK6.out, HPR.out, HHS.out, HHX.out⟩, ZA2, ZB2⟩
    · go_wp2_with fail
      go_meet
      exact ⟨rfl, SA, TA, SB, TB, c1, d1, c2, d2, ab, sa, sb, zs, ys, ⟨k4, k6, hP, hs.more (by omega), hx⟩, ZA, ZB⟩
  case rest =>
    clear hJ
    obtain ⟨rfl, SA, TA, SB, TB, c, d, c', d', ab, sa, sb, zs, ys, ⟨k4, k6, hP, hs, hx⟩, ZA, ZB⟩ := hcut
    go_upto_region 6 with (fail)
    go_cut [48] from 41 to 47 (fun s wx => ∃ f : Bool, s = .bool f ∧ (f = true → 0 < ys.length) ∧ (Blk wx b4 56 #[.slice SA sa.length c, .slice TA zs.length d] ∧ Blk wx b6 56 #[.slice SB sb.length c', .slice TB ys.length d'] ∧ Pair wx (w.heap.size + 1) ab SA TA sa zs SB TB d' sb ys ∧ Str wx w.heap.size 5200 ∧ Below w.heap.size w wx))
    case first =>
      obtain ⟨q0, q1⟩ := k6.two_
      have qz := k6.lt
      by_cases hy : 0 < ys.length
      · have dy : decide ((0 : Int) < (ys.length : Int)) = true := by simpa using hy
        go_wp2_with fail
        refine (flip_any w.heap.size _ _ _ hs (by omega) (by omega)).mono ?_
        rintro e w9 ⟨f6, rfl, hs9, hg9⟩
        go_wp2_with fail
        go_meet
        exact ⟨f6, rfl, fun _ => hy, k4.stream hg9 hlt3, k6.stream hg9 (by omega), hP.stream hg9 (by omega), hs9.more (by omega), hx.grown hg9 hx.size (fun k hk => by injection hk with hk; omega)⟩
      · have dy : decide ((0 : Int) < (ys.length : Int)) = false := by simpa using hy
        go_wp2_with fail
        go_meet
        exact ⟨false, rfl, (fun h => by cases h), k4, k6, hP, hs.more (by omega), hx⟩
    case rest =>
      clear k4 k6 hP hs hx
      obtain ⟨f6, rfl, hf6, k4, k6, hP, hs, hx⟩ := hcut
      have HF6 := Lib.hid hf6
      clear hf6
      go_upto_if 48 with (fail)
      go_cut [2] from 49 to 53 (fun s wx => s = .bool false ∧ ∃ (SA TA SB TB : Option Addr) (c d c' d' : Nat) (sa sb : List (List UInt8)) (us bs : List Att), JT w wx b4 b6 SA TA SB TB c d c' d' sa sb us bs ∧ Hid (SmH sa us c) ∧ Hid (SmH sb bs c'))
      case first =>
        cases f6
        · go_wp2_with fail
          go_meet
          exact ⟨rfl, SA, TA, SB, TB, c, d, c', d', sa, sb, attE zs, attE ys, ⟨by rw [attE_len]; exact k4, by rw [attE_len]; exact k6, hP.histA, hP.histB, hs.more (by omega), hx⟩, ZA, ZB⟩
        · have hy := HF6.out rfl
          have eTB := hP.hab hy
          subst eTB
          obtain ⟨ab9, eab, hab9, habz, hcb, hfz⟩ := ownBlk hP.tb hy
          have eab2 : ab9 = ab := by injection eab with eab; injection eab with eab; exact eab.symm
          subst eab2
          have hkab := own_kindOf hP.tb
          obtain ⟨y1, hy1⟩ : ∃ v, (ys.flatMap encE)[1]? = some v := ⟨_, by rw [List.getElem?_eq_getElem (by rw [encE_len]; omega)]⟩
          have cy := cell_al (hcb 1 _ hy1) (.cells #[.int .i64 77] 3)
          have hP7 := hP.alloc (.cells #[.int .i64 77] 3)
          have k47 := k4.alloc (.cells #[.int .i64 77] 3)
          have k67 := k6.alloc (.cells #[.int .i64 77] 3)
          have hs7 := hs.alloc (.cells #[.int .i64 77] 3)
          have hx7 := Below.alloc hx hx.size (.cells #[.int .i64 77] 3)
          have hr77 : RowOff (wc.alloc (.cells #[.int .i64 77] 3)) (w.heap.size + 1) ab9 1 (some ⟨wc.heap.size, 0, none⟩) ([77] : List Int).length (ints [77]) := ⟨row_new _ _ _ _ _ _ (by omega) rfl, fun b off _ e hb => by injection e with e; injection e with e; omega⟩
          obtain ⟨bs2, hbl, hbe, hAA, hBB⟩ := hP7.spoil hy [77] (c := 1) hr77
          have hk7 := own_kindOf hP7.tb
          have p7 := grown_pokeOf (wc.alloc (.cells #[.int .i64 77] 3)) ab9 1 (.slice (some ⟨wc.heap.size, 0, none⟩) ([77] : List Int).length 1)
          have hsw := World.setCell_alloc_past (w := wc) (.cells #[.int .i64 77] 3) ab9 1 (.slice (some ⟨wc.heap.size, 0, none⟩) ([77] : List Int).length 1) habz
          have K4 := Lib.hid (k47.otherOf p7 hk7 (by decide))
          have K6 := Lib.hid (k67.otherOf p7 hk7 (by decide))
          have HX7 := Lib.hid (Below.setCell hx7 (p := ⟨ab9, 1, none⟩) (by simp; omega) (.slice (some ⟨wc.heap.size, 0, none⟩) ([77] : List Int).length 1))
          have HS7 := Lib.hid (hs7.set (p := ⟨ab9, 1, none⟩) (by simp; omega) (.slice (some ⟨wc.heap.size, 0, none⟩) ([77] : List Int).length 1))
          have HAA := Lib.hid hAA
          have HBB := Lib.hid hBB
          have ZB7 := Lib.hid (ZB.out.spoil (by rw [hbl, attE_len]) (by decide) hbe)
          have HBL := Lib.hid hbl
          rw [hsw] at K4 K6 HX7 HS7 HAA HBB
          clear hsw
          obtain ⟨q0, q1⟩ := k6.two_
          have qz := k6.lt
          have fz : (wc.alloc (.cells #[.int .i64 77] 3)).frozen? ⟨ab9, 1, none⟩ = false := by
            obtain ⟨g2, e2, _, _, _, hf2⟩ := ownBlk hP7.tb hy
            injection e2 with e2
            injection e2 with e2
            rw [e2]; exact hf2 1
          have dy : decide ((0 : Int) < (ys.length : Int)) = true := by simpa using hy
          have hyi : (0 : Int) < (ys.length : Int) := by omega
          clear hAA hBB p7 hk7 hr77 hbe hP7 k47 k67 hs7 hx7 hcb hfz hkab hbl
          go_wp2_with fail
          go_meet
          exact ⟨rfl, SA, TA, SB, some ⟨ab9, 0, none⟩, c, d, c', d', sa, sb, attE zs, bs2, ⟨by rw [attE_len]; exact K4.out, by rw [HBL.out]; exact K6.out, HAA.out, HBB.out, HS7.out.more (by omega), HX7.out⟩, ZA, ZB7⟩
      case rest =>
        clear k4 k6 hP hs hx ZA ZB HF6
        obtain ⟨rfl, SA, TA, SB, TB, c, d, c', d', sa, sb, us, bs, hJ, ZA, ZB⟩ := hcut
        obtain ⟨q0, q1⟩ := hJ.k4.two_
        have qz := hJ.k4.lt
        have CALL := historyFault_any SA TA c d _ sa us _ hJ.hA ZA.out.sz.hc ZA.out.sz.h9 ZA.out.sz.h8 ZA.out.sz.h7 ZA.out.sz.h6
        go_wp2_with fail
        refine CALL.mono ?_
        rintro e wa ⟨rfl, hb⟩
        replace hJ := hJ.below hb
        obtain ⟨fa, hfa⟩ : ∃ x, histF sa us = x := ⟨_, rfl⟩
        rw [hfa]
        have HFA := Lib.hid hfa
        clear hfa hb q0 q1 qz CALL
        obtain ⟨q0, q1⟩ := hJ.k4.two_
        have qz := hJ.k4.lt
        obtain ⟨r0, r1⟩ := hJ.k6.two_
        have rz := hJ.k6.lt
        have CALL := Merge_all SA TA SB TB c d c' d' _ _ sa sb us bs _ hJ.hA hJ.hB ZA.out.sz ZB.out.sz (by have := ZA.out.n7; have := ZB.out.n7; omega)
        go_wp2_with fail
        refine CALL.mono ?_
        rintro e wb ⟨SM, TM, cm, dm, rfl, hM, hb⟩
        replace hJ := hJ.below hb
        replace hM := hM.weak (Nat.zero_le _)
        have OZ := mOut_sz (sa := sa) (sb := sb) (us := us) (bs := bs) (by have := ZA.out.n4; omega) (by have := ZA.out.n7; omega) (by have := ZB.out.n7; omega) (fun i h => by have := ZA.out.l4 i h; omega) (fun i h => by have := ZB.out.l4 i h; omega)
        obtain ⟨oe, os, ot, hO⟩ : ∃ x y z, mOut sa us sb bs = (x, y, z) := ⟨_, _, _, rfl⟩
        rw [hO] at OZ hM ⊢
        dsimp only at OZ hM ⊢
        replace OZ := Lib.hid OZ
        have HO := Lib.hid hO
        clear hO hb q0 q1 qz r0 r1 rz CALL
        go_upto_region 10 with (fail)
        have k8 : Blk (wb.alloc (.cells #[.slice SM os.length cm, .slice TM ot.length dm] 56)) wb.heap.size 56 #[.slice SM os.length cm, .slice TM ot.length dm] := Blk.new _ _ _
        replace hJ := hJ.below ((Below.refl _ _).alloc (Nat.le_refl _) (.cells #[.slice SM os.length cm, .slice TM ot.length dm] 56))
        replace hM := hM.alloc (.cells #[.slice SM os.length cm, .slice TM ot.length dm] 56)
        generalize wb.alloc (.cells #[.slice SM os.length cm, .slice TM ot.length dm] 56) = w8 at *
        generalize wb.heap.size = b8 at *
        obtain ⟨r0, r1⟩ := hJ.k6.two_
        have rz := hJ.k6.lt
        have CALL := historyFault_any SB TB c' d' _ sb bs _ hJ.hB ZB.out.sz.hc ZB.out.sz.h9 ZB.out.sz.h8 ZB.out.sz.h7 ZB.out.sz.h6
        go_wp2_with fail
        refine CALL.mono ?_
        rintro e w9 ⟨rfl, hb⟩
        replace hJ := hJ.below hb
        replace hM := hM.below hb
        replace k8 := k8.below hb
        obtain ⟨fb, hfb⟩ : ∃ x, histF sb bs = x := ⟨_, rfl⟩
        rw [hfb]
        have HFB := Lib.hid hfb
        clear hfb hb r0 r1 rz CALL
        go_wp2_with fail
        have CALL := or_any (some ⟨w9.heap.size, 0, none⟩) 2 w9.heap.size [fa, fb] (w9.alloc (.cells #[.int .i64 fa, .int .i64 fb] 29)) (row_new _ _ _ _ _ _ (Nat.le_refl _) rfl) (by simp)
        replace hJ := hJ.below ((Below.refl _ _).alloc (Nat.le_refl _) (.cells #[.int .i64 fa, .int .i64 fb] 29))
        replace hM := hM.alloc (.cells #[.int .i64 fa, .int .i64 fb] 29)
        replace k8 := k8.alloc (.cells #[.int .i64 fa, .int .i64 fb] 29)
        refine CALL.mono ?_
        rintro e w10 ⟨rfl, hwe⟩
        rw [hwe] at hJ hM k8
        clear hwe CALL
        obtain ⟨F, hF⟩ : ∃ x, firstE [fa, fb] = x := ⟨_, rfl⟩
        rw [hF]
        have HF := Lib.hid hF
        clear hF
        go_upto_region 12 with (fail)
        have k11 : Blk (w10.alloc (.cells #[.slice none 0 0, .slice none 0 0] 56)) w10.heap.size 56 #[.slice none 0 0, .slice none 0 0] := Blk.new _ _ _
        have hb611 : b6 < w10.heap.size := hJ.k6.lt
        have hb811 : b8 < w10.heap.size := k8.lt
        replace hJ := hJ.below ((Below.refl _ _).alloc (Nat.le_refl _) (.cells #[.slice none 0 0, .slice none 0 0] 56))
        replace hM := hM.alloc (.cells #[.slice none 0 0, .slice none 0 0] 56)
        replace k8 := k8.alloc (.cells #[.slice none 0 0, .slice none 0 0] 56)
        generalize w10.alloc (.cells #[.slice none 0 0, .slice none 0 0] 56) = we at *
        generalize w10.heap.size = b11 at *
        obtain ⟨tF, htF⟩ : ∃ x, (F == 0) = x := ⟨_, rfl⟩
        go_upto_if 68 with (fail)
        go_cut [10] from 69 to 74 (fun s wx => s = .int .i64 oe ∧ ∃ (SW TW : Option Addr) (cw dw : Nat), Blk wx b11 56 #[.slice SW os.length cw, .slice TW ot.length dw] ∧ Hist wx 0 SW TW os ot ∧ JT w wx b4 b6 SA TA SB TB c d c' d' sa sb us bs ∧ Blk wx b8 56 #[.slice SM os.length cm, .slice TM ot.length dm] ∧ Hist wx 0 SM TM os ot)
        case first =>
          cases tF
          · have hF0 : F ≠ 0 := by simpa using htF
            have ho := HO.out
            rw [mOut_bad (by rw [HFA.out, HFB.out, HF.out]; exact hF0), HFA.out, HFB.out, HF.out] at ho
            injection ho with e1 ho
            injection ho with e2 e3
            subst e1 e2 e3
            go_wp2_with fail
            go_meet
            exact ⟨rfl, none, none, 0, 0, k11, Hist.nil _ _ _ _, hJ, k8, hM⟩
          · have hF0 : F = 0 := by simpa using htF
            have CALL := HistoriesMerged_all SA TA SB TB c d c' d' _ _ sa sb us bs _ hJ.hA hJ.hB (by rw [HFA.out, HFB.out, HF.out]; exact hF0) (by have := ZA.out.n7; have := ZB.out.n7; omega)
            obtain ⟨q0, q1⟩ := hJ.k4.two_
            have qz := hJ.k4.lt
            obtain ⟨r0, r1⟩ := hJ.k6.two_
            have rz := hJ.k6.lt
            clear hF0
            go_wp2_with fail
            refine CALL.mono ?_
            rintro e wf ⟨SW, TW, cw, dw, rfl, hW, hb⟩
            rw [HO.out] at hW ⊢
            dsimp only at hW ⊢
            replace hJ := hJ.below hb
            replace hM := hM.below hb
            replace k8 := k8.below hb
            replace k11 := k11.below hb
            clear CALL hb q0 q1 qz r0 r1 rz
            have H1 := Lib.hid (k11.poke2 (.slice SW os.length cw) (.slice TW ot.length dw))
            have H2 := Lib.hid (hW.box2 (B1 := SW) (m1 := os.length) (e1 := cw) (B2 := TW) (m2 := ot.length) (e2 := dw) k11)
            have H3 := Lib.hid (hJ.box2 (B1 := SW) (m1 := os.length) (e1 := cw) (B2 := TW) (m2 := ot.length) (e2 := dw) k11 hb611 hb46 hlt3)
            have H5 := Lib.hid (k8.past2 (k := b11) (by omega) (.slice SW os.length cw) (.slice TW ot.length dw))
            have H7 := Lib.hid (hM.box2 (B1 := SW) (m1 := os.length) (e1 := cw) (B2 := TW) (m2 := ot.length) (e2 := dw) k11)
            obtain ⟨q0, q1⟩ := k11.two_
            have qz := k11.lt
            have qf0 := k11.thaw 0
            have qf1 := k11.thaw 1
            clear hJ hM k8 k11 hW
            go_wp2_with fail
            go_meet
            exact ⟨rfl, SW, TW, cw, dw, H1.out, H2.out, H3.out, H5.out, H7.out⟩
        case rest =>
          clear k11 hJ hM k8
          obtain ⟨rfl, SW, TW, cw, dw, k11, hW, hJ, k8, hM⟩ := hcut
          have eq : (oe == oe) = true := by simp
          have CALL := sameHistory_any SM TM SW TW cm dm cw dw _ _ os os ot ot _ hM hW OZ.out.s OZ.out.s OZ.out.t OZ.out.t OZ.out.x OZ.out.x
          obtain ⟨q0, q1⟩ := k8.two_
          have qz := k8.lt
          obtain ⟨r0, r1⟩ := k11.two_
          have rz := k11.lt
          go_wp2_with fail
          refine CALL.mono ?_
          rintro e wg ⟨rfl, hb⟩
          first | rw [decide_eq_true (show os = os ∧ ot = ot from ⟨rfl, rfl⟩)] | rw [show decide (True ∧ True) = true from rfl]
          replace hJ := hJ.below hb
          replace k11 := k11.below hb
          clear CALL hb q0 q1 qz r0 r1 rz k8 hM hW eq OZ HO
          obtain ⟨q0, q1⟩ := hJ.k4.two_
          have qz := hJ.k4.lt
          have CALL := Join_all SA TA c d _ sa us z _ hJ.hA ZA.out.sz
          go_wp2_with fail
          refine CALL.mono ?_
          rintro e wh ⟨SJ, TJ, cj, dj, rfl, hN, hb⟩
          replace hJ := hJ.below hb
          replace k11 := k11.below hb
          replace hN := hN.weak (Nat.zero_le _)
          have UZ := jOut_sz (segs := sa) (atts := us) (z := z)
          obtain ⟨je, js, jt, hU⟩ : ∃ x y t, jOut sa us z = (x, y, t) := ⟨_, _, _, rfl⟩
          rw [hU] at UZ hN ⊢
          dsimp only at UZ hN ⊢
          replace UZ := Lib.hid UZ
          have HU := Lib.hid hU
          clear hU hb q0 q1 qz CALL
          go_upto_region 17 with (fail)
          have k12 : Blk (wh.alloc (.cells #[.slice SJ js.length cj, .slice TJ jt.length dj] 56)) wh.heap.size 56 #[.slice SJ js.length cj, .slice TJ jt.length dj] := Blk.new _ _ _
          have hb1112 : b11 < wh.heap.size := k11.lt
          replace hJ := hJ.below ((Below.refl _ _).alloc (Nat.le_refl _) (.cells #[.slice SJ js.length cj, .slice TJ jt.length dj] 56))
          replace k11 := k11.alloc (.cells #[.slice SJ js.length cj, .slice TJ jt.length dj] 56)
          replace hN := hN.alloc (.cells #[.slice SJ js.length cj, .slice TJ jt.length dj] 56)
          generalize wh.alloc (.cells #[.slice SJ js.length cj, .slice TJ jt.length dj] 56) = wi at *
          generalize wh.heap.size = b12 at *
          have H1 := Lib.hid (k11.poke2 (.slice none 0 0) (.slice none 0 0))
          have H2 := Lib.hid (hN.box2 (B1 := none) (m1 := 0) (e1 := 0) (B2 := none) (m2 := 0) (e2 := 0) k11)
          have H3 := Lib.hid (hJ.box2 (B1 := none) (m1 := 0) (e1 := 0) (B2 := none) (m2 := 0) (e2 := 0) k11 hb611 hb46 hlt3)
          have H5 := Lib.hid (k12.past2 (k := b11) (by omega) (.slice none 0 0) (.slice none 0 0))
          obtain ⟨q0, q1⟩ := k11.two_
          have qz := k11.lt
          have qf0 := k11.thaw 0
          have qf1 := k11.thaw 1
          clear hJ hN k11 k12
          obtain ⟨tA, htA⟩ : ∃ x, (fa == 0) = x := ⟨_, rfl⟩
          go_upto_if 93 with (fail)
          generalize (wi.setCell ⟨b11, 0, none⟩ (.slice none 0 0)).setCell ⟨b11, 1, none⟩ (.slice none 0 0) = wj at *
          have k11 := H1.out
          have hN := H2.out
          have hJ := H3.out
          have k12 := H5.out
          clear H1 H2 H3 H5 q0 q1 qz qf0 qf1
          go_cut [13] from 94 to 99 (fun s wx => s = .int .i64 je ∧ ∃ (SW TW : Option Addr) (cw dw : Nat), Blk wx b11 56 #[.slice SW js.length cw, .slice TW jt.length dw] ∧ Hist wx 0 SW TW js jt ∧ JT w wx b4 b6 SA TA SB TB c d c' d' sa sb us bs ∧ Blk wx b12 56 #[.slice SJ js.length cj, .slice TJ jt.length dj] ∧ Hist wx 0 SJ TJ js jt)
          case first =>
            cases tA
            · have hF0 : fa ≠ 0 := by simpa using htA
              have ho := HU.out
              rw [jOut_bad (by rw [HFA.out]; exact hF0), HFA.out] at ho
              injection ho with e1 ho
              injection ho with e2 e3
              subst e1 e2 e3
              go_wp2_with fail
              go_meet
              exact ⟨rfl, none, none, 0, 0, k11, Hist.nil _ _ _ _, hJ, k12, hN⟩
            · have hF0 : fa = 0 := by simpa using htA
              have CALL := JoinedOf_all SA TA c d _ sa us z _ hJ.hA ZA.out.sz (by rw [HFA.out]; exact hF0)
              obtain ⟨q0, q1⟩ := hJ.k4.two_
              have qz := hJ.k4.lt
              clear hF0
              go_wp2_with fail
              refine CALL.mono ?_
              rintro e wf ⟨SW, TW, cw, dw, rfl, hW, hb⟩
              rw [HU.out] at hW ⊢
              dsimp only at hW ⊢
              replace hJ := hJ.below hb
              replace hN := hN.below hb
              replace k12 := k12.below hb
              replace k11 := k11.below hb
              clear CALL hb q0 q1 qz
              have H1 := Lib.hid (k11.poke2 (.slice SW js.length cw) (.slice TW jt.length dw))
              have H2 := Lib.hid (hW.box2 (B1 := SW) (m1 := js.length) (e1 := cw) (B2 := TW) (m2 := jt.length) (e2 := dw) k11)
              have H3 := Lib.hid (hJ.box2 (B1 := SW) (m1 := js.length) (e1 := cw) (B2 := TW) (m2 := jt.length) (e2 := dw) k11 hb611 hb46 hlt3)
              have H5 := Lib.hid (k12.past2 (k := b11) (by omega) (.slice SW js.length cw) (.slice TW jt.length dw))
              have H7 := Lib.hid (hN.box2 (B1 := SW) (m1 := js.length) (e1 := cw) (B2 := TW) (m2 := jt.length) (e2 := dw) k11)
              obtain ⟨q0, q1⟩ := k11.two_
              have qz := k11.lt
              have qf0 := k11.thaw 0
              have qf1 := k11.thaw 1
              clear hJ hN k12 k11 hW
              go_wp2_with fail
              go_meet
              exact ⟨rfl, SW, TW, cw, dw, H1.out, H2.out, H3.out, H5.out, H7.out⟩
          case rest =>
            clear k11 hJ hN k12
            obtain ⟨rfl, SW, TW, cw, dw, k11, hW, hJ, k12, hN⟩ := hcut
            have eq : (je == je) = true := by simp
            have CALL := sameHistory_any SJ TJ SW TW cj dj cw dw _ _ js js jt jt _ hN hW UZ.out.s UZ.out.s UZ.out.t UZ.out.t UZ.out.x UZ.out.x
            obtain ⟨q0, q1⟩ := k12.two_
            have qz := k12.lt
            obtain ⟨r0, r1⟩ := k11.two_
            have rz := k11.lt
            go_wp2_with fail
            refine CALL.mono ?_
            rintro e wg ⟨rfl, hb⟩
            first | rw [decide_eq_true (show js = js ∧ jt = jt from ⟨rfl, rfl⟩)] | rw [show decide (True ∧ True) = true from rfl]
            replace hJ := hJ.below hb
            clear CALL hb q0 q1 qz r0 r1 rz k11 k12 hN hW eq UZ HU htF htA
            obtain ⟨q0, q1⟩ := hJ.k4.two_
            have qz := hJ.k4.lt
            by_cases hF0 : fa = 0
            · subst hF0
              have ok := Lib.hid (histF_ok HFA.out)
              have TX := Text_ok SA TA c d _ sa us _ hJ.hA ZA.out.hc ok.out (HEB.out _ hJ.hx)
              go_wp2_with fail
              refine TX.mono ?_
              rintro e wi ⟨rfl, hb⟩
              rw [txO (txO_small ok.out ZA.out.n7)]
              replace hJ := hJ.below hb
              clear TX hb q0 q1 qz
              have LX := HistoryLines_ok SA TA c d _ sa us _ hJ.hA ZA.out.hc ok.out (HEB.out _ hJ.hx)
              obtain ⟨T, hT⟩ : ∃ x, histT sa us = x := ⟨_, rfl⟩
              rw [hT] at LX ⊢
              clear hT
              obtain ⟨q0, q1⟩ := hJ.k4.two_
              have qz := hJ.k4.lt
              have eqT : (T == T) = true := by simp
              go_wp2_with fail
              refine LX.mono ?_
              rintro e wk ⟨rfl, hb⟩
              replace hJ := hJ.below hb
              clear LX hb q0 q1 qz
              go_wp2_with fail
              refine (historyString_any w.heap.size _ w.heap.size _ hJ.hs (by omega) (HEB.out.below hJ.hx) (Nat.le_refl _)).mono ?_
              rintro e w20 ⟨r, rfl, hr, hs2, hg2⟩
              have hx := hJ.hx.grown hg2 hJ.hx.size (fun k hk => by injection hk with hk; omega)
              clear hJ hs2 hg2
              go_wp2_with fail
              refine (Read_any r _ hr (HEB.out _ hx)).mono ?_
              rintro e w21 ⟨SX, TX, xc, xd, rfl, hX, hxc, hb⟩
              replace hx := below_up hx hb
              have VZ := readV_sz r
              obtain ⟨vs, vt, vi, ve, hV⟩ : ∃ x y t u, readV r = (x, y, t, u) := ⟨_, _, _, _, rfl⟩
              rw [hV] at VZ hX ⊢
              dsimp only at VZ hX ⊢
              replace VZ := Lib.hid VZ
              have HV := Lib.hid hV
              clear hV hb hxc
              go_upto_region 28 with (fail)
              have k16 : Blk (w21.alloc (.cells #[.slice SX vs.length xc, .slice TX vt.length xd] 56)) w21.heap.size 56 #[.slice SX vs.length xc, .slice TX vt.length xd] := Blk.new _ _ _
              replace hX := hX.alloc (.cells #[.slice SX vs.length xc, .slice TX vt.length xd] 56)
              replace hx := Below.alloc hx hx.size (.cells #[.slice SX vs.length xc, .slice TX vt.length xd] 56)
              generalize w21.alloc (.cells #[.slice SX vs.length xc, .slice TX vt.length xd] 56) = w22 at *
              generalize w21.heap.size = b16 at *
              go_wp2_with fail
              refine (HistoryRead_any r _ hr (HEB.out _ hx)).mono ?_
              rintro e w23 ⟨SY, TY, yc, yd, rfl, hY, hyc, hb⟩
              rw [HV.out] at hY ⊢
              dsimp only at hY ⊢
              replace hx := below_up hx hb
              replace hX := hX.below hb
              replace k16 := k16.below hb
              clear hb hyc
              go_upto_region 29 with (fail)
              have k19 : Blk (w23.alloc (.cells #[.slice SY vs.length yc, .slice TY vt.length yd] 56)) w23.heap.size 56 #[.slice SY vs.length yc, .slice TY vt.length yd] := Blk.new _ _ _
              replace hX := hX.alloc (.cells #[.slice SY vs.length yc, .slice TY vt.length yd] 56)
              replace hY := hY.alloc (.cells #[.slice SY vs.length yc, .slice TY vt.length yd] 56)
              replace k16 := k16.alloc (.cells #[.slice SY vs.length yc, .slice TY vt.length yd] 56)
              replace hx := Below.alloc hx hx.size (.cells #[.slice SY vs.length yc, .slice TY vt.length yd] 56)
              generalize w23.alloc (.cells #[.slice SY vs.length yc, .slice TY vt.length yd] 56) = w24 at *
              generalize w23.heap.size = b19 at *
              have CALL := sameHistory_any SX TX SY TY xc xd yc yd _ _ vs vs vt vt _ hX hY VZ.out.s VZ.out.s VZ.out.t VZ.out.t VZ.out.x VZ.out.x
              have e1 : (ve == ve) = true := by simp
              have e2 : (vi == vi) = true := by simp
              obtain ⟨q0, q1⟩ := k16.two_
              have qz := k16.lt
              obtain ⟨r0, r1⟩ := k19.two_
              have rz := k19.lt
              clear hX hY k16 k19
              go_wp2_with fail
              refine CALL.mono ?_
              rintro e w25 ⟨rfl, hb⟩
              first | rw [decide_eq_true (show vs = vs ∧ vt = vt from ⟨rfl, rfl⟩)] | rw [show decide (True ∧ True) = true from rfl]
              replace hx := below_up hx hb
              clear hb CALL q0 q1 qz r0 r1 rz
              go_wp2_with fail
              refine (summed_any _).mono ?_
              rintro e w26 ⟨rfl, hb⟩
              go_wp2_with fail
              go_ret
              exact ⟨rfl, below_up hx hb⟩
            · have CALL := Text_bad SA TA c d _ sa us _ hJ.hA ZA.out.sz (by rw [HFA.out]; exact hF0)
              rw [HFA.out] at CALL
              have eq : (fa == fa) = true := by simp
              have hd : (fa == 0) = false := by simpa using hF0
              have hd2 : (fa != 0) = true := by simpa using hF0
              go_wp2_with fail
              refine CALL.mono ?_
              rintro e wi ⟨rfl, hb⟩
              replace hJ := hJ.below hb
              clear CALL hb q0 q1 qz
              go_wp2_with fail
              refine (historyString_any w.heap.size _ w.heap.size _ hJ.hs (by omega) (HEB.out.below hJ.hx) (Nat.le_refl _)).mono ?_
              rintro e w20 ⟨r, rfl, hr, hs2, hg2⟩
              have hx := hJ.hx.grown hg2 hJ.hx.size (fun k hk => by injection hk with hk; omega)
              clear hJ hs2 hg2
              go_wp2_with fail
              refine (Read_any r _ hr (HEB.out _ hx)).mono ?_
              rintro e w21 ⟨SX, TX, xc, xd, rfl, hX, hxc, hb⟩
              replace hx := below_up hx hb
              have VZ := readV_sz r
              obtain ⟨vs, vt, vi, ve, hV⟩ : ∃ x y t u, readV r = (x, y, t, u) := ⟨_, _, _, _, rfl⟩
              rw [hV] at VZ hX ⊢
              dsimp only at VZ hX ⊢
              replace VZ := Lib.hid VZ
              have HV := Lib.hid hV
              clear hV hb hxc
              go_upto_region 28 with (fail)
              have k16 : Blk (w21.alloc (.cells #[.slice SX vs.length xc, .slice TX vt.length xd] 56)) w21.heap.size 56 #[.slice SX vs.length xc, .slice TX vt.length xd] := Blk.new _ _ _
              replace hX := hX.alloc (.cells #[.slice SX vs.length xc, .slice TX vt.length xd] 56)
              replace hx := Below.alloc hx hx.size (.cells #[.slice SX vs.length xc, .slice TX vt.length xd] 56)
              generalize w21.alloc (.cells #[.slice SX vs.length xc, .slice TX vt.length xd] 56) = w22 at *
              generalize w21.heap.size = b16 at *
              go_wp2_with fail
              refine (HistoryRead_any r _ hr (HEB.out _ hx)).mono ?_
              rintro e w23 ⟨SY, TY, yc, yd, rfl, hY, hyc, hb⟩
              rw [HV.out] at hY ⊢
              dsimp only at hY ⊢
              replace hx := below_up hx hb
              replace hX := hX.below hb
              replace k16 := k16.below hb
              clear hb hyc
              go_upto_region 29 with (fail)
              have k19 : Blk (w23.alloc (.cells #[.slice SY vs.length yc, .slice TY vt.length yd] 56)) w23.heap.size 56 #[.slice SY vs.length yc, .slice TY vt.length yd] := Blk.new _ _ _
              replace hX := hX.alloc (.cells #[.slice SY vs.length yc, .slice TY vt.length yd] 56)
              replace hY := hY.alloc (.cells #[.slice SY vs.length yc, .slice TY vt.length yd] 56)
              replace k16 := k16.alloc (.cells #[.slice SY vs.length yc, .slice TY vt.length yd] 56)
              replace hx := Below.alloc hx hx.size (.cells #[.slice SY vs.length yc, .slice TY vt.length yd] 56)
              generalize w23.alloc (.cells #[.slice SY vs.length yc, .slice TY vt.length yd] 56) = w24 at *
              generalize w23.heap.size = b19 at *
              have CALL := sameHistory_any SX TX SY TY xc xd yc yd _ _ vs vs vt vt _ hX hY VZ.out.s VZ.out.s VZ.out.t VZ.out.t VZ.out.x VZ.out.x
              have e1 : (ve == ve) = true := by simp
              have e2 : (vi == vi) = true := by simp
              obtain ⟨q0, q1⟩ := k16.two_
              have qz := k16.lt
              obtain ⟨r0, r1⟩ := k19.two_
              have rz := k19.lt
              clear hX hY k16 k19
              go_wp2_with fail
              refine CALL.mono ?_
              rintro e w25 ⟨rfl, hb⟩
              first | rw [decide_eq_true (show vs = vs ∧ vt = vt from ⟨rfl, rfl⟩)] | rw [show decide (True ∧ True) = true from rfl]
              replace hx := below_up hx hb
              clear hb CALL q0 q1 qz r0 r1 rz
              go_wp2_with fail
              refine (summed_any _).mono ?_
              rintro e w26 ⟨rfl, hb⟩
              go_wp2_with fail
              go_ret
              exact ⟨rfl, below_up hx hb⟩
end Go.Proofs.YtggnccafmadacaaGreatDoor
