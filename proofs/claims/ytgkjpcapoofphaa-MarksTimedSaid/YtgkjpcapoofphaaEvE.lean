/- The walks of Fraction, Lowest, newFilm, MomentOf and its reference. -/
import Derived.Test.YtgkjpcapoofphaaEvD
namespace Go.Proofs.Ytgkjpcapoofphaa
open Go.RowKit

def frN (n d : Int) : Int := n / gcdI n d
def frD (n d : Int) : Int := d / gcdI n d
theorem fr_facts (x y : Nat) (hy : 1 ≤ y) : frN x y = (x : Int) / (Nat.gcd x y : Int) ∧ frD x y = (y : Int) / (Nat.gcd x y : Int) ∧ 1 ≤ (Nat.gcd x y : Int) ∧ 0 ≤ (x : Int) / (Nat.gcd x y : Int) ∧ (x : Int) / (Nat.gcd x y : Int) ≤ x ∧ 0 ≤ (y : Int) / (Nat.gcd x y : Int) ∧ (y : Int) / (Nat.gcd x y : Int) ≤ y := by
  have g1 : 1 ≤ Nat.gcd x y := Nat.gcd_pos_of_pos_right _ (by omega)
  exact ⟨by simp [frN, gcdI], by simp [frD, gcdI], by omega, Int.ediv_nonneg (by omega) (by omega), Int.ediv_le_self _ (by omega), Int.ediv_nonneg (by omega) (by omega), Int.ediv_le_self _ (by omega)⟩
theorem Blk.out_ {w : World} {g : Nat} {t : TypeId} {cs : Array Value} (h : Blk w g t cs) : w.heap[g]? = some (.cells cs t (0, 0)) := h
theorem Blk.set {w : World} {g : Nat} {t : TypeId} {cs : Array Value} (h : Blk w g t cs) (i : Nat) (u : Value) : Blk (w.setCell ⟨g, i, none⟩ u) g t (cs.setIfInBounds i u) := by
  have := h.out_
  unfold Blk
  simp [World.setCell, Array.getElem?_modify, this]
theorem Blk.froze {w : World} {g : Nat} {t : TypeId} {cs : Array Value} (h : Blk w g t cs) (i : Nat) : w.frozen? ⟨g, i, none⟩ = false := by simp [World.frozen?, h.out_]
/-- A result of two cells, just stored. -/
theorem Blk.two {w : World} {g : Nat} {t : TypeId} {a b : Value} (h : Blk w g t #[a, b]) (x y : Value) :
    (w.setCell ⟨g, 0, none⟩ x).cell? ⟨g, 0, none⟩ = some x ∧ ((w.setCell ⟨g, 0, none⟩ x).setCell ⟨g, 1, none⟩ y).cell? ⟨g, 1, none⟩ = some y ∧ ((w.setCell ⟨g, 0, none⟩ x).setCell ⟨g, 1, none⟩ y).cell? ⟨g, 0, none⟩ = some x :=
  ⟨(h.set 0 x).cell 0, ((h.set 0 x).set 1 y).cell 1, ((h.set 0 x).set 1 y).cell 0⟩
theorem agg2_is {a b x y : Int} (h1 : a = x) (h2 : b = y) : Ending.returned (.agg #[.int .i64 a, .int .i64 b]) = .returned (.agg #[.int .i64 x, .int .i64 y]) := by rw [h1, h2]

set_option maxHeartbeats 400000 in
theorem fraction_any (n d : Int) (w : World) (hn : 0 ≤ n) (hn' : n ≤ 9223372036854775807) (hd : 1 ≤ d) (hd' : d ≤ 9223372036854775807) :
    Calls Try.prog 78 #[.int .i64 n, .int .i64 d] w fun e w' => e = .returned (.agg #[.int .i64 (frN n d), .int .i64 (frD n d)]) ∧ Below w.heap.size w w' := by
  obtain ⟨x, rfl⟩ := Int.eq_ofNat_of_zero_le hn
  obtain ⟨y, rfl⟩ := Int.eq_ofNat_of_zero_le (show 0 ≤ d by omega)
  obtain ⟨e1, e2, g1, a1, a2, b1, b2⟩ := fr_facts x y (by omega)
  have E1 := Lib.hid e1
  have E2 := Lib.hid e2
  clear e1 e2
  have g0 : ((Nat.gcd x y : Int) == 0) = false := by simp; omega
  have wr1 : IntKind.i64.wrap ((x : Int) / (Nat.gcd x y : Int)) = (x : Int) / (Nat.gcd x y : Int) := IntWalk.i64_in _ ⟨by omega, by omega⟩
  have wr2 : IntKind.i64.wrap ((y : Int) / (Nat.gcd x y : Int)) = (y : Int) / (Nat.gcd x y : Int) := IntWalk.i64_in _ ⟨by omega, by omega⟩
  rcases Nat.eq_zero_or_pos x with h0 | h0
  · subst h0
    have Z1 : Hid (frN 0 y = 0) := Lib.hid (by simp [frN])
    have Z3 : Hid ((y : Int) / (y : Int) = 1) := Lib.hid (Int.ediv_self (by omega))
    have Z2 : Hid (frD 0 y = 1) := Lib.hid (by unfold frD gcdI; simp; exact Z3.out)
    have Z4 : Hid (wrap64 1 = 1) := Lib.hid (by unfold wrap64; omega)
    go_enter Try.func78, Try.ntmps78
    go_wp2_with fail
    refine (gcd_any 0 y _ (by omega) (by omega)).mono ?_
    rintro e w1 ⟨rfl, q, rfl⟩
    go_wp2_with fail
    go_region
    all_goals
      clear wr1 wr2
      go_wp2_with fail
      refine bodyPost_ret (v := .agg #[.int .i64 (frN (0 : Nat) y), .int .i64 (frD (0 : Nat) y)]) (by simp [results, Try.results78, go_sem, Z1.out, Z2.out, Z3.out, Z4.out]) rfl ?_
      exact ⟨rfl, Below.setCell (Below.setCell (by repeat (first | exact Below.refl _ _ | refine Below.alloc ?_ (by first | omega | (simp; omega)) _ | refine below_drewN' ?_ _ | refine Below.drew ?_)) (by simp) _) (by simp) _⟩
  · have hx : ¬ ((x : Int) ≤ -(x : Int)) := by omega
    have hx' : (-(x : Int)) < (x : Int) := by omega
    go_enter Try.func78, Try.ntmps78
    go_wp2_with fail
    refine (gcd_any x y _ (by omega) (by omega)).mono ?_
    rintro e w1 ⟨rfl, q, rfl⟩
    go_wp2_with fail
    go_region
    all_goals
      clear wr1 wr2
      go_wp2_with fail
      refine bodyPost_ret (v := .agg #[.int .i64 (frN x y), .int .i64 (frD x y)]) (by simp [results, Try.results78, go_sem, E1.out, E2.out]) rfl ?_
      exact ⟨rfl, Below.setCell (Below.setCell (by repeat (first | exact Below.refl _ _ | refine Below.alloc ?_ (by first | omega | (simp; omega)) _ | refine below_drewN' ?_ _ | refine Below.drew ?_)) (by simp) _) (by simp) _⟩

set_option maxHeartbeats 400000 in
theorem rlowest_any (n d : Int) (w : World) (hn : 0 ≤ n) (hn' : n ≤ 9223372036854775807) (hd : 1 ≤ d) (hd' : d ≤ 9223372036854775807) :
    Calls Try.prog 81 #[.int .i64 n, .int .i64 d] w fun e w' => e = .returned (.agg #[.int .i64 (frN n d), .int .i64 (frD n d)]) ∧ Below w.heap.size w w' := by
  obtain ⟨x, rfl⟩ := Int.eq_ofNat_of_zero_le hn
  obtain ⟨y, rfl⟩ := Int.eq_ofNat_of_zero_le (show 0 ≤ d by omega)
  obtain ⟨e1, e2, g1, a1, a2, b1, b2⟩ := fr_facts x y (by omega)
  have E1 := Lib.hid e1
  have E2 := Lib.hid e2
  clear e1 e2
  have g0 : ((Nat.gcd x y : Int) == 0) = false := by simp; omega
  have wr1 : IntKind.i64.wrap ((x : Int) / (Nat.gcd x y : Int)) = (x : Int) / (Nat.gcd x y : Int) := IntWalk.i64_in _ ⟨by omega, by omega⟩
  have wr2 : IntKind.i64.wrap ((y : Int) / (Nat.gcd x y : Int)) = (y : Int) / (Nat.gcd x y : Int) := IntWalk.i64_in _ ⟨by omega, by omega⟩
  rcases Nat.eq_zero_or_pos x with h0 | h0
  · subst h0
    have Z1 : Hid (frN 0 y = 0) := Lib.hid (by simp [frN])
    have Z3 : Hid ((y : Int) / (y : Int) = 1) := Lib.hid (Int.ediv_self (by omega))
    have Z2 : Hid (frD 0 y = 1) := Lib.hid (by unfold frD gcdI; simp; exact Z3.out)
    have Z4 : Hid (wrap64 1 = 1) := Lib.hid (by unfold wrap64; omega)
    go_enter Try.func81, Try.ntmps81
    go_wp2_with fail
    refine (divisor_any 0 y _ (by omega) (by omega)).mono ?_
    rintro e w1 ⟨rfl, q, rfl⟩
    go_wp2_with fail
    go_region
    all_goals
      clear wr1 wr2
      go_wp2_with fail
      refine bodyPost_ret (v := .agg #[.int .i64 (frN (0 : Nat) y), .int .i64 (frD (0 : Nat) y)]) (by simp [results, Try.results81, go_sem, Z1.out, Z2.out, Z3.out, Z4.out]) rfl ?_
      exact ⟨rfl, Below.setCell (Below.setCell (by repeat (first | exact Below.refl _ _ | refine Below.alloc ?_ (by first | omega | (simp; omega)) _ | refine below_drewN' ?_ _ | refine Below.drew ?_)) (by simp) _) (by simp) _⟩
  · have hx : ¬ ((x : Int) ≤ -(x : Int)) := by omega
    have hx' : (-(x : Int)) < (x : Int) := by omega
    go_enter Try.func81, Try.ntmps81
    go_wp2_with fail
    refine (divisor_any x y _ (by omega) (by omega)).mono ?_
    rintro e w1 ⟨rfl, q, rfl⟩
    go_wp2_with fail
    go_region
    all_goals
      clear wr1 wr2
      go_wp2_with fail
      refine bodyPost_ret (v := .agg #[.int .i64 (frN x y), .int .i64 (frD x y)]) (by simp [results, Try.results81, go_sem, E1.out, E2.out]) rfl ?_
      exact ⟨rfl, Below.setCell (Below.setCell (by repeat (first | exact Below.refl _ _ | refine Below.alloc ?_ (by first | omega | (simp; omega)) _ | refine below_drewN' ?_ _ | refine Below.drew ?_)) (by simp) _) (by simp) _⟩

set_option maxHeartbeats 400000 in
theorem newFilm_any (lo c : Nat) (A : Option Addr) (v : List St) (w : World) (hr : Row w lo 3 A v.length (trs v)) (hg : Good v) :
    Calls Try.prog 77 #[.slice A v.length c] w fun e w' => ∃ g, e = .returned (.pointer (some ⟨g, 0, none⟩)) ∧ Film w' g lo A c v ∧ Below w.heap.size w w' := by
  have hlen := hg.len
  have HS := hg.sum
  have HN := Lib.hid hg.nonneg
  have HF := Lib.hid fun s (hs : s ∈ v) => by have := hg.form s hs; exact (⟨by omega, by omega⟩ : 1 ≤ s.2.1 ∧ s.2.1 ≤ 1001000)
  clear hg
  go_enter Try.func77, Try.ntmps77
  go_wp2_with fail
  refine (multiple_any _ _ _ v _ hr (by omega) HF.out).mono ?_
  rintro e w1 ⟨rfl, hb1⟩
  have hr1 := hr.below hb1
  go_wp2_with fail
  refine (vframes_any _ _ _ v _ hr1 (by omega) HN.out (by omega)).mono ?_
  rintro e w2 ⟨rfl, hb2⟩
  have hr2 := hr1.below hb2
  have hb := below_up hb1 hb2
  have zz := hb.size
  clear hb1 hb2 hr1
  go_wp2_with fail
  go_ret
  exact ⟨_, rfl, ⟨Blk.new _ _ _, hr2.alloc _⟩, (by repeat (first | exact hb | refine Below.alloc ?_ (by first | omega | (simp; omega)) _ | refine below_drewN' ?_ _ | refine Below.drew ?_))⟩

def momE (v : List St) (f : Int) : Int := if vFault v = 0 then spanFault f 0 (fsum v) else vFault v
def momN (v : List St) (f : Int) : Int := if vFault v = 0 ∧ spanFault f 0 (fsum v) = 0 then frN (begM v f) (multK v) else 0
def momD (v : List St) (f : Int) : Int := if vFault v = 0 ∧ spanFault f 0 (fsum v) = 0 then frD (begM v f) (multK v) else 0
theorem momE_bad {v : List St} {f : Int} (h : ¬ vFault v = 0) : momE v f = vFault v ∧ momN v f = 0 ∧ momD v f = 0 := by simp [momE, momN, momD, h]
theorem momE_span {v : List St} {f : Int} (h : vFault v = 0) (h' : ¬ (0 ≤ f ∧ f ≤ fsum v)) : momE v f = 1 ∧ momN v f = 0 ∧ momD v f = 0 := by
  have := span_bad h'
  simp [momE, momN, momD, h, this]
theorem momE_ok {v : List St} {f : Int} (h : vFault v = 0) (h' : 0 ≤ f ∧ f ≤ fsum v) : momE v f = 0 ∧ momN v f = frN (begM v f) (multK v) ∧ momD v f = frD (begM v f) (multK v) := by
  have := span_ok h'
  simp [momE, momN, momD, h, this]
theorem begM_bd {v : List St} (h : Good v) (f : Int) : 0 ≤ begM v f ∧ begM v f ≤ 1000000000000000 := by
  have h1 := begK_bd h f v.length (Nat.le_refl _)
  rw [List.take_length] at h1
  have := h.sum
  unfold begM
  omega

set_option maxHeartbeats 1000000 in
theorem momentAt_any (lo c : Nat) (A : Option Addr) (v : List St) (f : Int) (w : World) (hr : Row w lo 3 A v.length (trs v)) (hg : Good v) (hf0 : 0 ≤ f) (hf1 : f ≤ 1000000000000) :
    Calls Try.prog 31 #[.slice A v.length c, .int .i64 f] w fun e w' => e = .returned (.agg #[.int .i64 (frN (begM v f) (multK v)), .int .i64 (frD (begM v f) (multK v))]) ∧ Below w.heap.size w w' := by
  have hlen := hg.len
  have HG := Lib.hid hg
  have m1 := hg.mbd
  have m2 := hg.mul
  obtain ⟨b1, b2⟩ := begM_bd hg f
  have HF := Lib.hid fun s (hs : s ∈ v) => by have := hg.form s hs; exact (⟨by omega, by omega⟩ : 1 ≤ s.2.1 ∧ s.2.1 ≤ 1001000)
  clear hg
  go_enter Try.func31, Try.ntmps31
  go_wp2_with fail
  refine (ticks_any _ _ _ v _ _ (hr.alloc _) HG.out hf0 hf1).mono ?_
  rintro e w1 ⟨rfl, hb1⟩
  have hr1 := (hr.alloc _).below hb1
  have kb1 := (Blk.new _ _ _).below hb1
  have hx := below_up ((Below.refl w.heap.size w).alloc (Nat.le_refl _) _) hb1
  clear hb1
  go_wp2_with fail
  refine (common_any _ _ _ v _ hr1 (by omega) HF.out).mono ?_
  rintro e w2 ⟨rfl, hb2⟩
  have kb2 := kb1.below hb2
  replace hx := below_up hx hb2
  clear hb2 kb1
  go_wp2_with fail
  refine (rlowest_any _ _ _ b1 (by omega) m1 (by omega)).mono ?_
  rintro e w3 ⟨rfl, hb3⟩
  have kb3 := kb2.below hb3
  replace hx := below_up hx hb3
  clear hb3 kb2
  have k0 := kb3.cell 0
  have k1 := kb3.cell 1
  have kf0 := kb3.froze 0
  have kf1 := kb3.froze 1
  go_wp2_with fail
  obtain ⟨s0, s1, _⟩ := kb3.two (.int .i64 (frN (begM v f) (multK v))) (.int .i64 (frD (begM v f) (multK v)))
  refine bodyPost_ret (v := .agg #[.int .i64 (frN (begM v f) (multK v)), .int .i64 (frD (begM v f) (multK v))]) (by simp [results, Try.results31, go_sem, s0, s1]) rfl ?_
  exact ⟨rfl, Below.setCell (Below.setCell hx (by simp) _) (by simp) _⟩

theorem ret2a {a b : Value} {x y : Value} (h1 : a = x) (h2 : b = y) : Ending.returned (.tuple #[a, b]) = .returned (.tuple #[x, y]) := by rw [h1, h2]
set_option maxHeartbeats 2000000 in
theorem momentOf_any (lo c : Nat) (A : Option Addr) (v : List St) (f : Int) (w : World) (hr : Row w lo 3 A v.length (trs v)) (hl : v.length ≤ 1000000000) (hi : ∀ s ∈ v, s.2.1 ≤ 9223372036854775807) :
    Calls Try.prog 27 #[.slice A v.length c, .int .i64 f] w fun e w' => e = .returned (.tuple #[.agg #[.int .i64 (momN v f), .int .i64 (momD v f)], .int .i64 (momE v f)]) ∧ Below w.heap.size w w' := by
  have HI := Lib.hid hi
  clear hi
  go_enter Try.func27, Try.ntmps27
  go_wp2_with fail
  refine (checkVideo_any _ _ _ v _ (hr.alloc _) hl HI.out).mono ?_
  rintro e w1 ⟨rfl, hb1⟩
  have hr1 := (hr.alloc _).below hb1
  have kb1 := (Blk.new _ _ _).below hb1
  have hx := below_up ((Below.refl w.heap.size w).alloc (Nat.le_refl _) _) hb1
  clear hb1
  have k0 := kb1.cell 0
  have k1 := kb1.cell 1
  have kf0 := kb1.froze 0
  have kf1 := kb1.froze 1
  by_cases h0 : vFault v = 0
  · have HG := Lib.hid (vFault_ok h0)
    have HOK := Lib.hid (momE_ok (f := f) h0)
    have HSP := Lib.hid (momE_span (f := f) h0)
    have h0' : (vFault v != 0) = false := by simpa using h0
    have hsum := HG.out.sum
    have m1 := HG.out.mbd
    have m2 := HG.out.mul
    clear h0
    go_wp2_with fail
    refine (newFilm_any _ _ _ v _ hr1 HG.out).mono ?_
    rintro e w2 ⟨g, rfl, hfm, hb2⟩
    have kb2 := kb1.below hb2
    replace hx := below_up hx hb2
    clear hb2 hr1 k0 k1 kf0 kf1 kb1 h0'
    obtain ⟨f0, f1, f2⟩ := hfm.cells
    have k0 := kb2.cell 0
    have k1 := kb2.cell 1
    have kf0 := kb2.froze 0
    have kf1 := kb2.froze 1
    go_wp2_with fail
    refine (out_any _ _ _ _).mono ?_
    rintro e w3 ⟨rfl, rfl⟩
    by_cases h1 : 0 ≤ f ∧ f ≤ fsum v
    · have h1' : (decide (f < 0) || decide (fsum v < f)) = false := by simp; omega
      rw [h1']
      clear h1'
      obtain ⟨e1, e2, e3⟩ := HOK.out h1
      obtain ⟨h11, h12⟩ := h1
      have E1 := Lib.hid e1
      have E2 := Lib.hid e2
      have E3 := Lib.hid e3
      obtain ⟨b1, b2⟩ := begM_bd HG.out f
      clear e1 e2 e3 HOK HSP k0 k1 kf0 kf1
      go_wp2_with fail
      clear f0 f2
      have hz := kb2.lt
      have hfd : Film w2.drew g lo A c v := hfm
      have kbd : Blk w2.drew w.heap.size 51 #[.int .i64 0, .int .i64 0] := kb2
      have hxd : Below w.heap.size w w2.drew := hx.drew
      go_region_with (first | (go_at_call 79; refine (begin_any g lo c A v f _ hfd HG.out h11 (by omega)).mono ?_; rintro e w5 ⟨rfl, hb5⟩; have kb5 := kbd.below hb5; have hx5 : Below w.heap.size w w5 := below_up hxd hb5; obtain ⟨x0, x1, x2⟩ := (hfd.below hb5).cells) | (go_at_call 78; refine (fraction_any _ _ _ b1 (by omega) m1 (by omega)).mono ?_; rintro e w6 ⟨rfl, hb6⟩; have kb6 := kb5.below hb6; have hx6 : Below w.heap.size w w6 := below_up hx5 hb6; have y0 := kb6.cell 0; have y1 := kb6.cell 1; have yf0 := kb6.froze 0; have yf1 := kb6.froze 1))
      all_goals
        go_wp2_with fail
        obtain ⟨s0, s1, _⟩ := kb6.two (.int .i64 (frN (begM v f) (multK v))) (.int .i64 (frD (begM v f) (multK v)))
        refine bodyPost_ret (v := .tuple #[.agg #[.int .i64 (frN (begM v f) (multK v)), .int .i64 (frD (begM v f) (multK v))], .int .i64 0]) (by simp [results, Try.results27, go_sem, s0, s1]) rfl ?_
        exact ⟨by rw [E1.out, E2.out, E3.out], Below.setCell (Below.setCell hx6 (by simp) _) (by simp) _⟩
    · have h1' : (decide (f < 0) || decide (fsum v < f)) = true := by simp; omega
      rw [h1']
      obtain ⟨e1, e2, e3⟩ := HSP.out h1
      have E1 := Lib.hid e1
      have E2 := Lib.hid e2
      have E3 := Lib.hid e3
      clear h1 h1' e1 e2 e3
      go_wp2_with fail
      obtain ⟨s0, s1, _⟩ := kb2.two (.int .i64 0) (.int .i64 0)
      refine bodyPost_ret (v := .tuple #[.agg #[.int .i64 0, .int .i64 0], .int .i64 1]) (by simp [results, Try.results27, go_sem, s0, s1]) rfl ?_
      exact ⟨by rw [E1.out, E2.out, E3.out], Below.setCell (Below.setCell hx (by simp) _) (by simp) _⟩
  · have h0' : (vFault v != 0) = true := by simpa using h0
    obtain ⟨e1, e2, e3⟩ := momE_bad (f := f) h0
    have E1 := Lib.hid e1
    have E2 := Lib.hid e2
    have E3 := Lib.hid e3
    clear h0 e1 e2 e3
    go_wp2_with fail
    obtain ⟨s0, s1, _⟩ := kb1.two (.int .i64 0) (.int .i64 0)
    refine bodyPost_ret (v := .tuple #[.agg #[.int .i64 0, .int .i64 0], .int .i64 (vFault v)]) (by simp [results, Try.results27, go_sem, s0, s1]) rfl ?_
    exact ⟨by rw [E1.out, E2.out, E3.out], Below.setCell (Below.setCell hx (by simp) _) (by simp) _⟩
end Go.Proofs.Ytgkjpcapoofphaa
