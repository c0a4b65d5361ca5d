/- The walks of Fraction, Lowest, newFilm, MomentOf and its reference. -/
import Derived.Test.YtlnencloodlnbaaDoorEvD
namespace Go.Proofs.YtlnencloodlnbaaDoor
open Go.RowKit

def frN (n d : Int) : Int := n / gcdI n d
def frD (n d : Int) : Int := d / gcdI n d
theorem fr_facts (x y : Nat) (hy : 1 ≤ y) : frN x y = (x : Int) / (Nat.gcd x y : Int) ∧ frD x y = (y : Int) / (Nat.gcd x y : Int) ∧ 1 ≤ (Nat.gcd x y : Int) ∧ 0 ≤ (x : Int) / (Nat.gcd x y : Int) ∧ (x : Int) / (Nat.gcd x y : Int) ≤ x ∧ 0 ≤ (y : Int) / (Nat.gcd x y : Int) ∧ (y : Int) / (Nat.gcd x y : Int) ≤ y := by
  have g1 : 1 ≤ Nat.gcd x y := Nat.gcd_pos_of_pos_right _ (by omega)
  exact ⟨by simp [frN, gcdI], by simp [frD, gcdI], by omega, Int.ediv_nonneg (by omega) (by omega), Int.ediv_le_self _ (by omega), Int.ediv_nonneg (by omega) (by omega), Int.ediv_le_self _ (by omega)⟩
theorem Blk.out_ {w : World} {g : Nat} {t : TypeId} {cs : Array Value} (h : Blk w g t cs) : w.heap[g]? = some (.cells cs t (0, 0)) := h
theorem Blk.set {w : World} {g : Nat} {t : TypeId} {cs : Array Value} (h : Blk w g t cs) (i : Nat) (u : Value) : Blk (w.setCell ⟨g, i, none⟩ u) g t (cs.setIfInBounds i u) := by
  have := h.out_
  unfold Blk
  simp [World.setCell, Array.getElem?_modify, this]
theorem Blk.froze {w : World} {g : Nat} {t : TypeId} {cs : Array Value} (h : Blk w g t cs) (i : Nat) : w.frozen? ⟨g, i, none⟩ = false := by simp [World.frozen?, h.out_]
/-- A result of two cells, just stored. -/
theorem Blk.two {w : World} {g : Nat} {t : TypeId} {a b : Value} (h : Blk w g t #[a, b]) (x y : Value) :
    (w.setCell ⟨g, 0, none⟩ x).cell? ⟨g, 0, none⟩ = some x ∧ ((w.setCell ⟨g, 0, none⟩ x).setCell ⟨g, 1, none⟩ y).cell? ⟨g, 1, none⟩ = some y ∧ ((w.setCell ⟨g, 0, none⟩ x).setCell ⟨g, 1, none⟩ y).cell? ⟨g, 0, none⟩ = some x :=
  ⟨(h.set 0 x).cell 0, ((h.set 0 x).set 1 y).cell 1, ((h.set 0 x).set 1 y).cell 0⟩
theorem agg2_is {a b x y : Int} (h1 : a = x) (h2 : b = y) : Ending.returned (.agg #[.int .i64 a, .int .i64 b]) = .returned (.agg #[.int .i64 x, .int .i64 y]) := by rw [h1, h2]

set_option maxHeartbeats 400000 in
theorem newFilm_any (lo c : Nat) (A : Option Addr) (v : List St) (w : World) (hr : Row w lo 3 A v.length (trs v)) (hg : Good v) :
    Calls Tryd.prog 41 #[.slice A v.length c] w fun e w' => ∃ g, e = .returned (.pointer (some ⟨g, 0, none⟩)) ∧ Film w' g lo A c v ∧ Below w.heap.size w w' := by
  have hlen := hg.len
  have HS := hg.sum
  have HN := Lib.hid hg.nonneg
  have HF := Lib.hid fun s (hs : s ∈ v) => by have := hg.form s hs; exact (⟨by omega, by omega⟩ : 1 ≤ s.2.1 ∧ s.2.1 ≤ 1001000)
  clear hg
  go_enter Tryd.func41, Tryd.ntmps41
  go_wp2_with fail
  refine (multiple_any _ _ _ v _ hr (by omega) HF.out).mono ?_
  rintro e w1 ⟨rfl, hb1⟩
  have hr1 := hr.below hb1
  go_wp2_with fail
  refine (vframes_any _ _ _ v _ hr1 (by omega) HN.out (by omega)).mono ?_
  rintro e w2 ⟨rfl, hb2⟩
  have hr2 := hr1.below hb2
  have hb := below_up hb1 hb2
  have zz := hb.size
  clear hb1 hb2 hr1
  go_wp2_with fail
  go_ret
  exact ⟨_, rfl, ⟨Blk.new _ _ _, hr2.alloc _⟩, (by repeat (first | exact hb | refine Below.alloc ?_ (by first | omega | (simp; omega)) _ | refine below_drewN' ?_ _ | refine Below.drew ?_))⟩

def momE (v : List St) (f : Int) : Int := if vFault v = 0 then spanFault f 0 (fsum v) else vFault v
def momN (v : List St) (f : Int) : Int := if vFault v = 0 ∧ spanFault f 0 (fsum v) = 0 then frN (begM v f) (multK v) else 0
def momD (v : List St) (f : Int) : Int := if vFault v = 0 ∧ spanFault f 0 (fsum v) = 0 then frD (begM v f) (multK v) else 0
theorem momE_bad {v : List St} {f : Int} (h : ¬ vFault v = 0) : momE v f = vFault v ∧ momN v f = 0 ∧ momD v f = 0 := by simp [momE, momN, momD, h]
theorem momE_span {v : List St} {f : Int} (h : vFault v = 0) (h' : ¬ (0 ≤ f ∧ f ≤ fsum v)) : momE v f = 1 ∧ momN v f = 0 ∧ momD v f = 0 := by
  have := span_bad h'
  simp [momE, momN, momD, h, this]
theorem momE_ok {v : List St} {f : Int} (h : vFault v = 0) (h' : 0 ≤ f ∧ f ≤ fsum v) : momE v f = 0 ∧ momN v f = frN (begM v f) (multK v) ∧ momD v f = frD (begM v f) (multK v) := by
  have := span_ok h'
  simp [momE, momN, momD, h, this]
theorem begM_bd {v : List St} (h : Good v) (f : Int) : 0 ≤ begM v f ∧ begM v f ≤ 1000000000000000 := by
  have h1 := begK_bd h f v.length (Nat.le_refl _)
  rw [List.take_length] at h1
  have := h.sum
  unfold begM
  omega

theorem ret2a {a b : Value} {x y : Value} (h1 : a = x) (h2 : b = y) : Ending.returned (.tuple #[a, b]) = .returned (.tuple #[x, y]) := by rw [h1, h2]
end Go.Proofs.YtlnencloodlnbaaDoor
