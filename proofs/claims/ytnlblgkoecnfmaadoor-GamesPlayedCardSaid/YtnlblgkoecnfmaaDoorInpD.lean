/- The walks of HeldAt, spread, holds, Presses and their references, and of slices.Equal over pieces. -/
import Derived.Test.YtnlblgkoecnfmaaDoorInpC
namespace Go.Proofs.YtnlblgkoecnfmaaDoor
set_option linter.unusedVariables false
set_option linter.unusedSimpArgs false
open Go.RowKit

/-- What HeldAt hands back. -/
def heldR (ps : List (Int × Int)) (f : Int) : Int := if inFault ps = 0 ∧ spanFault f 0 200000 = 0 then heldL (unf ps) f else 0
def heldE (ps : List (Int × Int)) (f : Int) : Int := if inFault ps = 0 then spanFault f 0 200000 else inFault ps
theorem heldR_ok {ps : List (Int × Int)} {f : Int} (h : inFault ps = 0) (h' : spanFault f 0 200000 = 0) : heldR ps f = heldL (unf ps) f := by simp [heldR, h, h']
theorem heldR_bad {ps : List (Int × Int)} {f : Int} (h : ¬ (inFault ps = 0 ∧ spanFault f 0 200000 = 0)) : heldR ps f = 0 := by simp only [heldR, h, if_false]
theorem span_ok {f lo hi : Int} (h : lo ≤ f ∧ f ≤ hi) : spanFault f lo hi = 0 := by simp [spanFault, h]
theorem span_bad {f lo hi : Int} (h : ¬ (lo ≤ f ∧ f ≤ hi)) : spanFault f lo hi = 1 := by simp only [spanFault, h, if_false]

/-- A block known whole. -/
def Blk (w : World) (g : Nat) (t : TypeId) (cs : Array Value) : Prop := w.heap[g]? = some (.cells cs t (0, 0))
theorem Blk.lt {w : World} {g : Nat} {t : TypeId} {cs : Array Value} (h : Blk w g t cs) : g < w.heap.size := (Array.getElem?_eq_some_iff.1 h).1
theorem Blk.cell {w : World} {g : Nat} {t : TypeId} {cs : Array Value} (h : Blk w g t cs) (i : Nat) : w.cell? ⟨g, i, none⟩ = cs[i]? := cell_of_row w g i cs t (0, 0) h
theorem Blk.new (w : World) (t : TypeId) (cs : Array Value) : Blk (w.alloc (.cells cs t)) w.heap.size t cs := heap_alloc_new w _
theorem Blk.alloc {w : World} {g : Nat} {t : TypeId} {cs : Array Value} (h : Blk w g t cs) (o : Obj) : Blk (w.alloc o) g t cs := (Below.heap_alloc w o g h.lt).trans h
theorem Blk.drewN {w : World} {g : Nat} {t : TypeId} {cs : Array Value} (h : Blk w g t cs) (q : Nat) : Blk (w.drewN q) g t cs := h
theorem Blk.drew {w : World} {g : Nat} {t : TypeId} {cs : Array Value} (h : Blk w g t cs) : Blk w.drew g t cs := h
theorem Blk.below {w w' : World} {g : Nat} {t : TypeId} {cs : Array Value} (h : Blk w g t cs) (hb : Below w.heap.size w w') : Blk w' g t cs := (hb.block g h.lt).trans h
theorem Blk.app {w1 w2 : World} {g base n size : Nat} {t e : TypeId} {cs : Array Value} {v : Value} {xs : List Value} (hown : w1.ownsRow base e size v n xs) (h : Blk w1 g t cs) (hg : w1.grownBy w2 v.ownBlock) (hne : e ≠ t) : Blk w2 g t cs := by
  refine (hg.block g h.lt ?_).trans h
  rcases hown.2 with ⟨rfl, _⟩ | ⟨g', cap, cur, rfl, _, hh, _⟩
  · simp [Value.ownBlock]
  · intro he
    have : g = g' := by simpa [Value.ownBlock] using he
    subst this
    unfold Blk at h
    rw [hh] at h
    injection h with h
    injection h with _ h1
    exact hne h1

def u8s (xs : List Int) : List Value := xs.map (Value.int .u8)
theorem u8s_all (zs : List Int) : (u8s zs).all (·.oneCell') = true := List.all_eq_true.2 (ints_oneCell .u8 zs)
theorem u8s_app (a b : List Int) : u8s (a ++ b) = u8s a ++ u8s b := by simp [u8s]
theorem Row.u8_at {w : World} {lo : Nat} {A : Option Addr} {zs : List Int} (h : Row w lo 1 A zs.length (u8s zs)) {k : Nat} (hk : k < zs.length) :
    ∃ b off, A = some ⟨b, off, none⟩ ∧ lo ≤ b ∧ b < w.heap.size ∧ w.cell? ⟨b, off + k, none⟩ = some (.int .u8 zs[k]) := by
  obtain ⟨b, off, e, hl, hb, hc⟩ := h.2 (by omega)
  exact ⟨b, off, e, hl, hb, hc k _ (by simp [u8s, hk])⟩
theorem ty_u8s : SliceTy Tryd.prog 51 5 1 1 := .mk' Tryd.underlying51 (z := .int .u8 0) (by kernel_rfl) rfl (by decide)

set_option maxHeartbeats 1000000 in
theorem spread_any (A : Option Addr) (c lo : Nat) (ps : List (Int × Int)) (w : World) (hr : Row w lo 2 A ps.length (prs ps)) (hl : ps.length ≤ 1000000000) (hb : ∀ p ∈ ps, 0 ≤ p.2) (hv : ∀ p ∈ ps, 0 ≤ p.1 ∧ p.1 ≤ 255) (hs : psum ps ≤ 1000000000) :
    Calls Tryd.prog 33 #[.slice A ps.length c] w fun e w' => ∃ A' c', e = .returned (.slice A' (unf ps).length c') ∧ w'.ownsRow w.heap.size 5 1 (.slice A' (unf ps).length c') (unf ps).length (u8s (unf ps)) ∧ Below w.heap.size w w' := by
  obtain ⟨und, ⟨i0, z0, hi0, hz0, hz1, hz2, hz3⟩, _⟩ := ty_u8s
  have hs0 := psum_nonneg ps hb
  obtain ⟨m, hm⟩ := Int.eq_ofNat_of_zero_le hs0
  go_enter Tryd.func33, Tryd.ntmps33
  go_wp2_with fail
  refine (frames_any _ _ _ ps _ hr hl hb (by omega)).mono ?_
  rintro e w1 ⟨rfl, hb1⟩
  rw [hm]
  have hmm : m ≤ 1000000000 := by omega
  have HB := Lib.hid hb
  have HV := Lib.hid hv
  clear hm hs0 hb hv
  go_wp2_with (at_make; go_must (refine wpList_make_own _ rfl _ _ 51 rfl w.heap.size 5 i0 _ 1 und hi0 hz0 hz1 .i64 .i64 _ m rfl rfl rfl (by rw [hz2]; omega) (by simp only [maxLen]; omega) hb1.size ?_))
  intro w2 hown2 hg2
  have hb2 : Below w.heap.size w w2 := hb1.grown hg2 hb1.size (fun k hk => by cases hk)
  clear hg2
  go_wp2_with fail
  go_loopw [3, 11] (fun v i wr => ∃ (k : Nat) (A' : Option Addr) (c' : Nat), k ≤ ps.length ∧ i = .int .i64 k ∧ v = .slice A' (unf (ps.take k)).length c' ∧ wr.ownsRow w.heap.size 5 1 (.slice A' (unf (ps.take k)).length c') (unf (ps.take k)).length (u8s (unf (ps.take k))) ∧ Below w.heap.size w wr) (fun _ i _ => ps.length - (intOf i).toNat)
  case atStart => exact ⟨0, _, _, Nat.zero_le _, rfl, rfl, hown2, hb2⟩
  case round =>
    obtain ⟨k, A', c', hk, rfl, rfl, hown, hbw⟩ := hrel
    by_cases hlt : k < ps.length
    · obtain ⟨b, off, rfl, _, hbs, c0, c1⟩ := (hr.below hbw).pr_at hlt
      have HT := Lib.hid (unf_take ps k hlt)
      have hb0 := HB.out ps[k] (List.getElem_mem _)
      obtain ⟨hv0, hv1⟩ := HV.out ps[k] (List.getElem_mem _)
      obtain ⟨n, hn⟩ := Int.eq_ofNat_of_zero_le hb0
      have hu := unf_len (ps.take k) (fun p hp => HB.out p (List.mem_of_mem_take hp))
      have hps2 := psum_take_le ps (k + 1) HB.out
      have hps := psum_take_le ps k HB.out
      rw [psum_take ps k hlt, hn] at hps2
      rw [hn] at c1
      rw [← hu] at hps hps2
      clear hu
      have HT2 : Hid (unf (ps.take (k + 1)) = unf (ps.take k) ++ List.replicate n ps[k].1) := Lib.hid (by rw [HT.out, hn]; rfl)
      clear HT hn hb0
      generalize unf (ps.take k) = o at *
      generalize ps[k].1 = x at *
      have hz := hbw.size
      go_wp2_with fail
      obtain ⟨wo, rfl⟩ : ∃ wo : World, wo = wr := ⟨_, rfl⟩
      go_loopw [3, 17] (fun v i wr => ∃ (j : Nat) (A2 : Option Addr) (c2 : Nat), j ≤ n ∧ i = .int .i64 j ∧ v = .slice A2 (o ++ List.replicate j x).length c2 ∧ wr.ownsRow w.heap.size 5 1 (.slice A2 (o ++ List.replicate j x).length c2) (o ++ List.replicate j x).length (u8s (o ++ List.replicate j x)) ∧ Blk wr wo.heap.size 58 #[.int .i64 x, .int .i64 n] ∧ Below w.heap.size w wr) (fun _ i _ => n - (intOf i).toNat)
      case atStart => exact ⟨0, A', c', Nat.zero_le _, by first | rfl | simp, by simp, by simpa using (by repeat (first | exact hown | refine World.ownsRow.alloc ?_ _ | refine own_drewN ?_ _ | refine World.ownsRow.drew ?_)), Blk.new _ _ _, (by repeat (first | exact hbw | refine Below.alloc ?_ (by first | omega | (simp; omega)) _ | refine below_drewN' ?_ _ | refine Below.drew ?_))⟩
      case round =>
        obtain ⟨j, A2, c2, hj, rfl, rfl, hown3, hblk, hbw3⟩ := hrel
        have hcell := hblk.cell 0
        have HJ : Hid (o ++ List.replicate (j + 1) x = (o ++ List.replicate j x) ++ [x]) := Lib.hid (by rw [List.replicate_succ', List.append_assoc])
        have hlj : (o ++ List.replicate j x).length ≤ 1000000000 := by simp; omega
        have hz3 := hbw3.size
        by_cases hjn : j < n
        · generalize o ++ List.replicate j x = q at *
          go_wp2_with (at_builtin; go_must (refine wpList_app (lo := w.heap.size) (base := w.heap.size) (n := q.length) (xs := u8s q) _ _ rfl _ _ ty_u8s rfl (by repeat (first | exact hown3 | refine World.ownsRow.alloc ?_ _ | refine own_drewN ?_ _ | refine World.ownsRow.drew ?_)) rfl (by first | exact row_new' _ (by first | rfl | simp) (by first | omega | (simp; omega)) rfl | exact row_newN _ _ (by first | rfl | simp) (by first | omega | (simp; omega)) rfl | exact row_newD _ (by first | rfl | simp) (by first | omega | (simp; omega)) rfl) rfl rfl (by first | omega | decide) (by first | omega | decide) (by first | omega | (simp; omega)) ?_))
          intro A5 c5 w5 hown5 hg5 _
          go_wp2_with fail
          go_roundw
          case rel => exact ⟨j + 1, A5, c5, by omega, by go_num, by rw [HJ.out]; simp, by rw [HJ.out, u8s_app, List.length_append]; exact hown5, Blk.app (hown3.alloc _) (hblk.alloc _) hg5 (by decide), below_app hown3 (by repeat (first | exact hbw3 | refine Below.alloc ?_ (by first | omega | (simp; omega)) _ | refine below_drewN' ?_ _ | refine Below.drew ?_)) hg5 (Nat.le_refl _) (by simp; omega)⟩
          case measure => simp [intOf]; omega
        · have HE : Hid (unf (ps.take (k + 1)) = o ++ List.replicate j x) := Lib.hid (by rw [HT2.out, show j = n by omega])
          clear HJ HT2
          generalize o ++ List.replicate j x = q at *
          go_wp2_with fail
          go_roundw
          case rel => exact ⟨k + 1, A2, c2, by omega, by go_num, by rw [HE.out], by rw [HE.out]; exact hown3, hbw3⟩
          case measure => simp [intOf]; omega
    · have ht : ps.take k = ps := List.take_of_length_le (by omega)
      rw [ht] at hown
      rw [ht]
      clear ht
      go_wp2_with fail
      go_ret
      exact ⟨A', c', rfl, hown, hbw⟩
end Go.Proofs.YtnlblgkoecnfmaaDoor
