/- Texts of this seat, laid together: Cho. -/
import Derived.Handy
import Derived.Test.YtdidcjhgdofgcaaGreatDoorBc12
import Derived.Test.YtdidcjhgdofgcaaGreatDoorBc05
import Derived.Test.YtdidcjhgdofgcaaGreatDoorBc02
import Derived.Test.YtdidcjhgdofgcaaGreatDoorBc13
/- The walk of splitref1.ChainOf: the sums of all blocks. -/
namespace Go.Proofs.YtdidcjhgdofgcaaGreatDoor
set_option linter.unusedVariables false
set_option linter.unusedSimpArgs false
open Go.RowKit Go.Sort

def bytesI (s : List UInt8) : List Int := s.map fun c => (c.toNat : Int)
/-- The k-th block of what is held. -/
def blkC (xs : List Int) (k : Nat) : List Int := (xs.drop (60 * k)).take 60
def lastC (xs : List Int) (start : List UInt8) : Nat → List UInt8
  | 0 => start
  | k + 1 => sumT (bytesI (lastC xs start k) ++ blkC xs k)
def chainT (xs : List Int) (start : List UInt8) (n : Nat) : List (List UInt8) := (List.range n).map fun k => lastC xs start (k + 1)
def nBlk (xs : List Int) : Nat := (xs.length + 59) / 60
theorem chainT_next (xs : List Int) (start : List UInt8) (n : Nat) : chainT xs start (n + 1) = chainT xs start n ++ [lastC xs start (n + 1)] := by simp [chainT, List.range_succ]
theorem chainT_len (xs : List Int) (start : List UInt8) (n : Nat) : (chainT xs start n).length = n := by simp [chainT]
theorem sumT_len (xs : List Int) : (sumT xs).length = 16 := by
  have := hexT_le _ (fnvK_lt xs xs.length)
  unfold sumT
  rw [List.length_append, Lib.repeatL_length]
  simp; omega
theorem lastC_len (xs : List Int) {start : List UInt8} (h : start.length ≤ 1000) : ∀ k, (lastC xs start k).length ≤ 1000
  | 0 => h
  | k + 1 => by show (sumT _).length ≤ _; rw [sumT_len]; decide
theorem bytesI_in (s : List UInt8) : ∀ x ∈ bytesI s, 0 ≤ x ∧ x ≤ 255 := fun x hx => by
  obtain ⟨c, _, rfl⟩ := List.mem_map.1 hx
  have := c.toNat_lt
  omega
theorem row_dropI {w : World} {lo c : Nat} {A : Option Addr} {ds : List Int} (h : Row w lo 1 A ds.length (ints ds)) (hc : ds.length ≤ c) (j : Nat) : Row w lo 1 (if c = j then A else A.map fun x => x.add j) (ds.drop j).length (ints (ds.drop j)) := by
  refine ⟨by simp [ints], fun hp => ?_⟩
  rw [List.length_drop] at hp
  obtain ⟨b, off, e, hl, hb, hcl⟩ := h.2 (by omega)
  refine ⟨b, off + j, ?_, hl, hb, fun i u hu => ?_⟩
  · rw [if_neg (by omega), e]
    simp [Addr.add_lit]
  · have := hcl (j + i) u (by
      unfold ints at hu ⊢
      rw [List.map_drop, List.getElem?_drop] at hu
      exact hu)
    rw [← Nat.add_assoc] at this
    exact this
theorem unf_in {ps : List (Int × Int)} (h : ∀ p ∈ ps, 0 ≤ p.1 ∧ p.1 ≤ 63) : ∀ x ∈ unf ps, 0 ≤ x ∧ x ≤ 63 := fun x hx => by
  unfold unf at hx
  obtain ⟨p, hp, hx⟩ := List.mem_flatMap.1 hx
  rw [(List.mem_replicate.1 hx).2]
  exact h p hp
def slcN : Value → Nat
  | .slice _ n _ => n
  | _ => 0
set_option maxHeartbeats 4000000 in
set_option maxRecDepth 100000 in
theorem chainOf_any (A : Option Addr) (c lo : Nat) (ps : List (Int × Int)) (start : List UInt8) (w : World) (hr : Row w lo 2 A ps.length (prs ps)) (hf : inFault ps = 0) (hs : start.length ≤ 1000) (hT : Tz w) :
    Calls Tryz.prog 12 #[.slice A ps.length c, encStr start] w fun e w' => ∃ A' c', e = .returned (.slice A' (nBlk (unf ps)) c') ∧ w'.ownsRow w.heap.size 9 1 (.slice A' (nBlk (unf ps)) c') (nBlk (unf ps)) (strs (chainT (unf ps) start (nBlk (unf ps)))) ∧ Below w.heap.size w w' := by
  have HF := Lib.hid (inFault_ok hf)
  have hl := HF.out.1
  have hul : ((unf ps).length : Int) = psum ps := unf_len ps (fun p hp => by have := HF.out.2.1 p hp; omega)
  have hsum := HF.out.2.2
  have HT := Lib.hid hT
  clear hT hf
  go_enter Tryz.func12, Tryz.ntmps12
  go_wp2_with fail
  refine (unfolded_any _ _ _ ps _ hr (by omega) (fun p hp => by have := HF.out.2.1 p hp; omega) (by omega)).mono ?_
  rintro e w1 ⟨A1, c1, rfl, hown, hb1⟩
  have hxl : (unf ps).length ≤ 200000 := by omega
  have HU : Hid (∀ x ∈ unf ps, 0 ≤ x ∧ x ≤ 63) := Lib.hid (unf_in (fun p hp => by have := HF.out.2.1 p hp; omega))
  have HT1 := Lib.hid (HT.out.below hb1)
  have hr1 := Row.of_own hown
  have hown1 := hown
  have hz1 := hb1.size
  have HLL := Lib.hid (lastC_len (unf ps) hs)
  clear hul hsum hr HF HT hown hl
  generalize hxs : unf ps = xs at *
  have HXS := Lib.hid hxs
  clear hxs
  go_wp2_with fail
  have hc1 : xs.length ≤ c1 := by
    rcases hown1.2 with ⟨h1, h2⟩ | ⟨g, cap, cur, hv, _, _, h3, _⟩
    · rw [h2]; exact Nat.zero_le _
    · injection hv with _ _ h4
      omega
  clear hown1
  go_loopw [1, 5, 6] (fun s o x wr => ∃ (k : Nat) (A' : Option Addr) (c' : Nat) (AX : Option Addr) (cx : Nat), k ≤ nBlk xs ∧ s = encStr (lastC xs start k) ∧ o = .slice A' k c' ∧ wr.ownsRow w1.heap.size 9 1 (.slice A' k c') k (strs (chainT xs start k)) ∧ x = .slice AX (xs.drop (60 * k)).length cx ∧ Row w1 0 1 AX (xs.drop (60 * k)).length (ints (xs.drop (60 * k))) ∧ (xs.drop (60 * k)).length ≤ cx ∧ Below w1.heap.size w1 wr) (fun _ _ x _ => slcN x)
  case atStart => exact ⟨0, none, 0, A1, c1, Nat.zero_le _, rfl, rfl, World.ownsRow_nil _ _ _ _, rfl, hr1.weak (Nat.zero_le _), hc1, Below.refl _ _⟩
  case round =>
    obtain ⟨k, A', c', AX, cx, hk, rfl, rfl, hown, rfl, hrx, hcx, hbw⟩ := hrel
    have hdl : (xs.drop (60 * k)).length = xs.length - 60 * k := List.length_drop
    have HBK : Hid (blkC xs k = (xs.drop (60 * k)).take 60) := Lib.hid rfl
    have HLC : Hid (lastC xs start (k + 1) = sumT (bytesI (lastC xs start k) ++ blkC xs k)) := Lib.hid rfl
    have HNX : Hid (xs.drop (60 * (k + 1)) = (xs.drop (60 * k)).drop 60) := Lib.hid (by rw [List.drop_drop]; congr 1)
    have HCN := Lib.hid (chainT_next xs start k)
    have hll := HLL.out k
    have hkb : k ≤ 200000 := by unfold nBlk at hk; omega
    have HDU : Hid (∀ x ∈ xs.drop (60 * k), 0 ≤ x ∧ x ≤ 63) := Lib.hid (fun x hx => HU.out x (List.mem_of_mem_drop hx))
    by_cases h0 : (xs.drop (60 * k)).length = 0
    · have hkn : k = nBlk xs := by unfold nBlk at hk ⊢; omega
      have h0' : ¬ (0 : Int) < ((xs.drop (60 * k)).length : Int) := by omega
      subst hkn
      clear hdl
      generalize xs.drop (60 * nBlk xs) = ds at *
      go_wp2_with fail
      go_ret
      rw [HXS.out]
      exact ⟨A', c', rfl, own_weak hown hz1, below_up hb1 hbw⟩
    · have hk1 : k + 1 ≤ nBlk xs := by unfold nBlk; omega
      have hnn : (0 : Int) < ((xs.drop (60 * k)).length : Int) := by omega
      have hdx : (xs.drop (60 * k)).length ≤ 200000 := by omega
      obtain ⟨vb, wb, hcv, hbr, hbb⟩ := BRow.conv (lastC xs start k) wr 9 74 (by kernel_rfl) (by kernel_rfl)
      generalize lastC xs start k = sk at *
      generalize xs.drop (60 * k) = ds at *
      obtain ⟨n, hn⟩ : ∃ n : Nat, n = min ds.length 60 := ⟨_, rfl⟩
      have hmin : min (ds.length : Int) 60 = (n : Int) := by omega
      have hn1 : 0 < n := by omega
      have hn2 : n ≤ ds.length := by omega
      have hn3 : n ≤ 60 := by omega
      have HTK : Hid (ds.take 60 = ds.take n) := Lib.hid (by
        rcases Nat.le_total ds.length 60 with h | h
        · rw [List.take_of_length_le h, List.take_of_length_le (by omega)]
        · rw [show n = 60 by omega])
      have HDR : Hid (ds.drop 60 = ds.drop n) := Lib.hid (by
        rcases Nat.le_total ds.length 60 with h | h
        · rw [List.drop_of_length_le h, List.drop_of_length_le (by omega)]
        · rw [show n = 60 by omega])
      clear hn hdl h0
      have hmax : max (n : Int) 0 = (n : Int) := by omega
      have hdp : decide (0 < ds.length) = true := by simp; omega
      go_wp2_with fail
      generalize wr = wo at *
      go_loopw [8, 25] (fun b i wv => ∃ j : Nat, j ≤ n ∧ i = .int .i64 j ∧ BRow wv wo.heap.size b (bytesI sk ++ ds.take j) ∧ Below wo.heap.size wo wv) (fun _ i _ => n - (intOf i).toNat)
      case atStart => exact ⟨0, Nat.zero_le _, rfl, by rw [List.take_zero, List.append_nil]; exact hbr, hbb⟩
      case round =>
        clear hbr hbb hcv
        obtain ⟨j, hj, rfl, hbr, hbv⟩ := hrel
        have hbx := below_up hbw hbv
        have hwz := hbv.size
        by_cases hjn : j < n
        · obtain ⟨bb, off, rfl, _, hbs, d0⟩ := hrx.int_at (show j < ds.length by omega)
          have c0 := (hbx.cell (p := ⟨bb, off + j, none⟩) hbs).trans d0
          have hbs2 : bb < wr.heap.size := by have := hbx.size; omega
          have HTJ : Hid (ds.take (j + 1) = ds.take j ++ [ds[j]'(by omega)]) := Lib.hid (List.take_succ_eq_append_getElem (by omega))
          obtain ⟨x0, x1⟩ := HDU.out (ds[j]'(by omega)) (List.getElem_mem _)
          generalize ds[j]'(show j < ds.length by omega) = xv at *
          have hw8 : IntKind.u8.wrap xv = xv := by
            have : IntKind.u8.wrap xv = xv % 256 := by simp [IntKind.wrap, IntKind.bits, IntKind.signed]
            omega
          have hlb : (bytesI sk ++ ds.take j).length ≤ 1000000 := by
            rw [List.length_append, List.length_take]
            unfold bytesI
            rw [List.length_map]; omega
          clear d0
          go_wp2_with (at_builtin; refine wpList_bapp (ys := [xv]) 1 rfl _ _ rfl (hbr.below ((Below.refl _ _).alloc (Nat.le_refl _) _)) rfl (by simp; omega) (row_new _ _ _ _ 1 1 (Nat.le_refl _) rfl) rfl (by simp) (by simp only [List.length_singleton]; omega) (by kernel_rfl) ?_)
          intro v' w' hbr2 hg2 hgB
          go_wp2_with fail
          go_roundw
          case rel => exact ⟨j + 1, by omega, by go_num, by rw [HTJ.out]; first | exact hbr2 | (rw [← List.append_assoc]; exact hbr2), (hbv.alloc hwz _).grown hg2 (by simp; omega) hgB⟩
          case measure => simp [intOf]; omega
        · have hjj : j = n := by omega
          subst hjj
          have hlb : (bytesI sk ++ ds.take j).length ≤ 1000000 := by
            rw [List.length_append, List.length_take]
            unfold bytesI
            rw [List.length_map]; omega
          have HLC2 : Hid (sumT (bytesI sk ++ ds.take j) = lastC xs start (k + 1)) := Lib.hid (by rw [HLC.out, HBK.out, HTK.out])
          obtain ⟨g, cap, rfl, hg1, hg2, hrb⟩ := hbr.row
          have HX8 : Hid (∀ x ∈ bytesI sk ++ ds.take j, 0 ≤ x ∧ x ≤ 255) := Lib.hid (fun x hx => by
            rcases List.mem_append.1 hx with h | h
            · exact bytesI_in sk x h
            · have := HDU.out x (List.mem_of_mem_take h); omega)
          have hown2 := own_keep hown hbv
          have HRD := Lib.hid (row_dropI hrx hcx j)
          have hdrl : (ds.drop j).length = ds.length - j := List.length_drop
          clear hbr hown
          generalize bytesI sk ++ ds.take j = bs at *
          go_wp2_with fail
          refine (sumOf_any _ _ _ bs _ hrb (by omega) HX8.out (HT1.out.below hbx)).mono ?_
          rintro e w6 ⟨rfl, hb6⟩
          rw [HLC2.out]
          have hown2 := own_keep hown2 hb6
          have hbx := below_up hbx hb6
          have hz6 := hbx.size
          generalize hns : lastC xs start (k + 1) = ns at *
          have HNS := Lib.hid hns
          clear hns
          go_wp2_with (at_builtin; go_must (refine wpList_app (lo := w1.heap.size) (base := w1.heap.size) (n := k) (xs := strs (chainT xs start k)) _ _ rfl _ _ ty_strs rfl (by repeat (first | exact hown2 | refine World.ownsRow.alloc ?_ _ | refine own_drewN ?_ _ | refine World.ownsRow.drew ?_)) rfl (by first | exact row_new' _ (by first | rfl | simp) (by first | omega | (simp; omega)) rfl | exact row_newN _ _ (by first | rfl | simp) (by first | omega | (simp; omega)) rfl | exact row_newD _ (by first | rfl | simp) (by first | omega | (simp; omega)) rfl) rfl rfl (by first | omega | decide) (by first | omega | decide) (by first | omega | (simp; omega)) ?_))
          intro A5 c5 w7 hown5 hg5 _
          go_wp2_with fail
          go_roundw
          case rel =>
            refine ⟨k + 1, A5, c5, (if cx = j then AX else AX.map fun x => x.add j), cx - j, hk1, by rw [HNS.out], rfl, ?_, ?_, ?_, ?_, below_app hown2 ((hbx.alloc hz6 _)) hg5 (Nat.le_refl _) (by simp; omega)⟩
            · rw [HCN.out]
              have e : strs (chainT xs start k ++ [ns]) = strs (chainT xs start k) ++ [encStr ns] := by simp [strs]
              rw [e]; exact hown5
            · rw [HNX.out, HDR.out, List.length_drop]
            · rw [HNX.out, HDR.out]; exact HRD.out
            · rw [HNX.out, HDR.out, List.length_drop]; omega
          case measure => simp only [slcN]; omega
end Go.Proofs.YtdidcjhgdofgcaaGreatDoor
