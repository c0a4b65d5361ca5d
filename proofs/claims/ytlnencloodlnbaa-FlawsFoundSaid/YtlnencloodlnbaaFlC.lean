/- The walk of pressFlaws. -/
import Derived.Test.YtlnencloodlnbaaFlB
import Derived.Deep.DeepCutAuto
import Derived.Deep.QuietTactic
import Derived.BigQuiet
import Derived.IntWalk
namespace Go.Proofs.Ytlnencloodlnbaa
open Go.RowKit

/-- The first so many presses lie more than a second before this one. -/
def Far (P : List Nat) (f k : Nat) : Prop := ∀ j (hj : j < P.length) (hk : k < P.length), j < f → P[j] + 59 < P[k]
theorem Far.next {P : List Nat} {f k : Nat} (h : Far P f k) (hup : P.Pairwise (· < ·)) (hk : k < P.length) : Far P f (k + 1) := fun j hj hk' hf => by
  have h1 := h j hj hk hf
  have h2 := List.pairwise_iff_getElem.1 hup k (k + 1) hk hk' (by omega)
  omega
theorem Far.more {P : List Nat} {f k : Nat} (h : Far P f k) (hf : f < P.length) (hk : k < P.length) (hlt : P[f] + 59 < P[k]) : Far P (f + 1) k := fun j hj hk' hjf => by
  rcases Nat.lt_or_ge j f with h1 | h1
  · exact h j hj hk' h1
  · have : j = f := by omega
    subst this; exact hlt
theorem many_far {xs : List Int} {b : Int} {f k : Nat} (hk : k < (posM xs b xs.length).length) (hf : f ≤ k) (h : Far (posM xs b xs.length) f k) (hl : (posM xs b xs.length)[k] ≤ ((posM xs b xs.length)[f]'(by omega)) + 59) :
    (manyM xs b (posM xs b xs.length)[k] : Int) = (k : Int) - f + 1 := by
  rw [manyM_pos xs b _ xs.length (posM_lt (List.getElem_mem hk)), filter_window _ (posM_up xs b _) k f hk hf (fun j hj hjf => h j hj hk hjf) (fun _ => hl)]
  omega
theorem Blk.three {w : World} {g : Nat} {t : TypeId} {a b c : Value} (h : Blk w g t #[a, b, c]) : w.cell? ⟨g, 0, none⟩ = some a ∧ w.cell? ⟨g, 1, none⟩ = some b ∧ w.cell? ⟨g, 2, none⟩ = some c := ⟨by simpa using h.cell 0, by simpa using h.cell 1, by simpa using h.cell 2⟩
theorem Blk.pair {w : World} {g : Nat} {t : TypeId} {a b : Value} (h : Blk w g t #[a, b]) : w.cell? ⟨g, 0, none⟩ = some a ∧ w.cell? ⟨g, 1, none⟩ = some b := ⟨by simpa using h.cell 0, by simpa using h.cell 1⟩

/-- What is known of the presses and of how long each is held. -/
structure PF (xs : List Int) (b : Int) (P : List Nat) (H : List (Int × Int)) : Prop where
  up : P.Pairwise (· < ·)
  lt : ∀ (k : Nat) (hk : k < P.length), P[k] < xs.length
  pr : ∀ (k : Nat) (hk : k < P.length), pressB xs b (P[k] : Int) = true
  many : ∀ (f k : Nat) (hk : k < P.length) (hf : f < P.length), f ≤ k → Far P f k → P[k] ≤ P[f] + 59 → (manyM xs b P[k] : Int) = (k : Int) - f + 1
  cell : ∀ (k : Nat) (hk : k < H.length) (hk' : k < P.length), H[k].1 = (P[k] : Int) ∧ H[k].2 = (holdN xs b P[k] : Int)
  len : H.length = P.length
  le : P.length ≤ xs.length
theorem pf_of (xs : List Int) (b : Int) : PF xs b (posM xs b xs.length) (holdsM xs b xs.length) where
  up := posM_up xs b _
  lt := fun k hk => posM_lt (List.getElem_mem hk)
  pr := fun k hk => posM_press (List.getElem_mem hk)
  many := fun f k hk _ hf => many_far (f := f) hk hf
  cell := by
    intro k hk hk'
    have e : (holdsM xs b xs.length)[k]? = ((posM xs b xs.length).map fun i : Nat => ((i : Int), (holdN xs b i : Int)))[k]? := by rw [← holdsM_full]
    rw [List.getElem?_eq_getElem hk, List.getElem?_map, List.getElem?_eq_getElem hk'] at e
    injection e with e
    rw [e]
    exact ⟨rfl, rfl⟩
  len := by rw [holdsM_full]; simp
  le := by have := holdsM_le xs b xs.length; rw [holdsM_full] at this; simpa using this

set_option maxHeartbeats 2000000 in
set_option maxRecDepth 100000 in
theorem pressFlaws_core (A : Option Addr) (c lo : Nat) (xs : List Int) (P : List Nat) (H : List (Int × Int)) (most short b : Int) (both : Bool) (w : World) (hr : Row w lo 2 A H.length (prs H)) (hl : xs.length ≤ 1000000000) (hpf : PF xs b P H) :
    Calls Try.prog 27 #[.slice A H.length c, .agg #[.int .i64 most, .int .i64 short, .bool both], .int .i64 b] w fun e w' => ∃ A' c', e = .returned (.slice A' (pressF xs most short b P).length c') ∧ w'.ownsRow w.heap.size 42 3 (.slice A' (pressF xs most short b P).length c') (pressF xs most short b P).length (trs (pressF xs most short b P)) ∧ Below w.heap.size w w' := by
  have HP := Lib.hid hpf
  have hpl := hpf.le
  have HL := Lib.hid hpf.len
  clear hpf
  go_enter Try.func27, Try.ntmps27
  go_wp2_with fail
  have hb0 : Below w.heap.size w (w.alloc (.cells #[.int .i64 most, .int .i64 short, .bool both] 29)) := (Below.refl _ _).alloc (Nat.le_refl _) _
  have hk0 : Blk (w.alloc (.cells #[.int .i64 most, .int .i64 short, .bool both] 29)) w.heap.size 29 #[.int .i64 most, .int .i64 short, .bool both] := Blk.new _ _ _
  go_loopw [7, 8, 13] (fun v fv i wr => ∃ (k f : Nat) (A' : Option Addr) (c' : Nat), k ≤ P.length ∧ i = .int .i64 k ∧ fv = .int .i64 f ∧ f ≤ k ∧ Hid (Far P f k) ∧ v = .slice A' (pressF xs most short b (P.take k)).length c' ∧ wr.ownsRow w.heap.size 42 3 (.slice A' (pressF xs most short b (P.take k)).length c') (pressF xs most short b (P.take k)).length (trs (pressF xs most short b (P.take k))) ∧ Blk wr w.heap.size 29 #[.int .i64 most, .int .i64 short, .bool both] ∧ Below w.heap.size w wr) (fun _ _ i _ => P.length - (intOf i).toNat)
  case atStart => exact ⟨0, 0, none, 0, Nat.zero_le _, rfl, rfl, Nat.le_refl _, Lib.hid (fun j _ _ h => absurd h (by omega)), rfl, World.ownsRow_nil _ _ _ _, hk0, hb0⟩
  case round =>
    clear hb0 hk0
    obtain ⟨k, f, A', c', hk, rfl, rfl, hfk, hfar, rfl, hown, hbl, hbw⟩ := hrel
    have hz := hbw.size
    have hzl := hbl.lt
    obtain ⟨g0, g1, _⟩ := hbl.three
    by_cases hlt : k < P.length
    · have hlt' : k < H.length := by have := HL.out; omega
      obtain ⟨bb, off, rfl, _, hbs, c0, c1⟩ := (hr.below hbw).pr_at hlt'
      obtain ⟨q0, q1⟩ := HP.out.cell k hlt' hlt
      rw [q0] at c0
      rw [q1] at c1
      clear q0 q1
      have HT := Lib.hid (pressF_take xs most short b P k hlt)
      have hpk := HP.out.lt k hlt
      have hol := pressF_len xs most short b (P.take k)
      have hol' : (P.take k).length ≤ k := List.length_take_le _ _
      have hhn := holdN_len xs b P[k]
      have hpb := Lib.hid (HP.out.pr k hlt)
      generalize hPk : P[k] = x at *
      have HPK := Lib.hid hPk
      clear hPk
      generalize pressF xs most short b (P.take k) = o at *
      have hrw := hr.below hbw
      go_wp2_with fail
      go_loopw [8] (fun fv wr2 => ∃ (f q : Nat), fv = .int .i64 f ∧ f ≤ k ∧ Hid (Far P f k) ∧ wr2 = (wr.alloc (.cells #[.int .i64 x, .int .i64 (holdN xs b x)] 78)).drewN q) (fun fv _ => k - (intOf fv).toNat)
      case atStart => exact ⟨f, 0, rfl, hfk, hfar, rfl⟩
      case round =>
        clear hfar hfk
        obtain ⟨f, q, rfl, hfk, hfar, rfl⟩ := hrel
        have hfl : f < P.length := by omega
        have hfl' : f < H.length := by omega
        obtain ⟨b', off', e', _, _, d0, _⟩ := hrw.pr_at hfl'
        obtain ⟨rfl, rfl⟩ : b' = bb ∧ off' = off := by injection e' with e'; injection e' with h1 h2; exact ⟨h1.symm, h2.symm⟩
        clear e'
        rw [(HP.out.cell f hfl' hfl).1] at d0
        have hpf := HP.out.lt f hfl
        have HFM := Lib.hid (fun h => Far.more hfar.out hfl hlt (by rw [HPK.out]; exact h))
        have HY1 := Lib.hid (fun h => HP.out.many f k hlt hfl hfk hfar.out (by rw [HPK.out]; exact h))
        generalize hPf : P[f] = y at *
        have hxy : f = k → y = x := fun h => by subst h; rw [← hPf, HPK.out]
        have HPF := Lib.hid hPf
        clear hPf
        by_cases ht : y + 59 < x
        · have hlt2 : f < k := by
            rcases Nat.lt_or_ge f k with h | h
            · exact h
            · have := hxy (by omega); omega
          have HN := Lib.hid (HFM.out ht)
          clear HFM hxy HY1
          have e1 : decide ((y : Int) ≤ (x : Int) - 60) = true := by simp; omega
          have e2 : IntKind.i64.wrap ((x : Int) - 60) = (x : Int) - 60 := IntWalk.i64_in _ (by omega)
          go_wp2_with fail
          go_quiet (fail)
          go_wp2_with fail
          clear e1 e2
          go_roundw
          case rel => exact ⟨f + 1, _, by go_num, by omega, HN, rfl⟩
          case measure => simp [intOf]; omega
        · have HY2 := Lib.hid (HY1.out (by omega))
          clear HFM hxy HY1
          have e1 : decide ((y : Int) ≤ (x : Int) - 60) = false := by simp; omega
          have e2 : IntKind.i64.wrap ((x : Int) - 60) = (x : Int) - 60 := IntWalk.i64_in _ (by omega)
          go_wp2_with fail
          go_quiet (fail)
          clear e1 e2
          have HM : Hid ((manyM xs b x : Int) = (k : Int) - f + 1) := Lib.hid (by have := HY2.out; rw [HPK.out] at this; exact this)
          have hm1 : manyM xs b x ≤ 1000000001 := by have := HM.out; omega
          have HNX := Lib.hid (Far.next hfar.out HP.out.up hlt)
          have hbl' : Blk ((wr.alloc (.cells #[.int .i64 x, .int .i64 (holdN xs b x)] 78)).drewN (q + nq)) w.heap.size 29 #[.int .i64 most, .int .i64 short, .bool both] := Blk.drewN (hbl.alloc _) _
          have hbh : Blk ((wr.alloc (.cells #[.int .i64 x, .int .i64 (holdN xs b x)] 78)).drewN (q + nq)) wr.heap.size 78 #[.int .i64 x, .int .i64 (holdN xs b x)] := Blk.drewN (Blk.new _ _ _) _
          have hbw' : Below w.heap.size w ((wr.alloc (.cells #[.int .i64 x, .int .i64 (holdN xs b x)] 78)).drewN (q + nq)) := (by repeat (first | exact hbw | refine Below.alloc ?_ (by first | omega | (simp; omega)) _ | refine below_drewN' ?_ _ | refine Below.drew ?_))
          have hown' : ((wr.alloc (.cells #[.int .i64 x, .int .i64 (holdN xs b x)] 78)).drewN (q + nq)).ownsRow w.heap.size 42 3 (.slice A' o.length c') o.length (trs o) := (by repeat (first | exact hown | refine World.ownsRow.alloc ?_ _ | refine own_drewN ?_ _ | refine World.ownsRow.drew ?_))
          have hzw : w.heap.size < ((wr.alloc (.cells #[.int .i64 x, .int .i64 (holdN xs b x)] 78)).drewN (q + nq)).heap.size := hbl'.lt
          have hzh : wr.heap.size < ((wr.alloc (.cells #[.int .i64 x, .int .i64 (holdN xs b x)] 78)).drewN (q + nq)).heap.size := hbh.lt
          clear hown hbl hbw g0 g1 c0 c1 d0 hrw hr hz hzl hbs
          (try simp only [World.drewN_drewN])
          generalize (wr.alloc (.cells #[.int .i64 x, .int .i64 (holdN xs b x)] 78)).drewN (q + nq) = W at *
          obtain ⟨g0, g1, _⟩ := hbl'.three
          obtain ⟨k0, k1⟩ := hbh.pair
          go_upto_if 33 with (fail)
          go_cut [7] (fun v wx => ∃ (A6 : Option Addr) (c6 : Nat), v = .slice A6 (o ++ shortF xs short b x).length c6 ∧ wx.ownsRow w.heap.size 42 3 (.slice A6 (o ++ shortF xs short b x).length c6) (o ++ shortF xs short b x).length (trs (o ++ shortF xs short b x)) ∧ Blk wx w.heap.size 29 #[.int .i64 most, .int .i64 short, .bool both] ∧ Blk wx wr.heap.size 78 #[.int .i64 x, .int .i64 (holdN xs b x)] ∧ Below w.heap.size w wx)
          case first =>
            by_cases hs : (holdN xs b x : Int) < short
            · have HE : Hid (shortF xs short b x = [((x : Int), 2, b)]) := Lib.hid (by unfold shortF; rw [if_pos ⟨hpb.out, hs⟩])
              have ht : decide ((holdN xs b x : Int) < short) = true := by simpa using hs
              go_wp2_with (at_builtin; go_must (refine wpList_app (lo := w.heap.size) (base := w.heap.size) (n := o.length) (xs := trs o) _ _ rfl _ _ ty_flaws rfl (by repeat (first | exact hown' | refine World.ownsRow.alloc ?_ _ | refine own_drewN ?_ _ | refine World.ownsRow.drew ?_)) rfl (by first | exact row_new' _ (by first | rfl | simp) (by first | omega | (simp; omega)) rfl | exact row_newN _ _ (by first | rfl | simp) (by first | omega | (simp; omega)) rfl | exact row_newD _ (by first | rfl | simp) (by first | omega | (simp; omega)) rfl) rfl rfl (by first | omega | decide) (by first | omega | decide) (by first | omega | (simp; omega)) ?_))
              intro A5 c5 w5 hown5 hg5 _
              go_wp2_with fail
              go_meet
              rw [HE.out]
              exact ⟨A5, c5, by simp, by rw [trs_app, List.length_append]; exact hown5, Blk.app (hown'.alloc _) (hbl'.alloc _) hg5 (by decide), Blk.app (hown'.alloc _) (hbh.alloc _) hg5 (by decide), below_app hown' (by repeat (first | exact hbw' | refine Below.alloc ?_ (by first | omega | (simp; omega)) _ | refine below_drewN' ?_ _ | refine Below.drew ?_)) hg5 (Nat.le_refl _) (by simp; omega)⟩
            · have HE : Hid (shortF xs short b x = []) := Lib.hid (by unfold shortF; rw [if_neg (fun h => hs h.2)])
              have ht : decide ((holdN xs b x : Int) < short) = false := by simpa using hs
              go_wp2_with fail
              go_meet
              rw [HE.out, List.append_nil]
              exact ⟨A', c', rfl, hown', hbl', hbh, hbw'⟩
          case rest =>
            clear hown' hbl' hbh hbw' g0 g1 k0 k1 hzw hzh
            obtain ⟨A6, c6, rfl, hown6, hbl6, hbh6, hbw6⟩ := hcut
            obtain ⟨g0, g1, _⟩ := hbl6.three
            obtain ⟨k0, k1⟩ := hbh6.pair
            have hz6 := hbl6.lt
            have hzh6 := hbh6.lt
            have hol6 := shortF_len xs short b x
            have HT' : Hid (pressF xs most short b (List.take (k + 1) P) = (o ++ shortF xs short b x) ++ oftenF xs most b x) := Lib.hid (by rw [HT.out, List.append_assoc])
            have hoo : (o ++ shortF xs short b x).length ≤ 2000000001 := by simp; omega
            clear HT
            generalize o ++ shortF xs short b x = o6 at *
            by_cases hs : most < (k : Int) - f + 1
            · have HE : Hid (oftenF xs most b x = [((x : Int), 3, b)]) := Lib.hid (by unfold oftenF; rw [if_pos ⟨hpb.out, by rw [HM.out]; exact hs⟩])
              have ht : decide (most < (k : Int) - f + 1) = true := by simpa using hs
              go_wp2_with (at_builtin; go_must (refine wpList_app (lo := w.heap.size) (base := w.heap.size) (n := o6.length) (xs := trs o6) _ _ rfl _ _ ty_flaws rfl (by repeat (first | exact hown6 | refine World.ownsRow.alloc ?_ _ | refine own_drewN ?_ _ | refine World.ownsRow.drew ?_)) rfl (by first | exact row_new' _ (by first | rfl | simp) (by first | omega | (simp; omega)) rfl | exact row_newN _ _ (by first | rfl | simp) (by first | omega | (simp; omega)) rfl | exact row_newD _ (by first | rfl | simp) (by first | omega | (simp; omega)) rfl) rfl rfl (by first | omega | decide) (by first | omega | decide) (by first | omega | (simp; omega)) ?_))
              intro A5 c5 w5 hown5 hg5 _
              go_wp2_with fail
              go_roundw
              case rel => exact ⟨k + 1, f, A5, c5, by omega, by go_num, rfl, by omega, HNX, by rw [HT'.out, HE.out]; simp, by rw [HT'.out, HE.out, trs_app, List.length_append]; exact hown5, Blk.app (hown6.alloc _) (hbl6.alloc _) hg5 (by decide), below_app hown6 (by repeat (first | exact hbw6 | refine Below.alloc ?_ (by first | omega | (simp; omega)) _ | refine below_drewN' ?_ _ | refine Below.drew ?_)) hg5 (Nat.le_refl _) (by simp; omega)⟩
              case measure => simp [intOf]; omega
            · have HE : Hid (oftenF xs most b x = []) := Lib.hid (by unfold oftenF; rw [if_neg (fun h => hs (by rw [← HM.out]; exact h.2))])
              have ht : decide (most < (k : Int) - f + 1) = false := by simpa using hs
              go_wp2_with fail
              go_roundw
              case rel => exact ⟨k + 1, f, A6, c6, by omega, by go_num, rfl, by omega, HNX, by rw [HT'.out, HE.out, List.append_nil], by rw [HT'.out, HE.out, List.append_nil]; exact hown6, hbl6, hbw6⟩
              case measure => simp [intOf]; omega
    · have hkn : k = P.length := by omega
      have HE : Hid (P.take k = P) := Lib.hid (by rw [hkn, List.take_length])
      have hlt' : ¬ k < H.length := by have := HL.out; omega
      rw [HE.out] at hown
      clear hkn
      go_wp2_with fail
      go_ret
      rw [HE.out]
      exact ⟨A', c', rfl, hown, hbw⟩

theorem pressFlaws_any (A : Option Addr) (c lo : Nat) (xs : List Int) (most short b : Int) (both : Bool) (w : World) (hr : Row w lo 2 A (holdsM xs b xs.length).length (prs (holdsM xs b xs.length))) (hl : xs.length ≤ 1000000000) :
    Calls Try.prog 27 #[.slice A (holdsM xs b xs.length).length c, .agg #[.int .i64 most, .int .i64 short, .bool both], .int .i64 b] w fun e w' => ∃ A' c', e = .returned (.slice A' (pressF xs most short b (posM xs b xs.length)).length c') ∧ w'.ownsRow w.heap.size 42 3 (.slice A' (pressF xs most short b (posM xs b xs.length)).length c') (pressF xs most short b (posM xs b xs.length)).length (trs (pressF xs most short b (posM xs b xs.length))) ∧ Below w.heap.size w w' :=
  pressFlaws_core A c lo xs _ _ most short b both w hr hl (pf_of xs b)
end Go.Proofs.Ytlnencloodlnbaa
