/- The walks of First, Or, when, part, Cut and CutOf. -/
import Derived.Test.YtgkjpcapoofphaaInpF
import Derived.Test.YtgkjpcapoofphaaInpQ
namespace Go.Proofs.Ytgkjpcapoofphaa
open Go.RowKit

theorem take_zero_snoc {l : List Int} {k : Nat} (h : ∀ y ∈ l.take k, y = 0) (hk : k < l.length) (hv : l[k] = 0) : ∀ y ∈ l.take (k + 1), y = 0 := by
  intro y hy
  rw [List.take_succ_eq_append_getElem hk] at hy
  rcases List.mem_append.1 hy with h1 | h1
  · exact h y h1
  · simp at h1; subst h1; exact hv

set_option maxHeartbeats 400000 in
theorem first_any (A : Option Addr) (c lo : Nat) (l : List Int) (w : World) (hr : Row w lo 1 A l.length (ints l)) (hl : l.length ≤ 1000000000) :
    Calls Try.prog 95 #[.slice A l.length c] w fun e w' => e = .returned (.int .i64 (firstE l)) ∧ w = w' := by
  go_enter Try.func95, Try.ntmps95
  go_wp2_with fail
  go_loop [7] (fun i => ∃ k : Nat, k ≤ l.length ∧ i = .int .i64 k ∧ Hid (∀ y ∈ l.take k, y = 0)) (fun i => l.length - (intOf i).toNat)
  case atStart => exact ⟨0, Nat.zero_le _, rfl, Lib.hid (by simp)⟩
  case round =>
    obtain ⟨k, hk, rfl, hno⟩ := hrel
    by_cases hlt : k < l.length
    · obtain ⟨b, off, rfl, _, hbs, c0⟩ := hr.int_at hlt
      by_cases he : l[k] = 0
      · have he' : (l[k] != 0) = false := by simpa using he
        have HN := Lib.hid (take_zero_snoc hno.out hlt he)
        clear he
        go_wp2_with fail
        go_round
        case rel => exact ⟨k + 1, by omega, by go_num, HN⟩
        case measure => simp [intOf]; omega
      · have he' : (l[k] != 0) = true := by simpa using he
        have HV := Lib.hid (firstE_hit l k hlt hno.out he)
        clear he
        go_wp2_with fail
        go_ret
        exact ⟨ret_int' HV.out.symm, rfl⟩
    · have HV := Lib.hid (firstE_none l (by have := hno.out; rwa [List.take_of_length_le (by omega)] at this))
      go_wp2_with fail
      go_ret
      exact ⟨ret_int' HV.out.symm, rfl⟩

set_option maxHeartbeats 400000 in
theorem or_any (A : Option Addr) (c lo : Nat) (l : List Int) (w : World) (hr : Row w lo 1 A l.length (ints l)) (hl : l.length ≤ 1000000000) :
    Calls Try.prog 49 #[.slice A l.length c] w fun e w' => e = .returned (.int .i64 (firstE l)) ∧ w = w' := by
  go_enter Try.func49, Try.ntmps49
  go_wp2_with fail
  go_loop [8] (fun i => ∃ k : Nat, k ≤ l.length ∧ i = .int .i64 k ∧ Hid (∀ y ∈ l.take k, y = 0)) (fun i => l.length - (intOf i).toNat)
  case atStart => exact ⟨0, Nat.zero_le _, rfl, Lib.hid (by simp)⟩
  case round =>
    obtain ⟨k, hk, rfl, hno⟩ := hrel
    by_cases hlt : k < l.length
    · obtain ⟨b, off, rfl, _, hbs, c0⟩ := hr.int_at hlt
      by_cases he : l[k] = 0
      · have he' : (l[k] != 0) = false := by simpa using he
        have HN := Lib.hid (take_zero_snoc hno.out hlt he)
        clear he
        go_wp2_with fail
        go_round
        case rel => exact ⟨k + 1, by omega, by go_num, HN⟩
        case measure => simp [intOf]; omega
      · have he' : (l[k] != 0) = true := by simpa using he
        have HV := Lib.hid (firstE_hit l k hlt hno.out he)
        clear he
        go_wp2_with fail
        go_ret
        exact ⟨ret_int' HV.out.symm, rfl⟩
    · have HV := Lib.hid (firstE_none l (by have := hno.out; rwa [List.take_of_length_le (by omega)] at this))
      go_wp2_with fail
      go_ret
      exact ⟨ret_int' HV.out.symm, rfl⟩

set_option maxHeartbeats 400000 in
theorem when_any (b : Bool) (x : Int) (w : World) : Calls Try.prog 51 #[.bool b, .int .i64 x] w fun e w' => e = .returned (.int .i64 (bif b then x else 0)) ∧ w = w' := by
  cases b
  · go_enter Try.func51, Try.ntmps51
    go_wp2_with fail
    go_ret
    exact ⟨rfl, rfl⟩
  · go_enter Try.func51, Try.ntmps51
    go_wp2_with fail
    go_ret
    exact ⟨rfl, rfl⟩

theorem own_cap {w : World} {base : Nat} {e : TypeId} {size : Nat} {A : Option Addr} {n c : Nat} {xs : List Value} (h : w.ownsRow base e size (.slice A n c) n xs) : n ≤ c := by
  rcases h.2 with ⟨h0, h1⟩ | ⟨g, cap, cur, hv, _, _, hc, _⟩
  · omega
  · injection hv with _ _ h3; omega
theorem Row.cut {w : World} {lo : Nat} {A A' : Option Addr} {n : Nat} {xs : List Value} (h : Row w lo 1 A n xs) {i j c : Nat} (hij : i ≤ j) (hj : j ≤ n) (hc : n ≤ c) (hA : (A' = A ∧ c = i) ∨ A' = A.map (·.add i)) : Row w lo 1 A' (j - i) ((xs.take j).drop i) := by
  have hl := h.1
  refine ⟨by simp; omega, fun hn => ?_⟩
  obtain ⟨b, off, rfl, h1, h2, h3⟩ := h.2 (by omega)
  rcases hA with ⟨_, h4⟩ | h4
  · omega
  · have ha : (⟨b, off, none⟩ : Addr).add i = ⟨b, off + i, none⟩ := by unfold Addr.add; split <;> simp_all
    refine ⟨b, off + i, by rw [h4]; simp [ha], h1, h2, fun k u hu => ?_⟩
    rw [Nat.add_assoc]
    refine h3 _ u ?_
    rw [List.getElem?_drop, List.getElem?_take] at hu
    split at hu
    · exact hu
    · cases hu
theorem own_cast {w : World} {base : Nat} {e : TypeId} {size : Nat} {v : Value} {n : Nat} {xs ys : List Value} (h : xs = ys) (ho : w.ownsRow base e size v n xs) : w.ownsRow base e size v n ys := h ▸ ho
theorem clipN_bd (at_ m f t : Int) (h : 0 ≤ at_) (hm : 0 ≤ m) (hf : 0 ≤ f) (ht : 0 ≤ t) : clipN at_ m f t ≤ m ∧ -(at_ + f) ≤ clipN at_ m f t := by unfold clipN; omega

set_option maxHeartbeats 1000000 in
theorem part_any (A : Option Addr) (c lo : Nat) (ps : List (Int × Int)) (f t : Nat) (w : World) (hr : Row w lo 2 A ps.length (prs ps)) (hl : ps.length ≤ 1000000) (hb : ∀ p ∈ ps, 0 ≤ p.2) (hs : psum ps ≤ 1000000000) (hf : f ≤ 1000000000) (ht : t ≤ 1000000000) :
    Calls Try.prog 94 #[.slice A ps.length c, .int .i64 f, .int .i64 t] w fun e w' => ∃ A' c', e = .returned (.slice A' (foldM (cutL (unf ps) f t)).length c') ∧ w'.ownsRow w.heap.size 39 2 (.slice A' (foldM (cutL (unf ps) f t)).length c') (foldM (cutL (unf ps) f t)).length (prs (foldM (cutL (unf ps) f t))) ∧ Below w.heap.size w w' := by
  have HB := Lib.hid hb
  clear hb
  go_enter Try.func94, Try.ntmps94
  go_wp2_with fail
  go_loopw [7, 8, 14] (fun v a i wr => ∃ (k : Nat) (A' : Option Addr) (c' : Nat), k ≤ ps.length ∧ i = .int .i64 k ∧ a = .int .i64 (psum (ps.take k)) ∧ v = .slice A' (clips ps f t k).length c' ∧ wr.ownsRow w.heap.size 39 2 (.slice A' (clips ps f t k).length c') (clips ps f t k).length (prs (clips ps f t k)) ∧ Below w.heap.size w wr) (fun _ _ i _ => ps.length - (intOf i).toNat)
  case atStart => exact ⟨0, none, 0, Nat.zero_le _, rfl, rfl, rfl, World.ownsRow_nil _ _ _ _, Below.refl _ _⟩
  case round =>
    obtain ⟨k, A', c', hk, rfl, rfl, rfl, hown, hbw⟩ := hrel
    by_cases hlt : k < ps.length
    · obtain ⟨b, off, rfl, _, hbs, c0, c1⟩ := (hr.below hbw).pr_at hlt
      have HT := Lib.hid (clips_succ ps f t k hlt)
      have HS := Lib.hid (psum_take ps k hlt)
      have hlen := clips_len ps f t k hk
      have hp0 := HB.out ps[k] (List.getElem_mem _)
      have hps := psum_take_le ps k HB.out
      have hps2 := psum_take_le ps (k + 1) HB.out
      rw [HS.out] at hps2
      have hz := hbw.size
      have HC : Hid (clipN (psum (ps.take k)) ps[k].2 f t = min (psum (ps.take k) + ps[k].2) t - max (psum (ps.take k)) f) := Lib.hid rfl
      generalize clips ps f t k = o at *
      generalize psum (ps.take k) = a at *
      by_cases hpos : 0 < clipN a ps[k].2 f t
      · have HE : Hid (clips ps f t (k + 1) = o ++ [(ps[k].1, min (a + ps[k].2) t - max a f)]) := Lib.hid (by rw [HT.out, if_pos hpos, HC.out])
        rw [HC.out] at hpos
        clear HT HC
        rcases Int.lt_or_le (t : Int) (a + ps[k].2) with g1 | g1 <;> rcases Int.lt_or_le a (f : Int) with g2 | g2
        all_goals
          go_wp2_with (at_builtin; go_must (refine wpList_app (lo := w.heap.size) (base := w.heap.size) (n := o.length) (xs := prs o) _ _ rfl _ _ ty_prs rfl (by repeat (first | exact hown | refine World.ownsRow.alloc ?_ _ | refine own_drewN ?_ _ | refine World.ownsRow.drew ?_)) rfl (by first | exact row_new' _ (by first | rfl | simp) (by first | omega | (simp; omega)) rfl | exact row_newN _ _ (by first | rfl | simp) (by first | omega | (simp; omega)) rfl | exact row_newD _ (by first | rfl | simp) (by first | omega | (simp; omega)) rfl) rfl rfl (by first | omega | decide) (by first | omega | decide) (by first | omega | (simp; omega)) ?_))
          intro A5 c5 w5 hown5 hg5 _
          go_wp2_with fail
          go_roundw
          case rel => exact ⟨k + 1, A5, c5, by omega, by go_num, by rw [HS.out], by rw [HE.out]; simp, by rw [HE.out, prs_app, List.length_append]; exact own_cast (by simp [prs]; omega) hown5, below_app hown (by repeat (first | exact hbw | refine Below.alloc ?_ (by first | omega | (simp; omega)) _ | refine below_drewN' ?_ _ | refine Below.drew ?_)) hg5 (Nat.le_refl _) (by simp; omega)⟩
          case measure => simp [intOf]; omega
      · have HE : Hid (clips ps f t (k + 1) = o) := Lib.hid (by rw [HT.out, if_neg hpos])
        rw [HC.out] at hpos
        clear HT HC
        rcases Int.lt_or_le (t : Int) (a + ps[k].2) with g1 | g1 <;> rcases Int.lt_or_le a (f : Int) with g2 | g2
        all_goals
          go_wp2_with fail
          go_roundw
          case rel => exact ⟨k + 1, A', c', by omega, by go_num, by rw [HS.out], by rw [HE.out], by rw [HE.out]; exact hown.alloc _, (by repeat (first | exact hbw | refine Below.alloc ?_ (by first | omega | (simp; omega)) _ | refine below_drewN' ?_ _ | refine Below.drew ?_))⟩
          case measure => simp [intOf]; omega
    · have hkn : k = ps.length := by omega
      subst hkn
      have hcm := clips_mem ps f t ps.length (Nat.le_refl _)
      have hcu := clips_unf ps HB.out f t ps.length (Nat.le_refl _)
      rw [List.take_of_length_le (Nat.le_refl _)] at hcu
      have hcl := clips_len ps f t ps.length (Nat.le_refl _)
      have HF := Lib.hid (fold_unf (clips ps f t ps.length) hcm)
      have hcs := unf_len _ hcm
      have hu := unf_len ps HB.out
      have hcut := cutL_len (unf ps) f t
      rw [hcu] at HF hcs
      have hcs2 : psum (clips ps f t ps.length) ≤ 1000000000 := by omega
      clear hcs hcut hu hcu
      generalize clips ps f t ps.length = o at *
      go_wp2_with fail
      refine (tidy_any _ _ _ o _ (Row.of_own hown) (by omega) hcm (by omega)).mono ?_
      rintro e w2 ⟨A2, c2, rfl, hown2, hb2⟩
      clear hcm
      go_wp2_with fail
      go_ret
      rw [HF.out]
      exact ⟨A2, c2, rfl, own_weak hown2 hbw.size, below_up hbw hb2⟩

/-- What Cut hands back. -/
def cutOk (f t : Int) : Bool := decide (0 ≤ f) && decide (f ≤ t) && decide (t ≤ 200000)
def cutR (ps : List (Int × Int)) (f t : Int) : List (Int × Int) := if inFault ps = 0 ∧ cutOk f t = true then foldM (cutL (unf ps) f.toNat t.toNat) else []
def cutE (ps : List (Int × Int)) (f t : Int) : Int := if inFault ps = 0 then (if cutOk f t = true then 0 else 1) else inFault ps
theorem cutOk_iff (f t : Int) : cutOk f t = true ↔ 0 ≤ f ∧ f ≤ t ∧ t ≤ 200000 := by simp [cutOk, and_assoc]
theorem cutR_ok {ps : List (Int × Int)} {f t : Int} (h : inFault ps = 0) (h' : cutOk f t = true) : cutR ps f t = foldM (cutL (unf ps) f.toNat t.toNat) := by simp [cutR, h, h']
theorem cutR_bad {ps : List (Int × Int)} {f t : Int} (h : ¬ (inFault ps = 0 ∧ cutOk f t = true)) : cutR ps f t = [] := by simp only [cutR, h, if_false]

set_option maxHeartbeats 1000000 in
theorem cut_any (A : Option Addr) (c lo : Nat) (ps : List (Int × Int)) (f t : Int) (w : World) (hr : Row w lo 2 A ps.length (prs ps)) (hl : ps.length ≤ 1000000000) :
    Calls Try.prog 50 #[.slice A ps.length c, .int .i64 f, .int .i64 t] w fun e w' => ∃ A' c', e = .returned (.tuple #[.slice A' (cutR ps f t).length c', .int .i64 (cutE ps f t)]) ∧ Row w' w.heap.size 2 A' (cutR ps f t).length (prs (cutR ps f t)) ∧ Below w.heap.size w w' := by
  go_enter Try.func50, Try.ntmps50
  go_wp2_with fail
  refine (checkInput_any _ _ _ ps _ hr hl).mono ?_
  rintro e w1 ⟨rfl, hb1⟩
  by_cases h0 : inFault ps = 0
  · obtain ⟨h1, h2, h3⟩ := inFault_ok h0
    have HP := Lib.hid (show ∀ p ∈ ps, 0 ≤ p.2 from fun p hp => by have := h2 p hp; omega)
    have H0 := Lib.hid h0
    have h0' : (inFault ps != 0) = false := by simpa using h0
    rw [h0]
    clear h0 h2 h0'
    go_wp2_with fail
    refine (out_any _ _ _ _).mono ?_
    rintro e w2 ⟨rfl, rfl⟩
    by_cases h4 : 0 ≤ f ∧ f ≤ t
    · have h4' : (decide (f < 0) || decide (t < f)) = false := by simp; omega
      rw [h4']
      clear h4'
      by_cases h5 : t ≤ 200000
      · have HC := Lib.hid ((cutOk_iff f t).2 ⟨h4.1, h4.2, h5⟩)
        obtain ⟨fn, rfl⟩ := Int.eq_ofNat_of_zero_le h4.1
        obtain ⟨tn, rfl⟩ := Int.eq_ofNat_of_zero_le (show 0 ≤ t by omega)
        obtain ⟨h41, h42⟩ := h4
        go_wp2_with fail
        refine (part_any _ _ _ ps fn tn _ (hr.below hb1) (by omega) HP.out (by omega) (by omega) (by omega)).mono ?_
        rintro e w2 ⟨A2, c2, rfl, hown2, hb2⟩
        go_wp2_with fail
        go_ret2
        rw [cutR_ok H0.out HC.out]
        exact ⟨A2, c2, ret2_is rfl (by simp only [cutE, H0.out, HC.out, if_true]; rfl), (Row.of_own hown2).weak hb1.size, below_up hb1 hb2⟩
      · have HC : Hid (¬ cutOk f t = true) := Lib.hid (by rw [cutOk_iff]; omega)
        clear h4
        go_wp2_with fail
        go_ret2
        rw [cutR_bad fun h => HC.out h.2]
        exact ⟨none, 0, ret2_is rfl (by simp only [cutE, H0.out, HC.out, if_true]; rfl), Row.none_ _ _ _ _, hb1⟩
    · have h4' : (decide (f < 0) || decide (t < f)) = true := by simp; omega
      have HC : Hid (¬ cutOk f t = true) := Lib.hid (by rw [cutOk_iff]; omega)
      rw [h4']
      clear h4' h4
      go_wp2_with fail
      go_ret2
      rw [cutR_bad fun h => HC.out h.2]
      exact ⟨none, 0, ret2_is rfl (by simp only [cutE, H0.out, HC.out, if_true]; rfl), Row.none_ _ _ _ _, hb1⟩
  · have h0' : (inFault ps != 0) = true := by simpa using h0
    have H0 := Lib.hid h0
    clear h0
    go_wp2_with fail
    go_ret2
    rw [cutR_bad fun h => H0.out h.1]
    exact ⟨none, 0, ret2_is rfl (by simp only [cutE, H0.out, if_false]; rfl), Row.none_ _ _ _ _, hb1⟩

set_option maxHeartbeats 1000000 in
theorem cutOf_any (A : Option Addr) (c lo : Nat) (ps : List (Int × Int)) (f t : Nat) (w : World) (hr : Row w lo 2 A ps.length (prs ps)) (hl : ps.length ≤ 1000000000) (hb : ∀ p ∈ ps, 0 ≤ p.2) (hs : psum ps ≤ 1000000000) (hft : f ≤ t) (ht : t ≤ 1000000000) :
    Calls Try.prog 52 #[.slice A ps.length c, .int .i64 f, .int .i64 t] w fun e w' => ∃ A' c', e = .returned (.slice A' (foldM (cutL (unf ps) f t)).length c') ∧ w'.ownsRow w.heap.size 39 2 (.slice A' (foldM (cutL (unf ps) f t)).length c') (foldM (cutL (unf ps) f t)).length (prs (foldM (cutL (unf ps) f t))) ∧ Below w.heap.size w w' := by
  have hul : (unf ps).length ≤ 1000000000 := by have := unf_len ps hb; omega
  go_enter Try.func52, Try.ntmps52
  go_wp2_with fail
  refine (unfolded_any _ _ _ ps _ hr hl hb hs).mono ?_
  rintro e w1 ⟨A1, c1, rfl, hown1, hb1⟩
  have hrow := Row.of_own hown1
  generalize hxs : unf ps = xs at *
  have HXS := Lib.hid hxs
  have hc1 : xs.length ≤ c1 := own_cap hown1
  clear hxs hb
  have fin : ∀ (A2 : Option Addr) (m c2 : Nat) (K : Ending → World → Prop), Row w1 w.heap.size 1 A2 m (ints (cutL xs f t)) → m = (cutL xs f t).length →
      (∀ e w', (∃ A' c', e = .returned (.slice A' (foldM (cutL xs f t)).length c') ∧ w'.ownsRow w1.heap.size 39 2 (.slice A' (foldM (cutL xs f t)).length c') (foldM (cutL xs f t)).length (prs (foldM (cutL xs f t))) ∧ Below w1.heap.size w1 w') → K e w') →
      Calls Try.prog 17 #[.slice A2 m c2] w1 K := by
    intro A2 m c2 K h1 h2 h3
    subst h2
    exact (folded_any _ _ _ (cutL xs f t) _ h1 (by have := cutL_len xs f t; omega)).mono h3
  have FIN := Lib.hid fin
  clear fin
  by_cases h1 : xs.length < f
  · have HL : Hid (cutL xs f t = []) := Lib.hid (by unfold cutL; apply List.drop_eq_nil_of_le; simp; omega)
    have h2 : xs.length < t := by omega
    by_cases hci : c1 = xs.length
    all_goals
      go_wp2_with fail
      refine FIN.out _ _ _ _ (by rw [HL.out]; exact Row.none_ _ _ _ _) (by rw [HL.out]; rfl) ?_
      rintro e w2 ⟨A2, c2, rfl, hown2, hb2⟩
      go_wp2_with fail
      go_ret
      rw [HXS.out]
      exact ⟨A2, c2, rfl, own_weak hown2 hb1.size, below_up hb1 hb2⟩
  · rcases Nat.lt_or_ge xs.length t with h2 | h2
    · have HL : Hid (ints (cutL xs f t) = ((ints xs).take xs.length).drop f) := Lib.hid (by unfold cutL ints; rw [List.take_of_length_le (by omega), List.take_of_length_le (by simp), List.map_drop])
      have HN : Hid (xs.length - f = (cutL xs f t).length) := Lib.hid (by simp [cutL]; omega)
      by_cases hci : c1 = f
      all_goals
        go_wp2_with fail
        refine FIN.out _ _ _ _ (by rw [HL.out]; exact hrow.cut (by omega) (Nat.le_refl _) hc1 (by first | exact .inl ⟨rfl, hci⟩ | exact .inr rfl)) HN.out ?_
        rintro e w2 ⟨A2, c2, rfl, hown2, hb2⟩
        go_wp2_with fail
        go_ret
        rw [HXS.out]
        exact ⟨A2, c2, rfl, own_weak hown2 hb1.size, below_up hb1 hb2⟩
    · have HL : Hid (ints (cutL xs f t) = ((ints xs).take t).drop f) := Lib.hid (by unfold cutL ints; rw [List.map_drop, List.map_take])
      have HN : Hid (t - f = (cutL xs f t).length) := Lib.hid (by simp [cutL]; omega)
      have h2' : ¬ xs.length < t := by omega
      by_cases hci : c1 = f
      all_goals
        go_wp2_with fail
        refine FIN.out _ _ _ _ (by rw [HL.out]; exact hrow.cut hft h2 hc1 (by first | exact .inl ⟨rfl, hci⟩ | exact .inr rfl)) HN.out ?_
        rintro e w2 ⟨A2, c2, rfl, hown2, hb2⟩
        go_wp2_with fail
        go_ret
        rw [HXS.out]
        exact ⟨A2, c2, rfl, own_weak hown2 hb1.size, below_up hb1 hb2⟩
end Go.Proofs.Ytgkjpcapoofphaa
