/- Texts of this seat, laid together: Chp. -/
import Derived.Test.YtdidcjhgdofgcaaGreatDoorBc15
import Derived.Test.YtdidcjhgdofgcaaGreatDoorBc43
/- What sums of blocks tell: plain mathematics; no program of Go in sight. -/
namespace Go.Proofs.YtdidcjhgdofgcaaGreatDoor
set_option linter.unusedVariables false
set_option linter.unusedSimpArgs false

/-! ### what is missing of a list without its last ones -/
theorem nx_take {a : List Sm} {k : Nat} (hk : k ≤ a.length) : ∀ i, i ≤ a.length → nx a (a.take k) i = min i k := by
  intro i
  induction i with
  | zero => intro _; simp [nx]
  | succ i ih =>
    intro hi
    have h := ih (by omega)
    by_cases hik : i < k
    · have hh : hit a (a.take k) i := by
        unfold hit
        rw [h]
        have e : min i k = i := by omega
        rw [e]
        refine ⟨by rw [List.length_take]; omega, ?_⟩
        simp [List.getD_eq_getElem?_getD, List.getElem?_take, hik]
      rw [nx_hit hh, h]; omega
    · have hh : ¬ hit a (a.take k) i := fun hx => by
        have := hx.1
        rw [h, List.length_take] at this; omega
      rw [nx_not hh, h]; omega
theorem hit_take {a : List Sm} {k i : Nat} (hk : k ≤ a.length) (hi : i < a.length) : hit a (a.take k) i ↔ i < k := by
  constructor
  · intro hx
    have := hx.1
    rw [nx_take hk i (by omega), List.length_take] at this; omega
  · intro hik
    unfold hit
    rw [nx_take hk i (by omega), show min i k = i by omega]
    refine ⟨by rw [List.length_take]; omega, ?_⟩
    simp [List.getD_eq_getElem?_getD, List.getElem?_take, hik]
theorem win_take {a : List Sm} {k : Nat} (hk : k ≤ a.length) : ∀ i, i ≤ a.length → win a (a.take k) i = if k < i then [((k : Int), (i : Int))] else [] := by
  intro i
  induction i with
  | zero => intro _; simp [win]
  | succ i ih =>
    intro hi
    have h := ih (by omega)
    by_cases hik : i < k
    · rw [win_hit ((hit_take hk (by omega)).2 hik), h, if_neg (by omega), if_neg (by omega)]
    · have hn : ¬ hit a (a.take k) i := fun hx => hik ((hit_take hk (by omega)).1 hx)
      by_cases hp : 0 < i ∧ ¬ hit a (a.take k) (i - 1)
      · have hki : k < i := by
          have h2 := mt (hit_take hk (show i - 1 < a.length by omega)).2 hp.2
          omega
        rw [win_more hn hp, h, if_pos hki, if_pos (by omega)]
        rfl
      · have hki : ¬ k < i := fun hx => hp ⟨by omega, fun hy => by have := (hit_take hk (show i - 1 < a.length by omega)).1 hy; omega⟩
        have e : i = k := by omega
        rw [win_new hn hp, h, if_neg hki, if_pos (by omega), e]
        simp
theorem miss_take {a : List Sm} {k : Nat} (hk : k ≤ a.length) : msB a (a.take k) = true ∧ msL a (a.take k) = if k < a.length then [((k : Int), (a.length : Int))] else [] := by
  have h : ¬ nx a (a.take k) a.length < (a.take k).length := by
    rw [nx_take hk _ (Nat.le_refl _), List.length_take]; omega
  rw [(ms_yes h).1, (ms_yes h).2, win_take hk _ (Nat.le_refl _)]
  exact ⟨rfl, rfl⟩
/-! ### sums in 16 signs -/
theorem hexD_in (u k : Nat) : hexD u k ∈ hexs := by
  have : ∀ i : Fin 16, hexs.getD i.val 0 ∈ hexs := by decide
  exact this ⟨u / 16 ^ k % 16, Nat.mod_lt _ (by decide)⟩
theorem hexL_in (u : Nat) : ∀ k, ∀ c ∈ hexL u k, c ∈ hexs
  | 0, c, h => absurd h (by simp [hexL])
  | k + 1, c, h => by
    rcases List.mem_cons.1 h with rfl | h
    · exact hexD_in u k
    · exact hexL_in u k c h
theorem hexN_lt : ∀ f u, u < 16 ^ (f + 1) → u < 16 ^ (hexN f u + 1)
  | 0, u, h => h
  | f + 1, u, h => by
    by_cases hu : u < 16
    · rw [hexN_stop hu]; exact hu
    · rw [hexN_next (by omega)]
      have h1 : u / 16 < 16 ^ (f + 1) := by
        rw [Nat.pow_succ] at h
        exact Nat.div_lt_of_lt_mul (by omega)
      have h2 := hexN_lt f (u / 16) h1
      have h3 : u < 16 ^ (hexN f (u / 16) + 1) * 16 := (Nat.div_lt_iff_lt_mul (by decide)).1 h2
      rw [← Nat.pow_succ] at h3
      exact h3
theorem hexL_pad (u m : Nat) (h : u < 16 ^ m) : ∀ d, hexL u (d + m) = Lib.repeatL [48] d ++ hexL u m
  | 0 => by simp [Lib.repeatL]
  | d + 1 => by
    have e : d + 1 + m = (d + m) + 1 := by omega
    rw [e]
    show hexD u (d + m) :: hexL u (d + m) = [48] ++ Lib.repeatL [48] d ++ hexL u m
    rw [hexL_pad u m h d]
    have : u / 16 ^ (d + m) = 0 := Nat.div_eq_of_lt (Nat.lt_of_lt_of_le h (Nat.pow_le_pow_right (by decide) (by omega)))
    unfold hexD
    rw [this]; rfl
theorem sumT_hex (xs : List Int) : sumT xs = hexL (fnvK xs xs.length) 16 := by
  have hlt := fnvK_lt xs xs.length
  have hN := hexN_le 16 (fnvK xs xs.length)
  have h16 : fnvK xs xs.length < 16 ^ (hexN 16 (fnvK xs xs.length) + 1) := hexN_lt 16 _ (Nat.lt_of_lt_of_le hlt (by decide))
  have hl := hexT_le _ hlt
  unfold sumT
  rw [hexT_len] at hl ⊢
  rw [show (16 : Nat) = (16 - (hexN 16 (fnvK xs xs.length) + 1)) + (hexN 16 (fnvK xs xs.length) + 1) by omega]
  rw [hexL_pad _ _ h16]
  rw [show (16 - (hexN 16 (fnvK xs xs.length) + 1)) + (hexN 16 (fnvK xs xs.length) + 1) = 16 by omega]
  rfl
theorem hexL_mod {a b : Nat} : ∀ k, hexL a k = hexL b k → a % 16 ^ k = b % 16 ^ k
  | 0, _ => by simp [Nat.mod_one]
  | k + 1, h => by
    have h1 : hexD a k = hexD b k := by injection h
    have h2 : hexL a k = hexL b k := by injection h
    have h3 := hexL_mod k h2
    have key : ∀ i j : Fin 16, hexs.getD i.val 0 = hexs.getD j.val 0 → i = j := by decide
    have h4 := key ⟨a / 16 ^ k % 16, Nat.mod_lt _ (by decide)⟩ ⟨b / 16 ^ k % 16, Nat.mod_lt _ (by decide)⟩ h1
    have h5 : a / 16 ^ k % 16 = b / 16 ^ k % 16 := congrArg Fin.val h4
    rw [Nat.mod_pow_succ, Nat.mod_pow_succ, h3, h5]
theorem sumT_inj {xs ys : List Int} (h : sumT xs = sumT ys) : fnvK xs xs.length = fnvK ys ys.length := by
  rw [sumT_hex, sumT_hex] at h
  have h1 := hexL_mod 16 h
  have h2 := fnvK_lt xs xs.length
  have h3 := fnvK_lt ys ys.length
  rw [show (16 : Nat) ^ 16 = 18446744073709551616 by decide, Nat.mod_eq_of_lt h2, Nat.mod_eq_of_lt h3] at h1
  exact h1
theorem trimS_all {l cs : List UInt8} (h : ∀ c ∈ l, c ∈ cs) : Lib.trimS l cs = [] := by
  have h0 : ∀ (m : List UInt8), (∀ c ∈ m, c ∈ cs) → m.dropWhile (cs.contains ·) = [] := by
    intro m
    induction m with
    | nil => intro _; rfl
    | cons c m ih =>
      intro hm
      have hc : cs.contains c = true := by simpa using hm c (List.mem_cons_self ..)
      rw [List.dropWhile_cons, if_pos hc]
      exact ih (fun x hx => hm x (List.mem_cons_of_mem _ hx))
  have h1 : l.reverse.dropWhile (cs.contains ·) = [] := h0 _ (fun x hx => h x (List.mem_reverse.1 hx))
  unfold Lib.trimS Lib.trimRightS Lib.trimLeftS
  rw [h1]; rfl
theorem sumT_is (xs : List Int) : isSum (sumT xs) = true := by
  unfold isSum
  rw [sumT_len, trimS_all (fun c hc => by rw [sumT_hex] at hc; exact hexL_in _ _ c hc)]
  rfl
/-! ### the sum of bytes tells them apart -/
theorem fnvK_fold (xs : List Int) : ∀ k, k ≤ xs.length → fnvK xs k = (xs.take k).foldl fnvS (fnvK xs 0) := by
  intro k
  generalize hz : fnvK xs 0 = z
  induction k with
  | zero => intro _; rw [hz, List.take_zero]; rfl
  | succ k ih =>
    intro h
    rw [fnvK_next (by omega), ih (by omega), List.take_succ_eq_append_getElem (by omega), List.foldl_append, List.foldl_cons, List.foldl_nil]
theorem fnvK_all (xs : List Int) : fnvK xs xs.length = xs.foldl fnvS (fnvK xs 0) := by
  rw [fnvK_fold xs _ (Nat.le_refl _), List.take_length]
theorem mul_inj {a b : Nat} (ha : a < 18446744073709551616) (hb : b < 18446744073709551616) (h : a * 1099511628211 % 18446744073709551616 = b * 1099511628211 % 18446744073709551616) : a = b := by
  have key : ∀ x, x < 18446744073709551616 → (x * 1099511628211 % 18446744073709551616) * 14886173955864302971 % 18446744073709551616 = x := fun x hx => by
    rw [Nat.mod_mul_mod, Nat.mul_assoc, show 1099511628211 * 14886173955864302971 = 1 + 18446744073709551616 * 887285111055 by decide, Nat.mul_add, Nat.mul_one, Nat.mul_left_comm, Nat.add_mul_mod_self_left]
    exact Nat.mod_eq_of_lt hx
  rw [← key a ha, ← key b hb, h]
theorem fnvS_lt (h : Nat) (x : Int) : fnvS h x < 18446744073709551616 := Nat.mod_lt _ (by decide)
theorem xor_lt {h : Nat} {x : Int} (hh : h < 18446744073709551616) (h0 : 0 ≤ x) (h1 : x ≤ 255) : h ^^^ x.toNat < 18446744073709551616 :=
  Nat.xor_lt_two_pow (n := 64) hh (by omega)
theorem fnvS_inj {a b : Nat} {x : Int} (ha : a < 18446744073709551616) (hb : b < 18446744073709551616) (h0 : 0 ≤ x) (h1 : x ≤ 255) (h : fnvS a x = fnvS b x) : a = b := by
  have h2 := mul_inj (xor_lt ha h0 h1) (xor_lt hb h0 h1) h
  have := congrArg (fun n => n ^^^ x.toNat) h2
  simpa [Nat.xor_assoc] using this
theorem fnvS_ne {a : Nat} {x y : Int} (ha : a < 18446744073709551616) (h0 : 0 ≤ x) (h1 : x ≤ 255) (h2 : 0 ≤ y) (h3 : y ≤ 255) (h : fnvS a x = fnvS a y) : x = y := by
  have h4 := mul_inj (xor_lt ha h0 h1) (xor_lt ha h2 h3) h
  have := congrArg (fun n => a ^^^ n) h4
  have h5 : x.toNat = y.toNat := by simpa [← Nat.xor_assoc] using this
  omega
theorem fold_ne : ∀ (l : List Int) (a b : Nat), a < 18446744073709551616 → b < 18446744073709551616 → (∀ x ∈ l, 0 ≤ x ∧ x ≤ 255) → a ≠ b → l.foldl fnvS a ≠ l.foldl fnvS b
  | [], _, _, _, _, _, h => h
  | x :: l, a, b, ha, hb, hx, h => by
    have h1 := hx x (List.mem_cons_self ..)
    exact fold_ne l _ _ (fnvS_lt _ _) (fnvS_lt _ _) (fun y hy => hx y (List.mem_cons_of_mem _ hy)) (fun e => h (fnvS_inj ha hb h1.1 h1.2 e))
theorem fold_lt : ∀ (l : List Int) (a : Nat), a < 18446744073709551616 → l.foldl fnvS a < 18446744073709551616
  | [], _, h => h
  | x :: l, a, _ => fold_lt l _ (fnvS_lt _ _)
theorem sum_differs {p q : List Int} {x y : Int} (hq : ∀ z ∈ q, 0 ≤ z ∧ z ≤ 255) (h0 : 0 ≤ x) (h1 : x ≤ 255) (h2 : 0 ≤ y) (h3 : y ≤ 255) (hne : x ≠ y) : sumT (p ++ x :: q) ≠ sumT (p ++ y :: q) := fun h => by
  have e := sumT_inj h
  have e0 : fnvK (p ++ x :: q) 0 = fnvK (p ++ y :: q) 0 := rfl
  have hz := fnvK_lt (p ++ y :: q) 0
  rw [fnvK_all, fnvK_all, e0] at e
  generalize fnvK (p ++ y :: q) 0 = z at *
  rw [List.foldl_append, List.foldl_append, List.foldl_cons, List.foldl_cons] at e
  have hp := fold_lt p z hz
  exact fold_ne q _ _ (fnvS_lt _ _) (fnvS_lt _ _) hq (fun e => hne (fnvS_ne hp h0 h1 h2 h3 e)) e
/-! ### the chain of the first blocks -/
theorem blkC_take {xs : List Int} {k i : Nat} (h : i < k) : blkC (xs.take (60 * k)) i = blkC xs i := by
  unfold blkC
  rw [List.drop_take, List.take_take, show min 60 (60 * k - 60 * i) = 60 by omega]
theorem lastC_take {xs : List Int} {start : List UInt8} {k : Nat} : ∀ i, i ≤ k → lastC (xs.take (60 * k)) start i = lastC xs start i
  | 0, _ => rfl
  | i + 1, h => by
    show sumT (bytesI (lastC (xs.take (60 * k)) start i) ++ blkC (xs.take (60 * k)) i) = _
    rw [lastC_take i (by omega), blkC_take (by omega)]; rfl
theorem nBlk_take {xs : List Int} {k : Nat} (h : k ≤ nBlk xs) : nBlk (xs.take (60 * k)) = k := by
  unfold nBlk at h ⊢
  rw [List.length_take]; omega
theorem chainA_take {xs : List Int} {start : List UInt8} {k : Nat} (h : k ≤ nBlk xs) : chainA (xs.take (60 * k)) start = (chainA xs start).take k := by
  unfold chainA
  rw [nBlk_take h]
  unfold chainT
  rw [← List.map_take, List.take_range, show min k (nBlk xs) = k by omega]
  refine List.map_congr_left (fun i hi => ?_)
  exact lastC_take (i + 1) (by have := List.mem_range.1 hi; omega)
theorem chainA_sums {xs : List Int} {start s : List UInt8} (h : s ∈ chainA xs start) : isSum s = true ∧ s.length = 16 := by
  unfold chainA chainT at h
  obtain ⟨k, _, rfl⟩ := List.mem_map.1 h
  exact ⟨sumT_is _, sumT_len _⟩
theorem sF_chain {l : List Sm} (h : ∀ s ∈ l, isSum s = true) : sF l = 0 := by
  unfold sF
  rw [if_neg]
  intro hx
  obtain ⟨s, hs, h2⟩ := List.any_eq_true.1 hx
  rw [h s hs] at h2; cases h2
/-! ### a changed frame -/
theorem blkC_set {xs : List Int} {at_ i : Nat} {v : Int} (h : i ≠ at_ / 60) : blkC (xs.set at_ v) i = blkC xs i := by
  unfold blkC
  apply List.ext_getElem?
  intro j
  rw [List.getElem?_take, List.getElem?_take]
  split
  · rw [List.getElem?_drop, List.getElem?_drop, List.getElem?_set_ne (by omega)]
  · rfl
theorem lastC_set {xs : List Int} {start : List UInt8} {at_ : Nat} {v : Int} : ∀ i, i ≤ at_ / 60 → lastC (xs.set at_ v) start i = lastC xs start i
  | 0, _ => rfl
  | i + 1, h => by
    show sumT (bytesI (lastC (xs.set at_ v) start i) ++ blkC (xs.set at_ v) i) = _
    rw [lastC_set i (by omega), blkC_set (by omega)]; rfl
theorem split_at {l : List Int} {j : Nat} (h : j < l.length) : l = l.take j ++ l[j] :: l.drop (j + 1) := by
  rw [← List.drop_eq_getElem_cons h, List.take_append_drop]
theorem set_split {l : List Int} {j : Nat} (h : j < l.length) (v : Int) : l.set j v = l.take j ++ v :: l.drop (j + 1) := by
  rw [List.set_eq_take_append_cons_drop, if_pos h]
theorem blkC_hit {xs : List Int} {at_ : Nat} (h : at_ < xs.length) (v : Int) : blkC (xs.set at_ v) (at_ / 60) = (blkC xs (at_ / 60)).set (at_ % 60) v := by
  unfold blkC
  apply List.ext_getElem?
  intro j
  rw [List.getElem?_take]
  by_cases hj : j < 60
  · rw [if_pos hj, List.getElem?_drop]
    by_cases e : j = at_ % 60
    · subst e
      rw [show 60 * (at_ / 60) + at_ % 60 = at_ by omega, List.getElem?_set_self h, List.getElem?_set_self (by rw [List.length_take, List.length_drop]; omega)]
    · rw [List.getElem?_set_ne (by omega), List.getElem?_set_ne (by omega), List.getElem?_take, if_pos hj, List.getElem?_drop]
  · rw [if_neg hj, List.getElem?_eq_none (by rw [List.length_set, List.length_take]; omega)]
theorem blkC_at {xs : List Int} {at_ : Nat} (h : at_ < xs.length) : ∃ hh : at_ % 60 < (blkC xs (at_ / 60)).length, (blkC xs (at_ / 60))[at_ % 60] = xs[at_] := by
  have hl : at_ % 60 < (blkC xs (at_ / 60)).length := by unfold blkC; rw [List.length_take, List.length_drop]; omega
  refine ⟨hl, ?_⟩
  have : (blkC xs (at_ / 60))[at_ % 60]? = xs[at_]? := by
    unfold blkC
    rw [List.getElem?_take, if_pos (by omega), List.getElem?_drop, show 60 * (at_ / 60) + at_ % 60 = at_ by omega]
  rw [List.getElem?_eq_getElem hl, List.getElem?_eq_getElem h] at this
  injection this
theorem lastC_ne {xs : List Int} {start : List UInt8} {at_ : Nat} {v : Int} (h : at_ < xs.length) (hx : ∀ x ∈ xs, 0 ≤ x ∧ x ≤ 255) (h0 : 0 ≤ v) (h1 : v ≤ 255) (hne : v ≠ xs[at_]) :
    lastC (xs.set at_ v) start (at_ / 60 + 1) ≠ lastC xs start (at_ / 60 + 1) := by
  show sumT (bytesI (lastC (xs.set at_ v) start (at_ / 60)) ++ blkC (xs.set at_ v) (at_ / 60)) ≠ sumT (bytesI (lastC xs start (at_ / 60)) ++ blkC xs (at_ / 60))
  rw [lastC_set _ (Nat.le_refl _), blkC_hit h]
  obtain ⟨hl, he⟩ := blkC_at h
  have hb : ∀ z ∈ (blkC xs (at_ / 60)).drop (at_ % 60 + 1), 0 ≤ z ∧ z ≤ 255 := fun z hz => hx z (List.mem_of_mem_drop (List.mem_of_mem_take (List.mem_of_mem_drop hz)))
  have hv := hx xs[at_] (List.getElem_mem h)
  rw [set_split hl v]
  conv => rhs; rw [split_at hl, he]
  rw [← List.append_assoc, ← List.append_assoc]
  exact sum_differs hb h0 h1 hv.1 hv.2 hne
theorem verN_self : ∀ (a : List Sm) (k : Nat), verN a a k = -1
  | [], _ => rfl
  | x :: a, k => by
    show (if x = x then verN a a (k + 1) else (k : Int)) = -1
    rw [if_pos rfl]; exact verN_self a (k + 1)
theorem verN_first {a b : List Sm} : ∀ (q k : Nat), q < a.length → a.length = b.length → (∀ i, i < q → a[i]? = b[i]?) → a[q]? ≠ b[q]? → verN a b k = (k + q : Nat) := by
  induction a generalizing b with
  | nil => intro q k h; exact absurd h (by simp)
  | cons x a ih =>
    intro q k hq hl hs hd
    cases b with
    | nil => simp at hl
    | cons y b =>
      show (if x = y then verN a b (k + 1) else (k : Int)) = _
      cases q with
      | zero =>
        have : x ≠ y := fun e => hd (by simp [e])
        rw [if_neg this]; rfl
      | succ q =>
        have h0 := hs 0 (by omega)
        have e : x = y := by simpa using h0
        rw [if_pos e, ih q (k + 1) (by simpa using hq) (by simpa using hl) (fun i hi => by simpa using hs (i + 1) (by omega)) (by simpa using hd)]
        omega
theorem chainA_at {xs : List Int} {start : List UInt8} {i : Nat} (h : i < nBlk xs) : (chainA xs start)[i]? = some (lastC xs start (i + 1)) := by
  unfold chainA chainT
  rw [List.getElem?_map, List.getElem?_range h]; rfl
theorem chain_breaks {xs : List Int} {start : List UInt8} {at_ : Nat} {v : Int} (h : at_ < xs.length) (hx : ∀ x ∈ xs, 0 ≤ x ∧ x ≤ 255) (h0 : 0 ≤ v) (h1 : v ≤ 255) (hne : v ≠ xs[at_]) :
    verN (chainA (xs.set at_ v) start) (chainA xs start) 0 = ((at_ / 60 : Nat) : Int) := by
  have hq : at_ / 60 < nBlk xs := by unfold nBlk; omega
  have hn : nBlk (xs.set at_ v) = nBlk xs := by unfold nBlk; rw [List.length_set]
  have := verN_first (a := chainA (xs.set at_ v) start) (b := chainA xs start) (at_ / 60) 0 (by rw [chainA_len, hn]; exact hq) (by rw [chainA_len, chainA_len, hn]) (fun i hi => by
    rw [chainA_at (by rw [hn]; omega), chainA_at (by omega), lastC_set _ (by omega)]) (by
    rw [chainA_at (by rw [hn]; exact hq), chainA_at hq]
    intro e
    injection e with e
    exact lastC_ne h hx h0 h1 hne e)
  rw [this, Nat.zero_add]
end Go.Proofs.YtdidcjhgdofgcaaGreatDoor
