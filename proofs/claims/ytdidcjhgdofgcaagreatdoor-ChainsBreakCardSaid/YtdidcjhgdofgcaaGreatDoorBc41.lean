/- Texts of this seat, laid together: AgP Ag EvP Mk. -/
import Derived.Test.YtdidcjhgdofgcaaGreatDoorBc00
/- Which of some sums others do not have: plain mathematics; no program of Go in sight. -/
namespace Go.Proofs.YtdidcjhgdofgcaaGreatDoor
set_option linter.unusedVariables false
set_option linter.unusedSimpArgs false

abbrev Sm := List UInt8
/-- How many of b are found among the first i of a. -/
def nx (a b : List Sm) : Nat → Nat
  | 0 => 0
  | i + 1 => if nx a b i < b.length ∧ b.getD (nx a b i) [] = a.getD i [] then nx a b i + 1 else nx a b i
def hit (a b : List Sm) (i : Nat) : Prop := nx a b i < b.length ∧ b.getD (nx a b i) [] = a.getD i []
instance (a b : List Sm) (i : Nat) : Decidable (hit a b i) := by unfold hit; infer_instance
theorem nx_hit {a b : List Sm} {i : Nat} (h : hit a b i) : nx a b (i + 1) = nx a b i + 1 := by unfold hit at h; rw [nx, if_pos h]
theorem nx_not {a b : List Sm} {i : Nat} (h : ¬ hit a b i) : nx a b (i + 1) = nx a b i := by unfold hit at h; rw [nx, if_neg h]
theorem nx_le (a b : List Sm) : ∀ i, nx a b i ≤ i ∧ nx a b i ≤ b.length := by
  intro i
  induction i with
  | zero => simp [nx]
  | succ i ih =>
    by_cases h : hit a b i
    · rw [nx_hit h]; have := h.1; omega
    · rw [nx_not h]; omega
def setLast (l : List (Int × Int)) (x : Int) : List (Int × Int) := l.set (l.length - 1) ((l.getD (l.length - 1) (0, 0)).1, x)
theorem setLast_len (l : List (Int × Int)) (x : Int) : (setLast l x).length = l.length := by simp [setLast]
/-- The windows of what is missing among the first i. -/
def win (a b : List Sm) : Nat → List (Int × Int)
  | 0 => []
  | i + 1 => if hit a b i then win a b i else if 0 < i ∧ ¬ hit a b (i - 1) then setLast (win a b i) (i + 1) else win a b i ++ [((i : Int), (i : Int) + 1)]
theorem win_hit {a b : List Sm} {i : Nat} (h : hit a b i) : win a b (i + 1) = win a b i := by rw [win, if_pos h]
theorem win_more {a b : List Sm} {i : Nat} (h : ¬ hit a b i) (h' : 0 < i ∧ ¬ hit a b (i - 1)) : win a b (i + 1) = setLast (win a b i) (i + 1) := by rw [win, if_neg h, if_pos h']
theorem win_new {a b : List Sm} {i : Nat} (h : ¬ hit a b i) (h' : ¬ (0 < i ∧ ¬ hit a b (i - 1))) : win a b (i + 1) = win a b i ++ [((i : Int), (i : Int) + 1)] := by rw [win, if_neg h, if_neg h']
theorem getD_pr (l : List (Int × Int)) (k : Nat) (h : k < l.length) : l.getD k (0, 0) = l[k] := by rw [List.getD_eq_getElem?_getD, List.getElem?_eq_getElem h]; rfl
/-- What is known of the last window. -/
theorem win_inv (a b : List Sm) : ∀ i, (win a b i).length ≤ i ∧ ((0 < i ∧ ¬ hit a b (i - 1)) → 0 < (win a b i).length ∧ ((win a b i).getD ((win a b i).length - 1) (0, 0)).2 = i) ∧ (¬ (0 < i ∧ ¬ hit a b (i - 1)) → ∀ p ∈ win a b i, p.2 < i) ∧ ∀ p ∈ win a b i, p.2 ≤ i := by
  intro i
  induction i with
  | zero => simp [win]
  | succ i ih =>
    obtain ⟨h1, h2, h3, h4⟩ := ih
    by_cases h : hit a b i
    · rw [win_hit h]
      refine ⟨by omega, fun hh => absurd h (by simpa using hh.2), fun _ p hp => by have := h4 p hp; omega, fun p hp => by have := h4 p hp; omega⟩
    · by_cases h' : 0 < i ∧ ¬ hit a b (i - 1)
      · obtain ⟨g1, g2⟩ := h2 h'
        rw [win_more h h']
        refine ⟨by rw [setLast_len]; omega, fun _ => ⟨by rw [setLast_len]; exact g1, ?_⟩, fun hh => absurd ⟨by omega, by simpa using h⟩ hh, fun p hp => ?_⟩
        · rw [setLast_len, getD_pr _ _ (by rw [setLast_len]; omega)]
          simp [setLast]
        · rcases List.mem_or_eq_of_mem_set hp with hp | hp
          · have := h4 p hp; omega
          · subst hp; simp
      · rw [win_new h h']
        refine ⟨by simp; omega, fun _ => ⟨by simp, ?_⟩, fun hh => absurd ⟨by omega, by simpa using h⟩ hh, fun p hp => ?_⟩
        · rw [getD_pr _ _ (by simp)]
          simp
        · rcases List.mem_append.1 hp with hp | hp
          · have := h4 p hp; omega
          · simp at hp; subst hp; simp
theorem win_last (a b : List Sm) (i : Nat) : (0 < (win a b i).length ∧ ((win a b i).getD ((win a b i).length - 1) (0, 0)).2 = i) ↔ (0 < i ∧ ¬ hit a b (i - 1)) := by
  obtain ⟨_, h2, h3, _⟩ := win_inv a b i
  constructor
  · rintro ⟨g1, g2⟩
    apply Classical.byContradiction
    intro h
    have := h3 h _ (by rw [getD_pr _ _ (by omega)] at g2; exact List.getElem_mem (show (win a b i).length - 1 < (win a b i).length by omega))
    rw [getD_pr _ _ (by omega)] at g2
    omega
  · exact h2
def msB (a b : List Sm) : Bool := decide (¬ nx a b a.length < b.length)
def msL (a b : List Sm) : List (Int × Int) := if nx a b a.length < b.length then [] else win a b a.length
theorem ms_no {a b : List Sm} (h : nx a b a.length < b.length) : msB a b = false ∧ msL a b = [] := by simp [msB, msL, h]
theorem ms_yes {a b : List Sm} (h : ¬ nx a b a.length < b.length) : msB a b = true ∧ msL a b = win a b a.length := by simp only [msB, msL, h, if_false]; simp
theorem sm_at (l : List Sm) (k : Nat) (h : k < l.length) : l.getD k [] = l[k] := by rw [List.getD_eq_getElem?_getD, List.getElem?_eq_getElem h]; rfl
end Go.Proofs.YtdidcjhgdofgcaaGreatDoor
/- Timings that agree: plain mathematics; no program of Go in sight. -/
namespace Go.Proofs.YtdidcjhgdofgcaaGreatDoor
set_option linter.unusedVariables false
set_option linter.unusedSimpArgs false

def sorted (l : List Int) : List Int := l.mergeSort fun x y => decide (x ≤ y)
theorem sorted_len (l : List Int) : (sorted l).length = l.length := List.length_mergeSort _
theorem sorted_mem {l : List Int} {x : Int} : x ∈ sorted l ↔ x ∈ l := List.mem_mergeSort
/-- How far the group of place i goes. -/
def rch (s : List Int) (within : Int) (i : Nat) : Nat := i + ((s.drop i).takeWhile fun y => decide (y - s.getD i 0 ≤ within)).length
theorem takeWhile_len (l : List Int) (p : Int → Bool) (k : Nat) (hk : k ≤ l.length) (h : ∀ j, (hj : j < l.length) → j < k → p l[j] = true) (he : k = l.length ∨ ∃ h : k < l.length, p l[k] = false) : (l.takeWhile p).length = k := by
  induction l generalizing k with
  | nil => simp at hk ⊢; omega
  | cons x l ih =>
    cases k with
    | zero =>
      rcases he with he | ⟨_, he⟩
      · simp at he
      · simp at he; simp [he]
    | succ k =>
      have hx := h 0 (by simp) (by omega)
      simp at hx
      rw [List.takeWhile_cons, if_pos hx, List.length_cons]
      rw [ih k (by simpa using hk) (fun j hj hjk => by have := h (j + 1) (by simpa using hj) (by omega); simpa using this) ?_]
      rcases he with he | ⟨h1, he⟩
      · exact .inl (by simpa using he)
      · exact .inr ⟨by simpa using h1, by simpa using he⟩
theorem rch_eq {s : List Int} {within : Int} {i k : Nat} (hi : i < s.length) (h1 : i ≤ k) (h2 : k ≤ s.length) (h : ∀ j, (hj : j < s.length) → i ≤ j → j < k → s[j] - s[i] ≤ within) (he : k = s.length ∨ ∃ h : k < s.length, ¬ s[k] - s[i] ≤ within) : rch s within i = k := by
  unfold rch
  have hg : s.getD i 0 = s[i] := by rw [List.getD_eq_getElem?_getD, List.getElem?_eq_getElem hi]; rfl
  rw [hg, takeWhile_len (s.drop i) _ (k - i) (by simp; omega) (fun j hj hjk => by
    simp at hj ⊢
    exact h (i + j) (by omega) (by omega) (by omega)) ?_]
  · omega
  · rcases he with he | ⟨h3, he⟩
    · exact .inl (by simp; omega)
    · refine .inr ⟨by simp; omega, ?_⟩
      simp only [List.getElem_drop]
      have : i + (k - i) = k := by omega
      simp only [this]
      simpa using he
theorem rch_le (s : List Int) (within : Int) (i : Nat) (hi : i ≤ s.length) : i ≤ rch s within i ∧ rch s within i ≤ s.length := by
  unfold rch
  have := (List.takeWhile_prefix (fun y => decide (y - s.getD i 0 ≤ within)) (l := s.drop i)).length_le
  rw [List.length_drop] at this
  omega
/-- The first greatest group: where it begins, and how many there are. -/
def bst (s : List Int) (within : Int) : Nat → Nat × Nat
  | 0 => (0, 0)
  | i + 1 => if (bst s within i).2 < rch s within i - i then (i, rch s within i - i) else bst s within i
theorem bst_le (s : List Int) (within : Int) : ∀ i, i ≤ s.length → (bst s within i).1 + (bst s within i).2 ≤ s.length := by
  intro i
  induction i with
  | zero => intro _; simp [bst]
  | succ i ih =>
    intro h
    have := ih (by omega)
    have r := rch_le s within i (by omega)
    rw [bst]
    split
    · simp; omega
    · exact this
theorem bst_new {s : List Int} {within : Int} {i : Nat} (h : (bst s within i).2 < rch s within i - i) : bst s within (i + 1) = (i, rch s within i - i) := by rw [bst, if_pos h]
theorem bst_old {s : List Int} {within : Int} {i : Nat} (h : ¬ (bst s within i).2 < rch s within i - i) : bst s within (i + 1) = bst s within i := by rw [bst, if_neg h]
/-- What is agreed upon, or -1. -/
def agS (s : List Int) (within : Int) : Int := if 2 * (bst s within s.length).2 ≤ s.length then -1 else s.getD ((bst s within s.length).1 + ((bst s within s.length).2 - 1) / 2) 0
theorem agS_no {s : List Int} {within : Int} (h : 2 * (bst s within s.length).2 ≤ s.length) : agS s within = -1 := by rw [agS, if_pos h]
theorem agS_yes {s : List Int} {within : Int} (h : ¬ 2 * (bst s within s.length).2 ≤ s.length) : ∃ hk : (bst s within s.length).1 + ((bst s within s.length).2 - 1) / 2 < s.length, agS s within = s[(bst s within s.length).1 + ((bst s within s.length).2 - 1) / 2] := by
  have b := bst_le s within s.length (Nat.le_refl _)
  have hk : (bst s within s.length).1 + ((bst s within s.length).2 - 1) / 2 < s.length := by omega
  refine ⟨hk, ?_⟩
  rw [agS, if_neg h, List.getD_eq_getElem?_getD, List.getElem?_eq_getElem hk]; rfl
def tmOk (l : List Int) (within : Int) : Prop := (∀ x ∈ l, 0 ≤ x ∧ x ≤ 864000000) ∧ 0 ≤ within ∧ within ≤ 864000000
instance (l : List Int) (within : Int) : Decidable (tmOk l within) := by unfold tmOk; infer_instance
def tmF (l : List Int) (within : Int) : Int := if l.length = 0 then 8 else if 50 < l.length then 2 else if tmOk l within then 0 else 1
theorem tmF_none {l : List Int} {within : Int} (h : l.length = 0) : tmF l within = 8 := by rw [tmF, if_pos h]
theorem tmF_large {l : List Int} {within : Int} (h : 50 < l.length) : tmF l within = 2 := by rw [tmF, if_neg (by omega), if_pos h]
theorem tmF_ok {l : List Int} {within : Int} (h : l.length ≠ 0) (h' : ¬ 50 < l.length) (hk : tmOk l within) : tmF l within = 0 := by rw [tmF, if_neg h, if_neg h', if_pos hk]
theorem tmF_arg {l : List Int} {within : Int} (h : l.length ≠ 0) (h' : ¬ 50 < l.length) (hk : ¬ tmOk l within) : tmF l within = 1 := by rw [tmF, if_neg h, if_neg h', if_neg hk]
/-- What Agreed hands back: the agreed time or -1. -/
def agR (l : List Int) (within : Int) : Int := if tmF l within = 0 then agS (sorted l) within else -1
end Go.Proofs.YtdidcjhgdofgcaaGreatDoor
/- Which frame is seen at a time: plain mathematics; no program of Go in sight. -/
namespace Go.Proofs.YtdidcjhgdofgcaaGreatDoor
set_option linter.unusedVariables false
set_option linter.unusedSimpArgs false

theorem getD_at (v : List St) (k : Nat) (hk : k < v.length) : v.getD k (0, 1, 1) = v[k] := by rw [List.getD_eq_getElem?_getD, List.getElem?_eq_getElem hk]; rfl
theorem used_mono (v : List St) (f f' : Int) (h : f ≤ f') (k : Nat) : usedM v f k ≤ usedM v f' k := by unfold usedM; omega
theorem begK_mono {v : List St} (hg : Good v) (f f' : Int) (h : f ≤ f') : ∀ k, k ≤ v.length → begK (multK v) v f k ≤ begK (multK v) v f' k := by
  intro k
  induction k with
  | zero => intro _; simp [begK]
  | succ k ih =>
    intro hk
    have i := ih (by omega)
    have u := used_mono v f f' h k
    have l := hg.long v[k] (List.getElem_mem _)
    rw [begK, begK, getD_at v k (by omega)]
    have := Int.mul_le_mul_of_nonneg_right u (show 0 ≤ longM (multK v) v[k] by omega)
    omega
theorem begM_mono {v : List St} (hg : Good v) (f f' : Int) (h : f ≤ f') : begM v f ≤ begM v f' := begK_mono hg f f' h _ (Nat.le_refl _)
/-- How long the first k stretches are. -/
def fullK (v : List St) : Nat → Int
  | 0 => 0
  | k + 1 => fullK v k + (v.getD k (0, 1, 1)).1 * longM (multK v) (v.getD k (0, 1, 1))
theorem fsum_le_take (v : List St) (hp : ∀ s ∈ v, 0 ≤ s.1) (i k : Nat) (h : i ≤ k) : fsum (v.take i) ≤ fsum (v.take k) := by
  have := (fsum_take_le (v.take k) i fun s hs => hp s (List.mem_of_mem_take hs)).2
  rwa [List.take_take, Nat.min_eq_left h] at this
theorem beg_lo {v : List St} (hg : Good v) (f : Int) (k : Nat) (hk : k ≤ v.length) (hf : fsum (v.take k) ≤ f) : ∀ i, i ≤ k → begK (multK v) v f i = fullK v i := by
  intro i
  induction i with
  | zero => intro _; rfl
  | succ i ih =>
    intro hi
    have h1 := fsum_le_take v hg.nonneg (i + 1) k hi
    have h2 := fsum_take v i (by omega)
    have h3 := hg.nonneg v[i] (List.getElem_mem _)
    have : usedM v f i = v[i].1 := by
      unfold usedM
      rw [getD_at v i (by omega)]
      omega
    rw [begK, fullK, ih (by omega), this, getD_at v i (by omega)]
theorem beg_hi {v : List St} (hg : Good v) (f : Int) (k : Nat) (hf : f ≤ fsum (v.take k)) : ∀ n, k + n ≤ v.length → begK (multK v) v f (k + n) = begK (multK v) v f k := by
  intro n
  induction n with
  | zero => intro _; rfl
  | succ n ih =>
    intro hn
    have h1 := fsum_le_take v hg.nonneg k (k + n) (by omega)
    have h3 := hg.nonneg v[k + n] (List.getElem_mem _)
    have : usedM v f (k + n) = 0 := by
      unfold usedM
      rw [getD_at v (k + n) (by omega)]
      omega
    rw [← Nat.add_assoc, begK, ih (by omega), this]
    simp
theorem begM_at {v : List St} (hg : Good v) (k : Nat) (hk : k < v.length) (j : Int) (h0 : 0 ≤ j) (h1 : j ≤ v[k].1) : begM v (fsum (v.take k) + j) = fullK v k + j * longM (multK v) v[k] := by
  have e := fsum_take v k hk
  have h := beg_hi hg (fsum (v.take k) + j) (k + 1) (by omega) (v.length - (k + 1)) (by omega)
  rw [show k + 1 + (v.length - (k + 1)) = v.length by omega] at h
  have hu : usedM v (fsum (v.take k) + j) k = j := by
    unfold usedM
    rw [getD_at v k hk]
    omega
  unfold begM
  rw [h, begK, beg_lo hg _ k (by omega) (by omega) k (Nat.le_refl _), hu, getD_at v k hk]
theorem begM_end {v : List St} (hg : Good v) : begM v (fsum v) = fullK v v.length := by
  have := beg_lo hg (fsum v) v.length (Nat.le_refl _) (by rw [List.take_length]; omega) v.length (Nat.le_refl _)
  exact this
theorem begM_zero {v : List St} (hg : Good v) : begM v 0 = 0 := by
  have h := beg_hi hg 0 0 (by simp [fsum]) v.length (by omega)
  rw [Nat.zero_add] at h
  unfold begM
  rw [h]; rfl

/-- The frame that is seen when so many parts are gone; -1: the video has ended. -/
def Seen (v : List St) (L r : Int) : Prop := (r = -1 ∧ begM v (fsum v) ≤ L) ∨ (0 ≤ r ∧ r < fsum v ∧ begM v r ≤ L ∧ L < begM v (r + 1))
theorem Seen.one {v : List St} (hg : Good v) {L r r' : Int} (h : Seen v L r) (h' : Seen v L r') : r = r' := by
  rcases h with ⟨rfl, h1⟩ | ⟨a1, a2, a3, a4⟩
  · rcases h' with ⟨rfl, h2⟩ | ⟨b1, b2, b3, b4⟩
    · rfl
    · have := begM_mono hg (r' + 1) (fsum v) (by omega); omega
  · rcases h' with ⟨rfl, h2⟩ | ⟨b1, b2, b3, b4⟩
    · have := begM_mono hg (r + 1) (fsum v) (by omega); omega
    · rcases Int.lt_trichotomy r r' with h | h | h
      · have := begM_mono hg (r + 1) r' (by omega); omega
      · exact h
      · have := begM_mono hg (r' + 1) r (by omega); omega
open Classical in
noncomputable def seenR (v : List St) (L : Int) : Int := if h : ∃ r, Seen v L r then h.choose else -1
theorem Seen.eq {v : List St} (hg : Good v) {L r : Int} (h : Seen v L r) : seenR v L = r := by
  have hx : ∃ r, Seen v L r := ⟨r, h⟩
  unfold seenR
  rw [dif_pos hx]
  exact Seen.one hg hx.choose_spec h
def seenL (v : List St) (time : Int) : Int := time * multK v / 1000
theorem seenL_iff (v : List St) (time n : Int) : n ≤ seenL v time ↔ 1000 * n ≤ time * multK v := by
  unfold seenL
  rw [Int.le_ediv_iff_mul_le (by omega), Int.mul_comm n 1000]
theorem seen_in {v : List St} (hg : Good v) (k : Nat) (hk : k < v.length) (L : Int) (h0 : fullK v k ≤ L) (h1 : L - fullK v k < v[k].1 * longM (multK v) v[k]) : Seen v L (fsum (v.take k) + (L - fullK v k) / longM (multK v) v[k]) := by
  have l := hg.long v[k] (List.getElem_mem _)
  generalize hD : L - fullK v k = D at *
  generalize hl : longM (multK v) v[k] = w at *
  have q0 : 0 ≤ D / w := Int.ediv_nonneg (by omega) (by omega)
  have q1 : D / w < v[k].1 := by
    rw [Int.ediv_lt_iff_lt_mul (by omega)]; exact h1
  have e1 := begM_at hg k hk (D / w) q0 (by omega)
  have e2 := begM_at hg k hk (D / w + 1) (by omega) (by omega)
  have s1 := fsum_take v k hk
  have s2 := fsum_take_le v (k + 1) hg.nonneg
  have s3 := fsum_take_le v k hg.nonneg
  have d1 := Int.ediv_mul_le D (show w ≠ 0 by omega)
  have d2 := Int.lt_ediv_add_one_mul_self D (show 0 < w by omega)
  rw [hl] at e1 e2
  refine .inr ⟨by omega, by omega, by omega, ?_⟩
  rw [Int.add_assoc, e2]
  omega
theorem seen_past {v : List St} (hg : Good v) (L : Int) (h : fullK v v.length ≤ L) : Seen v L (-1) := .inl ⟨rfl, by rw [begM_end hg]; exact h⟩
theorem fullK_bd {v : List St} (hg : Good v) (k : Nat) (hk : k ≤ v.length) : 0 ≤ fullK v k ∧ fullK v k ≤ 1000000000000000 := by
  have h1 := beg_lo hg (fsum v) k hk (by have := fsum_take_le v k hg.nonneg; omega) k (Nat.le_refl _)
  have h2 := begK_bd hg (fsum v) k hk
  have h3 := fsum_take_le v k hg.nonneg
  have h4 := hg.sum
  omega
theorem fullK_next (v : List St) (k : Nat) (hk : k < v.length) : fullK v (k + 1) = fullK v k + v[k].1 * longM (multK v) v[k] := by rw [fullK, getD_at v k hk]
theorem later_law (n m time : Int) (hm : 1 ≤ m) : (n / m ≠ time / 1000 → (decide (time / 1000 < n / m) = decide (time * m < 1000 * n))) ∧ (n / m = time / 1000 → (decide (time % 1000 * m < n % m * 1000) = decide (time * m < 1000 * n))) := by
  have e1 := Int.mul_ediv_add_emod n m
  have e2 := Int.mul_ediv_add_emod time 1000
  have r1 := Int.emod_nonneg n (show m ≠ 0 by omega)
  have r2 := Int.emod_lt_of_pos n (show 0 < m by omega)
  have u1 := Int.emod_nonneg time (show (1000 : Int) ≠ 0 by omega)
  have u2 := Int.emod_lt_of_pos time (show (0 : Int) < 1000 by omega)
  generalize n / m = q at *
  generalize n % m = r at *
  generalize time / 1000 = s at *
  generalize time % 1000 = u at *
  have a1 : 0 ≤ u * m := Int.mul_nonneg u1 (by omega)
  have a2 : u * m ≤ 999 * m := Int.mul_le_mul_of_nonneg_right (by omega) (by omega)
  have e3 : time * m = 1000 * (m * s) + u * m := by rw [← e2, Int.add_mul, Int.mul_assoc, Int.mul_comm s m]
  refine ⟨fun h => ?_, fun h => ?_⟩
  · rw [e3, ← e1, decide_eq_decide]
    rcases Int.lt_or_lt_of_ne h with h | h
    · have b := Int.mul_le_mul_of_nonneg_left (show q + 1 ≤ s by omega) (show 0 ≤ m by omega)
      rw [Int.mul_add] at b
      constructor <;> intro _ <;> omega
    · have b := Int.mul_le_mul_of_nonneg_left (show s + 1 ≤ q by omega) (show 0 ≤ m by omega)
      rw [Int.mul_add] at b
      constructor <;> intro _ <;> omega
  · subst h
    rw [e3, ← e1, decide_eq_decide]
    constructor <;> intro _ <;> omega
/-- The first test of begun follows from the second. -/
theorem begun_first (n m time : Int) (hm : 1 ≤ m) (_ : 0 ≤ n) (h : 1000 * n ≤ time * m) : n / m * 1000 + n % m * 1000 / m ≤ time := by
  have e1 := Int.mul_ediv_add_emod n m
  have : n / m * 1000 + n % m * 1000 / m = (1000 * n) / m := by
    conv => rhs; rw [← e1]
    rw [show 1000 * (m * (n / m) + n % m) = n % m * 1000 + m * (n / m * 1000) by
      rw [Int.mul_add, Int.mul_comm 1000 (n % m), Int.add_comm, Int.mul_left_comm, Int.mul_comm 1000 (n / m)]]
    rw [Int.add_mul_ediv_left _ _ (by omega)]
    omega
  rw [this]
  have := Int.ediv_le_ediv (show 0 < m by omega) h
  rwa [Int.mul_ediv_cancel _ (by omega)] at this
end Go.Proofs.YtdidcjhgdofgcaaGreatDoor
/- Marks of a video: plain mathematics; no program of Go in sight. A mark is its frame and its kind. -/
namespace Go.Proofs.YtdidcjhgdofgcaaGreatDoor
set_option linter.unusedVariables false
set_option linter.unusedSimpArgs false

abbrev Mk := Int × Int
theorem begK_bd' {v : List St} (h : Good v) (f : Int) : ∀ k, k ≤ v.length → begK (multK v) v f k ≤ fsum (v.take k) * multK v := by
  intro k
  induction k with
  | zero => intro _; simp [begK, fsum]
  | succ k ih =>
    intro hk
    have hlt : k < v.length := by omega
    have i := ih (by omega)
    have u := used_bd v h.nonneg f k hlt
    have l := h.long v[k] (List.getElem_mem _)
    rw [begK, getD_at v k hlt, fsum_take v k hlt, Int.add_mul]
    have a2 : usedM v f k * longM (multK v) v[k] ≤ v[k].1 * multK v := Int.mul_le_mul u.2 l.2 (by omega) (by omega)
    omega
theorem begM_bd' {v : List St} (h : Good v) (f : Int) : 0 ≤ begM v f ∧ begM v f ≤ 10000000 * multK v := by
  have h0 := (begK_bd h f v.length (Nat.le_refl _)).1
  have h1 := begK_bd' h f v.length (Nat.le_refl _)
  rw [List.take_length] at h1
  have h2 := Int.mul_le_mul_of_nonneg_right h.sum (show 0 ≤ multK v by have := h.mbd; omega)
  unfold begM
  omega
/-- Milliseconds, rounded. -/
def msM (m n : Int) : Int := n / m * 1000 + (2000 * (n % m) + m) / (2 * m)
/-- What film.times has gathered: since when time counts, what has counted, the times. -/
def tstep (v : List St) (s : Int × Int × List Int) (x : Mk) : Int × Int × List Int :=
  if x.2 = 1 ∨ x.2 = 4 then (begM v x.1, s.2.1, s.2.2) else if x.2 = 3 then (s.1, s.2.1 + (begM v x.1 - s.1), s.2.2) else (s.1, s.2.1, s.2.2 ++ [msM (multK v) (s.2.1 + begM v x.1 - s.1)])
def tS (v : List St) (l : List Mk) : Int × Int × List Int := l.foldl (tstep v) (0, 0, [])
theorem tS_take (v : List St) (l : List Mk) (k : Nat) (h : k < l.length) : tS v (l.take (k + 1)) = tstep v (tS v (l.take k)) l[k] := by
  unfold tS; rw [List.take_succ_eq_append_getElem h, List.foldl_append]; rfl
theorem tstep_on (v : List St) (s : Int × Int × List Int) (x : Mk) (h : x.2 = 1 ∨ x.2 = 4) : tstep v s x = (begM v x.1, s.2.1, s.2.2) := by simp [tstep, h]
theorem tstep_off (v : List St) (s : Int × Int × List Int) (x : Mk) (h : x.2 = 3) : tstep v s x = (s.1, s.2.1 + (begM v x.1 - s.1), s.2.2) := by simp [tstep, h]
theorem tstep_out (v : List St) (s : Int × Int × List Int) (x : Mk) (h : ¬ (x.2 = 1 ∨ x.2 = 4)) (h' : ¬ x.2 = 3) : tstep v s x = (s.1, s.2.1, s.2.2 ++ [msM (multK v) (s.2.1 + begM v x.1 - s.1)]) := by simp only [tstep, h, h', if_false]
def Rises (l : List Mk) : Prop := ∀ k, (h : k + 1 < l.length) → l[k].1 ≤ l[k + 1].1
theorem tS_bd {v : List St} (hg : Good v) (l : List Mk) (hl : Rises l) : ∀ k, k ≤ l.length → 0 ≤ (tS v (l.take k)).1 ∧ (∀ h : k < l.length, (tS v (l.take k)).1 ≤ begM v l[k].1) ∧ 0 ≤ (tS v (l.take k)).2.1 ∧ (tS v (l.take k)).2.1 ≤ k * (10000000 * multK v) ∧ (tS v (l.take k)).2.2.length ≤ k := by
  intro k
  induction k with
  | zero => intro _; simp [tS]; intro _; exact (begM_bd' hg _).1
  | succ k ih =>
    intro hk
    obtain ⟨a0, a1, b0, b1, c1⟩ := ih (by omega)
    have a2 := a1 (by omega)
    have bb := begM_bd' hg l[k].1
    have hm : ∀ h : k + 1 < l.length, begM v l[k].1 ≤ begM v l[k + 1].1 := fun h => begM_mono hg _ _ (hl k h)
    rw [tS_take v l k (by omega)]
    have em : ((k + 1 : Nat) : Int) * (10000000 * multK v) = (k : Int) * (10000000 * multK v) + 10000000 * multK v := by rw [Int.natCast_add, Int.add_mul]; simp
    generalize hT : (k : Int) * (10000000 * multK v) = T at *
    rw [em]
    by_cases h1 : l[k].2 = 1 ∨ l[k].2 = 4
    · rw [tstep_on _ _ _ h1]
      exact ⟨by simp; omega, fun h => by simp; exact hm h, by simp; omega, by simp; omega, by simp; omega⟩
    · by_cases h3 : l[k].2 = 3
      · rw [tstep_off _ _ _ h3]
        exact ⟨by simp; omega, fun h => by simp; have := hm h; omega, by simp; omega, by simp; omega, by simp; omega⟩
      · rw [tstep_out _ _ _ h1 h3]
        exact ⟨by simp; omega, fun h => by simp; have := hm h; omega, by simp; omega, by simp; omega, by simp; omega⟩
end Go.Proofs.YtdidcjhgdofgcaaGreatDoor
