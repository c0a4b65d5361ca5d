/- The plain mathematics of inputs: pieces, frames, what is held; no program of Go in sight. -/
import Derived.Test.YtnlblgkoecnfmaaDoorBase
namespace Go.Proofs.YtnlblgkoecnfmaaDoor
set_option linter.unusedVariables false
set_option linter.unusedSimpArgs false

/-- A piece within its limits. -/
def vld (p : Int × Int) : Bool := decide (0 ≤ p.1) && decide (p.1 ≤ 63) && decide (1 ≤ p.2) && decide (p.2 ≤ 200000)
theorem vld_iff (p : Int × Int) : vld p = true ↔ 0 ≤ p.1 ∧ p.1 ≤ 63 ∧ 1 ≤ p.2 ∧ p.2 ≤ 200000 := by simp [vld, and_assoc]
def psum (ps : List (Int × Int)) : Int := (ps.map (·.2)).sum
def inFault (ps : List (Int × Int)) : Int := if 5000 < ps.length then 2 else if ps.all vld then (if 200000 < psum ps then 2 else 0) else 1

theorem psum_nil : psum [] = 0 := rfl
theorem psum_snoc (ps : List (Int × Int)) (p : Int × Int) : psum (ps ++ [p]) = psum ps + p.2 := by simp [psum]
theorem psum_app (ps qs : List (Int × Int)) : psum (ps ++ qs) = psum ps + psum qs := by simp [psum]
theorem psum_take (ps : List (Int × Int)) (k : Nat) (h : k < ps.length) : psum (ps.take (k + 1)) = psum (ps.take k) + ps[k].2 := by
  rw [List.take_succ_eq_append_getElem h, psum_snoc]
theorem psum_nonneg (ps : List (Int × Int)) (h : ∀ p ∈ ps, 0 ≤ p.2) : 0 ≤ psum ps := by
  induction ps with
  | nil => simp [psum]
  | cons p ps ih =>
    have h1 := h p (by simp)
    have h2 := ih fun q hq => h q (by simp [hq])
    simp only [psum, List.map_cons, List.sum_cons] at *
    omega
theorem psum_take_le (ps : List (Int × Int)) (k : Nat) (h : ∀ p ∈ ps, 0 ≤ p.2) : 0 ≤ psum (ps.take k) ∧ psum (ps.take k) ≤ psum ps := by
  have h1 := psum_nonneg (ps.take k) fun p hp => h p (List.mem_of_mem_take hp)
  have h2 := psum_nonneg (ps.drop k) fun p hp => h p (List.mem_of_mem_drop hp)
  have h3 := psum_app (ps.take k) (ps.drop k)
  rw [List.take_append_drop] at h3
  omega
theorem mem_le_psum (ps : List (Int × Int)) (h : ∀ p ∈ ps, 0 ≤ p.2) : ∀ p ∈ ps, p.2 ≤ psum ps := by
  induction ps with
  | nil => intro p hp; simp at hp
  | cons q ps ih =>
    intro p hp
    have h1 := h q (by simp)
    have h2 := psum_nonneg ps fun x hx => h x (by simp [hx])
    have h3 : psum (q :: ps) = q.2 + psum ps := by simp [psum]
    rcases List.mem_cons.1 hp with rfl | hp
    · omega
    · have := ih (fun x hx => h x (by simp [hx])) p hp; omega
theorem psum_le (ps : List (Int × Int)) (M : Int) (_ : 0 ≤ M) (h : ∀ p ∈ ps, p.2 ≤ M) : psum ps ≤ M * ps.length := by
  induction ps with
  | nil => simp [psum]
  | cons p ps ih =>
    have h1 := h p (by simp)
    have h2 := ih fun q hq => h q (by simp [hq])
    simp only [psum, List.map_cons, List.sum_cons, List.length_cons] at *
    rw [Int.natCast_add, Int.mul_add]
    omega

theorem inFault_long (ps : List (Int × Int)) (h : 5000 < ps.length) : inFault ps = 2 := by simp [inFault, h]
theorem inFault_bad (ps : List (Int × Int)) (k : Nat) (h : ps.length ≤ 5000) (hk : k < ps.length) (hv : vld ps[k] = false) : inFault ps = 1 := by
  have : ps.all vld = false := by
    rw [List.all_eq_false]
    exact ⟨ps[k], List.getElem_mem _, by simp [hv]⟩
  simp [inFault, this, show ¬ 5000 < ps.length by omega]
theorem inFault_good (ps : List (Int × Int)) (h : ps.length ≤ 5000) (hv : ∀ p ∈ ps, vld p = true) : inFault ps = if 200000 < psum ps then 2 else 0 := by
  have : ps.all vld = true := List.all_eq_true.2 hv
  simp [inFault, this, show ¬ 5000 < ps.length by omega]
theorem inFault_ok {ps : List (Int × Int)} (h : inFault ps = 0) : ps.length ≤ 5000 ∧ (∀ p ∈ ps, 0 ≤ p.1 ∧ p.1 ≤ 63 ∧ 1 ≤ p.2 ∧ p.2 ≤ 200000) ∧ psum ps ≤ 200000 := by
  unfold inFault at h
  by_cases h1 : 5000 < ps.length
  · simp [h1] at h
  · by_cases h2 : ps.all vld = true
    · simp only [h1, h2, if_true, if_false] at h
      by_cases h3 : 200000 < psum ps
      · simp [h3] at h
      · exact ⟨by omega, fun p hp => (vld_iff p).1 (List.all_eq_true.1 h2 p hp), by omega⟩
    · simp [h1, h2] at h
theorem take_all_vld {ps : List (Int × Int)} {k : Nat} (h : ∀ p ∈ ps.take k, vld p = true) (hk : k < ps.length) (hv : vld ps[k] = true) : ∀ p ∈ ps.take (k + 1), vld p = true := by
  intro p hp
  rw [List.take_succ_eq_append_getElem hk] at hp
  rcases List.mem_append.1 hp with h1 | h1
  · exact h p h1
  · simp at h1; subst h1; exact hv

/-- What is held in each frame. -/
def unf (ps : List (Int × Int)) : List Int := ps.flatMap fun p => List.replicate p.2.toNat p.1
theorem unf_app (a b : List (Int × Int)) : unf (a ++ b) = unf a ++ unf b := by simp [unf]
theorem unf_take (ps : List (Int × Int)) (k : Nat) (h : k < ps.length) : unf (ps.take (k + 1)) = unf (ps.take k) ++ List.replicate ps[k].2.toNat ps[k].1 := by
  rw [List.take_succ_eq_append_getElem h, unf_app]; simp [unf]
theorem unf_len (ps : List (Int × Int)) (h : ∀ p ∈ ps, 0 ≤ p.2) : ((unf ps).length : Int) = psum ps := by
  induction ps with
  | nil => rfl
  | cons p ps ih =>
    have h1 := h p (by simp)
    have h2 := ih fun q hq => h q (by simp [hq])
    simp only [unf, List.flatMap_cons, List.length_append, List.length_replicate, psum, List.map_cons, List.sum_cons] at *
    omega

/-- n frames more in which h is held. -/
def fadd (out : List (Int × Int)) (h n : Int) : List (Int × Int) :=
  if n = 0 then out else match out.getLast? with
    | some q => if q.1 = h then out.dropLast ++ [(q.1, q.2 + n)] else out ++ [(h, n)]
    | none => [(h, n)]
def tidyM (ps : List (Int × Int)) : List (Int × Int) := ps.foldl (fun o p => fadd o p.1 p.2) []
def foldM (l : List Int) : List (Int × Int) := l.foldl (fun o h => fadd o h 1) []

theorem fadd_zero (out : List (Int × Int)) (h : Int) : fadd out h 0 = out := by simp [fadd]
theorem fadd_fadd (out : List (Int × Int)) (h a b : Int) (ha : 0 ≤ a) (hb : 0 ≤ b) : fadd (fadd out h a) h b = fadd out h (a + b) := by
  by_cases h0 : a = 0
  · subst h0; simp [fadd_zero]
  by_cases h1 : b = 0
  · subst h1; simp [fadd_zero]
  have hs : a + b ≠ 0 := by omega
  unfold fadd
  simp only [h0, h1, hs, if_false]
  cases hl : out.getLast? with
  | none => simp
  | some q =>
    by_cases hq : q.1 = h
    · simp [hq, Int.add_assoc]
    · simp [hq]
theorem foldl_rep (h : Int) (n : Nat) (out : List (Int × Int)) : (List.replicate n h).foldl (fun o x => fadd o x 1) out = fadd out h n := by
  induction n generalizing out with
  | zero => simp [fadd]
  | succ n ih =>
    rw [List.replicate_succ, List.foldl_cons, ih, fadd_fadd _ _ _ _ (by omega) (by omega)]
    congr 1
    omega
theorem fold_unf (ps : List (Int × Int)) (h : ∀ p ∈ ps, 0 ≤ p.2) : foldM (unf ps) = tidyM ps := by
  suffices H : ∀ out, (unf ps).foldl (fun o x => fadd o x 1) out = ps.foldl (fun o p => fadd o p.1 p.2) out from H []
  induction ps with
  | nil => intro out; rfl
  | cons p ps ih =>
    intro out
    have h1 := h p (by simp)
    simp only [unf, List.flatMap_cons, List.foldl_append, List.foldl_cons, foldl_rep] at *
    rw [ih fun q hq => h q (by simp [hq])]
    congr 2
    omega
theorem tidyM_take (ps : List (Int × Int)) (k : Nat) (h : k < ps.length) : tidyM (ps.take (k + 1)) = fadd (tidyM (ps.take k)) ps[k].1 ps[k].2 := by
  unfold tidyM; rw [List.take_succ_eq_append_getElem h, List.foldl_append]; rfl
theorem foldM_take (l : List Int) (k : Nat) (h : k < l.length) : foldM (l.take (k + 1)) = fadd (foldM (l.take k)) l[k] 1 := by
  unfold foldM; rw [List.take_succ_eq_append_getElem h, List.foldl_append]; rfl
theorem fadd_len (out : List (Int × Int)) (h n : Int) : (fadd out h n).length ≤ out.length + 1 := by
  unfold fadd
  split
  · omega
  · split
    · split <;> simp
    · simp
theorem tidyM_len (ps : List (Int × Int)) : (tidyM ps).length ≤ ps.length := by
  suffices H : ∀ out : List (Int × Int), (ps.foldl (fun o p => fadd o p.1 p.2) out).length ≤ out.length + ps.length from by have := H []; simp only [List.length_nil, Nat.zero_add] at this; exact this
  induction ps with
  | nil => intro out; simp
  | cons p ps ih =>
    intro out
    have h1 := ih (fadd out p.1 p.2)
    have h2 := fadd_len out p.1 p.2
    simp only [List.foldl_cons, List.length_cons]
    omega
theorem foldM_len (l : List Int) : (foldM l).length ≤ l.length := by
  suffices H : ∀ out : List (Int × Int), (l.foldl (fun o p => fadd o p 1) out).length ≤ out.length + l.length from by have := H []; simp only [List.length_nil, Nat.zero_add] at this; exact this
  induction l with
  | nil => intro out; simp
  | cons p ps ih =>
    intro out
    have h1 := ih (fadd out p 1)
    have h2 := fadd_len out p 1
    simp only [List.foldl_cons, List.length_cons]
    omega
theorem fadd_psum (out : List (Int × Int)) (h n : Int) : psum (fadd out h n) = psum out + n := by
  unfold fadd
  by_cases h0 : n = 0
  · simp [h0]
  · simp only [h0, if_false]
    cases hl : out.getLast? with
    | none => simp at hl; subst hl; simp [psum]
    | some q =>
      by_cases hq : q.1 = h
      · obtain ⟨l, rfl⟩ := List.getLast?_eq_some_iff.1 hl
        simp [hq, psum]
        omega
      · simp [hq, psum]
theorem tidyM_psum (ps : List (Int × Int)) : psum (tidyM ps) = psum ps := by
  suffices H : ∀ out : List (Int × Int), psum (ps.foldl (fun o p => fadd o p.1 p.2) out) = psum out + psum ps from by have := H []; rw [psum_nil, Int.zero_add] at this; exact this
  induction ps with
  | nil => intro out; simp [psum]
  | cons p ps ih =>
    intro out
    rw [List.foldl_cons, ih, fadd_psum]
    simp [psum]
    omega
theorem fadd_mem {out : List (Int × Int)} {h n : Int} (hn : 0 ≤ n) (ho : ∀ p ∈ out, 0 ≤ p.2) : ∀ p ∈ fadd out h n, 0 ≤ p.2 := by
  unfold fadd
  split
  · exact ho
  · split
    · rename_i q hq
      have hq2 := ho q (List.mem_of_getLast? hq)
      split
      · intro p hp
        rcases List.mem_append.1 hp with h1 | h1
        · exact ho p (List.dropLast_subset _ h1)
        · simp at h1; subst h1; simp; omega
      · intro p hp
        rcases List.mem_append.1 hp with h1 | h1
        · exact ho p h1
        · simp at h1; subst h1; exact hn
    · intro p hp
      simp at hp; subst hp; exact hn
theorem tidyM_mem (ps : List (Int × Int)) (h : ∀ p ∈ ps, 0 ≤ p.2) : ∀ p ∈ tidyM ps, 0 ≤ p.2 := by
  suffices H : ∀ out : List (Int × Int), (∀ p ∈ out, 0 ≤ p.2) → ∀ p ∈ ps.foldl (fun o p => fadd o p.1 p.2) out, 0 ≤ p.2 from H [] (by simp)
  induction ps with
  | nil => intro out ho; simpa using ho
  | cons p ps ih =>
    intro out ho
    rw [List.foldl_cons]
    exact ih (fun q hq => h q (by simp [hq])) _ (fadd_mem (h p (by simp)) ho)
/-- The three ways of a step, as a program takes them: by the last piece. -/
theorem fadd_bump (out : List (Int × Int)) (h n : Int) (hn : n ≠ 0) (k : Nat) (hk : k + 1 = out.length) (he : (out[k]'(by omega)).1 = h) : fadd out h n = out.set k ((out[k]'(by omega)).1, (out[k]'(by omega)).2 + n) := by
  have hl : out.getLast? = some (out[k]'(by omega)) := by
    rw [List.getLast?_eq_getElem?]
    simp [show out.length - 1 = k by omega, show k < out.length by omega]
  unfold fadd
  simp only [hn, if_false, hl, he, if_true]
  have hne : out ≠ [] := by intro h0; simp [h0] at hk
  have h1 : out = out.dropLast ++ [out[k]'(by omega)] := by
    have := List.dropLast_concat_getLast hne
    rw [List.getLast_eq_getElem] at this
    simp only [show out.length - 1 = k by omega] at this
    exact this.symm
  have h2 : out.dropLast.length = k := by simp; omega
  generalize hx : out[k]'(by omega) = x at *
  rw [h1, List.set_append_right _ _ (by omega)]
  simp [h2]
theorem fadd_push (out : List (Int × Int)) (h n : Int) (hn : n ≠ 0) (k : Nat) (hk : k + 1 = out.length) (he : (out[k]'(by omega)).1 ≠ h) : fadd out h n = out ++ [(h, n)] := by
  have hl : out.getLast? = some (out[k]'(by omega)) := by
    rw [List.getLast?_eq_getElem?]
    simp [show out.length - 1 = k by omega, show k < out.length by omega]
  unfold fadd
  simp [hn, hl, he]
theorem fadd_first (h n : Int) (hn : n ≠ 0) : fadd [] h n = [(h, n)] := by simp [fadd, hn]
end Go.Proofs.YtnlblgkoecnfmaaDoor
