/- Texts of this seat, laid together: MkL Tb. -/
import Derived.Test.YtoppiafgeeodlaaGreatBu31
/- The walks of Doubt and DoubtOf. -/
namespace Go.Proofs.YtoppiafgeeodlaaGreat
set_option linter.unusedVariables false
set_option linter.unusedSimpArgs false
open Go.RowKit

def duE (d : Int) (v : List St) (l : List Mk) : Int := if mkFault v l = 0 then msM (multK v) (pS v (shM (fsum v) d l).2 false ((shM (fsum v) d l).2.length - 1)) else 0
theorem duE_ok {d : Int} {v : List St} {l : List Mk} (h : mkFault v l = 0) : duE d v l = msM (multK v) (pS v (shM (fsum v) d l).2 false ((shM (fsum v) d l).2.length - 1)) := by simp [duE, h]
theorem duE_bad {d : Int} {v : List St} {l : List Mk} (h : ¬ mkFault v l = 0) : duE d v l = 0 := by simp [duE, h]
theorem ret3i {a b c x y z : Value} (h1 : a = x) (h2 : b = y) (h3 : c = z) : Ending.returned (.tuple #[a, b, c]) = .returned (.tuple #[x, y, z]) := by rw [h1, h2, h3]
/-- What the shifted marks are. -/
theorem sh_facts {v : List St} {l : List Mk} (hg : Good v) (h : mkF (fsum v) l = 0) (d : Int) : (shM (fsum v) d l).2.length ≤ 500 ∧ Rises (shM (fsum v) d l).2 ∧ (∀ x ∈ (shM (fsum v) d l).2, 0 ≤ x.1 ∧ x.1 ≤ 1000000000000) ∧ 0 < (tS v (shM (fsum v) d l).2).2.2.length ∧ 0 < (shM (fsum v) d l).2.length ∧ (tS v (shM (fsum v) d l).2).2.2.getLastD 0 = msM (multK v) (pS v (shM (fsum v) d l).2 false ((shM (fsum v) d l).2.length - 1)) := by
  have hm := mkF_ok h
  have s0 := fsum_nonneg v hg.nonneg
  have s1 := hg.sum
  have i := sh_all (d := d) (mkF_turn h) s0
  have h2 : lastM (shM (fsum v) d l).2 = 2 := i.kind.trans hm.2.1
  have hmem := last_mem _ h2
  refine ⟨by have := i.len; omega, i.rises, fun x hx => by have := i.bd x hx; have := i.last; omega, tS_some v _ hmem, ?_, time_law v i.turn h2⟩
  obtain ⟨x, hx, _⟩ := hmem
  exact List.length_pos_of_mem hx

end Go.Proofs.YtoppiafgeeodlaaGreat
/- Plain laws of TimesHaveBounds: a time is within its doubt and not more than the whole; splits rise up to it. No program in sight. -/
namespace Go.Proofs.YtoppiafgeeodlaaGreat
set_option linter.unusedVariables false
set_option linter.unusedSimpArgs false

theorem msM_eq (m n : Int) (hm : 1 ≤ m) : msM m n = (2000 * n + m) / (2 * m) := by
  unfold msM
  have e := Int.mul_ediv_add_emod n m
  have : 2000 * n + m = (2000 * (n % m) + m) + (2 * m) * (n / m * 1000) := by
    conv => lhs; rw [← e]
    rw [Int.mul_add, show 2 * m * (n / m * 1000) = 2000 * (m * (n / m)) by rw [Int.mul_assoc, ← Int.mul_assoc m, Int.mul_comm (m * (n / m)) 1000, ← Int.mul_assoc]; rfl]
    omega
  rw [this, Int.add_mul_ediv_left _ _ (by omega)]
  omega
theorem msM_mono {m a b : Int} (hm : 1 ≤ m) (h : a ≤ b) : msM m a ≤ msM m b := by
  rw [msM_eq m a hm, msM_eq m b hm]
  exact Int.ediv_le_ediv (by omega) (by omega)
theorem pS_le {v : List St} (hg : Good v) {l : List Mk} (hR : Rises l) : ∀ k, k < l.length → pS v l false k ≤ pS v l true k := by
  intro k
  induction k with
  | zero => intro _; exact Int.le_refl _
  | succ k ih =>
    intro h
    have i := ih (by omega)
    have m := begM_mono hg _ _ (hR k h)
    by_cases hc : l[k].2 = 3
    · rw [pS_off v l k h hc, pS_on v l true k h (.inl rfl)]; omega
    · rw [pS_on v l false k h (.inr hc), pS_on v l true k h (.inl rfl)]; omega
theorem pS_up {v : List St} (hg : Good v) {l : List Mk} (hR : Rises l) (k : Nat) (h : k + 1 < l.length) : pS v l false k ≤ pS v l false (k + 1) := by
  have m := begM_mono hg _ _ (hR k h)
  by_cases hc : l[k].2 = 3
  · rw [pS_off v l k h hc]; exact Int.le_refl _
  · rw [pS_on v l false k h (.inr hc)]; omega
theorem pS_ups {v : List St} (hg : Good v) {l : List Mk} (hR : Rises l) (k j : Nat) (hk : k ≤ j) (h : j < l.length) : pS v l false k ≤ pS v l false j := by
  induction j with
  | zero => have : k = 0 := by omega
            subst this; exact Int.le_refl _
  | succ j ih =>
    rcases Nat.lt_or_ge k (j + 1) with h1 | h1
    · exact Int.le_trans (ih (by omega) (by omega)) (pS_up hg hR j h)
    · have : k = j + 1 := by omega
      subst this; exact Int.le_refl _
theorem spl_up {v : List St} (hg : Good v) {l : List Mk} (hR : Rises l) : ∀ k, k ≤ l.length → (spl v l k).Pairwise (· ≤ ·) ∧ ∀ x ∈ spl v l k, ∀ j, k ≤ j + 1 → j < l.length → x ≤ msM (multK v) (pS v l false j) := by
  intro k
  induction k with
  | zero => intro _; exact ⟨by simp [spl], by simp [spl]⟩
  | succ k ih =>
    intro hk
    obtain ⟨i1, i2⟩ := ih (by omega)
    by_cases hc : l[k].2 = 5 ∨ l[k].2 = 2
    · rw [spl_out v l k (by omega) hc]
      refine ⟨?_, ?_⟩
      · rw [List.pairwise_append]
        exact ⟨i1, List.pairwise_singleton _ _, fun x hx y hy => by simp at hy; subst hy; exact i2 x hx k (by omega) (by omega)⟩
      · intro x hx j hj hj'
        rcases List.mem_append.1 hx with hx | hx
        · exact i2 x hx j (by omega) hj'
        · simp at hx; subst hx
          exact msM_mono hg.mbd (pS_ups hg hR k j (by omega) hj')
    · rw [spl_not v l k (by omega) hc]
      exact ⟨i1, fun x hx j hj hj' => i2 x hx j (by omega) hj'⟩

theorem lastM_kind {l : List Mk} (h : Turn l) : ∀ k, k ≤ l.length → lastM (l.take k) = 1 ∨ lastM (l.take k) = 3 ∨ lastM (l.take k) = 4 ∨ lastM (l.take k) = 2 ∨ lastM (l.take k) = 0 := by
  intro k
  induction k with
  | zero => intro _; simp [lastM]
  | succ k ih =>
    intro hk
    have hkind := h.1 _ (List.getElem_mem (show k < l.length by omega))
    have i := ih (by omega)
    rw [lastM_take l k (by omega)]
    split <;> omega
/-- What is known of marks and of those that are moved apart by a frame: no less counts. -/
def More (v : List St) (l : List Mk) (all : Int) (k : Nat) : Prop :=
  ((lastM (l.take k) = 0 → (tS v (l.take k)).2.1 = 0 ∧ (tS v (shM all 1 (l.take k)).2).2.1 = 0 ∧ (shM all 1 (l.take k)).1 = 0) ∧
  (lastM (l.take k) = 3 → ∃ hk : k - 1 < l.length, 0 < k ∧ l[k - 1].1 ≤ (shM all 1 (l.take k)).1 ∧ (tS v (l.take k)).2.1 - begM v l[k - 1].1 ≤ (tS v (shM all 1 (l.take k)).2).2.1 - begM v (shM all 1 (l.take k)).1)) ∧
  ((lastM (l.take k) = 1 ∨ lastM (l.take k) = 4 → (tS v (l.take k)).2.1 - (tS v (l.take k)).1 ≤ (tS v (shM all 1 (l.take k)).2).2.1 - (tS v (shM all 1 (l.take k)).2).1) ∧
  (lastM (l.take k) = 2 → ∃ hk : k - 1 < l.length, 0 < k ∧ (tS v (l.take k)).2.1 - (tS v (l.take k)).1 + begM v l[k - 1].1 ≤ (tS v (shM all 1 (l.take k)).2).2.1 - (tS v (shM all 1 (l.take k)).2).1 + begM v (shM all 1 (l.take k)).1))
def Less_ (v : List St) (l : List Mk) (all : Int) (k : Nat) : Prop :=
  ((lastM (l.take k) = 0 → (tS v (l.take k)).2.1 = 0 ∧ (tS v (shM all (-1) (l.take k)).2).2.1 = 0 ∧ (shM all (-1) (l.take k)).1 = 0) ∧
  (lastM (l.take k) = 3 → (tS v (shM all (-1) (l.take k)).2).2.1 ≤ (tS v (l.take k)).2.1)) ∧
  ((lastM (l.take k) = 1 ∨ lastM (l.take k) = 4 → (tS v (shM all (-1) (l.take k)).2).2.1 ≤ (tS v (l.take k)).2.1 ∧ (tS v (shM all (-1) (l.take k)).2).2.1 - (tS v (shM all (-1) (l.take k)).2).1 ≤ (tS v (l.take k)).2.1 - (tS v (l.take k)).1 ∧ (tS v (shM all (-1) (l.take k)).2).1 = begM v (shM all (-1) (l.take k)).1) ∧
  (lastM (l.take k) = 2 → ∃ hk : k - 1 < l.length, 0 < k ∧ (tS v (shM all (-1) (l.take k)).2).2.1 - (tS v (shM all (-1) (l.take k)).2).1 + begM v (shM all (-1) (l.take k)).1 ≤ (tS v (l.take k)).2.1 - (tS v (l.take k)).1 + begM v l[k - 1].1))
theorem tS_snoc (v : List St) (l : List Mk) (x : Mk) : tS v (l ++ [x]) = tstep v (tS v l) x := by simp [tS]
theorem tstep_two (v : List St) (s : Int × Int × List Int) (x : Mk) (h : x.2 = 5 ∨ x.2 = 2) : (tstep v s x).1 = s.1 ∧ (tstep v s x).2.1 = s.2.1 := by
  rw [tstep_out v s x (by omega) (by omega)]; exact ⟨rfl, rfl⟩
theorem more_all {v : List St} (hg : Good v) {l : List Mk} {all : Int} (hT : Turn l) (hR : Rises l) (hb : ∀ x ∈ l, 0 ≤ x.1 ∧ x.1 ≤ all) : ∀ k, k ≤ l.length → More v l all k := by
  intro k
  induction k with
  | zero => intro _; exact ⟨⟨fun _ => ⟨rfl, rfl, rfl⟩, fun h => by simp [lastM] at h⟩, fun h => by simp [lastM] at h, fun h => by simp [lastM] at h⟩
  | succ k ih =>
    intro hk
    have hlt : k < l.length := by omega
    obtain ⟨⟨i0, i3⟩, iR, i2⟩ := ih (by omega)
    have m := misB_false (hT.2 k hlt)
    have hkind := hT.1 _ (List.getElem_mem hlt)
    have hx := hb _ (List.getElem_mem hlt)
    have hsub : k + 1 - 1 = k := by omega
    unfold More
    rw [lastM_take l k hlt, tS_take v l k hlt, shM_take all 1 l k hlt]
    generalize hs : tS v (l.take k) = s at *
    generalize hq : shM all 1 (l.take k) = q at *
    generalize hL : lastM (l.take k) = L at *
    by_cases h5 : l[k].2 = 5
    · rw [if_pos h5, shS_split h5]
      obtain ⟨t1, t2⟩ := tstep_two v s l[k] (.inl h5)
      rw [t1, t2]
      refine ⟨⟨fun h => ?_, fun h => ?_⟩, fun h => iR h, fun h => ?_⟩
      · have := m.1 h; omega
      · have := (m.2 (by omega)).2.2.1 h; omega
      · have := (m.2 (by omega)).2.1; omega
    · rw [if_neg h5, shS_not h5]
      simp only [tS_snoc]
      have hF : shF all 1 q.1 l[k] = max q.1 (min all (if l[k].2 = 2 ∨ l[k].2 = 3 then l[k].1 + 1 else l[k].1 - 1)) := rfl
      by_cases h1 : l[k].2 = 1 ∨ l[k].2 = 4
      · rw [tstep_on v s l[k] h1, tstep_on v (tS v q.2) (shF all 1 q.1 l[k], l[k].2) h1]
        rw [if_neg (by omega)] at hF
        refine ⟨⟨fun h => by omega, fun h => by omega⟩, fun _ => ?_, fun h => by omega⟩
        simp only
        rcases Classical.em (L = 0) with h0 | h0
        · obtain ⟨a1, a2, a3⟩ := i0 h0
          have := begM_mono hg (shF all 1 q.1 l[k]) l[k].1 (by rw [hF, a3]; omega)
          omega
        · have h4 : l[k].2 = 4 := by have := (m.2 h0).1; omega
          have h3 : L = 3 := by
            rcases Classical.em (L = 3) with h | h
            · exact h
            · exact absurd h4 ((m.2 h0).2.2.2 h)
          obtain ⟨hk1, hk2, b1, b2⟩ := i3 h3
          have hr := hR (k - 1) (by omega)
          simp only [show k - 1 + 1 = k by omega] at hr
          have g1 := begM_mono hg _ _ hr
          have g2 := begM_mono hg _ _ b1
          rcases Int.le_total (min all (l[k].1 - 1)) q.1 with h | h
          · have e : shF all 1 q.1 l[k] = q.1 := by rw [hF]; omega
            rw [e]; omega
          · have := begM_mono hg (shF all 1 q.1 l[k]) l[k].1 (by rw [hF]; omega)
            omega
      · have h0 : ¬ L = 0 := fun h => by have := m.1 h; omega
        have m' := m.2 h0
        have hR' : L = 1 ∨ L = 4 := by
          have hLk : L = 1 ∨ L = 3 ∨ L = 4 ∨ L = 2 ∨ L = 0 := by rw [← hL]; exact lastM_kind hT k (by omega)
          have := m'.2.2.1
          omega
        have iA := iR hR'
        have hge : l[k].1 ≤ shF all 1 q.1 l[k] := by rw [hF, if_pos (by omega)]; omega
        have g := begM_mono hg _ _ hge
        by_cases h3 : l[k].2 = 3
        · rw [tstep_off v s l[k] h3, tstep_off v (tS v q.2) (shF all 1 q.1 l[k], l[k].2) h3]
          refine ⟨⟨fun h => by omega, fun _ => ⟨by omega, by omega, ?_, ?_⟩⟩, fun h => by omega, fun h => by omega⟩
          · simp only [hsub]; exact hge
          · simp only [hsub]; omega
        · have h2 : l[k].2 = 2 := by omega
          obtain ⟨t1, t2⟩ := tstep_two v s l[k] (.inr h2)
          obtain ⟨u1, u2⟩ := tstep_two v (tS v q.2) (shF all 1 q.1 l[k], l[k].2) (.inr h2)
          rw [t1, t2, u1, u2]
          refine ⟨⟨fun h => by omega, fun h => by omega⟩, fun h => by omega, fun _ => ⟨by omega, by omega, ?_⟩⟩
          simp only [hsub]; omega
theorem less_all {v : List St} (hg : Good v) {l : List Mk} {all : Int} (hT : Turn l) (hR : Rises l) (hb : ∀ x ∈ l, 0 ≤ x.1 ∧ x.1 ≤ all) : ∀ k, k ≤ l.length → Less_ v l all k := by
  intro k
  induction k with
  | zero => intro _; exact ⟨⟨fun _ => ⟨rfl, rfl, rfl⟩, fun h => by simp [lastM] at h⟩, fun h => by simp [lastM] at h, fun h => by simp [lastM] at h⟩
  | succ k ih =>
    intro hk
    have hlt : k < l.length := by omega
    obtain ⟨⟨i0, i3⟩, iR, i2⟩ := ih (by omega)
    have m := misB_false (hT.2 k hlt)
    have hkind := hT.1 _ (List.getElem_mem hlt)
    have hx := hb _ (List.getElem_mem hlt)
    have hsub : k + 1 - 1 = k := by omega
    have hbd := (tS_bd hg l hR k (by omega)).2.1 hlt
    unfold Less_
    rw [lastM_take l k hlt, tS_take v l k hlt, shM_take all (-1) l k hlt]
    generalize hs : tS v (l.take k) = s at *
    generalize hq : shM all (-1) (l.take k) = q at *
    generalize hL : lastM (l.take k) = L at *
    by_cases h5 : l[k].2 = 5
    · rw [if_pos h5, shS_split h5]
      obtain ⟨t1, t2⟩ := tstep_two v s l[k] (.inl h5)
      rw [t1, t2]
      refine ⟨⟨fun h => ?_, fun h => ?_⟩, fun h => iR h, fun h => ?_⟩
      · have := m.1 h; omega
      · have := (m.2 (by omega)).2.2.1 h; omega
      · have := (m.2 (by omega)).2.1; omega
    · rw [if_neg h5, shS_not h5]
      simp only [tS_snoc]
      have hF : shF all (-1) q.1 l[k] = max q.1 (min all (if l[k].2 = 2 ∨ l[k].2 = 3 then l[k].1 + (-1) else l[k].1 - (-1))) := rfl
      by_cases h1 : l[k].2 = 1 ∨ l[k].2 = 4
      · rw [tstep_on v s l[k] h1, tstep_on v (tS v q.2) (shF all (-1) q.1 l[k], l[k].2) h1]
        rw [if_neg (by omega)] at hF
        have hge := begM_mono hg l[k].1 (shF all (-1) q.1 l[k]) (by rw [hF]; omega)
        refine ⟨⟨fun h => by omega, fun h => by omega⟩, fun _ => ?_, fun h => by omega⟩
        simp only
        rcases Classical.em (L = 0) with h0 | h0
        · obtain ⟨a1, a2, a3⟩ := i0 h0
          exact ⟨by omega, by omega, trivial⟩
        · have h4 : l[k].2 = 4 := by have := (m.2 h0).1; omega
          have h3 : L = 3 := by
            rcases Classical.em (L = 3) with h | h
            · exact h
            · exact absurd h4 ((m.2 h0).2.2.2 h)
          have := i3 h3
          exact ⟨by omega, by omega, trivial⟩
      · have h0 : ¬ L = 0 := fun h => by have := m.1 h; omega
        have m' := m.2 h0
        have hR' : L = 1 ∨ L = 4 := by
          have hLk : L = 1 ∨ L = 3 ∨ L = 4 ∨ L = 2 ∨ L = 0 := by rw [← hL]; exact lastM_kind hT k (by omega)
          have := m'.2.2.1
          omega
        obtain ⟨iA, iB, iC⟩ := iR hR'
        rw [if_pos (by omega)] at hF
        have key : (tS v q.2).2.1 - (tS v q.2).1 + begM v (shF all (-1) q.1 l[k]) ≤ s.2.1 - s.1 + begM v l[k].1 := by
          rcases Int.le_total (min all (l[k].1 + (-1))) q.1 with h | h
          · have e : shF all (-1) q.1 l[k] = q.1 := by rw [hF]; omega
            rw [e]; omega
          · have := begM_mono hg (shF all (-1) q.1 l[k]) l[k].1 (by rw [hF]; omega)
            omega
        by_cases h3 : l[k].2 = 3
        · rw [tstep_off v s l[k] h3, tstep_off v (tS v q.2) (shF all (-1) q.1 l[k], l[k].2) h3]
          refine ⟨⟨fun h => by omega, fun _ => ?_⟩, fun h => by omega, fun h => by omega⟩
          simp only; omega
        · have h2 : l[k].2 = 2 := by omega
          obtain ⟨t1, t2⟩ := tstep_two v s l[k] (.inr h2)
          obtain ⟨u1, u2⟩ := tstep_two v (tS v q.2) (shF all (-1) q.1 l[k], l[k].2) (.inr h2)
          rw [t1, t2, u1, u2]
          refine ⟨⟨fun h => by omega, fun h => by omega⟩, fun h => by omega, fun _ => ⟨by omega, by omega, ?_⟩⟩
          simp only [hsub]; exact key
/-- What counts in all, by what film.times has gathered. -/
theorem pS_end {l : List Mk} (v : List St) (h : Turn l) (h2 : lastM l = 2) : ∃ hn : l.length - 1 < l.length, pS v l false (l.length - 1) = (tS v l).2.1 - (tS v l).1 + begM v l[l.length - 1].1 := by
  obtain ⟨n, e, hn, hk⟩ := turn_last h h2
  have hn' : l.length - 1 = n := by omega
  refine ⟨by omega, ?_⟩
  have t := turn_inv v h n hn
  rw [show n + 1 = l.length by omega, List.take_length] at t
  simp only [hn']
  rcases t with ⟨_, b, _⟩ | ⟨_, _, _, c⟩
  · omega
  · rw [c]; omega
theorem sh_end {all d : Int} {l : List Mk} (h : Turn l) (h2 : lastM l = 2) : ∃ hn : (shM all d l).2.length - 1 < (shM all d l).2.length, (shM all d l).2[(shM all d l).2.length - 1].1 = (shM all d l).1 := by
  obtain ⟨n, e, hn, hk⟩ := turn_last h h2
  have t := shM_take all d l n hn
  rw [show n + 1 = l.length by omega, List.take_length, shS_not (by omega)] at t
  rw [t]
  exact ⟨by simp, by simp⟩
theorem tb_law {v : List St} {l : List Mk} (h : mkFault v l = 0) : tmE v l ≤ whE v l ∧ duE (-1) v l ≤ tmE v l ∧ tmE v l ≤ duE 1 v l ∧ (∃ r x, spE v l = r ++ [x] ∧ x = tmE v l) ∧ (spE v l).Pairwise (· ≤ ·) ∧ (spE v l).length ≤ 200 := by
  obtain ⟨hv, hm⟩ := mkFault_zero h
  have hg := vFault_ok hv
  obtain ⟨hlen, h2, hk, hR, hmis⟩ := mkF_ok hm
  have hT : Turn l := ⟨fun x hx => by have := hk x hx; omega, hmis⟩
  have hb : ∀ x ∈ l, 0 ≤ x.1 ∧ x.1 ≤ fsum v := fun x hx => by have := hk x hx; omega
  have ha : 0 ≤ fsum v := fsum_nonneg v hg.nonneg
  obtain ⟨n, e, hn, hkn⟩ := turn_last hT h2
  have hn9 : l.length - 1 = n := by omega
  have et : tmE v l = msM (multK v) (pS v l false (l.length - 1)) := by rw [tmE_ok h, time_law v hT h2]
  have s := spl_law v hT l.length (Nat.le_refl _)
  rw [List.take_length] at s
  have hu := spl_up hg hR l.length (Nat.le_refl _)
  obtain ⟨hn1, p1⟩ := pS_end v hT h2
  have es : spE v l = spl v l l.length := by rw [spE_ok h, s]
  have key : ∀ d, pS v (shM (fsum v) d l).2 false ((shM (fsum v) d l).2.length - 1) = (tS v (shM (fsum v) d l).2).2.1 - (tS v (shM (fsum v) d l).2).1 + begM v (shM (fsum v) d l).1 := by
    intro d
    have sh := sh_all (d := d) hT ha
    obtain ⟨_, q1⟩ := pS_end v sh.turn (by rw [sh.kind]; exact h2)
    obtain ⟨_, q2⟩ := sh_end (all := fsum v) (d := d) hT h2
    rw [q1, q2]
  have hM := more_all hg hT hR hb l.length (Nat.le_refl _)
  have hL := less_all hg hT hR hb l.length (Nat.le_refl _)
  unfold More at hM
  unfold Less_ at hL
  rw [List.take_length] at hM hL
  obtain ⟨_, _, m2⟩ := hM.2.2 h2
  obtain ⟨_, _, l2⟩ := hL.2.2 h2
  refine ⟨?_, ?_, ?_, ?_, ?_, ?_⟩
  · rw [et, whE_ok h]; exact msM_mono hg.mbd (pS_le hg hR _ hn1)
  · rw [et, duE_ok h]; refine msM_mono hg.mbd ?_; rw [key, p1]; exact l2
  · rw [et, duE_ok h]; refine msM_mono hg.mbd ?_; rw [key, p1]; exact m2
  · rw [es, et]
    refine ⟨spl v l n, msM (multK v) (pS v l false n), ?_, by rw [hn9]⟩
    rw [e, spl_out v l n hn (.inr hkn)]
  · rw [es]; exact hu.1
  · rw [es]; have := spl_len v l l.length (Nat.le_refl _); omega
end Go.Proofs.YtoppiafgeeodlaaGreat
