/- What is wrong with marks: plain, and the walks of misplaced and CheckMarks. -/
import Derived.Test.YtlnencloodlnbaaDoorMkA
namespace Go.Proofs.YtlnencloodlnbaaDoor
open Go.RowKit

def misB (kind last : Int) : Bool := if last = 0 ∨ kind = 1 then decide (last ≠ 0 ∨ kind ≠ 1) else if last = 2 then true else if last = 3 then decide (kind ≠ 4) else decide (kind = 4)
def lastM (l : List Mk) : Int := l.foldl (fun a x => if x.2 = 5 then a else x.2) 0
theorem lastM_take (l : List Mk) (k : Nat) (h : k < l.length) : lastM (l.take (k + 1)) = if l[k].2 = 5 then lastM (l.take k) else l[k].2 := by
  unfold lastM; rw [List.take_succ_eq_append_getElem h, List.foldl_append]; rfl
/-- What is wrong with mark x, with p ahead of it (if any) and the last kind. -/
def mX (all : Int) (x : Mk) (p : Option Mk) (last : Int) : Int :=
  if 1 ≤ x.2 ∧ x.2 ≤ 5 then (if 0 ≤ x.1 ∧ x.1 ≤ all then (if (p.any fun q => decide (x.1 < q.1)) = true then 7 else if misB x.2 last = true then 16 else 0) else 1) else 4
def prevM (l : List Mk) (k : Nat) : Option Mk := if k = 0 then none else l[k - 1]?
def mF (all : Int) (l : List Mk) (k : Nat) : Int := mX all (l.getD k (0, 0)) (prevM l k) (lastM (l.take k))
theorem mF_at (all : Int) (l : List Mk) (k : Nat) (h : k < l.length) : mF all l k = mX all l[k] (prevM l k) (lastM (l.take k)) := by
  unfold mF; rw [List.getD_eq_getElem?_getD, List.getElem?_eq_getElem h]; rfl
theorem mX_kind {all : Int} {x : Mk} {p : Option Mk} {last : Int} (h : ¬ (1 ≤ x.2 ∧ x.2 ≤ 5)) : mX all x p last = 4 := by simp only [mX, h, if_false]
theorem mX_arg {all : Int} {x : Mk} {p : Option Mk} {last : Int} (h : 1 ≤ x.2 ∧ x.2 ≤ 5) (h1 : ¬ (0 ≤ x.1 ∧ x.1 ≤ all)) : mX all x p last = 1 := by simp only [mX, h, h1, if_false]; rfl
theorem mX_rest {all : Int} {x : Mk} {p : Option Mk} {last : Int} (h : 1 ≤ x.2 ∧ x.2 ≤ 5) (h1 : 0 ≤ x.1 ∧ x.1 ≤ all) : mX all x p last = if (p.any fun q => decide (x.1 < q.1)) = true then 7 else if misB x.2 last = true then 16 else 0 := by
  unfold mX; rw [if_pos h, if_pos h1]
def mkF (all : Int) (l : List Mk) : Int := if 200 < l.length then 2 else if firstE ((List.range l.length).map (mF all l)) = 0 then (if lastM l = 2 then 0 else 8) else firstE ((List.range l.length).map (mF all l))
theorem mkF_long {all : Int} {l : List Mk} (h : 200 < l.length) : mkF all l = 2 := by simp [mkF, h]
theorem mkF_bad {all : Int} {l : List Mk} (k : Nat) (h : l.length ≤ 200) (hk : k < l.length) (h0 : ∀ j, j < k → mF all l j = 0) (hv : mF all l k ≠ 0) : mkF all l = mF all l k := by
  have e : firstE ((List.range l.length).map (mF all l)) = mF all l k := by
    have := firstE_hit ((List.range l.length).map (mF all l)) k (by simpa using hk) (by
      intro y hy
      rw [← List.map_take] at hy
      obtain ⟨j, hj, rfl⟩ := List.mem_map.1 hy
      rw [List.take_range, List.mem_range] at hj
      exact h0 j (by omega)) (by simpa using hv)
    simpa using this
  unfold mkF
  rw [e, if_neg (by omega), if_neg hv]
theorem mkF_good {all : Int} {l : List Mk} (h : l.length ≤ 200) (h0 : ∀ j, j < l.length → mF all l j = 0) : mkF all l = if lastM l = 2 then 0 else 8 := by
  have e : firstE ((List.range l.length).map (mF all l)) = 0 := firstE_none _ (by
    intro y hy
    obtain ⟨j, hj, rfl⟩ := List.mem_map.1 hy
    exact h0 j (List.mem_range.1 hj))
  unfold mkF
  rw [e, if_neg (by omega)]; rfl
theorem mkF_all {all : Int} {l : List Mk} (h : mkF all l = 0) : l.length ≤ 200 ∧ (∀ j, j < l.length → mF all l j = 0) ∧ lastM l = 2 := by
  have hl : l.length ≤ 200 := by
    rcases Nat.lt_or_ge 200 l.length with h1 | h1
    · rw [mkF_long h1] at h; omega
    · exact h1
  have h0 : ∀ k, k ≤ l.length → ∀ j, j < k → mF all l j = 0 := by
    intro k
    induction k with
    | zero => intro _ j hj; omega
    | succ k ih =>
      intro hk j hj
      have hi := ih (by omega)
      rcases Nat.lt_or_ge j k with h1 | h1
      · exact hi j h1
      · have : j = k := by omega
        subst this
        rcases Classical.em (mF all l j = 0) with h2 | h2
        · exact h2
        · rw [mkF_bad j hl (by omega) hi h2] at h; exact absurd h h2
  refine ⟨hl, h0 _ (Nat.le_refl _), ?_⟩
  rw [mkF_good hl (h0 _ (Nat.le_refl _))] at h
  by_cases h2 : lastM l = 2
  · exact h2
  · rw [if_neg h2] at h; omega
/-- Right marks: kinds, frames, order. -/
theorem mkF_ok {all : Int} {l : List Mk} (h : mkF all l = 0) : l.length ≤ 200 ∧ lastM l = 2 ∧ (∀ x ∈ l, 1 ≤ x.2 ∧ x.2 ≤ 5 ∧ 0 ≤ x.1 ∧ x.1 ≤ all) ∧ Rises l ∧ ∀ k, (hk : k < l.length) → misB l[k].2 (lastM (l.take k)) = false := by
  obtain ⟨h1, h2, h3⟩ := mkF_all h
  have key : ∀ k, (hk : k < l.length) → (1 ≤ l[k].2 ∧ l[k].2 ≤ 5) ∧ (0 ≤ l[k].1 ∧ l[k].1 ≤ all) ∧ ((prevM l k).any fun q => decide (l[k].1 < q.1)) = false ∧ misB l[k].2 (lastM (l.take k)) = false := by
    intro k hk
    have e := h2 k hk
    rw [mF_at all l k hk] at e
    by_cases a1 : 1 ≤ l[k].2 ∧ l[k].2 ≤ 5
    · by_cases a2 : 0 ≤ l[k].1 ∧ l[k].1 ≤ all
      · rw [mX_rest a1 a2] at e
        by_cases a3 : ((prevM l k).any fun q => decide (l[k].1 < q.1)) = true
        · rw [if_pos a3] at e; omega
        · rw [if_neg a3] at e
          by_cases a4 : misB l[k].2 (lastM (l.take k)) = true
          · rw [if_pos a4] at e; omega
          · exact ⟨a1, a2, by simpa using a3, by simpa using a4⟩
      · rw [mX_arg a1 a2] at e; omega
    · rw [mX_kind a1] at e; omega
  refine ⟨h1, h3, fun x hx => ?_, fun k hk => ?_, fun k hk => (key k hk).2.2.2⟩
  · obtain ⟨k, hk, rfl⟩ := List.getElem_of_mem hx
    have := key k hk
    omega
  · have := (key (k + 1) hk).2.2.1
    simp only [prevM, Nat.add_one_ne_zero, if_false, Nat.add_sub_cancel] at this
    rw [List.getElem?_eq_getElem (by omega)] at this
    simpa using this
def mkFault (v : List St) (l : List Mk) : Int := if vFault v = 0 then mkF (fsum v) l else vFault v
theorem mkFault_ok {v : List St} {l : List Mk} (h : vFault v = 0) : mkFault v l = mkF (fsum v) l := by simp [mkFault, h]
theorem mkFault_bad {v : List St} {l : List Mk} (h : ¬ vFault v = 0) : mkFault v l = vFault v := by simp [mkFault, h]

set_option maxHeartbeats 400000 in
theorem misplaced_any (kind last : Int) (w : World) : Calls Tryd.prog 63 #[.int .i64 kind, .int .i64 last] w fun e w' => e = .returned (.bool (misB kind last)) ∧ w = w' := by
  by_cases h0 : last = 0
  · subst h0
    by_cases h1 : kind = 1
    · subst h1
      go_enter Tryd.func63, Tryd.ntmps63
      go_wp2_with fail
      go_ret
      exact ⟨rfl, rfl⟩
    · have t1 : (kind != 1) = true := by simpa using h1
      have HM : Hid (true = misB kind 0) := Lib.hid (by simp [misB, h1])
      clear h1
      go_enter Tryd.func63, Tryd.ntmps63
      go_wp2_with fail
      go_ret
      exact ⟨ret_bool' HM.out, rfl⟩
  · have t0 : (last == 0) = false := by simpa using h0
    have t0' : (last != 0) = true := by simpa using h0
    by_cases h1 : kind = 1
    · subst h1
      have HM : Hid (true = misB 1 last) := Lib.hid (by simp [misB, h0])
      clear h0
      go_enter Tryd.func63, Tryd.ntmps63
      go_wp2_with fail
      go_ret
      exact ⟨ret_bool' HM.out, rfl⟩
    · have t1 : (kind == 1) = false := by simpa using h1
      by_cases h2 : last = 2
      · subst h2
        have HM : Hid (true = misB kind 2) := Lib.hid (by simp [misB, h1])
        clear h1
        go_enter Tryd.func63, Tryd.ntmps63
        go_wp2_with fail
        go_ret
        exact ⟨ret_bool' HM.out, rfl⟩
      · have t2 : (last == 2) = false := by simpa using h2
        by_cases h3 : last = 3
        · subst h3
          have HM : Hid ((kind != 4) = misB kind 3) := Lib.hid (by simp [misB, h1]; rfl)
          clear h1
          go_enter Tryd.func63, Tryd.ntmps63
          go_wp2_with fail
          go_ret
          exact ⟨ret_bool' HM.out, rfl⟩
        · have t3 : (last == 3) = false := by simpa using h3
          have HM : Hid ((kind == 4) = misB kind last) := Lib.hid (by simp [misB, h0, h1, h2, h3]; rfl)
          clear h0 h1 h2 h3
          go_enter Tryd.func63, Tryd.ntmps63
          go_wp2_with fail
          go_ret
          exact ⟨ret_bool' HM.out, rfl⟩
end Go.Proofs.YtlnencloodlnbaaDoor
