/- Texts of this seat, laid together: GmP. -/
import Derived.Lib.SlTrimSet
import Derived.Lib.Join
import Derived.Test.YtkchacgkjdeiaaaGreatDoorBf00
/- What a level is: plain mathematics; no program of Go in sight. -/
namespace Go.Proofs.YtkchacgkjdeiaaaGreatDoor
set_option linter.unusedVariables false
set_option linter.unusedSimpArgs false

def cellsG : List UInt8:=[46,35,111,94,120,115]
def rowE (n0 : Nat) (r : List UInt8) : Int:=if 60 < r.length then 2 else if r.length = n0 ∧ 0 < r.length ∧ ∀ c ∈ r,c ∈ cellsG then 0 else 3
theorem rowE_big {n0 : Nat} {r : List UInt8} (h : 60 < r.length) : rowE n0 r = 2:=by unfold rowE; rw [if_pos h]
theorem rowE_ok {n0 : Nat} {r : List UInt8} (h : ¬ 60 < r.length) (h1 : r.length = n0) (h2 : 0 < r.length) (h3 : ∀ c ∈ r,c ∈ cellsG) : rowE n0 r = 0:=by unfold rowE; rw [if_neg h,if_pos ⟨h1,h2,h3⟩]
theorem rowE_no {n0 : Nat} {r : List UInt8} (h : ¬ 60 < r.length) (hn : ¬ (r.length = n0 ∧ 0 < r.length ∧ ∀ c ∈ r,c ∈ cellsG)) : rowE n0 r = 3:=by unfold rowE; rw [if_neg h,if_neg hn]
theorem rowE_0 {n0 : Nat} {r : List UInt8} (h : rowE n0 r = 0) : r.length ≤ 60 ∧ r.length = n0 ∧ 0 < r.length ∧ ∀ c ∈ r,c ∈ cellsG:=by
 unfold rowE at h
 split at h
 ·cases h
 ·split at h
  ·rename_i h1 h2; exact ⟨by omega,h2⟩
  ·cases h
def scanE (n0 : Nat) : List (List UInt8) → Int
 | [] => 0
 | r :: rs => if rowE n0 r = 0 then scanE n0 rs else rowE n0 r
theorem scanE_hit {n0 : Nat} {rows : List (List UInt8)} {k : Nat} (hk : k < rows.length) (h : scanE n0 (rows.drop k) = scanE n0 rows) (hr : rowE n0 rows[k] ≠ 0) : scanE n0 rows = rowE n0 rows[k]:=by
 rw [← h,List.drop_eq_getElem_cons hk];show (if rowE n0 rows[k] = 0 then _ else _) = _;rw [if_neg hr]
theorem scanE_next {n0 : Nat} {rows : List (List UInt8)} {k : Nat} (hk : k < rows.length) (h : scanE n0 (rows.drop k) = scanE n0 rows) (hr : rowE n0 rows[k] = 0) : scanE n0 (rows.drop (k + 1)) = scanE n0 rows:=by
 rw [← h,List.drop_eq_getElem_cons hk];show _ = (if rowE n0 rows[k] = 0 then _ else _);rw [if_pos hr]
theorem scanE_all {n0 : Nat} {rows : List (List UInt8)} (h : scanE n0 (rows.drop rows.length) = scanE n0 rows) : scanE n0 rows = 0:=by
 rw [← h,List.drop_length]; rfl
theorem scanE_0 {n0 : Nat} : ∀ {rows : List (List UInt8)},scanE n0 rows = 0 → ∀ r ∈ rows,rowE n0 r = 0
 | [],_,r,h => by cases h
 | x :: rows,h,r,hr => by
  have h' : (if rowE n0 x = 0 then scanE n0 rows else rowE n0 x) = 0:=h
  by_cases hx : rowE n0 x = 0
  ·rw [if_pos hx] at h'
   rcases List.mem_cons.1 hr with rfl | hr
   ·exact hx
   ·exact scanE_0 h' r hr
  ·rw [if_neg hx] at h'; exact absurd h' hx
def cntG (c : UInt8) (rows : List (List UInt8)) : Nat:=rows.flatten.count c
def glvF (rows : List (List UInt8)) : Int :=
 if rows.length = 0 then 8 else if 60 < rows.length then 2 else if scanE (rows.getD 0 []).length rows ≠ 0 then scanE (rows.getD 0 []).length rows
 else if cntG 115 rows ≠ 1 then 16 else if 10 < cntG 111 rows then 2 else 0
theorem glvF_scan {rows : List (List UInt8)} (h0 : 0 < rows.length) (h1 : rows.length ≤ 60) {n0 : Nat} (hn : (rows.getD 0 []).length = n0) (hs : scanE n0 rows ≠ 0) : glvF rows = scanE n0 rows:=by
 subst hn;unfold glvF; rw [if_neg (by omega),if_neg (by omega),if_pos hs]
theorem glvF_start {rows : List (List UInt8)} (h0 : 0 < rows.length) (h1 : rows.length ≤ 60) {n0 : Nat} (hn : (rows.getD 0 []).length = n0) (hs : scanE n0 rows = 0) (hc : cntG 115 rows ≠ 1) : glvF rows = 16:=by
 subst hn;unfold glvF; rw [if_neg (by omega),if_neg (by omega),if_neg (by simpa using hs),if_pos hc]
theorem glvF_coins {rows : List (List UInt8)} (h0 : 0 < rows.length) (h1 : rows.length ≤ 60) {n0 : Nat} (hn : (rows.getD 0 []).length = n0) (hs : scanE n0 rows = 0) (hc : cntG 115 rows = 1) (hd : 10 < cntG 111 rows) : glvF rows = 2:=by
 subst hn;unfold glvF; rw [if_neg (by omega),if_neg (by omega),if_neg (by simpa using hs),if_neg (by simpa using hc),if_pos hd]
theorem glvF_ok {rows : List (List UInt8)} (h0 : 0 < rows.length) (h1 : rows.length ≤ 60) {n0 : Nat} (hn : (rows.getD 0 []).length = n0) (hs : scanE n0 rows = 0) (hc : cntG 115 rows = 1) (hd : ¬ 10 < cntG 111 rows) : glvF rows = 0:=by
 subst hn;unfold glvF; rw [if_neg (by omega),if_neg (by omega),if_neg (by simpa using hs),if_neg (by simpa using hc),if_neg hd]
theorem cntG_take {c : UInt8} {rows : List (List UInt8)} {k : Nat} (hk : k < rows.length) : cntG c (rows.take (k + 1)) = cntG c (rows.take k) + rows[k].count c:=by
 unfold cntG;rw [List.take_succ_eq_append_getElem hk,List.flatten_append,List.count_append]
 simp
theorem count_take {c : UInt8} {r : List UInt8} {m : Nat} (hm : m < r.length) : (r.take (m + 1)).count c = (r.take m).count c + if r[m] = c then 1 else 0:=by
 rw [List.take_succ_eq_append_getElem hm,List.count_append,List.count_singleton]
 by_cases h : r[m] = c
 ·simp [h]
 ·simp [h]
theorem trim_cells {l cs : List UInt8} : Lib.trimS l cs = [] ↔ ∀ c ∈ l,c ∈ cs:=by
 have h0 : ∀ (m : List UInt8),m.dropWhile (cs.contains ·) = [] ↔ ∀ c ∈ m,c ∈ cs:=by
  intro m
  induction m with
  | nil => simp
  | cons c m ih =>
   rw [List.dropWhile_cons]
   by_cases hc : cs.contains c = true
   ·rw [if_pos hc,ih]
    have hc' : c ∈ cs:=by simpa using hc
    simp [hc']
   ·rw [if_neg hc]
    have hc' : ¬ c ∈ cs:=by simpa using hc
    simp [hc']
 have hdw : ∀ (m : List UInt8),(∀ c ∈ m.dropWhile (cs.contains ·),c ∈ cs) → ∀ c ∈ m,c ∈ cs:=by
  intro m
  induction m with
  | nil => intro _ c h; cases h
  | cons c m ih =>
   intro h;rw [List.dropWhile_cons] at h
   by_cases hc : cs.contains c = true
   ·rw [if_pos hc] at h
    intro x hx;rcases List.mem_cons.1 hx with rfl | hx
    ·simpa using hc
    ·exact ih h x hx
   ·rw [if_neg hc] at h; exact h
 unfold Lib.trimS Lib.trimRightS Lib.trimLeftS;rw [h0]
 constructor
 ·intro h c hc
  exact hdw l.reverse (fun x hx => h x (List.mem_reverse.2 hx)) c (List.mem_reverse.2 hc)
 ·intro h c hc
  exact h c (List.mem_reverse.1 ((List.dropWhile_suffix _).subset (List.mem_reverse.1 hc)))
theorem join_flat (xs : List (List UInt8)) : Lib.join xs [] = xs.flatten:=by
 unfold Lib.join
 induction xs with
 | nil => rfl
 | cons x xs ih =>
  cases xs with
  | nil => simp [List.intercalate]
  | cons y ys =>
   simp [List.intercalate,List.intersperse] at ih ⊢
   exact ih
end Go.Proofs.YtkchacgkjdeiaaaGreatDoor
