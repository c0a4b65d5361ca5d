/- How a game is played, plain. -/
import Derived.Test.YtnlblgkoecnfmaaDoorGmS
import Derived.Test.YtnlblgkoecnfmaaDoorBase
namespace Go.Proofs.YtnlblgkoecnfmaaDoor
set_option linter.unusedVariables false
set_option linter.unusedSimpArgs false
open Go.RowKit

/-- The cells of a state, or of a body. -/
def gsC (s : GS) : List Value := [.int .i64 s.x, .int .i64 s.y, .int .i64 s.rise, .bool s.held, .int .i64 s.mask, .int .i64 s.fin]
def gss (l : List GS) : List Value := l.flatMap gsC
theorem gss_len (l : List GS) : (gss l).length = l.length * 6 := by
  induction l with
  | nil => rfl
  | cons s l ih =>
    have e : gss (s :: l) = gsC s ++ gss l := by simp [gss]
    rw [e, List.length_append, ih]; simp [gsC]; omega
theorem gss_app (a b : List GS) : gss (a ++ b) = gss a ++ gss b := by simp [gss]
theorem gss_one (s : GS) : gss [s] = gsC s := by simp [gss]
theorem gss_all (l : List GS) : (gss l).all (·.oneCell') = true := by
  refine List.all_eq_true.2 fun u hu => ?_
  obtain ⟨s, _, h⟩ := List.mem_flatMap.1 hu
  simp only [gsC, List.mem_cons, List.not_mem_nil, or_false] at h
  rcases h with rfl | rfl | rfl | rfl | rfl | rfl <;> simp [Value.oneCell']
theorem gss_at (l : List GS) : ∀ (k : Nat) (h : k < l.length), (gss l)[k * 6]? = some (.int .i64 l[k].x) ∧ (gss l)[k * 6 + 1]? = some (.int .i64 l[k].y) ∧ (gss l)[k * 6 + 2]? = some (.int .i64 l[k].rise) ∧ (gss l)[k * 6 + 3]? = some (.bool l[k].held) ∧ (gss l)[k * 6 + 4]? = some (.int .i64 l[k].mask) ∧ (gss l)[k * 6 + 5]? = some (.int .i64 l[k].fin) := by
  induction l with
  | nil => intro k h; exact absurd h (by simp)
  | cons s l ih =>
    intro k h
    have e : gss (s :: l) = gsC s ++ gss l := by simp [gss]
    match k, h with
    | 0, _ => rw [e]; exact ⟨rfl, rfl, rfl, rfl, rfl, rfl⟩
    | k + 1, h =>
      have g : ∀ j, (gss (s :: l))[(k + 1) * 6 + j]? = (gss l)[k * 6 + j]? := fun j => by
        rw [e, List.getElem?_append_right (by simp [gsC]; omega)]
        congr 1
        simp [gsC]; omega
      have := ih k (by simpa using h)
      exact ⟨(g 0).trans this.1, (g 1).trans this.2.1, (g 2).trans this.2.2.1, (g 3).trans this.2.2.2.1, (g 4).trans this.2.2.2.2.1, (g 5).trans this.2.2.2.2.2⟩
def bodyG (s : GS) : GS := { s with mask := popN s.mask }
/-- How a game stands after each frame, up to that with which it ends. -/
def playF (rows : List (List UInt8)) (W : Nat) : GS → List Int → List GS
  | _, [] => []
  | s, h :: t => stepF rows W h s :: if (stepF rows W h s).fin = 0 then playF rows W (stepF rows W h s) t else []
section
variable {rows : List (List UInt8)} {W : Nat} {s : GS} {h : Int} {xs : List Int}
theorem playF_len : ∀ {xs : List Int} {s : GS}, (playF rows W s xs).length ≤ xs.length
  | [], _ => Nat.le_refl _
  | h :: t, s => by
    unfold playF
    split
    · have := @playF_len t (stepF rows W h s); simp; omega
    · simp
theorem playF_drop {k : Nat} (hk : k < xs.length) : playF rows W s (xs.drop k) = stepF rows W xs[k] s :: if (stepF rows W xs[k] s).fin = 0 then playF rows W (stepF rows W xs[k] s) (xs.drop (k + 1)) else [] := by
  rw [List.drop_eq_getElem_cons hk]; rfl
theorem playF_all {l : List GS} {k : Nat} (hk : k < xs.length) {s0 : GS} (h : l ++ playF rows W s (xs.drop k) = playF rows W s0 xs) (hf : (stepF rows W xs[k] s).fin ≠ 0) : l ++ [stepF rows W xs[k] s] = playF rows W s0 xs := by
  rw [← h, playF_drop hk, if_neg hf]
theorem playF_more {l : List GS} {k : Nat} (hk : k < xs.length) {s0 : GS} (h : l ++ playF rows W s (xs.drop k) = playF rows W s0 xs) (hf : (stepF rows W xs[k] s).fin = 0) : (l ++ [stepF rows W xs[k] s]) ++ playF rows W (stepF rows W xs[k] s) (xs.drop (k + 1)) = playF rows W s0 xs := by
  rw [← h, playF_drop hk, if_pos hf]; simp
theorem playF_end {l : List GS} {s0 : GS} (h : l ++ playF rows W s (xs.drop xs.length) = playF rows W s0 xs) : l = playF rows W s0 xs := by
  rw [← h, List.drop_length]; simp [playF]
theorem playF_ok (hL : Lv rows W) : ∀ {xs : List Int} {s : GS}, GOk rows W s → s.fin = 0 → ∀ t ∈ playF rows W s xs, GOk rows W t
  | [], _, _, _, _, h => by simp [playF] at h
  | a :: l, s, hs, hf, t, ht => by
    unfold playF at ht
    have h1 := hs.step (h := a) hL hf
    rcases List.mem_cons.1 ht with rfl | ht
    · exact h1
    · split at ht
      · rename_i e; exact playF_ok hL h1 e t ht
      · cases ht
theorem start_ok (hL : Lv rows W) {sx sy : Int} (h : cellF rows W sx sy = 115) : GOk rows W ⟨sx, sy, 0, false, 0, 0⟩ := by
  rcases cellF_where (rows := rows) (W := W) (x := sx) (y := sy) (by rw [h]; decide) with h1 | h1
  · rw [cellF_low h1] at h; cases h
  · exact ⟨h1.2.2.1, h1.2.2.2, h1.1, by show sy ≤ _; omega, fun _ => h1.2.1, by show (0:Int) ≤ 0; omega, by show (0:Int) ≤ 3; omega, by show (0:Nat) < 1024; omega, by show (0:Int) ≤ 0; omega, by show (0:Int) ≤ 2; omega⟩
end
end Go.Proofs.YtnlblgkoecnfmaaDoor
