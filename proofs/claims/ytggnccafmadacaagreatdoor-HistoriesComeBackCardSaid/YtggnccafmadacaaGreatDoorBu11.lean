/- Texts of this seat, laid together: Ev EvP Mk Ag. -/
import Derived.Test.YtggnccafmadacaaGreatDoorBu00
/- The plain mathematics of videos: stretches, rates, when a frame begins, which frame is seen; no program of Go in sight. -/
namespace Go.Proofs.YtggnccafmadacaaGreatDoor
set_option linter.unusedVariables false
set_option linter.unusedSimpArgs false

/-- A stretch: its frames, and its rate as a fraction. -/
abbrev St := Int × Int × Int
def trs (v : List St) : List Value := v.flatMap fun s => [.int .i64 s.1, .int .i64 s.2.1, .int .i64 s.2.2]
theorem trs_len (v : List St) : (trs v).length = v.length * 3 := by
  induction v with
  | nil => rfl
  | cons p v ih => simp only [trs, List.flatMap_cons, List.length_append, List.length_cons, List.length_nil] at *; omega
theorem trs_all (v : List St) : (trs v).all (·.oneCell') = true := by
  rw [List.all_eq_true]
  intro u hu
  obtain ⟨p, _, hp⟩ := List.mem_flatMap.1 hu
  simp at hp
  rcases hp with rfl | rfl | rfl <;> rfl
theorem trs_app (a b : List St) : trs (a ++ b) = trs a ++ trs b := by simp [trs]
theorem trs_at (v : List St) : ∀ (k : Nat) (h : k < v.length), (trs v)[k * 3]? = some (.int .i64 v[k].1) ∧ (trs v)[k * 3 + 1]? = some (.int .i64 v[k].2.1) ∧ (trs v)[k * 3 + 2]? = some (.int .i64 v[k].2.2) := by
  induction v with
  | nil => intro k h; simp at h
  | cons p v ih =>
    intro k h
    cases k with
    | zero => exact ⟨rfl, rfl, rfl⟩
    | succ k =>
      have := ih k (by simpa using h)
      have e1 : (k + 1) * 3 = k * 3 + 1 + 1 + 1 := by omega
      simp only [trs, List.flatMap_cons, e1, List.cons_append, List.nil_append, List.getElem?_cons_succ, List.getElem_cons_succ] at *
      exact this
theorem trs_set3 (v : List St) (k : Nat) (h : k < v.length) (x y z : Int) : (((trs v).set (k * 3) (.int .i64 x)).set (k * 3 + 1) (.int .i64 y)).set (k * 3 + 2) (.int .i64 z) = trs (v.set k (x, y, z)) := by
  induction v generalizing k with
  | nil => simp at h
  | cons p v ih =>
    cases k with
    | zero => rfl
    | succ k =>
      have e2 : (k + 1) * 3 = (k * 3) + 1 + 1 + 1 := by omega
      have := ih k (by simpa using h)
      simp only [trs, List.flatMap_cons, e2, List.cons_append, List.nil_append, List.set_cons_succ] at *
      rw [this]
theorem Row.tr_at {w : World} {lo : Nat} {A : Option Addr} {v : List St} (h : Row w lo 3 A v.length (trs v)) {k : Nat} (hk : k < v.length) :
    ∃ b off, A = some ⟨b, off, none⟩ ∧ lo ≤ b ∧ b < w.heap.size ∧ w.cell? ⟨b, off + k * 3, none⟩ = some (.int .i64 v[k].1) ∧ w.cell? ⟨b, off + k * 3 + 1, none⟩ = some (.int .i64 v[k].2.1) ∧ w.cell? ⟨b, off + k * 3 + 2, none⟩ = some (.int .i64 v[k].2.2) := by
  obtain ⟨b, off, e, hl, hb, hc⟩ := h.2 (by omega)
  obtain ⟨h1, h2, h3⟩ := trs_at v k hk
  exact ⟨b, off, e, hl, hb, hc _ _ h1, by rw [Nat.add_assoc]; exact hc _ _ h2, by rw [Nat.add_assoc]; exact hc _ _ h3⟩

/-! ### rates -/
def argOk (s : St) : Bool := decide (1 ≤ s.1) && decide (s.1 ≤ 10000000)
def gcdI (a b : Int) : Int := (Nat.gcd a.toNat b.toNat : Int)
def formOk (s : St) : Bool := decide (1 ≤ s.2.2) && decide (s.2.2 ≤ 1001) && decide (s.2.2 ≤ s.2.1) && decide (s.2.1 ≤ 1000 * s.2.2) && decide (gcdI s.2.1 s.2.2 = 1)
theorem argOk_iff (s : St) : argOk s = true ↔ 1 ≤ s.1 ∧ s.1 ≤ 10000000 := by simp [argOk]
theorem formOk_iff (s : St) : formOk s = true ↔ 1 ≤ s.2.2 ∧ s.2.2 ≤ 1001 ∧ s.2.2 ≤ s.2.1 ∧ s.2.1 ≤ 1000 * s.2.2 ∧ gcdI s.2.1 s.2.2 = 1 := by simp [formOk, and_assoc]
def sFault (s : St) : Int := if argOk s then (if formOk s then 0 else 3) else 1
def fsum (v : List St) : Int := (v.map (·.1)).sum
theorem fsum_take (v : List St) (k : Nat) (h : k < v.length) : fsum (v.take (k + 1)) = fsum (v.take k) + v[k].1 := by
  rw [List.take_succ_eq_append_getElem h]; unfold fsum; rw [List.map_append, List.sum_append]; simp
theorem fsum_nonneg (v : List St) (h : ∀ s ∈ v, 0 ≤ s.1) : 0 ≤ fsum v := by
  induction v with
  | nil => simp [fsum]
  | cons p v ih =>
    have h1 := h p (by simp)
    have h2 := ih fun q hq => h q (by simp [hq])
    simp only [fsum, List.map_cons, List.sum_cons] at *
    omega
theorem fsum_app (a b : List St) : fsum (a ++ b) = fsum a + fsum b := by simp [fsum]
theorem fsum_take_le (v : List St) (k : Nat) (h : ∀ s ∈ v, 0 ≤ s.1) : 0 ≤ fsum (v.take k) ∧ fsum (v.take k) ≤ fsum v := by
  have h1 := fsum_nonneg (v.take k) fun p hp => h p (List.mem_of_mem_take hp)
  have h2 := fsum_nonneg (v.drop k) fun p hp => h p (List.mem_of_mem_drop hp)
  have h3 := fsum_app (v.take k) (v.drop k)
  rw [List.take_append_drop] at h3
  omega
theorem fsum_le (v : List St) (M : Int) (h : ∀ s ∈ v, s.1 ≤ M) : fsum v ≤ M * v.length := by
  induction v with
  | nil => simp [fsum]
  | cons p v ih =>
    have h1 := h p (by simp)
    have h2 := ih fun q hq => h q (by simp [hq])
    simp only [fsum, List.map_cons, List.sum_cons, List.length_cons] at *
    rw [Int.natCast_add, Int.mul_add]
    omega
/-- The least common multiple of the rates' numerators, as the program reckons it. -/
def mstep (n : Int) (s : St) : Int := if n ≤ 100000000 then n / gcdI n s.2.1 * s.2.1 else n
def multK (v : List St) : Int := v.foldl mstep 1
theorem multK_take (v : List St) (k : Nat) (h : k < v.length) : multK (v.take (k + 1)) = mstep (multK (v.take k)) v[k] := by
  unfold multK; rw [List.take_succ_eq_append_getElem h, List.foldl_append]; rfl
theorem gcdI_pos {a b : Int} (ha : 1 ≤ a) : 1 ≤ gcdI a b := by
  unfold gcdI
  have : 0 < Nat.gcd a.toNat b.toNat := Nat.gcd_pos_of_pos_left _ (by omega)
  omega
theorem gcdI_le {a b : Int} (ha : 1 ≤ a) : gcdI a b ≤ a := by
  unfold gcdI
  have : Nat.gcd a.toNat b.toNat ≤ a.toNat := Nat.gcd_le_left _ (by omega)
  omega
theorem mstep_bd {n : Int} {s : St} (h1 : 1 ≤ n) (h2 : n ≤ 1000000000000000) (hs1 : 1 ≤ s.2.1) (hs2 : s.2.1 ≤ 1001000) : 1 ≤ mstep n s ∧ mstep n s ≤ 1000000000000000 := by
  unfold mstep
  split
  · rename_i hn
    have g1 := gcdI_pos (b := s.2.1) h1
    have g2 := gcdI_le (b := s.2.1) h1
    have q1 : 1 ≤ n / gcdI n s.2.1 := by
      rw [Int.le_ediv_iff_mul_le (by omega)]; omega
    have q2 : n / gcdI n s.2.1 ≤ n := Int.ediv_le_self _ (by omega)
    have m1 : 1 * 1 ≤ n / gcdI n s.2.1 * s.2.1 := Int.mul_le_mul q1 hs1 (by omega) (by omega)
    have m2 : n / gcdI n s.2.1 * s.2.1 ≤ 100000000 * 1001000 := Int.mul_le_mul (by omega) hs2 (by omega) (by omega)
    omega
  · omega
theorem multK_bd (v : List St) (h : ∀ s ∈ v, 1 ≤ s.2.1 ∧ s.2.1 ≤ 1001000) : 1 ≤ multK v ∧ multK v ≤ 1000000000000000 := by
  suffices H : ∀ n : Int, 1 ≤ n ∧ n ≤ 1000000000000000 → 1 ≤ v.foldl mstep n ∧ v.foldl mstep n ≤ 1000000000000000 from H 1 (by omega)
  induction v with
  | nil => intro n hn; exact hn
  | cons s v ih =>
    intro n hn
    rw [List.foldl_cons]
    have := h s (by simp)
    exact ih (fun q hq => h q (by simp [hq])) _ (mstep_bd hn.1 hn.2 this.1 this.2)
/-- Every rate's numerator divides a multiple that is not too great. -/
theorem mstep_dvd {n : Int} {s : St} (h1 : 1 ≤ n) (hs1 : 1 ≤ s.2.1) (hle : mstep n s ≤ 100000000) (hn : n ≤ 100000000) : n ∣ mstep n s ∧ s.2.1 ∣ mstep n s ∧ n ≤ mstep n s := by
  have e : mstep n s = n / gcdI n s.2.1 * s.2.1 := by simp [mstep, hn]
  have hg : gcdI n s.2.1 ∣ n := by
    unfold gcdI
    obtain ⟨m, rfl⟩ := Int.eq_ofNat_of_zero_le (show 0 ≤ n by omega)
    exact Int.ofNat_dvd.2 (by simpa using Nat.gcd_dvd_left m s.2.1.toNat)
  have hg' : gcdI n s.2.1 ∣ s.2.1 := by
    obtain ⟨m, hm⟩ := Int.eq_ofNat_of_zero_le (show 0 ≤ s.2.1 by omega)
    unfold gcdI
    rw [hm]
    exact Int.ofNat_dvd.2 (by simpa using Nat.gcd_dvd_right n.toNat m)
  have g1 := gcdI_pos (b := s.2.1) h1
  obtain ⟨q, hq⟩ := hg
  obtain ⟨r, hr⟩ := hg'
  generalize hG : gcdI n s.2.1 = G at *
  have hGq : n / G = q := by rw [hq, Int.mul_ediv_cancel_left _ (by omega)]
  have em : mstep n s = n * r := by
    rw [e, hGq, hr]
    generalize hrr : r = r' at *
    have : q * (G * r') = G * q * r' := by rw [← Int.mul_assoc, Int.mul_comm q G]
    rw [← hr, hr, this, ← hq]
  refine ⟨⟨r, em⟩, ⟨q, by rw [e, hGq, Int.mul_comm]⟩, ?_⟩
  have hr1 : 1 ≤ r := by
    rcases Int.lt_or_le r 1 with h | h
    · have : G * r ≤ G * 0 := Int.mul_le_mul_of_nonneg_left (by omega) (by omega)
      omega
    · exact h
  rw [em]
  have := Int.mul_le_mul_of_nonneg_left hr1 (show 0 ≤ n by omega)
  omega
theorem mstep_mono {n : Int} {s : St} (hn : 100000000 < n) : mstep n s = n := by simp [mstep]; omega
theorem mult_big (v : List St) : ∀ n : Int, 100000000 < n → v.foldl mstep n = n := by
  induction v with
  | nil => intro n _; rfl
  | cons s v ih => intro n hn; rw [List.foldl_cons, mstep_mono hn]; exact ih n hn
theorem mult_dvd (v : List St) (h : ∀ s ∈ v, 1 ≤ s.2.1) (hm : multK v ≤ 100000000) : ∀ s ∈ v, s.2.1 ∣ multK v := by
  suffices H : ∀ n : Int, 1 ≤ n → v.foldl mstep n ≤ 100000000 → n ∣ v.foldl mstep n ∧ ∀ s ∈ v, s.2.1 ∣ v.foldl mstep n from (H 1 (by omega) hm).2
  clear hm
  induction v with
  | nil => intro n _ _; exact ⟨Int.dvd_refl _, by simp⟩
  | cons s v ih =>
    intro n hn hle
    rw [List.foldl_cons] at hle ⊢
    have hs := h s (by simp)
    rcases Int.lt_or_le 100000000 n with hb | hb
    · rw [mstep_mono hb, mult_big v n hb] at hle; omega
    · rcases Int.lt_or_le 100000000 (mstep n s) with hc | hc
      · rw [mult_big v _ hc] at hle; omega
      · obtain ⟨d1, d2, d3⟩ := mstep_dvd hn hs hc hb
        obtain ⟨i1, i2⟩ := ih (fun q hq => h q (by simp [hq])) (mstep n s) (by omega) hle
        refine ⟨Int.dvd_trans d1 i1, fun q hq => ?_⟩
        rcases List.mem_cons.1 hq with rfl | hq
        · exact Int.dvd_trans d2 i1
        · exact i2 q hq

/-- The fault of a video. -/
def vFault (v : List St) : Int := if 500 < v.length then 2 else if firstE (v.map sFault) = 0 then (if 10000000 < fsum v ∨ 100000000 < multK v then 2 else 0) else firstE (v.map sFault)
theorem vFault_long (v : List St) (h : 500 < v.length) : vFault v = 2 := by simp [vFault, h]
theorem vFault_bad (v : List St) (k : Nat) (h : v.length ≤ 500) (hk : k < v.length) (h0 : ∀ s ∈ v.take k, sFault s = 0) (hv : sFault v[k] ≠ 0) : vFault v = sFault v[k] := by
  have e : firstE (v.map sFault) = sFault v[k] := by
    have := firstE_hit (v.map sFault) k (by simpa using hk) (by rw [← List.map_take]; intro y hy; obtain ⟨s, hs, rfl⟩ := List.mem_map.1 hy; exact h0 s hs) (by simpa using hv)
    simpa using this
  unfold vFault
  rw [e, if_neg (by omega), if_neg hv]
theorem vFault_good (v : List St) (h : v.length ≤ 500) (h0 : ∀ s ∈ v, sFault s = 0) : vFault v = if 10000000 < fsum v ∨ 100000000 < multK v then 2 else 0 := by
  have e : firstE (v.map sFault) = 0 := firstE_none _ (by intro y hy; obtain ⟨s, hs, rfl⟩ := List.mem_map.1 hy; exact h0 s hs)
  unfold vFault
  rw [e, if_neg (by omega)]; rfl
theorem sFault_ok {s : St} (h : sFault s = 0) : argOk s = true ∧ formOk s = true := by
  unfold sFault at h
  by_cases h1 : argOk s = true
  · by_cases h2 : formOk s = true
    · exact ⟨h1, h2⟩
    · simp [h1, h2] at h
  · simp [h1] at h
structure Good (v : List St) : Prop where
  len : v.length ≤ 500
  pos : ∀ s ∈ v, 1 ≤ s.1 ∧ s.1 ≤ 10000000
  form : ∀ s ∈ v, 1 ≤ s.2.2 ∧ s.2.2 ≤ 1001 ∧ s.2.2 ≤ s.2.1 ∧ s.2.1 ≤ 1001000
  sum : fsum v ≤ 10000000
  mul : multK v ≤ 100000000
theorem vFault_ok {v : List St} (h : vFault v = 0) : Good v := by
  unfold vFault at h
  by_cases h1 : 500 < v.length
  · simp [h1] at h
  · rw [if_neg h1] at h
    by_cases h2 : firstE (v.map sFault) = 0
    · rw [if_pos h2] at h
      have h3 : ∀ s ∈ v, sFault s = 0 := by
        intro s hs
        rcases Classical.em (∀ s ∈ v, sFault s = 0) with ha | ha
        · exact ha s hs
        · exfalso
          have : ∃ k, ∃ hk : k < v.length, sFault v[k] ≠ 0 ∧ ∀ s ∈ v.take k, sFault s = 0 := by
            clear h h1 hs s
            induction v with
            | nil => exact absurd (by simp) ha
            | cons s v ih =>
              by_cases hz : sFault s = 0
              · have h2' : firstE (v.map sFault) = 0 := by simpa [firstE, hz] using h2
                obtain ⟨k, hk, h4, h5⟩ := ih h2' (fun hh => ha (by simpa [hz] using hh))
                exact ⟨k + 1, by simp; omega, by simpa using h4, by
                  intro x hx
                  rw [List.take_succ_cons] at hx
                  rcases List.mem_cons.1 hx with rfl | hx
                  · exact hz
                  · exact h5 x hx⟩
              · exact ⟨0, by simp, by simpa using hz, by simp⟩
          obtain ⟨k, hk, h4, h5⟩ := this
          have := vFault_bad v k (by omega) hk h5 h4
          unfold vFault at this
          rw [if_neg h1, if_pos h2, h] at this
          exact h4 this.symm
      by_cases h4 : 10000000 < fsum v ∨ 100000000 < multK v
      · rw [if_pos h4] at h; cases h
      · refine ⟨by omega, fun s hs => (argOk_iff s).1 (sFault_ok (h3 s hs)).1, fun s hs => ?_, by omega, by omega⟩
        have := (formOk_iff s).1 (sFault_ok (h3 s hs)).2
        omega
    · rw [if_neg h2] at h; exact absurd h h2
theorem sFault_take {v : List St} {k : Nat} (h : ∀ s ∈ v.take k, sFault s = 0) (hk : k < v.length) (hv : sFault v[k] = 0) : ∀ s ∈ v.take (k + 1), sFault s = 0 := by
  intro p hp
  rw [List.take_succ_eq_append_getElem hk] at hp
  rcases List.mem_append.1 hp with h1 | h1
  · exact h p h1
  · simp at h1; subst h1; exact hv

/-! ### when a frame begins -/
def longM (m : Int) (s : St) : Int := s.2.2 * (m / s.2.1)
/-- How many frames of stretch k are before a frame. -/
def usedM (v : List St) (f : Int) (k : Nat) : Int := min (max (f - fsum (v.take k)) 0) (v.getD k (0, 1, 1)).1
def begK (m : Int) (v : List St) (f : Int) : Nat → Int
  | 0 => 0
  | k + 1 => begK m v f k + usedM v f k * longM m (v.getD k (0, 1, 1))
def begM (v : List St) (f : Int) : Int := begK (multK v) v f v.length
theorem longM_bd {m : Int} {s : St} (hm : 1 ≤ m) (hm' : m ≤ 100000000) (h1 : 1 ≤ s.2.2) (h2 : s.2.2 ≤ s.2.1) (hd : s.2.1 ∣ m) : 1 ≤ longM m s ∧ longM m s ≤ m := by
  unfold longM
  obtain ⟨q, rfl⟩ := hd
  have hq : 1 ≤ q := by
    rcases Int.lt_or_le q 1 with h | h
    · have : s.2.1 * q ≤ s.2.1 * 0 := Int.mul_le_mul_of_nonneg_left (by omega) (by omega)
      omega
    · exact h
  rw [Int.mul_ediv_cancel_left _ (by omega)]
  have a1 : 1 * 1 ≤ s.2.2 * q := Int.mul_le_mul h1 hq (by omega) (by omega)
  have a2 : s.2.2 * q ≤ s.2.1 * q := Int.mul_le_mul_of_nonneg_right h2 (by omega)
  omega
theorem Good.nonneg {v : List St} (h : Good v) : ∀ s ∈ v, 0 ≤ s.1 := fun s hs => by have := h.pos s hs; omega
theorem Good.mbd {v : List St} (h : Good v) : 1 ≤ multK v := (multK_bd v fun s hs => by have := h.form s hs; omega).1
theorem Good.long {v : List St} (h : Good v) (s : St) (hs : s ∈ v) : 1 ≤ longM (multK v) s ∧ longM (multK v) s ≤ multK v := by
  have hf := h.form s hs
  exact longM_bd h.mbd h.mul hf.1 hf.2.2.1 (mult_dvd v (fun q hq => by have := h.form q hq; omega) h.mul s hs)
theorem used_bd (v : List St) (hp : ∀ s ∈ v, 0 ≤ s.1) (f : Int) (k : Nat) (hk : k < v.length) : 0 ≤ usedM v f k ∧ usedM v f k ≤ v[k].1 := by
  unfold usedM
  rw [List.getD_eq_getElem?_getD, List.getElem?_eq_getElem hk, Option.getD_some]
  have := hp v[k] (List.getElem_mem _)
  omega
theorem begK_bd {v : List St} (h : Good v) (f : Int) : ∀ k, k ≤ v.length → 0 ≤ begK (multK v) v f k ∧ begK (multK v) v f k ≤ fsum (v.take k) * 100000000 := by
  intro k
  induction k with
  | zero => intro _; simp [begK, fsum]
  | succ k ih =>
    intro hk
    have hlt : k < v.length := by omega
    have i := ih (by omega)
    have u := used_bd v h.nonneg f k hlt
    have hm := h.mul
    have l := h.long v[k] (List.getElem_mem _)
    have e : v.getD k (0, 1, 1) = v[k] := by rw [List.getD_eq_getElem?_getD, List.getElem?_eq_getElem hlt]; rfl
    rw [begK, e, fsum_take v k hlt, Int.add_mul]
    have a1 : 0 ≤ usedM v f k * longM (multK v) v[k] := Int.mul_nonneg u.1 (by omega)
    have a2 : usedM v f k * longM (multK v) v[k] ≤ v[k].1 * 100000000 := Int.mul_le_mul u.2 (by omega) (by omega) (by omega)
    omega
end Go.Proofs.YtggnccafmadacaaGreatDoor
/- Which frame is seen at a time: plain mathematics; no program of Go in sight. -/
namespace Go.Proofs.YtggnccafmadacaaGreatDoor
set_option linter.unusedVariables false
set_option linter.unusedSimpArgs false

theorem getD_at (v : List St) (k : Nat) (hk : k < v.length) : v.getD k (0, 1, 1) = v[k] := by rw [List.getD_eq_getElem?_getD, List.getElem?_eq_getElem hk]; rfl
theorem used_mono (v : List St) (f f' : Int) (h : f ≤ f') (k : Nat) : usedM v f k ≤ usedM v f' k := by unfold usedM; omega
theorem begK_mono {v : List St} (hg : Good v) (f f' : Int) (h : f ≤ f') : ∀ k, k ≤ v.length → begK (multK v) v f k ≤ begK (multK v) v f' k := by
  intro k
  induction k with
  | zero => intro _; simp [begK]
  | succ k ih =>
    intro hk
    have i := ih (by omega)
    have u := used_mono v f f' h k
    have l := hg.long v[k] (List.getElem_mem _)
    rw [begK, begK, getD_at v k (by omega)]
    have := Int.mul_le_mul_of_nonneg_right u (show 0 ≤ longM (multK v) v[k] by omega)
    omega
theorem begM_mono {v : List St} (hg : Good v) (f f' : Int) (h : f ≤ f') : begM v f ≤ begM v f' := begK_mono hg f f' h _ (Nat.le_refl _)
/-- How long the first k stretches are. -/
def fullK (v : List St) : Nat → Int
  | 0 => 0
  | k + 1 => fullK v k + (v.getD k (0, 1, 1)).1 * longM (multK v) (v.getD k (0, 1, 1))
theorem fsum_le_take (v : List St) (hp : ∀ s ∈ v, 0 ≤ s.1) (i k : Nat) (h : i ≤ k) : fsum (v.take i) ≤ fsum (v.take k) := by
  have := (fsum_take_le (v.take k) i fun s hs => hp s (List.mem_of_mem_take hs)).2
  rwa [List.take_take, Nat.min_eq_left h] at this
theorem beg_lo {v : List St} (hg : Good v) (f : Int) (k : Nat) (hk : k ≤ v.length) (hf : fsum (v.take k) ≤ f) : ∀ i, i ≤ k → begK (multK v) v f i = fullK v i := by
  intro i
  induction i with
  | zero => intro _; rfl
  | succ i ih =>
    intro hi
    have h1 := fsum_le_take v hg.nonneg (i + 1) k hi
    have h2 := fsum_take v i (by omega)
    have h3 := hg.nonneg v[i] (List.getElem_mem _)
    have : usedM v f i = v[i].1 := by
      unfold usedM
      rw [getD_at v i (by omega)]
      omega
    rw [begK, fullK, ih (by omega), this, getD_at v i (by omega)]
theorem beg_hi {v : List St} (hg : Good v) (f : Int) (k : Nat) (hf : f ≤ fsum (v.take k)) : ∀ n, k + n ≤ v.length → begK (multK v) v f (k + n) = begK (multK v) v f k := by
  intro n
  induction n with
  | zero => intro _; rfl
  | succ n ih =>
    intro hn
    have h1 := fsum_le_take v hg.nonneg k (k + n) (by omega)
    have h3 := hg.nonneg v[k + n] (List.getElem_mem _)
    have : usedM v f (k + n) = 0 := by
      unfold usedM
      rw [getD_at v (k + n) (by omega)]
      omega
    rw [← Nat.add_assoc, begK, ih (by omega), this]
    simp
theorem begM_at {v : List St} (hg : Good v) (k : Nat) (hk : k < v.length) (j : Int) (h0 : 0 ≤ j) (h1 : j ≤ v[k].1) : begM v (fsum (v.take k) + j) = fullK v k + j * longM (multK v) v[k] := by
  have e := fsum_take v k hk
  have h := beg_hi hg (fsum (v.take k) + j) (k + 1) (by omega) (v.length - (k + 1)) (by omega)
  rw [show k + 1 + (v.length - (k + 1)) = v.length by omega] at h
  have hu : usedM v (fsum (v.take k) + j) k = j := by
    unfold usedM
    rw [getD_at v k hk]
    omega
  unfold begM
  rw [h, begK, beg_lo hg _ k (by omega) (by omega) k (Nat.le_refl _), hu, getD_at v k hk]
theorem begM_end {v : List St} (hg : Good v) : begM v (fsum v) = fullK v v.length := by
  have := beg_lo hg (fsum v) v.length (Nat.le_refl _) (by rw [List.take_length]; omega) v.length (Nat.le_refl _)
  exact this
theorem begM_zero {v : List St} (hg : Good v) : begM v 0 = 0 := by
  have h := beg_hi hg 0 0 (by simp [fsum]) v.length (by omega)
  rw [Nat.zero_add] at h
  unfold begM
  rw [h]; rfl

/-- The frame that is seen when so many parts are gone; -1: the video has ended. -/
def Seen (v : List St) (L r : Int) : Prop := (r = -1 ∧ begM v (fsum v) ≤ L) ∨ (0 ≤ r ∧ r < fsum v ∧ begM v r ≤ L ∧ L < begM v (r + 1))
theorem Seen.one {v : List St} (hg : Good v) {L r r' : Int} (h : Seen v L r) (h' : Seen v L r') : r = r' := by
  rcases h with ⟨rfl, h1⟩ | ⟨a1, a2, a3, a4⟩
  · rcases h' with ⟨rfl, h2⟩ | ⟨b1, b2, b3, b4⟩
    · rfl
    · have := begM_mono hg (r' + 1) (fsum v) (by omega); omega
  · rcases h' with ⟨rfl, h2⟩ | ⟨b1, b2, b3, b4⟩
    · have := begM_mono hg (r + 1) (fsum v) (by omega); omega
    · rcases Int.lt_trichotomy r r' with h | h | h
      · have := begM_mono hg (r + 1) r' (by omega); omega
      · exact h
      · have := begM_mono hg (r' + 1) r (by omega); omega
open Classical in
noncomputable def seenR (v : List St) (L : Int) : Int := if h : ∃ r, Seen v L r then h.choose else -1
theorem Seen.eq {v : List St} (hg : Good v) {L r : Int} (h : Seen v L r) : seenR v L = r := by
  have hx : ∃ r, Seen v L r := ⟨r, h⟩
  unfold seenR
  rw [dif_pos hx]
  exact Seen.one hg hx.choose_spec h
def seenL (v : List St) (time : Int) : Int := time * multK v / 1000
theorem seenL_iff (v : List St) (time n : Int) : n ≤ seenL v time ↔ 1000 * n ≤ time * multK v := by
  unfold seenL
  rw [Int.le_ediv_iff_mul_le (by omega), Int.mul_comm n 1000]
theorem seen_in {v : List St} (hg : Good v) (k : Nat) (hk : k < v.length) (L : Int) (h0 : fullK v k ≤ L) (h1 : L - fullK v k < v[k].1 * longM (multK v) v[k]) : Seen v L (fsum (v.take k) + (L - fullK v k) / longM (multK v) v[k]) := by
  have l := hg.long v[k] (List.getElem_mem _)
  generalize hD : L - fullK v k = D at *
  generalize hl : longM (multK v) v[k] = w at *
  have q0 : 0 ≤ D / w := Int.ediv_nonneg (by omega) (by omega)
  have q1 : D / w < v[k].1 := by
    rw [Int.ediv_lt_iff_lt_mul (by omega)]; exact h1
  have e1 := begM_at hg k hk (D / w) q0 (by omega)
  have e2 := begM_at hg k hk (D / w + 1) (by omega) (by omega)
  have s1 := fsum_take v k hk
  have s2 := fsum_take_le v (k + 1) hg.nonneg
  have s3 := fsum_take_le v k hg.nonneg
  have d1 := Int.ediv_mul_le D (show w ≠ 0 by omega)
  have d2 := Int.lt_ediv_add_one_mul_self D (show 0 < w by omega)
  rw [hl] at e1 e2
  refine .inr ⟨by omega, by omega, by omega, ?_⟩
  rw [Int.add_assoc, e2]
  omega
theorem seen_past {v : List St} (hg : Good v) (L : Int) (h : fullK v v.length ≤ L) : Seen v L (-1) := .inl ⟨rfl, by rw [begM_end hg]; exact h⟩
theorem fullK_bd {v : List St} (hg : Good v) (k : Nat) (hk : k ≤ v.length) : 0 ≤ fullK v k ∧ fullK v k ≤ 1000000000000000 := by
  have h1 := beg_lo hg (fsum v) k hk (by have := fsum_take_le v k hg.nonneg; omega) k (Nat.le_refl _)
  have h2 := begK_bd hg (fsum v) k hk
  have h3 := fsum_take_le v k hg.nonneg
  have h4 := hg.sum
  omega
theorem fullK_next (v : List St) (k : Nat) (hk : k < v.length) : fullK v (k + 1) = fullK v k + v[k].1 * longM (multK v) v[k] := by rw [fullK, getD_at v k hk]
theorem later_law (n m time : Int) (hm : 1 ≤ m) : (n / m ≠ time / 1000 → (decide (time / 1000 < n / m) = decide (time * m < 1000 * n))) ∧ (n / m = time / 1000 → (decide (time % 1000 * m < n % m * 1000) = decide (time * m < 1000 * n))) := by
  have e1 := Int.mul_ediv_add_emod n m
  have e2 := Int.mul_ediv_add_emod time 1000
  have r1 := Int.emod_nonneg n (show m ≠ 0 by omega)
  have r2 := Int.emod_lt_of_pos n (show 0 < m by omega)
  have u1 := Int.emod_nonneg time (show (1000 : Int) ≠ 0 by omega)
  have u2 := Int.emod_lt_of_pos time (show (0 : Int) < 1000 by omega)
  generalize n / m = q at *
  generalize n % m = r at *
  generalize time / 1000 = s at *
  generalize time % 1000 = u at *
  have a1 : 0 ≤ u * m := Int.mul_nonneg u1 (by omega)
  have a2 : u * m ≤ 999 * m := Int.mul_le_mul_of_nonneg_right (by omega) (by omega)
  have e3 : time * m = 1000 * (m * s) + u * m := by rw [← e2, Int.add_mul, Int.mul_assoc, Int.mul_comm s m]
  refine ⟨fun h => ?_, fun h => ?_⟩
  · rw [e3, ← e1, decide_eq_decide]
    rcases Int.lt_or_lt_of_ne h with h | h
    · have b := Int.mul_le_mul_of_nonneg_left (show q + 1 ≤ s by omega) (show 0 ≤ m by omega)
      rw [Int.mul_add] at b
      constructor <;> intro _ <;> omega
    · have b := Int.mul_le_mul_of_nonneg_left (show s + 1 ≤ q by omega) (show 0 ≤ m by omega)
      rw [Int.mul_add] at b
      constructor <;> intro _ <;> omega
  · subst h
    rw [e3, ← e1, decide_eq_decide]
    constructor <;> intro _ <;> omega
/-- The first test of begun follows from the second. -/
theorem begun_first (n m time : Int) (hm : 1 ≤ m) (_ : 0 ≤ n) (h : 1000 * n ≤ time * m) : n / m * 1000 + n % m * 1000 / m ≤ time := by
  have e1 := Int.mul_ediv_add_emod n m
  have : n / m * 1000 + n % m * 1000 / m = (1000 * n) / m := by
    conv => rhs; rw [← e1]
    rw [show 1000 * (m * (n / m) + n % m) = n % m * 1000 + m * (n / m * 1000) by
      rw [Int.mul_add, Int.mul_comm 1000 (n % m), Int.add_comm, Int.mul_left_comm, Int.mul_comm 1000 (n / m)]]
    rw [Int.add_mul_ediv_left _ _ (by omega)]
    omega
  rw [this]
  have := Int.ediv_le_ediv (show 0 < m by omega) h
  rwa [Int.mul_ediv_cancel _ (by omega)] at this
end Go.Proofs.YtggnccafmadacaaGreatDoor
/- Marks of a video: plain mathematics; no program of Go in sight. A mark is its frame and its kind. -/
namespace Go.Proofs.YtggnccafmadacaaGreatDoor
set_option linter.unusedVariables false
set_option linter.unusedSimpArgs false

abbrev Mk := Int × Int
theorem begK_bd' {v : List St} (h : Good v) (f : Int) : ∀ k, k ≤ v.length → begK (multK v) v f k ≤ fsum (v.take k) * multK v := by
  intro k
  induction k with
  | zero => intro _; simp [begK, fsum]
  | succ k ih =>
    intro hk
    have hlt : k < v.length := by omega
    have i := ih (by omega)
    have u := used_bd v h.nonneg f k hlt
    have l := h.long v[k] (List.getElem_mem _)
    rw [begK, getD_at v k hlt, fsum_take v k hlt, Int.add_mul]
    have a2 : usedM v f k * longM (multK v) v[k] ≤ v[k].1 * multK v := Int.mul_le_mul u.2 l.2 (by omega) (by omega)
    omega
theorem begM_bd' {v : List St} (h : Good v) (f : Int) : 0 ≤ begM v f ∧ begM v f ≤ 10000000 * multK v := by
  have h0 := (begK_bd h f v.length (Nat.le_refl _)).1
  have h1 := begK_bd' h f v.length (Nat.le_refl _)
  rw [List.take_length] at h1
  have h2 := Int.mul_le_mul_of_nonneg_right h.sum (show 0 ≤ multK v by have := h.mbd; omega)
  unfold begM
  omega
/-- Milliseconds, rounded. -/
def msM (m n : Int) : Int := n / m * 1000 + (2000 * (n % m) + m) / (2 * m)
/-- What film.times has gathered: since when time counts, what has counted, the times. -/
def tstep (v : List St) (s : Int × Int × List Int) (x : Mk) : Int × Int × List Int :=
  if x.2 = 1 ∨ x.2 = 4 then (begM v x.1, s.2.1, s.2.2) else if x.2 = 3 then (s.1, s.2.1 + (begM v x.1 - s.1), s.2.2) else (s.1, s.2.1, s.2.2 ++ [msM (multK v) (s.2.1 + begM v x.1 - s.1)])
def tS (v : List St) (l : List Mk) : Int × Int × List Int := l.foldl (tstep v) (0, 0, [])
theorem tS_take (v : List St) (l : List Mk) (k : Nat) (h : k < l.length) : tS v (l.take (k + 1)) = tstep v (tS v (l.take k)) l[k] := by
  unfold tS; rw [List.take_succ_eq_append_getElem h, List.foldl_append]; rfl
theorem tstep_on (v : List St) (s : Int × Int × List Int) (x : Mk) (h : x.2 = 1 ∨ x.2 = 4) : tstep v s x = (begM v x.1, s.2.1, s.2.2) := by simp [tstep, h]
theorem tstep_off (v : List St) (s : Int × Int × List Int) (x : Mk) (h : x.2 = 3) : tstep v s x = (s.1, s.2.1 + (begM v x.1 - s.1), s.2.2) := by simp [tstep, h]
theorem tstep_out (v : List St) (s : Int × Int × List Int) (x : Mk) (h : ¬ (x.2 = 1 ∨ x.2 = 4)) (h' : ¬ x.2 = 3) : tstep v s x = (s.1, s.2.1, s.2.2 ++ [msM (multK v) (s.2.1 + begM v x.1 - s.1)]) := by simp only [tstep, h, h', if_false]
def Rises (l : List Mk) : Prop := ∀ k, (h : k + 1 < l.length) → l[k].1 ≤ l[k + 1].1
theorem tS_bd {v : List St} (hg : Good v) (l : List Mk) (hl : Rises l) : ∀ k, k ≤ l.length → 0 ≤ (tS v (l.take k)).1 ∧ (∀ h : k < l.length, (tS v (l.take k)).1 ≤ begM v l[k].1) ∧ 0 ≤ (tS v (l.take k)).2.1 ∧ (tS v (l.take k)).2.1 ≤ k * (10000000 * multK v) ∧ (tS v (l.take k)).2.2.length ≤ k := by
  intro k
  induction k with
  | zero => intro _; simp [tS]; intro _; exact (begM_bd' hg _).1
  | succ k ih =>
    intro hk
    obtain ⟨a0, a1, b0, b1, c1⟩ := ih (by omega)
    have a2 := a1 (by omega)
    have bb := begM_bd' hg l[k].1
    have hm : ∀ h : k + 1 < l.length, begM v l[k].1 ≤ begM v l[k + 1].1 := fun h => begM_mono hg _ _ (hl k h)
    rw [tS_take v l k (by omega)]
    have em : ((k + 1 : Nat) : Int) * (10000000 * multK v) = (k : Int) * (10000000 * multK v) + 10000000 * multK v := by rw [Int.natCast_add, Int.add_mul]; simp
    generalize hT : (k : Int) * (10000000 * multK v) = T at *
    rw [em]
    by_cases h1 : l[k].2 = 1 ∨ l[k].2 = 4
    · rw [tstep_on _ _ _ h1]
      exact ⟨by simp; omega, fun h => by simp; exact hm h, by simp; omega, by simp; omega, by simp; omega⟩
    · by_cases h3 : l[k].2 = 3
      · rw [tstep_off _ _ _ h3]
        exact ⟨by simp; omega, fun h => by simp; have := hm h; omega, by simp; omega, by simp; omega, by simp; omega⟩
      · rw [tstep_out _ _ _ h1 h3]
        exact ⟨by simp; omega, fun h => by simp; have := hm h; omega, by simp; omega, by simp; omega, by simp; omega⟩
end Go.Proofs.YtggnccafmadacaaGreatDoor
/- Timings that agree: plain mathematics; no program of Go in sight. -/
namespace Go.Proofs.YtggnccafmadacaaGreatDoor
set_option linter.unusedVariables false
set_option linter.unusedSimpArgs false

def sorted (l : List Int) : List Int := l.mergeSort fun x y => decide (x ≤ y)
theorem sorted_len (l : List Int) : (sorted l).length = l.length := List.length_mergeSort _
theorem sorted_mem {l : List Int} {x : Int} : x ∈ sorted l ↔ x ∈ l := List.mem_mergeSort
/-- How far the group of place i goes. -/
def rch (s : List Int) (within : Int) (i : Nat) : Nat := i + ((s.drop i).takeWhile fun y => decide (y - s.getD i 0 ≤ within)).length
theorem takeWhile_len (l : List Int) (p : Int → Bool) (k : Nat) (hk : k ≤ l.length) (h : ∀ j, (hj : j < l.length) → j < k → p l[j] = true) (he : k = l.length ∨ ∃ h : k < l.length, p l[k] = false) : (l.takeWhile p).length = k := by
  induction l generalizing k with
  | nil => simp at hk ⊢; omega
  | cons x l ih =>
    cases k with
    | zero =>
      rcases he with he | ⟨_, he⟩
      · simp at he
      · simp at he; simp [he]
    | succ k =>
      have hx := h 0 (by simp) (by omega)
      simp at hx
      rw [List.takeWhile_cons, if_pos hx, List.length_cons]
      rw [ih k (by simpa using hk) (fun j hj hjk => by have := h (j + 1) (by simpa using hj) (by omega); simpa using this) ?_]
      rcases he with he | ⟨h1, he⟩
      · exact .inl (by simpa using he)
      · exact .inr ⟨by simpa using h1, by simpa using he⟩
theorem rch_eq {s : List Int} {within : Int} {i k : Nat} (hi : i < s.length) (h1 : i ≤ k) (h2 : k ≤ s.length) (h : ∀ j, (hj : j < s.length) → i ≤ j → j < k → s[j] - s[i] ≤ within) (he : k = s.length ∨ ∃ h : k < s.length, ¬ s[k] - s[i] ≤ within) : rch s within i = k := by
  unfold rch
  have hg : s.getD i 0 = s[i] := by rw [List.getD_eq_getElem?_getD, List.getElem?_eq_getElem hi]; rfl
  rw [hg, takeWhile_len (s.drop i) _ (k - i) (by simp; omega) (fun j hj hjk => by
    simp at hj ⊢
    exact h (i + j) (by omega) (by omega) (by omega)) ?_]
  · omega
  · rcases he with he | ⟨h3, he⟩
    · exact .inl (by simp; omega)
    · refine .inr ⟨by simp; omega, ?_⟩
      simp only [List.getElem_drop]
      have : i + (k - i) = k := by omega
      simp only [this]
      simpa using he
theorem rch_le (s : List Int) (within : Int) (i : Nat) (hi : i ≤ s.length) : i ≤ rch s within i ∧ rch s within i ≤ s.length := by
  unfold rch
  have := (List.takeWhile_prefix (fun y => decide (y - s.getD i 0 ≤ within)) (l := s.drop i)).length_le
  rw [List.length_drop] at this
  omega
/-- The first greatest group: where it begins, and how many there are. -/
def bst (s : List Int) (within : Int) : Nat → Nat × Nat
  | 0 => (0, 0)
  | i + 1 => if (bst s within i).2 < rch s within i - i then (i, rch s within i - i) else bst s within i
theorem bst_le (s : List Int) (within : Int) : ∀ i, i ≤ s.length → (bst s within i).1 + (bst s within i).2 ≤ s.length := by
  intro i
  induction i with
  | zero => intro _; simp [bst]
  | succ i ih =>
    intro h
    have := ih (by omega)
    have r := rch_le s within i (by omega)
    rw [bst]
    split
    · simp; omega
    · exact this
theorem bst_new {s : List Int} {within : Int} {i : Nat} (h : (bst s within i).2 < rch s within i - i) : bst s within (i + 1) = (i, rch s within i - i) := by rw [bst, if_pos h]
theorem bst_old {s : List Int} {within : Int} {i : Nat} (h : ¬ (bst s within i).2 < rch s within i - i) : bst s within (i + 1) = bst s within i := by rw [bst, if_neg h]
/-- What is agreed upon, or -1. -/
def agS (s : List Int) (within : Int) : Int := if 2 * (bst s within s.length).2 ≤ s.length then -1 else s.getD ((bst s within s.length).1 + ((bst s within s.length).2 - 1) / 2) 0
theorem agS_no {s : List Int} {within : Int} (h : 2 * (bst s within s.length).2 ≤ s.length) : agS s within = -1 := by rw [agS, if_pos h]
theorem agS_yes {s : List Int} {within : Int} (h : ¬ 2 * (bst s within s.length).2 ≤ s.length) : ∃ hk : (bst s within s.length).1 + ((bst s within s.length).2 - 1) / 2 < s.length, agS s within = s[(bst s within s.length).1 + ((bst s within s.length).2 - 1) / 2] := by
  have b := bst_le s within s.length (Nat.le_refl _)
  have hk : (bst s within s.length).1 + ((bst s within s.length).2 - 1) / 2 < s.length := by omega
  refine ⟨hk, ?_⟩
  rw [agS, if_neg h, List.getD_eq_getElem?_getD, List.getElem?_eq_getElem hk]; rfl
def tmOk (l : List Int) (within : Int) : Prop := (∀ x ∈ l, 0 ≤ x ∧ x ≤ 864000000) ∧ 0 ≤ within ∧ within ≤ 864000000
instance (l : List Int) (within : Int) : Decidable (tmOk l within) := by unfold tmOk; infer_instance
def tmF (l : List Int) (within : Int) : Int := if l.length = 0 then 8 else if 50 < l.length then 2 else if tmOk l within then 0 else 1
theorem tmF_none {l : List Int} {within : Int} (h : l.length = 0) : tmF l within = 8 := by rw [tmF, if_pos h]
theorem tmF_large {l : List Int} {within : Int} (h : 50 < l.length) : tmF l within = 2 := by rw [tmF, if_neg (by omega), if_pos h]
theorem tmF_ok {l : List Int} {within : Int} (h : l.length ≠ 0) (h' : ¬ 50 < l.length) (hk : tmOk l within) : tmF l within = 0 := by rw [tmF, if_neg h, if_neg h', if_pos hk]
theorem tmF_arg {l : List Int} {within : Int} (h : l.length ≠ 0) (h' : ¬ 50 < l.length) (hk : ¬ tmOk l within) : tmF l within = 1 := by rw [tmF, if_neg h, if_neg h', if_neg hk]
/-- What Agreed hands back: the agreed time or -1. -/
def agR (l : List Int) (within : Int) : Int := if tmF l within = 0 then agS (sorted l) within else -1
end Go.Proofs.YtggnccafmadacaaGreatDoor
