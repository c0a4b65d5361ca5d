/- The walk of slices.Repeat at one element: a row of n equal numbers, by doubling copies. -/
import Derived.Test.YtnlblgkoecnfmaaDoorStream
import Derived.Laws.CopyOwn
import Derived.StillTailTactics
import Derived.Maps.RangeWalk
import Derived.Shelf.Bits.Mul64
namespace Go.Proofs.YtnlblgkoecnfmaaDoor
set_option linter.unusedVariables false
set_option linter.unusedSimpArgs false
open Go.RowKit

set_option maxHeartbeats 1000000 in
theorem mul64_one (n : Nat) (hn : n ≤ 1000000000) (w : World) :
    Calls Tryd.prog 70 #[.int .u64 1, .int .u64 n] w fun e w' => e = .returned (.tuple #[.int .u64 0, .int .u64 n]) ∧ w = w' := by
  have h1 : bits .and .u64 (n : Int) 4294967295 = (n : Int) := by rw [Go.Proofs.Mul64.maskN n (by omega)]; omega
  have h2 : bits .and .u64 1 4294967295 = 1 := by decide
  have h3 : (n : Int) / 4294967296 = 0 := by omega
  have h4 : bits .and .u64 0 4294967295 = 0 := by decide
  go_enter Tryd.func70, Tryd.ntmps70
  go_wp2
  go_ret2
  exact ⟨rfl, rfl⟩

set_option maxHeartbeats 1000000 in
theorem mul_one' (n : Nat) (hn : n ≤ 1000000000) (w : World) :
    Calls Tryd.prog 41 #[.int .u64 1, .int .u64 n] w fun e w' => e = .returned (.tuple #[.int .u64 0, .int .u64 n]) ∧ w = w' := by
  go_enter Tryd.func41, Tryd.ntmps41
  go_wp2_with fail
  refine (mul64_one n hn _).mono ?_
  rintro e w' ⟨rfl, rfl⟩
  go_wp2_with fail
  go_ret2
  exact ⟨rfl, rfl⟩

/-- A row whose first k cells are u. -/
theorem splice_rep (u : Value) (n k m : Nat) (z : Value) (_ : k + m ≤ n) : splice (List.replicate k u ++ List.replicate (n - k) z) k (List.replicate m u) = List.replicate (k + m) u ++ List.replicate (n - (k + m)) z := by
  unfold splice
  rw [List.take_left' (by simp), List.length_replicate, List.drop_append, List.drop_replicate, List.drop_replicate, List.length_replicate]
  have e1 : k - (k + m) = 0 := by omega
  have e2 : k + m - k = m := by omega
  have e3 : n - k - m = n - (k + m) := by omega
  rw [e1, e2, e3, List.replicate_zero, List.nil_append, ← List.append_assoc, List.replicate_append_replicate]

theorem own_whole {w : World} {base : Nat} {e : TypeId} {g n : Nat} {xs : List Value} (h : w.ownsRow base e 1 (.slice (some ⟨g, 0, none⟩) n n) n xs) : w.heap[g]? = some (.cells xs.toArray e (0, 0)) := by
  rcases h.2 with ⟨h0, _⟩ | ⟨g', cap, cur, hv, hg, hh, hcap, hm, hcs, ht⟩
  · cases h0
  · injection hv with h1 _ h3
    injection h1 with h1
    injection h1 with h1
    subst h1 h3
    rw [hh]
    rw [List.take_of_length_le (by simp [hcs])] at ht
    subst ht
    simp
theorem own_of_whole {w : World} {base : Nat} {e : TypeId} {g n : Nat} {xs : List Value} (h : w.heap[g]? = some (.cells xs.toArray e (0, 0))) (hx : xs.length = n) (hb : base ≤ g) (hm : n ≤ 9223372036854775807) : w.ownsRow base e 1 (.slice (some ⟨g, 0, none⟩) n n) n xs :=
  ⟨by simp [hx], .inr ⟨g, n, xs.toArray, rfl, hb, h, Nat.le_refl _, by simp only [maxLen]; omega, by simp [hx], by rw [List.take_of_length_le (by simp [hx])]⟩⟩

theorem sz_int : (Tryd.prog.info? 3).map (·.size) = some 1 := by kernel_rfl
def repRow (h : Int) (n k : Nat) : List Value := List.replicate k (Value.int .i64 h) ++ List.replicate (n - k) (Value.int .i64 0)
def reps (h : Int) (m : Nat) : List Value := List.replicate m (Value.int .i64 h)
theorem reps_len (h : Int) (m : Nat) : (reps h m).length = m := by simp [reps]
theorem reps_one (h : Int) (m : Nat) : ∀ v ∈ reps h m, v.oneCell' = true := fun v hv => by rw [List.eq_of_mem_replicate hv]; rfl
theorem repRow_len (h : Int) (n k : Nat) (hk : k ≤ n) : (repRow h n k).length = n := by simp [repRow]; omega
theorem splice_row (h : Int) (n k m : Nat) (hk : k + m ≤ n) : splice (repRow h n k) k (reps h m) = repRow h n (k + m) := splice_rep _ n k m _ hk
theorem repRow_at (h : Int) (n k j : Nat) (v : Value) (m : Nat) (hm : m ≤ k) (hv : (reps h m)[j]? = some v) : (repRow h n k)[j]? = some v := by
  have hj : j < m := by simpa [reps] using (List.getElem?_eq_some_iff.1 hv).1
  have h1 : v = .int .i64 h := by simpa [reps, List.getElem?_replicate, hj] using hv.symm
  subst h1
  simp [repRow, List.getElem?_append, show j < k by omega]
theorem rep_src {w : World} {g : Nat} {e : TypeId} (h : Int) (n k j : Nat) (v : Value) (m : Nat) (hm : m ≤ k) (hr : w.heap[g]? = some (.cells (repRow h n k).toArray e (0, 0))) (hv : (reps h m)[j]? = some v) : w.cell? ((⟨g, 0, none⟩ : Addr).add j) = some v :=
  World.news_of_block hr j v (by simpa using repRow_at h n k j v m hm hv)
theorem repRow_full (h : Int) (n : Nat) : repRow h n n = List.replicate n (Value.int .i64 h) := by simp [repRow]
theorem repRow_none (h : Int) (n : Nat) : repRow h n 0 = List.replicate n (Value.int .i64 0) := by simp [repRow]

set_option maxRecDepth 100000 in
set_option maxHeartbeats 400000 in
theorem repeat_any (A : Option Addr) (c lo : Nat) (h : Int) (n : Nat) (w : World) (hr : Row w lo 1 A 1 [.int .i64 h]) (hn : n ≤ 1000000000) :
    Calls Tryd.prog 39 #[.slice A 1 c, .int .i64 n] w fun e w' => ∃ A' c', e = .returned (.slice A' n c') ∧ w'.ownsRow w.heap.size 3 1 (.slice A' n c') n (List.replicate n (.int .i64 h)) ∧ Below w.heap.size w w' := by
  obtain ⟨und, ⟨i0, z0, hi0, hz0, hz1, hz2, hz3⟩, _⟩ := ty_ints
  have hz0' : z0 = .int .i64 0 := by
    have : (Tryd.prog.info? 3).map (fun i => i.zero) = some (some (.int .i64 0)) := by kernel_rfl
    rw [hi0] at this
    simp [hz0] at this
    exact this
  subst hz0'
  have hd0 : decide ((n : Int) < 0) = false := by simp
  have hd1 : decide ((9223372036854775807 : Int) < (n : Int)) = false := by simp; omega
  go_enter Tryd.func39, Tryd.ntmps39
  go_wp2_with fail
  refine (mul_one' n hn _).mono ?_
  rintro e w' ⟨rfl, rfl⟩
  go_wp2_with (first | (at_make; go_must (refine wpList_make_full _ rfl _ _ 22 rfl w.heap.size 3 i0 _ 1 und hi0 hz0 hz1 .i64 .i64 _ _ n rfl rfl rfl rfl (by rw [hz2]; omega) (by simp only [maxLen]; omega) (Nat.le_refl _) ?_)))
  intro w1 hown1 hg1
  rw [toList_madeCells_one] at hown1
  rw [← repRow_none h n] at hown1
  have HR0 := Lib.hid (own_whole hown1)
  have hb1 : Below w.heap.size w w1 := below_of_grown hg1 (Nat.le_refl _) (fun k hk => by cases hk)
  have hr1 := hr.below hb1
  have hl0 := repRow_len h n 0 (by omega)
  clear hown1
  go_wp2_with (refine wpList_copy_splice rfl (.tmp 31) (.tmp 32) 22 22 rfl 3 und sz_int _ _ _ _ _ _ rfl rfl w.heap.size 0 (repRow h n 0) 3 HR0.out (reps h (min 1 n)) (by rw [reps_len]) ?_ (by rw [reps_len]; omega) (reps_one _ _) w.heap.size w hb1 (Nat.le_refl _) ?_)
  · intro _
    obtain ⟨b, off, rfl, _, hbs, hc⟩ := hr1.2 (by omega)
    refine ⟨⟨b, off, none⟩, rfl, fun j v hv => ?_⟩
    have hj : j < min 1 n := by simpa [reps] using (List.getElem?_eq_some_iff.1 hv).1
    have hj0 : j = 0 := by omega
    subst hj0
    have : v = .int .i64 h := by simpa [reps, List.getElem?_replicate, hj] using hv.symm
    rw [this]
    exact hc 0 _ rfl
  · intro w2 HR1 hb2
    have HR2 : Hid (w2.heap[w.heap.size]? = some (.cells (repRow h n (min 1 n)).toArray 3 (0, 0))) := by
      have h1 := HR1.out
      rw [splice_row h n 0 (min 1 n) (by omega), Nat.zero_add] at h1
      exact Lib.hid h1
    have HL : Hid ((reps h (min 1 n)).length = min 1 n) := Lib.hid (reps_len _ _)
    clear HR1 HR0 hl0
    go_wp2_with fail
    go_loopw [8] (fun i wr => ∃ k : Nat, k ≤ n ∧ (n ≤ k ∨ 0 < k) ∧ i = .int .i64 k ∧ Hid (wr.heap[w.heap.size]? = some (.cells (repRow h n k).toArray 3 (0, 0))) ∧ Below w.heap.size w wr) (fun i _ => n - (intOf i).toNat)
    case atStart => exact ⟨min 1 n, by omega, by omega, by first | (rw [HL.out]; done) | rfl, HR2, hb2⟩
    case round =>
      obtain ⟨k, hk, hk0, rfl, HR, hbw⟩ := hrel
      by_cases hlt : k < n
      · have hk1 : 0 < k := by omega
        clear hk0
        have hl1 := repRow_len h n k hk
        have HL1 := Lib.hid hl1
        clear hl1
        have hnk : ¬ n = k := by omega
        have hw1 : IntKind.i64.wrap ((k : Int) + ((reps h (min k (n - k))).length : Int)) = (k : Int) + ((reps h (min k (n - k))).length : Int) := by rw [reps_len]; exact IntWalk.i64_in _ ⟨by omega, by omega⟩
        go_wp2_with fail
        go_region_law (refine step_copy_splice rfl (.tmp 41) (.tmp 44) 22 22 rfl 3 und sz_int (some ⟨w.heap.size, k, none⟩) (some ⟨w.heap.size, 0, none⟩) (n - k) (n - k) k n (by simp [Act.eval, Act.put, hnk]) (by simp [Act.eval, Act.put]) w.heap.size k (repRow h n k) 3 HR.out (reps h (min k (n - k))) (by rw [reps_len]) (fun _ => ⟨rfl, _, rfl, fun j v hv => rep_src h n k j v (min k (n - k)) (by omega) HR.out hv⟩) (by rw [reps_len, HL1.out]; omega) (reps_one _ _) w.heap.size w hbw.drew (Nat.le_refl _) ?_; intro w3 HR3 hb3)
        have HR4 : Hid (w3.heap[w.heap.size]? = some (.cells (repRow h n (k + min k (n - k))).toArray 3 (0, 0))) := by
          have h1 := HR3.out
          rw [splice_row h n k (min k (n - k)) (by omega)] at h1
          exact Lib.hid h1
        clear HR3
        go_wp2_with fail
        go_frame
        clear hw1
        go_roundw
        case rel =>
          refine ⟨_, _, _, _, _, _, _, _, _, _, _, _, _, _, ?_, rfl⟩
          exact ⟨k + min k (n - k), by omega, by omega, by simp [reps_len], HR4, hb3⟩
        case measure => simp [intOf, reps_len]; omega
      · have hkn : k = n := by omega
        subst hkn
        go_wp2_with fail
        go_ret
        refine ⟨_, _, rfl, ?_, hbw⟩
        rw [← repRow_full]
        exact own_of_whole HR.out (repRow_len _ _ _ (Nat.le_refl _)) (Nat.le_refl _) (by omega)
end Go.Proofs.YtnlblgkoecnfmaaDoor
