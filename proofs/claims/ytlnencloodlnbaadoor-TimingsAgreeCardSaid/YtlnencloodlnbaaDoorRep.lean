/- The walk of slices.Repeat at one element: a row of n equal numbers, by doubling copies. -/
import Derived.Test.YtlnencloodlnbaaDoorStream
import Derived.Laws.CopyOwn
import Derived.StillTailTactics
import Derived.Maps.RangeWalk
import Derived.Shelf.Bits.Mul64
namespace Go.Proofs.YtlnencloodlnbaaDoor
open Go.RowKit

/-- A row whose first k cells are u. -/
theorem splice_rep (u : Value) (n k m : Nat) (z : Value) (_ : k + m ≤ n) : splice (List.replicate k u ++ List.replicate (n - k) z) k (List.replicate m u) = List.replicate (k + m) u ++ List.replicate (n - (k + m)) z := by
  unfold splice
  rw [List.take_left' (by simp), List.length_replicate, List.drop_append, List.drop_replicate, List.drop_replicate, List.length_replicate]
  have e1 : k - (k + m) = 0 := by omega
  have e2 : k + m - k = m := by omega
  have e3 : n - k - m = n - (k + m) := by omega
  rw [e1, e2, e3, List.replicate_zero, List.nil_append, ← List.append_assoc, List.replicate_append_replicate]

theorem own_whole {w : World} {base : Nat} {e : TypeId} {g n : Nat} {xs : List Value} (h : w.ownsRow base e 1 (.slice (some ⟨g, 0, none⟩) n n) n xs) : w.heap[g]? = some (.cells xs.toArray e (0, 0)) := by
  rcases h.2 with ⟨h0, _⟩ | ⟨g', cap, cur, hv, hg, hh, hcap, hm, hcs, ht⟩
  · cases h0
  · injection hv with h1 _ h3
    injection h1 with h1
    injection h1 with h1
    subst h1 h3
    rw [hh]
    rw [List.take_of_length_le (by simp [hcs])] at ht
    subst ht
    simp
theorem own_of_whole {w : World} {base : Nat} {e : TypeId} {g n : Nat} {xs : List Value} (h : w.heap[g]? = some (.cells xs.toArray e (0, 0))) (hx : xs.length = n) (hb : base ≤ g) (hm : n ≤ 9223372036854775807) : w.ownsRow base e 1 (.slice (some ⟨g, 0, none⟩) n n) n xs :=
  ⟨by simp [hx], .inr ⟨g, n, xs.toArray, rfl, hb, h, Nat.le_refl _, by simp only [maxLen]; omega, by simp [hx], by rw [List.take_of_length_le (by simp [hx])]⟩⟩

theorem sz_int : (Tryd.prog.info? 3).map (·.size) = some 1 := by kernel_rfl
def repRow (h : Int) (n k : Nat) : List Value := List.replicate k (Value.int .i64 h) ++ List.replicate (n - k) (Value.int .i64 0)
def reps (h : Int) (m : Nat) : List Value := List.replicate m (Value.int .i64 h)
theorem reps_len (h : Int) (m : Nat) : (reps h m).length = m := by simp [reps]
theorem reps_one (h : Int) (m : Nat) : ∀ v ∈ reps h m, v.oneCell' = true := fun v hv => by rw [List.eq_of_mem_replicate hv]; rfl
theorem repRow_len (h : Int) (n k : Nat) (hk : k ≤ n) : (repRow h n k).length = n := by simp [repRow]; omega
theorem splice_row (h : Int) (n k m : Nat) (hk : k + m ≤ n) : splice (repRow h n k) k (reps h m) = repRow h n (k + m) := splice_rep _ n k m _ hk
theorem repRow_at (h : Int) (n k j : Nat) (v : Value) (m : Nat) (hm : m ≤ k) (hv : (reps h m)[j]? = some v) : (repRow h n k)[j]? = some v := by
  have hj : j < m := by simpa [reps] using (List.getElem?_eq_some_iff.1 hv).1
  have h1 : v = .int .i64 h := by simpa [reps, List.getElem?_replicate, hj] using hv.symm
  subst h1
  simp [repRow, List.getElem?_append, show j < k by omega]
theorem rep_src {w : World} {g : Nat} {e : TypeId} (h : Int) (n k j : Nat) (v : Value) (m : Nat) (hm : m ≤ k) (hr : w.heap[g]? = some (.cells (repRow h n k).toArray e (0, 0))) (hv : (reps h m)[j]? = some v) : w.cell? ((⟨g, 0, none⟩ : Addr).add j) = some v :=
  World.news_of_block hr j v (by simpa using repRow_at h n k j v m hm hv)
theorem repRow_full (h : Int) (n : Nat) : repRow h n n = List.replicate n (Value.int .i64 h) := by simp [repRow]
theorem repRow_none (h : Int) (n : Nat) : repRow h n 0 = List.replicate n (Value.int .i64 0) := by simp [repRow]

end Go.Proofs.YtlnencloodlnbaaDoor
