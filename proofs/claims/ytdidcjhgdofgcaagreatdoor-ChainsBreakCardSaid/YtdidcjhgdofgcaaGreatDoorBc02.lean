/- Texts of this seat, laid together: Rep InpB InpC InpD Blk InpE InpF InpG. -/
import Derived.Laws.CopyOwn
import Derived.StillTailTactics
import Derived.Maps.RangeWalk
import Derived.Shelf.Bits.Mul64
import Derived.Test.YtdidcjhgdofgcaaGreatDoorBc01
import Derived.Test.YtdidcjhgdofgcaaGreatDoorBc00
/- The walk of slices.Repeat at one element: a row of n equal numbers, by doubling copies. -/
namespace Go.Proofs.YtdidcjhgdofgcaaGreatDoor
set_option linter.unusedVariables false
set_option linter.unusedSimpArgs false
open Go.RowKit

set_option maxHeartbeats 1000000 in
theorem mul64_one (n : Nat) (hn : n ≤ 1000000000) (w : World) :
    Calls Tryz.prog 147 #[.int .u64 1, .int .u64 n] w fun e w' => e = .returned (.tuple #[.int .u64 0, .int .u64 n]) ∧ w = w' := by
  have h1 : bits .and .u64 (n : Int) 4294967295 = (n : Int) := by rw [Go.Proofs.Mul64.maskN n (by omega)]; omega
  have h2 : bits .and .u64 1 4294967295 = 1 := by decide
  have h3 : (n : Int) / 4294967296 = 0 := by omega
  have h4 : bits .and .u64 0 4294967295 = 0 := by decide
  go_enter Tryz.func147, Tryz.ntmps147
  go_wp2
  go_ret2
  exact ⟨rfl, rfl⟩

set_option maxHeartbeats 1000000 in
theorem mul_one' (n : Nat) (hn : n ≤ 1000000000) (w : World) :
    Calls Tryz.prog 109 #[.int .u64 1, .int .u64 n] w fun e w' => e = .returned (.tuple #[.int .u64 0, .int .u64 n]) ∧ w = w' := by
  go_enter Tryz.func109, Tryz.ntmps109
  go_wp2_with fail
  refine (mul64_one n hn _).mono ?_
  rintro e w' ⟨rfl, rfl⟩
  go_wp2_with fail
  go_ret2
  exact ⟨rfl, rfl⟩

/-- A row whose first k cells are u. -/
theorem splice_rep (u : Value) (n k m : Nat) (z : Value) (_ : k + m ≤ n) : splice (List.replicate k u ++ List.replicate (n - k) z) k (List.replicate m u) = List.replicate (k + m) u ++ List.replicate (n - (k + m)) z := by
  unfold splice
  rw [List.take_left' (by simp), List.length_replicate, List.drop_append, List.drop_replicate, List.drop_replicate, List.length_replicate]
  have e1 : k - (k + m) = 0 := by omega
  have e2 : k + m - k = m := by omega
  have e3 : n - k - m = n - (k + m) := by omega
  rw [e1, e2, e3, List.replicate_zero, List.nil_append, ← List.append_assoc, List.replicate_append_replicate]

theorem own_whole {w : World} {base : Nat} {e : TypeId} {g n : Nat} {xs : List Value} (h : w.ownsRow base e 1 (.slice (some ⟨g, 0, none⟩) n n) n xs) : w.heap[g]? = some (.cells xs.toArray e (0, 0)) := by
  rcases h.2 with ⟨h0, _⟩ | ⟨g', cap, cur, hv, hg, hh, hcap, hm, hcs, ht⟩
  · cases h0
  · injection hv with h1 _ h3
    injection h1 with h1
    injection h1 with h1
    subst h1 h3
    rw [hh]
    rw [List.take_of_length_le (by simp [hcs])] at ht
    subst ht
    simp
theorem own_of_whole {w : World} {base : Nat} {e : TypeId} {g n : Nat} {xs : List Value} (h : w.heap[g]? = some (.cells xs.toArray e (0, 0))) (hx : xs.length = n) (hb : base ≤ g) (hm : n ≤ 9223372036854775807) : w.ownsRow base e 1 (.slice (some ⟨g, 0, none⟩) n n) n xs :=
  ⟨by simp [hx], .inr ⟨g, n, xs.toArray, rfl, hb, h, Nat.le_refl _, by simp only [maxLen]; omega, by simp [hx], by rw [List.take_of_length_le (by simp [hx])]⟩⟩

theorem sz_int : (Tryz.prog.info? 3).map (·.size) = some 1 := by kernel_rfl
def repRow (h : Int) (n k : Nat) : List Value := List.replicate k (Value.int .i64 h) ++ List.replicate (n - k) (Value.int .i64 0)
def reps (h : Int) (m : Nat) : List Value := List.replicate m (Value.int .i64 h)
theorem reps_len (h : Int) (m : Nat) : (reps h m).length = m := by simp [reps]
theorem reps_one (h : Int) (m : Nat) : ∀ v ∈ reps h m, v.oneCell' = true := fun v hv => by rw [List.eq_of_mem_replicate hv]; rfl
theorem repRow_len (h : Int) (n k : Nat) (hk : k ≤ n) : (repRow h n k).length = n := by simp [repRow]; omega
theorem splice_row (h : Int) (n k m : Nat) (hk : k + m ≤ n) : splice (repRow h n k) k (reps h m) = repRow h n (k + m) := splice_rep _ n k m _ hk
theorem repRow_at (h : Int) (n k j : Nat) (v : Value) (m : Nat) (hm : m ≤ k) (hv : (reps h m)[j]? = some v) : (repRow h n k)[j]? = some v := by
  have hj : j < m := by simpa [reps] using (List.getElem?_eq_some_iff.1 hv).1
  have h1 : v = .int .i64 h := by simpa [reps, List.getElem?_replicate, hj] using hv.symm
  subst h1
  simp [repRow, List.getElem?_append, show j < k by omega]
theorem rep_src {w : World} {g : Nat} {e : TypeId} (h : Int) (n k j : Nat) (v : Value) (m : Nat) (hm : m ≤ k) (hr : w.heap[g]? = some (.cells (repRow h n k).toArray e (0, 0))) (hv : (reps h m)[j]? = some v) : w.cell? ((⟨g, 0, none⟩ : Addr).add j) = some v :=
  World.news_of_block hr j v (by simpa using repRow_at h n k j v m hm hv)
theorem repRow_full (h : Int) (n : Nat) : repRow h n n = List.replicate n (Value.int .i64 h) := by simp [repRow]
theorem repRow_none (h : Int) (n : Nat) : repRow h n 0 = List.replicate n (Value.int .i64 0) := by simp [repRow]

set_option maxRecDepth 100000 in
set_option maxHeartbeats 400000 in
theorem repeat_any (A : Option Addr) (c lo : Nat) (h : Int) (n : Nat) (w : World) (hr : Row w lo 1 A 1 [.int .i64 h]) (hn : n ≤ 1000000000) :
    Calls Tryz.prog 77 #[.slice A 1 c, .int .i64 n] w fun e w' => ∃ A' c', e = .returned (.slice A' n c') ∧ w'.ownsRow w.heap.size 3 1 (.slice A' n c') n (List.replicate n (.int .i64 h)) ∧ Below w.heap.size w w' := by
  obtain ⟨und, ⟨i0, z0, hi0, hz0, hz1, hz2, hz3⟩, _⟩ := ty_ints
  have hz0' : z0 = .int .i64 0 := by
    have : (Tryz.prog.info? 3).map (fun i => i.zero) = some (some (.int .i64 0)) := by kernel_rfl
    rw [hi0] at this
    simp [hz0] at this
    exact this
  subst hz0'
  have hd0 : decide ((n : Int) < 0) = false := by simp
  have hd1 : decide ((9223372036854775807 : Int) < (n : Int)) = false := by simp; omega
  go_enter Tryz.func77, Tryz.ntmps77
  go_wp2_with fail
  refine (mul_one' n hn _).mono ?_
  rintro e w' ⟨rfl, rfl⟩
  go_wp2_with (first | (at_make; go_must (refine wpList_make_full _ rfl _ _ 22 rfl w.heap.size 3 i0 _ 1 und hi0 hz0 hz1 .i64 .i64 _ _ n rfl rfl rfl rfl (by rw [hz2]; omega) (by simp only [maxLen]; omega) (Nat.le_refl _) ?_)))
  intro w1 hown1 hg1
  rw [toList_madeCells_one] at hown1
  rw [← repRow_none h n] at hown1
  have HR0 := Lib.hid (own_whole hown1)
  have hb1 : Below w.heap.size w w1 := below_of_grown hg1 (Nat.le_refl _) (fun k hk => by cases hk)
  have hr1 := hr.below hb1
  have hl0 := repRow_len h n 0 (by omega)
  clear hown1
  go_wp2_with (refine wpList_copy_splice rfl (.tmp 31) (.tmp 32) 22 22 rfl 3 und sz_int _ _ _ _ _ _ rfl rfl w.heap.size 0 (repRow h n 0) 3 HR0.out (reps h (min 1 n)) (by rw [reps_len]) ?_ (by rw [reps_len]; omega) (reps_one _ _) w.heap.size w hb1 (Nat.le_refl _) ?_)
  · intro _
    obtain ⟨b, off, rfl, _, hbs, hc⟩ := hr1.2 (by omega)
    refine ⟨⟨b, off, none⟩, rfl, fun j v hv => ?_⟩
    have hj : j < min 1 n := by simpa [reps] using (List.getElem?_eq_some_iff.1 hv).1
    have hj0 : j = 0 := by omega
    subst hj0
    have : v = .int .i64 h := by simpa [reps, List.getElem?_replicate, hj] using hv.symm
    rw [this]
    exact hc 0 _ rfl
  · intro w2 HR1 hb2
    have HR2 : Hid (w2.heap[w.heap.size]? = some (.cells (repRow h n (min 1 n)).toArray 3 (0, 0))) := by
      have h1 := HR1.out
      rw [splice_row h n 0 (min 1 n) (by omega), Nat.zero_add] at h1
      exact Lib.hid h1
    have HL : Hid ((reps h (min 1 n)).length = min 1 n) := Lib.hid (reps_len _ _)
    clear HR1 HR0 hl0
    go_wp2_with fail
    go_loopw [8] (fun i wr => ∃ k : Nat, k ≤ n ∧ (n ≤ k ∨ 0 < k) ∧ i = .int .i64 k ∧ Hid (wr.heap[w.heap.size]? = some (.cells (repRow h n k).toArray 3 (0, 0))) ∧ Below w.heap.size w wr) (fun i _ => n - (intOf i).toNat)
    case atStart => exact ⟨min 1 n, by omega, by omega, by first | (rw [HL.out]; done) | rfl, HR2, hb2⟩
    case round =>
      obtain ⟨k, hk, hk0, rfl, HR, hbw⟩ := hrel
      by_cases hlt : k < n
      · have hk1 : 0 < k := by omega
        clear hk0
        have hl1 := repRow_len h n k hk
        have HL1 := Lib.hid hl1
        clear hl1
        have hnk : ¬ n = k := by omega
        have hw1 : IntKind.i64.wrap ((k : Int) + ((reps h (min k (n - k))).length : Int)) = (k : Int) + ((reps h (min k (n - k))).length : Int) := by rw [reps_len]; exact IntWalk.i64_in _ ⟨by omega, by omega⟩
        go_wp2_with fail
        go_region_law (refine step_copy_splice rfl (.tmp 41) (.tmp 44) 22 22 rfl 3 und sz_int (some ⟨w.heap.size, k, none⟩) (some ⟨w.heap.size, 0, none⟩) (n - k) (n - k) k n (by simp [Act.eval, Act.put, hnk]) (by simp [Act.eval, Act.put]) w.heap.size k (repRow h n k) 3 HR.out (reps h (min k (n - k))) (by rw [reps_len]) (fun _ => ⟨rfl, _, rfl, fun j v hv => rep_src h n k j v (min k (n - k)) (by omega) HR.out hv⟩) (by rw [reps_len, HL1.out]; omega) (reps_one _ _) w.heap.size w hbw.drew (Nat.le_refl _) ?_; intro w3 HR3 hb3)
        have HR4 : Hid (w3.heap[w.heap.size]? = some (.cells (repRow h n (k + min k (n - k))).toArray 3 (0, 0))) := by
          have h1 := HR3.out
          rw [splice_row h n k (min k (n - k)) (by omega)] at h1
          exact Lib.hid h1
        clear HR3
        go_wp2_with fail
        go_frame
        clear hw1
        go_roundw
        case rel =>
          refine ⟨_, _, _, _, _, _, _, _, _, _, _, _, _, _, ?_, rfl⟩
          exact ⟨k + min k (n - k), by omega, by omega, by simp [reps_len], HR4, hb3⟩
        case measure => simp [intOf, reps_len]; omega
      · have hkn : k = n := by omega
        subst hkn
        go_wp2_with fail
        go_ret
        refine ⟨_, _, rfl, ?_, hbw⟩
        rw [← repRow_full]
        exact own_of_whole HR.out (repRow_len _ _ _ (Nat.le_refl _)) (Nat.le_refl _) (by omega)
end Go.Proofs.YtdidcjhgdofgcaaGreatDoor
/- The walks of what folds and unfolds an input: frames, pieces, what is held in a frame. -/
namespace Go.Proofs.YtdidcjhgdofgcaaGreatDoor
set_option linter.unusedVariables false
set_option linter.unusedSimpArgs false
open Go.RowKit

theorem ints_rep (n : Nat) (h : Int) : List.replicate n (Value.int .i64 h) = ints (List.replicate n h) := by simp [ints]

set_option maxHeartbeats 1000000 in
theorem unfolded_any (A : Option Addr) (c lo : Nat) (ps : List (Int × Int)) (w : World) (hr : Row w lo 2 A ps.length (prs ps)) (hl : ps.length ≤ 1000000000) (hb : ∀ p ∈ ps, 0 ≤ p.2) (hs : psum ps ≤ 1000000000) :
    Calls Tryz.prog 42 #[.slice A ps.length c] w fun e w' => ∃ A' c', e = .returned (.slice A' (unf ps).length c') ∧ w'.ownsRow w.heap.size 3 1 (.slice A' (unf ps).length c') (unf ps).length (ints (unf ps)) ∧ Below w.heap.size w w' := by
  go_enter Tryz.func42, Tryz.ntmps42
  go_wp2_with fail
  go_loopw [3, 8] (fun v i wr => ∃ (k : Nat) (A' : Option Addr) (c' : Nat), k ≤ ps.length ∧ i = .int .i64 k ∧ v = .slice A' (unf (ps.take k)).length c' ∧ wr.ownsRow w.heap.size 3 1 (.slice A' (unf (ps.take k)).length c') (unf (ps.take k)).length (ints (unf (ps.take k))) ∧ Below w.heap.size w wr) (fun _ i _ => ps.length - (intOf i).toNat)
  case atStart => exact ⟨0, none, 0, Nat.zero_le _, rfl, rfl, World.ownsRow_nil _ _ _ _, Below.refl _ _⟩
  case round =>
    obtain ⟨k, A', c', hk, rfl, rfl, hown, hbw⟩ := hrel
    by_cases hlt : k < ps.length
    · obtain ⟨b, off, rfl, _, hbs, c0, c1⟩ := (hr.below hbw).pr_at hlt
      have HT := Lib.hid (unf_take ps k hlt)
      have hb0 := hb ps[k] (List.getElem_mem _)
      obtain ⟨n, hn⟩ := Int.eq_ofNat_of_zero_le hb0
      have hu := unf_len (ps.take k) (fun p hp => hb p (List.mem_of_mem_take hp))
      have hps2 := psum_take_le ps (k + 1) hb
      have hps := psum_take_le ps k hb
      rw [psum_take ps k hlt, hn] at hps2
      rw [hn] at c1
      rw [← hu] at hps hps2
      clear hu
      have HT2 : Hid (unf (ps.take (k + 1)) = unf (ps.take k) ++ List.replicate n ps[k].1) := Lib.hid (by rw [HT.out, hn]; rfl)
      clear HT hn hb0
      generalize unf (ps.take k) = o at *
      generalize ps[k].1 = x at *
      have hz := hbw.size
      go_wp2_with fail
      refine (repeat_any _ _ w.heap.size x n _ (by first | exact row_new' _ (by first | rfl | simp) (by first | omega | (simp; omega)) rfl | exact row_newN _ _ (by first | rfl | simp) (by first | omega | (simp; omega)) rfl | exact row_newD _ (by first | rfl | simp) (by first | omega | (simp; omega)) rfl) (by omega)).mono ?_
      rintro e w2 ⟨A2, c2, rfl, hown2, hb2⟩
      have hbw2 : Below w.heap.size w w2 := Below.trans (by repeat (first | exact hbw | refine Below.alloc ?_ (by first | omega | (simp; omega)) _ | refine below_drewN' ?_ _ | refine Below.drew ?_)) (hb2.mono (by simp; omega))
      have hown3 : w2.ownsRow w.heap.size 3 1 (.slice A' o.length c') o.length (ints o) := own_keep (by repeat (first | exact hown | refine World.ownsRow.alloc ?_ _ | refine own_drewN ?_ _ | refine World.ownsRow.drew ?_)) hb2
      have hrow := Row.of_own hown2
      have hz2 := hbw2.size
      go_wp2_with (at_builtin; go_must (refine wpList_app _ _ rfl _ _ ty_ints rfl hown3 rfl hrow rfl (by rw [ints_rep]; exact ints_all _) (by omega) (by omega) hz2 ?_))
      intro A5 c5 w5 hown5 hg5 _
      go_wp2_with fail
      go_roundw
      case rel => exact ⟨k + 1, A5, c5, by omega, by go_num, by rw [HT2.out]; simp, by rw [HT2.out, ints_app, ← ints_rep, List.length_append, List.length_replicate]; exact hown5, below_app hown3 hbw2 hg5 (Nat.le_refl _) hz2⟩
      case measure => simp [intOf]; omega
    · have ht : ps.take k = ps := List.take_of_length_le (by omega)
      rw [ht] at hown
      rw [ht]
      clear ht
      go_wp2_with fail
      go_ret
      exact ⟨A', c', rfl, hown, hbw⟩

/-- The last piece of what is folded holds what the last frame holds. -/
theorem fadd_last (out : List (Int × Int)) (h n : Int) (hn : n ≠ 0) : (fadd out h n).getLast?.map (·.1) = some h := by
  unfold fadd
  simp only [hn, if_false]
  cases hl : out.getLast? with
  | none => simp
  | some q => by_cases hq : q.1 = h <;> simp [hq]
theorem foldM_last (l : List Int) (k : Nat) (hk : k < l.length) : (foldM (l.take (k + 1))).getLast?.map (·.1) = some l[k] := by
  rw [foldM_take l k hk]; exact fadd_last _ _ _ (by omega)
theorem last_at {o : List (Int × Int)} {h : Int} (hl : o.getLast?.map (·.1) = some h) : ∃ hj : o.length - 1 < o.length, (o[o.length - 1]'hj).1 = h := by
  cases ho : o.getLast? with
  | none => rw [ho] at hl; cases hl
  | some q =>
    rw [ho] at hl
    simp at hl
    have hne : o ≠ [] := by intro h0; simp [h0] at ho
    have hj : o.length - 1 < o.length := by have := List.length_pos_iff.2 hne; omega
    refine ⟨hj, ?_⟩
    rw [List.getLast?_eq_getElem?, List.getElem?_eq_getElem hj] at ho
    injection ho with ho
    rw [ho, hl]
theorem foldM_pos (l : List Int) : ∀ p ∈ foldM l, 0 ≤ p.2 := by
  suffices H : ∀ out : List (Int × Int), (∀ p ∈ out, 0 ≤ p.2) → ∀ p ∈ l.foldl (fun o h => fadd o h 1) out, 0 ≤ p.2 from H [] (by simp)
  induction l with
  | nil => intro out ho; simpa using ho
  | cons p ps ih =>
    intro out ho
    rw [List.foldl_cons]
    exact ih _ (fadd_mem (by omega) ho)
theorem foldM_psum (l : List Int) : psum (foldM l) = l.length := by
  suffices H : ∀ out : List (Int × Int), psum (l.foldl (fun o h => fadd o h 1) out) = psum out + l.length from by have := H []; rw [psum_nil, Int.zero_add] at this; exact this
  induction l with
  | nil => intro out; simp
  | cons p ps ih =>
    intro out
    rw [List.foldl_cons, ih, fadd_psum]
    simp
    omega

set_option maxHeartbeats 1000000 in
theorem folded_any (A : Option Addr) (c lo : Nat) (l : List Int) (w : World) (hr : Row w lo 1 A l.length (ints l)) (hl : l.length ≤ 1000000000) :
    Calls Tryz.prog 52 #[.slice A l.length c] w fun e w' => ∃ A' c', e = .returned (.slice A' (foldM l).length c') ∧ w'.ownsRow w.heap.size 51 2 (.slice A' (foldM l).length c') (foldM l).length (prs (foldM l)) ∧ Below w.heap.size w w' := by
  go_enter Tryz.func52, Tryz.ntmps52
  go_wp2_with fail
  go_loopw [3, 8] (fun v i wr => ∃ (k : Nat) (A' : Option Addr) (c' : Nat), k ≤ l.length ∧ i = .int .i64 k ∧ v = .slice A' (foldM (l.take k)).length c' ∧ wr.ownsRow w.heap.size 51 2 (.slice A' (foldM (l.take k)).length c') (foldM (l.take k)).length (prs (foldM (l.take k))) ∧ Below w.heap.size w wr) (fun _ i _ => l.length - (intOf i).toNat)
  case atStart => exact ⟨0, none, 0, Nat.zero_le _, rfl, rfl, World.ownsRow_nil _ _ _ _, Below.refl _ _⟩
  case round =>
    obtain ⟨k, A', c', hk, rfl, rfl, hown, hbw⟩ := hrel
    by_cases hlt : k < l.length
    · obtain ⟨b, off, rfl, _, hbs, c0⟩ := (hr.below hbw).int_at hlt
      have HT := Lib.hid (foldM_take l k hlt)
      have hlen := foldM_len (l.take k)
      have hlen2 := List.length_take_le k l
      have hmem := foldM_pos (l.take k)
      have hsum := foldM_psum (l.take k)
      have hz := hbw.size
      by_cases hk0 : k = 0
      · have HE : Hid (foldM (l.take (k + 1)) = [(l[k], 1)]) := Lib.hid (by rw [HT.out, show foldM (l.take k) = [] by rw [hk0]; rfl]; rfl)
        have e0 : foldM (l.take k) = [] := by rw [hk0]; rfl
        rw [e0] at hown
        rw [e0]
        have d0 : decide ((0 : Int) < (k : Int)) = false := by simp; omega
        have d1 : (k : Int) ≤ 0 := by omega
        clear hmem hsum hlen hlen2 HT e0 hk0
        go_wp2_with (at_builtin; go_must (refine wpList_app (lo := w.heap.size) (base := w.heap.size) (n := 0) (xs := []) _ _ rfl _ _ ty_prs rfl (by repeat (first | exact hown | refine World.ownsRow.alloc ?_ _ | refine own_drewN ?_ _ | refine World.ownsRow.drew ?_)) rfl (by first | exact row_new' _ (by first | rfl | simp) (by first | omega | (simp; omega)) rfl | exact row_newN _ _ (by first | rfl | simp) (by first | omega | (simp; omega)) rfl | exact row_newD _ (by first | rfl | simp) (by first | omega | (simp; omega)) rfl) rfl rfl (by first | omega | decide) (by first | omega | decide) (by first | omega | (simp; omega)) ?_))
        intro A5 c5 w5 hown5 hg5 _
        go_wp2_with fail
        go_roundw
        case rel => exact ⟨k + 1, A5, c5, by omega, by go_num, by rw [HE.out]; rfl, by rw [HE.out]; exact hown5, below_app hown (by repeat (first | exact hbw | refine Below.alloc ?_ (by first | omega | (simp; omega)) _ | refine below_drewN' ?_ _ | refine Below.drew ?_)) hg5 (Nat.le_refl _) (by simp; omega)⟩
        case measure => simp [intOf]; omega
      · obtain ⟨b', off', e', _, _, c1⟩ := (hr.below hbw).int_at (k := k - 1) (by omega)
        have e1 : b' = b ∧ off' = off := by injection e' with e'; injection e' with h1 h2; exact ⟨h1.symm, h2.symm⟩
        obtain ⟨rfl, rfl⟩ := e1
        clear e'
        have hlast := foldM_last l (k - 1) (by omega)
        rw [show k - 1 + 1 = k by omega] at hlast
        generalize foldM (l.take k) = o at *
        obtain ⟨hj, hl1⟩ := last_at hlast
        clear hlast
        have d0 : decide ((0 : Int) < (k : Int)) = true := by simp; omega
        have d1 : (0 : Int) < (k : Int) := by omega
        obtain ⟨g, rfl, hg, hg', hcb, hfb⟩ := ownBlk hown (by omega)
        obtain ⟨e1, e2⟩ := prs_at o _ hj
        have q1 := hcb _ _ e1
        have q2 := hcb _ _ e2
        have f2 := hfb ((o.length - 1) * 2 + 1)
        clear hcb hfb e1 e2
        by_cases he : l[k] = l[k - 1]
        · have HE : Hid (foldM (l.take (k + 1)) = o.set (o.length - 1) ((o[o.length - 1]'hj).1, (o[o.length - 1]'hj).2 + 1)) := Lib.hid (by rw [HT.out, fadd_bump o _ _ (by omega) (o.length - 1) (by omega) (by rw [hl1, he])])
          have he' : (l[k] == l[k - 1]) = true := by simpa using he
          have b1 := hmem _ (List.getElem_mem hj)
          have b2 := mem_le_psum o hmem _ (List.getElem_mem hj)
          have b3 : (o[o.length - 1]'hj).2 ≤ 1000000000 := by omega
          clear he hl1 hsum hmem b2
          go_wp2_with fail
          go_roundw
          case rel => exact ⟨k + 1, some ⟨g, 0, none⟩, c', by omega, by go_num, by rw [HE.out]; simp, by rw [HE.out, List.length_set]; exact own_prs_set (ps := o) (c := c') (by repeat (first | exact hown | refine World.ownsRow.alloc ?_ _ | refine own_drewN ?_ _ | refine World.ownsRow.drew ?_)) _ hj _, Below.setCell (by repeat (first | exact hbw | refine Below.alloc ?_ (by first | omega | (simp; omega)) _ | refine below_drewN' ?_ _ | refine Below.drew ?_)) (by simpa using hg) _⟩
          case measure => simp [intOf]; omega
        · have HE : Hid (foldM (l.take (k + 1)) = o ++ [(l[k], 1)]) := Lib.hid (by rw [HT.out, fadd_push o _ _ (by omega) (o.length - 1) (by omega) (by rw [hl1]; exact fun h => he h.symm)])
          have he' : (l[k] == l[k - 1]) = false := by simpa using he
          clear he hl1 hsum hmem
          go_wp2_with (at_builtin; go_must (refine wpList_app (lo := w.heap.size) (base := w.heap.size) (n := o.length) (xs := prs o) _ _ rfl _ _ ty_prs rfl (by repeat (first | exact hown | refine World.ownsRow.alloc ?_ _ | refine own_drewN ?_ _ | refine World.ownsRow.drew ?_)) rfl (by first | exact row_new' _ (by first | rfl | simp) (by first | omega | (simp; omega)) rfl | exact row_newN _ _ (by first | rfl | simp) (by first | omega | (simp; omega)) rfl | exact row_newD _ (by first | rfl | simp) (by first | omega | (simp; omega)) rfl) rfl rfl (by first | omega | decide) (by first | omega | decide) (by first | omega | (simp; omega)) ?_))
          intro A5 c5 w5 hown5 hg5 _
          go_wp2_with fail
          go_roundw
          case rel => exact ⟨k + 1, A5, c5, by omega, by go_num, by rw [HE.out]; simp, by rw [HE.out, prs_app, List.length_append]; exact hown5, below_app hown (by repeat (first | exact hbw | refine Below.alloc ?_ (by first | omega | (simp; omega)) _ | refine below_drewN' ?_ _ | refine Below.drew ?_)) hg5 (Nat.le_refl _) (by simp; omega)⟩
          case measure => simp [intOf]; omega
    · have ht : l.take k = l := List.take_of_length_le (by omega)
      rw [ht] at hown
      rw [ht]
      clear ht
      go_wp2_with fail
      go_ret
      exact ⟨A', c', rfl, hown, hbw⟩
end Go.Proofs.YtdidcjhgdofgcaaGreatDoor
/- The walks of Tidy, Frames, HeldAt and their references, and of slices' Index, Contains and Equal. -/
namespace Go.Proofs.YtdidcjhgdofgcaaGreatDoor
set_option linter.unusedVariables false
set_option linter.unusedSimpArgs false
open Go.RowKit

theorem ret2_is {a b c d : Value} (h1 : a = c) (h2 : b = d) : Ending.returned (.tuple #[a, b]) = .returned (.tuple #[c, d]) := by rw [h1, h2]

set_option maxHeartbeats 400000 in
theorem index_any (A : Option Addr) (c lo : Nat) (zs : List Int) (x : Int) (w : World) (hr : Row w lo 1 A zs.length (ints zs)) (hl : zs.length ≤ 1000000000) :
    Calls Tryz.prog 123 #[.slice A zs.length c, .int .i64 x] w fun e w' => ∃ r : Int, e = .returned (.int .i64 r) ∧ (r < 0 ↔ x ∉ zs) ∧ w = w' := by
  go_enter Tryz.func123, Tryz.ntmps123
  go_wp2_with fail
  go_loop [8] (fun i => ∃ k : Nat, k ≤ zs.length ∧ i = .int .i64 k ∧ Hid (∀ y ∈ zs.take k, y ≠ x)) (fun i => zs.length - (intOf i).toNat)
  case atStart => exact ⟨0, Nat.zero_le _, rfl, Lib.hid (by simp)⟩
  case round =>
    obtain ⟨k, hk, rfl, hno⟩ := hrel
    by_cases hlt : k < zs.length
    · obtain ⟨b, off, rfl, _, hbs, c0⟩ := hr.int_at hlt
      by_cases he : x = zs[k]
      · have he' : (x == zs[k]) = true := by simpa using he
        have hm : Hid (x ∈ zs) := Lib.hid (by rw [he]; exact List.getElem_mem _)
        clear he
        go_wp2_with fail
        go_ret
        exact ⟨_, rfl, ⟨fun h => absurd h (by omega), fun h => absurd hm.out h⟩, rfl⟩
      · have he' : (x == zs[k]) = false := by simpa using he
        have hn : Hid (∀ y ∈ zs.take (k + 1), y ≠ x) := Lib.hid (by
          intro y hy
          rw [List.take_succ_eq_append_getElem hlt] at hy
          rcases List.mem_append.1 hy with h1 | h1
          · exact hno.out y h1
          · simp at h1; subst h1; exact fun h => he h.symm)
        clear he
        go_wp2_with fail
        go_round
        case rel => exact ⟨k + 1, by omega, by go_num, hn⟩
        case measure => simp [intOf]; omega
    · have hm : Hid (x ∉ zs) := Lib.hid (by
        have := hno.out
        rw [List.take_of_length_le (by omega)] at this
        exact fun h => this x h rfl)
      go_wp2_with fail
      go_ret
      exact ⟨-1, rfl, ⟨fun _ => hm.out, fun _ => by omega⟩, rfl⟩

set_option maxHeartbeats 400000 in
theorem contains_any (A : Option Addr) (c lo : Nat) (zs : List Int) (x : Int) (w : World) (hr : Row w lo 1 A zs.length (ints zs)) (hl : zs.length ≤ 1000000000) :
    Calls Tryz.prog 89 #[.slice A zs.length c, .int .i64 x] w fun e w' => e = .returned (.bool (decide (x ∈ zs))) ∧ w = w' := by
  go_enter Tryz.func89, Tryz.ntmps89
  go_wp2_with fail
  refine (index_any _ _ _ zs x _ hr hl).mono ?_
  rintro e w' ⟨r, rfl, hx, rfl⟩
  have HX := Lib.hid hx
  clear hx
  go_wp2_with fail
  go_ret
  refine ⟨ret_bool' ?_, rfl⟩
  have h := HX.out
  by_cases h1 : x ∈ zs
  · have : 0 ≤ r := by
      rcases Int.lt_or_le r 0 with h2 | h2
      · exact absurd h1 (h.1 h2)
      · exact h2
    simp [h1, this]
  · have := h.2 h1
    simp [h1]; omega

def btns : List Int := [1, 2, 4, 8, 16, 32]
def btnFault (b : Int) : Int := if b ∈ btns then 0 else 4

set_option maxHeartbeats 400000 in
theorem buttons_any (w : World) : Calls Tryz.prog 81 #[] w fun e w' => ∃ A c, e = .returned (.slice A btns.length c) ∧ Row w' w.heap.size 1 A btns.length (ints btns) ∧ Below w.heap.size w w' := by
  go_enter Tryz.func81, Tryz.ntmps81
  go_wp2_with fail
  go_ret
  exact ⟨_, _, rfl, row_new w _ _ _ _ _ (Nat.le_refl _) rfl, (Below.refl _ _).alloc (Nat.le_refl _) _⟩
set_option maxHeartbeats 400000 in
theorem framesF_any (A : Option Addr) (c lo : Nat) (ps : List (Int × Int)) (w : World) (hr : Row w lo 2 A ps.length (prs ps)) (hl : ps.length ≤ 1000000000) :
    Calls Tryz.prog 29 #[.slice A ps.length c] w fun e w' => e = .returned (.tuple #[.int .i64 (framesR ps), .int .i64 (inFault ps)]) ∧ Below w.heap.size w w' := by
  go_enter Tryz.func29, Tryz.ntmps29
  go_wp2_with fail
  refine (checkInput_any _ _ _ ps _ hr hl).mono ?_
  rintro e w1 ⟨rfl, hb1⟩
  by_cases h0 : inFault ps = 0
  · obtain ⟨h1, h2, h3⟩ := inFault_ok h0
    have h0' : (inFault ps != 0) = false := by simpa using h0
    have HF := Lib.hid (unf_len ps fun p hp => by have := h2 p hp; omega)
    have H0 := Lib.hid h0
    clear h0
    go_wp2_with fail
    refine (frames_any _ _ _ ps _ (hr.below hb1) hl (fun p hp => by have := h2 p hp; omega) (by omega)).mono ?_
    rintro e w2 ⟨rfl, hb2⟩
    clear h2
    go_wp2_with fail
    go_ret2
    exact ⟨ret2_is (by rw [framesR_ok H0.out, HF.out]; rfl) (by rw [H0.out]; rfl), below_up hb1 hb2⟩
  · have h0' : (inFault ps != 0) = true := by simpa using h0
    have H0 := Lib.hid h0
    clear h0
    go_wp2_with fail
    go_ret2
    exact ⟨ret2_is (by rw [framesR_bad H0.out]; rfl) rfl, hb1⟩
end Go.Proofs.YtdidcjhgdofgcaaGreatDoor
/- The walks of HeldAt, spread, holds, Presses and their references, and of slices.Equal over pieces. -/
namespace Go.Proofs.YtdidcjhgdofgcaaGreatDoor
set_option linter.unusedVariables false
set_option linter.unusedSimpArgs false
open Go.RowKit

/-- What HeldAt hands back. -/
def heldR (ps : List (Int × Int)) (f : Int) : Int := if inFault ps = 0 ∧ spanFault f 0 200000 = 0 then heldL (unf ps) f else 0
def heldE (ps : List (Int × Int)) (f : Int) : Int := if inFault ps = 0 then spanFault f 0 200000 else inFault ps
theorem heldR_ok {ps : List (Int × Int)} {f : Int} (h : inFault ps = 0) (h' : spanFault f 0 200000 = 0) : heldR ps f = heldL (unf ps) f := by simp [heldR, h, h']
theorem heldR_bad {ps : List (Int × Int)} {f : Int} (h : ¬ (inFault ps = 0 ∧ spanFault f 0 200000 = 0)) : heldR ps f = 0 := by simp only [heldR, h, if_false]
theorem span_ok {f lo hi : Int} (h : lo ≤ f ∧ f ≤ hi) : spanFault f lo hi = 0 := by simp [spanFault, h]
theorem span_bad {f lo hi : Int} (h : ¬ (lo ≤ f ∧ f ≤ hi)) : spanFault f lo hi = 1 := by simp only [spanFault, h, if_false]

set_option maxHeartbeats 1000000 in
theorem heldAtF_any (A : Option Addr) (c lo : Nat) (ps : List (Int × Int)) (f : Int) (w : World) (hr : Row w lo 2 A ps.length (prs ps)) (hl : ps.length ≤ 1000000000) :
    Calls Tryz.prog 31 #[.slice A ps.length c, .int .i64 f] w fun e w' => e = .returned (.tuple #[.int .i64 (heldR ps f), .int .i64 (heldE ps f)]) ∧ Below w.heap.size w w' := by
  go_enter Tryz.func31, Tryz.ntmps31
  go_wp2_with fail
  refine (checkInput_any _ _ _ ps _ hr hl).mono ?_
  rintro e w1 ⟨rfl, hb1⟩
  by_cases h0 : inFault ps = 0
  · obtain ⟨h1, h2, h3⟩ := inFault_ok h0
    have h0' : (inFault ps != 0) = false := by simpa using h0
    have H0 := Lib.hid h0
    rw [h0]
    clear h0 h0'
    go_wp2_with fail
    refine (out_any _ _ _ _).mono ?_
    rintro e w2 ⟨rfl, rfl⟩
    by_cases h4 : 0 ≤ f ∧ f ≤ 200000
    · have h4' : (decide (f < 0) || decide (200000 < f)) = false := by simp; omega
      rw [h4']
      have H4 := Lib.hid (span_ok h4)
      have hpos : ∀ p ∈ ps, 0 ≤ p.2 := fun p hp => by have := h2 p hp; omega
      obtain ⟨h5, h6⟩ := h4
      have HP := Lib.hid hpos
      clear h2 h4' hpos
      go_wp2_with fail
      go_loopw [1, 18] (fun v i wr => ∃ (k : Nat) (x : Int), k ≤ ps.length ∧ i = .int .i64 k ∧ v = .int .i64 x ∧ 0 ≤ x ∧ x ≤ 200000 ∧ Hid (x = f - psum (ps.take k)) ∧ Below w.heap.size w wr) (fun _ i _ => ps.length - (intOf i).toNat)
      case atStart => exact ⟨0, f, Nat.zero_le _, rfl, rfl, h5, h6, Lib.hid (by simp [psum]), hb1⟩
      case round =>
        obtain ⟨k, x, hk, rfl, rfl, hx0, hx1, hx, hbw⟩ := hrel
        by_cases hlt : k < ps.length
        · obtain ⟨b, off, rfl, _, hbs, c0, c1⟩ := (hr.below hbw).pr_at hlt
          have hp2 := HP.out ps[k] (List.getElem_mem _)
          by_cases h7 : x < ps[k].2
          · have HV : Hid (heldL (unf ps) f = ps[k].1) := Lib.hid (heldL_unf ps HP.out k hlt f (by have := hx.out; omega) (by have := hx.out; omega))
            go_wp2_with fail
            go_ret2
            exact ⟨ret2_is (by rw [heldR_ok H0.out H4.out, HV.out]; rfl) (by simp only [heldE, H0.out, if_true, H4.out]; rfl), hbw.alloc hbw.size _⟩
          · have HX : Hid (x - ps[k].2 = f - psum (ps.take (k + 1))) := Lib.hid (by rw [psum_take ps k hlt]; have := hx.out; omega)
            go_wp2_with fail
            go_roundw
            case rel => exact ⟨k + 1, x - ps[k].2, by omega, by go_num, rfl, by omega, by omega, HX, hbw.alloc hbw.size _⟩
            case measure => simp [intOf]; omega
        · have HV : Hid (heldL (unf ps) f = 0) := Lib.hid (heldL_out _ _ (.inr (by rw [unf_len ps HP.out]; have := hx.out; rw [List.take_of_length_le (by omega)] at this; omega)))
          go_wp2_with fail
          go_ret2
          exact ⟨ret2_is (by rw [heldR_ok H0.out H4.out, HV.out]; rfl) (by simp only [heldE, H0.out, if_true, H4.out]; rfl), hbw⟩
    · have h4' : (decide (f < 0) || decide (200000 < f)) = true := by simp; omega
      have H4 := Lib.hid (span_bad h4)
      rw [h4']
      clear h4 h4' h2
      go_wp2_with fail
      go_ret2
      exact ⟨ret2_is (by rw [heldR_bad (by rw [H4.out]; omega)]; rfl) (by simp only [heldE, H0.out, if_true, H4.out]; rfl), hb1⟩
  · have h0' : (inFault ps != 0) = true := by simpa using h0
    have H0 := Lib.hid h0
    clear h0
    go_wp2_with fail
    go_ret2
    exact ⟨ret2_is (by rw [heldR_bad (fun h => H0.out h.1)]; rfl) (by simp only [heldE, H0.out, if_false]; rfl), hb1⟩

/-- A block known whole. -/
def Blk (w : World) (g : Nat) (t : TypeId) (cs : Array Value) : Prop := w.heap[g]? = some (.cells cs t (0, 0))
theorem Blk.lt {w : World} {g : Nat} {t : TypeId} {cs : Array Value} (h : Blk w g t cs) : g < w.heap.size := (Array.getElem?_eq_some_iff.1 h).1
theorem Blk.cell {w : World} {g : Nat} {t : TypeId} {cs : Array Value} (h : Blk w g t cs) (i : Nat) : w.cell? ⟨g, i, none⟩ = cs[i]? := cell_of_row w g i cs t (0, 0) h
theorem Blk.new (w : World) (t : TypeId) (cs : Array Value) : Blk (w.alloc (.cells cs t)) w.heap.size t cs := heap_alloc_new w _
theorem Blk.alloc {w : World} {g : Nat} {t : TypeId} {cs : Array Value} (h : Blk w g t cs) (o : Obj) : Blk (w.alloc o) g t cs := (Below.heap_alloc w o g h.lt).trans h
theorem Blk.drewN {w : World} {g : Nat} {t : TypeId} {cs : Array Value} (h : Blk w g t cs) (q : Nat) : Blk (w.drewN q) g t cs := h
theorem Blk.drew {w : World} {g : Nat} {t : TypeId} {cs : Array Value} (h : Blk w g t cs) : Blk w.drew g t cs := h
theorem Blk.below {w w' : World} {g : Nat} {t : TypeId} {cs : Array Value} (h : Blk w g t cs) (hb : Below w.heap.size w w') : Blk w' g t cs := (hb.block g h.lt).trans h
theorem Blk.app {w1 w2 : World} {g base n size : Nat} {t e : TypeId} {cs : Array Value} {v : Value} {xs : List Value} (hown : w1.ownsRow base e size v n xs) (h : Blk w1 g t cs) (hg : w1.grownBy w2 v.ownBlock) (hne : e ≠ t) : Blk w2 g t cs := by
  refine (hg.block g h.lt ?_).trans h
  rcases hown.2 with ⟨rfl, _⟩ | ⟨g', cap, cur, rfl, _, hh, _⟩
  · simp [Value.ownBlock]
  · intro he
    have : g = g' := by simpa [Value.ownBlock] using he
    subst this
    unfold Blk at h
    rw [hh] at h
    injection h with h
    injection h with _ h1
    exact hne h1

def u8s (xs : List Int) : List Value := xs.map (Value.int .u8)
theorem u8s_all (zs : List Int) : (u8s zs).all (·.oneCell') = true := List.all_eq_true.2 (ints_oneCell .u8 zs)
theorem u8s_app (a b : List Int) : u8s (a ++ b) = u8s a ++ u8s b := by simp [u8s]
theorem Row.u8_at {w : World} {lo : Nat} {A : Option Addr} {zs : List Int} (h : Row w lo 1 A zs.length (u8s zs)) {k : Nat} (hk : k < zs.length) :
    ∃ b off, A = some ⟨b, off, none⟩ ∧ lo ≤ b ∧ b < w.heap.size ∧ w.cell? ⟨b, off + k, none⟩ = some (.int .u8 zs[k]) := by
  obtain ⟨b, off, e, hl, hb, hc⟩ := h.2 (by omega)
  exact ⟨b, off, e, hl, hb, hc k _ (by simp [u8s, hk])⟩
theorem ty_u8s : SliceTy Tryz.prog 74 5 1 1 := .mk' Tryz.underlying74 (z := .int .u8 0) (by kernel_rfl) rfl (by decide)

set_option maxHeartbeats 1000000 in
theorem spread_any (A : Option Addr) (c lo : Nat) (ps : List (Int × Int)) (w : World) (hr : Row w lo 2 A ps.length (prs ps)) (hl : ps.length ≤ 1000000000) (hb : ∀ p ∈ ps, 0 ≤ p.2) (hv : ∀ p ∈ ps, 0 ≤ p.1 ∧ p.1 ≤ 255) (hs : psum ps ≤ 1000000000) :
    Calls Tryz.prog 41 #[.slice A ps.length c] w fun e w' => ∃ A' c', e = .returned (.slice A' (unf ps).length c') ∧ w'.ownsRow w.heap.size 5 1 (.slice A' (unf ps).length c') (unf ps).length (u8s (unf ps)) ∧ Below w.heap.size w w' := by
  obtain ⟨und, ⟨i0, z0, hi0, hz0, hz1, hz2, hz3⟩, _⟩ := ty_u8s
  have hs0 := psum_nonneg ps hb
  obtain ⟨m, hm⟩ := Int.eq_ofNat_of_zero_le hs0
  go_enter Tryz.func41, Tryz.ntmps41
  go_wp2_with fail
  refine (frames_any _ _ _ ps _ hr hl hb (by omega)).mono ?_
  rintro e w1 ⟨rfl, hb1⟩
  rw [hm]
  have hmm : m ≤ 1000000000 := by omega
  have HB := Lib.hid hb
  have HV := Lib.hid hv
  clear hm hs0 hb hv
  go_wp2_with (at_make; go_must (refine wpList_make_own _ rfl _ _ 74 rfl w.heap.size 5 i0 _ 1 und hi0 hz0 hz1 .i64 .i64 _ m rfl rfl rfl (by rw [hz2]; omega) (by simp only [maxLen]; omega) hb1.size ?_))
  intro w2 hown2 hg2
  have hb2 : Below w.heap.size w w2 := hb1.grown hg2 hb1.size (fun k hk => by cases hk)
  clear hg2
  go_wp2_with fail
  go_loopw [3, 11] (fun v i wr => ∃ (k : Nat) (A' : Option Addr) (c' : Nat), k ≤ ps.length ∧ i = .int .i64 k ∧ v = .slice A' (unf (ps.take k)).length c' ∧ wr.ownsRow w.heap.size 5 1 (.slice A' (unf (ps.take k)).length c') (unf (ps.take k)).length (u8s (unf (ps.take k))) ∧ Below w.heap.size w wr) (fun _ i _ => ps.length - (intOf i).toNat)
  case atStart => exact ⟨0, _, _, Nat.zero_le _, rfl, rfl, hown2, hb2⟩
  case round =>
    obtain ⟨k, A', c', hk, rfl, rfl, hown, hbw⟩ := hrel
    by_cases hlt : k < ps.length
    · obtain ⟨b, off, rfl, _, hbs, c0, c1⟩ := (hr.below hbw).pr_at hlt
      have HT := Lib.hid (unf_take ps k hlt)
      have hb0 := HB.out ps[k] (List.getElem_mem _)
      obtain ⟨hv0, hv1⟩ := HV.out ps[k] (List.getElem_mem _)
      obtain ⟨n, hn⟩ := Int.eq_ofNat_of_zero_le hb0
      have hu := unf_len (ps.take k) (fun p hp => HB.out p (List.mem_of_mem_take hp))
      have hps2 := psum_take_le ps (k + 1) HB.out
      have hps := psum_take_le ps k HB.out
      rw [psum_take ps k hlt, hn] at hps2
      rw [hn] at c1
      rw [← hu] at hps hps2
      clear hu
      have HT2 : Hid (unf (ps.take (k + 1)) = unf (ps.take k) ++ List.replicate n ps[k].1) := Lib.hid (by rw [HT.out, hn]; rfl)
      clear HT hn hb0
      generalize unf (ps.take k) = o at *
      generalize ps[k].1 = x at *
      have hz := hbw.size
      go_wp2_with fail
      obtain ⟨wo, rfl⟩ : ∃ wo : World, wo = wr := ⟨_, rfl⟩
      go_loopw [3, 17] (fun v i wr => ∃ (j : Nat) (A2 : Option Addr) (c2 : Nat), j ≤ n ∧ i = .int .i64 j ∧ v = .slice A2 (o ++ List.replicate j x).length c2 ∧ wr.ownsRow w.heap.size 5 1 (.slice A2 (o ++ List.replicate j x).length c2) (o ++ List.replicate j x).length (u8s (o ++ List.replicate j x)) ∧ Blk wr wo.heap.size 51 #[.int .i64 x, .int .i64 n] ∧ Below w.heap.size w wr) (fun _ i _ => n - (intOf i).toNat)
      case atStart => exact ⟨0, A', c', Nat.zero_le _, by first | rfl | simp, by simp, by simpa using (by repeat (first | exact hown | refine World.ownsRow.alloc ?_ _ | refine own_drewN ?_ _ | refine World.ownsRow.drew ?_)), Blk.new _ _ _, (by repeat (first | exact hbw | refine Below.alloc ?_ (by first | omega | (simp; omega)) _ | refine below_drewN' ?_ _ | refine Below.drew ?_))⟩
      case round =>
        obtain ⟨j, A2, c2, hj, rfl, rfl, hown3, hblk, hbw3⟩ := hrel
        have hcell := hblk.cell 0
        have HJ : Hid (o ++ List.replicate (j + 1) x = (o ++ List.replicate j x) ++ [x]) := Lib.hid (by rw [List.replicate_succ', List.append_assoc])
        have hlj : (o ++ List.replicate j x).length ≤ 1000000000 := by simp; omega
        have hz3 := hbw3.size
        by_cases hjn : j < n
        · generalize o ++ List.replicate j x = q at *
          go_wp2_with (at_builtin; go_must (refine wpList_app (lo := w.heap.size) (base := w.heap.size) (n := q.length) (xs := u8s q) _ _ rfl _ _ ty_u8s rfl (by repeat (first | exact hown3 | refine World.ownsRow.alloc ?_ _ | refine own_drewN ?_ _ | refine World.ownsRow.drew ?_)) rfl (by first | exact row_new' _ (by first | rfl | simp) (by first | omega | (simp; omega)) rfl | exact row_newN _ _ (by first | rfl | simp) (by first | omega | (simp; omega)) rfl | exact row_newD _ (by first | rfl | simp) (by first | omega | (simp; omega)) rfl) rfl rfl (by first | omega | decide) (by first | omega | decide) (by first | omega | (simp; omega)) ?_))
          intro A5 c5 w5 hown5 hg5 _
          go_wp2_with fail
          go_roundw
          case rel => exact ⟨j + 1, A5, c5, by omega, by go_num, by rw [HJ.out]; simp, by rw [HJ.out, u8s_app, List.length_append]; exact hown5, Blk.app (hown3.alloc _) (hblk.alloc _) hg5 (by decide), below_app hown3 (by repeat (first | exact hbw3 | refine Below.alloc ?_ (by first | omega | (simp; omega)) _ | refine below_drewN' ?_ _ | refine Below.drew ?_)) hg5 (Nat.le_refl _) (by simp; omega)⟩
          case measure => simp [intOf]; omega
        · have HE : Hid (unf (ps.take (k + 1)) = o ++ List.replicate j x) := Lib.hid (by rw [HT2.out, show j = n by omega])
          clear HJ HT2
          generalize o ++ List.replicate j x = q at *
          go_wp2_with fail
          go_roundw
          case rel => exact ⟨k + 1, A2, c2, by omega, by go_num, by rw [HE.out], by rw [HE.out]; exact hown3, hbw3⟩
          case measure => simp [intOf]; omega
    · have ht : ps.take k = ps := List.take_of_length_le (by omega)
      rw [ht] at hown
      rw [ht]
      clear ht
      go_wp2_with fail
      go_ret
      exact ⟨A', c', rfl, hown, hbw⟩
end Go.Proofs.YtdidcjhgdofgcaaGreatDoor
/- Small laws of a block that is known whole. -/
namespace Go.Proofs.YtdidcjhgdofgcaaGreatDoor
set_option linter.unusedVariables false
set_option linter.unusedSimpArgs false
open Go.RowKit

theorem Blk.thaw {w : World} {g : Nat} {t : TypeId} {cs : Array Value} (h : Blk w g t cs) (i : Nat) : w.frozen? ⟨g, i, none⟩ = false := by
  have h' : w.heap[g]? = some (.cells cs t (0, 0)) := h
  simp [World.frozen?, h']
theorem Blk.poke {w : World} {g : Nat} {t : TypeId} {cs : Array Value} (h : Blk w g t cs) (i : Nat) (u : Value) : Blk (w.setCell ⟨g, i, none⟩ u) g t (cs.setIfInBounds i u) := by
  have h' : w.heap[g]? = some (.cells cs t (0, 0)) := h
  unfold Blk
  simp [World.setCell, Array.getElem?_modify, h']
theorem Blk.past {w : World} {g : Nat} {t : TypeId} {cs : Array Value} (h : Blk w g t cs) (k i : Nat) (u : Value) (hne : g ≠ k) : Blk (w.setCell ⟨k, i, none⟩ u) g t cs := by
  have h' : w.heap[g]? = some (.cells cs t (0, 0)) := h
  unfold Blk
  have hne' : ¬ k = g := fun e => hne e.symm
  simp [World.setCell, Array.getElem?_modify, h', hne']
/-- A row of the call's own stays where another block is written to. -/
theorem own_past {w : World} {base size n g : Nat} {e t : TypeId} {v : Value} {xs : List Value} {cs : Array Value} (h : w.ownsRow base e size v n xs) (hb : Blk w g t cs) (hne : e ≠ t) (i : Nat) (u : Value) : (w.setCell ⟨g, i, none⟩ u).ownsRow base e size v n xs := by
  refine ⟨h.1, ?_⟩
  rcases h.2 with h0 | ⟨g', cap, cur, hv, hg, hh, h3⟩
  · exact .inl h0
  · have hgg : ¬ g = g' := by
      intro e1
      subst e1
      have h' : w.heap[g]? = some (.cells cs t (0, 0)) := hb
      rw [h'] at hh
      injection hh with hh
      injection hh with _ h2
      exact hne h2.symm
    exact .inr ⟨g', cap, cur, hv, hg, by simp [World.setCell, Array.getElem?_modify, hgg, hh], h3⟩
end Go.Proofs.YtdidcjhgdofgcaaGreatDoor
/- The walks of holds, Presses and their references, and of slices.Equal over pieces. -/
namespace Go.Proofs.YtdidcjhgdofgcaaGreatDoor
set_option linter.unusedVariables false
set_option linter.unusedSimpArgs false
open Go.RowKit

theorem ty_holds : SliceTy Tryz.prog 142 180 2 16 := .mk' Tryz.underlying142 (z := .agg #[.int .i64 0, .int .i64 0]) (by kernel_rfl) rfl (by decide)

theorem holdsM_le (xs : List Int) (b : Int) (k : Nat) : (holdsM xs b k).length ≤ k := by rw [holdsM_len]; exact pressesM_le xs b k
theorem holdsM_long (xs : List Int) (b : Int) (k : Nat) : ∀ p ∈ holdsM xs b k, 0 ≤ p.2 ∧ p.2 ≤ k := by
  induction k with
  | zero => intro p hp; simp [holdsM] at hp
  | succ k ih =>
    rw [holdsM_succ]
    intro p hp
    unfold hstep at hp
    by_cases h1 : hasB (heldL xs k) b = true
    · by_cases h2 : hasB (heldL xs ((k : Int) - 1)) b = true
      · simp only [h1, h2, if_true] at hp
        have hpos := holdsM_pos xs b k h2
        rcases List.mem_or_eq_of_mem_set hp with h3 | h3
        · have := ih p h3; omega
        · have h4 : (holdsM xs b k).getD ((holdsM xs b k).length - 1) (0, 0) ∈ holdsM xs b k := by
            rw [List.getD_eq_getElem?_getD, List.getElem?_eq_getElem (by omega)]; simp
          have := ih _ h4
          rw [h3]; simp only; omega
      · simp only [h1, h2, if_true] at hp
        simp at hp
        rcases hp with h3 | h3
        · have := ih p h3; omega
        · subst h3; simp; omega
    · simp only [h1] at hp
      have := ih p (by simpa using hp); omega

set_option maxHeartbeats 1000000 in
theorem holds_any (A : Option Addr) (c lo : Nat) (xs : List Int) (b : Int) (w : World) (hr : Row w lo 1 A xs.length (u8s xs)) (hl : xs.length ≤ 1000000000) (hx : ∀ x ∈ xs, 0 ≤ x ∧ x ≤ 255) :
    Calls Tryz.prog 90 #[.slice A xs.length c, .int .i64 b] w fun e w' => ∃ A' c', e = .returned (.slice A' (holdsM xs b xs.length).length c') ∧ w'.ownsRow w.heap.size 180 2 (.slice A' (holdsM xs b xs.length).length c') (holdsM xs b xs.length).length (prs (holdsM xs b xs.length)) ∧ Below w.heap.size w w' := by
  have HX := Lib.hid hx
  clear hx
  go_enter Tryz.func90, Tryz.ntmps90
  go_wp2_with fail
  go_loopw [5, 10] (fun v i wr => ∃ (k : Nat) (A' : Option Addr) (c' : Nat), k ≤ xs.length ∧ i = .int .i64 k ∧ v = .slice A' (holdsM xs b k).length c' ∧ wr.ownsRow w.heap.size 180 2 (.slice A' (holdsM xs b k).length c') (holdsM xs b k).length (prs (holdsM xs b k)) ∧ Below w.heap.size w wr) (fun _ i _ => xs.length - (intOf i).toNat)
  case atStart => exact ⟨0, none, 0, Nat.zero_le _, rfl, rfl, World.ownsRow_nil _ _ _ _, Below.refl _ _⟩
  case round =>
    obtain ⟨k, A', c', hk, rfl, rfl, hown, hbw⟩ := hrel
    by_cases hlt : k < xs.length
    · obtain ⟨bb, off, rfl, _, hbs, c0⟩ := (hr.below hbw).u8_at hlt
      have HT := Lib.hid (holdsM_succ xs b k)
      have hlen := holdsM_le xs b k
      obtain ⟨x0, x1⟩ := HX.out xs[k] (List.getElem_mem _)
      have hz := hbw.size
      have HK := Lib.hid (heldL_at xs k hlt)
      by_cases h1 : hasB xs[k] b = true
      · have g1 : (bits .and .i64 xs[k] b == 0) = false := by unfold hasB at h1; simpa using h1
        by_cases hk0 : k = 0
        · have HE : Hid (holdsM xs b (k + 1) = holdsM xs b k ++ [((k : Int), 1)]) := Lib.hid (by
            rw [HT.out]; unfold hstep
            rw [HK.out, h1, heldL_out xs ((k : Int) - 1) (by omega), hasB_zero]; rfl)
          have d0 : decide ((0 : Int) < (k : Int)) = false := by simp; omega
          have d1 : (k : Int) ≤ 0 := by omega
          clear HT h1 hk0
          generalize holdsM xs b k = o at *
          go_wp2_with (at_builtin; go_must (refine wpList_app (lo := w.heap.size) (base := w.heap.size) (n := o.length) (xs := prs o) _ _ rfl _ _ ty_holds rfl (by repeat (first | exact hown | refine World.ownsRow.alloc ?_ _ | refine own_drewN ?_ _ | refine World.ownsRow.drew ?_)) rfl (by first | exact row_new' _ (by first | rfl | simp) (by first | omega | (simp; omega)) rfl | exact row_newN _ _ (by first | rfl | simp) (by first | omega | (simp; omega)) rfl | exact row_newD _ (by first | rfl | simp) (by first | omega | (simp; omega)) rfl) rfl rfl (by first | omega | decide) (by first | omega | decide) (by first | omega | (simp; omega)) ?_))
          intro A5 c5 w5 hown5 hg5 _
          go_wp2_with fail
          go_roundw
          case rel => exact ⟨k + 1, A5, c5, by omega, by go_num, by rw [HE.out]; simp, by rw [HE.out, prs_app, List.length_append]; exact hown5, below_app hown (by repeat (first | exact hbw | refine Below.alloc ?_ (by first | omega | (simp; omega)) _ | refine below_drewN' ?_ _ | refine Below.drew ?_)) hg5 (Nat.le_refl _) (by simp; omega)⟩
          case measure => simp [intOf]; omega
        · obtain ⟨b', off', e', _, _, c1⟩ := (hr.below hbw).u8_at (k := k - 1) (by omega)
          have e1 : b' = bb ∧ off' = off := by injection e' with e'; injection e' with h1 h2; exact ⟨h1.symm, h2.symm⟩
          obtain ⟨rfl, rfl⟩ := e1
          clear e'
          obtain ⟨y0, y1⟩ := HX.out xs[k - 1] (List.getElem_mem _)
          have HK1 := Lib.hid (heldL_at xs (k - 1) (by omega))
          have HKK : Hid (((k - 1 : Nat) : Int) = (k : Int) - 1) := Lib.hid (by omega)
          have d0 : decide ((0 : Int) < (k : Int)) = true := by simp; omega
          have d1 : (0 : Int) < (k : Int) := by omega
          by_cases h2 : hasB xs[k - 1] b = true
          · have hpos := holdsM_pos xs b k (by rw [← HKK.out, HK1.out]; exact h2)
            have hlong := holdsM_long xs b k
            have g2 : (bits .and .i64 xs[k - 1] b != 0) = true := h2
            generalize holdsM xs b k = o at *
            have hj : o.length - 1 < o.length := by omega
            have HE : Hid (holdsM xs b (k + 1) = o.set (o.length - 1) ((o[o.length - 1]'hj).1, (o[o.length - 1]'hj).2 + 1)) := Lib.hid (by
              rw [HT.out]; unfold hstep
              rw [HK.out, h1, ← HKK.out, HK1.out, h2, List.getD_eq_getElem?_getD, List.getElem?_eq_getElem hj]; rfl)
            clear HT h1 h2
            obtain ⟨g, rfl, hg, hg', hcb, hfb⟩ := ownBlk hown (by omega)
            obtain ⟨e1, e2⟩ := prs_at o _ hj
            have q2 := hcb _ _ e2
            have f2 := hfb ((o.length - 1) * 2 + 1)
            obtain ⟨b1, b2⟩ := hlong _ (List.getElem_mem hj)
            clear hcb hfb e1 e2 hlong
            go_wp2_with fail
            go_roundw
            case rel => exact ⟨k + 1, some ⟨g, 0, none⟩, c', by omega, by go_num, by rw [HE.out]; simp, by rw [HE.out, List.length_set]; exact own_prs_set (ps := o) (c := c') (by repeat (first | exact hown | refine World.ownsRow.alloc ?_ _ | refine own_drewN ?_ _ | refine World.ownsRow.drew ?_)) _ hj _, Below.setCell (by repeat (first | exact hbw | refine Below.alloc ?_ (by first | omega | (simp; omega)) _ | refine below_drewN' ?_ _ | refine Below.drew ?_)) (by simpa using hg) _⟩
            case measure => simp [intOf]; omega
          · have g2 : (bits .and .i64 xs[k - 1] b != 0) = false := by simpa [hasB] using h2
            have HE : Hid (holdsM xs b (k + 1) = holdsM xs b k ++ [((k : Int), 1)]) := Lib.hid (by
              rw [HT.out]; unfold hstep
              rw [HK.out, h1, ← HKK.out, HK1.out, Bool.eq_false_iff.2 h2]; rfl)
            clear HT h1 h2
            generalize holdsM xs b k = o at *
            go_wp2_with (at_builtin; go_must (refine wpList_app (lo := w.heap.size) (base := w.heap.size) (n := o.length) (xs := prs o) _ _ rfl _ _ ty_holds rfl (by repeat (first | exact hown | refine World.ownsRow.alloc ?_ _ | refine own_drewN ?_ _ | refine World.ownsRow.drew ?_)) rfl (by first | exact row_new' _ (by first | rfl | simp) (by first | omega | (simp; omega)) rfl | exact row_newN _ _ (by first | rfl | simp) (by first | omega | (simp; omega)) rfl | exact row_newD _ (by first | rfl | simp) (by first | omega | (simp; omega)) rfl) rfl rfl (by first | omega | decide) (by first | omega | decide) (by first | omega | (simp; omega)) ?_))
            intro A5 c5 w5 hown5 hg5 _
            go_wp2_with fail
            go_roundw
            case rel => exact ⟨k + 1, A5, c5, by omega, by go_num, by rw [HE.out]; simp, by rw [HE.out, prs_app, List.length_append]; exact hown5, below_app hown (by repeat (first | exact hbw | refine Below.alloc ?_ (by first | omega | (simp; omega)) _ | refine below_drewN' ?_ _ | refine Below.drew ?_)) hg5 (Nat.le_refl _) (by simp; omega)⟩
            case measure => simp [intOf]; omega
      · have g1 : (bits .and .i64 xs[k] b == 0) = true := by simpa [hasB] using h1
        have HE : Hid (holdsM xs b (k + 1) = holdsM xs b k) := Lib.hid (by
          rw [HT.out]; unfold hstep
          rw [HK.out, Bool.eq_false_iff.2 h1]; rfl)
        clear HT h1
        go_wp2_with fail
        go_roundw
        case rel => exact ⟨k + 1, A', c', by omega, by go_num, by rw [HE.out], by rw [HE.out]; exact hown, hbw⟩
        case measure => simp [intOf]; omega
    · have hkn : k = xs.length := by omega
      subst hkn
      go_wp2_with fail
      go_ret
      exact ⟨A', c', rfl, hown, hbw⟩

/-- What Presses hands back. -/
def pressR (ps : List (Int × Int)) (b : Int) : Int := if inFault ps = 0 ∧ btnFault b = 0 then (pressesM (unf ps) b (unf ps).length : Int) else 0
def pressE (ps : List (Int × Int)) (b : Int) : Int := if inFault ps = 0 then btnFault b else inFault ps
theorem pressR_ok {ps : List (Int × Int)} {b : Int} (h : inFault ps = 0) (h' : btnFault b = 0) : pressR ps b = (pressesM (unf ps) b (unf ps).length : Int) := by simp [pressR, h, h']
theorem pressR_bad {ps : List (Int × Int)} {b : Int} (h : ¬ (inFault ps = 0 ∧ btnFault b = 0)) : pressR ps b = 0 := by simp only [pressR, h, if_false]
theorem btn_ok {b : Int} (h : b ∈ btns) : btnFault b = 0 := by simp [btnFault, h]
theorem btn_bad {b : Int} (h : ¬ b ∈ btns) : btnFault b = 4 := by simp [btnFault, h]
theorem unf_mem {ps : List (Int × Int)} {P : Int → Prop} (h : ∀ p ∈ ps, P p.1) : ∀ x ∈ unf ps, P x := by
  intro x hx
  obtain ⟨p, hp, hq⟩ := List.mem_flatMap.1 hx
  rw [List.eq_of_mem_replicate hq]
  exact h p hp

set_option maxHeartbeats 1000000 in
theorem presses_any (A : Option Addr) (c lo : Nat) (ps : List (Int × Int)) (b : Int) (w : World) (hr : Row w lo 2 A ps.length (prs ps)) (hl : ps.length ≤ 1000000000) :
    Calls Tryz.prog 64 #[.slice A ps.length c, .int .i64 b] w fun e w' => e = .returned (.tuple #[.int .i64 (pressR ps b), .int .i64 (pressE ps b)]) ∧ Below w.heap.size w w' := by
  go_enter Tryz.func64, Tryz.ntmps64
  go_wp2_with fail
  refine (checkInput_any _ _ _ ps _ hr hl).mono ?_
  rintro e w1 ⟨rfl, hb1⟩
  by_cases h0 : inFault ps = 0
  · obtain ⟨h1, h2, h3⟩ := inFault_ok h0
    have hp : ∀ p ∈ ps, 0 ≤ p.2 := fun p hp => by have := h2 p hp; omega
    have hv : ∀ p ∈ ps, 0 ≤ p.1 ∧ p.1 ≤ 255 := fun p hp => by have := h2 p hp; omega
    have hu := unf_len ps hp
    have hul : (unf ps).length ≤ 200000 := by omega
    have H0 := Lib.hid h0
    have h0' : (inFault ps != 0) = false := by simpa using h0
    have HP := Lib.hid hp
    have HV := Lib.hid hv
    rw [h0]
    clear h0 hu h2 hp hv h0'
    go_wp2_with fail
    refine (buttons_any _).mono ?_
    rintro e w2 ⟨A2, c2, rfl, hr2, hb2⟩
    go_wp2_with fail
    refine (contains_any _ _ _ btns b _ hr2 (by decide)).mono ?_
    rintro e w3 ⟨rfl, rfl⟩
    have hb12 := below_up hb1 hb2
    by_cases h4 : b ∈ btns
    · have hd : decide (b ∈ btns) = true := by simpa using h4
      have H4 := Lib.hid (btn_ok h4)
      rw [hd]
      clear h4 hd
      go_wp2_with fail
      refine (spread_any _ _ _ ps _ (hr.below hb12) hl HP.out HV.out (by omega)).mono ?_
      rintro e w4 ⟨A4, c4, rfl, hown4, hb4⟩
      go_wp2_with fail
      refine (holds_any _ _ _ (unf ps) b _ (Row.of_own hown4) (by omega) (unf_mem HV.out)).mono ?_
      rintro e w5 ⟨A5, c5, rfl, hown5, hb5⟩
      have HL := Lib.hid (holdsM_len (unf ps) b (unf ps).length)
      go_wp2_with fail
      go_ret2
      exact ⟨ret2_is (by rw [pressR_ok H0.out H4.out, ← HL.out]; rfl) (by simp only [pressE, H0.out, if_true, H4.out]; rfl), below_up (below_up hb12 hb4) hb5⟩
    · have hd : decide (b ∈ btns) = false := by simpa using h4
      have H4 := Lib.hid (btn_bad h4)
      rw [hd]
      clear h4 hd
      go_wp2_with fail
      go_ret2
      exact ⟨ret2_is (by rw [pressR_bad (by rw [H4.out]; omega)]; rfl) (by simp only [pressE, H0.out, if_true, H4.out]; rfl), hb12⟩
  · have h0' : (inFault ps != 0) = true := by simpa using h0
    have H0 := Lib.hid h0
    clear h0
    go_wp2_with fail
    go_ret2
    exact ⟨ret2_is (by rw [pressR_bad (fun h => H0.out h.1)]; rfl) (by simp only [pressE, H0.out, if_false]; rfl), hb1⟩

end Go.Proofs.YtdidcjhgdofgcaaGreatDoor
/- The walks of slices.Equal over pieces, and of the law's own small test. -/
namespace Go.Proofs.YtdidcjhgdofgcaaGreatDoor
set_option linter.unusedVariables false
set_option linter.unusedSimpArgs false
open Go.RowKit

set_option maxHeartbeats 1000000 in
theorem equalP_any (A B : Option Addr) (c d lo lo' : Nat) (ps qs : List (Int × Int)) (w : World) (hr : Row w lo 2 A ps.length (prs ps)) (hr' : Row w lo' 2 B qs.length (prs qs)) (hl : ps.length ≤ 1000000000) (hl' : qs.length ≤ 1000000000) :
    Calls Tryz.prog 23 #[.slice A ps.length c, .slice B qs.length d] w fun e w' => e = .returned (.bool (decide (ps = qs))) ∧ ∃ q, w' = w.drewN q := by
  by_cases hlen : ps.length = qs.length
  · have h0 : ((ps.length : Int) != (qs.length : Int)) = false := by simp [hlen]
    have HLEN := Lib.hid hlen
    clear hlen
    go_enter Tryz.func23, Tryz.ntmps23
    go_wp2_with fail
    go_loopw [13] (fun i wr => ∃ (k : Nat) (q : Nat), k ≤ ps.length ∧ i = .int .i64 k ∧ Hid (ps.take k = qs.take k) ∧ wr = w.drewN q) (fun i _ => ps.length - (intOf i).toNat)
    case atStart => exact ⟨0, 0, Nat.zero_le _, rfl, Lib.hid rfl, rfl⟩
    case round =>
      obtain ⟨k, q, hk, rfl, htk, rfl⟩ := hrel
      by_cases hlt : k < ps.length
      · obtain ⟨b, off, rfl, _, hbs, c0, c1⟩ := hr.pr_at hlt
        have hlt' : k < qs.length := by have := HLEN.out; omega
        obtain ⟨b', off', rfl, _, hbs', d0, d1⟩ := hr'.pr_at hlt'
        by_cases he : ps[k] = qs[k]
        · have HN : Hid (ps.take (k + 1) = qs.take (k + 1)) := Lib.hid (by rw [List.take_succ_eq_append_getElem hlt, List.take_succ_eq_append_getElem hlt', htk.out, he])
          rw [← he] at d0 d1
          clear he
          go_wp2_with fail
          go_quiet (fail)
          go_wp2_with fail
          go_roundw
          case rel => exact ⟨k + 1, _, by omega, by go_num, HN, rfl⟩
          case measure => simp [intOf]; omega
        · have HN : Hid (¬ ps = qs) := Lib.hid (fun h => he (by subst h; rfl))
          by_cases he1 : ps[k].1 = qs[k].1
          · have e1 : (ps[k].1 == qs[k].1) = true := by simpa using he1
            have e2 : (ps[k].2 == qs[k].2) = false := by simpa using fun h => he (Prod.ext he1 h)
            clear he he1
            go_wp2_with fail
            go_quiet (fail)
            go_wp2_with fail
            go_ret
            exact ⟨ret_bool' (by simp [HN.out]), _, World.drewN_drewN _ _ _⟩
          · have e1 : (ps[k].1 == qs[k].1) = false := by simpa using he1
            clear he he1
            go_wp2_with fail
            go_quiet (fail)
            go_wp2_with fail
            go_ret
            exact ⟨ret_bool' (by simp [HN.out]), _, World.drewN_drewN _ _ _⟩
      · have HN : Hid (ps = qs) := Lib.hid (by
          have := htk.out
          have hh := HLEN.out
          rwa [List.take_of_length_le (by omega), List.take_of_length_le (by omega)] at this)
        go_wp2_with fail
        go_ret
        exact ⟨ret_bool' (by simp [HN.out]), _, rfl⟩
  · have h0 : ((ps.length : Int) != (qs.length : Int)) = true := by rw [bne_iff_ne]; omega
    have HN : Hid (¬ ps = qs) := Lib.hid (fun h => hlen (by rw [h]))
    clear hlen
    go_enter Tryz.func23, Tryz.ntmps23
    go_wp2_with fail
    go_ret
    exact ⟨ret_bool' (by simp [HN.out]), 0, rfl⟩

theorem pressR_ex : pressR [(1, 3), (0, 1), (1, 1)] 1 = 2 := by decide
theorem pressE_ex : pressE [(1, 3), (0, 1), (1, 1)] 1 = 0 := by decide

set_option maxHeartbeats 1000000 in
theorem pressed_any (w : World) : Calls Tryz.prog 24 #[] w fun e w' => e = .returned (.bool true) ∧ Below w.heap.size w w' := by
  have H1 := Lib.hid pressR_ex
  have H2 := Lib.hid pressE_ex
  go_enter Tryz.func24, Tryz.ntmps24
  go_wp2_with fail
  refine (presses_any _ _ w.heap.size [(1, 3), (0, 1), (1, 1)] 1 _ (by first | exact row_new' _ (by first | rfl | simp) (by first | omega | (simp; omega)) rfl | exact row_newN _ _ (by first | rfl | simp) (by first | omega | (simp; omega)) rfl | exact row_newD _ (by first | rfl | simp) (by first | omega | (simp; omega)) rfl) (by decide)).mono ?_
  rintro e w1 ⟨rfl, hb1⟩
  rw [H1.out, H2.out]
  go_wp2_with fail
  go_ret
  exact ⟨rfl, below_up ((Below.refl _ _).alloc (Nat.le_refl _) _) hb1⟩
end Go.Proofs.YtdidcjhgdofgcaaGreatDoor
/- The walks of First, Or, when, part, Cut and CutOf. -/
namespace Go.Proofs.YtdidcjhgdofgcaaGreatDoor
set_option linter.unusedVariables false
set_option linter.unusedSimpArgs false
open Go.RowKit

theorem take_zero_snoc {l : List Int} {k : Nat} (h : ∀ y ∈ l.take k, y = 0) (hk : k < l.length) (hv : l[k] = 0) : ∀ y ∈ l.take (k + 1), y = 0 := by
  intro y hy
  rw [List.take_succ_eq_append_getElem hk] at hy
  rcases List.mem_append.1 hy with h1 | h1
  · exact h y h1
  · simp at h1; subst h1; exact hv

set_option maxHeartbeats 400000 in
theorem first_any (A : Option Addr) (c lo : Nat) (l : List Int) (w : World) (hr : Row w lo 1 A l.length (ints l)) (hl : l.length ≤ 1000000000) :
    Calls Tryz.prog 67 #[.slice A l.length c] w fun e w' => e = .returned (.int .i64 (firstE l)) ∧ w = w' := by
  go_enter Tryz.func67, Tryz.ntmps67
  go_wp2_with fail
  go_loop [7] (fun i => ∃ k : Nat, k ≤ l.length ∧ i = .int .i64 k ∧ Hid (∀ y ∈ l.take k, y = 0)) (fun i => l.length - (intOf i).toNat)
  case atStart => exact ⟨0, Nat.zero_le _, rfl, Lib.hid (by simp)⟩
  case round =>
    obtain ⟨k, hk, rfl, hno⟩ := hrel
    by_cases hlt : k < l.length
    · obtain ⟨b, off, rfl, _, hbs, c0⟩ := hr.int_at hlt
      by_cases he : l[k] = 0
      · have he' : (l[k] != 0) = false := by simpa using he
        have HN := Lib.hid (take_zero_snoc hno.out hlt he)
        clear he
        go_wp2_with fail
        go_round
        case rel => exact ⟨k + 1, by omega, by go_num, HN⟩
        case measure => simp [intOf]; omega
      · have he' : (l[k] != 0) = true := by simpa using he
        have HV := Lib.hid (firstE_hit l k hlt hno.out he)
        clear he
        go_wp2_with fail
        go_ret
        exact ⟨ret_int' HV.out.symm, rfl⟩
    · have HV := Lib.hid (firstE_none l (by have := hno.out; rwa [List.take_of_length_le (by omega)] at this))
      go_wp2_with fail
      go_ret
      exact ⟨ret_int' HV.out.symm, rfl⟩

set_option maxHeartbeats 400000 in
theorem or_any (A : Option Addr) (c lo : Nat) (l : List Int) (w : World) (hr : Row w lo 1 A l.length (ints l)) (hl : l.length ≤ 1000000000) :
    Calls Tryz.prog 8 #[.slice A l.length c] w fun e w' => e = .returned (.int .i64 (firstE l)) ∧ w = w' := by
  go_enter Tryz.func8, Tryz.ntmps8
  go_wp2_with fail
  go_loop [8] (fun i => ∃ k : Nat, k ≤ l.length ∧ i = .int .i64 k ∧ Hid (∀ y ∈ l.take k, y = 0)) (fun i => l.length - (intOf i).toNat)
  case atStart => exact ⟨0, Nat.zero_le _, rfl, Lib.hid (by simp)⟩
  case round =>
    obtain ⟨k, hk, rfl, hno⟩ := hrel
    by_cases hlt : k < l.length
    · obtain ⟨b, off, rfl, _, hbs, c0⟩ := hr.int_at hlt
      by_cases he : l[k] = 0
      · have he' : (l[k] != 0) = false := by simpa using he
        have HN := Lib.hid (take_zero_snoc hno.out hlt he)
        clear he
        go_wp2_with fail
        go_round
        case rel => exact ⟨k + 1, by omega, by go_num, HN⟩
        case measure => simp [intOf]; omega
      · have he' : (l[k] != 0) = true := by simpa using he
        have HV := Lib.hid (firstE_hit l k hlt hno.out he)
        clear he
        go_wp2_with fail
        go_ret
        exact ⟨ret_int' HV.out.symm, rfl⟩
    · have HV := Lib.hid (firstE_none l (by have := hno.out; rwa [List.take_of_length_le (by omega)] at this))
      go_wp2_with fail
      go_ret
      exact ⟨ret_int' HV.out.symm, rfl⟩

theorem own_cap {w : World} {base : Nat} {e : TypeId} {size : Nat} {A : Option Addr} {n c : Nat} {xs : List Value} (h : w.ownsRow base e size (.slice A n c) n xs) : n ≤ c := by
  rcases h.2 with ⟨h0, h1⟩ | ⟨g, cap, cur, hv, _, _, hc, _⟩
  · omega
  · injection hv with _ _ h3; omega
theorem Row.cut {w : World} {lo : Nat} {A A' : Option Addr} {n : Nat} {xs : List Value} (h : Row w lo 1 A n xs) {i j c : Nat} (hij : i ≤ j) (hj : j ≤ n) (hc : n ≤ c) (hA : (A' = A ∧ c = i) ∨ A' = A.map (·.add i)) : Row w lo 1 A' (j - i) ((xs.take j).drop i) := by
  have hl := h.1
  refine ⟨by simp; omega, fun hn => ?_⟩
  obtain ⟨b, off, rfl, h1, h2, h3⟩ := h.2 (by omega)
  rcases hA with ⟨_, h4⟩ | h4
  · omega
  · have ha : (⟨b, off, none⟩ : Addr).add i = ⟨b, off + i, none⟩ := by unfold Addr.add; split <;> simp_all
    refine ⟨b, off + i, by rw [h4]; simp [ha], h1, h2, fun k u hu => ?_⟩
    rw [Nat.add_assoc]
    refine h3 _ u ?_
    rw [List.getElem?_drop, List.getElem?_take] at hu
    split at hu
    · exact hu
    · cases hu
theorem own_cast {w : World} {base : Nat} {e : TypeId} {size : Nat} {v : Value} {n : Nat} {xs ys : List Value} (h : xs = ys) (ho : w.ownsRow base e size v n xs) : w.ownsRow base e size v n ys := h ▸ ho
theorem clipN_bd (at_ m f t : Int) (h : 0 ≤ at_) (hm : 0 ≤ m) (hf : 0 ≤ f) (ht : 0 ≤ t) : clipN at_ m f t ≤ m ∧ -(at_ + f) ≤ clipN at_ m f t := by unfold clipN; omega

set_option maxHeartbeats 1000000 in
theorem part_any (A : Option Addr) (c lo : Nat) (ps : List (Int × Int)) (f t : Nat) (w : World) (hr : Row w lo 2 A ps.length (prs ps)) (hl : ps.length ≤ 1000000) (hb : ∀ p ∈ ps, 0 ≤ p.2) (hs : psum ps ≤ 1000000000) (hf : f ≤ 1000000000) (ht : t ≤ 1000000000) :
    Calls Tryz.prog 66 #[.slice A ps.length c, .int .i64 f, .int .i64 t] w fun e w' => ∃ A' c', e = .returned (.slice A' (foldM (cutL (unf ps) f t)).length c') ∧ w'.ownsRow w.heap.size 51 2 (.slice A' (foldM (cutL (unf ps) f t)).length c') (foldM (cutL (unf ps) f t)).length (prs (foldM (cutL (unf ps) f t))) ∧ Below w.heap.size w w' := by
  have HB := Lib.hid hb
  clear hb
  go_enter Tryz.func66, Tryz.ntmps66
  go_wp2_with fail
  go_loopw [7, 8, 14] (fun v a i wr => ∃ (k : Nat) (A' : Option Addr) (c' : Nat), k ≤ ps.length ∧ i = .int .i64 k ∧ a = .int .i64 (psum (ps.take k)) ∧ v = .slice A' (clips ps f t k).length c' ∧ wr.ownsRow w.heap.size 51 2 (.slice A' (clips ps f t k).length c') (clips ps f t k).length (prs (clips ps f t k)) ∧ Below w.heap.size w wr) (fun _ _ i _ => ps.length - (intOf i).toNat)
  case atStart => exact ⟨0, none, 0, Nat.zero_le _, rfl, rfl, rfl, World.ownsRow_nil _ _ _ _, Below.refl _ _⟩
  case round =>
    obtain ⟨k, A', c', hk, rfl, rfl, rfl, hown, hbw⟩ := hrel
    by_cases hlt : k < ps.length
    · obtain ⟨b, off, rfl, _, hbs, c0, c1⟩ := (hr.below hbw).pr_at hlt
      have HT := Lib.hid (clips_succ ps f t k hlt)
      have HS := Lib.hid (psum_take ps k hlt)
      have hlen := clips_len ps f t k hk
      have hp0 := HB.out ps[k] (List.getElem_mem _)
      have hps := psum_take_le ps k HB.out
      have hps2 := psum_take_le ps (k + 1) HB.out
      rw [HS.out] at hps2
      have hz := hbw.size
      have HC : Hid (clipN (psum (ps.take k)) ps[k].2 f t = min (psum (ps.take k) + ps[k].2) t - max (psum (ps.take k)) f) := Lib.hid rfl
      generalize clips ps f t k = o at *
      generalize psum (ps.take k) = a at *
      by_cases hpos : 0 < clipN a ps[k].2 f t
      · have HE : Hid (clips ps f t (k + 1) = o ++ [(ps[k].1, min (a + ps[k].2) t - max a f)]) := Lib.hid (by rw [HT.out, if_pos hpos, HC.out])
        rw [HC.out] at hpos
        clear HT HC
        rcases Int.lt_or_le (t : Int) (a + ps[k].2) with g1 | g1 <;> rcases Int.lt_or_le a (f : Int) with g2 | g2
        all_goals
          go_wp2_with (at_builtin; go_must (refine wpList_app (lo := w.heap.size) (base := w.heap.size) (n := o.length) (xs := prs o) _ _ rfl _ _ ty_prs rfl (by repeat (first | exact hown | refine World.ownsRow.alloc ?_ _ | refine own_drewN ?_ _ | refine World.ownsRow.drew ?_)) rfl (by first | exact row_new' _ (by first | rfl | simp) (by first | omega | (simp; omega)) rfl | exact row_newN _ _ (by first | rfl | simp) (by first | omega | (simp; omega)) rfl | exact row_newD _ (by first | rfl | simp) (by first | omega | (simp; omega)) rfl) rfl rfl (by first | omega | decide) (by first | omega | decide) (by first | omega | (simp; omega)) ?_))
          intro A5 c5 w5 hown5 hg5 _
          go_wp2_with fail
          go_roundw
          case rel => exact ⟨k + 1, A5, c5, by omega, by go_num, by rw [HS.out], by rw [HE.out]; simp, by rw [HE.out, prs_app, List.length_append]; exact own_cast (by simp [prs]; omega) hown5, below_app hown (by repeat (first | exact hbw | refine Below.alloc ?_ (by first | omega | (simp; omega)) _ | refine below_drewN' ?_ _ | refine Below.drew ?_)) hg5 (Nat.le_refl _) (by simp; omega)⟩
          case measure => simp [intOf]; omega
      · have HE : Hid (clips ps f t (k + 1) = o) := Lib.hid (by rw [HT.out, if_neg hpos])
        rw [HC.out] at hpos
        clear HT HC
        rcases Int.lt_or_le (t : Int) (a + ps[k].2) with g1 | g1 <;> rcases Int.lt_or_le a (f : Int) with g2 | g2
        all_goals
          go_wp2_with fail
          go_roundw
          case rel => exact ⟨k + 1, A', c', by omega, by go_num, by rw [HS.out], by rw [HE.out], by rw [HE.out]; exact hown.alloc _, (by repeat (first | exact hbw | refine Below.alloc ?_ (by first | omega | (simp; omega)) _ | refine below_drewN' ?_ _ | refine Below.drew ?_))⟩
          case measure => simp [intOf]; omega
    · have hkn : k = ps.length := by omega
      subst hkn
      have hcm := clips_mem ps f t ps.length (Nat.le_refl _)
      have hcu := clips_unf ps HB.out f t ps.length (Nat.le_refl _)
      rw [List.take_of_length_le (Nat.le_refl _)] at hcu
      have hcl := clips_len ps f t ps.length (Nat.le_refl _)
      have HF := Lib.hid (fold_unf (clips ps f t ps.length) hcm)
      have hcs := unf_len _ hcm
      have hu := unf_len ps HB.out
      have hcut := cutL_len (unf ps) f t
      rw [hcu] at HF hcs
      have hcs2 : psum (clips ps f t ps.length) ≤ 1000000000 := by omega
      clear hcs hcut hu hcu
      generalize clips ps f t ps.length = o at *
      go_wp2_with fail
      refine (tidy_any _ _ _ o _ (Row.of_own hown) (by omega) hcm (by omega)).mono ?_
      rintro e w2 ⟨A2, c2, rfl, hown2, hb2⟩
      clear hcm
      go_wp2_with fail
      go_ret
      rw [HF.out]
      exact ⟨A2, c2, rfl, own_weak hown2 hbw.size, below_up hbw hb2⟩

/-- What Cut hands back. -/
def cutOk (f t : Int) : Bool := decide (0 ≤ f) && decide (f ≤ t) && decide (t ≤ 200000)
def cutR (ps : List (Int × Int)) (f t : Int) : List (Int × Int) := if inFault ps = 0 ∧ cutOk f t = true then foldM (cutL (unf ps) f.toNat t.toNat) else []
def cutE (ps : List (Int × Int)) (f t : Int) : Int := if inFault ps = 0 then (if cutOk f t = true then 0 else 1) else inFault ps
theorem cutOk_iff (f t : Int) : cutOk f t = true ↔ 0 ≤ f ∧ f ≤ t ∧ t ≤ 200000 := by simp [cutOk, and_assoc]
theorem cutR_ok {ps : List (Int × Int)} {f t : Int} (h : inFault ps = 0) (h' : cutOk f t = true) : cutR ps f t = foldM (cutL (unf ps) f.toNat t.toNat) := by simp [cutR, h, h']
theorem cutR_bad {ps : List (Int × Int)} {f t : Int} (h : ¬ (inFault ps = 0 ∧ cutOk f t = true)) : cutR ps f t = [] := by simp only [cutR, h, if_false]

set_option maxHeartbeats 1000000 in
theorem cut_any (A : Option Addr) (c lo : Nat) (ps : List (Int × Int)) (f t : Int) (w : World) (hr : Row w lo 2 A ps.length (prs ps)) (hl : ps.length ≤ 1000000000) :
    Calls Tryz.prog 26 #[.slice A ps.length c, .int .i64 f, .int .i64 t] w fun e w' => ∃ A' c', e = .returned (.tuple #[.slice A' (cutR ps f t).length c', .int .i64 (cutE ps f t)]) ∧ Row w' w.heap.size 2 A' (cutR ps f t).length (prs (cutR ps f t)) ∧ Below w.heap.size w w' := by
  go_enter Tryz.func26, Tryz.ntmps26
  go_wp2_with fail
  refine (checkInput_any _ _ _ ps _ hr hl).mono ?_
  rintro e w1 ⟨rfl, hb1⟩
  by_cases h0 : inFault ps = 0
  · obtain ⟨h1, h2, h3⟩ := inFault_ok h0
    have HP := Lib.hid (show ∀ p ∈ ps, 0 ≤ p.2 from fun p hp => by have := h2 p hp; omega)
    have H0 := Lib.hid h0
    have h0' : (inFault ps != 0) = false := by simpa using h0
    rw [h0]
    clear h0 h2 h0'
    go_wp2_with fail
    refine (out_any _ _ _ _).mono ?_
    rintro e w2 ⟨rfl, rfl⟩
    by_cases h4 : 0 ≤ f ∧ f ≤ t
    · have h4' : (decide (f < 0) || decide (t < f)) = false := by simp; omega
      rw [h4']
      clear h4'
      by_cases h5 : t ≤ 200000
      · have HC := Lib.hid ((cutOk_iff f t).2 ⟨h4.1, h4.2, h5⟩)
        obtain ⟨fn, rfl⟩ := Int.eq_ofNat_of_zero_le h4.1
        obtain ⟨tn, rfl⟩ := Int.eq_ofNat_of_zero_le (show 0 ≤ t by omega)
        obtain ⟨h41, h42⟩ := h4
        go_wp2_with fail
        refine (part_any _ _ _ ps fn tn _ (hr.below hb1) (by omega) HP.out (by omega) (by omega) (by omega)).mono ?_
        rintro e w2 ⟨A2, c2, rfl, hown2, hb2⟩
        go_wp2_with fail
        go_ret2
        rw [cutR_ok H0.out HC.out]
        exact ⟨A2, c2, ret2_is rfl (by simp only [cutE, H0.out, HC.out, if_true]; rfl), (Row.of_own hown2).weak hb1.size, below_up hb1 hb2⟩
      · have HC : Hid (¬ cutOk f t = true) := Lib.hid (by rw [cutOk_iff]; omega)
        clear h4
        go_wp2_with fail
        go_ret2
        rw [cutR_bad fun h => HC.out h.2]
        exact ⟨none, 0, ret2_is rfl (by simp only [cutE, H0.out, HC.out, if_true]; rfl), Row.none_ _ _ _ _, hb1⟩
    · have h4' : (decide (f < 0) || decide (t < f)) = true := by simp; omega
      have HC : Hid (¬ cutOk f t = true) := Lib.hid (by rw [cutOk_iff]; omega)
      rw [h4']
      clear h4' h4
      go_wp2_with fail
      go_ret2
      rw [cutR_bad fun h => HC.out h.2]
      exact ⟨none, 0, ret2_is rfl (by simp only [cutE, H0.out, HC.out, if_true]; rfl), Row.none_ _ _ _ _, hb1⟩
  · have h0' : (inFault ps != 0) = true := by simpa using h0
    have H0 := Lib.hid h0
    clear h0
    go_wp2_with fail
    go_ret2
    rw [cutR_bad fun h => H0.out h.1]
    exact ⟨none, 0, ret2_is rfl (by simp only [cutE, H0.out, if_false]; rfl), Row.none_ _ _ _ _, hb1⟩

end Go.Proofs.YtdidcjhgdofgcaaGreatDoor
