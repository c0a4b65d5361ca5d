/- The walks of what folds and unfolds an input: frames, pieces, what is held in a frame. -/
import Derived.Test.YtnlblgkoecnfmaaDoorInpA
import Derived.Test.YtnlblgkoecnfmaaDoorRep
namespace Go.Proofs.YtnlblgkoecnfmaaDoor
set_option linter.unusedVariables false
set_option linter.unusedSimpArgs false
open Go.RowKit

theorem ints_rep (n : Nat) (h : Int) : List.replicate n (Value.int .i64 h) = ints (List.replicate n h) := by simp [ints]

set_option maxHeartbeats 1000000 in
theorem unfolded_any (A : Option Addr) (c lo : Nat) (ps : List (Int × Int)) (w : World) (hr : Row w lo 2 A ps.length (prs ps)) (hl : ps.length ≤ 1000000000) (hb : ∀ p ∈ ps, 0 ≤ p.2) (hs : psum ps ≤ 1000000000) :
    Calls Tryd.prog 18 #[.slice A ps.length c] w fun e w' => ∃ A' c', e = .returned (.slice A' (unf ps).length c') ∧ w'.ownsRow w.heap.size 3 1 (.slice A' (unf ps).length c') (unf ps).length (ints (unf ps)) ∧ Below w.heap.size w w' := by
  go_enter Tryd.func18, Tryd.ntmps18
  go_wp2_with fail
  go_loopw [3, 8] (fun v i wr => ∃ (k : Nat) (A' : Option Addr) (c' : Nat), k ≤ ps.length ∧ i = .int .i64 k ∧ v = .slice A' (unf (ps.take k)).length c' ∧ wr.ownsRow w.heap.size 3 1 (.slice A' (unf (ps.take k)).length c') (unf (ps.take k)).length (ints (unf (ps.take k))) ∧ Below w.heap.size w wr) (fun _ i _ => ps.length - (intOf i).toNat)
  case atStart => exact ⟨0, none, 0, Nat.zero_le _, rfl, rfl, World.ownsRow_nil _ _ _ _, Below.refl _ _⟩
  case round =>
    obtain ⟨k, A', c', hk, rfl, rfl, hown, hbw⟩ := hrel
    by_cases hlt : k < ps.length
    · obtain ⟨b, off, rfl, _, hbs, c0, c1⟩ := (hr.below hbw).pr_at hlt
      have HT := Lib.hid (unf_take ps k hlt)
      have hb0 := hb ps[k] (List.getElem_mem _)
      obtain ⟨n, hn⟩ := Int.eq_ofNat_of_zero_le hb0
      have hu := unf_len (ps.take k) (fun p hp => hb p (List.mem_of_mem_take hp))
      have hps2 := psum_take_le ps (k + 1) hb
      have hps := psum_take_le ps k hb
      rw [psum_take ps k hlt, hn] at hps2
      rw [hn] at c1
      rw [← hu] at hps hps2
      clear hu
      have HT2 : Hid (unf (ps.take (k + 1)) = unf (ps.take k) ++ List.replicate n ps[k].1) := Lib.hid (by rw [HT.out, hn]; rfl)
      clear HT hn hb0
      generalize unf (ps.take k) = o at *
      generalize ps[k].1 = x at *
      have hz := hbw.size
      go_wp2_with fail
      refine (repeat_any _ _ w.heap.size x n _ (by first | exact row_new' _ (by first | rfl | simp) (by first | omega | (simp; omega)) rfl | exact row_newN _ _ (by first | rfl | simp) (by first | omega | (simp; omega)) rfl | exact row_newD _ (by first | rfl | simp) (by first | omega | (simp; omega)) rfl) (by omega)).mono ?_
      rintro e w2 ⟨A2, c2, rfl, hown2, hb2⟩
      have hbw2 : Below w.heap.size w w2 := Below.trans (by repeat (first | exact hbw | refine Below.alloc ?_ (by first | omega | (simp; omega)) _ | refine below_drewN' ?_ _ | refine Below.drew ?_)) (hb2.mono (by simp; omega))
      have hown3 : w2.ownsRow w.heap.size 3 1 (.slice A' o.length c') o.length (ints o) := own_keep (by repeat (first | exact hown | refine World.ownsRow.alloc ?_ _ | refine own_drewN ?_ _ | refine World.ownsRow.drew ?_)) hb2
      have hrow := Row.of_own hown2
      have hz2 := hbw2.size
      go_wp2_with (at_builtin; go_must (refine wpList_app _ _ rfl _ _ ty_ints rfl hown3 rfl hrow rfl (by rw [ints_rep]; exact ints_all _) (by omega) (by omega) hz2 ?_))
      intro A5 c5 w5 hown5 hg5 _
      go_wp2_with fail
      go_roundw
      case rel => exact ⟨k + 1, A5, c5, by omega, by go_num, by rw [HT2.out]; simp, by rw [HT2.out, ints_app, ← ints_rep, List.length_append, List.length_replicate]; exact hown5, below_app hown3 hbw2 hg5 (Nat.le_refl _) hz2⟩
      case measure => simp [intOf]; omega
    · have ht : ps.take k = ps := List.take_of_length_le (by omega)
      rw [ht] at hown
      rw [ht]
      clear ht
      go_wp2_with fail
      go_ret
      exact ⟨A', c', rfl, hown, hbw⟩

/-- The last piece of what is folded holds what the last frame holds. -/
theorem fadd_last (out : List (Int × Int)) (h n : Int) (hn : n ≠ 0) : (fadd out h n).getLast?.map (·.1) = some h := by
  unfold fadd
  simp only [hn, if_false]
  cases hl : out.getLast? with
  | none => simp
  | some q => by_cases hq : q.1 = h <;> simp [hq]
theorem foldM_last (l : List Int) (k : Nat) (hk : k < l.length) : (foldM (l.take (k + 1))).getLast?.map (·.1) = some l[k] := by
  rw [foldM_take l k hk]; exact fadd_last _ _ _ (by omega)
theorem last_at {o : List (Int × Int)} {h : Int} (hl : o.getLast?.map (·.1) = some h) : ∃ hj : o.length - 1 < o.length, (o[o.length - 1]'hj).1 = h := by
  cases ho : o.getLast? with
  | none => rw [ho] at hl; cases hl
  | some q =>
    rw [ho] at hl
    simp at hl
    have hne : o ≠ [] := by intro h0; simp [h0] at ho
    have hj : o.length - 1 < o.length := by have := List.length_pos_iff.2 hne; omega
    refine ⟨hj, ?_⟩
    rw [List.getLast?_eq_getElem?, List.getElem?_eq_getElem hj] at ho
    injection ho with ho
    rw [ho, hl]
theorem foldM_pos (l : List Int) : ∀ p ∈ foldM l, 0 ≤ p.2 := by
  suffices H : ∀ out : List (Int × Int), (∀ p ∈ out, 0 ≤ p.2) → ∀ p ∈ l.foldl (fun o h => fadd o h 1) out, 0 ≤ p.2 from H [] (by simp)
  induction l with
  | nil => intro out ho; simpa using ho
  | cons p ps ih =>
    intro out ho
    rw [List.foldl_cons]
    exact ih _ (fadd_mem (by omega) ho)
theorem foldM_psum (l : List Int) : psum (foldM l) = l.length := by
  suffices H : ∀ out : List (Int × Int), psum (l.foldl (fun o h => fadd o h 1) out) = psum out + l.length from by have := H []; rw [psum_nil, Int.zero_add] at this; exact this
  induction l with
  | nil => intro out; simp
  | cons p ps ih =>
    intro out
    rw [List.foldl_cons, ih, fadd_psum]
    simp
    omega

end Go.Proofs.YtnlblgkoecnfmaaDoor
