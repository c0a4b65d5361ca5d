/- Texts of this seat, laid together: InpI Ck Blk RepF. -/
import Derived.Test.YtoppiafgeeodlaaGreatBu02
/- Small laws of a block that is known whole. -/
namespace Go.Proofs.YtoppiafgeeodlaaGreat
set_option linter.unusedVariables false
set_option linter.unusedSimpArgs false
open Go.RowKit

theorem Blk.thaw {w : World} {g : Nat} {t : TypeId} {cs : Array Value} (h : Blk w g t cs) (i : Nat) : w.frozen? ⟨g, i, none⟩ = false := by
  have h' : w.heap[g]? = some (.cells cs t (0, 0)) := h
  simp [World.frozen?, h']
theorem Blk.poke {w : World} {g : Nat} {t : TypeId} {cs : Array Value} (h : Blk w g t cs) (i : Nat) (u : Value) : Blk (w.setCell ⟨g, i, none⟩ u) g t (cs.setIfInBounds i u) := by
  have h' : w.heap[g]? = some (.cells cs t (0, 0)) := h
  unfold Blk
  simp [World.setCell, Array.getElem?_modify, h']
theorem Blk.past {w : World} {g : Nat} {t : TypeId} {cs : Array Value} (h : Blk w g t cs) (k i : Nat) (u : Value) (hne : g ≠ k) : Blk (w.setCell ⟨k, i, none⟩ u) g t cs := by
  have h' : w.heap[g]? = some (.cells cs t (0, 0)) := h
  unfold Blk
  have hne' : ¬ k = g := fun e => hne e.symm
  simp [World.setCell, Array.getElem?_modify, h', hne']
/-- A row of the call's own stays where another block is written to. -/
theorem own_past {w : World} {base size n g : Nat} {e t : TypeId} {v : Value} {xs : List Value} {cs : Array Value} (h : w.ownsRow base e size v n xs) (hb : Blk w g t cs) (hne : e ≠ t) (i : Nat) (u : Value) : (w.setCell ⟨g, i, none⟩ u).ownsRow base e size v n xs := by
  refine ⟨h.1, ?_⟩
  rcases h.2 with h0 | ⟨g', cap, cur, hv, hg, hh, h3⟩
  · exact .inl h0
  · have hgg : ¬ g = g' := by
      intro e1
      subst e1
      have h' : w.heap[g]? = some (.cells cs t (0, 0)) := hb
      rw [h'] at hh
      injection hh with hh
      injection hh with _ h2
      exact hne h2.symm
    exact .inr ⟨g', cap, cur, hv, hg, by simp [World.setCell, Array.getElem?_modify, hgg, hh], h3⟩
end Go.Proofs.YtoppiafgeeodlaaGreat
/- copy at elements of more than one cell; the walk of slices.Repeat at one pair of numbers. -/
namespace Go.Proofs.YtoppiafgeeodlaaGreat
set_option linter.unusedVariables false
set_option linter.unusedSimpArgs false
open Go.RowKit

theorem run_copy_rowN {P : Program} (w : World) (dT sT ty elem : TypeId) (g o dLen dCap : Nat) (a : Addr) (sLen sCap : Nat) (cur : Array Value) (t : TypeId) (cs : List Value) (size m : Nat)
    (hu : P.underlying dT = some (.slice elem)) (hs : (P.info? elem).map (·.size) = some size)
    (hg : w.heap[g]? = some (.cells cur t (0, 0))) (hm : m = Nat.min sLen dLen) (hn : cs.length = m * size)
    (hsrc : ∀ j v, cs[j]? = some v → w.cell? (a.add j) = some v) (hfit : o + cs.length ≤ cur.size) (h1 : ∀ v ∈ cs, v.oneCell' = true) :
    (Builtin.copy_ #[dT, sT] ty #[.slice (some ⟨g, o, none⟩) dLen dCap, .slice (some a) sLen sCap]).run P w =
      .ok (goInt m) (w.setRow g (cur.toList.take o ++ cs ++ cur.toList.drop (o + cs.length)).toArray) := by
  have hl := run_loadCells_list (P := P) w a cs hsrc
  have hst := run_storeCells_at P g o t cs 0 cur w hg (by simpa using hfit) h1
  cases hq : P.info? elem with
  | none => simp [hq] at hs
  | some i =>
    have hi : i.size = size := by simpa [hq] using hs
    rw [hn] at hl
    subst hm
    simp [Builtin.copy_, run_underlying hu, Builtin.lenOf, Builtin.firstCells, sizeOf, typeInfo, hq, hi, hl, hst]

theorem wpList_copyN {P : Program} {w : World} {ops : Array Oper} {rest : List Oper} {o : Oper} {a : Act} {Q : Exit → Act → World → Prop} (hgd : o.guard = none) (d s : Operand) (dT sT : TypeId)
    (ho : o.op = .call { callee := .builtin .copy, args := #[d, s], argTypes := #[dT, sT] }) (elem : TypeId) (size m : Nat) (hu : P.underlying dT = some (.slice elem)) (hsz : (P.info? elem).map (·.size) = some size)
    (g off dLen dCap : Nat) (ad : Addr) (sLen sCap : Nat) (hd : a.eval d = .slice (some ⟨g, off, none⟩) dLen dCap) (hs : a.eval s = .slice (some ad) sLen sCap)
    (cur : List Value) (t : TypeId) (hg : w.heap[g]? = some (.cells cur.toArray t (0, 0))) (cs : List Value) (hm : m = Nat.min sLen dLen) (hn : cs.length = m * size)
    (hsrc : ∀ j v, cs[j]? = some v → w.cell? (ad.add j) = some v) (hfit : off + cs.length ≤ cur.length) (h1 : ∀ v ∈ cs, v.oneCell' = true) (B : Nat) (w0 : World) (hb : Below B w0 w) (hBg : B ≤ g)
    (h : ∀ w', Hid (w'.heap[g]? = some (.cells (splice cur off cs).toArray t (0, 0))) → Below B w0 w' → wpList P ops Q rest (a.put o.dst (goInt m)) w') : wpList P ops Q (o :: rest) a w := by
  refine wpList_plain hgd fun K hK => ?_
  have hrun := run_copy_rowN (P := P) w dT sT o.type elem g off dLen dCap ad sLen sCap cur.toArray t cs size m hu hsz hg hm hn hsrc (by simpa using hfit) h1
  unfold Oper.wp
  simp [execOp, ho, resolve, invoke, builtin, hd, hs, hrun, Result.andThen]
  exact hK _ _ (h _ (show _ = _ by simpa [splice] using setRow_heap w g _ _ t _ hg) (below_setRow hb hBg _))
theorem step_copyN {P : Program} {ops : Array Oper} {o : Oper} {a : Act} {w : World} {K : Act → World → Prop} {Q : Exit → Act → World → Prop} {E : Prop} (hgd : o.guard = none) (d s : Operand) (dT sT : TypeId)
    (ho : o.op = .call { callee := .builtin .copy, args := #[d, s], argTypes := #[dT, sT] }) (elem : TypeId) (size m : Nat) (hu : P.underlying dT = some (.slice elem)) (hsz : (P.info? elem).map (·.size) = some size)
    (g off dLen dCap : Nat) (ad : Addr) (sLen sCap : Nat) (hd : a.eval d = .slice (some ⟨g, off, none⟩) dLen dCap) (hs : a.eval s = .slice (some ad) sLen sCap)
    (cur : List Value) (t : TypeId) (hg : w.heap[g]? = some (.cells cur.toArray t (0, 0))) (cs : List Value) (hm : m = Nat.min sLen dLen) (hn : cs.length = m * size)
    (hsrc : ∀ j v, cs[j]? = some v → w.cell? (ad.add j) = some v) (hfit : off + cs.length ≤ cur.length) (h1 : ∀ v ∈ cs, v.oneCell' = true) (B : Nat) (w0 : World) (hb : Below B w0 w) (hBg : B ≤ g)
    (h : ∀ w', Hid (w'.heap[g]? = some (.cells (splice cur off cs).toArray t (0, 0))) → Below B w0 w' → K (a.put o.dst (goInt m)) w') :
    if Region.wanted o (yielded ops a.tmps) = true then Oper.wp P o a w K Q else E := by
  have hw : Region.wanted o (yielded ops a.tmps) = true := by simp [Region.wanted, hgd]
  rw [if_pos hw]
  have hrun := run_copy_rowN (P := P) w dT sT o.type elem g off dLen dCap ad sLen sCap cur.toArray t cs size m hu hsz hg hm hn hsrc (by simpa using hfit) h1
  unfold Oper.wp
  simp [execOp, ho, resolve, invoke, builtin, hd, hs, hrun, Result.andThen]
  exact h _ (show _ = _ by simpa [splice] using setRow_heap w g _ _ t _ hg) (below_setRow hb hBg _)

theorem prs_cons (p : Int × Int) (ps : List (Int × Int)) : prs (p :: ps) = .int .i64 p.1 :: .int .i64 p.2 :: prs ps := rfl
theorem prs_take (ps : List (Int × Int)) (k : Nat) : (prs ps).take (k * 2) = prs (ps.take k) := by
  induction ps generalizing k with
  | nil => simp [prs]
  | cons p ps ih =>
    cases k with
    | zero => rfl
    | succ k =>
      have e : (k + 1) * 2 = k * 2 + 1 + 1 := by omega
      rw [prs_cons, e, List.take_succ_cons, List.take_succ_cons, ih, List.take_succ_cons, prs_cons]
theorem prs_drop (ps : List (Int × Int)) (k : Nat) : (prs ps).drop (k * 2) = prs (ps.drop k) := by
  induction ps generalizing k with
  | nil => simp [prs]
  | cons p ps ih =>
    cases k with
    | zero => rfl
    | succ k =>
      have e : (k + 1) * 2 = k * 2 + 1 + 1 := by omega
      rw [prs_cons, e, List.drop_succ_cons, List.drop_succ_cons, ih, List.drop_succ_cons]
theorem prs_splice (ps qs : List (Int × Int)) (k : Nat) : splice (prs ps) (k * 2) (prs qs) = prs (splice ps k qs) := by
  unfold splice
  rw [prs_take, prs_len, ← Nat.add_mul, prs_drop, prs_app, prs_app]
def repP (p : Int × Int) (n k : Nat) : List (Int × Int) := List.replicate k p ++ List.replicate (n - k) (0, 0)
theorem repP_len (p : Int × Int) (n k : Nat) (hk : k ≤ n) : (repP p n k).length = n := by simp [repP]; omega
theorem repP_splice (p : Int × Int) (n k m : Nat) (_ : k + m ≤ n) : splice (repP p n k) k (List.replicate m p) = repP p n (k + m) := by
  unfold splice repP
  rw [List.take_left' (by simp), List.length_replicate, List.drop_append, List.drop_replicate, List.drop_replicate, List.length_replicate]
  have e1 : k - (k + m) = 0 := by omega
  have e2 : k + m - k = m := by omega
  have e3 : n - k - m = n - (k + m) := by omega
  rw [e1, e2, e3, List.replicate_zero, List.nil_append, ← List.append_assoc, List.replicate_append_replicate]
theorem repP_full (p : Int × Int) (n : Nat) : repP p n n = List.replicate n p := by simp [repP]
def repC (p : Int × Int) (n k : Nat) : List Value := prs (repP p n k)
def repS (p : Int × Int) (m : Nat) : List Value := prs (List.replicate m p)
theorem repC_len (p : Int × Int) (n k : Nat) (hk : k ≤ n) : (repC p n k).length = n * 2 := by rw [repC, prs_len, repP_len p n k hk]
theorem repS_len (p : Int × Int) (m : Nat) : (repS p m).length = m * 2 := by rw [repS, prs_len, List.length_replicate]
theorem repC_splice (p : Int × Int) (n k m : Nat) (h : k + m ≤ n) : splice (repC p n k) (k * 2) (repS p m) = repC p n (k + m) := by rw [repC, repS, prs_splice, repP_splice p n k m h, repC]
theorem repC_none (p : Int × Int) (n : Nat) : repC p n 0 = (madeCells #[.int .i64 0, .int .i64 0] (n * 2)).toList := by
  apply List.ext_getElem?
  intro j
  by_cases hj : j < n * 2
  · have h1 : (repC p n 0)[j]? = some (.int .i64 0) := by
      have h0 : repC p n 0 = List.replicate (n * 2) (.int .i64 0) := by
        rw [repC, repP]
        simp only [List.replicate_zero, List.nil_append, Nat.sub_zero]
        clear hj
        induction n with
        | zero => rfl
        | succ n ih =>
          have e : (n + 1) * 2 = n * 2 + 1 + 1 := by omega
          rw [List.replicate_succ, prs_cons, ih, e, List.replicate_succ, List.replicate_succ]
      rw [h0, List.getElem?_replicate, if_pos hj]
    rw [h1]
    have h2 : ((madeCells #[Value.int .i64 0, Value.int .i64 0] (n * 2)).toList)[j]? = some (#[Value.int .i64 0, Value.int .i64 0][j % 2]!) := by
      simp [madeCells, hj]
    rw [h2]
    have : j % 2 = 0 ∨ j % 2 = 1 := by omega
    rcases this with h | h <;> rw [h] <;> rfl
  · rw [List.getElem?_eq_none (by rw [repC_len p n 0 (by omega)]; omega), List.getElem?_eq_none (by simp [size_madeCells]; omega)]
theorem own_wholeN {w : World} {base : Nat} {e : TypeId} {g n size : Nat} {xs : List Value} (h : w.ownsRow base e size (.slice (some ⟨g, 0, none⟩) n n) n xs) : w.heap[g]? = some (.cells xs.toArray e (0, 0)) := by
  rcases h.2 with ⟨h0, _⟩ | ⟨g', cap, cur, hv, hg, hh, hcap, hm, hcs, ht⟩
  · cases h0
  · injection hv with h1 _ h3
    injection h1 with h1
    injection h1 with h1
    subst h1 h3
    rw [hh]
    rw [List.take_of_length_le (by simp [hcs])] at ht
    subst ht
    simp
theorem own_of_wholeN {w : World} {base : Nat} {e : TypeId} {g n size : Nat} {xs : List Value} (h : w.heap[g]? = some (.cells xs.toArray e (0, 0))) (hx : xs.length = n * size) (hb : base ≤ g) (hm : n ≤ 9223372036854775807) : w.ownsRow base e size (.slice (some ⟨g, 0, none⟩) n n) n xs :=
  ⟨hx, .inr ⟨g, n, xs.toArray, rfl, hb, h, Nat.le_refl _, by simp only [maxLen]; omega, by simp [hx], by rw [List.take_of_length_le (by simp [hx])]⟩⟩
theorem repC_src {w : World} {g : Nat} {e : TypeId} (p : Int × Int) (n k j : Nat) (v : Value) (m : Nat) (hm : m ≤ k) (hr : w.heap[g]? = some (.cells (repC p n k).toArray e (0, 0))) (hv : (repS p m)[j]? = some v) : w.cell? ((⟨g, 0, none⟩ : Addr).add j) = some v := by
  refine World.news_of_block hr j v ?_
  have e1 : repS p m = (repC p n k).take (m * 2) := by
    rw [repS, repC, prs_take, repP, List.take_append_of_le_length (by simp; omega), List.take_replicate]
    congr 2
    omega
  rw [e1] at hv
  have := (List.getElem?_eq_some_iff.1 hv).1
  rw [List.getElem?_take_of_lt (by simp at this; omega)] at hv
  simpa using hv
theorem sz_far : (Tryz.prog.info? 136).map (·.size) = some 2 := by kernel_rfl
theorem ty_fars : SliceTy Tryz.prog 140 136 2 16 := .mk' Tryz.underlying140 (z := .agg #[.int .i64 0, .int .i64 0]) (by kernel_rfl) rfl (by decide)
set_option maxRecDepth 100000 in
set_option maxHeartbeats 1000000 in
theorem repeatF_any (A : Option Addr) (c lo : Nat) (p : Int × Int) (n : Nat) (w : World) (hr : Row w lo 2 A 1 (prs [p])) (hn : n ≤ 1000000000) (hn1 : 1 ≤ n) :
    Calls Tryz.prog 105 #[.slice A 1 c, .int .i64 n] w fun e w' => ∃ A' c', e = .returned (.slice A' n c') ∧ w'.ownsRow w.heap.size 136 2 (.slice A' n c') n (prs (List.replicate n p)) ∧ Below w.heap.size w w' := by
  obtain ⟨und, ⟨i0, z0, hi0, hz0, hz1, hz2, hz3⟩, _⟩ := ty_fars
  have hz0' : z0 = .agg #[.int .i64 0, .int .i64 0] := by
    have : (Tryz.prog.info? 136).map (fun i => i.zero) = some (some (.agg #[.int .i64 0, .int .i64 0])) := by kernel_rfl
    rw [hi0] at this
    simp [hz0] at this
    exact this
  subst hz0'
  obtain ⟨sb, so, rfl, _, hsb, hsc⟩ := hr.2 (by omega)
  have hd0 : decide ((n : Int) < 0) = false := by simp
  have hd1 : decide ((9223372036854775807 : Int) < (n : Int)) = false := by simp; omega
  go_enter Tryz.func105, Tryz.ntmps105
  go_wp2_with fail
  refine (mul_one' n hn _).mono ?_
  rintro e w' ⟨rfl, rfl⟩
  go_wp2_with (first | (at_make; go_must (refine wpList_make_full _ rfl _ _ 140 rfl w.heap.size 136 i0 _ 2 und hi0 hz0 hz1 .i64 .i64 _ _ n rfl rfl rfl rfl (by rw [hz2]; omega) (by simp only [maxLen]; omega) (Nat.le_refl _) ?_)))
  intro w1 hown1 hg1
  rw [← repC_none p n] at hown1
  have HR0 := Lib.hid (own_wholeN hown1)
  have hb1 : Below w.heap.size w w1 := below_of_grown hg1 (Nat.le_refl _) (fun k hk => by cases hk)
  have hr1 := hr.below hb1
  have hl0 := repC_len p n 0 (by omega)
  have hs1 : ∀ j v, (repS p 1)[j]? = some v → w1.cell? ((⟨sb, so, none⟩ : Addr).add j) = some v := by
    intro j v hv
    have e : (⟨sb, so, none⟩ : Addr).add j = ⟨sb, so + j, none⟩ := by unfold Addr.add; split <;> simp_all
    rw [e, World.cell?_of_block (hb1.block sb hsb)]
    exact hsc j v hv
  have HS := Lib.hid hs1
  clear hown1 hs1 hsc
  go_wp2_with (refine wpList_copyN rfl (.tmp 31) (.tmp 32) 140 140 rfl 136 2 1 und sz_far w.heap.size 0 n n ⟨sb, so, none⟩ 1 c rfl rfl (repC p n 0) 136 HR0.out (repS p 1) (by simp only [Nat.min_def]; split <;> omega) (repS_len _ _) HS.out (by rw [repS_len]; omega) (prs_one _) w.heap.size w hb1 (Nat.le_refl _) ?_)
  intro w2 HR1 hb2
  have HR2 : Hid (w2.heap[w.heap.size]? = some (.cells (repC p n 1).toArray 136 (0, 0))) := by
    have h1 := HR1.out
    rw [show (0 : Nat) = 0 * 2 from rfl, repC_splice p n 0 1 (by omega), Nat.zero_add] at h1
    exact Lib.hid h1
  clear HR1 HR0 hl0 HS hr hr1
  go_wp2_with fail
  go_loopw [8] (fun i wr => ∃ k : Nat, k ≤ n ∧ 0 < k ∧ i = .int .i64 k ∧ Hid (wr.heap[w.heap.size]? = some (.cells (repC p n k).toArray 136 (0, 0))) ∧ Below w.heap.size w wr) (fun i _ => n - (intOf i).toNat)
  case atStart => exact ⟨1, by omega, by omega, rfl, HR2, hb2⟩
  case round =>
    obtain ⟨k, hk, hk1, rfl, HR, hbw⟩ := hrel
    by_cases hlt : k < n
    · have hl1 := repC_len p n k hk
      have HL1 := Lib.hid hl1
      clear hl1
      have hnk : ¬ n = k := by omega
      have hw1 : IntKind.i64.wrap ((k : Int) + ((min k (n - k) : Nat) : Int)) = (k : Int) + ((min k (n - k) : Nat) : Int) := IntWalk.i64_in _ ⟨by omega, by omega⟩
      generalize hm : min k (n - k) = m at hw1
      have HM := Lib.hid hm
      clear hm
      go_wp2_with fail
      go_region_law (refine step_copyN rfl (.tmp 41) (.tmp 44) 140 140 rfl 136 2 m und sz_far w.heap.size (k * 2) (n - k) (n - k) ⟨w.heap.size, 0, none⟩ k n (by simp [Act.eval, Act.put, hnk]) (by simp [Act.eval, Act.put]) (repC p n k) 136 HR.out (repS p m) (by have := HM.out; simp only [Nat.min_def] at this ⊢; exact this.symm) (repS_len _ _) (fun j v hv => repC_src p n k j v m (by have := HM.out; omega) HR.out hv) (by rw [repS_len, HL1.out]; have := HM.out; omega) (prs_one _) w.heap.size w hbw.drew (Nat.le_refl _) ?_; intro w3 HR3 hb3)
      have HR4 : Hid (w3.heap[w.heap.size]? = some (.cells (repC p n (k + m)).toArray 136 (0, 0))) := by
        have h1 := HR3.out
        rw [repC_splice p n k m (by have := HM.out; omega)] at h1
        exact Lib.hid h1
      clear HR3
      go_wp2_with fail
      go_frame
      clear hw1
      have := HM.out
      go_roundw
      case rel =>
        refine ⟨_, _, _, _, _, _, _, _, _, _, _, _, _, _, ?_, rfl⟩
        exact ⟨k + m, by omega, by omega, by simp, HR4, hb3⟩
      case measure => simp [intOf]; omega
    · have hkn : k = n := by omega
      subst hkn
      go_wp2_with fail
      go_ret
      refine ⟨_, _, rfl, ?_, hbw⟩
      have := own_of_wholeN (base := w.heap.size) (size := 2) HR.out (repC_len _ _ _ (Nat.le_refl _)) (Nat.le_refl _) (by omega)
      rw [repC, repP_full] at this
      exact this
end Go.Proofs.YtoppiafgeeodlaaGreat
