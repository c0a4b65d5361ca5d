/- Texts of this seat, laid together: Bw. -/
import Derived.RangeFuncNested
import Derived.RangeFuncBound
import Derived.RangeFuncCalls
import Derived.RangeFuncLeaves
import Derived.Shelf.Abstract
import Derived.Shelf.RegionOpen
import Derived.WalkKit
import Derived.OwnWalkIn
import Derived.TacticsInMore
import Derived.LoopNIn
import Derived.LoopIn
import Derived.Test.YtagghmfhfboejaaGreatDoorBu49
/- The library's iterator that goes through a slice of attempts from its end: its contract for every loop body that keeps what lay below a bound. -/
namespace Go.Proofs.YtagghmfhfboejaaGreatDoor
set_option linter.unusedVariables false
set_option linter.unusedSimpArgs false
open Go.RowKit Go.Shelf

attribute [local go_sem] Oper.semAt_some

/-- What has come when k rounds are over: the last place first. -/
def downK (len k : Nat) : List Nat := (List.range k).map fun j => len - 1 - j
theorem downK_succ (len k : Nat) : downK len (k + 1) = downK len k ++ [len - 1 - k] := by simp [downK, List.range_succ]
theorem downK_len (len k : Nat) : (downK len k).length = k := by simp [downK]
set_option maxRecDepth 100000 in
set_option maxHeartbeats 2000000 in
theorem backward1_in (F : Fence) (n : Nat) (hf : F.fn 104) (hro : F.round = none) (hn : 1 ≤ n) (l Bs n₀ b off len cap : Nat) (v0 v1 : Nat → Value) (hlen : len ≤ 1000000) (hb : b < n₀) (hBn : Bs < n₀) (J Jx : List Nat → World → Prop)
    (hY : ∀ (pre : List Nat) (x : Nat) (W : World), J pre W → pre.length < len → YieldAt F (n - 1) Tryz.prog l #[.int .i64 (x : Int), .agg #[v0 x, v1 x]] W fun e W' =>
      (e = .returned (.bool true) ∧ J (pre ++ [x]) W' ∧ Below n₀ W W') ∨ (e = .returned (.bool false) ∧ Jx (pre ++ [x]) W'))
    (W : World) (hBs : W.cell? ⟨Bs, 0, none⟩ = some (.slice (some ⟨b, off, none⟩) len cap)) (hc : ∀ j, j < len → W.cell? ⟨b, off + j * 2, none⟩ = some (v0 j) ∧ W.cell? ⟨b, off + j * 2 + 1, none⟩ = some (v1 j)) (h0 : J [] W) :
    CallsIn F n Tryz.prog 104 #[.func (.yield l) #[] #[], .pointer (some ⟨Bs, 0, none⟩)] W fun e W' => (∃ v, e = .returned v) ∧
      ((∃ ys, ys = downK len len ∧ J ys W') ∨ (∃ pre, (∃ k, k ≤ len ∧ pre = downK len k) ∧ Jx pre W')) := by
  refine callsIn_of_wp Tryz.func104 rfl hf ?_ hro
  simp only [Tryz.ntmps104, List.size_toArray, List.length_cons, List.length_nil, Nat.reduceAdd, Nat.reduceSub, Array.replicate_succ, Array.replicate_zero, List.push_toArray, List.append_toArray, List.nil_append, List.cons_append]
  have wl : IntKind.i64.wrap ((len : Int) - 1) = (len : Int) - 1 := IntWalk.i64_in _ ⟨by omega, by omega⟩
  gi_wp2
  gi_loopw [3] (fun i wr => ∃ k : Nat, k ≤ len ∧ i = .int .i64 ((len : Int) - 1 - k) ∧ J (downK len k) wr ∧ Below n₀ W wr)
    (fun i _ => (intOf i + 1).toNat)
  case atStart => exact ⟨0, Nat.zero_le _, by simp, h0, Below.refl _ _⟩
  case round =>
    obtain ⟨k, hk, rfl, hJs, hnx⟩ := hrel
    by_cases hlt : k < len
    · obtain ⟨m, hm⟩ : ∃ m, m + k + 1 = len := ⟨len - 1 - k, by omega⟩
      have e1 : (len : Int) - 1 - k = (m : Int) := by omega
      have e2 : len - 1 - k = m := by omega
      obtain ⟨c0, c1⟩ := hc m (by omega)
      have hcx := (hnx.cell (p := ⟨b, off + m * 2, none⟩) hb).trans c0
      have hcy := (hnx.cell (p := ⟨b, off + m * 2 + 1, none⟩) hb).trans c1
      have hbx := (hnx.cell (p := ⟨Bs, 0, none⟩) hBn).trans hBs
      obtain ⟨fn, tmps, assign, body, hy, hR⟩ := hY _ m wr hJs (by rw [downK_len]; exact hlt)
      rw [e1]
      have hml : m < len := by omega
      have d0 : decide ((0 : Int) ≤ (m : Int)) = true := decide_eq_true (by omega)
      have wm : IntKind.i64.wrap ((m : Int) - 1) = (m : Int) - 1 := IntWalk.i64_in _ ⟨by omega, by omega⟩
      clear e1 c0 c1 wl
      gi_wp2
      refine hR.mono ?_
      rintro e W3 (⟨rfl, hJ3, hk3⟩ | ⟨rfl, hJx3⟩)
      · gi_wp2
        go_roundw
        case rel => exact ⟨k + 1, by omega, by first | (congr 1; omega) | omega, by rw [downK_succ, e2]; exact hJ3, hnx.trans hk3⟩
        case measure => simp [intOf]
      · gi_wp2
        refine bodyPost_ret (results_none rfl _ _ _) rfl ?_
        exact ⟨⟨_, rfl⟩, .inr ⟨_, ⟨k + 1, by omega, by rw [downK_succ, e2]⟩, hJx3⟩⟩
    · obtain rfl : k = len := by omega
      have e1 : (k : Int) - 1 - k = -1 := by omega
      rw [e1]
      clear wl e1
      gi_wp2
      go_end0
      exact ⟨⟨_, rfl⟩, .inl ⟨_, rfl, hJs⟩⟩
set_option maxRecDepth 100000 in
set_option maxHeartbeats 1000000 in
theorem backward1_nil (F : Fence) (n : Nat) (hf : F.fn 104) (hro : F.round = none) (l Bs cap : Nat) (A : Option Addr) (J : List Nat → World → Prop) (W : World) (hBs : W.cell? ⟨Bs, 0, none⟩ = some (.slice A 0 cap)) (h0 : J [] W) :
    CallsIn F n Tryz.prog 104 #[.func (.yield l) #[] #[], .pointer (some ⟨Bs, 0, none⟩)] W fun e W' => (∃ v, e = .returned v) ∧ J [] W' := by
  refine callsIn_of_wp Tryz.func104 rfl hf ?_ hro
  simp only [Tryz.ntmps104, List.size_toArray, List.length_cons, List.length_nil, Nat.reduceAdd, Nat.reduceSub, Array.replicate_succ, Array.replicate_zero, List.push_toArray, List.append_toArray, List.nil_append, List.cons_append]
  gi_wp2
  gi_loopw [3] (fun i wr => i = .int .i64 (-1) ∧ J [] wr) (fun _ _ => 0)
  case atStart => exact ⟨rfl, h0⟩
  case round =>
    obtain ⟨rfl, hJs⟩ := hrel
    gi_wp2
    go_end0
    exact ⟨⟨_, rfl⟩, hJs⟩
theorem backward_stops (F : Fence) (n : Nat) (hf : F.fn 104) (hro : F.round = none) (hn : 1 ≤ n) (Bs n₀ len cap : Nat) (A : Option Addr) (v0 v1 : Nat → Value) (hlen : len ≤ 1000000) (w : World) (hBn : Bs < n₀) (hn₀ : n₀ ≤ w.heap.size)
    (hBs : w.cell? ⟨Bs, 0, none⟩ = some (.slice A len cap)) (hc : 0 < len → ∃ b off, A = some ⟨b, off, none⟩ ∧ b < n₀ ∧ ∀ j, j < len → w.cell? ⟨b, off + j * 2, none⟩ = some (v0 j) ∧ w.cell? ⟨b, off + j * 2 + 1, none⟩ = some (v1 j)) :
    SeqStopsK F n Tryz.prog 104 #[.pointer (some ⟨Bs, 0, none⟩)] (fun x : Nat => #[.int .i64 (x : Int), .agg #[v0 x, v1 x]]) (Below n₀) (fun ys => ys = downK len len) (fun pre => ∃ k, k ≤ len ∧ pre = downK len k) len w := fun l J Jx W hW _ _ hY h0 => by
  have hBs' := (hW.cell (p := ⟨Bs, 0, none⟩) (Nat.lt_of_lt_of_le hBn hn₀)).trans hBs
  rcases Nat.eq_zero_or_pos len with hz | hz
  · subst hz
    exact (backward1_nil F n hf hro l Bs cap A J W hBs' h0).mono fun e W' ⟨he, hj⟩ => ⟨he, .inl ⟨_, rfl, hj⟩⟩
  · obtain ⟨b, off, rfl, hb, hcs⟩ := hc hz
    exact backward1_in F n hf hro hn l Bs n₀ b off len cap v0 v1 hlen hb hBn J Jx hY W hBs' (fun j hj => ⟨(hW.cell (p := ⟨b, _, none⟩) (Nat.lt_of_lt_of_le hb hn₀)).trans (hcs j hj).1, (hW.cell (p := ⟨b, _, none⟩) (Nat.lt_of_lt_of_le hb hn₀)).trans (hcs j hj).2⟩) h0
theorem backward_any (A : Option Addr) (len cap : Nat) (w : World) :
    Calls Tryz.prog 76 #[.slice A len cap] w fun e w' => e = .returned (.func (.func 104) #[] #[.pointer (some ⟨w.heap.size, 0, none⟩)]) ∧ w' = w.alloc (.cells #[.slice A len cap] 27) := by
  go_enter Tryz.func76, Tryz.ntmps76
  go_wp2_with fail
  go_ret
  exact ⟨rfl, rfl⟩
/-! ### a function that holds a range over a function -/
/-- What the body must achieve: no panic, marks and all. -/
def bodyPostR (P : Program) (fn : Func) (R : Ending → World → Prop) : Exit → Act → World → Prop
  | .normal, a, w | .ret, a, w => LeavesInM Fence.wide 9 P fn a.tmps R a.defers .returning w
  | _, _, _ => False
theorem calls_of_wp_M {P : Program} {f : FuncId} {fn : Func} {c : Code} {args : Array Value} {w : World} {R : Ending → World → Prop} (hf : P.funcs[f]? = some fn) (hb : fn.body = some c)
    (h : c.wp P (bodyPostR P fn R) { tmps := args ++ Array.replicate (fn.ntmps - args.size) undef, defers := [] } w) : Calls P f args w R :=
  callsIn_wide.1 (callsIn_of_wp_marks (F := Fence.wide) (n := 9) hf hb trivial (wpIn_wide.2 (wp_mono h (fun e a w hq => by
    cases e <;> first | exact hq | exact hq.elim))))
theorem bodyM_of {P : Program} {fn : Func} {R : Ending → World → Prop} {a : Act} {w : World} (h : bodyPost P fn R .ret a w) : bodyPostR P fn R .ret a w := by
  obtain ⟨hd, v, hv, hR⟩ := h
  show LeavesInM Fence.wide 9 P fn a.tmps R a.defers .returning w
  rw [hd]
  exact ⟨v, hv, hR⟩
/-- The way out of a function behind a range over a function. -/
theorem bodyM_mark {P : Program} {fn : Func} {R : Ending → World → Prop} {a : Act} {w : World} {D : Nat} {args : Array Value} {v : Value} (hd : a.defers = [{ target := .collected D, args := args }]) (hK : w.heap[D]? = some (.deferred (some []))) (hv : (results fn a.tmps).run P (w.putObj D (.deferred none)) = .ok v (w.putObj D (.deferred none))) (hR : R (.returned v) (w.putObj D (.deferred none))) : bodyPostR P fn R .ret a w := by
  show LeavesInM Fence.wide 9 P fn a.tmps R a.defers .returning w
  rw [hd]
  exact ⟨by simp, .inl ⟨_, _, rfl, run_takeDeferred hK, v, hv, hR⟩⟩
theorem Blk.keptF {X Y : World} {row : Option Nat} {b : Nat} {t : TypeId} {cs : Array Value} (h : Blk X b t cs) (hg : X.grownBy Y row) (hr : ∀ r, row = some r → ∃ o : Obj, X.heap[r]? = some o ∧ o.isCells = false) : Blk Y b t cs :=
  (hg.block b h.lt (fun e => by
    obtain ⟨o, ho, hc⟩ := hr b e.symm
    rw [show X.heap[b]? = _ from h] at ho
    cases ho
    cases hc)).trans h
theorem ax_own (B B0 : Nat) (t : TypeId) (f : Nat → Array Value) (T : Nat → Nat → Array Value) (x : Nat) (a' : Act) : OwnFrom B (fun (_ : Unit) W => ∃ Bx, B0 ≤ Bx ∧ Blk W Bx t (f x) ∧ a' = { tmps := T x Bx, defers := [] }) := by
  rintro _ X Y row ⟨Bx, h1, h2, h3⟩ hg hr
  exact ⟨Bx, h1, Blk.keptF h2 hg (fun r e => (hr r e).2), h3⟩
/-! ### the last finished attempt -/
def PnoF (n : Nat) (atts : List Att) (pre : List Nat) : Prop := ∀ y ∈ pre, (atts.getD y (0, [])).2.length ≠ n
theorem lastO_skip {n : Nat} {atts : List Att} : ∀ k, k ≤ atts.length → PnoF n atts (downK atts.length k) → lastO n atts atts.length = lastO n atts (atts.length - k) := by
  intro k
  induction k with
  | zero => intro _ _; rfl
  | succ k ih =>
    intro hk hp
    rw [downK_succ] at hp
    have h1 := ih (by omega) (fun y hy => hp y (List.mem_append_left _ hy))
    have h2 := hp (atts.length - 1 - k) (by simp)
    obtain ⟨m, hm⟩ : ∃ m, m + k + 1 = atts.length := ⟨atts.length - 1 - k, by omega⟩
    have e1 : atts.length - k = m + 1 := by omega
    have e2 : atts.length - (k + 1) = m := by omega
    have e3 : atts.length - 1 - k = m := by omega
    have hml : m < atts.length := by omega
    have eg : atts.getD m (0, []) = atts[m] := by rw [List.getD_eq_getElem?_getD, List.getElem?_eq_getElem hml]; rfl
    rw [e3, eg] at h2
    rw [h1, e1, e2, lastO_no hml h2]
theorem lastO_done {n : Nat} {atts : List Att} (h : PnoF n atts (downK atts.length atts.length)) : lastO n atts atts.length = none := by
  rw [lastO_skip atts.length (Nat.le_refl _) h, Nat.sub_self]; rfl
theorem lastO_stop {n : Nat} {atts : List Att} {k x : Nat} {pre : List Nat} (hk : k ≤ atts.length) (he : pre ++ [x] = downK atts.length k) (h : PnoF n atts pre) (hx : (atts.getD x (0, [])).2.length = n) : x < atts.length ∧ lastO n atts atts.length = some (atts.getD x (0, [])).2 := by
  obtain ⟨m, rfl⟩ : ∃ m, k = m + 1 := by
    rcases k with _ | m
    · have := congrArg List.length he; rw [downK_len] at this; simp at this
    · exact ⟨m, rfl⟩
  rw [downK_succ] at he
  have h1 := List.append_inj' he rfl
  obtain ⟨rfl, h2⟩ := h1
  injection h2 with h2
  have hml : x < atts.length := by omega
  have eg : atts.getD x (0, []) = atts[x] := by rw [List.getD_eq_getElem?_getD, List.getElem?_eq_getElem hml]; rfl
  refine ⟨hml, ?_⟩
  rw [lastO_skip m (by omega) h, show atts.length - m = x + 1 by omega, eg]
  rw [eg] at hx
  exact lastO_yes hml hx
def slB : Option Value → Option Addr
  | some (.slice B _ _) => B
  | _ => none
def slC : Option Value → Nat
  | some (.slice _ _ c) => c
  | _ => 0
/-- The attempts' cells as a function of the place. -/
theorem Hist.fun_ {w : World} {lo : Nat} {SA TA : Option Addr} {segs : List (List UInt8)} {atts : List Att} (h : Hist w lo SA TA segs atts) : ∃ (Bf : Nat → Option Addr) (cf : Nat → Nat),
    (0 < atts.length → ∃ b off, TA = some ⟨b, off, none⟩ ∧ b < w.heap.size ∧ ∀ j, j < atts.length → w.cell? ⟨b, off + j * 2, none⟩ = some (.int .i64 (atts.getD j (0, [])).1) ∧ w.cell? ⟨b, off + j * 2 + 1, none⟩ = some (.slice (Bf j) (atts.getD j (0, [])).2.length (cf j))) ∧
    ∀ j (hj : j < atts.length), Row w lo 1 (Bf j) atts[j].2.length (ints atts[j].2) := by
  obtain ⟨_, cs, h2, h3⟩ := h
  have key : ∀ j (hj : j < atts.length), cs[j * 2]? = some (.int .i64 atts[j].1) ∧ cs[j * 2 + 1]? = some (.slice (slB cs[j * 2 + 1]?) atts[j].2.length (slC cs[j * 2 + 1]?)) ∧ Row w lo 1 (slB cs[j * 2 + 1]?) atts[j].2.length (ints atts[j].2) := by
    intro j hj
    obtain ⟨B, c, e1, e2, hr⟩ := h3 j hj
    rw [e2]
    exact ⟨e1, rfl, hr⟩
  refine ⟨fun j => slB cs[j * 2 + 1]?, fun j => slC cs[j * 2 + 1]?, fun h0 => ?_, fun j hj => (key j hj).2.2⟩
  obtain ⟨b, off, e, _, hb, hc⟩ := h2.2 h0
  refine ⟨b, off, e, hb, fun j hj => ?_⟩
  have eg : atts.getD j (0, []) = atts[j] := by rw [List.getD_eq_getElem?_getD, List.getElem?_eq_getElem hj]; rfl
  rw [eg]
  exact ⟨hc _ _ (key j hj).1, by rw [Nat.add_assoc]; exact hc _ _ (key j hj).2.1⟩
end Go.Proofs.YtagghmfhfboejaaGreatDoor
