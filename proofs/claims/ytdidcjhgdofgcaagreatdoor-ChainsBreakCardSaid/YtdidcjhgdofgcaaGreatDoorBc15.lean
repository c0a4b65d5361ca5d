/- Texts of this seat, laid together: Cha Chv Chw. -/
import Derived.BigQuiet
import Derived.Deep.QuietTactic
import Derived.Handy
import Derived.Test.YtdidcjhgdofgcaaGreatDoorBc06
import Derived.Test.YtdidcjhgdofgcaaGreatDoorBc14
import Derived.Test.YtdidcjhgdofgcaaGreatDoorBc02
/- The walk of input.chain: the sums of all blocks, by the library's iterator. -/
namespace Go.Proofs.YtdidcjhgdofgcaaGreatDoor
set_option linter.unusedVariables false
set_option linter.unusedSimpArgs false
open Go.RowKit Go.Sort

attribute [local go_sem] Oper.semAt_some

theorem ch_low {w : World} {base size n g : Nat} {e : TypeId} {v : Value} {xs : List Value} (h : w.ownsRow base e size v n xs) (hb : g < base) (u : Value) : (w.setCell ⟨g, 0, none⟩ u).ownsRow base e size v n xs :=
  h.kept (grownBy_setCell' w g u) (.inr (fun e' => by have := (h.lt g e').1; omega))
theorem ch_far {w1 w2 : World} {g base n size : Nat} {t e : TypeId} {cs : Array Value} {v : Value} {xs : List Value} (hown : w1.ownsRow base e size v n xs) (h : Blk w1 g t cs) (hg : w1.grownBy w2 v.ownBlock) (hb : g < base) : Blk w2 g t cs :=
  (hg.block g h.lt (fun e => by have := (hown.lt g e.symm).1; omega)).trans h
theorem _root_.Go.Boxed.kept' {W W' : World} {B : Nat} {t : TypeId} {v : Value} (h : Boxed W B t v) (hb : Below W.heap.size W W') : Boxed W' B t v := (hb.block B h.lt).trans h
theorem ch_new (w : World) {t : TypeId} {cs : Array Value} {b : Nat} (hb : w.heap.size = b) : Blk (w.alloc (.cells cs t)) b t cs := by subst hb; exact Blk.new _ _ _
theorem wpListIn_bapp {F : Fence} {nn : Nat} {ops : Array Oper} {rest : List Oper} {o : Oper} {a : Act} {Q : Exit → Act → World → Prop} {w : World} {B lo : Nat} {v : Value} {xs ys : List Int} {A : Option Addr} (c : Nat)
    (hgd : o.guard = none) (s x : Operand) (ho : o.op = .call { callee := .builtin .append, args := #[s, x], argTypes := #[74, 74] })
    (h : BRow w B v xs) (hs : a.eval s = v) (hB : B ≤ w.heap.size) (hr : Row w lo 1 A ys.length (u8s ys)) (hx : a.eval x = .slice A ys.length c) (hy : 0 < ys.length) (hl : xs.length + ys.length ≤ 1000000000) (hty : Tryz.prog.underlying o.type = some (.slice 5))
    (hK : ∀ v' w', BRow w' B v' (xs ++ ys) → w.grownBy w' v.ownBlock → (∀ k, v.ownBlock = some k → B ≤ k) → wpListIn F nn Tryz.prog ops Q rest (a.put o.dst v') w') : wpListIn F nn Tryz.prog ops Q (o :: rest) a w := by
  refine wpListIn_plain hgd fun K hK' => ?_
  obtain ⟨v', w', hrun, h2, h3, h4⟩ := h.app (c := c) hB hr hy hl hty
  unfold Oper.wpIn
  refine ⟨?_, ?_⟩
  · simp [Oper.about, ho, resolve, Target.leads, Sem.run_pure]
  · rw [Oper.semAt_plain F _ _ (by rw [ho]; intro c hc'; cases hc')]
    simp [execOp, ho, resolve, invoke, builtin, hs, hx, hrun, Result.andThen]
    exact hK' _ _ (hK v' w' h2 h3 h4)
theorem wpListIn_app {F : Fence} {nn : Nat} {w : World} {ops : Array Oper} {rest : List Oper} {o : Oper} {a : Act} {Q : Exit → Act → World → Prop} {base : Nat} {t e : TypeId} {size bytes : Nat} {v : Value} {n : Nat} {xs : List Value} {lo : Nat} {A : Option Addr} {m : Nat} (c : Nat) {news : List Value}
    (hgd : o.guard = none) (s x : Operand) (T : SliceTy Tryz.prog t e size bytes)
    (ho : o.op = .call { callee := .builtin .append, args := #[s, x], argTypes := #[t, t] })
    (hown : w.ownsRow base e size v n xs) (hs : a.eval s = v)
    (hr : Row w lo size A m news) (hx : a.eval x = .slice A m c) (h1 : news.all (·.oneCell') = true)
    (hbytes : (n + m) * bytes ≤ 140737488355328) (h63 : n + m ≤ 9223372036854775807) (hbase : base ≤ w.heap.size)
    (h : ∀ A' c' w', w'.ownsRow base e size (.slice A' (n + m) c') (n + m) (xs ++ news) → w.grownBy w' v.ownBlock → wpListIn F nn Tryz.prog ops Q rest (a.put o.dst (.slice A' (n + m) c')) w') : wpListIn F nn Tryz.prog ops Q (o :: rest) a w := by
  refine wpListIn_plain hgd fun K hK => ?_
  obtain ⟨A', c', w', hrun, h2, h3, h4⟩ := run_app (P := Tryz.prog) w base t o.type e size bytes T v n xs hown lo A m c news hr h1 hbytes h63 hbase
  unfold Oper.wpIn
  refine ⟨?_, ?_⟩
  · simp [Oper.about, ho, resolve, Target.leads, Sem.run_pure]
  · rw [Oper.semAt_plain F _ _ (by rw [ho]; intro c hc'; cases hc')]
    simp [execOp, ho, resolve, invoke, builtin, hs, hx, hrun, Result.andThen]
    exact hK _ _ (h A' c' w' h2 h3)
/-- What stands behind some blocks: the last sum, and all so far. -/
def stP (xs : List Int) (start : List UInt8) {nb : Nat} (pre : List (Fin nb)) : List UInt8 × List (List UInt8) :=
  pre.foldl (fun st x => (sumT (bytesI st.1 ++ blkC xs x.val), st.2 ++ [sumT (bytesI st.1 ++ blkC xs x.val)])) (start, [])
theorem stP_next (xs : List Int) (start : List UInt8) {nb : Nat} (pre : List (Fin nb)) (x : Fin nb) :
    stP xs start (pre ++ [x]) = (sumT (bytesI (stP xs start pre).1 ++ blkC xs x.val), (stP xs start pre).2 ++ [sumT (bytesI (stP xs start pre).1 ++ blkC xs x.val)]) := by
  unfold stP
  rw [List.foldl_append]; rfl
theorem stP_gen (xs : List Int) {nb : Nat} (pre : List (Fin nb)) : ∀ st : List UInt8 × List (List UInt8), (pre.foldl (fun st x => (sumT (bytesI st.1 ++ blkC xs x.val), st.2 ++ [sumT (bytesI st.1 ++ blkC xs x.val)])) st).2.length = st.2.length + pre.length ∧
    (st.1.length ≤ 1000 → (pre.foldl (fun st x => (sumT (bytesI st.1 ++ blkC xs x.val), st.2 ++ [sumT (bytesI st.1 ++ blkC xs x.val)])) st).1.length ≤ 1000) := by
  induction pre with
  | nil => exact fun st => ⟨rfl, fun h => h⟩
  | cons x l ih =>
    intro st
    obtain ⟨h1, h2⟩ := ih (sumT (bytesI st.1 ++ blkC xs x.val), st.2 ++ [sumT (bytesI st.1 ++ blkC xs x.val)])
    refine ⟨?_, fun _ => h2 (by show (sumT _).length ≤ _; rw [sumT_len]; decide)⟩
    rw [List.foldl_cons, h1]; simp; omega
theorem stP_len (xs : List Int) (start : List UInt8) {nb : Nat} (pre : List (Fin nb)) : (stP xs start pre).2.length = pre.length := by
  have := (stP_gen xs pre (start, [])).1
  unfold stP
  rw [this]; simp
theorem stP_short (xs : List Int) {start : List UInt8} (h : start.length ≤ 1000) {nb : Nat} (pre : List (Fin nb)) : (stP xs start pre).1.length ≤ 1000 := (stP_gen xs pre (start, [])).2 h
theorem stP_up (xs : List Int) (start : List UInt8) {nb : Nat} : ∀ k, k ≤ nb → stP xs start (upK nb k) = (lastC xs start k, chainT xs start k)
  | 0, _ => by simp [upK, stP, lastC, chainT]
  | k + 1, h => by
    rw [upK_succ (show k < nb by omega), stP_next, stP_up xs start k (by omega), chainT_next]; rfl
/-- The boxes while the blocks come. -/
structure ChI (w W0 : World) (xs : List Int) (start : List UInt8) {nb : Nat} (pre : List (Fin nb)) (W : World) : Prop where
  last : Boxed W w.heap.size 9 (encStr (stP xs start pre).1)
  out : ∃ v, Boxed W (w.heap.size + 1) 33 v ∧ W.ownsRow W0.heap.size 9 1 v pre.length (strs (stP xs start pre).2) ∧ True
  kept : Below w.heap.size w W
  k2 : KeptC w.heap.size (w.heap.size + 2) (w.heap.size + 3) W0 W
theorem row_blk {w : World} {lo b off : Nat} {ds : List Int} (h : Row w lo 1 (some ⟨b, off, none⟩) ds.length (u8s ds)) (x : Nat) (hx : 60 * x < ds.length) :
    Row w lo 1 (some ⟨b, off + 60 * x, none⟩) (blkC ds x).length (u8s (blkC ds x)) ∧ (blkC ds x).length = min 60 (ds.length - 60 * x) := by
  have hl : (blkC ds x).length = min 60 (ds.length - 60 * x) := by unfold blkC; rw [List.length_take, List.length_drop]
  refine ⟨⟨by rw [u8s_len, Nat.mul_one], fun hp => ?_⟩, hl⟩
  obtain ⟨b', off', e, h1, h2, h3⟩ := h.2 (by omega)
  injection e with e
  injection e with e1 e2
  subst e1 e2
  refine ⟨b, off + 60 * x, rfl, h1, h2, fun i u hu => ?_⟩
  rw [Nat.add_assoc]
  refine h3 _ u ?_
  unfold blkC u8s at hu
  rw [List.map_take, List.map_drop, List.getElem?_take] at hu
  split at hu
  · rw [List.getElem?_drop] at hu; exact hu
  · cases hu
set_option maxHeartbeats 4000000 in
set_option maxRecDepth 100000 in
theorem chain_any (A : Option Addr) (c lo : Nat) (xs : List Int) (start : List UInt8) (w : World) (hr : Row w lo 1 A xs.length (u8s xs)) (hcap : xs.length ≤ c) (hx : ∀ x ∈ xs, 0 ≤ x ∧ x ≤ 255) (hl : xs.length ≤ 200000) (hs : start.length ≤ 1000) (hT : Tz w) :
    Calls Tryz.prog 40 #[.slice A xs.length c, encStr start] w fun e w' => ∃ A' c', e = .returned (.slice A' (nBlk xs) c') ∧ w'.ownsRow w.heap.size 9 1 (.slice A' (nBlk xs) c') (nBlk xs) (strs (chainT xs start (nBlk xs))) ∧ Below w.heap.size w w' := by
  have HX := Lib.hid hx
  have HT := Lib.hid hT
  have HU := Lib.hid (fun k h => stP_up xs start (nb := nBlk xs) k h)
  have HSH := Lib.hid (fun (pre : List (Fin (nBlk xs))) => stP_short xs hs pre)
  have HSL := Lib.hid (fun (pre : List (Fin (nBlk xs))) => stP_len xs start pre)
  clear hx hT
  refine calls_of_wp_M Tryz.func40 rfl ?_
  simp only [Tryz.ntmps40, List.size_toArray, List.length_cons, List.length_nil, Nat.reduceAdd, Nat.reduceSub, Array.replicate_succ, Array.replicate_zero, List.push_toArray, List.append_toArray, List.nil_append, List.cons_append]
  go_wp2_with fail
  have hz2 : ((w.alloc (.cells #[encStr start] 9)).alloc (.cells #[.slice none 0 0] 33)).heap.size = w.heap.size + 2 := by simp
  refine (chunk_any A xs.length c _).mono ?_
  rintro e w9 ⟨rfl, rfl⟩
  rw [hz2]
  have hI0 : ∀ W0, (((w.alloc (.cells #[encStr start] 9)).alloc (.cells #[.slice none 0 0] 33)).alloc (.cells #[.slice A xs.length c] 74)).alloc (.cells #[.int .i64 60] 3) = W0 →
      (Blk W0 w.heap.size 9 #[encStr start] ∧ Blk W0 (w.heap.size + 1) 33 #[.slice none 0 0]) ∧ (Blk W0 (w.heap.size + 2) 74 #[.slice A xs.length c] ∧ Blk W0 (w.heap.size + 3) 3 #[.int .i64 60]) ∧ Below w.heap.size w W0 ∧ W0.heap.size = w.heap.size + 4 := by
    rintro W0 rfl
    refine ⟨⟨(((Blk.new _ _ _).alloc _).alloc _).alloc _, ?_⟩, ⟨?_, ?_⟩, (by repeat (first | exact Below.refl _ _ | refine Below.alloc ?_ (by first | omega | (simp; omega) | simp) _ | refine below_drewN' ?_ _ | refine Below.drew ?_)), by simp⟩
    · have := (((Blk.new (w.alloc (.cells #[encStr start] 9)) 33 #[.slice none 0 0]).alloc (.cells #[.slice A xs.length c] 74)).alloc (.cells #[.int .i64 60] 3))
      simpa using this
    · have := ((Blk.new ((w.alloc (.cells #[encStr start] 9)).alloc (.cells #[.slice none 0 0] 33)) 74 #[.slice A xs.length c]).alloc (.cells #[.int .i64 60] 3))
      simpa using this
    · have := (Blk.new (((w.alloc (.cells #[encStr start] 9)).alloc (.cells #[.slice none 0 0] 33)).alloc (.cells #[.slice A xs.length c] 74)) 3 #[.int .i64 60])
      simpa using this
  obtain ⟨W0, hW0⟩ : ∃ W0, (((w.alloc (.cells #[encStr start] 9)).alloc (.cells #[.slice none 0 0] 33)).alloc (.cells #[.slice A xs.length c] 74)).alloc (.cells #[.int .i64 60] 3) = W0 := ⟨_, rfl⟩
  obtain ⟨⟨b3, b5⟩, ⟨bS, bN⟩, hBel, hz⟩ := hI0 W0 hW0
  rw [hW0]
  clear hI0 hW0 hz2
  obtain ⟨b, off, hAb⟩ : ∃ b off, 0 < xs.length → A = some ⟨b, off, none⟩ := by
    rcases Nat.eq_zero_or_pos xs.length with h | h
    · exact ⟨0, 0, fun h' => by omega⟩
    · obtain ⟨b, off, e, _⟩ := hr.2 (by omega)
      exact ⟨b, off, fun _ => e⟩
  have HAB := Lib.hid hAb
  have HRW := Lib.hid hr
  have hKb : ∀ (W : World) (l : Nat) (o o' : Obj), W0.heap.size ≤ l → W.heap[l]? = some o → o.isCells = false → o.isWalk = false → KeptC w.heap.size (w.heap.size + 2) (w.heap.size + 3) W (W.putObj l o') := fun W l o o' h1 h2 h3 h4 => by
    have h := belowK_b (n₀ := w.heap.size + 4) (w := W0) (by omega) W l o o' h1 h2 h3 h4
    exact KeptC.of (h.mono (by omega)) (h.block _ (by omega)) (h.block _ (by omega))
  have HKB := Lib.hid hKb
  have hzl : w.heap.size + 4 ≤ W0.heap.size := by omega
  have hzu : W0.heap.size ≤ w.heap.size + 4 := by omega
  clear hz
  have cS : W0.cell? ⟨w.heap.size + 2, 0, none⟩ = some (.slice A xs.length c) := by simpa using bS.cell 0
  have cN : W0.cell? ⟨w.heap.size + 3, 0, none⟩ = some (.int .i64 60) := by simpa using bN.cell 0
  have HCS := Lib.hid cS
  have HCN := Lib.hid cN
  clear hAb hr hKb cS cN
  go_wp2_with fail
  refine (wpIn_wide (n := 9)).1 ?_
  refine (fun (_ : Fin (nBlk xs) → Array Value) h => h) ?T ?main
  case main =>
    refine wpIn_rangeFunc_ownH (F := Fence.wide) (n := 9) rfl (by decide) (gf := 108) (lb := #[.pointer (some ⟨w.heap.size + 2, 0, none⟩), .pointer (some ⟨w.heap.size + 3, 0, none⟩)]) rfl trivial (enters_of Tryz.func108 (by kernel_rfl) rfl)
      (chunk_stops Fence.wide 8 trivial rfl (by decide) (w.heap.size + 2) (w.heap.size + 3) w.heap.size xs.length c b off (nBlk xs) A (by omega) hcap rfl W0 (by omega) (by omega) HCS.out HCN.out HAB.out) KeptC.trans HKB.out (Below.refl _ _) (fun _ => rfl)
      (fun pre W => Boxed W w.heap.size 9 (encStr (stP xs start pre).1) ∧ ((∃ v, Boxed W (w.heap.size + 1) 33 v ∧ W.ownsRow (w.heap.size + 4) 9 1 v pre.length (strs (stP xs start pre).2) ∧ True) ∧ Below w.heap.size w W))
      (fun _ _ _ => False)
      (OwnFrom.and (Own.from (boxed_own _ _ (fun pre : List (Fin (nBlk xs)) => encStr (stP xs start pre).1)) _) (OwnFrom.and (Own.from (holdsRow_own _ _ _ _ 1 (fun pre : List (Fin (nBlk xs)) => pre.length) (fun pre => strs (stP xs start pre).2) (fun _ _ => True)) _) (ownFrom_below (Nat.le_refl _) (by omega))))
      (fun c => ownFrom_pure _ (fun _ => False))
      ⟨b3, ⟨_, b5, World.ownsRow_nil _ _ _ _, trivial⟩, hBel⟩
      (fun x a' W => a' = { tmps := ?T x, defers := [] })
      (fun x a' => ownFrom_pure _ (fun _ => a' = { tmps := ?T x, defers := [] }))
      ?assign ?body ?done ?stop
    case assign =>
      rintro l pre x W K hI hK
      gi_wp2
      refine hK _ _ (KeepsFrom.refl _ _) (KeptC.refl _ _ _ _) hI ?_
      rfl
    case body =>
      rintro l pre x a' W hl ⟨r, hr0⟩ ⟨h3, ⟨v, h5, hown, -⟩, hB⟩ rfl hlt
      have hx0 : 60 * x.val < xs.length := by have := x.isLt; unfold nBlk at this; omega
      have hAe := HAB.out (by omega)
      have HRB : Hid (Row w lo 1 (some ⟨b, off + 60 * x.val, none⟩) (blkC xs x.val).length (u8s (blkC xs x.val)) ∧ (blkC xs x.val).length = min 60 (xs.length - 60 * x.val)) := Lib.hid (row_blk (hAe ▸ HRW.out) x.val hx0)
      have HNX := Lib.hid (stP_next xs start pre x)
      have hsl := HSH.out pre
      have HPL := Lib.hid (HSL.out pre)
      have HX8 : Hid (∀ y ∈ bytesI (stP xs start pre).1 ++ blkC xs x.val, 0 ≤ y ∧ y ≤ 255) := Lib.hid (fun y hy => by
        rcases List.mem_append.1 hy with h | h
        · exact bytesI_in _ y h
        · exact HX.out y (List.mem_of_mem_drop (List.mem_of_mem_take h)))
      have hpl : pre.length ≤ 200000 := by have : nBlk xs ≤ 200000 := by { unfold nBlk; omega }; omega
      obtain ⟨vb, wb, hcv, hbr, hbb⟩ := BRow.conv (stP xs start pre).1 W 9 74 (by kernel_rfl) (by kernel_rfl)
      have hC : chV b off xs.length x.val = .slice (some ⟨b, off + 60 * x.val, none⟩) (blkC xs x.val).length (blkC xs x.val).length := by
        unfold chV
        rw [HRB.out.2]
      rw [hC]
      clear hC hAe
      have hrb := (HRB.out.1.below hB).below hbb
      have hbl : 0 < (blkC xs x.val).length := by have := HRB.out.2; omega
      have hbl2 : (blkC xs x.val).length ≤ 60 := by have := HRB.out.2; omega
      have hbi : (bytesI (stP xs start pre).1).length ≤ 1000 := by unfold bytesI; rw [List.length_map]; exact hsl
      have hTW := HT.out.below hB
      have HTW := Lib.hid (hTW.below hbb)
      clear hTW HRB
      obtain ⟨A5, c5, rfl⟩ : ∃ A5 c5, v = .slice A5 pre.length c5 := by
        rcases hown.2 with ⟨h1, h2⟩ | ⟨g, cap, cur, hv, _⟩
        · exact ⟨none, 0, by rw [h1, h2]⟩
        · exact ⟨_, _, hv⟩
      generalize hst : stP xs start pre = st at *
      generalize blkC xs x.val = bk at *
      clear hst
      obtain ⟨sk, so⟩ := st
      dsimp only at *
      have c3 := h3.cell
      have z3 := h3.lt
      gi_wp2_with (gi_at_builtin; refine wpListIn_bapp (ys := bk) _ rfl _ _ rfl hbr rfl (by have := hbb.size; omega) hrb rfl hbl (by rw [show (sk.map fun c => (c.toNat : Int)) = bytesI sk from rfl]; omega) (by kernel_rfl) ?_)
      intro v' w5 hbr2 hg5 hgB
      have hgW : Below W.heap.size W w5 := Below.grown hbb hg5 hbb.size hgB
      have hTW5 := (HT.out.below hB).below hgW
      have HTW5 := Lib.hid hTW5
      clear hTW5 HTW hcv hbr hbb hrb hg5 hgB
      obtain ⟨g, cap, rfl, hg1, hg2, hrb2⟩ := hbr2.row
      have hlb : (bytesI sk ++ bk).length ≤ 2000 := by rw [List.length_append]; omega
      have HNX1 : Hid (stP xs start (pre ++ [x]) = (sumT (bytesI sk ++ bk), so ++ [sumT (bytesI sk ++ bk)])) := HNX
      clear HNX hbr2
      have hrb3 : Row w5 W.heap.size 1 (some ⟨g, 0, none⟩) (bytesI sk ++ bk).length (u8s (bytesI sk ++ bk)) := hrb2
      rw [show ((sk.map fun c => (c.toNat : Int)) ++ bk).length = (bytesI sk ++ bk).length from rfl]
      clear hrb2
      generalize hbs : bytesI sk ++ bk = bs at *
      clear hbs
      have hz0 : W0.heap.size < W.heap.size := by have := (Array.getElem?_eq_some_iff.1 hr0).1; omega
      gi_wp2_with (first | (refine ⟨trivial, ?_⟩; gi_at_call 76; refine (CallsIn.inRound l (callsIn_wide.2 (sum_any _ _ _ bs _ hrb3 (by omega) HX8.out HTW5.out))).mono ?_; rintro e w6 ⟨rfl, hb6⟩; (have h36 := (h3.kept' hgW).kept' hb6); (have f36 := h36.frozen); (have c36 := h36.cell); (have z36 := h36.lt); (have h56 := (h5.kept' hgW).kept' hb6); (have f56 := h56.frozen); (have c56 := h56.cell); (have z56 := h56.lt); (have hown6 := own_keep (own_keep hown hgW) hb6); (have hgz := hgW.size); (have hgz6 := hb6.size); (have hb6x := hb6)) | (gi_at_builtin; go_must (refine wpListIn_app (lo := 0) (base := w.heap.size + 4) (n := pre.length) (xs := strs so) _ rfl _ _ ty_strs rfl ((ch_low hown6 (by omega) _).alloc _) rfl (Row.lit (n := 1) (size := 1) (ch_new _ (b := w6.heap.size) (by simp)) (Nat.zero_le _) rfl) rfl rfl (by omega) (by omega) (by first | omega | (simp; omega)) ?_)))
      intro A6 c6 w8 hown8 hg8
      have hb36 := (h3.kept' hgW).kept' hb6x
      have hb56 := (h5.kept' hgW).kept' hb6x
      have hown6 := own_keep (own_keep hown hgW) hb6x
      have hg68 := hgW.trans (hb6x.mono hgW.size)
      obtain ⟨w7, hw7⟩ : ∃ w7, w6.setCell ⟨w.heap.size, 0, none⟩ (encStr (sumT bs)) = w7 := ⟨_, rfl⟩
      have hg8' : (w7.alloc (.cells #[encStr (sumT bs)] 9)).grownBy w8 (Value.slice A5 pre.length c5).ownBlock := by rw [← hw7]; exact hg8
      have h37 : Boxed w7 w.heap.size 9 (encStr (sumT bs)) := by rw [← hw7]; exact hb36.set _
      have h57 : Boxed w7 (w.heap.size + 1) 33 (.slice A5 pre.length c5) := by rw [← hw7]; exact hb56.kept (grownBy_setCell' _ _ _) (by simp)
      have hown7 : w7.ownsRow (w.heap.size + 4) 9 1 (.slice A5 pre.length c5) pre.length (strs so) := by rw [← hw7]; exact ch_low hown6 (by omega) _
      have hz7 : w6.heap.size = w7.heap.size := by rw [← hw7]; simp
      have hg8l := hg8'.size
      have hal : w7.heap.size ≤ (w7.alloc (.cells #[encStr (sumT bs)] 9)).heap.size := by simp
      obtain ⟨k5, k5', -, kO, kB⟩ := Boxed.appended (n₀ := w.heap.size) h57 (by decide) (own_weak hown7 (by omega)) (by omega) (by omega) (own_weak hown8 (by omega)) hg8'
      have h38 : Blk w8 w.heap.size 9 #[encStr (sumT bs)] := ch_far (hown7.alloc _) (Blk.alloc h37 _) hg8' (by omega)
      have f58 := k5.frozen
      have c58 := k5.cell
      have z58 := k5.lt
      have HSM : Hid (∀ k, k < w.heap.size + 4 → k ≠ w.heap.size → k ≠ w.heap.size + 1 → (w8.setCell ⟨w.heap.size + 1, 0, none⟩ (.slice A6 (pre.length + 1) c6)).heap[k]? = W.heap[k]?) := Lib.hid (fun k h1 h2 h3 => by
        rw [Below.heap_setCell w8 _ _ k h3]
        rw [hg8'.block k (by simp; omega) (fun e => by have := ((hown7.alloc (.cells #[encStr (sumT bs)] 9)).lt k e.symm).1; omega)]
        rw [Below.heap_alloc w7 _ k (by omega), ← hw7, Below.heap_setCell w6 _ _ k h2]
        exact hg68.block k (by omega))
      have K0 : Below w.heap.size W w6 := hg68.mono (by omega)
      have K1 : Below w.heap.size W w7 := by rw [← hw7]; exact K0.setCell (p := ⟨w.heap.size, 0, none⟩) (Nat.le_refl _) _
      have KF : KeepsFrom W0.heap.size W w7 := by
        rw [← hw7]
        exact KeepsFrom.trans ⟨hg68.size, fun k o _ hk _ => (hg68.block k (Array.getElem?_eq_some_iff.1 hk).1).trans hk⟩ ((KeepsOthers.setCell _ _ _).from _)
      have hlen8 : Hid ((pre ++ [x]).length = pre.length + 1) := Lib.hid (by simp)
      clear hg8 hg8' hown6 hown7 hown hb36 hb56 h37 h57 hg68 hw7 h3 h5 c3 z3
      gi_wp2
      refine ⟨KF.trans (kO.from _), KeptC.of (K1.trans kB) (HSM.out _ (by omega) (by omega) (by omega)) (HSM.out _ (by omega) (by omega) (by omega)), ?_, ?_, hB.trans (K1.trans kB)⟩
      · rw [HNX1.out]
        exact Blk.past h38 _ _ _ (by omega)
      · rw [HNX1.out, hlen8.out]
        refine ⟨_, k5', ?_, trivial⟩
        have e : strs (so ++ [sumT bs]) = strs so ++ [encStr (sumT bs)] := by simp [strs]
        show World.ownsRow _ _ _ _ _ _ (strs (so ++ [sumT bs]))
        rw [e]
        exact ch_low hown8 (by omega) _
    case done =>
      rintro D ys W hD rfl ⟨h3, ⟨v, h5, hown, -⟩, hB⟩ hK
      rw [HU.out _ (Nat.le_refl _)] at *
      have hul : (upK (nBlk xs) (nBlk xs)).length = nBlk xs := upK_len (Nat.le_refl _)
      rw [hul] at hown
      clear hul
      obtain ⟨A5, c5, rfl⟩ : ∃ A5 c5, v = .slice A5 (nBlk xs) c5 := by
        rcases hown.2 with ⟨h1, h2⟩ | ⟨g, cap, cur, hv, _⟩
        · exact ⟨none, 0, by rw [h1, h2]⟩
        · exact ⟨_, _, hv⟩
      have c5' := h5.cell
      dsimp only at *
      go_wp2_with fail
      refine bodyM_mark (D := D) (v := .slice A5 (nBlk xs) c5) rfl hK (by simp [results, Tryz.results40, go_sem]) ?_
      exact ⟨A5, c5, rfl, own_weak (ownsRow_putObj hown _ hK rfl) (by omega), hB.trans (belowK_b (w := w) (Nat.le_refl _) _ D _ _ (by omega) hK rfl rfl)⟩
    case stop =>
      rintro D c pre W hD _ h
      exact h.elim
end Go.Proofs.YtdidcjhgdofgcaaGreatDoor
/- The walks of input.startFault, input.Chain, input.Verify, splitref1.SumFault, splitref1.VerifiedOf. -/
namespace Go.Proofs.YtdidcjhgdofgcaaGreatDoor
set_option linter.unusedVariables false
set_option linter.unusedSimpArgs false
open Go.RowKit Go.Sort

/-- All sums of an input. -/
def chainA (xs : List Int) (start : List UInt8) : List (List UInt8) := chainT xs start (nBlk xs)
theorem chainA_len (xs : List Int) (start : List UInt8) : (chainA xs start).length = nBlk xs := chainT_len _ _ _
theorem chain_A (A : Option Addr) (c lo : Nat) (xs : List Int) (start : List UInt8) (w : World) (hr : Row w lo 1 A xs.length (u8s xs)) (hcap : xs.length ≤ c) (hx : ∀ x ∈ xs, 0 ≤ x ∧ x ≤ 255) (hl : xs.length ≤ 200000) (hs : start.length ≤ 1000) (hT : Tz w) :
    Calls Tryz.prog 40 #[.slice A xs.length c, encStr start] w fun e w' => ∃ A' c', e = .returned (.slice A' (chainA xs start).length c') ∧ w'.ownsRow w.heap.size 9 1 (.slice A' (chainA xs start).length c') (chainA xs start).length (strs (chainA xs start)) ∧ Below w.heap.size w w' := by
  rw [chainA_len]
  exact chain_any A c lo xs start w hr hcap hx hl hs hT
theorem chainOf_A (A : Option Addr) (c lo : Nat) (ps : List (Int × Int)) (start : List UInt8) (w : World) (hr : Row w lo 2 A ps.length (prs ps)) (hf : inFault ps = 0) (hs : start.length ≤ 1000) (hT : Tz w) :
    Calls Tryz.prog 12 #[.slice A ps.length c, encStr start] w fun e w' => ∃ A' c', e = .returned (.slice A' (chainA (unf ps) start).length c') ∧ w'.ownsRow w.heap.size 9 1 (.slice A' (chainA (unf ps) start).length c') (chainA (unf ps) start).length (strs (chainA (unf ps) start)) ∧ Below w.heap.size w w' := by
  rw [chainA_len]
  exact chainOf_any A c lo ps start w hr hf hs hT
theorem chainA_in {xs : List Int} {start : List UInt8} (h : xs.length ≤ 200000) : (chainA xs start).length ≤ 200000 := by
  rw [chainA_len]; unfold nBlk; omega
/-- The first place where two lists of sums differ. -/
def verN : List (List UInt8) → List (List UInt8) → Nat → Int
  | [], [], _ => -1
  | a :: x, b :: y, k => if a = b then verN x y (k + 1) else (k : Int)
  | _, _, k => (k : Int)
theorem verN_1 {xs ys : List (List UInt8)} {k : Nat} (h : xs.length ≤ k) (h' : k < ys.length) : verN (xs.drop k) (ys.drop k) k = k := by
  rw [List.drop_of_length_le h, List.drop_eq_getElem_cons h']; rfl
theorem verN_2 {xs ys : List (List UInt8)} {k : Nat} (h : ys.length ≤ k) (h' : k < xs.length) : verN (xs.drop k) (ys.drop k) k = k := by
  rw [List.drop_of_length_le h, List.drop_eq_getElem_cons h']; rfl
theorem verN_0 {xs ys : List (List UInt8)} {k : Nat} (h : xs.length ≤ k) (h' : ys.length ≤ k) : verN (xs.drop k) (ys.drop k) k = -1 := by
  rw [List.drop_of_length_le h, List.drop_of_length_le h']; rfl
theorem verN_ne {xs ys : List (List UInt8)} {k : Nat} (h : k < xs.length) (h' : k < ys.length) (hne : xs[k] ≠ ys[k]) : verN (xs.drop k) (ys.drop k) k = k := by
  rw [List.drop_eq_getElem_cons h, List.drop_eq_getElem_cons h']
  show (if xs[k] = ys[k] then _ else _) = _
  rw [if_neg hne]
theorem verN_eq {xs ys : List (List UInt8)} {k : Nat} (h : k < xs.length) (h' : k < ys.length) (he : xs[k] = ys[k]) : verN (xs.drop k) (ys.drop k) k = verN (xs.drop (k + 1)) (ys.drop (k + 1)) (k + 1) := by
  rw [List.drop_eq_getElem_cons h, List.drop_eq_getElem_cons h']
  show (if xs[k] = ys[k] then _ else _) = _
  rw [if_pos he]
def startF (ps : List (Int × Int)) (s : List UInt8) : Int := if inFault ps = 0 then (if isSum s = true then 0 else 3) else inFault ps
theorem startF_bad {ps : List (Int × Int)} {s : List UInt8} (h : inFault ps ≠ 0) : startF ps s = inFault ps := by unfold startF; rw [if_neg h]
theorem startF_no {ps : List (Int × Int)} {s : List UInt8} (h : inFault ps = 0) (h' : isSum s = false) : startF ps s = 3 := by unfold startF; rw [if_pos h, if_neg (by simp [h'])]
theorem startF_ok {ps : List (Int × Int)} {s : List UInt8} (h : inFault ps = 0) (h' : isSum s = true) : startF ps s = 0 := by unfold startF; rw [if_pos h, if_pos h']
theorem startF_0 {ps : List (Int × Int)} {s : List UInt8} (h : startF ps s = 0) : inFault ps = 0 ∧ isSum s = true := by
  unfold startF at h
  split at h
  · split at h
    · exact ⟨by assumption, by assumption⟩
    · cases h
  · contradiction
set_option maxHeartbeats 1000000 in
theorem startFault_any (A : Option Addr) (c lo : Nat) (ps : List (Int × Int)) (s : List UInt8) (w : World) (hr : Row w lo 2 A ps.length (prs ps)) (hl : ps.length ≤ 1000000000) (hs : s.length ≤ 1000000) :
    Calls Tryz.prog 39 #[.slice A ps.length c, encStr s] w fun e w' => e = .returned (.int .i64 (startF ps s)) ∧ Below w.heap.size w w' := by
  have H1 := Lib.hid (startF_bad (ps := ps) (s := s))
  have H2 := Lib.hid (startF_no (ps := ps) (s := s))
  have H3 := Lib.hid (startF_ok (ps := ps) (s := s))
  go_enter Tryz.func39, Tryz.ntmps39
  go_wp2_with fail
  refine (checkInput_any A c lo ps _ hr hl).mono ?_
  rintro e w1 ⟨rfl, hb⟩
  by_cases h : inFault ps = 0
  · have HH := Lib.hid h
    rw [h]
    clear h
    go_wp2_with fail
    refine (isSum_any s _ (by omega)).mono ?_
    rintro e w2 ⟨rfl, hb2⟩
    obtain ⟨q, hq⟩ : ∃ q, isSum s = q := ⟨_, rfl⟩
    rw [hq]
    have HQ := Lib.hid hq
    clear hq
    cases q
    · go_wp2_with fail
      go_ret
      exact ⟨by rw [H2.out HH.out HQ.out]; rfl, below_up hb hb2⟩
    · go_wp2_with fail
      go_ret
      exact ⟨by rw [H3.out HH.out HQ.out]; rfl, below_up hb hb2⟩
  · have d : (inFault ps == 0) = false := by simpa using h
    have HH := Lib.hid h
    clear h
    generalize inFault ps = f at *
    go_wp2_with fail
    go_ret
    exact ⟨by rw [H1.out HH.out]; rfl, hb⟩
def sumF (s : List UInt8) : Int := if isSum s = true then 0 else 3
theorem sumF_no {s : List UInt8} (h' : isSum s = false) : sumF s = 3 := by unfold sumF; rw [if_neg (by simp [h'])]
theorem sumF_ok {s : List UInt8} (h' : isSum s = true) : sumF s = 0 := by unfold sumF; rw [if_pos h']
theorem sumFault_any (s : List UInt8) (w : World) (hs : s.length ≤ 1000000) :
    Calls Tryz.prog 10 #[encStr s] w fun e w' => e = .returned (.int .i64 (sumF s)) ∧ Below w.heap.size w w' := by
  have H2 := Lib.hid (sumF_no (s := s))
  have H3 := Lib.hid (sumF_ok (s := s))
  go_enter Tryz.func10, Tryz.ntmps10
  go_wp2_with fail
  refine (sumRight_any s _ (by omega)).mono ?_
  rintro e w1 ⟨rfl, hb⟩
  obtain ⟨q, hq⟩ : ∃ q, isSum s = q := ⟨_, rfl⟩
  rw [hq]
  have HQ := Lib.hid hq
  clear hq
  cases q
  · go_wp2_with fail
    go_ret
    exact ⟨by rw [H2.out HQ.out]; rfl, hb⟩
  · go_wp2_with fail
    go_ret
    exact ⟨by rw [H3.out HQ.out]; rfl, hb⟩
/-- What Chain hands out. -/
def chL (ps : List (Int × Int)) (s : List UInt8) : List (List UInt8) := if startF ps s = 0 then chainA (unf ps) s else []
theorem chL_ok {ps : List (Int × Int)} {s : List UInt8} (h : startF ps s = 0) : chL ps s = chainA (unf ps) s := by unfold chL; rw [if_pos h]
theorem chL_bad {ps : List (Int × Int)} {s : List UInt8} (h : startF ps s ≠ 0) : chL ps s = [] := by unfold chL; rw [if_neg h]
def ChainPost (w : World) (ps : List (Int × Int)) (s : List UInt8) (e : Ending) (w' : World) : Prop :=
  ∃ A' c', e = .returned (.tuple #[.slice A' (chL ps s).length c', .int .i64 (startF ps s)]) ∧ Row w' w.heap.size 1 A' (chL ps s).length (strs (chL ps s)) ∧ Below w.heap.size w w'
theorem ChainPost.bad {w w' : World} {ps : List (Int × Int)} {s : List UInt8} {f : Int} (h : startF ps s = f) (h0 : f ≠ 0) (hb : Below w.heap.size w w') : ChainPost w ps s (.returned (.tuple #[.slice none 0 0, .int .i64 f])) w' := by
  subst h
  refine ⟨none, 0, ?_, ?_, hb⟩
  · rw [chL_bad h0]; rfl
  · rw [chL_bad h0]; exact Row.none_ _ _ _ _
theorem ChainPost.good {w w' : World} {ps : List (Int × Int)} {s : List UInt8} {A : Option Addr} {c : Nat} {l : List (List UInt8)} (h : startF ps s = 0) (hl : chainA (unf ps) s = l) (hr : Row w' w.heap.size 1 A l.length (strs l)) (hb : Below w.heap.size w w') : ChainPost w ps s (.returned (.tuple #[.slice A l.length c, .int .i64 0])) w' := by
  subst hl
  refine ⟨A, c, ?_, ?_, hb⟩
  · rw [chL_ok h, h]
  · rw [chL_ok h]; exact hr
theorem unf_255 {ps : List (Int × Int)} (h : inFault ps = 0) : ∀ x ∈ unf ps, 0 ≤ x ∧ x ≤ 255 := fun x hx => by
  have := unf_in (fun p hp => by have := (inFault_ok h).2.1 p hp; omega) x hx
  omega
theorem unf_200 {ps : List (Int × Int)} (h : inFault ps = 0) : (unf ps).length ≤ 200000 := by
  have h1 := inFault_ok h
  have h2 : ((unf ps).length : Int) = psum ps := unf_len ps (fun p hp => by have := h1.2.1 p hp; omega)
  omega
theorem chL_in {ps : List (Int × Int)} {s : List UInt8} : (chL ps s).length ≤ 4000 := by
  by_cases h : startF ps s = 0
  · rw [chL_ok h]
    have := unf_200 (startF_0 h).1
    rw [chainA_len]; unfold nBlk; omega
  · rw [chL_bad h]; simp
theorem startF_or (ps : List (Int × Int)) (s : List UInt8) : firstE [inFault ps, sumF s] = startF ps s := by
  by_cases h : inFault ps = 0
  · cases h2 : isSum s
    · rw [startF_no h h2, sumF_no h2, h]; rfl
    · rw [startF_ok h h2, sumF_ok h2, h]; rfl
  · rw [startF_bad h]
    unfold firstE
    simp [h]
theorem verN_ge : ∀ (a b : List (List UInt8)) (k : Nat), verN a b k = -1 ∨ 0 ≤ verN a b k
  | [], [], _ => .inl rfl
  | a :: x, b :: y, k => by
    show (if a = b then verN x y (k + 1) else (k : Int)) = -1 ∨ 0 ≤ (if a = b then verN x y (k + 1) else (k : Int))
    split
    · exact verN_ge x y (k + 1)
    · exact .inr (Int.natCast_nonneg k)
  | [], _ :: _, k => .inr (Int.natCast_nonneg k)
  | _ :: _, [], k => .inr (Int.natCast_nonneg k)
set_option maxHeartbeats 1000000 in
theorem chainF_any (A : Option Addr) (c lo : Nat) (ps : List (Int × Int)) (s : List UInt8) (w : World) (hr : Row w lo 2 A ps.length (prs ps)) (hl : ps.length ≤ 1000000000) (hs : s.length ≤ 1000) (hT : Tz w) :
    Calls Tryz.prog 11 #[.slice A ps.length c, encStr s] w (ChainPost w ps s) := by
  have HB := Lib.hid (fun (w' : World) (f : Int) => ChainPost.bad (w := w) (w' := w') (ps := ps) (s := s) (f := f))
  have HG := Lib.hid (fun (w' : World) (A : Option Addr) (c : Nat) (l : List (List UInt8)) => ChainPost.good (w := w) (w' := w') (ps := ps) (s := s) (A := A) (c := c) (l := l))
  have H0 := Lib.hid (startF_0 (ps := ps) (s := s))
  have HT := Lib.hid hT
  clear hT
  go_enter Tryz.func11, Tryz.ntmps11
  go_wp2_with fail
  refine (startFault_any A c lo ps s _ hr hl (by omega)).mono ?_
  rintro e w1 ⟨rfl, hb⟩
  replace HT := Lib.hid (HT.out.below hb)
  replace hr := hr.below hb
  obtain ⟨f, hf⟩ : ∃ f, startF ps s = f := ⟨_, rfl⟩
  rw [hf]
  have HF := Lib.hid hf
  clear hf
  by_cases h : f = 0
  · subst h
    obtain ⟨h0, -⟩ := H0.out HF.out
    have hok := inFault_ok h0
    have h2 := unf_200 h0
    have HX := Lib.hid (unf_255 h0)
    have HP := Lib.hid hok.2.1
    have hq := hok.2.2
    clear h0 hok
    go_wp2_with fail
    refine (spread_any A c lo ps _ hr hl (fun p hp => by have := HP.out p hp; omega) (fun p hp => by have := HP.out p hp; omega) (by omega)).mono ?_
    rintro e w2 ⟨A2, c2, rfl, hown, hb2⟩
    have hcap := own_cap hown
    have hr2 := Row.of_own hown
    replace HT := Lib.hid (HT.out.below hb2)
    clear hown hr hq HP
    obtain ⟨xs, hxs⟩ : ∃ xs, unf ps = xs := ⟨_, rfl⟩
    rw [hxs] at HG hr2 hcap h2 HX ⊢
    clear hxs
    go_wp2_with fail
    refine (chain_A A2 c2 _ xs s _ hr2 hcap HX.out h2 hs HT.out).mono ?_
    rintro e w3 ⟨A3, c3, rfl, hown3, hb3⟩
    have hr3 := (Row.of_own hown3).weak (Nat.le_trans hb.size hb2.size)
    have hbx := below_up (below_up hb hb2) hb3
    clear hown3
    obtain ⟨l, hl3⟩ : ∃ l, chainA xs s = l := ⟨_, rfl⟩
    have HL := Lib.hid hl3
    rw [hl3] at hr3 ⊢
    clear hl3
    go_wp2_with fail
    go_returns
    exact HG.out _ _ _ _ HF.out HL.out hr3 hbx
  · have d : (f == 0) = false := by simpa using h
    have HN := Lib.hid h
    clear h
    go_wp2_with fail
    go_returns
    exact HB.out _ _ HF.out HN.out hb
end Go.Proofs.YtdidcjhgdofgcaaGreatDoor
/- The walks of input.Verify and splitref1.VerifiedOf. -/
namespace Go.Proofs.YtdidcjhgdofgcaaGreatDoor
set_option linter.unusedVariables false
set_option linter.unusedSimpArgs false
open Go.RowKit Go.Sort

def VerPost (w : World) (ps : List (Int × Int)) (s : List UInt8) (ss : List (List UInt8)) (e : Ending) (w' : World) : Prop :=
  e = .returned (.tuple #[.int .i64 (if startF ps s = 0 then verN (chainA (unf ps) s) ss 0 else 0), .bool (decide (startF ps s = 0 ∧ verN (chainA (unf ps) s) ss 0 = -1)), .int .i64 (startF ps s)]) ∧ Below w.heap.size w w'
theorem VerPost.parts {w w' : World} {ps : List (Int × Int)} {s : List UInt8} {ss : List (List UInt8)} {e : Ending} (h : VerPost w ps s ss e w') :
    ∃ (v : Int) (b : Bool), e = .returned (.tuple #[.int .i64 v, .bool b, .int .i64 (startF ps s)]) ∧ Hid ((startF ps s ≠ 0 → v = 0 ∧ b = false) ∧ (startF ps s = 0 → v = verN (chainA (unf ps) s) ss 0 ∧ b = decide (v = -1))) ∧ Below w.heap.size w w' := by
  obtain ⟨he, hb⟩ := h
  refine ⟨_, _, he, Lib.hid ⟨fun h => ?_, fun h => ?_⟩, hb⟩
  · exact ⟨if_neg h, decide_eq_false (fun h' => h h'.1)⟩
  · refine ⟨if_pos h, ?_⟩
    rw [if_pos h]
    by_cases h2 : verN (chainA (unf ps) s) ss 0 = -1
    · rw [decide_eq_true ⟨h, h2⟩, decide_eq_true h2]
    · rw [decide_eq_false (fun h' => h2 h'.2), decide_eq_false h2]
theorem VerPost.bad {w w' : World} {ps : List (Int × Int)} {s : List UInt8} {ss : List (List UInt8)} {f : Int} (h : startF ps s = f) (h0 : f ≠ 0) (hb : Below w.heap.size w w') : VerPost w ps s ss (.returned (.tuple #[.int .i64 0, .bool false, .int .i64 f])) w' := by
  subst h
  refine ⟨?_, hb⟩
  rw [if_neg h0, decide_eq_false (fun h => h0 h.1)]
theorem VerPost.no {w w' : World} {ps : List (Int × Int)} {s : List UInt8} {ss l : List (List UInt8)} {k : Nat} (h : startF ps s = 0) (hl : chainA (unf ps) s = l) (hv : verN l ss 0 = (k : Int)) (hb : Below w.heap.size w w') : VerPost w ps s ss (.returned (.tuple #[.int .i64 (k : Int), .bool false, .int .i64 0])) w' := by
  subst hl
  refine ⟨?_, hb⟩
  rw [if_pos h, hv, h, decide_eq_false (fun h => by have := h.2; omega)]
theorem VerPost.yes {w w' : World} {ps : List (Int × Int)} {s : List UInt8} {ss l : List (List UInt8)} (h : startF ps s = 0) (hl : chainA (unf ps) s = l) (hv : verN l ss 0 = -1) (hb : Below w.heap.size w w') : VerPost w ps s ss (.returned (.tuple #[.int .i64 (-1), .bool true, .int .i64 0])) w' := by
  subst hl
  refine ⟨?_, hb⟩
  rw [if_pos h, hv, h, decide_eq_true ⟨rfl, rfl⟩]
set_option maxHeartbeats 4000000 in
set_option maxRecDepth 100000 in
theorem verify_any (A B : Option Addr) (c d lo lo' : Nat) (ps : List (Int × Int)) (s : List UInt8) (ss : List (List UInt8)) (w : World) (hr : Row w lo 2 A ps.length (prs ps)) (hl : ps.length ≤ 1000000000) (hs : s.length ≤ 1000) (hrs : Row w lo' 1 B ss.length (strs ss)) (hss : ss.length ≤ 200000) (hT : Tz w) :
    Calls Tryz.prog 16 #[.slice A ps.length c, encStr s, .slice B ss.length d] w (VerPost w ps s ss) := by
  have HB := Lib.hid (fun (w' : World) (f : Int) => VerPost.bad (w := w) (w' := w') (ps := ps) (s := s) (ss := ss) (f := f))
  have HNO := Lib.hid (fun (w' : World) (l : List (List UInt8)) (k : Nat) => VerPost.no (w := w) (w' := w') (ps := ps) (s := s) (ss := ss) (l := l) (k := k))
  have HYES := Lib.hid (fun (w' : World) (l : List (List UInt8)) => VerPost.yes (w := w) (w' := w') (ps := ps) (s := s) (ss := ss) (l := l))
  have H0 := Lib.hid (startF_0 (ps := ps) (s := s))
  have HT := Lib.hid hT
  clear hT
  go_enter Tryz.func16, Tryz.ntmps16
  go_wp2_with fail
  refine (startFault_any A c lo ps s _ hr hl (by omega)).mono ?_
  rintro e w1 ⟨rfl, hb⟩
  replace HT := Lib.hid (HT.out.below hb)
  replace hr := hr.below hb
  replace hrs := hrs.below hb
  obtain ⟨f, hf⟩ : ∃ f, startF ps s = f := ⟨_, rfl⟩
  rw [hf]
  have HF := Lib.hid hf
  clear hf
  by_cases h : f = 0
  · subst h
    obtain ⟨h0, -⟩ := H0.out HF.out
    have hok := inFault_ok h0
    have h2 := unf_200 h0
    have HX := Lib.hid (unf_255 h0)
    have HP := Lib.hid hok.2.1
    have hq := hok.2.2
    clear h0 hok
    go_wp2_with fail
    refine (spread_any A c lo ps _ hr hl (fun p hp => by have := HP.out p hp; omega) (fun p hp => by have := HP.out p hp; omega) (by omega)).mono ?_
    rintro e w2 ⟨A2, c2, rfl, hown, hb2⟩
    have hcap := own_cap hown
    have hr2 := Row.of_own hown
    replace HT := Lib.hid (HT.out.below hb2)
    replace hrs := hrs.below hb2
    clear hown hr hq HP
    obtain ⟨xs, hxs⟩ : ∃ xs, unf ps = xs := ⟨_, rfl⟩
    rw [hxs] at hr2 hcap h2 HX HNO HYES ⊢
    clear hxs
    go_wp2_with fail
    refine (chain_A A2 c2 _ xs s _ hr2 hcap HX.out h2 hs HT.out).mono ?_
    rintro e w3 ⟨A3, c3, rfl, hown3, hb3⟩
    have hrw := Row.of_own hown3
    replace hrs := hrs.below hb3
    have hbx := below_up (below_up hb hb2) hb3
    have hll := chainA_in (start := s) h2
    clear hown3
    obtain ⟨l, hl3⟩ : ∃ l, chainA xs s = l := ⟨_, rfl⟩
    have HL := Lib.hid hl3
    rw [hl3] at hrw hll ⊢
    clear hl3 hb hb2 hb3 hr2 h2 HX HT H0
    obtain ⟨mx, hmx⟩ : ∃ mx : Nat, mx = max l.length ss.length := ⟨_, rfl⟩
    have hm1 : max (l.length : Int) (ss.length : Int) = (mx : Int) := by omega
    have hm2 : l.length ≤ mx := by omega
    have hm3 : ss.length ≤ mx := by omega
    have hm4 : mx ≤ l.length ∨ mx ≤ ss.length := by omega
    have hif : (if (l.length : Int) < (ss.length : Int) then (ss.length : Int) else (l.length : Int)) = (mx : Int) := by split <;> omega
    have hif2 : (if (ss.length : Int) < (l.length : Int) then (l.length : Int) else (ss.length : Int)) = (mx : Int) := by split <;> omega
    clear hmx
    go_wp2_with fail
    clear hif hif2 hm1
    go_loopw [30] (fun i wr => ∃ k : Nat, k ≤ mx ∧ i = .int .i64 k ∧ Hid (verN (l.drop k) (ss.drop k) k = verN l ss 0) ∧ ∃ q, wr = w3.drewN q) (fun i _ => mx - (intOf i).toNat)
    case atStart => exact ⟨0, Nat.zero_le _, rfl, Lib.hid rfl, 0, rfl⟩
    case round =>
      obtain ⟨k, hk, rfl, HK, q, rfl⟩ := hrel
      have hbx := below_drewN' hbx q
      by_cases hlt : k < mx
      · have d0 : decide (k < mx) = true := decide_eq_true hlt
        by_cases g1 : l.length ≤ k
        · have d1 : decide (l.length ≤ k) = true := decide_eq_true g1
          have HV := Lib.hid (verN_1 g1 (show k < ss.length by omega))
          go_wp2_with fail
          go_quiet (fail)
          go_wp2_with fail
          go_returns
          exact HNO.out _ _ _ HF.out HL.out (HK.out.symm.trans HV.out) (below_drewN' hbx _)
        have d1 : decide (l.length ≤ k) = false := decide_eq_false g1
        by_cases g2 : ss.length ≤ k
        · have d2 : decide (ss.length ≤ k) = true := decide_eq_true g2
          have HV := Lib.hid (verN_2 g2 (show k < l.length by omega))
          go_wp2_with fail
          go_quiet (fail)
          go_wp2_with fail
          go_returns
          exact HNO.out _ _ _ HF.out HL.out (HK.out.symm.trans HV.out) (below_drewN' hbx _)
        have d2 : decide (ss.length ≤ k) = false := decide_eq_false g2
        have i1 : (k : Int) < (l.length : Int) := by omega
        have i2 : (k : Int) < (ss.length : Int) := by omega
        have i3 : k < l.length := by omega
        have i4 : k < ss.length := by omega
        obtain ⟨b1, o1, e1, _, _, c1⟩ := hrw.str_at (show k < l.length by omega)
        obtain ⟨b2, o2, e2, _, _, c2'⟩ := hrs.str_at (show k < ss.length by omega)
        subst e1 e2
        unfold encStr at c1 c2'
        by_cases he : l[k]'(by omega) = ss[k]'(by omega)
        · have HE := Lib.hid (verN_eq (show k < l.length by omega) (show k < ss.length by omega) he)
          have HE2 := Lib.hid he
          generalize l[k]'(by omega) = x at *
          generalize ss[k]'(by omega) = y at *
          clear he
          obtain rfl : x = y := HE2.out
          clear HE2
          have de : (x != x) = false := by simp
          go_wp2_with fail
          go_quiet (fail)
          go_wp2_with fail
          go_roundw
          case rel => exact ⟨k + 1, by omega, by go_num, Lib.hid (HE.out.symm.trans HK.out), _, by first | rfl | exact (World.drewN_drewN _ _ _)⟩
          case measure => simp [intOf]; omega
        · have HE := Lib.hid (verN_ne (show k < l.length by omega) (show k < ss.length by omega) he)
          generalize l[k]'(by omega) = x at *
          generalize ss[k]'(by omega) = y at *
          have de : (x == y) = false := by simpa using he
          have de2 : (x != y) = true := by simpa using he
          clear he
          go_wp2_with fail
          go_quiet (fail)
          go_wp2_with fail
          go_returns
          exact HNO.out _ _ _ HF.out HL.out (HK.out.symm.trans HE.out) (below_drewN' hbx _)
      · have hkk : k = mx := by omega
        subst hkk
        have HV := Lib.hid (verN_0 hm2 hm3)
        go_wp2_with fail
        go_returns
        exact HYES.out _ _ HF.out HL.out (HK.out.symm.trans HV.out) hbx
  · have d : (f == 0) = false := by simpa using h
    have HN := Lib.hid h
    clear h
    go_wp2_with fail
    go_returns
    exact HB.out _ _ HF.out HN.out hb
set_option maxHeartbeats 4000000 in
set_option maxRecDepth 100000 in
theorem verifiedOf_any (A B : Option Addr) (c d lo lo' : Nat) (ps : List (Int × Int)) (s : List UInt8) (ss : List (List UInt8)) (w : World) (hr : Row w lo 2 A ps.length (prs ps)) (hf : inFault ps = 0) (hs : s.length ≤ 1000) (hrs : Row w lo' 1 B ss.length (strs ss)) (hss : ss.length ≤ 200000) (hT : Tz w) :
    Calls Tryz.prog 17 #[.slice A ps.length c, encStr s, .slice B ss.length d] w fun e w' => e = .returned (.int .i64 (verN (chainA (unf ps) s) ss 0)) ∧ Below w.heap.size w w' := by
  have h2 := unf_200 hf
  have HF := Lib.hid hf
  have HT := Lib.hid hT
  clear hT hf
  have tt : True := trivial
  by_cases h : (0 : Nat) = 0
  · clear h
    go_enter Tryz.func17, Tryz.ntmps17
    go_wp2_with fail
    refine (chainOf_A A c lo ps s _ hr HF.out hs HT.out).mono ?_
    rintro e w3 ⟨A3, c3, rfl, hown3, hbx⟩
    have hrw := Row.of_own hown3
    replace hrs := hrs.below hbx
    have hll := chainA_in (start := s) h2
    clear hown3
    obtain ⟨l, hl3⟩ : ∃ l, chainA (unf ps) s = l := ⟨_, rfl⟩
    have HL := Lib.hid hl3
    rw [hl3] at hrw hll ⊢
    clear hl3 h2 hr HT
    obtain ⟨mx, hmx⟩ : ∃ mx : Nat, mx = max l.length ss.length := ⟨_, rfl⟩
    have hm1 : max (l.length : Int) (ss.length : Int) = (mx : Int) := by omega
    have hm2 : l.length ≤ mx := by omega
    have hm3 : ss.length ≤ mx := by omega
    have hm4 : mx ≤ l.length ∨ mx ≤ ss.length := by omega
    have hif : (if (l.length : Int) < (ss.length : Int) then (ss.length : Int) else (l.length : Int)) = (mx : Int) := by split <;> omega
    have hif2 : (if (ss.length : Int) < (l.length : Int) then (l.length : Int) else (ss.length : Int)) = (mx : Int) := by split <;> omega
    clear hmx
    go_wp2_with fail
    clear hif hif2 hm1
    go_loopw [17] (fun i wr => ∃ k : Nat, k ≤ mx ∧ i = .int .i64 k ∧ Hid (verN (l.drop k) (ss.drop k) k = verN l ss 0) ∧ ∃ q, wr = w3.drewN q) (fun i _ => mx - (intOf i).toNat)
    case atStart => exact ⟨0, Nat.zero_le _, rfl, Lib.hid rfl, 0, rfl⟩
    case round =>
      obtain ⟨k, hk, rfl, HK, q, rfl⟩ := hrel
      have hbx := below_drewN' hbx q
      by_cases hlt : k < mx
      · have d0 : decide (k < mx) = true := decide_eq_true hlt
        by_cases g1 : l.length ≤ k
        · have d1 : decide (l.length ≤ k) = true := decide_eq_true g1
          have HV := Lib.hid (verN_1 g1 (show k < ss.length by omega))
          go_wp2_with fail
          go_quiet (fail)
          go_wp2_with fail
          go_ret
          exact ⟨by rw [HL.out, ← HK.out, HV.out]; rfl, below_drewN' hbx _⟩
        have d1 : decide (l.length ≤ k) = false := decide_eq_false g1
        by_cases g2 : ss.length ≤ k
        · have d2 : decide (ss.length ≤ k) = true := decide_eq_true g2
          have HV := Lib.hid (verN_2 g2 (show k < l.length by omega))
          go_wp2_with fail
          go_quiet (fail)
          go_wp2_with fail
          go_ret
          exact ⟨by rw [HL.out, ← HK.out, HV.out]; rfl, below_drewN' hbx _⟩
        have d2 : decide (ss.length ≤ k) = false := decide_eq_false g2
        have i1 : (k : Int) < (l.length : Int) := by omega
        have i2 : (k : Int) < (ss.length : Int) := by omega
        have i3 : k < l.length := by omega
        have i4 : k < ss.length := by omega
        obtain ⟨b1, o1, e1, _, _, c1⟩ := hrw.str_at (show k < l.length by omega)
        obtain ⟨b2, o2, e2, _, _, c2'⟩ := hrs.str_at (show k < ss.length by omega)
        subst e1 e2
        unfold encStr at c1 c2'
        by_cases he : l[k]'(by omega) = ss[k]'(by omega)
        · have HE := Lib.hid (verN_eq (show k < l.length by omega) (show k < ss.length by omega) he)
          have HE2 := Lib.hid he
          generalize l[k]'(by omega) = x at *
          generalize ss[k]'(by omega) = y at *
          clear he
          obtain rfl : x = y := HE2.out
          clear HE2
          have de : (x != x) = false := by simp
          go_wp2_with fail
          go_quiet (fail)
          go_wp2_with fail
          go_roundw
          case rel => exact ⟨k + 1, by omega, by go_num, Lib.hid (HE.out.symm.trans HK.out), _, by first | rfl | exact (World.drewN_drewN _ _ _)⟩
          case measure => simp [intOf]; omega
        · have HE := Lib.hid (verN_ne (show k < l.length by omega) (show k < ss.length by omega) he)
          generalize l[k]'(by omega) = x at *
          generalize ss[k]'(by omega) = y at *
          have de : (x == y) = false := by simpa using he
          have de2 : (x != y) = true := by simpa using he
          clear he
          go_wp2_with fail
          go_quiet (fail)
          go_wp2_with fail
          go_ret
          exact ⟨by rw [HL.out, ← HK.out, HE.out]; rfl, below_drewN' hbx _⟩
      · have hkk : k = mx := by omega
        subst hkk
        have HV := Lib.hid (verN_0 hm2 hm3)
        go_wp2_with fail
        go_ret
        exact ⟨by rw [HL.out, ← HK.out, HV.out]; rfl, hbx⟩
  · exact absurd rfl h
end Go.Proofs.YtdidcjhgdofgcaaGreatDoor
