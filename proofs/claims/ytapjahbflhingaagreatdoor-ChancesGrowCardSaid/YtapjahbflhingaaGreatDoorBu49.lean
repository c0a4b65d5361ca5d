/- Texts of this seat, laid together: Mp Ms. -/
import Derived.Maps.RangeWalk
import Derived.Maps.OwnOps
import Derived.Maps.Views
import Derived.Test.YtapjahbflhingaaGreatDoorBu01
/- Maps from numbers to numbers that a call makes, as functions; ranging over them. -/
namespace Go.Proofs.YtapjahbflhingaaGreatDoor
set_option linter.unusedVariables false
set_option linter.unusedSimpArgs false
open Go.RowKit Go.Maps

theorem keyI : Keyed Tryz.prog 3 := int_keyed Tryz.underlying3
theorem zeroI (w : World) : (zeroValue 3).run Tryz.prog w = .ok (.int .i64 0) w := by kernel_rfl
theorem wf_I {x : Int} (h : I64 x) : (Lit.int .i64 x).wf = true := WalkArith.wf_i64 (by unfold I64 at h; omega)
theorem I_wf {x : Int} (h : (Lit.int .i64 x).wf = true) : I64 x := by
  unfold I64
  simp [Lit.wf, IntKind.min, IntKind.max, IntKind.signed, IntKind.bits] at h
  omega
/-- The map in block b of at most n entries, as a function (nought where there is no entry); keys from 0 to B. -/
def MapF (w : World) (b n : Nat) (B : Int) (f : Int → Int) : Prop :=
  ∃ D : DataW Unit, w.ownsMap Tryz.prog 3 (plainElem Tryz.prog 3) b n D ∧ (∀ x, D.atKey (.int .i64 x) (.lit (.int .i64 0)) = .lit (.int .i64 (f x))) ∧ ∀ x, Maps.has D (.int .i64 x) = true → 0 ≤ x ∧ x ≤ B
/-- A range over such a map: which entries are to come, and how many. -/
def MapR (w : World) (b r n : Nat) (B : Int) (f : Int → Int) (left : Int → Bool) (cnt : Nat) : Prop :=
  ∃ (D : DataW Unit) (l : Lit → Bool), w.ranges Tryz.prog 3 (plainElem Tryz.prog 3) b r n D l cnt ∧ (∀ x, D.atKey (.int .i64 x) (.lit (.int .i64 0)) = .lit (.int .i64 (f x))) ∧ (∀ x, left x = l (.int .i64 x)) ∧ ∀ x, left x = true → 0 ≤ x ∧ x ≤ B
section
variable {w w' : World} {b r n cnt : Nat} {B : Int} {f : Int → Int} {left : Int → Bool} {row : Option Nat}
theorem MapF.made (w : World) (B : Int) : MapF (w.alloc (.map #[] 0)) w.heap.size 0 B (fun _ => 0) := by
  refine ⟨.map [], World.ownsMap_made _ _ _ _, fun x => atKey_of_not_has (D := (.map [] : DataW Unit)) rfl _, fun x h => ?_⟩
  cases h
theorem MapF.kept (h : MapF w b n B f) (hg : w.grownBy w' row) (hne : some b ≠ row) : MapF w' b n B f := by
  obtain ⟨D, h1, h2, h3⟩ := h
  exact ⟨D, h1.kept hg hne, h2, h3⟩
theorem MapF.below (h : MapF w b n B f) (hb : Below w.heap.size w w') : MapF w' b n B f := h.kept (grown_of_below hb none) (by simp)
theorem MapF.alloc (h : MapF w b n B f) (o : Obj) : MapF (w.alloc o) b n B f := h.kept (World.grownBy_alloc w o none) (by simp)
theorem MapF.lt (h : MapF w b n B f) : b < w.heap.size := by obtain ⟨D, h1, _⟩ := h; exact h1.lt
theorem MapF.mono {m : Nat} {C : Int} (h : MapF w b n B f) (hn : n ≤ m) (hB : B ≤ C) : MapF w b m C f := by
  obtain ⟨D, h1, h2, h3⟩ := h
  exact ⟨D, h1.mono hn, h2, fun x hx => by have := h3 x hx; omega⟩
theorem MapR.kept (h : MapR w b r n B f left cnt) (hg : w.grownBy w' row) (h1 : some b ≠ row) (h2 : some r ≠ row) : MapR w' b r n B f left cnt := by
  obtain ⟨D, l, a, c⟩ := h
  exact ⟨D, l, a.kept hg h1 h2, c⟩
theorem MapR.lt (h : MapR w b r n B f left cnt) : b < w.heap.size ∧ r < w.heap.size := by
  obtain ⟨D, l, a, c⟩ := h
  obtain ⟨es, clock, _, _, _, hb, _, _, _, hr, _⟩ := a
  exact ⟨(Array.getElem?_eq_some_iff.1 hb).1, (Array.getElem?_eq_some_iff.1 hr).1⟩
theorem MapR.left_eq (h : MapR w b r n B f left cnt) : w.rangeLeft b r = cnt := by
  obtain ⟨D, l, a, c⟩ := h
  exact a.left_eq
end
section
variable {w : World} {ops : Array Oper} {rest : List Oper} {o : Oper} {a : Act} {Q : Exit → Act → World → Prop} {b r n cnt : Nat} {B : Int} {f : Int → Int} {left : Int → Bool}
/-- 'm[k]'. -/
theorem wpList_lookF (hg : o.guard = none) (m x : Operand) (hop : o.op = Op.lookup 101 m x false) (hm : a.eval m = .map (some b)) (h : MapF w b n B f) (k : Int) (hk : I64 k) (hx : a.eval x = .int .i64 k)
    (hK : I64 (f k) → wpList Tryz.prog ops Q rest (a.put o.dst (.int .i64 (f k))) w) : wpList Tryz.prog ops Q (o :: rest) a w := by
  obtain ⟨D, h1, h2, h3⟩ := h
  refine wpList_lookup_own_int w hg m x _ hop 3 3 .i64 keyI Tryz.underlying101 Tryz.underlying3 (zeroI _) b n D hm h1 _ _ hx (keyOf_int_mk Tryz.underlying3 (wf_I hk)) ?_
  intro c hat hwc
  rw [h2 k] at hat
  have e : f k = c := by injection hat with hat; injection hat with _ hat
  subst e
  exact hK (I_wf hwc)
/-- What a store makes of the function. -/
def putF (f : Int → Int) (k v : Int) : Int → Int := fun y => if y = k then v else f y
theorem sameI_ne {x k : Int} (h : x ≠ k) : (Lit.int IntKind.i64 x) ≠ Lit.int IntKind.i64 k := fun e => h (by injection e)
theorem MapF.put_ {D : DataW Unit} {k v : Int} (h0 : IsMap D) (h2 : ∀ x, D.atKey (.int .i64 x) (.lit (.int .i64 0)) = .lit (.int .i64 (f x))) (h3 : ∀ x, Maps.has D (.int .i64 x) = true → 0 ≤ x ∧ x ≤ B) (hkB : 0 ≤ k ∧ k ≤ B) :
    (∀ x, (D.put (.int .i64 k) (.lit (.int .i64 v))).atKey (.int .i64 x) (.lit (.int .i64 0)) = .lit (.int .i64 (putF f k v x))) ∧ ∀ x, Maps.has (D.put (.int .i64 k) (.lit (.int .i64 v))) (.int .i64 x) = true → 0 ≤ x ∧ x ≤ B := by
  refine ⟨fun x => ?_, fun x hx => ?_⟩
  · unfold putF
    by_cases e : x = k
    · subst e; rw [if_pos rfl]; exact atKey_put_same (k := .int .i64 x) h0 trivial _ _
    · rw [if_neg e, atKey_put_other (sameI_ne e)]; exact h2 x
  · by_cases e : x = k
    · subst e; exact hkB
    · rw [has_put_other (sameI_ne e)] at hx; exact h3 x hx
/-- 'm[k] = v'. -/
theorem wpList_putF (hg : o.guard = none) (m x v : Operand) (hop : o.op = Op.mapUpdate 101 m x v) (hm : a.eval m = .map (some b)) (h : MapF w b n B f) (hn : n < maxLen) (k c : Int) (hk : I64 k) (hc : I64 c) (hkB : 0 ≤ k ∧ k ≤ B) (hx : a.eval x = .int .i64 k) (hv : a.eval v = .int .i64 c)
    (hK : ∀ w', MapF w' b (n + 1) B (putF f k c) → w.grownBy w' (some b) → wpList Tryz.prog ops Q rest (a.put o.dst undef) w') : wpList Tryz.prog ops Q (o :: rest) a w := by
  obtain ⟨D, h1, h2, h3⟩ := h
  refine wpList_mapUpdate_own w hg m x v _ hop 3 3 keyI Tryz.underlying101 _ b n D hm h1 hn _ _ _ hx hv (keyOf_int_mk Tryz.underlying3 (wf_I hk)) _ [] (plainElem_int Tryz.underlying3 (wf_I hc)) ?_
  intro w' h1' hg'
  exact hK w' ⟨_, h1', MapF.put_ (h1.tidy keyI).isMap h2 h3 hkB⟩ hg'
/-- An entry of a map literal. -/
theorem wpList_insF (hg : o.guard = none) (m x v : Operand) (hop : o.op = Op.insert 101 m x v) (hm : a.eval m = .map (some b)) (h : MapF w b n B f) (hn : n < maxLen) (k c : Int) (hk : I64 k) (hc : I64 c) (hkB : 0 ≤ k ∧ k ≤ B) (hx : a.eval x = .int .i64 k) (hv : a.eval v = .int .i64 c)
    (hK : ∀ w', MapF w' b (n + 1) B (putF f k c) → w.grownBy w' (some b) → wpList Tryz.prog ops Q rest (a.put o.dst undef) w') : wpList Tryz.prog ops Q (o :: rest) a w := by
  obtain ⟨D, h1, h2, h3⟩ := h
  refine wpList_plain hg fun K' hK' => ?_
  obtain ⟨w', hrun, r1, r2⟩ := h1.update keyI Tryz.underlying101 hn (keyOf_int_mk Tryz.underlying3 (wf_I hk)) (plainElem_int Tryz.underlying3 (wf_I hc))
  unfold Oper.wp
  simp [execOp, hop, hm, hx, hv, hrun, Result.andThen]
  exact hK' _ _ (hK w' ⟨_, r1, MapF.put_ (h1.tidy keyI).isMap h2 h3 hkB⟩ r2)
/-- 'range m'. -/
theorem wpList_rangeF (hg : o.guard = none) (m : Operand) (hop : o.op = Op.range 101 m) (hm : a.eval m = .map (some b)) (h : MapF w b n B f)
    (hK : ∀ (w' : World) (left : Int → Bool) (cnt : Nat), MapR w' b w.heap.size n B f left cnt → cnt ≤ n → (∀ x, left x = false → f x = 0) → w.grownBy w' none → w'.heap.size = w.heap.size + 1 → wpList Tryz.prog ops Q rest (a.put o.dst (.pointer (some ⟨w.heap.size, 0, none⟩))) w') : wpList Tryz.prog ops Q (o :: rest) a w := by
  obtain ⟨D, h1, h2, h3⟩ := h
  have hsz : Maps.size D ≤ n := by
    obtain ⟨es, clock, _, _, hs, rfl⟩ := h1
    rw [size_eq, length_sorted]
    simpa using hs
  refine wpList_range_own w hg m _ hop 3 3 keyI Tryz.underlying101 _ b n D hm h1 ?_
  intro w' hrg hg0 hs0
  refine hK w' (fun x => Maps.has D (.int .i64 x)) _ ⟨D, _, hrg, h2, fun _ => rfl, h3⟩ hsz (fun x hx => ?_) hg0 hs0
  have := h2 x
  rw [atKey_of_not_has hx] at this
  injection this with this
  injection this with _ this
  exact this.symm
/-- The step. -/
theorem wpList_nextF (hg : o.guard = none) (it : Operand) (hop : o.op = Op.next it false) (hit : a.eval it = .pointer (some ⟨r, 0, none⟩)) (h : MapR w b r n B f left cnt)
    (hDone : (∀ x, left x = false) → wpList Tryz.prog ops Q rest (a.put o.dst (.tuple #[.bool false])) w)
    (hMore : ∀ (x : Int) (w' : World) (cnt' : Nat), I64 x → I64 (f x) → 0 ≤ x → x ≤ B → left x = true → MapR w' b r n B f (fun y => left y && !decide (y = x)) cnt' → cnt' < cnt →
      w.grownBy w' (some r) → w'.heap.size = w.heap.size → (Instr.entry (.pointer (some ⟨r, 0, none⟩))).run Tryz.prog w' = .ok (.tuple #[.int .i64 x, .int .i64 (f x)]) w' → wpList Tryz.prog ops Q rest (a.put o.dst (.tuple #[.bool true, .int .i64 x, .int .i64 (f x)])) w') :
    wpList Tryz.prog ops Q (o :: rest) a w := by
  obtain ⟨D, l, h1, h2, h4, h3⟩ := h
  refine wpList_next_ranges_ii w hg it hop 3 3 .i64 .i64 keyI Tryz.underlying3 Tryz.underlying3 b r n D l cnt hit h1 (fun _ hl => hDone (fun x => by rw [h4]; exact hl _)) ?_
  intro x c w' cnt' hwx hwc hlx hat hrg hlt hg1 hs1 hen
  have e : f x = c := by
    have := hat (.lit (.int .i64 0))
    rw [h2 x] at this
    injection this with this
    injection this with _ this
  subst e
  have hlx' : left x = true := by rw [h4]; exact hlx
  obtain ⟨b1, b2⟩ := h3 x hlx'
  refine hMore x w' cnt' (I_wf hwx) (I_wf hwc) b1 b2 hlx' ⟨D, _, hrg, h2, fun y => ?_, fun y hy => ?_⟩ hlt hg1 hs1 hen
  · by_cases e : y = x
    · subst e; simp [Lit.sameKey, h4]
    · show (left y && !decide (y = x)) = _
      rw [sameKey_ne (sameI_ne e), h4]; simp [e]
  · simp only [Bool.and_eq_true] at hy
    exact h3 y hy.1
end
end Go.Proofs.YtapjahbflhingaaGreatDoor
/- Plain laws of how often sums of rows come about; no program in sight. -/
namespace Go.Proofs.YtapjahbflhingaaGreatDoor
set_option linter.unusedVariables false
set_option linter.unusedSimpArgs false
open Go.RowKit

def one0 : Int → Int := fun y => if y = 0 then 1 else 0
def wS (f : Int → Int) (row : List Int) : Int → Int := fun s => (row.map (fun n => f (s - n))).sum
def cntL (rows : List (List Int)) : Int → Int := rows.foldl wS one0
def waysN (rows : List (List Int)) : Nat := rows.foldl (fun a r => a * r.length) 1
theorem cntL_snoc (rows : List (List Int)) (r : List Int) : cntL (rows ++ [r]) = wS (cntL rows) r := by simp [cntL]
theorem waysN_snoc (rows : List (List Int)) (r : List Int) : waysN (rows ++ [r]) = waysN rows * r.length := by simp [waysN]
theorem sumI_bd {α : Type} (l : List α) (g : α → Int) (T : Int) (h : ∀ x ∈ l, 0 ≤ g x ∧ g x ≤ T) : 0 ≤ (l.map g).sum ∧ (l.map g).sum ≤ l.length * T := by
  induction l with
  | nil => simp
  | cons x l ih =>
    have h1 := h x (by simp)
    have h2 := ih (fun y hy => h y (by simp [hy]))
    simp only [List.map_cons, List.sum_cons, List.length_cons]
    have e : ((l.length + 1 : Nat) : Int) * T = l.length * T + T := by rw [Int.natCast_add, Int.add_mul]; simp
    rw [e]
    omega
theorem cntL_bd (rows : List (List Int)) : ∀ s, 0 ≤ cntL rows s ∧ cntL rows s ≤ waysN rows := by
  suffices h : ∀ (n : Nat) (rs : List (List Int)), rs.length = n → ∀ s, 0 ≤ cntL rs s ∧ cntL rs s ≤ waysN rs from h _ rows rfl
  intro n
  induction n with
  | zero =>
    intro rs hr s
    have : rs = [] := List.eq_nil_of_length_eq_zero hr
    subst this
    simp only [cntL, waysN, List.foldl_nil, one0]
    split <;> simp
  | succ n ih =>
    intro rs hr s
    obtain ⟨q, r, rfl⟩ : ∃ q r, rs = q ++ [r] := ⟨rs.dropLast, rs.getLast (by intro e; subst e; simp at hr), (List.dropLast_concat_getLast _).symm⟩
    rw [cntL_snoc, waysN_snoc]
    have := sumI_bd r (fun n => cntL q (s - n)) (waysN q) (fun x _ => ih q (by simpa using hr) _)
    refine ⟨this.1, Int.le_trans this.2 ?_⟩
    rw [Int.natCast_mul, Int.mul_comm]
    exact Int.le_refl _

/-! ### while a map is ranged over -/
def mk_ (f : Int → Int) (left : Int → Bool) : Int → Int := fun y => if left y then 0 else f y
def pj (f : Int → Int) (left : Int → Bool) (row : List Int) (x : Int) (j : Nat) : Int → Int := fun s => wS (mk_ f left) row s + ((row.take j).map (fun n => if s - n = x then f x else 0)).sum
theorem pj_zero (f : Int → Int) (left : Int → Bool) (row : List Int) (x : Int) : pj f left row x 0 = wS (mk_ f left) row := by funext s; simp [pj]
theorem pj_step (f : Int → Int) (left : Int → Bool) (row : List Int) (x : Int) {j : Nat} (hj : j < row.length) : pj f left row x (j + 1) = putF (pj f left row x j) (x + row[j]) (pj f left row x j (x + row[j]) + f x) := by
  funext s
  unfold putF
  by_cases e : s = x + row[j]
  · rw [if_pos e]
    subst e
    unfold pj
    rw [List.take_succ_eq_append_getElem hj, List.map_append, List.sum_append]
    have : x + row[j] - row[j] = x := by omega
    simp [this]
    omega
  · rw [if_neg e]
    unfold pj
    rw [List.take_succ_eq_append_getElem hj, List.map_append, List.sum_append]
    have : ¬ s - row[j] = x := by omega
    simp [this]
theorem pj_end (f : Int → Int) (left : Int → Bool) (row : List Int) {x : Int} (hx : left x = true) : pj f left row x row.length = wS (mk_ f (fun y => left y && !decide (y = x))) row := by
  funext s
  unfold pj wS
  rw [List.take_length]
  induction row with
  | nil => rfl
  | cons n row ih =>
    simp only [List.map_cons, List.sum_cons] at ih ⊢
    rw [← ih]
    have : mk_ f (fun y => left y && !decide (y = x)) (s - n) = mk_ f left (s - n) + if s - n = x then f x else 0 := by
      unfold mk_
      by_cases e : s - n = x
      · rw [e]; simp [hx]
      · simp [e]
    rw [this]
    omega
theorem wS_start {f : Int → Int} {left : Int → Bool} (h : ∀ x, left x = false → f x = 0) (row : List Int) : wS (mk_ f left) row = fun _ => 0 := by
  funext s
  unfold wS
  have : ∀ n, mk_ f left (s - n) = 0 := fun n => by
    unfold mk_
    cases hl : left (s - n)
    · simpa using h _ hl
    · simp
  induction row with
  | nil => rfl
  | cons n row ih => rw [List.map_cons, List.sum_cons, this, ih]; rfl
theorem wS_end {f : Int → Int} {left : Int → Bool} (h : ∀ x, left x = false) (row : List Int) : wS (mk_ f left) row = wS f row := by
  have : mk_ f left = f := by funext y; simp [mk_, h]
  rw [this]
/-- All the way through, no count is more than at the end. -/
theorem pj_bd {f : Int → Int} {T : Int} (hf : ∀ s, 0 ≤ f s ∧ f s ≤ T) {left : Int → Bool} {x : Int} (hx : left x = true) (row : List Int) (j : Nat) (s : Int) : 0 ≤ pj f left row x j s ∧ pj f left row x j s ≤ row.length * T := by
  have h1 : ∀ n, 0 ≤ mk_ f left (s - n) ∧ mk_ f left (s - n) + (if s - n = x then f x else 0) ≤ T ∧ 0 ≤ (if s - n = x then f x else 0) := fun n => by
    have g1 := hf (s - n)
    have g2 := hf x
    unfold mk_
    by_cases e : s - n = x
    · rw [e]; simp [hx]; omega
    · cases hl : left (s - n) <;> simp [e] <;> omega
  unfold pj wS
  induction row generalizing j with
  | nil => simp
  | cons n row ih =>
    have g := h1 n
    cases j with
    | zero =>
      have := ih 0
      simp only [List.map_cons, List.sum_cons, List.length_cons, List.take_zero, List.map_nil, List.sum_nil] at this ⊢
      have e : ((row.length + 1 : Nat) : Int) * T = row.length * T + T := by rw [Int.natCast_add, Int.add_mul]; simp
      rw [e]
      omega
    | succ j =>
      have := ih j
      simp only [List.take_succ_cons, List.map_cons, List.sum_cons, List.length_cons] at this ⊢
      have e : ((row.length + 1 : Nat) : Int) * T = row.length * T + T := by rw [Int.natCast_add, Int.add_mul]; simp
      rw [e]
      omega

/-! ### up to a target -/
/-- The sum of a function over what is from 0 to B and not more than t. -/
def upTo (B : Nat) (f : Int → Int) (t : Int) : Int := ((List.range (B + 1)).map (fun i : Nat => if (i : Int) ≤ t then f i else 0)).sum
theorem sum_range_one (B : Nat) (c : Int) (x : Int) (h0 : 0 ≤ x) (hB : x ≤ B) : ((List.range (B + 1)).map (fun i : Nat => if (i : Int) = x then c else 0)).sum = c := by
  obtain ⟨m, rfl⟩ := Int.eq_ofNat_of_zero_le h0
  have hm : m ≤ B := by omega
  have : ∀ n, ((List.range n).map (fun i : Nat => if (i : Int) = (m : Int) then c else 0)).sum = if m < n then c else 0 := by
    intro n
    induction n with
    | zero => simp
    | succ n ih =>
      rw [List.range_succ, List.map_append, List.sum_append, ih]
      by_cases e : n = m
      · subst e; simp
      · have e' : ¬ (n : Int) = (m : Int) := by omega
        simp only [List.map_cons, List.map_nil, List.sum_cons, List.sum_nil, e', if_false]
        by_cases h : m < n
        · rw [if_pos h, if_pos (by omega)]; omega
        · rw [if_neg h, if_neg (by omega)]; rfl
  rw [this, if_pos (by omega)]
theorem sumI_map_add {α : Type} (l : List α) (g h : α → Int) : (l.map (fun x => g x + h x)).sum = (l.map g).sum + (l.map h).sum := by
  induction l with
  | nil => rfl
  | cons x l ih => simp only [List.map_cons, List.sum_cons, ih]; omega
theorem upTo_step {B : Nat} {f : Int → Int} {left : Int → Bool} {x t : Int} (hx : left x = true) (h0 : 0 ≤ x) (hB : x ≤ B) : upTo B (mk_ f (fun y => left y && !decide (y = x))) t = upTo B (mk_ f left) t + if x ≤ t then f x else 0 := by
  unfold upTo
  have e : (fun i : Nat => if (i : Int) ≤ t then mk_ f (fun y => left y && !decide (y = x)) i else 0) = fun i : Nat => (if (i : Int) ≤ t then mk_ f left i else 0) + (if (i : Int) = x then (if x ≤ t then f x else 0) else 0) := by
    funext i
    unfold mk_
    by_cases e : (i : Int) = x
    · rw [e]; by_cases ht : x ≤ t <;> simp [hx, ht]
    · simp [e]
  rw [e, sumI_map_add, sum_range_one B _ x h0 hB]
theorem upTo_start {B : Nat} {f : Int → Int} {left : Int → Bool} (h : ∀ x, left x = false → f x = 0) (t : Int) : upTo B (mk_ f left) t = 0 := by
  have : mk_ f left = fun _ => 0 := by
    funext y
    unfold mk_
    cases hl : left y
    · simpa using h _ hl
    · simp
  rw [this]
  unfold upTo
  induction B with
  | zero => simp
  | succ B ih => rw [List.range_succ, List.map_append, List.sum_append, ih]; simp
theorem upTo_end {B : Nat} {f : Int → Int} {left : Int → Bool} (h : ∀ x, left x = false) (t : Int) : upTo B (mk_ f left) t = upTo B f t := by
  have : mk_ f left = f := by funext y; simp [mk_, h]
  rw [this]
theorem sumI_mono {α : Type} (l : List α) (g h : α → Int) (hh : ∀ x ∈ l, g x ≤ h x) : (l.map g).sum ≤ (l.map h).sum := by
  induction l with
  | nil => simp
  | cons x l ih =>
    have h1 := hh x (by simp)
    have h2 := ih (fun y hy => hh y (by simp [hy]))
    simp only [List.map_cons, List.sum_cons]
    omega
theorem upTo_mono {B : Nat} {f g : Int → Int} {t u : Int} (hf : ∀ s, 0 ≤ f s) (hfg : ∀ s, f s ≤ g s) (htu : t ≤ u) : upTo B f t ≤ upTo B g u := by
  refine sumI_mono _ _ _ fun i _ => ?_
  have h1 := hf i
  have h2 := hfg i
  by_cases a : (i : Int) ≤ t
  · rw [if_pos a, if_pos (by omega)]; exact h2
  · rw [if_neg a]; split <;> omega
theorem upTo_nonneg {B : Nat} {f : Int → Int} {t : Int} (hf : ∀ s, 0 ≤ f s) : 0 ≤ upTo B f t := by
  unfold upTo
  have : ∀ l : List Nat, 0 ≤ (l.map (fun i : Nat => if (i : Int) ≤ t then f i else 0)).sum := by
    intro l
    induction l with
    | nil => simp
    | cons x l ih =>
      simp only [List.map_cons, List.sum_cons]
      have := hf x
      split <;> omega
  exact this _
/-- All that a function has from 0 to B. -/
def allF (B : Nat) (f : Int → Int) : Int := ((List.range (B + 1)).map (fun i : Nat => f i)).sum
theorem upTo_all {B : Nat} {f : Int → Int} {t : Int} (hB : (B : Int) ≤ t) : upTo B f t = allF B f := by
  unfold upTo allF
  congr 1
  refine List.map_congr_left fun i hi => ?_
  have := List.mem_range.1 hi
  rw [if_pos (by omega)]
theorem upTo_le_all {B : Nat} {f : Int → Int} {t : Int} (hf : ∀ s, 0 ≤ f s) : upTo B f t ≤ allF B f := by
  rw [← upTo_all (t := max t B) (by omega)]
  exact upTo_mono hf (fun _ => Int.le_refl _) (by omega)

/-! ### how many there are in all -/
theorem allF_succ (B : Nat) (f : Int → Int) : allF (B + 1) f = allF B f + f ((B + 1 : Nat) : Int) := by
  unfold allF
  rw [List.range_succ, List.map_append, List.sum_append]
  simp
theorem allF_zero (f : Int → Int) : allF 0 f = f 0 := by simp [allF]
theorem allF_add (B : Nat) (f g : Int → Int) : allF B (fun s => f s + g s) = allF B f + allF B g := sumI_map_add _ _ _
theorem allF_pre {f : Int → Int} (h0 : ∀ t, t < 0 → f t = 0) (n : Nat) : ∀ m, m < n → allF m (fun s => f (s - n)) = 0 := by
  intro m
  induction m with
  | zero => intro h; rw [allF_zero]; exact h0 _ (by omega)
  | succ m ih => intro h; rw [allF_succ, ih (by omega), h0 _ (by omega)]; rfl
theorem allF_shift {f : Int → Int} (h0 : ∀ t, t < 0 → f t = 0) (n d : Nat) : allF (n + d) (fun s => f (s - n)) = allF d f := by
  induction d with
  | zero =>
    cases n with
    | zero => simp [allF]
    | succ n =>
      rw [Nat.add_zero, allF_succ, allF_pre h0 (n + 1) n (by omega), allF_zero]
      have : ((n + 1 : Nat) : Int) - ((n + 1 : Nat) : Int) = 0 := by omega
      rw [this]; omega
  | succ d ih =>
    rw [← Nat.add_assoc, allF_succ, ih, allF_succ]
    have : ((n + d + 1 : Nat) : Int) - (n : Int) = ((d + 1 : Nat) : Int) := by omega
    rw [this]
theorem allF_more {f : Int → Int} {b B : Nat} (h : ∀ t, (b : Int) < t → f t = 0) (hB : b ≤ B) : allF B f = allF b f := by
  induction B with
  | zero =>
    have : b = 0 := by omega
    subst this; rfl
  | succ B ih =>
    rcases Nat.lt_or_ge B b with h1 | h1
    · have : b = B + 1 := by omega
      subst this; rfl
    · rw [allF_succ, ih h1, h _ (by omega)]; omega
theorem allF_wS {f : Int → Int} {b M B : Nat} (h0 : ∀ t, t < 0 → f t = 0) (h1 : ∀ t, (b : Int) < t → f t = 0) (row : List Int) (hr : ∀ x ∈ row, 0 ≤ x ∧ x ≤ M) (hB : b + M ≤ B) : allF B (wS f row) = row.length * allF b f := by
  induction row with
  | nil =>
    have : wS f [] = fun _ => 0 := by funext s; simp [wS]
    rw [this]
    have : ∀ B, allF B (fun _ => 0) = 0 := by
      intro B
      induction B with
      | zero => rfl
      | succ B ih => rw [allF_succ, ih]; rfl
    rw [this]; simp
  | cons n row ih =>
    have e : wS f (n :: row) = fun s => f (s - n) + wS f row s := by funext s; simp [wS]
    rw [e, allF_add, ih (fun x hx => hr x (by simp [hx]))]
    obtain ⟨g0, g1⟩ := hr n (by simp)
    obtain ⟨m, rfl⟩ := Int.eq_ofNat_of_zero_le g0
    have e2 : B = m + (B - m) := by omega
    have e3 : allF B (fun s => f (s - (m : Int))) = allF b f := by
      rw [e2, allF_shift h0 m (B - m)]
      exact allF_more h1 (by omega)
    rw [e3, List.length_cons]
    have : ((row.length + 1 : Nat) : Int) * allF b f = row.length * allF b f + allF b f := by rw [Int.natCast_add, Int.add_mul]; simp
    rw [this]; omega
theorem wS_supp {f : Int → Int} {b M : Nat} (h0 : ∀ t, t < 0 → f t = 0) (h1 : ∀ t, (b : Int) < t → f t = 0) (row : List Int) (hr : ∀ x ∈ row, 0 ≤ x ∧ x ≤ M) : (∀ t, t < 0 → wS f row t = 0) ∧ ∀ t, ((b + M : Nat) : Int) < t → wS f row t = 0 := by
  have key : ∀ t, (∀ x ∈ row, f (t - x) = 0) → wS f row t = 0 := by
    intro t h
    unfold wS
    have : ∀ l : List Int, (∀ x ∈ l, f (t - x) = 0) → (l.map (fun n => f (t - n))).sum = 0 := by
      intro l
      induction l with
      | nil => intro _; rfl
      | cons x l ih => intro h; rw [List.map_cons, List.sum_cons, h x (by simp), ih (fun y hy => h y (by simp [hy]))]; rfl
    exact this row h
  refine ⟨fun t ht => key t fun x hx => h0 _ (by have := hr x hx; omega), fun t ht => key t fun x hx => h1 _ (by have := hr x hx; omega)⟩
theorem cnt_all (M : Nat) : ∀ (n : Nat) (rows : List (List Int)), rows.length = n → (∀ r ∈ rows, ∀ x ∈ r, 0 ≤ x ∧ x ≤ (M : Int)) → (∀ t, t < 0 → cntL rows t = 0) ∧ (∀ t, ((n * M : Nat) : Int) < t → cntL rows t = 0) ∧ allF (n * M) (cntL rows) = waysN rows := by
  intro n
  induction n with
  | zero =>
    intro rows hl _
    have : rows = [] := List.eq_nil_of_length_eq_zero hl
    subst this
    refine ⟨fun t ht => ?_, fun t ht => ?_, ?_⟩
    · simp only [cntL, List.foldl_nil, one0]; rw [if_neg (by omega)]
    · simp only [cntL, List.foldl_nil, one0]; rw [if_neg (by omega)]
    · rw [Nat.zero_mul, allF_zero]; rfl
  | succ n ih =>
    intro rows hl hr
    obtain ⟨q, r, rfl⟩ : ∃ q r, rows = q ++ [r] := ⟨rows.dropLast, rows.getLast (by intro e; subst e; simp at hl), (List.dropLast_concat_getLast _).symm⟩
    obtain ⟨i0, i1, i2⟩ := ih q (by simpa using hl) (fun a ha => hr a (by simp [ha]))
    have hrr : ∀ x ∈ r, 0 ≤ x ∧ x ≤ (M : Int) := hr r (by simp)
    have hs := wS_supp i0 i1 r hrr
    have e : (n + 1) * M = n * M + M := by rw [Nat.add_mul, Nat.one_mul]
    rw [cntL_snoc, waysN_snoc, e]
    refine ⟨hs.1, hs.2, ?_⟩
    rw [allF_wS i0 i1 r hrr (Nat.le_refl _), i2, Int.natCast_mul, Int.mul_comm]
theorem cnt_allF {rows : List (List Int)} {M B : Nat} (hr : ∀ r ∈ rows, ∀ x ∈ r, 0 ≤ x ∧ x ≤ (M : Int)) (hB : rows.length * M ≤ B) : allF B (cntL rows) = waysN rows := by
  obtain ⟨_, h1, h2⟩ := cnt_all M _ rows rfl hr
  rw [allF_more h1 hB, h2]
theorem upTo_sure {rows : List (List Int)} {M B : Nat} {t : Int} (hr : ∀ r ∈ rows, ∀ x ∈ r, 0 ≤ x ∧ x ≤ (M : Int)) (hB : rows.length * M ≤ B) (ht : ((rows.length * M : Nat) : Int) ≤ t) : upTo B (cntL rows) t = waysN rows := by
  rw [← cnt_allF hr hB]
  obtain ⟨_, h1, _⟩ := cnt_all M _ rows rfl hr
  unfold upTo allF
  congr 1
  refine List.map_congr_left fun i _ => ?_
  by_cases h : (i : Int) ≤ t
  · rw [if_pos h]
  · rw [if_neg h, h1 _ (by omega)]
theorem waysN_le {m : Nat} : ∀ (n : Nat) (rows : List (List Int)), rows.length = n → (∀ r ∈ rows, r.length ≤ m) → waysN rows ≤ m ^ n := by
  intro n
  induction n with
  | zero =>
    intro rows hl _
    have : rows = [] := List.eq_nil_of_length_eq_zero hl
    subst this; simp [waysN]
  | succ n ih =>
    intro rows hl hr
    obtain ⟨q, r, rfl⟩ : ∃ q r, rows = q ++ [r] := ⟨rows.dropLast, rows.getLast (by intro e; subst e; simp at hl), (List.dropLast_concat_getLast _).symm⟩
    rw [waysN_snoc, Nat.pow_succ]
    exact Nat.mul_le_mul (ih q (by simpa using hl) (fun a ha => hr a (by simp [ha]))) (hr r (by simp))
theorem waysN_small {rows : List (List Int)} (h4 : rows.length ≤ 4) (hr : ∀ r ∈ rows, r.length ≤ 7) (k : Nat) : waysN (rows.take k) ≤ 2401 := by
  refine Nat.le_trans (waysN_le (m := 7) _ (rows.take k) rfl (fun r h => hr r (List.mem_of_mem_take h))) ?_
  have : (rows.take k).length ≤ 4 := by simp; omega
  exact Nat.le_trans (Nat.pow_le_pow_right (by omega) this) (by decide)
theorem waysN_pos {rows : List (List Int)} (h : ∀ r ∈ rows, 0 < r.length) : 0 < waysN rows := by
  suffices hh : ∀ (n : Nat) (rs : List (List Int)), rs.length = n → (∀ r ∈ rs, 0 < r.length) → 0 < waysN rs from hh _ rows rfl h
  intro n
  induction n with
  | zero =>
    intro rs hl _
    have : rs = [] := List.eq_nil_of_length_eq_zero hl
    subst this; simp [waysN]
  | succ n ih =>
    intro rs hl hr
    obtain ⟨q, r, rfl⟩ : ∃ q r, rs = q ++ [r] := ⟨rs.dropLast, rs.getLast (by intro e; subst e; simp at hl), (List.dropLast_concat_getLast _).symm⟩
    rw [waysN_snoc]
    exact Nat.mul_pos (ih q (by simpa using hl) (fun a ha => hr a (by simp [ha]))) (hr r (by simp))
end Go.Proofs.YtapjahbflhingaaGreatDoor
