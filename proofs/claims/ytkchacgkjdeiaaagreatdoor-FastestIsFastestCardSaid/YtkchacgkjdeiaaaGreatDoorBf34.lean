/- Texts of this seat, laid together: HpM. -/
import Derived.Maps.OwnOps
import Derived.Maps.OwnSet
import Derived.Maps.Views
import Derived.DeepKeys4
import Derived.Test.YtkchacgkjdeiaaaGreatDoorBf33
/- The map of states' numbers. -/
namespace Go.Proofs.YtkchacgkjdeiaaaGreatDoor
set_option linter.unusedVariables false
set_option linter.unusedSimpArgs false
open Go.RowKit Go.Maps Go.WideMaps

structure StE where
  r : Nat
  b : Nat
  s : Nat
deriving DecidableEq, Inhabited
def encT (x : StE) : List Value:=[.int .i64 (x.r : Int),.int .i64 (x.b : Int),.int .i64 (x.s : Int)]
theorem encT_len (x : StE) : (encT x).length = 3:=rfl
abbrev stV (x : StE) : Value := .agg #[.int .i64 (x.r : Int), .int .i64 (x.b : Int), .int .i64 (x.s : Int)]
def OkT (x : StE) : Prop:=x.r ≤ 1000000000 ∧ x.b ≤ 1000000000 ∧ x.s ≤ 1000000000
def klT (x : StE) : Lit:=.string (keyBytes [.int .i64 (x.r : Int),.int .i64 (x.b : Int),.int .i64 (x.s : Int)])
theorem laidAllT : laidOutB Tryz.prog = true:=by kernel_rfl
theorem keyedT : Keyed Tryz.prog 232:=Keyed.of_law (deep_law_laid laidAllT (m:=3) (by omega) (of_decide_eq_true (by kernel_rfl)) (by kernel_rfl) (by rw [Tryz.underlying232]))
theorem wfT {x : Nat} (h : x ≤ 1000000000) : (Lit.int .i64 (x : Int)).wf = true:=WalkArith.wf_i64 (by omega)
theorem keyTT : Tryz.prog.keyType 232 = true:=by kernel_rfl
theorem litsT {x : StE} (h : OkT x) : ∀ D,Tryz.prog.keyLits (D + 2) 232 [.int .i64 (x.r : Int),.int .i64 (x.b : Int),.int .i64 (x.s : Int)] = some [.int .i64 (x.r : Int),.int .i64 (x.b : Int),.int .i64 (x.s : Int)]:=by
 intro D
 have c1 : Tryz.prog.cellsOf 232 = 3:=by kernel_rfl
 have c2 : Tryz.prog.cellsOf 3 = 1:=by kernel_rfl
 simp [Program.keyLits,Tryz.underlying232,Tryz.underlying3,c1,c2,wfT h.1,wfT h.2.1,wfT h.2.2]
theorem keyOfT {x : StE} (h : OkT x) : keyOf Tryz.prog 232 (stV x) = some (klT x):=by
 have hf : (stV x).formed Tryz.prog 232 = true:=by simp [Value.formed,Tryz.underlying232]; kernel_rfl
 obtain ⟨D,hD⟩ : ∃ D,Tryz.prog.types.size + 1 = D + 2:=⟨Tryz.prog.types.size - 1,by kernel_rfl⟩
 unfold keyOf;rw [Tryz.underlying232];simp only [keyTT,hf,Bool.and_self,if_true,hD];show ((Tryz.prog.keyLits (D + 2) 232 [.int .i64 (x.r : Int),.int .i64 (x.b : Int),.int .i64 (x.s : Int)]).map fun ls => Lit.string (keyBytes ls)) = _;rw [litsT h D]; rfl
theorem klT_inj {x y : StE} (hx : OkT x) (hy : OkT y) (h : klT x = klT y) : x = y:=by
 have e:=keyedT.inj (keyOfT hx) (h ▸ keyOfT hy);injection e with e;have e:=congrArg Array.toList e
 simp at e
 obtain ⟨e1,e2,e3⟩:=e
 cases x; cases y
 simp only at e1 e2 e3;have e1:=Int.ofNat.inj e1;have e2:=Int.ofNat.inj e2;have e3:=Int.ofNat.inj e3;subst e1 e2 e3;rfl
theorem klT_key (x : StE) : WideAt.IsKeyLit (klT x):=trivial
def MapT (w : World) (b n : Nat) (f : StE → Option Nat) : Prop :=
 ∃ D : DataW Unit,w.ownsMap Tryz.prog 232 (plainElem Tryz.prog 3) b n D ∧ ∀ x,OkT x → Maps.has D (klT x) = (f x).isSome ∧ ∀ l,f x = some l → ∀ z,D.atKey (klT x) z = .lit (.int .i64 (l : Int))
def putT (f : StE → Option Nat) (x : StE) (l : Nat) : StE → Option Nat:=fun y => if y = x then some l else f y
section
variable {w w' : World} {b n : Nat} {f : StE → Option Nat}
theorem MapT.made (w : World) : MapT (w.alloc (.map #[] 0)) w.heap.size 0 (fun _ => none) :=
 ⟨.map [],World.ownsMap_made _ _ _ _,fun x _ => ⟨rfl,fun l h => by cases h⟩⟩
theorem MapT.kept {row : Option Nat} (h : MapT w b n f) (hg : w.grownBy w' row) (hne : some b ≠ row) : MapT w' b n f:=by
 obtain ⟨D,h1,h2⟩:=h;exact ⟨D,h1.kept hg hne,h2⟩
theorem MapT.below (h : MapT w b n f) (hb : Below w.heap.size w w') : MapT w' b n f:=h.kept (grown_of_below hb none) (by simp)
theorem MapT.alloc (h : MapT w b n f) (o : Obj) : MapT (w.alloc o) b n f:=h.kept (World.grownBy_alloc w o none) (by simp)
theorem MapT.drewN (h : MapT w b n f) (q : Nat) : MapT (w.drewN q) b n f:=h.below (below_drewN' (Below.refl _ _) q)
theorem MapT.lt (h : MapT w b n f) : b < w.heap.size:=by obtain ⟨D,h1,_⟩:=h; exact h1.lt
theorem MapT.kind (h : MapT w b n f) : Kind w (some b) none:=fun k hk => by
 injection hk with hk;subst hk;obtain ⟨D,⟨es,clock,hb,_⟩,_⟩:=h;exact map_tag hb
theorem MapT.other {row : Option Nat} {x : Option TypeId} (h : MapT w b n f) (hg : w.grownBy w' row) (hk : Kind w row x) (hne : x ≠ none) : MapT w' b n f:=h.kept hg (fun e => by
 have h1:=hk b e.symm;have h2:=h.kind b rfl;rw [h2] at h1;injection h1 with h1
 exact hne h1.symm)
end
section
variable {w : World} {ops : Array Oper} {rest : List Oper} {o : Oper} {a : Act} {Q : Exit → Act → World → Prop} {b n : Nat} {f : StE → Option Nat}
theorem wpList_lookT (hg : o.guard = none) (m x : Operand) (hop : o.op = Op.lookup 277 m x true) (hm : a.eval m = .map (some b)) (h : MapT w b n f) (s : StE) (c : Nat) (is : Bool) (hs : OkT s) (hx : a.eval x = stV s)
  (hc : f s = if is then some c else none) (h0 : is = false → c = 0)
  (hK : wpList Tryz.prog ops Q rest (a.put o.dst (.tuple #[.int .i64 (c : Int),.bool is])) w) : wpList Tryz.prog ops Q (o :: rest) a w:=by
 obtain ⟨D,h1,h2⟩:=h;refine wpList_lookup_own_ok_int w hg m x _ hop 232 3 .i64 keyedT Tryz.underlying277 Tryz.underlying3 (by kernel_rfl) b n D hm h1 _ _ hx (keyOfT hs) ?_;intro c' hat hwc
 have e1 : Maps.has D (klT s) = is:=by rw [(h2 s hs).1,hc]; cases is <;> rfl
 have e : c' = (c : Int):=by
  cases is with
  | true =>
   rw [(h2 s hs).2 c hc] at hat;injection hat with hat;injection hat with _ hat;exact hat.symm
  | false =>
   rw [atKey_of_not_has e1] at hat;injection hat with hat;injection hat with _ hat;rw [h0 rfl];exact hat.symm
 subst e;rw [e1];exact hK
theorem wpList_putT (hg : o.guard = none) (m x v : Operand) (hop : o.op = Op.mapUpdate 277 m x v) (hm : a.eval m = .map (some b)) (h : MapT w b n f) (hn : n < maxLen) (s : StE) (c : Nat) (hs : OkT s) (hc : c ≤ 1000000000) (hx : a.eval x = stV s) (hv : a.eval v = .int .i64 (c : Int))
  (hK : ∀ w',MapT w' b (n + 1) (putT f s c) → w.grownBy w' (some b) → wpList Tryz.prog ops Q rest (a.put o.dst undef) w') : wpList Tryz.prog ops Q (o :: rest) a w:=by
 obtain ⟨D,h1,h2⟩:=h;have h0:=(h1.tidy keyedT).isMap;refine wpList_mapUpdate_own w hg m x v _ hop 232 3 keyedT Tryz.underlying277 _ b n D hm h1 hn _ _ _ hx hv (keyOfT hs) _ [] (plainElem_int Tryz.underlying3 (wfT hc)) ?_;intro w' h1' hg';refine hK w' ⟨_,h1',fun y hy => ?_⟩ hg';unfold putT
 by_cases e : y = s
 ·subst e
  rw [if_pos rfl];refine ⟨has_put_same h0 (klT_key y) _,fun l hl z => ?_⟩;injection hl with hl;rw [← hl]; exact atKey_put_same h0 (klT_key y) _ _
 ·rw [if_neg e]
  have hne : klT y ≠ klT s:=fun h => e (klT_inj hy hs h)
  rw [has_put_other hne];refine ⟨(h2 y hy).1,fun l hl z => ?_⟩;rw [atKey_put_other hne]; exact (h2 y hy).2 l hl z
end
end Go.Proofs.YtkchacgkjdeiaaaGreatDoor
