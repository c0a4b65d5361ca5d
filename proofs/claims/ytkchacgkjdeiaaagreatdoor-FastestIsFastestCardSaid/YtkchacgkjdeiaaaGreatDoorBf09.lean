/- Texts of this seat, laid together: GmM. -/
import Derived.Maps.OwnOps
import Derived.Maps.OwnSet
import Derived.Maps.Views
import Derived.DeepKeys4
import Derived.Lib.BitFns
import Derived.Test.YtkchacgkjdeiaaaGreatDoorBf04
/- Maps keyed by pairs of numbers: structs (spot) and arrays ([2]int); the bits of a small number. -/
namespace Go.Proofs.YtkchacgkjdeiaaaGreatDoor
set_option linter.unusedVariables false
set_option linter.unusedSimpArgs false
open Go.RowKit Go.Maps Go.WideMaps

theorem laidAll : laidOutB Tryz.prog = true:=by kernel_rfl
theorem keyedS : Keyed Tryz.prog 72:=Keyed.of_law (deep_law_laid laidAll (m:=3) (by omega) (of_decide_eq_true (by kernel_rfl)) (by kernel_rfl) (by rw [Tryz.underlying72]))
abbrev prV (x y : Int) : Value := .agg #[.int .i64 x, .int .i64 y]
def klP (x y : Int) : Lit:=.string (keyBytes [.int .i64 x,.int .i64 y])
theorem wfI {x : Int} (h : I64 x) : (Lit.int .i64 x).wf = true:=WalkArith.wf_i64 (by unfold I64 at h; omega)
theorem keyTS : Tryz.prog.keyType 72 = true:=by kernel_rfl
theorem litsS {x y : Int} (hx : I64 x) (hy : I64 y) : ∀ D,Tryz.prog.keyLits (D + 2) 72 [.int .i64 x,.int .i64 y] = some [.int .i64 x,.int .i64 y]:=by
 intro D
 have c1 : Tryz.prog.cellsOf 72 = 2:=by kernel_rfl
 have c2 : Tryz.prog.cellsOf 3 = 1:=by kernel_rfl
 simp [Program.keyLits,Tryz.underlying72,Tryz.underlying3,c1,c2,wfI hx,wfI hy]
theorem keyOfS {x y : Int} (hx : I64 x) (hy : I64 y) : keyOf Tryz.prog 72 (prV x y) = some (klP x y):=by
 have hf : (prV x y).formed Tryz.prog 72 = true:=by simp [Value.formed,Tryz.underlying72]; kernel_rfl
 obtain ⟨D,hD⟩ : ∃ D,Tryz.prog.types.size + 1 = D + 2:=⟨Tryz.prog.types.size - 1,by kernel_rfl⟩
 unfold keyOf;rw [Tryz.underlying72];simp only [keyTS,hf,Bool.and_self,if_true,hD];show ((Tryz.prog.keyLits (D + 2) 72 [.int .i64 x,.int .i64 y]).map fun ls => Lit.string (keyBytes ls)) = _;rw [litsS hx hy D]; rfl
theorem klP_inj {x y x' y' : Int} (hx : I64 x) (hy : I64 y) (hx' : I64 x') (hy' : I64 y') (h : klP x y = klP x' y') : x = x' ∧ y = y':=by
 have e:=keyedS.inj (keyOfS hx hy) (h ▸ keyOfS hx' hy');injection e with e;have e:=congrArg Array.toList e
 simp at e
 exact e
theorem klP_key (x y : Int) : WideAt.IsKeyLit (klP x y):=trivial
def MapP (k e : TypeId) (w : World) (b n : Nat) (f : Int → Int → Option Lit) : Prop :=
 ∃ D : DataW Unit,w.ownsMap Tryz.prog k (plainElem Tryz.prog e) b n D ∧ Maps.size D = n ∧ ∀ x y,I64 x → I64 y → Maps.has D (klP x y) = (f x y).isSome ∧ ∀ l,f x y = some l → ∀ z,D.atKey (klP x y) z = .lit l
def putP (f : Int → Int → Option Lit) (x y : Int) (l : Lit) : Int → Int → Option Lit:=fun a b => if a = x ∧ b = y then some l else f a b
section
variable {k e : TypeId} {w w' : World} {b n : Nat} {f : Int → Int → Option Lit}
theorem MapP.made (k e : TypeId) (w : World) : MapP k e (w.alloc (.map #[] 0)) w.heap.size 0 (fun _ _ => none) :=
 ⟨.map [],World.ownsMap_made _ _ _ _,rfl,fun x y _ _ => ⟨rfl,fun l h => by cases h⟩⟩
theorem MapP.kept {row : Option Nat} (h : MapP k e w b n f) (hg : w.grownBy w' row) (hne : some b ≠ row) : MapP k e w' b n f:=by
 obtain ⟨D,h1,h2,h3⟩:=h;exact ⟨D,h1.kept hg hne,h2,h3⟩
theorem MapP.below (h : MapP k e w b n f) (hb : Below w.heap.size w w') : MapP k e w' b n f:=h.kept (grown_of_below hb none) (by simp)
theorem MapP.alloc (h : MapP k e w b n f) (o : Obj) : MapP k e (w.alloc o) b n f:=h.kept (World.grownBy_alloc w o none) (by simp)
theorem MapP.drew (h : MapP k e w b n f) : MapP k e w.drew b n f:=by
 obtain ⟨D,h1,h2,h3⟩:=h;exact ⟨D,h1.drew,h2,h3⟩
theorem MapP.lt (h : MapP k e w b n f) : b < w.heap.size:=by obtain ⟨D,h1,_⟩:=h; exact h1.lt
theorem size_put_new {D : DataW Unit} (hD : IsMap D) {kl : Lit} (hk : WideAt.IsKeyLit kl) (hn : Maps.has D kl = false) (d : DataW Unit) : Maps.size (D.put kl d) = Maps.size D + 1:=by
 obtain ⟨es,rfl⟩:=hD;rw [DataW.put_eq];unfold ChangeMaps.putKey;rw [Maps.size_eq,Maps.size_eq,length_insert]
 congr 1
 rw [List.filter_eq_self.2];intro p hp;rw [notKey_iff hk];intro he
 have : Maps.has (.map es : DataW Unit) kl = true:=by
  simp only [Maps.has,List.any_eq_true];exact ⟨p,hp,by rw [he]; exact WideAt.sameKey_self hk⟩
 rw [hn] at this; cases this
theorem MapP.put_ {D : DataW Unit} (h0 : IsMap D) (h2 : Maps.size D = n) (h3 : ∀ x y,I64 x → I64 y → Maps.has D (klP x y) = (f x y).isSome ∧ ∀ l,f x y = some l → ∀ z,D.atKey (klP x y) z = .lit l) {x y : Int} (hx : I64 x) (hy : I64 y) (hf : f x y = none) (l : Lit) :
  Maps.size (D.put (klP x y) (.lit l)) = n + 1 ∧ ∀ a b,I64 a → I64 b → Maps.has (D.put (klP x y) (.lit l)) (klP a b) = (putP f x y l a b).isSome ∧ ∀ l',putP f x y l a b = some l' → ∀ z,(D.put (klP x y) (.lit l)).atKey (klP a b) z = .lit l':=by
 refine ⟨by rw [size_put_new h0 (klP_key x y) (by rw [(h3 x y hx hy).1,hf]; rfl),h2],fun a b ha hb => ?_⟩;unfold putP
 by_cases e : a = x ∧ b = y
 ·obtain ⟨rfl,rfl⟩:=e
  rw [if_pos ⟨rfl,rfl⟩];refine ⟨has_put_same h0 (klP_key a b) _,fun l' hl z => ?_⟩;injection hl with hl;rw [← hl]; exact atKey_put_same h0 (klP_key a b) _ _
 ·rw [if_neg e]
  have hne : klP a b ≠ klP x y:=fun h => e (klP_inj ha hb hx hy h)
  rw [has_put_other hne];refine ⟨(h3 a b ha hb).1,fun l' hl z => ?_⟩;rw [atKey_put_other hne]; exact (h3 a b ha hb).2 l' hl z
end
theorem plainElem_bool_inv {P : Program} {e : TypeId} (he : P.underlying e = some .bool) {v : Value} {c : Bool} {ps : List MemPlace} (h : plainElem (H:=Unit) P e v = some (.lit (.bool c),ps)) : v = .bool c:=by
 unfold plainElem at h
 split at h
 ·injection h with h
  injection h with h _;injection h with h;injection h with h;rw [h]
 ·rename_i h2; rw [he] at h2; cases h2
 ·rename_i h2; rw [he] at h2; cases h2
 ·cases h
section
variable {w : World} {ops : Array Oper} {rest : List Oper} {o : Oper} {a : Act} {Q : Exit → Act → World → Prop} {b n : Nat} {f : Int → Int → Option Lit}
theorem wpList_putS (hg : o.guard = none) (m x v : Operand) (hop : o.op = Op.mapUpdate 167 m x v) (hm : a.eval m = .map (some b)) (h : MapP 72 3 w b n f) (hn : n < maxLen) (p q c : Int) (hp : I64 p) (hq : I64 q) (hc : I64 c) (hf : f p q = none) (hx : a.eval x = prV p q) (hv : a.eval v = .int .i64 c)
  (hK : ∀ w',MapP 72 3 w' b (n + 1) (putP f p q (.int .i64 c)) → w.grownBy w' (some b) → wpList Tryz.prog ops Q rest (a.put o.dst undef) w') : wpList Tryz.prog ops Q (o :: rest) a w:=by
 obtain ⟨D,h1,h2,h3⟩:=h;refine wpList_mapUpdate_own w hg m x v _ hop 72 3 keyedS Tryz.underlying167 _ b n D hm h1 hn _ _ _ hx hv (keyOfS hp hq) _ [] (plainElem_int Tryz.underlying3 (wfI hc)) ?_;intro w' h1' hg';obtain ⟨r1,r2⟩:=MapP.put_ h1.isMap h2 h3 hp hq hf (.int .i64 c);exact hK w' ⟨_,h1',r1,r2⟩ hg'
set_option maxRecDepth 100000 in
theorem MapP.lookRun (h : MapP 72 3 w b n f) (p q c : Int) (hp : I64 p) (hq : I64 q) (hc : (∃ c',f p q = some (.int .i64 c') ∧ c = c') ∨ f p q = none ∧ c = 0) :
  (Instr.lookup 167 (.map (some b)) (prV p q) false).run Tryz.prog w = .ok (.int .i64 c) w:=by
 obtain ⟨D,h1,h2,h3⟩:=h;obtain ⟨c',hrun,hat,hwc⟩:=h1.lookup_int keyedS Tryz.underlying167 Tryz.underlying3 (by kernel_rfl) (keyOfS hp hq)
 have e : c' = c:=by
  rcases hc with ⟨c2,hf,rfl⟩ | ⟨hf,rfl⟩
  ·rw [(h3 p q hp hq).2 _ hf] at hat
   injection hat with hat;injection hat with _ hat;exact hat.symm
  ·have:=(h3 p q hp hq).1
   rw [hf] at this;rw [atKey_of_not_has this] at hat;injection hat with hat;injection hat with _ hat;exact hat.symm
 rw [hrun,e]
theorem MapP.len (h : MapP 72 3 w b n f) (ty : TypeId) : (Builtin.len_ #[167] ty #[.map (some b)]).run Tryz.prog w = .ok (.int .i64 n) w:=by
 obtain ⟨D,h1,h2,h3⟩:=h;rw [← h2];exact h1.len Tryz.underlying167 ty
end
end Go.Proofs.YtkchacgkjdeiaaaGreatDoor
