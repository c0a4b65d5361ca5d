/- Texts of this seat, laid together: GfM GfE. -/
import Derived.Test.YtkchacgkjdeiaaaGreatDoorBf09
import Derived.Test.YtkchacgkjdeiaaaGreatDoorBf02
import Derived.Test.YtkchacgkjdeiaaaGreatDoorBf24
import Derived.Test.YtkchacgkjdeiaaaGreatDoorBf12
/- The map of the states that have been seen (map[state]bool), as a function. -/
set_option linter.unusedVariables false
set_option linter.unusedSimpArgs false
namespace Go.Proofs.YtkchacgkjdeiaaaGreatDoor
open Go.RowKit Go.Maps Go.WideMaps

theorem keyedG : Keyed Tryz.prog 74:=Keyed.of_law (deep_law_laid laidAll (m:=3) (by omega) (of_decide_eq_true (by kernel_rfl)) (by kernel_rfl) (by rw [Tryz.underlying74]))
structure GI (s : GS) : Prop where
  x : I64 s.x
  y : I64 s.y
  r : I64 s.rise
  m : I64 (s.mask : Int)
  f : I64 s.fin
def klL (s : GS) : List Lit:=[.int .i64 s.x,.int .i64 s.y,.int .i64 s.rise,.bool s.held,.int .i64 s.mask,.int .i64 s.fin]
def klG (s : GS) : Lit:=.string (keyBytes (klL s))
abbrev stGV (s : GS) : Value := .agg #[.int .i64 s.x, .int .i64 s.y, .int .i64 s.rise, .bool s.held, .int .i64 s.mask, .int .i64 s.fin]
theorem keyTG : Tryz.prog.keyType 74 = true:=by kernel_rfl
theorem litsI1 {x : Int} (h : I64 x) (D : Nat) : Tryz.prog.keyLits (D + 1) 3 [.int .i64 x] = some [.int .i64 x]:=by
 simp [Program.keyLits,Tryz.underlying3,wfI h]
theorem litsB1 (b : Bool) (D : Nat) : Tryz.prog.keyLits (D + 1) 4 [.bool b] = some [.bool b]:=by
 simp [Program.keyLits,Tryz.underlying4]
set_option maxRecDepth 100000 in
theorem litsG {s : GS} (h : GI s) : ∀ D,Tryz.prog.keyLits (D + 3) 74 [.int .i64 s.x,.int .i64 s.y,.int .i64 s.rise,.bool s.held,.int .i64 s.mask,.int .i64 s.fin] = some (klL s):=by
 intro D
 have c1 : Tryz.prog.cellsOf 72 = 2:=by kernel_rfl
 have c2 : Tryz.prog.cellsOf 3 = 1:=by kernel_rfl
 have c3 : Tryz.prog.cellsOf 4 = 1:=by kernel_rfl
 have c4 : Tryz.prog.cellsOf 74 = 6:=by kernel_rfl
 have h0:=litsS h.x h.y D;have h1:=litsI1 h.r (D + 1);have h2:=litsB1 s.held (D + 1);have h3:=litsI1 h.m (D + 1);have h4:=litsI1 h.f (D + 1);unfold Program.keyLits
 simp [Tryz.underlying74,c1,c2,c3,c4,h0,h1,h2,h3,h4,klL]
set_option maxRecDepth 100000 in
theorem keyOfG {s : GS} (h : GI s) : keyOf Tryz.prog 74 (stGV s) = some (klG s):=by
 have hf : (stGV s).formed Tryz.prog 74 = true:=by simp [Value.formed,Tryz.underlying74]; kernel_rfl
 obtain ⟨D,hD⟩ : ∃ D,Tryz.prog.types.size + 1 = D + 3:=⟨Tryz.prog.types.size - 2,by kernel_rfl⟩
 unfold keyOf;rw [Tryz.underlying74];simp only [keyTG,hf,Bool.and_self,if_true,hD];show ((Tryz.prog.keyLits (D + 3) 74 [.int .i64 s.x,.int .i64 s.y,.int .i64 s.rise,.bool s.held,.int .i64 s.mask,.int .i64 s.fin]).map fun ls => Lit.string (keyBytes ls)) = _;rw [litsG h D]; rfl
theorem klG_inj {s t : GS} (hs : GI s) (ht : GI t) (h : klG s = klG t) : s = t:=by
 have e:=keyedG.inj (keyOfG hs) (h ▸ keyOfG ht);injection e with e;have e:=congrArg Array.toList e
 simp at e
 obtain ⟨e1,e2,e3,e4,e5,e6⟩:=e
 cases s; cases t
 simp only at e1 e2 e3 e4 e5 e6;have e5:=Int.ofNat.inj e5;subst e1 e2 e3 e4 e5 e6;rfl
theorem klG_key (s : GS) : WideAt.IsKeyLit (klG s):=trivial
def MapG (w : World) (b n : Nat) (f : GS → Bool) : Prop :=
 ∃ D : DataW Unit,w.ownsMap Tryz.prog 74 (plainElem Tryz.prog 4) b n D ∧ Maps.size D = n ∧ ∀ s,GI s → Maps.has D (klG s) = f s ∧ (f s = true → ∀ z,D.atKey (klG s) z = .lit (.bool true))
noncomputable def putG (f : GS → Bool) (s : GS) : GS → Bool:=fun t => @ite _ (t = s) (Classical.propDecidable _) true (f t)
theorem putG_same (f : GS → Bool) (s : GS) : putG f s s = true:=by unfold putG; rw [if_pos rfl]
theorem putG_other (f : GS → Bool) {s t : GS} (h : t ≠ s) : putG f s t = f t:=by unfold putG; rw [if_neg h]
section
variable {w w' : World} {b n : Nat} {f : GS → Bool}
theorem MapG.made (w : World) : MapG (w.alloc (.map #[] 0)) w.heap.size 0 (fun _ => false) :=
 ⟨.map [],World.ownsMap_made _ _ _ _,rfl,fun s _ => ⟨rfl,fun h => by cases h⟩⟩
theorem MapG.kept {row : Option Nat} (h : MapG w b n f) (hg : w.grownBy w' row) (hne : some b ≠ row) : MapG w' b n f:=by
 obtain ⟨D,h1,h2,h3⟩:=h;exact ⟨D,h1.kept hg hne,h2,h3⟩
theorem MapG.below (h : MapG w b n f) (hb : Below w.heap.size w w') : MapG w' b n f:=h.kept (grown_of_below hb none) (by simp)
theorem MapG.alloc (h : MapG w b n f) (o : Obj) : MapG (w.alloc o) b n f:=h.kept (World.grownBy_alloc w o none) (by simp)
theorem MapG.lt (h : MapG w b n f) : b < w.heap.size:=by obtain ⟨D,h1,_⟩:=h; exact h1.lt
theorem MapG.put_ {D : DataW Unit} (h0 : IsMap D) (h2 : Maps.size D = n) (h3 : ∀ s,GI s → Maps.has D (klG s) = f s ∧ (f s = true → ∀ z,D.atKey (klG s) z = .lit (.bool true))) {s : GS} (hs : GI s) (hf : f s = false) :
  Maps.size (D.put (klG s) (.lit (.bool true))) = n + 1 ∧ ∀ t,GI t → Maps.has (D.put (klG s) (.lit (.bool true))) (klG t) = putG f s t ∧ (putG f s t = true → ∀ z,(D.put (klG s) (.lit (.bool true))).atKey (klG t) z = .lit (.bool true)):=by
 refine ⟨by rw [size_put_new h0 (klG_key s) (by rw [(h3 s hs).1,hf]),h2],fun t ht => ?_⟩
 by_cases e : t = s
 ·subst e
  rw [putG_same];exact ⟨has_put_same h0 (klG_key t) _,fun _ z => atKey_put_same h0 (klG_key t) _ _⟩
 ·rw [putG_other f e]
  have hne : klG t ≠ klG s:=fun h => e (klG_inj ht hs h)
  rw [has_put_other hne];refine ⟨(h3 t ht).1,fun hl z => ?_⟩;rw [atKey_put_other hne]; exact (h3 t ht).2 hl z
end
section
variable {w : World} {ops : Array Oper} {rest : List Oper} {o : Oper} {a : Act} {Q : Exit → Act → World → Prop} {b n : Nat} {f : GS → Bool}
set_option maxRecDepth 100000 in
theorem MapG.lookRun (h : MapG w b n f) {s : GS} (hs : GI s) : (Instr.lookup 170 (.map (some b)) (stGV s) false).run Tryz.prog w = .ok (.bool (f s)) w:=by
 obtain ⟨D,h1,h2,h3⟩:=h;obtain ⟨v,ps,hrun,hv⟩:=h1.lookup keyedG Tryz.underlying170 (z:=.bool false) (by kernel_rfl) (plainElem_bool Tryz.underlying4 false) (keyOfG hs)
 have hat : D.atKey (klG s) (.lit (.bool false)) = .lit (.bool (f s)):=by
  cases hc : f s
  ·have:=(h3 s hs).1
   rw [hc] at this;exact atKey_of_not_has this _
  ·exact (h3 s hs).2 hc _
 rw [hat] at hv;have e : v = .bool (f s):=plainElem_bool_inv Tryz.underlying4 hv;rw [hrun,e]
set_option maxRecDepth 100000 in
theorem wpList_putG (hg : o.guard = none) (m x v : Operand) (hop : o.op = Op.insert 170 m x v ∨ o.op = Op.mapUpdate 170 m x v) (hm : a.eval m = .map (some b)) (h : MapG w b n f) (hn : n < maxLen) {s : GS} (hs : GI s) (hf : f s = false) (hx : a.eval x = stGV s) (hv : a.eval v = .bool true)
  (hK : ∀ w',MapG w' b (n + 1) (putG f s) → w.grownBy w' (some b) → wpList Tryz.prog ops Q rest (a.put o.dst undef) w') : wpList Tryz.prog ops Q (o :: rest) a w:=by
 obtain ⟨D,h1,h2,h3⟩:=h
 refine wpList_plain hg fun K' hK' => ?_
 obtain ⟨w',hrun,h1',hg'⟩:=h1.update keyedG Tryz.underlying170 hn (keyOfG hs) (plainElem_bool Tryz.underlying4 true);obtain ⟨r1,r2⟩:=MapG.put_ h1.isMap h2 h3 hs hf;unfold Oper.wp
 rcases hop with ho | ho <;> simp [execOp,ho,hm,hx,hv,hrun,Result.andThen] <;> exact hK' _ _ (hK w' ⟨_,h1',r1,r2⟩ hg')
end
end Go.Proofs.YtkchacgkjdeiaaaGreatDoor
/- The walk of explore: all states of a game, in breadth. -/
namespace Go.Proofs.YtkchacgkjdeiaaaGreatDoor
open Go.RowKit Go.Maps

theorem own_keepG {w w' : World} {base size n : Nat} {e : TypeId} {v : Value} {xs : List Value} {row : Option Nat} (h : w.ownsRow base e size v n xs) (hg : w.grownBy w' row) (hr : ∀ k j,row = some k → v.ownBlock = some j → j ≠ k) : w'.ownsRow base e size v n xs :=
 h.kept hg (by
  cases hv : v.ownBlock with
  | none => exact .inl rfl
  | some j => exact .inr fun e1 => hr j j e1.symm hv rfl)
theorem Blk.grownG {w w' : World} {g k : Nat} {t : TypeId} {cs : Array Value} (h : Blk w k t cs) (hb : w.grownBy w' (some g)) (hg : k ≠ g) : Blk w' k t cs:=(hb.block k h.lt (fun e => hg (by injection e))).trans h
theorem grown_pokeG (w : World) (b i : Nat) (u : Value) : w.grownBy (w.setCell ⟨b,i,none⟩ u) (some b):=grown_set (World.grownBy.refl w (some b)) i u
theorem own_blkneG {w : World} {base size n g : Nat} {e t : TypeId} {v : Value} {xs : List Value} {cs : Array Value} (h : w.ownsRow base e size v n xs) (hb : Blk w g t cs) (hne : e ≠ t) : ∀ k,v.ownBlock = some k → k ≠ g:=by
 intro k hk e1;subst e1;rcases h.2 with ⟨rfl,_⟩ | ⟨g',cap,cur,rfl,_,hg,_⟩
 ·simp [Value.ownBlock] at hk
 simp [Value.ownBlock] at hk
 subst hk;have hb' : w.heap[g']? = some (.cells cs t (0,0)):=hb;rw [hg] at hb';injection hb' with e1;injection e1 with _ e2;exact hne e2
structure ReE where
  s : GS
  b : Int
  h : Int
def encX (e : ReE) : List Value:=[.int .i64 e.s.x,.int .i64 e.s.y,.int .i64 e.s.rise,.bool e.s.held,.int .i64 e.s.mask,.int .i64 e.s.fin,.int .i64 e.b,.int .i64 e.h]
theorem encX_len (e : ReE) : (encX e).length = 8:=rfl
theorem ty_reach : SliceTy Tryz.prog 70 76 8 64:=.mk' Tryz.underlying70 (z:=.agg #[.int .i64 0,.int .i64 0,.int .i64 0,.bool false,.int .i64 0,.int .i64 0,.int .i64 0,.int .i64 0]) (by kernel_rfl) rfl (by decide)
theorem flat_atX {α : Type} (enc : α → List Value) (n : Nat) (hn : ∀ x,(enc x).length = n) (l : List α) : ∀ (k : Nat) (h : k < l.length) (j : Nat),j < n → (l.flatMap enc)[k * n + j]? = (enc l[k])[j]?:=by
 induction l with
 | nil => intro k h; exact absurd h (by simp)
 | cons x l ih =>
  intro k h j hj;rw [List.flatMap_cons]
  match k,h with
  | 0,_ => rw [Nat.zero_mul,Nat.zero_add,List.getElem?_append_left (by rw [hn]; exact hj)]; rfl
  | k + 1,h =>
   rw [List.getElem?_append_right (by rw [hn,Nat.add_mul]; omega),hn,show (k + 1) * n + j - n = k * n + j by rw [Nat.add_mul]; omega,ih k (by simpa using h) j hj];rfl
theorem reach_at {w : World} {lo : Nat} {A : Option Addr} {n : Nat} {E : List ReE} (h : Row w lo 8 A n (E.flatMap encX)) (hn : E.length = n) {k : Nat} (hk : k < n) : ∃ b off,A = some ⟨b,off,none⟩ ∧ b < w.heap.size ∧ ∀ e,E[k]? = some e → w.cell? ⟨b,off + k * 8,none⟩ = some (.int .i64 e.s.x) ∧ w.cell? ⟨b,off + k * 8 + 1,none⟩ = some (.int .i64 e.s.y) ∧ w.cell? ⟨b,off + k * 8 + 2,none⟩ = some (.int .i64 e.s.rise) ∧ w.cell? ⟨b,off + k * 8 + 3,none⟩ = some (.bool e.s.held) ∧ w.cell? ⟨b,off + k * 8 + 4,none⟩ = some (.int .i64 e.s.mask) ∧ w.cell? ⟨b,off + k * 8 + 5,none⟩ = some (.int .i64 e.s.fin) ∧ w.cell? ⟨b,off + k * 8 + 6,none⟩ = some (.int .i64 e.b) ∧ w.cell? ⟨b,off + k * 8 + 7,none⟩ = some (.int .i64 e.h):=by
 obtain ⟨b,off,e,_,hb,hc⟩:=h.2 (by omega);refine ⟨b,off,e,hb,fun x hx => ?_⟩;obtain ⟨hk',rfl⟩:=List.getElem?_eq_some_iff.1 hx
 have g : ∀ j (hj : j < 8) u,(encX E[k])[j]? = some u → w.cell? ⟨b,off + k * 8 + j,none⟩ = some u:=fun j hj u hu => by
  rw [Nat.add_assoc]; exact hc (k * 8 + j) u (by rw [flat_atX encX 8 encX_len E k hk' j hj,hu])
 exact ⟨g 0 (by omega) _ rfl,g 1 (by omega) _ rfl,g 2 (by omega) _ rfl,g 3 (by omega) _ rfl,g 4 (by omega) _ rfl,g 5 (by omega) _ rfl,g 6 (by omega) _ rfl,g 7 (by omega) _ rfl⟩
structure LinkE (E : List ReE) (P : List (GS × List Int)) : Prop where
  len : E.length = P.length
  st : ∀ (j : Nat) (e : ReE) (s : GS) (p : List Int), E[j]? = some e → P[j]? = some (s, p) → e.s = s ∧ ((e.b = -1 ∧ p = []) ∨ ∃ (b : Nat) (sb : GS) (pb : List Int), e.b = b ∧ b < j ∧ P[b]? = some (sb, pb) ∧ p = pb ++ [e.h])
def LinkG (P : List (GS × List Int)) (gl : Option (List Int)) (gb gh : Int) : Prop:=(gl = none ∧ gb = -1) ∨ ∃ (b : Nat) (sb : GS) (pb : List Int),gl = some (pb ++ [gh]) ∧ gb = b ∧ P[b]? = some (sb,pb)
theorem LinkE.push {E : List ReE} {P : List (GS × List Int)} (h : LinkE E P) {i : Nat} {si : GS} {pi : List Int} (hi : P[i]? = some (si,pi)) (s : GS) (x : Int) : LinkE (E ++ [⟨s,i,x⟩]) (P ++ [(s,pi ++ [x])]):=by
 have hil:=(List.getElem?_eq_some_iff.1 hi).1
 have up : ∀ (b : Nat) (sb : GS) (pb : List Int),P[b]? = some (sb,pb) → (P ++ [(s,pi ++ [x])])[b]? = some (sb,pb):=fun b sb pb hb => by
  rw [List.getElem?_append_left (List.getElem?_eq_some_iff.1 hb).1]; exact hb
 refine ⟨by simp [h.len],fun j e s' p he hp => ?_⟩;rcases Nat.lt_or_ge j P.length with hl | hl
 ·rw [List.getElem?_append_left (by rw [h.len]; exact hl)] at he
  rw [List.getElem?_append_left hl] at hp;obtain ⟨h1,h2⟩:=h.st j e s' p he hp;refine ⟨h1,h2.imp id fun ⟨b,sb,pb,a1,a2,a3,a4⟩ => ⟨b,sb,pb,a1,a2,up _ _ _ a3,a4⟩⟩
 ·rw [List.getElem?_append_right (by rw [h.len]; exact hl)] at he
  rw [List.getElem?_append_right hl] at hp;have hj:=(List.getElem?_eq_some_iff.1 hp).1
  simp at hj
  have : j = P.length:=by omega
  subst this;rw [h.len] at he
  simp at he hp
  obtain ⟨rfl,rfl⟩:=hp;subst he;exact ⟨rfl,.inr ⟨i,si,pi,rfl,hil,up _ _ _ hi,rfl⟩⟩
theorem LinkG.push {P : List (GS × List Int)} {gl : Option (List Int)} {gb gh : Int} (h : LinkG P gl gb gh) (q : GS × List Int) : LinkG (P ++ [q]) gl gb gh :=
 h.imp id fun ⟨b,sb,pb,a1,a2,a3⟩ => ⟨b,sb,pb,a1,a2,by rw [List.getElem?_append_left (List.getElem?_eq_some_iff.1 a3).1]; exact a3⟩
structure ExM (w wr : World) (B0 gx mp : Nat) (A : Option Addr) (c n : Nat) (E : List ReE) (gs : GS) (gb gh : Int) (f : GS → Bool) : Prop where
  own : wr.ownsRow B0 76 8 (.slice A n c) n (E.flatMap encX)
  box : Blk wr gx 76 #[.int .i64 gs.x, .int .i64 gs.y, .int .i64 gs.rise, .bool gs.held, .int .i64 gs.mask, .int .i64 gs.fin, .int .i64 gb, .int .i64 gh]
  map : MapG wr mp n f
  bw : Below w.heap.size w wr
section
variable {w wr wr' : World} {B0 gx mp : Nat} {A : Option Addr} {c n : Nat} {E : List ReE} {gs : GS} {gb gh : Int} {f : GS → Bool}
theorem ExM.below (h : ExM w wr B0 gx mp A c n E gs gb gh f) (hb : Below wr.heap.size wr wr') : ExM w wr' B0 gx mp A c n E gs gb gh f:=⟨own_keep h.own hb,h.box.below hb,h.map.below hb,below_up h.bw hb⟩
theorem ExM.setG (h : ExM w wr B0 gx mp A c n E gs gb gh f) (h1 : w.heap.size ≤ gx) (h2 : gx < B0) (h3 : mp ≠ gx) (t : GS) (k x : Int) : ExM w ((((((((wr.setCell ⟨gx,0,none⟩ (.int .i64 t.x)).setCell ⟨gx,1,none⟩ (.int .i64 t.y)).setCell ⟨gx,2,none⟩ (.int .i64 t.rise)).setCell ⟨gx,3,none⟩ (.bool t.held)).setCell ⟨gx,4,none⟩ (.int .i64 t.mask)).setCell ⟨gx,5,none⟩ (.int .i64 t.fin)).setCell ⟨gx,6,none⟩ (.int .i64 k)).setCell ⟨gx,7,none⟩ (.int .i64 x)) B0 gx mp A c n E t k x f :=
 ⟨own_keepG (own_keepG (own_keepG (own_keepG (own_keepG (own_keepG (own_keepG (own_keepG (h.own) (grown_pokeG _ gx 0 (.int .i64 t.x)) (fun a q ha hq => by injection ha with ha; subst ha; have:=(h.own.lt q hq).1; omega)) (grown_pokeG _ gx 1 (.int .i64 t.y)) (fun a q ha hq => by injection ha with ha; subst ha; have:=(h.own.lt q hq).1; omega)) (grown_pokeG _ gx 2 (.int .i64 t.rise)) (fun a q ha hq => by injection ha with ha; subst ha; have:=(h.own.lt q hq).1; omega)) (grown_pokeG _ gx 3 (.bool t.held)) (fun a q ha hq => by injection ha with ha; subst ha; have:=(h.own.lt q hq).1; omega)) (grown_pokeG _ gx 4 (.int .i64 t.mask)) (fun a q ha hq => by injection ha with ha; subst ha; have:=(h.own.lt q hq).1; omega)) (grown_pokeG _ gx 5 (.int .i64 t.fin)) (fun a q ha hq => by injection ha with ha; subst ha; have:=(h.own.lt q hq).1; omega)) (grown_pokeG _ gx 6 (.int .i64 k)) (fun a q ha hq => by injection ha with ha; subst ha; have:=(h.own.lt q hq).1; omega)) (grown_pokeG _ gx 7 (.int .i64 x)) (fun a q ha hq => by injection ha with ha; subst ha; have:=(h.own.lt q hq).1; omega),by simpa using ((((((((h.box).poke 0 (.int .i64 t.x)).poke 1 (.int .i64 t.y)).poke 2 (.int .i64 t.rise)).poke 3 (.bool t.held)).poke 4 (.int .i64 t.mask)).poke 5 (.int .i64 t.fin)).poke 6 (.int .i64 k)).poke 7 (.int .i64 x),((((((((h.map).kept (grown_pokeG _ gx 0 (.int .i64 t.x)) (fun e => h3 (by injection e))).kept (grown_pokeG _ gx 1 (.int .i64 t.y)) (fun e => h3 (by injection e))).kept (grown_pokeG _ gx 2 (.int .i64 t.rise)) (fun e => h3 (by injection e))).kept (grown_pokeG _ gx 3 (.bool t.held)) (fun e => h3 (by injection e))).kept (grown_pokeG _ gx 4 (.int .i64 t.mask)) (fun e => h3 (by injection e))).kept (grown_pokeG _ gx 5 (.int .i64 t.fin)) (fun e => h3 (by injection e))).kept (grown_pokeG _ gx 6 (.int .i64 k)) (fun e => h3 (by injection e))).kept (grown_pokeG _ gx 7 (.int .i64 x)) (fun e => h3 (by injection e)),Below.setCell (Below.setCell (Below.setCell (Below.setCell (Below.setCell (Below.setCell (Below.setCell (Below.setCell (h.bw) (p:=⟨gx,0,none⟩) h1 (.int .i64 t.x)) (p:=⟨gx,1,none⟩) h1 (.int .i64 t.y)) (p:=⟨gx,2,none⟩) h1 (.int .i64 t.rise)) (p:=⟨gx,3,none⟩) h1 (.bool t.held)) (p:=⟨gx,4,none⟩) h1 (.int .i64 t.mask)) (p:=⟨gx,5,none⟩) h1 (.int .i64 t.fin)) (p:=⟨gx,6,none⟩) h1 (.int .i64 k)) (p:=⟨gx,7,none⟩) h1 (.int .i64 x)⟩
theorem ExM.push {w7 w8 : World} {A' : Option Addr} {c' : Nat} (h : ExM w wr B0 gx mp A c n E gs gb gh f) {f' : GS → Bool} {e : ReE} (h1 : w.heap.size ≤ mp) (h2 : gx < B0) (h3 : gx ≠ mp) (h4 : mp < B0) (hm : MapG w7 mp (n + 1) f') (hg : wr.grownBy w7 (some mp)) (ho : w8.ownsRow B0 76 8 (.slice A' (n + 1) c') (n + 1) (E.flatMap encX ++ encX e)) (hg8 : w7.grownBy w8 (Value.slice A n c).ownBlock) (hB : w.heap.size ≤ B0) : ExM w w8 B0 gx mp A' c' (n + 1) (E ++ [e]) gs gb gh f':=by
 have far : ∀ q,(Value.slice A n c).ownBlock = some q → B0 ≤ q:=fun q hq => (h.own.lt q hq).1
 have hx7:=h.box.grownG hg h3;have hb7:=h.bw.grown hg h.bw.size (fun q hq => by injection hq with hq; omega);refine ⟨by rw [List.flatMap_append]; simpa using ho,(hg8.block _ hx7.lt (fun e => by have:=far _ (by first | exact e | exact e.symm); omega)).trans hx7,hm.kept hg8 (fun e => by have:=far _ e.symm; omega),hb7.grown hg8 hb7.size (fun q hq => by have:=far q hq; omega)⟩
end
structure ExP (rows : List (List UInt8)) (W : Nat) (s0 : GS) (n k m : Nat) (E : List ReE) (P : List (GS × List Int)) (gl : Option (List Int)) (gb gh : Int) (f : GS → Bool) : Prop where
  bfs : Bfs (nxG rows W) triedL s0 P k m gl
  le : LinkE E P
  lg : LinkG P gl gb gh
  n : E.length = n
  f : ∀ s, f s = true ↔ s ∈ P.map Prod.fst
theorem ExP.few {rows : List (List UInt8)} {W : Nat} {s0 : GS} {n k m : Nat} {E : List ReE} {P : List (GS × List Int)} {gl : Option (List Int)} {gb gh : Int} {f : GS → Bool} (h : ExP rows W s0 n k m E P gl gb gh f) (hL : Lv rows W) (h2 : cntG 111 rows ≤ 2) (hW : W ≤ 8) (hr : rows.length ≤ 5) (h0 : GFew rows W s0) : n ≤ 1280:=by
 have h1:=few_statesG (rows:=rows) (W:=W) hW hr h.bfs.nod (fun s hs => by
  obtain ⟨⟨s',p⟩,hm,rfl⟩:=List.mem_map.1 hs;obtain ⟨r1,r2,_⟩:=h.bfs.run s' p hm;obtain ⟨a,b⟩:=run_few hL h2 h0 r1
  exact ⟨a,r2,b⟩)
 rw [List.length_map,← h.le.len,h.n] at h1;exact h1
theorem GOk.gi {rows : List (List UInt8)} {W : Nat} {s : GS} (h : GOk rows W s) (hL : Lv rows W) : GI s:=by
 have h1:=hL.le;have h2:=hL.W60;obtain ⟨a1,a2,a3,a4,a5,a6,a7,a8,a9,a10⟩:=h
 refine ⟨?_,?_,?_,?_,?_⟩ <;> (unfold I64; omega)
theorem tried_any (w : World) : Calls Tryz.prog 80 #[] w fun e w' => e = .returned (.slice (some ⟨w.heap.size,0,none⟩) 6 6) ∧ Blk w' w.heap.size 3 #[.int .i64 0,.int .i64 1,.int .i64 2,.int .i64 16,.int .i64 17,.int .i64 18] ∧ Below w.heap.size w w':=by
 go_enter Tryz.func80,Tryz.ntmps80
 go_wp2_with fail;go_ret;exact ⟨rfl,Blk.new _ _ _,(Below.refl _ _).alloc (Nat.le_refl _) _⟩
theorem res_expl (tmps : Array Value) (w : World) (g : Nat) (u : Value) (A : Option Addr) (n c : Nat) (gs : GS) (gb gh : Int) (hu : u = .slice A n c) (h2 : tmps.getD 2 undef = u) (hx : tmps.getD 3 undef = .pointer (some ⟨g,0,none⟩)) (h4 : tmps.getD 4 undef = .int .i64 0) (hb : Blk w g 76 #[.int .i64 gs.x,.int .i64 gs.y,.int .i64 gs.rise,.bool gs.held,.int .i64 gs.mask,.int .i64 gs.fin,.int .i64 gb,.int .i64 gh]) :
  (results Tryz.f36 tmps).run Tryz.prog w = .ok (.tuple #[u,.agg #[.int .i64 gs.x,.int .i64 gs.y,.int .i64 gs.rise,.bool gs.held,.int .i64 gs.mask,.int .i64 gs.fin,.int .i64 gb,.int .i64 gh],.int .i64 0]) w:=by
 have e : Tryz.f36.results = #[.tmp 2,.cell 3 76,.tmp 4]:=by kernel_rfl
 have h2' : tmps[2]?.getD undef = u:=by simpa using h2
 have hx' : tmps[3]?.getD undef = .pointer (some ⟨g,0,none⟩):=by simpa using hx
 have h4' : tmps[4]?.getD undef = .int .i64 0:=by simpa using h4
 obtain ⟨f0,f1,f2,f3,f4,f5,f6,f7⟩ : _ ∧ _ ∧ _ ∧ _ ∧ _ ∧ _ ∧ _ ∧ _:=⟨hb.cell 0,hb.cell 1,hb.cell 2,hb.cell 3,hb.cell 4,hb.cell 5,hb.cell 6,hb.cell 7⟩
 simp only [Q0,Q2,Q1] at f0 f1 f2 f3 f4 f5 f6 f7;subst hu
 simp [results,e,h2',hx',h4',go_sem,f0,f1,f2,f3,f4,f5,f6,f7]
theorem tried_cell {w : World} {tb m : Nat} {h : Int} (hb : Blk w tb 3 #[.int .i64 0,.int .i64 1,.int .i64 2,.int .i64 16,.int .i64 17,.int .i64 18]) (hh : triedL[m]? = some h) : w.cell? ⟨tb,m,none⟩ = some (.int .i64 h):=by
 have h0:=hb.cell m
 match m,hh,h0 with
 | 0,hh,h0 => injection hh with hh; subst hh; exact h0
 | 1,hh,h0 => injection hh with hh; subst hh; exact h0
 | 2,hh,h0 => injection hh with hh; subst hh; exact h0
 | 3,hh,h0 => injection hh with hh; subst hh; exact h0
 | 4,hh,h0 => injection hh with hh; subst hh; exact h0
 | 5,hh,h0 => injection hh with hh; subst hh; exact h0
 | m + 6,hh,_ => simp [triedL] at hh
theorem tried_lt {m : Nat} {h : Int} (hh : triedL[m]? = some h) : 0 ≤ h ∧ h < 64:=by
 have:=List.mem_of_getElem? hh;simp only [triedL,List.mem_cons,List.not_mem_nil,or_false] at this;omega
def ExgPost (rows : List (List UInt8)) (W : Nat) (s0 : GS) (w : World) (e : Ending) (w' : World) : Prop :=
 ∃ (A : Option Addr) (c n : Nat) (E : List ReE) (P : List (GS × List Int)) (gl : Option (List Int)) (gs : GS) (gb gh : Int) (f : GS → Bool),e = .returned (.tuple #[.slice A n c,.agg #[.int .i64 gs.x,.int .i64 gs.y,.int .i64 gs.rise,.bool gs.held,.int .i64 gs.mask,.int .i64 gs.fin,.int .i64 gb,.int .i64 gh],.int .i64 0]) ∧ Row w' w.heap.size 8 A n (E.flatMap encX) ∧ ExP rows W s0 n n 0 E P gl gb gh f ∧ Below w.heap.size w w'
set_option maxHeartbeats 8000000 in
set_option maxRecDepth 100000 in
theorem explore_gm (p lo : Nat) (AL : Option Addr) (cl : Nat) (rows : List (List UInt8)) (W : Nat) (sx sy : Int) (mb : Nat) (w : World) (hr : Row w lo 1 AL rows.length (strs rows)) (hL : Lv rows W) (hg : GmI w p AL cl rows W sx sy mb) (hc : cellF rows W sx sy = 115) (h2 : cntG 111 rows ≤ 2) (hW : W ≤ 8) (hrl : rows.length ≤ 5) :
  Calls Tryz.prog 36 #[.pointer (some ⟨p,0,none⟩)] w (ExgPost rows W (gs0 sx sy) w):=by
 have HG0 : Hid (GFew rows W (gs0 sx sy)):=Lib.hid ⟨start_ok hL hc,rfl,by show (0 : Nat) < 4; decide⟩;have HFEW : Hid (∀ n k m E P gl gb gh f,ExP rows W (gs0 sx sy) n k m E P gl gb gh f → n ≤ 1280):=Lib.hid (fun n k m E P gl gb gh f h => h.few hL h2 hW hrl HG0.out);have HROW:=Lib.hid (fun (W' : World) (h : Below w.heap.size w W') => hr.below h);have HGM:=Lib.hid (fun (W' : World) (h : Below w.heap.size w W') => hg.below h);have HL:=Lib.hid hL;have H2:=Lib.hid h2
 obtain ⟨post',hpost⟩ : ∃ q,q = ExgPost rows W (gs0 sx sy) w:=⟨_,rfl⟩
 rw [← hpost];have HPO:=Lib.hid hpost;have HRS:=Lib.hid hr;have HGS:=Lib.hid hg;clear hr hg hL h2 hpost hc hW hrl;have hbx1 : Blk (w.alloc (.cells #[.int .i64 0,.int .i64 0,.int .i64 0,.bool false,.int .i64 0,.int .i64 0,.int .i64 (-1),.int .i64 0] 76)) w.heap.size 76 #[.int .i64 0,.int .i64 0,.int .i64 0,.bool false,.int .i64 0,.int .i64 0,.int .i64 (-1),.int .i64 0]:=Blk.new _ _ _;have hbw1:=(Below.refl w.heap.size w).alloc (Nat.le_refl _) (.cells #[.int .i64 0,.int .i64 0,.int .i64 0,.bool false,.int .i64 0,.int .i64 0,.int .i64 (-1),.int .i64 0] 76)
 go_enter Tryz.func36,Tryz.ntmps36
 go_upto_region 2 with (fail);generalize w.alloc (.cells #[.int .i64 0,.int .i64 0,.int .i64 0,.bool false,.int .i64 0,.int .i64 0,.int .i64 (-1),.int .i64 0] 76) = w1 at *
 have hmk : (Instr.makeMap 170 none).run Tryz.prog w1 = .ok (.map (some w1.heap.size)) (w1.alloc (.map #[] 0)):=by kernel_rfl
 have hm0:=MapG.made w1;have hgx:=hbx1.lt;have hbx2:=hbx1.alloc (.map #[] 0);have hbw2:=hbw1.alloc hbw1.size (.map #[] 0);have hmp1 : w.heap.size ≤ w1.heap.size:=hbw1.size;go_wp2_with fail;clear hmk hbx1 hbw1;generalize w1.alloc (.map #[] 0) = w2 at *;generalize w1.heap.size = mp at *;refine (beginG_any p AL cl rows W sx sy mb w2 (HGM.out _ hbw2)).mono ?_;rintro e w3 ⟨rfl,hb⟩;replace hm0:=hm0.below hb;replace hbx2:=hbx2.below hb;replace hbw2:=below_up hbw2 hb;clear hb;have hgi0 : GI (gs0 sx sy):=HG0.out.ok.gi HL.out;go_upto_region 3 with (first | (refine wpList_putG rfl _ _ _ (.inl rfl) rfl hm0 (by decide) (s:=gs0 sx sy) hgi0 rfl rfl rfl ?_; intro w4 hm4 hg4) | fail);have hbx4:=hbx2.grownG hg4 (by omega);have hbw4:=hbw2.grown hg4 hbw2.size (fun q hq => by injection hq with hq; omega);clear hbx2 hbw2 hm0 hg4;go_wp2_with fail;refine (beginG_any p AL cl rows W sx sy mb w4 (HGM.out _ hbw4)).mono ?_;rintro e w5 ⟨rfl,hb⟩;replace hm4:=hm4.below hb;replace hbx4:=hbx4.below hb;replace hbw4:=below_up hbw4 hb;clear hb;have hmz:=hm4.lt
 have hown0 : (w5.alloc (.cells #[.int .i64 sx,.int .i64 sy,.int .i64 0,.bool false,.int .i64 0,.int .i64 0,.int .i64 (-1),.int .i64 0] 76)).ownsRow w5.heap.size 76 8 (.slice (some ⟨w5.heap.size,0,none⟩) 1 1) 1 (([⟨gs0 sx sy,-1,0⟩] : List ReE).flatMap encX):=⟨rfl,.inr ⟨w5.heap.size,1,#[.int .i64 sx,.int .i64 sy,.int .i64 0,.bool false,.int .i64 0,.int .i64 0,.int .i64 (-1),.int .i64 0],rfl,Nat.le_refl _,Blk.new w5 76 #[.int .i64 sx,.int .i64 sy,.int .i64 0,.bool false,.int .i64 0,.int .i64 0,.int .i64 (-1),.int .i64 0],Nat.le_refl _,by simp [maxLen],rfl,rfl⟩⟩
 have hM0 : ExM w (w5.alloc (.cells #[.int .i64 sx,.int .i64 sy,.int .i64 0,.bool false,.int .i64 0,.int .i64 0,.int .i64 (-1),.int .i64 0] 76)) w5.heap.size w.heap.size mp (some ⟨w5.heap.size,0,none⟩) 1 1 [⟨gs0 sx sy,-1,0⟩] ⟨0,0,0,false,0,0⟩ (-1) 0 (putG (fun _ => false) (gs0 sx sy)):=⟨hown0,hbx4.alloc _,hm4.alloc _,hbw4.alloc hbw4.size _⟩
 have HP0 : Hid (ExP rows W (gs0 sx sy) 1 0 0 [⟨gs0 sx sy,-1,0⟩] [(gs0 sx sy,[])] none (-1) 0 (putG (fun _ => false) (gs0 sx sy))):=Lib.hid ⟨Bfs.start rfl,⟨rfl,fun j e s p he hp => by
  cases j with
  | zero => simp at he hp; obtain ⟨rfl,rfl⟩:=hp; subst he; exact ⟨rfl,.inl ⟨rfl,rfl⟩⟩
  | succ j => simp at he⟩,.inl ⟨rfl,rfl⟩,rfl,fun s => by
  by_cases e : s = gs0 sx sy
  ·subst e; rw [putG_same]; simp
  ·rw [putG_other _ e]; simp [e]⟩
 have HGB : Hid (w.heap.size ≤ w.heap.size ∧ w.heap.size < w5.heap.size ∧ w.heap.size ≤ mp ∧ mp < w5.heap.size ∧ mp ≠ w.heap.size):=Lib.hid ⟨Nat.le_refl _,by omega,by omega,hmz,by omega⟩;clear hown0 hbx4 hm4 hbw4 hmz;go_upto_region 4 with (fail);generalize w5.alloc (.cells #[.int .i64 sx,.int .i64 sy,.int .i64 0,.bool false,.int .i64 0,.int .i64 0,.int .i64 (-1),.int .i64 0] 76) = w6 at *;generalize hB0 : w5.heap.size = B0 at *;clear hB0;generalize hgxe : w.heap.size = gx at HGB hM0 ⊢;have HGX:=Lib.hid hgxe;clear hgxe hgx hmp1;go_wp2_with fail
 go_loopw [2,6] (fun v u wr => ∃ (k : Nat) (A : Option Addr) (c n : Nat) (E : List ReE) (P : List (GS × List Int)) (gl : Option (List Int)) (gs : GS) (gb gh : Int) (f : GS → Bool),k ≤ n ∧ v = .slice A n c ∧ u = .int .i64 k ∧ ExM w wr B0 gx mp A c n E gs gb gh f ∧ Hid (ExP rows W (gs0 sx sy) n k 0 E P gl gb gh f)) (fun _ u _ => 1281 - (intOf u).toNat)
 case atStart => exact ⟨0,some ⟨B0,0,none⟩,1,1,_,_,none,_,_,_,_,by omega,rfl,rfl,hM0,HP0⟩
 case round =>
  clear hM0 HP0;obtain ⟨k,A,c,n,E,P,gl,gs,gb,gh,f,hk,rfl,rfl,hM,HP⟩:=hrel;have hn1:=HFEW.out _ _ _ _ _ _ _ _ _ HP.out
  by_cases hkn : k < n
  ·have hwr:=hM.own.lt
   have hzB : B0 ≤ wr.heap.size:=by
    rcases hM.own.2 with ⟨_,h0⟩ | ⟨g,cap,cur,hv,hg,hh,_⟩
    ·omega
    ·have:=hM.own.lt g (by injection hv with hv; rw [hv]; rfl); omega
   clear hwr;go_wp2_with fail;refine (tried_any wr).mono ?_;rintro e wt ⟨rfl,hTR,hb⟩;replace hM:=hM.below hb;have htb : B0 ≤ wr.heap.size:=hzB;clear hb hzB;generalize wr.heap.size = tb at *;go_wp2_with fail
   go_loopw [2,27] (fun v u wr => ∃ (m : Nat) (A : Option Addr) (c n : Nat) (E : List ReE) (P : List (GS × List Int)) (gl : Option (List Int)) (gs : GS) (gb gh : Int) (f : GS → Bool),m ≤ 6 ∧ v = .slice A n c ∧ u = .int .i64 m ∧ ExM w wr B0 gx mp A c n E gs gb gh f ∧ Hid (ExP rows W (gs0 sx sy) n k m E P gl gb gh f) ∧ k < n ∧ Blk wr tb 3 #[.int .i64 0,.int .i64 1,.int .i64 2,.int .i64 16,.int .i64 17,.int .i64 18]) (fun _ u _ => 6 - (intOf u).toNat)
   case atStart => exact ⟨0,A,c,n,E,P,gl,gs,gb,gh,f,by omega,rfl,rfl,hM,HP,hkn,hTR⟩
   case round =>
    clear hM HP hTR hk hkn hn1;obtain ⟨m,A,c,n,E,P,gl,gs,gb,gh,f,hm,rfl,rfl,hM,HP,hkn,hTR⟩:=hrel;have hn1:=HFEW.out _ _ _ _ _ _ _ _ _ HP.out
    by_cases hm6 : m < 6
    ·obtain ⟨h,hh⟩ : ∃ h,triedL[m]? = some h:=⟨_,List.getElem?_eq_getElem (show m < triedL.length from hm6)⟩
     have HH:=Lib.hid hh;have hhr : 0 ≤ h ∧ h < 64:=tried_lt hh;have ht:=tried_cell hTR hh;obtain ⟨b,off,rfl,hbb,hcl⟩:=reach_at (Row.of_own hM.own) HP.out.n hkn
     obtain ⟨e,he⟩ : ∃ e,E[k]? = some e:=⟨_,List.getElem?_eq_getElem (by rw [HP.out.n]; exact hkn)⟩
     obtain ⟨si,pi,hi⟩ : ∃ si pi,P[k]? = some (si,pi):=⟨_,_,List.getElem?_eq_getElem (by rw [← HP.out.le.len,HP.out.n]; exact hkn)⟩
     obtain ⟨c0,c1,c2,c3,c4,c5,-,-⟩:=hcl e he;obtain ⟨hes,-⟩:=HP.out.le.st k e si pi he hi;rw [hes] at c0 c1 c2 c3 c4 c5;have HI:=Lib.hid hi;have HRN:=HP.out.bfs.run si pi (List.mem_of_getElem? hi);have HGF:=Lib.hid (GFew.mk (run_few HL.out H2.out HG0.out HRN.1).1 HRN.2.1 (run_few HL.out H2.out HG0.out HRN.1).2);have hst:=step_any p lo AL cl rows W sx sy mb wr (HROW.out _ hM.bw) HL.out (HGM.out _ hM.bw) si HGF.out.ok HGF.out.fin h hhr.1 hhr.2;unfold gsV at hst;have HGT:=Lib.hid (HGF.out.ok.step (h:=h) HL.out HGF.out.fin)
     obtain ⟨t,ht0⟩ : ∃ t,t = stepF rows W h si:=⟨_,rfl⟩
     rw [← ht0] at hst HGT;have HT:=Lib.hid ht0;have zt:=hTR.lt;clear hcl he hes hi HRN hh ht0;go_wp2_with fail;refine hst.mono ?_;clear hst c0 c1 c2 c3 c4 c5 ht;rintro e w5 ⟨rfl,hb5⟩;replace hM:=hM.below hb5;replace hTR:=hTR.below hb5;clear hb5 zt;go_upto_region 11 with (fail);have hsb : Blk (w5.alloc (.cells #[.int .i64 t.x,.int .i64 t.y,.int .i64 t.rise,.bool t.held,.int .i64 t.mask,.int .i64 t.fin] 74)) w5.heap.size 74 #[.int .i64 t.x,.int .i64 t.y,.int .i64 t.rise,.bool t.held,.int .i64 t.mask,.int .i64 t.fin]:=Blk.new _ _ _;replace hM:=hM.below ((Below.refl _ _).alloc (Nat.le_refl _) (.cells #[.int .i64 t.x,.int .i64 t.y,.int .i64 t.rise,.bool t.held,.int .i64 t.mask,.int .i64 t.fin] 74));have hts : tb < w5.heap.size:=hTR.lt;replace hTR:=hTR.alloc (.cells #[.int .i64 t.x,.int .i64 t.y,.int .i64 t.rise,.bool t.held,.int .i64 t.mask,.int .i64 t.fin] 74);generalize w5.alloc (.cells #[.int .i64 t.x,.int .i64 t.y,.int .i64 t.rise,.bool t.held,.int .i64 t.mask,.int .i64 t.fin] 74) = w6 at *;generalize w5.heap.size = sb at *
     obtain ⟨s0',s1',s2',s3',s4',s5'⟩ : _ ∧ _ ∧ _ ∧ _ ∧ _ ∧ _:=⟨hsb.cell 0,hsb.cell 1,hsb.cell 2,hsb.cell 3,hsb.cell 4,hsb.cell 5⟩
     simp only [Q0,Q2,Q1] at s0' s1' s2' s3' s4' s5';have zs:=hsb.lt
     obtain ⟨g0,g1,g2,g3,g4,g5,g6,g7⟩ : _ ∧ _ ∧ _ ∧ _ ∧ _ ∧ _ ∧ _ ∧ _:=⟨hM.box.cell 0,hM.box.cell 1,hM.box.cell 2,hM.box.cell 3,hM.box.cell 4,hM.box.cell 5,hM.box.cell 6,hM.box.cell 7⟩
     simp only [Q0,Q2,Q1] at g0 g1 g2 g3 g4 g5 g6 g7;have zg:=hM.box.lt;have hlk:=hM.map.lookRun (HGT.out.gi HL.out);have HFT:=Lib.hid (And.intro HGT.out.f0 HGT.out.f2);have HSB:=Lib.hid hsb;clear hsb
     by_cases h1 : t.fin = 1
     ·have d1 : (t.fin == 1) = true:=beq_iff_eq.2 h1
      have d0 : (t.fin == 0) = false:=beq_eq_false_iff_ne.2 (by omega)
      by_cases hg : gb < 0
      ·have d2 : decide (gb < 0) = true:=decide_eq_true hg
       have HGL : Hid (gl = none):=Lib.hid (by
        rcases HP.out.lg with ⟨a,_⟩ | ⟨b,_,_,_,a,_⟩
        ·exact a
        ·omega)
       have HPN : Hid (ExP rows W (gs0 sx sy) n k (m + 1) E P (some (pi ++ [h])) k h f):=Lib.hid (by
        have h2:=HP.out;have h3:=HGL.out;subst h3
        exact ⟨h2.bfs.goal HH.out HI.out (by show (stepF rows W h si).fin = 1; rw [← HT.out]; exact h1),h2.le,.inr ⟨k,si,pi,rfl,rfl,HI.out⟩,h2.n,h2.f⟩)
       obtain ⟨z0,z1,z2,z3,z4,z5,z6,z7⟩ : _ ∧ _ ∧ _ ∧ _ ∧ _ ∧ _ ∧ _ ∧ _:=⟨hM.box.thaw 0,hM.box.thaw 1,hM.box.thaw 2,hM.box.thaw 3,hM.box.thaw 4,hM.box.thaw 5,hM.box.thaw 6,hM.box.thaw 7⟩
       have hMN:=Lib.hid (hM.setG (Nat.le_of_eq HGX.out) HGB.out.2.1 HGB.out.2.2.2.2 t k h);have HTG : Hid (Blk (((((((((w6.setCell ⟨gx,0,none⟩ (.int .i64 t.x)).setCell ⟨gx,1,none⟩ (.int .i64 t.y)).setCell ⟨gx,2,none⟩ (.int .i64 t.rise)).setCell ⟨gx,3,none⟩ (.bool t.held)).setCell ⟨gx,4,none⟩ (.int .i64 t.mask)).setCell ⟨gx,5,none⟩ (.int .i64 t.fin)).setCell ⟨gx,6,none⟩ (.int .i64 k)).setCell ⟨gx,7,none⟩ (.int .i64 h))) tb 3 #[.int .i64 0,.int .i64 1,.int .i64 2,.int .i64 16,.int .i64 17,.int .i64 18]):=Lib.hid (((((((((hTR).past gx 0 (.int .i64 t.x) (by have:=HGB.out; omega)).past gx 1 (.int .i64 t.y) (by have:=HGB.out; omega)).past gx 2 (.int .i64 t.rise) (by have:=HGB.out; omega)).past gx 3 (.bool t.held) (by have:=HGB.out; omega)).past gx 4 (.int .i64 t.mask) (by have:=HGB.out; omega)).past gx 5 (.int .i64 t.fin) (by have:=HGB.out; omega)).past gx 6 (.int .i64 k) (by have:=HGB.out; omega)).past gx 7 (.int .i64 h) (by have:=HGB.out; omega));clear h1 hg hM;go_wp2_with fail;go_roundw
       case rel => exact ⟨m + 1,some ⟨b,off,none⟩,c,n,E,P,_,t,k,h,f,by omega,rfl,by go_num,hMN.out,HPN,hkn,HTG.out⟩
       case measure => simp [intOf]; omega
      ·have d2 : decide (gb < 0) = false:=decide_eq_false hg
       have HPN : Hid (ExP rows W (gs0 sx sy) n k (m + 1) E P gl gb gh f):=Lib.hid (by
        obtain ⟨h2,h3,h4,h5,h6⟩:=HP.out;rcases h4 with ⟨_,a⟩ | ⟨b,sb,pb,rfl,a,a3⟩
        ·omega
        ·exact ⟨h2.again HH.out HI.out (by show (stepF rows W h si).fin = 1; rw [← HT.out]; exact h1),h3,.inr ⟨b,sb,pb,rfl,a,a3⟩,h5,h6⟩)
       clear h1 hg g0 g1 g2 g3 g4 g5 g7;go_wp2_with fail;go_roundw
       case rel => exact ⟨m + 1,some ⟨b,off,none⟩,c,n,E,P,gl,gs,gb,gh,f,by omega,rfl,by go_num,hM,HPN,hkn,hTR⟩
       case measure => simp [intOf]; omega
     ·have d1 : (t.fin == 1) = false:=beq_eq_false_iff_ne.2 h1
      by_cases h0 : t.fin = 0
      ·have d0 : (t.fin == 0) = true:=beq_iff_eq.2 h0
       clear g0 g1 g2 g3 g4 g5 g6 g7
       by_cases hs : t ∈ P.map Prod.fst
       ·have HFS : f t = true:=(HP.out.f t).2 hs
        rw [HFS] at hlk
        have HPN : Hid (ExP rows W (gs0 sx sy) n k (m + 1) E P gl gb gh f):=Lib.hid (by
         obtain ⟨h2,h3,h4,h5,h6⟩:=HP.out
         exact ⟨h2.seen HH.out HI.out (by show stepF rows W h si ∈ _; rw [← HT.out]; exact hs) (by show (stepF rows W h si).fin = 0; rw [← HT.out]; exact h0),h3,h4,h5,h6⟩)
        clear h1 h0 hs HFS;go_wp2_with fail;go_roundw
        case rel => exact ⟨m + 1,some ⟨b,off,none⟩,c,n,E,P,gl,gs,gb,gh,f,by omega,rfl,by go_num,hM,HPN,hkn,hTR⟩
        case measure => simp [intOf]; omega
       ·have HFS : f t = false:=by
         cases hf : f t with
         | false => rfl
         | true => exact absurd ((HP.out.f t).1 hf) hs
        rw [HFS] at hlk
        have HPN : Hid (ExP rows W (gs0 sx sy) (n + 1) k (m + 1) (E ++ [⟨t,k,h⟩]) (P ++ [(t,pi ++ [h])]) gl gb gh (putG f t)):=Lib.hid (by
         obtain ⟨h2,h3,h4,h5,h6⟩:=HP.out;have h7:=h2.push HH.out HI.out (by show stepF rows W h si ∉ _; rw [← HT.out]; exact hs) (by show (stepF rows W h si).fin = 0; rw [← HT.out]; exact h0);have e : nxG rows W si h = t:=HT.out.symm;rw [e] at h7;refine ⟨h7,h3.push HI.out t h,h4.push _,by rw [List.length_append,h5]; rfl,fun s => ?_⟩;rw [List.map_append,List.mem_append,List.map_cons,List.map_nil,List.mem_singleton]
         by_cases e : s = t
         ·subst e; rw [putG_same]; exact ⟨fun _ => .inr rfl,fun _ => rfl⟩
         ·rw [putG_other f e,h6]; exact ⟨.inl,fun h => h.resolve_right e⟩)
        have HFE:=Lib.hid HFS;have hgi:=HGT.out.gi HL.out;have hn1:=HFEW.out _ _ _ _ _ _ _ _ _ HP.out;clear h1 h0 hs HFS;go_upto_region 15 with (first | (at_mapUpdate; refine wpList_putG rfl _ _ _ (.inr rfl) rfl hM.map (by unfold maxLen; omega) hgi HFE.out rfl rfl ?_; intro w7 hM7 hg7) | fail);have hown7:=own_keepG hM.own hg7 (fun j q hj hq => by injection hj with hj; subst hj; have:=(hM.own.lt q hq).1; have:=HGB.out; omega);have hT7:=hTR.grownG hg7 (by have:=HGB.out; omega);have hS7:=HSB.out.grownG hg7 (by have:=HGB.out; omega);have hz7:=hg7.size;have HM6:=Lib.hid hM;clear hM hlk s0' s1' s2' s3' s4' s5' zs zg hTR
        obtain ⟨s0',s1',s2',s3',s4',s5'⟩ : _ ∧ _ ∧ _ ∧ _ ∧ _ ∧ _:=⟨hS7.cell 0,hS7.cell 1,hS7.cell 2,hS7.cell 3,hS7.cell 4,hS7.cell 5⟩
        simp only [Q0,Q2,Q1] at s0' s1' s2' s3' s4' s5';have zs:=hS7.lt
        have hzB : B0 ≤ w7.heap.size:=by have:=hT7.lt; omega
        go_wp2_with (at_builtin; go_must (refine wpList_app (lo:=B0) (base:=B0) (n:=n) (xs:=E.flatMap encX) _ _ rfl _ _ ty_reach rfl (by repeat (first | exact hown7 | refine World.ownsRow.alloc ?_ _ | refine own_drewN ?_ _ | refine World.ownsRow.drew ?_)) rfl (by first | exact row_new' _ (by first | rfl | simp) (by first | omega | (simp; omega)) rfl | exact row_newN _ _ (by first | rfl | simp) (by first | omega | (simp; omega)) rfl | exact row_newD _ (by first | rfl | simp) (by first | omega | (simp; omega)) rfl) rfl rfl (by first | omega | decide) (by first | omega | decide) (by first | omega | (simp; omega)) ?_))
        intro A8 c8 w8 hown8 hg8 _;have hg8' : w7.grownBy w8 (Value.slice (some ⟨b,off,none⟩) n c).ownBlock:=grown_trans' (World.grownBy_alloc _ _ _) hg8;have HMN : Hid (ExM w w8 B0 gx mp A8 c8 (n + 1) (E ++ [⟨t,k,h⟩]) gs gb gh (putG f t)):=Lib.hid (HM6.out.push (by have:=HGB.out; have:=HGX.out; omega) HGB.out.2.1 (fun e => HGB.out.2.2.2.2 e.symm) (by have:=HGB.out; omega) hM7 hg7 hown8 hg8' (by have:=HGB.out; have:=HGX.out; omega));have HT8 : Hid (Blk w8 tb 3 #[.int .i64 0,.int .i64 1,.int .i64 2,.int .i64 16,.int .i64 17,.int .i64 18]):=Lib.hid ((hg8'.block _ hT7.lt (fun e => own_blkneG hown7 hT7 (by decide) _ (by first | exact e | exact e.symm) rfl)).trans hT7);clear hown7 hown8 hg8 hg8' hM7 hg7 hT7 hS7 s0' s1' s2' s3' s4' s5' zs;go_wp2_with fail;go_roundw
        case rel => exact ⟨m + 1,A8,c8,n + 1,E ++ [⟨t,k,h⟩],_,gl,gs,gb,gh,putG f t,by omega,rfl,by go_num,HMN.out,HPN,by omega,HT8.out⟩
        case measure => simp [intOf]; omega
      ·have d0 : (t.fin == 0) = false:=beq_eq_false_iff_ne.2 h0
       have HPN : Hid (ExP rows W (gs0 sx sy) n k (m + 1) E P gl gb gh f):=Lib.hid (by
        obtain ⟨h2,h3,h4,h5,h6⟩:=HP.out
        exact ⟨h2.dead HH.out HI.out (by show (stepF rows W h si).fin ≠ 0; rw [← HT.out]; exact h0) (by show (stepF rows W h si).fin ≠ 1; rw [← HT.out]; exact h1),h3,h4,h5,h6⟩)
       clear h1 h0 g0 g1 g2 g3 g4 g5 g6 g7;go_wp2_with fail;go_roundw
       case rel => exact ⟨m + 1,some ⟨b,off,none⟩,c,n,E,P,gl,gs,gb,gh,f,by omega,rfl,by go_num,hM,HPN,hkn,hTR⟩
       case measure => simp [intOf]; omega
    ·have hme : m = 6:=by omega
     subst hme
     have HPN : Hid (ExP rows W (gs0 sx sy) n (k + 1) 0 E P gl gb gh f):=Lib.hid (by
      obtain ⟨h2,h3,h4,h5,h6⟩:=HP.out
      exact ⟨Bfs.next h2 (by rw [← h3.len,h5]; exact hkn),h3,h4,h5,h6⟩)
     clear hTR;go_wp2_with fail;go_roundw
     case rel => exact ⟨k + 1,A,c,n,E,P,gl,gs,gb,gh,f,by omega,rfl,by go_num,hM,HPN⟩
     case measure => simp [intOf]; omega
  ·have hke : k = n:=by omega
   subst hke;have HB:=Lib.hid hM.box;have HOW:=Lib.hid hM.own;have HBW:=Lib.hid hM.bw;clear hM;go_upto_region 19 with (fail);have hbx : Blk wr.drew gx 76 #[.int .i64 gs.x,.int .i64 gs.y,.int .i64 gs.rise,.bool gs.held,.int .i64 gs.mask,.int .i64 gs.fin,.int .i64 gb,.int .i64 gh]:=HB.out
   have hSg : (fun w' : World => w'.cell? ⟨gx,0,none⟩ = some (.int .i64 gs.x) ∧ w'.cell? ⟨gx,1,none⟩ = some (.int .i64 gs.y) ∧ w'.cell? ⟨gx,2,none⟩ = some (.int .i64 gs.rise) ∧ w'.cell? ⟨gx,3,none⟩ = some (.bool gs.held) ∧ w'.cell? ⟨gx,4,none⟩ = some (.int .i64 gs.mask) ∧ w'.cell? ⟨gx,5,none⟩ = some (.int .i64 gs.fin) ∧ w'.cell? ⟨gx,6,none⟩ = some (.int .i64 gb) ∧ w'.cell? ⟨gx,7,none⟩ = some (.int .i64 gh)) wr.drew:=⟨hbx.cell 0,hbx.cell 1,hbx.cell 2,hbx.cell 3,hbx.cell 4,hbx.cell 5,hbx.cell 6,hbx.cell 7⟩
   have HOWd : Hid (wr.drew.ownsRow B0 76 8 (.slice A k c) k (E.flatMap encX)):=Lib.hid (World.ownsRow.drew HOW.out);have HBWd : Hid (Below w.heap.size w wr.drew):=Lib.hid HBW.out.drew;refine wp_region_held_drew (S:=(fun w' => w'.cell? ⟨gx,0,none⟩ = some (.int .i64 gs.x) ∧ w'.cell? ⟨gx,1,none⟩ = some (.int .i64 gs.y) ∧ w'.cell? ⟨gx,2,none⟩ = some (.int .i64 gs.rise) ∧ w'.cell? ⟨gx,3,none⟩ = some (.bool gs.held) ∧ w'.cell? ⟨gx,4,none⟩ = some (.int .i64 gs.mask) ∧ w'.cell? ⟨gx,5,none⟩ = some (.int .i64 gs.fin) ∧ w'.cell? ⟨gx,6,none⟩ = some (.int .i64 gb) ∧ w'.cell? ⟨gx,7,none⟩ = some (.int .i64 gh))) (by kernel_rfl) (hSg) (fun hHeld => ?_);generalize wr.drew = wd at hbx hSg HOWd HBWd hHeld ⊢;(refine QU 0 ?_; (try simp only [Act.put,Q3,Q4,Q5]));(refine QU 1 ?_; (try simp only [Act.put,Q3,Q4,Q5]));(refine QU 2 ?_; (try simp only [Act.put,Q3,Q4,Q5]));refine QR 3 fun K hK => ?_;obtain ⟨g0,g1,g2,g3,g4,g5,g6,g7⟩:=hSg
   obtain ⟨z0,z1,z2,z3,z4,z5,z6,z7⟩ : _ ∧ _ ∧ _ ∧ _ ∧ _ ∧ _ ∧ _ ∧ _:=⟨hbx.thaw 0,hbx.thaw 1,hbx.thaw 2,hbx.thaw 3,hbx.thaw 4,hbx.thaw 5,hbx.thaw 6,hbx.thaw 7⟩
   have zg:=hbx.lt
   have hbx2 : Blk (((((((((wd.setCell ⟨gx,0,none⟩ (.int .i64 gs.x)).setCell ⟨gx,1,none⟩ (.int .i64 gs.y)).setCell ⟨gx,2,none⟩ (.int .i64 gs.rise)).setCell ⟨gx,3,none⟩ (.bool gs.held)).setCell ⟨gx,4,none⟩ (.int .i64 gs.mask)).setCell ⟨gx,5,none⟩ (.int .i64 gs.fin)).setCell ⟨gx,6,none⟩ (.int .i64 gb)).setCell ⟨gx,7,none⟩ (.int .i64 gh))) gx 76 #[.int .i64 gs.x,.int .i64 gs.y,.int .i64 gs.rise,.bool gs.held,.int .i64 gs.mask,.int .i64 gs.fin,.int .i64 gb,.int .i64 gh]:=by simpa using ((((((((hbx).poke 0 (.int .i64 gs.x)).poke 1 (.int .i64 gs.y)).poke 2 (.int .i64 gs.rise)).poke 3 (.bool gs.held)).poke 4 (.int .i64 gs.mask)).poke 5 (.int .i64 gs.fin)).poke 6 (.int .i64 gb)).poke 7 (.int .i64 gh)
   have HOW2 : Hid ((((((((((wd.setCell ⟨gx,0,none⟩ (.int .i64 gs.x)).setCell ⟨gx,1,none⟩ (.int .i64 gs.y)).setCell ⟨gx,2,none⟩ (.int .i64 gs.rise)).setCell ⟨gx,3,none⟩ (.bool gs.held)).setCell ⟨gx,4,none⟩ (.int .i64 gs.mask)).setCell ⟨gx,5,none⟩ (.int .i64 gs.fin)).setCell ⟨gx,6,none⟩ (.int .i64 gb)).setCell ⟨gx,7,none⟩ (.int .i64 gh))).ownsRow B0 76 8 (.slice A k c) k (E.flatMap encX)):=Lib.hid (own_keepG (own_keepG (own_keepG (own_keepG (own_keepG (own_keepG (own_keepG (own_keepG (HOWd.out) (grown_pokeG _ gx 0 (.int .i64 gs.x)) (fun a q ha hq => by injection ha with ha; subst ha; have:=(HOWd.out.lt q hq).1; have:=HGB.out; omega)) (grown_pokeG _ gx 1 (.int .i64 gs.y)) (fun a q ha hq => by injection ha with ha; subst ha; have:=(HOWd.out.lt q hq).1; have:=HGB.out; omega)) (grown_pokeG _ gx 2 (.int .i64 gs.rise)) (fun a q ha hq => by injection ha with ha; subst ha; have:=(HOWd.out.lt q hq).1; have:=HGB.out; omega)) (grown_pokeG _ gx 3 (.bool gs.held)) (fun a q ha hq => by injection ha with ha; subst ha; have:=(HOWd.out.lt q hq).1; have:=HGB.out; omega)) (grown_pokeG _ gx 4 (.int .i64 gs.mask)) (fun a q ha hq => by injection ha with ha; subst ha; have:=(HOWd.out.lt q hq).1; have:=HGB.out; omega)) (grown_pokeG _ gx 5 (.int .i64 gs.fin)) (fun a q ha hq => by injection ha with ha; subst ha; have:=(HOWd.out.lt q hq).1; have:=HGB.out; omega)) (grown_pokeG _ gx 6 (.int .i64 gb)) (fun a q ha hq => by injection ha with ha; subst ha; have:=(HOWd.out.lt q hq).1; have:=HGB.out; omega)) (grown_pokeG _ gx 7 (.int .i64 gh)) (fun a q ha hq => by injection ha with ha; subst ha; have:=(HOWd.out.lt q hq).1; have:=HGB.out; omega));have HBW2 : Hid (Below w.heap.size w (((((((((wd.setCell ⟨gx,0,none⟩ (.int .i64 gs.x)).setCell ⟨gx,1,none⟩ (.int .i64 gs.y)).setCell ⟨gx,2,none⟩ (.int .i64 gs.rise)).setCell ⟨gx,3,none⟩ (.bool gs.held)).setCell ⟨gx,4,none⟩ (.int .i64 gs.mask)).setCell ⟨gx,5,none⟩ (.int .i64 gs.fin)).setCell ⟨gx,6,none⟩ (.int .i64 gb)).setCell ⟨gx,7,none⟩ (.int .i64 gh)))):=Lib.hid (Below.setCell (Below.setCell (Below.setCell (Below.setCell (Below.setCell (Below.setCell (Below.setCell (Below.setCell (HBWd.out) (p:=⟨gx,0,none⟩) (show w.heap.size ≤ gx by rw [HGX.out]; exact Nat.le_refl _) (.int .i64 gs.x)) (p:=⟨gx,1,none⟩) (show w.heap.size ≤ gx by rw [HGX.out]; exact Nat.le_refl _) (.int .i64 gs.y)) (p:=⟨gx,2,none⟩) (show w.heap.size ≤ gx by rw [HGX.out]; exact Nat.le_refl _) (.int .i64 gs.rise)) (p:=⟨gx,3,none⟩) (show w.heap.size ≤ gx by rw [HGX.out]; exact Nat.le_refl _) (.bool gs.held)) (p:=⟨gx,4,none⟩) (show w.heap.size ≤ gx by rw [HGX.out]; exact Nat.le_refl _) (.int .i64 gs.mask)) (p:=⟨gx,5,none⟩) (show w.heap.size ≤ gx by rw [HGX.out]; exact Nat.le_refl _) (.int .i64 gs.fin)) (p:=⟨gx,6,none⟩) (show w.heap.size ≤ gx by rw [HGX.out]; exact Nat.le_refl _) (.int .i64 gb)) (p:=⟨gx,7,none⟩) (show w.heap.size ≤ gx by rw [HGX.out]; exact Nat.le_refl _) (.int .i64 gh));go_simp;clear g0 g1 g2 g3 g4 g5 g6 g7 z0 z1 z2 z3 z4 z5 z6 z7 zg;generalize ((((((((wd.setCell ⟨gx,0,none⟩ (.int .i64 gs.x)).setCell ⟨gx,1,none⟩ (.int .i64 gs.y)).setCell ⟨gx,2,none⟩ (.int .i64 gs.rise)).setCell ⟨gx,3,none⟩ (.bool gs.held)).setCell ⟨gx,4,none⟩ (.int .i64 gs.mask)).setCell ⟨gx,5,none⟩ (.int .i64 gs.fin)).setCell ⟨gx,6,none⟩ (.int .i64 gb)).setCell ⟨gx,7,none⟩ (.int .i64 gh)) = w9 at *;refine hK.out _ _ (⟨hbx2.cell 0,hbx2.cell 1,hbx2.cell 2,hbx2.cell 3,hbx2.cell 4,hbx2.cell 5,hbx2.cell 6,hbx2.cell 7⟩) (fun hHeld => ?_);clear hK K;(try simp only [Act.put,Q3,Q4,Q5]);(refine QU 4 ?_; (try simp only [Act.put,Q3,Q4,Q5]));refine wpAnyH_done (by kernel_rfl) ?_ _;go_wp2_with fail;refine bodyPost_ret (res_expl _ _ gx _ A k c gs gb gh rfl rfl rfl rfl hbx2) rfl ?_;rw [HPO.out];exact ⟨A,c,k,E,P,gl,gs,gb,gh,f,rfl,(Row.of_own HOW2.out).weak (by have:=HGB.out; have:=HGX.out; omega),HP.out,HBW2.out⟩
end Go.Proofs.YtkchacgkjdeiaaaGreatDoor
