/- Texts of this seat, laid together: SpC SpM. -/
import Derived.Maps.RangeWalk
import Derived.Maps.OwnOps
import Derived.Maps.OwnSet
import Derived.Maps.Views
import Derived.StringKeys
import Derived.Test.YtjggbpchmbdocaaGreatDoorBt09
/- What the reference's spreadOut finds, as it lies: values, how they read. -/
set_option linter.unusedVariables false
set_option linter.unusedSimpArgs false
namespace Go.Proofs.YtjggbpchmbdocaaGreatDoor
open Go.RowKit Go.Maps Go.WideMaps

theorem nodup_sub_len {α : Type} [DecidableEq α] : ∀ (l m : List α),l.Nodup → (∀ x ∈ l,x ∈ m) → l.length ≤ m.length
 | [],_,_,_ => Nat.zero_le _
 | a :: l,m,hn,hs => by
  have h1:=List.nodup_cons.1 hn;have h2:=nodup_sub_len l (m.erase a) h1.2 (fun x hx => (List.mem_erase_of_ne (by rintro rfl; exact h1.1 hx)).2 (hs x (List.mem_cons_of_mem _ hx)));have h3:=hs a List.mem_cons_self;rw [List.length_erase_of_mem h3] at h2;have h4:=List.length_pos_of_mem h3;rw [List.length_cons]; omega
theorem keySF : Keyed Tryz.prog 9:=string_keyed Tryz.underlying9
structure FndC where
  room : List UInt8
  ta : Option Addr
  tn : Nat
  tc : Nat
  done : Int
  da : Option Addr
  dn : Nat
  dc : Nat
  time : Int
def fnd0 : FndC:=⟨[],none,0,0,0,none,0,0,0⟩
abbrev fndV (p : FndC) : Value := .agg #[.string ⟨p.room.toArray⟩, .slice p.ta p.tn p.tc, .int .i64 p.done, .slice p.da p.dn p.dc, .int .i64 p.time]
def natD (n : Nat) : DataW Unit:=.lit (.int .i64 (n : Int))
def optD : Option Nat → DataW Unit
 | none => .nil
 | some n => natD n
def addrD : Option Addr → DataW Unit
 | none => .nil
 | some a => .agg [natD a.block,natD a.off,optD a.spot]
def fndD (p : FndC) : DataW Unit:=.agg [.lit (.string p.room),addrD p.ta,natD p.tn,natD p.tc,.lit (.int .i64 p.done),addrD p.da,natD p.dn,natD p.dc,.lit (.int .i64 p.time)]
theorem natD_inj {a b : Nat} (h : natD a = natD b) : a = b:=by
 unfold natD at h;injection h with h;injection h with _ h;exact Int.ofNat.inj h
theorem optD_inj : ∀ {a b : Option Nat},optD a = optD b → a = b
 | none,none,_ => rfl
 | none,some _,h => by unfold optD natD at h; cases h
 | some _,none,h => by unfold optD natD at h; cases h
 | some a,some b,h => by rw [natD_inj (a:=a) (b:=b) h]
theorem addrD_inj : ∀ {a b : Option Addr},addrD a = addrD b → a = b
 | none,none,_ => rfl
 | none,some _,h => by unfold addrD at h; cases h
 | some _,none,h => by unfold addrD at h; cases h
 | some ⟨a1,a2,a3⟩,some ⟨b1,b2,b3⟩,h => by
  unfold addrD at h;simp only [DataW.agg.injEq,List.cons.injEq,and_true] at h;rw [natD_inj h.1,natD_inj h.2.1,optD_inj h.2.2]
theorem fndD_inj {p q : FndC} (h : fndD p = fndD q) : p = q:=by
 unfold fndD at h;simp only [DataW.agg.injEq,List.cons.injEq,DataW.lit.injEq,Lit.int.injEq,Lit.string.injEq,true_and,and_true] at h;obtain ⟨h1,h2,h3,h4,h5,h6,h7,h8,h9⟩:=h
 cases p; cases q
 simp only at *;rw [h1,addrD_inj h2,natD_inj h3,natD_inj h4,h5,addrD_inj h6,natD_inj h7,natD_inj h8,h9]
theorem fndV_inj {p q : FndC} (h : fndV p = fndV q) : p = q:=by
 unfold fndV at h;injection h with h;have h0:=congrArg Array.toList h;simp only [List.cons.injEq,Value.int.injEq,Value.string.injEq,Value.slice.injEq,ByteArray.mk.injEq,true_and,and_true] at h0;obtain ⟨h1,⟨h2,h3,h4⟩,h5,⟨h6,h7,h8⟩,h9⟩:=h0;have h1:=congrArg Array.toList h1
 cases p; cases q
 simp only at *;subst h1 h2 h3 h4 h5 h6 h7 h8 h9;rfl
noncomputable def fndR (v : Value) : Option (DataW Unit × List MemPlace):=open Classical in if h : ∃ p : FndC,v = fndV p then some (fndD h.choose,[]) else none
theorem fndR_mk (p : FndC) : fndR (fndV p) = some (fndD p,[]):=by
 have h : ∃ q : FndC,fndV p = fndV q:=⟨p,rfl⟩
 unfold fndR;rw [dif_pos h,← fndV_inj h.choose_spec]
theorem fndR_inv {v : Value} {y : DataW Unit × List MemPlace} (h : fndR v = some y) : ∃ p : FndC,v = fndV p ∧ y = (fndD p,[]):=by
 unfold fndR at h
 split at h
 ·rename_i hh
  exact ⟨hh.choose,hh.choose_spec,by injection h with h; exact h.symm⟩
 ·cases h
def kLit (x : List UInt8) : Lit:=.string x
theorem kLit_ne {x k : List UInt8} (h : x ≠ k) : kLit x ≠ kLit k:=fun e => h (by unfold kLit at e; injection e)
end Go.Proofs.YtjggbpchmbdocaaGreatDoor
/- The reference's map from texts to what is found, as a function; ranging over it. -/
namespace Go.Proofs.YtjggbpchmbdocaaGreatDoor
open Go.RowKit Go.Maps Go.WideMaps

abbrev FndF := List UInt8 → Option FndC
def putF (f : FndF) (k : List UInt8) (p : FndC) : FndF:=fun x => if x = k then some p else f x
def keyF (K : List (List UInt8)) (k : List UInt8) : List (List UInt8):=if k ∈ K then K else K ++ [k]
def MapF (w : World) (b n : Nat) (K : List (List UInt8)) (f : FndF) : Prop :=
 ∃ D : DataW Unit,w.ownsMap Tryz.prog 9 fndR b n D ∧ (∀ x,Maps.has D (kLit x) = (f x).isSome) ∧ (∀ x p,f x = some p → ∀ z,D.atKey (kLit x) z = fndD p) ∧ (∀ x,x ∈ K ↔ (f x).isSome = true) ∧ K.Nodup
def MapFR (w : World) (b r n : Nat) (f : FndF) (left : List UInt8 → Bool) (cnt : Nat) : Prop :=
 ∃ (D : DataW Unit) (l : Lit → Bool),w.ranges Tryz.prog 9 fndR b r n D l cnt ∧ (∀ x,Maps.has D (kLit x) = (f x).isSome) ∧ (∀ x p,f x = some p → ∀ z,D.atKey (kLit x) z = fndD p) ∧ ∀ x,left x = l (kLit x)
section
variable {w w' : World} {b r n cnt : Nat} {K : List (List UInt8)} {f : FndF} {left : List UInt8 → Bool} {row : Option Nat}
theorem MapF.made (w : World) : MapF (w.alloc (.map #[] 0)) w.heap.size 0 [] (fun _ => none):=by
 refine ⟨.map [],World.ownsMap_made _ _ _ _,fun x => rfl,fun x p h => ?_,fun x => ?_,List.nodup_nil⟩
 ·cases h
 ·simp
theorem MapF.kept (h : MapF w b n K f) (hg : w.grownBy w' row) (hne : some b ≠ row) : MapF w' b n K f:=by
 obtain ⟨D,h1,h2⟩:=h;exact ⟨D,h1.kept hg hne,h2⟩
theorem MapF.below (h : MapF w b n K f) (hb : Below w.heap.size w w') : MapF w' b n K f:=h.kept (grown_of_below hb none) (by simp)
theorem MapF.alloc (h : MapF w b n K f) (o : Obj) : MapF (w.alloc o) b n K f:=h.kept (World.grownBy_alloc w o none) (by simp)
theorem MapF.drewN (h : MapF w b n K f) (q : Nat) : MapF (w.drewN q) b n K f:=h.below (below_drewN' (Below.refl _ _) q)
theorem MapF.lt (h : MapF w b n K f) : b < w.heap.size:=by obtain ⟨D,h1,_⟩:=h; exact h1.lt
theorem MapF.kind (h : MapF w b n K f) : Kind w (some b) none:=fun k hk => by
 injection hk with hk;subst hk;obtain ⟨D,⟨es,clock,hb,_⟩,_⟩:=h;exact map_tag hb
theorem MapF.other {x : Option TypeId} (h : MapF w b n K f) (hg : w.grownBy w' row) (hk : Kind w row x) (hne : x ≠ none) : MapF w' b n K f:=h.kept hg (fun e => by
 have h1:=hk b e.symm;have h2:=h.kind b rfl;rw [h2] at h1;injection h1 with h1
 exact hne h1.symm)
set_option maxRecDepth 100000 in
theorem MapF.tight (h : MapF w b n K f) : MapF w b K.length K f:=by
 obtain ⟨D,h1,h2,h3,h4,h5⟩:=h;obtain ⟨l,hl,hp⟩:=h1.tidy keySF;obtain ⟨es,clock,hb,F,hs,hD⟩:=h1;refine ⟨D,⟨es,clock,hb,F,?_,hD⟩,h2,h3,h4,h5⟩;have e2 : DataW.map l = .map _:=hl.symm.trans hD;injection e2 with e2
 have e1 : l.length = es.size:=by rw [e2,length_sorted]; simp
 rw [← e1]
 have hk : ∀ p ∈ l,∃ x ∈ K,p.1 = kLit x:=by
  intro p hpl;have hpl':=hpl;rw [e2] at hpl';obtain ⟨x,hx,rfl⟩:=List.mem_map.1 (mem_sorted.1 hpl');obtain ⟨y,hy⟩:=F.reads x hx;rw [Go.WideElems.rg_of hy] at hpl ⊢;obtain ⟨s,_,e,_⟩:=string_of_keyOf Tryz.underlying9 (Go.WideElems.rd_key hy);refine ⟨s.data.toList,(h4 _).2 ?_,e⟩;rw [← h2,hl,has_eq,List.any_eq_true];exact ⟨y,hpl,by rw [e]; simp [Lit.sameKey,kLit]⟩
 have hn : (l.map Prod.fst).Nodup:=by
  unfold List.Nodup;rw [List.pairwise_map];exact hp
 have:=@nodup_sub_len _ (Classical.typeDecidableEq _) (l.map Prod.fst) (K.map kLit) hn (fun x hx => by
  obtain ⟨p,hp1,rfl⟩:=List.mem_map.1 hx;obtain ⟨y,hy,e⟩:=hk p hp1
  rw [e]; exact List.mem_map.2 ⟨y,hy,rfl⟩)
 simpa using this
theorem MapFR.kept (h : MapFR w b r n f left cnt) (hg : w.grownBy w' row) (h1 : some b ≠ row) (h2 : some r ≠ row) : MapFR w' b r n f left cnt:=by
 obtain ⟨D,l,a,c⟩:=h;exact ⟨D,l,a.kept hg h1 h2,c⟩
theorem MapFR.lt (h : MapFR w b r n f left cnt) : b < w.heap.size ∧ r < w.heap.size:=by
 obtain ⟨D,l,a,c⟩:=h;obtain ⟨es,clock,_,_,_,hb,_,_,_,hr,_⟩:=a;exact ⟨(Array.getElem?_eq_some_iff.1 hb).1,(Array.getElem?_eq_some_iff.1 hr).1⟩
theorem MapFR.left_eq (h : MapFR w b r n f left cnt) : w.rangeLeft b r = cnt:=by
 obtain ⟨D,l,a,c⟩:=h;exact a.left_eq
end
section
variable {w : World} {ops : Array Oper} {rest : List Oper} {o : Oper} {a : Act} {Q : Exit → Act → World → Prop} {b r n cnt : Nat} {K : List (List UInt8)} {f : FndF} {left : List UInt8 → Bool}
theorem wpList_lookF (hg : o.guard = none) (m x : Operand) (hop : o.op = Op.lookup 137 m x false) (hm : a.eval m = .map (some b)) (h : MapF w b n K f) (k : List UInt8) (hk : k.length ≤ maxLen) (hx : a.eval x = .string ⟨k.toArray⟩) (p : FndC) (hf : f k = some p)
  (hK : wpList Tryz.prog ops Q rest (a.put o.dst (fndV p)) w) : wpList Tryz.prog ops Q (o :: rest) a w:=by
 obtain ⟨D,h1,h2,h3,_⟩:=h
 refine wpList_plain hg fun K' hK' => ?_
 obtain ⟨v,ps,hrun,hv⟩:=h1.lookup keySF Tryz.underlying137 (z:=fndV fnd0) (by kernel_rfl) (fndR_mk fnd0) (keyOf_string_mk Tryz.underlying9 (s:=⟨k.toArray⟩) (by simpa [ByteArray.size] using hk));obtain ⟨q,e,hq⟩:=fndR_inv hv;have e1:=congrArg Prod.fst hq;simp only at e1;rw [show (Lit.string (⟨k.toArray⟩ : ByteArray).data.toList) = kLit k from rfl,h3 k p hf] at e1;have e2:=fndD_inj e1;subst e2;subst e;unfold Oper.wp
 simp [execOp,hop,hm,hx,hrun,Result.andThen]
 exact hK' _ _ hK
theorem wpList_lookFk (hg : o.guard = none) (m x : Operand) (hop : o.op = Op.lookup 137 m x true) (hm : a.eval m = .map (some b)) (h : MapF w b n K f) (k : List UInt8) (hk : k.length ≤ maxLen) (hx : a.eval x = .string ⟨k.toArray⟩) (p : FndC) (is : Bool) (hf : f k = if is then some p else none) (h0 : is = false → p = fnd0)
  (hK : wpList Tryz.prog ops Q rest (a.put o.dst (.tuple #[fndV p,.bool is])) w) : wpList Tryz.prog ops Q (o :: rest) a w:=by
 obtain ⟨D,h1,h2,h3,_⟩:=h
 have e0 : Maps.has D (kLit k) = is:=by rw [h2,hf]; cases is <;> rfl
 refine wpList_lookup_own_ok w hg m x _ hop 9 147 keySF Tryz.underlying137 fndR (z:=fndV fnd0) (by kernel_rfl) (fndD fnd0) [] (fndR_mk fnd0) b n D hm h1 _ (kLit k) hx (keyOf_string_mk Tryz.underlying9 (s:=⟨k.toArray⟩) (by simpa [ByteArray.size] using hk)) ?_;intro v ps hv;obtain ⟨q,e,hq⟩:=fndR_inv hv;have e1:=congrArg Prod.fst hq;simp only at e1
 have e2 : q = p:=by
  cases is with
  | true => rw [h3 k p hf] at e1; exact (fndD_inj e1).symm
  | false => rw [atKey_of_not_has e0] at e1; rw [h0 rfl]; exact (fndD_inj e1).symm
 subst e2;rw [e,e0];exact hK
theorem wpList_rangeF (hg : o.guard = none) (m : Operand) (hop : o.op = Op.range 137 m) (hm : a.eval m = .map (some b)) (h : MapF w b n K f)
  (hK : ∀ (w' : World) (left : List UInt8 → Bool) (cnt : Nat),MapFR w' b w.heap.size n f left cnt → (∀ x,left x = (f x).isSome) → w.grownBy w' none → w'.heap.size = w.heap.size + 1 → wpList Tryz.prog ops Q rest (a.put o.dst (.pointer (some ⟨w.heap.size,0,none⟩))) w') : wpList Tryz.prog ops Q (o :: rest) a w:=by
 obtain ⟨D,h1,h2,h3,h4⟩:=h;refine wpList_range_own w hg m _ hop 9 147 keySF Tryz.underlying137 _ b n D hm h1 ?_;intro w' hrg hg0 hs0;exact hK w' (fun x => Maps.has D (kLit x)) _ ⟨D,_,hrg,h2,h3,fun _ => rfl⟩ h2 hg0 hs0
theorem wpList_nextF (hg : o.guard = none) (it : Operand) (hop : o.op = Op.next it false) (hit : a.eval it = .pointer (some ⟨r,0,none⟩)) (h : MapFR w b r n f left cnt) (hlf : ∀ x,left x = true → (f x).isSome = true)
  (hDone : (∀ x,left x = false) → wpList Tryz.prog ops Q rest (a.put o.dst (.tuple #[.bool false])) w)
  (hMore : ∀ (x : List UInt8) (p : FndC) (w' : World) (cnt' : Nat),left x = true → f x = some p → MapFR w' b r n f (fun y => left y && !decide (y = x)) cnt' → cnt' < cnt →
   w.grownBy w' (some r) → w'.heap.size = w.heap.size → (Instr.entry (.pointer (some ⟨r,0,none⟩))).run Tryz.prog w' = .ok (.tuple #[.string ⟨x.toArray⟩,fndV p]) w' → wpList Tryz.prog ops Q rest (a.put o.dst (.tuple #[.bool true,.string ⟨x.toArray⟩,fndV p])) w') :
  wpList Tryz.prog ops Q (o :: rest) a w:=by
 obtain ⟨D,l,h1,h2,h3,h4⟩:=h;refine wpList_next_ranges (H:=Unit) w hg it hop 9 keySF fndR Value.string fndV (fun key kl hkey => by obtain ⟨s,e,_⟩:=string_of_keyOf Tryz.underlying9 hkey; exact ⟨s,e⟩) (fun v y hv => by obtain ⟨p,e,_⟩:=fndR_inv hv; exact ⟨p,e⟩) b r n D l cnt hit h1 (fun _ hl => hDone (fun x => by rw [h4]; exact hl _)) ?_;intro s p kl y w' cnt' hkey hlk hv hat hrg hlt hg1 hs1 hen;obtain ⟨⟨x⟩⟩:=s
 have hkl : kl = kLit x:=by
  obtain ⟨s',e1,e2,_⟩:=string_of_keyOf Tryz.underlying9 hkey;have e3:=Value.string.inj e1;exact e2.trans (congrArg (fun s : ByteArray => Lit.string s.data.toList) e3.symm)
 subst hkl
 have hlx : left x = true:=by rw [h4]; exact hlk
 have e : f x = some p:=by
  obtain ⟨p',e1,e2⟩:=fndR_inv hv;have e3:=fndV_inj e1;subst e3;obtain ⟨q,hq⟩:=Option.isSome_iff_exists.1 (hlf x hlx);have:=hat (.nil);rw [h3 x q hq,e2] at this;rw [hq,fndD_inj this]
 refine hMore x p w' cnt' hlx e ⟨D,_,hrg,h2,h3,fun y => ?_⟩ hlt hg1 hs1 hen
 by_cases e : y = x
 ·subst e; simp [Lit.sameKey,kLit]
 ·show (left y && !decide (y = x)) = _
  rw [sameKey_ne (kLit_ne e),h4]; simp [e]
end
end Go.Proofs.YtjggbpchmbdocaaGreatDoor
