/- Texts of this seat, laid together: VoM. -/
import Derived.Maps.RangeWalk
import Derived.Maps.OwnOps
import Derived.Maps.Views
import Derived.StringKeys
import Derived.Test.YtgeaeockmadhcaaGreatDoorBp15
/- Maps from texts to a kind and a weight that a call makes, as functions; ranging over them. -/
namespace Go.Proofs.YtgeaeockmadhcaaGreatDoor
set_option linter.unusedVariables false
set_option linter.unusedSimpArgs false
open Go.RowKit Go.Maps Go.WideMaps

theorem keyS9 : Keyed Tryz.prog 9:=string_keyed Tryz.underlying9
def saidD (p : Int × Int) : DataW Unit:=.agg [.lit (.int .i64 p.1),.lit (.int .i64 p.2)]
def saidV (p : Int × Int) : Value:=.agg #[.int .i64 p.1,.int .i64 p.2]
noncomputable def saidR (v : Value) : Option (DataW Unit × List MemPlace):=open Classical in if h : ∃ p : Int × Int,v = saidV p then some (saidD h.choose,[]) else none
theorem saidV_inj {p q : Int × Int} (h : saidV p = saidV q) : p = q:=by
 unfold saidV at h
 injection h with h
 have h0:=congrArg Array.toList h
 simp only [List.cons.injEq,Value.int.injEq,true_and,and_true] at h0
 exact Prod.ext h0.1 h0.2
theorem saidR_mk (p : Int × Int) : saidR (saidV p) = some (saidD p,[]):=by
 have h : ∃ q : Int × Int,saidV p = saidV q:=⟨p,rfl⟩
 unfold saidR
 rw [dif_pos h,← saidV_inj h.choose_spec]
theorem saidR_inv {v : Value} {y : DataW Unit × List MemPlace} (h : saidR v = some y) : ∃ p : Int × Int,v = saidV p ∧ y = (saidD p,[]):=by
 unfold saidR at h
 split at h
 ·rename_i hh
  exact ⟨hh.choose,hh.choose_spec,by injection h with h; exact h.symm⟩
 ·cases h
theorem saidD_inj {p q : Int × Int} (h : saidD p = saidD q) : p = q:=by
 unfold saidD at h
 simp only [DataW.agg.injEq,List.cons.injEq,DataW.lit.injEq,Lit.int.injEq,true_and,and_true] at h
 exact Prod.ext h.1 h.2
def sLit (x : List UInt8) : Lit:=.string x
theorem sLit_ne {x k : List UInt8} (h : x ≠ k) : sLit x ≠ sLit k:=fun e => h (by unfold sLit at e; injection e)
def MapV (w : World) (b n : Nat) (L : LastE) : Prop :=
 ∃ D : DataW Unit,w.ownsMap Tryz.prog 9 saidR b n D ∧ (∀ x,D.atKey (sLit x) (saidD (0,0)) = saidD (L.f x)) ∧ (∀ x,Maps.has D (sLit x) = decide (x ∈ L.K)) ∧ L.K.Nodup
def MapVR (w : World) (b r n : Nat) (L : LastE) (left : List UInt8 → Bool) (cnt : Nat) : Prop :=
 ∃ (D : DataW Unit) (l : Lit → Bool),w.ranges Tryz.prog 9 saidR b r n D l cnt ∧ (∀ x,D.atKey (sLit x) (saidD (0,0)) = saidD (L.f x)) ∧ ∀ x,left x = l (sLit x)
section
variable {w w' : World} {b r n cnt : Nat} {L : LastE} {left : List UInt8 → Bool} {row : Option Nat}
theorem MapV.made (w : World) : MapV (w.alloc (.map #[] 0)) w.heap.size 0 ⟨[],fun _ => (0,0)⟩:=by
 refine ⟨.map [],World.ownsMap_made _ _ _ _,fun x => atKey_of_not_has (D:=(.map [] : DataW Unit)) rfl _,fun x => ?_,List.nodup_nil⟩
 rw [decide_eq_false (by simp)]; rfl
theorem MapV.kept (h : MapV w b n L) (hg : w.grownBy w' row) (hne : some b ≠ row) : MapV w' b n L:=by
 obtain ⟨D,h1,h2⟩:=h
 exact ⟨D,h1.kept hg hne,h2⟩
theorem MapV.below (h : MapV w b n L) (hb : Below w.heap.size w w') : MapV w' b n L:=h.kept (grown_of_below hb none) (by simp)
theorem MapV.alloc (h : MapV w b n L) (o : Obj) : MapV (w.alloc o) b n L:=h.kept (World.grownBy_alloc w o none) (by simp)
theorem MapV.lt (h : MapV w b n L) : b < w.heap.size:=by obtain ⟨D,h1,_⟩:=h; exact h1.lt
theorem MapV.mono {m : Nat} (h : MapV w b n L) (hn : n ≤ m) : MapV w b m L:=by
 obtain ⟨D,h1,h2⟩:=h
 exact ⟨D,h1.mono hn,h2⟩
theorem MapVR.kept (h : MapVR w b r n L left cnt) (hg : w.grownBy w' row) (h1 : some b ≠ row) (h2 : some r ≠ row) : MapVR w' b r n L left cnt:=by
 obtain ⟨D,l,a,c⟩:=h
 exact ⟨D,l,a.kept hg h1 h2,c⟩
theorem MapVR.lt (h : MapVR w b r n L left cnt) : b < w.heap.size ∧ r < w.heap.size:=by
 obtain ⟨D,l,a,c⟩:=h
 obtain ⟨es,clock,_,_,_,hb,_,_,_,hr,_⟩:=a
 exact ⟨(Array.getElem?_eq_some_iff.1 hb).1,(Array.getElem?_eq_some_iff.1 hr).1⟩
theorem MapVR.left_eq (h : MapVR w b r n L left cnt) : w.rangeLeft b r = cnt:=by
 obtain ⟨D,l,a,c⟩:=h
 exact a.left_eq
end
section
variable {w : World} {ops : Array Oper} {rest : List Oper} {o : Oper} {a : Act} {Q : Exit → Act → World → Prop} {b r n cnt : Nat} {L : LastE} {left : List UInt8 → Bool}
theorem wpList_putV (hg : o.guard = none) (m x v : Operand) (hop : o.op = Op.mapUpdate 136 m x v) (hm : a.eval m = .map (some b)) (h : MapV w b n L) (hn : n < maxLen) (k : List UInt8) (kd wt : Int) (hk : k.length ≤ maxLen) (hx : a.eval x = .string ⟨k.toArray⟩) (hv : a.eval v = .agg #[.int .i64 kd,.int .i64 wt])
  (hK : ∀ w',MapV w' b (n + 1) (lastPut L k kd wt) → w.grownBy w' (some b) → wpList Tryz.prog ops Q rest (a.put o.dst undef) w') : wpList Tryz.prog ops Q (o :: rest) a w:=by
 obtain ⟨D,h1,h2,h3,h4⟩:=h
 have hm0:=(h1.tidy keyS9).isMap
 refine wpList_mapUpdate_own w hg m x v _ hop 9 138 keyS9 Tryz.underlying136 saidR b n D hm h1 hn _ _ (sLit k) hx hv (keyOf_string_mk Tryz.underlying9 (s:=⟨k.toArray⟩) (by simpa [ByteArray.size] using hk)) (saidD (kd,wt)) [] (saidR_mk (kd,wt)) ?_
 intro w' h1' hg'
 refine hK w' ⟨_,h1',fun x => ?_,fun x => ?_,?_⟩ hg'
 ·show _ = saidD (if x = k then (kd,wt) else L.f x)
  by_cases e : x = k
  ·subst e; rw [if_pos rfl]; exact atKey_put_same (k:=sLit x) hm0 trivial _ _
  ·rw [if_neg e,atKey_put_other (sLit_ne e)]; exact h2 x
 ·by_cases e : x = k
  ·subst e
   rw [has_put_same (k:=sLit x) hm0 trivial]
   unfold lastPut
   by_cases hq : x ∈ L.K
   ·simp [hq]
   ·simp [hq]
  ·rw [has_put_other (sLit_ne e),h3 x]
   unfold lastPut
   by_cases hq : k ∈ L.K
   ·simp [hq]
   ·simp [hq,e]
 ·show (if k ∈ L.K then L.K else L.K ++ [k]).Nodup
  by_cases hq : k ∈ L.K
  ·rw [if_pos hq]; exact h4
  ·rw [if_neg hq,List.nodup_append]
   exact ⟨h4,by simp,fun z hz y hy => by simp at hy; subst hy; rintro rfl; exact hq hz⟩
theorem wpList_rangeV (hg : o.guard = none) (m : Operand) (hop : o.op = Op.range 136 m) (hm : a.eval m = .map (some b)) (h : MapV w b n L)
  (hK : ∀ (w' : World) (left : List UInt8 → Bool) (cnt : Nat),MapVR w' b w.heap.size n L left cnt → (∀ x,left x = decide (x ∈ L.K)) → w.grownBy w' none → w'.heap.size = w.heap.size + 1 → wpList Tryz.prog ops Q rest (a.put o.dst (.pointer (some ⟨w.heap.size,0,none⟩))) w') : wpList Tryz.prog ops Q (o :: rest) a w:=by
 obtain ⟨D,h1,h2,h3,h4⟩:=h
 refine wpList_range_own w hg m _ hop 9 138 keyS9 Tryz.underlying136 _ b n D hm h1 ?_
 intro w' hrg hg0 hs0
 exact hK w' (fun x => Maps.has D (sLit x)) _ ⟨D,_,hrg,h2,fun _ => rfl⟩ h3 hg0 hs0
theorem wpList_nextV (hg : o.guard = none) (it : Operand) (hop : o.op = Op.next it false) (hit : a.eval it = .pointer (some ⟨r,0,none⟩)) (h : MapVR w b r n L left cnt)
  (hDone : (∀ x,left x = false) → wpList Tryz.prog ops Q rest (a.put o.dst (.tuple #[.bool false])) w)
  (hMore : ∀ (x : List UInt8) (w' : World) (cnt' : Nat),left x = true → MapVR w' b r n L (fun y => left y && !decide (y = x)) cnt' → cnt' < cnt →
   w.grownBy w' (some r) → w'.heap.size = w.heap.size → (Instr.entry (.pointer (some ⟨r,0,none⟩))).run Tryz.prog w' = .ok (.tuple #[.string ⟨x.toArray⟩,.agg #[.int .i64 (L.f x).1,.int .i64 (L.f x).2]]) w' → wpList Tryz.prog ops Q rest (a.put o.dst (.tuple #[.bool true,.string ⟨x.toArray⟩,.agg #[.int .i64 (L.f x).1,.int .i64 (L.f x).2]])) w') :
  wpList Tryz.prog ops Q (o :: rest) a w:=by
 obtain ⟨D,l,h1,h2,h4⟩:=h
 refine wpList_next_ranges (H:=Unit) w hg it hop 9 keyS9 saidR Value.string saidV (fun key kl hkey => by obtain ⟨s,e,_⟩:=string_of_keyOf Tryz.underlying9 hkey; exact ⟨s,e⟩) (fun v y hv => by obtain ⟨p,e,_⟩:=saidR_inv hv; exact ⟨p,e⟩) b r n D l cnt hit h1 (fun _ hl => hDone (fun x => by rw [h4]; exact hl _)) ?_
 intro s p kl y w' cnt' hkey hlk hv hat hrg hlt hg1 hs1 hen
 obtain ⟨⟨x⟩⟩:=s
 have hkl : kl = sLit x:=by
  obtain ⟨s',e1,e2,_⟩:=string_of_keyOf Tryz.underlying9 hkey
  have e3:=Value.string.inj e1
  exact e2.trans (congrArg (fun s : ByteArray => Lit.string s.data.toList) e3.symm)
 subst hkl
 have e : L.f x = p:=by
  obtain ⟨p',e1,e2⟩:=saidR_inv hv
  have e3:=saidV_inj e1
  subst e3
  have:=hat (saidD (0,0))
  rw [h2 x,e2] at this
  exact saidD_inj this
 subst e
 refine hMore x w' cnt' (by rw [h4]; exact hlk) ⟨D,_,hrg,h2,fun y => ?_⟩ hlt hg1 hs1 hen
 by_cases e : y = x
 ·subst e; simp [Lit.sameKey,sLit]
 ·show (left y && !decide (y = x)) = _
  rw [sameKey_ne (sLit_ne e),h4]; simp [e]
end
end Go.Proofs.YtgeaeockmadhcaaGreatDoor
