/- Texts of this seat, laid together: Base Inp InpP InpQ Sg Ev EvP Mk. -/
import Derived.Deep.RegionHeld
import Derived.OrdersHeld
import Derived.WalkKit
import Derived.WalkSpells
import Derived.WalkLawsBesides
import Derived.Maps.AppendAt
import Derived.Deep.AppendLies
import Derived.Deep.Draws
import Derived.Deep.QuietTactic
import Derived.BigQuiet
import Derived.RegionTactic
import Derived.Lib.Hide
/- Plain lemmas on worlds, rows of cells and appends that the walks of this seat share; no program of Go in sight. -/
set_option linter.unusedVariables false
set_option linter.unusedSimpArgs false
namespace Go.Proofs.YtkchacgkjdeiaaaGreatDoor
open Go.RowKit
theorem QU {P:Program} {ops:Array Oper} {S:World → Prop} {Q:Exit → Act → World → Prop} {md:_} (i:Nat) {oi:Oper} {v:Value} {fuel:Nat} {listed:Array Bool} {a:Act} {w:World} (h:wpAnyH P md ops Q S fuel (listed.setIfInBounds i true) (a.put oi.dst v) w) (hi:ops[i]? = some oi:=by (simp only [List.getElem?_toArray,List.getElem?_cons_succ,List.getElem?_cons_zero]; rfl)) (hs:(Region.noSelect ops && (Region.free md ops listed i && (Region.ready md ops listed).contains i)) = true:=by kernel_rfl) (hQ:∀ c a w, Q (.panic c) (a.put oi.dst v) w → Q (.panic c) a w:=by exact fun _ _ _ h => h) (hw:Region.wanted oi (yielded ops a.tmps) = true:=by rfl) (hS:S w:=by assumption) (hy:∀ w, S w → (execOp a.eval oi).run P w = .ok (.value v) w:=by intro w hSw; (try dsimp only at hSw); go_simp; (try with_reducible rfl)):wpAnyH P md ops Q S (fuel+1) listed a w:=by
 simp only [Bool.and_eq_true] at hs;exact wpAnyH_take hi hs.1 hs.2.1 hs.2.2 hQ (.inl ⟨hw,hy⟩) hS h
theorem QR {P:Program} {ops:Array Oper} {S:World → Prop} {Q:Exit → Act → World → Prop} {md:_} (i:Nat) {o:Oper} {fuel:Nat} {l:Array Bool} {a:Act} {w:World} (h:∀ K:Act → World → Prop, Shut (∀ a w, S w → (S w → wpAnyH P md ops Q S fuel (l.setIfInBounds i true) a w) → K a w) → if Region.wanted o (yielded ops a.tmps) = true then Oper.wp P o a w K Q else K (a.put o.dst undef) w) (hr:Region.ready md ops l = [i]:=by kernel_rfl) (ho:ops[i]? = some o:=by exact rfl):wpAnyH P md ops Q S (fuel+1) l a w:=
 wpAnyH_ready hr (by simp) (AllReadyH.cons ho h AllReadyH.nil)
theorem Q0 {α:Type} {l:List α} {i:Nat}:l.toArray[i]? = l[i]?:=List.getElem?_toArray
theorem Q1 {α:Type} {a:α} {l:List α} {i:Nat}:(a::l)[i+1]? = l[i]?:=rfl
theorem Q2 {α:Type} {a:α} {l:List α}:(a::l)[0]? = some a:=rfl
theorem Q3 {α:Type} (l:List α) (i:Nat) (a:α):l.toArray.setIfInBounds i a = (l.set i a).toArray:=List.setIfInBounds_toArray l i a
theorem Q4 {α:Type} {x:α} {xs:List α} {a:α}:(x::xs).set 0 a = a::xs:=rfl
theorem Q5 {α:Type} {x:α} {xs:List α} {i:Nat} {a:α}:(x::xs).set (i+1) a = x::xs.set i a:=rfl
theorem QT {P:Program} {ops:Array Oper} {S:World → Prop} {Q:Exit → Act → World → Prop} {md:_} {i:Nat} {oi:Oper} {v:Value} {fuel:Nat} {listed:Array Bool} {a:Act} {w:World} (hy:∀ w, S w → (execOp a.eval oi).run P w = .ok (.value v) w) (h:wpAnyH P md ops Q S fuel (listed.setIfInBounds i true) (a.put oi.dst v) w) (hi:ops[i]? = some oi:=by (simp only [Q0,Q1,Q2]; rfl)) (hs:(Region.noSelect ops && (Region.free md ops listed i && (Region.ready md ops listed).contains i)) = true:=by kernel_rfl) (hQ:∀ c a w, Q (.panic c) (a.put oi.dst v) w → Q (.panic c) a w:=by exact fun _ _ _ h => h) (hw:Region.wanted oi (yielded ops a.tmps) = true:=by rfl) (hS:S w:=by assumption):wpAnyH P md ops Q S (fuel+1) listed a w:=by
 simp only [Bool.and_eq_true] at hs;exact wpAnyH_take hi hs.1 hs.2.1 hs.2.2 hQ (.inl ⟨hw,hy⟩) hS h

def Row (w : World) (lo size : Nat) (A : Option Addr) (n : Nat) (xs : List Value) : Prop :=
 xs.length = n * size ∧ (0 < n → ∃ b off,A = some ⟨b,off,none⟩ ∧ lo ≤ b ∧ b < w.heap.size ∧ ∀ j u,xs[j]? = some u → w.cell? ⟨b,off + j,none⟩ = some u)

section
variable {w w' : World} {lo lo' size n : Nat} {A : Option Addr} {xs : List Value}
theorem Row.none_ (w : World) (lo size : Nat) (A : Option Addr) : Row w lo size A 0 []:=⟨by simp,fun h => absurd h (by omega)⟩
theorem Row.keep (h : Row w lo size A n xs) (hs : w.heap.size ≤ w'.heap.size) (hk : ∀ b,lo ≤ b → b < w.heap.size → w'.heap[b]? = w.heap[b]?) : Row w' lo size A n xs :=
 ⟨h.1,fun hn => by
  obtain ⟨b,off,e,hl,hb,hc⟩:=h.2 hn
  exact ⟨b,off,e,hl,by omega,fun j u hu => (World.cell?_of_block (w:=w) (hk b hl hb)).trans (hc j u hu)⟩⟩
theorem Row.below (h : Row w lo size A n xs) (hb : Below w.heap.size w w') : Row w' lo size A n xs:=h.keep hb.size fun b _ hl => hb.block b hl
theorem Row.grown (h : Row w lo size A n xs) {g : Nat} (hb : w.grownBy w' (some g)) (hg : g < lo) : Row w' lo size A n xs :=
 h.keep hb.size fun b hl hs => hb.block b hs (fun e => by injection e with e; omega)
theorem Row.weak (h : Row w lo size A n xs) (hl : lo' ≤ lo) : Row w lo' size A n xs :=
 ⟨h.1,fun hn => by
  obtain ⟨b,off,e,h1,hb,hc⟩:=h.2 hn
  exact ⟨b,off,e,by omega,hb,hc⟩⟩
theorem Row.alloc (h : Row w lo size A n xs) (o : Obj) : Row (w.alloc o) lo size A n xs:=h.below ((Below.refl _ _).alloc (Nat.le_refl _) o)
theorem Row.drew (h : Row w lo size A n xs) : Row w.drew lo size A n xs:=h
theorem Row.drewN (h : Row w lo size A n xs) (k : Nat) : Row (w.drewN k) lo size A n xs:=h
theorem Row.of_own {base : Nat} {e : TypeId} {c : Nat} (h : w.ownsRow base e size (.slice A n c) n xs) : Row w base size A n xs:=by
 refine ⟨h.1,fun hn => ?_⟩;rcases h.2 with ⟨_,h0⟩ | ⟨g,cap,cur,hv,hg,hh,hcap,hm,hcs,ht⟩
 ·omega
 ·have hA : A = some ⟨g,0,none⟩:=by injection hv
  subst hA;have hlt : g < w.heap.size:=(Array.getElem?_eq_some_iff.1 hh).1;refine ⟨g,0,rfl,hg,hlt,fun j u hu => ?_⟩
  have hc : c = cap:=by injection hv
  subst hc
  have hj : j < n * size:=by rw [← h.1]; exact (List.getElem?_eq_some_iff.1 hu).1
  rw [Nat.zero_add,h.cellAt j hj,hu]
theorem Row.lit {b : Nat} {cs : Array Value} {e : TypeId} (hb : w.heap[b]? = some (.cells cs e (0,0))) (hlo : lo ≤ b) (hn : cs.size = n * size) : Row w lo size (some ⟨b,0,none⟩) n cs.toList:=by
 refine ⟨by simpa using hn,fun _ => ⟨b,0,rfl,hlo,(Array.getElem?_eq_some_iff.1 hb).1,fun j u hu => ?_⟩⟩;rw [Nat.zero_add,cell_of_row w b j cs e (0,0) hb]
 simpa using hu
end

theorem ownForm {w : World} {base : Nat} {e : TypeId} {size : Nat} {v : Value} {n : Nat} {xs : List Value} (h : w.ownsRow base e size v n xs) : ∃ A c,v = .slice A n c:=by
 rcases h.2 with ⟨rfl,rfl⟩ | ⟨g,cap,cur,rfl,_⟩
 ·exact ⟨none,0,rfl⟩
 ·exact ⟨_,cap,rfl⟩

theorem ownBlk {w : World} {base : Nat} {e : TypeId} {size : Nat} {A : Option Addr} {n c : Nat} {xs : List Value} (h : w.ownsRow base e size (.slice A n c) n xs) (hn : 0 < n) :
  ∃ g,A = some ⟨g,0,none⟩ ∧ base ≤ g ∧ g < w.heap.size ∧ (∀ j u,xs[j]? = some u → w.cell? ⟨g,j,none⟩ = some u) ∧ (∀ j,w.frozen? ⟨g,j,none⟩ = false):=by
 rcases h.2 with ⟨_,h0⟩ | ⟨g,cap,cur,hv,hg,hh,_⟩
 ·omega
 ·have hA : A = some ⟨g,0,none⟩:=by injection hv
  subst hA;refine ⟨g,rfl,hg,(Array.getElem?_eq_some_iff.1 hh).1,fun j u hu => ?_,fun j => ?_⟩
  ·have hj : j < n * size:=by rw [← h.1]; exact (List.getElem?_eq_some_iff.1 hu).1
   rw [h.cellAt j hj,hu]
  ·exact h.frozenAt j

theorem below_of_grown {w w' : World} {row : Option Nat} {B : Nat} (h : w.grownBy w' row) (hB : B ≤ w.heap.size) (hr : ∀ k,row = some k → B ≤ k) : Below B w w':=(Below.refl _ _).grown h hB hr
theorem grown_of_below {w w' : World} (h : Below w.heap.size w w') (row : Option Nat) : w.grownBy w' row:=⟨h.os,h.tape,h.output,h.size,fun k hk _ => h.block k hk⟩
theorem grown_trans' {a b c : World} {row : Option Nat} (h : a.grownBy b row) (k : b.grownBy c row) : a.grownBy c row :=
 ⟨k.os.trans h.os,k.tape.trans h.tape,k.output.trans h.output,Nat.le_trans h.size k.size,fun i hi hne => (k.block i (Nat.lt_of_lt_of_le hi h.size) hne).trans (h.block i hi hne)⟩
theorem grown_alloc {a b : World} {row : Option Nat} (h : a.grownBy b row) (o : Obj) : a.grownBy (b.alloc o) row:=grown_trans' h (World.grownBy_alloc b o row)
theorem grown_drew {a b : World} {row : Option Nat} (h : a.grownBy b row) : a.grownBy b.drew row:=⟨h.os,h.tape,h.output,h.size,h.block⟩
theorem grown_drewN {a b : World} {row : Option Nat} (h : a.grownBy b row) (n : Nat) : a.grownBy (b.drewN n) row:=⟨h.os,h.tape,h.output,h.size,h.block⟩
theorem grown_set {a b : World} {g : Nat} (h : a.grownBy b (some g)) (o : Nat) (u : Value) : a.grownBy (b.setCell ⟨g,o,none⟩ u) (some g) :=
 ⟨h.os,h.tape,h.output,by simpa [World.setCell] using h.size,fun i hi hne => (Below.heap_setCell b _ u i (by rintro rfl; exact hne rfl)).trans (h.block i hi hne)⟩
theorem grown_set_new {a b : World} {row : Option Nat} (h : a.grownBy b row) {p : Addr} (hp : a.heap.size ≤ p.block) (u : Value) : a.grownBy (b.setCell p u) row :=
 ⟨h.os,h.tape,h.output,by simpa [World.setCell] using h.size,fun i hi hne => (Below.heap_setCell b _ u i (by omega)).trans (h.block i hi hne)⟩
theorem below_drewN' {B : Nat} {a w : World} (h : Below B a w) (n : Nat) : Below B a (w.drewN n):=⟨h.os,h.tape,h.output,h.size,h.block⟩
theorem below_up {w w1 w2 : World} (h : Below w.heap.size w w1) (k : Below w1.heap.size w1 w2) : Below w.heap.size w w2:=h.trans (k.mono h.size)

structure SliceTy (P : Program) (t e : TypeId) (size bytes : Nat) : Prop where
  und : P.underlying t = some (.slice e)
  info : ∃ i z, P.info? e = some i ∧ i.zero = some z ∧ i.size = size ∧ i.bytes = bytes ∧ z.cells.size = size
  pos : 0 < size

theorem SliceTy.mk' {P : Program} {t e : TypeId} {z : Value} {size bytes : Nat} (h1 : P.underlying t = some (.slice e)) (h2 : (P.info? e).map (fun i => (i.zero,i.size,i.bytes)) = some (some z,size,bytes)) (h3 : z.cells.size = size) (h4 : 0 < size) : SliceTy P t e size bytes:=by
 obtain ⟨i,hi,a,b,c⟩:=info_parts h2;exact ⟨h1,⟨i,z,hi,a,b,c,h3⟩,h4⟩

section
variable {P : Program} (w : World)
theorem run_app (base : Nat) (t ty e : TypeId) (size bytes : Nat) (T : SliceTy P t e size bytes)
  (v : Value) (n : Nat) (xs : List Value) (hown : w.ownsRow base e size v n xs)
  (lo : Nat) (A : Option Addr) (m c : Nat) (news : List Value) (hr : Row w lo size A m news) (h1 : news.all (·.oneCell') = true)
  (hbytes : (n + m) * bytes ≤ 140737488355328) (h63 : n + m ≤ 9223372036854775807) (hbase : base ≤ w.heap.size) :
  ∃ A' c' w',(Builtin.append_ #[t,t] ty #[v,.slice A m c]).run P w = .ok (.slice A' (n + m) c') w' ∧ w'.ownsRow base e size (.slice A' (n + m) c') (n + m) (xs ++ news) ∧ w.grownBy w' v.ownBlock ∧
   ((Value.slice A' (n + m) c').ownBlock = v.ownBlock ∨ (Value.slice A' (n + m) c').ownBlock = some w.heap.size):=by
 obtain ⟨ht,⟨i,z,hi,hz,hsize,hby,hzs⟩,hsz⟩:=T;have fin : ∀ v' w',(Builtin.append_ #[t,t] ty #[v,.slice A m c]).run P w = .ok v' w' ∧ w'.ownsRow base e size v' (n + m) (xs ++ news) ∧ w.grownBy w' v.ownBlock ∧ (v'.ownBlock = v.ownBlock ∨ v'.ownBlock = some w.heap.size) →
   ∃ A' c' w',(Builtin.append_ #[t,t] ty #[v,.slice A m c]).run P w = .ok (.slice A' (n + m) c') w' ∧ w'.ownsRow base e size (.slice A' (n + m) c') (n + m) (xs ++ news) ∧ w.grownBy w' v.ownBlock ∧
   ((Value.slice A' (n + m) c').ownBlock = v.ownBlock ∨ (Value.slice A' (n + m) c').ownBlock = some w.heap.size):=by
  rintro v' w' ⟨h1,h2,h3,h4⟩;obtain ⟨A',c',rfl⟩:=ownForm h2;exact ⟨A',c',w',h1,h2,h3,h4⟩
 by_cases hm : m = 0
 ·subst hm
  have hn : news = []:=List.eq_nil_of_length_eq_zero (by simpa using hr.1);subst hn
  have hrun : (Builtin.append_ #[t,t] ty #[v,.slice A 0 c]).run P w = .ok v w:=by
   have hf : (Builtin.firstCells i.size 0 (.slice A 0 c)).run P w = .ok #[] w:=by
    rcases A with _ | ad
    ·exact run_firstCells_none (P:=P) w i.size 0 0 c
    ·exact run_firstCells_some (P:=P) w i.size 0 ad 0 c [] (by simp) (by simp)
   rcases hown.2 with ⟨rfl,rfl⟩ | ⟨g,cap,cur,rfl,_,_,hnc,_⟩
   ·simp [Builtin.append_,run_underlying ht,sizeOf,typeInfo,hi,Builtin.lenOf,hf]
   ·simp [Builtin.append_,run_underlying ht,sizeOf,typeInfo,hi,Builtin.lenOf,hf,hnc,storeCells]
  exact fin _ _ ⟨hrun,by simpa using hown,World.grownBy.refl w _,.inl rfl⟩
 ·obtain ⟨b,off,rfl,hlo,hb,hc⟩:=hr.2 (by omega)
  have hcells : ∀ j u,news[j]? = some u → w.cell? ((⟨b,off,none⟩ : Addr).add j) = some u:=by
   intro j u hu
   have : (⟨b,off,none⟩ : Addr).add j = ⟨b,off + j,none⟩:=by unfold Addr.add; split <;> simp_all
   rw [this];exact hc j u hu
  obtain ⟨v',w',hrun,h2,h3,_,h5⟩:=run_append_own_at (P:=P) w base t ty e i z size bytes ht hi hz hsize hby hzs hsz v n xs hown ⟨b,off,none⟩ m c news hr.1 hcells (List.all_eq_true.1 h1) (by simp only [maxLen]; omega) hbytes hbase;exact fin _ _ ⟨hrun,h2,h3,h5⟩

theorem wpList_app {ops : Array Oper} {rest : List Oper} {o : Oper} {a : Act} {Q : Exit → Act → World → Prop} {base : Nat} {t e : TypeId} {size bytes : Nat} {v : Value} {n : Nat} {xs : List Value} {lo : Nat} {A : Option Addr} {m : Nat} (c : Nat) {news : List Value}
  (hgd : o.guard = none) (s x : Operand) (T : SliceTy P t e size bytes)
  (ho : o.op = .call { callee:=.builtin .append,args:=#[s,x],argTypes:=#[t,t] })
  (hown : w.ownsRow base e size v n xs) (hs : a.eval s = v)
  (hr : Row w lo size A m news) (hx : a.eval x = .slice A m c) (h1 : news.all (·.oneCell') = true)
  (hbytes : (n + m) * bytes ≤ 140737488355328) (h63 : n + m ≤ 9223372036854775807) (hbase : base ≤ w.heap.size)
  (h : ∀ A' c' w',w'.ownsRow base e size (.slice A' (n + m) c') (n + m) (xs ++ news) → w.grownBy w' v.ownBlock → ((Value.slice A' (n + m) c').ownBlock = v.ownBlock ∨ (Value.slice A' (n + m) c').ownBlock = some w.heap.size) → wpList P ops Q rest (a.put o.dst (.slice A' (n + m) c')) w') : wpList P ops Q (o :: rest) a w:=by
 refine wpList_plain hgd fun K hK => ?_
 obtain ⟨A',c',w',hrun,h2,h3,h4⟩:=run_app (P:=P) w base t o.type e size bytes T v n xs hown lo A m c news hr h1 hbytes h63 hbase;unfold Oper.wp execOp;simp only [ho,resolve,invoke,builtin,Sem.run_bind,Sem.run_pure,Result.andThen_ok,List.map_toArray,List.map_cons,List.map_nil,hs,hx,hrun];exact hK _ _ (h A' c' w' h2 h3 h4)
end

theorem below_app {B : Nat} {a w w1 w2 : World} {base : Nat} {e : TypeId} {size : Nat} {v : Value} {n : Nat} {xs : List Value} (hown : w.ownsRow base e size v n xs) (h : Below B a w1) (hg : w1.grownBy w2 v.ownBlock) (hB : B ≤ base) (hs : B ≤ w1.heap.size) : Below B a w2 :=
 h.grown hg hs fun k hk => Nat.le_trans hB (hown.lt k hk).1

theorem own_keep {w w' : World} {base : Nat} {e : TypeId} {size : Nat} {v : Value} {n : Nat} {xs : List Value} (h : w.ownsRow base e size v n xs) (hb : Below w.heap.size w w') : w'.ownsRow base e size v n xs :=
 h.kept (grown_of_below hb none) (by cases hv : v.ownBlock <;> simp)

theorem own_grown {w w' : World} {base : Nat} {e : TypeId} {size : Nat} {v : Value} {n : Nat} {xs : List Value} {g : Nat} (h : w.ownsRow base e size v n xs) (hb : w.grownBy w' (some g)) (hg : g < base) : w'.ownsRow base e size v n xs :=
 h.kept hb (by
  cases hv : v.ownBlock with
  | none => exact .inl rfl
  | some k => right; intro he; have:=(h.lt k hv).1; injection he with he; omega)

theorem own_weak {w : World} {base base' : Nat} {e : TypeId} {size : Nat} {v : Value} {n : Nat} {xs : List Value} (h : w.ownsRow base e size v n xs) (hb : base' ≤ base) : w.ownsRow base' e size v n xs:=by
 refine ⟨h.1,?_⟩;rcases h.2 with h0 | ⟨g,cap,cur,hv,hg,rest⟩
 ·exact .inl h0
 ·exact .inr ⟨g,cap,cur,hv,by omega,rest⟩

def ints (zs : List Int) : List Value:=zs.map (Value.int .i64)
def prs (ps : List (Int × Int)) : List Value:=ps.flatMap fun p => [.int .i64 p.1,.int .i64 p.2]

theorem ints_app (a b : List Int) : ints (a ++ b) = ints a ++ ints b:=by simp [ints]
theorem prs_len (ps : List (Int × Int)) : (prs ps).length = ps.length * 2:=by
 induction ps with
 | nil => rfl
 | cons p ps ih => simp only [prs,List.flatMap_cons,List.length_append,List.length_cons,List.length_nil] at *; omega
theorem prs_one (ps : List (Int × Int)) : ∀ u ∈ prs ps,u.oneCell' = true:=by
 intro u hu;obtain ⟨p,_,hp⟩:=List.mem_flatMap.1 hu
 simp at hp
 rcases hp with rfl | rfl <;> rfl
theorem prs_app (a b : List (Int × Int)) : prs (a ++ b) = prs a ++ prs b:=by simp [prs]
theorem prs_at (ps : List (Int × Int)) : ∀ (k : Nat) (h : k < ps.length),(prs ps)[k * 2]? = some (.int .i64 ps[k].1) ∧ (prs ps)[k * 2 + 1]? = some (.int .i64 ps[k].2):=by
 induction ps with
 | nil => intro k h; simp at h
 | cons p ps ih =>
  intro k h
  cases k with
  | zero => exact ⟨rfl,rfl⟩
  | succ k =>
   have:=ih k (by simpa using h)
   have e1 : (k + 1) * 2 = k * 2 + 1 + 1:=by omega
   simp only [prs,List.flatMap_cons,e1,List.cons_append,List.nil_append,Q1,List.getElem_cons_succ] at *;exact this
theorem prs_set (ps : List (Int × Int)) (k : Nat) (h : k < ps.length) (x : Int) : (prs ps).set (k * 2 + 1) (.int .i64 x) = prs (ps.set k (ps[k].1,x)):=by
 induction ps generalizing k with
 | nil => simp at h
 | cons p ps ih =>
  cases k with
  | zero => rfl
  | succ k =>
   have e1 : (k + 1) * 2 + 1 = (k * 2 + 1) + 1 + 1:=by omega
   have:=ih k (by simpa using h);simp only [prs,List.flatMap_cons,e1,List.cons_append,List.nil_append,Q5,List.getElem_cons_succ] at *;rw [this]

theorem prs_set2 (ps : List (Int × Int)) (k : Nat) (h : k < ps.length) (x y : Int) : ((prs ps).set (k * 2) (.int .i64 x)).set (k * 2 + 1) (.int .i64 y) = prs (ps.set k (x,y)):=by
 induction ps generalizing k with
 | nil => simp at h
 | cons p ps ih =>
  cases k with
  | zero => rfl
  | succ k =>
   have e1 : (k + 1) * 2 + 1 = (k * 2 + 1) + 1 + 1:=by omega
   have e2 : (k + 1) * 2 = (k * 2) + 1 + 1:=by omega
   have:=ih k (by simpa using h);simp only [prs,List.flatMap_cons,e2,List.cons_append,List.nil_append,Q5] at *;rw [this]
theorem own_prs_set2 {w : World} {base : Nat} {e : TypeId} {g c : Nat} {ps : List (Int × Int)} (h : w.ownsRow base e 2 (.slice (some ⟨g,0,none⟩) ps.length c) ps.length (prs ps)) (k : Nat) (hk : k < ps.length) (x y : Int) :
  ((w.setCell ⟨g,k * 2,none⟩ (.int .i64 x)).setCell ⟨g,k * 2 + 1,none⟩ (.int .i64 y)).ownsRow base e 2 (.slice (some ⟨g,0,none⟩) ps.length c) ps.length (prs (ps.set k (x,y))):=by
 rw [← prs_set2 ps k hk];exact ((h.stored (k * 2) _).1.stored (k * 2 + 1) _).1
theorem own_prs_set {w : World} {base : Nat} {e : TypeId} {g c : Nat} {ps : List (Int × Int)} (h : w.ownsRow base e 2 (.slice (some ⟨g,0,none⟩) ps.length c) ps.length (prs ps)) (k : Nat) (hk : k < ps.length) (y : Int) :
  (w.setCell ⟨g,k * 2 + 1,none⟩ (.int .i64 y)).ownsRow base e 2 (.slice (some ⟨g,0,none⟩) ps.length c) ps.length (prs (ps.set k (ps[k].1,y))):=by
 rw [← prs_set ps k hk];exact (h.stored (k * 2 + 1) _).1
theorem Row.int_at {w : World} {lo : Nat} {A : Option Addr} {zs : List Int} (h : Row w lo 1 A zs.length (ints zs)) {k : Nat} (hk : k < zs.length) :
  ∃ b off,A = some ⟨b,off,none⟩ ∧ lo ≤ b ∧ b < w.heap.size ∧ w.cell? ⟨b,off + k,none⟩ = some (.int .i64 zs[k]):=by
 obtain ⟨b,off,e,hl,hb,hc⟩:=h.2 (by omega);exact ⟨b,off,e,hl,hb,hc k _ (by simp [ints,hk])⟩
theorem Row.pr_at {w : World} {lo : Nat} {A : Option Addr} {ps : List (Int × Int)} (h : Row w lo 2 A ps.length (prs ps)) {k : Nat} (hk : k < ps.length) :
  ∃ b off,A = some ⟨b,off,none⟩ ∧ lo ≤ b ∧ b < w.heap.size ∧ w.cell? ⟨b,off + k * 2,none⟩ = some (.int .i64 ps[k].1) ∧ w.cell? ⟨b,off + k * 2 + 1,none⟩ = some (.int .i64 ps[k].2):=by
 obtain ⟨b,off,e,hl,hb,hc⟩:=h.2 (by omega);exact ⟨b,off,e,hl,hb,hc _ _ (prs_at ps k hk).1,by rw [Nat.add_assoc]; exact hc _ _ (prs_at ps k hk).2⟩

theorem row_new (w : World) (cs : Array Value) (e : TypeId) (lo size n : Nat) (hlo : lo ≤ w.heap.size) (hn : cs.size = n * size) : Row (w.alloc (.cells cs e)) lo size (some ⟨w.heap.size,0,none⟩) n cs.toList :=
 Row.lit (heap_alloc_new w _) hlo hn

theorem row_new' (w : World) {cs : Array Value} {e : TypeId} {lo size n b : Nat} (hb : w.heap.size = b) (hlo : lo ≤ w.heap.size) (hn : cs.size = n * size) : Row (w.alloc (.cells cs e)) lo size (some ⟨b,0,none⟩) n cs.toList:=by
 subst hb; exact row_new w cs e lo size n hlo hn
theorem row_newN (w : World) (q : Nat) {cs : Array Value} {e : TypeId} {lo size n b : Nat} (hb : w.heap.size = b) (hlo : lo ≤ w.heap.size) (hn : cs.size = n * size) : Row ((w.alloc (.cells cs e)).drewN q) lo size (some ⟨b,0,none⟩) n cs.toList:=by
 subst hb; exact row_new w cs e lo size n hlo hn
theorem row_newD (w : World) {cs : Array Value} {e : TypeId} {lo size n b : Nat} (hb : w.heap.size = b) (hlo : lo ≤ w.heap.size) (hn : cs.size = n * size) : Row ((w.alloc (.cells cs e)).drew) lo size (some ⟨b,0,none⟩) n cs.toList:=by
 subst hb; exact row_new w cs e lo size n hlo hn
theorem own_drewN {w : World} {base : Nat} {e : TypeId} {size : Nat} {v : Value} {n : Nat} {xs : List Value} (h : w.ownsRow base e size v n xs) (q : Nat) : (w.drewN q).ownsRow base e size v n xs:=h
theorem cell_al {w : World} {p : Addr} {v : Value} (h : w.cell? p = some v) (o : Obj) : (w.alloc o).cell? p = some v:=(World.cell?_of_block (Below.heap_alloc w o p.block (World.block_lt_of_cell? w p h))).trans h
theorem ret_int' {k : IntKind} {a b : Int} (h : a = b) : Ending.returned (.int k a) = .returned (.int k b):=by rw [h]
theorem ret_bool' {a b : Bool} (h : a = b) : Ending.returned (.bool a) = .returned (.bool b):=by rw [h]
end Go.Proofs.YtkchacgkjdeiaaaGreatDoor
/- The plain mathematics of inputs: pieces, frames, what is held; no program of Go in sight. -/
namespace Go.Proofs.YtkchacgkjdeiaaaGreatDoor

def vld (p : Int × Int) : Bool:=decide (0 ≤ p.1) && decide (p.1 ≤ 63) && decide (1 ≤ p.2) && decide (p.2 ≤ 200000)
theorem vld_iff (p : Int × Int) : vld p = true ↔ 0 ≤ p.1 ∧ p.1 ≤ 63 ∧ 1 ≤ p.2 ∧ p.2 ≤ 200000:=by simp [vld,and_assoc]
def psum (ps : List (Int × Int)) : Int:=(ps.map (·.2)).sum
def inFault (ps : List (Int × Int)) : Int:=if 5000 < ps.length then 2 else if ps.all vld then (if 200000 < psum ps then 2 else 0) else 1

theorem psum_nil : psum [] = 0:=rfl
theorem psum_snoc (ps : List (Int × Int)) (p : Int × Int) : psum (ps ++ [p]) = psum ps + p.2:=by simp [psum]
theorem psum_app (ps qs : List (Int × Int)) : psum (ps ++ qs) = psum ps + psum qs:=by simp [psum]
theorem psum_take (ps : List (Int × Int)) (k : Nat) (h : k < ps.length) : psum (ps.take (k + 1)) = psum (ps.take k) + ps[k].2:=by
 rw [List.take_succ_eq_append_getElem h,psum_snoc]
theorem psum_nonneg (ps : List (Int × Int)) (h : ∀ p ∈ ps,0 ≤ p.2) : 0 ≤ psum ps:=by
 induction ps with
 | nil => simp [psum]
 | cons p ps ih =>
  have h1:=h p (by simp)
  have h2:=ih fun q hq => h q (by simp [hq])
  simp only [psum,List.map_cons,List.sum_cons] at *;omega
theorem psum_take_le (ps : List (Int × Int)) (k : Nat) (h : ∀ p ∈ ps,0 ≤ p.2) : 0 ≤ psum (ps.take k) ∧ psum (ps.take k) ≤ psum ps:=by
 have h1:=psum_nonneg (ps.take k) fun p hp => h p (List.mem_of_mem_take hp)
 have h2:=psum_nonneg (ps.drop k) fun p hp => h p (List.mem_of_mem_drop hp)
 have h3:=psum_app (ps.take k) (ps.drop k);rw [List.take_append_drop] at h3;omega
theorem mem_le_psum (ps : List (Int × Int)) (h : ∀ p ∈ ps,0 ≤ p.2) : ∀ p ∈ ps,p.2 ≤ psum ps:=by
 induction ps with
 | nil => intro p hp; simp at hp
 | cons q ps ih =>
  intro p hp;have h1:=h q (by simp)
  have h2:=psum_nonneg ps fun x hx => h x (by simp [hx])
  have h3 : psum (q :: ps) = q.2 + psum ps:=by simp [psum]
  rcases List.mem_cons.1 hp with rfl | hp
  ·omega
  ·have:=ih (fun x hx => h x (by simp [hx])) p hp; omega
theorem psum_le (ps : List (Int × Int)) (M : Int) (_ : 0 ≤ M) (h : ∀ p ∈ ps,p.2 ≤ M) : psum ps ≤ M * ps.length:=by
 induction ps with
 | nil => simp [psum]
 | cons p ps ih =>
  have h1:=h p (by simp)
  have h2:=ih fun q hq => h q (by simp [hq])
  simp only [psum,List.map_cons,List.sum_cons,List.length_cons] at *;rw [Int.natCast_add,Int.mul_add];omega

theorem inFault_long (ps : List (Int × Int)) (h : 5000 < ps.length) : inFault ps = 2:=by simp [inFault,h]
theorem inFault_bad (ps : List (Int × Int)) (k : Nat) (h : ps.length ≤ 5000) (hk : k < ps.length) (hv : vld ps[k] = false) : inFault ps = 1:=by
 have : ps.all vld = false:=by
  rw [List.all_eq_false];exact ⟨ps[k],List.getElem_mem _,by simp [hv]⟩
 simp [inFault,this,show ¬ 5000 < ps.length by omega]
theorem inFault_good (ps : List (Int × Int)) (h : ps.length ≤ 5000) (hv : ∀ p ∈ ps,vld p = true) : inFault ps = if 200000 < psum ps then 2 else 0:=by
 have : ps.all vld = true:=List.all_eq_true.2 hv
 simp [inFault,this,show ¬ 5000 < ps.length by omega]
theorem inFault_ok {ps : List (Int × Int)} (h : inFault ps = 0) : ps.length ≤ 5000 ∧ (∀ p ∈ ps,0 ≤ p.1 ∧ p.1 ≤ 63 ∧ 1 ≤ p.2 ∧ p.2 ≤ 200000) ∧ psum ps ≤ 200000:=by
 unfold inFault at h
 by_cases h1 : 5000 < ps.length
 ·simp [h1] at h
 ·by_cases h2 : ps.all vld = true
  ·simp only [h1,h2,if_true,if_false] at h
   by_cases h3 : 200000 < psum ps
   ·simp [h3] at h
   ·exact ⟨by omega,fun p hp => (vld_iff p).1 (List.all_eq_true.1 h2 p hp),by omega⟩
  ·simp [h1,h2] at h
theorem take_all_vld {ps : List (Int × Int)} {k : Nat} (h : ∀ p ∈ ps.take k,vld p = true) (hk : k < ps.length) (hv : vld ps[k] = true) : ∀ p ∈ ps.take (k + 1),vld p = true:=by
 intro p hp;rw [List.take_succ_eq_append_getElem hk] at hp;rcases List.mem_append.1 hp with h1 | h1
 ·exact h p h1
 ·simp at h1; subst h1; exact hv

def unf (ps : List (Int × Int)) : List Int:=ps.flatMap fun p => List.replicate p.2.toNat p.1
theorem unf_app (a b : List (Int × Int)) : unf (a ++ b) = unf a ++ unf b:=by simp [unf]
theorem unf_take (ps : List (Int × Int)) (k : Nat) (h : k < ps.length) : unf (ps.take (k + 1)) = unf (ps.take k) ++ List.replicate ps[k].2.toNat ps[k].1:=by
 rw [List.take_succ_eq_append_getElem h,unf_app]; simp [unf]
theorem unf_len (ps : List (Int × Int)) (h : ∀ p ∈ ps,0 ≤ p.2) : ((unf ps).length : Int) = psum ps:=by
 induction ps with
 | nil => rfl
 | cons p ps ih =>
  have h1:=h p (by simp)
  have h2:=ih fun q hq => h q (by simp [hq])
  simp only [unf,List.flatMap_cons,List.length_append,List.length_replicate,psum,List.map_cons,List.sum_cons] at *;omega

def fadd (out : List (Int × Int)) (h n : Int) : List (Int × Int) :=
 if n = 0 then out else match out.getLast? with
  | some q => if q.1 = h then out.dropLast ++ [(q.1,q.2 + n)] else out ++ [(h,n)]
  | none => [(h,n)]
def tidyM (ps : List (Int × Int)) : List (Int × Int):=ps.foldl (fun o p => fadd o p.1 p.2) []
def foldM (l : List Int) : List (Int × Int):=l.foldl (fun o h => fadd o h 1) []

theorem fadd_zero (out : List (Int × Int)) (h : Int) : fadd out h 0 = out:=by simp [fadd]
theorem fadd_fadd (out : List (Int × Int)) (h a b : Int) (ha : 0 ≤ a) (hb : 0 ≤ b) : fadd (fadd out h a) h b = fadd out h (a + b):=by
 by_cases h0 : a = 0
 ·subst h0; simp [fadd_zero]
 by_cases h1 : b = 0
 ·subst h1; simp [fadd_zero]
 have hs : a + b ≠ 0:=by omega
 unfold fadd;simp only [h0,h1,hs,if_false]
 cases hl : out.getLast? with
 | none => simp
 | some q =>
  by_cases hq : q.1 = h
  ·simp [hq,Int.add_assoc]
  ·simp [hq]
theorem foldl_rep (h : Int) (n : Nat) (out : List (Int × Int)) : (List.replicate n h).foldl (fun o x => fadd o x 1) out = fadd out h n:=by
 induction n generalizing out with
 | zero => simp [fadd]
 | succ n ih =>
  rw [List.replicate_succ,List.foldl_cons,ih,fadd_fadd _ _ _ _ (by omega) (by omega)]
  congr 1
  omega
theorem fold_unf (ps : List (Int × Int)) (h : ∀ p ∈ ps,0 ≤ p.2) : foldM (unf ps) = tidyM ps:=by
 suffices H : ∀ out,(unf ps).foldl (fun o x => fadd o x 1) out = ps.foldl (fun o p => fadd o p.1 p.2) out from H []
 induction ps with
 | nil => intro out; rfl
 | cons p ps ih =>
  intro out;have h1:=h p (by simp);simp only [unf,List.flatMap_cons,List.foldl_append,List.foldl_cons,foldl_rep] at *;rw [ih fun q hq => h q (by simp [hq])]
  congr 2
  omega
theorem tidyM_take (ps : List (Int × Int)) (k : Nat) (h : k < ps.length) : tidyM (ps.take (k + 1)) = fadd (tidyM (ps.take k)) ps[k].1 ps[k].2:=by
 unfold tidyM; rw [List.take_succ_eq_append_getElem h,List.foldl_append]; rfl
theorem fadd_len (out : List (Int × Int)) (h n : Int) : (fadd out h n).length ≤ out.length + 1:=by
 unfold fadd
 split
 ·omega
 ·split
  ·split <;> simp
  ·simp
theorem tidyM_len (ps : List (Int × Int)) : (tidyM ps).length ≤ ps.length:=by
 suffices H : ∀ out : List (Int × Int),(ps.foldl (fun o p => fadd o p.1 p.2) out).length ≤ out.length + ps.length from by have:=H []; simp only [List.length_nil,Nat.zero_add] at this; exact this
 induction ps with
 | nil => intro out; simp
 | cons p ps ih =>
  intro out;have h1:=ih (fadd out p.1 p.2);have h2:=fadd_len out p.1 p.2;simp only [List.foldl_cons,List.length_cons];omega
theorem foldM_len (l : List Int) : (foldM l).length ≤ l.length:=by
 suffices H : ∀ out : List (Int × Int),(l.foldl (fun o p => fadd o p 1) out).length ≤ out.length + l.length from by have:=H []; simp only [List.length_nil,Nat.zero_add] at this; exact this
 induction l with
 | nil => intro out; simp
 | cons p ps ih =>
  intro out;have h1:=ih (fadd out p 1);have h2:=fadd_len out p 1;simp only [List.foldl_cons,List.length_cons];omega
theorem fadd_psum (out : List (Int × Int)) (h n : Int) : psum (fadd out h n) = psum out + n:=by
 unfold fadd
 by_cases h0 : n = 0
 ·simp [h0]
 ·simp only [h0,if_false]
  cases hl : out.getLast? with
  | none => simp at hl; subst hl; simp [psum]
  | some q =>
   by_cases hq : q.1 = h
   ·obtain ⟨l,rfl⟩:=List.getLast?_eq_some_iff.1 hl
    simp [hq,psum]
    omega
   ·simp [hq,psum]
theorem tidyM_psum (ps : List (Int × Int)) : psum (tidyM ps) = psum ps:=by
 suffices H : ∀ out : List (Int × Int),psum (ps.foldl (fun o p => fadd o p.1 p.2) out) = psum out + psum ps from by have:=H []; rw [psum_nil,Int.zero_add] at this; exact this
 induction ps with
 | nil => intro out; simp [psum]
 | cons p ps ih =>
  intro out;rw [List.foldl_cons,ih,fadd_psum]
  simp [psum]
  omega
theorem fadd_mem {out : List (Int × Int)} {h n : Int} (hn : 0 ≤ n) (ho : ∀ p ∈ out,0 ≤ p.2) : ∀ p ∈ fadd out h n,0 ≤ p.2:=by
 unfold fadd
 split
 ·exact ho
 ·split
  ·rename_i q hq
   have hq2:=ho q (List.mem_of_getLast? hq)
   split
   ·intro p hp
    rcases List.mem_append.1 hp with h1 | h1
    ·exact ho p (List.dropLast_subset _ h1)
    ·simp at h1; subst h1; simp; omega
   ·intro p hp
    rcases List.mem_append.1 hp with h1 | h1
    ·exact ho p h1
    ·simp at h1; subst h1; exact hn
  ·intro p hp
   simp at hp; subst hp; exact hn
theorem tidyM_mem (ps : List (Int × Int)) (h : ∀ p ∈ ps,0 ≤ p.2) : ∀ p ∈ tidyM ps,0 ≤ p.2:=by
 suffices H : ∀ out : List (Int × Int),(∀ p ∈ out,0 ≤ p.2) → ∀ p ∈ ps.foldl (fun o p => fadd o p.1 p.2) out,0 ≤ p.2 from H [] (by simp)
 induction ps with
 | nil => intro out ho; simpa using ho
 | cons p ps ih =>
  intro out ho;rw [List.foldl_cons];exact ih (fun q hq => h q (by simp [hq])) _ (fadd_mem (h p (by simp)) ho)
theorem fadd_bump (out : List (Int × Int)) (h n : Int) (hn : n ≠ 0) (k : Nat) (hk : k + 1 = out.length) (he : (out[k]'(by omega)).1 = h) : fadd out h n = out.set k ((out[k]'(by omega)).1,(out[k]'(by omega)).2 + n):=by
 have hl : out.getLast? = some (out[k]'(by omega)):=by
  rw [List.getLast?_eq_getElem?]
  simp [show out.length - 1 = k by omega,show k < out.length by omega]
 unfold fadd;simp only [hn,if_false,hl,he,if_true]
 have hne : out ≠ []:=by intro h0; simp [h0] at hk
 have h1 : out = out.dropLast ++ [out[k]'(by omega)]:=by
  have:=List.dropLast_concat_getLast hne;rw [List.getLast_eq_getElem] at this;simp only [show out.length - 1 = k by omega] at this;exact this.symm
 have h2 : out.dropLast.length = k:=by simp; omega
 generalize hx : out[k]'(by omega) = x at *;rw [h1,List.set_append_right _ _ (by omega)]
 simp [h2]
theorem fadd_push (out : List (Int × Int)) (h n : Int) (hn : n ≠ 0) (k : Nat) (hk : k + 1 = out.length) (he : (out[k]'(by omega)).1 ≠ h) : fadd out h n = out ++ [(h,n)]:=by
 have hl : out.getLast? = some (out[k]'(by omega)):=by
  rw [List.getLast?_eq_getElem?]
  simp [show out.length - 1 = k by omega,show k < out.length by omega]
 unfold fadd
 simp [hn,hl,he]
theorem fadd_first (h n : Int) (hn : n ≠ 0) : fadd [] h n = [(h,n)]:=by simp [fadd,hn]
end Go.Proofs.YtkchacgkjdeiaaaGreatDoor
/- More plain mathematics of inputs: what is held in a frame, how a button is held and how often it is pressed. -/
namespace Go.Proofs.YtkchacgkjdeiaaaGreatDoor

def heldL (xs : List Int) (f : Int) : Int:=if f < 0 ∨ (xs.length : Int) ≤ f then 0 else xs.getD f.toNat 0
theorem heldL_out (xs : List Int) (f : Int) (h : f < 0 ∨ (xs.length : Int) ≤ f) : heldL xs f = 0:=by simp only [heldL,h,if_true]
theorem heldL_at (xs : List Int) (k : Nat) (h : k < xs.length) : heldL xs (k : Int) = xs[k]:=by
 have : ¬ ((k : Int) < 0 ∨ (xs.length : Int) ≤ k):=by omega
 simp only [heldL,this,if_false,Int.toNat_natCast,List.getD_eq_getElem?_getD,List.getElem?_eq_getElem h,Option.getD_some]
def tidyR (ps : List (Int × Int)) : List (Int × Int):=if inFault ps = 0 then foldM (unf ps) else []
def framesR (ps : List (Int × Int)) : Int:=if inFault ps = 0 then ((unf ps).length : Int) else 0
theorem tidyR_ok {ps : List (Int × Int)} (h : inFault ps = 0) : tidyR ps = foldM (unf ps):=by simp [tidyR,h]
theorem framesR_ok {ps : List (Int × Int)} (h : inFault ps = 0) : framesR ps = ((unf ps).length : Int):=by simp [framesR,h]
theorem framesR_bad {ps : List (Int × Int)} (h : ¬ inFault ps = 0) : framesR ps = 0:=by simp [framesR,h]
def hasB (x b : Int) : Bool:=bits .and .i64 x b != 0
def pressB (xs : List Int) (b : Int) (i : Int) : Bool:=hasB (heldL xs i) b && !hasB (heldL xs (i - 1)) b
def pressesM (xs : List Int) (b : Int) (k : Nat) : Nat:=((List.range k).filter fun i : Nat => pressB xs b (i : Int)).length
theorem pressesM_succ (xs : List Int) (b : Int) (k : Nat) : pressesM xs b (k + 1) = pressesM xs b k + if pressB xs b (k : Int) then 1 else 0:=by
 unfold pressesM;rw [List.range_succ,List.filter_append]
 by_cases h : pressB xs b (k : Int) <;> simp [h]
theorem pressesM_le (xs : List Int) (b : Int) (k : Nat) : pressesM xs b k ≤ k:=by
 unfold pressesM;have:=List.length_filter_le (fun i : Nat => pressB xs b (i : Int)) (List.range k)
 simpa using this

def hstep (xs : List Int) (b : Int) (out : List (Int × Int)) (i : Nat) : List (Int × Int) :=
 if hasB (heldL xs i) b then (if hasB (heldL xs ((i : Int) - 1)) b then out.set (out.length - 1) ((out.getD (out.length - 1) (0,0)).1,(out.getD (out.length - 1) (0,0)).2 + 1) else out ++ [((i : Int),1)]) else out
def holdsM (xs : List Int) (b : Int) (k : Nat) : List (Int × Int):=(List.range k).foldl (hstep xs b) []
theorem holdsM_succ (xs : List Int) (b : Int) (k : Nat) : holdsM xs b (k + 1) = hstep xs b (holdsM xs b k) k:=by simp [holdsM,List.range_succ]
theorem hasB_zero (b : Int) : hasB 0 b = false:=by
 unfold hasB
 have : bits .and .i64 0 b = 0:=by simp [bits,IntKind.wrap_i64]
 simp [this]
theorem holdsM_len (xs : List Int) (b : Int) (k : Nat) : (holdsM xs b k).length = pressesM xs b k:=by
 induction k with
 | zero => rfl
 | succ k ih =>
  rw [holdsM_succ,pressesM_succ,← ih];unfold hstep pressB
  by_cases h1 : hasB (heldL xs k) b <;> by_cases h2 : hasB (heldL xs ((k : Int) - 1)) b <;> simp [h1,h2]
theorem holdsM_pos (xs : List Int) (b : Int) (k : Nat) (h : hasB (heldL xs ((k : Int) - 1)) b = true) : 0 < (holdsM xs b k).length:=by
 induction k with
 | zero =>
  rw [heldL_out xs _ (by omega),hasB_zero] at h
  cases h
 | succ k ih =>
  have e : ((k + 1 : Nat) : Int) - 1 = k:=by omega
  rw [e] at h;rw [holdsM_succ];unfold hstep;simp only [h,if_true]
  by_cases h2 : hasB (heldL xs ((k : Int) - 1)) b = true
  ·simp only [h2,if_true,List.length_set]; exact ih h2
  ·simp [h2]
end Go.Proofs.YtkchacgkjdeiaaaGreatDoor
/- Plain mathematics of cuts, splices and differences of inputs. -/
namespace Go.Proofs.YtkchacgkjdeiaaaGreatDoor

def firstE : List Int → Int
 | [] => 0
 | e :: r => if e = 0 then firstE r else e
theorem firstE_hit (l : List Int) (k : Nat) (hk : k < l.length) (h0 : ∀ y ∈ l.take k,y = 0) (h : l[k] ≠ 0) : firstE l = l[k]:=by
 induction l generalizing k with
 | nil => simp at hk
 | cons e r ih =>
  cases k with
  | zero => simp at h; simp [firstE,h]
  | succ k =>
   have he : e = 0:=h0 e (by simp);simp only [firstE,he,if_true,List.getElem_cons_succ] at *;exact ih k (by simpa using hk) (fun y hy => h0 y (by simp [hy])) h
theorem firstE_none (l : List Int) (h0 : ∀ y ∈ l,y = 0) : firstE l = 0:=by
 induction l with
 | nil => rfl
 | cons e r ih =>
  have he : e = 0:=h0 e (by simp);simp only [firstE,he,if_true]
  exact ih fun y hy => h0 y (by simp [hy])
def cutL (xs : List Int) (from_ to_ : Nat) : List Int:=(xs.take to_).drop from_
def diffM (xs ys : List Int) : Int:=match (List.range (max xs.length ys.length)).find? (fun i : Nat => heldL xs (i : Int) != heldL ys (i : Int)) with
 | some i => (i : Int)
 | none => -1
theorem diffM_none (xs ys : List Int) (h0 : ∀ i : Nat,i < max xs.length ys.length → heldL xs (i : Int) = heldL ys (i : Int)) : diffM xs ys = -1:=by
 unfold diffM
 have : (List.range (max xs.length ys.length)).find? (fun i : Nat => heldL xs (i : Int) != heldL ys (i : Int)) = none:=by
  rw [List.find?_range_eq_none];intro i hi
  simp [h0 i hi]
 rw [this]
end Go.Proofs.YtkchacgkjdeiaaaGreatDoor
/- Plain laws of histories: keys, faults, steps between splits, the least sums. No program in sight. -/
namespace Go.Proofs.YtkchacgkjdeiaaaGreatDoor

abbrev Att := Int × List Int
def keyC (c : UInt8) : Bool:=(decide (97 ≤ c.toNat) && decide (c.toNat ≤ 122)) || (decide (48 ≤ c.toNat) && decide (c.toNat ≤ 57)) || c == 45 || c == 95
def keyB (l : List UInt8) : Bool:=decide (0 < l.length) && decide (l.length ≤ 40) && (decide (97 ≤ (l.headD 0).toNat) && decide ((l.headD 0).toNat ≤ 122)) && l.all keyC

def sgM (l : List Int) : Int:=l.foldl max 0
theorem sgM_snoc (l : List Int) (n : Int) : sgM (l ++ [n]) = max (sgM l) n:=by simp [sgM]
theorem sgM_nonneg (l : List Int) : 0 ≤ sgM l:=by
 unfold sgM
 have h : ∀ (l : List Int) (a : Int),0 ≤ a → 0 ≤ l.foldl max a:=by
  intro l
  induction l with
  | nil => intro a h; exact h
  | cons x l ih => intro a h; exact ih _ (by omega)
 exact h l 0 (by omega)

abbrev Stp := Int × Int × Int
def leastOf (l : List Int) : Int:=l.foldl (fun o c => if o < 0 ∨ c < o then c else o) (-1)
theorem leastOf_snoc (l : List Int) (c : Int) : leastOf (l ++ [c]) = if leastOf l < 0 ∨ c < leastOf l then c else leastOf l:=by unfold leastOf; rw [List.foldl_append]; rfl
theorem rev_ind {α : Type} {P : List α → Prop} (h0 : P []) (h1 : ∀ l c,P l → P (l ++ [c])) (l : List α) : P l:=by
 have h2 : ∀ m : List α,P m.reverse:=by
  intro m
  induction m with
  | nil => exact h0
  | cons x m ih => rw [List.reverse_cons]; exact h1 _ _ ih
 have:=h2 l.reverse
 rwa [List.reverse_reverse] at this
theorem leastOf_spec (l : List Int) (h : ∀ x ∈ l,0 ≤ x) : (l = [] ∧ leastOf l = -1) ∨ (leastOf l ∈ l ∧ ∀ x ∈ l,leastOf l ≤ x):=by
 revert h;refine rev_ind (P:=fun l => (∀ x ∈ l,0 ≤ x) → (l = [] ∧ leastOf l = -1) ∨ (leastOf l ∈ l ∧ ∀ x ∈ l,leastOf l ≤ x)) ?_ ?_ l
 ·intro _; exact Or.inl ⟨rfl,rfl⟩
 ·intro l c ih h
  have hc:=h c (by simp);refine Or.inr ?_;rw [leastOf_snoc];rcases ih (fun x hx => h x (by simp [hx])) with ⟨rfl,h2⟩ | ⟨h1,h2⟩
  ·rw [h2]; simp
  ·have h3:=h _ (List.mem_append_left _ h1)
   split
   ·rename_i h4
    refine ⟨by simp,fun x hx => ?_⟩;rcases List.mem_append.1 hx with hx | hx
    ·have:=h2 x hx; omega
    ·simp at hx; omega
   ·rename_i h4
    refine ⟨by simp [h1],fun x hx => ?_⟩;rcases List.mem_append.1 hx with hx | hx
    ·exact h2 x hx
    ·simp at hx; omega
theorem leastOf_perm {l m : List Int} (hp : l.Perm m) (h : ∀ x ∈ l,0 ≤ x) : leastOf l = leastOf m:=by
 have hm : ∀ x ∈ m,0 ≤ x:=fun x hx => h x (hp.mem_iff.2 hx)
 rcases leastOf_spec l h with ⟨rfl,h1⟩ | ⟨h1,h2⟩
 ·have:=List.nil_perm.1 hp
  subst this; rfl
 ·rcases leastOf_spec m hm with ⟨rfl,k1⟩ | ⟨k1,k2⟩
  ·have:=List.perm_nil.1 hp
   subst this; simp at h1
  ·have a:=h2 _ (hp.mem_iff.2 k1)
   have b:=k2 _ (hp.mem_iff.1 h1);omega
theorem leastOf_ge (l : List Int) (h : ∀ x ∈ l,0 ≤ x) : -1 ≤ leastOf l:=by
 rcases leastOf_spec l h with ⟨_,h1⟩ | ⟨h1,_⟩
 ·omega
 ·have:=h _ h1; omega
def cands (V : Nat → Int) (ss : List Stp) (i : Nat) : List Int:=(ss.filter fun s => decide (s.1 = (i : Int)) && decide (0 ≤ V s.2.1.toNat)).map fun s => s.2.2 + V s.2.1.toNat
def lvF (ss : List Stp) (n : Nat) : Nat → Nat → Int
 | 0,i => if i = n then 0 else -1
 | f + 1,i => if i = n then 0 else leastOf (cands (lvF ss n f) ss i)
def lvV (ss : List Stp) (n i : Nat) : Int:=lvF ss n (n - i) i
def Fwd (ss : List Stp) (n : Nat) : Prop:=∀ s ∈ ss,0 ≤ s.1 ∧ s.1 < s.2.1 ∧ s.2.1 ≤ (n : Int) ∧ 0 ≤ s.2.2
theorem cands_congr {V W : Nat → Int} {ss : List Stp} {i : Nat} (h : ∀ s ∈ ss,s.1 = (i : Int) → V s.2.1.toNat = W s.2.1.toNat) : cands V ss i = cands W ss i:=by
 unfold cands
 have e : (ss.filter fun s => decide (s.1 = (i : Int)) && decide (0 ≤ V s.2.1.toNat)) = ss.filter fun s => decide (s.1 = (i : Int)) && decide (0 ≤ W s.2.1.toNat):=by
  refine List.filter_congr fun s hs => ?_
  by_cases h1 : s.1 = (i : Int)
  ·rw [h s hs h1]
  ·simp [h1]
 rw [e]
 refine List.map_congr_left fun s hs => ?_
 have:=(List.mem_filter.1 hs)
 simp only [Bool.and_eq_true,decide_eq_true_eq] at this;rw [h s this.1 this.2.1]
theorem cands_nonneg {V : Nat → Int} {ss : List Stp} {n : Nat} (hf : Fwd ss n) (i : Nat) : ∀ x ∈ cands V ss i,0 ≤ x:=by
 intro x hx;unfold cands at hx;obtain ⟨s,hs,rfl⟩:=List.mem_map.1 hx;have:=List.mem_filter.1 hs;simp only [Bool.and_eq_true,decide_eq_true_eq] at this;have:=hf s this.1;omega
theorem lvF_more {ss : List Stp} {n : Nat} (hf : Fwd ss n) (f g i : Nat) (h1 : n - i ≤ f) (h2 : n - i ≤ g) (hi : i ≤ n) : lvF ss n f i = lvF ss n g i:=by
 induction f generalizing g i with
 | zero =>
  have : i = n:=by omega
  subst this
  cases g <;> simp [lvF]
 | succ f ih =>
  by_cases hin : i = n
  ·subst hin
   cases g <;> simp [lvF]
  ·cases g with
   | zero => omega
   | succ g =>
    simp only [lvF,if_neg hin]
    congr 1
    refine cands_congr fun s hs h3 => ?_
    have:=hf s hs;exact ih g _ (by omega) (by omega) (by omega)
theorem lvV_eq {ss : List Stp} {n : Nat} (hf : Fwd ss n) (i : Nat) (hi : i < n) : lvV ss n i = leastOf (cands (lvV ss n) ss i):=by
 unfold lvV
 obtain ⟨f,hf'⟩ : ∃ f,n - i = f + 1:=⟨n - i - 1,by omega⟩
 rw [hf'];simp only [lvF,if_neg (show ¬ i = n by omega)]
 congr 1
 refine cands_congr fun s hs h3 => ?_
 have:=hf s hs;exact lvF_more hf f _ _ (by omega) (by omega) (by omega)
theorem lvV_end (ss : List Stp) (n : Nat) : lvV ss n n = 0:=by simp [lvV,lvF]
theorem lvV_ge {ss : List Stp} {n : Nat} (hf : Fwd ss n) (i : Nat) (hi : i ≤ n) : -1 ≤ lvV ss n i:=by
 rcases Nat.lt_or_ge i n with h | h
 ·rw [lvV_eq hf i h]; exact leastOf_ge _ (cands_nonneg hf i)
 ·have : i = n:=by omega
  subst this; rw [lvV_end]; omega
def outP (V : Nat → Int) (p : List Stp) (n i : Nat) : Int:=if i = n then 0 else leastOf (cands V p i)
theorem cands_snoc (V : Nat → Int) (p : List Stp) (s : Stp) (i : Nat) : cands V (p ++ [s]) i = cands V p i ++ if s.1 = (i : Int) ∧ 0 ≤ V s.2.1.toNat then [s.2.2 + V s.2.1.toNat] else []:=by
 unfold cands;rw [List.filter_append,List.map_append]
 by_cases h : s.1 = (i : Int) ∧ 0 ≤ V s.2.1.toNat
 ·simp [h]
 ·rw [if_neg h,List.filter_cons_of_neg (by simpa using h)]; simp
theorem outP_done {ss p r : List Stp} {s : Stp} {n : Nat} (hf : Fwd ss n) (hperm : (p ++ s :: r).Perm ss) (hs : (p ++ s :: r).Pairwise fun x y => y.1 ≤ x.1) : outP (lvV ss n) p n s.2.1.toNat = lvV ss n s.2.1.toNat:=by
 have hms : s ∈ ss:=hperm.mem_iff.1 (by simp);have h1:=hf s hms;unfold outP
 split
 ·rename_i h; rw [h,lvV_end]
 ·rename_i h
  rw [lvV_eq hf _ (by omega)]
  have e : cands (lvV ss n) (p ++ s :: r) s.2.1.toNat = cands (lvV ss n) p s.2.1.toNat:=by
   unfold cands;rw [List.filter_append,List.map_append]
   have z : (s :: r).filter (fun x => decide (x.1 = ((s.2.1.toNat : Nat) : Int)) && decide (0 ≤ lvV ss n x.2.1.toNat)) = []:=by
    rw [List.filter_eq_nil_iff];intro x hx
    have hx1 : x.1 ≤ s.1:=by
     rcases List.mem_cons.1 hx with rfl | hx
     ·omega
     ·exact (List.pairwise_cons.1 (List.pairwise_append.1 hs).2.1).1 x hx
    simp; intro h2; omega
   rw [z]; simp
  rw [← e]
  have hperm2 : (cands (lvV ss n) (p ++ s :: r) s.2.1.toNat).Perm (cands (lvV ss n) ss s.2.1.toNat):=by
   unfold cands;exact (hperm.filter _).map _
  refine leastOf_perm hperm2 (fun x hx => ?_);exact cands_nonneg hf _ x (hperm2.mem_iff.1 hx)
theorem outP_all {ss l : List Stp} {n : Nat} (hf : Fwd ss n) (hperm : l.Perm ss) (i : Nat) (hi : i ≤ n) : outP (lvV ss n) l n i = lvV ss n i:=by
 unfold outP
 split
 ·rename_i h; rw [h,lvV_end]
 ·rw [lvV_eq hf i (by omega)]
  have hperm2 : (cands (lvV ss n) l i).Perm (cands (lvV ss n) ss i):=by unfold cands; exact (hperm.filter _).map _
  exact leastOf_perm hperm2 (fun x hx => cands_nonneg hf _ x (hperm2.mem_iff.1 hx))
end Go.Proofs.YtkchacgkjdeiaaaGreatDoor
/- The plain mathematics of videos: stretches, rates, when a frame begins, which frame is seen; no program of Go in sight. -/
namespace Go.Proofs.YtkchacgkjdeiaaaGreatDoor

abbrev St := Int × Int × Int
def trs (v : List St) : List Value:=v.flatMap fun s => [.int .i64 s.1,.int .i64 s.2.1,.int .i64 s.2.2]
theorem trs_app (a b : List St) : trs (a ++ b) = trs a ++ trs b:=by simp [trs]
theorem trs_at (v : List St) : ∀ (k : Nat) (h : k < v.length),(trs v)[k * 3]? = some (.int .i64 v[k].1) ∧ (trs v)[k * 3 + 1]? = some (.int .i64 v[k].2.1) ∧ (trs v)[k * 3 + 2]? = some (.int .i64 v[k].2.2):=by
 induction v with
 | nil => intro k h; simp at h
 | cons p v ih =>
  intro k h
  cases k with
  | zero => exact ⟨rfl,rfl,rfl⟩
  | succ k =>
   have:=ih k (by simpa using h)
   have e1 : (k + 1) * 3 = k * 3 + 1 + 1 + 1:=by omega
   simp only [trs,List.flatMap_cons,e1,List.cons_append,List.nil_append,Q1,List.getElem_cons_succ] at *;exact this
theorem Row.tr_at {w : World} {lo : Nat} {A : Option Addr} {v : List St} (h : Row w lo 3 A v.length (trs v)) {k : Nat} (hk : k < v.length) :
  ∃ b off,A = some ⟨b,off,none⟩ ∧ lo ≤ b ∧ b < w.heap.size ∧ w.cell? ⟨b,off + k * 3,none⟩ = some (.int .i64 v[k].1) ∧ w.cell? ⟨b,off + k * 3 + 1,none⟩ = some (.int .i64 v[k].2.1) ∧ w.cell? ⟨b,off + k * 3 + 2,none⟩ = some (.int .i64 v[k].2.2):=by
 obtain ⟨b,off,e,hl,hb,hc⟩:=h.2 (by omega);obtain ⟨h1,h2,h3⟩:=trs_at v k hk;exact ⟨b,off,e,hl,hb,hc _ _ h1,by rw [Nat.add_assoc]; exact hc _ _ h2,by rw [Nat.add_assoc]; exact hc _ _ h3⟩

def argOk (s : St) : Bool:=decide (1 ≤ s.1) && decide (s.1 ≤ 10000000)
def gcdI (a b : Int) : Int:=(Nat.gcd a.toNat b.toNat : Int)
def formOk (s : St) : Bool:=decide (1 ≤ s.2.2) && decide (s.2.2 ≤ 1001) && decide (s.2.2 ≤ s.2.1) && decide (s.2.1 ≤ 1000 * s.2.2) && decide (gcdI s.2.1 s.2.2 = 1)
theorem argOk_iff (s : St) : argOk s = true ↔ 1 ≤ s.1 ∧ s.1 ≤ 10000000:=by simp [argOk]
theorem formOk_iff (s : St) : formOk s = true ↔ 1 ≤ s.2.2 ∧ s.2.2 ≤ 1001 ∧ s.2.2 ≤ s.2.1 ∧ s.2.1 ≤ 1000 * s.2.2 ∧ gcdI s.2.1 s.2.2 = 1:=by simp [formOk,and_assoc]
def sFault (s : St) : Int:=if argOk s then (if formOk s then 0 else 3) else 1
def fsum (v : List St) : Int:=(v.map (·.1)).sum
theorem fsum_take (v : List St) (k : Nat) (h : k < v.length) : fsum (v.take (k + 1)) = fsum (v.take k) + v[k].1:=by
 rw [List.take_succ_eq_append_getElem h]; unfold fsum; rw [List.map_append,List.sum_append]; simp
theorem fsum_nonneg (v : List St) (h : ∀ s ∈ v,0 ≤ s.1) : 0 ≤ fsum v:=by
 induction v with
 | nil => simp [fsum]
 | cons p v ih =>
  have h1:=h p (by simp)
  have h2:=ih fun q hq => h q (by simp [hq])
  simp only [fsum,List.map_cons,List.sum_cons] at *;omega
theorem fsum_app (a b : List St) : fsum (a ++ b) = fsum a + fsum b:=by simp [fsum]
theorem fsum_take_le (v : List St) (k : Nat) (h : ∀ s ∈ v,0 ≤ s.1) : 0 ≤ fsum (v.take k) ∧ fsum (v.take k) ≤ fsum v:=by
 have h1:=fsum_nonneg (v.take k) fun p hp => h p (List.mem_of_mem_take hp)
 have h2:=fsum_nonneg (v.drop k) fun p hp => h p (List.mem_of_mem_drop hp)
 have h3:=fsum_app (v.take k) (v.drop k);rw [List.take_append_drop] at h3;omega
theorem fsum_le (v : List St) (M : Int) (h : ∀ s ∈ v,s.1 ≤ M) : fsum v ≤ M * v.length:=by
 induction v with
 | nil => simp [fsum]
 | cons p v ih =>
  have h1:=h p (by simp)
  have h2:=ih fun q hq => h q (by simp [hq])
  simp only [fsum,List.map_cons,List.sum_cons,List.length_cons] at *;rw [Int.natCast_add,Int.mul_add];omega
def mstep (n : Int) (s : St) : Int:=if n ≤ 100000000 then n / gcdI n s.2.1 * s.2.1 else n
def multK (v : List St) : Int:=v.foldl mstep 1
theorem multK_take (v : List St) (k : Nat) (h : k < v.length) : multK (v.take (k + 1)) = mstep (multK (v.take k)) v[k]:=by
 unfold multK; rw [List.take_succ_eq_append_getElem h,List.foldl_append]; rfl
theorem gcdI_pos {a b : Int} (ha : 1 ≤ a) : 1 ≤ gcdI a b:=by
 unfold gcdI;have : 0 < Nat.gcd a.toNat b.toNat:=Nat.gcd_pos_of_pos_left _ (by omega);omega
theorem gcdI_le {a b : Int} (ha : 1 ≤ a) : gcdI a b ≤ a:=by
 unfold gcdI;have : Nat.gcd a.toNat b.toNat ≤ a.toNat:=Nat.gcd_le_left _ (by omega);omega
theorem mstep_bd {n : Int} {s : St} (h1 : 1 ≤ n) (h2 : n ≤ 1000000000000000) (hs1 : 1 ≤ s.2.1) (hs2 : s.2.1 ≤ 1001000) : 1 ≤ mstep n s ∧ mstep n s ≤ 1000000000000000:=by
 unfold mstep
 split
 ·rename_i hn
  have g1:=gcdI_pos (b:=s.2.1) h1;have g2:=gcdI_le (b:=s.2.1) h1
  have q1 : 1 ≤ n / gcdI n s.2.1:=by
   rw [Int.le_ediv_iff_mul_le (by omega)]; omega
  have q2 : n / gcdI n s.2.1 ≤ n:=Int.ediv_le_self _ (by omega);have m1 : 1 * 1 ≤ n / gcdI n s.2.1 * s.2.1:=Int.mul_le_mul q1 hs1 (by omega) (by omega);have m2 : n / gcdI n s.2.1 * s.2.1 ≤ 100000000 * 1001000:=Int.mul_le_mul (by omega) hs2 (by omega) (by omega);omega
 ·omega
theorem multK_bd (v : List St) (h : ∀ s ∈ v,1 ≤ s.2.1 ∧ s.2.1 ≤ 1001000) : 1 ≤ multK v ∧ multK v ≤ 1000000000000000:=by
 suffices H : ∀ n : Int,1 ≤ n ∧ n ≤ 1000000000000000 → 1 ≤ v.foldl mstep n ∧ v.foldl mstep n ≤ 1000000000000000 from H 1 (by omega)
 induction v with
 | nil => intro n hn; exact hn
 | cons s v ih =>
  intro n hn;rw [List.foldl_cons];have:=h s (by simp);exact ih (fun q hq => h q (by simp [hq])) _ (mstep_bd hn.1 hn.2 this.1 this.2)
theorem mstep_dvd {n : Int} {s : St} (h1 : 1 ≤ n) (hs1 : 1 ≤ s.2.1) (hle : mstep n s ≤ 100000000) (hn : n ≤ 100000000) : n ∣ mstep n s ∧ s.2.1 ∣ mstep n s ∧ n ≤ mstep n s:=by
 have e : mstep n s = n / gcdI n s.2.1 * s.2.1:=by simp [mstep,hn]
 have hg : gcdI n s.2.1 ∣ n:=by
  unfold gcdI;obtain ⟨m,rfl⟩:=Int.eq_ofNat_of_zero_le (show 0 ≤ n by omega);exact Int.ofNat_dvd.2 (by simpa using Nat.gcd_dvd_left m s.2.1.toNat)
 have hg' : gcdI n s.2.1 ∣ s.2.1:=by
  obtain ⟨m,hm⟩:=Int.eq_ofNat_of_zero_le (show 0 ≤ s.2.1 by omega);unfold gcdI;rw [hm];exact Int.ofNat_dvd.2 (by simpa using Nat.gcd_dvd_right n.toNat m)
 have g1:=gcdI_pos (b:=s.2.1) h1;obtain ⟨q,hq⟩:=hg;obtain ⟨r,hr⟩:=hg';generalize hG : gcdI n s.2.1 = G at *
 have hGq : n / G = q:=by rw [hq,Int.mul_ediv_cancel_left _ (by omega)]
 have em : mstep n s = n * r:=by
  rw [e,hGq,hr];generalize hrr : r = r' at *
  have : q * (G * r') = G * q * r':=by rw [← Int.mul_assoc,Int.mul_comm q G]
  rw [← hr,hr,this,← hq]
 refine ⟨⟨r,em⟩,⟨q,by rw [e,hGq,Int.mul_comm]⟩,?_⟩
 have hr1 : 1 ≤ r:=by
  rcases Int.lt_or_le r 1 with h | h
  ·have : G * r ≤ G * 0:=Int.mul_le_mul_of_nonneg_left (by omega) (by omega)
   omega
  ·exact h
 rw [em];have:=Int.mul_le_mul_of_nonneg_left hr1 (show 0 ≤ n by omega);omega
theorem mstep_mono {n : Int} {s : St} (hn : 100000000 < n) : mstep n s = n:=by simp [mstep]; omega
theorem mult_big (v : List St) : ∀ n : Int,100000000 < n → v.foldl mstep n = n:=by
 induction v with
 | nil => intro n _; rfl
 | cons s v ih => intro n hn; rw [List.foldl_cons,mstep_mono hn]; exact ih n hn
theorem mult_dvd (v : List St) (h : ∀ s ∈ v,1 ≤ s.2.1) (hm : multK v ≤ 100000000) : ∀ s ∈ v,s.2.1 ∣ multK v:=by
 suffices H : ∀ n : Int,1 ≤ n → v.foldl mstep n ≤ 100000000 → n ∣ v.foldl mstep n ∧ ∀ s ∈ v,s.2.1 ∣ v.foldl mstep n from (H 1 (by omega) hm).2
 clear hm
 induction v with
 | nil => intro n _ _; exact ⟨Int.dvd_refl _,by simp⟩
 | cons s v ih =>
  intro n hn hle;rw [List.foldl_cons] at hle ⊢;have hs:=h s (by simp);rcases Int.lt_or_le 100000000 n with hb | hb
  ·rw [mstep_mono hb,mult_big v n hb] at hle; omega
  ·rcases Int.lt_or_le 100000000 (mstep n s) with hc | hc
   ·rw [mult_big v _ hc] at hle; omega
   ·obtain ⟨d1,d2,d3⟩:=mstep_dvd hn hs hc hb
    obtain ⟨i1,i2⟩:=ih (fun q hq => h q (by simp [hq])) (mstep n s) (by omega) hle;refine ⟨Int.dvd_trans d1 i1,fun q hq => ?_⟩;rcases List.mem_cons.1 hq with rfl | hq
    ·exact Int.dvd_trans d2 i1
    ·exact i2 q hq

def vFault (v : List St) : Int:=if 500 < v.length then 2 else if firstE (v.map sFault) = 0 then (if 10000000 < fsum v ∨ 100000000 < multK v then 2 else 0) else firstE (v.map sFault)
theorem vFault_long (v : List St) (h : 500 < v.length) : vFault v = 2:=by simp [vFault,h]
theorem vFault_bad (v : List St) (k : Nat) (h : v.length ≤ 500) (hk : k < v.length) (h0 : ∀ s ∈ v.take k,sFault s = 0) (hv : sFault v[k] ≠ 0) : vFault v = sFault v[k]:=by
 have e : firstE (v.map sFault) = sFault v[k]:=by
  have:=firstE_hit (v.map sFault) k (by simpa using hk) (by rw [← List.map_take]; intro y hy; obtain ⟨s,hs,rfl⟩:=List.mem_map.1 hy; exact h0 s hs) (by simpa using hv)
  simpa using this
 unfold vFault;rw [e,if_neg (by omega),if_neg hv]
theorem vFault_good (v : List St) (h : v.length ≤ 500) (h0 : ∀ s ∈ v,sFault s = 0) : vFault v = if 10000000 < fsum v ∨ 100000000 < multK v then 2 else 0:=by
 have e : firstE (v.map sFault) = 0:=firstE_none _ (by intro y hy; obtain ⟨s,hs,rfl⟩:=List.mem_map.1 hy; exact h0 s hs);unfold vFault;rw [e,if_neg (by omega)]; rfl
theorem sFault_ok {s : St} (h : sFault s = 0) : argOk s = true ∧ formOk s = true:=by
 unfold sFault at h
 by_cases h1 : argOk s = true
 ·by_cases h2 : formOk s = true
  ·exact ⟨h1,h2⟩
  ·simp [h1,h2] at h
 ·simp [h1] at h
structure Good (v : List St) : Prop where
  len : v.length ≤ 500
  pos : ∀ s ∈ v, 1 ≤ s.1 ∧ s.1 ≤ 10000000
  form : ∀ s ∈ v, 1 ≤ s.2.2 ∧ s.2.2 ≤ 1001 ∧ s.2.2 ≤ s.2.1 ∧ s.2.1 ≤ 1001000
  sum : fsum v ≤ 10000000
  mul : multK v ≤ 100000000
theorem vFault_ok {v : List St} (h : vFault v = 0) : Good v:=by
 unfold vFault at h
 by_cases h1 : 500 < v.length
 ·simp [h1] at h
 ·rw [if_neg h1] at h
  by_cases h2 : firstE (v.map sFault) = 0
  ·rw [if_pos h2] at h
   have h3 : ∀ s ∈ v,sFault s = 0:=by
    intro s hs;rcases Classical.em (∀ s ∈ v,sFault s = 0) with ha | ha
    ·exact ha s hs
    ·exfalso
     have : ∃ k,∃ hk : k < v.length,sFault v[k] ≠ 0 ∧ ∀ s ∈ v.take k,sFault s = 0:=by
      clear h h1 hs s
      induction v with
      | nil => exact absurd (by simp) ha
      | cons s v ih =>
       by_cases hz : sFault s = 0
       ·have h2' : firstE (v.map sFault) = 0:=by simpa [firstE,hz] using h2
        obtain ⟨k,hk,h4,h5⟩:=ih h2' (fun hh => ha (by simpa [hz] using hh))
        exact ⟨k + 1,by simp; omega,by simpa using h4,by
         intro x hx;rw [List.take_succ_cons] at hx;rcases List.mem_cons.1 hx with rfl | hx
         ·exact hz
         ·exact h5 x hx⟩
       ·exact ⟨0,by simp,by simpa using hz,by simp⟩
     obtain ⟨k,hk,h4,h5⟩:=this;have:=vFault_bad v k (by omega) hk h5 h4;unfold vFault at this;rw [if_neg h1,if_pos h2,h] at this;exact h4 this.symm
   by_cases h4 : 10000000 < fsum v ∨ 100000000 < multK v
   ·rw [if_pos h4] at h; cases h
   ·refine ⟨by omega,fun s hs => (argOk_iff s).1 (sFault_ok (h3 s hs)).1,fun s hs => ?_,by omega,by omega⟩
    have:=(formOk_iff s).1 (sFault_ok (h3 s hs)).2;omega
  ·rw [if_neg h2] at h; exact absurd h h2
theorem sFault_take {v : List St} {k : Nat} (h : ∀ s ∈ v.take k,sFault s = 0) (hk : k < v.length) (hv : sFault v[k] = 0) : ∀ s ∈ v.take (k + 1),sFault s = 0:=by
 intro p hp;rw [List.take_succ_eq_append_getElem hk] at hp;rcases List.mem_append.1 hp with h1 | h1
 ·exact h p h1
 ·simp at h1; subst h1; exact hv

def longM (m : Int) (s : St) : Int:=s.2.2 * (m / s.2.1)
def usedM (v : List St) (f : Int) (k : Nat) : Int:=min (max (f - fsum (v.take k)) 0) (v.getD k (0,1,1)).1
def begK (m : Int) (v : List St) (f : Int) : Nat → Int
 | 0 => 0
 | k + 1 => begK m v f k + usedM v f k * longM m (v.getD k (0,1,1))
def begM (v : List St) (f : Int) : Int:=begK (multK v) v f v.length
theorem longM_bd {m : Int} {s : St} (hm : 1 ≤ m) (hm' : m ≤ 100000000) (h1 : 1 ≤ s.2.2) (h2 : s.2.2 ≤ s.2.1) (hd : s.2.1 ∣ m) : 1 ≤ longM m s ∧ longM m s ≤ m:=by
 unfold longM;obtain ⟨q,rfl⟩:=hd
 have hq : 1 ≤ q:=by
  rcases Int.lt_or_le q 1 with h | h
  ·have : s.2.1 * q ≤ s.2.1 * 0:=Int.mul_le_mul_of_nonneg_left (by omega) (by omega)
   omega
  ·exact h
 rw [Int.mul_ediv_cancel_left _ (by omega)];have a1 : 1 * 1 ≤ s.2.2 * q:=Int.mul_le_mul h1 hq (by omega) (by omega);have a2 : s.2.2 * q ≤ s.2.1 * q:=Int.mul_le_mul_of_nonneg_right h2 (by omega);omega
theorem Good.nonneg {v : List St} (h : Good v) : ∀ s ∈ v,0 ≤ s.1:=fun s hs => by have:=h.pos s hs; omega
theorem Good.mbd {v : List St} (h : Good v) : 1 ≤ multK v:=(multK_bd v fun s hs => by have:=h.form s hs; omega).1
theorem Good.long {v : List St} (h : Good v) (s : St) (hs : s ∈ v) : 1 ≤ longM (multK v) s ∧ longM (multK v) s ≤ multK v:=by
 have hf:=h.form s hs;exact longM_bd h.mbd h.mul hf.1 hf.2.2.1 (mult_dvd v (fun q hq => by have:=h.form q hq; omega) h.mul s hs)
theorem used_bd (v : List St) (hp : ∀ s ∈ v,0 ≤ s.1) (f : Int) (k : Nat) (hk : k < v.length) : 0 ≤ usedM v f k ∧ usedM v f k ≤ v[k].1:=by
 unfold usedM;rw [List.getD_eq_getElem?_getD,List.getElem?_eq_getElem hk,Option.getD_some];have:=hp v[k] (List.getElem_mem _);omega
theorem begK_bd {v : List St} (h : Good v) (f : Int) : ∀ k,k ≤ v.length → 0 ≤ begK (multK v) v f k ∧ begK (multK v) v f k ≤ fsum (v.take k) * 100000000:=by
 intro k
 induction k with
 | zero => intro _; simp [begK,fsum]
 | succ k ih =>
  intro hk
  have hlt : k < v.length:=by omega
  have i:=ih (by omega);have u:=used_bd v h.nonneg f k hlt;have hm:=h.mul;have l:=h.long v[k] (List.getElem_mem _)
  have e : v.getD k (0,1,1) = v[k]:=by rw [List.getD_eq_getElem?_getD,List.getElem?_eq_getElem hlt]; rfl
  rw [begK,e,fsum_take v k hlt,Int.add_mul];have a1 : 0 ≤ usedM v f k * longM (multK v) v[k]:=Int.mul_nonneg u.1 (by omega);have a2 : usedM v f k * longM (multK v) v[k] ≤ v[k].1 * 100000000:=Int.mul_le_mul u.2 (by omega) (by omega) (by omega);omega
end Go.Proofs.YtkchacgkjdeiaaaGreatDoor
/- Which frame is seen at a time: plain mathematics; no program of Go in sight. -/
namespace Go.Proofs.YtkchacgkjdeiaaaGreatDoor

theorem getD_at (v : List St) (k : Nat) (hk : k < v.length) : v.getD k (0,1,1) = v[k]:=by rw [List.getD_eq_getElem?_getD,List.getElem?_eq_getElem hk]; rfl
theorem used_mono (v : List St) (f f' : Int) (h : f ≤ f') (k : Nat) : usedM v f k ≤ usedM v f' k:=by unfold usedM; omega
theorem begK_mono {v : List St} (hg : Good v) (f f' : Int) (h : f ≤ f') : ∀ k,k ≤ v.length → begK (multK v) v f k ≤ begK (multK v) v f' k:=by
 intro k
 induction k with
 | zero => intro _; simp [begK]
 | succ k ih =>
  intro hk;have i:=ih (by omega);have u:=used_mono v f f' h k;have l:=hg.long v[k] (List.getElem_mem _);rw [begK,begK,getD_at v k (by omega)];have:=Int.mul_le_mul_of_nonneg_right u (show 0 ≤ longM (multK v) v[k] by omega);omega
theorem begM_mono {v : List St} (hg : Good v) (f f' : Int) (h : f ≤ f') : begM v f ≤ begM v f':=begK_mono hg f f' h _ (Nat.le_refl _)
def Seen (v : List St) (L r : Int) : Prop:=(r = -1 ∧ begM v (fsum v) ≤ L) ∨ (0 ≤ r ∧ r < fsum v ∧ begM v r ≤ L ∧ L < begM v (r + 1))
theorem Seen.one {v : List St} (hg : Good v) {L r r' : Int} (h : Seen v L r) (h' : Seen v L r') : r = r':=by
 rcases h with ⟨rfl,h1⟩ | ⟨a1,a2,a3,a4⟩
 ·rcases h' with ⟨rfl,h2⟩ | ⟨b1,b2,b3,b4⟩
  ·rfl
  ·have:=begM_mono hg (r' + 1) (fsum v) (by omega); omega
 ·rcases h' with ⟨rfl,h2⟩ | ⟨b1,b2,b3,b4⟩
  ·have:=begM_mono hg (r + 1) (fsum v) (by omega); omega
  ·rcases Int.lt_trichotomy r r' with h | h | h
   ·have:=begM_mono hg (r + 1) r' (by omega); omega
   ·exact h
   ·have:=begM_mono hg (r' + 1) r (by omega); omega
end Go.Proofs.YtkchacgkjdeiaaaGreatDoor
/- Marks of a video: plain mathematics; no program of Go in sight. A mark is its frame and its kind. -/
namespace Go.Proofs.YtkchacgkjdeiaaaGreatDoor

abbrev Mk := Int × Int
theorem begK_bd' {v : List St} (h : Good v) (f : Int) : ∀ k,k ≤ v.length → begK (multK v) v f k ≤ fsum (v.take k) * multK v:=by
 intro k
 induction k with
 | zero => intro _; simp [begK,fsum]
 | succ k ih =>
  intro hk
  have hlt : k < v.length:=by omega
  have i:=ih (by omega);have u:=used_bd v h.nonneg f k hlt;have l:=h.long v[k] (List.getElem_mem _);rw [begK,getD_at v k hlt,fsum_take v k hlt,Int.add_mul];have a2 : usedM v f k * longM (multK v) v[k] ≤ v[k].1 * multK v:=Int.mul_le_mul u.2 l.2 (by omega) (by omega);omega
theorem begM_bd' {v : List St} (h : Good v) (f : Int) : 0 ≤ begM v f ∧ begM v f ≤ 10000000 * multK v:=by
 have h0:=(begK_bd h f v.length (Nat.le_refl _)).1;have h1:=begK_bd' h f v.length (Nat.le_refl _);rw [List.take_length] at h1;have h2:=Int.mul_le_mul_of_nonneg_right h.sum (show 0 ≤ multK v by have:=h.mbd; omega);unfold begM;omega
def msM (m n : Int) : Int:=n / m * 1000 + (2000 * (n % m) + m) / (2 * m)
def tstep (v : List St) (s : Int × Int × List Int) (x : Mk) : Int × Int × List Int :=
 if x.2 = 1 ∨ x.2 = 4 then (begM v x.1,s.2.1,s.2.2) else if x.2 = 3 then (s.1,s.2.1 + (begM v x.1 - s.1),s.2.2) else (s.1,s.2.1,s.2.2 ++ [msM (multK v) (s.2.1 + begM v x.1 - s.1)])
def tS (v : List St) (l : List Mk) : Int × Int × List Int:=l.foldl (tstep v) (0,0,[])
theorem tS_take (v : List St) (l : List Mk) (k : Nat) (h : k < l.length) : tS v (l.take (k + 1)) = tstep v (tS v (l.take k)) l[k]:=by
 unfold tS; rw [List.take_succ_eq_append_getElem h,List.foldl_append]; rfl
theorem tstep_on (v : List St) (s : Int × Int × List Int) (x : Mk) (h : x.2 = 1 ∨ x.2 = 4) : tstep v s x = (begM v x.1,s.2.1,s.2.2):=by simp [tstep,h]
theorem tstep_off (v : List St) (s : Int × Int × List Int) (x : Mk) (h : x.2 = 3) : tstep v s x = (s.1,s.2.1 + (begM v x.1 - s.1),s.2.2):=by simp [tstep,h]
theorem tstep_out (v : List St) (s : Int × Int × List Int) (x : Mk) (h : ¬ (x.2 = 1 ∨ x.2 = 4)) (h' : ¬ x.2 = 3) : tstep v s x = (s.1,s.2.1,s.2.2 ++ [msM (multK v) (s.2.1 + begM v x.1 - s.1)]):=by simp only [tstep,h,h',if_false]
def Rises (l : List Mk) : Prop:=∀ k,(h : k + 1 < l.length) → l[k].1 ≤ l[k + 1].1
theorem tS_bd {v : List St} (hg : Good v) (l : List Mk) (hl : Rises l) : ∀ k,k ≤ l.length → 0 ≤ (tS v (l.take k)).1 ∧ (∀ h : k < l.length,(tS v (l.take k)).1 ≤ begM v l[k].1) ∧ 0 ≤ (tS v (l.take k)).2.1 ∧ (tS v (l.take k)).2.1 ≤ k * (10000000 * multK v) ∧ (tS v (l.take k)).2.2.length ≤ k:=by
 intro k
 induction k with
 | zero => intro _; simp [tS]; intro _; exact (begM_bd' hg _).1
 | succ k ih =>
  intro hk;obtain ⟨a0,a1,b0,b1,c1⟩:=ih (by omega);have a2:=a1 (by omega);have bb:=begM_bd' hg l[k].1
  have hm : ∀ h : k + 1 < l.length,begM v l[k].1 ≤ begM v l[k + 1].1:=fun h => begM_mono hg _ _ (hl k h)
  rw [tS_take v l k (by omega)]
  have em : ((k + 1 : Nat) : Int) * (10000000 * multK v) = (k : Int) * (10000000 * multK v) + 10000000 * multK v:=by rw [Int.natCast_add,Int.add_mul]; simp
  generalize hT : (k : Int) * (10000000 * multK v) = T at *;rw [em]
  by_cases h1 : l[k].2 = 1 ∨ l[k].2 = 4
  ·rw [tstep_on _ _ _ h1]
   exact ⟨by simp; omega,fun h => by simp; exact hm h,by simp; omega,by simp; omega,by simp; omega⟩
  ·by_cases h3 : l[k].2 = 3
   ·rw [tstep_off _ _ _ h3]
    exact ⟨by simp; omega,fun h => by simp; have:=hm h; omega,by simp; omega,by simp; omega,by simp; omega⟩
   ·rw [tstep_out _ _ _ h1 h3]
    exact ⟨by simp; omega,fun h => by simp; have:=hm h; omega,by simp; omega,by simp; omega,by simp; omega⟩
end Go.Proofs.YtkchacgkjdeiaaaGreatDoor
