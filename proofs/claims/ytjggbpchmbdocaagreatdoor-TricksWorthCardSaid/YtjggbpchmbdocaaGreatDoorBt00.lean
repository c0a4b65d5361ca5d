/- Texts of this seat, laid together: Base Inp InpP InpQ Sg Ev. -/
import Derived.Deep.RegionHeld
import Derived.OrdersHeld
import Derived.WalkKit
import Derived.WalkSpells
import Derived.WalkLawsBesides
import Derived.Maps.AppendAt
import Derived.Deep.AppendLies
import Derived.Deep.Draws
import Derived.Deep.QuietTactic
import Derived.BigQuiet
import Derived.RegionTactic
import Derived.Lib.Hide
/- Plain lemmas on worlds, rows of cells and appends that the walks of this seat share; no program of Go in sight. -/
set_option linter.unusedVariables false
set_option linter.unusedSimpArgs false
namespace Go.Proofs.YtjggbpchmbdocaaGreatDoor
open Go.RowKit
theorem QU {P:Program} {ops:Array Oper} {S:World → Prop} {Q:Exit → Act → World → Prop} {md:_} (i:Nat) {oi:Oper} {v:Value} {fuel:Nat} {listed:Array Bool} {a:Act} {w:World} (h:wpAnyH P md ops Q S fuel (listed.setIfInBounds i true) (a.put oi.dst v) w) (hi:ops[i]? = some oi:=by (simp only [List.getElem?_toArray,List.getElem?_cons_succ,List.getElem?_cons_zero]; rfl)) (hs:(Region.noSelect ops && (Region.free md ops listed i && (Region.ready md ops listed).contains i)) = true:=by kernel_rfl) (hQ:∀ c a w, Q (.panic c) (a.put oi.dst v) w → Q (.panic c) a w:=by exact fun _ _ _ h => h) (hw:Region.wanted oi (yielded ops a.tmps) = true:=by rfl) (hS:S w:=by assumption) (hy:∀ w, S w → (execOp a.eval oi).run P w = .ok (.value v) w:=by intro w hSw; (try dsimp only at hSw); go_simp; (try with_reducible rfl)):wpAnyH P md ops Q S (fuel+1) listed a w:=by
 simp only [Bool.and_eq_true] at hs;exact wpAnyH_take hi hs.1 hs.2.1 hs.2.2 hQ (.inl ⟨hw,hy⟩) hS h
theorem QR {P:Program} {ops:Array Oper} {S:World → Prop} {Q:Exit → Act → World → Prop} {md:_} (i:Nat) {o:Oper} {fuel:Nat} {l:Array Bool} {a:Act} {w:World} (h:∀ K:Act → World → Prop, Shut (∀ a w, S w → (S w → wpAnyH P md ops Q S fuel (l.setIfInBounds i true) a w) → K a w) → if Region.wanted o (yielded ops a.tmps) = true then Oper.wp P o a w K Q else K (a.put o.dst undef) w) (hr:Region.ready md ops l = [i]:=by kernel_rfl) (ho:ops[i]? = some o:=by exact rfl):wpAnyH P md ops Q S (fuel+1) l a w:=
 wpAnyH_ready hr (by simp) (AllReadyH.cons ho h AllReadyH.nil)
theorem Q0 {α:Type} {l:List α} {i:Nat}:l.toArray[i]? = l[i]?:=List.getElem?_toArray
theorem Q1 {α:Type} {a:α} {l:List α} {i:Nat}:(a::l)[i+1]? = l[i]?:=rfl
theorem Q2 {α:Type} {a:α} {l:List α}:(a::l)[0]? = some a:=rfl
theorem Q3 {α:Type} (l:List α) (i:Nat) (a:α):l.toArray.setIfInBounds i a = (l.set i a).toArray:=List.setIfInBounds_toArray l i a
theorem Q4 {α:Type} {x:α} {xs:List α} {a:α}:(x::xs).set 0 a = a::xs:=rfl
theorem Q5 {α:Type} {x:α} {xs:List α} {i:Nat} {a:α}:(x::xs).set (i+1) a = x::xs.set i a:=rfl
theorem QT {P:Program} {ops:Array Oper} {S:World → Prop} {Q:Exit → Act → World → Prop} {md:_} {i:Nat} {oi:Oper} {v:Value} {fuel:Nat} {listed:Array Bool} {a:Act} {w:World} (hy:∀ w, S w → (execOp a.eval oi).run P w = .ok (.value v) w) (h:wpAnyH P md ops Q S fuel (listed.setIfInBounds i true) (a.put oi.dst v) w) (hi:ops[i]? = some oi:=by (simp only [Q0,Q1,Q2]; rfl)) (hs:(Region.noSelect ops && (Region.free md ops listed i && (Region.ready md ops listed).contains i)) = true:=by kernel_rfl) (hQ:∀ c a w, Q (.panic c) (a.put oi.dst v) w → Q (.panic c) a w:=by exact fun _ _ _ h => h) (hw:Region.wanted oi (yielded ops a.tmps) = true:=by rfl) (hS:S w:=by assumption):wpAnyH P md ops Q S (fuel+1) listed a w:=by
 simp only [Bool.and_eq_true] at hs;exact wpAnyH_take hi hs.1 hs.2.1 hs.2.2 hQ (.inl ⟨hw,hy⟩) hS h

def Row (w : World) (lo size : Nat) (A : Option Addr) (n : Nat) (xs : List Value) : Prop :=
 xs.length = n * size ∧ (0 < n → ∃ b off,A = some ⟨b,off,none⟩ ∧ lo ≤ b ∧ b < w.heap.size ∧ ∀ j u,xs[j]? = some u → w.cell? ⟨b,off + j,none⟩ = some u)

section
variable {w w' : World} {lo lo' size n : Nat} {A : Option Addr} {xs : List Value}
theorem Row.none_ (w : World) (lo size : Nat) (A : Option Addr) : Row w lo size A 0 []:=⟨by simp,fun h => absurd h (by omega)⟩
theorem Row.keep (h : Row w lo size A n xs) (hs : w.heap.size ≤ w'.heap.size) (hk : ∀ b,lo ≤ b → b < w.heap.size → w'.heap[b]? = w.heap[b]?) : Row w' lo size A n xs :=
 ⟨h.1,fun hn => by
  obtain ⟨b,off,e,hl,hb,hc⟩:=h.2 hn
  exact ⟨b,off,e,hl,by omega,fun j u hu => (World.cell?_of_block (w:=w) (hk b hl hb)).trans (hc j u hu)⟩⟩
theorem Row.below (h : Row w lo size A n xs) (hb : Below w.heap.size w w') : Row w' lo size A n xs:=h.keep hb.size fun b _ hl => hb.block b hl
theorem Row.grown (h : Row w lo size A n xs) {g : Nat} (hb : w.grownBy w' (some g)) (hg : g < lo) : Row w' lo size A n xs :=
 h.keep hb.size fun b hl hs => hb.block b hs (fun e => by injection e with e; omega)
theorem Row.weak (h : Row w lo size A n xs) (hl : lo' ≤ lo) : Row w lo' size A n xs :=
 ⟨h.1,fun hn => by
  obtain ⟨b,off,e,h1,hb,hc⟩:=h.2 hn
  exact ⟨b,off,e,by omega,hb,hc⟩⟩
theorem Row.alloc (h : Row w lo size A n xs) (o : Obj) : Row (w.alloc o) lo size A n xs:=h.below ((Below.refl _ _).alloc (Nat.le_refl _) o)
theorem Row.drew (h : Row w lo size A n xs) : Row w.drew lo size A n xs:=h
theorem Row.drewN (h : Row w lo size A n xs) (k : Nat) : Row (w.drewN k) lo size A n xs:=h
theorem Row.of_own {base : Nat} {e : TypeId} {c : Nat} (h : w.ownsRow base e size (.slice A n c) n xs) : Row w base size A n xs:=by
 refine ⟨h.1,fun hn => ?_⟩;rcases h.2 with ⟨_,h0⟩ | ⟨g,cap,cur,hv,hg,hh,hcap,hm,hcs,ht⟩
 ·omega
 ·have hA : A = some ⟨g,0,none⟩:=by injection hv
  subst hA;have hlt : g < w.heap.size:=(Array.getElem?_eq_some_iff.1 hh).1;refine ⟨g,0,rfl,hg,hlt,fun j u hu => ?_⟩
  have hc : c = cap:=by injection hv
  subst hc
  have hj : j < n * size:=by rw [← h.1]; exact (List.getElem?_eq_some_iff.1 hu).1
  rw [Nat.zero_add,h.cellAt j hj,hu]
theorem Row.lit {b : Nat} {cs : Array Value} {e : TypeId} (hb : w.heap[b]? = some (.cells cs e (0,0))) (hlo : lo ≤ b) (hn : cs.size = n * size) : Row w lo size (some ⟨b,0,none⟩) n cs.toList:=by
 refine ⟨by simpa using hn,fun _ => ⟨b,0,rfl,hlo,(Array.getElem?_eq_some_iff.1 hb).1,fun j u hu => ?_⟩⟩;rw [Nat.zero_add,cell_of_row w b j cs e (0,0) hb]
 simpa using hu
end

theorem ownForm {w : World} {base : Nat} {e : TypeId} {size : Nat} {v : Value} {n : Nat} {xs : List Value} (h : w.ownsRow base e size v n xs) : ∃ A c,v = .slice A n c:=by
 rcases h.2 with ⟨rfl,rfl⟩ | ⟨g,cap,cur,rfl,_⟩
 ·exact ⟨none,0,rfl⟩
 ·exact ⟨_,cap,rfl⟩

theorem ownBlk {w : World} {base : Nat} {e : TypeId} {size : Nat} {A : Option Addr} {n c : Nat} {xs : List Value} (h : w.ownsRow base e size (.slice A n c) n xs) (hn : 0 < n) :
  ∃ g,A = some ⟨g,0,none⟩ ∧ base ≤ g ∧ g < w.heap.size ∧ (∀ j u,xs[j]? = some u → w.cell? ⟨g,j,none⟩ = some u) ∧ (∀ j,w.frozen? ⟨g,j,none⟩ = false):=by
 rcases h.2 with ⟨_,h0⟩ | ⟨g,cap,cur,hv,hg,hh,_⟩
 ·omega
 ·have hA : A = some ⟨g,0,none⟩:=by injection hv
  subst hA;refine ⟨g,rfl,hg,(Array.getElem?_eq_some_iff.1 hh).1,fun j u hu => ?_,fun j => ?_⟩
  ·have hj : j < n * size:=by rw [← h.1]; exact (List.getElem?_eq_some_iff.1 hu).1
   rw [h.cellAt j hj,hu]
  ·exact h.frozenAt j

theorem below_of_grown {w w' : World} {row : Option Nat} {B : Nat} (h : w.grownBy w' row) (hB : B ≤ w.heap.size) (hr : ∀ k,row = some k → B ≤ k) : Below B w w':=(Below.refl _ _).grown h hB hr
theorem grown_of_below {w w' : World} (h : Below w.heap.size w w') (row : Option Nat) : w.grownBy w' row:=⟨h.os,h.tape,h.output,h.size,fun k hk _ => h.block k hk⟩
theorem grown_trans' {a b c : World} {row : Option Nat} (h : a.grownBy b row) (k : b.grownBy c row) : a.grownBy c row :=
 ⟨k.os.trans h.os,k.tape.trans h.tape,k.output.trans h.output,Nat.le_trans h.size k.size,fun i hi hne => (k.block i (Nat.lt_of_lt_of_le hi h.size) hne).trans (h.block i hi hne)⟩
theorem grown_alloc {a b : World} {row : Option Nat} (h : a.grownBy b row) (o : Obj) : a.grownBy (b.alloc o) row:=grown_trans' h (World.grownBy_alloc b o row)
theorem grown_drew {a b : World} {row : Option Nat} (h : a.grownBy b row) : a.grownBy b.drew row:=⟨h.os,h.tape,h.output,h.size,h.block⟩
theorem grown_drewN {a b : World} {row : Option Nat} (h : a.grownBy b row) (n : Nat) : a.grownBy (b.drewN n) row:=⟨h.os,h.tape,h.output,h.size,h.block⟩
theorem grown_set {a b : World} {g : Nat} (h : a.grownBy b (some g)) (o : Nat) (u : Value) : a.grownBy (b.setCell ⟨g,o,none⟩ u) (some g) :=
 ⟨h.os,h.tape,h.output,by simpa [World.setCell] using h.size,fun i hi hne => (Below.heap_setCell b _ u i (by rintro rfl; exact hne rfl)).trans (h.block i hi hne)⟩
theorem grown_set_new {a b : World} {row : Option Nat} (h : a.grownBy b row) {p : Addr} (hp : a.heap.size ≤ p.block) (u : Value) : a.grownBy (b.setCell p u) row :=
 ⟨h.os,h.tape,h.output,by simpa [World.setCell] using h.size,fun i hi hne => (Below.heap_setCell b _ u i (by omega)).trans (h.block i hi hne)⟩
theorem below_drewN' {B : Nat} {a w : World} (h : Below B a w) (n : Nat) : Below B a (w.drewN n):=⟨h.os,h.tape,h.output,h.size,h.block⟩
theorem below_up {w w1 w2 : World} (h : Below w.heap.size w w1) (k : Below w1.heap.size w1 w2) : Below w.heap.size w w2:=h.trans (k.mono h.size)

structure SliceTy (P : Program) (t e : TypeId) (size bytes : Nat) : Prop where
  und : P.underlying t = some (.slice e)
  info : ∃ i z, P.info? e = some i ∧ i.zero = some z ∧ i.size = size ∧ i.bytes = bytes ∧ z.cells.size = size
  pos : 0 < size

theorem SliceTy.mk' {P : Program} {t e : TypeId} {z : Value} {size bytes : Nat} (h1 : P.underlying t = some (.slice e)) (h2 : (P.info? e).map (fun i => (i.zero,i.size,i.bytes)) = some (some z,size,bytes)) (h3 : z.cells.size = size) (h4 : 0 < size) : SliceTy P t e size bytes:=by
 obtain ⟨i,hi,a,b,c⟩:=info_parts h2;exact ⟨h1,⟨i,z,hi,a,b,c,h3⟩,h4⟩

section
variable {P : Program} (w : World)
theorem run_app (base : Nat) (t ty e : TypeId) (size bytes : Nat) (T : SliceTy P t e size bytes)
  (v : Value) (n : Nat) (xs : List Value) (hown : w.ownsRow base e size v n xs)
  (lo : Nat) (A : Option Addr) (m c : Nat) (news : List Value) (hr : Row w lo size A m news) (h1 : news.all (·.oneCell') = true)
  (hbytes : (n + m) * bytes ≤ 140737488355328) (h63 : n + m ≤ 9223372036854775807) (hbase : base ≤ w.heap.size) :
  ∃ A' c' w',(Builtin.append_ #[t,t] ty #[v,.slice A m c]).run P w = .ok (.slice A' (n + m) c') w' ∧ w'.ownsRow base e size (.slice A' (n + m) c') (n + m) (xs ++ news) ∧ w.grownBy w' v.ownBlock ∧
   ((Value.slice A' (n + m) c').ownBlock = v.ownBlock ∨ (Value.slice A' (n + m) c').ownBlock = some w.heap.size):=by
 obtain ⟨ht,⟨i,z,hi,hz,hsize,hby,hzs⟩,hsz⟩:=T;have fin : ∀ v' w',(Builtin.append_ #[t,t] ty #[v,.slice A m c]).run P w = .ok v' w' ∧ w'.ownsRow base e size v' (n + m) (xs ++ news) ∧ w.grownBy w' v.ownBlock ∧ (v'.ownBlock = v.ownBlock ∨ v'.ownBlock = some w.heap.size) →
   ∃ A' c' w',(Builtin.append_ #[t,t] ty #[v,.slice A m c]).run P w = .ok (.slice A' (n + m) c') w' ∧ w'.ownsRow base e size (.slice A' (n + m) c') (n + m) (xs ++ news) ∧ w.grownBy w' v.ownBlock ∧
   ((Value.slice A' (n + m) c').ownBlock = v.ownBlock ∨ (Value.slice A' (n + m) c').ownBlock = some w.heap.size):=by
  rintro v' w' ⟨h1,h2,h3,h4⟩;obtain ⟨A',c',rfl⟩:=ownForm h2;exact ⟨A',c',w',h1,h2,h3,h4⟩
 by_cases hm : m = 0
 ·subst hm
  have hn : news = []:=List.eq_nil_of_length_eq_zero (by simpa using hr.1);subst hn
  have hrun : (Builtin.append_ #[t,t] ty #[v,.slice A 0 c]).run P w = .ok v w:=by
   have hf : (Builtin.firstCells i.size 0 (.slice A 0 c)).run P w = .ok #[] w:=by
    rcases A with _ | ad
    ·exact run_firstCells_none (P:=P) w i.size 0 0 c
    ·exact run_firstCells_some (P:=P) w i.size 0 ad 0 c [] (by simp) (by simp)
   rcases hown.2 with ⟨rfl,rfl⟩ | ⟨g,cap,cur,rfl,_,_,hnc,_⟩
   ·simp [Builtin.append_,run_underlying ht,sizeOf,typeInfo,hi,Builtin.lenOf,hf]
   ·simp [Builtin.append_,run_underlying ht,sizeOf,typeInfo,hi,Builtin.lenOf,hf,hnc,storeCells]
  exact fin _ _ ⟨hrun,by simpa using hown,World.grownBy.refl w _,.inl rfl⟩
 ·obtain ⟨b,off,rfl,hlo,hb,hc⟩:=hr.2 (by omega)
  have hcells : ∀ j u,news[j]? = some u → w.cell? ((⟨b,off,none⟩ : Addr).add j) = some u:=by
   intro j u hu
   have : (⟨b,off,none⟩ : Addr).add j = ⟨b,off + j,none⟩:=by unfold Addr.add; split <;> simp_all
   rw [this];exact hc j u hu
  obtain ⟨v',w',hrun,h2,h3,_,h5⟩:=run_append_own_at (P:=P) w base t ty e i z size bytes ht hi hz hsize hby hzs hsz v n xs hown ⟨b,off,none⟩ m c news hr.1 hcells (List.all_eq_true.1 h1) (by simp only [maxLen]; omega) hbytes hbase;exact fin _ _ ⟨hrun,h2,h3,h5⟩

theorem wpList_app {ops : Array Oper} {rest : List Oper} {o : Oper} {a : Act} {Q : Exit → Act → World → Prop} {base : Nat} {t e : TypeId} {size bytes : Nat} {v : Value} {n : Nat} {xs : List Value} {lo : Nat} {A : Option Addr} {m : Nat} (c : Nat) {news : List Value}
  (hgd : o.guard = none) (s x : Operand) (T : SliceTy P t e size bytes)
  (ho : o.op = .call { callee:=.builtin .append,args:=#[s,x],argTypes:=#[t,t] })
  (hown : w.ownsRow base e size v n xs) (hs : a.eval s = v)
  (hr : Row w lo size A m news) (hx : a.eval x = .slice A m c) (h1 : news.all (·.oneCell') = true)
  (hbytes : (n + m) * bytes ≤ 140737488355328) (h63 : n + m ≤ 9223372036854775807) (hbase : base ≤ w.heap.size)
  (h : ∀ A' c' w',w'.ownsRow base e size (.slice A' (n + m) c') (n + m) (xs ++ news) → w.grownBy w' v.ownBlock → ((Value.slice A' (n + m) c').ownBlock = v.ownBlock ∨ (Value.slice A' (n + m) c').ownBlock = some w.heap.size) → wpList P ops Q rest (a.put o.dst (.slice A' (n + m) c')) w') : wpList P ops Q (o :: rest) a w:=by
 refine wpList_plain hgd fun K hK => ?_
 obtain ⟨A',c',w',hrun,h2,h3,h4⟩:=run_app (P:=P) w base t o.type e size bytes T v n xs hown lo A m c news hr h1 hbytes h63 hbase;unfold Oper.wp execOp;simp only [ho,resolve,invoke,builtin,Sem.run_bind,Sem.run_pure,Result.andThen_ok,List.map_toArray,List.map_cons,List.map_nil,hs,hx,hrun];exact hK _ _ (h A' c' w' h2 h3 h4)
end

theorem below_app {B : Nat} {a w w1 w2 : World} {base : Nat} {e : TypeId} {size : Nat} {v : Value} {n : Nat} {xs : List Value} (hown : w.ownsRow base e size v n xs) (h : Below B a w1) (hg : w1.grownBy w2 v.ownBlock) (hB : B ≤ base) (hs : B ≤ w1.heap.size) : Below B a w2 :=
 h.grown hg hs fun k hk => Nat.le_trans hB (hown.lt k hk).1

theorem own_keep {w w' : World} {base : Nat} {e : TypeId} {size : Nat} {v : Value} {n : Nat} {xs : List Value} (h : w.ownsRow base e size v n xs) (hb : Below w.heap.size w w') : w'.ownsRow base e size v n xs :=
 h.kept (grown_of_below hb none) (by cases hv : v.ownBlock <;> simp)

theorem own_grown {w w' : World} {base : Nat} {e : TypeId} {size : Nat} {v : Value} {n : Nat} {xs : List Value} {g : Nat} (h : w.ownsRow base e size v n xs) (hb : w.grownBy w' (some g)) (hg : g < base) : w'.ownsRow base e size v n xs :=
 h.kept hb (by
  cases hv : v.ownBlock with
  | none => exact .inl rfl
  | some k => right; intro he; have:=(h.lt k hv).1; injection he with he; omega)

theorem own_weak {w : World} {base base' : Nat} {e : TypeId} {size : Nat} {v : Value} {n : Nat} {xs : List Value} (h : w.ownsRow base e size v n xs) (hb : base' ≤ base) : w.ownsRow base' e size v n xs:=by
 refine ⟨h.1,?_⟩;rcases h.2 with h0 | ⟨g,cap,cur,hv,hg,rest⟩
 ·exact .inl h0
 ·exact .inr ⟨g,cap,cur,hv,by omega,rest⟩

def ints (zs : List Int) : List Value:=zs.map (Value.int .i64)
def prs (ps : List (Int × Int)) : List Value:=ps.flatMap fun p => [.int .i64 p.1,.int .i64 p.2]

theorem ints_app (a b : List Int) : ints (a ++ b) = ints a ++ ints b:=by simp [ints]
theorem prs_len (ps : List (Int × Int)) : (prs ps).length = ps.length * 2:=by
 induction ps with
 | nil => rfl
 | cons p ps ih => simp only [prs,List.flatMap_cons,List.length_append,List.length_cons,List.length_nil] at *; omega
theorem prs_one (ps : List (Int × Int)) : ∀ u ∈ prs ps,u.oneCell' = true:=by
 intro u hu;obtain ⟨p,_,hp⟩:=List.mem_flatMap.1 hu
 simp at hp
 rcases hp with rfl | rfl <;> rfl
theorem prs_app (a b : List (Int × Int)) : prs (a ++ b) = prs a ++ prs b:=by simp [prs]
theorem prs_at (ps : List (Int × Int)) : ∀ (k : Nat) (h : k < ps.length),(prs ps)[k * 2]? = some (.int .i64 ps[k].1) ∧ (prs ps)[k * 2 + 1]? = some (.int .i64 ps[k].2):=by
 induction ps with
 | nil => intro k h; simp at h
 | cons p ps ih =>
  intro k h
  cases k with
  | zero => exact ⟨rfl,rfl⟩
  | succ k =>
   have:=ih k (by simpa using h)
   have e1 : (k + 1) * 2 = k * 2 + 1 + 1:=by omega
   simp only [prs,List.flatMap_cons,e1,List.cons_append,List.nil_append,Q1,List.getElem_cons_succ] at *;exact this
theorem prs_set2 (ps : List (Int × Int)) (k : Nat) (h : k < ps.length) (x y : Int) : ((prs ps).set (k * 2) (.int .i64 x)).set (k * 2 + 1) (.int .i64 y) = prs (ps.set k (x,y)):=by
 induction ps generalizing k with
 | nil => simp at h
 | cons p ps ih =>
  cases k with
  | zero => rfl
  | succ k =>
   have e1 : (k + 1) * 2 + 1 = (k * 2 + 1) + 1 + 1:=by omega
   have e2 : (k + 1) * 2 = (k * 2) + 1 + 1:=by omega
   have:=ih k (by simpa using h);simp only [prs,List.flatMap_cons,e2,List.cons_append,List.nil_append,Q5] at *;rw [this]
theorem own_prs_set2 {w : World} {base : Nat} {e : TypeId} {g c : Nat} {ps : List (Int × Int)} (h : w.ownsRow base e 2 (.slice (some ⟨g,0,none⟩) ps.length c) ps.length (prs ps)) (k : Nat) (hk : k < ps.length) (x y : Int) :
  ((w.setCell ⟨g,k * 2,none⟩ (.int .i64 x)).setCell ⟨g,k * 2 + 1,none⟩ (.int .i64 y)).ownsRow base e 2 (.slice (some ⟨g,0,none⟩) ps.length c) ps.length (prs (ps.set k (x,y))):=by
 rw [← prs_set2 ps k hk];exact ((h.stored (k * 2) _).1.stored (k * 2 + 1) _).1
theorem Row.int_at {w : World} {lo : Nat} {A : Option Addr} {zs : List Int} (h : Row w lo 1 A zs.length (ints zs)) {k : Nat} (hk : k < zs.length) :
  ∃ b off,A = some ⟨b,off,none⟩ ∧ lo ≤ b ∧ b < w.heap.size ∧ w.cell? ⟨b,off + k,none⟩ = some (.int .i64 zs[k]):=by
 obtain ⟨b,off,e,hl,hb,hc⟩:=h.2 (by omega);exact ⟨b,off,e,hl,hb,hc k _ (by simp [ints,hk])⟩
theorem row_new (w : World) (cs : Array Value) (e : TypeId) (lo size n : Nat) (hlo : lo ≤ w.heap.size) (hn : cs.size = n * size) : Row (w.alloc (.cells cs e)) lo size (some ⟨w.heap.size,0,none⟩) n cs.toList :=
 Row.lit (heap_alloc_new w _) hlo hn

theorem row_new' (w : World) {cs : Array Value} {e : TypeId} {lo size n b : Nat} (hb : w.heap.size = b) (hlo : lo ≤ w.heap.size) (hn : cs.size = n * size) : Row (w.alloc (.cells cs e)) lo size (some ⟨b,0,none⟩) n cs.toList:=by
 subst hb; exact row_new w cs e lo size n hlo hn
theorem row_newN (w : World) (q : Nat) {cs : Array Value} {e : TypeId} {lo size n b : Nat} (hb : w.heap.size = b) (hlo : lo ≤ w.heap.size) (hn : cs.size = n * size) : Row ((w.alloc (.cells cs e)).drewN q) lo size (some ⟨b,0,none⟩) n cs.toList:=by
 subst hb; exact row_new w cs e lo size n hlo hn
theorem row_newD (w : World) {cs : Array Value} {e : TypeId} {lo size n b : Nat} (hb : w.heap.size = b) (hlo : lo ≤ w.heap.size) (hn : cs.size = n * size) : Row ((w.alloc (.cells cs e)).drew) lo size (some ⟨b,0,none⟩) n cs.toList:=by
 subst hb; exact row_new w cs e lo size n hlo hn
theorem own_drewN {w : World} {base : Nat} {e : TypeId} {size : Nat} {v : Value} {n : Nat} {xs : List Value} (h : w.ownsRow base e size v n xs) (q : Nat) : (w.drewN q).ownsRow base e size v n xs:=h
theorem cell_al {w : World} {p : Addr} {v : Value} (h : w.cell? p = some v) (o : Obj) : (w.alloc o).cell? p = some v:=(World.cell?_of_block (Below.heap_alloc w o p.block (World.block_lt_of_cell? w p h))).trans h
theorem ret_int' {k : IntKind} {a b : Int} (h : a = b) : Ending.returned (.int k a) = .returned (.int k b):=by rw [h]
theorem ret_bool' {a b : Bool} (h : a = b) : Ending.returned (.bool a) = .returned (.bool b):=by rw [h]
end Go.Proofs.YtjggbpchmbdocaaGreatDoor
/- The plain mathematics of inputs: pieces, frames, what is held; no program of Go in sight. -/
namespace Go.Proofs.YtjggbpchmbdocaaGreatDoor

end Go.Proofs.YtjggbpchmbdocaaGreatDoor
/- More plain mathematics of inputs: what is held in a frame, how a button is held and how often it is pressed. -/
namespace Go.Proofs.YtjggbpchmbdocaaGreatDoor

end Go.Proofs.YtjggbpchmbdocaaGreatDoor
/- Plain mathematics of cuts, splices and differences of inputs. -/
namespace Go.Proofs.YtjggbpchmbdocaaGreatDoor

def firstE : List Int → Int
 | [] => 0
 | e :: r => if e = 0 then firstE r else e
theorem firstE_hit (l : List Int) (k : Nat) (hk : k < l.length) (h0 : ∀ y ∈ l.take k,y = 0) (h : l[k] ≠ 0) : firstE l = l[k]:=by
 induction l generalizing k with
 | nil => simp at hk
 | cons e r ih =>
  cases k with
  | zero => simp at h; simp [firstE,h]
  | succ k =>
   have he : e = 0:=h0 e (by simp);simp only [firstE,he,if_true,List.getElem_cons_succ] at *;exact ih k (by simpa using hk) (fun y hy => h0 y (by simp [hy])) h
theorem firstE_none (l : List Int) (h0 : ∀ y ∈ l,y = 0) : firstE l = 0:=by
 induction l with
 | nil => rfl
 | cons e r ih =>
  have he : e = 0:=h0 e (by simp);simp only [firstE,he,if_true]
  exact ih fun y hy => h0 y (by simp [hy])
end Go.Proofs.YtjggbpchmbdocaaGreatDoor
/- Plain laws of histories: keys, faults, steps between splits, the least sums. No program in sight. -/
namespace Go.Proofs.YtjggbpchmbdocaaGreatDoor

abbrev Att := Int × List Int
def keyC (c : UInt8) : Bool:=(decide (97 ≤ c.toNat) && decide (c.toNat ≤ 122)) || (decide (48 ≤ c.toNat) && decide (c.toNat ≤ 57)) || c == 45 || c == 95
def keyB (l : List UInt8) : Bool:=decide (0 < l.length) && decide (l.length ≤ 40) && (decide (97 ≤ (l.headD 0).toNat) && decide ((l.headD 0).toNat ≤ 122)) && l.all keyC

def sgM (l : List Int) : Int:=l.foldl max 0
end Go.Proofs.YtjggbpchmbdocaaGreatDoor
/- The plain mathematics of videos: stretches, rates, when a frame begins, which frame is seen; no program of Go in sight. -/
namespace Go.Proofs.YtjggbpchmbdocaaGreatDoor

abbrev St := Int × Int × Int
def gcdI (a b : Int) : Int:=(Nat.gcd a.toNat b.toNat : Int)
def fsum (v : List St) : Int:=(v.map (·.1)).sum
def mstep (n : Int) (s : St) : Int:=if n ≤ 100000000 then n / gcdI n s.2.1 * s.2.1 else n
def multK (v : List St) : Int:=v.foldl mstep 1
theorem gcdI_pos {a b : Int} (ha : 1 ≤ a) : 1 ≤ gcdI a b:=by
 unfold gcdI;have : 0 < Nat.gcd a.toNat b.toNat:=Nat.gcd_pos_of_pos_left _ (by omega);omega
theorem gcdI_le {a b : Int} (ha : 1 ≤ a) : gcdI a b ≤ a:=by
 unfold gcdI;have : Nat.gcd a.toNat b.toNat ≤ a.toNat:=Nat.gcd_le_left _ (by omega);omega
theorem mstep_bd {n : Int} {s : St} (h1 : 1 ≤ n) (h2 : n ≤ 1000000000000000) (hs1 : 1 ≤ s.2.1) (hs2 : s.2.1 ≤ 1001000) : 1 ≤ mstep n s ∧ mstep n s ≤ 1000000000000000:=by
 unfold mstep
 split
 ·rename_i hn
  have g1:=gcdI_pos (b:=s.2.1) h1;have g2:=gcdI_le (b:=s.2.1) h1
  have q1 : 1 ≤ n / gcdI n s.2.1:=by
   rw [Int.le_ediv_iff_mul_le (by omega)]; omega
  have q2 : n / gcdI n s.2.1 ≤ n:=Int.ediv_le_self _ (by omega);have m1 : 1 * 1 ≤ n / gcdI n s.2.1 * s.2.1:=Int.mul_le_mul q1 hs1 (by omega) (by omega);have m2 : n / gcdI n s.2.1 * s.2.1 ≤ 100000000 * 1001000:=Int.mul_le_mul (by omega) hs2 (by omega) (by omega);omega
 ·omega
theorem multK_bd (v : List St) (h : ∀ s ∈ v,1 ≤ s.2.1 ∧ s.2.1 ≤ 1001000) : 1 ≤ multK v ∧ multK v ≤ 1000000000000000:=by
 suffices H : ∀ n : Int,1 ≤ n ∧ n ≤ 1000000000000000 → 1 ≤ v.foldl mstep n ∧ v.foldl mstep n ≤ 1000000000000000 from H 1 (by omega)
 induction v with
 | nil => intro n hn; exact hn
 | cons s v ih =>
  intro n hn;rw [List.foldl_cons];have:=h s (by simp);exact ih (fun q hq => h q (by simp [hq])) _ (mstep_bd hn.1 hn.2 this.1 this.2)
theorem mstep_dvd {n : Int} {s : St} (h1 : 1 ≤ n) (hs1 : 1 ≤ s.2.1) (hle : mstep n s ≤ 100000000) (hn : n ≤ 100000000) : n ∣ mstep n s ∧ s.2.1 ∣ mstep n s ∧ n ≤ mstep n s:=by
 have e : mstep n s = n / gcdI n s.2.1 * s.2.1:=by simp [mstep,hn]
 have hg : gcdI n s.2.1 ∣ n:=by
  unfold gcdI;obtain ⟨m,rfl⟩:=Int.eq_ofNat_of_zero_le (show 0 ≤ n by omega);exact Int.ofNat_dvd.2 (by simpa using Nat.gcd_dvd_left m s.2.1.toNat)
 have hg' : gcdI n s.2.1 ∣ s.2.1:=by
  obtain ⟨m,hm⟩:=Int.eq_ofNat_of_zero_le (show 0 ≤ s.2.1 by omega);unfold gcdI;rw [hm];exact Int.ofNat_dvd.2 (by simpa using Nat.gcd_dvd_right n.toNat m)
 have g1:=gcdI_pos (b:=s.2.1) h1;obtain ⟨q,hq⟩:=hg;obtain ⟨r,hr⟩:=hg';generalize hG : gcdI n s.2.1 = G at *
 have hGq : n / G = q:=by rw [hq,Int.mul_ediv_cancel_left _ (by omega)]
 have em : mstep n s = n * r:=by
  rw [e,hGq,hr];generalize hrr : r = r' at *
  have : q * (G * r') = G * q * r':=by rw [← Int.mul_assoc,Int.mul_comm q G]
  rw [← hr,hr,this,← hq]
 refine ⟨⟨r,em⟩,⟨q,by rw [e,hGq,Int.mul_comm]⟩,?_⟩
 have hr1 : 1 ≤ r:=by
  rcases Int.lt_or_le r 1 with h | h
  ·have : G * r ≤ G * 0:=Int.mul_le_mul_of_nonneg_left (by omega) (by omega)
   omega
  ·exact h
 rw [em];have:=Int.mul_le_mul_of_nonneg_left hr1 (show 0 ≤ n by omega);omega
theorem mstep_mono {n : Int} {s : St} (hn : 100000000 < n) : mstep n s = n:=by simp [mstep]; omega
theorem mult_big (v : List St) : ∀ n : Int,100000000 < n → v.foldl mstep n = n:=by
 induction v with
 | nil => intro n _; rfl
 | cons s v ih => intro n hn; rw [List.foldl_cons,mstep_mono hn]; exact ih n hn
theorem mult_dvd (v : List St) (h : ∀ s ∈ v,1 ≤ s.2.1) (hm : multK v ≤ 100000000) : ∀ s ∈ v,s.2.1 ∣ multK v:=by
 suffices H : ∀ n : Int,1 ≤ n → v.foldl mstep n ≤ 100000000 → n ∣ v.foldl mstep n ∧ ∀ s ∈ v,s.2.1 ∣ v.foldl mstep n from (H 1 (by omega) hm).2
 clear hm
 induction v with
 | nil => intro n _ _; exact ⟨Int.dvd_refl _,by simp⟩
 | cons s v ih =>
  intro n hn hle;rw [List.foldl_cons] at hle ⊢;have hs:=h s (by simp);rcases Int.lt_or_le 100000000 n with hb | hb
  ·rw [mstep_mono hb,mult_big v n hb] at hle; omega
  ·rcases Int.lt_or_le 100000000 (mstep n s) with hc | hc
   ·rw [mult_big v _ hc] at hle; omega
   ·obtain ⟨d1,d2,d3⟩:=mstep_dvd hn hs hc hb
    obtain ⟨i1,i2⟩:=ih (fun q hq => h q (by simp [hq])) (mstep n s) (by omega) hle;refine ⟨Int.dvd_trans d1 i1,fun q hq => ?_⟩;rcases List.mem_cons.1 hq with rfl | hq
    ·exact Int.dvd_trans d2 i1
    ·exact i2 q hq

structure Good (v : List St) : Prop where
  len : v.length ≤ 500
  pos : ∀ s ∈ v, 1 ≤ s.1 ∧ s.1 ≤ 10000000
  form : ∀ s ∈ v, 1 ≤ s.2.2 ∧ s.2.2 ≤ 1001 ∧ s.2.2 ≤ s.2.1 ∧ s.2.1 ≤ 1001000
  sum : fsum v ≤ 10000000
  mul : multK v ≤ 100000000
def longM (m : Int) (s : St) : Int:=s.2.2 * (m / s.2.1)
theorem longM_bd {m : Int} {s : St} (hm : 1 ≤ m) (hm' : m ≤ 100000000) (h1 : 1 ≤ s.2.2) (h2 : s.2.2 ≤ s.2.1) (hd : s.2.1 ∣ m) : 1 ≤ longM m s ∧ longM m s ≤ m:=by
 unfold longM;obtain ⟨q,rfl⟩:=hd
 have hq : 1 ≤ q:=by
  rcases Int.lt_or_le q 1 with h | h
  ·have : s.2.1 * q ≤ s.2.1 * 0:=Int.mul_le_mul_of_nonneg_left (by omega) (by omega)
   omega
  ·exact h
 rw [Int.mul_ediv_cancel_left _ (by omega)];have a1 : 1 * 1 ≤ s.2.2 * q:=Int.mul_le_mul h1 hq (by omega) (by omega);have a2 : s.2.2 * q ≤ s.2.1 * q:=Int.mul_le_mul_of_nonneg_right h2 (by omega);omega
theorem Good.mbd {v : List St} (h : Good v) : 1 ≤ multK v:=(multK_bd v fun s hs => by have:=h.form s hs; omega).1
theorem Good.long {v : List St} (h : Good v) (s : St) (hs : s ∈ v) : 1 ≤ longM (multK v) s ∧ longM (multK v) s ≤ multK v:=by
 have hf:=h.form s hs;exact longM_bd h.mbd h.mul hf.1 hf.2.2.1 (mult_dvd v (fun q hq => by have:=h.form q hq; omega) h.mul s hs)
end Go.Proofs.YtjggbpchmbdocaaGreatDoor
