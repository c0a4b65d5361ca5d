/- Texts of this seat, laid together: Tab Env Bld Ito Nt. -/
import Derived.Lib.ItoaMem
import Derived.Test.YtjggbpchmbdocaaGreatDoorProg
import Derived.Shelf.Strings.Builder1
import Derived.Lib.AppendStr
import Derived.Handy
import Derived.Lib.Join
import Derived.Test.YtjggbpchmbdocaaGreatDoorBt00
import Derived.Test.YtjggbpchmbdocaaGreatDoorBt03
import Derived.Test.YtjggbpchmbdocaaGreatDoorBt14
import Derived.Test.YtjggbpchmbdocaaGreatDoorBt02
import Derived.Test.YtjggbpchmbdocaaGreatDoorBt23
/- A table that the library's text lays outlives what a call makes. -/
set_option linter.unusedVariables false
set_option linter.unusedSimpArgs false
namespace Go.Proofs.YtjggbpchmbdocaaGreatDoor
open Go.RowKit

theorem tab_below {P : Program} {w w' : World} {name : String} {k : IntKind} {zs : List Int} (h : Lib.TabIs P w name k zs) (hb : Below w.heap.size w w') : Lib.TabIs P w' name k zs:=by
 unfold Lib.TabIs World.var? at *
 cases hg : P.globalNamed name with
 | none => simp [hg] at h
 | some g =>
  simp only [hg,Option.bind_some] at h ⊢
  have hlt : g < w.heap.size:=by
   rcases Nat.lt_or_ge g w.heap.size with h' | h'
   ·exact h'
   ·rw [Array.getElem?_eq_none h'] at h; simp at h
  rw [hb.block g hlt];exact h
def Pow (w : World) : Prop := Lib.TabIs Tryz.prog w "internal/strconv.uint64pow10" .u64 Lib.pow10Tab
theorem Pow.below {w w' : World} (h : Pow w) (hb : Below w.heap.size w w') : Pow w':=tab_below h hb
theorem Pow.alloc {w : World} (h : Pow w) (o : Obj) : Pow (w.alloc o):=h.below ((Below.refl _ _).alloc (Nat.le_refl _) o)
end Go.Proofs.YtjggbpchmbdocaaGreatDoor
/- What the library's text lays and its functions read: the powers of ten, and how long a needle the machine's search takes. -/
namespace Go.Proofs.YtjggbpchmbdocaaGreatDoor
open Go.RowKit

def MaxL (w : World) : Prop:=∃ m,w.cell? ⟨0,0,none⟩ = some (.int .i64 m)
theorem MaxL.below {w w' : World} (h : MaxL w) (hb : Below w.heap.size w w') : MaxL w':=by
 obtain ⟨m,hm⟩:=h;exact ⟨m,(hb.cell (p:=⟨0,0,none⟩) (World.block_lt_of_cell? w ⟨0,0,none⟩ hm)).trans hm⟩
def Env (w : World) : Prop:=Pow w ∧ MaxL w
theorem Env.below {w w' : World} (h : Env w) (hb : Below w.heap.size w w') : Env w':=⟨h.1.below hb,h.2.below hb⟩
theorem Env.alloc {w : World} (h : Env w) (o : Obj) : Env (w.alloc o):=h.below ((Below.refl _ _).alloc (Nat.le_refl _) o)
end Go.Proofs.YtjggbpchmbdocaaGreatDoor
/- strings.Builder as a row of bytes: what copyCheck, WriteString, Len and String do with one of the call's own. -/
namespace Go.Proofs.YtjggbpchmbdocaaGreatDoor
open Go.RowKit Go.Sort

def Bld (w : World) (B b : Nat) (l : List UInt8) : Prop:=Lib.IsBuilder 206 5 B b (Lib.byteCells l) w
theorem Bld.lt {w : World} {B b : Nat} {l : List UInt8} (h : Bld w B b l) : b < w.heap.size:=by
 rcases h with h | h
 ·exact Lib.BuilderAt.lt h
 ·exact Lib.BuilderAt.lt h
theorem Bld.ge {w : World} {B b : Nat} {l : List UInt8} (h : Bld w B b l) : B ≤ b:=by
 rcases h with h | h
 ·exact h.1
 ·exact h.1
theorem builderAt_below {T e : TypeId} {B b : Nat} {p : Value} {bs : List Value} {w w' : World} (h : Lib.BuilderAt T e B b p bs w) (hb : Below w.heap.size w w') : Lib.BuilderAt T e B b p bs w':=by
 have hlt:=Lib.BuilderAt.lt h;obtain ⟨hB,v,hbk,hown,hne⟩:=h;exact ⟨hB,v,(hb.block b hlt).trans hbk,own_keep hown hb,hne⟩
theorem Bld.below {w w' : World} {B b : Nat} {l : List UInt8} (h : Bld w B b l) (hb : Below w.heap.size w w') : Bld w' B b l:=by
 rcases h with h | h
 ·exact .inl (builderAt_below h hb)
 ·exact .inr (builderAt_below h hb)
theorem Bld.alloc {w : World} {B b : Nat} {l : List UInt8} (h : Bld w B b l) (o : Obj) : Bld (w.alloc o) B b l:=h.below ((Below.refl _ _).alloc (Nat.le_refl _) o)
theorem Bld.new (w : World) (B : Nat) (hB : B ≤ w.heap.size) : Bld (w.alloc (.cells #[.pointer none,.slice none 0 0] 206)) B w.heap.size [] :=
 .inl ⟨hB,.slice none 0 0,heap_alloc_new w _,⟨rfl,.inl ⟨rfl,rfl⟩⟩,by simp [Value.ownBlock]⟩

structure Wrote (b : Nat) (w w' : World) : Prop where
  os : w'.os = w.os
  tape : w'.tape = w.tape
  output : w'.output = w.output
  size : w.heap.size ≤ w'.heap.size
  block : ∀ k, k < w.heap.size → k ≠ b → (∀ cs f, w.heap[k]? ≠ some (.cells cs 5 f)) → w'.heap[k]? = w.heap[k]?
end Go.Proofs.YtjggbpchmbdocaaGreatDoor
/- Itoa, where the table of powers lies. -/
namespace Go.Proofs.YtjggbpchmbdocaaGreatDoor
open Go.RowKit Go.Sort

end Go.Proofs.YtjggbpchmbdocaaGreatDoor
/- Maps as text: their lines; strings.Join of rows; base.Commas, splitref1.commas; the closure that writes a line. -/
namespace Go.Proofs.YtjggbpchmbdocaaGreatDoor
open Go.RowKit Go.Sort

theorem lens_le (l : List (List UInt8)) {M : Nat} (h : ∀ s ∈ l,s.length ≤ M) : Lib.lens l ≤ l.length * M:=by
 induction l with
 | nil => simp [Lib.lens]
 | cons x l ih =>
  have h1:=h x (by simp);have h2:=ih (fun s hs => h s (by simp [hs]));simp only [Lib.lens,List.map_cons,List.sum_cons,List.length_cons] at h2 ⊢;rw [Nat.add_mul];omega
theorem join1_len (l : List (List UInt8)) (c : UInt8) {M : Nat} (h : ∀ s ∈ l,s.length ≤ M) : (Lib.join l [c]).length ≤ l.length * M + l.length:=by
 cases l with
 | nil => simp [Lib.join_nil]
 | cons x l =>
  have:=lens_le (x :: l) h;rw [Lib.join_length];simp only [List.length_cons,List.length_nil] at this ⊢;omega
theorem joinS_any {w : World} {lo : Nat} {A : Option Addr} (c : Nat) (x : UInt8) {l : List (List UInt8)} (hr : Row w lo 1 A l.length (strs l)) (hn : 1 ≤ l.length) (hl : l.length ≤ 1000000) (hc : l.length ≤ c) (hj : (Lib.join l [x]).length ≤ 140737488355328) :
  Calls Tryz.prog 131 #[.slice A l.length c,.string ⟨#[x]⟩] w fun e w' => e = .returned (encStr (Lib.join l [x])) ∧ Below w.heap.size w w':=by
 obtain ⟨b,off,rfl,_,hb,hcell⟩:=hr.2 (by omega)
 have hm : (l.map fun s => (⟨s.toArray⟩ : ByteArray)).map (·.data.toList) = l:=by
  rw [List.map_map]; exact List.map_id' l
 have h:=Tryz.strings_Join b off c (l.map fun s => ⟨s.toArray⟩) ⟨#[x]⟩ w (fun j y hy => by
   rw [List.getElem?_map] at hy
   cases hs : l[j]? with
   | none => rw [hs] at hy; cases hy
   | some s =>
    rw [hs] at hy
    have : y = ⟨s.toArray⟩:=by simpa using hy.symm
    subst this
    exact hcell j _ (by simp [strs,hs])) hb (by simp; omega) (by simpa using hc) (by rw [hm]; exact hj)
 rw [hm,List.length_map] at h;exact h
theorem Wrote.after {b : Nat} {w w1 w2 : World} (hb : Below w.heap.size w w1) (h : Wrote b w1 w2) : Wrote b w w2 :=
 ⟨h.os.trans hb.os,h.tape.trans hb.tape,h.output.trans hb.output,Nat.le_trans hb.size h.size,fun k hk hkb ht => by
  have e : w1.heap[k]? = w.heap[k]?:=hb.block k hk
  rw [h.block k (Nat.lt_of_lt_of_le hk hb.size) hkb (fun cs f => by rw [e]; exact ht cs f),e]⟩
end Go.Proofs.YtjggbpchmbdocaaGreatDoor
