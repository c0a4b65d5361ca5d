/- Texts of this seat, laid together: Bld. -/
import Derived.Shelf.Strings.Builder1
import Derived.Lib.AppendStr
import Derived.Handy
import Derived.Test.YtijdbbnnkogkjaaGreatDoorBn12
import Derived.Test.YtijdbbnnkogkjaaGreatDoorBn18
import Derived.Test.YtijdbbnnkogkjaaGreatDoorBn02
import Derived.Test.YtijdbbnnkogkjaaGreatDoorBn04
/- strings.Builder as a row of bytes: what copyCheck, WriteString, Len and String do with one of the call's own. -/
namespace Go.Proofs.YtijdbbnnkogkjaaGreatDoor
set_option linter.unusedVariables false
set_option linter.unusedSimpArgs false
open Go.RowKit Go.Sort

def Bld (w : World) (B b : Nat) (l : List UInt8) : Prop:=Lib.IsBuilder 106 5 B b (Lib.byteCells l) w
theorem byteCells_len (l : List UInt8) : (Lib.byteCells l).length = l.length:=by simp [Lib.byteCells]
theorem byteCells_app (a b : List UInt8) : Lib.byteCells (a ++ b) = Lib.byteCells a ++ Lib.byteCells b:=by simp [Lib.byteCells]
theorem strCells_eq (s : List UInt8) : Lib.strCells ⟨s.toArray⟩ = Lib.byteCells s:=by
 simp [Lib.strCells,Lib.byteCells]
theorem Bld.lt {w : World} {B b : Nat} {l : List UInt8} (h : Bld w B b l) : b < w.heap.size:=by
 rcases h with h | h
 ·exact Lib.BuilderAt.lt h
 ·exact Lib.BuilderAt.lt h
theorem Bld.ge {w : World} {B b : Nat} {l : List UInt8} (h : Bld w B b l) : B ≤ b:=by
 rcases h with h | h
 ·exact h.1
 ·exact h.1
theorem builderAt_below {T e : TypeId} {B b : Nat} {p : Value} {bs : List Value} {w w' : World} (h : Lib.BuilderAt T e B b p bs w) (hb : Below w.heap.size w w') : Lib.BuilderAt T e B b p bs w':=by
 have hlt:=Lib.BuilderAt.lt h
 obtain ⟨hB,v,hbk,hown,hne⟩:=h
 exact ⟨hB,v,(hb.block b hlt).trans hbk,own_keep hown hb,hne⟩
theorem Bld.below {w w' : World} {B b : Nat} {l : List UInt8} (h : Bld w B b l) (hb : Below w.heap.size w w') : Bld w' B b l:=by
 rcases h with h | h
 ·exact .inl (builderAt_below h hb)
 ·exact .inr (builderAt_below h hb)
theorem Bld.alloc {w : World} {B b : Nat} {l : List UInt8} (h : Bld w B b l) (o : Obj) : Bld (w.alloc o) B b l:=h.below ((Below.refl _ _).alloc (Nat.le_refl _) o)
theorem Bld.new (w : World) (B : Nat) (hB : B ≤ w.heap.size) : Bld (w.alloc (.cells #[.pointer none,.slice none 0 0] 106)) B w.heap.size [] :=
 .inl ⟨hB,.slice none 0 0,heap_alloc_new w _,⟨rfl,.inl ⟨rfl,rfl⟩⟩,by simp [Value.ownBlock]⟩

structure Wrote (b : Nat) (w w' : World) : Prop where
  os : w'.os = w.os
  tape : w'.tape = w.tape
  output : w'.output = w.output
  size : w.heap.size ≤ w'.heap.size
  block : ∀ k, k < w.heap.size → k ≠ b → (∀ cs f, w.heap[k]? ≠ some (.cells cs 5 f)) → w'.heap[k]? = w.heap[k]?
theorem Blk.wrote {w w' : World} {b g : Nat} {t : TypeId} {cs : Array Value} (h : Blk w g t cs) (hw : Wrote b w w') (hb : g ≠ b) (ht : t ≠ 5) : Blk w' g t cs :=
 (hw.block g h.lt hb (fun cs' f e => by
  have h' : w.heap[g]? = some (.cells cs t (0,0)):=h
  rw [h'] at e; injection e with e; injection e with _ e2 _; exact ht e2)).trans h
theorem bldSize : (Tryz.prog.info? 106).map (·.size) = some 2:=by kernel_rfl
theorem bldLies : liesAt Tryz.prog Tryz.prog.depth 106 (2 / Tryz.prog.cellsOf 106) 0 106 1 = true:=by kernel_rfl
theorem byteInfo : (Tryz.prog.info? 5).map (fun i => (i.zero,i.size,i.bytes)) = some (some (.int .u8 0),1,1):=by kernel_rfl

set_option maxHeartbeats 1000000 in
set_option maxRecDepth 100000 in
theorem copyCheck_used (b : Nat) (w : World) (h0 : w.cell? ⟨b,0,none⟩ = some (.pointer (some ⟨b,0,none⟩))) :
  Calls Tryz.prog 113 #[.pointer (some ⟨b,0,none⟩)] w fun e w' => e = .returned (.tuple #[]) ∧ w' = w:=by
 obtain ⟨j,hj,_⟩:=Option.map_eq_some_iff.1 bldSize
 go_enter Tryz.func113,Tryz.ntmps113
 go_wp2
 rw [Lib.run_neq_ptr_same w _ Tryz.underlying103 hj]
 go_wp2
 go_end0
 exact ⟨rfl,rfl⟩

set_option maxHeartbeats 1000000 in
set_option maxRecDepth 100000 in
theorem copyCheck_fresh (b : Nat) (w : World) (h0 : w.cell? ⟨b,0,none⟩ = some (.pointer none)) (hsh : w.shape? b = some (106,2)) (hfz : w.frozen? ⟨b,0,none⟩ = false) :
  Calls Tryz.prog 113 #[.pointer (some ⟨b,0,none⟩)] w fun e w' => e = .returned (.tuple #[]) ∧ w' = w.setCell ⟨b,0,none⟩ (.pointer (some ⟨b,0,none⟩)):=by
 obtain ⟨j,hj,hjs⟩:=Option.map_eq_some_iff.1 bldSize
 go_enter Tryz.func113,Tryz.ntmps113
 go_wp2
 rw [Lib.run_to_unsafe w ⟨b,0,none⟩ Tryz.underlying103 Tryz.underlying214 hj (by rw [hjs]; decide) hsh (Nat.zero_lt_succ 1)]
 simp only [Result.andThen]
 rw [Oper.upon_value]
 go_wp2
 rw [run_callFunc_extern Tryz.func150 (by kernel_rfl) (by kernel_rfl) (by kernel_rfl) (e:=Extern.AbiNoEscape.same) (by kernel_rfl)]
 rw [Lib.run_noEscape]
 simp only [Result.andThen]
 rw [Oper.upon_value]
 go_wp2
 rw [Lib.run_from_unsafe w ⟨b,0,none⟩ Tryz.underlying214 Tryz.underlying103 hj hsh bldLies]
 simp only [Result.andThen]
 rw [Oper.upon_value]
 go_wp2
 go_end0
 exact ⟨rfl,rfl⟩

theorem copyCheck_any (B b : Nat) (bs : List Value) (w : World) (h : Lib.IsBuilder 106 5 B b bs w) :
  Calls Tryz.prog 113 #[.pointer (some ⟨b,0,none⟩)] w fun e w' => e = .returned (.tuple #[]) ∧ (Lib.BuilderAt 106 5 B b (.pointer (some ⟨b,0,none⟩)) bs w' ∧ Below B w w' ∧ (w' = w ∨ w' = w.setCell ⟨b,0,none⟩ (.pointer (some ⟨b,0,none⟩)))):=by
 rcases h with h | h
 ·refine (copyCheck_fresh b w h.cell0 h.shape h.frozen0).mono ?_
  rintro e w' ⟨rfl,rfl⟩
  exact ⟨rfl,h.used _,(Below.refl B w).setCell (p:=⟨b,0,none⟩) h.1 _,.inr rfl⟩
 ·refine (copyCheck_used b w h.cell0).mono ?_
  rintro e w' ⟨rfl,rfl⟩
  exact ⟨rfl,h,Below.refl B _,.inl rfl⟩

set_option maxHeartbeats 2000000 in
set_option maxRecDepth 100000 in
theorem write_any (B b : Nat) (l s : List UInt8) (w : World) (h : Bld w B b l) (hlen : l.length + s.length ≤ 140737488355328) (hBw : B ≤ w.heap.size) :
  Calls Tryz.prog 62 #[.pointer (some ⟨b,0,none⟩),encStr s] w fun e w' => e = .returned (.tuple #[.int .i64 s.length,.nilIface]) ∧ Bld w' B b (l ++ s) ∧ Below B w w' ∧ Wrote b w w':=by
 obtain ⟨i0,hi,hz0,hz1,hz2⟩:=info_parts byteInfo
 go_enter Tryz.func62,Tryz.ntmps62
 go_wp2_with fail
 refine (copyCheck_any B b _ _ h).mono ?_
 rintro e w1 ⟨rfl,h1,hb1,hw1⟩
 obtain ⟨hB,v,hbk,hown,hne⟩:=h1
 have HW1 : Hid (w1.heap.size = w.heap.size ∧ ∀ k,k ≠ b → w1.heap[k]? = w.heap[k]?):=Lib.hid (by
  rcases hw1 with rfl | rfl
  ·exact ⟨rfl,fun _ _ => rfl⟩
  ·exact ⟨by simp [World.setCell],fun k hk => Below.heap_setCell _ _ _ _ hk⟩)
 have HOB : Hid (∀ k,v.ownBlock = some k → ∃ cs f,w1.heap[k]? = some (.cells cs 5 f)):=Lib.hid (fun k hk => by
  rcases hown.2 with ⟨hv,_⟩ | ⟨g,cap,cur,hv,_,hh,_⟩
  ·rw [hv] at hk; simp [Value.ownBlock] at hk
  ·rw [hv] at hk
   have : g = k:=by simpa [Value.ownBlock] using hk
   subst this
   exact ⟨_,_,hh⟩)
 clear hw1
 have c0 : w1.cell? ⟨b,0,none⟩ = some (.pointer (some ⟨b,0,none⟩)):=by rw [Lib.cell_of_heap hbk]; rfl
 have c1 : w1.cell? ⟨b,1,none⟩ = some v:=by rw [Lib.cell_of_heap hbk]; rfl
 rw [byteCells_len] at hown
 go_wp2_with (at_builtin; refine Lib.wpList_append_own_string _ rfl _ _ 104 9 rfl B 5 i0 Tryz.underlying104 Tryz.underlying9 hi hz0 hz1 hz2 _ _ _ rfl hown ⟨s.toArray⟩ rfl ?c3 ?c4 ?c5 ?_)
 case c3 => unfold maxLen; show l.length + s.toArray.size ≤ _; rw [List.size_toArray]; omega
 case c4 => show l.length + s.toArray.size ≤ _; rw [List.size_toArray]; omega
 case c5 => have:=hb1.size; omega
 intro v' w2 hown' hgrow _
 have hlt : b < w1.heap.size:=by
  rcases Nat.lt_or_ge b w1.heap.size with h' | h'
  ·exact h'
  ·simp [Array.getElem?_eq_none h'] at hbk
 have hb2 : w2.heap[b]? = some (.cells #[.pointer (some ⟨b,0,none⟩),v] 106 (0,0)):=by
  rw [hgrow.block b hlt (fun e => hne e.symm)]
  exact hbk
 have d0 : w2.cell? ⟨b,0,none⟩ = some (.pointer (some ⟨b,0,none⟩)):=by rw [Lib.cell_of_heap hb2]; rfl
 have d1 : w2.cell? ⟨b,1,none⟩ = some v:=by rw [Lib.cell_of_heap hb2]; rfl
 have f1 : w2.frozen? ⟨b,1,none⟩ = false:=Lib.frozen_of_heap hb2 1
 obtain ⟨ao,n',cap,rfl⟩ : ∃ ao n' cap,v' = .slice ao n' cap:=by
  rcases hown'.2 with ⟨hv,_⟩ | ⟨g,cap,cur,hv,_⟩
  ·exact ⟨_,_,_,hv⟩
  ·exact ⟨_,_,_,hv⟩
 go_wp2
 go_ret2
 refine ⟨rfl,.inr ?_,?_⟩
 ·rw [byteCells_app,← strCells_eq s]
  exact Lib.BuilderAt.put (T:=106) (e:=5) hB hb2 (bs':=Lib.byteCells l ++ Lib.strCells ⟨s.toArray⟩) (by
   have e : (Lib.byteCells l ++ Lib.strCells ⟨s.toArray⟩).length = l.length + (ByteArray.size ⟨s.toArray⟩):=by rw [strCells_eq,List.length_append,byteCells_len,byteCells_len]; rfl
   rw [e]; exact hown') (by decide)
 ·have hbel:=(hb1.grown hgrow (by have:=hb1.size; omega) (fun k hk => (hown.lt k hk).1)).setCell (p:=⟨b,1,none⟩) hB (.slice ao n' cap)
  refine ⟨hbel,hbel.os,hbel.tape,hbel.output,hbel.size,fun k hk hkb hkt => ?_⟩
  rw [Below.heap_setCell _ _ _ _ hkb,hgrow.block k (by rw [HW1.out.1]; exact hk) (fun e => ?_),HW1.out.2 k hkb]
  obtain ⟨cs,f,hc⟩:=HOB.out k e.symm
  rw [HW1.out.2 k hkb] at hc
  exact hkt cs f hc
theorem bldLen_any (B b : Nat) (l : List UInt8) (w : World) (h : Bld w B b l) :
  Calls Tryz.prog 66 #[.pointer (some ⟨b,0,none⟩)] w fun e w' => e = .returned (.int .i64 l.length) ∧ w' = w:=by
 have:=Tryz.Builder_Len B b (Lib.byteCells l) w h
 rw [byteCells_len] at this
 exact this
theorem bldString_any (B b : Nat) (l : List UInt8) (w : World) (h : Bld w B b l) (hB : B ≤ w.heap.size) :
  Calls Tryz.prog 67 #[.pointer (some ⟨b,0,none⟩)] w fun e w' => e = .returned (encStr l) ∧ Below B w w' :=
 Tryz.Builder_String_any B b l w h hB
end Go.Proofs.YtijdbbnnkogkjaaGreatDoor
