/- Texts of this seat, laid together: Wd Ln Eqs. -/
import Derived.Handy
import Derived.Test.YtkchacgkjdeiaaaGreatDoorBf13
import Derived.Test.YtkchacgkjdeiaaaGreatDoorBf14
import Derived.Test.YtkchacgkjdeiaaaGreatDoorBf04
import Derived.Test.YtkchacgkjdeiaaaGreatDoorBf06
import Derived.Test.YtkchacgkjdeiaaaGreatDoorBf05
import Derived.Test.YtkchacgkjdeiaaaGreatDoorBf20
/- Words and lines: the walks of strings.Split at one byte, base.Words, base.Lines. -/
set_option linter.unusedVariables false
set_option linter.unusedSimpArgs false
namespace Go.Proofs.YtkchacgkjdeiaaaGreatDoor
open Go.RowKit Go.Sort

def endsB (s : List UInt8) : Bool:=s.isEmpty || Lib.hasSuffix s [10]
def linesL (s : List UInt8) : List (List UInt8):=if s.isEmpty then [] else cutAt 10 (Lib.trimSuffix s [10])
end Go.Proofs.YtkchacgkjdeiaaaGreatDoor
/- Plain laws on lines; what stays but for some boxes. -/
namespace Go.Proofs.YtkchacgkjdeiaaaGreatDoor
open Go.RowKit Go.Sort

theorem hasSuffix_nl (s : List UInt8) : Lib.hasSuffix s [10] = decide (s.getLast? = some 10):=by
 rcases List.eq_nil_or_concat s with rfl | ⟨a,b,rfl⟩
 ·rfl
 ·rw [List.concat_eq_append]
  unfold Lib.hasSuffix List.isSuffixOf;rw [List.reverse_append,List.getLast?_append];simp only [List.reverse_cons,List.reverse_nil,List.nil_append,List.cons_append,List.isPrefixOf,Bool.and_true,List.getLast?_singleton,Option.some_or];rw [Bool.eq_iff_iff];simp only [beq_iff_eq,decide_eq_true_eq,Option.some.injEq];exact eq_comm
theorem endsB_eq (s : List UInt8) : endsB s = (s.isEmpty || decide (s.getLast? = some 10)):=by unfold endsB; rw [hasSuffix_nl]
theorem trimNl_yes (a : List UInt8) : Lib.trimSuffix (a ++ [10]) [10] = a:=by
 unfold Lib.trimSuffix;rw [hasSuffix_nl,if_pos (by simp)]
 simp
theorem trimNl_no {s : List UInt8} (h : s.getLast? ≠ some 10) : Lib.trimSuffix s [10] = s:=by
 unfold Lib.trimSuffix;rw [hasSuffix_nl,if_neg (by simpa using h)]
theorem lines_cons (a r : List UInt8) (h : (10 : UInt8) ∉ a) : linesL (a ++ 10 :: r) = a :: linesL r ∧ endsB (a ++ 10 :: r) = endsB r:=by
 have hne : (a ++ 10 :: r).isEmpty = false:=by cases a <;> rfl
 rcases List.eq_nil_or_concat r with rfl | ⟨q,b,rfl⟩
 ·constructor
  ·unfold linesL
   rw [hne,if_neg (by decide),trimNl_yes a,cutAt_none 10 a h]; rfl
  ·rw [endsB_eq,endsB_eq]; simp
 ·rw [List.concat_eq_append] at *
  have hr : (q ++ [b]).isEmpty = false:=by cases q <;> rfl
  have hl : (a ++ 10 :: (q ++ [b])).getLast? = some b:=by
   rw [show a ++ 10 :: (q ++ [b]) = (a ++ 10 :: q) ++ [b] by simp,List.getLast?_append]; rfl
  have hl2 : (q ++ [b]).getLast? = some b:=by rw [List.getLast?_append]; rfl
  constructor
  ·unfold linesL
   rw [hne,hr,if_neg (by decide),if_neg (by decide)]
   by_cases hb : b = 10
   ·subst hb
    rw [show a ++ 10 :: (q ++ [10]) = (a ++ 10 :: q) ++ [10] by simp,trimNl_yes,trimNl_yes,cutAt_first 10 a q h]
   ·rw [trimNl_no (by rw [hl]; simpa using hb),trimNl_no (by rw [hl2]; simpa using hb),cutAt_first 10 a _ h]
  ·rw [endsB_eq,endsB_eq,hl,hl2,hne,hr]
theorem lines_last (u : List UInt8) (h : (10 : UInt8) ∉ u) (hne : u ≠ []) : linesL u = [u] ∧ endsB u = false:=by
 have hi : u.isEmpty = false:=by cases u <;> simp_all
 have hl : u.getLast? ≠ some 10:=fun e => h (List.mem_of_getLast? e)
 constructor
 ·unfold linesL
  rw [hi,if_neg (by decide),trimNl_no hl,cutAt_none 10 u h]
 ·rw [endsB_eq,hi,decide_eq_false hl]; rfl
theorem linesL_nil : linesL [] = []:=rfl
theorem linesL_ne {u : List UInt8} (h : u ≠ []) : linesL u ≠ []:=by
 rcases split_first 10 u with hn | ⟨a,l,rfl,hn⟩
 ·rw [(lines_last u hn h).1]; simp
 ·rw [(lines_cons a l hn).1]; simp
structure RestL (t : List UInt8) (k : Nat) (u : List UInt8) : Prop where
  le : k ≤ (linesL t).length
  ls : linesL u = (linesL t).drop k
  en : endsB u = endsB t
theorem RestL.start (t : List UInt8) : RestL t 0 t:=⟨Nat.zero_le _,rfl,rfl⟩
def badL (t : List UInt8) (ok : Nat → Bool) (k : Nat) : Bool:=(!endsB t && decide (k + 1 = (linesL t).length)) || !ok k
theorem RestL.next {t : List UInt8} {k : Nat} {a r : List UInt8} (h : RestL t k (a ++ 10 :: r)) (ha : (10 : UInt8) ∉ a) (ok : Nat → Bool) : ∃ hk : k < (linesL t).length,(linesL t)[k] = a ∧ RestL t (k + 1) r ∧ badL t ok k = !ok k:=by
 obtain ⟨e1,e2⟩:=lines_cons a r ha;have hd:=h.ls;rw [e1] at hd
 have hk : k < (linesL t).length:=by
  rcases Nat.lt_or_ge k (linesL t).length with h' | h'
  ·exact h'
  ·rw [List.drop_eq_nil_of_le h'] at hd; cases hd
 rw [List.drop_eq_getElem_cons hk] at hd;injection hd with h1 h2;refine ⟨hk,h1.symm,⟨hk,h2,by rw [← h.en,e2]⟩,?_⟩;unfold badL
 have : (!endsB t && decide (k + 1 = (linesL t).length)) = false:=by
  cases he : endsB t
  ·have hr : r ≠ []:=by
    rintro rfl;rw [← h.en,e2] at he; cases he
   have h3:=linesL_ne hr;rw [h2] at h3
   have : k + 1 < (linesL t).length:=by
    rcases Nat.lt_or_ge (k + 1) (linesL t).length with h' | h'
    ·exact h'
    ·rw [List.drop_eq_nil_of_le h'] at h3; exact absurd rfl h3
   rw [decide_eq_false (by omega)]; rfl
  ·rfl
 rw [this,Bool.false_or]
theorem RestL.last {t : List UInt8} {k : Nat} {u : List UInt8} (h : RestL t k u) (hu : (10 : UInt8) ∉ u) (hne : u ≠ []) (ok : Nat → Bool) : k < (linesL t).length ∧ badL t ok k = true:=by
 obtain ⟨e1,e2⟩:=lines_last u hu hne;have hd:=h.ls;rw [e1] at hd;have hl:=congrArg List.length hd;simp only [List.length_cons,List.length_nil,List.length_drop] at hl;refine ⟨by omega,?_⟩;unfold badL;rw [← h.en,e2,decide_eq_true (by omega)]; rfl
theorem RestL.nil {t : List UInt8} {k : Nat} (h : RestL t k []) : k = (linesL t).length:=by
 have:=congrArg List.length h.ls;rw [linesL_nil,List.length_drop] at this;have:=h.le
 simp at *; omega
structure Stays (L : Nat) (bs : List Nat) (w w' : World) : Prop where
  os : w'.os = w.os
  tape : w'.tape = w.tape
  output : w'.output = w.output
  size : w.heap.size ≤ w'.heap.size
  block : ∀ k, k < L → k ∉ bs → w'.heap[k]? = w.heap[k]?
theorem Stays.refl (L : Nat) (bs : List Nat) (w : World) : Stays L bs w w:=⟨rfl,rfl,rfl,Nat.le_refl _,fun _ _ _ => rfl⟩
theorem Stays.trans {L : Nat} {bs : List Nat} {a b c : World} (h : Stays L bs a b) (k : Stays L bs b c) : Stays L bs a c :=
 ⟨k.os.trans h.os,k.tape.trans h.tape,k.output.trans h.output,Nat.le_trans h.size k.size,fun i h1 h2 => (k.block i h1 h2).trans (h.block i h1 h2)⟩
theorem Stays.of_below {L : Nat} {bs : List Nat} {a b : World} {B : Nat} (h : Below B a b) (hB : L ≤ B) : Stays L bs a b :=
 ⟨h.os,h.tape,h.output,h.size,fun k h1 _ => h.block k (by omega)⟩
theorem Stays.weak {L L' : Nat} {bs : List Nat} {a b : World} (h : Stays L bs a b) (hl : L' ≤ L) : Stays L' bs a b :=
 ⟨h.os,h.tape,h.output,h.size,fun k h1 h2 => h.block k (by omega) h2⟩
theorem Stays.below {L B : Nat} {bs : List Nat} {a b : World} (h : Stays L bs a b) (hB : B ≤ L) (hb : ∀ x ∈ bs,B ≤ x) : Below B a b :=
 ⟨h.os,h.tape,h.output,h.size,fun k hk => h.block k (by omega) (fun hm => by have:=hb k hm; omega)⟩
theorem Stays.set {L : Nat} {bs : List Nat} {a b : World} (h : Stays L bs a b) {p : Addr} (hp : p.block ∈ bs ∨ L ≤ p.block) (u : Value) : Stays L bs a (b.setCell p u) :=
 ⟨h.os,h.tape,h.output,by simpa [World.setCell] using h.size,fun k h1 h2 => (Below.heap_setCell b p u k (by rintro rfl; rcases hp with hp | hp; exact h2 hp; omega)).trans (h.block k h1 h2)⟩
theorem Stays.grown {L : Nat} {bs : List Nat} {a b c : World} {row : Option Nat} (h : Stays L bs a b) (hg : b.grownBy c row) (hs : L ≤ b.heap.size) (hr : ∀ k,row = some k → L ≤ k) : Stays L bs a c :=
 ⟨hg.os.trans h.os,hg.tape.trans h.tape,hg.output.trans h.output,Nat.le_trans h.size hg.size,fun k h1 h2 => (hg.block k (by omega) (fun e => by have:=hr k e.symm; omega)).trans (h.block k h1 h2)⟩
theorem Stays.alloc {L : Nat} {bs : List Nat} {a b : World} (h : Stays L bs a b) (hs : L ≤ b.heap.size) (o : Obj) : Stays L bs a (b.alloc o):=h.trans (Stays.of_below ((Below.refl _ _).alloc (Nat.le_refl _) o) hs)
theorem Row.stays {w w' : World} {lo size n : Nat} {A : Option Addr} {xs : List Value} {L : Nat} {bs : List Nat} (h : Row w lo size A n xs) (hx : Stays L bs w w') (hL : w.heap.size ≤ L) (hb : ∀ x ∈ bs,x < lo) : Row w' lo size A n xs :=
 h.keep hx.size fun b h1 h2 => hx.block b (by omega) (fun hm => by have:=hb b hm; omega)
def EnvB (B : Nat) (w : World) : Prop:=∀ W,Below B w W → Env W
theorem EnvB.below {B : Nat} {w w' : World} (h : EnvB B w) (hb : Below B w w') : EnvB B w':=fun W k => h W (hb.trans k)
theorem EnvB.of {w : World} (h : Env w) : EnvB w.heap.size w:=fun _ hb => h.below hb
theorem EnvB.from {w w' : World} (h : Env w) (hb : Below w.heap.size w w') : EnvB w.heap.size w':=(EnvB.of h).below hb
theorem EnvB.stays {B L : Nat} {bs : List Nat} {w w' : World} (h : EnvB B w) (hx : Stays L bs w w') (hB : B ≤ L) (hb : ∀ x ∈ bs,B ≤ x) : EnvB B w':=h.below (hx.below hB hb)
end Go.Proofs.YtkchacgkjdeiaaaGreatDoor
/- The walks of slices.Equal and slices.Clone over strings. -/
namespace Go.Proofs.YtkchacgkjdeiaaaGreatDoor
open Go.RowKit Go.Sort

end Go.Proofs.YtkchacgkjdeiaaaGreatDoor
