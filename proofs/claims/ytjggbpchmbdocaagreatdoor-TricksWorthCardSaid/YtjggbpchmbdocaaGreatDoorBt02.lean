/- Texts of this seat, laid together: Rep InpB InpC InpD InpE InpF InpG Blk Nest RepF EvA EvB EvC. -/
import Derived.Laws.CopyOwn
import Derived.StillTailTactics
import Derived.Maps.RangeWalk
import Derived.Shelf.Bits.Mul64
import Derived.Test.YtjggbpchmbdocaaGreatDoorBt01
import Derived.Test.YtjggbpchmbdocaaGreatDoorBt00
/- The walk of slices.Repeat at one element: a row of n equal numbers, by doubling copies. -/
set_option linter.unusedVariables false
set_option linter.unusedSimpArgs false
namespace Go.Proofs.YtjggbpchmbdocaaGreatDoor
open Go.RowKit

set_option maxHeartbeats 1000000 in
theorem mul64_one (n : Nat) (hn : n ≤ 1000000000) (w : World) :
  Calls Tryz.prog 214 #[.int .u64 1,.int .u64 n] w fun e w' => e = .returned (.tuple #[.int .u64 0,.int .u64 n]) ∧ w = w':=by
 have h1 : bits .and .u64 (n : Int) 4294967295 = (n : Int):=by rw [Go.Proofs.Mul64.maskN n (by omega)]; omega
 have h2 : bits .and .u64 1 4294967295 = 1:=by decide
 have h3 : (n : Int) / 4294967296 = 0:=by omega
 have h4 : bits .and .u64 0 4294967295 = 0:=by decide
 go_enter Tryz.func214,Tryz.ntmps214
 go_wp2
 go_ret2;exact ⟨rfl,rfl⟩

set_option maxHeartbeats 1000000 in
theorem mul_one' (n : Nat) (hn : n ≤ 1000000000) (w : World) :
  Calls Tryz.prog 189 #[.int .u64 1,.int .u64 n] w fun e w' => e = .returned (.tuple #[.int .u64 0,.int .u64 n]) ∧ w = w':=by
 go_enter Tryz.func189,Tryz.ntmps189
 go_wp2_with fail;refine (mul64_one n hn _).mono ?_;rintro e w' ⟨rfl,rfl⟩;go_wp2_with fail;go_ret2;exact ⟨rfl,rfl⟩

end Go.Proofs.YtjggbpchmbdocaaGreatDoor
/- The walks of what folds and unfolds an input: frames, pieces, what is held in a frame. -/
namespace Go.Proofs.YtjggbpchmbdocaaGreatDoor
open Go.RowKit

end Go.Proofs.YtjggbpchmbdocaaGreatDoor
/- The walks of Tidy, Frames, HeldAt and their references, and of slices' Index, Contains and Equal. -/
namespace Go.Proofs.YtjggbpchmbdocaaGreatDoor
open Go.RowKit

end Go.Proofs.YtjggbpchmbdocaaGreatDoor
/- The walks of HeldAt, spread, holds, Presses and their references, and of slices.Equal over pieces. -/
namespace Go.Proofs.YtjggbpchmbdocaaGreatDoor
open Go.RowKit

def Blk (w : World) (g : Nat) (t : TypeId) (cs : Array Value) : Prop:=w.heap[g]? = some (.cells cs t (0,0))
theorem Blk.lt {w : World} {g : Nat} {t : TypeId} {cs : Array Value} (h : Blk w g t cs) : g < w.heap.size:=(Array.getElem?_eq_some_iff.1 h).1
theorem Blk.cell {w : World} {g : Nat} {t : TypeId} {cs : Array Value} (h : Blk w g t cs) (i : Nat) : w.cell? ⟨g,i,none⟩ = cs[i]?:=cell_of_row w g i cs t (0,0) h
theorem Blk.new (w : World) (t : TypeId) (cs : Array Value) : Blk (w.alloc (.cells cs t)) w.heap.size t cs:=heap_alloc_new w _
theorem Blk.alloc {w : World} {g : Nat} {t : TypeId} {cs : Array Value} (h : Blk w g t cs) (o : Obj) : Blk (w.alloc o) g t cs:=(Below.heap_alloc w o g h.lt).trans h
theorem Blk.drewN {w : World} {g : Nat} {t : TypeId} {cs : Array Value} (h : Blk w g t cs) (q : Nat) : Blk (w.drewN q) g t cs:=h
theorem Blk.drew {w : World} {g : Nat} {t : TypeId} {cs : Array Value} (h : Blk w g t cs) : Blk w.drew g t cs:=h
theorem Blk.below {w w' : World} {g : Nat} {t : TypeId} {cs : Array Value} (h : Blk w g t cs) (hb : Below w.heap.size w w') : Blk w' g t cs:=(hb.block g h.lt).trans h
theorem Blk.app {w1 w2 : World} {g base n size : Nat} {t e : TypeId} {cs : Array Value} {v : Value} {xs : List Value} (hown : w1.ownsRow base e size v n xs) (h : Blk w1 g t cs) (hg : w1.grownBy w2 v.ownBlock) (hne : e ≠ t) : Blk w2 g t cs:=by
 refine (hg.block g h.lt ?_).trans h;rcases hown.2 with ⟨rfl,_⟩ | ⟨g',cap,cur,rfl,_,hh,_⟩
 ·simp [Value.ownBlock]
 ·intro he
  have : g = g':=by simpa [Value.ownBlock] using he
  subst this;unfold Blk at h;rw [hh] at h;injection h with h;injection h with _ h1;exact hne h1

end Go.Proofs.YtjggbpchmbdocaaGreatDoor
/- The walks of holds, Presses and their references, and of slices.Equal over pieces. -/
namespace Go.Proofs.YtjggbpchmbdocaaGreatDoor
open Go.RowKit

end Go.Proofs.YtjggbpchmbdocaaGreatDoor
/- The walks of slices.Equal over pieces, and of the law's own small test. -/
namespace Go.Proofs.YtjggbpchmbdocaaGreatDoor
open Go.RowKit

end Go.Proofs.YtjggbpchmbdocaaGreatDoor
/- The walks of First, Or, when, part, Cut and CutOf. -/
namespace Go.Proofs.YtjggbpchmbdocaaGreatDoor
open Go.RowKit

theorem take_zero_snoc {l : List Int} {k : Nat} (h : ∀ y ∈ l.take k,y = 0) (hk : k < l.length) (hv : l[k] = 0) : ∀ y ∈ l.take (k + 1),y = 0:=by
 intro y hy;rw [List.take_succ_eq_append_getElem hk] at hy;rcases List.mem_append.1 hy with h1 | h1
 ·exact h y h1
 ·simp at h1; subst h1; exact hv

set_option maxHeartbeats 400000 in
theorem first_any (A : Option Addr) (c lo : Nat) (l : List Int) (w : World) (hr : Row w lo 1 A l.length (ints l)) (hl : l.length ≤ 1000000000) :
  Calls Tryz.prog 188 #[.slice A l.length c] w fun e w' => e = .returned (.int .i64 (firstE l)) ∧ w = w':=by
 go_enter Tryz.func188,Tryz.ntmps188
 go_wp2_with fail
 go_loop [7] (fun i => ∃ k : Nat,k ≤ l.length ∧ i = .int .i64 k ∧ Hid (∀ y ∈ l.take k,y = 0)) (fun i => l.length - (intOf i).toNat)
 case atStart => exact ⟨0,Nat.zero_le _,rfl,Lib.hid (by simp)⟩
 case round =>
  obtain ⟨k,hk,rfl,hno⟩:=hrel
  by_cases hlt : k < l.length
  ·obtain ⟨b,off,rfl,_,hbs,c0⟩:=hr.int_at hlt
   by_cases he : l[k] = 0
   ·have he' : (l[k] != 0) = false:=by simpa using he
    have HN:=Lib.hid (take_zero_snoc hno.out hlt he);clear he;go_wp2_with fail;go_round
    case rel => exact ⟨k + 1,by omega,by go_num,HN⟩
    case measure => simp [intOf]; omega
   ·have he' : (l[k] != 0) = true:=by simpa using he
    have HV:=Lib.hid (firstE_hit l k hlt hno.out he);clear he;go_wp2_with fail;go_ret;exact ⟨ret_int' HV.out.symm,rfl⟩
  ·have HV:=Lib.hid (firstE_none l (by have:=hno.out; rwa [List.take_of_length_le (by omega)] at this))
   go_wp2_with fail;go_ret;exact ⟨ret_int' HV.out.symm,rfl⟩

set_option maxHeartbeats 400000 in
theorem or_any (A : Option Addr) (c lo : Nat) (l : List Int) (w : World) (hr : Row w lo 1 A l.length (ints l)) (hl : l.length ≤ 1000000000) :
  Calls Tryz.prog 20 #[.slice A l.length c] w fun e w' => e = .returned (.int .i64 (firstE l)) ∧ w = w':=by
 go_enter Tryz.func20,Tryz.ntmps20
 go_wp2_with fail
 go_loop [8] (fun i => ∃ k : Nat,k ≤ l.length ∧ i = .int .i64 k ∧ Hid (∀ y ∈ l.take k,y = 0)) (fun i => l.length - (intOf i).toNat)
 case atStart => exact ⟨0,Nat.zero_le _,rfl,Lib.hid (by simp)⟩
 case round =>
  obtain ⟨k,hk,rfl,hno⟩:=hrel
  by_cases hlt : k < l.length
  ·obtain ⟨b,off,rfl,_,hbs,c0⟩:=hr.int_at hlt
   by_cases he : l[k] = 0
   ·have he' : (l[k] != 0) = false:=by simpa using he
    have HN:=Lib.hid (take_zero_snoc hno.out hlt he);clear he;go_wp2_with fail;go_round
    case rel => exact ⟨k + 1,by omega,by go_num,HN⟩
    case measure => simp [intOf]; omega
   ·have he' : (l[k] != 0) = true:=by simpa using he
    have HV:=Lib.hid (firstE_hit l k hlt hno.out he);clear he;go_wp2_with fail;go_ret;exact ⟨ret_int' HV.out.symm,rfl⟩
  ·have HV:=Lib.hid (firstE_none l (by have:=hno.out; rwa [List.take_of_length_le (by omega)] at this))
   go_wp2_with fail;go_ret;exact ⟨ret_int' HV.out.symm,rfl⟩

end Go.Proofs.YtjggbpchmbdocaaGreatDoor
/- Small laws of a block that is known whole. -/
namespace Go.Proofs.YtjggbpchmbdocaaGreatDoor
open Go.RowKit

theorem Blk.thaw {w : World} {g : Nat} {t : TypeId} {cs : Array Value} (h : Blk w g t cs) (i : Nat) : w.frozen? ⟨g,i,none⟩ = false:=by
 have h' : w.heap[g]? = some (.cells cs t (0,0)):=h
 simp [World.frozen?,h']
theorem Blk.poke {w : World} {g : Nat} {t : TypeId} {cs : Array Value} (h : Blk w g t cs) (i : Nat) (u : Value) : Blk (w.setCell ⟨g,i,none⟩ u) g t (cs.setIfInBounds i u):=by
 have h' : w.heap[g]? = some (.cells cs t (0,0)):=h;unfold Blk
 simp [World.setCell,Array.getElem?_modify,h']
theorem Blk.past {w : World} {g : Nat} {t : TypeId} {cs : Array Value} (h : Blk w g t cs) (k i : Nat) (u : Value) (hne : g ≠ k) : Blk (w.setCell ⟨k,i,none⟩ u) g t cs:=by
 have h' : w.heap[g]? = some (.cells cs t (0,0)):=h;unfold Blk
 have hne' : ¬ k = g:=fun e => hne e.symm
 simp [World.setCell,Array.getElem?_modify,h',hne']
theorem own_past {w : World} {base size n g : Nat} {e t : TypeId} {v : Value} {xs : List Value} {cs : Array Value} (h : w.ownsRow base e size v n xs) (hb : Blk w g t cs) (hne : e ≠ t) (i : Nat) (u : Value) : (w.setCell ⟨g,i,none⟩ u).ownsRow base e size v n xs:=by
 refine ⟨h.1,?_⟩;rcases h.2 with h0 | ⟨g',cap,cur,hv,hg,hh,h3⟩
 ·exact .inl h0
 ·have hgg : ¬ g = g':=by
   intro e1;subst e1;have h' : w.heap[g]? = some (.cells cs t (0,0)):=hb;rw [h'] at hh;injection hh with hh;injection hh with _ h2;exact hne h2.symm
  exact .inr ⟨g',cap,cur,hv,hg,by simp [World.setCell,Array.getElem?_modify,hgg,hh],h3⟩
end Go.Proofs.YtjggbpchmbdocaaGreatDoor
/- A row of rows of integers, all of the call's own; and what 'make' of a variable size leaves. -/
namespace Go.Proofs.YtjggbpchmbdocaaGreatDoor
open Go.RowKit

structure Nest (tI tS : TypeId) (w : World) (base g : Nat) (rows : List (List Int)) : Prop where
  ne : tI ≠ tS
  has : ∃ cs : Array Value, Blk w g tS cs ∧ (∀ i (h : i < rows.length), ∃ A c, cs[i]? = some (.slice A rows[i].length c) ∧ w.ownsRow base tI 1 (.slice A rows[i].length c) rows[i].length (ints rows[i])) ∧
    (∀ (i j : Nat) (u v : Value) (b : Nat), i < rows.length → j < rows.length → i ≠ j → cs[i]? = some u → cs[j]? = some v → u.ownBlock = some b → v.ownBlock ≠ some b)
section
variable {tI tS : TypeId} {w w' : World} {base g : Nat} {rows : List (List Int)}
theorem Nest.lt (h : Nest tI tS w base g rows) : g < w.heap.size:=by obtain ⟨cs,h1,_⟩:=h.has; exact h1.lt
theorem Nest.below (h : Nest tI tS w base g rows) (hb : Below w.heap.size w w') : Nest tI tS w' base g rows:=by
 obtain ⟨ne,cs,h1,h2,h3⟩:=h;exact ⟨ne,cs,h1.below hb,fun i hi => let ⟨A,c,a,b⟩:=h2 i hi; ⟨A,c,a,own_keep b hb⟩,h3⟩
theorem Nest.alloc (h : Nest tI tS w base g rows) (o : Obj) : Nest tI tS (w.alloc o) base g rows:=h.below ((Below.refl _ _).alloc (Nat.le_refl _) o)
theorem Nest.drewN (h : Nest tI tS w base g rows) (q : Nat) : Nest tI tS (w.drewN q) base g rows:=by
 obtain ⟨ne,cs,h1,h2,h3⟩:=h;exact ⟨ne,cs,h1,fun i hi => let ⟨A,c,a,b⟩:=h2 i hi; ⟨A,c,a,b⟩,h3⟩
theorem Nest.row (h : Nest tI tS w base g rows) {i : Nat} (hi : i < rows.length) : ∃ A c,w.cell? ⟨g,i,none⟩ = some (.slice A rows[i].length c) ∧ w.ownsRow base tI 1 (.slice A rows[i].length c) rows[i].length (ints rows[i]):=by
 obtain ⟨ne,cs,h1,h2,h3⟩:=h;obtain ⟨A,c,a,b⟩:=h2 i hi;exact ⟨A,c,by rw [h1.cell]; exact a,b⟩
theorem Nest.turn (h : Nest tI tS w base g rows) {i : Nat} (hi : i < rows.length) {A : Option Addr} {c : Nat} (hc : w.cell? ⟨g,i,none⟩ = some (.slice A rows[i].length c)) {xs : List Int} (hx : xs.length = rows[i].length)
  (hg : w.grownBy w' (Value.slice A rows[i].length c).ownBlock) (ho : w'.ownsRow base tI 1 (.slice A rows[i].length c) rows[i].length (ints xs)) : Nest tI tS w' base g (rows.set i xs):=by
 obtain ⟨ne,cs,h1,h2,h3⟩:=h;rw [h1.cell] at hc;obtain ⟨A1,c1,a1,b1⟩:=h2 i hi;rw [a1] at hc;injection hc with hc;injection hc with e1 _ e2;subst e1 e2;refine ⟨ne,cs,Blk.app b1 h1 hg ne,fun j hj => ?_,fun i' j' u v b hi' hj' => h3 i' j' u v b (by simpa using hi') (by simpa using hj')⟩
 have hj' : j < rows.length:=by simpa using hj
 by_cases e : i = j
 ·subst e
  have : (rows.set i xs)[i] = xs:=by simp
  rw [this,hx];exact ⟨A1,c1,a1,ho⟩
 ·have : (rows.set i xs)[j] = rows[j]:=by simp [List.getElem_set,e]
  rw [this];obtain ⟨A2,c2,a2,b2⟩:=h2 j hj';refine ⟨A2,c2,a2,b2.kept hg ?_⟩
  cases hv : (Value.slice A2 rows[j].length c2).ownBlock with
  | none => exact .inl rfl
  | some b =>
   right
   intro he;exact h3 i j _ _ b hi hj' e a1 a2 he.symm hv
theorem Nest.push (h : Nest tI tS w base g rows) {i : Nat} (hi : i < rows.length) {A A' : Option Addr} {c c' : Nat} (hc : w.cell? ⟨g,i,none⟩ = some (.slice A rows[i].length c)) {xs : List Int}
  (hg : w.grownBy w' (Value.slice A rows[i].length c).ownBlock) (ho : w'.ownsRow base tI 1 (.slice A' xs.length c') xs.length (ints xs))
  (hb : (Value.slice A' xs.length c').ownBlock = (Value.slice A rows[i].length c).ownBlock ∨ (Value.slice A' xs.length c').ownBlock = some w.heap.size) : Nest tI tS (w'.setCell ⟨g,i,none⟩ (.slice A' xs.length c')) base g (rows.set i xs):=by
 obtain ⟨ne,cs,h1,h2,h3⟩:=h;rw [h1.cell] at hc;obtain ⟨A1,c1,a1,b1⟩:=h2 i hi;rw [a1] at hc;injection hc with hc;injection hc with e1 _ e2;subst e1 e2;have k1:=Blk.app b1 h1 hg ne;have hs : i < cs.size:=(Array.getElem?_eq_some_iff.1 a1).1
 have hget : ∀ j,(cs.setIfInBounds i (.slice A' xs.length c'))[j]? = if i = j then some (.slice A' xs.length c') else cs[j]?:=by
  intro j;rw [Array.getElem?_setIfInBounds]
  by_cases e : i = j
  ·subst e; simp [hs]
  ·simp [e]
 -- the other rows stand behind other blocks
 have hfar : ∀ j (hj : j < rows.length),i ≠ j → ∀ v b,cs[j]? = some v → v.ownBlock = some b → (Value.slice A' xs.length c').ownBlock ≠ some b:=by
  intro j hj e v b hv hvb hx;rcases hb with hb | hb
  ·rw [hb] at hx
   exact h3 i j _ _ b hi hj e a1 hv hx hvb
  ·rw [hb] at hx
   injection hx with hx;obtain ⟨A2,c2,a2,b2⟩:=h2 j hj;rw [hv] at a2;injection a2 with a2;subst a2;have:=(b2.lt b hvb).2;omega
 refine ⟨ne,_,Blk.poke k1 i _,fun j hj => ?_,fun i' j' u v b hi' hj' hne hu hv hub => ?_⟩
 ·have hj' : j < rows.length:=by simpa using hj
  rw [hget]
  by_cases e : i = j
  ·subst e
   have : (rows.set i xs)[i] = xs:=by simp
   rw [this,if_pos rfl];exact ⟨A',c',rfl,own_past ho k1 ne i _⟩
  ·have : (rows.set i xs)[j] = rows[j]:=by simp [List.getElem_set,e]
   rw [this,if_neg e];obtain ⟨A2,c2,a2,b2⟩:=h2 j hj';refine ⟨A2,c2,a2,own_past (b2.kept hg ?_) k1 ne i _⟩
   cases hv : (Value.slice A2 rows[j].length c2).ownBlock with
   | none => exact .inl rfl
   | some b =>
    right
    intro he;exact h3 i j _ _ b hi hj' e a1 a2 he.symm hv
 ·have hi2 : i' < rows.length:=by simpa using hi'
  have hj2 : j' < rows.length:=by simpa using hj'
  rw [hget] at hu hv
  by_cases e1 : i = i'
  ·subst e1
   rw [if_pos rfl] at hu;injection hu with hu;subst hu;rw [if_neg hne] at hv;intro hvb;exact hfar j' hj2 hne v b hv hvb hub
  ·rw [if_neg e1] at hu
   by_cases e2 : i = j'
   ·subst e2
    rw [if_pos rfl] at hv;injection hv with hv;subst hv;exact hfar i' hi2 e1 u b hu hub
   ·rw [if_neg e2] at hv
    exact h3 i' j' u v b hi2 hj2 hne hu hv hub
theorem Nest.made {n : Nat} (hne : tI ≠ tS) {cs : Array Value} (h : Blk w g tS cs) (hc : ∀ i,i < n → cs[i]? = some (.slice none 0 0)) : Nest tI tS w base g (List.replicate n []):=by
 refine ⟨hne,cs,h,fun i hi => ?_,fun i j u v b hi hj _ hu hv hub => ?_⟩
 ·have hi' : i < n:=by simpa using hi
  have : (List.replicate n ([] : List Int))[i] = []:=by simp
  rw [this];exact ⟨none,0,hc i hi',World.ownsRow_nil _ _ _ _⟩
 ·rw [hc i (by simpa using hi)] at hu
  injection hu with hu;subst hu
  cases hub
structure NestT (tI tS : TypeId) (w : World) (base g : Nat) (rows : List (List Int)) (v : Value) (n : Nat) (xs : List Value) : Prop where
  nest : Nest tI tS w base g rows
  own : w.ownsRow base tI 1 v n xs
  free : ∀ i, i < rows.length → ∀ u, w.cell? ⟨g, i, none⟩ = some u → u.ownBlock = none ∨ u.ownBlock ≠ v.ownBlock
theorem NestT.cellEq {w w' : World} {i : Nat} (h : Nest tI tS w base g rows) (hb : w'.heap[g]? = w.heap[g]?) : w'.cell? ⟨g,i,none⟩ = w.cell? ⟨g,i,none⟩:=World.cell?_of_block (w:=w) hb
theorem NestT.below {v : Value} {n : Nat} {xs : List Value} (h : NestT tI tS w base g rows v n xs) (hb : Below w.heap.size w w') : NestT tI tS w' base g rows v n xs :=
 ⟨h.nest.below hb,own_keep h.own hb,fun i hi u hu => h.free i hi u (by rw [← NestT.cellEq h.nest (hb.block g h.nest.lt)]; exact hu)⟩
theorem NestT.alloc {v : Value} {n : Nat} {xs : List Value} (h : NestT tI tS w base g rows v n xs) (o : Obj) : NestT tI tS (w.alloc o) base g rows v n xs:=h.below ((Below.refl _ _).alloc (Nat.le_refl _) o)
theorem NestT.begin {v : Value} {n : Nat} {xs : List Value} (h : Nest tI tS w base g rows) (hb : Below w.heap.size w w') (ho : w'.ownsRow w.heap.size tI 1 v n xs) (hB : base ≤ w.heap.size) : NestT tI tS w' base g rows v n xs:=by
 refine ⟨h.below hb,own_weak ho hB,fun i hi u hu => ?_⟩;rw [NestT.cellEq h (hb.block g h.lt)] at hu;obtain ⟨A,c,h1,h2⟩:=h.row hi;rw [h1] at hu;injection hu with hu;subst hu
 cases hv : (Value.slice A rows[i].length c).ownBlock with
 | none => exact .inl rfl
 | some b =>
  right
  intro he;have h3:=(h2.lt b hv).2;have h4:=(ho.lt b he.symm).1;omega
theorem Nest.grown_ (h : Nest tI tS w base g rows) {i : Nat} (hi : i < rows.length) {A : Option Addr} {c : Nat} (hc : w.cell? ⟨g,i,none⟩ = some (.slice A rows[i].length c)) (hg : w.grownBy w' (Value.slice A rows[i].length c).ownBlock) : (∃ cs,Blk w' g tS cs) ∧ ∀ j,w'.cell? ⟨g,j,none⟩ = w.cell? ⟨g,j,none⟩:=by
 obtain ⟨ne,cs,h1,h2,h3⟩:=h;rw [h1.cell] at hc;obtain ⟨A1,c1,a1,b1⟩:=h2 i hi;rw [a1] at hc;injection hc with hc;injection hc with e1 _ e2;subst e1 e2;have k1:=Blk.app b1 h1 hg ne;exact ⟨⟨cs,k1⟩,fun j => by rw [k1.cell,h1.cell]⟩
theorem NestT.push {v : Value} {n : Nat} {ys : List Value} (h : NestT tI tS w base g rows v n ys) {i : Nat} (hi : i < rows.length) {A A' : Option Addr} {c c' : Nat} (hc : w.cell? ⟨g,i,none⟩ = some (.slice A rows[i].length c)) {xs : List Int}
  (hg : w.grownBy w' (Value.slice A rows[i].length c).ownBlock) (ho : w'.ownsRow base tI 1 (.slice A' xs.length c') xs.length (ints xs))
  (hb : (Value.slice A' xs.length c').ownBlock = (Value.slice A rows[i].length c).ownBlock ∨ (Value.slice A' xs.length c').ownBlock = some w.heap.size) : NestT tI tS (w'.setCell ⟨g,i,none⟩ (.slice A' xs.length c')) base g (rows.set i xs) v n ys:=by
 obtain ⟨⟨cs,k1⟩,hcell⟩:=h.nest.grown_ hi hc hg
 have hs : i < cs.size:=by
  have e:=hcell i;rw [hc,k1.cell] at e;exact (Array.getElem?_eq_some_iff.1 e).1
 refine ⟨h.nest.push hi hc hg ho hb,own_past (h.own.kept hg ?_) k1 h.nest.ne i _,fun j hj u hu => ?_⟩
 ·rcases h.free i hi _ hc with e | e
  ·rw [e]
   cases v.ownBlock <;> simp
  ·exact .inr (fun e2 => e e2.symm)
 ·have hj' : j < rows.length:=by simpa using hj
  have k2:=Blk.poke k1 i (.slice A' xs.length c');rw [k2.cell,Array.getElem?_setIfInBounds] at hu
  by_cases e : i = j
  ·subst e
   simp only [if_true,if_pos hs] at hu;injection hu with hu;subst hu;rcases hb with hb | hb
   ·rw [hb]; exact h.free i hi _ hc
   ·rw [hb]
    right
    intro he;have:=(h.own.lt _ he.symm).2;omega
  ·rw [if_neg e,← k1.cell,hcell j] at hu
   exact h.free j hj' u hu
theorem Nest.app {e : TypeId} {size n : Nat} {v : Value} {xs : List Value} {b2 : Nat} (h : Nest tI tS w base g rows) (hown : w.ownsRow b2 e size v n xs) (hg : w.grownBy w' v.ownBlock) (he : e ≠ tS) (hlt : ∀ k,v.ownBlock = some k → k < base) : Nest tI tS w' base g rows:=by
 obtain ⟨ne,cs,h1,h2,h3⟩:=h;refine ⟨ne,cs,Blk.app hown h1 hg he,fun i hi => ?_,h3⟩;obtain ⟨A,c,a,b⟩:=h2 i hi;refine ⟨A,c,a,b.kept hg ?_⟩
 cases hv : (Value.slice A rows[i].length c).ownBlock with
 | none => exact .inl rfl
 | some k =>
  right
  intro he;have:=hlt k he.symm;have:=(b.lt k hv).1;omega
end
end Go.Proofs.YtjggbpchmbdocaaGreatDoor
/- copy at elements of more than one cell; the walk of slices.Repeat at one pair of numbers. -/
namespace Go.Proofs.YtjggbpchmbdocaaGreatDoor
open Go.RowKit

theorem run_copy_rowN {P : Program} (w : World) (dT sT ty elem : TypeId) (g o dLen dCap : Nat) (a : Addr) (sLen sCap : Nat) (cur : Array Value) (t : TypeId) (cs : List Value) (size m : Nat)
  (hu : P.underlying dT = some (.slice elem)) (hs : (P.info? elem).map (·.size) = some size)
  (hg : w.heap[g]? = some (.cells cur t (0,0))) (hm : m = Nat.min sLen dLen) (hn : cs.length = m * size)
  (hsrc : ∀ j v,cs[j]? = some v → w.cell? (a.add j) = some v) (hfit : o + cs.length ≤ cur.size) (h1 : ∀ v ∈ cs,v.oneCell' = true) :
  (Builtin.copy_ #[dT,sT] ty #[.slice (some ⟨g,o,none⟩) dLen dCap,.slice (some a) sLen sCap]).run P w =
   .ok (goInt m) (w.setRow g (cur.toList.take o ++ cs ++ cur.toList.drop (o + cs.length)).toArray):=by
 have hl:=run_loadCells_list (P:=P) w a cs hsrc;have hst:=run_storeCells_at P g o t cs 0 cur w hg (by simpa using hfit) h1
 cases hq : P.info? elem with
 | none => simp [hq] at hs
 | some i =>
  have hi : i.size = size:=by simpa [hq] using hs
  rw [hn] at hl;subst hm
  simp [Builtin.copy_,run_underlying hu,Builtin.lenOf,Builtin.firstCells,sizeOf,typeInfo,hq,hi,hl,hst]

theorem wpList_copyN {P : Program} {w : World} {ops : Array Oper} {rest : List Oper} {o : Oper} {a : Act} {Q : Exit → Act → World → Prop} (hgd : o.guard = none) (d s : Operand) (dT sT : TypeId)
  (ho : o.op = .call { callee:=.builtin .copy,args:=#[d,s],argTypes:=#[dT,sT] }) (elem : TypeId) (size m : Nat) (hu : P.underlying dT = some (.slice elem)) (hsz : (P.info? elem).map (·.size) = some size)
  (g off dLen dCap : Nat) (ad : Addr) (sLen sCap : Nat) (hd : a.eval d = .slice (some ⟨g,off,none⟩) dLen dCap) (hs : a.eval s = .slice (some ad) sLen sCap)
  (cur : List Value) (t : TypeId) (hg : w.heap[g]? = some (.cells cur.toArray t (0,0))) (cs : List Value) (hm : m = Nat.min sLen dLen) (hn : cs.length = m * size)
  (hsrc : ∀ j v,cs[j]? = some v → w.cell? (ad.add j) = some v) (hfit : off + cs.length ≤ cur.length) (h1 : ∀ v ∈ cs,v.oneCell' = true) (B : Nat) (w0 : World) (hb : Below B w0 w) (hBg : B ≤ g)
  (h : ∀ w',Hid (w'.heap[g]? = some (.cells (splice cur off cs).toArray t (0,0))) → Below B w0 w' → wpList P ops Q rest (a.put o.dst (goInt m)) w') : wpList P ops Q (o :: rest) a w:=by
 refine wpList_plain hgd fun K hK => ?_
 have hrun:=run_copy_rowN (P:=P) w dT sT o.type elem g off dLen dCap ad sLen sCap cur.toArray t cs size m hu hsz hg hm hn hsrc (by simpa using hfit) h1;unfold Oper.wp
 simp [execOp,ho,resolve,invoke,builtin,hd,hs,hrun,Result.andThen]
 exact hK _ _ (h _ (show _ = _ by simpa [splice] using setRow_heap w g _ _ t _ hg) (below_setRow hb hBg _))
theorem step_copyN {P : Program} {ops : Array Oper} {o : Oper} {a : Act} {w : World} {K : Act → World → Prop} {Q : Exit → Act → World → Prop} {E : Prop} (hgd : o.guard = none) (d s : Operand) (dT sT : TypeId)
  (ho : o.op = .call { callee:=.builtin .copy,args:=#[d,s],argTypes:=#[dT,sT] }) (elem : TypeId) (size m : Nat) (hu : P.underlying dT = some (.slice elem)) (hsz : (P.info? elem).map (·.size) = some size)
  (g off dLen dCap : Nat) (ad : Addr) (sLen sCap : Nat) (hd : a.eval d = .slice (some ⟨g,off,none⟩) dLen dCap) (hs : a.eval s = .slice (some ad) sLen sCap)
  (cur : List Value) (t : TypeId) (hg : w.heap[g]? = some (.cells cur.toArray t (0,0))) (cs : List Value) (hm : m = Nat.min sLen dLen) (hn : cs.length = m * size)
  (hsrc : ∀ j v,cs[j]? = some v → w.cell? (ad.add j) = some v) (hfit : off + cs.length ≤ cur.length) (h1 : ∀ v ∈ cs,v.oneCell' = true) (B : Nat) (w0 : World) (hb : Below B w0 w) (hBg : B ≤ g)
  (h : ∀ w',Hid (w'.heap[g]? = some (.cells (splice cur off cs).toArray t (0,0))) → Below B w0 w' → K (a.put o.dst (goInt m)) w') :
  if Region.wanted o (yielded ops a.tmps) = true then Oper.wp P o a w K Q else E:=by
 have hw : Region.wanted o (yielded ops a.tmps) = true:=by simp [Region.wanted,hgd]
 rw [if_pos hw];have hrun:=run_copy_rowN (P:=P) w dT sT o.type elem g off dLen dCap ad sLen sCap cur.toArray t cs size m hu hsz hg hm hn hsrc (by simpa using hfit) h1;unfold Oper.wp
 simp [execOp,ho,resolve,invoke,builtin,hd,hs,hrun,Result.andThen]
 exact h _ (show _ = _ by simpa [splice] using setRow_heap w g _ _ t _ hg) (below_setRow hb hBg _)

theorem prs_cons (p : Int × Int) (ps : List (Int × Int)) : prs (p :: ps) = .int .i64 p.1 :: .int .i64 p.2 :: prs ps:=rfl
theorem prs_take (ps : List (Int × Int)) (k : Nat) : (prs ps).take (k * 2) = prs (ps.take k):=by
 induction ps generalizing k with
 | nil => simp [prs]
 | cons p ps ih =>
  cases k with
  | zero => rfl
  | succ k =>
   have e : (k + 1) * 2 = k * 2 + 1 + 1:=by omega
   rw [prs_cons,e,List.take_succ_cons,List.take_succ_cons,ih,List.take_succ_cons,prs_cons]
theorem prs_drop (ps : List (Int × Int)) (k : Nat) : (prs ps).drop (k * 2) = prs (ps.drop k):=by
 induction ps generalizing k with
 | nil => simp [prs]
 | cons p ps ih =>
  cases k with
  | zero => rfl
  | succ k =>
   have e : (k + 1) * 2 = k * 2 + 1 + 1:=by omega
   rw [prs_cons,e,List.drop_succ_cons,List.drop_succ_cons,ih,List.drop_succ_cons]
theorem prs_splice (ps qs : List (Int × Int)) (k : Nat) : splice (prs ps) (k * 2) (prs qs) = prs (splice ps k qs):=by
 unfold splice;rw [prs_take,prs_len,← Nat.add_mul,prs_drop,prs_app,prs_app]
def repP (p : Int × Int) (n k : Nat) : List (Int × Int):=List.replicate k p ++ List.replicate (n - k) (0,0)
theorem repP_len (p : Int × Int) (n k : Nat) (hk : k ≤ n) : (repP p n k).length = n:=by simp [repP]; omega
theorem repP_splice (p : Int × Int) (n k m : Nat) (_ : k + m ≤ n) : splice (repP p n k) k (List.replicate m p) = repP p n (k + m):=by
 unfold splice repP;rw [List.take_left' (by simp),List.length_replicate,List.drop_append,List.drop_replicate,List.drop_replicate,List.length_replicate]
 have e1 : k - (k + m) = 0:=by omega
 have e2 : k + m - k = m:=by omega
 have e3 : n - k - m = n - (k + m):=by omega
 rw [e1,e2,e3,List.replicate_zero,List.nil_append,← List.append_assoc,List.replicate_append_replicate]
theorem repP_full (p : Int × Int) (n : Nat) : repP p n n = List.replicate n p:=by simp [repP]
def repC (p : Int × Int) (n k : Nat) : List Value:=prs (repP p n k)
def repS (p : Int × Int) (m : Nat) : List Value:=prs (List.replicate m p)
theorem repC_len (p : Int × Int) (n k : Nat) (hk : k ≤ n) : (repC p n k).length = n * 2:=by rw [repC,prs_len,repP_len p n k hk]
theorem repS_len (p : Int × Int) (m : Nat) : (repS p m).length = m * 2:=by rw [repS,prs_len,List.length_replicate]
theorem repC_splice (p : Int × Int) (n k m : Nat) (h : k + m ≤ n) : splice (repC p n k) (k * 2) (repS p m) = repC p n (k + m):=by rw [repC,repS,prs_splice,repP_splice p n k m h,repC]
theorem repC_none (p : Int × Int) (n : Nat) : repC p n 0 = (madeCells #[.int .i64 0,.int .i64 0] (n * 2)).toList:=by
 apply List.ext_getElem?;intro j
 by_cases hj : j < n * 2
 ·have h1 : (repC p n 0)[j]? = some (.int .i64 0):=by
   have h0 : repC p n 0 = List.replicate (n * 2) (.int .i64 0):=by
    rw [repC,repP];simp only [List.replicate_zero,List.nil_append,Nat.sub_zero];clear hj
    induction n with
    | zero => rfl
    | succ n ih =>
     have e : (n + 1) * 2 = n * 2 + 1 + 1:=by omega
     rw [List.replicate_succ,prs_cons,ih,e,List.replicate_succ,List.replicate_succ]
   rw [h0,List.getElem?_replicate,if_pos hj]
  rw [h1]
  have h2 : ((madeCells #[Value.int .i64 0,Value.int .i64 0] (n * 2)).toList)[j]? = some (#[Value.int .i64 0,Value.int .i64 0][j % 2]!):=by
   simp [madeCells,hj]
  rw [h2]
  have : j % 2 = 0 ∨ j % 2 = 1:=by omega
  rcases this with h | h <;> rw [h] <;> rfl
 ·rw [List.getElem?_eq_none (by rw [repC_len p n 0 (by omega)]; omega),List.getElem?_eq_none (by simp [size_madeCells]; omega)]
theorem own_wholeN {w : World} {base : Nat} {e : TypeId} {g n size : Nat} {xs : List Value} (h : w.ownsRow base e size (.slice (some ⟨g,0,none⟩) n n) n xs) : w.heap[g]? = some (.cells xs.toArray e (0,0)):=by
 rcases h.2 with ⟨h0,_⟩ | ⟨g',cap,cur,hv,hg,hh,hcap,hm,hcs,ht⟩
 ·cases h0
 ·injection hv with h1 _ h3
  injection h1 with h1;injection h1 with h1;subst h1 h3;rw [hh];rw [List.take_of_length_le (by simp [hcs])] at ht;subst ht
  simp
theorem own_of_wholeN {w : World} {base : Nat} {e : TypeId} {g n size : Nat} {xs : List Value} (h : w.heap[g]? = some (.cells xs.toArray e (0,0))) (hx : xs.length = n * size) (hb : base ≤ g) (hm : n ≤ 9223372036854775807) : w.ownsRow base e size (.slice (some ⟨g,0,none⟩) n n) n xs :=
 ⟨hx,.inr ⟨g,n,xs.toArray,rfl,hb,h,Nat.le_refl _,by simp only [maxLen]; omega,by simp [hx],by rw [List.take_of_length_le (by simp [hx])]⟩⟩
theorem repC_src {w : World} {g : Nat} {e : TypeId} (p : Int × Int) (n k j : Nat) (v : Value) (m : Nat) (hm : m ≤ k) (hr : w.heap[g]? = some (.cells (repC p n k).toArray e (0,0))) (hv : (repS p m)[j]? = some v) : w.cell? ((⟨g,0,none⟩ : Addr).add j) = some v:=by
 refine World.news_of_block hr j v ?_
 have e1 : repS p m = (repC p n k).take (m * 2):=by
  rw [repS,repC,prs_take,repP,List.take_append_of_le_length (by simp; omega),List.take_replicate]
  congr 2
  omega
 rw [e1] at hv;have:=(List.getElem?_eq_some_iff.1 hv).1;rw [List.getElem?_take_of_lt (by simp at this; omega)] at hv
 simpa using hv
theorem sz_far : (Tryz.prog.info? 111).map (·.size) = some 2:=by kernel_rfl
theorem ty_fars : SliceTy Tryz.prog 115 111 2 16:=.mk' Tryz.underlying115 (z:=.agg #[.int .i64 0,.int .i64 0]) (by kernel_rfl) rfl (by decide)
set_option maxRecDepth 100000 in
set_option maxHeartbeats 1000000 in
theorem repeatF_any (A : Option Addr) (c lo : Nat) (p : Int × Int) (n : Nat) (w : World) (hr : Row w lo 2 A 1 (prs [p])) (hn : n ≤ 1000000000) (hn1 : 1 ≤ n) :
  Calls Tryz.prog 155 #[.slice A 1 c,.int .i64 n] w fun e w' => ∃ A' c',e = .returned (.slice A' n c') ∧ w'.ownsRow w.heap.size 111 2 (.slice A' n c') n (prs (List.replicate n p)) ∧ Below w.heap.size w w':=by
 obtain ⟨und,⟨i0,z0,hi0,hz0,hz1,hz2,hz3⟩,_⟩:=ty_fars
 have hz0' : z0 = .agg #[.int .i64 0,.int .i64 0]:=by
  have : (Tryz.prog.info? 111).map (fun i => i.zero) = some (some (.agg #[.int .i64 0,.int .i64 0])):=by kernel_rfl
  rw [hi0] at this
  simp [hz0] at this
  exact this
 subst hz0';obtain ⟨sb,so,rfl,_,hsb,hsc⟩:=hr.2 (by omega)
 have hd0 : decide ((n : Int) < 0) = false:=by simp
 have hd1 : decide ((9223372036854775807 : Int) < (n : Int)) = false:=by simp; omega
 go_enter Tryz.func155,Tryz.ntmps155
 go_wp2_with fail;refine (mul_one' n hn _).mono ?_;rintro e w' ⟨rfl,rfl⟩
 go_wp2_with (first | (at_make; go_must (refine wpList_make_full _ rfl _ _ 115 rfl w.heap.size 111 i0 _ 2 und hi0 hz0 hz1 .i64 .i64 _ _ n rfl rfl rfl rfl (by rw [hz2]; omega) (by simp only [maxLen]; omega) (Nat.le_refl _) ?_)))
 intro w1 hown1 hg1;rw [← repC_none p n] at hown1;have HR0:=Lib.hid (own_wholeN hown1);have hb1 : Below w.heap.size w w1:=below_of_grown hg1 (Nat.le_refl _) (fun k hk => by cases hk);have hr1:=hr.below hb1;have hl0:=repC_len p n 0 (by omega)
 have hs1 : ∀ j v,(repS p 1)[j]? = some v → w1.cell? ((⟨sb,so,none⟩ : Addr).add j) = some v:=by
  intro j v hv
  have e : (⟨sb,so,none⟩ : Addr).add j = ⟨sb,so + j,none⟩:=by unfold Addr.add; split <;> simp_all
  rw [e,World.cell?_of_block (hb1.block sb hsb)];exact hsc j v hv
 have HS:=Lib.hid hs1;clear hown1 hs1 hsc
 go_wp2_with (refine wpList_copyN rfl (.tmp 31) (.tmp 32) 115 115 rfl 111 2 1 und sz_far w.heap.size 0 n n ⟨sb,so,none⟩ 1 c rfl rfl (repC p n 0) 111 HR0.out (repS p 1) (by simp only [Nat.min_def]; split <;> omega) (repS_len _ _) HS.out (by rw [repS_len]; omega) (prs_one _) w.heap.size w hb1 (Nat.le_refl _) ?_)
 intro w2 HR1 hb2
 have HR2 : Hid (w2.heap[w.heap.size]? = some (.cells (repC p n 1).toArray 111 (0,0))):=by
  have h1:=HR1.out;rw [show (0 : Nat) = 0 * 2 from rfl,repC_splice p n 0 1 (by omega),Nat.zero_add] at h1;exact Lib.hid h1
 clear HR1 HR0 hl0 HS hr hr1;go_wp2_with fail
 go_loopw [8] (fun i wr => ∃ k : Nat,k ≤ n ∧ 0 < k ∧ i = .int .i64 k ∧ Hid (wr.heap[w.heap.size]? = some (.cells (repC p n k).toArray 111 (0,0))) ∧ Below w.heap.size w wr) (fun i _ => n - (intOf i).toNat)
 case atStart => exact ⟨1,by omega,by omega,rfl,HR2,hb2⟩
 case round =>
  obtain ⟨k,hk,hk1,rfl,HR,hbw⟩:=hrel
  by_cases hlt : k < n
  ·have hl1:=repC_len p n k hk
   have HL1:=Lib.hid hl1;clear hl1
   have hnk : ¬ n = k:=by omega
   have hw1 : IntKind.i64.wrap ((k : Int) + ((min k (n - k) : Nat) : Int)) = (k : Int) + ((min k (n - k) : Nat) : Int):=IntWalk.i64_in _ ⟨by omega,by omega⟩;generalize hm : min k (n - k) = m at hw1;have HM:=Lib.hid hm;clear hm;go_wp2_with fail
   go_region_law (refine step_copyN rfl (.tmp 41) (.tmp 44) 115 115 rfl 111 2 m und sz_far w.heap.size (k * 2) (n - k) (n - k) ⟨w.heap.size,0,none⟩ k n (by simp [Act.eval,Act.put,hnk]) (by simp [Act.eval,Act.put]) (repC p n k) 111 HR.out (repS p m) (by have:=HM.out; simp only [Nat.min_def] at this ⊢; exact this.symm) (repS_len _ _) (fun j v hv => repC_src p n k j v m (by have:=HM.out; omega) HR.out hv) (by rw [repS_len,HL1.out]; have:=HM.out; omega) (prs_one _) w.heap.size w hbw.drew (Nat.le_refl _) ?_; intro w3 HR3 hb3)
   have HR4 : Hid (w3.heap[w.heap.size]? = some (.cells (repC p n (k + m)).toArray 111 (0,0))):=by
    have h1:=HR3.out;rw [repC_splice p n k m (by have:=HM.out; omega)] at h1;exact Lib.hid h1
   clear HR3;go_wp2_with fail
   go_frame
   clear hw1;have:=HM.out;go_roundw
   case rel =>
    refine ⟨_,_,_,_,_,_,_,_,_,_,_,_,_,_,?_,rfl⟩;exact ⟨k + m,by omega,by omega,by simp,HR4,hb3⟩
   case measure => simp [intOf]; omega
  ·have hkn : k = n:=by omega
   subst hkn;go_wp2_with fail;go_ret;refine ⟨_,_,rfl,?_,hbw⟩;have:=own_of_wholeN (base:=w.heap.size) (size:=2) HR.out (repC_len _ _ _ (Nat.le_refl _)) (Nat.le_refl _) (by omega);rw [repC,repP_full] at this;exact this
end Go.Proofs.YtjggbpchmbdocaaGreatDoor
/- The walks of what checks a video: greatest common divisors, multiples, frames, CheckVideo and its reference. -/
namespace Go.Proofs.YtjggbpchmbdocaaGreatDoor
open Go.RowKit

end Go.Proofs.YtjggbpchmbdocaaGreatDoor
/- The walks of CheckVideo and of its reference VideoFault, and of FramesOf. -/
namespace Go.Proofs.YtjggbpchmbdocaaGreatDoor
open Go.RowKit

end Go.Proofs.YtjggbpchmbdocaaGreatDoor
/- The walk of the stream's function that draws a video. -/
namespace Go.Proofs.YtjggbpchmbdocaaGreatDoor
open Go.RowKit

theorem Blk.grown {w w' : World} {g k : Nat} {t : TypeId} {cs : Array Value} (h : Blk w k t cs) (hb : w.grownBy w' (some g)) (hg : k ≠ g) : Blk w' k t cs:=(hb.block k h.lt (fun e => hg (by injection e))).trans h

def rates : List (Int × Int):=[(60,1),(30000,1001),(25,1),(1,1),(1000,1),(7,3)]
end Go.Proofs.YtjggbpchmbdocaaGreatDoor
