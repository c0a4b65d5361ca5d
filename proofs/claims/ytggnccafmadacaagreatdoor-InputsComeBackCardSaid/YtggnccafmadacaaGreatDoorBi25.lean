/- Texts of this seat, laid together: AgS Kind. -/
import Derived.Test.YtggnccafmadacaaGreatDoorBi07
import Derived.Test.YtggnccafmadacaaGreatDoorBi08
import Derived.Test.YtggnccafmadacaaGreatDoorBi09
/- The walks of ContainsFunc over strings, sumsFault and Some. -/
namespace Go.Proofs.YtggnccafmadacaaGreatDoor
set_option linter.unusedVariables false
set_option linter.unusedSimpArgs false
open Go.RowKit Go.Sort

theorem ty_strs : SliceTy Tryz.prog 33 9 1 16:=.mk' Tryz.underlying33 (z:=.string ⟨#[]⟩) (by kernel_rfl) rfl (by decide)

def sF (l : List (List UInt8)) : Int:=if (l.any fun s => !isSum s) = true then 3 else 0

set_option maxHeartbeats 400000 in
theorem some_any (g N lo : Nat) (A : Option Addr) (c : Nat) (ss : List (List UInt8)) (w : World) (hs : Str w g N) (hN : N < 4611686018427387904) (hr : Row w lo 1 A ss.length (strs ss)) (hlo : g < lo) (hz : 0 < ss.length) (hz' : ss.length ≤ 1000000) :
  Calls Tryz.prog 8 #[.pointer (some ⟨g,0,none⟩),.slice A ss.length c] w fun e w' => ∃ r : List UInt8,e = .returned (encStr r) ∧ r ∈ ss ∧ Str w' g (N + 1) ∧ w.grownBy w' (some g):=by
 go_enter Tryz.func8,Tryz.ntmps8
 go_wp2_with fail
 refine (next_any g N _ _ hs hN (by omega)).mono ?_
 rintro e w' ⟨r,rfl,h2,h3,h4,hs',hg⟩
 have h5:=h3 (by omega)
 obtain ⟨k,rfl⟩:=Int.eq_ofNat_of_zero_le h2
 have hk : k < ss.length:=by omega
 obtain ⟨b,off,rfl,hlb,hb,hc⟩:=(hr.grown hg hlo).str_at hk
 clear h3
 go_wp2_with fail
 go_ret
 exact ⟨_,rfl,List.getElem_mem _,hs',hg⟩
end Go.Proofs.YtggnccafmadacaaGreatDoor
/- What stays where one block of another type is written to; attempts of the call's own; slices.Clone of strings. -/
namespace Go.Proofs.YtggnccafmadacaaGreatDoor
set_option linter.unusedVariables false
set_option linter.unusedSimpArgs false
open Go.RowKit Go.Sort

def tyOf (w : World) (b : Nat) : Option TypeId :=
 match w.heap[b]? with
 | some (.cells _ t _) => some t
 | _ => none
def KindOf (w : World) (row : Option Nat) (t : TypeId) : Prop:=∀ b,row = some b → tyOf w b = some t
section
variable {w w' : World} {b base n size : Nat} {t e x : TypeId} {cs : Array Value} {v : Value} {xs : List Value} {row : Option Nat}
theorem Blk.tyOf (h : Blk w b t cs) : tyOf w b = some t:=by
 have h' : w.heap[b]? = some (.cells cs t (0,0)):=h
 simp [Proofs.YtggnccafmadacaaGreatDoor.tyOf,h']
theorem Blk.kindOf (h : Blk w b t cs) : KindOf w (some b) t:=fun _ hb => by injection hb with hb; subst hb; exact h.tyOf
theorem own_kindOf (h : w.ownsRow base e size v n xs) : KindOf w v.ownBlock e:=fun b hb => by
 rcases h.2 with ⟨rfl,_⟩ | ⟨g,cap,cur,rfl,_,hh,_⟩
 ·simp [Value.ownBlock] at hb
 ·have : g = b:=by simpa [Value.ownBlock] using hb
  subst this
  simp [tyOf,hh]
theorem Blk.otherOf (h : Blk w b t cs) (hg : w.grownBy w' row) (hk : KindOf w row x) (hne : x ≠ t) : Blk w' b t cs :=
 (hg.block b h.lt (fun e => hne (by have:=hk b e.symm; rw [h.tyOf] at this; injection this with this; exact this.symm))).trans h
theorem own_otherOf (h : w.ownsRow base e size v n xs) (hg : w.grownBy w' row) (hk : KindOf w row x) (hne : x ≠ e) : w'.ownsRow base e size v n xs:=by
 refine ⟨h.1,?_⟩
 rcases h.2 with h0 | ⟨g,cap,cur,hv,hb,hh,h3⟩
 ·exact .inl h0
 ·have hb' : Blk w g e cur:=hh
  exact .inr ⟨g,cap,cur,hv,hb,hb'.otherOf hg hk hne,h3⟩
theorem grown_pokeOf (w : World) (b i : Nat) (u : Value) : w.grownBy (w.setCell ⟨b,i,none⟩ u) (some b):=grown_set (World.grownBy.refl w (some b)) i u
theorem Blk.stream {g : Nat} (h : Blk w b t cs) (hg : w.grownBy w' (some g)) (hb : g < b) : Blk w' b t cs:=(hg.block b h.lt (fun e => by injection e with e; omega)).trans h
end

def AttsC (w : World) (base : Nat) (atts : List Att) (cs : List Value) : Prop :=
 cs.length = atts.length * 2 ∧ ∀ i (h : i < atts.length),∃ B c,cs[i * 2]? = some (.int .i64 atts[i].1) ∧ cs[i * 2 + 1]? = some (.slice B atts[i].2.length c) ∧ w.ownsRow base 3 1 (.slice B atts[i].2.length c) atts[i].2.length (ints atts[i].2)
section
variable {w w' : World} {base : Nat} {atts : List Att} {cs : List Value}
theorem AttsC.nil (w : World) (base : Nat) : AttsC w base [] []:=⟨rfl,fun i h => by simp at h⟩
theorem AttsC.other {row : Option Nat} {x : TypeId} (h : AttsC w base atts cs) (hg : w.grownBy w' row) (hk : KindOf w row x) (hne : x ≠ 3) : AttsC w' base atts cs :=
 ⟨h.1,fun i hi => let ⟨B,c,a,b,d⟩:=h.2 i hi; ⟨B,c,a,b,own_otherOf d hg hk hne⟩⟩
theorem AttsC.below (h : AttsC w base atts cs) (hb : Below w.heap.size w w') : AttsC w' base atts cs :=
 ⟨h.1,fun i hi => let ⟨B,c,a,b,d⟩:=h.2 i hi; ⟨B,c,a,b,own_keep d hb⟩⟩
theorem AttsC.stream {g : Nat} (h : AttsC w base atts cs) (hg : w.grownBy w' (some g)) (hb : g < base) : AttsC w' base atts cs :=
 ⟨h.1,fun i hi => let ⟨B,c,a,b,d⟩:=h.2 i hi; ⟨B,c,a,b,own_grown d hg hb⟩⟩
theorem AttsC.push (h : AttsC w base atts cs) (no : Int) {l : List Int} {B : Option Addr} {c : Nat} (ho : w.ownsRow base 3 1 (.slice B l.length c) l.length (ints l)) : AttsC w base (atts ++ [(no,l)]) (cs ++ [.int .i64 no,.slice B l.length c]):=by
 refine ⟨by simp [h.1]; omega,fun i hi => ?_⟩
 by_cases hlt : i < atts.length
 ·obtain ⟨B',c',a,b,d⟩:=h.2 i hlt
  have e : (atts ++ [(no,l)])[i] = atts[i]:=List.getElem_append_left hlt
  rw [e]
  refine ⟨B',c',?_,?_,d⟩
  ·rw [List.getElem?_append_left (by rw [h.1]; omega)]; exact a
  ·rw [List.getElem?_append_left (by rw [h.1]; omega)]; exact b
 ·have : i = atts.length:=by simp at hi; omega
  subst this
  have e : (atts ++ [(no,l)])[atts.length] = (no,l):=by simp
  rw [e]
  refine ⟨B,c,?_,?_,ho⟩
  ·rw [List.getElem?_append_right (by rw [h.1]; omega),h.1,Nat.sub_self]; rfl
  ·rw [List.getElem?_append_right (by rw [h.1]; omega),h.1,show atts.length * 2 + 1 - atts.length * 2 = 1 by omega]; rfl
theorem AttsC.setNo (h : AttsC w base atts cs) {j : Nat} (hj : j < atts.length) (no : Int) : AttsC w base (atts.set j (no,atts[j].2)) (cs.set (j * 2) (.int .i64 no)):=by
 refine ⟨by simp [h.1],fun i hi => ?_⟩
 have hi' : i < atts.length:=by simpa using hi
 obtain ⟨B,c,a,b,d⟩:=h.2 i hi'
 by_cases e : j = i
 ·subst e
  have e2 : (atts.set j (no,atts[j].2))[j] = (no,atts[j].2):=by simp
  rw [e2]
  refine ⟨B,c,?_,?_,d⟩
  ·rw [List.getElem?_set_self (by rw [h.1]; omega)]
  ·rw [List.getElem?_set_ne (by omega)]; exact b
 ·have e2 : (atts.set j (no,atts[j].2))[i] = atts[i]:=by simp [List.getElem_set,e]
  rw [e2]
  refine ⟨B,c,?_,?_,d⟩
  ·rw [List.getElem?_set_ne (by omega)]; exact a
  ·rw [List.getElem?_set_ne (by omega)]; exact b
theorem AttsC.hist {SA TA : Option Addr} {sc c : Nat} {ss : List (List UInt8)} (h : AttsC w base atts cs) (ht : w.ownsRow base 62 2 (.slice TA atts.length c) atts.length cs) (hs : w.ownsRow base 9 1 (.slice SA ss.length sc) ss.length (strs ss)) : Hist w base SA TA ss atts :=
 ⟨Row.of_own hs,cs,Row.of_own ht,fun i hi => let ⟨B,c',a,b,d⟩:=h.2 i hi; ⟨B,c',a,b,Row.of_own d⟩⟩
end
theorem Hist.stream {w w' : World} {lo g : Nat} {SA TA : Option Addr} {segs : List (List UInt8)} {atts : List Att} (h : Hist w lo SA TA segs atts) (hg : w.grownBy w' (some g)) (hl : g < lo) : Hist w' lo SA TA segs atts:=by
 obtain ⟨h1,cs,h2,h3⟩:=h
 exact ⟨h1.grown hg hl,cs,h2.grown hg hl,fun i hi => let ⟨B,c,a,b,d⟩:=h3 i hi; ⟨B,c,a,b,d.grown hg hl⟩⟩
theorem Hist.weak {w : World} {lo lo' : Nat} {SA TA : Option Addr} {segs : List (List UInt8)} {atts : List Att} (h : Hist w lo SA TA segs atts) (hl : lo' ≤ lo) : Hist w lo' SA TA segs atts:=by
 obtain ⟨h1,cs,h2,h3⟩:=h
 exact ⟨h1.weak hl,cs,h2.weak hl,fun i hi => let ⟨B,c,a,b,d⟩:=h3 i hi; ⟨B,c,a,b,d.weak hl⟩⟩

set_option maxHeartbeats 1000000 in
theorem cloneS_any (A : Option Addr) (c lo : Nat) (ss : List (List UInt8)) (w : World) (hr : Row w lo 1 A ss.length (strs ss)) (hl : ss.length ≤ 1000000000) :
  Calls Tryz.prog 15 #[.slice A ss.length c] w fun e w' => ∃ A' c',e = .returned (.slice A' ss.length c') ∧ w'.ownsRow w.heap.size 9 1 (.slice A' ss.length c') ss.length (strs ss) ∧ Below w.heap.size w w':=by
 have hnil:=fun (r : Option Addr) (n c : Nat) (w : World) => Lib.run_eql_slice_nil (P:=Tryz.prog) w 33 9 r n c 0 0 Tryz.underlying33
 cases A with
 | none =>
  have hz : ss.length = 0:=by
   rcases Nat.eq_zero_or_pos ss.length with h | h
   ·exact h
   ·obtain ⟨b,off,h1,_⟩:=hr.2 h
    cases h1
  have HZ:=Lib.hid hz
  clear hz
  go_enter Tryz.func15,Tryz.ntmps15
  go_wp2_with fail
  go_ret
  refine ⟨none,0,?_,?_,Below.refl _ _⟩
  ·rw [HZ.out]; rfl
  ·have : ss = []:=List.eq_nil_of_length_eq_zero HZ.out
   subst this
   exact World.ownsRow_nil _ _ _ _
 | some ad =>
  have hown0 : (w.alloc (.cells #[] 9)).ownsRow w.heap.size 9 1 (.slice (some ⟨w.heap.size,0,none⟩) 0 0) 0 []:=World.ownsRow_made w #[] 0 (Nat.le_refl _) (by simp [maxLen]) rfl
  go_enter Tryz.func15,Tryz.ntmps15
  go_wp2_with (at_builtin; go_must (refine wpList_app _ _ rfl _ _ ty_strs rfl hown0 rfl (hr.alloc _) rfl (strs_all _) (by omega) (by omega) (by simp) ?_))
  intro A5 c5 w5 hown5 hg5 _
  go_wp2_with fail
  go_ret
  exact ⟨A5,c5,by first | rfl | simp,hown5,below_app hown0 ((Below.refl _ _).alloc (Nat.le_refl _) _) hg5 (Nat.le_refl _) (by simp)⟩
end Go.Proofs.YtggnccafmadacaaGreatDoor
