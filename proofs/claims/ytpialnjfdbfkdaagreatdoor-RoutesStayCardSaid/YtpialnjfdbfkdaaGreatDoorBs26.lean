/- Texts of this seat, laid together: WkR WkO MpD. -/
import Derived.Deep.CutBlock
import Derived.Test.YtpialnjfdbfkdaaGreatDoorBs22
import Derived.Test.YtpialnjfdbfkdaaGreatDoorBs18
import Derived.Test.YtpialnjfdbfkdaaGreatDoorBs25
import Derived.Test.YtpialnjfdbfkdaaGreatDoorBs23
import Derived.Test.YtpialnjfdbfkdaaGreatDoorBs24
/- The walks of the reference's doorFault, through, firstPoint and SamePoint. -/
set_option linter.unusedVariables false
set_option linter.unusedSimpArgs false
namespace Go.Proofs.YtpialnjfdbfkdaaGreatDoor
open Go.RowKit Go.Sort Go.Shelf

def PtC (w : World) (key : List UInt8) (l : List (List UInt8)) (e : Ending) (w' : World) : Prop:=∃ A c,e = .returned (.agg #[.string ⟨key.toArray⟩,.slice A l.length c]) ∧ Row w' w.heap.size 1 A l.length (strs l) ∧ l.length ≤ c ∧ Below w.heap.size w w'
theorem PtC.pt {w w' : World} {key : List UInt8} {l : List (List UInt8)} {e : Ending} (h : PtC w key l e w') : PtPost w key l e w' :=
 let ⟨A,c,h1,h2,_,h4⟩:=h; ⟨A,c,h1,h2,h4⟩
set_option maxHeartbeats 2000000 in
theorem samePoint_any (A B : Option Addr) (c d lo lo' : Nat) (r1 r2 : List UInt8) (ps qs : List (List UInt8)) (w : World) (hr : Row w lo 1 A ps.length (strs ps)) (hr' : Row w lo' 1 B qs.length (strs qs)) (hl : ps.length ≤ 1000000000) (hl' : qs.length ≤ 1000000000) :
  Calls Tryz.prog 18 #[.agg #[.string ⟨r1.toArray⟩,.slice A ps.length c],.agg #[.string ⟨r2.toArray⟩,.slice B qs.length d]] w fun e w' => e = .returned (.bool (decide (r1 = r2 ∧ ps = qs))) ∧ Below w.heap.size w w':=by
 have hb2 : Below w.heap.size w ((w.alloc (.cells #[.string ⟨r1.toArray⟩,.slice A ps.length c] 34)).alloc (.cells #[.string ⟨r2.toArray⟩,.slice B qs.length d] 34)):=(by repeat (first | exact Below.refl _ _ | refine Below.alloc ?_ (by first | omega | (simp; omega) | simp) _ | refine below_drewN' ?_ _ | refine Below.drew ?_))
 have hP : Blk ((w.alloc (.cells #[.string ⟨r1.toArray⟩,.slice A ps.length c] 34)).alloc (.cells #[.string ⟨r2.toArray⟩,.slice B qs.length d] 34)) w.heap.size 34 #[.string ⟨r1.toArray⟩,.slice A ps.length c]:=(Blk.new _ _ _).alloc _
 have hQ : Blk ((w.alloc (.cells #[.string ⟨r1.toArray⟩,.slice A ps.length c] 34)).alloc (.cells #[.string ⟨r2.toArray⟩,.slice B qs.length d] 34)) (w.heap.size + 1) 34 #[.string ⟨r2.toArray⟩,.slice B qs.length d]:=Blk.at_ _ (by simp)
 have heq:=equalS_any A B c d lo lo' ps qs _ (hr.below hb2) (hr'.below hb2) hl hl'
 obtain ⟨p0,p1⟩:=hP.two_
 obtain ⟨q0,q1⟩:=hQ.two_
 clear hr hr' hP hQ
 by_cases c1 : r1 = r2
 ·have e1 : (r1 == r2) = true:=beq_iff_eq.2 c1
  have HV : Hid (decide (r1 = r2 ∧ ps = qs) = decide (ps = qs)):=Lib.hid (by simp [c1])
  rw [HV.out]
  clear c1
  generalize decide (ps = qs) = pb at *
  go_enter Tryz.func18,Tryz.ntmps18
  go_upto_region 1 with (fail)
  generalize ((w.alloc (.cells #[.string ⟨r1.toArray⟩,.slice A ps.length c] 34)).alloc (.cells #[.string ⟨r2.toArray⟩,.slice B qs.length d] 34)) = w2 at *
  go_wp2_with fail
  refine heq.mono ?_
  rintro e w3 ⟨rfl,q,rfl⟩
  clear heq
  go_wp2_with fail
  go_ret
  exact ⟨rfl,below_drewN' hb2 q⟩
 ·have e1 : (r1 == r2) = false:=beq_eq_false_iff_ne.2 c1
  have HV : Hid (decide (r1 = r2 ∧ ps = qs) = false):=Lib.hid (by simp [c1])
  rw [HV.out]
  clear c1 heq
  go_enter Tryz.func18,Tryz.ntmps18
  go_upto_region 1 with (fail)
  generalize ((w.alloc (.cells #[.string ⟨r1.toArray⟩,.slice A ps.length c] 34)).alloc (.cells #[.string ⟨r2.toArray⟩,.slice B qs.length d] 34)) = w2 at *
  go_wp2_with fail
  go_ret
  exact ⟨rfl,hb2⟩
end Go.Proofs.YtpialnjfdbfkdaaGreatDoor
/- The walk of the reference's WalkedOf. -/
namespace Go.Proofs.YtpialnjfdbfkdaaGreatDoor
open Go.RowKit

theorem ThOk.len {T th : List (List UInt8)} (hT : T.Pairwise (· < ·)) (h : ThOk T th) : th.length ≤ T.length:=by
 rw [← list_bits hT h]; exact List.length_filter_le _ _
end Go.Proofs.YtpialnjfdbfkdaaGreatDoor
/- The walks of the stream's TrickList and DoorList. -/
namespace Go.Proofs.YtpialnjfdbfkdaaGreatDoor
open Go.RowKit Go.Sort

section
variable {w w' : World} {lo g : Nat} {A : Option Addr} {rs : List RoomE} {D : Option Addr} {ds : List DoorE}
theorem MapW.grown (h : MapW w lo A rs D ds) (hb : w.grownBy w' (some g)) (hg : g < lo) : MapW w' lo A rs D ds :=
 ⟨h.rooms.grown hb hg,h.doors.grown hb hg,fun r hr => ⟨(h.gives r hr).1.grown hb hg,(h.gives r hr).2⟩,fun d hd => ⟨(h.needs d hd).1.grown hb hg,(h.needs d hd).2⟩,fun d hd => ⟨(h.takes d hd).1.grown hb hg,(h.takes d hd).2⟩,h.s⟩
theorem Row.grownB {size n B : Nat} {xs : List Value} {row : Option Nat} (h : Row w lo size A n xs) (hA : ∀ a,A = some a → a.block < B) (hg : w.grownBy w' row) (hr : ∀ k,row = some k → B ≤ k) : Row w' lo size A n xs :=
 ⟨h.1,fun hn => by
  obtain ⟨b,off,e,h1,h2,h3⟩:=h.2 hn
  have:=hA _ e
  exact ⟨b,off,e,h1,Nat.lt_of_lt_of_le h2 hg.size,fun j u hu => (World.cell?_of_block (w:=w) (hg.block b h2 (fun e2 => by have:=hr b e2.symm; simp at *; omega))).trans (h3 j u hu)⟩⟩
end
end Go.Proofs.YtpialnjfdbfkdaaGreatDoor
