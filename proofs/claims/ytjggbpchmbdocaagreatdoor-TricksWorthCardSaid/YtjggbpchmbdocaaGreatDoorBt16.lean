/- Texts of this seat, laid together: SgA SgP SgB. -/
import Derived.Deep.QuietTactic
import Derived.BigQuiet
import Derived.IntWalk
import Derived.Test.YtjggbpchmbdocaaGreatDoorBt01
import Derived.Test.YtjggbpchmbdocaaGreatDoorBt14
import Derived.Test.YtjggbpchmbdocaaGreatDoorBt02
/- The walks of what checks a history, at one that is right. -/
set_option linter.unusedVariables false
set_option linter.unusedSimpArgs false
namespace Go.Proofs.YtjggbpchmbdocaaGreatDoor
open Go.RowKit Go.Sort

structure SplOk (many : Nat) (l : List Int) : Prop where
  len : l.length ≤ many
  bd : ∀ i (h : i < l.length), 0 ≤ l[i] ∧ l[i] ≤ 864000000
  up : ∀ i (h : i < l.length), l[i] ≠ 0 → sgM (l.take i) < l[i]
  fin : ∀ h : l.length - 1 < l.length, l[l.length - 1] ≠ 0
structure HistOk (segs : List (List UInt8)) (atts : List Att) : Prop where
  n1 : 1 ≤ segs.length
  n2 : segs.length ≤ 60
  key : ∀ i (h : i < segs.length), keyB segs[i] = true
  new : ∀ i (h : i < segs.length), segs[i] ∉ segs.take i
  m : atts.length ≤ 500
  no : ∀ i (h : i < atts.length), 1 ≤ atts[i].1 ∧ atts[i].1 ≤ 1000000
  up : ∀ i (h : i + 1 < atts.length), atts[i].1 < atts[i + 1].1
  spl : ∀ i (h : i < atts.length), SplOk segs.length atts[i].2
def Hist (w : World) (lo : Nat) (SA TA : Option Addr) (segs : List (List UInt8)) (atts : List Att) : Prop :=
 Row w lo 1 SA segs.length (strs segs) ∧ ∃ cs,Row w lo 2 TA atts.length cs ∧ ∀ i (_ : i < atts.length),∃ B c,cs[i * 2]? = some (.int .i64 atts[i].1) ∧ cs[i * 2 + 1]? = some (.slice B atts[i].2.length c) ∧ Row w lo 1 B atts[i].2.length (ints atts[i].2)
theorem Hist.below {w w' : World} {lo : Nat} {SA TA : Option Addr} {segs : List (List UInt8)} {atts : List Att} (h : Hist w lo SA TA segs atts) (hb : Below w.heap.size w w') : Hist w' lo SA TA segs atts:=by
 obtain ⟨h1,cs,h2,h3⟩:=h;exact ⟨h1.below hb,cs,h2.below hb,fun i hi => let ⟨B,c,a,b,d⟩:=h3 i hi; ⟨B,c,a,b,d.below hb⟩⟩
theorem Hist.alloc {w : World} {lo : Nat} {SA TA : Option Addr} {segs : List (List UInt8)} {atts : List Att} (h : Hist w lo SA TA segs atts) (o : Obj) : Hist (w.alloc o) lo SA TA segs atts:=h.below ((Below.refl _ _).alloc (Nat.le_refl _) o)
end Go.Proofs.YtjggbpchmbdocaaGreatDoor
/- Plain laws of the steps between splits and of the least sums that the code keeps. No program in sight. -/
namespace Go.Proofs.YtjggbpchmbdocaaGreatDoor

end Go.Proofs.YtjggbpchmbdocaaGreatDoor
/- The walk of CheckHistory at a history that is right. -/
namespace Go.Proofs.YtjggbpchmbdocaaGreatDoor
open Go.RowKit Go.Sort

theorem Row.pre {w : World} {lo : Nat} {A : Option Addr} {ss : List (List UInt8)} (h : Row w lo 1 A ss.length (strs ss)) (k : Nat) (hk : k ≤ ss.length) : Row w lo 1 A (ss.take k).length (strs (ss.take k)):=by
 have e : (ss.take k).length = k:=by simp; omega
 rw [e];refine ⟨by rw [strs_len,e]; omega,fun h0 => ?_⟩;obtain ⟨b,off,ea,hl,hb,hc⟩:=h.2 (by omega);refine ⟨b,off,ea,hl,hb,fun j u hu => hc j u ?_⟩;unfold strs at hu ⊢;rw [List.map_take] at hu;rw [List.getElem?_take] at hu
 split at hu
 ·exact hu
 ·cases hu
theorem Blk.two_ {w : World} {g : Nat} {t : TypeId} {a b : Value} (h : Blk w g t #[a,b]) : w.cell? ⟨g,0,none⟩ = some a ∧ w.cell? ⟨g,1,none⟩ = some b:=⟨by simpa using h.cell 0,by simpa using h.cell 1⟩

end Go.Proofs.YtjggbpchmbdocaaGreatDoor
