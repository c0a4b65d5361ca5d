/- Texts of this seat, laid together: Str Some. -/
import Derived.Sort.EncStr
import Derived.Test.YtbfphnknkbhpkaaGreatDoorBk201
/- Rows of strings. -/
namespace Go.Proofs.YtbfphnknkbhpkaaGreatDoor
set_option linter.unusedVariables false
set_option linter.unusedSimpArgs false
open Go.RowKit Go.Sort

def strs (ss : List (List UInt8)) : List Value:=ss.map encStr
theorem strs_len (ss : List (List UInt8)) : (strs ss).length = ss.length:=by simp [strs]
theorem Row.str_at {w : World} {lo : Nat} {A : Option Addr} {ss : List (List UInt8)} (h : Row w lo 1 A ss.length (strs ss)) {k : Nat} (hk : k < ss.length) :
  ∃ b off,A = some ⟨b,off,none⟩ ∧ lo ≤ b ∧ b < w.heap.size ∧ w.cell? ⟨b,off + k,none⟩ = some (encStr ss[k]):=by
 obtain ⟨b,off,e,hl,hb,hc⟩:=h.2 (by omega)
 exact ⟨b,off,e,hl,hb,hc k _ (by simp [strs,hk])⟩
theorem str_ne {x y : List UInt8} (h : ¬ x = y) : ((⟨x.toArray⟩ : ByteArray).toList == (⟨y.toArray⟩ : ByteArray).toList) = false:=by
 rw [ByteArray.toList_eq,ByteArray.toList_eq]
 simpa using h
theorem ba_app (a b : List UInt8) : (⟨a.toArray⟩ : ByteArray) ++ ⟨b.toArray⟩ = ⟨(a ++ b).toArray⟩:=by
 apply ByteArray.ext
 simp
end Go.Proofs.YtbfphnknkbhpkaaGreatDoor
/- The walk of Stream.Some: one of some strings. -/
namespace Go.Proofs.YtbfphnknkbhpkaaGreatDoor
set_option linter.unusedVariables false
set_option linter.unusedSimpArgs false
open Go.RowKit Go.Sort

end Go.Proofs.YtbfphnknkbhpkaaGreatDoor
