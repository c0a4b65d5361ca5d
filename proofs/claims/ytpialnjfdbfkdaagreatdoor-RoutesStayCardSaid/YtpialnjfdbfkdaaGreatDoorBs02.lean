/- Texts of this seat, laid together: Str Some. -/
import Derived.Sort.EncStr
import Derived.Test.YtpialnjfdbfkdaaGreatDoorBs01
/- Rows of strings. -/
set_option linter.unusedVariables false
set_option linter.unusedSimpArgs false
namespace Go.Proofs.YtpialnjfdbfkdaaGreatDoor
open Go.RowKit Go.Sort

def strs (ss : List (List UInt8)) : List Value:=ss.map encStr
theorem strs_len (ss : List (List UInt8)) : (strs ss).length = ss.length:=by simp [strs]
theorem strs_all (ss : List (List UInt8)) : (strs ss).all (·.oneCell') = true:=by
 rw [List.all_eq_true]
 intro u hu
 obtain ⟨s,_,rfl⟩:=List.mem_map.1 hu
 rfl
theorem Row.str_at {w : World} {lo : Nat} {A : Option Addr} {ss : List (List UInt8)} (h : Row w lo 1 A ss.length (strs ss)) {k : Nat} (hk : k < ss.length) :
  ∃ b off,A = some ⟨b,off,none⟩ ∧ lo ≤ b ∧ b < w.heap.size ∧ w.cell? ⟨b,off + k,none⟩ = some (encStr ss[k]):=by
 obtain ⟨b,off,e,hl,hb,hc⟩:=h.2 (by omega)
 exact ⟨b,off,e,hl,hb,hc k _ (by simp [strs,hk])⟩
theorem str_ne {x y : List UInt8} (h : ¬ x = y) : ((⟨x.toArray⟩ : ByteArray).toList == (⟨y.toArray⟩ : ByteArray).toList) = false:=by
 rw [ByteArray.toList_eq,ByteArray.toList_eq]
 simpa using h
theorem str_eq {x y : List UInt8} (h : x = y) : ((⟨x.toArray⟩ : ByteArray).toList == (⟨y.toArray⟩ : ByteArray).toList) = true:=by
 rw [ByteArray.toList_eq,ByteArray.toList_eq]
 simpa using h
end Go.Proofs.YtpialnjfdbfkdaaGreatDoor
/- The walk of Stream.Some: one of some strings. -/
namespace Go.Proofs.YtpialnjfdbfkdaaGreatDoor
open Go.RowKit Go.Sort

end Go.Proofs.YtpialnjfdbfkdaaGreatDoor
