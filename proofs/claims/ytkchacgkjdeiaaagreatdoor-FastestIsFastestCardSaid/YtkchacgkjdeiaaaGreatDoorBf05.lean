/- Texts of this seat, laid together: Str Some. -/
import Derived.Sort.EncStr
import Derived.Test.YtkchacgkjdeiaaaGreatDoorBf03
/- Rows of strings. -/
set_option linter.unusedVariables false
set_option linter.unusedSimpArgs false
namespace Go.Proofs.YtkchacgkjdeiaaaGreatDoor
open Go.RowKit Go.Sort

def strs (ss : List (List UInt8)) : List Value:=ss.map encStr
theorem strs_len (ss : List (List UInt8)) : (strs ss).length = ss.length:=by simp [strs]
theorem strs_all (ss : List (List UInt8)) : (strs ss).all (·.oneCell') = true:=by
 rw [List.all_eq_true];intro u hu;obtain ⟨s,_,rfl⟩:=List.mem_map.1 hu;rfl
theorem Row.str_at {w : World} {lo : Nat} {A : Option Addr} {ss : List (List UInt8)} (h : Row w lo 1 A ss.length (strs ss)) {k : Nat} (hk : k < ss.length) :
  ∃ b off,A = some ⟨b,off,none⟩ ∧ lo ≤ b ∧ b < w.heap.size ∧ w.cell? ⟨b,off + k,none⟩ = some (encStr ss[k]):=by
 obtain ⟨b,off,e,hl,hb,hc⟩:=h.2 (by omega);exact ⟨b,off,e,hl,hb,hc k _ (by simp [strs,hk])⟩
theorem str_ne {x y : List UInt8} (h : ¬ x = y) : ((⟨x.toArray⟩ : ByteArray).toList == (⟨y.toArray⟩ : ByteArray).toList) = false:=by
 rw [ByteArray.toList_eq,ByteArray.toList_eq]
 simpa using h
theorem str_eq {x y : List UInt8} (h : x = y) : ((⟨x.toArray⟩ : ByteArray).toList == (⟨y.toArray⟩ : ByteArray).toList) = true:=by
 rw [ByteArray.toList_eq,ByteArray.toList_eq]
 simpa using h
theorem ba_app (a b : List UInt8) : (⟨a.toArray⟩ : ByteArray) ++ ⟨b.toArray⟩ = ⟨(a ++ b).toArray⟩:=by
 apply ByteArray.ext
 simp
end Go.Proofs.YtkchacgkjdeiaaaGreatDoor
/- The walk of Stream.Some: one of some strings. -/
namespace Go.Proofs.YtkchacgkjdeiaaaGreatDoor
open Go.RowKit Go.Sort

set_option maxHeartbeats 400000 in
theorem some_any (g N lo : Nat) (A : Option Addr) (c : Nat) (ss : List (List UInt8)) (w : World) (hs : Str w g N) (hN : N < 4611686018427387904) (hr : Row w lo 1 A ss.length (strs ss)) (hlo : g < lo) (hz : 0 < ss.length) (hz' : ss.length ≤ 1000000) :
  Calls Tryz.prog 29 #[.pointer (some ⟨g,0,none⟩),.slice A ss.length c] w fun e w' => ∃ r : List UInt8,e = .returned (encStr r) ∧ r ∈ ss ∧ Str w' g (N + 1) ∧ w.grownBy w' (some g):=by
 go_enter Tryz.func29,Tryz.ntmps29
 go_wp2_with fail;refine (next_any g N _ _ hs hN (by omega)).mono ?_;rintro e w' ⟨r,rfl,h2,h3,h4,hs',hg⟩;have h5:=h3 (by omega);obtain ⟨k,rfl⟩:=Int.eq_ofNat_of_zero_le h2
 have hk : k < ss.length:=by omega
 obtain ⟨b,off,rfl,hlb,hb,hc⟩:=(hr.grown hg hlo).str_at hk;clear h3;go_wp2_with fail;go_ret;exact ⟨_,rfl,List.getElem_mem _,hs',hg⟩
end Go.Proofs.YtkchacgkjdeiaaaGreatDoor
