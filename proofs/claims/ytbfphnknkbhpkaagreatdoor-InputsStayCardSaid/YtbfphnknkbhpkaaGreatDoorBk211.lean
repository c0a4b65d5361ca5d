/- Texts of this seat, laid together: Wr. -/
import Derived.Test.YtbfphnknkbhpkaaGreatDoorBk202
import Derived.Test.YtbfphnknkbhpkaaGreatDoorBk209
import Derived.Test.YtbfphnknkbhpkaaGreatDoorBk210
/- Rows that may be written to, whatever they hold; right inputs are short. -/
namespace Go.Proofs.YtbfphnknkbhpkaaGreatDoor
set_option linter.unusedVariables false
set_option linter.unusedSimpArgs false
open Go.RowKit Go.Sort

def WrT (w : World) (base : Nat) (t : TypeId) (size : Nat) (B : Option Addr) (n : Nat) : Prop:=0 < n → ∃ g cs,B = some ⟨g,0,none⟩ ∧ base ≤ g ∧ Blk w g t cs ∧ n * size ≤ cs.size
section
variable {w w' : World} {base size n c : Nat} {t x : TypeId} {B : Option Addr} {xs : List Value} {row : Option Nat}
theorem WrT.of_own (h : w.ownsRow base t size (.slice B n c) n xs) : WrT w base t size B n:=by
 intro hn
 rcases h.2 with ⟨_,h0⟩ | ⟨g,cap,cur,hv,hg,hh,hcap,_,hcs,_⟩
 ·omega
 ·injection hv with h1 h2 h3
  exact ⟨g,cur,h1,hg,hh,by rw [hcs]; exact Nat.mul_le_mul_right _ hcap⟩
theorem WrT.poke (h : WrT w base t size B n) (p i : Nat) (u : Value) : WrT (w.setCell ⟨p,i,none⟩ u) base t size B n:=by
 intro hn
 obtain ⟨g,cs,e,hb,hB,hs⟩:=h hn
 by_cases e2 : g = p
 ·subst e2
  exact ⟨g,_,e,hb,hB.poke i u,by simpa using hs⟩
 ·exact ⟨g,cs,e,hb,hB.past _ _ _ e2,hs⟩
theorem WrT.below (h : WrT w base t size B n) (hb : Below w.heap.size w w') : WrT w' base t size B n:=by
 intro hn
 obtain ⟨g,cs,e,h1,hB,hs⟩:=h hn
 exact ⟨g,cs,e,h1,hB.below hb,hs⟩
theorem WrT.weak {lo : Nat} (h : WrT w base t size B n) (hl : lo ≤ base) : WrT w lo t size B n:=by
 intro hn
 obtain ⟨g,cs,e,h1,hB,hs⟩:=h hn
 exact ⟨g,cs,e,by omega,hB,hs⟩
theorem WrT.cellN (h : WrT w base t size B n) (hz : 0 < size) {k : Nat} (hk : k < n) : ∃ g u,B = some ⟨g,0,none⟩ ∧ base ≤ g ∧ g < w.heap.size ∧ w.cell? ⟨g,k * size,none⟩ = some u ∧ w.frozen? ⟨g,k * size,none⟩ = false ∧ tyOf w g = some t:=by
 obtain ⟨g,cs,e,h1,hB,hs⟩:=h (by omega)
 have hlt : k * size < cs.size:=by
  have h2 : (k + 1) * size ≤ n * size:=Nat.mul_le_mul_right _ hk
  have h3 : (k + 1) * size = k * size + size:=Nat.succ_mul _ _
  omega
 exact ⟨g,cs[k * size]'hlt,e,h1,hB.lt,by rw [hB.cell]; simp [hlt],hB.thaw _,hB.tyOf⟩
theorem Blk.ne_ty {b g : Nat} {cs : Array Value} (h : Blk w b x cs) (hg : Proofs.YtbfphnknkbhpkaaGreatDoor.tyOf w g = some t) (hne : x ≠ t) : b ≠ g:=fun e => by
 subst e
 rw [h.tyOf] at hg
 exact hne (Option.some.inj hg)
end
theorem short_unf {ps : List (Int × Int)} (hl : ps.length ≤ 8) (h : ∀ p ∈ ps,0 ≤ p.1 ∧ p.1 ≤ 63 ∧ 1 ≤ p.2 ∧ p.2 ≤ 20) : (unf ps).length ≤ 160:=by
 have h1:=psum_le ps 20 (by omega) (fun p hp => (h p hp).2.2.2)
 have h2:=unf_len ps (fun p hp => by have:=h p hp; omega)
 have h3 : (20 : Int) * ps.length ≤ 160:=by omega
 have h4 : (ps.length : Int) * 20 ≤ 160:=by omega
 omega
theorem short_cutE {ps : List (Int × Int)} (h0 : inFault ps = 0) (hu : (unf ps).length ≤ 160) : cutE ps 0 (framesR ps) = 0:=by
 rw [framesR_ok h0]
 unfold cutE
 rw [if_pos h0,if_pos ((cutOk_iff _ _).2 ⟨Int.le_refl _,by omega,by omega⟩)]
theorem short_spcE {ps : List (Int × Int)} (h0 : inFault ps = 0) (hu : (unf ps).length ≤ 160) : spcE ps ps (framesR ps) = 0:=by
 rw [framesR_ok h0,spcE_ok (by rw [firstE_two,if_pos h0]; exact h0) (span_ok ⟨by omega,by omega⟩),Int.toNat_natCast]
 have h1:=foldM_len (spliced (unf ps) (unf ps) (unf ps).length)
 have h2 : (spliced (unf ps) (unf ps) (unf ps).length).length = (unf ps).length + (unf ps).length:=by simp [spliced,firsts_len]
 exact sqE_ok (by omega) (by omega)
theorem short_lens {ps : List (Int × Int)} (h0 : inFault ps = 0) (hu : (unf ps).length ≤ 160) : (tidyR ps).length ≤ 1000000 ∧ (cutR ps 0 (framesR ps)).length ≤ 1000000 ∧ (spR ps ps (framesR ps)).length ≤ 1000000:=by
 have hc:=short_cutE h0 hu
 have hs:=short_spcE h0 hu
 rw [framesR_ok h0] at *
 have e1 : cutOk 0 ((unf ps).length : Int) = true:=(cutOk_iff _ _).2 ⟨Int.le_refl _,by omega,by omega⟩
 have e2 : firstE [inFault ps,inFault ps] = 0:=by rw [firstE_two,if_pos h0]; exact h0
 have e3 : spanFault ((unf ps).length : Int) 0 200000 = 0:=span_ok ⟨by omega,by omega⟩
 refine ⟨?_,?_,?_⟩
 ·rw [tidyR_ok h0]; have:=foldM_len (unf ps); omega
 ·rw [cutR_ok h0 e1]
  have:=foldM_len (cutL (unf ps) (0 : Int).toNat ((unf ps).length : Int).toNat)
  have h3 : (cutL (unf ps) (0 : Int).toNat ((unf ps).length : Int).toNat).length ≤ (unf ps).length:=by simp [cutL]
  omega
 ·rw [spcE_ok e2 e3] at hs
  rw [spR_ok e2 e3,sqR_ok hs]
  rw [Int.toNat_natCast]
  have h1:=foldM_len (spliced (unf ps) (unf ps) (unf ps).length)
  have h2 : (spliced (unf ps) (unf ps) (unf ps).length).length = (unf ps).length + (unf ps).length:=by simp [spliced,firsts_len]
  omega
end Go.Proofs.YtbfphnknkbhpkaaGreatDoor
