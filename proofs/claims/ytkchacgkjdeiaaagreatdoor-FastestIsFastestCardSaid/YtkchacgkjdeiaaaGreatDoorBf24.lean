/- Texts of this seat, laid together: Hx Tg It GfC. -/
import Derived.Test.YtkchacgkjdeiaaaGreatDoorBf13
import Derived.Test.YtkchacgkjdeiaaaGreatDoorBf15
import Derived.Test.YtkchacgkjdeiaaaGreatDoorBf22
import Derived.Test.YtkchacgkjdeiaaaGreatDoorBf23
import Derived.Test.YtkchacgkjdeiaaaGreatDoorBf04
import Derived.Test.YtkchacgkjdeiaaaGreatDoorBf02
import Derived.Test.YtkchacgkjdeiaaaGreatDoorBf12
/- Plain laws: what is written of a history. -/
set_option linter.unusedVariables false
set_option linter.unusedSimpArgs false
namespace Go.Proofs.YtkchacgkjdeiaaaGreatDoor
open Go.RowKit Go.Sort

end Go.Proofs.YtkchacgkjdeiaaaGreatDoor
/- Plain laws of texts: numbers as words, words as lines, lines as a text. -/
namespace Go.Proofs.YtkchacgkjdeiaaaGreatDoor
open Go.RowKit Go.Sort

end Go.Proofs.YtkchacgkjdeiaaaGreatDoor
/- Plain laws: an input as text; what is written is read again, what is read is written so. -/
namespace Go.Proofs.YtkchacgkjdeiaaaGreatDoor
open Go.RowKit Go.Sort

def Adj (ps : List (Int × Int)) : Prop:=∀ i (h : i + 1 < ps.length),(ps[i]'(by omega)).1 ≠ ps[i + 1].1
theorem tidyM_good {ps : List (Int × Int)} (h : ∀ p ∈ ps,0 ≤ p.1 ∧ p.1 ≤ 63 ∧ 1 ≤ p.2) : (∀ p ∈ tidyM ps,0 ≤ p.1 ∧ p.1 ≤ 63 ∧ 1 ≤ p.2) ∧ Adj (tidyM ps):=by
 have H : ∀ k,k ≤ ps.length → (∀ p ∈ tidyM (ps.take k),0 ≤ p.1 ∧ p.1 ≤ 63 ∧ 1 ≤ p.2) ∧ Adj (tidyM (ps.take k)):=by
  intro k
  induction k with
  | zero => intro _; exact ⟨fun p hp => by simp [tidyM] at hp,fun i hi => by simp [tidyM] at hi⟩
  | succ k ih =>
   intro hk;obtain ⟨i1,i2⟩:=ih (by omega);have hp:=h ps[k] (List.getElem_mem _);rw [tidyM_take ps k hk];generalize tidyM (ps.take k) = out at *;generalize ps[k] = p at *
   by_cases h0 : out.length = 0
   ·have : out = []:=List.eq_nil_of_length_eq_zero h0
    subst this;rw [fadd_first _ _ (by omega)];exact ⟨fun q hq => by simp at hq; subst hq; exact hp,fun i hi => by simp at hi⟩
   ·obtain ⟨m,hm⟩ : ∃ m,m + 1 = out.length:=⟨out.length - 1,by omega⟩
    by_cases he : (out[m]'(by omega)).1 = p.1
    ·rw [fadd_bump out p.1 p.2 (by omega) m hm he]
     have hq:=i1 (out[m]'(by omega)) (List.getElem_mem _);refine ⟨fun q hq' => ?_,fun i hi => ?_⟩
     ·rcases List.mem_or_eq_of_mem_set hq' with h3 | h3
      ·exact i1 q h3
      ·subst h3; exact ⟨hq.1,hq.2.1,by show 1 ≤ _ + _; omega⟩
     ·have hi' : i + 1 < out.length:=by simpa using hi
      have:=i2 i hi';rw [List.getElem_set_ne (by omega),List.getElem_set]
      split
      ·rename_i h5; subst h5; exact this
      ·exact this
    ·rw [fadd_push out p.1 p.2 (by omega) m hm he]
     refine ⟨fun q hq' => ?_,fun i hi => ?_⟩
     ·rcases List.mem_append.1 hq' with h3 | h3
      ·exact i1 q h3
      ·simp at h3; subst h3; exact hp
     ·rw [List.length_append,List.length_singleton] at hi
      rw [List.getElem_append_left (by omega)]
      by_cases h6 : i + 1 < out.length
      ·rw [List.getElem_append_left h6]; exact i2 i h6
      ·rw [List.getElem_append_right (by omega)]
       have : i = m:=by omega
       subst this
       simpa using he
 have:=H ps.length (Nat.le_refl _)
 rwa [List.take_length] at this
theorem tidy_right {ps : List (Int × Int)} (h : inFault ps = 0) : inFault (tidyR ps) = 0 ∧ Adj (tidyR ps) ∧ tidyR ps = tidyM ps:=by
 obtain ⟨h1,h2,h3⟩:=inFault_ok h
 have e : tidyR ps = tidyM ps:=by rw [tidyR_ok h,fold_unf ps (fun p hp => by have:=h2 p hp; omega)]
 obtain ⟨g1,g2⟩:=tidyM_good (ps:=ps) (fun p hp => by have:=h2 p hp; exact ⟨this.1,this.2.1,this.2.2.1⟩);have hs:=tidyM_psum ps;refine ⟨?_,by rw [e]; exact g2,e⟩
 rw [e,inFault_good _ (Nat.le_trans (tidyM_len ps) h1) (fun p hp => by
  have a:=g1 p hp;have b:=mem_le_psum (tidyM ps) (fun q hq => by have:=g1 q hq; omega) p hp
  exact (vld_iff p).2 ⟨a.1,a.2.1,a.2.2,by omega⟩),hs,if_neg (by omega)]
end Go.Proofs.YtkchacgkjdeiaaaGreatDoor
/- Plays are runs, runs are plays; what is found as pieces, plain. -/
namespace Go.Proofs.YtkchacgkjdeiaaaGreatDoor
open Go.RowKit

section
variable {rows : List (List UInt8)} {W : Nat}
abbrev nxG (rows : List (List UInt8)) (W : Nat) : GS → Int → GS := fun s h => stepF rows W h s
theorem playF_runs (s0 : GS) : ∀ (xs : List Int) (s : GS) (p0 : List Int),s.fin = 0 → RunG (nxG rows W) s0 p0 s → ∀ t,(playF rows W s xs).getLast? = some t → RunG (nxG rows W) s0 (p0 ++ xs.take (playF rows W s xs).length) t
 | [],_,_,_,_,t,h => by simp [playF] at h
 | a :: xs,s,p0,hf,hr,t,h => by
  have h1 : RunG (nxG rows W) s0 (p0 ++ [a]) (stepF rows W a s):=.snoc a hr hf
  by_cases hz : (stepF rows W a s).fin = 0
  ·have e : playF rows W s (a :: xs) = stepF rows W a s :: playF rows W (stepF rows W a s) xs:=by rw [playF,if_pos hz]
   rw [e] at h ⊢
   cases hl : (playF rows W (stepF rows W a s) xs).getLast? with
   | none =>
    have : playF rows W (stepF rows W a s) xs = []:=List.getLast?_eq_none_iff.1 hl;rw [this] at h ⊢
    simp at h
    subst h
    simpa using h1
   | some t' =>
    rw [List.getLast?_cons,hl] at h
    simp at h
    subst h;have:=playF_runs s0 xs _ _ hz h1 _ hl
    simpa [List.take_succ_cons] using this
  ·have e : playF rows W s (a :: xs) = [stepF rows W a s]:=by rw [playF,if_neg hz]
   rw [e] at h ⊢
   simp at h
   subst h
   simpa using h1
theorem lastG_some {l : List GS} {s t : GS} (h : lastG l s = t) : l = [] ∧ t = s ∨ l.getLast? = some t:=by
 unfold lastG at h
 cases hl : l.getLast? with
 | none => exact .inl ⟨List.getLast?_eq_none_iff.1 hl,by rw [← h,List.getLastD_eq_getLast?,hl]; rfl⟩
 | some x => exact .inr (by rw [← h,List.getLastD_eq_getLast?,hl]; rfl)
theorem play_run {s0 : GS} {xs : List Int} (h0 : s0.fin = 0) (h : (lastG (playF rows W s0 xs) s0).fin = 1) : ∃ p s,RunG (nxG rows W) s0 p s ∧ s.fin = 1 ∧ p.length = (playF rows W s0 xs).length:=by
 rcases lastG_some (rfl : lastG (playF rows W s0 xs) s0 = _) with ⟨_,e⟩ | e
 ·rw [e] at h; omega
 ·refine ⟨_,_,playF_runs s0 xs s0 [] h0 .nil _ e,h,?_⟩
  have:=@playF_len rows W xs s0
  simp; omega
theorem run_plays {s0 : GS} (h0 : s0.fin = 0) {p : List Int} {s : GS} (h : RunG (nxG rows W) s0 p s) : ((playF rows W s0 p).length = p.length ∧ lastG (playF rows W s0 p) s0 = s) ∧ (s.fin = 0 → ∀ t,playF rows W s0 (p ++ t) = playF rows W s0 p ++ playF rows W s t):=by
 induction h with
 | nil => exact ⟨⟨rfl,rfl⟩,fun _ t => rfl⟩
 | @snoc p s x h1 hf ih =>
  obtain ⟨⟨i1,i2⟩,i3⟩:=ih
  have e1 : playF rows W s0 (p ++ [x]) = playF rows W s0 p ++ [stepF rows W x s]:=by
   rw [i3 hf [x]];show _ ++ (stepF rows W x s :: if (stepF rows W x s).fin = 0 then playF rows W (stepF rows W x s) [] else []) = _
   split <;> rfl
  refine ⟨⟨by rw [e1]; simp [i1],by rw [e1]; unfold lastG; simp⟩,fun hz t => ?_⟩;have hz : (stepF rows W x s).fin = 0:=hz;rw [e1,List.append_assoc,List.singleton_append,i3 hf (x :: t)];show _ ++ (stepF rows W x s :: if (stepF rows W x s).fin = 0 then playF rows W (stepF rows W x s) t else []) = _;rw [if_pos hz]; simp
end
def oneP (q : List Int) : List (Int × Int):=q.map fun h => (h,1)
theorem unf_oneP (q : List Int) : unf (oneP q) = q:=by
 unfold unf oneP
 induction q with
 | nil => rfl
 | cons a q ih => rw [List.map_cons,List.flatMap_cons,ih]; rfl
theorem psum_oneP (q : List Int) : psum (oneP q) = q.length:=by
 have:=unf_len (oneP q) (fun p hp => by
  obtain ⟨h,_,rfl⟩:=List.mem_map.1 hp;show (0 : Int) ≤ 1
  decide)
 rw [unf_oneP] at this;exact this.symm
theorem oneP_right {q : List Int} (hl : q.length ≤ 5000) (ht : ∀ h ∈ q,h ∈ triedL) : inFault (oneP q) = 0:=by
 have hl' : (oneP q).length ≤ 5000:=by unfold oneP; rw [List.length_map]; exact hl
 rw [inFault_good (oneP q) hl' (fun p hp => (vld_iff p).2 (by
  obtain ⟨h,hh,rfl⟩:=List.mem_map.1 hp;have:=ht h hh;simp only [triedL,List.mem_cons,List.not_mem_nil,or_false] at this;simp only
  omega)),if_neg (by rw [psum_oneP]; omega)]
theorem tidy_oneP {q : List Int} (hl : q.length ≤ 5000) (ht : ∀ h ∈ q,h ∈ triedL) : inFault (tidyM (oneP q)) = 0 ∧ unf (tidyM (oneP q)) = q:=by
 have h0:=oneP_right hl ht;obtain ⟨h1,_,h2⟩:=tidy_right h0;rw [← h2];refine ⟨h1,?_⟩;rw [tidyR_ok h0,unf_foldM,unf_oneP]
end Go.Proofs.YtkchacgkjdeiaaaGreatDoor
