/- Texts of this seat, laid together: Tx. -/
import Derived.Lib.Split
import Derived.Lib.ItoaMem
import Derived.Lib.Atoi
import Derived.Lib.Join
import Derived.Test.YtijdbbnnkogkjaaGreatDoorBn02
/- Plain laws on strings as lists of bytes: cutting at single bytes, numbers as they are written; no program of Go in sight. -/
namespace Go.Proofs.YtijdbbnnkogkjaaGreatDoor
set_option linter.unusedVariables false
set_option linter.unusedSimpArgs false
open Go.RowKit Go.Sort

def cutAt (c : UInt8) : List UInt8 → List (List UInt8)
 | [] => [[]]
 | b :: l => if b = c then [] :: cutAt c l else match cutAt c l with
  | [] => [[b]]
  | x :: r => (b :: x) :: r
theorem cutAt_ne (c : UInt8) (l : List UInt8) : cutAt c l ≠ [] := by
  cases l with
  | nil => simp [cutAt]
  | cons b l => unfold cutAt; split; · simp
                split <;> simp
theorem cutAt_len (c : UInt8) (l : List UInt8) : (cutAt c l).length = l.count c + 1:=by
 induction l with
 | nil => rfl
 | cons b l ih =>
  unfold cutAt
  by_cases h : b = c
  ·subst h; simp [ih]
  ·rw [if_neg h,List.count_cons_of_ne (by simpa using h)]
   cases hc : cutAt c l with
   | nil => exact absurd hc (cutAt_ne c l)
   | cons x r => rw [hc] at ih; simpa using ih
theorem cutAt_first (c : UInt8) (a l : List UInt8) (h : c ∉ a) : cutAt c (a ++ c :: l) = a :: cutAt c l:=by
 induction a with
 | nil => simp [cutAt]
 | cons b a ih =>
  have hb : ¬ b = c:=fun e => h (by simp [e])
  rw [List.cons_append,cutAt,if_neg hb,ih (fun h' => h (List.mem_cons_of_mem _ h'))]
theorem cutAt_none (c : UInt8) (a : List UInt8) (h : c ∉ a) : cutAt c a = [a]:=by
 induction a with
 | nil => rfl
 | cons b a ih =>
  have hb : ¬ b = c:=fun e => h (by simp [e])
  rw [cutAt,if_neg hb,ih (fun h' => h (List.mem_cons_of_mem _ h'))]
theorem index_none_one {c : UInt8} {s : List UInt8} (h : c ∉ s) : Lib.index s [c] = -1:=by
 induction s with
 | nil => rfl
 | cons b l ih =>
  have hb : ¬ c = b:=fun e => h (by simp [e])
  have hp : [c].isPrefixOf (b :: l) = false:=by simp [List.isPrefixOf,hb]
  rw [Lib.index,hp,ih (fun h' => h (List.mem_cons_of_mem _ h'))]
  rfl
theorem index_one_at {c : UInt8} (a l : List UInt8) (h : c ∉ a) : Lib.index (a ++ c :: l) [c] = a.length:=by
 induction a with
 | nil => simp [Lib.index,List.isPrefixOf]
 | cons b a ih =>
  have hb : ¬ c = b:=fun e => h (by simp [e])
  have hp : [c].isPrefixOf ((b :: a) ++ c :: l) = false:=by simp [List.isPrefixOf,hb]
  rw [List.cons_append] at hp
  rw [List.cons_append,Lib.index,hp,ih (fun h' => h (List.mem_cons_of_mem _ h'))]
  have : ((a.length : Int) == -1) = false:=by rw [beq_eq_false_iff_ne]; omega
  simp [this]
theorem split_first (c : UInt8) (s : List UInt8) : (c ∉ s) ∨ ∃ a l,s = a ++ c :: l ∧ c ∉ a:=by
 by_cases h : c ∈ s
 ·exact .inr (by
   obtain ⟨a,l,h1,h2⟩:=List.eq_append_cons_of_mem h
   exact ⟨a,l,h1,h2⟩)
 ·exact .inl h
theorem splitK_one (c : UInt8) : ∀ (k : Nat) (s : List UInt8),s.count c ≤ k → Lib.splitK [c] 0 k s = cutAt c s
 | 0,s,h => by
  have : c ∉ s:=fun hm => by have:=List.count_pos_iff.2 hm; omega
  rw [cutAt_none c s this]; rfl
 | k + 1,s,h => by
  rcases split_first c s with hn | ⟨a,l,rfl,hn⟩
  ·unfold Lib.splitK; rw [index_none_one hn,if_pos (by decide),cutAt_none c s hn]
  ·have e : (Lib.index (a ++ c :: l) [c] == -1) = false:=by rw [index_one_at a l hn,beq_eq_false_iff_ne]; omega
   have hc : l.count c ≤ k:=by rw [List.count_append,List.count_cons_self] at h; omega
   unfold Lib.splitK
   rw [e,index_one_at a l hn,cutAt_first c a l hn,Int.toNat_natCast]
   simp only [Bool.false_eq_true,if_false,Nat.add_zero,List.length_cons,List.length_nil]
   rw [List.take_left,show a.length + (0 + 1) = (a ++ [c]).length by simp,show a ++ c :: l = (a ++ [c]) ++ l by simp,List.drop_left,splitK_one c k l hc]
theorem count_one (c : UInt8) (s : List UInt8) : Lib.count s [c] = s.count c:=by
 induction h : s.length using Nat.strongRecOn generalizing s with
 | _ n ih =>
  rcases split_first c s with hn | ⟨a,l,rfl,hn⟩
  ·rw [Lib.count_miss (index_none_one hn),List.count_eq_zero_of_not_mem hn]
  ·rw [Lib.count_hit (by simp) (index_one_at a l hn)]
   have e : (a ++ c :: l).drop (a.length + [c].length) = l:=by
    rw [show a ++ c :: l = (a ++ [c]) ++ l by simp]
    exact List.drop_left' (by simp)
   rw [e,ih l.length (by subst h; simp; omega) l rfl,List.count_append,List.count_cons_self,List.count_eq_zero_of_not_mem hn]
   omega
theorem splitB_cells (c : UInt8) (s : List UInt8) : (Lib.splitB ⟨#[c]⟩ 0 (Lib.countB ⟨s.toArray⟩ ⟨#[c]⟩) ⟨s.toArray⟩).map Value.string = strs (cutAt c s):=by
 have h:=Lib.splitB_data ⟨#[c]⟩ 0 (Lib.countB ⟨s.toArray⟩ ⟨#[c]⟩) ⟨s.toArray⟩
 have hc : Lib.countB ⟨s.toArray⟩ ⟨#[c]⟩ = s.count c:=count_one c s
 have h2 : Lib.splitK [c] 0 (Lib.countB ⟨s.toArray⟩ ⟨#[c]⟩) s = cutAt c s:=splitK_one c _ s (by rw [hc]; exact Nat.le_refl _)
 have h3 : (Lib.splitB ⟨#[c]⟩ 0 (Lib.countB ⟨s.toArray⟩ ⟨#[c]⟩) ⟨s.toArray⟩).map (·.data.toList) = cutAt c s:=h.trans h2
 rw [← h3,strs,List.map_map]
 apply List.map_congr_left
 intro b _
 rfl

theorem cutAt_sum (c : UInt8) (l : List UInt8) : ∀ x ∈ cutAt c l,x.length ≤ l.length:=by
 induction l with
 | nil => simp [cutAt]
 | cons b l ih =>
  intro x hx
  unfold cutAt at hx
  by_cases h : b = c
  ·rw [if_pos h] at hx
   rcases List.mem_cons.1 hx with rfl | hx
   ·simp
   ·have:=ih x hx; simp; omega
  ·rw [if_neg h] at hx
   cases hc : cutAt c l with
   | nil => exact absurd hc (cutAt_ne c l)
   | cons y r =>
    rw [hc] at hx ih
    rcases List.mem_cons.1 hx with rfl | hx
    ·have:=ih y (by simp); simp; omega
    ·have:=ih x (List.mem_cons_of_mem _ hx); simp; omega
theorem cutAt_join (c : UInt8) : ∀ (x : List UInt8) (ws : List (List UInt8)),(∀ y ∈ x :: ws,c ∉ y) → cutAt c (x ++ Lib.joinTail [c] ws) = x :: ws
 | x,[],h => by
  have : Lib.joinTail [c] [] = []:=rfl
  rw [this,List.append_nil,cutAt_none c x (h x (by simp))]
 | x,y :: ws,h => by
  have e : Lib.joinTail [c] (y :: ws) = c :: (y ++ Lib.joinTail [c] ws):=by simp [Lib.joinTail]
  rw [e,cutAt_first c x _ (h x (by simp)),cutAt_join c y ws (fun z hz => h z (List.mem_cons_of_mem _ hz))]

def digs (l : List UInt8) : Bool:=l.all fun b => decide (48 ≤ b.toNat) && decide (b.toNat ≤ 57)
def valD (l : List UInt8) : Nat:=l.foldl (fun a b => a * 10 + (b.toNat - 48)) 0
theorem decFrom_digs (l : List UInt8) (a : Nat) (h : digs l = true) : Lib.decFrom a l = some (l.foldl (fun a b => a * 10 + (b.toNat - 48)) a):=by
 induction l generalizing a with
 | nil => rfl
 | cons b l ih =>
  have hb : 48 ≤ b.toNat ∧ b.toNat ≤ 57:=by
   have:=(List.all_eq_true.1 h) b (by simp)
   simpa using this
  have hd : Lib.digitVal b = some (b.toNat - 48):=by unfold Lib.digitVal; rw [if_pos hb]
  have hl : digs l = true:=List.all_eq_true.2 fun x hx => (List.all_eq_true.1 h) x (List.mem_cons_of_mem _ hx)
  rw [Lib.decFrom,hd]
  exact ih _ hl
def unsign (s : List UInt8) : List UInt8:=Lib.trimPrefix s [45]
theorem unsign_neg (l : List UInt8) : unsign (45 :: l) = l:=by simp [unsign,Lib.trimPrefix,Lib.hasPrefix,List.isPrefixOf]
theorem unsign_pos (b : UInt8) (l : List UInt8) (h : b ≠ 45) : unsign (b :: l) = b :: l:=by
 have : ¬ (45 : UInt8) = b:=fun e => h e.symm
 simp [unsign,Lib.trimPrefix,Lib.hasPrefix,List.isPrefixOf,this]
def valS (s : List UInt8) : Int:=if s.head? = some 45 then -(valD (unsign s) : Int) else valD (unsign s)
theorem atoi_digs (s : List UInt8) (h : digs (unsign s) = true) (hn : unsign s ≠ []) : Lib.atoi s = some (valS s):=by
 cases s with
 | nil => exact absurd rfl hn
 | cons b r =>
  have hd : ∀ l : List UInt8,digs l = true → l ≠ [] → Lib.decNat l = some (valD l):=by
   intro l hl hne
   unfold Lib.decNat
   have : l.isEmpty = false:=by cases l <;> simp_all
   rw [this]
   exact decFrom_digs l 0 hl
  by_cases hb : b = 45
  ·subst hb
   rw [unsign_neg] at h hn
   have : Lib.atoi (45 :: r) = (Lib.decNat r).map fun (m : Nat) => -(m : Int):=rfl
   rw [this,hd r h hn]
   simp [valS,unsign_neg]
  ·rw [unsign_pos b r hb] at h hn
   have h43 : b ≠ 43:=by
    rintro rfl
    have:=(List.all_eq_true.1 h) 43 (by simp)
    revert this; decide
   have e : Lib.atoi (b :: r) = (Lib.decNat (b :: r)).map fun (m : Nat) => (m : Int):=by
    have e1 : (b == 45) = false:=by simpa using hb
    have e2 : (b == 43) = false:=by simpa using h43
    simp only [Lib.atoi,e1,e2,Bool.false_eq_true,if_false]
   rw [e,hd _ h hn]
   have : ¬ (some b = some (45 : UInt8)):=fun e => hb (by injection e)
   simp [valS,unsign_pos b r hb,hb]
theorem valD_lt (l : List UInt8) (h : digs l = true) : valD l < 10 ^ l.length:=by
 suffices H : ∀ (l : List UInt8) (a : Nat),digs l = true → l.foldl (fun a b => a * 10 + (b.toNat - 48)) a < (a + 1) * 10 ^ l.length by
  have:=H l 0 h
  simpa [valD] using this
 intro l
 induction l with
 | nil => intro a _; simp
 | cons b l ih =>
  intro a h
  have hb : 48 ≤ b.toNat ∧ b.toNat ≤ 57:=by
   have:=(List.all_eq_true.1 h) b (by simp)
   simpa using this
  have hl : digs l = true:=List.all_eq_true.2 fun x hx => (List.all_eq_true.1 h) x (List.mem_cons_of_mem _ hx)
  have:=ih (a * 10 + (b.toNat - 48)) hl
  have h2 : (a * 10 + (b.toNat - 48) + 1) * 10 ^ l.length ≤ ((a + 1) * 10) * 10 ^ l.length:=Nat.mul_le_mul_right _ (by omega)
  rw [List.length_cons,Nat.pow_succ,Nat.mul_comm (10 ^ l.length) 10,← Nat.mul_assoc]
  rw [List.foldl_cons]
  omega
theorem valD_app (l : List UInt8) (b : UInt8) : valD (l ++ [b]) = valD l * 10 + (b.toNat - 48):=by simp [valD]
theorem ofNat_digit {d : Nat} (h : d < 10) : (UInt8.ofNat (48 + d)).toNat = 48 + d:=by rw [UInt8.toNat_ofNat']; omega
theorem decDigits_digs (u : Nat) : digs (Lib.decDigits u) = true ∧ valD (Lib.decDigits u) = u:=by
 induction u using Nat.strongRecOn with
 | _ u ih =>
  rw [Lib.decDigits]
  by_cases h : u < 10
  ·rw [dif_pos h]
   refine ⟨?_,?_⟩
   ·simp [digs,ofNat_digit h]; omega
   ·simp only [valD,List.foldl_cons,List.foldl_nil,ofNat_digit h]; omega
  ·rw [dif_neg h]
   obtain ⟨h1,h2⟩:=ih (u / 10) (by omega)
   have hm : u % 10 < 10:=by omega
   refine ⟨?_,?_⟩
   ·unfold digs at h1 ⊢
    rw [List.all_append,h1,List.all_cons,ofNat_digit hm]
    simp; omega
   ·rw [valD_app,h2,ofNat_digit hm]; omega
theorem decDigits_ne (u : Nat) : Lib.decDigits u ≠ []:=by
 intro h
 have:=Lib.decDigits_length u
 rw [h] at this
 have:=Lib.nDigits_pos u
 simp at *; omega
theorem decDigits_valD (l : List UInt8) (h : digs l = true) (hn : l ≠ []) (h0 : l.head? ≠ some 48 ∨ l.length = 1) : Lib.decDigits (valD l) = l:=by
 induction hk : l.length using Nat.strongRecOn generalizing l with
 | _ k ih =>
  rcases List.eq_nil_or_concat l with rfl | ⟨m,b,rfl⟩
  ·exact absurd rfl hn
  ·rw [List.concat_eq_append] at *
   have hb : 48 ≤ b.toNat ∧ b.toNat ≤ 57:=by
    have:=(List.all_eq_true.1 h) b (by simp)
    simpa using this
   have hm : digs m = true:=List.all_eq_true.2 fun x hx => (List.all_eq_true.1 h) x (by simp [hx])
   have hbn : UInt8.ofNat (48 + (b.toNat - 48)) = b:=by
    rw [show 48 + (b.toNat - 48) = b.toNat by omega]; exact UInt8.ofNat_toNat
   rw [valD_app]
   cases m with
   | nil =>
    have : valD [] = 0:=rfl
    rw [this,Nat.zero_mul,Nat.zero_add,Lib.decDigits_one (by omega),hbn]; rfl
   | cons a m =>
    have hh : (a :: m).head? ≠ some 48 ∨ (a :: m).length = 1:=by
     left
     rcases h0 with h0 | h0
     ·simpa using h0
     ·simp at h0
    have hpos : 1 ≤ valD (a :: m):=by
     have ha : 48 ≤ a.toNat ∧ a.toNat ≤ 57:=by
      have:=(List.all_eq_true.1 h) a (by simp)
      simpa using this
     have ha0 : a ≠ 48:=by
      rcases h0 with h0 | h0
      ·simpa using h0
      ·simp at h0
     have ha1 : a.toNat ≠ 48:=fun e => ha0 (UInt8.toNat_inj.1 (by simpa using e))
     have mono : ∀ (l : List UInt8) (x : Nat),x ≤ l.foldl (fun a b => a * 10 + (b.toNat - 48)) x:=by
      intro l
      induction l with
      | nil => intro x; exact Nat.le_refl _
      | cons c l ih2 => intro x; rw [List.foldl_cons]; exact Nat.le_trans (by omega) (ih2 _)
     have:=mono m (0 * 10 + (a.toNat - 48))
     unfold valD
     rw [List.foldl_cons]
     omega
    have hr:=ih (a :: m).length (by subst hk; simp) (a :: m) hm (by simp) hh rfl
    rw [Lib.decDigits,dif_neg (by omega)]
    have e1 : (valD (a :: m) * 10 + (b.toNat - 48)) / 10 = valD (a :: m):=by omega
    have e2 : (valD (a :: m) * 10 + (b.toNat - 48)) % 10 = b.toNat - 48:=by omega
    rw [e1,e2,hr,hbn]
def numB (s : List UInt8) (most : Nat) : Bool :=
 digs (unsign s) && decide (1 ≤ (unsign s).length) && decide ((unsign s).length ≤ most) && !(decide ((unsign s).head? = some 48) && (decide (1 < (unsign s).length) || decide ((unsign s).length < s.length)))
theorem unsign_le (s : List UInt8) : (unsign s).length ≤ s.length ∧ s.length ≤ (unsign s).length + 1:=by
 unfold unsign Lib.trimPrefix
 split
 ·simp; omega
 ·omega
theorem itoa_valS (s : List UInt8) (h : digs (unsign s) = true) (hn : unsign s ≠ []) : decide (Lib.itoa (valS s) = s) = !(decide ((unsign s).head? = some 48) && (decide (1 < (unsign s).length) || decide ((unsign s).length < s.length))):=by
 cases s with
 | nil => exact absurd rfl hn
 | cons b r =>
  by_cases hb : b = 45
  ·subst hb
   rw [unsign_neg] at h hn
   have hv : valS (45 :: r) = -(valD r : Int):=by simp [valS,unsign_neg]
   rw [hv,unsign_neg]
   have hlt : decide (r.length < (45 :: r).length) = true:=by simp
   rw [hlt,Bool.or_true,Bool.and_true]
   by_cases h0 : r.head? = some 48
   ·rw [decide_eq_true h0]
    refine decide_eq_false fun e => ?_
    by_cases hz : valD r = 0
    ·rw [hz] at e
     have : Lib.itoa (-((0 : Nat) : Int)) = [48]:=by decide +kernel
     rw [this] at e
     injection e with e1 _; revert e1; decide
    ·rw [Lib.itoa_neg _ (by omega)] at e
     have e2 : Lib.decDigits (valD r) = r:=by injection e
     cases r with
     | nil => exact hn rfl
     | cons c t =>
      have hc : c = 48:=by simpa using h0
      subst hc
      by_cases ht : t = []
      ·subst ht; exact hz rfl
      ·have hv2 : valD (48 :: t) = valD t:=by simp [valD]
       have hl : (Lib.decDigits (valD (48 :: t))).length ≤ t.length:=by
        rw [hv2,Lib.decDigits_length]
        have hlt:=valD_lt t (List.all_eq_true.2 fun x hx => (List.all_eq_true.1 h) x (List.mem_cons_of_mem _ hx))
        have hp : 1 ≤ t.length:=by cases t with | nil => exact absurd rfl ht | cons _ _ => simp
        rcases Nat.lt_or_ge t.length (Lib.nDigits (valD t)) with hg | hg
        ·exfalso
         have key : ∀ (k u : Nat),u < 10 ^ k → 1 ≤ k → Lib.nDigits u ≤ k:=by
          intro k
          induction k with
          | zero => intro u _ h; omega
          | succ k ihk =>
           intro u hu _
           by_cases hu10 : u < 10
           ·rw [Lib.nDigits_small hu10]; omega
           ·rw [Lib.nDigits_big hu10]
            have : u / 10 < 10 ^ k:=by rw [Nat.pow_succ] at hu; omega
            cases k with
            | zero => simp at this; omega
            | succ k => have:=ihk (u / 10) this (by omega); omega
         have:=key t.length (valD t) hlt hp
         omega
        ·exact hg
       have h3 : (48 :: t : List UInt8).length ≤ t.length:=by rw [← e2]; exact hl
       simp only [List.length_cons] at h3
       omega
   ·rw [decide_eq_false h0]
    refine decide_eq_true ?_
    have hd : Lib.decDigits (valD r) = r:=decDigits_valD r h hn (.inl h0)
    have hz : 1 ≤ valD r:=by
     rcases Nat.eq_zero_or_pos (valD r) with hz | hz
     ·exfalso
      rw [hz] at hd
      have : Lib.decDigits 0 = [48]:=by decide +kernel
      rw [this] at hd
      rw [← hd] at h0; exact h0 rfl
     ·exact hz
    rw [Lib.itoa_neg _ hz,hd]
  ·rw [unsign_pos b r hb] at h hn ⊢
   have hv : valS (b :: r) = (valD (b :: r) : Int):=by simp [valS,unsign_pos b r hb,hb]
   rw [hv,Lib.itoa_nonneg]
   have hlt : decide ((b :: r).length < (b :: r).length) = false:=by simp
   rw [hlt,Bool.or_false]
   by_cases h0 : b = 48 ∧ r ≠ []
   ·obtain ⟨rfl,hr⟩:=h0
    have hp : 1 < (48 :: r).length:=by cases r with | nil => exact absurd rfl hr | cons _ _ => simp
    have hh : ((48 : UInt8) :: r).head? = some 48:=rfl
    rw [decide_eq_true hp,decide_eq_true hh]
    refine decide_eq_false fun e => ?_
    have hv2 : valD (48 :: r) = valD r:=by simp [valD]
    have hl : (Lib.decDigits (valD (48 :: r))).length ≤ r.length:=by
     rw [hv2,Lib.decDigits_length]
     have hlt:=valD_lt r (List.all_eq_true.2 fun x hx => (List.all_eq_true.1 h) x (List.mem_cons_of_mem _ hx))
     have hp : 1 ≤ r.length:=by simp at hp; omega
     have key : ∀ (k u : Nat),u < 10 ^ k → 1 ≤ k → Lib.nDigits u ≤ k:=by
      intro k
      induction k with
      | zero => intro u _ h; omega
      | succ k ihk =>
       intro u hu _
       by_cases hu10 : u < 10
       ·rw [Lib.nDigits_small hu10]; omega
       ·rw [Lib.nDigits_big hu10]
        have : u / 10 < 10 ^ k:=by rw [Nat.pow_succ] at hu; omega
        cases k with
        | zero => simp at this; omega
        | succ k => have:=ihk (u / 10) this (by omega); omega
     exact key r.length (valD r) hlt hp
    have h3 : (48 :: r : List UInt8).length ≤ r.length:=by rw [← e]; exact hl
    simp only [List.length_cons] at h3
    omega
   ·have hcond : (b :: r).head? ≠ some 48 ∨ (b :: r).length = 1:=by
     by_cases hb8 : b = 48
     ·right
      have : r = []:=Classical.byContradiction fun hr => h0 ⟨hb8,hr⟩
      simp [this]
     ·left; simpa using hb8
    have hd : Lib.decDigits (valD (b :: r)) = b :: r:=decDigits_valD _ h hn hcond
    rw [decide_eq_true hd]
    rcases hcond with hc | hc
    ·rw [decide_eq_false hc]; rfl
    ·have : ¬ 1 < (b :: r).length:=by omega
     rw [decide_eq_false this,Bool.and_false]; rfl
end Go.Proofs.YtijdbbnnkogkjaaGreatDoor
