/- Texts of this seat, laid together: Num Int. -/
import Derived.Lib.ConvBytes
import Derived.Handy
import Derived.Test.YtijdbbnnkogkjaaGreatDoorBk20
import Derived.Test.YtijdbbnnkogkjaaGreatDoorBk16
import Derived.Test.YtijdbbnnkogkjaaGreatDoorBk18
import Derived.Test.YtijdbbnnkogkjaaGreatDoorBk14
import Derived.Test.YtijdbbnnkogkjaaGreatDoorBk12
/- Numbers as words: the walks of base.Number and splitref1.Int. -/
namespace Go.Proofs.YtijdbbnnkogkjaaGreatDoor
set_option linter.unusedVariables false
set_option linter.unusedSimpArgs false
open Go.RowKit Go.Sort

theorem trimMinus_any (l : List UInt8) (w : World) :
  Calls Tryz.prog 123 #[encStr l,.string ⟨#[45]⟩] w fun e w' => e = .returned (encStr (unsign l)) ∧ w' = w :=
 Tryz.strings_TrimPrefix ⟨l.toArray⟩ ⟨#[45]⟩ w
theorem below_bytesWorld (w : World) (e : TypeId) (s : ByteArray) : Below w.heap.size w (Lib.bytesWorld w e s):=by
 unfold Lib.bytesWorld
 exact Lib.below_freeze ((Below.drew (Below.refl _ _)).alloc (Nat.le_refl _) _) (Nat.le_refl _) _
theorem atoi_any (s : List UInt8) (w : World) (hl : s.length ≤ 18) (h : digs (unsign s) = true) (hn : unsign s ≠ []) :
  Calls Tryz.prog 124 #[encStr s] w fun e w' => e = .returned (.tuple #[.int .i64 (valS s),.nilIface]) ∧ Below w.heap.size w w':=by
 refine (Tryz.strconv_Atoi ⟨s.toArray⟩ (valS s) hl (atoi_digs s h hn) w).mono ?_
 rintro e w' ⟨rfl,t,rfl⟩
 exact ⟨rfl,below_bytesWorld _ _ _⟩
def numV (s : List UInt8) (most : Nat) : Int:=if numB s most then valS s else 0
theorem numB_short {s : List UInt8} {most : Nat} (h : numB s most = true) : s.length ≤ most + 1 ∧ digs (unsign s) = true ∧ unsign s ≠ []:=by
 unfold numB at h
 simp only [Bool.and_eq_true,decide_eq_true_eq] at h
 have:=unsign_le s
 exact ⟨by omega,h.1.1.1,fun e => by rw [e] at h; simp at h⟩
set_option maxHeartbeats 4000000 in
set_option maxRecDepth 100000 in
theorem number_any (l : List UInt8) (m : Nat) (w : World) (hm : m ≤ 17) (hl : l.length ≤ 1000000000) :
  Calls Tryz.prog 120 #[encStr l,.int .i64 m] w fun e w' => e = .returned (.tuple #[.int .i64 (numV l m),.bool (numB l m)]) ∧ Below w.heap.size w w':=by
 have hu:=unsign_le l
 obtain ⟨t,ht⟩ : ∃ t : ByteArray,t = ⟨(unsign l).toArray⟩:=⟨_,rfl⟩
 have hts : t.size = (unsign l).length:=by subst ht; simp [ByteArray.size]
 have hget : ∀ j (h : j < t.size) (h' : j < (unsign l).length),t[j] = (unsign l)[j]:=by
  subst ht; intro j h h'; simp [ByteArray.getElem_eq_getElem_data]
 have FALSE : Hid (numB l m = false → ∀ w,(Ending.returned (.tuple #[.int .i64 0,.bool false]) = Ending.returned (.tuple #[.int .i64 (numV l m),.bool (numB l m)])) ∧ Below w.heap.size w w):=Lib.hid (fun h w => ⟨by unfold numV; rw [h]; rfl,Below.refl _ _⟩)
 have HL : Hid (digs (unsign l) = false → numB l m = false):=Lib.hid (fun h => by unfold numB; rw [h]; rfl)
 by_cases h0 : (unsign l).length = 0
 ·have HF:=Lib.hid (show numB l m = false by unfold numB; rw [h0]; simp)
  have e1 : (t.toList == []) = true:=by rw [ByteArray.toList_eq]; subst ht; simpa using h0
  clear h0 hu hget hts
  go_enter Tryz.func120,Tryz.ntmps120
  go_wp2_with fail
  refine (trimMinus_any l _).mono ?_
  rintro e w1 ⟨rfl,rfl⟩
  simp only [encStr]
  rw [← ht]
  clear ht
  go_wp2_with fail
  go_returns
  exact FALSE.out HF.out _
 have e1 : (t.toList == []) = false:=by rw [ByteArray.toList_eq]; subst ht; simpa using h0
 have p0 : 0 < t.size:=by omega
 by_cases h1 : ¬ (unsign l).length ≤ m
 ·have HF:=Lib.hid (show numB l m = false by unfold numB; rw [decide_eq_false h1]; simp)
  have e2 : decide (m < t.size) = true:=by simp; omega
  clear h0 h1 hu hget hts
  go_enter Tryz.func120,Tryz.ntmps120
  go_wp2_with fail
  refine (trimMinus_any l _).mono ?_
  rintro e w1 ⟨rfl,rfl⟩
  simp only [encStr]
  rw [← ht]
  clear ht
  go_wp2_with fail
  go_returns
  exact FALSE.out HF.out _
 have h1 : (unsign l).length ≤ m:=Classical.not_not.1 h1
 have e2 : decide (m < t.size) = false:=by simp; omega
 have hh : (unsign l).head? = some t[0]:=by rw [List.head?_eq_getElem?,List.getElem?_eq_getElem (by omega),hget 0 p0 (by omega)]
 by_cases h2 : t[0] = 48 ∧ (1 < (unsign l).length ∨ (unsign l).length < l.length)
 ·have HF:=Lib.hid (show numB l m = false by
   unfold numB
   rw [hh,h2.1]
   have : (decide (1 < (unsign l).length) || decide ((unsign l).length < l.length)) = true:=by simpa using h2.2
   rw [this]; simp)
  have e3 : ((t[0].toNat : Int) == 48) = true:=by rw [h2.1]; rfl
  obtain ⟨_,h2⟩:=h2
  by_cases h3 : 1 < (unsign l).length
  ·have e4 : decide ((1 : Int) < (t.size : Int)) = true:=by simp; omega
   clear h0 h1 hu hget h2 h3 hh hts
   go_enter Tryz.func120,Tryz.ntmps120
   go_wp2_with fail
   refine (trimMinus_any l _).mono ?_
   rintro e w1 ⟨rfl,rfl⟩
   simp only [encStr]
   rw [← ht]
   clear ht
   go_wp2_with fail
   go_returns
   exact FALSE.out HF.out _
  ·have e4 : decide ((1 : Int) < (t.size : Int)) = false:=by simp; omega
   have e5 : decide (t.size < l.length) = true:=by simp; omega
   clear h0 h1 hu hget h2 h3 hh hts
   go_enter Tryz.func120,Tryz.ntmps120
   go_wp2_with fail
   refine (trimMinus_any l _).mono ?_
   rintro e w1 ⟨rfl,rfl⟩
   simp only [encStr]
   rw [← ht]
   clear ht
   go_wp2_with fail
   go_returns
   exact FALSE.out HF.out _
 have HK : Hid (digs (unsign l) = true → numB l m = true):=Lib.hid (fun hd => by
  unfold numB
  rw [hd,hh,decide_eq_true h1,decide_eq_true (show 1 ≤ (unsign l).length by omega)]
  have : (decide (some t[0] = some 48) && (decide (1 < (unsign l).length) || decide ((unsign l).length < l.length))) = false:=by
   cases hc : (decide (some t[0] = some 48) && (decide (1 < (unsign l).length) || decide ((unsign l).length < l.length)))
   ·rfl
   ·simp only [Bool.and_eq_true,decide_eq_true_eq,Bool.or_eq_true,Option.some.injEq] at hc
    exact absurd hc h2
  rw [this]; rfl)
 have HN : Hid (∀ k (hk : k < t.size),¬ (48 ≤ t[k].toNat ∧ t[k].toNat ≤ 57) → numB l m = false):=Lib.hid (fun k hk hb => HL.out (by
  rw [digs,List.all_eq_false]
  refine ⟨(unsign l)[k]'(by omega),List.getElem_mem _,?_⟩
  rw [← hget k hk (by omega)]
  simpa using hb))
 have HY : Hid ((∀ k (hk : k < t.size),48 ≤ t[k].toNat ∧ t[k].toNat ≤ 57) → digs (unsign l) = true):=Lib.hid (fun hd => by
  rw [digs,List.all_eq_true]
  intro x hx
  obtain ⟨k,hk,rfl⟩:=List.mem_iff_getElem.1 hx
  have:=hd k (by omega)
  rw [hget k (by omega) hk] at this
  simpa using this)
 have HU : Hid (unsign l ≠ [] ∧ l.length ≤ 18):=Lib.hid ⟨fun e => h0 (by rw [e]; rfl),by omega⟩
 have hc : ((t[0].toNat : Int) == 48) = false ∨ (((t[0].toNat : Int) == 48) = true ∧ decide ((1 : Int) < (t.size : Int)) = false ∧ decide (t.size < l.length) = false):=by
  by_cases h48 : t[0] = 48
  ·right
   have h3 : ¬ (1 < (unsign l).length ∨ (unsign l).length < l.length):=fun h => h2 ⟨h48,h⟩
   exact ⟨by rw [h48]; rfl,by simp; omega,by simp; omega⟩
  ·left
   rw [beq_eq_false_iff_ne]
   intro h
   exact h48 (UInt8.toNat_inj.1 (by simpa using Int.ofNat_inj.1 h))
 have hsz : t.size ≤ 20:=by omega
 clear h0 h1 h2 hh hu hget hts
 rcases hc with e3 | ⟨e3,e4,e5⟩
 all_goals
  go_enter Tryz.func120,Tryz.ntmps120
  go_wp2_with fail
  refine (trimMinus_any l _).mono ?_
  rintro e w1 ⟨rfl,rfl⟩
  simp only [encStr]
  rw [← ht]
  clear ht
  go_wp2_with fail
  go_loop [39] (fun i => ∃ k : Nat,k ≤ t.size ∧ i = .int .i64 k ∧ Hid (∀ j (hj : j < t.size),j < k → 48 ≤ t[j].toNat ∧ t[j].toNat ≤ 57)) (fun i => t.size - (intOf i).toNat)
  case atStart => exact ⟨0,Nat.zero_le _,rfl,Lib.hid (fun _ _ h => absurd h (Nat.not_lt_zero _))⟩
  case round =>
   obtain ⟨k,hk,rfl,HA⟩:=hrel
   by_cases hlt : k < t.size
   ·by_cases hb1 : 48 ≤ t[k].toNat
    ·have d1 : decide ((t[k].toNat : Int) < 48) = false:=by simp; omega
     by_cases hb2 : t[k].toNat ≤ 57
     ·have d2 : decide ((57 : Int) < (t[k].toNat : Int)) = false:=by simp; omega
      have HA' : Hid (∀ j (hj : j < t.size),j < k + 1 → 48 ≤ t[j].toNat ∧ t[j].toNat ≤ 57):=Lib.hid (fun j hj hjk => by
       rcases Nat.lt_or_ge j k with h | h
       ·exact HA.out j hj h
       ·have : j = k:=by omega
        subst this; exact ⟨hb1,hb2⟩)
      clear hb1 hb2
      go_wp2_with fail
      go_round
      case rel => exact ⟨k + 1,by omega,by go_num,HA'⟩
      case measure => simp [intOf]; omega
     ·have d2 : decide ((57 : Int) < (t[k].toNat : Int)) = true:=by simp; omega
      have HF:=Lib.hid (HN.out k hlt (by omega))
      clear hb1 hb2
      go_wp2_with fail
      go_returns
      exact FALSE.out HF.out _
    ·have d1 : decide ((t[k].toNat : Int) < 48) = true:=by simp; omega
     have HF:=Lib.hid (HN.out k hlt (by omega))
     clear hb1
     go_wp2_with fail
     go_returns
     exact FALSE.out HF.out _
   ·have HD:=Lib.hid (HY.out (fun j hj => HA.out j hj (by omega)))
    have HT:=Lib.hid (HK.out HD.out)
    go_wp2_with fail
    refine (atoi_any l _ HU.out.2 HD.out HU.out.1).mono ?_
    rintro e w2 ⟨rfl,hb⟩
    go_wp2_with fail
    go_quiet (fail)
    go_wp2_with fail
    go_returns
    exact ⟨by unfold numV; rw [HT.out]; rfl,(by repeat (first | exact hb | refine Below.alloc ?_ (by first | omega | (simp; omega)) _ | refine below_drewN' ?_ _ | refine Below.drew ?_))⟩
end Go.Proofs.YtijdbbnnkogkjaaGreatDoor
/- The walk of splitref1.Int: it takes the words that base.Number takes. -/
namespace Go.Proofs.YtijdbbnnkogkjaaGreatDoor
set_option linter.unusedVariables false
set_option linter.unusedSimpArgs false
open Go.RowKit Go.Sort

def digs10 : List UInt8:=[48,49,50,51,52,53,54,55,56,57]
set_option maxRecDepth 100000 in
theorem digs10_all (c : UInt8) : digs10.contains c = (decide (48 ≤ c.toNat) && decide (c.toNat ≤ 57)):=by
 have h : ∀ n : Fin 256,digs10.contains (UInt8.ofNat n.val) = (decide (48 ≤ (UInt8.ofNat n.val).toNat) && decide ((UInt8.ofNat n.val).toNat ≤ 57)):=by decide
 have:=h ⟨c.toNat,c.toNat_lt⟩
 simpa using this
theorem trimDigs_empty (l : List UInt8) : (Lib.trimS l digs10).isEmpty = digs l:=by
 rw [trimS_empty,digs]
 congr 1
 exact funext digs10_all
theorem trimDigs_any (s : List UInt8) (w : World) (hs : s.length ≤ 9223372036854775807) :
  Calls Tryz.prog 95 #[encStr s,.string ⟨#[48,49,50,51,52,53,54,55,56,57]⟩] w fun e w' => e = .returned (encStr (Lib.trimS s digs10)) ∧ Below w.heap.size w w':=by
 refine (Any.strings_Trim_laid Tryz.lays160 (by kernel_rfl) ⟨s.toArray⟩ ⟨#[48,49,50,51,52,53,54,55,56,57]⟩ w hs (by decide) (ascii_of_all (by decide))).mono ?_
 rintro e w' ⟨rfl,hb⟩
 exact ⟨rfl,hb⟩
def intV (s : List UInt8) (most : Nat) : Int:=if (decide (1 ≤ (unsign s).length) && decide ((unsign s).length ≤ most) && digs (unsign s)) = true then valS s else 0
theorem numB_of (s : List UInt8) (m : Nat) (h : (decide (1 ≤ (unsign s).length) && decide ((unsign s).length ≤ m) && digs (unsign s)) = false) : numB s m = false:=by
 unfold numB
 cases h1 : digs (unsign s)
 ·rfl
 ·rw [h1,Bool.and_true] at h
  simp only [Bool.true_and]
  rw [h]; rfl
theorem numB_itoa (s : List UInt8) (m : Nat) (h : (decide (1 ≤ (unsign s).length) && decide ((unsign s).length ≤ m) && digs (unsign s)) = true) : (Lib.itoa (valS s) == s) = numB s m:=by
 simp only [Bool.and_eq_true] at h
 have hn : unsign s ≠ []:=by intro e; rw [e] at h; simp at h
 have e:=itoa_valS s h.2 hn
 have : (Lib.itoa (valS s) == s) = decide (Lib.itoa (valS s) = s):=by rw [Bool.eq_iff_iff]; simp
 rw [this,e,numB,h.1.1,h.1.2,h.2]
 rfl
theorem valS_bound {s : List UInt8} {m : Nat} (h : digs (unsign s) = true) (hl : (unsign s).length ≤ m) (hm : m ≤ 17) : -100000000000000000 ≤ valS s ∧ valS s ≤ 100000000000000000:=by
 have h1:=valD_lt (unsign s) h
 have h2 : 10 ^ (unsign s).length ≤ 10 ^ 17:=Nat.pow_le_pow_right (by decide) (by omega)
 have h3 : (10 : Nat) ^ 17 = 100000000000000000:=by decide
 unfold valS
 split <;> omega
set_option maxHeartbeats 2000000 in
set_option maxRecDepth 100000 in
theorem int_any (l : List UInt8) (m : Nat) (w : World) (hm : m ≤ 17) (hl : l.length ≤ 1000000000) (hE : Env w) :
  Calls Tryz.prog 78 #[encStr l,.int .i64 m] w fun e w' => e = .returned (.tuple #[.int .i64 (intV l m),.bool (numB l m)]) ∧ Below w.heap.size w w':=by
 have hu:=unsign_le l
 by_cases hlen : 1 ≤ (unsign l).length ∧ (unsign l).length ≤ m

 case neg =>
  have HF : Hid (intV l m = 0 ∧ numB l m = false):=by
   have : (decide (1 ≤ (unsign l).length) && decide ((unsign l).length ≤ m) && digs (unsign l)) = false:=by
    rw [Bool.and_eq_false_iff]; left
    simpa using hlen
   exact Lib.hid ⟨by unfold intV; rw [this]; rfl,numB_of l m this⟩
  have dd : (decide ((1 : Int) ≤ ((unsign l).length : Int)) && decide (((unsign l).length : Int) ≤ (m : Int))) = false:=by simp; omega
  clear hlen
  go_enter Tryz.func78,Tryz.ntmps78
  go_wp2_with fail
  refine (trimMinus_any l _).mono ?_
  rintro e w1 ⟨rfl,rfl⟩
  generalize unsign l = d at *
  go_wp2_with fail
  refine (rin_any _ _ _ _).mono ?_
  rintro e w1 ⟨rfl,rfl⟩
  rw [dd]
  clear dd
  go_wp2_with fail
  go_returns
  exact ⟨by rw [HF.out.1,HF.out.2]; rfl,Below.refl _ _⟩
 case pos =>
  have dd : (decide ((1 : Int) ≤ ((unsign l).length : Int)) && decide (((unsign l).length : Int) ≤ (m : Int))) = true:=by simp; omega
  have hd9 : (unsign l).length ≤ 1000000000:=by omega
  have HE:=trimDigs_empty (unsign l)
  have HN : Hid (unsign l ≠ [] ∧ l.length ≤ 18):=Lib.hid ⟨fun e => by rw [e] at hlen; simp at hlen,by omega⟩
  cases hq : digs (unsign l)
  ·have HF : Hid (intV l m = 0 ∧ numB l m = false):=by
    have : (decide (1 ≤ (unsign l).length) && decide ((unsign l).length ≤ m) && digs (unsign l)) = false:=by rw [hq,Bool.and_false]
    exact Lib.hid ⟨by unfold intV; rw [this]; rfl,numB_of l m this⟩
   rw [hq] at HE
   clear hq hlen hu HN
   go_enter Tryz.func78,Tryz.ntmps78
   go_wp2_with fail
   refine (trimMinus_any l _).mono ?_
   rintro e w1 ⟨rfl,rfl⟩
   generalize unsign l = d at *
   go_wp2_with fail
   refine (rin_any _ _ _ _).mono ?_
   rintro e w1 ⟨rfl,rfl⟩
   rw [dd]
   clear dd
   go_wp2_with fail
   refine (trimDigs_any d _ (by omega)).mono ?_
   rintro e w1 ⟨rfl,hb1⟩
   generalize Lib.trimS d digs10 = t at *
   go_wp2_with fail
   go_returns
   exact ⟨by rw [HF.out.1,HF.out.2]; rfl,hb1⟩
  ·have hc : (decide (1 ≤ (unsign l).length) && decide ((unsign l).length ≤ m) && digs (unsign l)) = true:=by rw [hq,decide_eq_true hlen.1,decide_eq_true hlen.2]; rfl
   have HV : Hid (intV l m = valS l ∧ digs (unsign l) = true):=Lib.hid ⟨by unfold intV; rw [hc]; rfl,hq⟩
   have HI:=numB_itoa l m hc
   have hv:=valS_bound hq hlen.2 hm
   have hv1:=hv.1
   have hv2:=hv.2
   rw [hq] at HE
   clear hq hlen hu hc hv
   go_enter Tryz.func78,Tryz.ntmps78
   go_wp2_with fail
   refine (trimMinus_any l _).mono ?_
   rintro e w1 ⟨rfl,rfl⟩
   generalize hud : unsign l = d at *
   have HUD:=Lib.hid hud
   clear hud
   go_wp2_with fail
   refine (rin_any _ _ _ _).mono ?_
   rintro e w1 ⟨rfl,rfl⟩
   rw [dd]
   clear dd
   go_wp2_with fail
   refine (trimDigs_any d _ (by omega)).mono ?_
   rintro e w1 ⟨rfl,hb1⟩
   generalize Lib.trimS d digs10 = t at *
   go_wp2_with fail
   refine (atoi_any l _ HN.out.2 (by rw [HUD.out]; exact HV.out.2) (by rw [HUD.out]; exact HN.out.1)).mono ?_
   rintro e w2 ⟨rfl,hb2⟩
   have hx:=below_up hb1 hb2
   have hE:=hE.below hx
   clear hb1 hb2
   have HV1:=Lib.hid HV.out.1
   clear HV
   generalize valS l = v at *
   go_wp2_with fail
   refine (itoaE_any v (by omega) (by omega) _ hE).mono ?_
   rintro e w3 ⟨rfl,hb3⟩
   have hx:=below_up hx hb3
   generalize Lib.itoa v = y at *
   generalize hb0 : numB l m = b at *
   have HB:=Lib.hid hb0
   clear hb0
   go_wp2_with fail
   go_returns
   exact ⟨by rw [HV1.out,HB.out]; rfl,hx⟩
theorem intV_num {s : List UInt8} {m : Nat} (h : numB s m = true) : intV s m = numV s m:=by
 unfold intV numV
 rw [h,if_pos rfl]
 unfold numB at h
 simp only [Bool.and_eq_true] at h
 rw [h.1.1.1,h.1.1.2,h.1.2]; rfl
end Go.Proofs.YtijdbbnnkogkjaaGreatDoor
