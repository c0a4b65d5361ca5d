/- Texts of this seat, laid together: Num Int. -/
import Derived.Lib.ConvBytes
import Derived.Handy
import Derived.Test.YtijdbbnnkogkjaaGreatDoorBn20
import Derived.Test.YtijdbbnnkogkjaaGreatDoorBn18
import Derived.Test.YtijdbbnnkogkjaaGreatDoorBn14
import Derived.Test.YtijdbbnnkogkjaaGreatDoorBn12
/- Numbers as words: the walks of base.Number and splitref1.Int. -/
namespace Go.Proofs.YtijdbbnnkogkjaaGreatDoor
set_option linter.unusedVariables false
set_option linter.unusedSimpArgs false
open Go.RowKit Go.Sort

theorem trimMinus_any (l : List UInt8) (w : World) :
  Calls Tryz.prog 123 #[encStr l,.string ⟨#[45]⟩] w fun e w' => e = .returned (encStr (unsign l)) ∧ w' = w :=
 Tryz.strings_TrimPrefix ⟨l.toArray⟩ ⟨#[45]⟩ w
theorem below_bytesWorld (w : World) (e : TypeId) (s : ByteArray) : Below w.heap.size w (Lib.bytesWorld w e s):=by
 unfold Lib.bytesWorld
 exact Lib.below_freeze ((Below.drew (Below.refl _ _)).alloc (Nat.le_refl _) _) (Nat.le_refl _) _
theorem atoi_any (s : List UInt8) (w : World) (hl : s.length ≤ 18) (h : digs (unsign s) = true) (hn : unsign s ≠ []) :
  Calls Tryz.prog 124 #[encStr s] w fun e w' => e = .returned (.tuple #[.int .i64 (valS s),.nilIface]) ∧ Below w.heap.size w w':=by
 refine (Tryz.strconv_Atoi ⟨s.toArray⟩ (valS s) hl (atoi_digs s h hn) w).mono ?_
 rintro e w' ⟨rfl,t,rfl⟩
 exact ⟨rfl,below_bytesWorld _ _ _⟩
def numV (s : List UInt8) (most : Nat) : Int:=if numB s most then valS s else 0
theorem numB_short {s : List UInt8} {most : Nat} (h : numB s most = true) : s.length ≤ most + 1 ∧ digs (unsign s) = true ∧ unsign s ≠ []:=by
 unfold numB at h
 simp only [Bool.and_eq_true,decide_eq_true_eq] at h
 have:=unsign_le s
 exact ⟨by omega,h.1.1.1,fun e => by rw [e] at h; simp at h⟩
set_option maxHeartbeats 4000000 in
set_option maxRecDepth 100000 in
theorem number_any (l : List UInt8) (m : Nat) (w : World) (hm : m ≤ 17) (hl : l.length ≤ 1000000000) :
  Calls Tryz.prog 120 #[encStr l,.int .i64 m] w fun e w' => e = .returned (.tuple #[.int .i64 (numV l m),.bool (numB l m)]) ∧ Below w.heap.size w w':=by
 have hu:=unsign_le l
 obtain ⟨t,ht⟩ : ∃ t : ByteArray,t = ⟨(unsign l).toArray⟩:=⟨_,rfl⟩
 have hts : t.size = (unsign l).length:=by subst ht; simp [ByteArray.size]
 have hget : ∀ j (h : j < t.size) (h' : j < (unsign l).length),t[j] = (unsign l)[j]:=by
  subst ht; intro j h h'; simp [ByteArray.getElem_eq_getElem_data]
 have FALSE : Hid (numB l m = false → ∀ w,(Ending.returned (.tuple #[.int .i64 0,.bool false]) = Ending.returned (.tuple #[.int .i64 (numV l m),.bool (numB l m)])) ∧ Below w.heap.size w w):=Lib.hid (fun h w => ⟨by unfold numV; rw [h]; rfl,Below.refl _ _⟩)
 have HL : Hid (digs (unsign l) = false → numB l m = false):=Lib.hid (fun h => by unfold numB; rw [h]; rfl)
 by_cases h0 : (unsign l).length = 0
 ·have HF:=Lib.hid (show numB l m = false by unfold numB; rw [h0]; simp)
  have e1 : (t.toList == []) = true:=by rw [ByteArray.toList_eq]; subst ht; simpa using h0
  clear h0 hu hget hts
  go_enter Tryz.func120,Tryz.ntmps120
  go_wp2_with fail
  refine (trimMinus_any l _).mono ?_
  rintro e w1 ⟨rfl,rfl⟩
  simp only [encStr]
  rw [← ht]
  clear ht
  go_wp2_with fail
  go_returns
  exact FALSE.out HF.out _
 have e1 : (t.toList == []) = false:=by rw [ByteArray.toList_eq]; subst ht; simpa using h0
 have p0 : 0 < t.size:=by omega
 by_cases h1 : ¬ (unsign l).length ≤ m
 ·have HF:=Lib.hid (show numB l m = false by unfold numB; rw [decide_eq_false h1]; simp)
  have e2 : decide (m < t.size) = true:=by simp; omega
  clear h0 h1 hu hget hts
  go_enter Tryz.func120,Tryz.ntmps120
  go_wp2_with fail
  refine (trimMinus_any l _).mono ?_
  rintro e w1 ⟨rfl,rfl⟩
  simp only [encStr]
  rw [← ht]
  clear ht
  go_wp2_with fail
  go_returns
  exact FALSE.out HF.out _
 have h1 : (unsign l).length ≤ m:=Classical.not_not.1 h1
 have e2 : decide (m < t.size) = false:=by simp; omega
 have hh : (unsign l).head? = some t[0]:=by rw [List.head?_eq_getElem?,List.getElem?_eq_getElem (by omega),hget 0 p0 (by omega)]
 by_cases h2 : t[0] = 48 ∧ (1 < (unsign l).length ∨ (unsign l).length < l.length)
 ·have HF:=Lib.hid (show numB l m = false by
   unfold numB
   rw [hh,h2.1]
   have : (decide (1 < (unsign l).length) || decide ((unsign l).length < l.length)) = true:=by simpa using h2.2
   rw [this]; simp)
  have e3 : ((t[0].toNat : Int) == 48) = true:=by rw [h2.1]; rfl
  obtain ⟨_,h2⟩:=h2
  by_cases h3 : 1 < (unsign l).length
  ·have e4 : decide ((1 : Int) < (t.size : Int)) = true:=by simp; omega
   clear h0 h1 hu hget h2 h3 hh hts
   go_enter Tryz.func120,Tryz.ntmps120
   go_wp2_with fail
   refine (trimMinus_any l _).mono ?_
   rintro e w1 ⟨rfl,rfl⟩
   simp only [encStr]
   rw [← ht]
   clear ht
   go_wp2_with fail
   go_returns
   exact FALSE.out HF.out _
  ·have e4 : decide ((1 : Int) < (t.size : Int)) = false:=by simp; omega
   have e5 : decide (t.size < l.length) = true:=by simp; omega
   clear h0 h1 hu hget h2 h3 hh hts
   go_enter Tryz.func120,Tryz.ntmps120
   go_wp2_with fail
   refine (trimMinus_any l _).mono ?_
   rintro e w1 ⟨rfl,rfl⟩
   simp only [encStr]
   rw [← ht]
   clear ht
   go_wp2_with fail
   go_returns
   exact FALSE.out HF.out _
 have HK : Hid (digs (unsign l) = true → numB l m = true):=Lib.hid (fun hd => by
  unfold numB
  rw [hd,hh,decide_eq_true h1,decide_eq_true (show 1 ≤ (unsign l).length by omega)]
  have : (decide (some t[0] = some 48) && (decide (1 < (unsign l).length) || decide ((unsign l).length < l.length))) = false:=by
   cases hc : (decide (some t[0] = some 48) && (decide (1 < (unsign l).length) || decide ((unsign l).length < l.length)))
   ·rfl
   ·simp only [Bool.and_eq_true,decide_eq_true_eq,Bool.or_eq_true,Option.some.injEq] at hc
    exact absurd hc h2
  rw [this]; rfl)
 have HN : Hid (∀ k (hk : k < t.size),¬ (48 ≤ t[k].toNat ∧ t[k].toNat ≤ 57) → numB l m = false):=Lib.hid (fun k hk hb => HL.out (by
  rw [digs,List.all_eq_false]
  refine ⟨(unsign l)[k]'(by omega),List.getElem_mem _,?_⟩
  rw [← hget k hk (by omega)]
  simpa using hb))
 have HY : Hid ((∀ k (hk : k < t.size),48 ≤ t[k].toNat ∧ t[k].toNat ≤ 57) → digs (unsign l) = true):=Lib.hid (fun hd => by
  rw [digs,List.all_eq_true]
  intro x hx
  obtain ⟨k,hk,rfl⟩:=List.mem_iff_getElem.1 hx
  have:=hd k (by omega)
  rw [hget k (by omega) hk] at this
  simpa using this)
 have HU : Hid (unsign l ≠ [] ∧ l.length ≤ 18):=Lib.hid ⟨fun e => h0 (by rw [e]; rfl),by omega⟩
 have hc : ((t[0].toNat : Int) == 48) = false ∨ (((t[0].toNat : Int) == 48) = true ∧ decide ((1 : Int) < (t.size : Int)) = false ∧ decide (t.size < l.length) = false):=by
  by_cases h48 : t[0] = 48
  ·right
   have h3 : ¬ (1 < (unsign l).length ∨ (unsign l).length < l.length):=fun h => h2 ⟨h48,h⟩
   exact ⟨by rw [h48]; rfl,by simp; omega,by simp; omega⟩
  ·left
   rw [beq_eq_false_iff_ne]
   intro h
   exact h48 (UInt8.toNat_inj.1 (by simpa using Int.ofNat_inj.1 h))
 have hsz : t.size ≤ 20:=by omega
 clear h0 h1 h2 hh hu hget hts
 rcases hc with e3 | ⟨e3,e4,e5⟩
 all_goals
  go_enter Tryz.func120,Tryz.ntmps120
  go_wp2_with fail
  refine (trimMinus_any l _).mono ?_
  rintro e w1 ⟨rfl,rfl⟩
  simp only [encStr]
  rw [← ht]
  clear ht
  go_wp2_with fail
  go_loop [39] (fun i => ∃ k : Nat,k ≤ t.size ∧ i = .int .i64 k ∧ Hid (∀ j (hj : j < t.size),j < k → 48 ≤ t[j].toNat ∧ t[j].toNat ≤ 57)) (fun i => t.size - (intOf i).toNat)
  case atStart => exact ⟨0,Nat.zero_le _,rfl,Lib.hid (fun _ _ h => absurd h (Nat.not_lt_zero _))⟩
  case round =>
   obtain ⟨k,hk,rfl,HA⟩:=hrel
   by_cases hlt : k < t.size
   ·by_cases hb1 : 48 ≤ t[k].toNat
    ·have d1 : decide ((t[k].toNat : Int) < 48) = false:=by simp; omega
     by_cases hb2 : t[k].toNat ≤ 57
     ·have d2 : decide ((57 : Int) < (t[k].toNat : Int)) = false:=by simp; omega
      have HA' : Hid (∀ j (hj : j < t.size),j < k + 1 → 48 ≤ t[j].toNat ∧ t[j].toNat ≤ 57):=Lib.hid (fun j hj hjk => by
       rcases Nat.lt_or_ge j k with h | h
       ·exact HA.out j hj h
       ·have : j = k:=by omega
        subst this; exact ⟨hb1,hb2⟩)
      clear hb1 hb2
      go_wp2_with fail
      go_round
      case rel => exact ⟨k + 1,by omega,by go_num,HA'⟩
      case measure => simp [intOf]; omega
     ·have d2 : decide ((57 : Int) < (t[k].toNat : Int)) = true:=by simp; omega
      have HF:=Lib.hid (HN.out k hlt (by omega))
      clear hb1 hb2
      go_wp2_with fail
      go_returns
      exact FALSE.out HF.out _
    ·have d1 : decide ((t[k].toNat : Int) < 48) = true:=by simp; omega
     have HF:=Lib.hid (HN.out k hlt (by omega))
     clear hb1
     go_wp2_with fail
     go_returns
     exact FALSE.out HF.out _
   ·have HD:=Lib.hid (HY.out (fun j hj => HA.out j hj (by omega)))
    have HT:=Lib.hid (HK.out HD.out)
    go_wp2_with fail
    refine (atoi_any l _ HU.out.2 HD.out HU.out.1).mono ?_
    rintro e w2 ⟨rfl,hb⟩
    go_wp2_with fail
    go_quiet (fail)
    go_wp2_with fail
    go_returns
    exact ⟨by unfold numV; rw [HT.out]; rfl,(by repeat (first | exact hb | refine Below.alloc ?_ (by first | omega | (simp; omega)) _ | refine below_drewN' ?_ _ | refine Below.drew ?_))⟩
end Go.Proofs.YtijdbbnnkogkjaaGreatDoor
/- The walk of splitref1.Int: it takes the words that base.Number takes. -/
namespace Go.Proofs.YtijdbbnnkogkjaaGreatDoor
set_option linter.unusedVariables false
set_option linter.unusedSimpArgs false
open Go.RowKit Go.Sort

theorem valS_bound {s : List UInt8} {m : Nat} (h : digs (unsign s) = true) (hl : (unsign s).length ≤ m) (hm : m ≤ 17) : -100000000000000000 ≤ valS s ∧ valS s ≤ 100000000000000000:=by
 have h1:=valD_lt (unsign s) h
 have h2 : 10 ^ (unsign s).length ≤ 10 ^ 17:=Nat.pow_le_pow_right (by decide) (by omega)
 have h3 : (10 : Nat) ^ 17 = 100000000000000000:=by decide
 unfold valS
 split <;> omega
end Go.Proofs.YtijdbbnnkogkjaaGreatDoor
