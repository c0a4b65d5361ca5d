/- Texts of this seat, laid together: SgC SgD SgE SgG Ha. -/
import Derived.Deep.DeepCutAuto
import Derived.Test.YtjggbpchmbdocaaGreatDoorBt16
import Derived.Test.YtjggbpchmbdocaaGreatDoorBt17
import Derived.Test.YtjggbpchmbdocaaGreatDoorBt18
import Derived.Test.YtjggbpchmbdocaaGreatDoorBt19
import Derived.Test.YtjggbpchmbdocaaGreatDoorBt02
import Derived.Test.YtjggbpchmbdocaaGreatDoorBt01
/- slices.SortFunc over steps, and the walk of leasts. -/
set_option linter.unusedVariables false
set_option linter.unusedSimpArgs false
namespace Go.Proofs.YtjggbpchmbdocaaGreatDoor
open Go.RowKit Go.Sort

theorem own_blkS {w : World} {base : Nat} {e : TypeId} {A : Option Addr} {n c : Nat} {xs : List Value} (h : w.ownsRow base e 1 (.slice A n c) n xs) (hn : 0 < n) : ∃ g cs,A = some ⟨g,0,none⟩ ∧ base ≤ g ∧ Blk w g e cs ∧ (∀ i : Nat,i < n → cs[i]? = xs[i]?) ∧ n ≤ cs.size:=by
 rcases h.2 with ⟨_,h0⟩ | ⟨g,cap,cur,hv,hg,hh,hcap,hm,hcs,ht⟩
 ·omega
 ·injection hv with e1 e2 e3
  subst e3;refine ⟨g,cur,e1,hg,hh,fun i hi => ?_,by omega⟩;rw [← ht,List.getElem?_take_of_lt (by omega),Array.getElem?_toList]
end Go.Proofs.YtjggbpchmbdocaaGreatDoor
/- The walk of leasts at a history that is right. -/
namespace Go.Proofs.YtjggbpchmbdocaaGreatDoor
open Go.RowKit Go.Sort

def OutB (w : World) (g : Nat) (ol : List Int) : Prop:=∃ cs,Blk w g 3 cs ∧ ∀ i (h : i < ol.length),cs[i]? = some (.int .i64 ol[i])
theorem OutB.lt {w : World} {g : Nat} {ol : List Int} (h : OutB w g ol) : g < w.heap.size:=by obtain ⟨cs,h1,_⟩:=h; exact h1.lt
theorem OutB.below {w w' : World} {g : Nat} {ol : List Int} (h : OutB w g ol) (hb : Below w.heap.size w w') : OutB w' g ol:=by obtain ⟨cs,h1,h2⟩:=h; exact ⟨cs,h1.below hb,h2⟩
theorem OutB.alloc {w : World} {g : Nat} {ol : List Int} (h : OutB w g ol) (o : Obj) : OutB (w.alloc o) g ol:=h.below ((Below.refl _ _).alloc (Nat.le_refl _) o)
theorem OutB.drewN {w : World} {g : Nat} {ol : List Int} (h : OutB w g ol) (q : Nat) : OutB (w.drewN q) g ol:=h
theorem OutB.drew {w : World} {g : Nat} {ol : List Int} (h : OutB w g ol) : OutB w.drew g ol:=h
theorem OutB.app {w1 w2 : World} {g base n size : Nat} {e : TypeId} {ol : List Int} {v : Value} {xs : List Value} (hown : w1.ownsRow base e size v n xs) (h : OutB w1 g ol) (hg : w1.grownBy w2 v.ownBlock) (hne : e ≠ 3) : OutB w2 g ol:=by
 obtain ⟨cs,h1,h2⟩:=h; exact ⟨cs,Blk.app hown h1 hg hne,h2⟩
theorem OutB.cell {w : World} {g : Nat} {ol : List Int} (h : OutB w g ol) (i : Nat) (hi : i < ol.length) : w.cell? ⟨g,i,none⟩ = some (.int .i64 ol[i]):=by obtain ⟨cs,h1,h2⟩:=h; rw [h1.cell]; exact h2 i hi
theorem OutB.set {w : World} {g : Nat} {ol : List Int} (h : OutB w g ol) (i : Nat) (hi : i < ol.length) (x : Int) : OutB (w.setCell ⟨g,i,none⟩ (.int .i64 x)) g (ol.set i x):=by
 obtain ⟨cs,h1,h2⟩:=h;have h' : w.heap[g]? = some (.cells cs 3 (0,0)):=h1;refine ⟨cs.setIfInBounds i (.int .i64 x),?_,fun j hj => ?_⟩
 ·unfold Blk
  simp [World.setCell,Array.getElem?_modify,h']
 ·have hj' : j < ol.length:=by simpa using hj
  have hc:=h2 j hj';have hs : j < cs.size:=(Array.getElem?_eq_some_iff.1 hc).1;rw [Array.getElem?_setIfInBounds,List.getElem_set]
  by_cases e : i = j
  ·subst e; simp [hs]
  ·simp [e,hc]
theorem OutB.keep {w : World} {g : Nat} {ol : List Int} (h : OutB w g ol) : ∀ (k i : Nat) (u : Value),g ≠ k → OutB (w.setCell ⟨k,i,none⟩ u) g ol:=by
 intro k i u hne;obtain ⟨cs,h1,h2⟩:=h;have h' : w.heap[g]? = some (.cells cs 3 (0,0)):=h1
 have hne' : ¬ k = g:=fun e => hne e.symm
 refine ⟨cs,?_,h2⟩;unfold Blk
 simp [World.setCell,Array.getElem?_modify,h',hne']

theorem Row.set_low {w : World} {lo size : Nat} {A : Option Addr} {n : Nat} {xs : List Value} (h : Row w lo size A n xs) (g i : Nat) (u : Value) (hg : g < lo) : Row (w.setCell ⟨g,i,none⟩ u) lo size A n xs :=
 h.keep (by simp) (fun b hl _ => by
  have hne : ¬ g = b:=by omega
  simp [World.setCell,Array.getElem?_modify,hne])
end Go.Proofs.YtjggbpchmbdocaaGreatDoor
/- The walk of SumOfBest at a history that is right. -/
namespace Go.Proofs.YtjggbpchmbdocaaGreatDoor
open Go.RowKit Go.Sort

end Go.Proofs.YtjggbpchmbdocaaGreatDoor
/- The walks of the faults of splits at any splits; slices.Index and Contains at numbers. -/
namespace Go.Proofs.YtjggbpchmbdocaaGreatDoor
open Go.RowKit

theorem rin_any (n lo hi : Int) (w : World) : Calls Tryz.prog 105 #[.int .i64 n,.int .i64 lo,.int .i64 hi] w fun e w' => e = .returned (.bool (decide (lo ≤ n) && decide (n ≤ hi))) ∧ w = w':=by
 go_enter Tryz.func105,Tryz.ntmps105
 by_cases h : lo ≤ n
 ·have q : decide (lo ≤ n) = true:=by simpa using h
  rw [q];go_wp2_with fail;go_ret;exact ⟨by simp,rfl⟩
 ·have q : decide (lo ≤ n) = false:=by simpa using h
  rw [q];go_wp2_with fail;go_ret;exact ⟨by simp,rfl⟩
end Go.Proofs.YtjggbpchmbdocaaGreatDoor
/- The walks of what checks keys and splits, at any: base.Key, slices.Index and Contains at strings, segment.splitsFault. -/
namespace Go.Proofs.YtjggbpchmbdocaaGreatDoor
open Go.RowKit Go.Sort

theorem keyB_of {s : ByteArray} (h0 : 0 < s.size) (h1 : s.size ≤ 40) (h2 : 97 ≤ s[0].toNat ∧ s[0].toNat ≤ 122) : keyB s.data.toList = s.data.toList.all keyC:=by
 have e : s.data.toList.length = s.size:=by simp
 have e0 : s.data.toList.headD 0 = s[0]:=by
  rw [List.headD_eq_head?_getD,List.head?_eq_getElem?,List.getElem?_eq_getElem (by omega)];rfl
 unfold keyB;rw [e,e0,decide_eq_true h0,decide_eq_true h1,decide_eq_true h2.1,decide_eq_true h2.2];rfl
theorem keyB_not {s : ByteArray} (h : ¬ (0 < s.size ∧ s.size ≤ 40)) : keyB s.data.toList = false:=by
 have e : s.data.toList.length = s.size:=by simp
 unfold keyB;rw [e]
 by_cases h0 : 0 < s.size
 ·rw [decide_eq_false (p:=s.size ≤ 40) (by omega)]; simp
 ·rw [decide_eq_false h0]; simp
theorem keyB_head {s : ByteArray} (h0 : 0 < s.size) (h : ¬ (97 ≤ s[0].toNat ∧ s[0].toNat ≤ 122)) : keyB s.data.toList = false:=by
 have e : s.data.toList.length = s.size:=by simp
 have e0 : s.data.toList.headD 0 = s[0]:=by
  rw [List.headD_eq_head?_getD,List.head?_eq_getElem?,List.getElem?_eq_getElem (by omega)];rfl
 unfold keyB;rw [e0]
 by_cases h1 : 97 ≤ s[0].toNat
 ·rw [decide_eq_false (p:=s[0].toNat ≤ 122) (by omega)]; simp
 ·rw [decide_eq_false h1]; simp
theorem all_no {s : ByteArray} {k : Nat} (hk : k < s.size) (h : keyC s[k] = false) : s.data.toList.all keyC = false:=by
 rw [List.all_eq_false];refine ⟨s[k],?_,by rw [h]; decide⟩;have : s[k] = s.data.toList[k]'(by simpa using hk):=rfl;rw [this]; exact List.getElem_mem _
theorem all_yes {s : ByteArray} (h : ∀ k (hk : k < s.size),keyC s[k] = true) : s.data.toList.all keyC = true:=by
 rw [List.all_eq_true];intro c hc;obtain ⟨k,hk,rfl⟩:=List.mem_iff_getElem.1 hc;exact h k (by simpa using hk)
theorem keyC_bad {c : UInt8} (h : keyC c = false) : c.toNat < 48 ∧ c.toNat ≠ 45 ∨ 57 < c.toNat ∧ c.toNat < 97 ∧ c.toNat ≠ 95 ∨ 122 < c.toNat:=by
 unfold keyC at h;simp only [Bool.or_eq_false_iff,Bool.and_eq_false_iff,decide_eq_false_iff_not,beq_eq_false_iff_ne] at h;obtain ⟨⟨⟨h1,h2⟩,h3⟩,h4⟩:=h
 have h3' : c.toNat ≠ 45:=fun e => h3 (UInt8.toNat_inj.1 e)
 have h4' : c.toNat ≠ 95:=fun e => h4 (UInt8.toNat_inj.1 e)
 omega
set_option maxHeartbeats 1000000 in
theorem key_any (s : ByteArray) (w : World) : Calls Tryz.prog 187 #[.string s] w fun e w' => e = .returned (.bool (keyB s.data.toList)) ∧ w = w' := by
  by_cases h0 : 0 < s.size
  · have e1 : (s.toList == []) = false := by rw [ByteArray.toList_eq]; simp; intro h; have : s.size = 0 := by (have := congrArg Array.size h); simpa using this
                                             omega
    by_cases h1 : s.size ≤ 40
    · have c3 : decide ((40 : Int) < (s.size : Int)) = false := by simp; omega
      by_cases h2 : 97 ≤ s[0].toNat ∧ s[0].toNat ≤ 122
      · have HK := Lib.hid (keyB_of h0 h1 h2)
        have HN := Lib.hid (fun k (hk : k < s.size) (h : keyC s[k] = false) => (keyB_of h0 h1 h2).trans (all_no hk h))
        have c1 : decide ((s[0].toNat : Int) < 97) = false := by simp; omega
        have c2 : decide ((122 : Int) < (s[0].toNat : Int)) = false := by simp; omega
        obtain ⟨h4, h5⟩ := h2
        go_enter Tryz.func187, Tryz.ntmps187
        go_wp2_with fail
        go_loop [24] (fun i => ∃ k : Nat, k ≤ s.size ∧ i = .int .i64 k ∧ Hid (∀ j (hj : j < s.size), j < k → keyC s[j] = true)) (fun i => s.size - (intOf i).toNat)
        case atStart => exact ⟨0, Nat.zero_le _, rfl, Lib.hid (fun _ _ h => absurd h (Nat.not_lt_zero _))⟩
        case round =>
          obtain ⟨k, hk, rfl, HA⟩ := hrel
          by_cases hlt : k < s.size
          · cases hq : keyC s[k]
            · have HF := Lib.hid (HN.out k hlt hq)
              rcases keyC_bad hq with hc | hc | hc
              · have d1 : decide ((97 : Int) ≤ (s[k].toNat : Int)) = false := by simp; omega
                have d2 : decide ((48 : Int) ≤ (s[k].toNat : Int)) = false := by simp; omega
                have d4 : ((s[k].toNat : Int) == 45) = false := by simp; omega
                have d5 : ((s[k].toNat : Int) == 95) = false := by simp; omega
                clear hc hq;go_wp2_with fail;go_ret;exact ⟨ret_bool' HF.out.symm, rfl⟩
              · have d1 : decide ((97 : Int) ≤ (s[k].toNat : Int)) = false := by simp; omega
                have d2 : decide ((48 : Int) ≤ (s[k].toNat : Int)) = true := by simp; omega
                have d3 : decide ((s[k].toNat : Int) ≤ 57) = false := by simp; omega
                have d4 : ((s[k].toNat : Int) == 45) = false := by simp; omega
                have d5 : ((s[k].toNat : Int) == 95) = false := by simp; omega
                clear hc hq;go_wp2_with fail;go_ret;exact ⟨ret_bool' HF.out.symm, rfl⟩
              · have d1 : decide ((97 : Int) ≤ (s[k].toNat : Int)) = true := by simp; omega
                have d1' : decide ((s[k].toNat : Int) ≤ 122) = false := by simp; omega
                have d2 : decide ((48 : Int) ≤ (s[k].toNat : Int)) = true := by simp; omega
                have d3 : decide ((s[k].toNat : Int) ≤ 57) = false := by simp; omega
                have d4 : ((s[k].toNat : Int) == 45) = false := by simp; omega
                have d5 : ((s[k].toNat : Int) == 95) = false := by simp; omega
                clear hc hq;go_wp2_with fail;go_ret;exact ⟨ret_bool' HF.out.symm, rfl⟩
            · have HA' : Hid (∀ j (hj : j < s.size), j < k + 1 → keyC s[j] = true) := Lib.hid (fun j hj hjk => by
                rcases Nat.lt_or_ge j k with h | h
                · exact HA.out j hj h
                · have : j = k := by omega
                  subst this; exact hq)
              have hc := keyC_cases hq;rcases hc with hc | hc | hc | hc
              · have d1 : decide ((97 : Int) ≤ (s[k].toNat : Int)) = true := by simp; omega
                have d2 : decide ((s[k].toNat : Int) ≤ 122) = true := by simp; omega
                clear hc hq;go_wp2_with fail;go_round
                case rel => exact ⟨k + 1, by omega, by go_num, HA'⟩
                case measure => simp [intOf]; omega
              · have d1 : decide ((97 : Int) ≤ (s[k].toNat : Int)) = false := by simp; omega
                have d2 : decide ((48 : Int) ≤ (s[k].toNat : Int)) = true := by simp; omega
                have d3 : decide ((s[k].toNat : Int) ≤ 57) = true := by simp; omega
                clear hc hq;go_wp2_with fail;go_round
                case rel => exact ⟨k + 1, by omega, by go_num, HA'⟩
                case measure => simp [intOf]; omega
              · have d1 : decide ((97 : Int) ≤ (s[k].toNat : Int)) = false := by simp; omega
                have d2 : decide ((48 : Int) ≤ (s[k].toNat : Int)) = false := by simp; omega
                have d4 : ((s[k].toNat : Int) == 45) = true := by simp; omega
                clear hc hq;go_wp2_with fail;go_round
                case rel => exact ⟨k + 1, by omega, by go_num, HA'⟩
                case measure => simp [intOf]; omega
              · have d1 : decide ((97 : Int) ≤ (s[k].toNat : Int)) = false := by simp; omega
                have d2 : decide ((48 : Int) ≤ (s[k].toNat : Int)) = true := by simp; omega
                have d3 : decide ((s[k].toNat : Int) ≤ 57) = false := by simp; omega
                have d4 : ((s[k].toNat : Int) == 45) = false := by simp; omega
                have d5 : ((s[k].toNat : Int) == 95) = true := by simp; omega
                clear hc hq;go_wp2_with fail;go_round
                case rel => exact ⟨k + 1, by omega, by go_num, HA'⟩
                case measure => simp [intOf]; omega
          · have HT : Hid (keyB s.data.toList = true) := Lib.hid (by rw [HK.out]; exact all_yes (fun j hj => HA.out j hj (by omega)))
            go_wp2_with fail;go_ret;exact ⟨ret_bool' HT.out.symm, rfl⟩
      · have HF := Lib.hid (keyB_head h0 h2)
        by_cases h4 : 97 ≤ s[0].toNat
        · have c1 : decide ((s[0].toNat : Int) < 97) = false := by simp; omega
          have c2 : decide ((122 : Int) < (s[0].toNat : Int)) = true := by simp; omega
          clear h2
          go_enter Tryz.func187, Tryz.ntmps187
          go_wp2_with fail;go_ret;exact ⟨ret_bool' HF.out.symm, rfl⟩
        · have c1 : decide ((s[0].toNat : Int) < 97) = true := by simp; omega
          clear h2
          go_enter Tryz.func187, Tryz.ntmps187
          go_wp2_with fail;go_ret;exact ⟨ret_bool' HF.out.symm, rfl⟩
    · have HF := Lib.hid (keyB_not (s := s) (by omega))
      have c3 : decide ((40 : Int) < (s.size : Int)) = true := by simp; omega
      go_enter Tryz.func187, Tryz.ntmps187
      go_wp2_with fail;go_ret;exact ⟨ret_bool' HF.out.symm, rfl⟩
  · have HF := Lib.hid (keyB_not (s := s) (by omega))
    have e1 : (s.toList == []) = true := by rw [ByteArray.toList_eq]; simp; have : s.size = 0 := by omega
                                            exact Array.eq_empty_of_size_eq_zero this
    go_enter Tryz.func187, Tryz.ntmps187
    go_wp2_with fail;go_ret;exact ⟨ret_bool' HF.out.symm, rfl⟩

def IdxS (ss : List (List UInt8)) (x : List UInt8) (r : Int) : Prop:=r = -1 ∧ x ∉ ss ∨ ∃ k : Nat,∃ h : k < ss.length,r = k ∧ ss[k] = x ∧ ∀ j (hj : j < ss.length),j < k → ss[j] ≠ x
theorem indexS_any (A : Option Addr) (c lo : Nat) (ss : List (List UInt8)) (x : List UInt8) (w : World) (hr : Row w lo 1 A ss.length (strs ss)) (hl : ss.length ≤ 1000000000) :
  Calls Tryz.prog 138 #[.slice A ss.length c,encStr x] w fun e w' => ∃ r : Int,e = .returned (.int .i64 r) ∧ w = w' ∧ IdxS ss x r:=by
 unfold encStr
 go_enter Tryz.func138,Tryz.ntmps138
 go_wp2_with fail
 go_loop [8] (fun i => ∃ k : Nat,k ≤ ss.length ∧ i = .int .i64 k ∧ Hid (∀ j (hj : j < ss.length),j < k → ss[j] ≠ x)) (fun i => ss.length - (intOf i).toNat)
 case atStart => exact ⟨0,Nat.zero_le _,rfl,Lib.hid (fun _ _ h => absurd h (Nat.not_lt_zero _))⟩
 case round =>
  obtain ⟨k,hk,rfl,HA⟩:=hrel
  by_cases hlt : k < ss.length
  ·obtain ⟨b,off,rfl,_,hbs,c0⟩:=hr.str_at hlt
   by_cases hx : x = ss[k]
   ·have heq:=str_eq hx
    have HE : Hid (ss[k] = x):=Lib.hid hx.symm;unfold encStr at c0;have HZ : Hid (IdxS ss x k):=Lib.hid (.inr ⟨k,hlt,rfl,HE.out,HA.out⟩);generalize ss[k] = z at *
    have heq' : (x == z) = true:=by rw [ByteArray.toList_eq,ByteArray.toList_eq] at heq; simpa using heq
    clear hx;go_wp2_with fail;go_ret;exact ⟨(k : Int),rfl,rfl,HZ.out⟩
   ·have hne:=str_ne hx
    have HB : Hid (∀ j (hj : j < ss.length),j < k + 1 → ss[j] ≠ x):=Lib.hid (fun j hj hjk => by
     rcases Nat.lt_or_ge j k with h | h
     ·exact HA.out j hj h
     ·have : j = k:=by omega
      subst this; exact fun e => hx e.symm)
    unfold encStr at c0;clear hx;generalize ss[k] = z at *
    have hne' : (x == z) = false:=by rw [ByteArray.toList_eq,ByteArray.toList_eq] at hne; simpa using hne
    go_wp2_with fail;go_round
    case rel => exact ⟨k + 1,by omega,by go_num,HB⟩
    case measure => simp [intOf]; omega
  ·have HB : Hid (IdxS ss x (-1)):=Lib.hid (.inl ⟨rfl,fun h => by
    obtain ⟨j,hj,e⟩:=List.getElem_of_mem h
    exact HA.out j hj (by omega) e⟩)
   go_wp2_with fail;go_ret;exact ⟨-1,rfl,rfl,HB.out⟩
theorem containsS_any (A : Option Addr) (c lo : Nat) (ss : List (List UInt8)) (x : List UInt8) (w : World) (hr : Row w lo 1 A ss.length (strs ss)) (hl : ss.length ≤ 1000000000) :
  Calls Tryz.prog 72 #[.slice A ss.length c,encStr x] w fun e w' => e = .returned (.bool (decide (x ∈ ss))) ∧ w = w':=by
 go_enter Tryz.func72,Tryz.ntmps72
 go_wp2_with fail;refine (indexS_any _ _ _ ss x _ hr hl).mono ?_;rintro e w1 ⟨r,rfl,rfl,h⟩
 have HR : Hid (decide (0 ≤ r) = decide (x ∈ ss)):=Lib.hid (by
  rcases h with ⟨rfl,h⟩ | ⟨k,hk,rfl,h,_⟩
  ·simp [h]
  ·have : x ∈ ss:=by rw [← h]; exact List.getElem_mem _
   simp [this])
 clear h;go_wp2_with fail;go_ret;exact ⟨by rw [← HR.out]; rfl,rfl⟩

end Go.Proofs.YtjggbpchmbdocaaGreatDoor
