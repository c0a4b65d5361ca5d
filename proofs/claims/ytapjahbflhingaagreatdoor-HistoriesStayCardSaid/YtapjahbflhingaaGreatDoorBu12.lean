/- Texts of this seat, laid together: En. -/
import Derived.Test.YtapjahbflhingaaGreatDoorBu01
/- The walk of the stream's function that draws the splits of an attempt: what it hands out, as a function of the numbers. -/
namespace Go.Proofs.YtapjahbflhingaaGreatDoor
set_option linter.unusedVariables false
set_option linter.unusedSimpArgs false
open Go.RowKit
variable {sB : Nat}

def trT (L : List Int) (K : Nat) : Nat → Int
 | 0 => 0
 | j + 1 => trT L K j + pk L (K + 2 * j) [1,5,9,10,11,15,100]
def trO (L : List Int) (K : Nat) : Nat → List Int
 | 0 => []
 | j + 1 => trO L K j ++ [if nx L (K + 2 * j + 1) 5 = 0 then 0 else trT L K (j + 1)]
theorem trO_len (L : List Int) (K : Nat) : ∀ j,(trO L K j).length = j
 | 0 => rfl
 | j + 1 => by simp [trO,trO_len L K j]
theorem trT_bd (L : List Int) (K : Nat) : ∀ j : Nat,0 ≤ trT L K j ∧ trT L K j ≤ 100 * j
 | 0 => by simp [trT]
 | j + 1 => by
  have h1:=trT_bd L K j
  have h2:=pk_mem L (K + 2 * j) (zs:=[1,5,9,10,11,15,100]) (by simp) (by simp)
  have h3 : ∀ x ∈ ([1,5,9,10,11,15,100] : List Int),0 ≤ x ∧ x ≤ 100:=by decide
  have h4:=h3 _ h2
  simp only [trT]
  omega
theorem trO_bd (L : List Int) (K : Nat) : ∀ j : Nat,∀ x ∈ trO L K j,0 ≤ x ∧ x ≤ 100 * j
 | 0,x,h => by cases h
 | j + 1,x,h => by
  simp only [trO] at h
  rcases List.mem_append.1 h with h | h
  ·have:=trO_bd L K j x h; omega
  ·have h1:=trT_bd L K (j + 1)
   simp only [List.mem_singleton] at h
   subst h
   split <;> omega
def fx1 (L : List Int) (K : Nat) (q : List Int) (t : Int) : List Int × Nat :=
 if q.length = 0 then (q,K) else if q.getD (q.length - 1) 0 = 0 then (q.set (q.length - 1) t,K) else if nx L K 4 = 0 then (q.set (q.length - 1) t,K + 1) else (q,K + 1)
def fx2 (L : List Int) (p : List Int × Nat) : List Int × Nat :=
 if p.1.length = 0 then p else if nx L p.2 40 = 0 then (p.1.set (nx L (p.2 + 1) p.1.length).toNat (pk L (p.2 + 2) [0,-1,3,864000001]),p.2 + 3) else (p.1,p.2 + 1)
def trM (L : List Int) (k many : Nat) : Nat:=(pk L (k + 1) [(many : Int),many,rg L k 0 many]).toNat
def trF (L : List Int) (k many : Nat) : List Int × Nat:=fx2 L (fx1 L (k + 2 + 2 * trM L k many) (trO L (k + 2) (trM L k many)) (trT L (k + 2) (trM L k many)))
theorem trM_le (L : List Int) (k : Nat) {many : Nat} (hm : many ≤ 1000) : trM L k many ≤ many:=by
 have h1:=pk_mem L (k + 1) (zs:=[(many : Int),many,rg L k 0 many]) (by simp) (by simp)
 have h2:=rg_bd L k (lo:=0) (hi:=many) (by omega) (by omega) (by omega)
 unfold trM
 simp only [List.mem_cons,List.not_mem_nil,or_false] at h1
 rcases h1 with h | h | h <;> omega
theorem mem_set_or {l : List Int} {i : Nat} {a x : Int} (h : x ∈ l.set i a) : x ∈ l ∨ x = a:=List.mem_or_eq_of_mem_set h
theorem trF_bd (L : List Int) (k : Nat) {many : Nat} (hm : many ≤ 1000) : (trF L k many).1.length ≤ many ∧ (trF L k many).2 ≤ k + 10 + 2 * many ∧ ∀ x ∈ (trF L k many).1,x ≤ 100 * many ∨ x = 864000001:=by
 have h1:=trM_le L k hm
 have h2:=trO_len L (k + 2) (trM L k many)
 have h3:=trO_bd L (k + 2) (trM L k many)
 have h4:=trT_bd L (k + 2) (trM L k many)
 unfold trF
 generalize trM L k many = m at *
 generalize trO L (k + 2) m = q at *
 generalize trT L (k + 2) m = t at *
 have g1 : (fx1 L (k + 2 + 2 * m) q t).1.length = q.length ∧ (fx1 L (k + 2 + 2 * m) q t).2 ≤ k + 3 + 2 * m ∧ ∀ x ∈ (fx1 L (k + 2 + 2 * m) q t).1,x ≤ 100 * many:=by
  unfold fx1
  split
  ·exact ⟨rfl,by simp,fun x hx => by have:=h3 x hx; omega⟩
  ·split
   ·exact ⟨by simp,by simp,fun x hx => by
     rcases mem_set_or hx with h | h
     ·have:=h3 x h; omega
     ·omega⟩
   ·split
    ·exact ⟨by simp,by simp; omega,fun x hx => by
      rcases mem_set_or hx with h | h
      ·have:=h3 x h; omega
      ·omega⟩
    ·exact ⟨rfl,by simp; omega,fun x hx => by have:=h3 x hx; omega⟩
 obtain ⟨a1,a2,a3⟩:=g1
 generalize fx1 L (k + 2 + 2 * m) q t = p at *
 unfold fx2
 split
 ·exact ⟨by omega,by omega,fun x hx => .inl (a3 x hx)⟩
 ·split
  ·refine ⟨by simp; omega,by simp; omega,fun x hx => ?_⟩
   rcases mem_set_or hx with h | h
   ·exact .inl (a3 x h)
   ·have h5:=pk_mem L (p.2 + 2) (zs:=[0,-1,3,864000001]) (by simp) (by simp)
    rw [← h] at h5
    simp only [List.mem_cons,List.not_mem_nil,or_false] at h5
    omega
  ·exact ⟨by simp; omega,by simp; omega,fun x hx => .inl (a3 x hx)⟩
def TriedE (w : World) (g sB : Nat) (L : List Int) (k many : Nat) (e : Ending) (w' : World) : Prop :=
 ∃ (A : Option Addr) (c : Nat),e = .returned (.slice A (trF L k many).1.length c) ∧ w'.ownsRow w.heap.size 3 1 (.slice A (trF L k many).1.length c) (trF L k many).1.length (ints (trF L k many).1) ∧ StrE w' g sB L (trF L k many).2 ∧ w.grownBy w' (some g)
set_option maxHeartbeats 2000000 in
theorem tried_ex (g k many : Nat) (L : List Int) (w : World) (hs : StrE w g sB L k) (hN : k < 4611686018427000000) (hm : many ≤ 1000) :
  Calls Tryz.prog 36 #[.pointer (some ⟨g,0,none⟩),.int .i64 many] w (TriedE w g sB L k many):=by
 have hlt:=hs.lt
 go_enter Tryz.func36,Tryz.ntmps36
 go_wp2_with fail
 refine (range_ex g k L _ _ _ hs (by omega) (by omega) (by omega) (by omega)).mono ?_
 rintro e w1 ⟨rfl,hs1,hg1⟩
 have hM:=trM_le L k hm
 have HM : Hid (pk L (k + 1) [(many : Int),many,rg L k 0 many] = (trM L k many : Int)):=Lib.hid (by
  have h1:=pk_mem L (k + 1) (zs:=[(many : Int),many,rg L k 0 many]) (by simp) (by simp)
  have h2:=rg_bd L k (lo:=0) (hi:=many) (by omega) (by omega) (by omega)
  unfold trM
  simp only [List.mem_cons,List.not_mem_nil,or_false] at h1
  have : 0 ≤ pk L (k + 1) [(many : Int),many,rg L k 0 many]:=by rcases h1 with h | h | h <;> omega
  omega)
 have HF0 : Hid (trF L k many = fx2 L (fx1 L (k + 2 + 2 * trM L k many) (trO L (k + 2) (trM L k many)) (trT L (k + 2) (trM L k many)))):=Lib.hid rfl
 generalize rg L k 0 many = r at *
 generalize trM L k many = m at *
 go_wp2_with fail
 refine (pick_ex g _ _ L _ _ [(many : Int),many,r] _ (hs1.alloc _) (by omega) (row_new _ _ _ _ _ _ (Nat.le_refl _) rfl) hs1.lt (by simp) (by simp)).mono ?_
 rintro e w2 ⟨rfl,hs2,hg2⟩
 rw [HM.out]
 have hgr2:=grown_trans' (grown_alloc hg1 _) hg2
 clear hs1 hg1 hg2
 go_wp2_with fail
 go_loopw [5,6,15] (fun v t i wr => ∃ (j : Nat) (A : Option Addr) (c : Nat),j ≤ m ∧ i = .int .i64 j ∧ v = .slice A (trO L (k + 2) j).length c ∧ t = .int .i64 (trT L (k + 2) j) ∧ wr.ownsRow w.heap.size 3 1 (.slice A (trO L (k + 2) j).length c) (trO L (k + 2) j).length (ints (trO L (k + 2) j)) ∧ StrE wr g sB L (k + 2 + 2 * j) ∧ w.grownBy wr (some g)) (fun _ _ i _ => m - (intOf i).toNat)
 case atStart => exact ⟨0,none,0,by omega,rfl,rfl,rfl,World.ownsRow_nil _ _ _ _,hs2,hgr2⟩
 case round =>
  clear hs2 hgr2
  obtain ⟨j,A,c,hj,rfl,rfl,rfl,hq,hsq,hgq⟩:=hrel
  have zq:=hgq.size
  have hqk : (trO L (k + 2) j).length ≤ j:=by rw [trO_len]; exact Nat.le_refl _
  have htb:=trT_bd L (k + 2) j
  by_cases hkm : j < m
  ·have HT : Hid (trT L (k + 2) (j + 1) = trT L (k + 2) j + pk L (k + 2 + 2 * j) [1,5,9,10,11,15,100]):=Lib.hid rfl
   have HO : Hid (trO L (k + 2) (j + 1) = trO L (k + 2) j ++ [if nx L (k + 2 + 2 * j + 1) 5 = 0 then 0 else trT L (k + 2) (j + 1)]):=Lib.hid rfl
   have hr4 : 0 ≤ pk L (k + 2 + 2 * j) [1,5,9,10,11,15,100] ∧ pk L (k + 2 + 2 * j) [1,5,9,10,11,15,100] ≤ 100:=by
    have : ∀ x ∈ ([1,5,9,10,11,15,100] : List Int),0 ≤ x ∧ x ≤ 100:=by decide
    exact this _ (pk_mem L (k + 2 + 2 * j) (by simp) (by simp))
   generalize trO L (k + 2) j = q at *
   generalize trT L (k + 2) j = tt at *
   go_wp2_with fail
   refine (pick_ex g _ _ L _ _ [1,5,9,10,11,15,100] _ (hsq.alloc _) (by omega) (row_new _ _ _ _ _ _ (Nat.le_refl _) rfl) hsq.lt (by simp) (by simp)).mono ?_
   rintro e w3 ⟨rfl,hs3,hg3⟩
   generalize pk L (k + 2 + 2 * j) [1,5,9,10,11,15,100] = r3 at *
   have hq3:=own_grown (hq.alloc _) hg3 hlt
   have hgr3:=grown_trans' (grown_alloc hgq _) hg3
   have wt : IntKind.i64.wrap (tt + r3) = tt + r3:=IntWalk.i64_in _ (by omega)
   clear hg3 hq hgq hsq
   go_wp2_with fail
   clear wt
   generalize hT2 : tt + r3 = t2 at *
   have HT2 : Hid (trT L (k + 2) (j + 1) = t2):=Lib.hid HT.out
   refine (flip_ex g _ L _ _ hs3 (by omega) (by omega)).mono ?_
   rintro e w4 ⟨rfl,hs4,hg4⟩
   have hq4:=own_grown hq3 hg4 hlt
   have hgr4:=grown_trans' hgr3 hg4
   have z4:=hgr4.size
   clear hq3 hgr3 hg4 hs3 hT2
   by_cases h5 : nx L (k + 2 + 2 * j + 1) 5 = 0
   ·have HO2 : Hid (trO L (k + 2) (j + 1) = q ++ [0]):=Lib.hid (by rw [HO.out,if_pos h5])
    rw [decide_eq_true h5]
    clear h5 HO
    go_wp2_with (at_builtin; go_must (refine wpList_app (lo:=w.heap.size) (base:=w.heap.size) (n:=q.length) (xs:=ints q) _ _ rfl _ _ ty_ints rfl (by repeat (first | exact hq4 | refine World.ownsRow.alloc ?_ _ | refine own_drewN ?_ _ | refine World.ownsRow.drew ?_)) rfl (by first | exact row_new' _ (by first | rfl | simp) (by first | omega | (simp; omega)) rfl | exact row_newN _ _ (by first | rfl | simp) (by first | omega | (simp; omega)) rfl | exact row_newD _ (by first | rfl | simp) (by first | omega | (simp; omega)) rfl) rfl rfl (by first | omega | decide) (by first | omega | decide) (by first | omega | (simp; omega)) ?_))
    intro A5 c5 w5 hown5 hg5 _
    go_wp2_with fail
    go_roundw
    case rel => exact ⟨j + 1,A5,c5,by omega,by go_num,by rw [HO2.out]; simp,by rw [HT2.out],by rw [HO2.out]; simpa [ints] using hown5,(hs4.alloc _).app (hq4.alloc _) hg5 hlt,grown_app (grown_alloc hgr4 _) (hq4.alloc _) hg5 (Nat.le_refl _)⟩
    case measure => simp [intOf]; omega
   ·have HO2 : Hid (trO L (k + 2) (j + 1) = q ++ [t2]):=Lib.hid (by rw [HO.out,if_neg h5,HT2.out])
    rw [decide_eq_false h5]
    clear h5 HO
    go_wp2_with (at_builtin; go_must (refine wpList_app (lo:=w.heap.size) (base:=w.heap.size) (n:=q.length) (xs:=ints q) _ _ rfl _ _ ty_ints rfl (by repeat (first | exact hq4 | refine World.ownsRow.alloc ?_ _ | refine own_drewN ?_ _ | refine World.ownsRow.drew ?_)) rfl (by first | exact row_new' _ (by first | rfl | simp) (by first | omega | (simp; omega)) rfl | exact row_newN _ _ (by first | rfl | simp) (by first | omega | (simp; omega)) rfl | exact row_newD _ (by first | rfl | simp) (by first | omega | (simp; omega)) rfl) rfl rfl (by first | omega | decide) (by first | omega | decide) (by first | omega | (simp; omega)) ?_))
    intro A5 c5 w5 hown5 hg5 _
    go_wp2_with fail
    go_roundw
    case rel => exact ⟨j + 1,A5,c5,by omega,by go_num,by rw [HO2.out]; simp,by rw [HT2.out],by rw [HO2.out]; simpa [ints] using hown5,(hs4.alloc _).app (hq4.alloc _) hg5 hlt,grown_app (grown_alloc hgr4 _) (hq4.alloc _) hg5 (Nat.le_refl _)⟩
    case measure => simp [intOf]; omega
  ·have hjm : j = m:=by omega
   subst hjm
   have hqm : (trO L (k + 2) j).length ≤ 1000:=by omega
   generalize trO L (k + 2) j = q at *
   generalize trT L (k + 2) j = tt at *
   have hKb : k + 2 + 2 * j < 4611686018427100000:=by omega
   generalize k + 2 + 2 * j = K at *
   clear hqk
   by_cases hp0 : 0 < q.length
   ·have dp0 : decide (0 < q.length) = true:=by simpa using hp0
    obtain ⟨l,hl⟩ : ∃ l,q.length = l + 1:=⟨q.length - 1,by omega⟩
    have wl : IntKind.i64.wrap ((q.length : Int) - 1) = (l : Int):=by rw [IntWalk.i64_in _ (by omega)]; omega
    have hll : l < q.length:=by omega
    have hll1 : q.length - 1 = l:=by omega
    obtain ⟨gb,rfl,hgb,hgb',hcb,hfb⟩:=ownBlk hq hp0
    have cl:=hcb l (.int .i64 q[l]) (by simp [ints,List.getElem?_eq_getElem hll])
    have fl:=hfb l
    have HST:=Lib.hid (fun (w' : World) (h : w'.ownsRow w.heap.size 3 1 (.slice (some ⟨gb,0,none⟩) q.length c) q.length (ints q)) => (h.stored l (.int .i64 tt)).1)
    have HI : Hid ((ints q).set l (.int .i64 tt) = ints (q.set l tt)):=Lib.hid (by simp [ints,List.map_set])
    have HG1 : Hid (q.getD l 0 = q[l]):=Lib.hid (by rw [List.getD_eq_getElem?_getD,List.getElem?_eq_getElem hll]; rfl)
    have HX1 : Hid (fx1 L K q tt = if q[l] = 0 then (q.set l tt,K) else if nx L K 4 = 0 then (q.set l tt,K + 1) else (q,K + 1)):=Lib.hid (by
     unfold fx1
     rw [if_neg (by omega),hll1,HG1.out])
    generalize q[l] = x at *
    clear hcb hfb hl hll1 HG1
    by_cases hx : x = 0
    ·have dx : (x == 0) = true:=by simpa using hx
     have HF : Hid (trF L k many = fx2 L (q.set l tt,K)):=Lib.hid (by rw [HF0.out,HX1.out,if_pos hx])
     clear hx HF0 HX1
     go_wp2_with fail
     have hst:=HST.out _ hq
     rw [HI.out] at hst
     have hq : (wr.setCell ⟨gb,l,none⟩ (.int .i64 tt)).ownsRow w.heap.size 3 1 (.slice (some ⟨gb,0,none⟩) (q.set l tt).length c) (q.set l tt).length (ints (q.set l tt)):=by simpa using hst
     have hsq:=hsq.set (p:=⟨gb,l,none⟩) (by simp; omega) (.int .i64 tt)
     have hgq:=grown_set_new hgq (p:=⟨gb,l,none⟩) (by simpa using hgb) (.int .i64 tt)
     have hqm : (q.set l tt).length ≤ 1000:=by simpa using hqm
     have hp : 0 < (q.set l tt).length:=by simpa using hp0
     have hE : q.length = (q.set l tt).length:=by simp
     rw [hE]
     clear hst HST HI cl fl hll wl dp0 hp0 hE
     generalize wr.setCell ⟨gb,l,none⟩ (.int .i64 tt) = wq at *
     generalize q.set l tt = q at *
     generalize (some ⟨gb,0,none⟩ : Option Addr) = A at *
     have dp : decide (0 < q.length) = true:=by simpa using hp
     go_wp2_with fail
     refine (flip_ex g _ L _ _ hsq (by omega) (by omega)).mono ?_
     rintro e w8 ⟨rfl,hs8,hg8⟩
     have hq8:=own_grown hq hg8 hlt
     have hgr8:=grown_trans' hgq hg8
     by_cases h40 : nx L (K) 40 = 0
     ·have HG : Hid (trF L k many = (q.set (nx L (K + 1) q.length).toNat (pk L (K + 2) [0,-1,3,864000001]),K + 3)):=Lib.hid (by rw [HF.out]; unfold fx2; rw [if_neg (by simpa using (by omega : ¬ q.length = 0)),if_pos h40])
      rw [decide_eq_true h40]
      clear h40 HF
      go_wp2_with fail
      refine (next_ex g _ L _ _ hs8 (by omega) (by omega)).mono ?_
      rintro e w9 ⟨rfl,hs9,hg9⟩
      obtain ⟨h90,h91,h92⟩:=nx_bd L (K + 1) q.length (by omega)
      have h93:=h91 (by omega)
      clear h91
      generalize nx L (K + 1) q.length = r9 at *
      obtain ⟨j,rfl⟩:=Int.eq_ofNat_of_zero_le h90
      have hj : j < q.length:=by omega
      have hq9:=own_grown hq8 hg9 hlt
      have hgr9:=grown_trans' hgr8 hg9
      have hlt9:=hs9.lt
      go_wp2_with fail
      refine (pick_ex g _ _ L _ _ [0,-1,3,864000001] _ (hs9.alloc _) (by omega) (row_new _ _ _ _ _ _ (Nat.le_refl _) rfl) hs9.lt (by simp) (by simp)).mono ?_
      rintro e w10 ⟨rfl,hs10,hg10⟩
      have hq10:=own_grown (hq9.alloc _) hg10 hlt
      have hgr10:=grown_trans' (grown_alloc hgr9 _) hg10
      obtain ⟨gb,rfl,hgb,hgb',hcb,hfb⟩:=ownBlk hq10 (by omega)
      have cj:=hcb j (.int .i64 q[j]) (by simp [ints,List.getElem?_eq_getElem hj])
      have fj:=hfb j
      have HV : Hid (pk L (K + 1 + 1) [0,-1,3,864000001] = pk L (K + 2) [0,-1,3,864000001]):=Lib.hid rfl
      rw [HV.out]
      generalize pk L (K + 2) [0,-1,3,864000001] = r10 at *
      have hst:=(hq10.stored j (.int .i64 r10)).1
      have hI : (ints q).set j (.int .i64 r10) = ints (q.set j r10):=by simp [ints,List.map_set]
      rw [hI] at hst
      clear hcb hfb hI
      go_wp2_with fail
      go_ret
      have e1 : (trF L k many) = (q.set j r10,K + 3):=by rw [HG.out]; rfl
      unfold TriedE
      rw [e1]
      exact ⟨some ⟨gb,0,none⟩,c,by simp,by simpa using hst,hs10.set (by simp; omega) _,grown_set_new hgr10 (by simpa using hgb) _⟩
     ·have HG : Hid (trF L k many = (q,K + 1)):=Lib.hid (by rw [HF.out]; unfold fx2; rw [if_neg (by simpa using (by omega : ¬ q.length = 0)),if_neg h40])
      rw [decide_eq_false h40]
      clear h40 HF
      go_wp2_with fail
      go_ret
      unfold TriedE
      rw [HG.out]
      exact ⟨A,c,rfl,hq8,hs8,hgr8⟩
    ·have dx : (x == 0) = false:=by simpa using hx
     have HX2 : Hid (fx1 L K q tt = if nx L K 4 = 0 then (q.set l tt,K + 1) else (q,K + 1)):=Lib.hid (by rw [HX1.out,if_neg hx])
     clear hx HX1
     go_wp2_with fail
     refine (flip_ex g _ L _ _ hsq (by omega) (by omega)).mono ?_
     rintro e w7 ⟨rfl,hs7,hg7⟩
     have hq7:=own_grown hq hg7 hlt
     have hgr7:=grown_trans' hgq hg7
     have hsq:=hs7
     have hgq:=hgr7
     by_cases h4 : nx L K 4 = 0
     ·have HF : Hid (trF L k many = fx2 L (q.set l tt,K + 1)):=Lib.hid (by rw [HF0.out,HX2.out,if_pos h4])
      rw [decide_eq_true h4]
      clear h4 HF0 HX2
      obtain ⟨gb2,eb,_,_,hcb2,hfb2⟩:=ownBlk hq7 hp0
      have eg : gb = gb2:=congrArg Addr.block (Option.some.inj eb)
      subst eg
      obtain ⟨old,cl7⟩ : ∃ old,w7.cell? ⟨gb,l,none⟩ = some old:=⟨_,hcb2 l _ (List.getElem?_eq_getElem (by rw [ints_len]; exact hll))⟩
      have fl7:=hfb2 l
      clear hcb2 hfb2 eb
      go_wp2_with fail
      have hst:=HST.out _ hq7
      rw [HI.out] at hst
      have hq : (w7.setCell ⟨gb,l,none⟩ (.int .i64 tt)).ownsRow w.heap.size 3 1 (.slice (some ⟨gb,0,none⟩) (q.set l tt).length c) (q.set l tt).length (ints (q.set l tt)):=by simpa using hst
      have hsq:=hsq.set (p:=⟨gb,l,none⟩) (by simp; omega) (.int .i64 tt)
      have hgq:=grown_set_new hgq (p:=⟨gb,l,none⟩) (by simpa using hgb) (.int .i64 tt)
      have hqm : (q.set l tt).length ≤ 1000:=by simpa using hqm
      have hp : 0 < (q.set l tt).length:=by simpa using hp0
      have hE : q.length = (q.set l tt).length:=by simp
      rw [hE]
      clear hst HST HI cl fl hll wl dp0 hp0 hE cl7 fl7 hq7 hgr7 hs7 hg7
      generalize w7.setCell ⟨gb,l,none⟩ (.int .i64 tt) = wq at *
      generalize q.set l tt = q at *
      generalize (some ⟨gb,0,none⟩ : Option Addr) = A at *
      have hKb1 : K + 1 < 4611686018427100001:=by omega
      have dp : decide (0 < q.length) = true:=by simpa using hp
      go_wp2_with fail
      refine (flip_ex g _ L _ _ hsq (by omega) (by omega)).mono ?_
      rintro e w8 ⟨rfl,hs8,hg8⟩
      have hq8:=own_grown hq hg8 hlt
      have hgr8:=grown_trans' hgq hg8
      by_cases h40 : nx L (K + 1) 40 = 0
      ·have HG : Hid (trF L k many = (q.set (nx L (K + 1 + 1) q.length).toNat (pk L (K + 1 + 2) [0,-1,3,864000001]),K + 1 + 3)):=Lib.hid (by rw [HF.out]; unfold fx2; rw [if_neg (by simpa using (by omega : ¬ q.length = 0)),if_pos h40])
       rw [decide_eq_true h40]
       clear h40 HF
       go_wp2_with fail
       refine (next_ex g _ L _ _ hs8 (by omega) (by omega)).mono ?_
       rintro e w9 ⟨rfl,hs9,hg9⟩
       obtain ⟨h90,h91,h92⟩:=nx_bd L (K + 1 + 1) q.length (by omega)
       have h93:=h91 (by omega)
       clear h91
       generalize nx L (K + 1 + 1) q.length = r9 at *
       obtain ⟨j,rfl⟩:=Int.eq_ofNat_of_zero_le h90
       have hj : j < q.length:=by omega
       have hq9:=own_grown hq8 hg9 hlt
       have hgr9:=grown_trans' hgr8 hg9
       have hlt9:=hs9.lt
       go_wp2_with fail
       refine (pick_ex g _ _ L _ _ [0,-1,3,864000001] _ (hs9.alloc _) (by omega) (row_new _ _ _ _ _ _ (Nat.le_refl _) rfl) hs9.lt (by simp) (by simp)).mono ?_
       rintro e w10 ⟨rfl,hs10,hg10⟩
       have hq10:=own_grown (hq9.alloc _) hg10 hlt
       have hgr10:=grown_trans' (grown_alloc hgr9 _) hg10
       obtain ⟨gb,rfl,hgb,hgb',hcb,hfb⟩:=ownBlk hq10 (by omega)
       have cj:=hcb j (.int .i64 q[j]) (by simp [ints,List.getElem?_eq_getElem hj])
       have fj:=hfb j
       have HV : Hid (pk L (K + 1 + 1 + 1) [0,-1,3,864000001] = pk L (K + 1 + 2) [0,-1,3,864000001]):=Lib.hid rfl
       rw [HV.out]
       generalize pk L (K + 1 + 2) [0,-1,3,864000001] = r10 at *
       have hst:=(hq10.stored j (.int .i64 r10)).1
       have hI : (ints q).set j (.int .i64 r10) = ints (q.set j r10):=by simp [ints,List.map_set]
       rw [hI] at hst
       clear hcb hfb hI
       go_wp2_with fail
       go_ret
       have e1 : (trF L k many) = (q.set j r10,K + 1 + 3):=by rw [HG.out]; rfl
       unfold TriedE
       rw [e1]
       exact ⟨some ⟨gb,0,none⟩,c,by simp,by simpa using hst,hs10.set (by simp; omega) _,grown_set_new hgr10 (by simpa using hgb) _⟩
      ·have HG : Hid (trF L k many = (q,K + 1 + 1)):=Lib.hid (by rw [HF.out]; unfold fx2; rw [if_neg (by simpa using (by omega : ¬ q.length = 0)),if_neg h40])
       rw [decide_eq_false h40]
       clear h40 HF
       go_wp2_with fail
       go_ret
       unfold TriedE
       rw [HG.out]
       exact ⟨A,c,rfl,hq8,hs8,hgr8⟩
     ·have HF : Hid (trF L k many = fx2 L (q,K + 1)):=Lib.hid (by rw [HF0.out,HX2.out,if_neg h4])
      rw [decide_eq_false h4]
      clear h4 HF0 HX2
      have hq:=hq7
      have hp:=hp0
      clear HST HI cl fl hll wl dp0 hp0 hq7 hgr7 hs7 hg7
      generalize (some ⟨gb,0,none⟩ : Option Addr) = A at *
      have dp : decide (0 < q.length) = true:=by simpa using hp
      go_wp2_with fail
      refine (flip_ex g _ L _ _ hsq (by omega) (by omega)).mono ?_
      rintro e w8 ⟨rfl,hs8,hg8⟩
      have hq8:=own_grown hq hg8 hlt
      have hgr8:=grown_trans' hgq hg8
      by_cases h40 : nx L (K + 1) 40 = 0
      ·have HG : Hid (trF L k many = (q.set (nx L (K + 1 + 1) q.length).toNat (pk L (K + 1 + 2) [0,-1,3,864000001]),K + 1 + 3)):=Lib.hid (by rw [HF.out]; unfold fx2; rw [if_neg (by simpa using (by omega : ¬ q.length = 0)),if_pos h40])
       rw [decide_eq_true h40]
       clear h40 HF
       go_wp2_with fail
       refine (next_ex g _ L _ _ hs8 (by omega) (by omega)).mono ?_
       rintro e w9 ⟨rfl,hs9,hg9⟩
       obtain ⟨h90,h91,h92⟩:=nx_bd L (K + 1 + 1) q.length (by omega)
       have h93:=h91 (by omega)
       clear h91
       generalize nx L (K + 1 + 1) q.length = r9 at *
       obtain ⟨j,rfl⟩:=Int.eq_ofNat_of_zero_le h90
       have hj : j < q.length:=by omega
       have hq9:=own_grown hq8 hg9 hlt
       have hgr9:=grown_trans' hgr8 hg9
       have hlt9:=hs9.lt
       go_wp2_with fail
       refine (pick_ex g _ _ L _ _ [0,-1,3,864000001] _ (hs9.alloc _) (by omega) (row_new _ _ _ _ _ _ (Nat.le_refl _) rfl) hs9.lt (by simp) (by simp)).mono ?_
       rintro e w10 ⟨rfl,hs10,hg10⟩
       have hq10:=own_grown (hq9.alloc _) hg10 hlt
       have hgr10:=grown_trans' (grown_alloc hgr9 _) hg10
       obtain ⟨gb,rfl,hgb,hgb',hcb,hfb⟩:=ownBlk hq10 (by omega)
       have cj:=hcb j (.int .i64 q[j]) (by simp [ints,List.getElem?_eq_getElem hj])
       have fj:=hfb j
       have HV : Hid (pk L (K + 1 + 1 + 1) [0,-1,3,864000001] = pk L (K + 1 + 2) [0,-1,3,864000001]):=Lib.hid rfl
       rw [HV.out]
       generalize pk L (K + 1 + 2) [0,-1,3,864000001] = r10 at *
       have hst:=(hq10.stored j (.int .i64 r10)).1
       have hI : (ints q).set j (.int .i64 r10) = ints (q.set j r10):=by simp [ints,List.map_set]
       rw [hI] at hst
       clear hcb hfb hI
       go_wp2_with fail
       go_ret
       have e1 : (trF L k many) = (q.set j r10,K + 1 + 3):=by rw [HG.out]; rfl
       unfold TriedE
       rw [e1]
       exact ⟨some ⟨gb,0,none⟩,c,by simp,by simpa using hst,hs10.set (by simp; omega) _,grown_set_new hgr10 (by simpa using hgb) _⟩
      ·have HG : Hid (trF L k many = (q,K + 1 + 1)):=Lib.hid (by rw [HF.out]; unfold fx2; rw [if_neg (by simpa using (by omega : ¬ q.length = 0)),if_neg h40])
       rw [decide_eq_false h40]
       clear h40 HF
       go_wp2_with fail
       go_ret
       unfold TriedE
       rw [HG.out]
       exact ⟨A,c,rfl,hq8,hs8,hgr8⟩
   ·have dp0 : decide (0 < q.length) = false:=by simpa using hp0
    have HG : Hid (trF L k many = (q,K)):=Lib.hid (by
     rw [HF0.out]
     have e : fx1 L K q tt = (q,K):=by unfold fx1; rw [if_pos (by omega)]
     rw [e]
     unfold fx2
     rw [if_pos (by simpa using (by omega : q.length = 0))])
    clear HF0
    go_wp2_with fail
    go_ret
    unfold TriedE
    rw [HG.out]
    exact ⟨A,c,rfl,hq,hsq,hgq⟩
end Go.Proofs.YtapjahbflhingaaGreatDoor
