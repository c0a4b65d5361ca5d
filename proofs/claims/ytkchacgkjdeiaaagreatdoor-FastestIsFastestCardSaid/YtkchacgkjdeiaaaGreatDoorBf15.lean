/- Texts of this seat, laid together: SgA SgP SgB. -/
import Derived.Deep.QuietTactic
import Derived.BigQuiet
import Derived.IntWalk
import Derived.Test.YtkchacgkjdeiaaaGreatDoorBf03
import Derived.Test.YtkchacgkjdeiaaaGreatDoorBf05
import Derived.Test.YtkchacgkjdeiaaaGreatDoorBf04
/- The walks of what checks a history, at one that is right. -/
set_option linter.unusedVariables false
set_option linter.unusedSimpArgs false
namespace Go.Proofs.YtkchacgkjdeiaaaGreatDoor
open Go.RowKit Go.Sort

theorem sgM_take (l : List Int) (k : Nat) (h : k < l.length) : sgM (l.take (k + 1)) = max (sgM (l.take k)) l[k]:=by rw [List.take_succ_eq_append_getElem h,sgM_snoc]
structure SplOk (many : Nat) (l : List Int) : Prop where
  len : l.length ≤ many
  bd : ∀ i (h : i < l.length), 0 ≤ l[i] ∧ l[i] ≤ 864000000
  up : ∀ i (h : i < l.length), l[i] ≠ 0 → sgM (l.take i) < l[i]
  fin : ∀ h : l.length - 1 < l.length, l[l.length - 1] ≠ 0
structure HistOk (segs : List (List UInt8)) (atts : List Att) : Prop where
  n1 : 1 ≤ segs.length
  n2 : segs.length ≤ 60
  key : ∀ i (h : i < segs.length), keyB segs[i] = true
  new : ∀ i (h : i < segs.length), segs[i] ∉ segs.take i
  m : atts.length ≤ 500
  no : ∀ i (h : i < atts.length), 1 ≤ atts[i].1 ∧ atts[i].1 ≤ 1000000
  up : ∀ i (h : i + 1 < atts.length), atts[i].1 < atts[i + 1].1
  spl : ∀ i (h : i < atts.length), SplOk segs.length atts[i].2
def Hist (w : World) (lo : Nat) (SA TA : Option Addr) (segs : List (List UInt8)) (atts : List Att) : Prop :=
 Row w lo 1 SA segs.length (strs segs) ∧ ∃ cs,Row w lo 2 TA atts.length cs ∧ ∀ i (_ : i < atts.length),∃ B c,cs[i * 2]? = some (.int .i64 atts[i].1) ∧ cs[i * 2 + 1]? = some (.slice B atts[i].2.length c) ∧ Row w lo 1 B atts[i].2.length (ints atts[i].2)
theorem Hist.below {w w' : World} {lo : Nat} {SA TA : Option Addr} {segs : List (List UInt8)} {atts : List Att} (h : Hist w lo SA TA segs atts) (hb : Below w.heap.size w w') : Hist w' lo SA TA segs atts:=by
 obtain ⟨h1,cs,h2,h3⟩:=h;exact ⟨h1.below hb,cs,h2.below hb,fun i hi => let ⟨B,c,a,b,d⟩:=h3 i hi; ⟨B,c,a,b,d.below hb⟩⟩
theorem Hist.alloc {w : World} {lo : Nat} {SA TA : Option Addr} {segs : List (List UInt8)} {atts : List Att} (h : Hist w lo SA TA segs atts) (o : Obj) : Hist (w.alloc o) lo SA TA segs atts:=h.below ((Below.refl _ _).alloc (Nat.le_refl _) o)
theorem Hist.att {w : World} {lo : Nat} {SA TA : Option Addr} {segs : List (List UInt8)} {atts : List Att} (h : Hist w lo SA TA segs atts) {i : Nat} (hi : i < atts.length) :
  ∃ b off B c,TA = some ⟨b,off,none⟩ ∧ b < w.heap.size ∧ w.cell? ⟨b,off + i * 2,none⟩ = some (.int .i64 atts[i].1) ∧ w.cell? ⟨b,off + i * 2 + 1,none⟩ = some (.slice B atts[i].2.length c) ∧ Row w lo 1 B atts[i].2.length (ints atts[i].2):=by
 obtain ⟨_,cs,h2,h3⟩:=h;obtain ⟨B,c,e1,e2,hr⟩:=h3 i hi;obtain ⟨b,off,e,_,hb,hc⟩:=h2.2 (by omega);exact ⟨b,off,B,c,e,hb,hc _ _ e1,by rw [Nat.add_assoc]; exact hc _ _ e2,hr⟩

set_option maxHeartbeats 1000000 in
theorem splitsFault_ok (many : Nat) (B : Option Addr) (c lo : Nat) (l : List Int) (w : World) (hr : Row w lo 1 B l.length (ints l)) (hm : many ≤ 1000) (hok : SplOk many l) :
  Calls Tryz.prog 124 #[.int .i64 many,.slice B l.length c] w fun e w' => e = .returned (.int .i64 0) ∧ w = w':=by
 have hlen:=hok.len;have HO:=Lib.hid hok
 have d9 : decide (many < l.length) = false:=by simp; omega
 clear hok
 go_enter Tryz.func124,Tryz.ntmps124
 go_wp2_with fail
 go_loop [4,5,14] (fun _ v i => ∃ k : Nat,k ≤ l.length ∧ i = .int .i64 k ∧ v = .int .i64 (sgM (l.take k))) (fun _ _ i => l.length - (intOf i).toNat)
 case atStart => exact ⟨0,Nat.zero_le _,rfl,rfl⟩
 case round =>
  obtain ⟨k,hk,rfl,rfl⟩:=hrel
  by_cases hlt : k < l.length
  ·obtain ⟨b,off,rfl,_,hbs,c0⟩:=hr.int_at hlt
   obtain ⟨x0,x1⟩:=HO.out.bd k hlt;have HU:=Lib.hid (HO.out.up k hlt);have HT:=Lib.hid (sgM_take l k hlt);have g0:=sgM_nonneg (l.take k);generalize l[k] = x at *;generalize sgM (l.take k) = last at *;go_wp2_with fail;refine (out_any _ _ _ _).mono ?_;rintro e w1 ⟨rfl,rfl⟩
   have d0 : (decide (x < 0) || decide (864000000 < x)) = false:=by simp; omega
   rw [d0];clear d0
   by_cases hx : x = 0
   ·have HX : Hid (sgM (l.take (k + 1)) = last):=Lib.hid (by rw [HT.out]; omega)
    have d1 : (x != 0) = false:=by simpa using hx
    have d2 : ¬ last < x:=by omega
    have d3 : x ≤ last:=by omega
    clear hx HT HU;go_wp2_with fail;go_round
    case rel => exact ⟨k + 1,by omega,by go_num,by rw [HX.out]⟩
    case measure => simp [intOf]; omega
   ·have h1:=HU.out hx
    have HX : Hid (sgM (l.take (k + 1)) = x):=Lib.hid (by rw [HT.out]; omega)
    have d1 : (x != 0) = true:=by simpa using hx
    have d2 : decide (x ≤ last) = false:=by simp; omega
    clear hx HT HU;go_wp2_with fail;go_round
    case rel => exact ⟨k + 1,by omega,by go_num,by rw [HX.out]⟩
    case measure => simp [intOf]; omega
  ·by_cases h0 : 0 < l.length
   ·have hfin:=HO.out.fin (by omega)
    obtain ⟨b,off,rfl,_,hbs,c0⟩:=hr.int_at (k:=l.length - 1) (by omega);generalize l[l.length - 1] = x at *
    have d1 : (x == 0) = false:=by simpa using hfin
    have d2 : decide (0 < l.length) = true:=by simpa using h0
    clear hfin;go_wp2_with fail;go_ret;exact ⟨rfl,rfl⟩
   ·have d2 : decide (0 < l.length) = false:=by simpa using h0
    go_wp2_with fail;go_ret;exact ⟨rfl,rfl⟩

set_option maxHeartbeats 1000000 in
theorem indexS_none (A : Option Addr) (c lo : Nat) (ss : List (List UInt8)) (x : List UInt8) (w : World) (hr : Row w lo 1 A ss.length (strs ss)) (hl : ss.length ≤ 1000000000) (hx : x ∉ ss) :
  Calls Tryz.prog 159 #[.slice A ss.length c,encStr x] w fun e w' => e = .returned (.int .i64 (-1)) ∧ w = w':=by
 have HX : Hid (∀ k (hk : k < ss.length),¬ x = ss[k]):=Lib.hid (fun k hk h => hx (by rw [h]; exact List.getElem_mem _));clear hx;unfold encStr
 go_enter Tryz.func159,Tryz.ntmps159
 go_wp2_with fail
 go_loop [8] (fun i => ∃ k : Nat,k ≤ ss.length ∧ i = .int .i64 k) (fun i => ss.length - (intOf i).toNat)
 case atStart => exact ⟨0,Nat.zero_le _,rfl⟩
 case round =>
  obtain ⟨k,hk,rfl⟩:=hrel
  by_cases hlt : k < ss.length
  ·obtain ⟨b,off,rfl,_,hbs,c0⟩:=hr.str_at hlt
   have hne:=str_ne (HX.out k hlt);unfold encStr at c0;generalize ss[k] = z at *
   have hne' : (x == z) = false:=by rw [ByteArray.toList_eq,ByteArray.toList_eq] at hne; simpa using hne
   go_wp2_with fail;go_round
   case rel => exact ⟨k + 1,by omega,by go_num⟩
   case measure => simp [intOf]; omega
  ·go_wp2_with fail
   go_ret;exact ⟨rfl,rfl⟩
theorem containsS_none (A : Option Addr) (c lo : Nat) (ss : List (List UInt8)) (x : List UInt8) (w : World) (hr : Row w lo 1 A ss.length (strs ss)) (hl : ss.length ≤ 1000000000) (hx : x ∉ ss) :
  Calls Tryz.prog 123 #[.slice A ss.length c,encStr x] w fun e w' => e = .returned (.bool false) ∧ w = w':=by
 go_enter Tryz.func123,Tryz.ntmps123
 go_wp2_with fail;refine (indexS_none _ _ _ ss x _ hr hl hx).mono ?_;rintro e w1 ⟨rfl,rfl⟩;go_wp2_with fail;go_ret;exact ⟨rfl,rfl⟩
end Go.Proofs.YtkchacgkjdeiaaaGreatDoor
/- Plain laws of the steps between splits and of the least sums that the code keeps. No program in sight. -/
namespace Go.Proofs.YtkchacgkjdeiaaaGreatDoor

def stS (l : List Int) : Nat → Int × Int × List Stp
 | 0 => (0,0,[])
 | k + 1 => if l.getD k 0 ≠ 0 then ((k : Int) + 1,l.getD k 0,(stS l k).2.2 ++ [((stS l k).1,(k : Int) + 1,l.getD k 0 - (stS l k).2.1)]) else stS l k
theorem stS_yes (l : List Int) (k : Nat) (hk : k < l.length) (h : l[k] ≠ 0) : stS l (k + 1) = ((k : Int) + 1,l[k],(stS l k).2.2 ++ [((stS l k).1,(k : Int) + 1,l[k] - (stS l k).2.1)]):=by
 have e : l.getD k 0 = l[k]:=by rw [List.getD_eq_getElem?_getD,List.getElem?_eq_getElem hk]; rfl
 rw [stS,e,if_pos h]
theorem stS_no (l : List Int) (k : Nat) (hk : k < l.length) (h : l[k] = 0) : stS l (k + 1) = stS l k:=by
 have e : l.getD k 0 = l[k]:=by rw [List.getD_eq_getElem?_getD,List.getElem?_eq_getElem hk]; rfl
 rw [stS,e,if_neg (by simp [h])]
def stepsOf (l : List Int) : List Stp:=(stS l l.length).2.2
def stepsA (atts : List Att) : List Stp:=atts.flatMap fun a => stepsOf a.2
theorem stepsA_take (atts : List Att) (k : Nat) (h : k < atts.length) : stepsA (atts.take (k + 1)) = stepsA (atts.take k) ++ stepsOf atts[k].2:=by
 unfold stepsA;rw [List.take_succ_eq_append_getElem h,List.flatMap_append]; simp
theorem stS_inv {many : Nat} {l : List Int} (h : SplOk many l) : ∀ k,k ≤ l.length → 0 ≤ (stS l k).1 ∧ (stS l k).1 ≤ k ∧ (stS l k).2.1 = sgM (l.take k) ∧ (stS l k).2.2.length ≤ k ∧ ∀ s ∈ (stS l k).2.2,0 ≤ s.1 ∧ s.1 < s.2.1 ∧ s.2.1 ≤ (k : Int) ∧ 0 ≤ s.2.2 ∧ s.2.2 ≤ 864000000:=by
 intro k
 induction k with
 | zero => intro _; simp [stS,sgM]
 | succ k ih =>
  intro hk;obtain ⟨a,b,c,d,e⟩:=ih (by omega)
  have hlt : k < l.length:=by omega
  have bd:=h.bd k hlt
  by_cases h0 : l[k] = 0
  ·rw [stS_no l k hlt h0,sgM_take l k hlt,h0]
   refine ⟨a,by omega,by rw [c]; have:=sgM_nonneg (l.take k); omega,by omega,fun s hs => ?_⟩;have:=e s hs; omega
  ·rw [stS_yes l k hlt h0,sgM_take l k hlt]
   have u:=h.up k hlt h0;have g:=sgM_nonneg (l.take k);refine ⟨by simp; omega,by simp,by simp; omega,by simp; omega,fun s hs => ?_⟩;rcases List.mem_append.1 hs with hs | hs
   ·have:=e s hs; omega
   ·simp at hs; subst hs; simp only; rw [c]; omega
theorem stepsA_fwd {segs : List (List UInt8)} {atts : List Att} (h : HistOk segs atts) : Fwd (stepsA atts) segs.length ∧ (stepsA atts).length ≤ 30000 ∧ ∀ s ∈ stepsA atts,s.2.2 ≤ 864000000:=by
 have h1 : ∀ i (hi : i < atts.length),∀ s ∈ stepsOf atts[i].2,0 ≤ s.1 ∧ s.1 < s.2.1 ∧ s.2.1 ≤ (segs.length : Int) ∧ 0 ≤ s.2.2 ∧ s.2.2 ≤ 864000000:=by
  intro i hi s hs;have:=(stS_inv (h.spl i hi) _ (Nat.le_refl _)).2.2.2.2 s hs;have:=(h.spl i hi).len;omega
 have h2 : ∀ s ∈ stepsA atts,0 ≤ s.1 ∧ s.1 < s.2.1 ∧ s.2.1 ≤ (segs.length : Int) ∧ 0 ≤ s.2.2 ∧ s.2.2 ≤ 864000000:=by
  intro s hs;obtain ⟨a,ha,hs⟩:=List.mem_flatMap.1 hs;obtain ⟨i,hi,rfl⟩:=List.mem_iff_getElem.1 ha;exact h1 i hi s hs
 refine ⟨fun s hs => ?_,?_,fun s hs => (h2 s hs).2.2.2.2⟩
 ·have:=h2 s hs; omega
 ·have h3 : ∀ k,k ≤ atts.length → (stepsA (atts.take k)).length ≤ 60 * k:=by
   intro k
   induction k with
   | zero => intro _; simp [stepsA]
   | succ k ih =>
    intro hk;rw [stepsA_take atts k (by omega),List.length_append];have:=ih (by omega);have:=(stS_inv (h.spl k (by omega)) _ (Nat.le_refl _)).2.2.2.1;have:=(h.spl k (by omega)).len;have:=h.n2;unfold stepsOf;omega
  have:=h3 atts.length (Nat.le_refl _);rw [List.take_length] at this;have:=h.m;omega
def outL (V : Nat → Int) (p : List Stp) (n : Nat) : List Int:=(List.range (n + 1)).map (outP V p n)
theorem outL_len (V : Nat → Int) (p : List Stp) (n : Nat) : (outL V p n).length = n + 1:=by simp [outL]
theorem outL_at (V : Nat → Int) (p : List Stp) (n i : Nat) (h : i < (outL V p n).length) : (outL V p n)[i] = outP V p n i:=by simp [outL]
theorem outL_nil (V : Nat → Int) (n : Nat) : outL V [] n = List.replicate n (-1) ++ [0]:=by
 apply List.ext_getElem
 ·simp [outL]
 ·intro i h1 h2
  rw [outL_at];unfold outP
  simp [outL] at h1
  by_cases h : i = n
  ·subst h; simp
  ·rw [if_neg h,List.getElem_append_left (by simp; omega)]; simp [cands,leastOf]
theorem outL_keep {V : Nat → Int} {p : List Stp} {s : Stp} {n : Nat} (h0 : 0 ≤ s.1) (h1 : s.1 < (n : Int)) (h : ¬ (0 ≤ V s.2.1.toNat ∧ (outP V p n s.1.toNat < 0 ∨ s.2.2 + V s.2.1.toNat < outP V p n s.1.toNat))) : outL V (p ++ [s]) n = outL V p n:=by
 apply List.ext_getElem
 ·simp [outL]
 ·intro i h2 h3
  rw [outL_at,outL_at];unfold outP at h ⊢;rw [cands_snoc]
  split
  ·rfl
  ·rename_i hi
   rw [if_neg (by omega)] at h
   by_cases hc : s.1 = (i : Int) ∧ 0 ≤ V s.2.1.toNat
   ·rw [if_pos hc,leastOf_snoc]
    have e : s.1.toNat = i:=by omega
    rw [e] at h;rw [if_neg (fun k => h ⟨hc.2,k⟩)]
   ·rw [if_neg hc,List.append_nil]
theorem outL_set {V : Nat → Int} {p : List Stp} {s : Stp} {n : Nat} (h0 : 0 ≤ s.1) (h1 : s.1 < (n : Int)) (h : 0 ≤ V s.2.1.toNat ∧ (outP V p n s.1.toNat < 0 ∨ s.2.2 + V s.2.1.toNat < outP V p n s.1.toNat)) : outL V (p ++ [s]) n = (outL V p n).set s.1.toNat (s.2.2 + V s.2.1.toNat):=by
 apply List.ext_getElem
 ·simp [outL]
 ·intro i h2 h3
  rw [outL_at,List.getElem_set];unfold outP at h;rw [if_neg (by omega)] at h
  by_cases e : s.1.toNat = i
  ·rw [if_pos e]
   unfold outP;rw [if_neg (by omega),cands_snoc,if_pos ⟨by omega,h.1⟩,leastOf_snoc];rw [e] at h;rw [if_pos h.2]
  ·rw [if_neg e,outL_at]
   unfold outP
   have hn' : ¬ (s.1 = (i : Int) ∧ 0 ≤ V s.2.1.toNat):=fun k => e (by omega)
   rw [cands_snoc];simp only [hn',if_false,List.append_nil]
theorem lvV_le {ss : List Stp} {n : Nat} (hf : Fwd ss n) (ht : ∀ s ∈ ss,s.2.2 ≤ 864000000) : ∀ k i,n - i = k → i ≤ n → lvV ss n i ≤ 864000000 * k:=by
 intro k
 induction k using Nat.strongRecOn with
 | ind k ih =>
  intro i hk hi
  by_cases h : i = n
  ·subst h; rw [lvV_end]; omega
  ·rw [lvV_eq hf i (by omega)]
   rcases leastOf_spec _ (cands_nonneg (V:=lvV ss n) hf i) with ⟨_,h1⟩ | ⟨h1,_⟩
   ·rw [h1]; omega
   ·unfold cands at h1
    obtain ⟨s,hs,e⟩:=List.mem_map.1 h1;have hm:=List.mem_filter.1 hs;simp only [Bool.and_eq_true,decide_eq_true_eq] at hm;have f:=hf s hm.1;have t:=ht s hm.1;have:=ih (n - s.2.1.toNat) (by omega) s.2.1.toNat rfl (by omega);unfold cands;rw [← e]
    have h9 : (n - s.2.1.toNat : Nat) + 1 ≤ k:=by omega
    omega
end Go.Proofs.YtkchacgkjdeiaaaGreatDoor
/- The walk of CheckHistory at a history that is right. -/
namespace Go.Proofs.YtkchacgkjdeiaaaGreatDoor
open Go.RowKit Go.Sort

theorem Row.pre {w : World} {lo : Nat} {A : Option Addr} {ss : List (List UInt8)} (h : Row w lo 1 A ss.length (strs ss)) (k : Nat) (hk : k ≤ ss.length) : Row w lo 1 A (ss.take k).length (strs (ss.take k)):=by
 have e : (ss.take k).length = k:=by simp; omega
 rw [e];refine ⟨by rw [strs_len,e]; omega,fun h0 => ?_⟩;obtain ⟨b,off,ea,hl,hb,hc⟩:=h.2 (by omega);refine ⟨b,off,ea,hl,hb,fun j u hu => hc j u ?_⟩;unfold strs at hu ⊢;rw [List.map_take] at hu;rw [List.getElem?_take] at hu
 split at hu
 ·exact hu
 ·cases hu
theorem Blk.two_ {w : World} {g : Nat} {t : TypeId} {a b : Value} (h : Blk w g t #[a,b]) : w.cell? ⟨g,0,none⟩ = some a ∧ w.cell? ⟨g,1,none⟩ = some b:=⟨by simpa using h.cell 0,by simpa using h.cell 1⟩

set_option maxHeartbeats 2000000 in
set_option maxRecDepth 100000 in
theorem checkHistory_ok (SA TA : Option Addr) (c d lo : Nat) (segs : List (List UInt8)) (atts : List Att) (w : World) (hh : Hist w lo SA TA segs atts) (hc : segs.length ≤ c) (hok : HistOk segs atts) :
  Calls Tryz.prog 93 #[.agg #[.slice SA segs.length c,.slice TA atts.length d]] w fun e w' => e = .returned (.int .i64 0) ∧ Below w.heap.size w w':=by
 have n1:=hok.n1;have n2:=hok.n2;have m:=hok.m;have HO:=Lib.hid hok;clear hok
 have e1 : ((segs.length : Int) == 0) = false:=by rw [beq_eq_false_iff_ne]; omega
 have e2 : decide ((60 : Int) < (segs.length : Int)) = false:=by simp; omega
 have e3 : decide ((500 : Int) < (atts.length : Int)) = false:=by simp; omega
 go_enter Tryz.func93,Tryz.ntmps93
 go_wp2_with fail;have hb0 : Below w.heap.size w (w.alloc (.cells #[.slice SA segs.length c,.slice TA atts.length d] 119)):=(Below.refl _ _).alloc (Nat.le_refl _) _;have hk0 : Blk (w.alloc (.cells #[.slice SA segs.length c,.slice TA atts.length d] 119)) w.heap.size 119 #[.slice SA segs.length c,.slice TA atts.length d]:=Blk.new _ _ _;have hh0:=hh.alloc (.cells #[.slice SA segs.length c,.slice TA atts.length d] 119);generalize w.alloc (.cells #[.slice SA segs.length c,.slice TA atts.length d] 119) = w0 at *;have hz0:=hk0.lt;obtain ⟨k0,k1⟩:=hk0.two_;clear hh
 go_loop [21] (fun i => ∃ k : Nat,k ≤ segs.length ∧ i = .int .i64 k) (fun i => segs.length - (intOf i).toNat)
 case atStart => exact ⟨0,Nat.zero_le _,rfl⟩
 case round =>
  obtain ⟨k,hk,rfl⟩:=hrel
  by_cases hlt : k < segs.length
  ·have hpre:=hh0.1.pre k (by omega)
   obtain ⟨b,off,rfl,_,hbs,c0⟩:=hh0.1.str_at hlt;have HK : Hid (keyB (⟨segs[k].toArray⟩ : ByteArray).data.toList = true):=Lib.hid (by simpa using HO.out.key k hlt);have HN:=Lib.hid (HO.out.new k hlt)
   have hlen : (segs.take k).length = k:=by simp; omega
   have HL:=Lib.hid hlen;clear hlen;generalize segs[k] = z at *;unfold encStr at c0;go_wp2_with fail;refine (key_ok _ _ HK.out).mono ?_;rintro e w1 ⟨rfl,rfl⟩;go_wp2_with fail;refine Calls.mono (by rw [← HL.out]; exact containsS_none _ _ _ (segs.take k) z _ hpre (by have:=HL.out; omega) HN.out) ?_;rintro e w1 ⟨rfl,rfl⟩;go_wp2_with fail;go_round
   case rel => exact ⟨k + 1,by omega,by go_num⟩
   case measure => simp [intOf]; omega
  ·have hkn : k = segs.length:=by omega
   subst hkn;go_wp2_with fail
   go_loopw [43] (fun i wr => ∃ k : Nat,k ≤ atts.length ∧ i = .int .i64 k ∧ Below w0.heap.size w0 wr) (fun i _ => atts.length - (intOf i).toNat)
   case atStart => exact ⟨0,Nat.zero_le _,rfl,Below.refl _ _⟩
   case round =>
    obtain ⟨k,hk,rfl,hbw⟩:=hrel;have hz:=hbw.size
    by_cases hlt2 : k < atts.length
    ·have hhw:=hh0.below hbw
     have hkw:=hk0.below hbw;have hzw:=hkw.lt;obtain ⟨a0,a1⟩:=hkw.two_;obtain ⟨b,off,B,cB,rfl,hbs,c0,c1,hrB⟩:=hhw.att hlt2;obtain ⟨x0,x1⟩:=HO.out.no k hlt2;have HS:=Lib.hid (HO.out.spl k hlt2);have hrBa:=hrB.alloc (.cells #[.int .i64 atts[k].1,.slice B atts[k].2.length cB] 116)
     by_cases hk0' : k = 0
     ·have d0 : decide ((0 : Int) < (k : Int)) = false:=by simp; omega
      have d0' : decide (0 < k) = false:=by simp; omega
      have d1 : (k : Int) ≤ 0:=by omega
      clear hk0';go_wp2_with fail;refine (out_any _ _ _ _).mono ?_;rintro e w1 ⟨rfl,rfl⟩
      have dd : (decide (atts[k].1 < 1) || decide (1000000 < atts[k].1)) = false:=by simp; omega
      rw [dd];clear dd;go_wp2_with fail
      go_quiet (fail)
      go_wp2_with fail;refine (splitsFault_ok segs.length B _ _ _ _ (Row.drewN hrBa _) (by omega) HS.out).mono ?_;rintro e w1 ⟨rfl,rfl⟩;go_wp2_with fail;go_roundw
      case rel => exact ⟨k + 1,by omega,by go_num,(by repeat (first | exact hbw | refine Below.alloc ?_ (by first | omega | (simp; omega)) _ | refine below_drewN' ?_ _ | refine Below.drew ?_))⟩
      case measure => simp [intOf]; omega
     ·have hk1 : k - 1 < atts.length:=by omega
      have hup:=HO.out.up (k - 1) (by omega);obtain ⟨b',off',B',cB',e',hbs',p0,_,_⟩:=hhw.att (i:=k - 1) hk1
      obtain ⟨rfl,rfl⟩ : b' = b ∧ off' = off:=by injection e' with e'; injection e' with h1 h2; exact ⟨h1.symm,h2.symm⟩
      clear e';simp only [show k - 1 + 1 = k by omega] at hup
      have d0 : decide ((0 : Int) < (k : Int)) = true:=by simp; omega
      have d0' : decide (0 < k) = true:=by simp; omega
      have d1 : (0 : Int) < (k : Int):=by omega
      have d2 : decide (atts[k].1 ≤ atts[k - 1].1) = false:=by simp; omega
      have d3 : IntKind.i64.wrap ((k : Int) - 1) = (k : Int) - 1:=IntWalk.i64_in _ (by omega);go_wp2_with fail;refine (out_any _ _ _ _).mono ?_;rintro e w1 ⟨rfl,rfl⟩
      have dd : (decide (atts[k].1 < 1) || decide (1000000 < atts[k].1)) = false:=by simp; omega
      rw [dd];clear dd;go_wp2_with fail
      go_quiet (fail)
      clear d3;go_wp2_with fail;refine (splitsFault_ok segs.length B _ _ _ _ (Row.drewN hrBa _) (by omega) HS.out).mono ?_;rintro e w1 ⟨rfl,rfl⟩;go_wp2_with fail;go_roundw
      case rel => exact ⟨k + 1,by omega,by go_num,(by repeat (first | exact hbw | refine Below.alloc ?_ (by first | omega | (simp; omega)) _ | refine below_drewN' ?_ _ | refine Below.drew ?_))⟩
      case measure => simp [intOf]; omega
    ·go_wp2_with fail
     go_ret;exact ⟨rfl,hb0.trans (hbw.mono hb0.size)⟩
end Go.Proofs.YtkchacgkjdeiaaaGreatDoor
