/- Texts of this seat, laid together: Cm Lx Ly Lz. -/
import Derived.Handy
import Derived.Test.YtapjahbflhingaaGreatDoorBu38
import Derived.Test.YtapjahbflhingaaGreatDoorBu36
import Derived.Test.YtapjahbflhingaaGreatDoorBu32
/- What a comparison is, and what its deltas are. Plain laws; no program in sight. -/
namespace Go.Proofs.YtapjahbflhingaaGreatDoor
set_option linter.unusedVariables false
set_option linter.unusedSimpArgs false
open Go.RowKit

def rowsQ (atts : List Att) (n : Nat) : List (List Int):=(List.range n).map fun k => sorted (rowA atts k)
theorem rowsQ_len (atts : List Att) (n : Nat) : (rowsQ atts n).length = n:=by simp [rowsQ]
theorem rowsS_full (atts : List Att) (n : Nat) : rowsS atts n n = rowsQ atts n:=by
 unfold rowsS rowsQ
 refine List.map_congr_left fun k hk => ?_
 rw [if_pos (by simpa using hk)]
theorem row_ok {segs : List (List UInt8)} {atts : List Att} (hok : HistOk segs atts) (k : Nat) : RowOk (sorted (rowA atts k)) where
 up:=by
  intro i h
  have:=List.pairwise_mergeSort (le:=fun x y : Int => decide (x ≤ y)) (fun a b c h1 h2 => by simp at *; omega) (fun a b => by simp; omega) (rowA atts k)
  have h2:=(List.pairwise_iff_getElem.1 this) i (i + 1) (by unfold sorted at h; omega) (by unfold sorted at h; omega) (by omega)
  exact of_decide_eq_true h2
 bd:=fun x hx => rowA_bd hok.spl k x (sorted_mem.1 hx)
 m:=by rw [sorted_len]; have:=rowA_len atts k; have:=hok.m; omega
theorem rowsQ_ok {segs : List (List UInt8)} {atts : List Att} (hok : HistOk segs atts) (n : Nat) : ∀ r ∈ rowsQ atts n,RowOk r:=by
 intro r hr
 obtain ⟨k,_,rfl⟩:=List.mem_map.1 hr
 exact row_ok hok k
def fullB (rows : List (List Int)) : Bool:=rows.all fun r => decide (0 < r.length)
theorem fullB_at {rows : List (List Int)} (h : fullB rows = true) {k : Nat} (hk : k < rows.length) : 0 < rows[k].length:=by
 have:=List.all_eq_true.1 h _ (List.getElem_mem hk)
 simpa using this
theorem fullB_snoc (rows : List (List Int)) (r : List Int) : fullB (rows ++ [r]) = (fullB rows && decide (0 < r.length)):=by simp [fullB]
def eachO (f : List Int → Int) (rows : List (List Int)) : Option (List Int):=if fullB rows then some (addA (rows.map f)) else none
def evenO (rows : List (List Int)) (most : Int) : Option (List Int):=(evF rows most 1001).map fun p => addA (rows.map fun r => levA r p)
def bestO (n : Nat) (atts : List Att) : Option (List Int):=if bI n atts atts.length < 0 then none else some (atts.getD (bI n atts atts.length).toNat (0,[])).2
theorem bestO_none {n : Nat} {atts : List Att} (h : bI n atts atts.length = -1) : bestO n atts = none:=by simp [bestO,h]
theorem bestO_at {n : Nat} {atts : List Att} {j : Nat} (h : bI n atts atts.length = j) (hj : j < atts.length) : bestO n atts = some atts[j].2:=by
 have hn : ¬ (j : Int) < 0:=by omega
 have e : atts.getD j (0,[]) = atts[j]:=by rw [List.getD_eq_getElem?_getD,List.getElem?_eq_getElem hj]; rfl
 simp only [bestO,h,hn,if_false,Int.toNat_natCast,e]
def lastO (n : Nat) (atts : List Att) : Nat → Option (List Int)
 | 0 => none
 | k + 1 => if h : k < atts.length then (if atts[k].2.length = n then some atts[k].2 else lastO n atts k) else lastO n atts k
theorem lastO_yes {n : Nat} {atts : List Att} {k : Nat} (hk : k < atts.length) (h : atts[k].2.length = n) : lastO n atts (k + 1) = some atts[k].2:=by simp [lastO,hk,h]
theorem lastO_no {n : Nat} {atts : List Att} {k : Nat} (hk : k < atts.length) (h : ¬ atts[k].2.length = n) : lastO n atts (k + 1) = lastO n atts k:=by simp [lastO,hk,h]
theorem lastO_inv (n : Nat) (atts : List Att) : ∀ k,lastO n atts k = none ∨ ∃ j,∃ h : j < atts.length,lastO n atts k = some atts[j].2 ∧ atts[j].2.length = n:=by
 intro k
 induction k with
 | zero => exact .inl rfl
 | succ k ih =>
  by_cases hk : k < atts.length
  ·by_cases h : atts[k].2.length = n
   ·exact .inr ⟨k,hk,lastO_yes hk h,h⟩
   ·rw [lastO_no hk h]; exact ih
  ·have : lastO n atts (k + 1) = lastO n atts k:=by simp [lastO,hk]
   rw [this]; exact ih
def goldF (r : List Int) : Int:=r.headD 0
theorem goldF_at {r : List Int} (h : 0 < r.length) : goldF r = r[0]:=by
 unfold goldF; rw [List.headD_eq_head?_getD,List.head?_eq_getElem?,List.getElem?_eq_getElem h]; rfl
def cmpO (n : Nat) (atts : List Att) (how : Int) : Option (List Int) :=
 if how = 1 then bestO n atts
 else if how = 2 then eachO goldF (rowsQ atts n)
 else if how = 3 then eachO mnA (rowsQ atts n)
 else if how = 4 then eachO (fun r => levA r 500) (rowsQ atts n)
 else if how = 5 then lastO n atts atts.length
 else if bI n atts atts.length < 0 then none else if fullB (rowsQ atts n) then evenO (rowsQ atts n) (bT n atts) else none
def CmpOk (n : Nat) (o : Option (List Int)) : Prop:=∀ l,o = some l → l.length = n ∧ ∀ i (h : i < l.length),0 ≤ l[i] ∧ l[i] ≤ 51840000000
theorem CmpOk.none_ (n : Nat) : CmpOk n none:=fun _ h => by cases h
theorem addA_ok {n : Nat} {l : List Int} (hl : l.length = n) (hn : n ≤ 60) (h : ∀ x ∈ l,0 ≤ x ∧ x ≤ 864000000) : CmpOk n (some (addA l)):=by
 intro m hm
 injection hm with hm
 subst hm
 refine ⟨by rw [addA_len,hl],fun i hi => ?_⟩
 rw [addA_at]
 have h1 : i < l.length:=by simpa [addA_len] using hi
 have:=preS_bd h (i + 1) (by omega)
 omega
theorem att_ok {segs : List (List UInt8)} {atts : List Att} (hok : HistOk segs atts) {j : Nat} (hj : j < atts.length) (hn : atts[j].2.length = segs.length) : CmpOk segs.length (some atts[j].2):=by
 intro m hm
 injection hm with hm
 subst hm
 refine ⟨hn,fun i hi => ?_⟩
 have:=(hok.spl j hj).bd i hi
 omega
theorem each_ok {n : Nat} {rows : List (List Int)} {f : List Int → Int} (hn : rows.length = n) (h6 : n ≤ 60) (hf : ∀ r ∈ rows,0 < r.length → 0 ≤ f r ∧ f r ≤ 864000000) : CmpOk n (eachO f rows):=by
 unfold eachO
 split
 ·rename_i h
  refine addA_ok (by simpa using hn) h6 (fun x hx => ?_)
  obtain ⟨r,hr,rfl⟩:=List.mem_map.1 hx
  have:=List.all_eq_true.1 h r hr
  exact hf r hr (by simpa using this)
 ·exact .none_ _
theorem goldF_bd {r : List Int} (h : RowOk r) (h0 : 0 < r.length) : 0 ≤ goldF r ∧ goldF r ≤ 864000000:=by
 rw [goldF_at h0]; have:=h.at h0; omega
theorem evF_lt {rows : List (List Int)} {most : Int} : ∀ k p,evF rows most k = some p → p < k ∧ (rows.map fun r => levA r p).sum ≤ most:=by
 intro k
 induction k with
 | zero => intro p h; cases h
 | succ k ih =>
  intro p h
  by_cases hc : (rows.map fun r => levA r k).sum ≤ most
  ·rw [evF_yes hc] at h
   injection h with h
   subst h
   exact ⟨by omega,hc⟩
  ·rw [evF_no hc] at h
   have:=ih p h
   exact ⟨by omega,this.2⟩
theorem even_ok {n : Nat} {rows : List (List Int)} {most : Int} (hn : rows.length = n) (h6 : n ≤ 60) (hr : ∀ r ∈ rows,RowOk r) (h0 : fullB rows = true) : CmpOk n (evenO rows most):=by
 unfold evenO
 cases h : evF rows most 1001 with
 | none => exact .none_ _
 | some p =>
  have hp:=(evF_lt _ _ h).1
  refine addA_ok (by simpa using hn) h6 (fun x hx => ?_)
  obtain ⟨r,hm,rfl⟩:=List.mem_map.1 hx
  have h1:=List.all_eq_true.1 h0 r hm
  have:=levA_bd (hr r hm) (part:=p) (by simpa using h1) (by omega)
  omega
theorem cmp_ok {segs : List (List UInt8)} {atts : List Att} (hok : HistOk segs atts) (how : Int) : CmpOk segs.length (cmpO segs.length atts how):=by
 have hn:=hok.n2
 have hr:=rowsQ_ok hok segs.length
 have hl:=rowsQ_len atts segs.length
 unfold cmpO
 split
 ·rcases bI_inv segs.length atts atts.length (Nat.le_refl _) with h | ⟨j,hj,h,_,hk⟩
  ·rw [bestO_none h]; exact .none_ _
  ·rw [bestO_at h hj]; exact att_ok hok hj hk
 ·split
  ·exact each_ok hl hn fun r hm h0 => goldF_bd (hr r hm) h0
  ·split
   ·exact each_ok hl hn fun r hm h0 => mnA_bd (hr r hm) h0
   ·split
    ·exact each_ok hl hn fun r hm h0 => by have:=levA_bd (hr r hm) (part:=500) h0 (by omega); omega
    ·split
     ·rcases lastO_inv segs.length atts atts.length with h | ⟨j,hj,h,hk⟩
      ·rw [h]; exact .none_ _
      ·rw [h]; exact att_ok hok hj hk
     ·split
      ·exact .none_ _
      ·split
       ·rename_i h0
        exact even_ok hl hn hr h0
       ·exact .none_ _

abbrev Dlt := List UInt8 × Int × Int × Bool
def knw (live other : List Int) (k : Nat) : Prop:=live.getD k 0 ≠ 0 ∧ other.getD k 0 ≠ 0
instance (live other : List Int) (k : Nat) : Decidable (knw live other k) := by unfold knw; infer_instance
def dLate (live other : List Int) : Nat → Int
 | 0 => 0
 | k + 1 => if knw live other k then live.getD k 0 - other.getD k 0 else dLate live other k
theorem dLate_yes {live other : List Int} {k : Nat} (h : knw live other k) : dLate live other (k + 1) = live.getD k 0 - other.getD k 0:=by simp [dLate,h]
theorem dLate_no {live other : List Int} {k : Nat} (h : ¬ knw live other k) : dLate live other (k + 1) = dLate live other k:=by simp [dLate,h]
def dGold (atts : List Att) (live : List Int) (k : Nat) : Bool:=decide (0 < tmA live k) && (goldA atts k == 0 || decide (tmA live k < goldA atts k))
def dAt (segs : List (List UInt8)) (atts : List Att) (live other : List Int) (k : Nat) : Dlt :=
 (segs.getD k [],if knw live other k then live.getD k 0 - other.getD k 0 else 0,if knw live other k then live.getD k 0 - other.getD k 0 - dLate live other k else 0,dGold atts live k)
def dltL (segs : List (List UInt8)) (atts : List Att) (live other : List Int) (k : Nat) : List Dlt:=(List.range k).map (dAt segs atts live other)
theorem dltL_len (segs : List (List UInt8)) (atts : List Att) (live other : List Int) (k : Nat) : (dltL segs atts live other k).length = k:=by simp [dltL]
theorem dltL_snoc (segs : List (List UInt8)) (atts : List Att) (live other : List Int) (k : Nat) : dltL segs atts live other (k + 1) = dltL segs atts live other k ++ [dAt segs atts live other k]:=by simp [dltL,List.range_succ]
theorem dAt_yes {segs : List (List UInt8)} {atts : List Att} {live other : List Int} {k : Nat} (hs : k < segs.length) (hl : k < live.length) (ho : k < other.length) (h : live[k] ≠ 0) (h' : other[k] ≠ 0) :
  dAt segs atts live other k = (segs[k],live[k] - other[k],live[k] - other[k] - dLate live other k,dGold atts live k) ∧ dLate live other (k + 1) = live[k] - other[k]:=by
 have hk : knw live other k:=⟨by rwa [getD_is hl],by rwa [getD_is ho]⟩
 have e : segs.getD k [] = segs[k]:=by rw [List.getD_eq_getElem?_getD,List.getElem?_eq_getElem hs]; rfl
 unfold dAt
 rw [if_pos hk,if_pos hk,dLate_yes hk,getD_is hl,getD_is ho,e]
 exact ⟨rfl,rfl⟩
theorem dAt_no {segs : List (List UInt8)} {atts : List Att} {live other : List Int} {k : Nat} (hs : k < segs.length) (hl : k < live.length) (ho : k < other.length) (h : ¬ (live[k] ≠ 0 ∧ other[k] ≠ 0)) :
  dAt segs atts live other k = (segs[k],0,0,dGold atts live k) ∧ dLate live other (k + 1) = dLate live other k:=by
 have hk : ¬ knw live other k:=fun hk => h ⟨by have:=hk.1; rwa [getD_is hl] at this,by have:=hk.2; rwa [getD_is ho] at this⟩
 have e : segs.getD k [] = segs[k]:=by rw [List.getD_eq_getElem?_getD,List.getElem?_eq_getElem hs]; rfl
 unfold dAt
 rw [if_neg hk,if_neg hk,dLate_no hk,e]
 exact ⟨rfl,rfl⟩
theorem dLate_bd {n : Nat} {live other : List Int} (h1 : ∀ i (h : i < live.length),0 ≤ live[i] ∧ live[i] ≤ 864000000) (h2 : CmpOk n (some other)) : ∀ k,-51840000000 ≤ dLate live other k ∧ dLate live other k ≤ 51840000000:=by
 intro k
 induction k with
 | zero => simp [dLate]
 | succ k ih =>
  by_cases hk : knw live other k
  ·rw [dLate_yes hk]
   have a : k < live.length:=by
    rcases Nat.lt_or_ge k live.length with h | h
    ·exact h
    ·exact absurd (by rw [List.getD_eq_getElem?_getD,List.getElem?_eq_none h]; rfl) hk.1
   have b : k < other.length:=by
    rcases Nat.lt_or_ge k other.length with h | h
    ·exact h
    ·exact absurd (by rw [List.getD_eq_getElem?_getD,List.getElem?_eq_none h]; rfl) hk.2
   rw [getD_is a,getD_is b]
   have:=h1 k a
   have:=(h2 _ rfl).2 k b
   omega
  ·rw [dLate_no hk]; exact ih

def dlC (d : Dlt) : List Value:=[encStr d.1,.int .i64 d.2.1,.int .i64 d.2.2.1,.bool d.2.2.2]
def dls (ds : List Dlt) : List Value:=ds.flatMap dlC
theorem dls_app (a b : List Dlt) : dls (a ++ b) = dls a ++ dls b:=by simp [dls]
end Go.Proofs.YtapjahbflhingaaGreatDoor
/- The walks of the closures of a comparison, of even, and of ContainsFunc over rows. -/
namespace Go.Proofs.YtapjahbflhingaaGreatDoor
set_option linter.unusedVariables false
set_option linter.unusedSimpArgs false
open Go.RowKit

def optL (o : Option (List Int)) : List Int:=o.getD []
theorem mapF_bd {rows : List (List Int)} {f : List Int → Int} (hf : ∀ r ∈ rows,0 < r.length → 0 ≤ f r ∧ f r ≤ 864000000) (h0 : fullB rows = true) : ∀ x ∈ rows.map f,0 ≤ x ∧ x ≤ 864000000:=by
 intro x hx
 obtain ⟨r,hr,rfl⟩:=List.mem_map.1 hx
 have:=List.all_eq_true.1 h0 r hr
 exact hf r hr (by simpa using this)
theorem empty1_any (A : Option Addr) (n c : Nat) (w : World) :
  Calls Tryz.prog 108 #[.slice A n c] w fun e w' => e = .returned (.bool (decide (n = 0))) ∧ w = w':=by
 go_enter Tryz.func108,Tryz.ntmps108
 go_wp2_with fail
 go_ret
 refine ⟨?_,rfl⟩
 first | rfl | (congr 2; by_cases h : n = 0 <;> simp [h])
set_option maxHeartbeats 1000000 in
theorem indexFuncN_any (g base c : Nat) (rows : List (List Int)) (w : World) (hN : Nest 3 22 w base g rows) (h6 : rows.length ≤ 60) :
  Calls Tryz.prog 90 #[.slice (some ⟨g,0,none⟩) rows.length c,.func (.func 108) #[] #[]] w fun e w' => ∃ r : Int,e = .returned (.int .i64 r) ∧ (decide (0 ≤ r) = !fullB rows) ∧ w = w':=by
 have hgl:=hN.lt
 go_enter Tryz.func90,Tryz.ntmps90
 go_wp2_with fail
 go_loop [8] (fun i => ∃ k : Nat,k ≤ rows.length ∧ i = .int .i64 k ∧ Hid (fullB (rows.take k) = true)) (fun i => rows.length - (intOf i).toNat)
 case atStart => exact ⟨0,Nat.zero_le _,rfl,Lib.hid (by simp [fullB])⟩
 case round =>
  obtain ⟨k,hk,rfl,hno⟩:=hrel
  by_cases hlt : k < rows.length
  ·obtain ⟨A1,c1,cg,_⟩:=hN.row hlt
   have HT : Hid (rows.take (k + 1) = rows.take k ++ [rows[k]]):=Lib.hid (List.take_succ_eq_append_getElem hlt)
   have HM:=Lib.hid (List.getElem_mem hlt)
   generalize rows[k] = z at *
   go_wp2_with fail
   refine (empty1_any _ _ _ _).mono ?_
   rintro e w' ⟨rfl,rfl⟩
   by_cases hp : z.length = 0
   ·have HF : Hid (fullB rows = false):=Lib.hid (by
     unfold fullB
     rw [List.all_eq_false]
     exact ⟨z,HM.out,by rw [decide_eq_true_eq]; omega⟩)
    have d9 : decide (z.length = 0) = true:=decide_eq_true hp
    clear hp HM
    rw [d9]
    go_wp2_with fail
    go_ret
    exact ⟨k,rfl,by rw [decide_eq_true (by omega),HF.out]; rfl,rfl⟩
   ·have HF : Hid (fullB (rows.take (k + 1)) = true):=Lib.hid (by rw [HT.out,fullB_snoc,hno.out]; simp; omega)
    have d9 : decide (z.length = 0) = false:=decide_eq_false hp
    clear hp HM
    rw [d9]
    go_wp2_with fail
    go_round
    case rel => exact ⟨k + 1,by omega,by go_num,HF⟩
    case measure => simp [intOf]; omega
  ·have HN : Hid (fullB rows = true):=Lib.hid (by have:=hno.out; rwa [List.take_of_length_le (by omega)] at this)
   have hkk : k = rows.length:=by omega
   subst hkk
   clear hno
   go_wp2_with fail
   go_ret
   exact ⟨-1,rfl,by rw [HN.out]; rfl,rfl⟩
theorem containsFuncN_any (g base c : Nat) (rows : List (List Int)) (w : World) (hN : Nest 3 22 w base g rows) (h6 : rows.length ≤ 60) :
  Calls Tryz.prog 53 #[.slice (some ⟨g,0,none⟩) rows.length c,.func (.func 108) #[] #[]] w fun e w' => e = .returned (.bool (!fullB rows)) ∧ w = w':=by
 go_enter Tryz.func53,Tryz.ntmps53
 go_wp2_with fail
 refine (indexFuncN_any g base c rows _ hN h6).mono ?_
 rintro e w' ⟨r,rfl,h,rfl⟩
 have H:=Lib.hid h
 clear h
 go_wp2_with fail
 go_ret
 exact ⟨ret_bool' H.out,rfl⟩
theorem gold3_any (A : Option Addr) (c lo : Nat) (row : List Int) (w : World) (hr : Row w lo 1 A row.length (ints row)) (hk : RowOk row) (h0 : 0 < row.length) :
  Calls Tryz.prog 111 #[.slice A row.length c] w fun e w' => e = .returned (.int .i64 (goldF row)) ∧ Below w.heap.size w w':=by
 have HG:=Lib.hid (goldF_at h0)
 obtain ⟨b,off,rfl,_,hbs,c0⟩:=hr.int_at (k:=0) h0
 rw [Nat.add_zero] at c0
 generalize row[0] = x at *
 clear hk
 go_enter Tryz.func111,Tryz.ntmps111
 go_wp2_with fail
 go_ret
 exact ⟨ret_int' HG.out.symm,Below.refl _ _⟩
theorem mid4_any (A : Option Addr) (c lo : Nat) (row : List Int) (w : World) (hr : Row w lo 1 A row.length (ints row)) (hk : RowOk row) (h0 : 0 < row.length) :
  Calls Tryz.prog 113 #[.slice A row.length c] w fun e w' => e = .returned (.int .i64 (levA row 500)) ∧ Below w.heap.size w w':=by
 go_enter Tryz.func113,Tryz.ntmps113
 go_wp2_with fail
 refine (level_any A c lo 500 row _ hr hk h0 (by omega)).mono ?_
 rintro e w1 ⟨rfl,hb⟩
 go_wp2_with fail
 go_ret
 exact ⟨rfl,hb⟩
end Go.Proofs.YtapjahbflhingaaGreatDoor
/- The walks of the closure of a comparison that goes through the rows. -/
namespace Go.Proofs.YtapjahbflhingaaGreatDoor
set_option linter.unusedVariables false
set_option linter.unusedSimpArgs false
open Go.RowKit

/-! ### each of the rows -/

set_option maxHeartbeats 2000000 in
set_option maxRecDepth 100000 in
theorem each2_any (pf pb g base c : Nat) (rows : List (List Int)) (w : World) (hf : Blk w pf 4 #[.bool (fullB rows)]) (hb : Blk w pb 98 #[.slice (some ⟨g,0,none⟩) rows.length c]) (hN : Nest 3 22 w base g rows) (hr : ∀ r ∈ rows,RowOk r) (h6 : rows.length ≤ 60) :
  Calls Tryz.prog 109 #[.func (.func 111) #[] #[],.pointer (some ⟨pf,0,none⟩),.pointer (some ⟨pb,0,none⟩)] w fun e w' => ∃ A' c',e = .returned (.tuple #[.slice A' (optL (eachO goldF rows)).length c',.bool (eachO goldF rows).isSome]) ∧ w'.ownsRow w.heap.size 3 1 (.slice A' (optL (eachO goldF rows)).length c') (optL (eachO goldF rows)).length (ints (optL (eachO goldF rows))) ∧ Below w.heap.size w w':=by
 have cf : w.cell? ⟨pf,0,none⟩ = some (.bool (fullB rows)):=by simpa using hf.cell 0
 have cb : w.cell? ⟨pb,0,none⟩ = some (.slice (some ⟨g,0,none⟩) rows.length c):=by simpa using hb.cell 0
 have zf:=hf.lt
 have zb:=hb.lt
 have HR:=Lib.hid hr
 clear hr hf hb
 by_cases h0 : fullB rows = true
 ·have HO : Hid (eachO goldF rows = some (addA (rows.map goldF))):=Lib.hid (by unfold eachO; rw [if_pos h0])
  have HF:=Lib.hid (fun (k : Nat) (hk : k < rows.length) => fullB_at h0 hk)
  have HBD:=Lib.hid (mapF_bd (rows:=rows) (f:=goldF) (fun r hm hl => by exact goldF_bd (HR.out r hm) hl) h0)
  have HVN:=Lib.hid (fun (k : Nat) (hk : k < rows.length) => valL_next (f:=goldF) hk)
  have HVA:=Lib.hid (valL_all goldF rows)
  have HVL:=Lib.hid (fun (k : Nat) (hk : k ≤ rows.length) => valL_len (f:=goldF) hk)
  rw [h0] at cf
  clear h0
  go_enter Tryz.func109,Tryz.ntmps109
  go_wp2_with fail
  go_loopw [6,13] (fun v i wr => ∃ (k : Nat) (A' : Option Addr) (c' : Nat),k ≤ rows.length ∧ i = .int .i64 k ∧ v = .slice A' (valL goldF rows k).length c' ∧ wr.ownsRow w.heap.size 3 1 (.slice A' (valL goldF rows k).length c') (valL goldF rows k).length (ints (valL goldF rows k)) ∧ Below w.heap.size w wr) (fun _ i _ => rows.length - (intOf i).toNat)
  case atStart => exact ⟨0,none,0,Nat.zero_le _,rfl,rfl,World.ownsRow_nil _ _ _ _,Below.refl _ _⟩
  case round =>
   clear cf cb
   obtain ⟨k,A',c',hk,rfl,rfl,hown,hbw⟩:=hrel
   have hz:=hbw.size
   have hlk : (valL goldF rows k).length ≤ 60:=by rw [HVL.out k hk]; omega
   by_cases hlt : k < rows.length
   ·have hNr:=hN.below hbw
    obtain ⟨A1,c1,cg,ho1⟩:=hNr.row hlt
    have hgl:=hNr.lt
    have HK:=Lib.hid (HR.out rows[k] (List.getElem_mem hlt))
    have HS:=Lib.hid (HVN.out k hlt)
    have h0:=HF.out k hlt
    have hr1:=Row.of_own ho1
    generalize rows[k] = row at *
    generalize valL goldF rows k = o at *
    clear ho1 hNr
    go_wp2_with fail
    refine (gold3_any A1 c1 _ row _ hr1 HK.out h0).mono ?_
    rintro e w2 ⟨rfl,hb2⟩
    have hown2:=own_keep hown hb2
    have hx2:=below_up hbw hb2
    have hz2:=hx2.size
    generalize goldF row = x at *
    clear hb2 hbw hown hr1
    go_wp2_with (at_builtin; go_must (refine wpList_app (lo:=w.heap.size) (base:=w.heap.size) (n:=o.length) (xs:=ints o) _ _ rfl _ _ ty_ints rfl (by repeat (first | exact hown2 | refine World.ownsRow.alloc ?_ _ | refine own_drewN ?_ _ | refine World.ownsRow.drew ?_)) rfl (by first | exact row_new' _ (by first | rfl | simp) (by first | omega | (simp; omega)) rfl | exact row_newN _ _ (by first | rfl | simp) (by first | omega | (simp; omega)) rfl | exact row_newD _ (by first | rfl | simp) (by first | omega | (simp; omega)) rfl) rfl rfl (by first | omega | decide) (by first | omega | decide) (by first | omega | (simp; omega)) ?_))
    intro A5 c5 w5 hown5 hg5 _
    go_wp2_with fail
    go_roundw
    case rel => exact ⟨k + 1,A5,c5,by omega,by go_num,by rw [HS.out]; simp,by rw [HS.out,ints_app,List.length_append]; exact hown5,below_app hown2 (by repeat (first | exact hx2 | refine Below.alloc ?_ (by first | omega | (simp; omega)) _ | refine below_drewN' ?_ _ | refine Below.drew ?_)) hg5 (Nat.le_refl _) (by simp; omega)⟩
    case measure => simp [intOf]; omega
   ·have hkn : k = rows.length:=by omega
    subst hkn
    rw [HVA.out] at hown ⊢
    have hll : (rows.map goldF).length ≤ 60:=by simpa using h6
    clear HVA HVL HVN hlk
    generalize rows.map goldF = l at *
    go_wp2_with fail
    refine (added_any A' c' _ l _ (Row.of_own hown) hll HBD.out).mono ?_
    rintro e w2 ⟨A2,c2,rfl,ho2,hb2⟩
    go_wp2_with fail
    go_returns
    exact ⟨A2,c2,by rw [HO.out]; rfl,by rw [HO.out]; exact own_weak ho2 hz,below_up hbw hb2⟩
 ·have h0' : fullB rows = false:=by simpa using h0
  have HO : Hid (eachO goldF rows = none):=Lib.hid (by unfold eachO; rw [if_neg h0])
  rw [h0'] at cf
  clear h0 h0'
  go_enter Tryz.func109,Tryz.ntmps109
  go_wp2_with fail
  go_returns
  exact ⟨none,0,by rw [HO.out]; rfl,by rw [HO.out]; exact World.ownsRow_nil _ _ _ _,Below.refl _ _⟩

set_option maxHeartbeats 2000000 in
set_option maxRecDepth 100000 in
theorem each3_any (pf pb g base c : Nat) (rows : List (List Int)) (w : World) (hf : Blk w pf 4 #[.bool (fullB rows)]) (hb : Blk w pb 98 #[.slice (some ⟨g,0,none⟩) rows.length c]) (hN : Nest 3 22 w base g rows) (hr : ∀ r ∈ rows,RowOk r) (h6 : rows.length ≤ 60) :
  Calls Tryz.prog 109 #[.func (.func 112) #[] #[],.pointer (some ⟨pf,0,none⟩),.pointer (some ⟨pb,0,none⟩)] w fun e w' => ∃ A' c',e = .returned (.tuple #[.slice A' (optL (eachO mnA rows)).length c',.bool (eachO mnA rows).isSome]) ∧ w'.ownsRow w.heap.size 3 1 (.slice A' (optL (eachO mnA rows)).length c') (optL (eachO mnA rows)).length (ints (optL (eachO mnA rows))) ∧ Below w.heap.size w w':=by
 have cf : w.cell? ⟨pf,0,none⟩ = some (.bool (fullB rows)):=by simpa using hf.cell 0
 have cb : w.cell? ⟨pb,0,none⟩ = some (.slice (some ⟨g,0,none⟩) rows.length c):=by simpa using hb.cell 0
 have zf:=hf.lt
 have zb:=hb.lt
 have HR:=Lib.hid hr
 clear hr hf hb
 by_cases h0 : fullB rows = true
 ·have HO : Hid (eachO mnA rows = some (addA (rows.map mnA))):=Lib.hid (by unfold eachO; rw [if_pos h0])
  have HF:=Lib.hid (fun (k : Nat) (hk : k < rows.length) => fullB_at h0 hk)
  have HBD:=Lib.hid (mapF_bd (rows:=rows) (f:=mnA) (fun r hm hl => by exact mnA_bd (HR.out r hm) hl) h0)
  have HVN:=Lib.hid (fun (k : Nat) (hk : k < rows.length) => valL_next (f:=mnA) hk)
  have HVA:=Lib.hid (valL_all mnA rows)
  have HVL:=Lib.hid (fun (k : Nat) (hk : k ≤ rows.length) => valL_len (f:=mnA) hk)
  rw [h0] at cf
  clear h0
  go_enter Tryz.func109,Tryz.ntmps109
  go_wp2_with fail
  go_loopw [6,13] (fun v i wr => ∃ (k : Nat) (A' : Option Addr) (c' : Nat),k ≤ rows.length ∧ i = .int .i64 k ∧ v = .slice A' (valL mnA rows k).length c' ∧ wr.ownsRow w.heap.size 3 1 (.slice A' (valL mnA rows k).length c') (valL mnA rows k).length (ints (valL mnA rows k)) ∧ Below w.heap.size w wr) (fun _ i _ => rows.length - (intOf i).toNat)
  case atStart => exact ⟨0,none,0,Nat.zero_le _,rfl,rfl,World.ownsRow_nil _ _ _ _,Below.refl _ _⟩
  case round =>
   clear cf cb
   obtain ⟨k,A',c',hk,rfl,rfl,hown,hbw⟩:=hrel
   have hz:=hbw.size
   have hlk : (valL mnA rows k).length ≤ 60:=by rw [HVL.out k hk]; omega
   by_cases hlt : k < rows.length
   ·have hNr:=hN.below hbw
    obtain ⟨A1,c1,cg,ho1⟩:=hNr.row hlt
    have hgl:=hNr.lt
    have HK:=Lib.hid (HR.out rows[k] (List.getElem_mem hlt))
    have HS:=Lib.hid (HVN.out k hlt)
    have h0:=HF.out k hlt
    have hr1:=Row.of_own ho1
    generalize rows[k] = row at *
    generalize valL mnA rows k = o at *
    clear ho1 hNr
    go_wp2_with fail
    refine (mean_any A1 c1 _ row _ hr1 HK.out h0).mono ?_
    rintro e w2 ⟨rfl,hb2⟩
    have hown2:=own_keep hown hb2
    have hx2:=below_up hbw hb2
    have hz2:=hx2.size
    generalize mnA row = x at *
    clear hb2 hbw hown hr1
    go_wp2_with (at_builtin; go_must (refine wpList_app (lo:=w.heap.size) (base:=w.heap.size) (n:=o.length) (xs:=ints o) _ _ rfl _ _ ty_ints rfl (by repeat (first | exact hown2 | refine World.ownsRow.alloc ?_ _ | refine own_drewN ?_ _ | refine World.ownsRow.drew ?_)) rfl (by first | exact row_new' _ (by first | rfl | simp) (by first | omega | (simp; omega)) rfl | exact row_newN _ _ (by first | rfl | simp) (by first | omega | (simp; omega)) rfl | exact row_newD _ (by first | rfl | simp) (by first | omega | (simp; omega)) rfl) rfl rfl (by first | omega | decide) (by first | omega | decide) (by first | omega | (simp; omega)) ?_))
    intro A5 c5 w5 hown5 hg5 _
    go_wp2_with fail
    go_roundw
    case rel => exact ⟨k + 1,A5,c5,by omega,by go_num,by rw [HS.out]; simp,by rw [HS.out,ints_app,List.length_append]; exact hown5,below_app hown2 (by repeat (first | exact hx2 | refine Below.alloc ?_ (by first | omega | (simp; omega)) _ | refine below_drewN' ?_ _ | refine Below.drew ?_)) hg5 (Nat.le_refl _) (by simp; omega)⟩
    case measure => simp [intOf]; omega
   ·have hkn : k = rows.length:=by omega
    subst hkn
    rw [HVA.out] at hown ⊢
    have hll : (rows.map mnA).length ≤ 60:=by simpa using h6
    clear HVA HVL HVN hlk
    generalize rows.map mnA = l at *
    go_wp2_with fail
    refine (added_any A' c' _ l _ (Row.of_own hown) hll HBD.out).mono ?_
    rintro e w2 ⟨A2,c2,rfl,ho2,hb2⟩
    go_wp2_with fail
    go_returns
    exact ⟨A2,c2,by rw [HO.out]; rfl,by rw [HO.out]; exact own_weak ho2 hz,below_up hbw hb2⟩
 ·have h0' : fullB rows = false:=by simpa using h0
  have HO : Hid (eachO mnA rows = none):=Lib.hid (by unfold eachO; rw [if_neg h0])
  rw [h0'] at cf
  clear h0 h0'
  go_enter Tryz.func109,Tryz.ntmps109
  go_wp2_with fail
  go_returns
  exact ⟨none,0,by rw [HO.out]; rfl,by rw [HO.out]; exact World.ownsRow_nil _ _ _ _,Below.refl _ _⟩

set_option maxHeartbeats 2000000 in
set_option maxRecDepth 100000 in
theorem each4_any (pf pb g base c : Nat) (rows : List (List Int)) (w : World) (hf : Blk w pf 4 #[.bool (fullB rows)]) (hb : Blk w pb 98 #[.slice (some ⟨g,0,none⟩) rows.length c]) (hN : Nest 3 22 w base g rows) (hr : ∀ r ∈ rows,RowOk r) (h6 : rows.length ≤ 60) :
  Calls Tryz.prog 109 #[.func (.func 113) #[] #[],.pointer (some ⟨pf,0,none⟩),.pointer (some ⟨pb,0,none⟩)] w fun e w' => ∃ A' c',e = .returned (.tuple #[.slice A' (optL (eachO (fun r => levA r 500) rows)).length c',.bool (eachO (fun r => levA r 500) rows).isSome]) ∧ w'.ownsRow w.heap.size 3 1 (.slice A' (optL (eachO (fun r => levA r 500) rows)).length c') (optL (eachO (fun r => levA r 500) rows)).length (ints (optL (eachO (fun r => levA r 500) rows))) ∧ Below w.heap.size w w':=by
 have cf : w.cell? ⟨pf,0,none⟩ = some (.bool (fullB rows)):=by simpa using hf.cell 0
 have cb : w.cell? ⟨pb,0,none⟩ = some (.slice (some ⟨g,0,none⟩) rows.length c):=by simpa using hb.cell 0
 have zf:=hf.lt
 have zb:=hb.lt
 have HR:=Lib.hid hr
 clear hr hf hb
 by_cases h0 : fullB rows = true
 ·have HO : Hid (eachO (fun r => levA r 500) rows = some (addA (rows.map (fun r => levA r 500)))):=Lib.hid (by unfold eachO; rw [if_pos h0])
  have HF:=Lib.hid (fun (k : Nat) (hk : k < rows.length) => fullB_at h0 hk)
  have HBD:=Lib.hid (mapF_bd (rows:=rows) (f:=(fun r => levA r 500)) (fun r hm hl => by have:=levA_bd (HR.out r hm) (part:=500) hl (by omega); omega) h0)
  have HVN:=Lib.hid (fun (k : Nat) (hk : k < rows.length) => valL_next (f:=(fun r => levA r 500)) hk)
  have HVA:=Lib.hid (valL_all (fun r => levA r 500) rows)
  have HVL:=Lib.hid (fun (k : Nat) (hk : k ≤ rows.length) => valL_len (f:=(fun r => levA r 500)) hk)
  rw [h0] at cf
  clear h0
  go_enter Tryz.func109,Tryz.ntmps109
  go_wp2_with fail
  go_loopw [6,13] (fun v i wr => ∃ (k : Nat) (A' : Option Addr) (c' : Nat),k ≤ rows.length ∧ i = .int .i64 k ∧ v = .slice A' (valL (fun r => levA r 500) rows k).length c' ∧ wr.ownsRow w.heap.size 3 1 (.slice A' (valL (fun r => levA r 500) rows k).length c') (valL (fun r => levA r 500) rows k).length (ints (valL (fun r => levA r 500) rows k)) ∧ Below w.heap.size w wr) (fun _ i _ => rows.length - (intOf i).toNat)
  case atStart => exact ⟨0,none,0,Nat.zero_le _,rfl,rfl,World.ownsRow_nil _ _ _ _,Below.refl _ _⟩
  case round =>
   clear cf cb
   obtain ⟨k,A',c',hk,rfl,rfl,hown,hbw⟩:=hrel
   have hz:=hbw.size
   have hlk : (valL (fun r => levA r 500) rows k).length ≤ 60:=by rw [HVL.out k hk]; omega
   by_cases hlt : k < rows.length
   ·have hNr:=hN.below hbw
    obtain ⟨A1,c1,cg,ho1⟩:=hNr.row hlt
    have hgl:=hNr.lt
    have HK:=Lib.hid (HR.out rows[k] (List.getElem_mem hlt))
    have HS:=Lib.hid (HVN.out k hlt)
    have h0:=HF.out k hlt
    have hr1:=Row.of_own ho1
    generalize rows[k] = row at *
    generalize valL (fun r => levA r 500) rows k = o at *
    clear ho1 hNr
    go_wp2_with fail
    refine (mid4_any A1 c1 _ row _ hr1 HK.out h0).mono ?_
    rintro e w2 ⟨rfl,hb2⟩
    have hown2:=own_keep hown hb2
    have hx2:=below_up hbw hb2
    have hz2:=hx2.size
    generalize levA row 500 = x at *
    clear hb2 hbw hown hr1
    go_wp2_with (at_builtin; go_must (refine wpList_app (lo:=w.heap.size) (base:=w.heap.size) (n:=o.length) (xs:=ints o) _ _ rfl _ _ ty_ints rfl (by repeat (first | exact hown2 | refine World.ownsRow.alloc ?_ _ | refine own_drewN ?_ _ | refine World.ownsRow.drew ?_)) rfl (by first | exact row_new' _ (by first | rfl | simp) (by first | omega | (simp; omega)) rfl | exact row_newN _ _ (by first | rfl | simp) (by first | omega | (simp; omega)) rfl | exact row_newD _ (by first | rfl | simp) (by first | omega | (simp; omega)) rfl) rfl rfl (by first | omega | decide) (by first | omega | decide) (by first | omega | (simp; omega)) ?_))
    intro A5 c5 w5 hown5 hg5 _
    go_wp2_with fail
    go_roundw
    case rel => exact ⟨k + 1,A5,c5,by omega,by go_num,by rw [HS.out]; simp,by rw [HS.out,ints_app,List.length_append]; exact hown5,below_app hown2 (by repeat (first | exact hx2 | refine Below.alloc ?_ (by first | omega | (simp; omega)) _ | refine below_drewN' ?_ _ | refine Below.drew ?_)) hg5 (Nat.le_refl _) (by simp; omega)⟩
    case measure => simp [intOf]; omega
   ·have hkn : k = rows.length:=by omega
    subst hkn
    rw [HVA.out] at hown ⊢
    have hll : (rows.map (fun r => levA r 500)).length ≤ 60:=by simpa using h6
    clear HVA HVL HVN hlk
    generalize rows.map (fun r => levA r 500) = l at *
    go_wp2_with fail
    refine (added_any A' c' _ l _ (Row.of_own hown) hll HBD.out).mono ?_
    rintro e w2 ⟨A2,c2,rfl,ho2,hb2⟩
    go_wp2_with fail
    go_returns
    exact ⟨A2,c2,by rw [HO.out]; rfl,by rw [HO.out]; exact own_weak ho2 hz,below_up hbw hb2⟩
 ·have h0' : fullB rows = false:=by simpa using h0
  have HO : Hid (eachO (fun r => levA r 500) rows = none):=Lib.hid (by unfold eachO; rw [if_neg h0])
  rw [h0'] at cf
  clear h0 h0'
  go_enter Tryz.func109,Tryz.ntmps109
  go_wp2_with fail
  go_returns
  exact ⟨none,0,by rw [HO.out]; rfl,by rw [HO.out]; exact World.ownsRow_nil _ _ _ _,Below.refl _ _⟩

end Go.Proofs.YtapjahbflhingaaGreatDoor
/- The walks of even and its closure. -/
namespace Go.Proofs.YtapjahbflhingaaGreatDoor
set_option linter.unusedVariables false
set_option linter.unusedSimpArgs false
open Go.RowKit

theorem fun_lev (part : Nat) : (fun r : List Int => levA r part) = (levA · part):=rfl
set_option maxHeartbeats 2000000 in
theorem even1_any (part pb g base c : Nat) (rows : List (List Int)) (w : World) (hp : part ≤ 1000) (hb : Blk w pb 98 #[.slice (some ⟨g,0,none⟩) rows.length c]) (hN : Nest 3 22 w base g rows) (hr : ∀ r ∈ rows,RowOk r) (h0 : fullB rows = true) (h6 : rows.length ≤ 60) :
  Calls Tryz.prog 152 #[.int .i64 part,.pointer (some ⟨pb,0,none⟩)] w fun e w' => ∃ A' c',e = .returned (.slice A' (rows.map (levA · part)).length c') ∧ w'.ownsRow w.heap.size 3 1 (.slice A' (rows.map (levA · part)).length c') (rows.map (levA · part)).length (ints (rows.map (levA · part))) ∧ Below w.heap.size w w':=by
 have cb : w.cell? ⟨pb,0,none⟩ = some (.slice (some ⟨g,0,none⟩) rows.length c):=by simpa using hb.cell 0
 have zb:=hb.lt
 have HR:=Lib.hid hr
 have HF:=Lib.hid (fun (k : Nat) (hk : k < rows.length) => fullB_at h0 hk)
 have HVN:=Lib.hid (fun (k : Nat) (hk : k < rows.length) => valL_next (f:=(levA · part)) hk)
 have HVA:=Lib.hid (valL_all (levA · part) rows)
 have HVL:=Lib.hid (fun (k : Nat) (hk : k ≤ rows.length) => valL_len (f:=(levA · part)) hk)
 clear hr hb h0
 go_enter Tryz.func152,Tryz.ntmps152
 go_wp2_with fail
 go_loopw [4,9] (fun v i wr => ∃ (k : Nat) (A' : Option Addr) (c' : Nat),k ≤ rows.length ∧ i = .int .i64 k ∧ v = .slice A' (valL (levA · part) rows k).length c' ∧ wr.ownsRow w.heap.size 3 1 (.slice A' (valL (levA · part) rows k).length c') (valL (levA · part) rows k).length (ints (valL (levA · part) rows k)) ∧ Below w.heap.size w wr) (fun _ i _ => rows.length - (intOf i).toNat)
 case atStart => exact ⟨0,none,0,Nat.zero_le _,rfl,rfl,World.ownsRow_nil _ _ _ _,Below.refl _ _⟩
 case round =>
  clear cb
  obtain ⟨k,A',c',hk,rfl,rfl,hown,hbw⟩:=hrel
  have hz:=hbw.size
  have hlk : (valL (levA · part) rows k).length ≤ 60:=by rw [HVL.out k hk]; omega
  by_cases hlt : k < rows.length
  ·have hNr:=hN.below hbw
   obtain ⟨A1,c1,cg,ho1⟩:=hNr.row hlt
   have hgl:=hNr.lt
   have HK:=Lib.hid (HR.out rows[k] (List.getElem_mem hlt))
   have HS:=Lib.hid (HVN.out k hlt)
   have h0:=HF.out k hlt
   have hr1:=Row.of_own ho1
   generalize rows[k] = row at *
   generalize valL (levA · part) rows k = o at *
   clear ho1 hNr
   go_wp2_with fail
   refine (level_any A1 c1 _ part row _ hr1 HK.out h0 hp).mono ?_
   rintro e w2 ⟨rfl,hb2⟩
   have hown2:=own_keep hown hb2
   have hx2:=below_up hbw hb2
   have hz2:=hx2.size
   generalize levA row part = x at *
   clear hb2 hbw hown hr1
   go_wp2_with (at_builtin; go_must (refine wpList_app (lo:=w.heap.size) (base:=w.heap.size) (n:=o.length) (xs:=ints o) _ _ rfl _ _ ty_ints rfl (by repeat (first | exact hown2 | refine World.ownsRow.alloc ?_ _ | refine own_drewN ?_ _ | refine World.ownsRow.drew ?_)) rfl (by first | exact row_new' _ (by first | rfl | simp) (by first | omega | (simp; omega)) rfl | exact row_newN _ _ (by first | rfl | simp) (by first | omega | (simp; omega)) rfl | exact row_newD _ (by first | rfl | simp) (by first | omega | (simp; omega)) rfl) rfl rfl (by first | omega | decide) (by first | omega | decide) (by first | omega | (simp; omega)) ?_))
   intro A5 c5 w5 hown5 hg5 _
   go_wp2_with fail
   go_roundw
   case rel => exact ⟨k + 1,A5,c5,by omega,by go_num,by rw [HS.out]; simp,by rw [HS.out,ints_app,List.length_append]; exact hown5,below_app hown2 (by repeat (first | exact hx2 | refine Below.alloc ?_ (by first | omega | (simp; omega)) _ | refine below_drewN' ?_ _ | refine Below.drew ?_)) hg5 (Nat.le_refl _) (by simp; omega)⟩
   case measure => simp [intOf]; omega
  ·have hkn : k = rows.length:=by omega
   subst hkn
   rw [HVA.out] at hown ⊢
   go_wp2_with fail
   go_ret
   exact ⟨A',c',rfl,hown,hbw⟩
set_option maxHeartbeats 2000000 in
theorem even_any (g base c : Nat) (most : Int) (rows : List (List Int)) (w : World) (hN : Nest 3 22 w base g rows) (hr : ∀ r ∈ rows,RowOk r) (h0 : fullB rows = true) (h1 : 1 ≤ rows.length) (h6 : rows.length ≤ 60) :
  Calls Tryz.prog 115 #[.slice (some ⟨g,0,none⟩) rows.length c,.int .i64 most] w fun e w' => ∃ A' c',e = .returned (.tuple #[.slice A' (evL rows (evF rows most 1001)).length c',.bool (evF rows most 1001).isSome]) ∧ w'.ownsRow w.heap.size 3 1 (.slice A' (evL rows (evF rows most 1001)).length c') (evL rows (evF rows most 1001)).length (ints (evL rows (evF rows most 1001))) ∧ Below w.heap.size w w':=by
 have HR:=Lib.hid hr
 have H0:=Lib.hid h0
 have HBD:=Lib.hid (fun (q : Nat) (hq : q ≤ 1000) => mapF_bd (rows:=rows) (f:=(levA · q)) (fun r hm hl => by have:=levA_bd (hr r hm) (part:=q) hl hq; omega) h0)
 clear hr h0
 go_enter Tryz.func115,Tryz.ntmps115
 go_wp2_with fail
 have hb0 : Below w.heap.size w (w.alloc (.cells #[.slice (some ⟨g,0,none⟩) rows.length c] 98)):=(Below.refl _ _).alloc (Nat.le_refl _) _
 have hk0 : Blk (w.alloc (.cells #[.slice (some ⟨g,0,none⟩) rows.length c] 98)) w.heap.size 98 #[.slice (some ⟨g,0,none⟩) rows.length c]:=Blk.new _ _ _
 have hN0:=hN.alloc (.cells #[.slice (some ⟨g,0,none⟩) rows.length c] 98)
 generalize w.alloc (.cells #[.slice (some ⟨g,0,none⟩) rows.length c] 98) = W at *
 have hz0:=hb0.size
 go_loopw [7] (fun i wr => ∃ p : Nat,p ≤ 1001 ∧ i = .int .i64 ((p : Int) - 1) ∧ Hid (evF rows most 1001 = evF rows most p) ∧ Below W.heap.size W wr) (fun i _ => (intOf i + 1).toNat)
 case atStart => exact ⟨1001,Nat.le_refl _,rfl,Lib.hid rfl,Below.refl _ _⟩
 case round =>
  obtain ⟨p,hp,rfl,HE,hbw⟩:=hrel
  have hz:=hbw.size
  rcases p with _ | q
  ·have HF : Hid (evF rows most 1001 = none):=HE
   have e1 : ((0 : Nat) : Int) - 1 = -1:=by omega
   rw [e1]
   go_wp2_with fail
   go_returns
   exact ⟨none,0,by rw [HF.out]; rfl,by rw [HF.out]; exact World.ownsRow_nil _ _ _ _,below_up hb0 hbw⟩
  ·have e1 : ((q + 1 : Nat) : Int) - 1 = (q : Int):=by omega
   rw [e1]
   clear e1
   have hkw:=hk0.below hbw
   have hNw:=hN0.below hbw
   have d0 : decide ((0 : Int) ≤ (q : Int)) = true:=decide_eq_true (by omega)
   go_wp2_with fail
   refine (even1_any q w.heap.size g base c rows _ (by omega) hkw hNw HR.out H0.out h6).mono ?_
   rintro e w2 ⟨A2,c2,rfl,ho2,hb2⟩
   have hx2:=below_up hbw hb2
   have hz2:=hb2.size
   have HB2:=Lib.hid (HBD.out q (by omega))
   have HY:=Lib.hid (evF_yes (rows:=rows) (most:=most) (p:=q))
   have HN:=Lib.hid (evF_no (rows:=rows) (most:=most) (p:=q))
   have HEL : Hid (evL rows (some q) = rows.map (levA · q)):=Lib.hid rfl
   have hll : 1 ≤ (rows.map (levA · q)).length ∧ (rows.map (levA · q)).length ≤ 60:=by simp; omega
   rw [fun_lev] at HY HN
   generalize rows.map (levA · q) = l at *
   clear hkw hNw
   go_wp2_with fail
   refine (added_any A2 c2 _ l _ (Row.of_own ho2) (by omega) HB2.out).mono ?_
   rintro e w3 ⟨A3,c3,rfl,ho3,hb3⟩
   have ho2':=own_keep ho2 hb3
   have hx3:=below_up hx2 hb3
   obtain ⟨m,hm⟩ : ∃ m,m + 1 = (addA l).length:=⟨(addA l).length - 1,by rw [addA_len]; omega⟩
   have hla : 1 ≤ (addA l).length ∧ (addA l).length ≤ 60:=by rw [addA_len]; omega
   obtain ⟨b,off,rfl,_,hbs,c9⟩:=(Row.of_own ho3).int_at (k:=m) (by omega)
   have es : (addA l)[m]'(by omega) = l.sum:=by
    rw [addA_at]
    have : m + 1 = l.length:=by rw [hm,addA_len]
    rw [this,preS_all]
   rw [es] at c9
   have hml : m < (addA l).length:=by omega
   have wm : IntKind.i64.wrap (((addA l).length : Int) - 1) = (m : Int):=by rw [IntWalk.i64_in _ ⟨by omega,by omega⟩]; omega
   clear es ho2 ho3
   generalize (addA l).length = n3 at *
   generalize l.sum = s at *
   by_cases hs : s ≤ most
   ·have HF : Hid (evF rows most 1001 = some q):=Lib.hid (by rw [HE.out,HY.out hs])
    have d1 : decide (s ≤ most) = true:=decide_eq_true hs
    clear HY HN hs
    go_wp2_with fail
    go_returns
    exact ⟨A2,c2,by rw [HF.out,HEL.out]; rfl,by rw [HF.out,HEL.out]; exact own_weak ho2' (by omega),below_up hb0 hx3⟩
   ·have HF : Hid (evF rows most 1001 = evF rows most q):=Lib.hid (by rw [HE.out]; first | exact HN.out hs | exact HN.out (by omega))
    have d1 : decide (s ≤ most) = false:=decide_eq_false hs
    clear HY HN hs
    go_wp2_with fail
    go_roundw
    case rel => exact ⟨q,by omega,by go_num,HF,hx3⟩
    case measure => simp [intOf]
end Go.Proofs.YtapjahbflhingaaGreatDoor
