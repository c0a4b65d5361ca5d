/- Texts of this seat, laid together: Hq Sl Lv Hc Lw. -/
import Derived.IntWalk
import Derived.StillTailTactics
import Derived.Deep.QuietTactic
import Derived.BigQuiet
import Derived.Test.YtapjahbflhingaaGreatDoorBu04
import Derived.Test.YtapjahbflhingaaGreatDoorBu31
import Derived.Test.YtapjahbflhingaaGreatDoorBu15
import Derived.Test.YtapjahbflhingaaGreatDoorBu01
import Derived.Test.YtapjahbflhingaaGreatDoorBu03
import Derived.Test.YtapjahbflhingaaGreatDoorBu29
import Derived.Test.YtapjahbflhingaaGreatDoorBu26
import Derived.Test.YtapjahbflhingaaGreatDoorBu19
/- Plain laws of histories: the times of segments, their rows, records, where an attempt is, the least sums from the end on. No program in sight. -/
namespace Go.Proofs.YtapjahbflhingaaGreatDoor
set_option linter.unusedVariables false
set_option linter.unusedSimpArgs false


theorem getD_is {l : List Int} {k : Nat} (h : k < l.length) : l.getD k 0 = l[k]:=by rw [List.getD_eq_getElem?_getD,List.getElem?_eq_getElem h]; rfl
def tmA (l : List Int) (k : Nat) : Int:=if l.getD k 0 ≠ 0 ∧ goodA l k then l.getD k 0 - pvA l k else 0
def tmL (l : List Int) (j : Nat) : List Int:=(List.range j).map (tmA l)
theorem tmL_len (l : List Int) (j : Nat) : (tmL l j).length = j:=by simp [tmL]
theorem tmL_snoc (l : List Int) (j : Nat) : tmL l (j + 1) = tmL l j ++ [tmA l j]:=by simp [tmL,List.range_succ]
theorem tmL_at (l : List Int) (j i : Nat) (h : i < (tmL l j).length) : (tmL l j)[i] = tmA l i:=by simp [tmL]
theorem tmA_zero {l : List Int} {k : Nat} (hk : k < l.length) (h : l[k] = 0) : tmA l k = 0:=by
 unfold tmA; rw [getD_is hk,if_neg (fun x => x.1 h)]
theorem tmA_first {l : List Int} (hk : 0 < l.length) : tmA l 0 = l[0]:=by
 unfold tmA
 rw [getD_is hk]
 by_cases h : l[0] = 0
 ·rw [if_neg (fun x => x.1 h),h]
 ·rw [if_pos ⟨h,.inl rfl⟩]; simp [pvA]
theorem tmA_gap {l : List Int} {k : Nat} (hk : k + 1 < l.length) (h : l[k] = 0) : tmA l (k + 1) = 0:=by
 unfold tmA
 rw [if_neg]
 rintro ⟨_,h1 | ⟨_,h1⟩⟩
 ·omega
 ·rw [Nat.add_sub_cancel,getD_is (by omega)] at h1; exact h1 h
theorem tmA_diff {l : List Int} {k : Nat} (hk : k + 1 < l.length) (h : l[k] ≠ 0) (h1 : l[k + 1] ≠ 0) : tmA l (k + 1) = l[k + 1] - l[k]:=by
 unfold tmA
 rw [getD_is hk,if_pos ⟨h1,.inr ⟨by omega,by rw [Nat.add_sub_cancel,getD_is (by omega)]; exact h⟩⟩]
 unfold pvA
 rw [if_neg (by omega),Nat.add_sub_cancel,getD_is (by omega)]
theorem spl_le {n : Nat} {l : List Int} (h : SplOk n l) {i k : Nat} (hk : k < l.length) (hi : i < k) (h0 : l[k] ≠ 0) : l[i] < l[k]:=by
 have h1:=h.up k hk h0
 have h2 : ∀ (m : List Int) (a : Int),a ≤ m.foldl max a ∧ ∀ x ∈ m,x ≤ m.foldl max a:=by
  intro m
  induction m with
  | nil => intro a; exact ⟨Int.le_refl _,fun x hx => by cases hx⟩
  | cons y m ih =>
   intro a
   have:=ih (max a y)
   refine ⟨by simp only [List.foldl_cons]; omega,fun x hx => ?_⟩
   rcases List.mem_cons.1 hx with rfl | hx
   ·simp only [List.foldl_cons]; omega
   ·exact this.2 x hx
 have h3:=(h2 (l.take k) 0).2 l[i] (by rw [List.mem_take_iff_getElem]; exact ⟨i,by omega,rfl⟩)
 unfold sgM at h1
 omega
theorem tmA_bd {n : Nat} {l : List Int} (h : SplOk n l) (k : Nat) : 0 ≤ tmA l k ∧ tmA l k ≤ 864000000:=by
 rcases Nat.lt_or_ge k l.length with hk | hk
 ·by_cases h0 : l[k] = 0
  ·rw [tmA_zero hk h0]; omega
  ·have b:=h.bd k hk
   rcases k with _ | k
   ·rw [tmA_first hk]; exact b
   ·by_cases h1 : l[k] = 0
    ·rw [tmA_gap hk h1]; omega
    ·rw [tmA_diff hk h1 h0]
     have:=spl_le h hk (Nat.lt_succ_self k) h0
     have:=h.bd k (by omega)
     omega
 ·have : tmA l k = 0:=by
   unfold tmA
   rw [if_neg]
   rintro ⟨h1,_⟩
   rw [List.getD_eq_getElem?_getD,List.getElem?_eq_none (by omega)] at h1
   exact h1 rfl
  omega

def rowA (atts : List Att) (k : Nat) : List Int:=atts.flatMap fun a => if k < a.2.length ∧ 0 < tmA a.2 k then [tmA a.2 k] else []
theorem rowA_snoc (atts : List Att) (a : Att) (k : Nat) : rowA (atts ++ [a]) k = rowA atts k ++ if k < a.2.length ∧ 0 < tmA a.2 k then [tmA a.2 k] else []:=by simp [rowA]
theorem rowA_take (atts : List Att) (j k : Nat) (hj : j < atts.length) : rowA (atts.take (j + 1)) k = rowA (atts.take j) k ++ if k < atts[j].2.length ∧ 0 < tmA atts[j].2 k then [tmA atts[j].2 k] else []:=by
 rw [List.take_succ_eq_append_getElem hj,rowA_snoc]
theorem rowA_len (atts : List Att) (k : Nat) : (rowA atts k).length ≤ atts.length:=by
 induction atts with
 | nil => simp [rowA]
 | cons a atts ih =>
  have e : rowA (a :: atts) k = (if k < a.2.length ∧ 0 < tmA a.2 k then [tmA a.2 k] else []) ++ rowA atts k:=by simp [rowA]
  rw [e,List.length_append,List.length_cons]
  split <;> simp <;> omega
theorem rowA_bd {n : Nat} {atts : List Att} (h : ∀ i (hi : i < atts.length),SplOk n atts[i].2) (k : Nat) : ∀ x ∈ rowA atts k,0 < x ∧ x ≤ 864000000:=by
 intro x hx
 obtain ⟨a,ha,hx⟩:=List.mem_flatMap.1 hx
 obtain ⟨i,hi,rfl⟩:=List.mem_iff_getElem.1 ha
 split at hx
 ·rename_i h1
  simp at hx
  subst hx
  exact ⟨h1.2,(tmA_bd (h i hi) k).2⟩
 ·cases hx
def rowP (atts : List Att) (l : List Int) (j k : Nat) : List Int:=rowA atts k ++ if k < j ∧ k < l.length ∧ 0 < tmA l k then [tmA l k] else []
def goldA (atts : List Att) (k : Nat) : Int:=(sorted (rowA atts k)).headD 0
def goldL (atts : List Att) (j : Nat) : List Int:=(List.range j).map (goldA atts)
theorem goldL_len (atts : List Att) (j : Nat) : (goldL atts j).length = j:=by simp [goldL]
theorem goldL_snoc (atts : List Att) (j : Nat) : goldL atts (j + 1) = goldL atts j ++ [goldA atts j]:=by simp [goldL,List.range_succ]
theorem goldL_at (atts : List Att) (j i : Nat) (h : i < (goldL atts j).length) : (goldL atts j)[i] = goldA atts i:=by simp [goldL]

end Go.Proofs.YtapjahbflhingaaGreatDoor
/- Plain laws: the sum of best is no more than any attempt's way, than the golds together, than what a live run can reach. No program in sight. -/
namespace Go.Proofs.YtapjahbflhingaaGreatDoor
set_option linter.unusedVariables false
set_option linter.unusedSimpArgs false

end Go.Proofs.YtapjahbflhingaaGreatDoor
/- Plain laws of comparisons: levels and means of rows, sums from the first on, the greatest part that is in time. No program in sight. -/
namespace Go.Proofs.YtapjahbflhingaaGreatDoor
set_option linter.unusedVariables false
set_option linter.unusedSimpArgs false

def levA (row : List Int) (part : Nat) : Int :=
 row.getD ((row.length - 1) * part / 1000) 0 + (row.getD ((row.length - 1) * part / 1000 + 1) 0 - row.getD ((row.length - 1) * part / 1000) 0) * (((row.length - 1) * part % 1000 : Nat) : Int) / 1000
structure RowOk (row : List Int) : Prop where
  up : ∀ i (h : i + 1 < row.length), row[i] ≤ row[i + 1]
  bd : ∀ x ∈ row, 0 < x ∧ x ≤ 864000000
  m : row.length ≤ 500
theorem RowOk.at {row : List Int} (h : RowOk row) {i : Nat} (hi : i < row.length) : 0 < row[i] ∧ row[i] ≤ 864000000:=h.bd _ (List.getElem_mem hi)
theorem lev_i {row : List Int} {part : Nat} (h0 : 0 < row.length) (hp : part ≤ 1000) : (row.length - 1) * part / 1000 < row.length:=by
 have : (row.length - 1) * part ≤ (row.length - 1) * 1000:=Nat.mul_le_mul_left _ hp
 omega
theorem lev_j {row : List Int} {part : Nat} (hp : part ≤ 1000) (hr : 0 < (row.length - 1) * part % 1000) : (row.length - 1) * part / 1000 + 1 < row.length:=by
 have : (row.length - 1) * part ≤ (row.length - 1) * 1000:=Nat.mul_le_mul_left _ hp
 omega
theorem levA_even {row : List Int} {part : Nat} (h0 : 0 < row.length) (hp : part ≤ 1000) (hr : (row.length - 1) * part % 1000 = 0) : levA row part = row[(row.length - 1) * part / 1000]'(lev_i h0 hp):=by
 unfold levA
 rw [hr,getD_is (lev_i h0 hp)]; simp
theorem levA_part {row : List Int} {part : Nat} (hp : part ≤ 1000) (hr : 0 < (row.length - 1) * part % 1000) :
  levA row part = row[(row.length - 1) * part / 1000]'(by have:=lev_j hp hr; omega) + (row[(row.length - 1) * part / 1000 + 1]'(lev_j hp hr) - row[(row.length - 1) * part / 1000]'(by have:=lev_j hp hr; omega)) * (((row.length - 1) * part % 1000 : Nat) : Int) / 1000:=by
 have:=lev_j hp hr
 unfold levA
 rw [getD_is this,getD_is (by omega)]
theorem lev_more {row : List Int} (h : RowOk row) {i r : Nat} (hi : i + 1 < row.length) (hr : r < 1000) : 0 ≤ (row[i + 1] - row[i]) * (r : Int) ∧ (row[i + 1] - row[i]) * (r : Int) ≤ 864000000000 ∧ (row[i + 1] - row[i]) * (r : Int) / 1000 ≤ row[i + 1] - row[i] ∧ 0 ≤ (row[i + 1] - row[i]) * (r : Int) / 1000:=by
 have h1:=h.up i hi
 have h2:=h.at hi
 have h3:=h.at (show i < row.length by omega)
 generalize row[i + 1] = y at *
 generalize row[i] = x at *
 have a : 0 ≤ (y - x) * (r : Int):=Int.mul_nonneg (by omega) (by omega)
 have b : (y - x) * (r : Int) ≤ (y - x) * 1000:=Int.mul_le_mul_of_nonneg_left (by omega) (by omega)
 refine ⟨a,by omega,by omega,by omega⟩
theorem levA_bd {row : List Int} (h : RowOk row) {part : Nat} (h0 : 0 < row.length) (hp : part ≤ 1000) : 0 < levA row part ∧ levA row part ≤ 864000000:=by
 by_cases hr : (row.length - 1) * part % 1000 = 0
 ·rw [levA_even h0 hp hr]; exact h.at _
 ·have hr' : 0 < (row.length - 1) * part % 1000:=by omega
  rw [levA_part hp hr']
  have hj:=lev_j hp hr'
  have m:=lev_more h hj (Nat.mod_lt ((row.length - 1) * part) (by decide : 0 < 1000))
  have a:=h.at hj
  have b:=h.at (show (row.length - 1) * part / 1000 < row.length by omega)
  omega
def preS (l : List Int) (k : Nat) : Int:=(l.take k).sum
theorem preS_zero (l : List Int) : preS l 0 = 0:=by simp [preS]
theorem preS_next {l : List Int} {k : Nat} (hk : k < l.length) : preS l (k + 1) = preS l k + l[k]:=by
 unfold preS; rw [List.take_succ_eq_append_getElem hk,List.sum_append,List.sum_singleton]
theorem preS_all (l : List Int) : preS l l.length = l.sum:=by simp [preS]
theorem preS_bd {l : List Int} (h : ∀ x ∈ l,0 ≤ x ∧ x ≤ 864000000) : ∀ k,k ≤ l.length → 0 ≤ preS l k ∧ preS l k ≤ 864000000 * k:=by
 intro k
 induction k with
 | zero => intro _; rw [preS_zero]; simp
 | succ k ih =>
  intro hk
  have:=ih (by omega)
  have b:=h _ (List.getElem_mem (show k < l.length by omega))
  rw [preS_next (by omega)]
  omega
def mnA (row : List Int) : Int:=row.sum / (row.length : Int)
theorem sum_bd {l : List Int} {B : Int} (h : ∀ x ∈ l,0 ≤ x ∧ x ≤ B) : 0 ≤ l.sum ∧ l.sum ≤ B * l.length:=by
 induction l with
 | nil => simp
 | cons x l ih =>
  have a:=ih (fun y hy => h y (List.mem_cons_of_mem _ hy))
  have b:=h x (by simp)
  have e : B * ((l.length + 1 : Nat) : Int) = B * l.length + B:=by rw [Int.natCast_add,Int.mul_add]; simp
  rw [List.sum_cons,List.length_cons,e]
  omega
theorem mnA_bd {row : List Int} (h : RowOk row) (h0 : 0 < row.length) : 0 ≤ mnA row ∧ mnA row ≤ 864000000:=by
 have b:=sum_bd (l:=row) (B:=864000000) (fun x hx => by have:=h.bd x hx; omega)
 unfold mnA
 refine ⟨Int.ediv_nonneg b.1 (by omega),?_⟩
 exact Int.ediv_le_of_le_mul (by omega) b.2
def addA (l : List Int) : List Int:=(List.range l.length).map fun k => preS l (k + 1)
theorem addA_len (l : List Int) : (addA l).length = l.length:=by simp [addA]
theorem addA_at (l : List Int) (k : Nat) (h : k < (addA l).length) : (addA l)[k] = preS l (k + 1):=by simp [addA]
def addK (l : List Int) (k : Nat) : List Int:=(List.range k).map fun k => preS l (k + 1)
theorem addK_len (l : List Int) (k : Nat) : (addK l k).length = k:=by simp [addK]
theorem addK_snoc (l : List Int) (k : Nat) : addK l (k + 1) = addK l k ++ [preS l (k + 1)]:=by simp [addK,List.range_succ]
theorem addK_all (l : List Int) : addK l l.length = addA l:=rfl
def valL (f : List Int → Int) (rows : List (List Int)) (k : Nat) : List Int:=(rows.take k).map f
theorem valL_len {f : List Int → Int} {rows : List (List Int)} {k : Nat} (hk : k ≤ rows.length) : (valL f rows k).length = k:=by simp [valL]; omega
theorem valL_next {f : List Int → Int} {rows : List (List Int)} {k : Nat} (hk : k < rows.length) : valL f rows (k + 1) = valL f rows k ++ [f rows[k]]:=by
 unfold valL; rw [List.take_succ_eq_append_getElem hk,List.map_append]; rfl
theorem valL_all (f : List Int → Int) (rows : List (List Int)) : valL f rows rows.length = rows.map f:=by simp [valL]
def evF (rows : List (List Int)) (most : Int) : Nat → Option Nat
 | 0 => none
 | p + 1 => if (rows.map fun r => levA r p).sum ≤ most then some p else evF rows most p
theorem evF_yes {rows : List (List Int)} {most : Int} {p : Nat} (h : (rows.map fun r => levA r p).sum ≤ most) : evF rows most (p + 1) = some p:=by simp [evF,h]
theorem evF_no {rows : List (List Int)} {most : Int} {p : Nat} (h : ¬ (rows.map fun r => levA r p).sum ≤ most) : evF rows most (p + 1) = evF rows most p:=by simp [evF,h]
def evL (rows : List (List Int)) (o : Option Nat) : List Int:=match o with | some p => rows.map fun r => levA r p | none => []
end Go.Proofs.YtapjahbflhingaaGreatDoor
/- The walks of segment.times and splitref1.LengthsOf at right splits. -/
namespace Go.Proofs.YtapjahbflhingaaGreatDoor
set_option linter.unusedVariables false
set_option linter.unusedSimpArgs false
open Go.RowKit

theorem info_int : (Tryz.prog.info? 3).map (fun i => (i.zero,i.size,i.bytes)) = some (some (.int .i64 0),1,8):=by kernel_rfl
theorem ints_repz (n : Nat) : (madeCells #[Value.int .i64 0] n).toList = ints (List.replicate n 0):=by
 rw [toList_madeCells_one]
 simp [ints]
theorem ints_set (xs : List Int) (k : Nat) (x : Int) : (ints xs).set k (.int .i64 x) = ints (xs.set k x):=by simp [ints,List.map_set]
def tmS (l : List Int) (k n : Nat) : List Int:=tmL l k ++ List.replicate (n - k) 0
theorem tmS_len (l : List Int) (k n : Nat) (h : k ≤ n) : (tmS l k n).length = n:=by simp [tmS,tmL_len]; omega
theorem tmS_zero (l : List Int) (n : Nat) : tmS l 0 n = List.replicate n 0:=by simp [tmS,tmL]
theorem tmS_end (l : List Int) (n : Nat) : tmS l n n = tmL l n:=by simp [tmS]
theorem tmS_next {l : List Int} {k n : Nat} (h : k < n) : tmS l (k + 1) n = (tmS l k n).set k (tmA l k):=by
 have e : n - k = (n - (k + 1)) + 1:=by omega
 unfold tmS
 rw [tmL_snoc,e,List.replicate_succ,List.set_append_right _ _ (by rw [tmL_len]; exact Nat.le_refl _),tmL_len,Nat.sub_self]
 simp
theorem tmS_same {l : List Int} {k n : Nat} (h : k < n) (h0 : tmA l k = 0) : tmS l (k + 1) n = tmS l k n:=by
 have e : n - k = (n - (k + 1)) + 1:=by omega
 unfold tmS
 rw [tmL_snoc,h0,e,List.replicate_succ]
 simp

set_option maxHeartbeats 2000000 in
theorem htimes_any (many : Nat) (B : Option Addr) (c lo : Nat) (l : List Int) (w : World) (hr : Row w lo 1 B l.length (ints l)) (hl : l.length ≤ 1000000000) (hok : SplOk many l) :
  Calls Tryz.prog 47 #[.slice B l.length c] w fun e w' => ∃ A' c',e = .returned (.slice A' (tmL l l.length).length c') ∧ w'.ownsRow w.heap.size 3 1 (.slice A' (tmL l l.length).length c') (tmL l l.length).length (ints (tmL l l.length)) ∧ Below w.heap.size w w':=by
 obtain ⟨und,_,_⟩:=ty_ints
 obtain ⟨i0,hi0,hz0,hz1,hz2⟩:=info_parts info_int
 have HO:=Lib.hid hok
 clear hok
 have HE : Hid ((tmL l l.length).length = l.length):=Lib.hid (tmL_len _ _)
 go_enter Tryz.func47,Tryz.ntmps47
 go_wp2_with (at_make; go_must (refine wpList_make_full _ rfl _ _ 22 rfl w.heap.size 3 i0 _ 1 und hi0 hz0 hz1 .i64 .i64 _ _ l.length rfl rfl rfl rfl (by rw [hz2]; omega) (by simp only [maxLen]; omega) (Nat.le_refl _) ?_))
 intro w1 hown1 hg1
 rw [ints_repz,← tmS_zero l] at hown1
 have hb1 : Below w.heap.size w w1:=(Below.refl _ _).grown hg1 (Nat.le_refl _) (fun k hk => by cases hk)
 clear hg1
 go_wp2_with fail
 go_loopw [12] (fun i wr => ∃ k : Nat,k ≤ l.length ∧ i = .int .i64 k ∧ wr.ownsRow w.heap.size 3 1 (.slice (some ⟨w.heap.size,0,none⟩) l.length l.length) l.length (ints (tmS l k l.length)) ∧ Below w.heap.size w wr) (fun i _ => l.length - (intOf i).toNat)
 case atStart => exact ⟨0,Nat.zero_le _,rfl,hown1,hb1⟩
 case round =>
  obtain ⟨k,hk,rfl,hown,hbw⟩:=hrel
  clear hown1 hb1
  by_cases hlt : k < l.length
  ·obtain ⟨b,off,rfl,_,hbs,c0⟩:=(hr.below hbw).int_at hlt
   obtain ⟨g,hg,hg1,hgs,hcs,hfr⟩:=ownBlk hown (by omega)
   have eg : g = w.heap.size:=(congrArg Addr.block (Option.some.inj hg)).symm
   rw [eg] at hcs hfr
   clear eg hg1 hgs
   obtain ⟨old,ck⟩ : ∃ old,wr.cell? ⟨w.heap.size,k,none⟩ = some old:=by
    have hll : k < (tmS l k l.length).length:=by rw [tmS_len _ _ _ hk]; exact hlt
    exact ⟨_,hcs k (.int .i64 (tmS l k l.length)[k]) (by simp [ints,List.getElem?_eq_getElem hll])⟩
   have fk:=hfr k
   clear hcs hfr hg
   have HNX:=Lib.hid (tmS_next (l:=l) hlt)
   have HSM:=Lib.hid (tmS_same (l:=l) hlt)
   have HST:=Lib.hid (fun x => by have:=(hown.stored k (.int .i64 x)); rw [ints_set] at this; exact this)
   have bd:=HO.out.bd k hlt
   by_cases h0 : l[k] = 0
   ·have HF:=Lib.hid (HSM.out (tmA_zero hlt h0))
    have d1 : (l[k] != 0) = false:=by simpa using h0
    generalize l[k] = x at *
    clear HSM HNX h0
    by_cases hk0 : k = 0
    ·have d0 : decide ((0 : Int) < (k : Int)) = false:=by simp; omega
     have d0' : decide (0 < k) = false:=by simp; omega
     have d2 : (k : Int) ≤ 0:=by omega
     clear hk0
     go_wp2_with fail
     go_roundw
     case rel => exact ⟨k + 1,by omega,by go_num,by rw [HF.out]; exact hown,hbw⟩
     case measure => simp [intOf]; omega
    ·have d0 : decide ((0 : Int) < (k : Int)) = true:=by simp; omega
     have d0' : decide (0 < k) = true:=by simp; omega
     have d2 : (0 : Int) < (k : Int):=by omega
     obtain ⟨b',off',e',_,hbs',cp⟩:=(hr.below hbw).int_at (k:=k - 1) (by omega)
     obtain ⟨rfl,rfl⟩ : b' = b ∧ off' = off:=by injection e' with e'; injection e' with h1 h2; exact ⟨h1.symm,h2.symm⟩
     generalize l[k - 1] = y at *
     have d3 : IntKind.i64.wrap ((k : Int) - 1) = ((k - 1 : Nat) : Int):=by rw [IntWalk.i64_in _ (by omega)]; omega
     clear e' hk0
     have hk1 : k - 1 < l.length:=by omega
     go_wp2_with fail
     go_roundw
     case rel => exact ⟨k + 1,by omega,by go_num,by rw [HF.out]; exact hown,hbw⟩
     case measure => simp [intOf]; omega
   ·have d1 : (l[k] != 0) = true:=by simpa using h0
    by_cases hk0 : k = 0
    ·have HT : Hid (tmA l k = l[k] - 0):=Lib.hid (by subst hk0; rw [tmA_first hlt]; omega)
     have HF : Hid (tmS l (k + 1) l.length = (tmS l k l.length).set k (l[k] - 0)):=Lib.hid (by rw [HNX.out,HT.out])
     generalize l[k] = x at *
     have d0 : decide ((0 : Int) < (k : Int)) = false:=by simp; omega
     have d0' : decide (0 < k) = false:=by simp; omega
     have d2 : (k : Int) ≤ 0:=by omega
     have d4 : ((k : Int) == 0) = true:=by rw [beq_iff_eq]; omega
     have d5 : IntKind.i64.wrap (x - 0) = x - 0:=IntWalk.i64_in _ (by omega)
     have hs:=HST.out (x - 0)
     clear hk0 HT HNX HSM h0
     go_wp2_with fail
     go_roundw
     case rel => exact ⟨k + 1,by omega,by go_num,by rw [HF.out]; first | exact hs.1 | simpa using hs.1,Below.setCell hbw (Nat.le_refl _) _⟩
     case measure => simp [intOf]; omega
    ·have d0 : decide ((0 : Int) < (k : Int)) = true:=by simp; omega
     have d0' : decide (0 < k) = true:=by simp; omega
     have d2 : (0 : Int) < (k : Int):=by omega
     have d4 : ((k : Int) == 0) = false:=by rw [beq_eq_false_iff_ne]; omega
     obtain ⟨b',off',e',_,hbs',cp⟩:=(hr.below hbw).int_at (k:=k - 1) (by omega)
     obtain ⟨rfl,rfl⟩ : b' = b ∧ off' = off:=by injection e' with e'; injection e' with h1 h2; exact ⟨h1.symm,h2.symm⟩
     have d3 : IntKind.i64.wrap ((k : Int) - 1) = ((k - 1 : Nat) : Int):=by rw [IntWalk.i64_in _ (by omega)]; omega
     have hk1 : k - 1 < l.length:=by omega
     have bd':=HO.out.bd (k - 1) hk1
     have HG : Hid (l[k - 1] = 0 → tmA l k = 0):=Lib.hid (fun h => by
      obtain ⟨m,rfl⟩ : ∃ m,k = m + 1:=⟨k - 1,by omega⟩
      exact tmA_gap hlt (by simpa using h))
     have HD : Hid (l[k - 1] ≠ 0 → tmA l k = l[k] - l[k - 1]):=Lib.hid (fun h => by
      obtain ⟨m,rfl⟩ : ∃ m,k = m + 1:=⟨k - 1,by omega⟩
      simpa using tmA_diff hlt (by simpa using h) h0)
     generalize l[k - 1] = y at *
     clear e' hk0 h0
     by_cases hy : y = 0
     ·have HF:=Lib.hid (HSM.out (HG.out hy))
      have d6 : (y != 0) = false:=by simpa using hy
      generalize l[k] = x at *
      clear hy HG HD HSM HNX
      go_wp2_with fail
      go_roundw
      case rel => exact ⟨k + 1,by omega,by go_num,by rw [HF.out]; exact hown,hbw⟩
      case measure => simp [intOf]; omega
     ·have HF : Hid (tmS l (k + 1) l.length = (tmS l k l.length).set k (l[k] - y)):=Lib.hid (by rw [HNX.out,HD.out hy])
      have d6 : (y != 0) = true:=by simpa using hy
      generalize l[k] = x at *
      have d5 : IntKind.i64.wrap (x - y) = x - y:=IntWalk.i64_in _ (by omega)
      have hs:=HST.out (x - y)
      clear hy HG HD HSM HNX
      go_wp2_with fail
      go_roundw
      case rel => exact ⟨k + 1,by omega,by go_num,by rw [HF.out]; exact hs.1,Below.setCell hbw (Nat.le_refl _) _⟩
      case measure => simp [intOf]; omega
  ·have hkn : k = l.length:=by omega
   subst hkn
   rw [tmS_end] at hown
   go_wp2_with fail
   go_ret
   exact ⟨some ⟨w.heap.size,0,none⟩,l.length,by rw [HE.out]; rfl,by rw [HE.out]; exact hown,hbw⟩

set_option maxHeartbeats 2000000 in
theorem lengthsOf_any (many : Nat) (B : Option Addr) (c lo : Nat) (l : List Int) (w : World) (hr : Row w lo 1 B l.length (ints l)) (hl : l.length ≤ 1000000000) (hok : SplOk many l) :
  Calls Tryz.prog 59 #[.slice B l.length c] w fun e w' => ∃ A' c',e = .returned (.slice A' (tmL l l.length).length c') ∧ w'.ownsRow w.heap.size 3 1 (.slice A' (tmL l l.length).length c') (tmL l l.length).length (ints (tmL l l.length)) ∧ Below w.heap.size w w':=by
 have HO:=Lib.hid hok
 clear hok
 go_enter Tryz.func59,Tryz.ntmps59
 go_wp2_with fail
 go_loopw [3,9] (fun v i wr => ∃ (k : Nat) (A' : Option Addr) (c' : Nat),k ≤ l.length ∧ i = .int .i64 k ∧ v = .slice A' (tmL l k).length c' ∧ wr.ownsRow w.heap.size 3 1 (.slice A' (tmL l k).length c') (tmL l k).length (ints (tmL l k)) ∧ Below w.heap.size w wr) (fun _ i _ => l.length - (intOf i).toNat)
 case atStart => exact ⟨0,none,0,Nat.zero_le _,rfl,rfl,World.ownsRow_nil _ _ _ _,Below.refl _ _⟩
 case round =>
  obtain ⟨k,A',c',hk,rfl,rfl,hown,hbw⟩:=hrel
  have hz:=hbw.size
  by_cases hlt : k < l.length
  ·obtain ⟨b,off,rfl,_,hbs,c0⟩:=(hr.below hbw).int_at hlt
   have bd:=HO.out.bd k hlt
   have HS:=Lib.hid (tmL_snoc l k)
   have hlk : (tmL l k).length ≤ 1000000000:=by rw [tmL_len]; omega
   generalize tmL l k = o at *
   by_cases hk0 : k = 0
   ·have HT : Hid (tmA l k = l[k]):=Lib.hid (by subst hk0; exact tmA_first hlt)
    have d0 : decide ((0 : Int) < (k : Int)) = false:=by simp; omega
    have d0' : decide (0 < k) = false:=by simp; omega
    have d2 : (k : Int) ≤ 0:=by omega
    have d4 : ((k : Int) == 0) = true:=by rw [beq_iff_eq]; omega
    generalize l[k] = x at *
    clear hk0
    by_cases hx : x = 0
    ·have HF : Hid (tmL l (k + 1) = o ++ [0]):=Lib.hid (by rw [HS.out,HT.out,hx])
     have d1 : decide (0 < x) = false:=by simp; omega
     clear hx HS HT
     go_wp2_with (at_builtin; go_must (refine wpList_app (lo:=w.heap.size) (base:=w.heap.size) (n:=o.length) (xs:=ints o) _ _ rfl _ _ ty_ints rfl (by repeat (first | exact hown | refine World.ownsRow.alloc ?_ _ | refine own_drewN ?_ _ | refine World.ownsRow.drew ?_)) rfl (by first | exact row_new' _ (by first | rfl | simp) (by first | omega | (simp; omega)) rfl | exact row_newN _ _ (by first | rfl | simp) (by first | omega | (simp; omega)) rfl | exact row_newD _ (by first | rfl | simp) (by first | omega | (simp; omega)) rfl) rfl rfl (by first | omega | decide) (by first | omega | decide) (by first | omega | (simp; omega)) ?_))
     intro A5 c5 w5 hown5 hg5 _
     go_wp2_with fail
     go_roundw
     case rel => exact ⟨k + 1,A5,c5,by omega,by go_num,by rw [HF.out]; simp,by rw [HF.out,ints_app,List.length_append]; exact hown5,below_app hown (by repeat (first | exact hbw | refine Below.alloc ?_ (by first | omega | (simp; omega)) _ | refine below_drewN' ?_ _ | refine Below.drew ?_)) hg5 (Nat.le_refl _) (by simp; omega)⟩
     case measure => simp [intOf]; omega
    ·have HF : Hid (tmL l (k + 1) = o ++ [x]):=Lib.hid (by rw [HS.out,HT.out])
     have d1 : decide (0 < x) = true:=by simp; omega
     clear hx HS HT
     go_wp2_with (at_builtin; go_must (refine wpList_app (lo:=w.heap.size) (base:=w.heap.size) (n:=o.length) (xs:=ints o) _ _ rfl _ _ ty_ints rfl (by repeat (first | exact hown | refine World.ownsRow.alloc ?_ _ | refine own_drewN ?_ _ | refine World.ownsRow.drew ?_)) rfl (by first | exact row_new' _ (by first | rfl | simp) (by first | omega | (simp; omega)) rfl | exact row_newN _ _ (by first | rfl | simp) (by first | omega | (simp; omega)) rfl | exact row_newD _ (by first | rfl | simp) (by first | omega | (simp; omega)) rfl) rfl rfl (by first | omega | decide) (by first | omega | decide) (by first | omega | (simp; omega)) ?_))
     intro A5 c5 w5 hown5 hg5 _
     go_wp2_with fail
     go_roundw
     case rel => exact ⟨k + 1,A5,c5,by omega,by go_num,by rw [HF.out]; simp,by rw [HF.out,ints_app,List.length_append]; exact hown5,below_app hown (by repeat (first | exact hbw | refine Below.alloc ?_ (by first | omega | (simp; omega)) _ | refine below_drewN' ?_ _ | refine Below.drew ?_)) hg5 (Nat.le_refl _) (by simp; omega)⟩
     case measure => simp [intOf]; omega
   ·have d0 : decide ((0 : Int) < (k : Int)) = true:=by simp; omega
    have d0' : decide (0 < k) = true:=by simp; omega
    have d2 : (0 : Int) < (k : Int):=by omega
    have d4 : ((k : Int) == 0) = false:=by rw [beq_eq_false_iff_ne]; omega
    obtain ⟨b',off',e',_,hbs',cp⟩:=(hr.below hbw).int_at (k:=k - 1) (by omega)
    obtain ⟨rfl,rfl⟩ : b' = b ∧ off' = off:=by injection e' with e'; injection e' with h1 h2; exact ⟨h1.symm,h2.symm⟩
    have d3 : IntKind.i64.wrap ((k : Int) - 1) = ((k - 1 : Nat) : Int):=by rw [IntWalk.i64_in _ (by omega)]; omega
    have hk1 : k - 1 < l.length:=by omega
    have bd':=HO.out.bd (k - 1) hk1
    have HZ : Hid (l[k] = 0 → tmA l k = 0):=Lib.hid (fun h => tmA_zero hlt h)
    have HG : Hid (l[k - 1] = 0 → tmA l k = 0):=Lib.hid (fun h => by
     obtain ⟨m,rfl⟩ : ∃ m,k = m + 1:=⟨k - 1,by omega⟩
     exact tmA_gap hlt (by simpa using h))
    have HD : Hid (l[k] ≠ 0 → l[k - 1] ≠ 0 → tmA l k = l[k] - l[k - 1]):=Lib.hid (fun h0 h => by
     obtain ⟨m,rfl⟩ : ∃ m,k = m + 1:=⟨k - 1,by omega⟩
     simpa using tmA_diff hlt (by simpa using h) h0)
    generalize l[k - 1] = y at *
    generalize l[k] = x at *
    clear e' hk0
    by_cases hx : x = 0
    ·have HF : Hid (tmL l (k + 1) = o ++ [0]):=Lib.hid (by rw [HS.out,HZ.out hx])
     have d1 : decide (0 < x) = false:=by simp; omega
     clear hx HS HZ HG HD
     go_wp2_with (at_builtin; go_must (refine wpList_app (lo:=w.heap.size) (base:=w.heap.size) (n:=o.length) (xs:=ints o) _ _ rfl _ _ ty_ints rfl (by repeat (first | exact hown | refine World.ownsRow.alloc ?_ _ | refine own_drewN ?_ _ | refine World.ownsRow.drew ?_)) rfl (by first | exact row_new' _ (by first | rfl | simp) (by first | omega | (simp; omega)) rfl | exact row_newN _ _ (by first | rfl | simp) (by first | omega | (simp; omega)) rfl | exact row_newD _ (by first | rfl | simp) (by first | omega | (simp; omega)) rfl) rfl rfl (by first | omega | decide) (by first | omega | decide) (by first | omega | (simp; omega)) ?_))
     intro A5 c5 w5 hown5 hg5 _
     go_wp2_with fail
     go_roundw
     case rel => exact ⟨k + 1,A5,c5,by omega,by go_num,by rw [HF.out]; simp,by rw [HF.out,ints_app,List.length_append]; exact hown5,below_app hown (by repeat (first | exact hbw | refine Below.alloc ?_ (by first | omega | (simp; omega)) _ | refine below_drewN' ?_ _ | refine Below.drew ?_)) hg5 (Nat.le_refl _) (by simp; omega)⟩
     case measure => simp [intOf]; omega
    ·have d1 : decide (0 < x) = true:=by simp; omega
     by_cases hy : y = 0
     ·have HF : Hid (tmL l (k + 1) = o ++ [0]):=Lib.hid (by rw [HS.out,HG.out hy])
      have d6 : decide (0 < y) = false:=by simp; omega
      clear hx hy HS HZ HG HD
      go_wp2_with (at_builtin; go_must (refine wpList_app (lo:=w.heap.size) (base:=w.heap.size) (n:=o.length) (xs:=ints o) _ _ rfl _ _ ty_ints rfl (by repeat (first | exact hown | refine World.ownsRow.alloc ?_ _ | refine own_drewN ?_ _ | refine World.ownsRow.drew ?_)) rfl (by first | exact row_new' _ (by first | rfl | simp) (by first | omega | (simp; omega)) rfl | exact row_newN _ _ (by first | rfl | simp) (by first | omega | (simp; omega)) rfl | exact row_newD _ (by first | rfl | simp) (by first | omega | (simp; omega)) rfl) rfl rfl (by first | omega | decide) (by first | omega | decide) (by first | omega | (simp; omega)) ?_))
      intro A5 c5 w5 hown5 hg5 _
      go_wp2_with fail
      go_roundw
      case rel => exact ⟨k + 1,A5,c5,by omega,by go_num,by rw [HF.out]; simp,by rw [HF.out,ints_app,List.length_append]; exact hown5,below_app hown (by repeat (first | exact hbw | refine Below.alloc ?_ (by first | omega | (simp; omega)) _ | refine below_drewN' ?_ _ | refine Below.drew ?_)) hg5 (Nat.le_refl _) (by simp; omega)⟩
      case measure => simp [intOf]; omega
     ·have HF : Hid (tmL l (k + 1) = o ++ [x - y]):=Lib.hid (by rw [HS.out,HD.out hx hy])
      have d6 : decide (0 < y) = true:=by simp; omega
      have d5 : IntKind.i64.wrap (x - y) = x - y:=IntWalk.i64_in _ (by omega)
      clear hx hy HS HZ HG HD
      go_wp2_with (at_builtin; go_must (refine wpList_app (lo:=w.heap.size) (base:=w.heap.size) (n:=o.length) (xs:=ints o) _ _ rfl _ _ ty_ints rfl (by repeat (first | exact hown | refine World.ownsRow.alloc ?_ _ | refine own_drewN ?_ _ | refine World.ownsRow.drew ?_)) rfl (by first | exact row_new' _ (by first | rfl | simp) (by first | omega | (simp; omega)) rfl | exact row_newN _ _ (by first | rfl | simp) (by first | omega | (simp; omega)) rfl | exact row_newD _ (by first | rfl | simp) (by first | omega | (simp; omega)) rfl) rfl rfl (by first | omega | decide) (by first | omega | decide) (by first | omega | (simp; omega)) ?_))
      intro A5 c5 w5 hown5 hg5 _
      go_wp2_with fail
      go_roundw
      case rel => exact ⟨k + 1,A5,c5,by omega,by go_num,by rw [HF.out]; simp,by rw [HF.out,ints_app,List.length_append]; exact hown5,below_app hown (by repeat (first | exact hbw | refine Below.alloc ?_ (by first | omega | (simp; omega)) _ | refine below_drewN' ?_ _ | refine Below.drew ?_)) hg5 (Nat.le_refl _) (by simp; omega)⟩
      case measure => simp [intOf]; omega
  ·have hkn : k = l.length:=by omega
   subst hkn
   go_wp2_with fail
   go_ret
   exact ⟨A',c',rfl,hown,hbw⟩
end Go.Proofs.YtapjahbflhingaaGreatDoor
/- The walks of level and LevelOf, mean, added and sums. -/
namespace Go.Proofs.YtapjahbflhingaaGreatDoor
set_option linter.unusedVariables false
set_option linter.unusedSimpArgs false
open Go.RowKit

theorem lev_facts {row : List Int} {part x i r : Nat} (hx : (row.length - 1) * part = x) (hi : x / 1000 = i) (hr : x % 1000 = r) (h0 : 0 < row.length) (hp : part ≤ 1000) :
  ∃ h : i < row.length,(0 < r → i + 1 < row.length) ∧ (∀ h1 : i + 1 < row.length,levA row part = row[i] + (row[i + 1] - row[i]) * (r : Int) / 1000) ∧ (r = 0 → levA row part = row[i]):=by
 subst hx hi hr
 refine ⟨lev_i h0 hp,fun h => lev_j hp h,fun h1 => ?_,fun h => levA_even h0 hp h⟩
 unfold levA
 rw [getD_is h1,getD_is (lev_i h0 hp)]
set_option maxHeartbeats 1000000 in
theorem level_any (A : Option Addr) (c lo part : Nat) (row : List Int) (w : World) (hr : Row w lo 1 A row.length (ints row)) (hk : RowOk row) (h0 : 0 < row.length) (hp : part ≤ 1000) :
  Calls Tryz.prog 114 #[.slice A row.length c,.int .i64 part] w fun e w' => e = .returned (.int .i64 (levA row part)) ∧ Below w.heap.size w w':=by
 have hm:=hk.m
 obtain ⟨m,hm1⟩ : ∃ m,m + 1 = row.length:=⟨row.length - 1,by omega⟩
 have w1 : IntKind.i64.wrap ((row.length : Int) - 1) = (m : Int):=by rw [IntWalk.i64_in _ ⟨by omega,by omega⟩]; omega
 have hml : m * part ≤ 499 * 1000:=Nat.mul_le_mul (by omega) hp
 have HM:=Lib.hid (fun (i r : Nat) (h1 : i + 1 < row.length) (h2 : r < 1000) => lev_more hk h1 h2)
 have HB:=Lib.hid (fun (i : Nat) (h : i < row.length) => hk.at h)
 have em : row.length - 1 = m:=by omega
 have ec : (m : Int) * (part : Int) = ((m * part : Nat) : Int):=by simp
 have w2 : IntKind.i64.wrap ((m : Int) * (part : Int)) = ((m * part : Nat) : Int):=by rw [ec,IntWalk.i64_in _ ⟨by omega,by omega⟩]
 have HF:=Lib.hid (fun (x i r : Nat) (hx : m * part = x) (h1 : x / 1000 = i) (h2 : x % 1000 = r) => lev_facts (row:=row) (by rw [em]; exact hx) h1 h2 h0 hp)
 clear ec em
 obtain ⟨x,hx0⟩ : ∃ x,m * part = x:=⟨_,rfl⟩
 rw [hx0] at w2 hml
 have t1 : (x : Int).tdiv 1000 = ((x / 1000 : Nat) : Int):=by rw [tdiv_ediv (by omega)]; omega
 have t2 : (x : Int).tmod 1000 = ((x % 1000 : Nat) : Int):=by rw [Int.tmod_eq_emod_of_nonneg (by omega)]; omega
 have hr9 : x % 1000 < 1000:=Nat.mod_lt _ (by decide)
 generalize hr1 : x % 1000 = r at *
 generalize hi1 : x / 1000 = i at *
 obtain ⟨hi,hj0,hp0,he0⟩:=HF.out x i r hx0 hi1 hr1
 have HJ:=Lib.hid hj0
 have HE:=Lib.hid he0
 have HP:=Lib.hid hp0
 clear HF hj0 he0 hp0 hx0
 have wi : IntKind.i64.wrap (i : Int) = i:=IntWalk.i64_in _ ⟨by omega,by omega⟩
 have wr : IntKind.i64.wrap (r : Int) = r:=IntWalk.i64_in _ ⟨by omega,by omega⟩
 by_cases hz : r = 0
 ·obtain ⟨b,off,rfl,_,hbs,c0⟩:=hr.int_at hi
  have HL:=Lib.hid (HE.out hz)
  have d1 : decide ((0 : Int) < (r : Int)) = false:=decide_eq_false (by omega)
  have d1' : decide (0 < r) = false:=decide_eq_false (by omega)
  generalize row[i] = y at *
  clear HJ HE HP HM HB hz hk hr1 hi1
  go_enter Tryz.func114,Tryz.ntmps114
  go_wp2_with fail
  go_ret
  exact ⟨ret_int' HL.out.symm,Below.refl _ _⟩
 ·have hj:=HJ.out (by omega)
  obtain ⟨b,off,rfl,_,hbs,c0⟩:=hr.int_at hi
  obtain ⟨b',off',e',_,_,c1⟩:=hr.int_at hj
  obtain ⟨rfl,rfl⟩ : b = b' ∧ off = off':=by injection e' with e'; injection e' with h1 h2; exact ⟨h1,h2⟩
  have HL:=Lib.hid (HP.out hj)
  obtain ⟨m1,m2,m3,m4⟩:=HM.out i r hj hr9
  have b1:=HB.out i hi
  have b2:=HB.out (i + 1) hj
  have d1 : decide ((0 : Int) < (r : Int)) = true:=decide_eq_true (by omega)
  have d1' : decide (0 < r) = true:=decide_eq_true (by omega)
  have wj : IntKind.i64.wrap ((i : Int) + 1) = ((i + 1 : Nat) : Int):=by rw [IntWalk.i64_in _ ⟨by omega,by omega⟩]; omega
  generalize row[i + 1] = z at *
  generalize row[i] = y at *
  have w3 : IntKind.i64.wrap (z - y) = z - y:=IntWalk.i64_in _ ⟨by omega,by omega⟩
  have w4 : IntKind.i64.wrap ((z - y) * (r : Int)) = (z - y) * r:=IntWalk.i64_in _ ⟨by omega,by omega⟩
  have t3 : ((z - y) * (r : Int)).tdiv 1000 = (z - y) * r / 1000:=tdiv_ediv m1
  have w5 : IntKind.i64.wrap ((z - y) * (r : Int) / 1000) = (z - y) * r / 1000:=IntWalk.i64_in _ ⟨by omega,by omega⟩
  have w6 : IntKind.i64.wrap (y + (z - y) * (r : Int) / 1000) = y + (z - y) * r / 1000:=IntWalk.i64_in _ ⟨by omega,by omega⟩
  clear HJ HE HP HM HB hz hk hr1 hi1 e'
  go_enter Tryz.func114,Tryz.ntmps114
  go_wp2_with fail
  go_quiet (fail)
  go_wp2_with fail
  go_ret
  exact ⟨ret_int' HL.out.symm,(by repeat (first | exact Below.refl _ _ | refine Below.alloc ?_ (by first | omega | (simp; omega)) _ | refine below_drewN' ?_ _ | refine Below.drew ?_))⟩
set_option maxHeartbeats 1000000 in
theorem mean_any (A : Option Addr) (c lo : Nat) (row : List Int) (w : World) (hr : Row w lo 1 A row.length (ints row)) (hk : RowOk row) (h0 : 0 < row.length) :
  Calls Tryz.prog 112 #[.slice A row.length c] w fun e w' => e = .returned (.int .i64 (mnA row)) ∧ Below w.heap.size w w':=by
 have hm:=hk.m
 have HB:=Lib.hid (fun k hk1 => preS_bd (l:=row) (fun x hx => by have:=hk.bd x hx; omega) k hk1)
 have HN:=Lib.hid (fun k hk1 => preS_next (l:=row) (k:=k) hk1)
 have HZ:=Lib.hid (preS_all row)
 have HM : Hid (mnA row = row.sum / (row.length : Int)):=Lib.hid rfl
 have HO:=Lib.hid hk
 clear hk
 go_enter Tryz.func112,Tryz.ntmps112
 go_wp2_with fail
 go_loop [3,8] (fun v i => ∃ k : Nat,k ≤ row.length ∧ i = .int .i64 k ∧ v = .int .i64 (preS row k)) (fun _ i => row.length - (intOf i).toNat)
 case atStart => exact ⟨0,Nat.zero_le _,rfl,by rw [preS_zero]⟩
 case round =>
  obtain ⟨k,hk,rfl,rfl⟩:=hrel
  have bk:=HB.out k hk
  by_cases hlt : k < row.length
  ·obtain ⟨b,off,rfl,_,hbs,c0⟩:=hr.int_at hlt
   have HT:=Lib.hid (HN.out k hlt)
   have bx:=HO.out.at hlt
   generalize preS row k = s at *
   generalize row[k] = x at *
   have wx : IntKind.i64.wrap (s + x) = s + x:=IntWalk.i64_in _ ⟨by omega,by omega⟩
   go_wp2_with fail
   go_round
   case rel => exact ⟨k + 1,by omega,by go_num,by rw [HT.out]⟩
   case measure => simp [intOf]; omega
  ·have hkn : k = row.length:=by omega
   subst hkn
   have hz : ¬ (row.length : Int) = 0:=by omega
   rw [HZ.out] at bk ⊢
   have hq1 : 0 ≤ row.sum / (row.length : Int):=Int.ediv_nonneg bk.1 (by omega)
   have hq2 : row.sum / (row.length : Int) ≤ 864000000:=Int.ediv_le_of_le_mul (by omega) bk.2
   have HM2:=HM
   generalize row.sum = s at *
   have td : s.tdiv (row.length : Int) = s / (row.length : Int):=tdiv_ediv bk.1
   generalize s / (row.length : Int) = q at *
   have wq : IntKind.i64.wrap q = q:=IntWalk.i64_in _ ⟨by omega,by omega⟩
   clear bk
   go_wp2_with fail
   go_ret
   exact ⟨ret_int' HM.out.symm,Below.refl _ _⟩
set_option maxHeartbeats 1000000 in
theorem added_any (A : Option Addr) (c lo : Nat) (l : List Int) (w : World) (hr : Row w lo 1 A l.length (ints l)) (hm : l.length ≤ 60) (hb : ∀ x ∈ l,0 ≤ x ∧ x ≤ 864000000) :
  Calls Tryz.prog 110 #[.slice A l.length c] w fun e w' => ∃ A' c',e = .returned (.slice A' (addA l).length c') ∧ w'.ownsRow w.heap.size 3 1 (.slice A' (addA l).length c') (addA l).length (ints (addA l)) ∧ Below w.heap.size w w':=by
 have HB:=Lib.hid (fun k hk1 => preS_bd hb k hk1)
 have HN:=Lib.hid (fun k hk1 => preS_next (l:=l) (k:=k) hk1)
 have HX:=Lib.hid (fun (k : Nat) (h : k < l.length) => hb _ (List.getElem_mem h))
 have HA:=Lib.hid (addK_all l)
 clear hb
 go_enter Tryz.func110,Tryz.ntmps110
 go_wp2_with fail
 go_loopw [3,4,9] (fun v s i wr => ∃ (k : Nat) (A' : Option Addr) (c' : Nat),k ≤ l.length ∧ i = .int .i64 k ∧ s = .int .i64 (preS l k) ∧ v = .slice A' (addK l k).length c' ∧ wr.ownsRow w.heap.size 3 1 (.slice A' (addK l k).length c') (addK l k).length (ints (addK l k)) ∧ Below w.heap.size w wr) (fun _ _ i _ => l.length - (intOf i).toNat)
 case atStart => exact ⟨0,none,0,Nat.zero_le _,rfl,by rw [preS_zero],rfl,World.ownsRow_nil _ _ _ _,Below.refl _ _⟩
 case round =>
  obtain ⟨k,A',c',hk,rfl,rfl,rfl,hown,hbw⟩:=hrel
  have hz:=hbw.size
  by_cases hlt : k < l.length
  ·obtain ⟨b,off,rfl,_,hbs,c0⟩:=(hr.below hbw).int_at hlt
   have HT:=Lib.hid (HN.out k hlt)
   have bk:=HB.out k hk
   have bx:=HX.out k hlt
   have HS:=Lib.hid (addK_snoc l k)
   have hlk : (addK l k).length ≤ 60:=by rw [addK_len]; omega
   generalize addK l k = o at *
   generalize preS l k = s at *
   generalize l[k] = x at *
   have wx : IntKind.i64.wrap (s + x) = s + x:=IntWalk.i64_in _ ⟨by omega,by omega⟩
   have HF : Hid (addK l (k + 1) = o ++ [s + x]):=Lib.hid (by rw [HS.out,HT.out])
   clear HS
   go_wp2_with (at_builtin; go_must (refine wpList_app (lo:=w.heap.size) (base:=w.heap.size) (n:=o.length) (xs:=ints o) _ _ rfl _ _ ty_ints rfl (by repeat (first | exact hown | refine World.ownsRow.alloc ?_ _ | refine own_drewN ?_ _ | refine World.ownsRow.drew ?_)) rfl (by first | exact row_new' _ (by first | rfl | simp) (by first | omega | (simp; omega)) rfl | exact row_newN _ _ (by first | rfl | simp) (by first | omega | (simp; omega)) rfl | exact row_newD _ (by first | rfl | simp) (by first | omega | (simp; omega)) rfl) rfl rfl (by first | omega | decide) (by first | omega | decide) (by first | omega | (simp; omega)) ?_))
   intro A5 c5 w5 hown5 hg5 _
   go_wp2_with fail
   go_roundw
   case rel => exact ⟨k + 1,A5,c5,by omega,by go_num,by rw [HT.out],by rw [HF.out]; simp,by rw [HF.out,ints_app,List.length_append]; exact hown5,below_app hown (by repeat (first | exact hbw | refine Below.alloc ?_ (by first | omega | (simp; omega)) _ | refine below_drewN' ?_ _ | refine Below.drew ?_)) hg5 (Nat.le_refl _) (by simp; omega)⟩
   case measure => simp [intOf]; omega
  ·have hkn : k = l.length:=by omega
   subst hkn
   rw [HA.out] at hown ⊢
   go_wp2_with fail
   go_ret
   exact ⟨A',c',rfl,hown,hbw⟩
end Go.Proofs.YtapjahbflhingaaGreatDoor
