/- Texts of this seat, laid together: SgI MgP. -/
import Derived.Handy
import Derived.Test.YtapjahbflhingaaGreatDoorBu31
import Derived.Test.YtapjahbflhingaaGreatDoorBu21
/- The walk of Best at a right history; plain: the best and the sum of one attempt. -/
namespace Go.Proofs.YtapjahbflhingaaGreatDoor
set_option linter.unusedVariables false
set_option linter.unusedSimpArgs false
open Go.RowKit

def bT (n : Nat) (atts : List Att) : Int:=if bI n atts atts.length < 0 then 0 else lastT (atts.getD (bI n atts atts.length).toNat (0,[]))
def bN (n : Nat) (atts : List Att) : Int:=if bI n atts atts.length < 0 then 0 else (atts.getD (bI n atts atts.length).toNat (0,[])).1
theorem bT_none {n : Nat} {atts : List Att} (h : bI n atts atts.length = -1) : bT n atts = 0 ∧ bN n atts = 0 ∧ decide (0 ≤ bI n atts atts.length) = false:=by simp [bT,bN,h]
theorem bT_at {n : Nat} {atts : List Att} {j : Nat} (h : bI n atts atts.length = j) (hj : j < atts.length) (hn : atts[j].2.length = n) (h1 : n - 1 < n) : bT n atts = atts[j].2[n - 1]'(by omega) ∧ bN n atts = atts[j].1 ∧ decide (0 ≤ bI n atts atts.length) = true:=by
 have hneg : ¬ ((j : Int) < 0):=by omega
 have e : atts.getD j (0,[]) = atts[j]:=by rw [List.getD_eq_getElem?_getD,List.getElem?_eq_getElem hj]; rfl
 refine ⟨?_,?_,by rw [h]; simp⟩
 ·unfold bT; rw [h,if_neg hneg,Int.toNat_natCast,e]; unfold lastT; simp only [List.getD_eq_getElem?_getD]; simp only [hn]; rw [List.getElem?_eq_getElem (by omega)]; rfl
 ·unfold bN; rw [h,if_neg hneg,Int.toNat_natCast,e]
set_option maxHeartbeats 1000000 in
theorem Best_ok (SA TA : Option Addr) (c d lo : Nat) (segs : List (List UInt8)) (atts : List Att) (w : World) (hh : Hist w lo SA TA segs atts) (hc : segs.length ≤ c) (hok : HistOk segs atts) :
  Calls Tryz.prog 30 #[.agg #[.slice SA segs.length c,.slice TA atts.length d]] w fun e w' => e = .returned (.tuple #[.int .i64 (bT segs.length atts),.int .i64 (bN segs.length atts),.bool (decide (0 ≤ bI segs.length atts atts.length)),.int .i64 0]) ∧ Below w.heap.size w w':=by
 have HO:=Lib.hid hok
 have n1:=hok.n1
 have n2:=hok.n2
 have hm:=hok.m
 clear hok
 go_enter Tryz.func30,Tryz.ntmps30
 go_wp2_with fail
 have hb0 : Below w.heap.size w (w.alloc (.cells #[.slice SA segs.length c,.slice TA atts.length d] 29)):=(Below.refl _ _).alloc (Nat.le_refl _) _
 have hk0 : Blk (w.alloc (.cells #[.slice SA segs.length c,.slice TA atts.length d] 29)) w.heap.size 29 #[.slice SA segs.length c,.slice TA atts.length d]:=Blk.new _ _ _
 have hh0:=hh.alloc (.cells #[.slice SA segs.length c,.slice TA atts.length d] 29)
 generalize w.alloc (.cells #[.slice SA segs.length c,.slice TA atts.length d] 29) = w0 at *
 refine (checkHistory_ok _ _ _ _ _ segs atts _ hh0 hc HO.out).mono ?_
 rintro e w1 ⟨rfl,hb1⟩
 have hh1:=hh0.below hb1
 have hk1:=hk0.below hb1
 have hx1:=hb0.trans (hb1.mono hb0.size)
 clear hb1 hb0 hh0 hk0 hh
 go_wp2_with fail
 refine (best_ok _ _ _ _ _ _ segs atts _ hk1 hh1 n1 n2 (by omega)).mono ?_
 rintro e w2 ⟨rfl,hb2⟩
 have hh2:=hh1.below hb2
 have hk2:=hk1.below hb2
 have hx2:=hx1.trans (hb2.mono hx1.size)
 clear hb2 hx1 hh1 hk1
 rcases bI_inv segs.length atts atts.length (Nat.le_refl _) with h | ⟨j,hj,h,hjk,hn⟩
 ·obtain ⟨e1,e2,e3⟩:=bT_none h
  have E1:=Lib.hid e1
  have E2:=Lib.hid e2
  have E3:=Lib.hid e3
  rw [h]
  clear e1 e2 e3 h
  go_wp2_with fail
  go_returns
  exact ⟨by rw [E1.out,E2.out,E3.out],hx2⟩
 ·obtain ⟨e1,e2,e3⟩:=bT_at h hj hn (by omega)
  rw [h]
  obtain ⟨tb,tO,B,cc,rfl,ztb,t0,t1,hrB⟩:=hh2.att hj
  have c1 : w2.cell? ⟨w.heap.size,1,none⟩ = some (.slice (some ⟨tb,tO,none⟩) atts.length d):=by simpa using hk2.cell 1
  have zh:=hk2.lt
  obtain ⟨l,hl⟩ : ∃ l,segs.length - 1 = l:=⟨_,rfl⟩
  have hl1 : l < atts[j].2.length:=by omega
  obtain ⟨b1,o1,rfl,_,zb,x0⟩:=hrB.int_at hl1
  have ex : atts[j].2[segs.length - 1]'(by omega) = atts[j].2[l]:=by congr 1
  rw [ex] at e1
  have E1:=Lib.hid e1
  have E2:=Lib.hid e2
  have E3:=Lib.hid e3
  clear ex e1 e2 e3 h hrB
  generalize atts[j].2[l] = x at *
  rw [hn] at t1
  generalize atts[j].1 = no at *
  have q0 : ¬ ((j : Int) < 0):=by omega
  have wl : IntKind.i64.wrap ((segs.length : Int) - 1) = (l : Int):=by rw [IntWalk.i64_in _ ⟨by omega,by omega⟩]; omega
  have hln : l < segs.length:=by omega
  clear hn hl hl1 hh2
  go_wp2_with fail
  go_quiet (fail)
  go_wp2_with fail
  go_returns
  exact ⟨by rw [E1.out,E2.out,E3.out],below_drewN' (hx2.alloc (Nat.le_trans (Nat.le_refl _) hx2.size) _) _⟩

end Go.Proofs.YtapjahbflhingaaGreatDoor
/- Plain laws of merged histories, and of histories without a segment; no program in sight. -/
namespace Go.Proofs.YtapjahbflhingaaGreatDoor
set_option linter.unusedVariables false
set_option linter.unusedSimpArgs false
open Go.RowKit

def noIn (a : List Att) (no : Int) : Bool:=a.any (fun x => x.1 == no)
theorem noIn_yes {a : List Att} {no : Int} (h : ∃ j,∃ hj : j < a.length,a[j].1 = no) : noIn a no = true:=by
 obtain ⟨j,hj,e⟩:=h
 exact List.any_eq_true.2 ⟨a[j],List.getElem_mem _,by simpa using e⟩
theorem noIn_no {a : List Att} {no : Int} (h : ∀ j (hj : j < a.length),a[j].1 ≠ no) : noIn a no = false:=by
 rw [noIn,List.any_eq_false]
 intro x hx
 obtain ⟨j,hj,rfl⟩:=List.mem_iff_getElem.1 hx
 simpa using h j hj
def mgN (a b : List Att) : List Att:=b.filter (fun x => !noIn a x.1)
theorem mgN_new {a b : List Att} {i : Nat} (hi : i < b.length) (h : ∀ j (hj : j < a.length),a[j].1 ≠ b[i].1) : mgN a (b.take (i + 1)) = mgN a (b.take i) ++ [b[i]]:=by
 unfold mgN
 rw [List.take_succ_eq_append_getElem hi,List.filter_append]
 simp [noIn_no h]
theorem mgN_old {a b : List Att} {i : Nat} (hi : i < b.length) (h : ∃ j,∃ hj : j < a.length,a[j].1 = b[i].1) : mgN a (b.take (i + 1)) = mgN a (b.take i):=by
 unfold mgN
 rw [List.take_succ_eq_append_getElem hi,List.filter_append]
 simp [noIn_yes h]
theorem mgN_take_len (a b : List Att) (i : Nat) : (a ++ mgN a (b.take i)).length ≤ (a ++ mgN a b).length:=by
 rw [List.length_append,List.length_append]
 have : (mgN a (b.take i)).length ≤ (mgN a b).length:=by
  unfold mgN
  exact ((List.take_sublist i b).filter _).length_le
 omega
theorem up_lt {l : List Att} (h : ∀ i (h : i + 1 < l.length),l[i].1 < l[i + 1].1) : l.Pairwise (fun x y => x.1 < y.1):=by
 rw [List.pairwise_iff_getElem]
 intro i j hi hj hij
 induction j with
 | zero => omega
 | succ j ih =>
  have h1:=h j hj
  rcases Nat.lt_or_ge i j with h2 | h2
  ·have:=ih (by omega) h2; omega
  ·have : i = j:=by omega
   subst this; exact h1
theorem lt_inj {l : List Att} (h : l.Pairwise (fun x y => x.1 < y.1)) {x y : Att} (hx : x ∈ l) (hy : y ∈ l) (e : x.1 = y.1) : x = y:=by
 obtain ⟨i,hi,rfl⟩:=List.mem_iff_getElem.1 hx
 obtain ⟨j,hj,rfl⟩:=List.mem_iff_getElem.1 hy
 rw [List.pairwise_iff_getElem] at h
 rcases Nat.lt_trichotomy i j with h1 | h1 | h1
 ·have:=h i j hi hj h1; omega
 ·subst h1; rfl
 ·have:=h j i hj hi h1; omega
theorem sorted_one {l m : List Att} (hp : l.Perm m) (hl : l.Pairwise (fun x y => x.1 ≤ y.1)) (hm : m.Pairwise (fun x y => x.1 < y.1)) : l = m :=
 List.Perm.eq_of_pairwise (fun x y hx hy h1 h2 => lt_inj hm (hp.mem_iff.1 hx) hy (by omega)) hl (hm.imp (fun {x y} h => by omega)) hp
theorem lt_nodup {l : List Att} (h : l.Pairwise (fun x y => x.1 < y.1)) : l.Nodup:=h.imp (fun {x y} hxy e => by rw [e] at hxy; omega)
theorem parts_perm {l a b : List Att} (hl : l.Pairwise (fun x y => x.1 < y.1)) (ha : a.Sublist l) (hb : b.Sublist l) (hab : ∀ x ∈ l,x ∈ a ∨ x ∈ b) : (a ++ mgN a b).Perm l:=by
 have na:=ha.nodup (lt_nodup hl)
 have nb:=hb.nodup (lt_nodup hl)
 refine (List.perm_ext_iff_of_nodup ?_ (lt_nodup hl)).2 fun x => ?_
 ·rw [List.nodup_append]
  refine ⟨na,nb.filter _,fun x hx y hy e => ?_⟩
  subst e
  have h2:=(List.mem_filter.1 hy).2
  have h3 : noIn a x.1 = true:=List.any_eq_true.2 ⟨x,hx,by simp⟩
  rw [h3] at h2
  cases h2
 ·rw [List.mem_append]
  constructor
  ·rintro (h | h)
   ·exact ha.subset h
   ·exact hb.subset (List.mem_filter.1 h).1
  ·intro h
   rcases hab x h with h1 | h1
   ·exact .inl h1
   ·by_cases h2 : noIn a x.1 = true
    ·obtain ⟨y,hy,e⟩:=List.any_eq_true.1 h2
     have e' : y.1 = x.1:=by simpa using e
     have:=lt_inj hl (ha.subset hy) h e'
     subst this
     exact .inl hy
    ·exact .inr (List.mem_filter.2 ⟨h1,by simpa using h2⟩)
theorem merge_parts {l a b m : List Att} (hl : l.Pairwise (fun x y => x.1 < y.1)) (ha : a.Sublist l) (hb : b.Sublist l) (hab : ∀ x ∈ l,x ∈ a ∨ x ∈ b) (hp : m.Perm (a ++ mgN a b)) (hm : m.Pairwise (fun x y => x.1 ≤ y.1)) : m = l :=
 sorted_one (hp.trans (parts_perm hl ha hb hab)) hm hl
theorem parts_no {l a b : List Att} (hl : l.Pairwise (fun x y => x.1 < y.1)) (ha : a.Sublist l) (hb : b.Sublist l) : ∀ x ∈ b,∀ y ∈ a,y.1 = x.1 → y.2 = x.2:=fun x hx y hy e => by rw [lt_inj hl (ha.subset hy) (hb.subset hx) e]
def stripN (l : List Int) : Nat → Nat
 | 0 => 0
 | m + 1 => if l.getD m 0 = 0 then stripN l m else m + 1
theorem stripN_le (l : List Int) : ∀ m,stripN l m ≤ m
 | 0 => Nat.le_refl _
 | m + 1 => by
  unfold stripN
  split
  ·exact Nat.le_succ_of_le (stripN_le l m)
  ·exact Nat.le_refl _
theorem stripN_zero {l : List Int} {m : Nat} (hm : 0 < m) (h : l.getD (m - 1) 0 = 0) : stripN l m = stripN l (m - 1):=by
 obtain ⟨k,rfl⟩ : ∃ k,m = k + 1:=⟨m - 1,by omega⟩
 simp only [stripN,Nat.add_sub_cancel] at *
 rw [if_pos h]
theorem stripN_stop {l : List Int} {m : Nat} (hm : 0 < m) (h : l.getD (m - 1) 0 ≠ 0) : stripN l m = m:=by
 obtain ⟨k,rfl⟩ : ∃ k,m = k + 1:=⟨m - 1,by omega⟩
 simp only [stripN,Nat.add_sub_cancel] at *
 rw [if_neg h]
theorem stripN_last (l : List Int) : ∀ m,0 < stripN l m → l.getD (stripN l m - 1) 0 ≠ 0
 | 0,h => absurd h (Nat.lt_irrefl _)
 | m + 1,h => by
  unfold stripN at h ⊢
  by_cases e : l.getD m 0 = 0
  ·rw [if_pos e] at h ⊢; exact stripN_last l m h
  ·rw [if_neg e]; simpa using e
def strip (l : List Int) : List Int:=l.take (stripN l l.length)
theorem strip_len (l : List Int) : (strip l).length = stripN l l.length:=by
 have:=stripN_le l l.length
 simp [strip]; omega
def joinA (k : Nat) (x : Att) : Option Att:=if k < x.2.length then (if stripN (x.2.eraseIdx k) (x.2.eraseIdx k).length = 0 then none else some (x.1,strip (x.2.eraseIdx k))) else some x
def joinL (k : Nat) (l : List Att) : List Att:=l.filterMap (joinA k)
theorem joinL_none {k i : Nat} {l : List Att} (hi : i < l.length) (h : joinA k l[i] = none) : joinL k (l.take (i + 1)) = joinL k (l.take i):=by
 unfold joinL
 rw [List.take_succ_eq_append_getElem hi,List.filterMap_append]
 simp [h]
theorem joinL_some {k i : Nat} {l : List Att} (hi : i < l.length) {y : Att} (h : joinA k l[i] = some y) : joinL k (l.take (i + 1)) = joinL k (l.take i) ++ [y]:=by
 unfold joinL
 rw [List.take_succ_eq_append_getElem hi,List.filterMap_append]
 simp [h]
theorem joinL_len (k : Nat) (l : List Att) (i : Nat) : (joinL k (l.take i)).length ≤ l.length:=Nat.le_trans (List.length_filterMap_le _ _) (by simp; omega)
theorem sgl_sub {a b : List Int} (h : a.Sublist b) : ∀ {last last' : Int},last' ≤ last → sgl last b = 0 → sgl last' a = 0:=by
 induction h with
 | slnil => intro _ _ _ _; rfl
 | cons x _ ih =>
  intro last last' hl hb
  unfold sgl at hb
  split at hb
  ·cases hb
  ·split at hb
   ·cases hb
   ·exact ih (by omega) hb
 | cons_cons x _ ih =>
  intro last last' hl hb
  unfold sgl at hb ⊢
  split at hb
  ·cases hb
  ·rename_i h1
   rw [if_neg h1]
   split at hb
   ·cases hb
   ·rename_i h2
    rw [if_neg (fun h3 => h2 ⟨h3.1,by omega⟩)]
    exact ih (by omega) hb
theorem spl_sgl {n : Nat} {l : List Int} (h : SplOk n l) : sgl 0 l = 0:=by
 have h1:=splF_zero h
 unfold splF at h1
 split at h1
 ·cases h1
 ·split at h1
  ·exact absurd h1 ‹_›
  ·rename_i h2
   exact Decidable.not_not.1 h2
theorem spl_of {n : Nat} {l : List Int} (h1 : l.length ≤ n) (h2 : sgl 0 l = 0) (h3 : l.getLast? ≠ some 0) : SplOk n l:=by
 refine splF_ok ?_
 unfold splF
 rw [if_neg (by omega),if_neg (by simpa using h2),if_neg h3]
theorem strip_last (l : List Int) : (strip l).getLast? ≠ some 0:=by
 rw [List.getLast?_eq_getElem?,strip_len]
 intro h
 by_cases h0 : stripN l l.length = 0
 ·have : strip l = []:=List.eq_nil_of_length_eq_zero (by rw [strip_len]; exact h0)
  rw [this] at h; simp at h
 ·have h1:=stripN_last l l.length (by omega)
  have h2:=stripN_le l l.length
  unfold strip at h
  rw [List.getElem?_take_of_lt (by omega)] at h
  exact h1 (by rw [List.getD_eq_getElem?_getD,h]; rfl)
theorem spl_join {n k : Nat} {l : List Int} (h : SplOk n l) (hk : k < l.length) : SplOk (n - 1) (strip (l.eraseIdx k)):=by
 refine spl_of ?_ ?_ (strip_last _)
 ·have h1:=stripN_le (l.eraseIdx k) (l.eraseIdx k).length
  have h2:=h.len
  rw [strip_len]
  rw [List.length_eraseIdx,if_pos hk] at h1 ⊢
  omega
 ·exact sgl_sub ((List.take_sublist _ _).trans (List.eraseIdx_sublist l k)) (Int.le_refl 0) (spl_sgl h)
theorem spl_keep {n k : Nat} {l : List Int} (h : SplOk n l) (hk : ¬ k < l.length) (hn : k + 1 < n) : SplOk (n - 1) l:=⟨by omega,h.bd,h.up,h.fin⟩
theorem joinA_ok {n k : Nat} {x y : Att} (hn : k + 1 < n) (h : SplOk n x.2) (hy : joinA k x = some y) : y.1 = x.1 ∧ SplOk (n - 1) y.2:=by
 unfold joinA at hy
 split at hy
 ·split at hy
  ·cases hy
  ·injection hy with hy; subst hy; exact ⟨rfl,spl_join h ‹_›⟩
 ·injection hy with hy; subst hy; exact ⟨rfl,spl_keep h ‹_› hn⟩
theorem new_nodup {ss : List (List UInt8)} (h : ∀ i (h : i < ss.length),ss[i] ∉ ss.take i) : ss.Nodup:=by
 rw [List.Nodup,List.pairwise_iff_getElem]
 intro i j hi hj hij e
 exact h j hj (by rw [← e,List.mem_take_iff_getElem]; exact ⟨i,by omega,rfl⟩)
theorem nodup_new {ss : List (List UInt8)} (h : ss.Nodup) : ∀ i (h : i < ss.length),ss[i] ∉ ss.take i:=by
 intro j hj hm
 obtain ⟨i,hi,e⟩:=List.mem_take_iff_getElem.1 hm
 rw [List.Nodup,List.pairwise_iff_getElem] at h
 exact h i j (by omega) hj (by omega) e
theorem ok_join {segs : List (List UInt8)} {l : List Att} {k : Nat} (h : HistOk segs l) (hk : k + 1 < segs.length) : HistOk (segs.eraseIdx k) (joinL k l):=by
 have e : (segs.eraseIdx k).length = segs.length - 1:=by rw [List.length_eraseIdx,if_pos (by omega)]
 have n2:=h.n2
 have hmem : ∀ y ∈ joinL k l,∃ x ∈ l,joinA k x = some y:=fun y hy => List.mem_filterMap.1 hy
 have hup:=up_lt h.up
 have hup2 : (joinL k l).Pairwise (fun x y => x.1 < y.1):=by
  unfold joinL
  rw [List.pairwise_filterMap]
  refine (List.pairwise_iff_forall_sublist.2 fun {a b} hab => ?_)
  intro y hy z hz
  have hs : ∀ x ∈ l,SplOk segs.length x.2:=fun x hx => by
   obtain ⟨i,hi,rfl⟩:=List.mem_iff_getElem.1 hx
   exact h.spl i hi
  have h1:=(joinA_ok hk (hs a (hab.subset (by simp))) hy).1
  have h2:=(joinA_ok hk (hs b (hab.subset (by simp))) hz).1
  have h3:=List.pairwise_iff_forall_sublist.1 hup hab
  omega
 refine ⟨by omega,by omega,fun i hi => ?_,nodup_new ((new_nodup h.new).eraseIdx k),Nat.le_trans (List.length_filterMap_le _ _) h.m,fun i hi => ?_,fun i hi => ?_,fun i hi => ?_⟩
 ·obtain ⟨j,hj,ej⟩:=List.mem_iff_getElem.1 ((List.eraseIdx_sublist segs k).subset (List.getElem_mem hi))
  have:=h.key j hj
  rw [ej] at this; exact this
 ·obtain ⟨x,hx,hy⟩:=hmem _ (List.getElem_mem hi)
  obtain ⟨j,hj,rfl⟩:=List.mem_iff_getElem.1 hx
  rw [(joinA_ok hk (h.spl j hj) hy).1]
  exact h.no j hj
 ·exact (List.pairwise_iff_getElem.1 hup2) i (i + 1) (by omega) hi (by omega)
 ·obtain ⟨x,hx,hy⟩:=hmem _ (List.getElem_mem hi)
  obtain ⟨j,hj,rfl⟩:=List.mem_iff_getElem.1 hx
  rw [e]
  exact (joinA_ok hk (h.spl j hj) hy).2
end Go.Proofs.YtapjahbflhingaaGreatDoor
