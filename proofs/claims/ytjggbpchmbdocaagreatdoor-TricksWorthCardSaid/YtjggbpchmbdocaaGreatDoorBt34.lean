/- Texts of this seat, laid together: HpJ HpH. -/
import Derived.Test.YtjggbpchmbdocaaGreatDoorBt32
import Derived.Test.YtjggbpchmbdocaaGreatDoorBt33
import Derived.Test.YtjggbpchmbdocaaGreatDoorBt30
/- The task's closures at any state: see at an empty list of rooms, atGoal; pass as a function. -/
set_option linter.unusedVariables false
set_option linter.unusedSimpArgs false
namespace Go.Proofs.YtjggbpchmbdocaaGreatDoor
open Go.RowKit

set_option maxHeartbeats 2000000 in
theorem see_none (t : Nat) (x : StE) (w : World) (h0 : w.cell? ⟨t,3,none⟩ = some (.slice none 0 0)) : Calls Tryz.prog 125 #[.pointer (some ⟨t,0,none⟩),stV x] w fun e w' => e = .returned (stV x) ∧ Below w.heap.size w w':=by
 have zt : t < w.heap.size:=World.block_lt_of_cell? w _ h0;have hB : Blk (w.alloc (.cells #[.int .i64 (x.r : Int),.int .i64 (x.b : Int),.int .i64 (x.s : Int)] 101)) w.heap.size 101 #[.int .i64 (x.r : Int),.int .i64 (x.b : Int),.int .i64 (x.s : Int)]:=Blk.new _ _ _
 have hS : (fun w' : World => w'.cell? ⟨t,3,none⟩ = some (.slice none 0 0) ∧ w'.cell? ⟨w.heap.size,2,none⟩ = some (.int .i64 (x.s : Int))) (((w.alloc (.cells #[.int .i64 (x.r : Int),.int .i64 (x.b : Int),.int .i64 (x.s : Int)] 101)).alloc (.cells #[.int .i64 0,.int .i64 0,.int .i64 0] 101)).drew):=⟨by simp [go_sem,h0,zt,Nat.ne_of_lt zt,Nat.ne_of_lt (Nat.lt_succ_of_lt zt)],((hB.alloc _).drew).w3.2.2⟩
 have hd : decide ((x.s : Int) < 0) = false:=decide_eq_false (by omega);unfold stV
 go_enter Tryz.func125,Tryz.ntmps125
 go_wp2_with fail;refine wp_loop_rounds 1 ?_;rw [rounds_succ];go_upto_region 1 with (fail);refine wp_region_held_drew (S:=(fun w' => w'.cell? ⟨t,3,none⟩ = some (.slice none 0 0) ∧ w'.cell? ⟨w.heap.size,2,none⟩ = some (.int .i64 (x.s : Int)))) (by kernel_rfl) (hS) (fun hHeld => ?_);(refine QU 0 ?_; (try simp only [Act.put,Q3,Q4,Q5]));(refine QU 1 ?_; (try simp only [Act.put,Q3,Q4,Q5]));(refine QU 2 ?_; (try simp only [Act.put,Q3,Q4,Q5]));(refine QU 3 ?_; (try simp only [Act.put,Q3,Q4,Q5]));(refine QU 4 ?_; (try simp only [Act.put,Q3,Q4,Q5]));(refine QU 5 ?_; (try simp only [Act.put,Q3,Q4,Q5]));refine QR 6 fun K hK => ?_;go_simp;refine hK.out _ _ (hS) (fun hHeld => ?_);clear hK K;(try simp only [Act.put,Q3,Q4,Q5]);(refine QU 7 ?_; (try simp only [Act.put,Q3,Q4,Q5]));(refine QU 8 ?_; (try simp only [Act.put,Q3,Q4,Q5]));(refine wpAnyH_take (i:=9) (v:=undef) (by (simp only [Q0,Q1,Q2]; rfl)) (by kernel_rfl) (by kernel_rfl) (by kernel_rfl) (by exact fun _ _ _ h => h) (Or.inr ⟨by rfl,rfl⟩) (by assumption) ?_; (try simp only [Act.put,Q3,Q4,Q5]));(refine wpAnyH_take (i:=10) (v:=undef) (by (simp only [Q0,Q1,Q2]; rfl)) (by kernel_rfl) (by kernel_rfl) (by kernel_rfl) (by exact fun _ _ _ h => h) (Or.inr ⟨by rfl,rfl⟩) (by assumption) ?_; (try simp only [Act.put,Q3,Q4,Q5]));(refine wpAnyH_take (i:=11) (v:=undef) (by (simp only [Q0,Q1,Q2]; rfl)) (by kernel_rfl) (by kernel_rfl) (by kernel_rfl) (by exact fun _ _ _ h => h) (Or.inr ⟨by rfl,rfl⟩) (by assumption) ?_; (try simp only [Act.put,Q3,Q4,Q5]));(refine wpAnyH_take (i:=12) (v:=undef) (by (simp only [Q0,Q1,Q2]; rfl)) (by kernel_rfl) (by kernel_rfl) (by kernel_rfl) (by exact fun _ _ _ h => h) (Or.inr ⟨by rfl,rfl⟩) (by assumption) ?_; (try simp only [Act.put,Q3,Q4,Q5]));(refine wpAnyH_take (i:=13) (v:=undef) (by (simp only [Q0,Q1,Q2]; rfl)) (by kernel_rfl) (by kernel_rfl) (by kernel_rfl) (by exact fun _ _ _ h => h) (Or.inr ⟨by rfl,rfl⟩) (by assumption) ?_; (try simp only [Act.put,Q3,Q4,Q5]));(refine wpAnyH_take (i:=14) (v:=undef) (by (simp only [Q0,Q1,Q2]; rfl)) (by kernel_rfl) (by kernel_rfl) (by kernel_rfl) (by exact fun _ _ _ h => h) (Or.inr ⟨by rfl,rfl⟩) (by assumption) ?_; (try simp only [Act.put,Q3,Q4,Q5]));(refine wpAnyH_take (i:=15) (v:=undef) (by (simp only [Q0,Q1,Q2]; rfl)) (by kernel_rfl) (by kernel_rfl) (by kernel_rfl) (by exact fun _ _ _ h => h) (Or.inr ⟨by rfl,rfl⟩) (by assumption) ?_; (try simp only [Act.put,Q3,Q4,Q5]));(refine wpAnyH_take (i:=16) (v:=undef) (by (simp only [Q0,Q1,Q2]; rfl)) (by kernel_rfl) (by kernel_rfl) (by kernel_rfl) (by exact fun _ _ _ h => h) (Or.inr ⟨by rfl,rfl⟩) (by assumption) ?_; (try simp only [Act.put,Q3,Q4,Q5]));(refine wpAnyH_take (i:=17) (v:=undef) (by (simp only [Q0,Q1,Q2]; rfl)) (by kernel_rfl) (by kernel_rfl) (by kernel_rfl) (by exact fun _ _ _ h => h) (Or.inr ⟨by rfl,rfl⟩) (by assumption) ?_; (try simp only [Act.put,Q3,Q4,Q5]));(refine wpAnyH_take (i:=18) (v:=undef) (by (simp only [Q0,Q1,Q2]; rfl)) (by kernel_rfl) (by kernel_rfl) (by kernel_rfl) (by exact fun _ _ _ h => h) (Or.inr ⟨by rfl,rfl⟩) (by assumption) ?_; (try simp only [Act.put,Q3,Q4,Q5]));(refine wpAnyH_take (i:=19) (v:=undef) (by (simp only [Q0,Q1,Q2]; rfl)) (by kernel_rfl) (by kernel_rfl) (by kernel_rfl) (by exact fun _ _ _ h => h) (Or.inr ⟨by rfl,rfl⟩) (by assumption) ?_; (try simp only [Act.put,Q3,Q4,Q5]));(refine QU 20 ?_; (try simp only [Act.put,Q3,Q4,Q5]));refine wpAnyH_done (by kernel_rfl) ?_ _;go_wp2_with fail;refine bodyPost_ret (v:=.agg #[.int .i64 (x.r : Int),.int .i64 (x.b : Int),.int .i64 (x.s : Int)]) (by simp [results,Tryz.results125,go_sem]) rfl ?_;exact ⟨rfl,(by repeat (first | exact Below.refl _ _ | refine Below.alloc ?_ (by first | omega | (simp; omega) | simp) _ | refine below_drewN' ?_ _ | refine Below.drew ?_))⟩
set_option maxHeartbeats 2000000 in
theorem atGoal_any (p : Nat) (gl : Int) (x : StE) (w : World) (h : w.cell? ⟨p,6,none⟩ = some (.int .i64 gl)) : Calls Tryz.prog 59 #[.pointer (some ⟨p,0,none⟩),stV x] w fun e w' => e = .returned (.bool (decide ((x.r : Int) = gl))) ∧ Below w.heap.size w w':=by
 have hA : (w.alloc (.cells #[.int .i64 (x.r : Int),.int .i64 (x.b : Int),.int .i64 (x.s : Int)] 101)).drew.cell? ⟨p,6,none⟩ = some (.int .i64 gl):=cell_al h _;have hB : Blk (w.alloc (.cells #[.int .i64 (x.r : Int),.int .i64 (x.b : Int),.int .i64 (x.s : Int)] 101)).drew w.heap.size 101 #[.int .i64 (x.r : Int),.int .i64 (x.b : Int),.int .i64 (x.s : Int)]:=(Blk.new _ _ _).drew;have he : ((x.r : Int) == gl) = decide ((x.r : Int) = gl):=rfl;unfold stV
 go_enter Tryz.func59,Tryz.ntmps59
 go_upto_region 1 with (fail);refine wp_region_held_drew (S:=(fun w' => w'.cell? ⟨p,6,none⟩ = some (.int .i64 gl) ∧ w'.cell? ⟨w.heap.size,0,none⟩ = some (.int .i64 (x.r : Int)))) (by kernel_rfl) (⟨hA,hB.w3.1⟩) (fun hHeld => ?_);(refine QU 0 ?_; (try simp only [Act.put,Q3,Q4,Q5]));(refine QU 1 ?_; (try simp only [Act.put,Q3,Q4,Q5]));(refine QU 2 ?_; (try simp only [Act.put,Q3,Q4,Q5]));(refine QU 3 ?_; (try simp only [Act.put,Q3,Q4,Q5]));(refine QU 4 ?_; (try simp only [Act.put,Q3,Q4,Q5]));(refine QU 5 ?_; (try simp only [Act.put,Q3,Q4,Q5]));(refine QU 6 ?_; (try simp only [Act.put,Q3,Q4,Q5]));(refine QU 7 ?_; (try simp only [Act.put,Q3,Q4,Q5]));refine wpAnyH_done (by kernel_rfl) ?_ _;go_wp2_with fail;go_ret;exact ⟨rfl,(by repeat (first | exact Below.refl _ _ | refine Below.alloc ?_ (by first | omega | (simp; omega) | simp) _ | refine below_drewN' ?_ _ | refine Below.drew ?_))⟩
def passX (rs : List RoomE) (T : List (List UInt8)) (x : StE) (d : DoorE) : Option StE :=
 if bits .andNot .i64 (bitsT T d.needs : Int) (x.b : Int) = 0 then some ⟨ixR rs d.dst,(bits .or .i64 (bits .andNot .i64 (x.b : Int) (bitsT T d.takes : Int)) (bitsT T (givesOf rs d.dst) : Int)).toNat,x.s⟩ else none
def GoodX (rs : List RoomE) (T : List (List UInt8)) (x : StE) : Prop:=(∃ key ∈ rs.map RoomE.key,x.r = ixR rs key) ∧ (∃ th,ThOk T th ∧ x.b = bitsT T th) ∧ x.s ≤ 5
theorem GoodX.ok {rs : List RoomE} {T : List (List UInt8)} {x : StE} (h : GoodX rs T x) (hT : T.length ≤ 10) (hr : rs.length ≤ 100) : x.r < 100 ∧ x.b < 1024 ∧ x.s < 6:=by
 obtain ⟨⟨key,hk,e1⟩,⟨th,_,e2⟩,e3⟩:=h;have h1:=ixR_lt hk;have h2:=bitsT_lt hT th;omega
theorem passX_th {rs : List RoomE} {ds : List DoorE} {T th : List (List UInt8)} {x : StE} {d : DoorE} (hT : T.length ≤ 10) (hsub : ∀ y ∈ d.needs,y ∈ T) (hb : x.b = bitsT T th) : passX rs T x d = if ∀ s ∈ d.needs,s ∈ th then some ⟨ixR rs d.dst,bitsT T (thru rs th d),x.s⟩ else none:=by
 unfold passX;rw [hb]
 by_cases h : ∀ s ∈ d.needs,s ∈ th
 ·rw [if_pos h,if_pos ((bits_needs hT hsub).2 h),bits_thru hT,Int.toNat_natCast]
 ·rw [if_neg h,if_neg (fun e => h ((bits_needs hT hsub).1 e))]
theorem passX_good {rs : List RoomE} {ds : List DoorE} {T : List (List UInt8)} {x y : StE} {d : DoorE} (hTd : onceT (allT rs ds) = T) (hT : T.length ≤ 10) (hsub : ∀ y ∈ d.needs,y ∈ T) (hdst : d.dst ∈ rs.map RoomE.key) (hg : GoodX rs T x) (h : passX rs T x d = some y) : GoodX rs T y:=by
 obtain ⟨h1,⟨th,h2,e2⟩,h3⟩:=hg;rw [passX_th (ds:=ds) hT hsub e2] at h
 split at h
 ·injection h with h
  subst h;refine ⟨⟨d.dst,hdst,rfl⟩,⟨thru rs th d,?_,rfl⟩,h3⟩;rw [← hTd] at h2 ⊢;exact thru_ok d h2
 ·cases h
end Go.Proofs.YtjggbpchmbdocaaGreatDoor
/- The walk of explore at any map. -/
namespace Go.Proofs.YtjggbpchmbdocaaGreatDoor
open Go.RowKit Go.Sort Go.Maps

set_option maxHeartbeats 2000000 in
theorem pass_any {W : World} {lo mp : Nat} {q : WorP} {T : List (List UInt8)} {rs : List RoomE} {ds : List DoorE} {tr : List (List UInt8)} {wo st gl : List UInt8} (h : WorW W lo mp q T rs ds tr wo st gl) (hR : Right rs ds st gl) (hT : T.length ≤ 10) (hTd : onceT (allT rs ds) = T) {d : DoorE} (hd : d ∈ ds) (x : StE) (hg : GoodX rs T x) :
  Calls Tryz.prog 126 #[.pointer (some ⟨q.p,0,none⟩),stV x,.agg #[.int .i64 (ixR rs d.src : Int),.int .i64 (ixR rs d.dst : Int),.int .i64 d.time,.int .i64 (bitsT T d.needs : Int),.int .i64 (bitsT T d.takes : Int)]] W fun e w' => e = .returned (.tuple #[stV ((passX rs T x d).getD x),.bool (passX rs T x d).isSome]) ∧ Below W.heap.size W w':=by
 obtain ⟨th,_,hb⟩:=hg.2.1;have hdst:=hR.dst d hd
 by_cases hz : bits .andNot .i64 (bitsT T d.needs : Int) (x.b : Int) = 0
 ·have hp : passX rs T x d = some ⟨ixR rs d.dst,(bits .or .i64 (bits .andNot .i64 (x.b : Int) (bitsT T d.takes : Int)) (bitsT T (givesOf rs d.dst) : Int)).toNat,x.s⟩:=if_pos hz
  obtain ⟨b,off,e,_,hc⟩:=h.giveI hR.rup hdst;have h2:=h.cells.2.2.1;rw [e] at h2;have hn:=hR.rl;refine (pass_yes q.p b off q.gc rs.length (ixR rs d.dst) (x.r : Int) (x.b : Int) (x.s : Int) (ixR rs d.src : Int) d.time (bitsT T d.needs : Int) (bitsT T d.takes : Int) _ W h2 hc (ixR_lt hdst) (by omega) (by rw [hz]; rfl)).mono ?_;rintro e w' ⟨rfl,hbw⟩;refine ⟨?_,hbw⟩
  have hnn : ((bits .or .i64 (bits .andNot .i64 (x.b : Int) (bitsT T d.takes : Int)) (bitsT T (givesOf rs d.dst) : Int)).toNat : Int) = bits .or .i64 (bits .andNot .i64 (x.b : Int) (bitsT T d.takes : Int)) (bitsT T (givesOf rs d.dst) : Int):=by
   rw [hb,bits_thru hT,Int.toNat_natCast]
  rw [hp];simp only [Option.getD_some,Option.isSome_some,stV,hnn]
 ·have hp : passX rs T x d = none:=if_neg hz
  refine (pass_no q.p (x.r : Int) (x.b : Int) (x.s : Int) (ixR rs d.src : Int) (ixR rs d.dst : Int) d.time (bitsT T d.needs : Int) (bitsT T d.takes : Int) W (by simpa using hz)).mono ?_;rintro e w' ⟨rfl,hbw⟩;rw [hp];exact ⟨rfl,hbw⟩
def SeeOk (w0 : World) (t : Nat) (TC : Array Value) (sf : StE → StE) : Prop :=
 ∀ (W : World) (x : StE),Below w0.heap.size w0 W → Blk W t 104 TC → OkT x → Calls Tryz.prog 125 #[.pointer (some ⟨t,0,none⟩),stV x] W fun e w' => e = .returned (stV (sf x)) ∧ Below W.heap.size W w'
def nxX (rs : List RoomE) (T : List (List UInt8)) (ds : List DoorE) (tr : List (List UInt8)) (wo : List UInt8) (sf : StE → StE) (x : StE) : List (Nat × StE) :=
 (outN rs ds tr wo x.r).filterMap fun k => (passX rs T x (ds.getD k.toNat default)).map fun y => (k.toNat,sf y)
theorem outN_mem {rs : List RoomE} {ds : List DoorE} {tr : List (List UInt8)} {wo : List UInt8} {r : Nat} {k : Int} (h : k ∈ outN rs ds tr wo r) : ∃ j : Nat,k = (j : Int) ∧ j < ds.length ∧ roomI rs (ds.getD j default).src = (r : Int) ∧ okD tr wo (ds.getD j default) = true:=by
 unfold outN at h;obtain ⟨j,hj,e⟩:=List.mem_map.1 h;obtain ⟨h1,h2⟩:=List.mem_filter.1 hj;simp only [Bool.and_eq_true,beq_iff_eq] at h2;exact ⟨j,e.symm,List.mem_range.1 h1,h2.1,h2.2⟩
theorem outN_len (rs : List RoomE) (ds : List DoorE) (tr : List (List UInt8)) (wo : List UInt8) (r : Nat) : (outN rs ds tr wo r).length ≤ ds.length:=by
 unfold outN;rw [List.length_map];exact Nat.le_trans (List.length_filter_le _ _) (by simp)
section
variable {rs : List RoomE} {T : List (List UInt8)} {ds : List DoorE} {tr : List (List UInt8)} {wo : List UInt8} {sf : StE → StE} {ef : StE → Bool} {s0 : StE} {sts : List StE} {stp : List (List (Nat × Nat))} {bs : List Bool} {gd : StE → Prop}
theorem nxX_len (x : StE) : (nxX rs T ds tr wo sf x).length ≤ ds.length:=by
 unfold nxX;exact Nat.le_trans (List.length_filterMap_le _ _) (outN_len ..)
theorem nxX_mem {x : StE} {p : Nat × StE} (h : p ∈ nxX rs T ds tr wo sf x) : p.1 < ds.length ∧ ∃ y,passX rs T x (ds.getD p.1 default) = some y ∧ p.2 = sf y ∧ roomI rs (ds.getD p.1 default).src = (x.r : Int) ∧ okD tr wo (ds.getD p.1 default) = true:=by
 unfold nxX at h;obtain ⟨k,hk,h2⟩:=List.mem_filterMap.1 h;obtain ⟨j,rfl,h3,h4,h5⟩:=outN_mem hk;rw [Int.toNat_natCast] at h2;obtain ⟨y,hy,e⟩:=Option.map_eq_some_iff.1 h2;subst e;exact ⟨h3,y,hy,rfl,h4,h5⟩
theorem ExOk.graph (h : ExOk (nxX rs T ds tr wo sf) ef gd s0 sts stp) (hdl : ds.length ≤ 500) : (∀ l ∈ stp,l.length ≤ 500) ∧ (∀ i k j,(k,j) ∈ stp.getD i [] → j < sts.length ∧ k < ds.length) ∧ ∀ i : Nat,(sts.map ef)[i]? = some true → stp.getD i [] = []:=by
 have key : ∀ i : Nat,i < sts.length → ∃ x,sts[i]? = some x ∧ stp[i]? = some (if ef x then [] else numS sts (nxX rs T ds tr wo sf x)):=fun i hi => ⟨sts[i],List.getElem?_eq_getElem hi,h.steps i _ (List.getElem?_eq_getElem hi)⟩
 refine ⟨fun l hl => ?_,fun i k j hk => ?_,fun i hi => ?_⟩
 ·obtain ⟨i,hi,rfl⟩:=List.mem_iff_getElem.1 hl
  obtain ⟨x,_,h2⟩:=key i (by rw [← h.len]; exact hi);rw [List.getElem?_eq_getElem hi] at h2;rw [Option.some.inj h2]
  split
  ·simp
  ·unfold numS; rw [List.length_map]; exact Nat.le_trans (nxX_len x) hdl
 ·rw [List.getD_eq_getElem?_getD] at hk
  by_cases hi : i < sts.length
  ·obtain ⟨x,h1,h2⟩:=key i hi
   rw [h2] at hk
   by_cases he : ef x = true
   ·rw [if_pos he] at hk; cases hk
   ·rw [if_neg he] at hk
    obtain ⟨p,hp,e⟩:=List.mem_map.1 hk;injection e with e1 e2;subst e1 e2;exact ⟨List.idxOf_lt_length_of_mem (h.closed x (List.mem_of_getElem? h1) (by simpa using he) p hp),(nxX_mem hp).1⟩
  ·rw [List.getElem?_eq_none (by rw [h.len]; omega)] at hk; cases hk
 ·rw [List.getElem?_map] at hi
  obtain ⟨x,h1,h2⟩:=Option.map_eq_some_iff.1 hi;rw [List.getD_eq_getElem?_getD,h.steps i x h1,if_pos h2]; rfl
end
section
variable {W W' : World} {lo : Nat} {eds : List Value} {stp : List (List (Nat × Nat))}
theorem StpW.push (h : StpW W lo eds stp) {i : Nat} {R xs : List (Nat × Nat)} (hR : stp[i]? = some R) {A A' : Option Addr} {c c' : Nat} (he : eds[i]? = some (.slice A R.length c)) (hg : W.grownBy W' (Value.slice A R.length c).ownBlock)
  (ho : W'.ownsRow lo 164 2 (.slice A' xs.length c') xs.length (xs.flatMap encG)) (hb : (Value.slice A' xs.length c').ownBlock = (Value.slice A R.length c).ownBlock ∨ (Value.slice A' xs.length c').ownBlock = some W.heap.size) : StpW W' lo (eds.set i (.slice A' xs.length c')) (stp.set i xs):=by
 obtain ⟨hi,rfl⟩:=List.getElem?_eq_some_iff.1 hR;have hl:=h.len
 have hie : i < eds.length:=by omega
 have hget : ∀ j : Nat,(eds.set i (Value.slice A' xs.length c'))[j]? = if j = i then some (.slice A' xs.length c') else eds[j]?:=fun j => by
  by_cases e : j = i
  ·subst e; rw [if_pos rfl,List.getElem?_set_self hie]
  ·rw [if_neg e,List.getElem?_set_ne (Ne.symm e)]
 have hfar : ∀ (j : Nat) (v : Value) (b : Nat),j ≠ i → eds[j]? = some v → v.ownBlock = some b → (Value.slice A' xs.length c').ownBlock ≠ some b:=fun j v b hji hv hvb hx => by
  rcases hb with hb | hb
  ·rw [hb] at hx
   exact h.far j i v _ b hji hv he hvb hx
  ·rw [hb] at hx
   injection hx with hx
   have hj : j < stp.length:=by have:=(List.getElem?_eq_some_iff.1 hv).1; omega
   obtain ⟨A2,c2,a2,b2⟩:=h.row j hj;rw [hv] at a2;injection a2 with a2;subst a2;have:=(b2.lt b hvb).2;omega
 refine ⟨by simp [hl],fun j hj => ?_,fun j1 j2 u v b hne hu hv hub => ?_⟩
 ·have hj' : j < stp.length:=by simpa using hj
  rw [hget]
  by_cases e : j = i
  ·subst e
   refine ⟨A',c',?_,?_⟩
   ·rw [if_pos rfl]; simp
   ·simpa using ho
  ·obtain ⟨A2,c2,a2,b2⟩:=h.row j hj'
   have e3 : (stp.set i xs)[j]'hj = stp[j]:=by rw [List.getElem_set_ne (Ne.symm e)]
   rw [if_neg e,e3];refine ⟨A2,c2,a2,b2.kept hg ?_⟩
   cases hv : (Value.slice A2 stp[j].length c2).ownBlock with
   | none => exact .inl rfl
   | some b =>
    right
    intro he2;exact h.far j i _ _ b e a2 he hv he2.symm
 ·rw [hget] at hu hv
  by_cases e1 : j1 = i
  ·subst e1
   rw [if_pos rfl] at hu;injection hu with hu;subst hu;rw [if_neg (Ne.symm hne)] at hv
   exact fun hvb => hfar j2 v b (Ne.symm hne) hv hvb hub
  ·rw [if_neg e1] at hu
   by_cases e2 : j2 = i
   ·subst e2
    rw [if_pos rfl] at hv;injection hv with hv;subst hv;exact hfar j1 u b e1 hu hub
   ·rw [if_neg e2] at hv
    exact h.far j1 j2 u v b hne hu hv hub
theorem StpW.rowQ (h : StpW W lo eds stp) {i : Nat} {R : List (Nat × Nat)} (hR : stp[i]? = some R) : ∃ A c,eds[i]? = some (.slice A R.length c) ∧ W.ownsRow lo 164 2 (.slice A R.length c) R.length (R.flatMap encG):=by
 obtain ⟨hi,rfl⟩:=List.getElem?_eq_some_iff.1 hR;exact h.row i hi
variable {p g mb n s : Nat} {sts : List StE} {bs : List Bool} {eb : Nat} {NA EA BA : Option Addr} {nc ec bc : Nat} {cs : Array Value}
theorem GY.pokeS (h : GY lo W p g mb n sts eds stp bs NA EA BA nc ec bc) (hs : Blk W s 101 cs) (hne : obk NA ≠ some s) (i : Nat) (u : Value) : GY lo (W.setCell ⟨s,i,none⟩ u) p g mb n sts eds stp bs NA EA BA nc ec bc :=
 have hg:=grown_poke W s i u
 ⟨h.g.other hg hs.kind (by decide),h.mb.other hg hs.kind (by decide),h.N.kept hg (by
  rw [obk_is]
  cases hv : obk NA with
  | none => exact .inl rfl
  | some b => right; intro e; injection e with e; subst e; exact hne hv),own_other h.E hg hs.kind (by decide),h.S.other hg hs.kind (by decide),own_other h.B hg hs.kind (by decide)⟩
theorem GY.poke3 (h : GY lo W p g mb n sts eds stp bs NA EA BA nc ec bc) {a b c : Value} (hs : Blk W s 101 #[a,b,c]) (hne : obk NA ≠ some s) (x y z : Value) : GY lo (((W.setCell ⟨s,0,none⟩ x).setCell ⟨s,1,none⟩ y).setCell ⟨s,2,none⟩ z) p g mb n sts eds stp bs NA EA BA nc ec bc :=
 ((h.pokeS hs hne 0 x).pokeS (hs.poke 0 x) hne 1 y).pokeS ((hs.poke 0 x).poke 1 y) hne 2 z
theorem GX.poke3 {w0 : World} {t mv gv : Nat} {TC : Array Value} (h : GX w0 W t mv gv g mb TC) {a b c : Value} (hs : Blk W s 101 #[a,b,c]) (hw : w0.heap.size ≤ s) (x y z : Value) : GX w0 (((W.setCell ⟨s,0,none⟩ x).setCell ⟨s,1,none⟩ y).setCell ⟨s,2,none⟩ z) t mv gv g mb TC :=
 have hr : ∀ k,some s = some k → w0.heap.size ≤ k:=fun k hk => by injection hk with hk; omega
 ((h.other (grown_poke W s 0 x) hr hs.kind (by decide)).other (grown_poke _ s 1 y) hr (hs.poke 0 x).kind (by decide)).other (grown_poke _ s 2 z) hr ((hs.poke 0 x).poke 1 y).kind (by decide)
theorem GY.push (h : GY lo W p g mb n sts eds stp bs NA (some ⟨eb,0,none⟩) BA nc ec bc) {i : Nat} {R xs : List (Nat × Nat)} (hR : stp[i]? = some R) {A A' : Option Addr} {c c' : Nat} (he : eds[i]? = some (.slice A R.length c)) (hg : W.grownBy W' (Value.slice A R.length c).ownBlock) (ho0 : W.ownsRow lo 164 2 (.slice A R.length c) R.length (R.flatMap encG))
  (ho : W'.ownsRow lo 164 2 (.slice A' xs.length c') xs.length (xs.flatMap encG)) (hb : (Value.slice A' xs.length c').ownBlock = (Value.slice A R.length c).ownBlock ∨ (Value.slice A' xs.length c').ownBlock = some W.heap.size) : GY lo (W'.setCell ⟨eb,i,none⟩ (.slice A' xs.length c')) p g mb n sts (eds.set i (.slice A' xs.length c')) (stp.set i xs) bs NA (some ⟨eb,0,none⟩) BA nc ec bc:=by
 have hk:=own_kind ho0;have hE:=own_other h.E hg hk (by decide);have hkE:=own_kind hE;have hp:=grown_poke W' eb i (.slice A' xs.length c');exact ⟨(h.g.other hg hk (by decide)).other hp hkE (by decide),(h.mb.other hg hk (by decide)).other hp hkE (by decide),own_other (own_other h.N hg hk (by decide)) hp hkE (by decide),(hE.stored i _).1,(h.S.push hR he hg ho hb).other hp hkE (by decide),own_other (own_other h.B hg hk (by decide)) hp hkE (by decide)⟩
end
theorem st_at {sts : List StE} {i : Nat} {x : StE} (h : sts[i]? = some x) (j : Nat) (hj : j < 3) : (sts.flatMap encT)[i * 3 + j]? = (encT x)[j]?:=by
 obtain ⟨hi,rfl⟩:=List.getElem?_eq_some_iff.1 h;exact flat_at encT 3 encT_len sts i hi j hj
def IxC (w0 : World) (lo p t mv gv g mb : Nat) (TC : Array Value) (nx : StE → List (Nat × StE)) (ef : StE → Bool) (gd : StE → Prop) (s0 : StE) (i : Nat) (x : StE) (dn : List (Nat × StE)) (k : Nat) (yy : StE) (e : Ending) (w' : World) : Prop :=
 ∃ (r n nc ec bc : Nat) (NA EA BA : Option Addr) (sts : List StE) (eds : List Value) (stp : List (List (Nat × Nat))) (bs : List Bool) (R : List (Nat × Nat)),e = .returned (.int .i64 (r : Int)) ∧ lo ≤ w'.heap.size ∧ GX w0 w' t mv gv g mb TC ∧ GY lo w' p g mb n sts eds stp bs NA EA BA nc ec bc ∧ n ≤ 614400 ∧ i < n ∧ r ≤ 614400 ∧
  Hid (sts.length = n ∧ sts[i]? = some x ∧ stp[i]? = some R ∧ R.length ≤ 614400 ∧ ExI nx ef gd s0 sts (stp.set i (R ++ [(k,r)])) bs i (dn ++ [(k,yy)]))
theorem indexQ_any (w0 w : World) (lo p t mv gv g mb n : Nat) (sts : List StE) (eds : List Value) (stp : List (List (Nat × Nat))) (bs : List Bool) (NA EA BA : Option Addr) (nc ec bc : Nat) (fid : FuncId) (pre post : Array Value) (t0 t1 t2 t3 : Value) (ef : StE → Bool) (yy : StE)
  (hgr : GX w0 w t mv gv g mb #[t0,t1,t2,t3,.func (.func fid) pre post]) (hgn : GY lo w p g mb n sts eds stp bs NA EA BA nc ec bc) (hx : OkT yy) (hef : EndsOk w0 t #[t0,t1,t2,t3,.func (.func fid) pre post] fid pre post ef) (hlo : w0.heap.size ≤ lo) (hlg : w0.heap.size ≤ g) (hlm : w0.heap.size ≤ mb) (hl : lo ≤ w.heap.size) (hn : sts.length = n) (hnb : n ≤ 614400)
  {nx : StE → List (Nat × StE)} {gd : StE → Prop} {s0 x : StE} {i k : Nat} {dn : List (Nat × StE)} (hE : ExI nx ef gd s0 sts stp bs i dn) (hi : sts[i]? = some x) (hg : gd yy) (hdn : dn.length ≤ 614400) (hfew : ∀ l : List StE,l.Nodup → (∀ x ∈ l,gd x) → l.length ≤ 614400) :
  Calls Tryz.prog 124 #[stV yy,.pointer (some ⟨mv,0,none⟩),.pointer (some ⟨gv,0,none⟩),.pointer (some ⟨t,0,none⟩)] w (IxC w0 lo p t mv gv g mb #[t0,t1,t2,t3,.func (.func fid) pre post] nx ef gd s0 i x dn k yy):=by
 have hil : i < sts.length:=(List.getElem?_eq_some_iff.1 hi).1
 have hR : stp[i]? = some (numS sts dn):=by
  have:=hE.steps i x hi
  rwa [if_neg (Nat.lt_irrefl _),if_pos rfl] at this
 have hRl : (numS sts dn).length ≤ 614400:=by unfold numS; rw [List.length_map]; exact hdn
 by_cases hm : yy ∈ sts
 ·refine (index_old w0 w lo p t mv gv g mb n sts eds stp bs NA EA BA nc ec bc fid pre post t0 t1 t2 t3 ef yy hgr hgn hx hm hl).mono ?_
  rintro e w' ⟨rfl,zl,hgr,NA,EA,BA,nc,ec,bc,hgn⟩;have h1:=List.idxOf_lt_length_of_mem hm;exact ⟨_,n,nc,ec,bc,NA,EA,BA,sts,eds,stp,bs,_,rfl,zl,hgr,hgn,hnb,by omega,by omega,Lib.hid ⟨hn,hi,hR,hRl,hE.old hm hR⟩⟩
 ·refine (index_new w0 w lo p t mv gv g mb n sts eds stp bs NA EA BA nc ec bc fid pre post t0 t1 t2 t3 ef yy hgr hgn hx hm hef hlo hlg hlm hl hn (by omega)).mono ?_
  rintro e w' ⟨rfl,zl,hgr,NA,EA,BA,nc,ec,bc,hgn⟩;have hN:=hE.new (k:=k) hm hg hR;rw [hn] at hN;have h1:=hfew _ hN.nodup hN.good;rw [List.length_append,hn] at h1;have h2 : n + 1 ≤ 614400:=h1
  have hil2 : i < stp.length:=by rw [hE.len]; exact hil
  exact ⟨n,n + 1,nc,ec,bc,NA,EA,BA,_,_,_,_,numS sts dn,rfl,zl,hgr,hgn,h2,by omega,by omega,Lib.hid ⟨by simp [hn],by rw [List.getElem?_append_left hil]; exact hi,by rw [List.getElem?_append_left hil2]; exact hR,hRl,hN⟩⟩
theorem needs_sub {rs : List RoomE} {ds : List DoorE} {T : List (List UInt8)} {d : DoorE} (hTd : onceT (allT rs ds) = T) (hd : d ∈ ds) : ∀ y ∈ d.needs,y ∈ T:=fun y hy => by
 rw [← hTd];exact ((onceT_spec _).2 y).2 (List.mem_append_right _ (List.mem_flatMap.2 ⟨d,hd,List.mem_append_left _ hy⟩))
theorem StpW.read {W : World} {lo n ec eb : Nat} {eds : List Value} {stp : List (List (Nat × Nat))} (h : StpW W lo eds stp) (hE : W.ownsRow lo 162 1 (.slice (some ⟨eb,0,none⟩) n ec) n eds) : StpR W lo eb stp:=fun i hi => by
 obtain ⟨A,c,a,b⟩:=h.row i hi;exact ⟨A,c,own_at hE i a,Row.of_own b⟩
def ExPost (w : World) (p : Nat) (nx : StE → List (Nat × StE)) (ef : StE → Bool) (gd : StE → Prop) (s0 : StE) (tm : Nat → Int) (e : Ending) (w' : World) : Prop :=
 ∃ (g n nc eb ec bc fb fc : Nat) (NA BA : Option Addr) (sts : List StE) (stp : List (List (Nat × Nat))) (far : List (Int × Int)),e = .returned (.pointer (some ⟨g,0,none⟩)) ∧ sts.length = n ∧
  Blk w' g 117 #[.pointer (some ⟨p,0,none⟩),.slice NA n nc,.slice (some ⟨eb,0,none⟩) n ec,.slice BA n bc,.slice (some ⟨fb,0,none⟩) n fc] ∧
  Row w' w.heap.size 3 NA n (sts.flatMap encT) ∧ StpR w' w.heap.size eb stp ∧ Row w' w.heap.size 1 BA n ((sts.map ef).map Value.bool) ∧ Row w' w.heap.size 2 (some ⟨fb,0,none⟩) n (prs far) ∧
  FarOk n stp (sts.map ef) tm far ∧ ExOk nx ef gd s0 sts stp ∧ Below w.heap.size w w'

set_option maxHeartbeats 8000000 in
set_option maxRecDepth 100000 in
theorem explore_any (w : World) (lo0 mp : Nat) (q0 : WorP) (T : List (List UInt8)) (rs : List RoomE) (ds : List DoorE) (tr : List (List UInt8)) (wo st gl : List UInt8) (hw : WorW w lo0 mp q0 T rs ds tr wo st gl) (hR : Right rs ds st gl) (hTd : onceT (allT rs ds) = T)
  (x0 : StE) (hg0 : GoodX rs T x0) (RV : Value) (pre post : Array Value) (fid : FuncId) (ef : StE → Bool) (sf : StE → StE) (hsf : ∀ x,GoodX rs T x → GoodX rs T (sf x)) (hsee : ∀ t,SeeOk w t #[.int .i64 (x0.r : Int),.int .i64 (x0.b : Int),.int .i64 (x0.s : Int),RV,.func (.func fid) pre post] sf) (hef : ∀ t,EndsOk w t #[.int .i64 (x0.r : Int),.int .i64 (x0.b : Int),.int .i64 (x0.s : Int),RV,.func (.func fid) pre post] fid pre post ef) :
  Calls Tryz.prog 57 #[.pointer (some ⟨q0.p,0,none⟩),.agg #[.int .i64 (x0.r : Int),.int .i64 (x0.b : Int),.int .i64 (x0.s : Int),RV,.func (.func fid) pre post]] w (ExPost w q0.p (nxX rs T ds tr wo sf) ef (GoodX rs T) (sf x0) (fun k => (ds.getD k default).time)):=by
 have hmk : ∀ w : World,(Instr.makeMap 170 none).run Tryz.prog w = .ok (.map (some w.heap.size)) (w.alloc (.map #[] 0)):=fun w => by kernel_rfl
 have hTl : T.length ≤ 10:=by rw [← hTd]; exact hR.few
 have hrl:=hR.rl;have HGO : Hid (∀ x,GoodX rs T x → OkT x ∧ x.r < 100 ∧ x.b < 1024 ∧ x.s < 6):=Lib.hid (fun x hx => by have:=hx.ok hTl hrl; exact ⟨⟨by omega,by omega,by omega⟩,this⟩);have HFEW : Hid (∀ l : List StE,l.Nodup → (∀ x ∈ l,GoodX rs T x) → l.length ≤ 614400):=Lib.hid (fun l hn hg => few_states hn (fun x hx => (hg x hx).ok hTl hrl));have HS0:=Lib.hid (HGO.out _ hg0).1;have HS1:=Lib.hid (HGO.out _ (hsf _ hg0)).1;have HG1:=Lib.hid (hsf _ hg0);have HW:=Lib.hid hw;have HR:=Lib.hid hR;have HTD:=Lib.hid hTd;have HSF:=Lib.hid hsf;have HSEE:=Lib.hid hsee;have HEF:=Lib.hid hef;clear hw hR hTd hg0 hsf hsee hef
 go_enter Tryz.func57,Tryz.ntmps57
 go_wp2_with fail;clear hmk
 have hmp : MapT (((((w.alloc (.cells #[.int .i64 (x0.r : Int),.int .i64 (x0.b : Int),.int .i64 (x0.s : Int),RV,.func (.func fid) pre post] 104)).alloc (.cells #[.pointer (some ⟨q0.p,0,none⟩),.slice none 0 0,.slice none 0 0,.slice none 0 0,.slice none 0 0] 117)).alloc (.cells #[.pointer (some ⟨w.heap.size + 1,0,none⟩)] 90)).alloc (.map #[] 0)).alloc (.cells #[.map (some (w.heap.size + 1 + 1 + 1))] 170)) (w.heap.size + 1 + 1 + 1) 0 (ixF []):=by
  have e : ixF [] = fun _ => none:=by funext x; simp [ixF]
  rw [e];have:=(MapT.made (((w.alloc (.cells #[.int .i64 (x0.r : Int),.int .i64 (x0.b : Int),.int .i64 (x0.s : Int),RV,.func (.func fid) pre post] 104)).alloc (.cells #[.pointer (some ⟨q0.p,0,none⟩),.slice none 0 0,.slice none 0 0,.slice none 0 0,.slice none 0 0] 117)).alloc (.cells #[.pointer (some ⟨w.heap.size + 1,0,none⟩)] 90))).alloc (.cells #[.map (some (w.heap.size + 1 + 1 + 1))] 170)
  simpa using this
 have hgr : GX w (((((w.alloc (.cells #[.int .i64 (x0.r : Int),.int .i64 (x0.b : Int),.int .i64 (x0.s : Int),RV,.func (.func fid) pre post] 104)).alloc (.cells #[.pointer (some ⟨q0.p,0,none⟩),.slice none 0 0,.slice none 0 0,.slice none 0 0,.slice none 0 0] 117)).alloc (.cells #[.pointer (some ⟨w.heap.size + 1,0,none⟩)] 90)).alloc (.map #[] 0)).alloc (.cells #[.map (some (w.heap.size + 1 + 1 + 1))] 170)) w.heap.size (w.heap.size + 1 + 1 + 1 + 1) (w.heap.size + 1 + 1) (w.heap.size + 1) (w.heap.size + 1 + 1 + 1) #[.int .i64 (x0.r : Int),.int .i64 (x0.b : Int),.int .i64 (x0.s : Int),RV,.func (.func fid) pre post] :=
  ⟨(by repeat (first | exact Below.refl _ _ | refine Below.alloc ?_ (by first | omega | (simp; omega) | simp) _ | refine below_drewN' ?_ _ | refine Below.drew ?_)),Blk.at_ _ (by simp),((Blk.at_ _ (by simp)).alloc _).alloc _,((((Blk.new _ _ _).alloc _).alloc _).alloc _).alloc _⟩
 obtain ⟨lo,hgt,hlo5⟩ : ∃ lo,w.heap.size + 1 < lo ∧ lo ≤ w.heap.size + 5:=⟨w.heap.size + 2,by omega,by omega⟩
 have hgn : GY lo (((((w.alloc (.cells #[.int .i64 (x0.r : Int),.int .i64 (x0.b : Int),.int .i64 (x0.s : Int),RV,.func (.func fid) pre post] 104)).alloc (.cells #[.pointer (some ⟨q0.p,0,none⟩),.slice none 0 0,.slice none 0 0,.slice none 0 0,.slice none 0 0] 117)).alloc (.cells #[.pointer (some ⟨w.heap.size + 1,0,none⟩)] 90)).alloc (.map #[] 0)).alloc (.cells #[.map (some (w.heap.size + 1 + 1 + 1))] 170)) q0.p (w.heap.size + 1) (w.heap.size + 1 + 1 + 1) 0 [] [] [] [] none none none 0 0 0 :=
  ⟨(((Blk.at_ _ (by simp)).alloc _).alloc _).alloc _,hmp,World.ownsRow_nil _ _ _ _,World.ownsRow_nil _ _ _ _,StpW.nil_ _ _,World.ownsRow_nil _ _ _ _⟩
 have zl : lo ≤ (((((w.alloc (.cells #[.int .i64 (x0.r : Int),.int .i64 (x0.b : Int),.int .i64 (x0.s : Int),RV,.func (.func fid) pre post] 104)).alloc (.cells #[.pointer (some ⟨q0.p,0,none⟩),.slice none 0 0,.slice none 0 0,.slice none 0 0,.slice none 0 0] 117)).alloc (.cells #[.pointer (some ⟨w.heap.size + 1,0,none⟩)] 90)).alloc (.map #[] 0)).alloc (.cells #[.map (some (w.heap.size + 1 + 1 + 1))] 170)).heap.size:=by simp; omega
 clear hlo5 hmp;generalize (((((w.alloc (.cells #[.int .i64 (x0.r : Int),.int .i64 (x0.b : Int),.int .i64 (x0.s : Int),RV,.func (.func fid) pre post] 104)).alloc (.cells #[.pointer (some ⟨q0.p,0,none⟩),.slice none 0 0,.slice none 0 0,.slice none 0 0,.slice none 0 0] 117)).alloc (.cells #[.pointer (some ⟨w.heap.size + 1,0,none⟩)] 90)).alloc (.map #[] 0)).alloc (.cells #[.map (some (w.heap.size + 1 + 1 + 1))] 170)) = X at *;refine (HSEE.out _ _ x0 hgr.bel hgr.t HS0.out).mono ?_;rintro e wa ⟨rfl,hb⟩;have hgr:=hgr.below hb;have hgn:=hgn.below hb;have zl:=Nat.le_trans zl hb.size;clear hb;go_wp2_with fail;refine (index_new w wa lo q0.p _ _ _ _ _ 0 [] [] [] [] none none none 0 0 0 fid pre post _ _ _ _ ef (sf x0) hgr hgn HS1.out (by simp) (HEF.out _) (by omega) (by omega) (by omega) zl rfl (by omega)).mono ?_;rintro e wb ⟨rfl,zl,hgr,NA,EA,BA,nc,ec,bc,hgn⟩;simp only [List.nil_append] at hgn
 have hlo : w.heap.size ≤ lo:=by omega
 have hgw : w.heap.size ≤ w.heap.size + 1:=by omega
 have hmw : w.heap.size ≤ w.heap.size + 1 + 1 + 1:=by omega
 generalize w.heap.size + 1 + 1 + 1 + 1 = mv at *;generalize w.heap.size + 1 + 1 + 1 = mb at *;generalize w.heap.size + 1 + 1 = gv at *;generalize w.heap.size + 1 = g at *;go_wp2_with fail
 go_loopw [8] (fun v wr => ∃ (i n nc ec bc : Nat) (NA EA BA : Option Addr) (sts : List StE) (eds : List Value) (stp : List (List (Nat × Nat))) (bs : List Bool),i ≤ n ∧ n ≤ 614400 ∧ v = .int .i64 i ∧ GX w wr w.heap.size mv gv g mb #[.int .i64 (x0.r : Int),.int .i64 (x0.b : Int),.int .i64 (x0.s : Int),RV,.func (.func fid) pre post] ∧ GY lo wr q0.p g mb n sts eds stp bs NA EA BA nc ec bc ∧ lo ≤ wr.heap.size ∧ Hid (sts.length = n ∧ ExI (nxX rs T ds tr wo sf) ef (GoodX rs T) (sf x0) sts stp bs i [])) (fun v _ => 614400 - (intOf v).toNat)
 case atStart => exact ⟨0,1,nc,ec,bc,NA,EA,BA,_,_,_,_,by omega,by omega,rfl,hgr,hgn,zl,Lib.hid ⟨rfl,ExI.start HG1.out⟩⟩
 case round =>
  clear hgr hgn zl;obtain ⟨i,n,nc,ec,bc,NA,EA,BA,sts,eds,stp,bs,hi,hnb,rfl,hgr,hgn,zl,HX⟩:=hrel;have hgr0:=Lib.hid hgr.bel.size;have qg:=hgr.gv.w1;obtain ⟨k0,k1,k2,k3,k4⟩:=hgn.g.w5;have zg:=hgn.g.lt
  by_cases hlt : i < n
  ·have hil : i < sts.length:=by rw [HX.out.1]; exact hlt
   obtain ⟨x,HXI⟩ : ∃ x,Hid (sts[i]? = some x):=⟨_,Lib.hid (List.getElem?_eq_getElem hil)⟩
   have HGX : Hid (GoodX rs T x):=Lib.hid (HX.out.2.good x (List.mem_of_getElem? HXI.out))
   have hxr : x.r < rs.length:=by
    obtain ⟨key,hk,e⟩:=HGX.out.1;rw [e]; exact ixR_lt hk
   obtain ⟨n1,rfl,z1,zz1,hN,-⟩:=ownBlk hgn.N (by omega);obtain ⟨n3,rfl,z3,zz3,hB,-⟩:=ownBlk hgn.B (by omega);have b0:=hB i (.bool (ef x)) (by rw [HX.out.2.bs,List.map_map,List.getElem?_map,HXI.out]; rfl);have c0 : wr.cell? ⟨n1,i * 3,none⟩ = some (.int .i64 (x.r : Int)):=hN (i * 3) _ (st_at HXI.out 0 (by omega));clear hil hN hB
   cases he : ef x with
   | true =>
    rw [he] at b0;have HE:=Lib.hid he;clear he;go_wp2_with fail;go_roundw
    case rel => exact ⟨i + 1,n,nc,ec,bc,_,EA,_,sts,eds,stp,bs,by omega,hnb,by go_num,hgr,hgn,zl,Lib.hid ⟨HX.out.1,HX.out.2.next HXI.out (by rw [HE.out]; rfl)⟩⟩
    case measure => simp [intOf]; omega
   | false =>
    rw [he] at b0;have HE:=Lib.hid he;obtain ⟨OB,oc,hoc,hor⟩:=HW.out.out x.r hxr;have HOR:=Lib.hid hor;have hoc:=(hgr.bel.cell (p:=⟨q0.g,x.r,none⟩) HW.out.glt).trans hoc;have zo : q0.g < wr.heap.size:=Nat.lt_of_lt_of_le HW.out.glt hgr.bel.size;have p4:=(HW.out.below hgr.bel).cells.2.2.2.2.1;have hll:=outN_len rs ds tr wo x.r;have hdl:=HR.out.dl;clear he hor;generalize hLe : outN rs ds tr wo x.r = L at *;have HLE:=Lib.hid hLe;clear hLe;go_upto_region 9 with (fail)
    go_quiet (fail)
    have hgr:=hgr.drewN nq;have hgn:=hgn.drewN nq;have zl : lo ≤ (wr.drewN nq).heap.size:=zl;clear qg k0 k1 k2 k3 k4 zg b0 c0 hoc zo p4 zz1 zz3;generalize wr.drewN nq = Z at *;go_wp2_with fail
    go_loopw [55] (fun v wv => ∃ (m n nc ec bc : Nat) (NA EA BA : Option Addr) (sts : List StE) (eds : List Value) (stp : List (List (Nat × Nat))) (bs : List Bool),m ≤ L.length ∧ i < n ∧ n ≤ 614400 ∧ v = .int .i64 m ∧ GX w wv w.heap.size mv gv g mb #[.int .i64 (x0.r : Int),.int .i64 (x0.b : Int),.int .i64 (x0.s : Int),RV,.func (.func fid) pre post] ∧ GY lo wv q0.p g mb n sts eds stp bs NA EA BA nc ec bc ∧ lo ≤ wv.heap.size ∧ Hid (sts.length = n ∧ sts[i]? = some x ∧ ExI (nxX rs T ds tr wo sf) ef (GoodX rs T) (sf x0) sts stp bs i ((L.take m).filterMap (fun k : Int => (passX rs T x (ds.getD k.toNat default)).map fun y => (k.toNat,sf y))))) (fun v _ => L.length - (intOf v).toNat)
    case atStart => exact ⟨0,n,nc,ec,bc,_,EA,_,sts,eds,stp,bs,Nat.zero_le _,hlt,hnb,rfl,hgr,hgn,zl,Lib.hid ⟨HX.out.1,HXI.out,HX.out.2⟩⟩
    case round =>
     clear hgr hgn zl HX HXI hnb hlt hi z1 z3;obtain ⟨m,n,nc,ec,bc,NA,EA,BA,sts,eds,stp,bs,hml,hlt,hnb,rfl,hgr,hgn,zl,HX⟩:=hrel
     by_cases hlm : m < L.length
     ·obtain ⟨k,hkL,hkd,hks,hko⟩:=outN_mem (show L[m] ∈ outN rs ds tr wo x.r by rw [HLE.out]; exact List.getElem_mem hlm)
      obtain ⟨ob,ooff,rfl,_,hos,o0⟩:=(HOR.out.below hgr.bel).int_at hlm;rw [hkL] at o0;have HLM : Hid (L[m]? = some (k : Int)):=Lib.hid (by rw [List.getElem?_eq_getElem hlm,hkL]);obtain ⟨n1,rfl,z1,zz1,-,-⟩:=ownBlk hgn.N (by omega);have HCI : Hid (∀ W,GY lo W q0.p g mb n sts eds stp bs (some ⟨n1,0,none⟩) EA BA nc ec bc → W.cell? ⟨n1,i * 3,none⟩ = some (.int .i64 (x.r : Int)) ∧ W.cell? ⟨n1,i * 3 + 1,none⟩ = some (.int .i64 (x.b : Int)) ∧ W.cell? ⟨n1,i * 3 + 2,none⟩ = some (.int .i64 (x.s : Int))):=Lib.hid (fun W h => ⟨own_at h.N _ (st_at HX.out.2.1 0 (by omega)),own_at h.N _ (st_at HX.out.2.1 1 (by omega)),own_at h.N _ (st_at HX.out.2.1 2 (by omega))⟩)
      obtain ⟨d,hd⟩ : ∃ d,ds[k]? = some d:=⟨_,List.getElem?_eq_getElem hkd⟩
      have HDM : Hid (d ∈ ds ∧ ds.getD k default = d):=Lib.hid ⟨List.mem_of_getElem? hd,by rw [List.getD_eq_getElem?_getD,hd]; rfl⟩;obtain ⟨db,doff,eDA,-,-⟩:=(HW.out.below hgr.bel).doorI HR.out hkd
      have HDO : Hid (∀ W,Below w.heap.size w W → W.cell? ⟨q0.p,3,none⟩ = some (.slice (some ⟨db,doff,none⟩) ds.length q0.dc) ∧ (W.cell? ⟨db,doff + k * 5,none⟩ = some (.int .i64 (ixR rs d.src : Int)) ∧ W.cell? ⟨db,doff + k * 5 + 1,none⟩ = some (.int .i64 (ixR rs d.dst : Int)) ∧ W.cell? ⟨db,doff + k * 5 + 2,none⟩ = some (.int .i64 d.time) ∧ W.cell? ⟨db,doff + k * 5 + 3,none⟩ = some (.int .i64 (bitsT T d.needs : Int)) ∧ W.cell? ⟨db,doff + k * 5 + 4,none⟩ = some (.int .i64 (bitsT T d.takes : Int)))):=Lib.hid (fun W hb => by
       have h1:=(HW.out.below hb).cells.2.2.2.1;obtain ⟨b',o',e',-,h2⟩:=(HW.out.below hb).doorI HR.out hkd;rw [eDA] at e' h1;injection e' with e';injection e' with e1 e2;subst e1 e2
       have e3 : ds[k] = d:=by rw [List.getElem?_eq_getElem hkd] at hd; exact Option.some.inj hd
       rw [e3] at h2
       exact ⟨h1,h2⟩)
      obtain ⟨px,hpx⟩ : ∃ px,px = passX rs T x d:=⟨_,rfl⟩
      obtain ⟨y,hy⟩ : ∃ y,y = px.getD x:=⟨_,rfl⟩
      obtain ⟨pb,hpb⟩ : ∃ pb,pb = px.isSome:=⟨_,rfl⟩
      have HPS : Hid (∀ W,Below w.heap.size w W → Calls Tryz.prog 126 #[.pointer (some ⟨q0.p,0,none⟩),stV x,.agg #[.int .i64 (ixR rs d.src : Int),.int .i64 (ixR rs d.dst : Int),.int .i64 d.time,.int .i64 (bitsT T d.needs : Int),.int .i64 (bitsT T d.takes : Int)]] W fun e w' => e = .returned (.tuple #[.agg #[.int .i64 (y.r : Int),.int .i64 (y.b : Int),.int .i64 (y.s : Int)],.bool pb]) ∧ Below W.heap.size W w'):=Lib.hid (fun W hb => by
       have:=pass_any (HW.out.below hb) HR.out hTl HTD.out HDM.out.1 x HGX.out;rw [← hpx,← hy,← hpb] at this
       exact this)
      have HPX:=Lib.hid (And.intro hpx (And.intro hy hpb))
      have hk0 : (0 : Int) ≤ (k : Int):=by omega
      have hk1 : (k : Int) < (ds.length : Int):=by omega
      have hi0 : (0 : Int) ≤ (i : Int):=by omega
      have hi1 : (i : Int) < (n : Int):=by omega
      clear hkL hd eDA hks hko hpx hy hpb;go_upto_region 12 with (fail);clear o0 hos
      go_cut [11,12] from 59 to 77 (fun u v wx => ∃ s : Nat,u = .pointer (some ⟨s,0,none⟩) ∧ v = .bool pb ∧ Blk wx s 101 #[.int .i64 (y.r : Int),.int .i64 (y.b : Int),.int .i64 (y.s : Int)] ∧ GX w wx w.heap.size mv gv g mb #[.int .i64 (x0.r : Int),.int .i64 (x0.b : Int),.int .i64 (x0.s : Int),RV,.func (.func fid) pre post] ∧ GY lo wx q0.p g mb n sts eds stp bs (some ⟨n1,0,none⟩) EA BA nc ec bc ∧ lo ≤ wx.heap.size)
      case first =>
       generalize wr = Z at *;go_wp2_with fail;have hgr:=hgr.drew;have hgn:=hgn.drew;have zl : lo ≤ Z.drew.heap.size:=zl;refine wp_region_held_drew (S:=(fun w' => w'.cell? ⟨gv,0,none⟩ = some (.pointer (some ⟨g,0,none⟩)) ∧ w'.cell? ⟨g,1,none⟩ = some (.slice (some ⟨n1,0,none⟩) n nc) ∧ (w'.cell? ⟨n1,i * 3,none⟩ = some (.int .i64 (x.r : Int)) ∧ w'.cell? ⟨n1,i * 3 + 1,none⟩ = some (.int .i64 (x.b : Int)) ∧ w'.cell? ⟨n1,i * 3 + 2,none⟩ = some (.int .i64 (x.s : Int))) ∧ w'.cell? ⟨q0.p,3,none⟩ = some (.slice (some ⟨db,doff,none⟩) ds.length q0.dc) ∧ (w'.cell? ⟨db,doff + k * 5,none⟩ = some (.int .i64 (ixR rs d.src : Int)) ∧ w'.cell? ⟨db,doff + k * 5 + 1,none⟩ = some (.int .i64 (ixR rs d.dst : Int)) ∧ w'.cell? ⟨db,doff + k * 5 + 2,none⟩ = some (.int .i64 d.time) ∧ w'.cell? ⟨db,doff + k * 5 + 3,none⟩ = some (.int .i64 (bitsT T d.needs : Int)) ∧ w'.cell? ⟨db,doff + k * 5 + 4,none⟩ = some (.int .i64 (bitsT T d.takes : Int))))) (by kernel_rfl) (⟨hgr.gv.w1,hgn.g.w5.2.1,HCI.out _ hgn,HDO.out _ hgr.bel⟩) (fun hHeld => ?_);(refine QU 0 ?_; (try simp only [Act.put,Q3,Q4,Q5]));(refine QU 1 ?_; (try simp only [Act.put,Q3,Q4,Q5]));(refine QU 2 ?_; (try simp only [Act.put,Q3,Q4,Q5]));(refine QU 3 ?_; (try simp only [Act.put,Q3,Q4,Q5]));(refine QU 4 ?_; (try simp only [Act.put,Q3,Q4,Q5]));(refine QU 5 ?_; (try simp only [Act.put,Q3,Q4,Q5]));(refine QU 6 ?_; (try simp only [Act.put,Q3,Q4,Q5]));(refine QU 7 ?_; (try simp only [Act.put,Q3,Q4,Q5]));(refine QU 8 ?_; (try simp only [Act.put,Q3,Q4,Q5]));(refine QU 9 ?_; (try simp only [Act.put,Q3,Q4,Q5]));(refine QU 10 ?_; (try simp only [Act.put,Q3,Q4,Q5]));(refine QU 11 ?_; (try simp only [Act.put,Q3,Q4,Q5]));(refine QU 12 ?_; (try simp only [Act.put,Q3,Q4,Q5]));(refine QU 13 ?_; (try simp only [Act.put,Q3,Q4,Q5]));(refine QU 14 ?_; (try simp only [Act.put,Q3,Q4,Q5]));refine wpAnyH_ready (rs:=[15,19]) (by kernel_rfl) (by simp) ?_;refine AllReadyH.cons rfl (fun K hK => ?_) (AllReadyH.cons rfl (fun K hK => ?_) AllReadyH.nil)
       case refine_1 =>
        go_simp;go_at_call 126;refine (HPS.out _ hgr.bel).mono ?_;rintro e wp ⟨rfl,hb⟩;have zl : lo ≤ wp.heap.size:=Nat.le_trans zl hb.size;have hgr:=hgr.below hb;have hgn:=hgn.below hb;go_wp2_with fail;refine hK.out _ _ (⟨hgr.gv.w1,hgn.g.w5.2.1,HCI.out _ hgn,HDO.out _ hgr.bel⟩) (fun hHeld => ?_);clear hK K;(try simp only [Act.put,Q3,Q4,Q5]);(refine QU 16 ?_; (try simp only [Act.put,Q3,Q4,Q5]));(refine QU 17 ?_; (try simp only [Act.put,Q3,Q4,Q5]));(refine QU 18 ?_; (try simp only [Act.put,Q3,Q4,Q5]));refine QR 19 fun K hK => ?_;go_simp;have hgr0:=hgr;have hgn0:=hgn;have zl0:=zl;have zs : lo ≤ wp.heap.size:=zl
        have hsn : obk (some ⟨n1,0,none⟩) ≠ some (wp.heap.size):=fun e => by
         have:=(hgn.N.lt _ (by rw [obk_is]; exact e)).2;(try simp at this)
        have hs : Blk (wp.alloc (.cells #[.int .i64 0,.int .i64 0,.int .i64 0] 101)) (wp.heap.size) 101 #[.int .i64 0,.int .i64 0,.int .i64 0]:=Blk.at_ _ (by simp);have hgr:=hgr.alloc (.cells #[.int .i64 0,.int .i64 0,.int .i64 0] 101);have hgn:=hgn.alloc (.cells #[.int .i64 0,.int .i64 0,.int .i64 0] 101)
        have zl : lo ≤ (wp.alloc (.cells #[.int .i64 0,.int .i64 0,.int .i64 0] 101)).heap.size:=by simp at zl ⊢; omega
        refine hK.out _ _ (⟨hgr.gv.w1,hgn.g.w5.2.1,HCI.out _ hgn,HDO.out _ hgr.bel⟩) (fun hHeld => ?_);clear hK K;(try simp only [Act.put,Q3,Q4,Q5]);refine QR 20 fun K hK => ?_;go_simp;have hgr:=hgr0.alloc (.cells #[.int .i64 (y.r : Int),.int .i64 (y.b : Int),.int .i64 (y.s : Int)] 101);have hgn:=hgn0.alloc (.cells #[.int .i64 (y.r : Int),.int .i64 (y.b : Int),.int .i64 (y.s : Int)] 101);have hs : Blk (wp.alloc (.cells #[.int .i64 (y.r : Int),.int .i64 (y.b : Int),.int .i64 (y.s : Int)] 101)) wp.heap.size 101 #[.int .i64 (y.r : Int),.int .i64 (y.b : Int),.int .i64 (y.s : Int)]:=Blk.new _ _ _
        have zl : lo ≤ (wp.alloc (.cells #[.int .i64 (y.r : Int),.int .i64 (y.b : Int),.int .i64 (y.s : Int)] 101)).heap.size:=by simp; omega
        refine hK.out _ _ (⟨hgr.gv.w1,hgn.g.w5.2.1,HCI.out _ hgn,HDO.out _ hgr.bel⟩) (fun hHeld => ?_);clear hK K;(try simp only [Act.put,Q3,Q4,Q5]);(refine QU 21 ?_; (try simp only [Act.put,Q3,Q4,Q5]));refine wpAnyH_done (by kernel_rfl) ?_ _;go_wp2_with fail;go_meet;exact ⟨_,rfl,rfl,hs,hgr,hgn,zl⟩
       case refine_2 =>
        go_simp;have hgr0:=hgr;have hgn0:=hgn;have zl0:=zl;have zs : lo ≤ Z.heap.size:=zl
        have hsn : obk (some ⟨n1,0,none⟩) ≠ some (Z.heap.size):=fun e => by
         have:=(hgn.N.lt _ (by rw [obk_is]; exact e)).2;(try simp at this)
        have hs : Blk (Z.drew.alloc (.cells #[.int .i64 0,.int .i64 0,.int .i64 0] 101)) (Z.heap.size) 101 #[.int .i64 0,.int .i64 0,.int .i64 0]:=Blk.at_ _ (by simp);have hgr:=hgr.alloc (.cells #[.int .i64 0,.int .i64 0,.int .i64 0] 101);have hgn:=hgn.alloc (.cells #[.int .i64 0,.int .i64 0,.int .i64 0] 101)
        have zl : lo ≤ (Z.drew.alloc (.cells #[.int .i64 0,.int .i64 0,.int .i64 0] 101)).heap.size:=by simp at zl ⊢; omega
        refine hK.out _ _ (⟨hgr.gv.w1,hgn.g.w5.2.1,HCI.out _ hgn,HDO.out _ hgr.bel⟩) (fun hHeld => ?_);clear hK K;(try simp only [Act.put,Q3,Q4,Q5]);refine QR 15 fun K hK => ?_;go_simp;go_at_call 126;refine (HPS.out _ hgr.bel).mono ?_;rintro e wp ⟨rfl,hb⟩;have zl : lo ≤ wp.heap.size:=Nat.le_trans zl hb.size;have hgr:=hgr.below hb;have hgn:=hgn.below hb;have hs:=hs.below hb;go_wp2_with fail;refine hK.out _ _ (⟨hgr.gv.w1,hgn.g.w5.2.1,HCI.out _ hgn,HDO.out _ hgr.bel⟩) (fun hHeld => ?_);clear hK K;(try simp only [Act.put,Q3,Q4,Q5]);(refine QU 16 ?_; (try simp only [Act.put,Q3,Q4,Q5]));(refine QU 17 ?_; (try simp only [Act.put,Q3,Q4,Q5]));(refine QU 18 ?_; (try simp only [Act.put,Q3,Q4,Q5]));refine QR 20 fun K hK => ?_;have f0:=hs.thaw 0;have f1:=hs.thaw 1;have f2:=hs.thaw 2;obtain ⟨t0,t1,t2⟩:=hs.w3;have zs0:=hs.lt;go_simp;clear f0 f1 f2 t0 t1 t2 zs0;have hgr:=hgr.poke3 hs (by omega) (.int .i64 (y.r : Int)) (.int .i64 (y.b : Int)) (.int .i64 (y.s : Int));have hgn:=hgn.poke3 hs hsn (.int .i64 (y.r : Int)) (.int .i64 (y.b : Int)) (.int .i64 (y.s : Int));have hs:=poke_hs hs (.int .i64 (y.r : Int)) (.int .i64 (y.b : Int)) (.int .i64 (y.s : Int));have zl : lo ≤ _:=Nat.le_trans zl (Nat.le_of_eq (by simp : _ = (((wp.setCell ⟨Z.heap.size,0,none⟩ (.int .i64 (y.r : Int))).setCell ⟨Z.heap.size,1,none⟩ (.int .i64 (y.b : Int))).setCell ⟨Z.heap.size,2,none⟩ (.int .i64 (y.s : Int))).heap.size));refine hK.out _ _ (⟨hgr.gv.w1,hgn.g.w5.2.1,HCI.out _ hgn,HDO.out _ hgr.bel⟩) (fun hHeld => ?_);clear hK K;(try simp only [Act.put,Q3,Q4,Q5]);(refine QU 21 ?_; (try simp only [Act.put,Q3,Q4,Q5]));refine wpAnyH_done (by kernel_rfl) ?_ _;go_wp2_with fail;go_meet;exact ⟨_,rfl,rfl,hs,hgr,hgn,zl⟩
      case rest =>
       obtain ⟨s,rfl,rfl,hs,hgr,hgn,zl⟩:=hcut
       have HFM : Hid ((L.take (m + 1)).filterMap (fun k : Int => (passX rs T x (ds.getD k.toNat default)).map fun y => (k.toNat,sf y)) = (L.take m).filterMap (fun k : Int => (passX rs T x (ds.getD k.toNat default)).map fun y => (k.toNat,sf y)) ++ (px.map fun y => (k,sf y)).toList):=Lib.hid (by
        rw [List.take_add_one,HLM.out,List.filterMap_append]
        congr 1
        rw [HPX.out.1];simp only [Option.toList_some,List.filterMap_cons,List.filterMap_nil,Int.toNat_natCast,HDM.out.2]
        cases passX rs T x d <;> rfl)
       cases hpb : pb with
       | false =>
        have HN : Hid (ExI (nxX rs T ds tr wo sf) ef (GoodX rs T) (sf x0) sts stp bs i ((L.take (m + 1)).filterMap (fun k : Int => (passX rs T x (ds.getD k.toNat default)).map fun y => (k.toNat,sf y)))):=Lib.hid (by
         have h0 : px = none:=by
          have:=HPX.out.2.2;rw [hpb] at this;exact Option.isSome_eq_false_iff.1 this.symm |> Option.isNone_iff_eq_none.1
         rw [HFM.out,h0]
         simpa using HX.out.2.2)
        subst hpb;go_wp2_with fail;go_roundw
        case rel => exact ⟨m + 1,n,nc,ec,bc,_,EA,BA,sts,eds,stp,bs,by omega,hlt,hnb,by go_num,hgr,hgn,zl,Lib.hid ⟨HX.out.1,HX.out.2.1,HN.out⟩⟩
        case measure => simp [intOf]; omega
       | true =>
        have h0 : px = some y:=by
         have h1:=HPX.out.2.2;have h2:=HPX.out.2.1;rw [hpb] at h1
         cases px with
         | none => cases h1
         | some z => rw [h2]; rfl
        have HGY : Hid (GoodX rs T y):=Lib.hid (passX_good (ds:=ds) HTD.out hTl (needs_sub HTD.out HDM.out.1) (HR.out.dst d HDM.out.1) HGX.out (by rw [← HPX.out.1]; exact h0));have HY0:=Lib.hid (HGO.out _ HGY.out).1;have HGS:=Lib.hid (HSF.out _ HGY.out);have HY1:=Lib.hid (HGO.out _ HGS.out).1;rw [h0] at HFM;subst hpb;clear h0;obtain ⟨s0,s1,s2⟩:=hs.w3;have zs:=hs.lt;go_wp2_with fail;clear s0 s1 s2 zs;refine (HSEE.out _ _ y hgr.bel hgr.t HY0.out).mono ?_;rintro e wd ⟨rfl,hb⟩;have hgr:=hgr.below hb;have hgn:=hgn.below hb;have zl:=Nat.le_trans zl hb.size;clear hb hs;go_wp2_with fail
        refine (indexQ_any w wd lo q0.p _ _ _ _ _ n sts eds stp bs _ EA BA nc ec bc fid pre post _ _ _ _ ef (sf y) hgr hgn HY1.out (HEF.out _) hlo hgw hmw zl HX.out.1 hnb HX.out.2.2 HX.out.2.1 HGS.out (k:=k) (by
         have h1:=List.length_filterMap_le (fun k : Int => (passX rs T x (ds.getD k.toNat default)).map fun y => (k.toNat,sf y)) (L.take m);have h2:=List.length_take_le m L
         omega) HFEW.out).mono ?_
        rintro e we ⟨r,n,nc,ec,bc,NA,EA,BA,sts,eds,stp,bs,R,rfl,zl,hgr,hgn,hnb,hlt,hr6,HX⟩;obtain ⟨eb,rfl,zb1,zb2,-⟩:=ownBlk hgn.E (by omega);obtain ⟨RA,rc,hre,hro⟩:=hgn.S.rowQ HX.out.2.2.1;have HRE : Hid (eds[i]? = some (.slice RA R.length rc)):=Lib.hid hre
        have hrb1 : (R.length + 1) * 16 ≤ 140737488355328:=by have:=HX.out.2.2.2.1; omega
        have hrb2 : R.length + 1 ≤ 9223372036854775807:=by have:=HX.out.2.2.2.1; omega
        have hi0 : (0 : Int) ≤ (i : Int):=by omega
        have hi1 : (i : Int) < (n : Int):=by omega
        clear hre HCI HDO HPS;go_upto_region 15 with (fail);generalize we = Z at *;have hgr:=hgr.drew;have hgn:=hgn.drew;have hro:=own_drewN hro 1;have zl : lo ≤ Z.drew.heap.size:=zl;refine wp_region_heldK 18 (fun w' => w'.cell? ⟨eb,i,none⟩ = some (.slice RA R.length rc)) (fun w' => w'.cell? ⟨gv,0,none⟩ = some (.pointer (some ⟨g,0,none⟩)) ∧ w'.cell? ⟨g,2,none⟩ = some (.slice (some ⟨eb,0,none⟩) n ec)) (by kernel_rfl) (⟨hgr.gv.w1,hgn.g.w5.2.2.1⟩) (own_at hgn.E i HRE.out) (fun hT hS => ?_);(refine KU2 0 ?_; (try simp only [Act.put,Q3,Q4,Q5]));(refine KU2 1 ?_; (try simp only [Act.put,Q3,Q4,Q5]));(refine KU2 2 ?_; (try simp only [Act.put,Q3,Q4,Q5]));(refine KU2 3 ?_; (try simp only [Act.put,Q3,Q4,Q5]));(refine KU2 4 ?_; (try simp only [Act.put,Q3,Q4,Q5]));(refine KU2 5 ?_; (try simp only [Act.put,Q3,Q4,Q5]));(refine KU2 6 ?_; (try simp only [Act.put,Q3,Q4,Q5]));(refine KU2 7 ?_; (try simp only [Act.put,Q3,Q4,Q5]));(refine KU2 8 ?_; (try simp only [Act.put,Q3,Q4,Q5]));(refine KU2 9 ?_; (try simp only [Act.put,Q3,Q4,Q5]));(refine KU2 10 ?_; (try simp only [Act.put,Q3,Q4,Q5]));(refine KU1 11 ?_; (try simp only [Act.put,Q3,Q4,Q5]));(refine KU2 12 ?_; (try simp only [Act.put,Q3,Q4,Q5]));(refine KU2 13 ?_; (try simp only [Act.put,Q3,Q4,Q5]));(refine KU2 14 ?_; (try simp only [Act.put,Q3,Q4,Q5]));refine wpAnyK_ready (rs:=[15]) (by kernel_rfl) (by simp) ?_;refine AllReadyK.cons rfl (fun K hK => ?_) AllReadyK.nil;go_simp;have hy : Blk (Z.drew.alloc (.cells #[.int .i64 (k : Int),.int .i64 (r : Int)] 164)) Z.heap.size 164 #[.int .i64 (k : Int),.int .i64 (r : Int)]:=Blk.at_ _ (by simp);have hgr:=hgr.alloc (.cells #[.int .i64 (k : Int),.int .i64 (r : Int)] 164);have hgn:=hgn.alloc (.cells #[.int .i64 (k : Int),.int .i64 (r : Int)] 164);have hro:=hro.alloc (.cells #[.int .i64 (k : Int),.int .i64 (r : Int)] 164)
        have zl : lo ≤ (Z.drew.alloc (.cells #[.int .i64 (k : Int),.int .i64 (r : Int)] 164)).heap.size:=by simp at zl ⊢; omega
        refine hK.out _ _ (⟨hgr.gv.w1,hgn.g.w5.2.2.1⟩) (own_at hgn.E i HRE.out) (fun hT hS => ?_);clear hK K;(try simp only [Act.put,Q3,Q4,Q5]);refine wpAnyK_ready (rs:=[16]) (by kernel_rfl) (by simp) ?_;refine AllReadyK.cons rfl (fun K hK => ?_) AllReadyK.nil;refine step_app (lo:=0) (base:=lo) (n:=R.length) (xs:=R.flatMap encG) _ rfl _ _ ty_steps rfl hro rfl (Row.lit (n:=1) (size:=2) hy (Nat.zero_le _) rfl) rfl rfl hrb1 hrb2 zl ?_;intro AY cY wy hY gY hbY;have hkR:=own_kind hro;have hgr5:=hgr.other gY (fun k hk => Nat.le_trans hlo (hro.lt k hk).1) hkR (by decide);have hg5:=hgn.g.other gY hkR (by decide);have hE5:=own_other hgn.E gY hkR (by decide)
        have HPU : wy.ownsRow lo 164 2 (.slice AY (R ++ [(k,r)]).length cY) (R ++ [(k,r)]).length ((R ++ [(k,r)]).flatMap encG):=by simpa [encG] using hY
        refine hK.out _ _ (⟨hgr5.gv.w1,hg5.w5.2.2.1⟩) (own_at hE5 i HRE.out) (fun hT hS => ?_);clear hK K;(try simp only [Act.put,Q3,Q4,Q5]);(refine KU2 17 ?_; (try simp only [Act.put,Q3,Q4,Q5]));refine wpAnyK_ready (rs:=[18]) (by kernel_rfl) (by simp) ?_;refine AllReadyK.consT (by kernel_rfl) rfl (fun K hK => ?_) AllReadyK.nil;have fE:=hE5.frozenAt i;have cE : wy.cell? ⟨eb,i,none⟩ = some (.slice RA R.length rc):=own_at hE5 i HRE.out
        have zE:=(hE5.lt eb rfl)
        go_simp;clear fE cE;have hgn:=hgn.push HX.out.2.2.1 HRE.out gY hro HPU (by rw [List.length_append]; exact hbY);have hgr:=hgr5.other (grown_poke wy eb i (.slice AY (R ++ [(k,r)]).length cY)) (fun k hk => by injection hk with hk; omega) (own_kind hE5) (by decide)
        have zl : lo ≤ (wy.setCell ⟨eb,i,none⟩ (.slice AY (R ++ [(k,r)]).length cY)).heap.size:=by have:=gY.size; simp at zl ⊢; omega
        rw [show (R ++ [(k,r)]).length = R.length + 1 by simp] at hgn hgr zl;refine hK.out _ _ (⟨hgr.gv.w1,hgn.g.w5.2.2.1⟩) (fun hT => ?_);clear hK K;(try simp only [Act.put,Q3,Q4,Q5]);refine wpAnyK_done (by kernel_rfl) ?_ _;go_wp2_with fail;go_roundw
        case rel => exact ⟨m + 1,n,nc,ec,bc,NA,_,BA,sts,_,_,bs,by omega,hlt,hnb,by go_num,hgr,hgn,zl,Lib.hid ⟨HX.out.1,HX.out.2.1,by rw [HFM.out]; exact HX.out.2.2.2.2⟩⟩
        case measure => simp [intOf]; omega
     ·have hme : m = L.length:=by omega
      subst hme
      have HN : Hid (ExI (nxX rs T ds tr wo sf) ef (GoodX rs T) (sf x0) sts stp bs (i + 1) []):=Lib.hid (HX.out.2.2.next HX.out.2.1 (by
       rw [HE.out,if_neg (by simp),List.take_length,← HLE.out]
       rfl))
      go_wp2_with fail;go_roundw
      case rel => exact ⟨i + 1,n,nc,ec,bc,NA,EA,BA,sts,eds,stp,bs,by omega,hnb,by go_num,hgr,hgn,zl,Lib.hid ⟨HX.out.1,HN.out⟩⟩
      case measure => simp [intOf]; omega
  ·have hie : n = i:=by omega
   subst hie
   have HXO : Hid (ExOk (nxX rs T ds tr wo sf) ef (GoodX rs T) (sf x0) sts stp):=Lib.hid (by
    have h:=HX.out.2;rw [← HX.out.1] at h
    exact h.done)
   have hn0 : 0 < n:=by
    have:=HXO.out.first
    have:=(List.getElem?_eq_some_iff.1 this).1;have:=HX.out.1;omega
   obtain ⟨eb,rfl,hb1,hb2,-⟩:=ownBlk hgn.E (by omega);obtain ⟨g5,gto,gend⟩:=HXO.out.graph HR.out.dl;have hbs : bs = sts.map ef:=HX.out.2.bs;have HM:=Lib.hid (measure_any w wr g q0.p n nc eb ec bc lo lo0 mp NA BA stp bs q0 T rs ds tr wo st gl hgn.g (hgn.S.read hgn.E) (Row.of_own hgn.B) HW.out hgr.bel hgw rfl HR.out.time (by rw [HXO.out.len]; exact HX.out.1) (by rw [hbs,List.length_map]; exact HX.out.1) hn0 (by omega) hgt (by omega) g5 HR.out.dl (by rw [← HX.out.1]; exact gto) (by rw [hbs]; exact gend));have HBS:=Lib.hid hbs;clear g5 gto gend hbs;go_wp2_with fail;refine (HM.out).mono ?_;rintro e wz ⟨rfl,fb,fc,far,hg5,hF,hfo,hG⟩;have hkg:=hgn.g.kind;have hgr:=hgr.other hG (fun k hk => by injection hk with hk; omega) hkg (by decide);have HZ : Hid (Row wz lo 3 NA n (sts.flatMap encT) ∧ StpR wz lo eb stp ∧ Row wz lo 1 BA n (bs.map Value.bool)):=Lib.hid ⟨(Row.of_own hgn.N).grown hG hgt,(hgn.S.read hgn.E).grown hG hgt (by omega),(Row.of_own hgn.B).grown hG hgt⟩;have HF:=Lib.hid (And.intro hF hfo);clear hgn k0 k1 k2 k3 k4 qg hF hfo hG;have qg:=hgr.gv.w1;go_wp2_with fail;go_ret;refine ⟨g,n,nc,eb,ec,bc,fb,fc,NA,BA,sts,stp,far,rfl,HX.out.1,hg5,HZ.out.1.weak hlo,fun i hi => ?_,?_,(Row.of_own HF.out.1).weak hgr0.out,?_,HXO.out,hgr.bel⟩
   ·obtain ⟨A,c,a,b⟩:=HZ.out.2.1 i hi
    exact ⟨A,c,a,b.weak hlo⟩
   ·rw [← HBS.out]; exact HZ.out.2.2.weak hlo
   ·rw [← HBS.out]; exact HF.out.2

end Go.Proofs.YtjggbpchmbdocaaGreatDoor
