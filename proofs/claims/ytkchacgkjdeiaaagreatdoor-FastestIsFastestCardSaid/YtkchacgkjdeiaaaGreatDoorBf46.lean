/- Texts of this seat, laid together: HpJ HpH HpW HpK HpN. -/
import Derived.Test.YtkchacgkjdeiaaaGreatDoorBf44
import Derived.Test.YtkchacgkjdeiaaaGreatDoorBf45
import Derived.Test.YtkchacgkjdeiaaaGreatDoorBf43
/- The task's closures at any state: see at an empty list of rooms, atGoal; pass as a function. -/
set_option linter.unusedVariables false
set_option linter.unusedSimpArgs false
namespace Go.Proofs.YtkchacgkjdeiaaaGreatDoor
open Go.RowKit

set_option maxHeartbeats 2000000 in
theorem see_none (t : Nat) (x : StE) (w : World) (h0 : w.cell? ⟨t,3,none⟩ = some (.slice none 0 0)) : Calls Tryz.prog 173 #[.pointer (some ⟨t,0,none⟩),stV x] w fun e w' => e = .returned (stV x) ∧ Below w.heap.size w w':=by
 have zt : t < w.heap.size:=World.block_lt_of_cell? w _ h0;have hB : Blk (w.alloc (.cells #[.int .i64 (x.r : Int),.int .i64 (x.b : Int),.int .i64 (x.s : Int)] 232)) w.heap.size 232 #[.int .i64 (x.r : Int),.int .i64 (x.b : Int),.int .i64 (x.s : Int)]:=Blk.new _ _ _
 have hS : (fun w' : World => w'.cell? ⟨t,3,none⟩ = some (.slice none 0 0) ∧ w'.cell? ⟨w.heap.size,2,none⟩ = some (.int .i64 (x.s : Int))) (((w.alloc (.cells #[.int .i64 (x.r : Int),.int .i64 (x.b : Int),.int .i64 (x.s : Int)] 232)).alloc (.cells #[.int .i64 0,.int .i64 0,.int .i64 0] 232)).drew):=⟨by simp [go_sem,h0,zt,Nat.ne_of_lt zt,Nat.ne_of_lt (Nat.lt_succ_of_lt zt)],((hB.alloc _).drew).w3.2.2⟩
 have hd : decide ((x.s : Int) < 0) = false:=decide_eq_false (by omega);unfold stV
 go_enter Tryz.func173,Tryz.ntmps173
 go_wp2_with fail;refine wp_loop_rounds 1 ?_;rw [rounds_succ];go_upto_region 1 with (fail);refine wp_region_held_drew (S:=(fun w' => w'.cell? ⟨t,3,none⟩ = some (.slice none 0 0) ∧ w'.cell? ⟨w.heap.size,2,none⟩ = some (.int .i64 (x.s : Int)))) (by kernel_rfl) (hS) (fun hHeld => ?_);(refine QU 0 ?_; (try simp only [Act.put,Q3,Q4,Q5]));(refine QU 1 ?_; (try simp only [Act.put,Q3,Q4,Q5]));(refine QU 2 ?_; (try simp only [Act.put,Q3,Q4,Q5]));(refine QU 3 ?_; (try simp only [Act.put,Q3,Q4,Q5]));(refine QU 4 ?_; (try simp only [Act.put,Q3,Q4,Q5]));(refine QU 5 ?_; (try simp only [Act.put,Q3,Q4,Q5]));refine QR 6 fun K hK => ?_;go_simp;refine hK.out _ _ (hS) (fun hHeld => ?_);clear hK K;(try simp only [Act.put,Q3,Q4,Q5]);(refine QU 7 ?_; (try simp only [Act.put,Q3,Q4,Q5]));(refine QU 8 ?_; (try simp only [Act.put,Q3,Q4,Q5]));(refine wpAnyH_take (i:=9) (v:=undef) (by (simp only [Q0,Q1,Q2]; rfl)) (by kernel_rfl) (by kernel_rfl) (by kernel_rfl) (by exact fun _ _ _ h => h) (Or.inr ⟨by rfl,rfl⟩) (by assumption) ?_; (try simp only [Act.put,Q3,Q4,Q5]));(refine wpAnyH_take (i:=10) (v:=undef) (by (simp only [Q0,Q1,Q2]; rfl)) (by kernel_rfl) (by kernel_rfl) (by kernel_rfl) (by exact fun _ _ _ h => h) (Or.inr ⟨by rfl,rfl⟩) (by assumption) ?_; (try simp only [Act.put,Q3,Q4,Q5]));(refine wpAnyH_take (i:=11) (v:=undef) (by (simp only [Q0,Q1,Q2]; rfl)) (by kernel_rfl) (by kernel_rfl) (by kernel_rfl) (by exact fun _ _ _ h => h) (Or.inr ⟨by rfl,rfl⟩) (by assumption) ?_; (try simp only [Act.put,Q3,Q4,Q5]));(refine wpAnyH_take (i:=12) (v:=undef) (by (simp only [Q0,Q1,Q2]; rfl)) (by kernel_rfl) (by kernel_rfl) (by kernel_rfl) (by exact fun _ _ _ h => h) (Or.inr ⟨by rfl,rfl⟩) (by assumption) ?_; (try simp only [Act.put,Q3,Q4,Q5]));(refine wpAnyH_take (i:=13) (v:=undef) (by (simp only [Q0,Q1,Q2]; rfl)) (by kernel_rfl) (by kernel_rfl) (by kernel_rfl) (by exact fun _ _ _ h => h) (Or.inr ⟨by rfl,rfl⟩) (by assumption) ?_; (try simp only [Act.put,Q3,Q4,Q5]));(refine wpAnyH_take (i:=14) (v:=undef) (by (simp only [Q0,Q1,Q2]; rfl)) (by kernel_rfl) (by kernel_rfl) (by kernel_rfl) (by exact fun _ _ _ h => h) (Or.inr ⟨by rfl,rfl⟩) (by assumption) ?_; (try simp only [Act.put,Q3,Q4,Q5]));(refine wpAnyH_take (i:=15) (v:=undef) (by (simp only [Q0,Q1,Q2]; rfl)) (by kernel_rfl) (by kernel_rfl) (by kernel_rfl) (by exact fun _ _ _ h => h) (Or.inr ⟨by rfl,rfl⟩) (by assumption) ?_; (try simp only [Act.put,Q3,Q4,Q5]));(refine wpAnyH_take (i:=16) (v:=undef) (by (simp only [Q0,Q1,Q2]; rfl)) (by kernel_rfl) (by kernel_rfl) (by kernel_rfl) (by exact fun _ _ _ h => h) (Or.inr ⟨by rfl,rfl⟩) (by assumption) ?_; (try simp only [Act.put,Q3,Q4,Q5]));(refine wpAnyH_take (i:=17) (v:=undef) (by (simp only [Q0,Q1,Q2]; rfl)) (by kernel_rfl) (by kernel_rfl) (by kernel_rfl) (by exact fun _ _ _ h => h) (Or.inr ⟨by rfl,rfl⟩) (by assumption) ?_; (try simp only [Act.put,Q3,Q4,Q5]));(refine wpAnyH_take (i:=18) (v:=undef) (by (simp only [Q0,Q1,Q2]; rfl)) (by kernel_rfl) (by kernel_rfl) (by kernel_rfl) (by exact fun _ _ _ h => h) (Or.inr ⟨by rfl,rfl⟩) (by assumption) ?_; (try simp only [Act.put,Q3,Q4,Q5]));(refine wpAnyH_take (i:=19) (v:=undef) (by (simp only [Q0,Q1,Q2]; rfl)) (by kernel_rfl) (by kernel_rfl) (by kernel_rfl) (by exact fun _ _ _ h => h) (Or.inr ⟨by rfl,rfl⟩) (by assumption) ?_; (try simp only [Act.put,Q3,Q4,Q5]));(refine QU 20 ?_; (try simp only [Act.put,Q3,Q4,Q5]));refine wpAnyH_done (by kernel_rfl) ?_ _;go_wp2_with fail;refine bodyPost_ret (v:=.agg #[.int .i64 (x.r : Int),.int .i64 (x.b : Int),.int .i64 (x.s : Int)]) (by simp [results,Tryz.results173,go_sem]) rfl ?_;exact ⟨rfl,(by repeat (first | exact Below.refl _ _ | refine Below.alloc ?_ (by first | omega | (simp; omega) | simp) _ | refine below_drewN' ?_ _ | refine Below.drew ?_))⟩
set_option maxHeartbeats 2000000 in
theorem atGoal_any (p : Nat) (gl : Int) (x : StE) (w : World) (h : w.cell? ⟨p,6,none⟩ = some (.int .i64 gl)) : Calls Tryz.prog 138 #[.pointer (some ⟨p,0,none⟩),stV x] w fun e w' => e = .returned (.bool (decide ((x.r : Int) = gl))) ∧ Below w.heap.size w w':=by
 have hA : (w.alloc (.cells #[.int .i64 (x.r : Int),.int .i64 (x.b : Int),.int .i64 (x.s : Int)] 232)).drew.cell? ⟨p,6,none⟩ = some (.int .i64 gl):=cell_al h _;have hB : Blk (w.alloc (.cells #[.int .i64 (x.r : Int),.int .i64 (x.b : Int),.int .i64 (x.s : Int)] 232)).drew w.heap.size 232 #[.int .i64 (x.r : Int),.int .i64 (x.b : Int),.int .i64 (x.s : Int)]:=(Blk.new _ _ _).drew;have he : ((x.r : Int) == gl) = decide ((x.r : Int) = gl):=rfl;unfold stV
 go_enter Tryz.func138,Tryz.ntmps138
 go_upto_region 1 with (fail);refine wp_region_held_drew (S:=(fun w' => w'.cell? ⟨p,6,none⟩ = some (.int .i64 gl) ∧ w'.cell? ⟨w.heap.size,0,none⟩ = some (.int .i64 (x.r : Int)))) (by kernel_rfl) (⟨hA,hB.w3.1⟩) (fun hHeld => ?_);(refine QU 0 ?_; (try simp only [Act.put,Q3,Q4,Q5]));(refine QU 1 ?_; (try simp only [Act.put,Q3,Q4,Q5]));(refine QU 2 ?_; (try simp only [Act.put,Q3,Q4,Q5]));(refine QU 3 ?_; (try simp only [Act.put,Q3,Q4,Q5]));(refine QU 4 ?_; (try simp only [Act.put,Q3,Q4,Q5]));(refine QU 5 ?_; (try simp only [Act.put,Q3,Q4,Q5]));(refine QU 6 ?_; (try simp only [Act.put,Q3,Q4,Q5]));(refine QU 7 ?_; (try simp only [Act.put,Q3,Q4,Q5]));refine wpAnyH_done (by kernel_rfl) ?_ _;go_wp2_with fail;go_ret;exact ⟨rfl,(by repeat (first | exact Below.refl _ _ | refine Below.alloc ?_ (by first | omega | (simp; omega) | simp) _ | refine below_drewN' ?_ _ | refine Below.drew ?_))⟩
def passX (rs : List RoomE) (T : List (List UInt8)) (x : StE) (d : DoorE) : Option StE :=
 if bits .andNot .i64 (bitsT T d.needs : Int) (x.b : Int) = 0 then some ⟨ixR rs d.dst,(bits .or .i64 (bits .andNot .i64 (x.b : Int) (bitsT T d.takes : Int)) (bitsT T (givesOf rs d.dst) : Int)).toNat,x.s⟩ else none
def GoodX (rs : List RoomE) (T : List (List UInt8)) (x : StE) : Prop:=(∃ key ∈ rs.map RoomE.key,x.r = ixR rs key) ∧ (∃ th,ThOk T th ∧ x.b = bitsT T th) ∧ x.s ≤ 5
theorem GoodX.ok {rs : List RoomE} {T : List (List UInt8)} {x : StE} (h : GoodX rs T x) (hT : T.length ≤ 10) (hr : rs.length ≤ 100) : x.r < 100 ∧ x.b < 1024 ∧ x.s < 6:=by
 obtain ⟨⟨key,hk,e1⟩,⟨th,_,e2⟩,e3⟩:=h;have h1:=ixR_lt hk;have h2:=bitsT_lt hT th;omega
theorem passX_th {rs : List RoomE} {ds : List DoorE} {T th : List (List UInt8)} {x : StE} {d : DoorE} (hT : T.length ≤ 10) (hsub : ∀ y ∈ d.needs,y ∈ T) (hb : x.b = bitsT T th) : passX rs T x d = if ∀ s ∈ d.needs,s ∈ th then some ⟨ixR rs d.dst,bitsT T (thru rs th d),x.s⟩ else none:=by
 unfold passX;rw [hb]
 by_cases h : ∀ s ∈ d.needs,s ∈ th
 ·rw [if_pos h,if_pos ((bits_needs hT hsub).2 h),bits_thru hT,Int.toNat_natCast]
 ·rw [if_neg h,if_neg (fun e => h ((bits_needs hT hsub).1 e))]
theorem passX_good {rs : List RoomE} {ds : List DoorE} {T : List (List UInt8)} {x y : StE} {d : DoorE} (hTd : onceT (allT rs ds) = T) (hT : T.length ≤ 10) (hsub : ∀ y ∈ d.needs,y ∈ T) (hdst : d.dst ∈ rs.map RoomE.key) (hg : GoodX rs T x) (h : passX rs T x d = some y) : GoodX rs T y:=by
 obtain ⟨h1,⟨th,h2,e2⟩,h3⟩:=hg;rw [passX_th (ds:=ds) hT hsub e2] at h
 split at h
 ·injection h with h
  subst h;refine ⟨⟨d.dst,hdst,rfl⟩,⟨thru rs th d,?_,rfl⟩,h3⟩;rw [← hTd] at h2 ⊢;exact thru_ok d h2
 ·cases h
end Go.Proofs.YtkchacgkjdeiaaaGreatDoor
/- The walk of explore at any map. -/
namespace Go.Proofs.YtkchacgkjdeiaaaGreatDoor
open Go.RowKit Go.Sort Go.Maps

set_option maxHeartbeats 2000000 in
theorem pass_any {W : World} {lo mp : Nat} {q : WorP} {T : List (List UInt8)} {rs : List RoomE} {ds : List DoorE} {tr : List (List UInt8)} {wo st gl : List UInt8} (h : WorW W lo mp q T rs ds tr wo st gl) (hR : Right rs ds st gl) (hT : T.length ≤ 10) (hTd : onceT (allT rs ds) = T) {d : DoorE} (hd : d ∈ ds) (x : StE) (hg : GoodX rs T x) :
  Calls Tryz.prog 174 #[.pointer (some ⟨q.p,0,none⟩),stV x,.agg #[.int .i64 (ixR rs d.src : Int),.int .i64 (ixR rs d.dst : Int),.int .i64 d.time,.int .i64 (bitsT T d.needs : Int),.int .i64 (bitsT T d.takes : Int)]] W fun e w' => e = .returned (.tuple #[stV ((passX rs T x d).getD x),.bool (passX rs T x d).isSome]) ∧ Below W.heap.size W w':=by
 obtain ⟨th,_,hb⟩:=hg.2.1;have hdst:=hR.dst d hd
 by_cases hz : bits .andNot .i64 (bitsT T d.needs : Int) (x.b : Int) = 0
 ·have hp : passX rs T x d = some ⟨ixR rs d.dst,(bits .or .i64 (bits .andNot .i64 (x.b : Int) (bitsT T d.takes : Int)) (bitsT T (givesOf rs d.dst) : Int)).toNat,x.s⟩:=if_pos hz
  obtain ⟨b,off,e,_,hc⟩:=h.giveI hR.rup hdst;have h2:=h.cells.2.2.1;rw [e] at h2;have hn:=hR.rl;refine (pass_yes q.p b off q.gc rs.length (ixR rs d.dst) (x.r : Int) (x.b : Int) (x.s : Int) (ixR rs d.src : Int) d.time (bitsT T d.needs : Int) (bitsT T d.takes : Int) _ W h2 hc (ixR_lt hdst) (by omega) (by rw [hz]; rfl)).mono ?_;rintro e w' ⟨rfl,hbw⟩;refine ⟨?_,hbw⟩
  have hnn : ((bits .or .i64 (bits .andNot .i64 (x.b : Int) (bitsT T d.takes : Int)) (bitsT T (givesOf rs d.dst) : Int)).toNat : Int) = bits .or .i64 (bits .andNot .i64 (x.b : Int) (bitsT T d.takes : Int)) (bitsT T (givesOf rs d.dst) : Int):=by
   rw [hb,bits_thru hT,Int.toNat_natCast]
  rw [hp];simp only [Option.getD_some,Option.isSome_some,stV,hnn]
 ·have hp : passX rs T x d = none:=if_neg hz
  refine (pass_no q.p (x.r : Int) (x.b : Int) (x.s : Int) (ixR rs d.src : Int) (ixR rs d.dst : Int) d.time (bitsT T d.needs : Int) (bitsT T d.takes : Int) W (by simpa using hz)).mono ?_;rintro e w' ⟨rfl,hbw⟩;rw [hp];exact ⟨rfl,hbw⟩
def SeeOk (w0 : World) (t : Nat) (TC : Array Value) (sf : StE → StE) : Prop :=
 ∀ (W : World) (x : StE),Below w0.heap.size w0 W → Blk W t 236 TC → OkT x → Calls Tryz.prog 173 #[.pointer (some ⟨t,0,none⟩),stV x] W fun e w' => e = .returned (stV (sf x)) ∧ Below W.heap.size W w'
def nxX (rs : List RoomE) (T : List (List UInt8)) (ds : List DoorE) (tr : List (List UInt8)) (wo : List UInt8) (sf : StE → StE) (x : StE) : List (Nat × StE) :=
 (outN rs ds tr wo x.r).filterMap fun k => (passX rs T x (ds.getD k.toNat default)).map fun y => (k.toNat,sf y)
theorem outN_mem {rs : List RoomE} {ds : List DoorE} {tr : List (List UInt8)} {wo : List UInt8} {r : Nat} {k : Int} (h : k ∈ outN rs ds tr wo r) : ∃ j : Nat,k = (j : Int) ∧ j < ds.length ∧ roomI rs (ds.getD j default).src = (r : Int) ∧ okD tr wo (ds.getD j default) = true:=by
 unfold outN at h;obtain ⟨j,hj,e⟩:=List.mem_map.1 h;obtain ⟨h1,h2⟩:=List.mem_filter.1 hj;simp only [Bool.and_eq_true,beq_iff_eq] at h2;exact ⟨j,e.symm,List.mem_range.1 h1,h2.1,h2.2⟩
theorem outN_len (rs : List RoomE) (ds : List DoorE) (tr : List (List UInt8)) (wo : List UInt8) (r : Nat) : (outN rs ds tr wo r).length ≤ ds.length:=by
 unfold outN;rw [List.length_map];exact Nat.le_trans (List.length_filter_le _ _) (by simp)
section
variable {rs : List RoomE} {T : List (List UInt8)} {ds : List DoorE} {tr : List (List UInt8)} {wo : List UInt8} {sf : StE → StE} {ef : StE → Bool} {s0 : StE} {sts : List StE} {stp : List (List (Nat × Nat))} {bs : List Bool} {gd : StE → Prop}
theorem nxX_len (x : StE) : (nxX rs T ds tr wo sf x).length ≤ ds.length:=by
 unfold nxX;exact Nat.le_trans (List.length_filterMap_le _ _) (outN_len ..)
theorem nxX_mem {x : StE} {p : Nat × StE} (h : p ∈ nxX rs T ds tr wo sf x) : p.1 < ds.length ∧ ∃ y,passX rs T x (ds.getD p.1 default) = some y ∧ p.2 = sf y ∧ roomI rs (ds.getD p.1 default).src = (x.r : Int) ∧ okD tr wo (ds.getD p.1 default) = true:=by
 unfold nxX at h;obtain ⟨k,hk,h2⟩:=List.mem_filterMap.1 h;obtain ⟨j,rfl,h3,h4,h5⟩:=outN_mem hk;rw [Int.toNat_natCast] at h2;obtain ⟨y,hy,e⟩:=Option.map_eq_some_iff.1 h2;subst e;exact ⟨h3,y,hy,rfl,h4,h5⟩
theorem ExOk.graph (h : ExOk (nxX rs T ds tr wo sf) ef gd s0 sts stp) (hdl : ds.length ≤ 500) : (∀ l ∈ stp,l.length ≤ 500) ∧ (∀ i k j,(k,j) ∈ stp.getD i [] → j < sts.length ∧ k < ds.length) ∧ ∀ i : Nat,(sts.map ef)[i]? = some true → stp.getD i [] = []:=by
 have key : ∀ i : Nat,i < sts.length → ∃ x,sts[i]? = some x ∧ stp[i]? = some (if ef x then [] else numS sts (nxX rs T ds tr wo sf x)):=fun i hi => ⟨sts[i],List.getElem?_eq_getElem hi,h.steps i _ (List.getElem?_eq_getElem hi)⟩
 refine ⟨fun l hl => ?_,fun i k j hk => ?_,fun i hi => ?_⟩
 ·obtain ⟨i,hi,rfl⟩:=List.mem_iff_getElem.1 hl
  obtain ⟨x,_,h2⟩:=key i (by rw [← h.len]; exact hi);rw [List.getElem?_eq_getElem hi] at h2;rw [Option.some.inj h2]
  split
  ·simp
  ·unfold numS; rw [List.length_map]; exact Nat.le_trans (nxX_len x) hdl
 ·rw [List.getD_eq_getElem?_getD] at hk
  by_cases hi : i < sts.length
  ·obtain ⟨x,h1,h2⟩:=key i hi
   rw [h2] at hk
   by_cases he : ef x = true
   ·rw [if_pos he] at hk; cases hk
   ·rw [if_neg he] at hk
    obtain ⟨p,hp,e⟩:=List.mem_map.1 hk;injection e with e1 e2;subst e1 e2;exact ⟨List.idxOf_lt_length_of_mem (h.closed x (List.mem_of_getElem? h1) (by simpa using he) p hp),(nxX_mem hp).1⟩
  ·rw [List.getElem?_eq_none (by rw [h.len]; omega)] at hk; cases hk
 ·rw [List.getElem?_map] at hi
  obtain ⟨x,h1,h2⟩:=Option.map_eq_some_iff.1 hi;rw [List.getD_eq_getElem?_getD,h.steps i x h1,if_pos h2]; rfl
end
section
variable {W W' : World} {lo : Nat} {eds : List Value} {stp : List (List (Nat × Nat))}
theorem StpW.push (h : StpW W lo eds stp) {i : Nat} {R xs : List (Nat × Nat)} (hR : stp[i]? = some R) {A A' : Option Addr} {c c' : Nat} (he : eds[i]? = some (.slice A R.length c)) (hg : W.grownBy W' (Value.slice A R.length c).ownBlock)
  (ho : W'.ownsRow lo 246 2 (.slice A' xs.length c') xs.length (xs.flatMap encG)) (hb : (Value.slice A' xs.length c').ownBlock = (Value.slice A R.length c).ownBlock ∨ (Value.slice A' xs.length c').ownBlock = some W.heap.size) : StpW W' lo (eds.set i (.slice A' xs.length c')) (stp.set i xs):=by
 obtain ⟨hi,rfl⟩:=List.getElem?_eq_some_iff.1 hR;have hl:=h.len
 have hie : i < eds.length:=by omega
 have hget : ∀ j : Nat,(eds.set i (Value.slice A' xs.length c'))[j]? = if j = i then some (.slice A' xs.length c') else eds[j]?:=fun j => by
  by_cases e : j = i
  ·subst e; rw [if_pos rfl,List.getElem?_set_self hie]
  ·rw [if_neg e,List.getElem?_set_ne (Ne.symm e)]
 have hfar : ∀ (j : Nat) (v : Value) (b : Nat),j ≠ i → eds[j]? = some v → v.ownBlock = some b → (Value.slice A' xs.length c').ownBlock ≠ some b:=fun j v b hji hv hvb hx => by
  rcases hb with hb | hb
  ·rw [hb] at hx
   exact h.far j i v _ b hji hv he hvb hx
  ·rw [hb] at hx
   injection hx with hx
   have hj : j < stp.length:=by have:=(List.getElem?_eq_some_iff.1 hv).1; omega
   obtain ⟨A2,c2,a2,b2⟩:=h.row j hj;rw [hv] at a2;injection a2 with a2;subst a2;have:=(b2.lt b hvb).2;omega
 refine ⟨by simp [hl],fun j hj => ?_,fun j1 j2 u v b hne hu hv hub => ?_⟩
 ·have hj' : j < stp.length:=by simpa using hj
  rw [hget]
  by_cases e : j = i
  ·subst e
   refine ⟨A',c',?_,?_⟩
   ·rw [if_pos rfl]; simp
   ·simpa using ho
  ·obtain ⟨A2,c2,a2,b2⟩:=h.row j hj'
   have e3 : (stp.set i xs)[j]'hj = stp[j]:=by rw [List.getElem_set_ne (Ne.symm e)]
   rw [if_neg e,e3];refine ⟨A2,c2,a2,b2.kept hg ?_⟩
   cases hv : (Value.slice A2 stp[j].length c2).ownBlock with
   | none => exact .inl rfl
   | some b =>
    right
    intro he2;exact h.far j i _ _ b e a2 he hv he2.symm
 ·rw [hget] at hu hv
  by_cases e1 : j1 = i
  ·subst e1
   rw [if_pos rfl] at hu;injection hu with hu;subst hu;rw [if_neg (Ne.symm hne)] at hv
   exact fun hvb => hfar j2 v b (Ne.symm hne) hv hvb hub
  ·rw [if_neg e1] at hu
   by_cases e2 : j2 = i
   ·subst e2
    rw [if_pos rfl] at hv;injection hv with hv;subst hv;exact hfar j1 u b e1 hu hub
   ·rw [if_neg e2] at hv
    exact h.far j1 j2 u v b hne hu hv hub
theorem StpW.rowQ (h : StpW W lo eds stp) {i : Nat} {R : List (Nat × Nat)} (hR : stp[i]? = some R) : ∃ A c,eds[i]? = some (.slice A R.length c) ∧ W.ownsRow lo 246 2 (.slice A R.length c) R.length (R.flatMap encG):=by
 obtain ⟨hi,rfl⟩:=List.getElem?_eq_some_iff.1 hR;exact h.row i hi
variable {p g mb n s : Nat} {sts : List StE} {bs : List Bool} {eb : Nat} {NA EA BA : Option Addr} {nc ec bc : Nat} {cs : Array Value}
theorem GY.pokeS (h : GY lo W p g mb n sts eds stp bs NA EA BA nc ec bc) (hs : Blk W s 232 cs) (hne : obk NA ≠ some s) (i : Nat) (u : Value) : GY lo (W.setCell ⟨s,i,none⟩ u) p g mb n sts eds stp bs NA EA BA nc ec bc :=
 have hg:=grown_poke W s i u
 ⟨h.g.other hg hs.kind (by decide),h.mb.other hg hs.kind (by decide),h.N.kept hg (by
  rw [obk_is]
  cases hv : obk NA with
  | none => exact .inl rfl
  | some b => right; intro e; injection e with e; subst e; exact hne hv),own_other h.E hg hs.kind (by decide),h.S.other hg hs.kind (by decide),own_other h.B hg hs.kind (by decide)⟩
theorem GY.poke3 (h : GY lo W p g mb n sts eds stp bs NA EA BA nc ec bc) {a b c : Value} (hs : Blk W s 232 #[a,b,c]) (hne : obk NA ≠ some s) (x y z : Value) : GY lo (((W.setCell ⟨s,0,none⟩ x).setCell ⟨s,1,none⟩ y).setCell ⟨s,2,none⟩ z) p g mb n sts eds stp bs NA EA BA nc ec bc :=
 ((h.pokeS hs hne 0 x).pokeS (hs.poke 0 x) hne 1 y).pokeS ((hs.poke 0 x).poke 1 y) hne 2 z
theorem GX.poke3 {w0 : World} {t mv gv : Nat} {TC : Array Value} (h : GX w0 W t mv gv g mb TC) {a b c : Value} (hs : Blk W s 232 #[a,b,c]) (hw : w0.heap.size ≤ s) (x y z : Value) : GX w0 (((W.setCell ⟨s,0,none⟩ x).setCell ⟨s,1,none⟩ y).setCell ⟨s,2,none⟩ z) t mv gv g mb TC :=
 have hr : ∀ k,some s = some k → w0.heap.size ≤ k:=fun k hk => by injection hk with hk; omega
 ((h.other (grown_poke W s 0 x) hr hs.kind (by decide)).other (grown_poke _ s 1 y) hr (hs.poke 0 x).kind (by decide)).other (grown_poke _ s 2 z) hr ((hs.poke 0 x).poke 1 y).kind (by decide)
theorem GY.push (h : GY lo W p g mb n sts eds stp bs NA (some ⟨eb,0,none⟩) BA nc ec bc) {i : Nat} {R xs : List (Nat × Nat)} (hR : stp[i]? = some R) {A A' : Option Addr} {c c' : Nat} (he : eds[i]? = some (.slice A R.length c)) (hg : W.grownBy W' (Value.slice A R.length c).ownBlock) (ho0 : W.ownsRow lo 246 2 (.slice A R.length c) R.length (R.flatMap encG))
  (ho : W'.ownsRow lo 246 2 (.slice A' xs.length c') xs.length (xs.flatMap encG)) (hb : (Value.slice A' xs.length c').ownBlock = (Value.slice A R.length c).ownBlock ∨ (Value.slice A' xs.length c').ownBlock = some W.heap.size) : GY lo (W'.setCell ⟨eb,i,none⟩ (.slice A' xs.length c')) p g mb n sts (eds.set i (.slice A' xs.length c')) (stp.set i xs) bs NA (some ⟨eb,0,none⟩) BA nc ec bc:=by
 have hk:=own_kind ho0;have hE:=own_other h.E hg hk (by decide);have hkE:=own_kind hE;have hp:=grown_poke W' eb i (.slice A' xs.length c');exact ⟨(h.g.other hg hk (by decide)).other hp hkE (by decide),(h.mb.other hg hk (by decide)).other hp hkE (by decide),own_other (own_other h.N hg hk (by decide)) hp hkE (by decide),(hE.stored i _).1,(h.S.push hR he hg ho hb).other hp hkE (by decide),own_other (own_other h.B hg hk (by decide)) hp hkE (by decide)⟩
end
theorem st_at {sts : List StE} {i : Nat} {x : StE} (h : sts[i]? = some x) (j : Nat) (hj : j < 3) : (sts.flatMap encT)[i * 3 + j]? = (encT x)[j]?:=by
 obtain ⟨hi,rfl⟩:=List.getElem?_eq_some_iff.1 h;exact flat_at encT 3 encT_len sts i hi j hj
def IxC (w0 : World) (lo p t mv gv g mb : Nat) (TC : Array Value) (nx : StE → List (Nat × StE)) (ef : StE → Bool) (gd : StE → Prop) (s0 : StE) (i : Nat) (x : StE) (dn : List (Nat × StE)) (k : Nat) (yy : StE) (e : Ending) (w' : World) : Prop :=
 ∃ (r n nc ec bc : Nat) (NA EA BA : Option Addr) (sts : List StE) (eds : List Value) (stp : List (List (Nat × Nat))) (bs : List Bool) (R : List (Nat × Nat)),e = .returned (.int .i64 (r : Int)) ∧ lo ≤ w'.heap.size ∧ GX w0 w' t mv gv g mb TC ∧ GY lo w' p g mb n sts eds stp bs NA EA BA nc ec bc ∧ n ≤ 614400 ∧ i < n ∧ r ≤ 614400 ∧
  Hid (sts.length = n ∧ sts[i]? = some x ∧ stp[i]? = some R ∧ R.length ≤ 614400 ∧ ExI nx ef gd s0 sts (stp.set i (R ++ [(k,r)])) bs i (dn ++ [(k,yy)]))
theorem indexQ_any (w0 w : World) (lo p t mv gv g mb n : Nat) (sts : List StE) (eds : List Value) (stp : List (List (Nat × Nat))) (bs : List Bool) (NA EA BA : Option Addr) (nc ec bc : Nat) (fid : FuncId) (pre post : Array Value) (t0 t1 t2 t3 : Value) (ef : StE → Bool) (yy : StE)
  (hgr : GX w0 w t mv gv g mb #[t0,t1,t2,t3,.func (.func fid) pre post]) (hgn : GY lo w p g mb n sts eds stp bs NA EA BA nc ec bc) (hx : OkT yy) (hef : EndsOk w0 t #[t0,t1,t2,t3,.func (.func fid) pre post] fid pre post ef) (hlo : w0.heap.size ≤ lo) (hlg : w0.heap.size ≤ g) (hlm : w0.heap.size ≤ mb) (hl : lo ≤ w.heap.size) (hn : sts.length = n) (hnb : n ≤ 614400)
  {nx : StE → List (Nat × StE)} {gd : StE → Prop} {s0 x : StE} {i k : Nat} {dn : List (Nat × StE)} (hE : ExI nx ef gd s0 sts stp bs i dn) (hi : sts[i]? = some x) (hg : gd yy) (hdn : dn.length ≤ 614400) (hfew : ∀ l : List StE,l.Nodup → (∀ x ∈ l,gd x) → l.length ≤ 614400) :
  Calls Tryz.prog 172 #[stV yy,.pointer (some ⟨mv,0,none⟩),.pointer (some ⟨gv,0,none⟩),.pointer (some ⟨t,0,none⟩)] w (IxC w0 lo p t mv gv g mb #[t0,t1,t2,t3,.func (.func fid) pre post] nx ef gd s0 i x dn k yy):=by
 have hil : i < sts.length:=(List.getElem?_eq_some_iff.1 hi).1
 have hR : stp[i]? = some (numS sts dn):=by
  have:=hE.steps i x hi
  rwa [if_neg (Nat.lt_irrefl _),if_pos rfl] at this
 have hRl : (numS sts dn).length ≤ 614400:=by unfold numS; rw [List.length_map]; exact hdn
 by_cases hm : yy ∈ sts
 ·refine (index_old w0 w lo p t mv gv g mb n sts eds stp bs NA EA BA nc ec bc fid pre post t0 t1 t2 t3 ef yy hgr hgn hx hm hl).mono ?_
  rintro e w' ⟨rfl,zl,hgr,NA,EA,BA,nc,ec,bc,hgn⟩;have h1:=List.idxOf_lt_length_of_mem hm;exact ⟨_,n,nc,ec,bc,NA,EA,BA,sts,eds,stp,bs,_,rfl,zl,hgr,hgn,hnb,by omega,by omega,Lib.hid ⟨hn,hi,hR,hRl,hE.old hm hR⟩⟩
 ·refine (index_new w0 w lo p t mv gv g mb n sts eds stp bs NA EA BA nc ec bc fid pre post t0 t1 t2 t3 ef yy hgr hgn hx hm hef hlo hlg hlm hl hn (by omega)).mono ?_
  rintro e w' ⟨rfl,zl,hgr,NA,EA,BA,nc,ec,bc,hgn⟩;have hN:=hE.new (k:=k) hm hg hR;rw [hn] at hN;have h1:=hfew _ hN.nodup hN.good;rw [List.length_append,hn] at h1;have h2 : n + 1 ≤ 614400:=h1
  have hil2 : i < stp.length:=by rw [hE.len]; exact hil
  exact ⟨n,n + 1,nc,ec,bc,NA,EA,BA,_,_,_,_,numS sts dn,rfl,zl,hgr,hgn,h2,by omega,by omega,Lib.hid ⟨by simp [hn],by rw [List.getElem?_append_left hil]; exact hi,by rw [List.getElem?_append_left hil2]; exact hR,hRl,hN⟩⟩
theorem needs_sub {rs : List RoomE} {ds : List DoorE} {T : List (List UInt8)} {d : DoorE} (hTd : onceT (allT rs ds) = T) (hd : d ∈ ds) : ∀ y ∈ d.needs,y ∈ T:=fun y hy => by
 rw [← hTd];exact ((onceT_spec _).2 y).2 (List.mem_append_right _ (List.mem_flatMap.2 ⟨d,hd,List.mem_append_left _ hy⟩))
theorem StpW.read {W : World} {lo n ec eb : Nat} {eds : List Value} {stp : List (List (Nat × Nat))} (h : StpW W lo eds stp) (hE : W.ownsRow lo 244 1 (.slice (some ⟨eb,0,none⟩) n ec) n eds) : StpR W lo eb stp:=fun i hi => by
 obtain ⟨A,c,a,b⟩:=h.row i hi;exact ⟨A,c,own_at hE i a,Row.of_own b⟩
def ExPost (w : World) (p : Nat) (nx : StE → List (Nat × StE)) (ef : StE → Bool) (gd : StE → Prop) (s0 : StE) (tm : Nat → Int) (e : Ending) (w' : World) : Prop :=
 ∃ (g n nc eb ec bc fb fc : Nat) (NA BA : Option Addr) (sts : List StE) (stp : List (List (Nat × Nat))) (far : List (Int × Int)),e = .returned (.pointer (some ⟨g,0,none⟩)) ∧ sts.length = n ∧
  Blk w' g 243 #[.pointer (some ⟨p,0,none⟩),.slice NA n nc,.slice (some ⟨eb,0,none⟩) n ec,.slice BA n bc,.slice (some ⟨fb,0,none⟩) n fc] ∧
  Row w' w.heap.size 3 NA n (sts.flatMap encT) ∧ StpR w' w.heap.size eb stp ∧ Row w' w.heap.size 1 BA n ((sts.map ef).map Value.bool) ∧ Row w' w.heap.size 2 (some ⟨fb,0,none⟩) n (prs far) ∧
  FarOk n stp (sts.map ef) tm far ∧ ExOk nx ef gd s0 sts stp ∧ Below w.heap.size w w'

set_option maxHeartbeats 8000000 in
set_option maxRecDepth 100000 in
theorem explore_any (w : World) (lo0 mp : Nat) (q0 : WorP) (T : List (List UInt8)) (rs : List RoomE) (ds : List DoorE) (tr : List (List UInt8)) (wo st gl : List UInt8) (hw : WorW w lo0 mp q0 T rs ds tr wo st gl) (hR : Right rs ds st gl) (hTd : onceT (allT rs ds) = T)
  (x0 : StE) (hg0 : GoodX rs T x0) (RV : Value) (pre post : Array Value) (fid : FuncId) (ef : StE → Bool) (sf : StE → StE) (hsf : ∀ x,GoodX rs T x → GoodX rs T (sf x)) (hsee : ∀ t,SeeOk w t #[.int .i64 (x0.r : Int),.int .i64 (x0.b : Int),.int .i64 (x0.s : Int),RV,.func (.func fid) pre post] sf) (hef : ∀ t,EndsOk w t #[.int .i64 (x0.r : Int),.int .i64 (x0.b : Int),.int .i64 (x0.s : Int),RV,.func (.func fid) pre post] fid pre post ef) :
  Calls Tryz.prog 136 #[.pointer (some ⟨q0.p,0,none⟩),.agg #[.int .i64 (x0.r : Int),.int .i64 (x0.b : Int),.int .i64 (x0.s : Int),RV,.func (.func fid) pre post]] w (ExPost w q0.p (nxX rs T ds tr wo sf) ef (GoodX rs T) (sf x0) (fun k => (ds.getD k default).time)):=by
 have hmk : ∀ w : World,(Instr.makeMap 277 none).run Tryz.prog w = .ok (.map (some w.heap.size)) (w.alloc (.map #[] 0)):=fun w => by kernel_rfl
 have hTl : T.length ≤ 10:=by rw [← hTd]; exact hR.few
 have hrl:=hR.rl;have HGO : Hid (∀ x,GoodX rs T x → OkT x ∧ x.r < 100 ∧ x.b < 1024 ∧ x.s < 6):=Lib.hid (fun x hx => by have:=hx.ok hTl hrl; exact ⟨⟨by omega,by omega,by omega⟩,this⟩);have HFEW : Hid (∀ l : List StE,l.Nodup → (∀ x ∈ l,GoodX rs T x) → l.length ≤ 614400):=Lib.hid (fun l hn hg => few_states hn (fun x hx => (hg x hx).ok hTl hrl));have HS0:=Lib.hid (HGO.out _ hg0).1;have HS1:=Lib.hid (HGO.out _ (hsf _ hg0)).1;have HG1:=Lib.hid (hsf _ hg0);have HW:=Lib.hid hw;have HR:=Lib.hid hR;have HTD:=Lib.hid hTd;have HSF:=Lib.hid hsf;have HSEE:=Lib.hid hsee;have HEF:=Lib.hid hef;clear hw hR hTd hg0 hsf hsee hef
 go_enter Tryz.func136,Tryz.ntmps136
 go_wp2_with fail;clear hmk
 have hmp : MapT (((((w.alloc (.cells #[.int .i64 (x0.r : Int),.int .i64 (x0.b : Int),.int .i64 (x0.s : Int),RV,.func (.func fid) pre post] 236)).alloc (.cells #[.pointer (some ⟨q0.p,0,none⟩),.slice none 0 0,.slice none 0 0,.slice none 0 0,.slice none 0 0] 243)).alloc (.cells #[.pointer (some ⟨w.heap.size + 1,0,none⟩)] 191)).alloc (.map #[] 0)).alloc (.cells #[.map (some (w.heap.size + 1 + 1 + 1))] 277)) (w.heap.size + 1 + 1 + 1) 0 (ixF []):=by
  have e : ixF [] = fun _ => none:=by funext x; simp [ixF]
  rw [e];have:=(MapT.made (((w.alloc (.cells #[.int .i64 (x0.r : Int),.int .i64 (x0.b : Int),.int .i64 (x0.s : Int),RV,.func (.func fid) pre post] 236)).alloc (.cells #[.pointer (some ⟨q0.p,0,none⟩),.slice none 0 0,.slice none 0 0,.slice none 0 0,.slice none 0 0] 243)).alloc (.cells #[.pointer (some ⟨w.heap.size + 1,0,none⟩)] 191))).alloc (.cells #[.map (some (w.heap.size + 1 + 1 + 1))] 277)
  simpa using this
 have hgr : GX w (((((w.alloc (.cells #[.int .i64 (x0.r : Int),.int .i64 (x0.b : Int),.int .i64 (x0.s : Int),RV,.func (.func fid) pre post] 236)).alloc (.cells #[.pointer (some ⟨q0.p,0,none⟩),.slice none 0 0,.slice none 0 0,.slice none 0 0,.slice none 0 0] 243)).alloc (.cells #[.pointer (some ⟨w.heap.size + 1,0,none⟩)] 191)).alloc (.map #[] 0)).alloc (.cells #[.map (some (w.heap.size + 1 + 1 + 1))] 277)) w.heap.size (w.heap.size + 1 + 1 + 1 + 1) (w.heap.size + 1 + 1) (w.heap.size + 1) (w.heap.size + 1 + 1 + 1) #[.int .i64 (x0.r : Int),.int .i64 (x0.b : Int),.int .i64 (x0.s : Int),RV,.func (.func fid) pre post] :=
  ⟨(by repeat (first | exact Below.refl _ _ | refine Below.alloc ?_ (by first | omega | (simp; omega) | simp) _ | refine below_drewN' ?_ _ | refine Below.drew ?_)),Blk.at_ _ (by simp),((Blk.at_ _ (by simp)).alloc _).alloc _,((((Blk.new _ _ _).alloc _).alloc _).alloc _).alloc _⟩
 obtain ⟨lo,hgt,hlo5⟩ : ∃ lo,w.heap.size + 1 < lo ∧ lo ≤ w.heap.size + 5:=⟨w.heap.size + 2,by omega,by omega⟩
 have hgn : GY lo (((((w.alloc (.cells #[.int .i64 (x0.r : Int),.int .i64 (x0.b : Int),.int .i64 (x0.s : Int),RV,.func (.func fid) pre post] 236)).alloc (.cells #[.pointer (some ⟨q0.p,0,none⟩),.slice none 0 0,.slice none 0 0,.slice none 0 0,.slice none 0 0] 243)).alloc (.cells #[.pointer (some ⟨w.heap.size + 1,0,none⟩)] 191)).alloc (.map #[] 0)).alloc (.cells #[.map (some (w.heap.size + 1 + 1 + 1))] 277)) q0.p (w.heap.size + 1) (w.heap.size + 1 + 1 + 1) 0 [] [] [] [] none none none 0 0 0 :=
  ⟨(((Blk.at_ _ (by simp)).alloc _).alloc _).alloc _,hmp,World.ownsRow_nil _ _ _ _,World.ownsRow_nil _ _ _ _,StpW.nil_ _ _,World.ownsRow_nil _ _ _ _⟩
 have zl : lo ≤ (((((w.alloc (.cells #[.int .i64 (x0.r : Int),.int .i64 (x0.b : Int),.int .i64 (x0.s : Int),RV,.func (.func fid) pre post] 236)).alloc (.cells #[.pointer (some ⟨q0.p,0,none⟩),.slice none 0 0,.slice none 0 0,.slice none 0 0,.slice none 0 0] 243)).alloc (.cells #[.pointer (some ⟨w.heap.size + 1,0,none⟩)] 191)).alloc (.map #[] 0)).alloc (.cells #[.map (some (w.heap.size + 1 + 1 + 1))] 277)).heap.size:=by simp; omega
 clear hlo5 hmp;generalize (((((w.alloc (.cells #[.int .i64 (x0.r : Int),.int .i64 (x0.b : Int),.int .i64 (x0.s : Int),RV,.func (.func fid) pre post] 236)).alloc (.cells #[.pointer (some ⟨q0.p,0,none⟩),.slice none 0 0,.slice none 0 0,.slice none 0 0,.slice none 0 0] 243)).alloc (.cells #[.pointer (some ⟨w.heap.size + 1,0,none⟩)] 191)).alloc (.map #[] 0)).alloc (.cells #[.map (some (w.heap.size + 1 + 1 + 1))] 277)) = X at *;refine (HSEE.out _ _ x0 hgr.bel hgr.t HS0.out).mono ?_;rintro e wa ⟨rfl,hb⟩;have hgr:=hgr.below hb;have hgn:=hgn.below hb;have zl:=Nat.le_trans zl hb.size;clear hb;go_wp2_with fail;refine (index_new w wa lo q0.p _ _ _ _ _ 0 [] [] [] [] none none none 0 0 0 fid pre post _ _ _ _ ef (sf x0) hgr hgn HS1.out (by simp) (HEF.out _) (by omega) (by omega) (by omega) zl rfl (by omega)).mono ?_;rintro e wb ⟨rfl,zl,hgr,NA,EA,BA,nc,ec,bc,hgn⟩;simp only [List.nil_append] at hgn
 have hlo : w.heap.size ≤ lo:=by omega
 have hgw : w.heap.size ≤ w.heap.size + 1:=by omega
 have hmw : w.heap.size ≤ w.heap.size + 1 + 1 + 1:=by omega
 generalize w.heap.size + 1 + 1 + 1 + 1 = mv at *;generalize w.heap.size + 1 + 1 + 1 = mb at *;generalize w.heap.size + 1 + 1 = gv at *;generalize w.heap.size + 1 = g at *;go_wp2_with fail
 go_loopw [8] (fun v wr => ∃ (i n nc ec bc : Nat) (NA EA BA : Option Addr) (sts : List StE) (eds : List Value) (stp : List (List (Nat × Nat))) (bs : List Bool),i ≤ n ∧ n ≤ 614400 ∧ v = .int .i64 i ∧ GX w wr w.heap.size mv gv g mb #[.int .i64 (x0.r : Int),.int .i64 (x0.b : Int),.int .i64 (x0.s : Int),RV,.func (.func fid) pre post] ∧ GY lo wr q0.p g mb n sts eds stp bs NA EA BA nc ec bc ∧ lo ≤ wr.heap.size ∧ Hid (sts.length = n ∧ ExI (nxX rs T ds tr wo sf) ef (GoodX rs T) (sf x0) sts stp bs i [])) (fun v _ => 614400 - (intOf v).toNat)
 case atStart => exact ⟨0,1,nc,ec,bc,NA,EA,BA,_,_,_,_,by omega,by omega,rfl,hgr,hgn,zl,Lib.hid ⟨rfl,ExI.start HG1.out⟩⟩
 case round =>
  clear hgr hgn zl;obtain ⟨i,n,nc,ec,bc,NA,EA,BA,sts,eds,stp,bs,hi,hnb,rfl,hgr,hgn,zl,HX⟩:=hrel;have hgr0:=Lib.hid hgr.bel.size;have qg:=hgr.gv.w1;obtain ⟨k0,k1,k2,k3,k4⟩:=hgn.g.w5;have zg:=hgn.g.lt
  by_cases hlt : i < n
  ·have hil : i < sts.length:=by rw [HX.out.1]; exact hlt
   obtain ⟨x,HXI⟩ : ∃ x,Hid (sts[i]? = some x):=⟨_,Lib.hid (List.getElem?_eq_getElem hil)⟩
   have HGX : Hid (GoodX rs T x):=Lib.hid (HX.out.2.good x (List.mem_of_getElem? HXI.out))
   have hxr : x.r < rs.length:=by
    obtain ⟨key,hk,e⟩:=HGX.out.1;rw [e]; exact ixR_lt hk
   obtain ⟨n1,rfl,z1,zz1,hN,-⟩:=ownBlk hgn.N (by omega);obtain ⟨n3,rfl,z3,zz3,hB,-⟩:=ownBlk hgn.B (by omega);have b0:=hB i (.bool (ef x)) (by rw [HX.out.2.bs,List.map_map,List.getElem?_map,HXI.out]; rfl);have c0 : wr.cell? ⟨n1,i * 3,none⟩ = some (.int .i64 (x.r : Int)):=hN (i * 3) _ (st_at HXI.out 0 (by omega));clear hil hN hB
   cases he : ef x with
   | true =>
    rw [he] at b0;have HE:=Lib.hid he;clear he;go_wp2_with fail;go_roundw
    case rel => exact ⟨i + 1,n,nc,ec,bc,_,EA,_,sts,eds,stp,bs,by omega,hnb,by go_num,hgr,hgn,zl,Lib.hid ⟨HX.out.1,HX.out.2.next HXI.out (by rw [HE.out]; rfl)⟩⟩
    case measure => simp [intOf]; omega
   | false =>
    rw [he] at b0;have HE:=Lib.hid he;obtain ⟨OB,oc,hoc,hor⟩:=HW.out.out x.r hxr;have HOR:=Lib.hid hor;have hoc:=(hgr.bel.cell (p:=⟨q0.g,x.r,none⟩) HW.out.glt).trans hoc;have zo : q0.g < wr.heap.size:=Nat.lt_of_lt_of_le HW.out.glt hgr.bel.size;have p4:=(HW.out.below hgr.bel).cells.2.2.2.2.1;have hll:=outN_len rs ds tr wo x.r;have hdl:=HR.out.dl;clear he hor;generalize hLe : outN rs ds tr wo x.r = L at *;have HLE:=Lib.hid hLe;clear hLe;go_upto_region 9 with (fail)
    go_quiet (fail)
    have hgr:=hgr.drewN nq;have hgn:=hgn.drewN nq;have zl : lo ≤ (wr.drewN nq).heap.size:=zl;clear qg k0 k1 k2 k3 k4 zg b0 c0 hoc zo p4 zz1 zz3;generalize wr.drewN nq = Z at *;go_wp2_with fail
    go_loopw [55] (fun v wv => ∃ (m n nc ec bc : Nat) (NA EA BA : Option Addr) (sts : List StE) (eds : List Value) (stp : List (List (Nat × Nat))) (bs : List Bool),m ≤ L.length ∧ i < n ∧ n ≤ 614400 ∧ v = .int .i64 m ∧ GX w wv w.heap.size mv gv g mb #[.int .i64 (x0.r : Int),.int .i64 (x0.b : Int),.int .i64 (x0.s : Int),RV,.func (.func fid) pre post] ∧ GY lo wv q0.p g mb n sts eds stp bs NA EA BA nc ec bc ∧ lo ≤ wv.heap.size ∧ Hid (sts.length = n ∧ sts[i]? = some x ∧ ExI (nxX rs T ds tr wo sf) ef (GoodX rs T) (sf x0) sts stp bs i ((L.take m).filterMap (fun k : Int => (passX rs T x (ds.getD k.toNat default)).map fun y => (k.toNat,sf y))))) (fun v _ => L.length - (intOf v).toNat)
    case atStart => exact ⟨0,n,nc,ec,bc,_,EA,_,sts,eds,stp,bs,Nat.zero_le _,hlt,hnb,rfl,hgr,hgn,zl,Lib.hid ⟨HX.out.1,HXI.out,HX.out.2⟩⟩
    case round =>
     clear hgr hgn zl HX HXI hnb hlt hi z1 z3;obtain ⟨m,n,nc,ec,bc,NA,EA,BA,sts,eds,stp,bs,hml,hlt,hnb,rfl,hgr,hgn,zl,HX⟩:=hrel
     by_cases hlm : m < L.length
     ·obtain ⟨k,hkL,hkd,hks,hko⟩:=outN_mem (show L[m] ∈ outN rs ds tr wo x.r by rw [HLE.out]; exact List.getElem_mem hlm)
      obtain ⟨ob,ooff,rfl,_,hos,o0⟩:=(HOR.out.below hgr.bel).int_at hlm;rw [hkL] at o0;have HLM : Hid (L[m]? = some (k : Int)):=Lib.hid (by rw [List.getElem?_eq_getElem hlm,hkL]);obtain ⟨n1,rfl,z1,zz1,-,-⟩:=ownBlk hgn.N (by omega);have HCI : Hid (∀ W,GY lo W q0.p g mb n sts eds stp bs (some ⟨n1,0,none⟩) EA BA nc ec bc → W.cell? ⟨n1,i * 3,none⟩ = some (.int .i64 (x.r : Int)) ∧ W.cell? ⟨n1,i * 3 + 1,none⟩ = some (.int .i64 (x.b : Int)) ∧ W.cell? ⟨n1,i * 3 + 2,none⟩ = some (.int .i64 (x.s : Int))):=Lib.hid (fun W h => ⟨own_at h.N _ (st_at HX.out.2.1 0 (by omega)),own_at h.N _ (st_at HX.out.2.1 1 (by omega)),own_at h.N _ (st_at HX.out.2.1 2 (by omega))⟩)
      obtain ⟨d,hd⟩ : ∃ d,ds[k]? = some d:=⟨_,List.getElem?_eq_getElem hkd⟩
      have HDM : Hid (d ∈ ds ∧ ds.getD k default = d):=Lib.hid ⟨List.mem_of_getElem? hd,by rw [List.getD_eq_getElem?_getD,hd]; rfl⟩;obtain ⟨db,doff,eDA,-,-⟩:=(HW.out.below hgr.bel).doorI HR.out hkd
      have HDO : Hid (∀ W,Below w.heap.size w W → W.cell? ⟨q0.p,3,none⟩ = some (.slice (some ⟨db,doff,none⟩) ds.length q0.dc) ∧ (W.cell? ⟨db,doff + k * 5,none⟩ = some (.int .i64 (ixR rs d.src : Int)) ∧ W.cell? ⟨db,doff + k * 5 + 1,none⟩ = some (.int .i64 (ixR rs d.dst : Int)) ∧ W.cell? ⟨db,doff + k * 5 + 2,none⟩ = some (.int .i64 d.time) ∧ W.cell? ⟨db,doff + k * 5 + 3,none⟩ = some (.int .i64 (bitsT T d.needs : Int)) ∧ W.cell? ⟨db,doff + k * 5 + 4,none⟩ = some (.int .i64 (bitsT T d.takes : Int)))):=Lib.hid (fun W hb => by
       have h1:=(HW.out.below hb).cells.2.2.2.1;obtain ⟨b',o',e',-,h2⟩:=(HW.out.below hb).doorI HR.out hkd;rw [eDA] at e' h1;injection e' with e';injection e' with e1 e2;subst e1 e2
       have e3 : ds[k] = d:=by rw [List.getElem?_eq_getElem hkd] at hd; exact Option.some.inj hd
       rw [e3] at h2
       exact ⟨h1,h2⟩)
      obtain ⟨px,hpx⟩ : ∃ px,px = passX rs T x d:=⟨_,rfl⟩
      obtain ⟨y,hy⟩ : ∃ y,y = px.getD x:=⟨_,rfl⟩
      obtain ⟨pb,hpb⟩ : ∃ pb,pb = px.isSome:=⟨_,rfl⟩
      have HPS : Hid (∀ W,Below w.heap.size w W → Calls Tryz.prog 174 #[.pointer (some ⟨q0.p,0,none⟩),stV x,.agg #[.int .i64 (ixR rs d.src : Int),.int .i64 (ixR rs d.dst : Int),.int .i64 d.time,.int .i64 (bitsT T d.needs : Int),.int .i64 (bitsT T d.takes : Int)]] W fun e w' => e = .returned (.tuple #[.agg #[.int .i64 (y.r : Int),.int .i64 (y.b : Int),.int .i64 (y.s : Int)],.bool pb]) ∧ Below W.heap.size W w'):=Lib.hid (fun W hb => by
       have:=pass_any (HW.out.below hb) HR.out hTl HTD.out HDM.out.1 x HGX.out;rw [← hpx,← hy,← hpb] at this
       exact this)
      have HPX:=Lib.hid (And.intro hpx (And.intro hy hpb))
      have hk0 : (0 : Int) ≤ (k : Int):=by omega
      have hk1 : (k : Int) < (ds.length : Int):=by omega
      have hi0 : (0 : Int) ≤ (i : Int):=by omega
      have hi1 : (i : Int) < (n : Int):=by omega
      clear hkL hd eDA hks hko hpx hy hpb;go_upto_region 12 with (fail);clear o0 hos
      go_cut [11,12] from 59 to 77 (fun u v wx => ∃ s : Nat,u = .pointer (some ⟨s,0,none⟩) ∧ v = .bool pb ∧ Blk wx s 232 #[.int .i64 (y.r : Int),.int .i64 (y.b : Int),.int .i64 (y.s : Int)] ∧ GX w wx w.heap.size mv gv g mb #[.int .i64 (x0.r : Int),.int .i64 (x0.b : Int),.int .i64 (x0.s : Int),RV,.func (.func fid) pre post] ∧ GY lo wx q0.p g mb n sts eds stp bs (some ⟨n1,0,none⟩) EA BA nc ec bc ∧ lo ≤ wx.heap.size)
      case first =>
       generalize wr = Z at *;go_wp2_with fail;have hgr:=hgr.drew;have hgn:=hgn.drew;have zl : lo ≤ Z.drew.heap.size:=zl;refine wp_region_held_drew (S:=(fun w' => w'.cell? ⟨gv,0,none⟩ = some (.pointer (some ⟨g,0,none⟩)) ∧ w'.cell? ⟨g,1,none⟩ = some (.slice (some ⟨n1,0,none⟩) n nc) ∧ (w'.cell? ⟨n1,i * 3,none⟩ = some (.int .i64 (x.r : Int)) ∧ w'.cell? ⟨n1,i * 3 + 1,none⟩ = some (.int .i64 (x.b : Int)) ∧ w'.cell? ⟨n1,i * 3 + 2,none⟩ = some (.int .i64 (x.s : Int))) ∧ w'.cell? ⟨q0.p,3,none⟩ = some (.slice (some ⟨db,doff,none⟩) ds.length q0.dc) ∧ (w'.cell? ⟨db,doff + k * 5,none⟩ = some (.int .i64 (ixR rs d.src : Int)) ∧ w'.cell? ⟨db,doff + k * 5 + 1,none⟩ = some (.int .i64 (ixR rs d.dst : Int)) ∧ w'.cell? ⟨db,doff + k * 5 + 2,none⟩ = some (.int .i64 d.time) ∧ w'.cell? ⟨db,doff + k * 5 + 3,none⟩ = some (.int .i64 (bitsT T d.needs : Int)) ∧ w'.cell? ⟨db,doff + k * 5 + 4,none⟩ = some (.int .i64 (bitsT T d.takes : Int))))) (by kernel_rfl) (⟨hgr.gv.w1,hgn.g.w5.2.1,HCI.out _ hgn,HDO.out _ hgr.bel⟩) (fun hHeld => ?_);(refine QU 0 ?_; (try simp only [Act.put,Q3,Q4,Q5]));(refine QU 1 ?_; (try simp only [Act.put,Q3,Q4,Q5]));(refine QU 2 ?_; (try simp only [Act.put,Q3,Q4,Q5]));(refine QU 3 ?_; (try simp only [Act.put,Q3,Q4,Q5]));(refine QU 4 ?_; (try simp only [Act.put,Q3,Q4,Q5]));(refine QU 5 ?_; (try simp only [Act.put,Q3,Q4,Q5]));(refine QU 6 ?_; (try simp only [Act.put,Q3,Q4,Q5]));(refine QU 7 ?_; (try simp only [Act.put,Q3,Q4,Q5]));(refine QU 8 ?_; (try simp only [Act.put,Q3,Q4,Q5]));(refine QU 9 ?_; (try simp only [Act.put,Q3,Q4,Q5]));(refine QU 10 ?_; (try simp only [Act.put,Q3,Q4,Q5]));(refine QU 11 ?_; (try simp only [Act.put,Q3,Q4,Q5]));(refine QU 12 ?_; (try simp only [Act.put,Q3,Q4,Q5]));(refine QU 13 ?_; (try simp only [Act.put,Q3,Q4,Q5]));(refine QU 14 ?_; (try simp only [Act.put,Q3,Q4,Q5]));refine wpAnyH_ready (rs:=[15,19]) (by kernel_rfl) (by simp) ?_;refine AllReadyH.cons rfl (fun K hK => ?_) (AllReadyH.cons rfl (fun K hK => ?_) AllReadyH.nil)
       case refine_1 =>
        go_simp;go_at_call 174;refine (HPS.out _ hgr.bel).mono ?_;rintro e wp ⟨rfl,hb⟩;have zl : lo ≤ wp.heap.size:=Nat.le_trans zl hb.size;have hgr:=hgr.below hb;have hgn:=hgn.below hb;go_wp2_with fail;refine hK.out _ _ (⟨hgr.gv.w1,hgn.g.w5.2.1,HCI.out _ hgn,HDO.out _ hgr.bel⟩) (fun hHeld => ?_);clear hK K;(try simp only [Act.put,Q3,Q4,Q5]);(refine QU 16 ?_; (try simp only [Act.put,Q3,Q4,Q5]));(refine QU 17 ?_; (try simp only [Act.put,Q3,Q4,Q5]));(refine QU 18 ?_; (try simp only [Act.put,Q3,Q4,Q5]));refine QR 19 fun K hK => ?_;go_simp;have hgr0:=hgr;have hgn0:=hgn;have zl0:=zl;have zs : lo ≤ wp.heap.size:=zl
        have hsn : obk (some ⟨n1,0,none⟩) ≠ some (wp.heap.size):=fun e => by
         have:=(hgn.N.lt _ (by rw [obk_is]; exact e)).2;(try simp at this)
        have hs : Blk (wp.alloc (.cells #[.int .i64 0,.int .i64 0,.int .i64 0] 232)) (wp.heap.size) 232 #[.int .i64 0,.int .i64 0,.int .i64 0]:=Blk.at_ _ (by simp);have hgr:=hgr.alloc (.cells #[.int .i64 0,.int .i64 0,.int .i64 0] 232);have hgn:=hgn.alloc (.cells #[.int .i64 0,.int .i64 0,.int .i64 0] 232)
        have zl : lo ≤ (wp.alloc (.cells #[.int .i64 0,.int .i64 0,.int .i64 0] 232)).heap.size:=by simp at zl ⊢; omega
        refine hK.out _ _ (⟨hgr.gv.w1,hgn.g.w5.2.1,HCI.out _ hgn,HDO.out _ hgr.bel⟩) (fun hHeld => ?_);clear hK K;(try simp only [Act.put,Q3,Q4,Q5]);refine QR 20 fun K hK => ?_;go_simp;have hgr:=hgr0.alloc (.cells #[.int .i64 (y.r : Int),.int .i64 (y.b : Int),.int .i64 (y.s : Int)] 232);have hgn:=hgn0.alloc (.cells #[.int .i64 (y.r : Int),.int .i64 (y.b : Int),.int .i64 (y.s : Int)] 232);have hs : Blk (wp.alloc (.cells #[.int .i64 (y.r : Int),.int .i64 (y.b : Int),.int .i64 (y.s : Int)] 232)) wp.heap.size 232 #[.int .i64 (y.r : Int),.int .i64 (y.b : Int),.int .i64 (y.s : Int)]:=Blk.new _ _ _
        have zl : lo ≤ (wp.alloc (.cells #[.int .i64 (y.r : Int),.int .i64 (y.b : Int),.int .i64 (y.s : Int)] 232)).heap.size:=by simp; omega
        refine hK.out _ _ (⟨hgr.gv.w1,hgn.g.w5.2.1,HCI.out _ hgn,HDO.out _ hgr.bel⟩) (fun hHeld => ?_);clear hK K;(try simp only [Act.put,Q3,Q4,Q5]);(refine QU 21 ?_; (try simp only [Act.put,Q3,Q4,Q5]));refine wpAnyH_done (by kernel_rfl) ?_ _;go_wp2_with fail;go_meet;exact ⟨_,rfl,rfl,hs,hgr,hgn,zl⟩
       case refine_2 =>
        go_simp;have hgr0:=hgr;have hgn0:=hgn;have zl0:=zl;have zs : lo ≤ Z.heap.size:=zl
        have hsn : obk (some ⟨n1,0,none⟩) ≠ some (Z.heap.size):=fun e => by
         have:=(hgn.N.lt _ (by rw [obk_is]; exact e)).2;(try simp at this)
        have hs : Blk (Z.drew.alloc (.cells #[.int .i64 0,.int .i64 0,.int .i64 0] 232)) (Z.heap.size) 232 #[.int .i64 0,.int .i64 0,.int .i64 0]:=Blk.at_ _ (by simp);have hgr:=hgr.alloc (.cells #[.int .i64 0,.int .i64 0,.int .i64 0] 232);have hgn:=hgn.alloc (.cells #[.int .i64 0,.int .i64 0,.int .i64 0] 232)
        have zl : lo ≤ (Z.drew.alloc (.cells #[.int .i64 0,.int .i64 0,.int .i64 0] 232)).heap.size:=by simp at zl ⊢; omega
        refine hK.out _ _ (⟨hgr.gv.w1,hgn.g.w5.2.1,HCI.out _ hgn,HDO.out _ hgr.bel⟩) (fun hHeld => ?_);clear hK K;(try simp only [Act.put,Q3,Q4,Q5]);refine QR 15 fun K hK => ?_;go_simp;go_at_call 174;refine (HPS.out _ hgr.bel).mono ?_;rintro e wp ⟨rfl,hb⟩;have zl : lo ≤ wp.heap.size:=Nat.le_trans zl hb.size;have hgr:=hgr.below hb;have hgn:=hgn.below hb;have hs:=hs.below hb;go_wp2_with fail;refine hK.out _ _ (⟨hgr.gv.w1,hgn.g.w5.2.1,HCI.out _ hgn,HDO.out _ hgr.bel⟩) (fun hHeld => ?_);clear hK K;(try simp only [Act.put,Q3,Q4,Q5]);(refine QU 16 ?_; (try simp only [Act.put,Q3,Q4,Q5]));(refine QU 17 ?_; (try simp only [Act.put,Q3,Q4,Q5]));(refine QU 18 ?_; (try simp only [Act.put,Q3,Q4,Q5]));refine QR 20 fun K hK => ?_;have f0:=hs.thaw 0;have f1:=hs.thaw 1;have f2:=hs.thaw 2;obtain ⟨t0,t1,t2⟩:=hs.w3;have zs0:=hs.lt;go_simp;clear f0 f1 f2 t0 t1 t2 zs0;have hgr:=hgr.poke3 hs (by omega) (.int .i64 (y.r : Int)) (.int .i64 (y.b : Int)) (.int .i64 (y.s : Int));have hgn:=hgn.poke3 hs hsn (.int .i64 (y.r : Int)) (.int .i64 (y.b : Int)) (.int .i64 (y.s : Int));have hs:=poke_hs hs (.int .i64 (y.r : Int)) (.int .i64 (y.b : Int)) (.int .i64 (y.s : Int));have zl : lo ≤ _:=Nat.le_trans zl (Nat.le_of_eq (by simp : _ = (((wp.setCell ⟨Z.heap.size,0,none⟩ (.int .i64 (y.r : Int))).setCell ⟨Z.heap.size,1,none⟩ (.int .i64 (y.b : Int))).setCell ⟨Z.heap.size,2,none⟩ (.int .i64 (y.s : Int))).heap.size));refine hK.out _ _ (⟨hgr.gv.w1,hgn.g.w5.2.1,HCI.out _ hgn,HDO.out _ hgr.bel⟩) (fun hHeld => ?_);clear hK K;(try simp only [Act.put,Q3,Q4,Q5]);(refine QU 21 ?_; (try simp only [Act.put,Q3,Q4,Q5]));refine wpAnyH_done (by kernel_rfl) ?_ _;go_wp2_with fail;go_meet;exact ⟨_,rfl,rfl,hs,hgr,hgn,zl⟩
      case rest =>
       obtain ⟨s,rfl,rfl,hs,hgr,hgn,zl⟩:=hcut
       have HFM : Hid ((L.take (m + 1)).filterMap (fun k : Int => (passX rs T x (ds.getD k.toNat default)).map fun y => (k.toNat,sf y)) = (L.take m).filterMap (fun k : Int => (passX rs T x (ds.getD k.toNat default)).map fun y => (k.toNat,sf y)) ++ (px.map fun y => (k,sf y)).toList):=Lib.hid (by
        rw [List.take_add_one,HLM.out,List.filterMap_append]
        congr 1
        rw [HPX.out.1];simp only [Option.toList_some,List.filterMap_cons,List.filterMap_nil,Int.toNat_natCast,HDM.out.2]
        cases passX rs T x d <;> rfl)
       cases hpb : pb with
       | false =>
        have HN : Hid (ExI (nxX rs T ds tr wo sf) ef (GoodX rs T) (sf x0) sts stp bs i ((L.take (m + 1)).filterMap (fun k : Int => (passX rs T x (ds.getD k.toNat default)).map fun y => (k.toNat,sf y)))):=Lib.hid (by
         have h0 : px = none:=by
          have:=HPX.out.2.2;rw [hpb] at this;exact Option.isSome_eq_false_iff.1 this.symm |> Option.isNone_iff_eq_none.1
         rw [HFM.out,h0]
         simpa using HX.out.2.2)
        subst hpb;go_wp2_with fail;go_roundw
        case rel => exact ⟨m + 1,n,nc,ec,bc,_,EA,BA,sts,eds,stp,bs,by omega,hlt,hnb,by go_num,hgr,hgn,zl,Lib.hid ⟨HX.out.1,HX.out.2.1,HN.out⟩⟩
        case measure => simp [intOf]; omega
       | true =>
        have h0 : px = some y:=by
         have h1:=HPX.out.2.2;have h2:=HPX.out.2.1;rw [hpb] at h1
         cases px with
         | none => cases h1
         | some z => rw [h2]; rfl
        have HGY : Hid (GoodX rs T y):=Lib.hid (passX_good (ds:=ds) HTD.out hTl (needs_sub HTD.out HDM.out.1) (HR.out.dst d HDM.out.1) HGX.out (by rw [← HPX.out.1]; exact h0));have HY0:=Lib.hid (HGO.out _ HGY.out).1;have HGS:=Lib.hid (HSF.out _ HGY.out);have HY1:=Lib.hid (HGO.out _ HGS.out).1;rw [h0] at HFM;subst hpb;clear h0;obtain ⟨s0,s1,s2⟩:=hs.w3;have zs:=hs.lt;go_wp2_with fail;clear s0 s1 s2 zs;refine (HSEE.out _ _ y hgr.bel hgr.t HY0.out).mono ?_;rintro e wd ⟨rfl,hb⟩;have hgr:=hgr.below hb;have hgn:=hgn.below hb;have zl:=Nat.le_trans zl hb.size;clear hb hs;go_wp2_with fail
        refine (indexQ_any w wd lo q0.p _ _ _ _ _ n sts eds stp bs _ EA BA nc ec bc fid pre post _ _ _ _ ef (sf y) hgr hgn HY1.out (HEF.out _) hlo hgw hmw zl HX.out.1 hnb HX.out.2.2 HX.out.2.1 HGS.out (k:=k) (by
         have h1:=List.length_filterMap_le (fun k : Int => (passX rs T x (ds.getD k.toNat default)).map fun y => (k.toNat,sf y)) (L.take m);have h2:=List.length_take_le m L
         omega) HFEW.out).mono ?_
        rintro e we ⟨r,n,nc,ec,bc,NA,EA,BA,sts,eds,stp,bs,R,rfl,zl,hgr,hgn,hnb,hlt,hr6,HX⟩;obtain ⟨eb,rfl,zb1,zb2,-⟩:=ownBlk hgn.E (by omega);obtain ⟨RA,rc,hre,hro⟩:=hgn.S.rowQ HX.out.2.2.1;have HRE : Hid (eds[i]? = some (.slice RA R.length rc)):=Lib.hid hre
        have hrb1 : (R.length + 1) * 16 ≤ 140737488355328:=by have:=HX.out.2.2.2.1; omega
        have hrb2 : R.length + 1 ≤ 9223372036854775807:=by have:=HX.out.2.2.2.1; omega
        have hi0 : (0 : Int) ≤ (i : Int):=by omega
        have hi1 : (i : Int) < (n : Int):=by omega
        clear hre HCI HDO HPS;go_upto_region 15 with (fail);generalize we = Z at *;have hgr:=hgr.drew;have hgn:=hgn.drew;have hro:=own_drewN hro 1;have zl : lo ≤ Z.drew.heap.size:=zl;refine wp_region_heldK 18 (fun w' => w'.cell? ⟨eb,i,none⟩ = some (.slice RA R.length rc)) (fun w' => w'.cell? ⟨gv,0,none⟩ = some (.pointer (some ⟨g,0,none⟩)) ∧ w'.cell? ⟨g,2,none⟩ = some (.slice (some ⟨eb,0,none⟩) n ec)) (by kernel_rfl) (⟨hgr.gv.w1,hgn.g.w5.2.2.1⟩) (own_at hgn.E i HRE.out) (fun hT hS => ?_);(refine KU2 0 ?_; (try simp only [Act.put,Q3,Q4,Q5]));(refine KU2 1 ?_; (try simp only [Act.put,Q3,Q4,Q5]));(refine KU2 2 ?_; (try simp only [Act.put,Q3,Q4,Q5]));(refine KU2 3 ?_; (try simp only [Act.put,Q3,Q4,Q5]));(refine KU2 4 ?_; (try simp only [Act.put,Q3,Q4,Q5]));(refine KU2 5 ?_; (try simp only [Act.put,Q3,Q4,Q5]));(refine KU2 6 ?_; (try simp only [Act.put,Q3,Q4,Q5]));(refine KU2 7 ?_; (try simp only [Act.put,Q3,Q4,Q5]));(refine KU2 8 ?_; (try simp only [Act.put,Q3,Q4,Q5]));(refine KU2 9 ?_; (try simp only [Act.put,Q3,Q4,Q5]));(refine KU2 10 ?_; (try simp only [Act.put,Q3,Q4,Q5]));(refine KU1 11 ?_; (try simp only [Act.put,Q3,Q4,Q5]));(refine KU2 12 ?_; (try simp only [Act.put,Q3,Q4,Q5]));(refine KU2 13 ?_; (try simp only [Act.put,Q3,Q4,Q5]));(refine KU2 14 ?_; (try simp only [Act.put,Q3,Q4,Q5]));refine wpAnyK_ready (rs:=[15]) (by kernel_rfl) (by simp) ?_;refine AllReadyK.cons rfl (fun K hK => ?_) AllReadyK.nil;go_simp;have hy : Blk (Z.drew.alloc (.cells #[.int .i64 (k : Int),.int .i64 (r : Int)] 246)) Z.heap.size 246 #[.int .i64 (k : Int),.int .i64 (r : Int)]:=Blk.at_ _ (by simp);have hgr:=hgr.alloc (.cells #[.int .i64 (k : Int),.int .i64 (r : Int)] 246);have hgn:=hgn.alloc (.cells #[.int .i64 (k : Int),.int .i64 (r : Int)] 246);have hro:=hro.alloc (.cells #[.int .i64 (k : Int),.int .i64 (r : Int)] 246)
        have zl : lo ≤ (Z.drew.alloc (.cells #[.int .i64 (k : Int),.int .i64 (r : Int)] 246)).heap.size:=by simp at zl ⊢; omega
        refine hK.out _ _ (⟨hgr.gv.w1,hgn.g.w5.2.2.1⟩) (own_at hgn.E i HRE.out) (fun hT hS => ?_);clear hK K;(try simp only [Act.put,Q3,Q4,Q5]);refine wpAnyK_ready (rs:=[16]) (by kernel_rfl) (by simp) ?_;refine AllReadyK.cons rfl (fun K hK => ?_) AllReadyK.nil;refine step_app (lo:=0) (base:=lo) (n:=R.length) (xs:=R.flatMap encG) _ rfl _ _ ty_steps rfl hro rfl (Row.lit (n:=1) (size:=2) hy (Nat.zero_le _) rfl) rfl rfl hrb1 hrb2 zl ?_;intro AY cY wy hY gY hbY;have hkR:=own_kind hro;have hgr5:=hgr.other gY (fun k hk => Nat.le_trans hlo (hro.lt k hk).1) hkR (by decide);have hg5:=hgn.g.other gY hkR (by decide);have hE5:=own_other hgn.E gY hkR (by decide)
        have HPU : wy.ownsRow lo 246 2 (.slice AY (R ++ [(k,r)]).length cY) (R ++ [(k,r)]).length ((R ++ [(k,r)]).flatMap encG):=by simpa [encG] using hY
        refine hK.out _ _ (⟨hgr5.gv.w1,hg5.w5.2.2.1⟩) (own_at hE5 i HRE.out) (fun hT hS => ?_);clear hK K;(try simp only [Act.put,Q3,Q4,Q5]);(refine KU2 17 ?_; (try simp only [Act.put,Q3,Q4,Q5]));refine wpAnyK_ready (rs:=[18]) (by kernel_rfl) (by simp) ?_;refine AllReadyK.consT (by kernel_rfl) rfl (fun K hK => ?_) AllReadyK.nil;have fE:=hE5.frozenAt i;have cE : wy.cell? ⟨eb,i,none⟩ = some (.slice RA R.length rc):=own_at hE5 i HRE.out
        have zE:=(hE5.lt eb rfl)
        go_simp;clear fE cE;have hgn:=hgn.push HX.out.2.2.1 HRE.out gY hro HPU (by rw [List.length_append]; exact hbY);have hgr:=hgr5.other (grown_poke wy eb i (.slice AY (R ++ [(k,r)]).length cY)) (fun k hk => by injection hk with hk; omega) (own_kind hE5) (by decide)
        have zl : lo ≤ (wy.setCell ⟨eb,i,none⟩ (.slice AY (R ++ [(k,r)]).length cY)).heap.size:=by have:=gY.size; simp at zl ⊢; omega
        rw [show (R ++ [(k,r)]).length = R.length + 1 by simp] at hgn hgr zl;refine hK.out _ _ (⟨hgr.gv.w1,hgn.g.w5.2.2.1⟩) (fun hT => ?_);clear hK K;(try simp only [Act.put,Q3,Q4,Q5]);refine wpAnyK_done (by kernel_rfl) ?_ _;go_wp2_with fail;go_roundw
        case rel => exact ⟨m + 1,n,nc,ec,bc,NA,_,BA,sts,_,_,bs,by omega,hlt,hnb,by go_num,hgr,hgn,zl,Lib.hid ⟨HX.out.1,HX.out.2.1,by rw [HFM.out]; exact HX.out.2.2.2.2⟩⟩
        case measure => simp [intOf]; omega
     ·have hme : m = L.length:=by omega
      subst hme
      have HN : Hid (ExI (nxX rs T ds tr wo sf) ef (GoodX rs T) (sf x0) sts stp bs (i + 1) []):=Lib.hid (HX.out.2.2.next HX.out.2.1 (by
       rw [HE.out,if_neg (by simp),List.take_length,← HLE.out]
       rfl))
      go_wp2_with fail;go_roundw
      case rel => exact ⟨i + 1,n,nc,ec,bc,NA,EA,BA,sts,eds,stp,bs,by omega,hnb,by go_num,hgr,hgn,zl,Lib.hid ⟨HX.out.1,HN.out⟩⟩
      case measure => simp [intOf]; omega
  ·have hie : n = i:=by omega
   subst hie
   have HXO : Hid (ExOk (nxX rs T ds tr wo sf) ef (GoodX rs T) (sf x0) sts stp):=Lib.hid (by
    have h:=HX.out.2;rw [← HX.out.1] at h
    exact h.done)
   have hn0 : 0 < n:=by
    have:=HXO.out.first
    have:=(List.getElem?_eq_some_iff.1 this).1;have:=HX.out.1;omega
   obtain ⟨eb,rfl,hb1,hb2,-⟩:=ownBlk hgn.E (by omega);obtain ⟨g5,gto,gend⟩:=HXO.out.graph HR.out.dl;have hbs : bs = sts.map ef:=HX.out.2.bs;have HM:=Lib.hid (measure_any w wr g q0.p n nc eb ec bc lo lo0 mp NA BA stp bs q0 T rs ds tr wo st gl hgn.g (hgn.S.read hgn.E) (Row.of_own hgn.B) HW.out hgr.bel hgw rfl HR.out.time (by rw [HXO.out.len]; exact HX.out.1) (by rw [hbs,List.length_map]; exact HX.out.1) hn0 (by omega) hgt (by omega) g5 HR.out.dl (by rw [← HX.out.1]; exact gto) (by rw [hbs]; exact gend));have HBS:=Lib.hid hbs;clear g5 gto gend hbs;go_wp2_with fail;refine (HM.out).mono ?_;rintro e wz ⟨rfl,fb,fc,far,hg5,hF,hfo,hG⟩;have hkg:=hgn.g.kind;have hgr:=hgr.other hG (fun k hk => by injection hk with hk; omega) hkg (by decide);have HZ : Hid (Row wz lo 3 NA n (sts.flatMap encT) ∧ StpR wz lo eb stp ∧ Row wz lo 1 BA n (bs.map Value.bool)):=Lib.hid ⟨(Row.of_own hgn.N).grown hG hgt,(hgn.S.read hgn.E).grown hG hgt (by omega),(Row.of_own hgn.B).grown hG hgt⟩;have HF:=Lib.hid (And.intro hF hfo);clear hgn k0 k1 k2 k3 k4 qg hF hfo hG;have qg:=hgr.gv.w1;go_wp2_with fail;go_ret;refine ⟨g,n,nc,eb,ec,bc,fb,fc,NA,BA,sts,stp,far,rfl,HX.out.1,hg5,HZ.out.1.weak hlo,fun i hi => ?_,?_,(Row.of_own HF.out.1).weak hgr0.out,?_,HXO.out,hgr.bel⟩
   ·obtain ⟨A,c,a,b⟩:=HZ.out.2.1 i hi
    exact ⟨A,c,a,b.weak hlo⟩
   ·rw [← HBS.out]; exact HZ.out.2.2.weak hlo
   ·rw [← HBS.out]; exact HF.out.2

end Go.Proofs.YtkchacgkjdeiaaaGreatDoor
/- Ways over states, plain: what explore and measure find are the walks of the map. -/
namespace Go.Proofs.YtkchacgkjdeiaaaGreatDoor
open Go.RowKit

inductive WayX (nx : StE → List (Nat × StE)) (ef : StE → Bool) (tm : Nat → Int) : StE → Int → Int → List Nat → Prop
  | stop {x : StE} : ef x = true → WayX nx ef tm x 0 0 []
  | go {x y : StE} {k : Nat} {t d : Int} {ks : List Nat} : ef x = false → (k, y) ∈ nx x → WayX nx ef tm y t d ks → WayX nx ef tm x (t + tm k) (d + 1) (k :: ks)
section
variable {nx nx' : StE → List (Nat × StE)} {ef : StE → Bool} {gd : StE → Prop} {tm : Nat → Int} {s0 : StE} {sts : List StE} {stp : List (List (Nat × Nat))}
theorem ExOk.toX (h : ExOk nx ef gd s0 sts stp) {i : Nat} {t d : Int} {ks : List Nat} (hw : WayG stp (sts.map ef) tm i t d ks) : ∀ x,sts[i]? = some x → WayX nx ef tm x t d ks:=by
 induction hw with
 | @stop i hl =>
  intro x hx;rw [List.getElem?_map,hx] at hl;exact .stop (Option.some.inj hl)
 | @go i k j t d ks he _ ih =>
  intro x hx;rw [List.getD_eq_getElem?_getD,h.steps i x hx] at he
  by_cases hf : ef x = true
  ·rw [if_pos hf] at he; cases he
  ·rw [if_neg hf] at he
   obtain ⟨p,hp,e⟩:=List.mem_map.1 he;injection e with e1 e2
   have hf' : ef x = false:=by simpa using hf
   have hm:=h.closed x (List.mem_of_getElem? hx) hf' p hp
   have hj : sts[j]? = some p.2:=by
    rw [← e2,List.getElem?_eq_getElem (List.idxOf_lt_length_of_mem hm),List.getElem_idxOf]
   rw [← e1];exact .go hf' hp (ih p.2 hj)
theorem ExOk.ofX (h : ExOk nx ef gd s0 sts stp) {x : StE} {t d : Int} {ks : List Nat} (hw : WayX nx ef tm x t d ks) : ∀ i : Nat,sts[i]? = some x → WayG stp (sts.map ef) tm i t d ks:=by
 induction hw with
 | @stop x hl =>
  intro i hx;exact .stop (by rw [List.getElem?_map,hx]; exact congrArg some hl)
 | @go x y k t d ks hf hm _ ih =>
  intro i hx;have hy:=h.closed x (List.mem_of_getElem? hx) hf _ hm
  have hj : sts[sts.idxOf y]? = some y:=by rw [List.getElem?_eq_getElem (List.idxOf_lt_length_of_mem hy),List.getElem_idxOf]
  refine .go (j:=sts.idxOf y) ?_ (ih _ hj);rw [List.getD_eq_getElem?_getD,h.steps i x hx,if_neg (by simp [hf])];exact List.mem_map.2 ⟨(k,y),hm,rfl⟩
theorem WayX.mono (hs : ∀ x p,p ∈ nx x → p ∈ nx' x) {x : StE} {t d : Int} {ks : List Nat} (hw : WayX nx ef tm x t d ks) : WayX nx' ef tm x t d ks:=by
 induction hw with
 | stop h => exact .stop h
 | go h hm _ ih => exact .go h (hs _ _ hm) ih
def LeastT (nx : StE → List (Nat × StE)) (ef : StE → Bool) (tm : Nat → Int) (x : StE) (v : Int) : Prop :=
 (v = -1 ∧ ∀ t d ks,¬ WayX nx ef tm x t d ks) ∨ (0 ≤ v ∧ (∃ d ks,WayX nx ef tm x v d ks) ∧ ∀ t d ks,WayX nx ef tm x t d ks → v ≤ t)
theorem LeastT.uniq {x : StE} {a b : Int} (ha : LeastT nx ef tm x a) (hb : LeastT nx ef tm x b) : a = b:=by
 rcases ha with ⟨rfl,h1⟩ | ⟨h0,⟨d,ks,h1⟩,h2⟩
 ·rcases hb with ⟨rfl,_⟩ | ⟨_,⟨d,ks,h3⟩,_⟩
  ·rfl
  ·exact absurd h3 (h1 _ _ _)
 ·rcases hb with ⟨rfl,h3⟩ | ⟨_,⟨d',ks',h3⟩,h4⟩
  ·exact absurd h1 (h3 _ _ _)
  ·exact Int.le_antisymm (h2 _ _ _ h3) (h4 _ _ _ h1)
theorem ExOk.least (h : ExOk nx ef gd s0 sts stp) {n : Nat} (hn : sts.length = n) {far : List (Int × Int)} (hF : FarOk n stp (sts.map ef) tm far) {i : Nat} {x : StE} (hi : sts[i]? = some x) : LeastT nx ef tm x (fA far i).1:=by
 have hin : i < n:=by have:=(List.getElem?_eq_some_iff.1 hi).1; omega
 rcases hF.val i hin with ⟨e,h1⟩ | ⟨h0,⟨ks,h1⟩,h2⟩
 ·exact .inl ⟨by rw [e],fun t d ks hw => h1 _ _ _ (h.ofX hw i hi)⟩
 ·refine .inr ⟨h0,⟨_,ks,h.toX h1 x hi⟩,fun t d ks hw => ?_⟩
  have:=h2 _ _ _ (h.ofX hw i hi);unfold leK at this;simp only at this;omega
structure PathOk (nx : StE → List (Nat × StE)) (ef : StE → Bool) (tm : Nat → Int) (x : StE) (n : Nat) (r : PathR) : Prop where
  no : r.is = false → r = ⟨[], 0, false⟩ ∧ ∀ t d ks, ¬ WayX nx ef tm x t d ks
  yes : r.is = true → (∃ d, WayX nx ef tm x r.t d r.ks) ∧ (∀ t d ks, WayX nx ef tm x t d ks → r.t ≤ t) ∧ 0 ≤ r.t ∧ r.ks.length ≤ n
theorem ExOk.path (h : ExOk nx ef gd s0 sts stp) {n : Nat} (hn : sts.length = n) {far : List (Int × Int)} (hF : FarOk n stp (sts.map ef) tm far) (hto : ∀ i k j,(k,j) ∈ stp.getD i [] → j < n) (hend : ∀ i : Nat,(sts.map ef)[i]? = some true → stp.getD i [] = []) : PathOk nx ef tm s0 n (pathR stp (sts.map ef) tm far):=by
 have h0 : 0 < n:=by have:=(List.getElem?_eq_some_iff.1 h.first).1; omega
 have hl:=h.least hn hF h.first
 unfold pathR
 by_cases c : (fA far 0).1 < 0
 ·rw [if_pos c]
  refine ⟨fun _ => ⟨rfl,?_⟩,by simp⟩;rcases hl with ⟨_,h1⟩ | ⟨h1,_⟩
  ·exact h1
  ·omega
 ·rw [if_neg c]
  refine ⟨by simp,fun _ => ?_⟩;have hb:=hF.bnd 0 h0;obtain ⟨hw,hlen⟩:=hF.path hto hend (fA far 0).2.toNat 0 h0 (by omega) (by omega);refine ⟨⟨_,h.toX hw s0 h.first⟩,?_,by simp only; omega,by simp only; omega⟩;rcases hl with ⟨h1,_⟩ | ⟨_,_,h2⟩
  ·omega
  ·exact h2
end
def goalX (rs : List RoomE) (gl : List UInt8) (x : StE) : Bool:=decide ((x.r : Int) = roomI rs gl)
def tmX (ds : List DoorE) (k : Nat) : Int:=(ds.getD k default).time
def keyX (ds : List DoorE) (k : Nat) : List UInt8:=(ds.getD k default).key
def stX (rs : List RoomE) (T : List (List UInt8)) (room : List UInt8) (th : List (List UInt8)) : StE:=⟨ixR rs room,bitsT T th,0⟩
section
variable {rs : List RoomE} {ds : List DoorE} {T : List (List UInt8)} {tr tr' : List (List UInt8)} {st gl : List UInt8}
theorem getD_door {k : Nat} (hk : k < ds.length) : ds.getD k default = ds[k]:=by rw [List.getD_eq_getElem?_getD,List.getElem?_eq_getElem hk]; rfl
theorem goalX_room (hR : Right rs ds st gl) {room : List UInt8} (hr : room ∈ rs.map RoomE.key) {th : List (List UInt8)} : goalX rs gl (stX rs T room th) = true ↔ room = gl:=by
 unfold goalX stX;rw [decide_eq_true_eq,roomI_mem hR.gl]
 constructor
 ·intro h; exact ixR_inj hr hR.gl (by have h' : (ixR rs room : Int) = (ixR rs gl : Int):=h; omega)
 ·rintro rfl; rfl
theorem nxX_iff (hR : Right rs ds st gl) (hTd : onceT (allT rs ds) = T) {room : List UInt8} (hr : room ∈ rs.map RoomE.key) {th : List (List UInt8)} {k : Nat} {y : StE} :
  (k,y) ∈ nxX rs T ds tr [] id (stX rs T room th) ↔ ∃ hk : k < ds.length,goE tr room th ds[k] = 0 ∧ y = stX rs T ds[k].dst (thru rs th ds[k]):=by
 have hT : T.length ≤ 10:=by rw [← hTd]; exact hR.few
 constructor
 ·intro h
  obtain ⟨hk,z,hp,hy,hsrc,hok⟩:=nxX_mem h;simp only at hk hp hy hsrc hok;rw [getD_door hk] at hp hsrc hok;have hd:=List.getElem_mem hk;rw [passX_th (ds:=ds) hT (needs_sub hTd hd) (show (stX rs T room th).b = bitsT T th from rfl)] at hp
  have hsr : room = ds[k].src:=by
   rw [roomI_mem (hR.src _ hd)] at hsrc;exact ixR_inj hr (hR.src _ hd) (by have : ((stX rs T room th).r : Int) = (ixR rs room : Int):=rfl; rw [this] at hsrc; omega)
  split at hp
  ·rename_i hn
   injection hp with hp;refine ⟨hk,?_,?_⟩
   ·unfold goE
    rw [if_neg (by rw [hsr]; simp),if_neg ((okD_none (hR.dkey _ hd)).1 hok),if_neg (by simpa using hn)]
   ·rw [hy,← hp]; rfl
  ·cases hp
 ·rintro ⟨hk,hg,rfl⟩
  have hd:=List.getElem_mem hk;unfold goE at hg
  split at hg
  ·cases hg
  rename_i c1
  split at hg
  ·cases hg
  rename_i c2
  split at hg
  ·cases hg
  rename_i c3;have hsr : room = ds[k].src:=Classical.not_not.1 c1;have hn:=Classical.not_not.1 c3;unfold nxX;refine List.mem_filterMap.2 ⟨(k : Int),?_,?_⟩
  ·have : roomI rs ds[k].src = ((stX rs T room th).r : Int):=by rw [roomI_mem (hR.src _ hd),← hsr]; rfl
   exact (out_mem hk this).2 ((okD_none (hR.dkey _ hd)).2 c2)
  ·rw [Int.toNat_natCast,getD_door hk,passX_th (ds:=ds) hT (needs_sub hTd hd) (show (stX rs T room th).b = bitsT T th from rfl),if_pos hn]
   rfl
theorem way_walk (hR : Right rs ds st gl) (hTd : onceT (allT rs ds) = T) {x : StE} {t d : Int} {ks : List Nat} (hw : WayX (nxX rs T ds tr [] id) (goalX rs gl) (tmX ds) x t d ks) : ∀ room th t0,room ∈ rs.map RoomE.key → x = stX rs T room th → ∃ th',walkS rs ds tr (ks.map (keyX ds)) room th t0 = ⟨0,gl,th',t0 + t⟩:=by
 induction hw with
 | @stop x h =>
  rintro room th t0 hr rfl;rw [(goalX_room hR hr).1 h];exact ⟨th,by simp [walkS]⟩
 | @go x y k t d ks hf hm _ ih =>
  rintro room th t0 hr rfl;obtain ⟨hk,hg,rfl⟩:=(nxX_iff hR hTd hr).1 hm;obtain ⟨th',e⟩:=ih ds[k].dst (thru rs th ds[k]) (t0 + ds[k].time) (hR.dst _ (List.getElem_mem hk)) rfl;refine ⟨th',?_⟩;rw [List.map_cons,show keyX ds k = ds[k].key by unfold keyX; rw [getD_door hk],walk_some hR.dup hk,if_neg (by simp [hg]),e]
  congr 1
  unfold tmX; rw [getD_door hk]; omega
theorem walk_way (hR : Right rs ds st gl) (hTd : onceT (allT rs ds) = T) : ∀ (l : List (List UInt8)) (room : List UInt8) (th th' : List (List UInt8)) (t0 t1 : Int),room ∈ rs.map RoomE.key → walkS rs ds tr l room th t0 = ⟨0,gl,th',t1⟩ → t0 ≤ t1 ∧ ∃ t d ks,WayX (nxX rs T ds tr [] id) (goalX rs gl) (tmX ds) (stX rs T room th) t d ks ∧ t ≤ t1 - t0
 | [],room,th,th',t0,t1,hr,h => by
  simp only [walkS,WkR.mk.injEq,true_and] at h;obtain ⟨rfl,_,rfl⟩:=h;exact ⟨Int.le_refl _,0,0,[],.stop ((goalX_room hR hr).2 rfl),by omega⟩
 | key :: l,room,th,th',t0,t1,hr,h => by
  by_cases hkm : key ∈ ds.map DoorE.key
  ·obtain ⟨k,hk,e⟩:=List.mem_iff_getElem.1 hkm
   rw [List.getElem_map] at e
   have hk' : k < ds.length:=by simpa using hk
   rw [← e,walk_some hR.dup hk'] at h
   by_cases hg : goE tr room th ds[k] = 0
   ·rw [if_neg (by simp [hg])] at h
    obtain ⟨h1,t,d,ks,hw,hle⟩:=walk_way hR hTd l ds[k].dst (thru rs th ds[k]) th' (t0 + ds[k].time) t1 (hR.dst _ (List.getElem_mem hk')) h;have ht:=hR.time _ (List.getElem_mem hk');refine ⟨by omega,?_⟩
    by_cases hgl : room = gl
    ·exact ⟨0,0,[],.stop ((goalX_room hR hr).2 hgl),by omega⟩
    ·refine ⟨t + tmX ds k,d + 1,k :: ks,.go ?_ ((nxX_iff hR hTd hr).2 ⟨hk',hg,rfl⟩) hw,?_⟩
     ·cases hgx : goalX rs gl (stX rs T room th) with
      | false => rfl
      | true => exact absurd ((goalX_room hR hr).1 hgx) hgl
     ·unfold tmX; rw [getD_door hk']; omega
   ·rw [if_pos hg] at h
    unfold wkBad at h;simp only [WkR.mk.injEq] at h;exact absurd h.1 hg
  ·rw [walk_none hkm] at h
   unfold wkBad at h;simp only [WkR.mk.injEq] at h;exact absurd h.1 (by decide)
theorem nxX_mono {wo : List UInt8} (hs : ∀ s ∈ tr,s ∈ tr') {sf : StE → StE} (x : StE) (p : Nat × StE) (h : p ∈ nxX rs T ds tr wo sf x) : p ∈ nxX rs T ds tr' wo sf x:=by
 unfold nxX at h ⊢;obtain ⟨k,hk,h2⟩:=List.mem_filterMap.1 h;refine List.mem_filterMap.2 ⟨k,?_,h2⟩;unfold outN at hk ⊢;obtain ⟨j,hj,e⟩:=List.mem_map.1 hk;obtain ⟨h1,h3⟩:=List.mem_filter.1 hj;refine List.mem_map.2 ⟨j,List.mem_filter.2 ⟨h1,?_⟩,e⟩;simp only [Bool.and_eq_true,okD,Bool.or_eq_true,decide_eq_true_eq] at h3 ⊢;exact ⟨h3.1,h3.2.1,h3.2.2.imp id (hs _)⟩
end
end Go.Proofs.YtkchacgkjdeiaaaGreatDoor
/- The walk of path at any graph. -/
namespace Go.Proofs.YtkchacgkjdeiaaaGreatDoor
open Go.RowKit

theorem StpR.below {w W : World} {lo eb : Nat} {stp : List (List (Nat × Nat))} (h : StpR w lo eb stp) (hb : Below w.heap.size w W) : StpR W lo eb stp:=fun i hi =>
 let ⟨A,c,a,b⟩:=h i hi; ⟨A,c,(hb.cell (p:=⟨eb,i,none⟩) (World.block_lt_of_cell? w _ a)).trans a,b.below hb⟩
structure GrW (W : World) (lo g p n nc eb ec bc fb fc : Nat) (NA BA : Option Addr) (sts : List StE) (stp : List (List (Nat × Nat))) (lst : List Bool) (far : List (Int × Int)) : Prop where
  g : Blk W g 243 #[.pointer (some ⟨p, 0, none⟩), .slice NA n nc, .slice (some ⟨eb, 0, none⟩) n ec, .slice BA n bc, .slice (some ⟨fb, 0, none⟩) n fc]
  N : Row W lo 3 NA n (sts.flatMap encT)
  S : StpR W lo eb stp
  B : Row W lo 1 BA n (lst.map Value.bool)
  F : Row W lo 2 (some ⟨fb, 0, none⟩) n (prs far)
section
variable {W W' : World} {lo g p n nc eb ec bc fb fc : Nat} {NA BA : Option Addr} {sts : List StE} {stp : List (List (Nat × Nat))} {lst : List Bool} {far : List (Int × Int)}
theorem GrW.below (h : GrW W lo g p n nc eb ec bc fb fc NA BA sts stp lst far) (hb : Below W.heap.size W W') : GrW W' lo g p n nc eb ec bc fb fc NA BA sts stp lst far :=
 ⟨h.g.below hb,h.N.below hb,h.S.below hb,h.B.below hb,h.F.below hb⟩
theorem GrW.farC (h : GrW W lo g p n nc eb ec bc fb fc NA BA sts stp lst far) (hl : far.length = n) {i : Nat} (hi : i < n) : fb < W.heap.size ∧ W.cell? ⟨fb,i * 2,none⟩ = some (.int .i64 (fA far i).1) ∧ W.cell? ⟨fb,i * 2 + 1,none⟩ = some (.int .i64 (fA far i).2):=by
 obtain ⟨b,off,e,_,hb,hc⟩:=h.F.2 (by omega);injection e with e;injection e with e1 e2;subst e1 e2
 have hif : i < far.length:=by omega
 have h1:=prs_at far i hif;rw [fA_lt hif];refine ⟨hb,?_,?_⟩
 ·have:=hc (i * 2) _ h1.1; rwa [Nat.zero_add] at this
 ·have:=hc (i * 2 + 1) _ h1.2; rwa [Nat.zero_add] at this
theorem GrW.lastC (h : GrW W lo g p n nc eb ec bc fb fc NA BA sts stp lst far) {i : Nat} (hi : i < n) {b : Bool} (hb : lst[i]? = some b) : ∃ k off,BA = some ⟨k,off,none⟩ ∧ k < W.heap.size ∧ W.cell? ⟨k,off + i,none⟩ = some (.bool b):=by
 obtain ⟨k,off,e,_,hk,hc⟩:=h.B.2 (by omega);exact ⟨k,off,e,hk,hc i _ (by rw [List.getElem?_map,hb]; rfl)⟩
theorem GrW.stepC (h : GrW W lo g p n nc eb ec bc fb fc NA BA sts stp lst far) {i : Nat} {L : List (Nat × Nat)} (hL : stp[i]? = some L) : eb < W.heap.size ∧ ∃ A c,W.cell? ⟨eb,i,none⟩ = some (.slice A L.length c) ∧ Row W lo 2 A L.length (L.flatMap encG):=by
 obtain ⟨hi,rfl⟩:=List.getElem?_eq_some_iff.1 hL;obtain ⟨A,c,a,b⟩:=h.S i hi;exact ⟨World.block_lt_of_cell? W _ a,A,c,a,b⟩
theorem MapW.doorK {w : World} {lo b off : Nat} {A : Option Addr} {rs : List RoomE} {ds : List DoorE} (h : MapW w lo A rs (some ⟨b,off,none⟩) ds) {k : Nat} (hk : k < ds.length) : w.cell? ⟨b,off + k * 7,none⟩ = some (.string ⟨ds[k].key.toArray⟩):=by
 obtain ⟨b',o',e,_,hc⟩:=h.door (by omega);injection e with e;injection e with e1 e2;subst e1 e2;exact (hc k hk).1
structure PaS (w W : World) (rb ob : Nat) (A : Option Addr) (c : Nat) (t : Int) (l : List (List UInt8)) : Prop where
  b : Below w.heap.size w W
  r : Blk W rb 130 #[.slice none 0 0, .int .i64 0]
  o : Blk W ob 130 #[.slice A l.length c, .int .i64 t]
  own : W.ownsRow w.heap.size 9 1 (.slice A l.length c) l.length (strs l)
  rg : w.heap.size ≤ rb
  og : rb < ob
variable {w : World} {rb ob c c' : Nat} {A A' : Option Addr} {t : Int} {l : List (List UInt8)}
theorem PaS.below (h : PaS w W rb ob A c t l) (hb : Below W.heap.size W W') : PaS w W' rb ob A c t l:=⟨below_up h.b hb,h.r.below hb,h.o.below hb,own_keep h.own hb,h.rg,h.og⟩
theorem PaS.alloc (h : PaS w W rb ob A c t l) (x : Obj) : PaS w (W.alloc x) rb ob A c t l:=h.below ((Below.refl _ _).alloc (Nat.le_refl _) x)
theorem PaS.drewN (h : PaS w W rb ob A c t l) (k : Nat) : PaS w (W.drewN k) rb ob A c t l:=h.below (below_drewN' (Below.refl _ _) k)
theorem PaS.drew (h : PaS w W rb ob A c t l) : PaS w W.drew rb ob A c t l:=h.below (below_drewN' (Below.refl _ _) 1)
theorem PaS.mid (h : PaS w W rb ob A c t l) (G : W.grownBy W' (Value.slice A l.length c).ownBlock) : Below w.heap.size w W' ∧ Blk W' rb 130 #[.slice none 0 0,.int .i64 0] ∧ Blk W' ob 130 #[.slice A l.length c,.int .i64 t] :=
 ⟨h.b.grown G h.b.size (own_base h.own),h.r.other G (own_kind h.own) (by decide),h.o.other G (own_kind h.own) (by decide)⟩
theorem PaS.push (h : PaS w W rb ob A c t l) (G : W.grownBy W' (Value.slice A l.length c).ownBlock) {k : List UInt8} (hd : W'.ownsRow w.heap.size 9 1 (.slice A' (l ++ [k]).length c') (l ++ [k]).length (strs (l ++ [k]))) : PaS w (W'.setCell ⟨ob,0,none⟩ (.slice A' (l ++ [k]).length c')) rb ob A' c' t (l ++ [k]):=by
 obtain ⟨h1,h2,h3⟩:=h.mid G;have hg:=h.og;have hr:=h.rg;exact ⟨Below.setCell h1 (by simp; omega) _,h2.past ob 0 _ (by omega),by simpa using h3.poke 0 (.slice A' (l ++ [k]).length c'),own_past hd h3 (by decide) 0 _,h.rg,h.og⟩
end
def PaPost (w : World) (ks : List (List UInt8)) (t : Int) (is : Bool) (e : Ending) (w' : World) : Prop :=
 ∃ A c,e = .returned (.tuple #[.agg #[.slice A ks.length c,.int .i64 t],.bool is]) ∧ w'.ownsRow w.heap.size 9 1 (.slice A ks.length c) ks.length (strs ks) ∧ Below w.heap.size w w'

set_option maxHeartbeats 8000000 in
set_option maxRecDepth 100000 in
theorem path_any (w : World) (lo g n nc eb ec bc fb fc : Nat) (NA BA : Option Addr) (sts : List StE) (stp : List (List (Nat × Nat))) (lst : List Bool) (far : List (Int × Int)) (lo0 mp : Nat) (q0 : WorP) (T : List (List UInt8)) (rs : List RoomE) (ds : List DoorE) (tr : List (List UInt8)) (wo st gl : List UInt8) (lo1 ca cd : Nat) (A D : Option Addr)
  (hG : GrW w lo g q0.p n nc eb ec bc fb fc NA BA sts stp lst far) (hW : WorW w lo0 mp q0 T rs ds tr wo st gl) (hC : McC w w mp lo1 A rs ca D ds cd st gl) (hR : Right rs ds st gl) (hF : FarOk n stp lst (tmX ds) far)
  (hn0 : 0 < n) (hnb : n ≤ 614400) (hsl : stp.length = n) (hll : lst.length = n) (h5 : ∀ l ∈ stp,l.length ≤ 500) (hto : ∀ i k j,(k,j) ∈ stp.getD i [] → j < n ∧ k < ds.length) (hend : ∀ i,lst[i]? = some true → stp.getD i [] = []) :
  Calls Tryz.prog 100 #[.pointer (some ⟨g,0,none⟩)] w (PaPost w ((pathR stp lst (tmX ds) far).ks.map (keyX ds)) (pathR stp lst (tmX ds) far).t (pathR stp lst (tmX ds) far).is):=by
 have HG:=Lib.hid hG;have HFL:=Lib.hid hF.flen;have HX:=Lib.hid (And.intro hsl (And.intro hll (And.intro hto hend)));have HTO : Hid (∀ i k j,(k,j) ∈ stp.getD i [] → j < n):=Lib.hid (fun i k j h => (hto i k j h).1);have HTM : Hid (∀ k,k < ds.length → 1 ≤ tmX ds k ∧ tmX ds k ≤ 864000000):=Lib.hid (fun k hk => by unfold tmX; rw [getD_door hk]; exact hR.time _ (List.getElem_mem hk));have H5:=Lib.hid h5;have HW:=Lib.hid hW;have HC:=Lib.hid hC;have HR:=Lib.hid hR;have hdl:=hR.dl;have HF:=Lib.hid hF;have HTX : Hid (∀ k (hk : k < ds.length),tmX ds k = ds[k].time):=Lib.hid (fun k hk => by unfold tmX; rw [getD_door hk]);have HKX : Hid (∀ k (hk : k < ds.length),keyX ds k = ds[k].key):=Lib.hid (fun k hk => by unfold keyX; rw [getD_door hk]);have HPN : Hid (∀ d i : Nat,lst[i]? ≠ some true → ∀ p,(stp.getD i []).find? (tightB (tmX ds) far i) = some p → (pathG stp lst (tmX ds) far (d + 1) i).map (keyX ds) = keyX ds p.1 :: (pathG stp lst (tmX ds) far d p.2).map (keyX ds)):=Lib.hid (fun d i h1 p h2 => by rw [pathG_next h1 h2]; rfl);obtain ⟨k0,k1,k2,k3,k4⟩:=hG.g.w5;have zg:=hG.g.lt;obtain ⟨zf,f0,f1⟩:=hG.farC HFL.out hn0;rw [Nat.zero_mul] at f0;clear hG hF hsl hll hto hend h5 hR hW hC
 by_cases h0 : (fA far 0).1 < 0
 ·have d0 : decide ((fA far 0).1 < 0) = true:=decide_eq_true h0
  have e0 : pathR stp lst (tmX ds) far = ⟨[],0,false⟩:=if_pos h0;rw [e0]
  go_enter Tryz.func100,Tryz.ntmps100
  go_wp2_with fail;obtain ⟨v0,v1⟩:=(Blk.new w 130 #[.slice none 0 0,.int .i64 0]).w2;refine bodyPost_ret (v:=.tuple #[.agg #[.slice none 0 0,.int .i64 0],.bool false]) (by simp [results,Tryz.results100,go_sem,v0,v1]) rfl ?_;exact ⟨none,0,rfl,World.ownsRow_nil _ _ _ _,(by repeat (first | exact Below.refl _ _ | refine Below.alloc ?_ (by first | omega | (simp; omega) | simp) _ | refine below_drewN' ?_ _ | refine Below.drew ?_))⟩
 ·have d0 : decide ((fA far 0).1 < 0) = false:=decide_eq_false h0
  have e0 : pathR stp lst (tmX ds) far = ⟨pathG stp lst (tmX ds) far (fA far 0).2.toNat 0,(fA far 0).1,true⟩:=if_neg h0;rw [e0];simp only
  obtain ⟨KS,hKS⟩ : ∃ KS,KS = (pathG stp lst (tmX ds) far (fA far 0).2.toNat 0).map (keyX ds):=⟨_,rfl⟩
  rw [← hKS];have HKS:=Lib.hid hKS
  have HKL : Hid (KS.length ≤ 614400):=Lib.hid (by
   have h1:=HF.out.bnd 0 hn0;have h2:=(HF.out.path HTO.out HX.out.2.2.2 (fA far 0).2.toNat 0 hn0 (by omega) (by omega)).2;rw [hKS,List.length_map,h2]
   omega)
  clear hKS e0
  obtain ⟨tm,htm⟩ : ∃ tm,tm = tmX ds:=⟨_,rfl⟩
  obtain ⟨ky,hky⟩ : ∃ ky,ky = keyX ds:=⟨_,rfl⟩
  rw [← htm] at HF HTM HTX;rw [← htm,← hky] at HKS HPN;rw [← hky] at HKX;clear htm hky
  go_enter Tryz.func100,Tryz.ntmps100
  go_wp2_with fail
  have hp : PaS w ((w.alloc (.cells #[.slice none 0 0,.int .i64 0] 130)).alloc (.cells #[.slice none 0 0,.int .i64 (fA far 0).1] 130)) w.heap.size (w.heap.size + 1) none 0 (fA far 0).1 []:=⟨(by repeat (first | exact Below.refl _ _ | refine Below.alloc ?_ (by first | omega | (simp; omega) | simp) _ | refine below_drewN' ?_ _ | refine Below.drew ?_)),(Blk.new _ _ _).alloc _,Blk.at_ _ (by simp),World.ownsRow_nil _ _ _ _,Nat.le_refl _,Nat.lt_succ_self _⟩
  generalize ((w.alloc (.cells #[.slice none 0 0,.int .i64 0] 130)).alloc (.cells #[.slice none 0 0,.int .i64 (fA far 0).1] 130)) = W1 at *
  obtain ⟨rb,hrb⟩ : ∃ rb,rb = w.heap.size:=⟨_,rfl⟩
  rw [← hrb] at hp ⊢;clear hrb;generalize rb + 1 = ob at *;clear k0 k1 k2 k3 k4 zg zf f0 f1
  go_loopw [5] (fun v wr => ∃ (i : Nat) (PA : Option Addr) (pc : Nat) (l : List (List UInt8)),i < n ∧ v = .int .i64 i ∧ PaS w wr rb ob PA pc (fA far 0).1 l ∧ Hid (0 ≤ (fA far i).1 ∧ l ++ (pathG stp lst tm far (fA far i).2.toNat i).map ky = KS)) (fun v _ => (fA far (intOf v).toNat).2.toNat)
  case atStart => exact ⟨0,none,0,[],hn0,rfl,hp,Lib.hid ⟨by omega,HKS.out.symm⟩⟩
  case round =>
   clear hp;obtain ⟨i,PA,pc,l,hi,rfl,hp,HI⟩:=hrel;have HGR:=Lib.hid (HG.out.below hp.b);obtain ⟨k0,k1,k2,k3,k4⟩:=HGR.out.g.w5;have zg:=HGR.out.g.lt
   obtain ⟨lb,HLB⟩ : ∃ b,Hid (lst[i]? = some b):=⟨lst[i]'(by rw [HX.out.2.1]; exact hi),Lib.hid (List.getElem?_eq_getElem _)⟩
   obtain ⟨bb,boff,rfl,zb,cb⟩:=HGR.out.lastC hi HLB.out
   cases hlb : lb with
   | true =>
    rw [hlb] at cb HLB
    have HLE : Hid (l = KS):=Lib.hid (by
     have:=HI.out.2
     rwa [pathG_end HLB.out,List.map_nil,List.append_nil] at this)
    obtain ⟨u0,u1⟩:=hp.r.w2;obtain ⟨v0,v1⟩:=hp.o.w2;have fu0:=hp.r.thaw 0;have fu1:=hp.r.thaw 1;have zu:=hp.r.lt;have zo:=hp.o.lt;have hne : rb ≠ ob:=Nat.ne_of_lt hp.og;clear hlb;go_wp2_with fail
    have hr2 : Blk ((wr.setCell ⟨rb,0,none⟩ (.slice PA l.length pc)).setCell ⟨rb,1,none⟩ (.int .i64 (fA far 0).1)) rb 130 #[.slice PA l.length pc,.int .i64 (fA far 0).1]:=by simpa using (hp.r.poke 0 (.slice PA l.length pc)).poke 1 (.int .i64 (fA far 0).1)
    have hbel:=Below.setCell (Below.setCell hp.b (show w.heap.size ≤ (⟨rb,0,none⟩ : Addr).block from hp.rg) (.slice PA l.length pc)) (show w.heap.size ≤ (⟨rb,1,none⟩ : Addr).block from hp.rg) (.int .i64 (fA far 0).1);have hd:=own_past (own_past hp.own hp.r (by decide) 0 (.slice PA l.length pc)) (hp.r.poke 0 (.slice PA l.length pc)) (by decide) 1 (.int .i64 (fA far 0).1);generalize (wr.setCell ⟨rb,0,none⟩ (.slice PA l.length pc)).setCell ⟨rb,1,none⟩ (.int .i64 (fA far 0).1) = W5 at *;obtain ⟨v0,v1⟩:=hr2.w2;refine bodyPost_ret (v:=.tuple #[.agg #[.slice PA l.length pc,.int .i64 (fA far 0).1],.bool true]) (by simp [results,Tryz.results100,go_sem,v0,v1]) rfl ?_;rw [← HLE.out];exact ⟨PA,pc,rfl,hd,hbel⟩
   | false =>
    rw [hlb] at cb HLB;have HNL : Hid (lst[i]? ≠ some true):=Lib.hid (by rw [HLB.out]; simp)
    obtain ⟨L,HL⟩ : ∃ L,Hid (stp[i]? = some L):=⟨stp[i]'(by rw [HX.out.1]; exact hi),Lib.hid (List.getElem?_eq_getElem _)⟩
    have HLD : Hid (stp.getD i [] = L ∧ L.length ≤ 500):=Lib.hid ⟨by rw [List.getD_eq_getElem?_getD,HL.out]; rfl,H5.out _ (List.mem_of_getElem? HL.out)⟩;obtain ⟨ze,LA,lc,hc1,hr1⟩:=HG.out.stepC HL.out;have hc1:=(hp.b.cell (p:=⟨eb,i,none⟩) ze).trans hc1;have ze:=Nat.lt_of_lt_of_le ze hp.b.size
    obtain ⟨pp,HFI⟩ : ∃ pp,Hid ((stp.getD i []).find? (tightB tm far i) = some pp ∧ pp ∈ stp.getD i [] ∧ pp.2 < n ∧ 0 ≤ (fA far pp.2).1 ∧ (fA far pp.2).1 + tm pp.1 = (fA far i).1 ∧ (fA far pp.2).2 + 1 = (fA far i).2):=by
     obtain ⟨pp,h⟩:=HF.out.tight HTO.out hi HI.out.1 HNL.out;exact ⟨pp,Lib.hid h⟩
    have hl5:=HLD.out.2;have HR1:=Lib.hid hr1;clear hr1 hlb;go_wp2_with fail;clear k0 k1 k2 k3 k4 zg zb cb ze hc1
    go_loopw [5,42] (fun u v wv => ∃ m : Nat,u = .int .i64 i ∧ m ≤ L.length ∧ v = .int .i64 m ∧ PaS w wv rb ob PA pc (fA far 0).1 l ∧ Hid ((L.take m).find? (tightB tm far i) = none)) (fun _ v _ => L.length - (intOf v).toNat)
    case atStart => exact ⟨0,rfl,Nat.zero_le _,rfl,hp,Lib.hid rfl⟩
    case round =>
     clear hp HGR;obtain ⟨m,rfl,hml,rfl,hp,HFN⟩:=hrel
     by_cases hlm : m < L.length
     ·obtain ⟨sb,so,rfl,hsb,s0,s1⟩:=StpR.at (HR1.out.below hp.b) hlm
      obtain ⟨k,j,hkj⟩ : ∃ k j,L[m] = (k,j):=⟨_,_,rfl⟩
      rw [hkj] at s0 s1;have HMK : Hid (∃ h : m < L.length,L[m] = (k,j)):=Lib.hid ⟨hlm,hkj⟩
      have hmem : (k,j) ∈ stp.getD i []:=by rw [HLD.out.1,← hkj]; exact List.getElem_mem hlm
      obtain ⟨hjn,hkd⟩:=HX.out.2.2.1 i k j hmem;have HMEM:=Lib.hid hmem
      have hj0 : (0 : Int) ≤ (j : Int):=by omega
      have hj1 : (j : Int) < (n : Int):=by omega
      have hi0 : (0 : Int) ≤ (i : Int):=by omega
      have hi1 : (i : Int) < (n : Int):=by omega
      have hk0 : (0 : Int) ≤ (k : Int):=by omega
      have hk1 : (k : Int) < (ds.length : Int):=by omega
      obtain ⟨db0,doff0,HDA⟩ : ∃ db doff,Hid (q0.DA = some ⟨db,doff,none⟩):=by
       obtain ⟨db,doff,e,-,-⟩:=HW.out.doorI HR.out hkd;exact ⟨db,doff,Lib.hid e⟩
      obtain ⟨mb0,moff0,rfl,-,-⟩:=HC.out.m.door (by omega);clear hmem hkj;go_upto_region 9 with (fail);clear s0 s1 hsb;have hs : Blk (wr.alloc (.cells #[.int .i64 (k : Int),.int .i64 (j : Int)] 246)) wr.heap.size 246 #[.int .i64 (k : Int),.int .i64 (j : Int)]:=Blk.new _ _ _;have hp:=hp.alloc (.cells #[.int .i64 (k : Int),.int .i64 (j : Int)] 246);generalize wr.alloc (.cells #[.int .i64 (k : Int),.int .i64 (j : Int)] 246) = Z at *;generalize wr.heap.size = s at *;have hs : Blk Z.drew s 246 #[.int .i64 (k : Int),.int .i64 (j : Int)]:=hs.drew;have hp:=hp.drew;refine wp_region_held_drew (S:=(fun w' => w'.cell? ⟨g,4,none⟩ = some (.slice (some ⟨fb,0,none⟩) n fc) ∧ w'.cell? ⟨s,1,none⟩ = some (.int .i64 (j : Int)) ∧ w'.cell? ⟨fb,j * 2,none⟩ = some (.int .i64 (fA far j).1) ∧ w'.cell? ⟨fb,j * 2 + 1,none⟩ = some (.int .i64 (fA far j).2))) (by kernel_rfl) (⟨(HG.out.below hp.b).g.w5.2.2.2.2,hs.w2.2,((HG.out.below hp.b).farC HFL.out hjn).2⟩) (fun hHeld => ?_);(refine QU 0 ?_; (try simp only [Act.put,Q3,Q4,Q5]));(refine QU 1 ?_; (try simp only [Act.put,Q3,Q4,Q5]));(refine QU 2 ?_; (try simp only [Act.put,Q3,Q4,Q5]));(refine QU 3 ?_; (try simp only [Act.put,Q3,Q4,Q5]));(refine QU 4 ?_; (try simp only [Act.put,Q3,Q4,Q5]));(refine QU 5 ?_; (try simp only [Act.put,Q3,Q4,Q5]));(refine QU 6 ?_; (try simp only [Act.put,Q3,Q4,Q5]));(refine QU 7 ?_; (try simp only [Act.put,Q3,Q4,Q5]));refine QR 8 fun K hK => ?_;go_simp;have hp0:=hp;have hs0:=hs;have hp:=hp.alloc (.cells #[.int .i64 0,.int .i64 0] 238);have hs:=hs.alloc (.cells #[.int .i64 0,.int .i64 0] 238);refine hK.out _ _ (⟨(HG.out.below hp.b).g.w5.2.2.2.2,hs.w2.2,((HG.out.below hp.b).farC HFL.out hjn).2⟩) (fun hHeld => ?_);clear hK K;(try simp only [Act.put,Q3,Q4,Q5]);refine QR 9 fun K hK => ?_;go_simp;have hp:=hp0.alloc (.cells #[.int .i64 (fA far j).1,.int .i64 (fA far j).2] 238);have hs:=hs0.alloc (.cells #[.int .i64 (fA far j).1,.int .i64 (fA far j).2] 238);refine hK.out _ _ (⟨(HG.out.below hp.b).g.w5.2.2.2.2,hs.w2.2,((HG.out.below hp.b).farC HFL.out hjn).2⟩) (fun hHeld => ?_);clear hK K;(try simp only [Act.put,Q3,Q4,Q5]);refine wpAnyH_done (by kernel_rfl) ?_ _;have hf : Blk (Z.alloc (.cells #[.int .i64 (fA far j).1,.int .i64 (fA far j).2] 238)).drew Z.heap.size 238 #[.int .i64 (fA far j).1,.int .i64 (fA far j).2]:=(Blk.new _ _ _).drew;have hp : PaS w (Z.alloc (.cells #[.int .i64 (fA far j).1,.int .i64 (fA far j).2] 238)).drew rb ob PA pc (fA far 0).1 l:=hp;have hs : Blk (Z.alloc (.cells #[.int .i64 (fA far j).1,.int .i64 (fA far j).2] 238)).drew s 246 #[.int .i64 (k : Int),.int .i64 (j : Int)]:=hs;clear hp0 hs0;generalize (Z.alloc (.cells #[.int .i64 (fA far j).1,.int .i64 (fA far j).2] 238)).drew = Y at *;generalize Z.heap.size = r at *;have hbj:=HF.out.bnd j hjn;have hbi:=HF.out.bnd i hi;have htk:=HTM.out k hkd;rw [HTX.out k hkd] at htk
      obtain ⟨dt,hdt⟩ : ∃ dt,dt = ds[k].time:=⟨_,rfl⟩
      rw [← hdt] at htk;have HDT : Hid (tm k = dt):=Lib.hid (by rw [HTX.out k hkd,hdt])
      have HDO : Hid (∀ W,Below w.heap.size w W → W.cell? ⟨q0.p,3,none⟩ = some (.slice (some ⟨db0,doff0,none⟩) ds.length q0.dc) ∧ W.cell? ⟨db0,doff0 + k * 5 + 2,none⟩ = some (.int .i64 dt) ∧ W.cell? ⟨q0.p,0,none⟩ = some (.pointer (some ⟨mp,0,none⟩))):=Lib.hid (fun W hb => by
       have h1:=(HW.out.below hb).cells.2.2.2.1;obtain ⟨b',o',e',-,h2⟩:=(HW.out.below hb).doorI HR.out hkd;rw [HDA.out] at e' h1;injection e' with e';injection e' with e1 e2;subst e1 e2;rw [hdt]
       exact ⟨h1,h2.2.2.1,(HW.out.below hb).cells.1⟩)
      clear hdt
      by_cases c1 : 0 ≤ (fA far j).1
      ·have d1 : decide (0 ≤ (fA far j).1) = true:=decide_eq_true c1
       have w1 : IntKind.i64.wrap ((fA far j).1 + dt) = (fA far j).1 + dt:=IntWalk.i64_in _ ⟨by omega,by omega⟩;have w2 : IntKind.i64.wrap ((fA far j).2 + 1) = (fA far j).2 + 1:=IntWalk.i64_in _ ⟨by omega,by omega⟩
       by_cases c2 : (fA far j).1 + dt = (fA far i).1
       ·have d2 : ((fA far j).1 + dt == (fA far i).1) = true:=beq_iff_eq.2 c2
        by_cases c3 : (fA far j).2 + 1 = (fA far i).2
        ·have d3 : ((fA far j).2 + 1 == (fA far i).2) = true:=beq_iff_eq.2 c3
         obtain ⟨k0,k1,k2,k3,k4⟩:=(HG.out.below hp.b).g.w5;have zg:=(HG.out.below hp.b).g.lt;obtain ⟨zf,f0,f1⟩:=(HG.out.below hp.b).farC HFL.out hi;obtain ⟨r0,r1⟩:=hf.w2;have zr:=hf.lt;obtain ⟨s0,s1⟩:=hs.w2;have zs:=hs.lt;have p3:=(HDO.out _ hp.b).1;have pt:=(HDO.out _ hp.b).2.1;have zp:=World.block_lt_of_cell? Y _ p3;have zd:=World.block_lt_of_cell? Y _ pt;go_wp2_with fail
         go_quiet (fail)
         have hp:=hp.drewN nq;have hs : Blk (Y.drewN nq) s 246 #[.int .i64 (k : Int),.int .i64 (j : Int)]:=hs.drewN nq;clear k0 k1 k2 k3 k4 zg zf f0 f1 r0 r1 zr s0 s1 zs p3 pt zp zd hf;generalize Y.drewN nq = Z at *;have HKK : Hid (ky k = ds[k].key):=Lib.hid (HKX.out k hkd)
         obtain ⟨kk,hkk⟩ : ∃ kk,kk = ky k:=⟨_,rfl⟩
         have HT11 : Hid (∀ W,Below w.heap.size w W → W.cell? ⟨s,0,none⟩ = some (.int .i64 (k : Int)) → (fun w' => w'.cell? ⟨g,0,none⟩ = some (.pointer (some ⟨q0.p,0,none⟩)) ∧ w'.cell? ⟨q0.p,0,none⟩ = some (.pointer (some ⟨mp,0,none⟩)) ∧ w'.cell? ⟨mp,1,none⟩ = some (.slice (some ⟨mb0,moff0,none⟩) ds.length cd) ∧ w'.cell? ⟨s,0,none⟩ = some (.int .i64 (k : Int)) ∧ w'.cell? ⟨mb0,moff0 + k * 7,none⟩ = some (.string ⟨kk.toArray⟩)) W):=Lib.hid (fun W hb h0 => by
          have h1:=(HC.out.below hb).cells.2.1;have h2:=(HC.out.m.below hb).doorK hkd;rw [← HKK.out,← hkk] at h2
          exact ⟨(HG.out.below hb).g.w5.1,(HDO.out W hb).2.2,h1,h0,h2⟩)
         have HKE:=Lib.hid hkk
         have hlb : l.length ≤ 614400:=by
          have h1:=HI.out.2;have h2:=HKL.out;rw [← h1,List.length_append] at h2;omega
         have hlb1 : (l.length + 1) * 16 ≤ 140737488355328:=by omega
         have hlb2 : l.length + 1 ≤ 9223372036854775807:=by omega
         clear hkk;go_wp2_with fail;have hs:=hs.drew;have hp:=hp.drew;refine wp_region_heldK 20 (fun w' => w'.cell? ⟨ob,0,none⟩ = some (.slice PA l.length pc)) (fun w' => w'.cell? ⟨g,0,none⟩ = some (.pointer (some ⟨q0.p,0,none⟩)) ∧ w'.cell? ⟨q0.p,0,none⟩ = some (.pointer (some ⟨mp,0,none⟩)) ∧ w'.cell? ⟨mp,1,none⟩ = some (.slice (some ⟨mb0,moff0,none⟩) ds.length cd) ∧ w'.cell? ⟨s,0,none⟩ = some (.int .i64 (k : Int)) ∧ w'.cell? ⟨mb0,moff0 + k * 7,none⟩ = some (.string ⟨kk.toArray⟩)) (by kernel_rfl) (HT11.out _ hp.b hs.w2.1) (hp.o.w2.1) (fun hT hS => ?_);(refine KU2 0 ?_; (try simp only [Act.put,Q3,Q4,Q5]));(refine KU1 1 ?_; (try simp only [Act.put,Q3,Q4,Q5]));(refine KU2 2 ?_; (try simp only [Act.put,Q3,Q4,Q5]));(refine KU2 3 ?_; (try simp only [Act.put,Q3,Q4,Q5]));(refine KU2 4 ?_; (try simp only [Act.put,Q3,Q4,Q5]));(refine KU2 5 ?_; (try simp only [Act.put,Q3,Q4,Q5]));(refine KU2 6 ?_; (try simp only [Act.put,Q3,Q4,Q5]));(refine KU2 7 ?_; (try simp only [Act.put,Q3,Q4,Q5]));(refine KU2 8 ?_; (try simp only [Act.put,Q3,Q4,Q5]));(refine KU2 9 ?_; (try simp only [Act.put,Q3,Q4,Q5]));(refine KU2 10 ?_; (try simp only [Act.put,Q3,Q4,Q5]));(refine KU2 11 ?_; (try simp only [Act.put,Q3,Q4,Q5]));(refine KU2 12 ?_; (try simp only [Act.put,Q3,Q4,Q5]));(refine KU2 13 ?_; (try simp only [Act.put,Q3,Q4,Q5]));(refine KU2 14 ?_; (try simp only [Act.put,Q3,Q4,Q5]));(refine KU2 15 ?_; (try simp only [Act.put,Q3,Q4,Q5]));(refine KU2 16 ?_; (try simp only [Act.put,Q3,Q4,Q5]));refine wpAnyK_ready (rs:=[17]) (by kernel_rfl) (by simp) ?_;refine AllReadyK.cons rfl (fun K hK => ?_) AllReadyK.nil;go_simp;have hk : Blk (Z.drew.alloc (.cells #[.string ⟨kk.toArray⟩] 9)) Z.heap.size 9 #[.string ⟨kk.toArray⟩]:=Blk.at_ _ (by simp);have hp:=hp.alloc (.cells #[.string ⟨kk.toArray⟩] 9);have hs:=hs.alloc (.cells #[.string ⟨kk.toArray⟩] 9);refine hK.out _ _ (HT11.out _ hp.b hs.w2.1) (hp.o.w2.1) (fun hT hS => ?_);clear hK K;(try simp only [Act.put,Q3,Q4,Q5]);refine wpAnyK_ready (rs:=[18]) (by kernel_rfl) (by simp) ?_;refine AllReadyK.cons rfl (fun K hK => ?_) AllReadyK.nil;refine step_app (lo:=0) (base:=w.heap.size) (n:=l.length) (xs:=strs l) _ rfl _ _ ty_strsL rfl hp.own rfl (Row.lit (n:=1) (size:=1) hk (Nat.zero_le _) rfl) rfl rfl hlb1 hlb2 hp.b.size ?_;intro A5 c5 w5 hd5 g5 _
         have HD : w5.ownsRow w.heap.size 9 1 (.slice A5 (l ++ [kk]).length c5) (l ++ [kk]).length (strs (l ++ [kk])):=by simpa [strs,encStr] using hd5
         obtain ⟨hb5,hr5,ho5⟩:=hp.mid g5;have hs5:=hs.other g5 (own_kind hp.own) (by decide);refine hK.out _ _ (HT11.out _ hb5 hs5.w2.1) (ho5.w2.1) (fun hT hS => ?_);clear hK K;(try simp only [Act.put,Q3,Q4,Q5]);(refine KU2 19 ?_; (try simp only [Act.put,Q3,Q4,Q5]));refine wpAnyK_ready (rs:=[20]) (by kernel_rfl) (by simp) ?_;refine AllReadyK.consT (by kernel_rfl) rfl (fun K hK => ?_) AllReadyK.nil;have fo:=ho5.thaw 0;have co:=ho5.w2.1;have zo:=ho5.lt;go_simp;clear fo co zo;have hs:=hs5.other (grown_poke w5 ob 0 (.slice A5 (l ++ [kk]).length c5)) ho5.kind (by decide);have hp:=hp.push g5 HD;rw [show (l ++ [kk]).length = l.length + 1 by simp] at hs
         have hp : PaS w (w5.setCell ⟨ob,0,none⟩ (.slice A5 (l.length + 1) c5)) rb ob A5 c5 (fA far 0).1 (l ++ [kk]):=by rw [show (l ++ [kk]).length = l.length + 1 by simp] at hp; exact hp
         refine hK.out _ _ (HT11.out _ hp.b hs.w2.1) (fun hT => ?_);clear hK K;(try simp only [Act.put,Q3,Q4,Q5]);refine wpAnyK_done (by kernel_rfl) ?_ _;generalize w5.setCell ⟨ob,0,none⟩ (.slice A5 (l.length + 1) c5) = Y at *;obtain ⟨s0,s1⟩:=hs.w2;have zs:=hs.lt;go_wp2_with fail;go_roundw
         case rel => exact ⟨j,A5,c5,_,hjn,by go_num,hp,Lib.hid ⟨c1,by
          have hd : (fA far i).2.toNat = (fA far j).2.toNat + 1:=by omega
          have hfx:=find_hit (f:=tightB tm far i) HMK.out.1 HFN.out (by rw [HMK.out.2]; exact tightB_iff.2 ⟨c1,by rw [HDT.out]; exact c2,c3⟩);rw [HMK.out.2] at hfx;have h1:=HI.out.2;rw [hd,HPN.out _ i HNL.out (k,j) (by rw [HLD.out.1]; exact hfx)] at h1;rw [HKE.out,List.append_assoc]
          exact h1⟩⟩
         case measure => simp [intOf]; omega
        ·have d3 : ((fA far j).2 + 1 == (fA far i).2) = false:=beq_eq_false_iff_ne.2 c3
         obtain ⟨k0,k1,k2,k3,k4⟩:=(HG.out.below hp.b).g.w5;have zg:=(HG.out.below hp.b).g.lt;obtain ⟨zf,f0,f1⟩:=(HG.out.below hp.b).farC HFL.out hi;obtain ⟨r0,r1⟩:=hf.w2;have zr:=hf.lt;obtain ⟨s0,s1⟩:=hs.w2;have zs:=hs.lt;have p3:=(HDO.out _ hp.b).1;have pt:=(HDO.out _ hp.b).2.1;have zp:=World.block_lt_of_cell? Y _ p3;have zd:=World.block_lt_of_cell? Y _ pt;go_wp2_with fail
         go_quiet (fail)
         have hp:=hp.drewN nq;clear k0 k1 k2 k3 k4 zg zf f0 f1 r0 r1 zr s0 s1 zs p3 pt zp zd hf hs;generalize Y.drewN nq = Y at *;go_wp2_with fail;go_roundw
         case rel => exact ⟨m + 1,rfl,hlm,by go_num,hp,Lib.hid (find_on HMK.out.1 HFN.out (by rw [HMK.out.2]; exact Bool.eq_false_iff.2 (fun h => absurd (tightB_iff.1 h) (by simp only; omega))))⟩
         case measure => simp [intOf]; omega
       ·have d2 : ((fA far j).1 + dt == (fA far i).1) = false:=beq_eq_false_iff_ne.2 c2
        obtain ⟨k0,k1,k2,k3,k4⟩:=(HG.out.below hp.b).g.w5;have zg:=(HG.out.below hp.b).g.lt;obtain ⟨zf,f0,f1⟩:=(HG.out.below hp.b).farC HFL.out hi;obtain ⟨r0,r1⟩:=hf.w2;have zr:=hf.lt;obtain ⟨s0,s1⟩:=hs.w2;have zs:=hs.lt;have p3:=(HDO.out _ hp.b).1;have pt:=(HDO.out _ hp.b).2.1;have zp:=World.block_lt_of_cell? Y _ p3;have zd:=World.block_lt_of_cell? Y _ pt;go_wp2_with fail
        go_quiet (fail)
        have hp:=hp.drewN nq;clear k0 k1 k2 k3 k4 zg zf f0 f1 r0 r1 zr s0 s1 zs p3 pt zp zd hf hs;generalize Y.drewN nq = Y at *;go_wp2_with fail;go_roundw
        case rel => exact ⟨m + 1,rfl,hlm,by go_num,hp,Lib.hid (find_on HMK.out.1 HFN.out (by rw [HMK.out.2]; exact Bool.eq_false_iff.2 (fun h => absurd (tightB_iff.1 h) (by simp only; rw [HDT.out]; omega))))⟩
        case measure => simp [intOf]; omega
      ·have d1 : decide (0 ≤ (fA far j).1) = false:=decide_eq_false c1
       obtain ⟨k0,k1,k2,k3,k4⟩:=(HG.out.below hp.b).g.w5;have zg:=(HG.out.below hp.b).g.lt;obtain ⟨zf,f0,f1⟩:=(HG.out.below hp.b).farC HFL.out hi;obtain ⟨r0,r1⟩:=hf.w2;have zr:=hf.lt;obtain ⟨s0,s1⟩:=hs.w2;have zs:=hs.lt;have p3:=(HDO.out _ hp.b).1;have pt:=(HDO.out _ hp.b).2.1;have zp:=World.block_lt_of_cell? Y _ p3;have zd:=World.block_lt_of_cell? Y _ pt;go_wp2_with fail
       go_quiet (fail)
       have hp:=hp.drewN nq;clear k0 k1 k2 k3 k4 zg zf f0 f1 r0 r1 zr s0 s1 zs p3 pt zp zd hf hs;generalize Y.drewN nq = Y at *;go_wp2_with fail;go_roundw
       case rel => exact ⟨m + 1,rfl,hlm,by go_num,hp,Lib.hid (find_on HMK.out.1 HFN.out (by rw [HMK.out.2]; exact Bool.eq_false_iff.2 (fun h => absurd (tightB_iff.1 h) (by simp only; omega))))⟩
       case measure => simp [intOf]; omega
     ·exfalso
      have hme : m = L.length:=by omega
      have h1:=HFN.out;rw [hme,List.take_length,← HLD.out.1,HFI.out.1] at h1
      cases h1

end Go.Proofs.YtkchacgkjdeiaaaGreatDoor
/- fastest, time and Fastest at any map: what explore, measure and path find, put together. -/
namespace Go.Proofs.YtkchacgkjdeiaaaGreatDoor
open Go.RowKit

def ExGr (w W : World) (M g : Nat) (rs : List RoomE) (ds : List DoorE) (T tr : List (List UInt8)) (wo st gl : List UInt8) (sf : StE → StE) (ef : StE → Bool) (x0 : StE) : Prop :=
 ∃ (lo lo0 : Nat) (q : WorP) (n nc eb ec bc fb fc : Nat) (NA BA : Option Addr) (sts : List StE) (stp : List (List (Nat × Nat))) (far : List (Int × Int)),
  GrW W lo g q.p n nc eb ec bc fb fc NA BA sts stp (sts.map ef) far ∧ WorW W lo0 M q T rs ds tr wo st gl ∧ Hid (sts.length = n ∧ FarOk n stp (sts.map ef) (tmX ds) far ∧ ExOk (nxX rs T ds tr wo sf) ef (GoodX rs T) (sf x0) sts stp) ∧ Below w.heap.size w W
def nS (rs : List RoomE) (T : List (List UInt8)) : Nat:=rs.length * 2 ^ T.length * 6
theorem GoodX.lt {rs : List RoomE} {T : List (List UInt8)} {x : StE} (h : GoodX rs T x) : x.r < rs.length ∧ x.b < 2 ^ T.length ∧ x.s < 6:=by
 obtain ⟨⟨key,hk,e1⟩,⟨th,_,e2⟩,e3⟩:=h;refine ⟨by rw [e1]; exact ixR_lt hk,?_,by omega⟩;rw [e2]; exact bitsN_lt _ _
theorem few_statesN {rs : List RoomE} {T : List (List UInt8)} {sts : List StE} (hn : sts.Nodup) (h : ∀ x ∈ sts,GoodX rs T x) : sts.length ≤ nS rs T:=by
 have hb : 0 < 2 ^ T.length:=Nat.two_pow_pos _
 have h1:=nodup_le (nS rs T) (sts.map fun x => (x.r * 2 ^ T.length + x.b) * 6 + x.s) (nodup_map_inj hn (fun x hx y hy e => by
  obtain ⟨a1,a2,a3⟩:=(h x hx).lt;obtain ⟨b1,b2,b3⟩:=(h y hy).lt;generalize 2 ^ T.length = B at *
  cases x; rename_i xr xb xs
  cases y; rename_i yr yb ys
  simp only at *
  have e1 : xr * B + xb = yr * B + yb:=by omega
  have e2 : xs = ys:=by omega
  have e3 : xr = yr:=by
   have h1:=congrArg (· / B) e1;simp only [Nat.mul_comm _ B,Nat.mul_add_div hb,Nat.div_eq_of_lt a2,Nat.div_eq_of_lt b2,Nat.add_zero] at h1;exact h1
  subst e3
  have e4 : xb = yb:=by omega
  rw [e2,e4])) (fun z hz => by
  obtain ⟨x,hx,rfl⟩:=List.mem_map.1 hz;obtain ⟨a1,a2,a3⟩:=(h x hx).lt;unfold nS;generalize 2 ^ T.length = B at *;have : (x.r + 1) * B ≤ rs.length * B:=Nat.mul_le_mul_right _ a1;rw [Nat.add_mul,Nat.one_mul] at this
  omega)
 simpa using h1
section
variable {w W W' : World} {M g : Nat} {rs : List RoomE} {ds : List DoorE} {T tr : List (List UInt8)} {wo st gl : List UInt8} {sf : StE → StE} {ef : StE → Bool} {x0 : StE}
theorem ExGr.below (h : ExGr w W M g rs ds T tr wo st gl sf ef x0) (hb : Below W.heap.size W W') : ExGr w W' M g rs ds T tr wo st gl sf ef x0:=by
 obtain ⟨lo,lo0,q,n,nc,eb,ec,bc,fb,fc,NA,BA,sts,stp,far,h1,h2,h3,h4⟩:=h;exact ⟨lo,lo0,q,n,nc,eb,ec,bc,fb,fc,NA,BA,sts,stp,far,h1.below hb,h2.below hb,h3,below_up h4 hb⟩
theorem path_g {lo1 ca cd : Nat} {A D : Option Addr} {v : World} (h : ExGr w W M g rs ds T tr wo st gl sf ef x0) (hC : McC v W M lo1 A rs ca D ds cd st gl) (hR : Right rs ds st gl) (hTd : onceT (allT rs ds) = T) :
  Calls Tryz.prog 100 #[.pointer (some ⟨g,0,none⟩)] W fun e w' => ∃ r : PathR,PathOk (nxX rs T ds tr wo sf) ef (tmX ds) (sf x0) (nS rs T) r ∧ PaPost W (r.ks.map (keyX ds)) r.t r.is e w':=by
 obtain ⟨lo,lo0,q,n,nc,eb,ec,bc,fb,fc,NA,BA,sts,stp,far,h1,h2,h3,h4⟩:=h;obtain ⟨e1,hF,hE⟩:=h3.out;obtain ⟨g1,g2,g3⟩:=hE.graph hR.dl
 have hTl : T.length ≤ 10:=by rw [← hTd]; exact hR.few
 have hfew:=few_statesN hE.nodup hE.good;have hfew2:=few_states hE.nodup (fun x hx => (hE.good x hx).ok hTl hR.rl);have h0 : 0 < sts.length:=(List.getElem?_eq_some_iff.1 hE.first).1;rw [e1] at g2
 have hto : ∀ i k j,(k,j) ∈ stp.getD i [] → j < n:=fun i k j h => (g2 i k j h).1
 refine (path_any W lo g n nc eb ec bc fb fc NA BA sts stp (sts.map ef) far lo0 M q T rs ds tr wo st gl lo1 ca cd A D h1 h2 ⟨hC.m,hC.bl,Below.refl _ _⟩ hR hF (by omega) (by omega) (by rw [hE.len]; exact e1) (by rw [List.length_map]; exact e1) g1 g2 g3).mono ?_;intro e w' hp;have hok:=hE.path e1 hF hto g3;exact ⟨_,⟨hok.no,fun hi => let ⟨a,b,c,d⟩:=hok.yes hi; ⟨a,b,c,by omega⟩⟩,hp⟩
end
theorem see_ok (w : World) (t : Nat) (a b c F : Value) : SeeOk w t #[a,b,c,.slice none 0 0,F] id:=fun W x _ hB _ => see_none t x W hB.w5.2.2.2.1
theorem goal_ok {w : World} {lo0 M : Nat} {q : WorP} {rs : List RoomE} {ds : List DoorE} {T tr : List (List UInt8)} {wo st gl : List UInt8} (h : WorW w lo0 M q T rs ds tr wo st gl) (t : Nat) (TC : Array Value) : EndsOk w t TC 138 #[.pointer (some ⟨q.p,0,none⟩)] #[] (goalX rs gl) :=
 ⟨fun args W => by kernel_rfl,fun W x hb _ _ => atGoal_any q.p (roomI rs gl) x W (h.below hb).cells.2.2.2.2.2.2⟩
theorem exploreG_any {w W : World} {lo0 M : Nat} {q : WorP} {rs : List RoomE} {ds : List DoorE} {T tr : List (List UInt8)} {wo st gl : List UInt8} {ef : StE → Bool} {sf : StE → StE} {fid : FuncId} {pre post : Array Value} {RV : Value} {x0 : StE} (h : WorW W lo0 M q T rs ds tr wo st gl) (hR : Right rs ds st gl) (hTd : onceT (allT rs ds) = T) (hg : GoodX rs T x0) (hb : Below w.heap.size w W)
  (hsf : ∀ x,GoodX rs T x → GoodX rs T (sf x)) (hsee : ∀ t,SeeOk W t #[.int .i64 (x0.r : Int),.int .i64 (x0.b : Int),.int .i64 (x0.s : Int),RV,.func (.func fid) pre post] sf) (hef : ∀ t,EndsOk W t #[.int .i64 (x0.r : Int),.int .i64 (x0.b : Int),.int .i64 (x0.s : Int),RV,.func (.func fid) pre post] fid pre post ef) :
  Calls Tryz.prog 136 #[.pointer (some ⟨q.p,0,none⟩),.agg #[.int .i64 (x0.r : Int),.int .i64 (x0.b : Int),.int .i64 (x0.s : Int),RV,.func (.func fid) pre post]] W fun e w' => ∃ g,e = .returned (.pointer (some ⟨g,0,none⟩)) ∧ ExGr w w' M g rs ds T tr wo st gl sf ef x0 ∧ Below W.heap.size W w':=by
 refine (explore_any W lo0 M q T rs ds tr wo st gl h hR hTd x0 hg RV pre post fid ef sf hsf hsee hef).mono ?_;rintro e w' ⟨g,n,nc,eb,ec,bc,fb,fc,NA,BA,sts,stp,far,rfl,hn,hG,hN,hS,hB,hF,hFO,hE,hbw⟩;refine ⟨g,rfl,⟨W.heap.size,lo0,q,n,nc,eb,ec,bc,fb,fc,NA,BA,sts,stp,far,⟨hG,hN,hS,hB,hF⟩,h.below hbw,Lib.hid ⟨hn,?_,hE⟩,below_up hb hbw⟩,hbw⟩;exact hFO
def st0 (rs : List RoomE) (T : List (List UInt8)) (st : List UInt8) : StE:=stX rs T st (givesOf rs st)
theorem st0_good {rs : List RoomE} {ds : List DoorE} {T : List (List UInt8)} {st gl : List UInt8} (hR : Right rs ds st gl) (hTd : onceT (allT rs ds) = T) : GoodX rs T (st0 rs T st) :=
 ⟨⟨st,hR.st,rfl⟩,⟨onceT (givesOf rs st),by rw [← hTd]; exact begin_ok st,(bitsT_once T _).symm⟩,Nat.zero_le _⟩
theorem st0_once (rs : List RoomE) (T : List (List UInt8)) (st : List UInt8) : st0 rs T st = stX rs T st (onceT (givesOf rs st)):=by
 unfold st0 stX; rw [bitsT_once]
theorem begin_w {W : World} {lo0 M : Nat} {q : WorP} {rs : List RoomE} {ds : List DoorE} {T tr : List (List UInt8)} {wo st gl : List UInt8} (h : WorW W lo0 M q T rs ds tr wo st gl) (hR : Right rs ds st gl) : Calls Tryz.prog 137 #[.pointer (some ⟨q.p,0,none⟩)] W fun e w' => e = .returned (.agg #[.int .i64 ((st0 rs T st).r : Int),.int .i64 ((st0 rs T st).b : Int),.int .i64 0]) ∧ Below W.heap.size W w':=by
 obtain ⟨b,off,e,_,hc⟩:=h.giveI hR.rup hR.st;have h2:=h.cells.2.2.1;have h5:=h.cells.2.2.2.2.2.1;rw [e] at h2;rw [roomI_mem hR.st] at h5;exact beginW_any q.p b off q.gc rs.length (ixR rs st) _ W h5 h2 hc (ixR_lt hR.st) (by have:=hR.rl; omega)
set_option maxHeartbeats 4000000 in
set_option maxRecDepth 100000 in
theorem fastest_any (M lo ca cd lo2 c2 : Nat) (A : Option Addr) (rs : List RoomE) (D : Option Addr) (ds : List DoorE) (st gl : List UInt8) (T : List (List UInt8)) (TR : Option Addr) (tr : List (List UInt8)) (wo : List UInt8) (w : World) (hA : MapW w lo A rs D ds) (hM : Blk w M 140 #[.slice A rs.length ca,.slice D ds.length cd,.string ⟨st.toArray⟩,.string ⟨gl.toArray⟩]) (hR : Right rs ds st gl) (hT : onceT (allT rs ds) = T) (hr : Row w lo2 1 TR tr.length (strs tr)) (hrl : tr.length ≤ 1000000000) :
  Calls Tryz.prog 99 #[.pointer (some ⟨M,0,none⟩),.slice TR tr.length c2,.string ⟨wo.toArray⟩] w fun e w' => ∃ g,e = .returned (.pointer (some ⟨g,0,none⟩)) ∧ ExGr w w' M g rs ds T tr wo st gl id (goalX rs gl) (st0 rs T st) ∧ Below w.heap.size w w':=by
 have HN:=Lib.hid (newWorld_any M lo ca cd lo2 c2 A rs D ds st gl T TR tr wo w hA hM hR hT hr hrl);have HR:=Lib.hid hR;have HT:=Lib.hid hT;clear hA hM hR hT hr hrl
 go_enter Tryz.func99,Tryz.ntmps99
 go_wp2_with fail;refine HN.out.mono ?_;rintro e w1 ⟨q,rfl,hW,hq,hb1⟩;have HW:=Lib.hid hW;clear hW;go_wp2_with fail;refine (begin_w HW.out HR.out).mono ?_;rintro e w2 ⟨rfl,hb2⟩;have HW2:=Lib.hid (HW.out.below hb2);have hb:=below_up hb1 hb2;go_wp2_with fail;refine (exploreG_any (x0:=st0 rs T st) (w:=w) HW2.out HR.out HT.out (st0_good HR.out HT.out) hb (fun _ h => h) (fun t => see_ok _ t _ _ _ _) (fun t => goal_ok HW2.out t _)).mono ?_;rintro e w3 ⟨g,rfl,hE,hb3⟩;have hb:=below_up hb hb3;go_wp2_with fail;go_ret;exact ⟨g,rfl,hE,hb⟩
def FaPost (w : World) (rs : List RoomE) (ds : List DoorE) (T tr : List (List UInt8)) (st gl : List UInt8) (err : Int) (e : Ending) (w' : World) : Prop :=
 ∃ (r : PathR) (A : Option Addr) (c : Nat),(err ≠ 0 → r = ⟨[],0,false⟩) ∧ (err = 0 → PathOk (nxX rs T ds tr [] id) (goalX rs gl) (tmX ds) (st0 rs T st) (nS rs T) r) ∧ e = .returned (.tuple #[.agg #[.slice A r.ks.length c,.int .i64 r.t],.bool r.is,.int .i64 err]) ∧ w'.ownsRow w.heap.size 9 1 (.slice A r.ks.length c) r.ks.length (strs (r.ks.map (keyX ds))) ∧ Below w.heap.size w w'
theorem FaPost.bad {w w' : World} {rs : List RoomE} {ds : List DoorE} {T tr : List (List UInt8)} {st gl : List UInt8} {err : Int} (h : err ≠ 0) (hb : Below w.heap.size w w') : FaPost w rs ds T tr st gl err (.returned (.tuple #[.agg #[.slice none 0 0,.int .i64 0],.bool false,.int .i64 err])) w' :=
 ⟨⟨[],0,false⟩,none,0,fun _ => rfl,fun e => absurd e h,rfl,World.ownsRow_nil _ _ _ _,hb⟩
set_option maxHeartbeats 8000000 in
set_option maxRecDepth 100000 in
theorem Fastest_any (lo ca cd lo2 c2 : Nat) (A : Option Addr) (rs : List RoomE) (D : Option Addr) (ds : List DoorE) (st gl : List UInt8) (TR : Option Addr) (tr : List (List UInt8)) (w : World) (hA : MapW w lo A rs D ds) (hr : Row w lo2 1 TR tr.length (strs tr)) (hrl : tr.length ≤ 1000000000) :
  Calls Tryz.prog 58 #[mapV A rs ca D ds cd st gl,.slice TR tr.length c2] w (FaPost w rs ds (onceT (allT rs ds)) tr st gl (tricksE rs ds st gl tr)):=by
 have hT : ∃ T,onceT (allT rs ds) = T:=⟨_,rfl⟩
 obtain ⟨T,hT⟩:=hT;have HT:=Lib.hid hT;rw [hT]
 have hC : McC w ((w.alloc (.cells #[.slice A rs.length ca,.slice D ds.length cd,.string ⟨st.toArray⟩,.string ⟨gl.toArray⟩] 140)).alloc (.cells #[.slice none 0 0,.int .i64 0] 130)) w.heap.size lo A rs ca D ds cd st gl:=⟨(hA.alloc _).alloc _,(Blk.new _ _ _).alloc _,(by repeat (first | exact Below.refl _ _ | refine Below.alloc ?_ (by first | omega | (simp; omega) | simp) _ | refine below_drewN' ?_ _ | refine Below.drew ?_))⟩
 have HP : Hid (Blk ((w.alloc (.cells #[.slice A rs.length ca,.slice D ds.length cd,.string ⟨st.toArray⟩,.string ⟨gl.toArray⟩] 140)).alloc (.cells #[.slice none 0 0,.int .i64 0] 130)) (w.heap.size + 1) 130 #[.slice none 0 0,.int .i64 0]):=Lib.hid (Blk.at_ _ (by simp));have HRR:=Lib.hid hr
 obtain ⟨err,herr⟩ : ∃ err,err = tricksE rs ds st gl tr:=⟨_,rfl⟩
 rw [← herr];have HER:=Lib.hid herr;clear hA hr hT herr;unfold mapV;simp only [encStr]
 go_enter Tryz.func58,Tryz.ntmps58
 go_wp2_with fail;have hp:=HP.out;clear HP;generalize ((w.alloc (.cells #[.slice A rs.length ca,.slice D ds.length cd,.string ⟨st.toArray⟩,.string ⟨gl.toArray⟩] 140)).alloc (.cells #[.slice none 0 0,.int .i64 0] 130)) = W1 at *;have hrz : w.heap.size ≤ w.heap.size + 1:=Nat.le_succ _;generalize w.heap.size + 1 = r at *;have hct:=checkTricks_any lo ca cd A rs D ds st gl lo2 c2 TR tr W1 hC.m (HRR.out.below hC.b) hrl;unfold mapV at hct;simp only [encStr] at hct;rw [← HER.out] at hct;refine hct.mono ?_;rintro e w2 ⟨rfl,hb⟩;have hC:=hC.below hb;have hp:=hp.below hb;clear hct hb
 by_cases h0 : err = 0
 ·subst h0
  have HR : Hid (Right rs ds st gl):=Lib.hid (right_of (tricks_right HER.out.symm));go_wp2_with fail;refine (fastest_any w.heap.size lo ca cd lo2 c2 A rs D ds st gl T TR tr [] w2 hC.m hC.bl HR.out HT.out (HRR.out.below hC.b) hrl).mono ?_;rintro e w3 ⟨g,rfl,hE,hb⟩;have hC:=hC.below hb;have hp:=hp.below hb;have z3:=hC.b.size;clear hb;go_wp2_with fail;refine (path_g hE hC HR.out HT.out).mono ?_;rintro e w4 ⟨r4,hok,PA,pc,rfl,hown,hb⟩;have hok:=Lib.hid hok;have hC:=hC.below hb;have hp:=hp.below hb;have hks : (r4.ks.map (keyX ds)).length = r4.ks.length:=List.length_map ..;have hown:=own_down9 hown z3;rw [hks] at hown;rw [hks];clear hks hE hb
  obtain ⟨KL,hKL⟩ : ∃ KL,KL = r4.ks.length:=⟨_,rfl⟩
  obtain ⟨KT,hKT⟩ : ∃ KT,KT = r4.t:=⟨_,rfl⟩
  obtain ⟨KI,hKI⟩ : ∃ KI,KI = r4.is:=⟨_,rfl⟩
  rw [← hKL] at hown ⊢;rw [← hKT,← hKI];have HK:=Lib.hid (And.intro hKL (And.intro hKT hKI));clear hKL hKT hKI;obtain ⟨u0,u1⟩:=hp.w2;have fu0:=hp.thaw 0;have fu1:=hp.thaw 1;have zu:=hp.lt;go_wp2_with fail;have hr2 : Blk (((w4.setCell ⟨r,0,none⟩ (.slice PA KL pc)).setCell ⟨r,1,none⟩ (.int .i64 KT)).alloc (.cells #[.slice PA KL pc,.int .i64 KT] 130)) r 130 #[.slice PA KL pc,.int .i64 KT]:=(show Blk _ _ _ _ by simpa using (hp.poke 0 (.slice PA KL pc)).poke 1 (.int .i64 KT)).alloc _;have hbel:=Below.setCell (Below.setCell hC.b (show w.heap.size ≤ (⟨r,0,none⟩ : Addr).block from hrz) (.slice PA KL pc)) (show w.heap.size ≤ (⟨r,1,none⟩ : Addr).block from hrz) (.int .i64 KT);have HB : Hid (Below w.heap.size w (((w4.setCell ⟨r,0,none⟩ (.slice PA KL pc)).setCell ⟨r,1,none⟩ (.int .i64 KT)).alloc (.cells #[.slice PA KL pc,.int .i64 KT] 130))):=Lib.hid (hbel.alloc hbel.size _);clear hbel;have hd:=own_past (own_past hown hp (by decide) 0 (.slice PA KL pc)) (hp.poke 0 (.slice PA KL pc)) (by decide) 1 (.int .i64 KT);have HD : Hid ((((w4.setCell ⟨r,0,none⟩ (.slice PA KL pc)).setCell ⟨r,1,none⟩ (.int .i64 KT)).alloc (.cells #[.slice PA KL pc,.int .i64 KT] 130)).ownsRow w.heap.size 9 1 (.slice PA KL pc) KL (strs (r4.ks.map (keyX ds)))):=Lib.hid (hd.alloc _);generalize ((w4.setCell ⟨r,0,none⟩ (.slice PA KL pc)).setCell ⟨r,1,none⟩ (.int .i64 KT)).alloc (.cells #[.slice PA KL pc,.int .i64 KT] 130) = W5 at *;obtain ⟨v0,v1⟩:=hr2.w2;refine bodyPost_ret (v:=.tuple #[.agg #[.slice PA KL pc,.int .i64 KT],.bool KI,.int .i64 0]) (by simp [results,Tryz.results58,go_sem,v0,v1]) rfl ?_;obtain ⟨e1,e2,e3⟩:=HK.out;subst e1 e2 e3;exact ⟨r4,PA,pc,fun h => absurd rfl h,fun _ => hok.out,rfl,HD.out,HB.out⟩
 ·have d0 : (err != 0) = true:=bne_iff_ne.2 h0
  obtain ⟨u0,u1⟩:=hp.w2;have fu0:=hp.thaw 0;have fu1:=hp.thaw 1;have zu:=hp.lt;go_wp2_with fail
  have hr2 : Blk ((w2.setCell ⟨r,0,none⟩ (.slice none 0 0)).setCell ⟨r,1,none⟩ (.int .i64 0)) r 130 #[.slice none 0 0,.int .i64 0]:=(show Blk _ _ _ _ by simpa using (hp.poke 0 (.slice none 0 0)).poke 1 (.int .i64 0))
  have hbel:=Below.setCell (Below.setCell hC.b (show w.heap.size ≤ (⟨r,0,none⟩ : Addr).block from hrz) (.slice none 0 0)) (show w.heap.size ≤ (⟨r,1,none⟩ : Addr).block from hrz) (.int .i64 0);generalize (w2.setCell ⟨r,0,none⟩ (.slice none 0 0)).setCell ⟨r,1,none⟩ (.int .i64 0) = W5 at *;obtain ⟨v0,v1⟩:=hr2.w2;refine bodyPost_ret (v:=.tuple #[.agg #[.slice none 0 0,.int .i64 0],.bool false,.int .i64 err]) (by simp [results,Tryz.results58,go_sem,v0,v1]) rfl ?_;exact FaPost.bad h0 hbel
end Go.Proofs.YtkchacgkjdeiaaaGreatDoor
