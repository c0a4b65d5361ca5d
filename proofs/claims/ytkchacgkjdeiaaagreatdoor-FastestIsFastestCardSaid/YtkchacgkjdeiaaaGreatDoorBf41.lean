/- Texts of this seat, laid together: WkP. -/
import Derived.Laws.BitsLemmas
import Derived.Test.YtkchacgkjdeiaaaGreatDoorBf40
/- Walks through a map, plain: sets of things as bits, and what a walk comes to. -/
namespace Go.Proofs.YtkchacgkjdeiaaaGreatDoor
set_option linter.unusedVariables false
set_option linter.unusedSimpArgs false
open Go.RowKit

theorem leS_trans {x y z : List UInt8} (h1 : x ≤ y) (h2 : y ≤ z) : x ≤ z:=List.le_trans h1 h2
theorem leS_total (x y : List UInt8) : x ≤ y ∨ y ≤ x:=List.le_total x y
theorem leS_lt {x y : List UInt8} (h : x ≤ y) (hne : y ≠ x) : x < y :=
 Classical.byContradiction fun h1 => hne (List.le_antisymm (show y ≤ x from h1) h)
theorem cpt_mem (d : Array (List UInt8)) (m : Nat) (hd : ∀ i j,i ≤ j → j < m → d[i]! ≤ d[j]!) : (Lib.compactUpTo d m).Pairwise (· < ·) ∧ (∀ x,x ∈ Lib.compactUpTo d m ↔ ∃ j,j < m ∧ d[j]! = x):=by
 induction m with
 | zero => exact ⟨by simp [Lib.compactUpTo],fun x => by simp [Lib.compactUpTo]⟩
 | succ m ih =>
  obtain ⟨h1,h2⟩:=ih (fun i j hij hj => hd i j hij (by omega));rw [Lib.compactUpTo_succ]
  by_cases hk : Lib.keeps d m = true
  ·rw [if_pos hk]
   constructor
   ·rw [List.pairwise_append]
    refine ⟨h1,by simp,fun a ha b hb => ?_⟩
    obtain rfl : b = d[m]!:=by simpa using hb
    obtain ⟨j,hj,rfl⟩:=(h2 a).1 ha
    have hne : d[m]! ≠ d[m - 1]!:=by
     simp only [Lib.keeps,decide_eq_true_eq] at hk;rcases hk with h | h
     ·omega
     ·exact h
    have h3 : d[m - 1]! < d[m]!:=leS_lt (hd (m - 1) m (by omega) (by omega)) hne;exact List.lt_of_le_of_lt (hd j (m - 1) (by omega) (by omega)) h3
   ·intro x
    rw [List.mem_append,h2]
    constructor
    ·rintro (⟨j,hj,e⟩ | h)
     ·exact ⟨j,by omega,e⟩
     ·exact ⟨m,by omega,(by simpa using h : x = d[m]!).symm⟩
    ·rintro ⟨j,hj,e⟩
     by_cases hjm : j = m
     ·subst hjm; right; simp [e]
     ·left; exact ⟨j,by omega,e⟩
  ·rw [if_neg hk,List.append_nil]
   refine ⟨h1,fun x => ?_⟩;rw [h2]
   constructor
   ·rintro ⟨j,hj,e⟩; exact ⟨j,by omega,e⟩
   ·rintro ⟨j,hj,e⟩
    by_cases hjm : j = m
    ·subst hjm
     have : j ≠ 0 ∧ d[j]! = d[j - 1]!:=by
      simp only [Lib.keeps,decide_eq_true_eq,not_or,Classical.not_not] at hk;exact hk
     exact ⟨j - 1,by omega,this.2.symm.trans e⟩
    ·exact ⟨j,by omega,e⟩
theorem onceT_spec (l : List (List UInt8)) : (onceT l).Pairwise (· < ·) ∧ ∀ x,x ∈ onceT l ↔ x ∈ l:=by
 unfold onceT Lib.compact;have hs : (l.mergeSort fun x y => decide (x ≤ y)).Pairwise (fun x y => decide (x ≤ y) = true):=List.pairwise_mergeSort (fun a b c h1 h2 => by simp at *; exact leS_trans h1 h2) (fun a b => by simp; exact leS_total a b) l
 have hm : ∀ x,x ∈ (l.mergeSort fun x y => decide (x ≤ y)) ↔ x ∈ l:=fun x => (List.mergeSort_perm l _).mem_iff
 generalize (l.mergeSort fun x y => decide (x ≤ y)) = s at *
 have hg : ∀ i (hi : i < s.length),s.toArray[i]! = s[i]:=fun i hi => by rw [getElem!_pos _ _ (by simpa using hi)]; simp
 obtain ⟨h1,h2⟩:=cpt_mem s.toArray s.length (fun i j hij hj => by
  rw [hg i (by omega),hg j hj];rcases Nat.lt_or_ge i j with h | h
  ·simpa using List.pairwise_iff_getElem.1 hs i j (by omega) hj h
  ·obtain rfl : i = j:=by omega
   exact List.le_refl _)
 refine ⟨h1,fun x => ?_⟩;rw [h2,← hm]
 constructor
 ·rintro ⟨j,hj,rfl⟩; rw [hg j hj]; exact List.getElem_mem _
 ·intro h
  obtain ⟨j,hj,rfl⟩:=List.mem_iff_getElem.1 h;exact ⟨j,hj,hg j hj⟩
theorem up_ext : ∀ {a b : List (List UInt8)},a.Pairwise (· < ·) → b.Pairwise (· < ·) → (∀ x,x ∈ a ↔ x ∈ b) → a = b
 | [],[],_,_,_ => rfl
 | [],y :: b,_,_,h => absurd ((h y).2 (by simp)) (by simp)
 | x :: a,[],_,_,h => absurd ((h x).1 (by simp)) (by simp)
 | x :: a,y :: b,ha,hb,h => by
  rw [List.pairwise_cons] at ha hb
  have e : x = y:=by
   rcases List.mem_cons.1 ((h x).1 (by simp)) with e | e
   ·exact e
   ·rcases List.mem_cons.1 ((h y).2 (by simp)) with e' | e'
    ·exact e'.symm
    ·exact absurd (List.lt_trans (hb.1 x e) (ha.1 y e')) (List.lt_irrefl _)
  subst e
  rw [up_ext ha.2 hb.2 (fun z => by
   have hz:=h z;simp only [List.mem_cons] at hz
   constructor
   ·intro m
    rcases hz.1 (.inr m) with e | e
    ·subst e; exact absurd (ha.1 _ m) (List.lt_irrefl _)
    ·exact e
   ·intro m
    rcases hz.2 (.inr m) with e | e
    ·subst e; exact absurd (hb.1 _ m) (List.lt_irrefl _)
    ·exact e)]
theorem once_self {l : List (List UInt8)} (h : l.Pairwise (· < ·)) : onceT l = l :=
 up_ext (onceT_spec l).1 h (onceT_spec l).2
def bitsN : Nat → (Nat → Bool) → Nat
 | 0,_ => 0
 | n + 1,p => bitsN n p + if p n then 2 ^ n else 0
theorem bitsN_lt (n : Nat) (p : Nat → Bool) : bitsN n p < 2 ^ n := by
  induction n with
  | zero => simp [bitsN]
  | succ n ih => unfold bitsN; have : 2 ^ (n + 1) = 2 * 2 ^ n := by rw [Nat.pow_succ]; omega
                 split <;> omega
theorem bitsN_test (n : Nat) (p : Nat → Bool) (i : Nat) : (bitsN n p).testBit i = (decide (i < n) && p i):=by
 induction n with
 | zero => simp [bitsN]
 | succ n ih =>
  unfold bitsN;have hlt:=bitsN_lt n p
  by_cases h : p n = true
  ·rw [if_pos h,Nat.add_comm]
   rcases Nat.lt_trichotomy i n with h1 | h1 | h1
   ·rw [Nat.testBit_two_pow_add_gt h1,ih]
    simp [h1,show i < n + 1 by omega]
   ·subst h1
    rw [Nat.testBit_two_pow_add_eq,Nat.testBit_lt_two_pow hlt]
    simp [h]
   ·rw [Nat.testBit_lt_two_pow (show 2 ^ n + bitsN n p < 2 ^ i from Nat.lt_of_lt_of_le (show 2 ^ n + bitsN n p < 2 ^ (n + 1) by rw [Nat.pow_succ]; omega) (Nat.pow_le_pow_right (by decide) h1))]
    simp [show ¬ i < n + 1 by omega]
  ·rw [if_neg h,Nat.add_zero,ih]
   by_cases hi : i = n
   ·subst hi; simp [h]
   ·simp only [show (i < n + 1) = (i < n) by simp; omega]
theorem bitsN_eq {n m : Nat} {p : Nat → Bool} (h : ∀ i,m.testBit i = (decide (i < n) && p i)) : m = bitsN n p :=
 Nat.eq_of_testBit_eq fun i => by rw [h,bitsN_test]
theorem bitsN_congr {n : Nat} {p q : Nat → Bool} (h : ∀ i,i < n → p i = q i) : bitsN n p = bitsN n q :=
 bitsN_eq fun i => by rw [bitsN_test]; by_cases hi : i < n <;> simp [hi,h]
theorem bits_orN {n : Nat} (hn : n ≤ 60) (p q : Nat → Bool) : bits .or .i64 (bitsN n p : Int) (bitsN n q : Int) = (bitsN n (fun i => p i || q i) : Int):=by
 have h1:=bitsN_lt n p;have h2:=bitsN_lt n q;have h3 : 2 ^ n ≤ 2 ^ 60:=Nat.pow_le_pow_right (by decide) hn;rw [(bits_nat .i64 60 (by decide) (fun m h0 h => by rw [IntKind.wrap_i64]; omega) _ _ (by omega) (by omega)).2]
 congr 1
 exact bitsN_eq fun i => by rw [Nat.testBit_or,bitsN_test,bitsN_test]; cases decide (i < n) <;> rfl
theorem bits_andNotN {n : Nat} (hn : n ≤ 60) (p q : Nat → Bool) : bits .andNot .i64 (bitsN n p : Int) (bitsN n q : Int) = (bitsN n (fun i => p i && !q i) : Int):=by
 have h1:=bitsN_lt n p;have h2:=bitsN_lt n q;have h3 : 2 ^ n ≤ 2 ^ 60:=Nat.pow_le_pow_right (by decide) hn
 have e : (BitVec.ofInt 64 (bitsN n p : Int) &&& ~~~BitVec.ofInt 64 (bitsN n q : Int)).toNat = bitsN n (fun i => p i && !q i):=by
  refine bitsN_eq fun i => ?_
  rw [← BitVec.getLsbD,BitVec.getLsbD_and,BitVec.getLsbD_not];simp only [BitVec.ofInt_natCast,BitVec.getLsbD_ofNat,bitsN_test]
  by_cases hi : i < n
  ·have : i < 64:=by omega
   simp [hi,this]
  ·simp [hi]
 show IntKind.i64.wrap ((BitVec.ofInt 64 (bitsN n p : Int) &&& ~~~BitVec.ofInt 64 (bitsN n q : Int)).toNat : Int) = _;rw [e];have:=bitsN_lt n (fun i => p i && !q i);rw [IntKind.wrap_i64]; omega
theorem bitsN_zero {n : Nat} {p : Nat → Bool} : bitsN n p = 0 ↔ ∀ i,i < n → p i = false:=by
 constructor
 ·intro h i hi
  have:=bitsN_test n p i;rw [h] at this
  simpa [hi] using this.symm
 ·intro h
  exact (bitsN_eq (n:=n) (p:=p) (m:=0) fun i => by by_cases hi : i < n <;> simp [hi,h]).symm
theorem bitsN_one {n k : Nat} (hk : k < n) : bitsN n (fun i => i == k) = 2 ^ k :=
 (bitsN_eq fun i => by
  rw [Nat.testBit_two_pow]
  by_cases h : i = k
  ·subst h; simp [hk]
  ·simp [h,Ne.symm h]).symm
def bitsT (T l : List (List UInt8)) : Nat:=bitsN T.length (fun i => decide (T.getD i [] ∈ l))
def givesOf (rs : List RoomE) (key : List UInt8) : List (List UInt8):=((rs.find? fun r => r.key == key).map RoomE.gives).getD []
def goE (tr : List (List UInt8)) (room : List UInt8) (th : List (List UInt8)) (d : DoorE) : Int :=
 if room ≠ d.src then 3 else if d.trick ≠ [] ∧ d.trick ∉ tr then 16 else if ¬ (∀ s ∈ d.needs,s ∈ th) then 11 else 0
def thru (rs : List RoomE) (th : List (List UInt8)) (d : DoorE) : List (List UInt8):=onceT (th.filter (fun s => decide (s ∉ d.takes)) ++ givesOf rs d.dst)
structure WkR where
  err : Int
  room : List UInt8
  th : List (List UInt8)
  time : Int
def wkBad (e : Int) : WkR:=⟨e,[],[],0⟩
def walkS (rs : List RoomE) (ds : List DoorE) (tr : List (List UInt8)) : List (List UInt8) → List UInt8 → List (List UInt8) → Int → WkR
 | [],room,th,t => ⟨0,room,th,t⟩
 | key :: ks,room,th,t => match ds.find? fun d => d.key == key with
  | none => wkBad 8
  | some d => if goE tr room th d ≠ 0 then wkBad (goE tr room th d) else walkS rs ds tr ks d.dst (thru rs th d) (t + d.time)
def walkF (rs : List RoomE) (ds : List DoorE) (st : List UInt8) (tr l : List (List UInt8)) : WkR :=
 if 500 < l.length then wkBad 2 else walkS rs ds tr l st (onceT (givesOf rs st)) 0
structure Right (rs : List RoomE) (ds : List DoorE) (st gl : List UInt8) : Prop where
  rup : UpS (rs.map RoomE.key)
  dup : UpS (ds.map DoorE.key)
  st : st ∈ rs.map RoomE.key
  gl : gl ∈ rs.map RoomE.key
  src : ∀ d ∈ ds, d.src ∈ rs.map RoomE.key
  dst : ∀ d ∈ ds, d.dst ∈ rs.map RoomE.key
  time : ∀ d ∈ ds, 1 ≤ d.time ∧ d.time ≤ 864000000
  few : (onceT (allT rs ds)).length ≤ 10
  rl : rs.length ≤ 100
  dl : ds.length ≤ 500
  dkey : ∀ d ∈ ds, d.key ≠ []
theorem hasR_mem {rs : List RoomE} {k : List UInt8} : hasR rs k = true ↔ k ∈ rs.map RoomE.key:=by
 unfold hasR;rw [List.any_eq_true]
 constructor
 ·rintro ⟨r,h,e⟩; exact List.mem_map.2 ⟨r,h,by simpa using e⟩
 ·intro h; obtain ⟨r,h,e⟩:=List.mem_map.1 h; exact ⟨r,h,by simp [e]⟩
theorem doorAt_0 {rs : List RoomE} {ds : List DoorE} {k : Nat} (hk : k < ds.length) (h : doorAt rs ds k = 0) : (0 < k → (ds.getD (k - 1) default).key < ds[k].key) ∧ ds[k].src ∈ rs.map RoomE.key ∧ ds[k].dst ∈ rs.map RoomE.key ∧ 1 ≤ ds[k].time ∧ ds[k].time ≤ 864000000 ∧ ds[k].key ≠ []:=by
 unfold doorAt at h
 have e : ds.getD k default = ds[k]:=by rw [List.getD_eq_getElem?_getD,List.getElem?_eq_getElem hk]; rfl
 rw [e] at h
 by_cases c1 : (!keyB ds[k].key) = true
 ·rw [if_pos c1] at h; cases h
 rw [if_neg c1] at h
 by_cases c2 : 0 < k ∧ ¬ ((ds.getD (k - 1) default).key < ds[k].key)
 ·rw [if_pos c2] at h; cases h
 rw [if_neg c2] at h
 by_cases c3 : (!hasR rs ds[k].src || !hasR rs ds[k].dst) = true
 ·rw [if_pos c3] at h; cases h
 rw [if_neg c3] at h
 by_cases c4 : ds[k].time < 1 ∨ 864000000 < ds[k].time
 ·rw [if_pos c4] at h; cases h
 have c3' : hasR rs ds[k].src = true ∧ hasR rs ds[k].dst = true:=by
  cases h1 : hasR rs ds[k].src <;> cases h2 : hasR rs ds[k].dst <;> simp [h1,h2] at c3 ⊢
 exact ⟨fun h0 => Classical.byContradiction fun hn => c2 ⟨h0,hn⟩,hasR_mem.1 c3'.1,hasR_mem.1 c3'.2,by omega,by omega,fun e => c1 (by rw [e]; rfl)⟩
theorem right_of {rs : List RoomE} {ds : List DoorE} {st gl : List UInt8} (h : mapE rs ds st gl = 0) : Right rs ds st gl:=by
 unfold mapE at h
 by_cases c1 : roomsE rs = 0
 ·rw [if_neg (fun e => e c1)] at h
  by_cases c2 : doorsE rs ds = 0
  ·rw [if_neg (fun e => e c2)] at h
   by_cases c3 : (!hasR rs st || !hasR rs gl) = true
   ·rw [if_pos c3] at h; cases h
   rw [if_neg c3] at h
   by_cases c4 : 10 < (onceT (allT rs ds)).length ∨ 12 < (onceT (allK ds)).length
   ·rw [if_pos c4] at h; cases h
   have c3' : hasR rs st = true ∧ hasR rs gl = true:=by
    cases h1 : hasR rs st <;> cases h2 : hasR rs gl <;> simp [h1,h2] at c3 ⊢
   have hr : rs.length ≤ 100:=by
    unfold roomsE at c1
    by_cases hb : 100 < rs.length
    ·rw [if_pos hb] at c1; cases c1
    ·omega
   have hdl : ¬ 500 < ds.length:=fun hb => by unfold doorsE at c2; rw [if_pos hb] at c2; cases c2
   have hd : ∀ k (hk : k < ds.length),doorAt rs ds k = 0:=by
    unfold doorsE at c2;rw [if_neg hdl] at c2
    exact fun k hk => scanF_0 c2 k hk
   have hD : ∀ d ∈ ds,d.src ∈ rs.map RoomE.key ∧ d.dst ∈ rs.map RoomE.key ∧ 1 ≤ d.time ∧ d.time ≤ 864000000 ∧ d.key ≠ []:=fun d hm => by
    obtain ⟨k,hk,rfl⟩:=List.mem_iff_getElem.1 hm;exact (doorAt_0 hk (hd k hk)).2
   refine ⟨roomsE_up c1,fun i hi => ?_,hasR_mem.1 c3'.1,hasR_mem.1 c3'.2,fun d hm => (hD d hm).1,fun d hm => (hD d hm).2.1,fun d hm => ⟨(hD d hm).2.2.1,(hD d hm).2.2.2.1⟩,by omega,hr,by omega,fun d hm => (hD d hm).2.2.2.2⟩
   have hi' : i + 1 < ds.length:=by simpa using hi
   have:=(doorAt_0 hi' (hd _ hi')).1 (by omega);simp only [List.getElem_map]
   rwa [show i + 1 - 1 = i by omega,List.getD_eq_getElem?_getD,List.getElem?_eq_getElem (show i < ds.length by omega)] at this
  ·rw [if_pos c2] at h; exact absurd h c2
 ·rw [if_pos c1] at h; exact absurd h c1
structure ThOk (T th : List (List UInt8)) : Prop where
  up : th.Pairwise (· < ·)
  sub : ∀ x ∈ th, x ∈ T
theorem gives_find {rs : List RoomE} (hup : UpS (rs.map RoomE.key)) {k : Nat} (hk : k < rs.length) : givesOf rs rs[k].key = rs[k].gives:=by
 unfold givesOf
 have : rs.find? (fun r => r.key == rs[k].key) = some rs[k]:=by
  rw [List.find?_eq_some_iff_getElem];refine ⟨by simp,k,hk,rfl,fun j hj => ?_⟩;have:=UpS.lt hup j k (by simpa using hk) hj;simp only [List.getElem_map] at this
  have hne : rs[j].key ≠ rs[k].key:=fun e => by rw [e] at this; exact ltS_irr _ this
  simpa using hne
 rw [this]; rfl
theorem gives_sub {rs : List RoomE} {ds : List DoorE} (key : List UInt8) : ∀ x ∈ givesOf rs key,x ∈ allT rs ds:=by
 intro x hx;unfold givesOf at hx
 cases h : rs.find? (fun r => r.key == key) with
 | none => rw [h] at hx; cases hx
 | some r =>
  rw [h] at hx;exact List.mem_append_left _ (List.mem_flatMap.2 ⟨r,List.mem_of_find?_eq_some h,hx⟩)
theorem thru_ok {rs : List RoomE} {ds : List DoorE} {th : List (List UInt8)} (d : DoorE) (h : ThOk (onceT (allT rs ds)) th) : ThOk (onceT (allT rs ds)) (thru rs th d):=by
 refine ⟨(onceT_spec _).1,fun x hx => ?_⟩;have:=((onceT_spec _).2 x).1 hx;rcases List.mem_append.1 this with h1 | h1
 ·exact h.sub x (List.mem_filter.1 h1).1
 ·exact ((onceT_spec _).2 x).2 (gives_sub _ x h1)
theorem begin_ok {rs : List RoomE} {ds : List DoorE} (st : List UInt8) : ThOk (onceT (allT rs ds)) (onceT (givesOf rs st)) :=
 ⟨(onceT_spec _).1,fun x hx => ((onceT_spec _).2 x).2 (gives_sub _ x (((onceT_spec _).2 x).1 hx))⟩
theorem bitsT_congr {T a b : List (List UInt8)} (h : ∀ x ∈ T,x ∈ a ↔ x ∈ b) : bitsT T a = bitsT T b :=
 bitsN_congr fun i hi => by
  have : T.getD i [] ∈ T:=by rw [List.getD_eq_getElem?_getD,List.getElem?_eq_getElem hi]; exact List.getElem_mem _
  simp only [decide_eq_decide];exact h _ this
theorem bitsT_once (T l : List (List UInt8)) : bitsT T (onceT l) = bitsT T l:=bitsT_congr fun x _ => (onceT_spec l).2 x
theorem bitsT_lt {T : List (List UInt8)} (hT : T.length ≤ 10) (l : List (List UInt8)) : bitsT T l < 1024:=by
 have h1:=bitsN_lt T.length (fun i => decide (T.getD i [] ∈ l));have h2 : 2 ^ T.length ≤ 2 ^ 10:=Nat.pow_le_pow_right (by decide) hT;unfold bitsT; omega
theorem bits_thru {T th : List (List UInt8)} (hT : T.length ≤ 10) (rs : List RoomE) (d : DoorE) : bits .or .i64 (bits .andNot .i64 (bitsT T th : Int) (bitsT T d.takes : Int)) (bitsT T (givesOf rs d.dst) : Int) = (bitsT T (thru rs th d) : Int):=by
 have e : bits .andNot .i64 (bitsT T th : Int) (bitsT T d.takes : Int) = (bitsN T.length (fun i => decide (T.getD i [] ∈ th) && !decide (T.getD i [] ∈ d.takes)) : Int):=bits_andNotN (by omega) _ _;have e2:=bits_orN (n:=T.length) (by omega) (fun i => decide (T.getD i [] ∈ th) && !decide (T.getD i [] ∈ d.takes)) (fun i => decide (T.getD i [] ∈ givesOf rs d.dst));rw [e,show (bitsT T (givesOf rs d.dst) : Int) = (bitsN T.length (fun i => decide (T.getD i [] ∈ givesOf rs d.dst)) : Int) from rfl,e2]
 congr 1
 refine bitsN_congr fun i hi => ?_
 have h1:=(onceT_spec (th.filter (fun s => decide (s ∉ d.takes)) ++ givesOf rs d.dst)).2 (T.getD i []);rw [List.mem_append,List.mem_filter] at h1;unfold thru;generalize T.getD i [] = x at *
 by_cases a : x ∈ th <;> by_cases b : x ∈ d.takes <;> by_cases c : x ∈ givesOf rs d.dst <;> simp [a,b,c] at h1 ⊢ <;> exact h1
theorem bits_needs {T th needs : List (List UInt8)} (hT : T.length ≤ 10) (hn : ∀ x ∈ needs,x ∈ T) : bits .andNot .i64 (bitsT T needs : Int) (bitsT T th : Int) = 0 ↔ ∀ s ∈ needs,s ∈ th:=by
 have e : bits .andNot .i64 (bitsT T needs : Int) (bitsT T th : Int) = (bitsN T.length (fun i => decide (T.getD i [] ∈ needs) && !decide (T.getD i [] ∈ th)) : Int):=bits_andNotN (by omega) _ _;rw [e]
 constructor
 ·intro h s hs
  have h0:=bitsN_zero.1 (show bitsN T.length _ = 0 by exact_mod_cast h);obtain ⟨k,hk,rfl⟩:=List.mem_iff_getElem.1 (hn s hs);have:=h0 k hk;rw [List.getD_eq_getElem?_getD,List.getElem?_eq_getElem hk,Option.getD_some] at this;simp only [Bool.and_eq_false_imp,decide_eq_true_eq,Bool.not_eq_false',decide_eq_true_eq] at this;exact this hs
 ·intro h
  have : bitsN T.length (fun i => decide (T.getD i [] ∈ needs) && !decide (T.getD i [] ∈ th)) = 0:=bitsN_zero.2 fun i hi => by
   by_cases a : T.getD i [] ∈ needs
   ·rw [decide_eq_true (h _ a),Bool.not_true,Bool.and_false]
   ·rw [decide_eq_false a,Bool.false_and]
  rw [this]; rfl
theorem list_bits {T th : List (List UInt8)} (hT : T.Pairwise (· < ·)) (h : ThOk T th) : T.filter (fun x => decide (x ∈ th)) = th :=
 up_ext (hT.filter _) h.up fun x => by
  rw [List.mem_filter,decide_eq_true_eq];exact ⟨fun h => h.2,fun hx => ⟨h.sub x hx,hx⟩⟩
theorem walk_none {rs : List RoomE} {ds : List DoorE} {tr : List (List UInt8)} {key : List UInt8} {ks : List (List UInt8)} {room : List UInt8} {th : List (List UInt8)} {t : Int} (h : key ∉ ds.map DoorE.key) : walkS rs ds tr (key :: ks) room th t = wkBad 8:=by
 have : ds.find? (fun d => d.key == key) = none:=by
  rw [List.find?_eq_none];intro d hd he;exact h (List.mem_map.2 ⟨d,hd,by simpa using he⟩)
 unfold walkS;rw [this]
theorem door_find {ds : List DoorE} (hup : UpS (ds.map DoorE.key)) {k : Nat} (hk : k < ds.length) : ds.find? (fun d => d.key == ds[k].key) = some ds[k]:=by
 rw [List.find?_eq_some_iff_getElem];refine ⟨by simp,k,hk,rfl,fun j hj => ?_⟩;have:=UpS.lt hup j k (by simpa using hk) hj;simp only [List.getElem_map] at this
 have hne : ds[j].key ≠ ds[k].key:=fun e => by rw [e] at this; exact ltS_irr _ this
 simpa using hne
theorem walk_some {rs : List RoomE} {ds : List DoorE} {tr : List (List UInt8)} {ks : List (List UInt8)} {room : List UInt8} {th : List (List UInt8)} {t : Int} (hup : UpS (ds.map DoorE.key)) {k : Nat} (hk : k < ds.length) :
  walkS rs ds tr (ds[k].key :: ks) room th t = if goE tr room th ds[k] ≠ 0 then wkBad (goE tr room th ds[k]) else walkS rs ds tr ks ds[k].dst (thru rs th ds[k]) (t + ds[k].time):=by
 conv => lhs; unfold walkS
 rw [door_find hup hk]
def walkE (rs : List RoomE) (ds : List DoorE) (st gl : List UInt8) (tr l : List (List UInt8)) : WkR:=if tricksE rs ds st gl tr ≠ 0 then wkBad (tricksE rs ds st gl tr) else walkF rs ds st tr l
theorem tricks_right {rs : List RoomE} {ds : List DoorE} {st gl : List UInt8} {tr : List (List UInt8)} (h : tricksE rs ds st gl tr = 0) : mapE rs ds st gl = 0:=by
 unfold tricksE at h
 by_cases c : mapE rs ds st gl = 0
 ·exact c
 ·rw [if_pos c] at h; exact absurd h c
end Go.Proofs.YtkchacgkjdeiaaaGreatDoor
