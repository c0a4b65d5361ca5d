/- Texts of this seat, laid together: MqB MqC VoA MqD MqE. -/
import Derived.Lib.Bytealg
import Derived.Test.YtgeaeockmadhcaaGreatDoorBp03
import Derived.Test.YtgeaeockmadhcaaGreatDoorBp11
import Derived.Test.YtgeaeockmadhcaaGreatDoorBp14
import Derived.Test.YtgeaeockmadhcaaGreatDoorBp04
import Derived.Test.YtgeaeockmadhcaaGreatDoorBp06
import Derived.Test.YtgeaeockmadhcaaGreatDoorBp00
import Derived.Test.YtgeaeockmadhcaaGreatDoorBp12
/- The walks of Rising, thingsFault and keysFault. -/
namespace Go.Proofs.YtgeaeockmadhcaaGreatDoor
set_option linter.unusedVariables false
set_option linter.unusedSimpArgs false
open Go.RowKit

theorem strs_at {w : World} {lo : Nat} {A : Option Addr} {l : List (List UInt8)} (h : Row w lo 1 A l.length (strs l)) {k : Nat} (hk : k < l.length) :
  ∃ b off,A = some ⟨b,off,none⟩ ∧ b < w.heap.size ∧ ∀ j (hj : j < l.length),w.cell? ⟨b,off + j,none⟩ = some (encStr l[j]):=by
 obtain ⟨b,off,e,_,hb,hc⟩:=h.2 (by omega)
 exact ⟨b,off,e,hb,fun j hj => hc j _ (by simp [strs,hj])⟩
end Go.Proofs.YtgeaeockmadhcaaGreatDoor
/- Maps in memory; rooms and doors are found by their keys. -/
namespace Go.Proofs.YtgeaeockmadhcaaGreatDoor
set_option linter.unusedVariables false
set_option linter.unusedSimpArgs false
open Go.RowKit

theorem flat_at {α : Type} (enc : α → List Value) (n : Nat) (hn : ∀ x,(enc x).length = n) (l : List α) : ∀ (k : Nat) (h : k < l.length) (j : Nat),j < n → (l.flatMap enc)[k * n + j]? = (enc l[k])[j]?:=by
 induction l with
 | nil => intro k h; exact absurd h (by simp)
 | cons x l ih =>
  intro k h j hj
  rw [List.flatMap_cons]
  match k,h with
  | 0,_ => rw [Nat.zero_mul,Nat.zero_add,List.getElem?_append_left (by rw [hn]; exact hj)]; rfl
  | k + 1,h =>
   rw [List.getElem?_append_right (by rw [hn,Nat.add_mul]; omega),hn,show (k + 1) * n + j - n = k * n + j by rw [Nat.add_mul]; omega,ih k (by simpa using h) j hj]
   rfl
def encR (r : RoomE) : List Value:=[encStr r.key,.slice r.B r.gives.length r.c]
def encD (d : DoorE) : List Value:=[encStr d.key,encStr d.src,encStr d.dst,.int .i64 d.time,.slice d.N d.needs.length d.nc,.slice d.T d.takes.length d.tc,encStr d.trick]
theorem encR_len (r : RoomE) : (encR r).length = 2:=rfl
theorem encD_len (d : DoorE) : (encD d).length = 7:=rfl
structure MapS (rs : List RoomE) (ds : List DoorE) : Prop where
  rl : rs.length ≤ 1000
  dl : ds.length ≤ 1000
  rk : ∀ r ∈ rs, r.key.length ≤ 1000000
  rg : ∀ r ∈ rs, r.gives.length ≤ 1000 ∧ ∀ s ∈ r.gives, s.length ≤ 1000000
  dk : ∀ d ∈ ds, d.key.length ≤ 1000000 ∧ d.src.length ≤ 1000000 ∧ d.dst.length ≤ 1000000 ∧ d.trick.length ≤ 1000000
  dt : ∀ d ∈ ds, I64 d.time
  dn : ∀ d ∈ ds, d.needs.length ≤ 1000 ∧ ∀ s ∈ d.needs, s.length ≤ 1000000
  dx : ∀ d ∈ ds, d.takes.length ≤ 1000 ∧ ∀ s ∈ d.takes, s.length ≤ 1000000
structure MapW (w : World) (lo : Nat) (A : Option Addr) (rs : List RoomE) (D : Option Addr) (ds : List DoorE) : Prop where
  rooms : Row w lo 2 A rs.length (rs.flatMap encR)
  doors : Row w lo 7 D ds.length (ds.flatMap encD)
  gives : ∀ r ∈ rs, Row w lo 1 r.B r.gives.length (strs r.gives) ∧ r.gives.length ≤ r.c
  needs : ∀ d ∈ ds, Row w lo 1 d.N d.needs.length (strs d.needs) ∧ d.needs.length ≤ d.nc
  takes : ∀ d ∈ ds, Row w lo 1 d.T d.takes.length (strs d.takes) ∧ d.takes.length ≤ d.tc
  s : MapS rs ds
section
variable {w w' : World} {lo : Nat} {A : Option Addr} {rs : List RoomE} {D : Option Addr} {ds : List DoorE}
theorem MapW.below (h : MapW w lo A rs D ds) (hb : Below w.heap.size w w') : MapW w' lo A rs D ds :=
 ⟨h.rooms.below hb,h.doors.below hb,fun r hr => ⟨(h.gives r hr).1.below hb,(h.gives r hr).2⟩,fun d hd => ⟨(h.needs d hd).1.below hb,(h.needs d hd).2⟩,fun d hd => ⟨(h.takes d hd).1.below hb,(h.takes d hd).2⟩,h.s⟩
theorem MapW.alloc (h : MapW w lo A rs D ds) (o : Obj) : MapW (w.alloc o) lo A rs D ds:=h.below ((Below.refl _ _).alloc (Nat.le_refl _) o)
theorem MapW.drewN (h : MapW w lo A rs D ds) (n : Nat) : MapW (w.drewN n) lo A rs D ds:=h.below (below_drewN' (Below.refl _ _) n)
theorem MapW.room (h : MapW w lo A rs D ds) (h0 : 0 < rs.length) : ∃ b off,A = some ⟨b,off,none⟩ ∧ b < w.heap.size ∧ ∀ k (hk : k < rs.length),w.cell? ⟨b,off + k * 2,none⟩ = some (encStr rs[k].key) ∧ w.cell? ⟨b,off + k * 2 + 1,none⟩ = some (.slice rs[k].B rs[k].gives.length rs[k].c):=by
 obtain ⟨b,off,e,_,hb,hc⟩:=h.rooms.2 h0
 have g : ∀ k (hk : k < rs.length) j (hj : j < 2) u,(encR rs[k])[j]? = some u → w.cell? ⟨b,off + k * 2 + j,none⟩ = some u:=fun k hk j hj u hu => by
  rw [Nat.add_assoc]; exact hc (k * 2 + j) u (by rw [flat_at encR 2 encR_len rs k hk j hj,hu])
 exact ⟨b,off,e,hb,fun k hk => ⟨g k hk 0 (by omega) _ rfl,g k hk 1 (by omega) _ rfl⟩⟩
theorem MapW.door (h : MapW w lo A rs D ds) (h0 : 0 < ds.length) : ∃ b off,D = some ⟨b,off,none⟩ ∧ b < w.heap.size ∧ ∀ k (hk : k < ds.length),w.cell? ⟨b,off + k * 7,none⟩ = some (encStr ds[k].key) ∧ w.cell? ⟨b,off + k * 7 + 1,none⟩ = some (encStr ds[k].src) ∧ w.cell? ⟨b,off + k * 7 + 2,none⟩ = some (encStr ds[k].dst) ∧ w.cell? ⟨b,off + k * 7 + 3,none⟩ = some (.int .i64 ds[k].time) ∧ w.cell? ⟨b,off + k * 7 + 4,none⟩ = some (.slice ds[k].N ds[k].needs.length ds[k].nc) ∧ w.cell? ⟨b,off + k * 7 + 5,none⟩ = some (.slice ds[k].T ds[k].takes.length ds[k].tc) ∧ w.cell? ⟨b,off + k * 7 + 6,none⟩ = some (encStr ds[k].trick):=by
 obtain ⟨b,off,e,_,hb,hc⟩:=h.doors.2 h0
 have g : ∀ k (hk : k < ds.length) j (hj : j < 7) u,(encD ds[k])[j]? = some u → w.cell? ⟨b,off + k * 7 + j,none⟩ = some u:=fun k hk j hj u hu => by
  rw [Nat.add_assoc]; exact hc (k * 7 + j) u (by rw [flat_at encD 7 encD_len ds k hk j hj,hu])
 exact ⟨b,off,e,hb,fun k hk => ⟨g k hk 0 (by omega) _ rfl,g k hk 1 (by omega) _ rfl,g k hk 2 (by omega) _ rfl,g k hk 3 (by omega) _ rfl,g k hk 4 (by omega) _ rfl,g k hk 5 (by omega) _ rfl,g k hk 6 (by omega) _ rfl⟩⟩
end
theorem cmpB_less : ∀ x y : List UInt8,(Lib.compareBytes x y < 0) ↔ Op.bytesLess x y = true
 | [],[] => by simp [Lib.compareBytes,Op.bytesLess]
 | [],_ :: _ => by simp [Lib.compareBytes,Op.bytesLess]
 | _ :: _,[] => by simp [Lib.compareBytes,Op.bytesLess]
 | a :: x,b :: y => by
  have ih:=cmpB_less x y
  simp only [Lib.compareBytes,Op.bytesLess]
  by_cases h1 : a < b
  ·simp [h1]
  ·by_cases h2 : b < a
   ·have h3 : (a == b) = false:=by rw [beq_eq_false_iff_ne]; rintro rfl; exact absurd h2 h1
    simp [h1,h2,h3]
   ·have e : a = b:=by
     have h4 : ¬ a.toNat < b.toNat:=fun h => h1 (UInt8.lt_iff_toNat_lt.2 h)
     have h5 : ¬ b.toNat < a.toNat:=fun h => h2 (UInt8.lt_iff_toNat_lt.2 h)
     exact UInt8.toNat_inj.1 (by omega)
    subst e
    simp [h1,ih]
theorem cmpB_lt (x y : List UInt8) : (Lib.compareBytes x y < 0) ↔ x < y:=by rw [cmpB_less,bytesLess_eq]; simp
theorem cmpB_eq : ∀ x y : List UInt8,Lib.compareBytes x y = 0 ↔ x = y
 | [],[] => by simp [Lib.compareBytes]
 | [],_ :: _ => by simp [Lib.compareBytes]
 | _ :: _,[] => by simp [Lib.compareBytes]
 | a :: x,b :: y => by
  have ih:=cmpB_eq x y
  simp only [Lib.compareBytes]
  by_cases h1 : a < b
  ·have : a ≠ b:=by rintro rfl; exact absurd h1 (by simp [UInt8.lt_iff_toNat_lt])
   simp [h1,this]
  ·by_cases h2 : b < a
   ·have : a ≠ b:=by rintro rfl; exact absurd h2 (by simp [UInt8.lt_iff_toNat_lt])
    simp [h1,h2,this]
   ·have e : a = b:=by
     have h4 : ¬ a.toNat < b.toNat:=fun h => h1 (UInt8.lt_iff_toNat_lt.2 h)
     have h5 : ¬ b.toNat < a.toNat:=fun h => h2 (UInt8.lt_iff_toNat_lt.2 h)
     exact UInt8.toNat_inj.1 (by omega)
    subst e
    simp [h1,ih]
theorem ltS_trans {x y z : List UInt8} (h1 : x < y) (h2 : y < z) : x < z:=List.lt_trans h1 h2
theorem ltS_irr (x : List UInt8) : ¬ x < x:=List.lt_irrefl x
def UpS (l : List (List UInt8)) : Prop:=∀ i (h : i + 1 < l.length),l[i] < l[i + 1]
theorem UpS.lt {l : List (List UInt8)} (h : UpS l) : ∀ i j (hj : j < l.length) (hij : i < j),l[i]'(by omega) < l[j]:=by
 intro i j hj hij
 induction j with
 | zero => omega
 | succ j ih =>
  have h1:=h j hj
  rcases Nat.lt_or_ge i j with h2 | h2
  ·exact ltS_trans (ih (by omega) h2) h1
  ·have : i = j:=by omega
   subst this; exact h1
def FoundS (l : List (List UInt8)) (key : List UInt8) (r : Nat) (b : Bool) : Prop:=r ≤ l.length ∧ (b = true → ∃ h : r < l.length,l[r] = key) ∧ (b = false → key ∉ l)
end Go.Proofs.YtgeaeockmadhcaaGreatDoor
/- Votes, judges, a quorum, plain: what is wrong with them, what is decided; how they lie in memory. -/
namespace Go.Proofs.YtgeaeockmadhcaaGreatDoor
set_option linter.unusedVariables false
set_option linter.unusedSimpArgs false
open Go.RowKit

theorem Blk.at1 (w : World) {t : TypeId} {cs : Array Value} {b : Nat} (hb : w.heap.size = b) : Blk (w.alloc (.cells cs t)) b t cs:=by subst hb; exact Blk.new _ _ _
structure VoteE where
  run : List UInt8
  who : List UInt8
  at_ : Int
  kind : Int
instance : Inhabited VoteE := ⟨⟨[], [], 0, 0⟩⟩
structure JudgeE where
  who : List UInt8
  frm : Int
  to_ : Int
  wt : Int
instance : Inhabited JudgeE := ⟨⟨[], 0, 0, 0⟩⟩
structure QuoE where
  least : Int
  num : Int
  den : Int
def encV (v : VoteE) : List Value:=[encStr v.run,encStr v.who,.int .i64 v.at_,.int .i64 v.kind]
def encJ (j : JudgeE) : List Value:=[encStr j.who,.int .i64 j.frm,.int .i64 j.to_,.int .i64 j.wt]
def quoV (q : QuoE) : Value:=.agg #[.int .i64 q.least,.int .i64 q.num,.int .i64 q.den]
theorem encV_len (v : VoteE) : (encV v).length = 4:=rfl
theorem encJ_len (v : JudgeE) : (encJ v).length = 4:=rfl
theorem flat_len4 {α : Type} (enc : α → List Value) (n : Nat) (hn : ∀ x,(enc x).length = n) (l : List α) : (l.flatMap enc).length = l.length * n:=by
 induction l with
 | nil => simp
 | cons x l ih => rw [List.flatMap_cons,List.length_append,hn,ih,List.length_cons,Nat.add_mul]; omega
theorem votes_at {w : World} {lo : Nat} {A : Option Addr} {vs : List VoteE} (h : Row w lo 4 A vs.length (vs.flatMap encV)) (h0 : 0 < vs.length) : ∃ b off,A = some ⟨b,off,none⟩ ∧ b < w.heap.size ∧ lo ≤ b ∧ ∀ k (hk : k < vs.length),w.cell? ⟨b,off + k * 4,none⟩ = some (.string ⟨vs[k].run.toArray⟩) ∧ w.cell? ⟨b,off + k * 4 + 1,none⟩ = some (.string ⟨vs[k].who.toArray⟩) ∧ w.cell? ⟨b,off + k * 4 + 2,none⟩ = some (.int .i64 vs[k].at_) ∧ w.cell? ⟨b,off + k * 4 + 3,none⟩ = some (.int .i64 vs[k].kind):=by
 obtain ⟨b,off,e,hlo,hb,hc⟩:=h.2 h0
 have g : ∀ k (hk : k < vs.length) j (hj : j < 4) u,(encV vs[k])[j]? = some u → w.cell? ⟨b,off + k * 4 + j,none⟩ = some u:=fun k hk j hj u hu => by
  rw [Nat.add_assoc]; exact hc (k * 4 + j) u (by rw [flat_at encV 4 encV_len vs k hk j hj,hu])
 exact ⟨b,off,e,hb,hlo,fun k hk => ⟨g k hk 0 (by omega) _ rfl,g k hk 1 (by omega) _ rfl,g k hk 2 (by omega) _ rfl,g k hk 3 (by omega) _ rfl⟩⟩
theorem judges_at {w : World} {lo : Nat} {A : Option Addr} {js : List JudgeE} (h : Row w lo 4 A js.length (js.flatMap encJ)) (h0 : 0 < js.length) : ∃ b off,A = some ⟨b,off,none⟩ ∧ b < w.heap.size ∧ lo ≤ b ∧ ∀ k (hk : k < js.length),w.cell? ⟨b,off + k * 4,none⟩ = some (.string ⟨js[k].who.toArray⟩) ∧ w.cell? ⟨b,off + k * 4 + 1,none⟩ = some (.int .i64 js[k].frm) ∧ w.cell? ⟨b,off + k * 4 + 2,none⟩ = some (.int .i64 js[k].to_) ∧ w.cell? ⟨b,off + k * 4 + 3,none⟩ = some (.int .i64 js[k].wt):=by
 obtain ⟨b,off,e,hlo,hb,hc⟩:=h.2 h0
 have g : ∀ k (hk : k < js.length) j (hj : j < 4) u,(encJ js[k])[j]? = some u → w.cell? ⟨b,off + k * 4 + j,none⟩ = some u:=fun k hk j hj u hu => by
  rw [Nat.add_assoc]; exact hc (k * 4 + j) u (by rw [flat_at encJ 4 encJ_len js k hk j hj,hu])
 exact ⟨b,off,e,hb,hlo,fun k hk => ⟨g k hk 0 (by omega) _ rfl,g k hk 1 (by omega) _ rfl,g k hk 2 (by omega) _ rfl,g k hk 3 (by omega) _ rfl⟩⟩
def cmpV (x y : VoteE) : Int:=firstE [Lib.compareBytes x.run y.run,cmpI x.at_ y.at_,Lib.compareBytes x.who y.who]
def ltV (x y : VoteE) : Prop:=x.run < y.run ∨ (x.run = y.run ∧ (x.at_ < y.at_ ∨ (x.at_ = y.at_ ∧ x.who < y.who)))
instance (x y : VoteE) : Decidable (ltV x y) := inferInstanceAs (Decidable (_ ∨ _))
theorem firstE_3 (a b c : Int) : firstE [a,b,c] = if a ≠ 0 then a else if b ≠ 0 then b else c:=by
 unfold firstE
 by_cases h : a = 0 <;> by_cases h' : b = 0 <;> by_cases h'' : c = 0 <;> simp [h,h',h'',firstE]
theorem cmpV_lt (x y : VoteE) : cmpV x y < 0 ↔ ltV x y:=by
 unfold cmpV ltV
 rw [firstE_3]
 by_cases h1 : x.run = y.run
 ·rw [if_neg (by rw [(cmpB_eq _ _).2 h1]; simp)]
  by_cases h2 : x.at_ = y.at_
  ·rw [if_neg (by rw [(cmpI_eq _ _).2 h2]; simp),cmpB_lt]
   simp only [h1,h2,Int.lt_irrefl,true_and,false_or]
   exact ⟨fun h => .inr h,fun h => h.resolve_left (ltS_irr _)⟩
  ·rw [if_pos (fun h => h2 ((cmpI_eq _ _).1 h)),cmpI_lt]
   simp only [h1,h2,true_and,false_and,or_false]
   exact ⟨fun h => .inr h,fun h => h.resolve_left (ltS_irr _)⟩
 ·rw [if_pos (fun h => h1 ((cmpB_eq _ _).1 h)),cmpB_lt]
  simp only [h1,false_and,or_false]
theorem cmpV_eq (x y : VoteE) : cmpV x y = 0 ↔ x.run = y.run ∧ x.at_ = y.at_ ∧ x.who = y.who:=by
 unfold cmpV
 rw [firstE_3]
 by_cases h1 : x.run = y.run
 ·rw [if_neg (by rw [(cmpB_eq _ _).2 h1]; simp)]
  by_cases h2 : x.at_ = y.at_
  ·rw [if_neg (by rw [(cmpI_eq _ _).2 h2]; simp),cmpB_eq]
   simp [h1,h2]
  ·rw [if_pos (fun h => h2 ((cmpI_eq _ _).1 h))]
   have : cmpI x.at_ y.at_ ≠ 0:=fun h => h2 ((cmpI_eq _ _).1 h)
   simp [h2,this]
 ·rw [if_pos (fun h => h1 ((cmpB_eq _ _).1 h))]
  have : Lib.compareBytes x.run y.run ≠ 0:=fun h => h1 ((cmpB_eq _ _).1 h)
  simp [h1,this]
theorem ltS_tri (x y : List UInt8) : x < y ∨ x = y ∨ y < x:=by
 by_cases h1 : x < y
 ·exact .inl h1
 ·by_cases h2 : y < x
  ·exact .inr (.inr h2)
  ·exact .inr (.inl (List.le_antisymm (List.not_lt.1 h2) (List.not_lt.1 h1)))
theorem ltV_irr (x : VoteE) : ¬ ltV x x:=by
 unfold ltV
 rintro (h | ⟨-,h | ⟨-,h⟩⟩)
 ·exact ltS_irr _ h
 ·omega
 ·exact ltS_irr _ h
theorem ltV_trans {x y z : VoteE} (h1 : ltV x y) (h2 : ltV y z) : ltV x z:=by
 unfold ltV at *
 rcases h1 with h1 | ⟨e1,h1⟩ <;> rcases h2 with h2 | ⟨e2,h2⟩
 ·exact .inl (ltS_trans h1 h2)
 ·rw [← e2]; exact .inl h1
 ·rw [e1]; exact .inl h2
 ·refine .inr ⟨e1.trans e2,?_⟩
  rcases h1 with h1 | ⟨e3,h1⟩ <;> rcases h2 with h2 | ⟨e4,h2⟩
  ·left; omega
  ·left; omega
  ·left; omega
  ·exact .inr ⟨e3.trans e4,ltS_trans h1 h2⟩
theorem ltV_tri (x y : VoteE) : ltV x y ∨ (x.run = y.run ∧ x.at_ = y.at_ ∧ x.who = y.who) ∨ ltV y x:=by
 unfold ltV
 rcases ltS_tri x.run y.run with h | h | h
 ·exact .inl (.inl h)
 ·rcases Int.lt_trichotomy x.at_ y.at_ with g | g | g
  ·exact .inl (.inr ⟨h,.inl g⟩)
  ·rcases ltS_tri x.who y.who with k | k | k
   ·exact .inl (.inr ⟨h,.inr ⟨g,k⟩⟩)
   ·exact .inr (.inl ⟨h,g,k⟩)
   ·exact .inr (.inr (.inr ⟨h.symm,.inr ⟨g.symm,k⟩⟩))
  ·exact .inr (.inr (.inr ⟨h.symm,.inl g⟩))
 ·exact .inr (.inr (.inl h))
theorem cmpV_pos (x y : VoteE) : 0 < cmpV x y ↔ ltV y x:=by
 have h1:=cmpV_lt x y
 have h2:=cmpV_eq x y
 constructor
 ·intro h
  rcases ltV_tri x y with g | g | g
  ·have:=h1.2 g; omega
  ·have:=h2.2 g; omega
  ·exact g
 ·intro h
  rcases Int.lt_trichotomy (cmpV x y) 0 with g | g | g
  ·exact absurd (ltV_trans h (h1.1 g)) (ltV_irr _)
  ·obtain ⟨a,b,c⟩:=h2.1 g
   unfold ltV at h
   rw [a,b,c] at h
   rcases h with h | ⟨-,h | ⟨-,h⟩⟩
   ·exact absurd h (ltS_irr _)
   ·omega
   ·exact absurd h (ltS_irr _)
  ·exact g
def voteAt (vs : List VoteE) (i : Nat) : Int :=
 if !keyB (vs.getD i default).run || !keyB (vs.getD i default).who then 5 else if (vs.getD i default).at_ < 0 ∨ 345686399999 < (vs.getD i default).at_ then 1
 else if (vs.getD i default).kind < 1 ∨ 3 < (vs.getD i default).kind then 4
 else if 0 < i ∧ ¬ ltV (vs.getD (i - 1) default) (vs.getD i default) then 7 else 0
def votesE (vs : List VoteE) : Int:=if 500 < vs.length then 2 else scanF (voteAt vs) vs.length
def cmpJ (x y : JudgeE) : Int:=firstE [Lib.compareBytes x.who y.who,cmpI x.frm y.frm]
def ltJ (x y : JudgeE) : Prop:=x.who < y.who ∨ (x.who = y.who ∧ x.frm < y.frm)
instance (x y : JudgeE) : Decidable (ltJ x y) := inferInstanceAs (Decidable (_ ∨ _))
theorem cmpJ_lt (x y : JudgeE) : cmpJ x y < 0 ↔ ltJ x y:=by
 unfold cmpJ ltJ
 rw [firstE_two]
 by_cases h1 : x.who = y.who
 ·rw [if_pos ((cmpB_eq _ _).2 h1),cmpI_lt]
  simp only [h1,true_and]
  exact ⟨fun h => .inr h,fun h => h.resolve_left (ltS_irr _)⟩
 ·rw [if_neg (fun h => h1 ((cmpB_eq _ _).1 h)),cmpB_lt]
  simp only [h1,false_and,or_false]
theorem cmpJ_pos (x y : JudgeE) : 0 < cmpJ x y ↔ ltJ y x:=by
 have e1 : cmpJ x y = 0 ↔ x.who = y.who ∧ x.frm = y.frm:=by
  unfold cmpJ
  rw [firstE_two]
  by_cases h1 : x.who = y.who
  ·rw [if_pos ((cmpB_eq _ _).2 h1),cmpI_eq]; simp [h1]
  ·have : Lib.compareBytes x.who y.who ≠ 0:=fun h => h1 ((cmpB_eq _ _).1 h)
   rw [if_neg this]; simp [h1,this]
 have h1:=cmpJ_lt x y
 unfold ltJ at *
 constructor
 ·intro h
  rcases ltS_tri x.who y.who with g | g | g
  ·have:=h1.2 (.inl g); omega
  ·rcases Int.lt_trichotomy x.frm y.frm with k | k | k
   ·have:=h1.2 (.inr ⟨g,k⟩); omega
   ·have:=e1.2 ⟨g,k⟩; omega
   ·exact .inr ⟨g.symm,k⟩
  ·exact .inl g
 ·intro h
  rcases Int.lt_trichotomy (cmpJ x y) 0 with g | g | g
  ·rcases h1.1 g with k | ⟨k1,k2⟩ <;> rcases h with h | ⟨h2,h3⟩
   ·exact absurd (ltS_trans h k) (ltS_irr _)
   ·rw [h2] at k; exact absurd k (ltS_irr _)
   ·rw [k1] at h; exact absurd h (ltS_irr _)
   ·omega
  ·obtain ⟨a,b⟩:=e1.1 g
   rcases h with h | ⟨h2,h3⟩
   ·rw [a] at h; exact absurd h (ltS_irr _)
   ·omega
  ·exact g
def judgeAt (js : List JudgeE) (i : Nat) : Int :=
 if !keyB (js.getD i default).who then 5
 else if (js.getD i default).frm < 0 ∨ (js.getD i default).to_ < (js.getD i default).frm ∨ 345686400000 < (js.getD i default).to_ ∨ (js.getD i default).wt < 1 ∨ 1000 < (js.getD i default).wt then 1
 else if 0 < i ∧ ¬ ltJ (js.getD (i - 1) default) (js.getD i default) then 7
 else if 0 < i ∧ (js.getD (i - 1) default).who = (js.getD i default).who ∧ (js.getD i default).frm < (js.getD (i - 1) default).to_ then 13 else 0
def quoE (q : QuoE) : Int:=if q.least < 1 ∨ 1000000 < q.least then 1 else if (q.den < 1 ∨ 1000 < q.den) ∨ (q.num < 0 ∨ q.den < q.num) ∨ Nat.gcd q.num.toNat q.den.toNat ≠ 1 then 3 else 0
def judgesE (js : List JudgeE) (q : QuoE) : Int:=if 500 < js.length then 2 else if scanF (judgeAt js) js.length ≠ 0 then scanF (judgeAt js) js.length else quoE q
def weightF (js : List JudgeE) (who : List UInt8) (t : Int) : Int :=
 match js.find? fun x => x.who == who && decide (x.frm ≤ t) && decide (t < x.to_) with
 | some x => x.wt
 | none => 0
def decF (q : QuoE) (yes no : Int) : Int:=if yes + no < q.least then 0 else if q.num * (yes + no) ≤ yes * q.den then 1 else 2
structure LastE where
  K : List (List UInt8)
  f : List UInt8 → Int × Int
def lastPut (L : LastE) (who : List UInt8) (kind wt : Int) : LastE:=⟨if who ∈ L.K then L.K else L.K ++ [who],fun y => if y = who then (kind,wt) else L.f y⟩
def lastU (js : List JudgeE) (L : LastE) (v : VoteE) : LastE:=if 0 < weightF js v.who v.at_ then lastPut L v.who v.kind (weightF js v.who v.at_) else L
def sumK (L : LastE) (kind : Int) (K : List (List UInt8)) : Int:=(K.map fun k => if (L.f k).1 = kind then (L.f k).2 else 0).sum
structure RulE where
  L : LastE
  how : Int
  since : Int
  yes : Int
  no : Int
def relB (run : List UInt8) (t : Int) (v : VoteE) : Bool:=decide (v.run = run) && decide (v.at_ ≤ t)
def moreB (vs : List VoteE) (run : List UInt8) (i : Nat) : Bool:=decide (i + 1 < vs.length) && decide ((vs.getD (i + 1) default).run = run) && decide ((vs.getD (i + 1) default).at_ = (vs.getD i default).at_)
def rulTell (q : QuoE) (t : Int) (R : RulE) : RulE :=
 if decF q (sumK R.L 1 R.L.K) (sumK R.L 2 R.L.K) = R.how then ⟨R.L,R.how,R.since,sumK R.L 1 R.L.K,sumK R.L 2 R.L.K⟩ else ⟨R.L,decF q (sumK R.L 1 R.L.K) (sumK R.L 2 R.L.K),t,sumK R.L 1 R.L.K,sumK R.L 2 R.L.K⟩
def rulS (vs : List VoteE) (js : List JudgeE) (q : QuoE) (run : List UInt8) (t : Int) : Nat → RulE
 | 0 => ⟨⟨[],fun _ => (0,0)⟩,0,0,0,0⟩
 | i + 1 =>
  if relB run t (vs.getD i default) then
   if moreB vs run i then ⟨lastU js (rulS vs js q run t i).L (vs.getD i default),(rulS vs js q run t i).how,(rulS vs js q run t i).since,(rulS vs js q run t i).yes,(rulS vs js q run t i).no⟩
   else rulTell q (vs.getD i default).at_ ⟨lastU js (rulS vs js q run t i).L (vs.getD i default),(rulS vs js q run t i).how,(rulS vs js q run t i).since,(rulS vs js q run t i).yes,(rulS vs js q run t i).no⟩
  else rulS vs js q run t i
def ruledF (vs : List VoteE) (js : List JudgeE) (q : QuoE) (run : List UInt8) (t : Int) : RulE:=rulS vs js q run t vs.length
def rulV (run : List UInt8) (R : RulE) : Value:=.agg #[encStr run,.int .i64 R.how,.int .i64 R.since,.int .i64 R.yes,.int .i64 R.no]
end Go.Proofs.YtgeaeockmadhcaaGreatDoor
/- Rooms and doors are found by their keys: the binary search of the program. -/
namespace Go.Proofs.YtgeaeockmadhcaaGreatDoor
set_option linter.unusedVariables false
set_option linter.unusedSimpArgs false
open Go.RowKit

end Go.Proofs.YtgeaeockmadhcaaGreatDoor
/- Rooms and doors are found by their keys: room, RoomAt, DoorAt. -/
namespace Go.Proofs.YtgeaeockmadhcaaGreatDoor
set_option linter.unusedVariables false
set_option linter.unusedSimpArgs false
open Go.RowKit

theorem FoundS.le {l : List (List UInt8)} {key : List UInt8} {r : Nat} {b : Bool} (h : FoundS l key r b) : r ≤ l.length:=h.1
end Go.Proofs.YtgeaeockmadhcaaGreatDoor
