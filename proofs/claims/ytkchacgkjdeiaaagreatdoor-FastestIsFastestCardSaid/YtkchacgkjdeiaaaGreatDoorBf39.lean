/- Texts of this seat, laid together: MqB MqC MqD MqE. -/
import Derived.Lib.Bytealg
import Derived.Test.YtkchacgkjdeiaaaGreatDoorBf38
import Derived.Test.YtkchacgkjdeiaaaGreatDoorBf19
import Derived.Test.YtkchacgkjdeiaaaGreatDoorBf21
import Derived.Test.YtkchacgkjdeiaaaGreatDoorBf04
import Derived.Test.YtkchacgkjdeiaaaGreatDoorBf06
/- The walks of Rising, thingsFault and keysFault. -/
set_option linter.unusedVariables false
set_option linter.unusedSimpArgs false
namespace Go.Proofs.YtkchacgkjdeiaaaGreatDoor
open Go.RowKit

theorem leq_not : ∀ a b : List UInt8,(Op.bytesLess a b || a == b) = !Op.bytesLess b a
 | [],[] => rfl
 | [],_ :: _ => rfl
 | _ :: _,[] => rfl
 | a :: x,b :: y => by
  have ih:=leq_not x y;simp only [Op.bytesLess];rcases Nat.lt_trichotomy a.toNat b.toNat with h | h | h
  ·have h1 : a < b:=UInt8.lt_iff_toNat_lt.2 h
   have h2 : ¬ b < a:=fun e => by have:=UInt8.lt_iff_toNat_lt.1 e; omega
   have h3 : (b == a) = false:=by rw [beq_eq_false_iff_ne]; rintro rfl; omega
   simp [h1,h2,h3]
  ·have e : a = b:=UInt8.toNat_inj.1 h
   subst e
   have h2 : ¬ a < a:=fun e => by have:=UInt8.lt_iff_toNat_lt.1 e; omega
   have h3 : (a :: x == a :: y) = (x == y):=by simp
   rw [h3]
   simpa [h2] using ih
  ·have h1 : b < a:=UInt8.lt_iff_toNat_lt.2 h
   have h2 : ¬ a < b:=fun e => by have:=UInt8.lt_iff_toNat_lt.1 e; omega
   have h3 : (a == b) = false:=by rw [beq_eq_false_iff_ne]; rintro rfl; omega
   have h4 : (a :: x == b :: y) = false:=by rw [List.cons_beq_cons,h3]; rfl
   simp [h1,h2,h3,h4]
theorem leq_lt (a b : List UInt8) : (Op.bytesLess a b || a == b) = !decide (b < a):=by rw [leq_not,bytesLess_eq]
theorem strs_at {w : World} {lo : Nat} {A : Option Addr} {l : List (List UInt8)} (h : Row w lo 1 A l.length (strs l)) {k : Nat} (hk : k < l.length) :
  ∃ b off,A = some ⟨b,off,none⟩ ∧ b < w.heap.size ∧ ∀ j (hj : j < l.length),w.cell? ⟨b,off + j,none⟩ = some (encStr l[j]):=by
 obtain ⟨b,off,e,_,hb,hc⟩:=h.2 (by omega);exact ⟨b,off,e,hb,fun j hj => hc j _ (by simp [strs,hj])⟩
theorem riseAt_key {l : List (List UInt8)} {k : Nat} (hk : k < l.length) (h : keyB l[k] = false) : riseAt l k = 5:=by
 unfold riseAt;rw [List.getD_eq_getElem?_getD,List.getElem?_eq_getElem hk]
 simp [h]
theorem riseAt_zero {l : List (List UInt8)} (hk : 0 < l.length) (h : keyB l[0] = true) : riseAt l 0 = 0:=by
 unfold riseAt;rw [List.getD_eq_getElem?_getD,List.getElem?_eq_getElem hk]
 simp [h]
theorem riseAt_pos {l : List (List UInt8)} {k : Nat} (h0 : 0 < k) (hk : k < l.length) (h : keyB l[k] = true) : riseAt l k = if l[k - 1] < l[k] then 0 else 7:=by
 unfold riseAt;rw [List.getD_eq_getElem?_getD,List.getElem?_eq_getElem hk,List.getD_eq_getElem?_getD,List.getElem?_eq_getElem (show k - 1 < l.length by omega)];simp only [Option.getD_some,h,h0,true_and]
 by_cases hc : l[k - 1] < l[k] <;> simp [hc]
set_option maxHeartbeats 1000000 in
theorem rising_any (A : Option Addr) (c lo : Nat) (l : List (List UInt8)) (w : World) (hr : Row w lo 1 A l.length (strs l)) (hl : l.length ≤ 1000000000) :
  Calls Tryz.prog 213 #[.slice A l.length c] w fun e w' => e = .returned (.int .i64 (riseF l)) ∧ Below w.heap.size w w':=by
 go_enter Tryz.func213,Tryz.ntmps213
 go_wp2_with fail
 go_loopw [7] (fun i wr => ∃ k : Nat,k ≤ l.length ∧ i = .int .i64 k ∧ Hid (∀ j,j < k → riseAt l j = 0) ∧ Below w.heap.size w wr) (fun i _ => l.length - (intOf i).toNat)
 case atStart => exact ⟨0,Nat.zero_le _,rfl,Lib.hid (fun j hj => by omega),Below.refl _ _⟩
 case round =>
  obtain ⟨k,hk,rfl,HZ,hbw⟩:=hrel
  by_cases hkn : k < l.length
  ·obtain ⟨b,off,rfl,hbs,hcell⟩:=strs_at (hr.below hbw) hkn
   have c0:=hcell k hkn;unfold encStr at c0
   cases hkey : keyB l[k] with
   | false =>
    have HV : Hid (riseF l = 5):=Lib.hid (by
     have h5:=riseAt_key hkn hkey;unfold riseF
     rw [scanF_hit hkn HZ.out (by rw [h5]; decide),h5])
    clear hcell;go_wp2_with fail;refine (key_any _ _).mono ?_;rintro e w1 ⟨rfl,rfl⟩;simp only [hkey];go_wp2_with fail;go_ret;exact ⟨ret_int' HV.out.symm,hbw⟩
   | true =>
    by_cases hk0 : k = 0
    ·have HR0 : Hid (riseAt l k = 0):=Lib.hid (by subst hk0; exact riseAt_zero hkn hkey)
     have d3 : ¬ 0 < k:=by omega
     have HK0:=Lib.hid hk0;clear hcell hk0;go_wp2_with fail;refine (key_any _ _).mono ?_;rintro e w1 ⟨rfl,rfl⟩;simp only [hkey];go_wp2_with fail;go_roundw
     case rel => exact ⟨k + 1,by omega,by go_num,Lib.hid (fun j hj => by
      by_cases hj' : j < k
      ·exact HZ.out j hj'
      ·obtain rfl : j = k:=by omega
       exact HR0.out),hbw⟩
     case measure => simp [intOf]; omega
    ·have d3 : 0 < k:=by omega
     have c1:=hcell (k - 1) (by omega);unfold encStr at c1
     have wk : IntKind.i64.wrap ((k : Int) - 1) = ((k - 1 : Nat) : Int):=by rw [IntWalk.i64_in _ ⟨by omega,by omega⟩]; omega
     have HRP:=Lib.hid (riseAt_pos d3 hkn hkey);have hq:=leq_lt l[k] l[k - 1]
     obtain ⟨p1,h1⟩ : ∃ p1,Op.bytesLess l[k] l[k - 1] = p1:=⟨_,rfl⟩
     obtain ⟨p2,h2⟩ : ∃ p2,(l[k] == l[k - 1]) = p2:=⟨_,rfl⟩
     rw [h1,h2] at hq;clear hcell hk0
     by_cases hlt : l[k - 1] < l[k]
     ·have hp : p1 = false ∧ p2 = false:=by
       rw [decide_eq_true hlt] at hq
       cases p1 <;> cases p2 <;> simp at hq ⊢
      obtain ⟨rfl,rfl⟩:=hp;have HR0 : Hid (riseAt l k = 0):=Lib.hid (by rw [HRP.out,if_pos hlt]);clear hq hlt;go_wp2_with fail;refine (key_any _ _).mono ?_;rintro e w1 ⟨rfl,rfl⟩;simp only [hkey];go_wp2_with fail;go_roundw
      case rel => exact ⟨k + 1,by omega,by go_num,Lib.hid (fun j hj => by
       by_cases hj' : j < k
       ·exact HZ.out j hj'
       ·obtain rfl : j = k:=by omega
        exact HR0.out),hbw⟩
      case measure => simp [intOf]; omega
     ·have HV : Hid (riseF l = 7):=Lib.hid (by
       have h5:=HRP.out;rw [if_neg hlt] at h5;unfold riseF
       rw [scanF_hit hkn HZ.out (by rw [h5]; decide),h5])
      rw [decide_eq_false hlt] at hq
      have hp : p1 = true ∨ p1 = false ∧ p2 = true:=by
       cases p1 <;> cases p2 <;> simp at hq ⊢
      clear hq hlt;rcases hp with rfl | ⟨rfl,rfl⟩
      all_goals
       go_wp2_with fail;refine (key_any _ _).mono ?_;rintro e w1 ⟨rfl,rfl⟩;simp only [hkey];go_wp2_with fail;go_ret;exact ⟨ret_int' HV.out.symm,hbw⟩
  ·have hke : k = l.length:=by omega
   subst hke;have HV : Hid (riseF l = 0):=Lib.hid (scanF_none HZ.out);go_wp2_with fail;go_ret;exact ⟨ret_int' HV.out.symm,hbw⟩
set_option maxHeartbeats 1000000 in
theorem thingsFault_any (A : Option Addr) (c lo : Nat) (l : List (List UInt8)) (w : World) (hr : Row w lo 1 A l.length (strs l)) (hl : l.length ≤ 1000000000) :
  Calls Tryz.prog 197 #[.slice A l.length c] w fun e w' => e = .returned (.int .i64 (thingsE l)) ∧ Below w.heap.size w w':=by
 by_cases h : 10 < l.length
 ·have HV : Hid (thingsE l = 2):=Lib.hid (by unfold thingsE; rw [if_pos h])
  go_enter Tryz.func197,Tryz.ntmps197
  go_wp2_with fail;go_ret;exact ⟨ret_int' HV.out.symm,Below.refl _ _⟩
 ·have HV : Hid (thingsE l = riseF l):=Lib.hid (by unfold thingsE; rw [if_neg h])
  go_enter Tryz.func197,Tryz.ntmps197
  go_wp2_with fail;refine (rising_any A c lo l _ hr hl).mono ?_;rintro e w1 ⟨rfl,hb⟩;go_wp2_with fail;go_ret;exact ⟨ret_int' HV.out.symm,hb⟩
end Go.Proofs.YtkchacgkjdeiaaaGreatDoor
/- Maps in memory; rooms and doors are found by their keys. -/
namespace Go.Proofs.YtkchacgkjdeiaaaGreatDoor
open Go.RowKit

theorem flat_at {α : Type} (enc : α → List Value) (n : Nat) (hn : ∀ x,(enc x).length = n) (l : List α) : ∀ (k : Nat) (h : k < l.length) (j : Nat),j < n → (l.flatMap enc)[k * n + j]? = (enc l[k])[j]?:=by
 induction l with
 | nil => intro k h; exact absurd h (by simp)
 | cons x l ih =>
  intro k h j hj;rw [List.flatMap_cons]
  match k,h with
  | 0,_ => rw [Nat.zero_mul,Nat.zero_add,List.getElem?_append_left (by rw [hn]; exact hj)]; rfl
  | k + 1,h =>
   rw [List.getElem?_append_right (by rw [hn,Nat.add_mul]; omega),hn,show (k + 1) * n + j - n = k * n + j by rw [Nat.add_mul]; omega,ih k (by simpa using h) j hj];rfl
def encR (r : RoomE) : List Value:=[encStr r.key,.slice r.B r.gives.length r.c]
def encD (d : DoorE) : List Value:=[encStr d.key,encStr d.src,encStr d.dst,.int .i64 d.time,.slice d.N d.needs.length d.nc,.slice d.T d.takes.length d.tc,encStr d.trick]
theorem encR_len (r : RoomE) : (encR r).length = 2:=rfl
theorem encD_len (d : DoorE) : (encD d).length = 7:=rfl
structure MapS (rs : List RoomE) (ds : List DoorE) : Prop where
  rl : rs.length ≤ 1000
  dl : ds.length ≤ 1000
  rk : ∀ r ∈ rs, r.key.length ≤ 1000000
  rg : ∀ r ∈ rs, r.gives.length ≤ 1000 ∧ ∀ s ∈ r.gives, s.length ≤ 1000000
  dk : ∀ d ∈ ds, d.key.length ≤ 1000000 ∧ d.src.length ≤ 1000000 ∧ d.dst.length ≤ 1000000 ∧ d.trick.length ≤ 1000000
  dt : ∀ d ∈ ds, I64 d.time
  dn : ∀ d ∈ ds, d.needs.length ≤ 1000 ∧ ∀ s ∈ d.needs, s.length ≤ 1000000
  dx : ∀ d ∈ ds, d.takes.length ≤ 1000 ∧ ∀ s ∈ d.takes, s.length ≤ 1000000
structure MapW (w : World) (lo : Nat) (A : Option Addr) (rs : List RoomE) (D : Option Addr) (ds : List DoorE) : Prop where
  rooms : Row w lo 2 A rs.length (rs.flatMap encR)
  doors : Row w lo 7 D ds.length (ds.flatMap encD)
  gives : ∀ r ∈ rs, Row w lo 1 r.B r.gives.length (strs r.gives) ∧ r.gives.length ≤ r.c
  needs : ∀ d ∈ ds, Row w lo 1 d.N d.needs.length (strs d.needs) ∧ d.needs.length ≤ d.nc
  takes : ∀ d ∈ ds, Row w lo 1 d.T d.takes.length (strs d.takes) ∧ d.takes.length ≤ d.tc
  s : MapS rs ds
section
variable {w w' : World} {lo : Nat} {A : Option Addr} {rs : List RoomE} {D : Option Addr} {ds : List DoorE}
theorem MapW.below (h : MapW w lo A rs D ds) (hb : Below w.heap.size w w') : MapW w' lo A rs D ds :=
 ⟨h.rooms.below hb,h.doors.below hb,fun r hr => ⟨(h.gives r hr).1.below hb,(h.gives r hr).2⟩,fun d hd => ⟨(h.needs d hd).1.below hb,(h.needs d hd).2⟩,fun d hd => ⟨(h.takes d hd).1.below hb,(h.takes d hd).2⟩,h.s⟩
theorem MapW.alloc (h : MapW w lo A rs D ds) (o : Obj) : MapW (w.alloc o) lo A rs D ds:=h.below ((Below.refl _ _).alloc (Nat.le_refl _) o)
theorem MapW.drewN (h : MapW w lo A rs D ds) (n : Nat) : MapW (w.drewN n) lo A rs D ds:=h.below (below_drewN' (Below.refl _ _) n)
theorem MapW.room (h : MapW w lo A rs D ds) (h0 : 0 < rs.length) : ∃ b off,A = some ⟨b,off,none⟩ ∧ b < w.heap.size ∧ ∀ k (hk : k < rs.length),w.cell? ⟨b,off + k * 2,none⟩ = some (encStr rs[k].key) ∧ w.cell? ⟨b,off + k * 2 + 1,none⟩ = some (.slice rs[k].B rs[k].gives.length rs[k].c):=by
 obtain ⟨b,off,e,_,hb,hc⟩:=h.rooms.2 h0
 have g : ∀ k (hk : k < rs.length) j (hj : j < 2) u,(encR rs[k])[j]? = some u → w.cell? ⟨b,off + k * 2 + j,none⟩ = some u:=fun k hk j hj u hu => by
  rw [Nat.add_assoc]; exact hc (k * 2 + j) u (by rw [flat_at encR 2 encR_len rs k hk j hj,hu])
 exact ⟨b,off,e,hb,fun k hk => ⟨g k hk 0 (by omega) _ rfl,g k hk 1 (by omega) _ rfl⟩⟩
theorem MapW.door (h : MapW w lo A rs D ds) (h0 : 0 < ds.length) : ∃ b off,D = some ⟨b,off,none⟩ ∧ b < w.heap.size ∧ ∀ k (hk : k < ds.length),w.cell? ⟨b,off + k * 7,none⟩ = some (encStr ds[k].key) ∧ w.cell? ⟨b,off + k * 7 + 1,none⟩ = some (encStr ds[k].src) ∧ w.cell? ⟨b,off + k * 7 + 2,none⟩ = some (encStr ds[k].dst) ∧ w.cell? ⟨b,off + k * 7 + 3,none⟩ = some (.int .i64 ds[k].time) ∧ w.cell? ⟨b,off + k * 7 + 4,none⟩ = some (.slice ds[k].N ds[k].needs.length ds[k].nc) ∧ w.cell? ⟨b,off + k * 7 + 5,none⟩ = some (.slice ds[k].T ds[k].takes.length ds[k].tc) ∧ w.cell? ⟨b,off + k * 7 + 6,none⟩ = some (encStr ds[k].trick):=by
 obtain ⟨b,off,e,_,hb,hc⟩:=h.doors.2 h0
 have g : ∀ k (hk : k < ds.length) j (hj : j < 7) u,(encD ds[k])[j]? = some u → w.cell? ⟨b,off + k * 7 + j,none⟩ = some u:=fun k hk j hj u hu => by
  rw [Nat.add_assoc]; exact hc (k * 7 + j) u (by rw [flat_at encD 7 encD_len ds k hk j hj,hu])
 exact ⟨b,off,e,hb,fun k hk => ⟨g k hk 0 (by omega) _ rfl,g k hk 1 (by omega) _ rfl,g k hk 2 (by omega) _ rfl,g k hk 3 (by omega) _ rfl,g k hk 4 (by omega) _ rfl,g k hk 5 (by omega) _ rfl,g k hk 6 (by omega) _ rfl⟩⟩
end
theorem cmpB_less : ∀ x y : List UInt8,(Lib.compareBytes x y < 0) ↔ Op.bytesLess x y = true
 | [],[] => by simp [Lib.compareBytes,Op.bytesLess]
 | [],_ :: _ => by simp [Lib.compareBytes,Op.bytesLess]
 | _ :: _,[] => by simp [Lib.compareBytes,Op.bytesLess]
 | a :: x,b :: y => by
  have ih:=cmpB_less x y;simp only [Lib.compareBytes,Op.bytesLess]
  by_cases h1 : a < b
  ·simp [h1]
  ·by_cases h2 : b < a
   ·have h3 : (a == b) = false:=by rw [beq_eq_false_iff_ne]; rintro rfl; exact absurd h2 h1
    simp [h1,h2,h3]
   ·have e : a = b:=by
     have h4 : ¬ a.toNat < b.toNat:=fun h => h1 (UInt8.lt_iff_toNat_lt.2 h)
     have h5 : ¬ b.toNat < a.toNat:=fun h => h2 (UInt8.lt_iff_toNat_lt.2 h)
     exact UInt8.toNat_inj.1 (by omega)
    subst e
    simp [h1,ih]
theorem cmpB_lt (x y : List UInt8) : (Lib.compareBytes x y < 0) ↔ x < y:=by rw [cmpB_less,bytesLess_eq]; simp
theorem cmpB_eq : ∀ x y : List UInt8,Lib.compareBytes x y = 0 ↔ x = y
 | [],[] => by simp [Lib.compareBytes]
 | [],_ :: _ => by simp [Lib.compareBytes]
 | _ :: _,[] => by simp [Lib.compareBytes]
 | a :: x,b :: y => by
  have ih:=cmpB_eq x y;simp only [Lib.compareBytes]
  by_cases h1 : a < b
  ·have : a ≠ b:=by rintro rfl; exact absurd h1 (by simp [UInt8.lt_iff_toNat_lt])
   simp [h1,this]
  ·by_cases h2 : b < a
   ·have : a ≠ b:=by rintro rfl; exact absurd h2 (by simp [UInt8.lt_iff_toNat_lt])
    simp [h1,h2,this]
   ·have e : a = b:=by
     have h4 : ¬ a.toNat < b.toNat:=fun h => h1 (UInt8.lt_iff_toNat_lt.2 h)
     have h5 : ¬ b.toNat < a.toNat:=fun h => h2 (UInt8.lt_iff_toNat_lt.2 h)
     exact UInt8.toNat_inj.1 (by omega)
    subst e
    simp [h1,ih]
theorem ltS_trans {x y z : List UInt8} (h1 : x < y) (h2 : y < z) : x < z:=List.lt_trans h1 h2
theorem ltS_irr (x : List UInt8) : ¬ x < x:=List.lt_irrefl x
def UpS (l : List (List UInt8)) : Prop:=∀ i (h : i + 1 < l.length),l[i] < l[i + 1]
theorem UpS.lt {l : List (List UInt8)} (h : UpS l) : ∀ i j (hj : j < l.length) (hij : i < j),l[i]'(by omega) < l[j]:=by
 intro i j hj hij
 induction j with
 | zero => omega
 | succ j ih =>
  have h1:=h j hj;rcases Nat.lt_or_ge i j with h2 | h2
  ·exact ltS_trans (ih (by omega) h2) h1
  ·have : i = j:=by omega
   subst this; exact h1
def FoundS (l : List (List UInt8)) (key : List UInt8) (r : Nat) (b : Bool) : Prop:=r ≤ l.length ∧ (b = true → ∃ h : r < l.length,l[r] = key) ∧ (b = false → key ∉ l)
end Go.Proofs.YtkchacgkjdeiaaaGreatDoor
/- Rooms and doors are found by their keys: the binary search of the program. -/
namespace Go.Proofs.YtkchacgkjdeiaaaGreatDoor
open Go.RowKit

set_option maxHeartbeats 1000000 in
theorem cmpR_any (x y : List UInt8) (v : Value) (w : World) : Calls Tryz.prog 199 #[.agg #[.string ⟨x.toArray⟩,v],.string ⟨y.toArray⟩] w fun e w' => e = .returned (.int .i64 (Lib.compareBytes x y)) ∧ Below w.heap.size w w':=by
 go_enter Tryz.func199,Tryz.ntmps199
 go_wp2_with fail;refine (Tryz.strings_Compare ⟨x.toArray⟩ ⟨y.toArray⟩ _).mono ?_;rintro e w1 ⟨rfl,rfl⟩;go_wp2_with fail;go_ret;exact ⟨rfl,(Below.refl _ _).alloc (Nat.le_refl _) _⟩

set_option maxHeartbeats 1000000 in
theorem searchR_any (lo c : Nat) (A : Option Addr) (rs : List RoomE) (D : Option Addr) (ds : List DoorE) (key : List UInt8) (w : World) (hA : MapW w lo A rs D ds) (hup : UpS (rs.map RoomE.key)) :
  Calls Tryz.prog 198 #[.slice A rs.length c,encStr key,.func (.func 199) #[] #[]] w fun e w' => ∃ (r : Nat) (b : Bool),e = .returned (.tuple #[.int .i64 r,.bool b]) ∧ FoundS (rs.map RoomE.key) key r b ∧ Below w.heap.size w w':=by
 have hl : rs.length ≤ 1000:=hA.s.rl
 have HM : Hid (∀ i j (hj : j < rs.length) (hij : i < j),(rs[i]'(by omega)).key < rs[j].key):=Lib.hid (by
  intro i j hj hij;have:=hup.lt i j (by simpa using hj) hij
  simpa using this)
 have HA:=Lib.hid hA;clear hup hA
 go_enter Tryz.func198,Tryz.ntmps198
 go_wp2_with fail
 go_loopw [9,10] (fun i j wr => ∃ (a b : Nat),a ≤ b ∧ b ≤ rs.length ∧ i = .int .i64 a ∧ j = .int .i64 b ∧ Hid (∀ k (h : k < rs.length),k < a → rs[k].key < key) ∧ Hid (∀ k (h : k < rs.length),b ≤ k → ¬ rs[k].key < key) ∧ Below w.heap.size w wr) (fun i j _ => (intOf j).toNat - (intOf i).toNat)
 case atStart => exact ⟨0,rs.length,Nat.zero_le _,Nat.le_refl _,rfl,rfl,Lib.hid (fun k h h2 => absurd h2 (Nat.not_lt_zero _)),Lib.hid (fun k h h2 => by omega),Below.refl _ _⟩
 case round =>
  obtain ⟨a,b,hab,hbl,rfl,rfl,HL,HR,hbw⟩:=hrel;have hz:=hbw.size
  by_cases hlt : a < b
  ·have hma : a ≤ (a + b) / 2:=by omega
   have hmb : (a + b) / 2 < b:=by omega
   have hm0 : (a + b) / 2 < rs.length:=by omega
   have hw1 : IntKind.i64.wrap ((a : Int) + (b : Int)) = (a : Int) + (b : Int):=IntWalk.i64_in _ (by omega);obtain ⟨bb,off,rfl,hbs,hcell⟩:=(HA.out.below hbw).room (by omega)
   have HLT : Hid (rs[(a + b) / 2].key < key → ∀ k (h : k < rs.length),k < (a + b) / 2 + 1 → rs[k].key < key):=Lib.hid (fun hh k h hk => by
    rcases Nat.lt_or_ge k ((a + b) / 2) with h1 | h1
    ·exact ltS_trans (HM.out k ((a + b) / 2) hm0 h1) hh
    ·have : k = (a + b) / 2:=by omega
     subst this; exact hh)
   have HGE : Hid (¬ rs[(a + b) / 2].key < key → ∀ k (h : k < rs.length),(a + b) / 2 ≤ k → ¬ rs[k].key < key):=Lib.hid (fun hh k h hk => by
    rcases Nat.lt_or_ge ((a + b) / 2) k with h1 | h1
    ·exact fun h2 => hh (ltS_trans (HM.out ((a + b) / 2) k h h1) h2)
    ·have : k = (a + b) / 2:=by omega
     subst this; exact hh)
   obtain ⟨y0,y1⟩:=hcell ((a + b) / 2) hm0;clear hcell;generalize rs[(a + b) / 2] = r at *;simp only [encStr] at y0 y1;have hcmp:=cmpB_lt r.key key;go_wp2_with fail;refine (cmpR_any r.key key (.slice r.B r.gives.length r.c) _).mono ?_;rintro e w1 ⟨rfl,hb1⟩;clear y0 y1;generalize hx : Lib.compareBytes r.key key = x at *
   by_cases hlt2 : r.key < key
   ·have HN:=Lib.hid (HLT.out hlt2)
    have hC : decide (x < 0) = true:=decide_eq_true (hcmp.2 hlt2);clear HLT HGE hlt2 hcmp hx;go_wp2_with fail;go_roundw
    case rel => exact ⟨(a + b) / 2 + 1,b,by omega,hbl,by go_num,rfl,HN,HR,below_up hbw hb1⟩
    case measure => simp [intOf]; omega
   ·have HN:=Lib.hid (HGE.out hlt2)
    have hC : decide (x < 0) = false:=decide_eq_false (fun h => hlt2 (hcmp.1 h));clear HLT HGE hlt2 hcmp hx;go_wp2_with fail;go_roundw
    case rel => exact ⟨a,(a + b) / 2,hma,by omega,rfl,by go_num,HL,HN,below_up hbw hb1⟩
    case measure => simp [intOf]; omega
  ·have hab' : a = b:=by omega
   subst hab';clear hab
   by_cases hal : a < rs.length
   ·obtain ⟨bb,off,rfl,hbs,hcell⟩:=(HA.out.below hbw).room (by omega)
    have HY : Hid (rs[a].key = key → FoundS (rs.map RoomE.key) key a true):=Lib.hid (fun h => ⟨by simp; omega,fun _ => ⟨by simpa using hal,by simpa using h⟩,fun h => by cases h⟩)
    have HNO : Hid (¬ rs[a].key = key → FoundS (rs.map RoomE.key) key a false):=Lib.hid (fun h => ⟨by simp; omega,fun h => (by cases h),fun _ hi => by
     obtain ⟨i,hi,he⟩:=List.getElem_of_mem hi
     have hi' : i < rs.length:=by simpa using hi
     have he' : rs[i].key = key:=by simpa using he
     rcases Nat.lt_trichotomy i a with h1 | h1 | h1
     ·have:=HL.out i hi' h1; rw [he'] at this; exact ltS_irr _ this
     ·subst h1; exact h he'
     ·have h2:=HR.out a hal (Nat.le_refl _)
      have h3:=HM.out a i hi' h1;rw [he'] at h3
      exact h2 h3⟩)
    obtain ⟨y0,y1⟩:=hcell a hal;clear hcell;generalize rs[a] = r at *;simp only [encStr] at y0 y1;have hcmp:=cmpB_eq r.key key;go_wp2_with fail;refine (cmpR_any r.key key (.slice r.B r.gives.length r.c) _).mono ?_;rintro e w1 ⟨rfl,hb1⟩;clear y0 y1;generalize hx : Lib.compareBytes r.key key = x at *
    by_cases he : r.key = key
    ·have HF:=Lib.hid (HY.out he)
     have hC : (x == 0) = true:=by rw [beq_iff_eq]; exact hcmp.2 he
     clear HY HNO he hcmp hx;go_wp2_with fail;go_ret2;exact ⟨a,true,rfl,HF.out,below_up hbw hb1⟩
    ·have HF:=Lib.hid (HNO.out he)
     have hC : (x == 0) = false:=by rw [beq_eq_false_iff_ne]; exact fun h => he (hcmp.1 h)
     clear HY HNO he hcmp hx;go_wp2_with fail;go_ret2;exact ⟨a,false,rfl,HF.out,below_up hbw hb1⟩
   ·have hae : a = rs.length:=by omega
    have HF : Hid (FoundS (rs.map RoomE.key) key a false):=Lib.hid ⟨by simp; omega,fun h => (by cases h),fun _ hi => by
     obtain ⟨i,hi,he⟩:=List.getElem_of_mem hi
     have hi' : i < rs.length:=by simpa using hi
     have he' : rs[i].key = key:=by simpa using he
     have:=HL.out i hi' (by omega); rw [he'] at this; exact ltS_irr _ this⟩
    have hnl : ¬ a < rs.length:=by omega
    clear hal hae;go_wp2_with fail;go_ret2;exact ⟨a,false,rfl,HF.out,hbw⟩

end Go.Proofs.YtkchacgkjdeiaaaGreatDoor
/- Rooms and doors are found by their keys: room, RoomAt, DoorAt. -/
namespace Go.Proofs.YtkchacgkjdeiaaaGreatDoor
open Go.RowKit

def keyI (l : List (List UInt8)) (key : List UInt8) : Int:=if key ∈ l then ((l.idxOf key : Nat) : Int) else -1
theorem keyI_none {l : List (List UInt8)} {key : List UInt8} (h : key ∉ l) : keyI l key = -1:=if_neg h
theorem idxOf_first : ∀ {l : List (List UInt8)} {key : List UInt8} {k : Nat} (hk : k < l.length),l[k] = key → (∀ j (hj : j < k),l[j]'(by omega) ≠ key) → l.idxOf key = k
 | [],_,k,hk,_,_ => absurd hk (by simp)
 | x :: l,key,0,_,h,_ => by simp at h; subst h; simp
 | x :: l,key,k + 1,hk,h,hno => by
  have h0 : x ≠ key:=hno 0 (by omega);rw [List.idxOf_cons];rw [show (x == key) = false from beq_eq_false_iff_ne.2 h0];simp only [cond_false];rw [idxOf_first (by simpa using hk) (by simpa using h) (fun j hj => by have:=hno (j + 1) (by omega); simpa using this)]
theorem keyI_first {l : List (List UInt8)} {key : List UInt8} {k : Nat} (hk : k < l.length) (h : l[k] = key) (hno : ∀ j (hj : j < k),l[j]'(by omega) ≠ key) : keyI l key = k:=by
 unfold keyI;rw [if_pos (by rw [← h]; exact List.getElem_mem _),idxOf_first hk h hno]
theorem FoundS.idx {l : List (List UInt8)} {key : List UInt8} {r : Nat} {b : Bool} (hup : UpS l) (h : FoundS l key r b) : keyI l key = if b then (r : Int) else -1:=by
 cases b with
 | true =>
  obtain ⟨hr,he⟩:=h.2.1 rfl;rw [if_pos rfl]
  exact keyI_first hr he (fun j hj e => by
   have:=hup.lt j r hr hj;rw [e,he] at this
   exact ltS_irr _ this)
 | false =>
  rw [if_neg (by decide)];exact keyI_none (h.2.2 rfl)
theorem FoundS.le {l : List (List UInt8)} {key : List UInt8} {r : Nat} {b : Bool} (h : FoundS l key r b) : r ≤ l.length:=h.1
def mapV (A : Option Addr) (rs : List RoomE) (ca : Nat) (D : Option Addr) (ds : List DoorE) (cd : Nat) (st gl : List UInt8) : Value:=.agg #[.slice A rs.length ca,.slice D ds.length cd,encStr st,encStr gl]
set_option maxHeartbeats 1000000 in
theorem room_any (lo ca g : Nat) (A : Option Addr) (rs : List RoomE) (D : Option Addr) (ds : List DoorE) (key : List UInt8) (w : World) (hA : MapW w lo A rs D ds) (hup : UpS (rs.map RoomE.key)) (hg : w.cell? ⟨g,0,none⟩ = some (.slice A rs.length ca)) :
  Calls Tryz.prog 168 #[.pointer (some ⟨g,0,none⟩),encStr key] w fun e w' => e = .returned (.int .i64 (keyI (rs.map RoomE.key) key)) ∧ Below w.heap.size w w':=by
 have HA:=Lib.hid hA;have HU:=Lib.hid hup;clear hA hup
 go_enter Tryz.func168,Tryz.ntmps168
 go_wp2_with fail;refine (searchR_any lo ca A rs D ds key _ HA.out HU.out).mono ?_;rintro e w1 ⟨r,b,rfl,hf,hb⟩;have HV:=Lib.hid (hf.idx HU.out);clear hf
 cases b with
 | true =>
  go_wp2_with fail;go_ret;exact ⟨ret_int' (by rw [HV.out]; rfl),hb⟩
 | false =>
  go_wp2_with fail;go_ret;exact ⟨ret_int' (by rw [HV.out]; rfl),hb⟩

end Go.Proofs.YtkchacgkjdeiaaaGreatDoor
