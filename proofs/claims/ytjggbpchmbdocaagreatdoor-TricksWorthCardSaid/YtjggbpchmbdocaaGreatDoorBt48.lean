/- Texts of this seat, laid together: DoD. -/
import Derived.Lib.SliceRun
import Derived.Test.YtjggbpchmbdocaaGreatDoorBt41
/- The walks of slices.Clone, IndexFunc and DeleteFunc over doors, by a door's key. -/
namespace Go.Proofs.YtjggbpchmbdocaaGreatDoor
set_option linter.unusedVariables false
set_option linter.unusedSimpArgs false
open Go.RowKit

theorem ty_doorX : SliceTy Tryz.prog 27 120 7 120:=.mk' Tryz.underlying27 (z:=.agg #[.string ⟨#[]⟩,.string ⟨#[]⟩,.string ⟨#[]⟩,.int .i64 0,.slice none 0 0,.slice none 0 0,.string ⟨#[]⟩]) (by kernel_rfl) rfl (by decide)
theorem encD_oneX (x : DoorE) : (encD x).all (·.oneCell') = true:=rfl
theorem flat_lenX {α : Type} (enc : α → List Value) (n : Nat) (hn : ∀ x,(enc x).length = n) (l : List α) : (l.flatMap enc).length = l.length * n:=by
 induction l with
 | nil => simp
 | cons x l ih => rw [List.flatMap_cons,List.length_append,hn,ih,List.length_cons,Nat.add_mul]; omega
theorem flat_setX {α : Type} (enc : α → List Value) (n : Nat) (hn : ∀ x,(enc x).length = n) (u : Value) (x' : α) : ∀ (l : List α) (k : Nat) (h : k < l.length) (i : Nat),i < n → enc x' = (enc l[k]).set i u → (l.flatMap enc).set (k * n + i) u = (l.set k x').flatMap enc
 | [],k,h,_,_,_ => absurd h (by simp)
 | x :: l,0,h,i,hi,e => by
  rw [Nat.zero_mul,Nat.zero_add,List.flatMap_cons,List.set_append_left _ _ (by rw [hn]; exact hi),List.set_cons_zero,List.flatMap_cons,e];rfl
 | x :: l,k + 1,h,i,hi,e => by
  have ih:=flat_setX enc n hn u x' l k (by simpa using h) i hi e;rw [List.flatMap_cons,List.set_append_right _ _ (by rw [hn,Nat.add_mul]; omega),hn,show (k + 1) * n + i - n = k * n + i by rw [Nat.add_mul]; omega,ih,List.set_cons_succ,List.flatMap_cons]
theorem all_flatX {α : Type} (enc : α → List Value) (h : ∀ x,(enc x).all (·.oneCell') = true) (l : List α) : (l.flatMap enc).all (·.oneCell') = true:=by
 rw [List.all_flatMap]; simp only [h]; simp
set_option maxHeartbeats 1000000 in
theorem cloneD_any (A : Option Addr) (c lo : Nat) (ps : List DoorE) (w : World) (hr : Row w lo 7 A ps.length (ps.flatMap encD)) (hl : ps.length ≤ 1000000) :
  Calls Tryz.prog 110 #[.slice A ps.length c] w fun e w' => ∃ A' c',e = .returned (.slice A' ps.length c') ∧ w'.ownsRow w.heap.size 120 7 (.slice A' ps.length c') ps.length (ps.flatMap encD) ∧ Below w.heap.size w w':=by
 have hnil:=fun (r : Option Addr) (n c : Nat) (w : World) => Lib.run_eql_slice_nil (P:=Tryz.prog) w 27 120 r n c 0 0 Tryz.underlying27
 cases A with
 | none =>
  have hz : ps.length = 0:=by
   rcases Nat.eq_zero_or_pos ps.length with h | h
   ·exact h
   ·obtain ⟨b,off,h1,_⟩:=hr.2 h
    cases h1
  have HZ:=Lib.hid hz;clear hz
  go_enter Tryz.func110,Tryz.ntmps110
  go_wp2_with fail;go_ret;refine ⟨none,0,?_,?_,Below.refl _ _⟩
  ·rw [HZ.out]; rfl
  ·have : ps = []:=List.eq_nil_of_length_eq_zero HZ.out
   subst this;exact World.ownsRow_nil _ _ _ _
 | some ad =>
  have hown0 : (w.alloc (.cells #[] 120)).ownsRow w.heap.size 120 7 (.slice (some ⟨w.heap.size,0,none⟩) 0 0) 0 []:=World.ownsRow_made w #[] 0 (Nat.le_refl _) (by simp [maxLen]) rfl
  go_enter Tryz.func110,Tryz.ntmps110
  go_wp2_with (at_builtin; go_must (refine wpList_app _ _ rfl _ _ ty_doorX rfl hown0 rfl (hr.alloc _) rfl (all_flatX _ encD_oneX _) (by omega) (by omega) (by simp) ?_))
  intro A5 c5 w5 hown5 hg5 _;go_wp2_with fail;go_ret;exact ⟨A5,c5,by first | rfl | simp,hown5,below_app hown0 ((Below.refl _ _).alloc (Nat.le_refl _) _) hg5 (Nat.le_refl _) (by simp)⟩
theorem own_takeX {w : World} {base b c n m : Nat} {e : TypeId} {size : Nat} {xs : List Value} (h : w.ownsRow base e size (.slice (some ⟨b,0,none⟩) n c) n xs) (hm : m ≤ n) : w.ownsRow base e size (.slice (some ⟨b,0,none⟩) m c) m (xs.take (m * size)):=by
 have hmn : m * size ≤ n * size:=Nat.mul_le_mul_right _ hm;obtain ⟨h1,h2⟩:=h;refine ⟨by rw [List.length_take]; omega,?_⟩;rcases h2 with ⟨hv,hn⟩ | ⟨g,cap,cur,hv,hb,hgg,hc1,hc2,hc3,hc4⟩
 ·cases hv
 ·refine .inr ⟨g,cap,cur,?_,hb,hgg,by omega,hc2,hc3,?_⟩
  ·injection hv with a1 a2 a3; rw [a1,a3]
  ·rw [← hc4,List.take_take,Nat.min_eq_left hmn]
theorem own_beyondX {base b c m : Nat} {e : TypeId} {size : Nat} {xs : List Value} : ∀ (L : List Value) (o : Nat) (w : World),xs.length ≤ o → w.ownsRow base e size (.slice (some ⟨b,0,none⟩) m c) m xs → (w.setCells b o L).ownsRow base e size (.slice (some ⟨b,0,none⟩) m c) m xs
 | [],_,_,_,h => h
 | v :: r,o,w,hl,h => own_beyondX r (o + 1) _ (by omega) (by
  have:=(h.stored o v).1
  rwa [List.set_eq_of_length_le hl] at this)
theorem grown_setsX {a : World} {g : Nat} : ∀ (L : List Value) (o : Nat) (b : World),a.grownBy b (some g) → a.grownBy (b.setCells g o L) (some g)
 | [],_,_,h => h
 | v :: r,o,b,h => grown_setsX r (o + 1) _ (grown_set h o v)
theorem flat_takeX {α : Type} (enc : α → List Value) (n : Nat) (hn : ∀ x,(enc x).length = n) (us : List α) (m : Nat) : (us.flatMap enc).take (m * n) = (us.take m).flatMap enc:=by
 induction us generalizing m with
 | nil => simp
 | cons x us ih =>
  cases m with
  | zero => simp
  | succ m =>
   rw [List.take_succ_cons,List.flatMap_cons,List.flatMap_cons,Nat.add_mul,Nat.one_mul,Nat.add_comm (m * n) n,← ih m];rw [show n + m * n = (enc x).length + m * n by rw [hn],List.take_length_add_append]
theorem run_clearX (w : World) (t e : TypeId) (cs : Array Value) (ht : Tryz.prog.underlying t = some (.slice e)) (hv : ∀ w,(zeroValue e).run Tryz.prog w = .ok (.agg cs) w) (sz : Nat) (h4 : cs.size = sz) (h0 : 0 < sz) (hone : ∀ i,i < sz → (cs[i]!).oneCell' = true) (b o n c : Nat) (hn : 0 < n)
  (hc : ∀ j,j < n * sz → (w.cell? ⟨b,o + j,none⟩).isSome = true) (hf : ∀ j,j < n * sz → w.frozen? ⟨b,o + j,none⟩ = false) :
  ∃ L : List Value,∀ ty,(Builtin.clear_ #[t] ty #[.slice (some ⟨b,o,none⟩) n c]).run Tryz.prog w = .ok (.tuple #[]) (w.setCells b o L):=by
 have hlen : (Builtin.zeroCells cs n).toList.length = n * sz:=by simp [Builtin.zeroCells,h4]
 refine ⟨(Builtin.zeroCells cs n).toList,fun ty => ?_⟩
 have hst:=run_storeCells_cells (P:=Tryz.prog) b o (Builtin.zeroCells cs n).toList 0 w (by intro j hj; rw [hlen] at hj; rw [Nat.add_zero]; exact hc j hj) (by intro j hj; rw [hlen] at hj; rw [Nat.add_zero]; exact hf j hj) (by
  intro v hv';unfold Builtin.zeroCells at hv';rw [Array.mem_toList_iff,Array.mem_map] at hv';obtain ⟨i,-,rfl⟩:=hv';rw [h4]
  exact hone _ (Nat.mod_lt _ h0))
 simp only [Nat.add_zero] at hst
 obtain ⟨m,rfl⟩ : ∃ m,n = m + 1:=⟨n - 1,by omega⟩
 simp [Builtin.clear_,run_underlying ht,hv,Value.cells,hst]
def relX (k : List UInt8) (d : DoorE) : Bool:=!(d.key == k)
theorem shut_rel (ds : List DoorE) (k : List UInt8) : ds.filter (relX k) = shutL ds k:=rfl

def IdxX (vs : List DoorE) (t : List UInt8) (e : Ending) : Prop:=(∃ k : Nat,∃ h : k < vs.length,e = .returned (.int .i64 k) ∧ relX t vs[k] = false ∧ ∀ j (hj : j < vs.length),j < k → relX t vs[j] = true) ∨ (e = .returned (.int .i64 (-1)) ∧ ∀ v ∈ vs,relX t v = true)
theorem doors_row {w : World} {lo : Nat} {A : Option Addr} {ds : List DoorE} (h : Row w lo 7 A ds.length (ds.flatMap encD)) (h0 : 0 < ds.length) : ∃ b off,A = some ⟨b,off,none⟩ ∧ b < w.heap.size ∧ lo ≤ b ∧ ∀ k (hk : k < ds.length),w.cell? ⟨b,off + k * 7,none⟩ = some (encStr ds[k].key) ∧ w.cell? ⟨b,off + k * 7 + 1,none⟩ = some (encStr ds[k].src) ∧ w.cell? ⟨b,off + k * 7 + 2,none⟩ = some (encStr ds[k].dst) ∧ w.cell? ⟨b,off + k * 7 + 3,none⟩ = some (.int .i64 ds[k].time) ∧ w.cell? ⟨b,off + k * 7 + 4,none⟩ = some (.slice ds[k].N ds[k].needs.length ds[k].nc) ∧ w.cell? ⟨b,off + k * 7 + 5,none⟩ = some (.slice ds[k].T ds[k].takes.length ds[k].tc) ∧ w.cell? ⟨b,off + k * 7 + 6,none⟩ = some (encStr ds[k].trick):=by
 obtain ⟨b,off,e,hlo,hb,hc⟩:=h.2 h0
 have g : ∀ k (hk : k < ds.length) j (hj : j < 7) u,(encD ds[k])[j]? = some u → w.cell? ⟨b,off + k * 7 + j,none⟩ = some u:=fun k hk j hj u hu => by
  rw [Nat.add_assoc]; exact hc (k * 7 + j) u (by rw [flat_at encD 7 encD_len ds k hk j hj,hu])
 exact ⟨b,off,e,hb,hlo,fun k hk => ⟨g k hk 0 (by omega) _ rfl,g k hk 1 (by omega) _ rfl,g k hk 2 (by omega) _ rfl,g k hk 3 (by omega) _ rfl,g k hk 4 (by omega) _ rfl,g k hk 5 (by omega) _ rfl,g k hk 6 (by omega) _ rfl⟩⟩

theorem relC_any (v : DoorE) (g : Nat) (k : List UInt8) (w : World) (hg : Blk w g 9 #[.string ⟨k.toArray⟩]) :
  Calls Tryz.prog 111 #[.agg #[.string ⟨v.key.toArray⟩,.string ⟨v.src.toArray⟩,.string ⟨v.dst.toArray⟩,.int .i64 v.time,.slice v.N v.needs.length v.nc,.slice v.T v.takes.length v.tc,.string ⟨v.trick.toArray⟩],.pointer (some ⟨g,0,none⟩)] w fun e w' => e = .returned (.bool (!relX k v)) ∧ Below w.heap.size w w':=by
 have c0 : w.cell? ⟨g,0,none⟩ = some (.string ⟨k.toArray⟩):=by simpa using hg.cell 0
 have zg:=hg.lt
 obtain ⟨b,hb⟩ : ∃ b,b = (v.key == k):=⟨_,rfl⟩
 have hR : Hid (relX k v = !b):=Lib.hid (by unfold relX; rw [hb]);have hb' : (v.key == k) = b:=hb.symm;clear hg hb
 go_enter Tryz.func111,Tryz.ntmps111
 go_wp2_with fail;go_ret;exact ⟨by rw [hR.out]; simp,(Below.refl _ _).alloc (Nat.le_refl _) _⟩
set_option maxHeartbeats 1000000 in
theorem idxX_any (A : Option Addr) (c g lo : Nat) (vs : List DoorE) (t : List UInt8) (w : World) (hr : Row w lo 7 A vs.length (vs.flatMap encD)) (hg : Blk w g 9 #[.string ⟨t.toArray⟩]) (hl : vs.length ≤ 1000000) :
  Calls Tryz.prog 106 #[.slice A vs.length c,.func (.func 111) #[] #[.pointer (some ⟨g,0,none⟩)]] w fun e w' => IdxX vs t e ∧ Below w.heap.size w w':=by
 go_enter Tryz.func106,Tryz.ntmps106
 go_wp2_with fail
 go_loopw [8] (fun i wr => ∃ k : Nat,k ≤ vs.length ∧ i = .int .i64 k ∧ Hid (∀ j (hj : j < vs.length),j < k → relX t vs[j] = true) ∧ Below w.heap.size w wr) (fun i _ => vs.length - (intOf i).toNat)
 case atStart => exact ⟨0,Nat.zero_le _,rfl,Lib.hid (fun _ _ h => absurd h (Nat.not_lt_zero _)),Below.refl _ _⟩
 case round =>
  obtain ⟨k,hk,rfl,HA,hbw⟩:=hrel
  by_cases hlt : k < vs.length
  ·obtain ⟨b,off,rfl,hbs,-,hcl⟩:=doors_row (hr.below hbw) (by omega)
   obtain ⟨c0,c1,c2,c3,c4,c5,c6⟩:=hcl k hlt;have hgw:=hg.below hbw;have HCL:=Lib.hid (fun (W : World) (h : Blk W g 9 #[.string ⟨t.toArray⟩]) => relC_any vs[k] g t W h);clear hcl
   by_cases hrl : relX t vs[k] = true
   ·have HB : Hid (∀ j (hj : j < vs.length),j < k + 1 → relX t vs[j] = true):=Lib.hid (fun j hj hjk => by
     rcases Nat.lt_or_ge j k with h | h
     ·exact HA.out j hj h
     ·have : j = k:=by omega
      subst this; exact hrl)
    have HRL:=Lib.hid hrl;clear hrl;generalize vs[k] = v at *;simp only [encStr] at c0 c1 c2 c6;go_wp2_with fail;refine (HCL.out _ hgw).mono ?_;rintro e w2 ⟨rfl,hb2⟩;rw [HRL.out];have hb9:=below_up hbw hb2;clear hb2 hgw c0 c1 c2 c3 c4 c5 c6;go_wp2_with fail;go_roundw
    case rel => exact ⟨k + 1,by omega,by go_num,HB,hb9⟩
    case measure => simp [intOf]; omega
   ·have hrf : relX t vs[k] = false:=by simpa using hrl
    have HE : Hid (IdxX vs t (.returned (.int .i64 k))):=Lib.hid (.inl ⟨k,hlt,rfl,hrf,HA.out⟩);have HRL:=Lib.hid hrf;clear hrl hrf;generalize vs[k] = v at *;simp only [encStr] at c0 c1 c2 c6;go_wp2_with fail;refine (HCL.out _ hgw).mono ?_;rintro e w2 ⟨rfl,hb2⟩;rw [HRL.out];have hb9:=below_up hbw hb2;clear hb2 hgw c0 c1 c2 c3 c4 c5 c6;go_wp2_with fail;go_ret;exact ⟨HE.out,hb9⟩
  ·have HE : Hid (IdxX vs t (.returned (.int .i64 (-1)))):=Lib.hid (.inr ⟨rfl,fun v hv => by
    obtain ⟨j,hj,rfl⟩:=List.mem_iff_getElem.1 hv
    exact HA.out j hj (by omega)⟩)
   go_wp2_with fail;go_ret;exact ⟨HE.out,hbw⟩

theorem relC_anyR (v : DoorE) (g : Nat) (k : List UInt8) (w : World) (hg : Blk w g 9 #[.string ⟨k.toArray⟩]) :
  Calls Tryz.prog 103 #[.agg #[.string ⟨v.key.toArray⟩,.string ⟨v.src.toArray⟩,.string ⟨v.dst.toArray⟩,.int .i64 v.time,.slice v.N v.needs.length v.nc,.slice v.T v.takes.length v.tc,.string ⟨v.trick.toArray⟩],.pointer (some ⟨g,0,none⟩)] w fun e w' => e = .returned (.bool (!relX k v)) ∧ Below w.heap.size w w':=by
 have c0 : w.cell? ⟨g,0,none⟩ = some (.string ⟨k.toArray⟩):=by simpa using hg.cell 0
 have zg:=hg.lt
 obtain ⟨b,hb⟩ : ∃ b,b = (v.key == k):=⟨_,rfl⟩
 have hR : Hid (relX k v = !b):=Lib.hid (by unfold relX; rw [hb]);have hb' : (v.key == k) = b:=hb.symm;clear hg hb
 go_enter Tryz.func103,Tryz.ntmps103
 go_wp2_with fail;go_ret;exact ⟨by rw [hR.out]; simp,(Below.refl _ _).alloc (Nat.le_refl _) _⟩
set_option maxHeartbeats 1000000 in
theorem idxX_anyR (A : Option Addr) (c g lo : Nat) (vs : List DoorE) (t : List UInt8) (w : World) (hr : Row w lo 7 A vs.length (vs.flatMap encD)) (hg : Blk w g 9 #[.string ⟨t.toArray⟩]) (hl : vs.length ≤ 1000000) :
  Calls Tryz.prog 106 #[.slice A vs.length c,.func (.func 103) #[] #[.pointer (some ⟨g,0,none⟩)]] w fun e w' => IdxX vs t e ∧ Below w.heap.size w w':=by
 go_enter Tryz.func106,Tryz.ntmps106
 go_wp2_with fail
 go_loopw [8] (fun i wr => ∃ k : Nat,k ≤ vs.length ∧ i = .int .i64 k ∧ Hid (∀ j (hj : j < vs.length),j < k → relX t vs[j] = true) ∧ Below w.heap.size w wr) (fun i _ => vs.length - (intOf i).toNat)
 case atStart => exact ⟨0,Nat.zero_le _,rfl,Lib.hid (fun _ _ h => absurd h (Nat.not_lt_zero _)),Below.refl _ _⟩
 case round =>
  obtain ⟨k,hk,rfl,HA,hbw⟩:=hrel
  by_cases hlt : k < vs.length
  ·obtain ⟨b,off,rfl,hbs,-,hcl⟩:=doors_row (hr.below hbw) (by omega)
   obtain ⟨c0,c1,c2,c3,c4,c5,c6⟩:=hcl k hlt;have hgw:=hg.below hbw;have HCL:=Lib.hid (fun (W : World) (h : Blk W g 9 #[.string ⟨t.toArray⟩]) => relC_anyR vs[k] g t W h);clear hcl
   by_cases hrl : relX t vs[k] = true
   ·have HB : Hid (∀ j (hj : j < vs.length),j < k + 1 → relX t vs[j] = true):=Lib.hid (fun j hj hjk => by
     rcases Nat.lt_or_ge j k with h | h
     ·exact HA.out j hj h
     ·have : j = k:=by omega
      subst this; exact hrl)
    have HRL:=Lib.hid hrl;clear hrl;generalize vs[k] = v at *;simp only [encStr] at c0 c1 c2 c6;go_wp2_with fail;refine (HCL.out _ hgw).mono ?_;rintro e w2 ⟨rfl,hb2⟩;rw [HRL.out];have hb9:=below_up hbw hb2;clear hb2 hgw c0 c1 c2 c3 c4 c5 c6;go_wp2_with fail;go_roundw
    case rel => exact ⟨k + 1,by omega,by go_num,HB,hb9⟩
    case measure => simp [intOf]; omega
   ·have hrf : relX t vs[k] = false:=by simpa using hrl
    have HE : Hid (IdxX vs t (.returned (.int .i64 k))):=Lib.hid (.inl ⟨k,hlt,rfl,hrf,HA.out⟩);have HRL:=Lib.hid hrf;clear hrl hrf;generalize vs[k] = v at *;simp only [encStr] at c0 c1 c2 c6;go_wp2_with fail;refine (HCL.out _ hgw).mono ?_;rintro e w2 ⟨rfl,hb2⟩;rw [HRL.out];have hb9:=below_up hbw hb2;clear hb2 hgw c0 c1 c2 c3 c4 c5 c6;go_wp2_with fail;go_ret;exact ⟨HE.out,hb9⟩
  ·have HE : Hid (IdxX vs t (.returned (.int .i64 (-1)))):=Lib.hid (.inr ⟨rfl,fun v hv => by
    obtain ⟨j,hj,rfl⟩:=List.mem_iff_getElem.1 hv
    exact HA.out j hj (by omega)⟩)
   go_wp2_with fail;go_ret;exact ⟨HE.out,hbw⟩

theorem contX_any (A : Option Addr) (c g lo : Nat) (vs : List DoorE) (t : List UInt8) (w : World) (hr : Row w lo 7 A vs.length (vs.flatMap encD)) (hg : Blk w g 9 #[.string ⟨t.toArray⟩]) (hl : vs.length ≤ 1000000) :
  Calls Tryz.prog 102 #[.slice A vs.length c,.func (.func 103) #[] #[.pointer (some ⟨g,0,none⟩)]] w fun e w' => e = .returned (.bool (decide (t ∈ vs.map DoorE.key))) ∧ Below w.heap.size w w':=by
 have HI:=Lib.hid (idxX_anyR A c g lo vs t w hr hg hl);clear hr hg
 go_enter Tryz.func102,Tryz.ntmps102
 go_wp2_with fail;refine HI.out.mono ?_;rintro e w1 ⟨hE,hb⟩;rcases hE with ⟨k,hk,rfl,h1,_⟩ | ⟨rfl,h1⟩
 ·have HE : Hid (decide (t ∈ vs.map DoorE.key) = true):=Lib.hid (decide_eq_true (List.mem_map.2 ⟨vs[k],List.getElem_mem hk,by unfold relX at h1; simpa using h1⟩))
  have hd : decide ((0 : Int) ≤ (k : Int)) = true:=decide_eq_true (by omega);clear h1;go_wp2_with fail;go_ret;exact ⟨by rw [HE.out]; rfl,hb⟩
 ·have HE : Hid (decide (t ∈ vs.map DoorE.key) = false):=Lib.hid (decide_eq_false (fun h => by
   obtain ⟨v,hv,e⟩:=List.mem_map.1 h;have:=h1 v hv;unfold relX at this;rw [e] at this
   simp at this))
  clear h1;go_wp2_with fail;go_ret;exact ⟨by rw [HE.out]; rfl,hb⟩

theorem flat_put7 (us : List DoorE) (m : Nat) (hm : m < us.length) (v : DoorE) : (((((((us.flatMap encD).set (m * 7) (.string ⟨v.key.toArray⟩)).set (m * 7 + 1) (.string ⟨v.src.toArray⟩)).set (m * 7 + 2) (.string ⟨v.dst.toArray⟩)).set (m * 7 + 3) (.int .i64 v.time)).set (m * 7 + 4) (.slice v.N v.needs.length v.nc)).set (m * 7 + 5) (.slice v.T v.takes.length v.tc)).set (m * 7 + 6) (.string ⟨v.trick.toArray⟩) = (us.set m v).flatMap encD:=by
 have e0:=flat_setX encD 7 encD_len (.string ⟨v.key.toArray⟩) (⟨v.key,us[m].src,us[m].dst,us[m].time,us[m].needs,us[m].takes,us[m].trick,us[m].N,us[m].nc,us[m].T,us[m].tc⟩ : DoorE) us m (by simpa using hm) 0 (by decide) (rfl);have e1:=flat_setX encD 7 encD_len (.string ⟨v.src.toArray⟩) (⟨v.key,v.src,us[m].dst,us[m].time,us[m].needs,us[m].takes,us[m].trick,us[m].N,us[m].nc,us[m].T,us[m].tc⟩ : DoorE) (us.set m (⟨v.key,us[m].src,us[m].dst,us[m].time,us[m].needs,us[m].takes,us[m].trick,us[m].N,us[m].nc,us[m].T,us[m].tc⟩ : DoorE)) m (by simpa using hm) 1 (by decide) (by rw [List.getElem_set_self]; rfl);have e2:=flat_setX encD 7 encD_len (.string ⟨v.dst.toArray⟩) (⟨v.key,v.src,v.dst,us[m].time,us[m].needs,us[m].takes,us[m].trick,us[m].N,us[m].nc,us[m].T,us[m].tc⟩ : DoorE) (us.set m (⟨v.key,v.src,us[m].dst,us[m].time,us[m].needs,us[m].takes,us[m].trick,us[m].N,us[m].nc,us[m].T,us[m].tc⟩ : DoorE)) m (by simpa using hm) 2 (by decide) (by rw [List.getElem_set_self]; rfl);have e3:=flat_setX encD 7 encD_len (.int .i64 v.time) (⟨v.key,v.src,v.dst,v.time,us[m].needs,us[m].takes,us[m].trick,us[m].N,us[m].nc,us[m].T,us[m].tc⟩ : DoorE) (us.set m (⟨v.key,v.src,v.dst,us[m].time,us[m].needs,us[m].takes,us[m].trick,us[m].N,us[m].nc,us[m].T,us[m].tc⟩ : DoorE)) m (by simpa using hm) 3 (by decide) (by rw [List.getElem_set_self]; rfl);have e4:=flat_setX encD 7 encD_len (.slice v.N v.needs.length v.nc) (⟨v.key,v.src,v.dst,v.time,v.needs,us[m].takes,us[m].trick,v.N,v.nc,us[m].T,us[m].tc⟩ : DoorE) (us.set m (⟨v.key,v.src,v.dst,v.time,us[m].needs,us[m].takes,us[m].trick,us[m].N,us[m].nc,us[m].T,us[m].tc⟩ : DoorE)) m (by simpa using hm) 4 (by decide) (by rw [List.getElem_set_self]; rfl);have e5:=flat_setX encD 7 encD_len (.slice v.T v.takes.length v.tc) (⟨v.key,v.src,v.dst,v.time,v.needs,v.takes,us[m].trick,v.N,v.nc,v.T,v.tc⟩ : DoorE) (us.set m (⟨v.key,v.src,v.dst,v.time,v.needs,us[m].takes,us[m].trick,v.N,v.nc,us[m].T,us[m].tc⟩ : DoorE)) m (by simpa using hm) 5 (by decide) (by rw [List.getElem_set_self]; rfl);have e6:=flat_setX encD 7 encD_len (.string ⟨v.trick.toArray⟩) (⟨v.key,v.src,v.dst,v.time,v.needs,v.takes,v.trick,v.N,v.nc,v.T,v.tc⟩ : DoorE) (us.set m (⟨v.key,v.src,v.dst,v.time,v.needs,v.takes,us[m].trick,v.N,v.nc,v.T,v.tc⟩ : DoorE)) m (by simpa using hm) 6 (by decide) (by rw [List.getElem_set_self]; rfl);rw [Nat.add_zero] at e0;rw [List.set_set] at e1 e2 e3 e4 e5 e6;rw [e0,e1,e2,e3,e4,e5,e6]
structure DelX (w W : World) (base b c g n : Nat) (t : List UInt8) (us : List DoorE) : Prop where
  own : W.ownsRow base 120 7 (.slice (some ⟨b, 0, none⟩) n c) n (us.flatMap encD)
  gr : w.grownBy W (some b)
  cl : Blk W g 9 #[.string ⟨t.toArray⟩]
  ne : g ≠ b
  len : us.length = n
section
variable {w W W' : World} {base b c g n : Nat} {t : List UInt8} {us : List DoorE}
theorem DelX.keep (h : DelX w W base b c g n t us) (hb : Below W.heap.size W W') : DelX w W' base b c g n t us:=⟨own_keep h.own hb,grown_trans' h.gr (grown_of_below hb _),h.cl.below hb,h.ne,h.len⟩
theorem DelX.put (h : DelX w W base b c g n t us) {m : Nat} (hm : m < n) (v : DoorE) : DelX w (((((((W.setCell ⟨b,m * 7,none⟩ (.string ⟨v.key.toArray⟩)).setCell ⟨b,m * 7 + 1,none⟩ (.string ⟨v.src.toArray⟩)).setCell ⟨b,m * 7 + 2,none⟩ (.string ⟨v.dst.toArray⟩)).setCell ⟨b,m * 7 + 3,none⟩ (.int .i64 v.time)).setCell ⟨b,m * 7 + 4,none⟩ (.slice v.N v.needs.length v.nc)).setCell ⟨b,m * 7 + 5,none⟩ (.slice v.T v.takes.length v.tc)).setCell ⟨b,m * 7 + 6,none⟩ (.string ⟨v.trick.toArray⟩)) base b c g n t (us.set m v):=by
 have h1:=((((((((((((((h.own).stored (m * 7) (.string ⟨v.key.toArray⟩)).1).stored (m * 7 + 1) (.string ⟨v.src.toArray⟩)).1).stored (m * 7 + 2) (.string ⟨v.dst.toArray⟩)).1).stored (m * 7 + 3) (.int .i64 v.time)).1).stored (m * 7 + 4) (.slice v.N v.needs.length v.nc)).1).stored (m * 7 + 5) (.slice v.T v.takes.length v.tc)).1).stored (m * 7 + 6) (.string ⟨v.trick.toArray⟩)).1;rw [flat_put7 us m (by rw [h.len]; exact hm) v] at h1;exact ⟨h1,grown_set (grown_set (grown_set (grown_set (grown_set (grown_set (grown_set (h.gr) _ _) _ _) _ _) _ _) _ _) _ _) _ _,(((((((h.cl).past b _ _ h.ne).past b _ _ h.ne).past b _ _ h.ne).past b _ _ h.ne).past b _ _ h.ne).past b _ _ h.ne).past b _ _ h.ne,h.ne,by rw [List.length_set]; exact h.len⟩
theorem DelX.at (h : DelX w W base b c g n t us) {k : Nat} (hk : k < us.length) : b < W.heap.size ∧ (W.cell? ⟨b,k * 7,none⟩ = some (encStr us[k].key) ∧ W.cell? ⟨b,k * 7 + 1,none⟩ = some (encStr us[k].src) ∧ W.cell? ⟨b,k * 7 + 2,none⟩ = some (encStr us[k].dst) ∧ W.cell? ⟨b,k * 7 + 3,none⟩ = some (.int .i64 us[k].time) ∧ W.cell? ⟨b,k * 7 + 4,none⟩ = some (.slice us[k].N us[k].needs.length us[k].nc) ∧ W.cell? ⟨b,k * 7 + 5,none⟩ = some (.slice us[k].T us[k].takes.length us[k].tc) ∧ W.cell? ⟨b,k * 7 + 6,none⟩ = some (encStr us[k].trick)) ∧ W.frozen? ⟨b,k * 7,none⟩ = false ∧ W.frozen? ⟨b,k * 7 + 1,none⟩ = false ∧ W.frozen? ⟨b,k * 7 + 2,none⟩ = false ∧ W.frozen? ⟨b,k * 7 + 3,none⟩ = false ∧ W.frozen? ⟨b,k * 7 + 4,none⟩ = false ∧ W.frozen? ⟨b,k * 7 + 5,none⟩ = false ∧ W.frozen? ⟨b,k * 7 + 6,none⟩ = false:=by
 have h2:=h.len;subst h2;obtain ⟨b',off,e,h1,-,h2⟩:=doors_row (Row.of_own h.own) (by omega);injection e with e; injection e with e1 e2;subst e1 e2;obtain ⟨b'',e,-,-,-,h4⟩:=ownBlk h.own (by omega);injection e with e; injection e with e1 e2;subst e1;have h3:=h2 k hk;rw [Nat.zero_add] at h3;exact ⟨h1,h3,h4 _,h4 _,h4 _,h4 _,h4 _,h4 _,h4 _⟩
theorem own_capX (h : W.ownsRow base 120 7 (.slice (some ⟨b,0,none⟩) n c) n (us.flatMap encD)) : n ≤ c:=by
 rcases h.2 with ⟨hv,_⟩ | ⟨g,cap,cur,hv,_,_,hc,_,_,_⟩
 ·cases hv
 ·injection hv with _ _ e; omega
end
def DelXP (w : World) (base : Nat) (A : Option Addr) (c : Nat) (vs : List DoorE) (t : List UInt8) (e : Ending) (w' : World) : Prop:=e = .returned (.slice A (vs.filter (relX t)).length c) ∧ w'.ownsRow base 120 7 (.slice A (vs.filter (relX t)).length c) (vs.filter (relX t)).length ((vs.filter (relX t)).flatMap encD) ∧ w.grownBy w' (Value.slice A vs.length c).ownBlock
structure StrX (vs us : List DoorE) (t : List UInt8) (m k : Nat) : Prop where
  lt : m < k
  le : k ≤ vs.length
  len : us.length = vs.length
  low : us.take m = (vs.take k).filter (relX t)
  high : us.drop k = vs.drop k
theorem StrX.at {vs us : List DoorE} {t : List UInt8} {m k : Nat} (h : StrX vs us t m k) (hk : k < vs.length) : us[k]'(by rw [h.len]; exact hk) = vs[k]:=by
 have h1:=congrArg (·[0]?) h.high;simp only [List.getElem?_drop,Nat.add_zero] at h1;rw [List.getElem?_eq_getElem (by rw [h.len]; exact hk),List.getElem?_eq_getElem hk] at h1;injection h1
theorem StrX.skip {vs us : List DoorE} {t : List UInt8} {m k : Nat} (h : StrX vs us t m k) (hk : k < vs.length) (hr : relX t vs[k] = false) : StrX vs us t m (k + 1):=by
 refine ⟨by have:=h.lt; omega,hk,h.len,?_,?_⟩
 ·rw [h.low,List.take_add_one,List.getElem?_eq_getElem hk,List.filter_append]
  simp [hr]
 ·rw [← List.drop_drop,← List.drop_drop,h.high]
theorem StrX.keep {vs us : List DoorE} {t : List UInt8} {m k : Nat} (h : StrX vs us t m k) (hk : k < vs.length) (hr : relX t vs[k] = true) : StrX vs (us.set m vs[k]) t (m + 1) (k + 1):=by
 have hlt:=h.lt;refine ⟨by omega,hk,by rw [List.length_set,h.len],?_,?_⟩
 ·have hm : m < (us.set m vs[k]).length:=by rw [List.length_set,h.len]; omega
  rw [List.take_add_one,List.getElem?_eq_getElem hm,List.getElem_set_self,List.take_set_of_le (Nat.le_refl _),h.low,List.take_add_one,List.getElem?_eq_getElem hk,List.filter_append]
  simp [hr]
 ·rw [List.drop_set_of_lt (by omega),← List.drop_drop,← List.drop_drop,h.high]

set_option maxHeartbeats 4000000 in
theorem deleteX_any (A : Option Addr) (c g base : Nat) (vs : List DoorE) (t : List UInt8) (w : World) (ho : w.ownsRow base 120 7 (.slice A vs.length c) vs.length (vs.flatMap encD)) (hg : Blk w g 9 #[.string ⟨t.toArray⟩]) (hgb : g < base) (hl : vs.length ≤ 1000000) :
  Calls Tryz.prog 109 #[.slice A vs.length c,.func (.func 111) #[] #[.pointer (some ⟨g,0,none⟩)]] w (DelXP w base A c vs t):=by
 have hrow:=Row.of_own ho;have HO:=Lib.hid ho;clear ho
 go_enter Tryz.func109,Tryz.ntmps109
 go_wp2_with fail;refine (idxX_any A c g _ vs t w hrow hg hl).mono ?_;rintro e w1 ⟨hE,hb1⟩;rcases hE with ⟨k0,hk0,rfl,hdel,hkeep⟩ | ⟨rfl,hall⟩
 ·obtain ⟨b,hA,hbb,hbz,-,-⟩:=ownBlk HO.out (by omega)
  subst hA;have hcap:=own_capX HO.out
  obtain ⟨n,hn⟩ : ∃ n,vs.length = n:=⟨_,rfl⟩
  have HN:=Lib.hid hn
  have HC : Hid (DelX w w1 base b c g n t vs):=Lib.hid (by
   have ho:=HO.out;rw [hn] at ho
   exact ⟨own_keep ho hb1,grown_of_below hb1 _,hg.below hb1,by omega,hn⟩)
  have HI : Hid (StrX vs vs t k0 (k0 + 1)):=Lib.hid ⟨by omega,by omega,rfl,by
   have hkk : ∀ v ∈ vs.take k0,relX t v = true:=fun v hv => by
    obtain ⟨j,hj,rfl⟩:=List.mem_iff_getElem.1 hv;rw [List.length_take] at hj;rw [List.getElem_take];exact hkeep j (by omega) (by omega)
   rw [List.take_add_one,List.getElem?_eq_getElem hk0,List.filter_append,List.filter_eq_self.2 hkk]
   simp [hdel],rfl⟩
  have hl2 : n ≤ 1000000:=by omega
  have hk02 : k0 < n:=by omega
  rw [hn] at hcap;have hne1 : ((k0 : Int) == -1) = false:=beq_eq_false_iff_ne.2 (by omega);have HGD:=Lib.hid hgb;rw [hn];clear hdel hkeep hg hrow hb1 hn hl hgb hbb hbz hk0;go_wp2_with fail
  go_loopw [5,6,7] (fun i j _ wr => ∃ (m k : Nat) (us : List DoorE),i = .int .i64 m ∧ j = .int .i64 k ∧ m < k ∧ k ≤ n ∧ Hid (StrX vs us t m k) ∧ Hid (DelX w wr base b c g n t us)) (fun _ j _ _ => n - (intOf j).toNat)
  case atStart => exact ⟨k0,k0 + 1,vs,rfl,by go_num,by omega,by omega,HI,HC⟩
  case round =>
   clear HC HI;obtain ⟨m,k,us,rfl,rfl,hmk,hkn,HI,HC⟩:=hrel;have hlu:=HC.out.len
   by_cases hkl : k < n
   ·have HIA : Hid (∃ v : DoorE,vs[k]? = some v ∧ us[k]? = some v):=Lib.hid (by
     have h1:=HI.out.at (by rw [HN.out]; exact hkl);refine ⟨vs[k]'(by rw [HN.out]; exact hkl),List.getElem?_eq_getElem _,?_⟩
     rw [List.getElem?_eq_getElem (by omega),h1])
    obtain ⟨v,hv1,hv2⟩:=HIA.out;obtain ⟨hkv,hv3⟩:=List.getElem?_eq_some_iff.1 hv1;obtain ⟨hku,hv4⟩:=List.getElem?_eq_some_iff.1 hv2;obtain ⟨hbz,⟨c0,c1,c2,c3,c4,c5,c6⟩,-⟩:=HC.out.at hku;rw [hv4] at c0 c1 c2 c3 c4 c5 c6;simp only [encStr] at c0 c1 c2 c6;have hcl:=(HC.out.cl).alloc (.cells #[.string ⟨v.key.toArray⟩,.string ⟨v.src.toArray⟩,.string ⟨v.dst.toArray⟩,.int .i64 v.time,.slice v.N v.needs.length v.nc,.slice v.T v.takes.length v.tc,.string ⟨v.trick.toArray⟩] 120);have HD:=Lib.hid (HC.out.keep ((Below.refl _ _).alloc (Nat.le_refl _) (.cells #[.string ⟨v.key.toArray⟩,.string ⟨v.src.toArray⟩,.string ⟨v.dst.toArray⟩,.int .i64 v.time,.slice v.N v.needs.length v.nc,.slice v.T v.takes.length v.tc,.string ⟨v.trick.toArray⟩] 120)));have HV:=Lib.hid hv3;have HKV:=Lib.hid hkv;clear HIA hv1 hv2 hv3 hv4 HC hku;have hbx : Blk (wr.alloc (.cells #[.string ⟨v.key.toArray⟩,.string ⟨v.src.toArray⟩,.string ⟨v.dst.toArray⟩,.int .i64 v.time,.slice v.N v.needs.length v.nc,.slice v.T v.takes.length v.tc,.string ⟨v.trick.toArray⟩] 120)) wr.heap.size 120 #[.string ⟨v.key.toArray⟩,.string ⟨v.src.toArray⟩,.string ⟨v.dst.toArray⟩,.int .i64 v.time,.slice v.N v.needs.length v.nc,.slice v.T v.takes.length v.tc,.string ⟨v.trick.toArray⟩]:=Blk.new _ _ _;go_wp2_with fail;refine (relC_any v g t _ hcl).mono ?_;rintro e w2 ⟨rfl,hb2⟩;have hC2:=HD.out.keep hb2;have hbx2:=hbx.below hb2;clear HD hb2 hcl hbx
    cases hrl : relX t v
    ·have HI2:=Lib.hid (HI.out.skip HKV.out (by rw [HV.out]; exact hrl))
     have HC2:=Lib.hid hC2;clear hrl hC2 HI hbx2 c0 c1 c2 c3 c4 c5 c6 hbz;go_wp2_with fail;go_roundw
     case rel => exact ⟨m,k + 1,us,rfl,by go_num,by omega,by omega,HI2,HC2⟩
     case measure => simp [intOf]; omega
    ·have HI2:=Lib.hid (HI.out.keep HKV.out (by rw [HV.out]; exact hrl))
     have hmu : m < us.length:=by omega
     obtain ⟨hbz2,⟨d0,d1,d2,d3,d4,d5,d6⟩,f0,f1,f2,f3,f4,f5,f6⟩:=hC2.at hmu
     obtain ⟨x0,x1,x2,x3,x4,x5,x6⟩ : _ ∧ _ ∧ _ ∧ _ ∧ _ ∧ _ ∧ _:=⟨hbx2.cell 0,hbx2.cell 1,hbx2.cell 2,hbx2.cell 3,hbx2.cell 4,hbx2.cell 5,hbx2.cell 6⟩
     simp only [Q0,Q2,Q1] at x0 x1 x2 x3 x4 x5 x6;have xl:=hbx2.lt;have HC2:=Lib.hid (hC2.put (show m < n by omega) v);rw [HV.out] at HI2;clear hrl hC2 HI hbx2 c0 c1 c2 c3 c4 c5 c6 hbz;generalize us[m] = um at *;go_wp2_with fail;go_roundw
     case rel => exact ⟨m + 1,k + 1,us.set m v,by go_num,by go_num,by omega,by omega,HI2,HC2⟩
     case measure => simp [intOf]; omega
   ·have hkk : k = n:=by omega
    subst hkk
    obtain ⟨L,hclr⟩:=run_clearX wr 27 120 #[.string ⟨#[]⟩,.string ⟨#[]⟩,.string ⟨#[]⟩,.int .i64 0,.slice none 0 0,.slice none 0 0,.string ⟨#[]⟩] Tryz.underlying27 (fun w => Tryz.zeroValue120 w) 7 rfl (by decide) (fun i hi => by match i,hi with
     | 0,_ => rfl
     | 1,_ => rfl
     | 2,_ => rfl
     | 3,_ => rfl
     | 4,_ => rfl
     | 5,_ => rfl
     | 6,_ => rfl) b (m * 7) (k - m) (c - m) (by omega) (fun j hj => by
      obtain ⟨b',e,-,-,h3,-⟩:=ownBlk HC.out.own (by omega);injection e with e; injection e with e1 e2;subst e1;have hlen : (us.flatMap encD).length = us.length * 7:=flat_lenX encD 7 encD_len us
      have hjj : m * 7 + j < (us.flatMap encD).length:=by rw [hlen]; omega
      rw [h3 _ _ (List.getElem?_eq_getElem hjj)]; rfl) (fun j hj => by
      obtain ⟨b',e,-,-,-,h4⟩:=ownBlk HC.out.own (by omega);injection e with e; injection e with e1 e2;subst e1
      exact h4 _)
    have hus : us.take m = vs.filter (relX t):=by
     rw [HI.out.low,List.take_of_length_le (by rw [HN.out]; exact Nat.le_refl _)]
    have hml : (vs.filter (relX t)).length = m:=by
     rw [← hus,List.length_take]; omega
    have HF : Hid ((wr.setCells b (m * 7) L).ownsRow base 120 7 (.slice (some ⟨b,0,none⟩) (vs.filter (relX t)).length c) (vs.filter (relX t)).length ((vs.filter (relX t)).flatMap encD)):=Lib.hid (by
     have h1:=own_takeX HC.out.own (show m ≤ k by omega);rw [flat_takeX encD 7 encD_len,hus] at h1;rw [hml]
     exact own_beyondX L (m * 7) wr (by rw [flat_lenX encD 7 encD_len,hml]; exact Nat.le_refl _) h1)
    have HG:=Lib.hid (grown_setsX L (m * 7) wr HC.out.gr);have HML:=Lib.hid hml;clear hus hml HC HI;go_wp2_with fail;go_ret;exact ⟨by rw [HML.out] <;> rfl,HF.out,HG.out⟩
 ·have hfil : vs.filter (relX t) = vs:=List.filter_eq_self.2 hall
  have HF : Hid (w1.ownsRow base 120 7 (.slice A (vs.filter (relX t)).length c) (vs.filter (relX t)).length ((vs.filter (relX t)).flatMap encD)):=Lib.hid (by rw [hfil]; exact own_keep HO.out hb1);have HG:=Lib.hid (grown_of_below hb1 (Value.slice A vs.length c).ownBlock);have HL : Hid ((vs.filter (relX t)).length = vs.length):=Lib.hid (by rw [hfil]);clear hfil hb1 hg hrow;go_wp2_with fail;go_ret;exact ⟨by rw [HL.out] <;> rfl,HF.out,HG.out⟩
end Go.Proofs.YtjggbpchmbdocaaGreatDoor
