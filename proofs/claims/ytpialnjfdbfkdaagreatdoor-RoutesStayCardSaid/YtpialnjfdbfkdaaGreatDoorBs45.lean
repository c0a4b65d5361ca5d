/- Texts of this seat, laid together: RsB ThF Kind Wr0 RsC. -/
import Derived.Test.YtpialnjfdbfkdaaGreatDoorBs28
import Derived.Test.YtpialnjfdbfkdaaGreatDoorBs41
import Derived.Test.YtpialnjfdbfkdaaGreatDoorBs44
import Derived.Test.YtpialnjfdbfkdaaGreatDoorBs42
import Derived.Test.YtpialnjfdbfkdaaGreatDoorBs43
import Derived.Test.YtpialnjfdbfkdaaGreatDoorBs04
import Derived.Test.YtpialnjfdbfkdaaGreatDoorBs25
import Derived.Test.YtpialnjfdbfkdaaGreatDoorBs09
import Derived.Test.YtpialnjfdbfkdaaGreatDoorBs07
import Derived.Test.YtpialnjfdbfkdaaGreatDoorBs06
import Derived.Test.YtpialnjfdbfkdaaGreatDoorBs40
/- Two maps that are alike: the same faults; what is drawn of things is short. -/
set_option linter.unusedVariables false
set_option linter.unusedSimpArgs false
namespace Go.Proofs.YtpialnjfdbfkdaaGreatDoor
open Go.RowKit

theorem er_same {rs rs' : List RoomE} (h : rs.map rmS = rs'.map rmS) : rs.map RoomE.er = rs'.map RoomE.er:=by
 have e : ∀ l : List RoomE,l.map RoomE.er = (l.map rmS).map fun q => RoomE.er ⟨q.1,q.2,none,0⟩:=fun l => by rw [List.map_map]; rfl
 rw [e,e rs',h]
theorem erD_same {ds ds' : List DoorE} (h : ds.map drS = ds'.map drS) : ds.map DoorE.er = ds'.map DoorE.er:=by
 have e : ∀ l : List DoorE,l.map DoorE.er = (l.map drS).map fun q => DoorE.er { key:=q.1,src:=q.2.1,dst:=q.2.2.1,time:=q.2.2.2.1,needs:=q.2.2.2.2.1,N:=none,nc:=0,takes:=q.2.2.2.2.2.1,T:=none,tc:=0,trick:=q.2.2.2.2.2.2 }:=fun l => by rw [List.map_map]; rfl
 rw [e,e ds',h]
theorem tricksE_same {rs rs' : List RoomE} {ds ds' : List DoorE} (st gl : List UInt8) (tr : List (List UInt8)) (h : rs.map rmS = rs'.map rmS) (h2 : ds.map drS = ds'.map drS) : tricksE rs ds st gl tr = tricksE rs' ds' st gl tr:=by
 have e : mapE rs ds st gl = mapE rs' ds' st gl:=by rw [← mapE_er rs ds,er_same h,erD_same h2,mapE_er]
 have e2 : trickAt ds tr = trickAt ds' tr:=by
  funext i
  unfold trickAt
  rw [allK_same h2]
 unfold tricksE
 rw [e,e2]
theorem flR_mem {L : List Int} {m : Int} {b : Bool} : ∀ {K : List (List UInt8)} {N : Nat} {x : List UInt8},x ∈ flR L m b K N → x ∈ K
 | [],_,_,h => by simp [flR] at h
 | k :: K,N,x,h => by
  rw [flR] at h
  rcases List.mem_append.1 h with h | h
  ·by_cases c : decide (nx L N m = 0) = b
   ·rw [if_pos c] at h
    exact List.mem_cons.2 (.inl (by simpa using h))
   ·rw [if_neg c] at h; cases h
  ·exact List.mem_cons.2 (.inr (flR_mem h))
theorem sk_short {L : List Int} {k : Nat} {S : List (List UInt8)} (h : ∀ s ∈ S,s.length ≤ 3) : (sk L k S).length ≤ 3:=by
 unfold sk
 rw [List.getD_eq_getElem?_getD]
 cases e : S[(nx L k S.length).toNat]? with
 | none => simp
 | some x => exact h _ (List.mem_of_getElem? e)
theorem flR_len {L : List Int} {m : Int} {b : Bool} : ∀ {K : List (List UInt8)} {N : Nat},(flR L m b K N).length ≤ K.length
 | [],_ => by simp [flR]
 | k :: K,N => by
  rw [flR,List.length_append,List.length_cons]
  have:=flR_len (L:=L) (m:=m) (b:=b) (K:=K) (N:=N + 1)
  split <;> simp <;> omega
theorem poEnd_short {L : List Int} {p : List UInt8 × Nat} {K th : List (List UInt8)} {room : List UInt8} {k : Nat} (hK : ∀ x ∈ K,x ∈ thingsL) (hk : K.length ≤ 3) (h : poEnd L p K = ((room,th),k)) : th.length ≤ 1000 ∧ ∀ s ∈ th,s.length ≤ 1000000:=by
 have hl:=flR_len (L:=L) (m:=3) (b:=true) (K:=K) (N:=p.2)
 have hs : ∀ s ∈ flR L 3 true K p.2,s.length ≤ 1000000:=fun s hs => by
  have:=hK s (flR_mem hs)
  have h2 : ∀ t ∈ thingsL,t.length ≤ 1000000:=by decide
  exact h2 s this
 unfold poEnd at h
 split at h
 ·injection h with h1 _
  injection h1 with _ h2
  subst h2
  refine ⟨by simp; omega,fun s hm => ?_⟩
  rcases List.mem_append.1 hm with h | h
  ·exact hs s h
  ·have e : s = _:=List.mem_singleton.1 h
   rw [e]
   have:=sk_short (L:=L) (k:=p.2 + K.length + 1) (S:=[[122,97,112],[],[103,117,110]]) (by decide)
   omega
 ·injection h with h1 _
  injection h1 with _ h2
  subst h2
  exact ⟨by omega,hs⟩
end Go.Proofs.YtpialnjfdbfkdaaGreatDoor
/- The walk of the reference's ThingsFault. -/
namespace Go.Proofs.YtpialnjfdbfkdaaGreatDoor
open Go.RowKit Go.Sort Go.Shelf

theorem tfC_any (x : List UInt8) (pb c lo : Nat) (A : Option Addr) (th : List (List UInt8)) (w : World) (h1 : w.cell? ⟨pb,0,none⟩ = some (.slice A th.length c)) (hr : Row w lo 1 A th.length (strs th)) (hl : th.length ≤ 1000000000) :
  Calls Tryz.prog 59 #[encStr x,.pointer (some ⟨pb,0,none⟩)] w fun e w' => e = .returned (.bool (!decide (x ∈ th))) ∧ ∃ q,w' = w.drewN q:=by
 have hcon:=containsS_any A c lo th x w hr hl
 unfold encStr at hcon ⊢
 go_enter Tryz.func59,Tryz.ntmps59
 go_wp2_with fail
 refine hcon.mono ?_
 rintro e w1 ⟨rfl,rfl⟩
 go_wp2_with fail
 go_ret
 exact ⟨rfl,0,rfl⟩
theorem tfX_any (pb c lo lo2 nc : Nat) (A N : Option Addr) (th l : List (List UInt8)) (w : World) (h1 : w.cell? ⟨pb,0,none⟩ = some (.slice A th.length c)) (hr : Row w lo 1 A th.length (strs th)) (hl : th.length ≤ 1000000000) (hn : Row w lo2 1 N l.length (strs l)) (hnl : l.length ≤ 1000000000) :
  Calls Tryz.prog 58 #[.slice N l.length nc,.func (.func 59) #[] #[.pointer (some ⟨pb,0,none⟩)]] w fun e w' => e = .returned (.bool (l.any fun x => !decide (x ∈ th))) ∧ Below w.heap.size w w':=by
 have eg : ∀ args w,(callFunc 59 args).run Tryz.prog w = .ok (.enter 59 args) w:=enters_of Tryz.func59 (by kernel_rfl) rfl
 have hz:=World.block_lt_of_cell? w _ h1
 rcases Nat.eq_zero_or_pos l.length with h0 | h0
 ·obtain rfl : l = []:=List.eq_nil_of_length_eq_zero h0
  refine (AnyE.slices_ContainsFunc_empty Tryz.layCon N nc _ w).mono ?_
  rintro e w' ⟨rfl,rfl⟩
  exact ⟨rfl,Below.refl _ _⟩
 ·obtain ⟨b,off,rfl,hb,hc⟩:=strs_at hn h0
  have hp : PredAt Tryz.prog 59 #[.pointer (some ⟨pb,0,none⟩)] encStr (fun x => !decide (x ∈ th)) w:=fun W x hW =>
   tfC_any x pb c lo A th W ((hW.cell (p:=⟨pb,0,none⟩) hz).trans h1) (hr.below hW) hl
  have:=AnyE.slices_ContainsFunc Tryz.layCon encStr (fun x => !decide (x ∈ th)) 59 #[.pointer (some ⟨pb,0,none⟩)] eg b off l.length nc l w hp (Nat.le_refl _) (by omega) (fun j hj => by rw [getElem!_pos l j hj]; exact hc j hj)
  rw [List.take_length] at this
  refine this.mono ?_
  rintro e w' ⟨rfl,q,rfl⟩
  exact ⟨rfl,below_drewN' (Below.refl _ _) q⟩
set_option maxHeartbeats 4000000 in
set_option maxRecDepth 100000 in
theorem rThingsFault_any (lo ca cd lo2 c2 : Nat) (A : Option Addr) (rs : List RoomE) (D : Option Addr) (ds : List DoorE) (st gl : List UInt8) (N : Option Addr) (l : List (List UInt8)) (w : World) (hA : MapW w lo A rs D ds) (hr : Row w lo2 1 N l.length (strs l)) (hl : l.length ≤ 1000 ∧ ∀ s ∈ l,s.length ≤ 1000000) (hfew : (onceT (allT rs ds)).length ≤ 1000000) :
  Calls Tryz.prog 14 #[mapV A rs ca D ds cd st gl,.slice N l.length c2] w fun e w' => e = .returned (.int .i64 (wantE (onceT (allT rs ds)) l)) ∧ Below w.heap.size w w':=by
 have hth:=rThings_any lo ca cd A rs D ds st gl (w.alloc (.cells #[.slice A rs.length ca,.slice D ds.length cd,.string ⟨st.toArray⟩,.string ⟨gl.toArray⟩] 29)) (hA.alloc _)
 have hb0 : Below w.heap.size w (w.alloc (.cells #[.slice A rs.length ca,.slice D ds.length cd,.string ⟨st.toArray⟩,.string ⟨gl.toArray⟩] 29)):=(Below.refl _ w).alloc (Nat.le_refl _) _
 have HRR:=Lib.hid hr
 generalize onceT (allT rs ds) = T at *
 have HW : Hid (wantE T l = firstE [thingsE l,if (l.any fun x => !decide (x ∈ T)) = true then 8 else 0]):=Lib.hid (by
  unfold wantE firstE
  by_cases h : thingsE l = 0
  ·rw [if_neg (by simp [h]),if_pos h]
   unfold firstE firstE
   by_cases h2 : (l.any fun x => !decide (x ∈ T)) = true
   ·rw [if_pos h2]; rfl
   ·rw [if_neg h2]; rfl
  ·rw [if_pos h,if_neg h])
 generalize wantE T l = we at *
 have HTF : Hid (∀ W,Below w.heap.size w W → Calls Tryz.prog 56 #[.slice N l.length c2,.int .i64 10] W fun e w' => e = .returned (.int .i64 (thingsE l)) ∧ Below W.heap.size W w'):=Lib.hid (fun W hb => rthings_any N c2 lo2 l W (hr.below hb) hl)
 generalize thingsE l = te at *
 unfold mapV at hth ⊢
 simp only [encStr] at hth ⊢
 clear hA hr
 obtain ⟨hl1,_⟩:=hl
 go_enter Tryz.func14,Tryz.ntmps14
 go_upto_region 1 with (fail)
 have hb1:=Blk.new w 29 #[.slice A rs.length ca,.slice D ds.length cd,.string ⟨st.toArray⟩,.string ⟨gl.toArray⟩]
 generalize w.alloc (.cells #[.slice A rs.length ca,.slice D ds.length cd,.string ⟨st.toArray⟩,.string ⟨gl.toArray⟩] 29) = w0 at *
 obtain ⟨a0,a1,a2,a3⟩ : _ ∧ _ ∧ _ ∧ _:=⟨hb1.cell 0,hb1.cell 1,hb1.cell 2,hb1.cell 3⟩
 simp only [Q0,Q2,Q1] at a0 a1 a2 a3
 have za:=hb1.lt
 go_wp2_with fail
 refine hth.mono ?_
 rintro e w1 ⟨A',c',rfl,ho,hb⟩
 clear hth a0 a1 a2 a3 za hb1
 have hb:=below_up hb0 hb
 have hx : Blk (w1.alloc (.cells #[.slice A' T.length c'] 31)) w1.heap.size 31 #[.slice A' T.length c']:=Blk.new _ _ _
 have hb:=hb.alloc hb.size (.cells #[.slice A' T.length c'] 31)
 have hro:=(Row.of_own ho).alloc (.cells #[.slice A' T.length c'] 31)
 clear ho
 go_upto_region 2 with (fail)
 generalize w1.alloc (.cells #[.slice A' T.length c'] 31) = w2 at *
 generalize w1.heap.size = pb at *
 go_wp2_with fail
 refine (HTF.out _ hb).mono ?_
 rintro e w3 ⟨rfl,hb3⟩
 have hro:=hro.below hb3
 have hx:=hx.below hb3
 have hb:=below_up hb hb3
 have hwa:=tfX_any pb c' _ lo2 c2 A' N T l w3 (hx.cell 0) hro (by omega) (HRR.out.below hb) (by omega)
 generalize (l.any fun x => !decide (x ∈ T)) = an at *
 clear hb3 hx hro
 go_wp2_with fail
 refine hwa.mono ?_
 rintro e w4 ⟨rfl,hb4⟩
 have hb:=below_up hb hb4
 clear hwa hb4
 go_wp2_with fail
 refine (noneFault_any an w4).mono ?_
 rintro e w5 ⟨rfl,rfl⟩
 have hbk:=Blk.new w4 36 #[.int .i64 te,.int .i64 (if an = true then 8 else 0)]
 have hb:=hb.alloc hb.size (.cells #[.int .i64 te,.int .i64 (if an = true then 8 else 0)] 36)
 generalize (if an = true then (8 : Int) else 0) = nf at *
 go_wp2_with fail
 have hor:=or_any (some ⟨w4.heap.size,0,none⟩) 2 w4.heap.size [te,nf] (w4.alloc (.cells #[.int .i64 te,.int .i64 nf] 36)) (Row.lit hbk (Nat.le_refl _) rfl) (by simp)
 rw [← HW.out] at hor
 refine hor.mono ?_
 rintro e w6 ⟨rfl,rfl⟩
 go_wp2_with fail
 go_ret
 exact ⟨rfl,hb⟩
end Go.Proofs.YtpialnjfdbfkdaaGreatDoor
/- What stays where one block of another type is written to; attempts of the call's own; slices.Clone of strings. -/
namespace Go.Proofs.YtpialnjfdbfkdaaGreatDoor
open Go.RowKit Go.Sort

def tyOf (w : World) (b : Nat) : Option TypeId :=
 match w.heap[b]? with
 | some (.cells _ t _) => some t
 | _ => none
def KindOf (w : World) (row : Option Nat) (t : TypeId) : Prop:=∀ b,row = some b → tyOf w b = some t
section
variable {w w' : World} {b base n size : Nat} {t e x : TypeId} {cs : Array Value} {v : Value} {xs : List Value} {row : Option Nat}
theorem Blk.tyOf (h : Blk w b t cs) : tyOf w b = some t:=by
 have h' : w.heap[b]? = some (.cells cs t (0,0)):=h
 simp [Proofs.YtpialnjfdbfkdaaGreatDoor.tyOf,h']
theorem Blk.otherOf (h : Blk w b t cs) (hg : w.grownBy w' row) (hk : KindOf w row x) (hne : x ≠ t) : Blk w' b t cs :=
 (hg.block b h.lt (fun e => hne (by have:=hk b e.symm; rw [h.tyOf] at this; injection this with this; exact this.symm))).trans h
theorem own_otherOf (h : w.ownsRow base e size v n xs) (hg : w.grownBy w' row) (hk : KindOf w row x) (hne : x ≠ e) : w'.ownsRow base e size v n xs:=by
 refine ⟨h.1,?_⟩
 rcases h.2 with h0 | ⟨g,cap,cur,hv,hb,hh,h3⟩
 ·exact .inl h0
 ·have hb' : Blk w g e cur:=hh
  exact .inr ⟨g,cap,cur,hv,hb,hb'.otherOf hg hk hne,h3⟩
theorem Blk.stream {g : Nat} (h : Blk w b t cs) (hg : w.grownBy w' (some g)) (hb : g < b) : Blk w' b t cs:=(hg.block b h.lt (fun e => by injection e with e; omega)).trans h
end

def AttsC (w : World) (base : Nat) (atts : List Att) (cs : List Value) : Prop :=
 cs.length = atts.length * 2 ∧ ∀ i (h : i < atts.length),∃ B c,cs[i * 2]? = some (.int .i64 atts[i].1) ∧ cs[i * 2 + 1]? = some (.slice B atts[i].2.length c) ∧ w.ownsRow base 3 1 (.slice B atts[i].2.length c) atts[i].2.length (ints atts[i].2)
section
variable {w w' : World} {base : Nat} {atts : List Att} {cs : List Value}
theorem AttsC.nil (w : World) (base : Nat) : AttsC w base [] []:=⟨rfl,fun i h => by simp at h⟩
theorem AttsC.other {row : Option Nat} {x : TypeId} (h : AttsC w base atts cs) (hg : w.grownBy w' row) (hk : KindOf w row x) (hne : x ≠ 3) : AttsC w' base atts cs :=
 ⟨h.1,fun i hi => let ⟨B,c,a,b,d⟩:=h.2 i hi; ⟨B,c,a,b,own_otherOf d hg hk hne⟩⟩
theorem AttsC.below (h : AttsC w base atts cs) (hb : Below w.heap.size w w') : AttsC w' base atts cs :=
 ⟨h.1,fun i hi => let ⟨B,c,a,b,d⟩:=h.2 i hi; ⟨B,c,a,b,own_keep d hb⟩⟩
theorem AttsC.stream {g : Nat} (h : AttsC w base atts cs) (hg : w.grownBy w' (some g)) (hb : g < base) : AttsC w' base atts cs :=
 ⟨h.1,fun i hi => let ⟨B,c,a,b,d⟩:=h.2 i hi; ⟨B,c,a,b,own_grown d hg hb⟩⟩
theorem AttsC.push (h : AttsC w base atts cs) (no : Int) {l : List Int} {B : Option Addr} {c : Nat} (ho : w.ownsRow base 3 1 (.slice B l.length c) l.length (ints l)) : AttsC w base (atts ++ [(no,l)]) (cs ++ [.int .i64 no,.slice B l.length c]):=by
 refine ⟨by simp [h.1]; omega,fun i hi => ?_⟩
 by_cases hlt : i < atts.length
 ·obtain ⟨B',c',a,b,d⟩:=h.2 i hlt
  have e : (atts ++ [(no,l)])[i] = atts[i]:=List.getElem_append_left hlt
  rw [e]
  refine ⟨B',c',?_,?_,d⟩
  ·rw [List.getElem?_append_left (by rw [h.1]; omega)]; exact a
  ·rw [List.getElem?_append_left (by rw [h.1]; omega)]; exact b
 ·have : i = atts.length:=by simp at hi; omega
  subst this
  have e : (atts ++ [(no,l)])[atts.length] = (no,l):=by simp
  rw [e]
  refine ⟨B,c,?_,?_,ho⟩
  ·rw [List.getElem?_append_right (by rw [h.1]; omega),h.1,Nat.sub_self]; rfl
  ·rw [List.getElem?_append_right (by rw [h.1]; omega),h.1,show atts.length * 2 + 1 - atts.length * 2 = 1 by omega]; rfl
end
theorem Hist.stream {w w' : World} {lo g : Nat} {SA TA : Option Addr} {segs : List (List UInt8)} {atts : List Att} (h : Hist w lo SA TA segs atts) (hg : w.grownBy w' (some g)) (hl : g < lo) : Hist w' lo SA TA segs atts:=by
 obtain ⟨h1,cs,h2,h3⟩:=h
 exact ⟨h1.grown hg hl,cs,h2.grown hg hl,fun i hi => let ⟨B,c,a,b,d⟩:=h3 i hi; ⟨B,c,a,b,d.grown hg hl⟩⟩
theorem Hist.weak {w : World} {lo lo' : Nat} {SA TA : Option Addr} {segs : List (List UInt8)} {atts : List Att} (h : Hist w lo SA TA segs atts) (hl : lo' ≤ lo) : Hist w lo' SA TA segs atts:=by
 obtain ⟨h1,cs,h2,h3⟩:=h
 exact ⟨h1.weak hl,cs,h2.weak hl,fun i hi => let ⟨B,c,a,b,d⟩:=h3 i hi; ⟨B,c,a,b,d.weak hl⟩⟩

end Go.Proofs.YtpialnjfdbfkdaaGreatDoor
/- Rows that may be written to, whatever they hold. -/
namespace Go.Proofs.YtpialnjfdbfkdaaGreatDoor
open Go.RowKit Go.Sort

def WrT (w : World) (base : Nat) (t : TypeId) (size : Nat) (B : Option Addr) (n : Nat) : Prop:=0 < n → ∃ g cs,B = some ⟨g,0,none⟩ ∧ base ≤ g ∧ Blk w g t cs ∧ n * size ≤ cs.size
section
variable {w w' : World} {base size n c : Nat} {t x : TypeId} {B : Option Addr} {xs : List Value} {row : Option Nat}
theorem WrT.of_own (h : w.ownsRow base t size (.slice B n c) n xs) : WrT w base t size B n:=by
 intro hn
 rcases h.2 with ⟨_,h0⟩ | ⟨g,cap,cur,hv,hg,hh,hcap,_,hcs,_⟩
 ·omega
 ·injection hv with h1 h2 h3
  exact ⟨g,cur,h1,hg,hh,by rw [hcs]; exact Nat.mul_le_mul_right _ hcap⟩
theorem WrT.poke (h : WrT w base t size B n) (p i : Nat) (u : Value) : WrT (w.setCell ⟨p,i,none⟩ u) base t size B n:=by
 intro hn
 obtain ⟨g,cs,e,hb,hB,hs⟩:=h hn
 by_cases e2 : g = p
 ·subst e2
  exact ⟨g,_,e,hb,hB.poke i u,by simpa using hs⟩
 ·exact ⟨g,cs,e,hb,hB.past _ _ _ e2,hs⟩
theorem WrT.below (h : WrT w base t size B n) (hb : Below w.heap.size w w') : WrT w' base t size B n:=by
 intro hn
 obtain ⟨g,cs,e,h1,hB,hs⟩:=h hn
 exact ⟨g,cs,e,h1,hB.below hb,hs⟩
theorem WrT.weak {lo : Nat} (h : WrT w base t size B n) (hl : lo ≤ base) : WrT w lo t size B n:=by
 intro hn
 obtain ⟨g,cs,e,h1,hB,hs⟩:=h hn
 exact ⟨g,cs,e,by omega,hB,hs⟩
end
end Go.Proofs.YtpialnjfdbfkdaaGreatDoor
/- What stays while two streams over one list are drawn from; maps drawn with known numbers are drawn maps. -/
namespace Go.Proofs.YtpialnjfdbfkdaaGreatDoor
open Go.RowKit Go.Sort

theorem RoomsX.g {L : List Int} {K : Nat} {rs : List RoomE} (h : RoomsX L K rs) : RoomsG rs:=fun k hk => ⟨(h k hk).1,(h k hk).2.1⟩
theorem DoorsX.g {L : List Int} {K n : Nat} {ds : List DoorE} (h : DoorsX L K n ds) : DoorsG n ds:=fun k hk =>
 ⟨(h k hk).key,(h k hk).src.1,(h k hk).dst.1,(h k hk).time.1,(h k hk).needs.1,(h k hk).takes.1,(h k hk).trick.1⟩
structure KeepX (B g1 g2 : Nat) (w w' : World) : Prop where
  size : w.heap.size ≤ w'.heap.size
  block : ∀ b, b < B → b ≠ g1 → b ≠ g2 → w'.heap[b]? = w.heap[b]?
section
variable {B g1 g2 : Nat} {w w' w2 : World}
theorem KeepX.refl (B g1 g2 : Nat) (w : World) : KeepX B g1 g2 w w:=⟨Nat.le_refl _,fun _ _ _ _ => rfl⟩
theorem KeepX.below (h : KeepX B g1 g2 w w') (hB : B ≤ w.heap.size) (hb : Below w'.heap.size w' w2) : KeepX B g1 g2 w w2 :=
 ⟨Nat.le_trans h.size hb.size,fun b h1 h2 h3 => (hb.block b (Nat.lt_of_lt_of_le h1 (Nat.le_trans hB h.size))).trans (h.block b h1 h2 h3)⟩
theorem KeepX.alloc (h : KeepX B g1 g2 w w') (hB : B ≤ w.heap.size) (o : Obj) : KeepX B g1 g2 w (w'.alloc o):=h.below hB ((Below.refl _ _).alloc (Nat.le_refl _) o)
theorem KeepX.drew (h : KeepX B g1 g2 w w') : KeepX B g1 g2 w w'.drew:=⟨h.size,h.block⟩
theorem KeepX.drewN (h : KeepX B g1 g2 w w') (n : Nat) : KeepX B g1 g2 w (w'.drewN n):=⟨h.size,h.block⟩
theorem KeepX.call1 (h : KeepX B g1 g2 w w') (hB : B ≤ w.heap.size) (hb : w'.grownBy w2 (some g1)) : KeepX B g1 g2 w w2 :=
 ⟨Nat.le_trans h.size hb.size,fun b h1 h2 h3 => (hb.block b (Nat.lt_of_lt_of_le h1 (Nat.le_trans hB h.size)) (fun e => h2 (by injection e))).trans (h.block b h1 h2 h3)⟩
theorem KeepX.call2 (h : KeepX B g1 g2 w w') (hB : B ≤ w.heap.size) (hb : w'.grownBy w2 (some g2)) : KeepX B g1 g2 w w2 :=
 ⟨Nat.le_trans h.size hb.size,fun b h1 h2 h3 => (hb.block b (Nat.lt_of_lt_of_le h1 (Nat.le_trans hB h.size)) (fun e => h3 (by injection e))).trans (h.block b h1 h2 h3)⟩
theorem KeepX.set (h : KeepX B g1 g2 w w') {p : Addr} (hp : B ≤ p.block) (u : Value) : KeepX B g1 g2 w (w'.setCell p u) :=
 ⟨by rw [World.size_setCell]; exact h.size,fun b h1 h2 h3 => (Below.heap_setCell w' p u b (by omega)).trans (h.block b h1 h2 h3)⟩
theorem Row.keepX {lo size n : Nat} {A : Option Addr} {xs : List Value} (h : Row w lo size A n xs) (k : KeepX w.heap.size g1 g2 w w') (h1 : g1 < lo) (h2 : g2 < lo) : Row w' lo size A n xs :=
 h.keep k.size fun b hb hl => k.block b hl (by omega) (by omega)
theorem MapW.keepX {lo : Nat} {A : Option Addr} {rs : List RoomE} {D : Option Addr} {ds : List DoorE} (h : MapW w lo A rs D ds) (k : KeepX w.heap.size g1 g2 w w') (h1 : g1 < lo) (h2 : g2 < lo) : MapW w' lo A rs D ds :=
 ⟨h.rooms.keepX k h1 h2,h.doors.keepX k h1 h2,fun r hr => ⟨(h.gives r hr).1.keepX k h1 h2,(h.gives r hr).2⟩,fun d hd => ⟨(h.needs d hd).1.keepX k h1 h2,(h.needs d hd).2⟩,fun d hd => ⟨(h.takes d hd).1.keepX k h1 h2,(h.takes d hd).2⟩,h.s⟩
theorem Blk.keepX {b : Nat} {t : TypeId} {cs : Array Value} (h : Blk w b t cs) (k : KeepX w.heap.size g1 g2 w w') (h1 : b ≠ g1) (h2 : b ≠ g2) : Blk w' b t cs:=(k.block b h.lt h1 h2).trans h
end
theorem MapW.weakX {w : World} {lo lo' : Nat} {A : Option Addr} {rs : List RoomE} {D : Option Addr} {ds : List DoorE} (h : MapW w lo A rs D ds) (hl : lo' ≤ lo) : MapW w lo' A rs D ds :=
 ⟨h.rooms.weak hl,h.doors.weak hl,fun r hr => ⟨(h.gives r hr).1.weak hl,(h.gives r hr).2⟩,fun d hd => ⟨(h.needs d hd).1.weak hl,(h.needs d hd).2⟩,fun d hd => ⟨(h.takes d hd).1.weak hl,(h.takes d hd).2⟩,h.s⟩
theorem Blk.pokeP {w : World} {g : Nat} {t : TypeId} {a b : Value} (hg : Blk w g t #[a,b]) (x y : Value) : Blk ((w.setCell ⟨g,0,none⟩ x).setCell ⟨g,1,none⟩ y) g t #[x,y]:=(hg.poke 0 x).poke 1 y
theorem Blk.pastP {w : World} {g k : Nat} {t : TypeId} {cs : Array Value} (hg : Blk w g t cs) (hne : g ≠ k) (x y : Value) : Blk ((w.setCell ⟨k,0,none⟩ x).setCell ⟨k,1,none⟩ y) g t cs:=(hg.past k 0 x hne).past k 1 y hne
theorem own_pastP {w : World} {base size n g : Nat} {e t : TypeId} {v : Value} {xs : List Value} {a b : Value} (h : w.ownsRow base e size v n xs) (hb : Blk w g t #[a,b]) (hne : e ≠ t) (x y : Value) : ((w.setCell ⟨g,0,none⟩ x).setCell ⟨g,1,none⟩ y).ownsRow base e size v n xs :=
 own_past (own_past h hb hne 0 x) (hb.poke 0 x) hne 1 y
theorem givesOf_len {rs : List RoomE} {key : List UInt8} (h : ∀ r ∈ rs,r.gives.length ≤ 1000) : (onceT (givesOf rs key)).length ≤ 1000:=by
 refine Nat.le_trans (onceT_le _) ?_
 unfold givesOf
 cases e : rs.find? fun r => r.key == key with
 | none => simp
 | some r => exact h r (List.mem_of_find?_eq_some e)
structure WrPts (w : World) (base : Nat) (A : Option Addr) (c : Nat) (zs : List PtE) : Prop where
  row : w.ownsRow base 34 2 (.slice A zs.length c) zs.length (zs.flatMap encP)
  ths : ∀ x ∈ zs, WrT w base 9 1 x.B x.th.length
section
variable {w w' : World} {base : Nat} {A : Option Addr} {c : Nat} {zs : List PtE}
theorem OPts.wr (h : OPts w base A c zs) : WrPts w base A c zs:=⟨h.row,fun x hx => WrT.of_own (h.ths x hx)⟩
theorem WrPts.below (h : WrPts w base A c zs) (hb : Below w.heap.size w w') : WrPts w' base A c zs:=⟨own_keep h.row hb,fun x hx => (h.ths x hx).below hb⟩
theorem WrPts.weak {lo : Nat} (h : WrPts w base A c zs) (hl : lo ≤ base) : WrPts w lo A c zs:=⟨own_down9 h.row hl,fun x hx => (h.ths x hx).weak hl⟩
theorem WrPts.cell (h : WrPts w base A c zs) {k : Nat} (hk : k < zs.length) : ∃ b off,A = some ⟨b,off,none⟩ ∧ b < w.heap.size ∧ w.cell? ⟨b,off + k * 2,none⟩ = some (.string ⟨zs[k].room.toArray⟩) ∧ w.cell? ⟨b,off + k * 2 + 1,none⟩ = some (.slice zs[k].B zs[k].th.length zs[k].c):=by
 obtain ⟨b,off,e,_,hb,hc⟩:=(Row.of_own h.row).2 (by omega)
 refine ⟨b,off,e,hb,?_,?_⟩
 ·exact hc (k * 2) _ ((flat_at encP 2 (fun _ => rfl) zs k hk 0 (by omega)).trans rfl)
 ·have:=hc (k * 2 + 1) _ ((flat_at encP 2 (fun _ => rfl) zs k hk 1 (by omega)).trans rfl); rw [← Nat.add_assoc] at this; exact this
theorem WrPts.poke (h : WrPts w base A c zs) {g : Nat} {cs : Array Value} (hg : Blk w g 9 cs) (i : Nat) (u : Value) : WrPts (w.setCell ⟨g,i,none⟩ u) base A c zs :=
 ⟨own_past h.row hg (by decide) i u,fun x hx => (h.ths x hx).poke g i u⟩
end
theorem WrT.blk {w : World} {base size n : Nat} {t : TypeId} {B : Option Addr} (h : WrT w base t size B n) (hz : 0 < size) {k : Nat} (hk : k < n) : ∃ g cs u,B = some ⟨g,0,none⟩ ∧ base ≤ g ∧ Blk w g t cs ∧ w.cell? ⟨g,k * size,none⟩ = some u:=by
 obtain ⟨g,cs,e,h1,hB,hs⟩:=h (by omega)
 have hlt : k * size < cs.size:=by
  have h2 : (k + 1) * size ≤ n * size:=Nat.mul_le_mul_right _ hk
  have h3 : (k + 1) * size = k * size + size:=Nat.succ_mul _ _
  omega
 exact ⟨g,cs,cs[k * size]'hlt,e,h1,hB,by rw [hB.cell]; simp [hlt]⟩
structure KeepB (v : World) (g1 g2 : Nat) (w w' : World) : Prop where
  k : KeepX w.heap.size g1 g2 w w'
  x : Below v.heap.size v w'
section
variable {v w w' w2 : World} {g1 g2 : Nat}
theorem KeepB.z (h : KeepB v g1 g2 w w') : w.heap.size ≤ w'.heap.size:=h.k.size
theorem KeepB.alloc (h : KeepB v g1 g2 w w') (o : Obj) : KeepB v g1 g2 w (w'.alloc o):=⟨h.k.alloc (Nat.le_refl _) o,h.x.alloc h.x.size o⟩
theorem KeepB.below (h : KeepB v g1 g2 w w') (hb : Below w'.heap.size w' w2) : KeepB v g1 g2 w w2:=⟨h.k.below (Nat.le_refl _) hb,below_up h.x hb⟩
theorem KeepB.call1 (h : KeepB v g1 g2 w w') (hb : w'.grownBy w2 (some g1)) (hg : v.heap.size ≤ g1) : KeepB v g1 g2 w w2:=⟨h.k.call1 (Nat.le_refl _) hb,h.x.grown hb h.x.size (fun k hk => by injection hk with hk; omega)⟩
theorem KeepB.call2 (h : KeepB v g1 g2 w w') (hb : w'.grownBy w2 (some g2)) (hg : v.heap.size ≤ g2) : KeepB v g1 g2 w w2:=⟨h.k.call2 (Nat.le_refl _) hb,h.x.grown hb h.x.size (fun k hk => by injection hk with hk; omega)⟩
theorem KeepB.set2 (h : KeepB v g1 g2 w w') {q : Nat} (hq : w.heap.size ≤ q) (hv : v.heap.size ≤ w.heap.size) (a b : Value) : KeepB v g1 g2 w ((w'.setCell ⟨q,0,none⟩ a).setCell ⟨q,1,none⟩ b) :=
 ⟨(h.k.set (p:=⟨q,0,none⟩) hq a).set (p:=⟨q,1,none⟩) hq b,Below.setCell (Below.setCell h.x (p:=⟨q,0,none⟩) (Nat.le_trans hv hq) a) (p:=⟨q,1,none⟩) (Nat.le_trans hv hq) b⟩
end
end Go.Proofs.YtpialnjfdbfkdaaGreatDoor
