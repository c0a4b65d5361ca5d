/- Texts of this seat, laid together: VoQ VoR. -/
import Derived.Handy
import Derived.Test.YtgeaeockmadhcaaGreatDoorBp29
import Derived.Test.YtgeaeockmadhcaaGreatDoorBp30
/- The walks of slices.Concat (two rows), slices.Compact and slices.Equal over votes. -/
namespace Go.Proofs.YtgeaeockmadhcaaGreatDoor
set_option linter.unusedVariables false
set_option linter.unusedSimpArgs false
open Go.RowKit Go.Sort

theorem zeroCells_len {cs : Array Value} {n : Nat} : (Builtin.zeroCells cs n).size = n * cs.size:=by simp [Builtin.zeroCells]
theorem growV_any (n : Nat) (w : World) (hn : n ≤ 1000) : Calls Tryz.prog 77 #[.slice none 0 0,.int .i64 n] w fun e w' => ∃ A c,e = .returned (.slice A 0 c) ∧ w'.ownsRow w.heap.size 37 4 (.slice A 0 c) 0 [] ∧ Below w.heap.size w w':=by
 by_cases h0 : n = 0
 ·subst h0
  refine (Any8.slices_Grow_room (P:=Tryz.prog) Tryz.growVote none 0 0 0 w (Nat.le_refl _) (by decide) (by decide) (Nat.le_refl _)).mono ?_
  rintro e w' ⟨rfl,rfl⟩
  exact ⟨none,0,rfl,World.ownsRow_nil _ _ _ _,Below.refl _ _⟩
 ·obtain ⟨i0,z,hi0,hz0,hsz,hby,hzc⟩:=ty_votes.info
  have hb : (0 + n) * i0.bytes ≤ 140737488355328:=by rw [hby]; omega
  refine (Any8.slices_Grow_grow (P:=Tryz.prog) Tryz.growVote i0 z hi0 hz0 (by omega) none 0 0 n [] w (Nat.le_refl _) (by omega) hb (by omega) (by simp) (fun _ => rfl) (fun a h => by cases h)).mono ?_
  rintro e w' ⟨rfl,rfl⟩
  refine ⟨_,_,rfl,?_,((Below.refl _ _).drew).alloc (Nat.le_refl _) _⟩
  have hge:=grownCap_ge w (0 + n) 0 37
  refine World.ownsRow_made w.drew _ _ (Nat.le_refl _) (grownCap_le_maxLen w (0 + n) 0 37 (by unfold maxLen; omega)) ?_
  rw [Array.size_append,Array.size_append,zeroCells_len,zeroCells_len,hzc]
  simp only [List.size_toArray,List.length_nil]
  change 0 + (0 + n - 0) * 4 + (grownCap w (0 + n) 0 37 - (0 + n)) * 4 = grownCap w (0 + n) 0 37 * 4
  omega
def ConP (w : World) (us vs : List VoteE) (e : Ending) (w' : World) : Prop:=∃ R c',e = .returned (.slice R (us ++ vs).length c') ∧ w'.ownsRow w.heap.size 37 4 (.slice R (us ++ vs).length c') (us ++ vs).length ((us ++ vs).flatMap encV) ∧ Below w.heap.size w w'
set_option maxHeartbeats 2000000 in
theorem concatV_any (X A B : Option Addr) (cx c d lx lo lo' : Nat) (us vs : List VoteE) (w : World) (hx : Row w lx 1 X 2 [.slice A us.length c,.slice B vs.length d]) (hr : Row w lo 4 A us.length (us.flatMap encV)) (hr' : Row w lo' 4 B vs.length (vs.flatMap encV)) (hl : us.length + vs.length < 40) :
  Calls Tryz.prog 53 #[.slice X 2 cx] w (ConP w us vs):=by
 obtain ⟨xb,xo,hX,-,hxl,hxc⟩:=hx.2 (by decide)
 subst hX
 have x0 : w.cell? ⟨xb,xo,none⟩ = some (.slice A us.length c):=by simpa using hxc 0 _ rfl
 have x1 : w.cell? ⟨xb,xo + 1,none⟩ = some (.slice B vs.length d):=by simpa using hxc 1 _ rfl
 clear hx hxc
 obtain ⟨t,ht⟩ : ∃ t,t = us.length + vs.length:=⟨_,rfl⟩
 have et : (us.length : Int) + (vs.length : Int) = (t : Int):=by omega
 have hul : us.length ≤ 1000:=by omega
 have hvl : vs.length ≤ 1000:=by omega
 have htb : t ≤ 1000:=by omega
 have HTT:=Lib.hid ht
 have HR:=Lib.hid hr
 have HR':=Lib.hid hr'
 clear ht hl hr hr'
 go_enter Tryz.func53,Tryz.ntmps53
 go_wp2_with fail
 go_loopw [3,11] (fun s i wr => Hid (wr = w) ∧ ((s = .int .i64 0 ∧ i = .int .i64 0) ∨ (s = .int .i64 us.length ∧ i = .int .i64 1) ∨ (s = .int .i64 t ∧ i = .int .i64 2))) (fun _ i _ => 2 - (intOf i).toNat)
 case atStart => exact ⟨Lib.hid rfl,.inl ⟨rfl,rfl⟩⟩
 case round =>
  obtain ⟨HW,hrel⟩:=hrel
  have y0 : wr.cell? ⟨xb,xo,none⟩ = some (.slice A us.length c):=by rw [HW.out]; exact x0
  have y1 : wr.cell? ⟨xb,xo + 1,none⟩ = some (.slice B vs.length d):=by rw [HW.out]; exact x1
  have yl : xb < wr.heap.size:=by rw [HW.out]; exact hxl
  clear x0 x1 hxl
  rcases hrel with ⟨rfl,rfl⟩ | ⟨rfl,rfl⟩ | ⟨rfl,rfl⟩
  ·go_wp2_with fail
   go_roundw
   case rel => exact ⟨HW,.inr (.inl ⟨by simp,by simp⟩)⟩
   case measure => simp [intOf]
  ·go_wp2_with fail
   go_roundw
   case rel => exact ⟨HW,.inr (.inr ⟨by simp,by simp⟩)⟩
   case measure => simp [intOf]
  ·go_wp2_with fail
   refine (growV_any t _ htb).mono ?_
   rintro e9 w2 ⟨G,gc,rfl,hown,hb⟩
   rw [HW.out] at hown hb
   have HB : Hid (Below w.heap.size w w2):=Lib.hid hb
   have HO : Hid (w2.ownsRow w.heap.size 37 4 (.slice G 0 gc) 0 []):=Lib.hid hown
   have HR2 : Hid (Row w lo 4 A us.length (us.flatMap encV) ∧ Row w lo' 4 B vs.length (vs.flatMap encV)):=Lib.hid ⟨HR.out,HR'.out⟩
   rw [HW.out] at y0 y1 yl
   have HY : Hid (∀ W,Below w.heap.size w W → W.cell? ⟨xb,xo,none⟩ = some (.slice A us.length c) ∧ W.cell? ⟨xb,xo + 1,none⟩ = some (.slice B vs.length d) ∧ xb < W.heap.size):=Lib.hid (fun W hW => ⟨(World.cell?_of_block (w:=w) (hW.block xb yl)).trans y0,(World.cell?_of_block (w:=w) (hW.block xb yl)).trans y1,by have:=hW.size; omega⟩)
   clear y0 y1 yl hown hb HR HR'
   go_wp2_with fail
   go_loopw [6,27] (fun s i wx => ∃ (ws : List VoteE) (R : Option Addr) (rc : Nat),s = .slice R ws.length rc ∧ Hid (wx.ownsRow w.heap.size 37 4 (.slice R ws.length rc) ws.length (ws.flatMap encV)) ∧ Hid (Below w.heap.size w wx) ∧ ((i = .int .i64 0 ∧ Hid (ws = [])) ∨ (i = .int .i64 1 ∧ Hid (ws = us)) ∨ (i = .int .i64 2 ∧ Hid (ws = us ++ vs)))) (fun _ i _ => 2 - (intOf i).toNat)
   case atStart => exact ⟨[],G,gc,rfl,HO,HB,.inl ⟨rfl,Lib.hid rfl⟩⟩
   case round =>
    clear HO HB
    obtain ⟨ws,R,rc,rfl,HO,HB,hrel⟩:=hrel
    obtain ⟨y0,y1,yl⟩:=HY.out _ HB.out
    have HRW : Hid (Row wr lo 4 A us.length (us.flatMap encV) ∧ Row wr lo' 4 B vs.length (vs.flatMap encV)):=Lib.hid ⟨HR2.out.1.below HB.out,HR2.out.2.below HB.out⟩
    rcases hrel with ⟨rfl,HWS⟩ | ⟨rfl,HWS⟩ | ⟨rfl,HWS⟩
    ·have hws:=HWS.out
     rw [hws] at HO ⊢
     clear hws HWS
     have hnew : (([] : List VoteE)).length ≤ 1000:=by first | omega | simp
     go_wp2_with (at_builtin; go_must (refine wpList_app (lo:=lo) (base:=w.heap.size) (n:=(([] : List VoteE)).length) (xs:=(([] : List VoteE)).flatMap encV) _ _ rfl _ _ ty_votes rfl HO.out rfl HRW.out.1 rfl (encV_all _) (by first | omega | (simp; try omega)) (by first | omega | (simp; try omega)) (by have:=HB.out.size; omega) ?_))
     intro R5 r5 w5 ho5 hg5 _
     have HO5 : Hid (w5.ownsRow w.heap.size 37 4 (.slice R5 (us).length r5) (us).length ((us).flatMap encV)):=Lib.hid (by simpa using ho5)
     have HB5 : Hid (Below w.heap.size w w5):=Lib.hid (below_app HO.out HB.out hg5 (Nat.le_refl _) (by have:=HB.out.size; omega))
     clear ho5 hg5 HO HB HRW y0 y1 yl
     go_wp2_with fail
     go_roundw
     case rel => exact ⟨us,R5,r5,by simp,HO5,HB5,.inr (.inl ⟨by simp,Lib.hid rfl⟩)⟩
     case measure => simp [intOf]
    ·have hws:=HWS.out
     rw [hws] at HO ⊢
     clear hws HWS
     have hnew : (us).length ≤ 1000:=by first | omega | simp
     go_wp2_with (at_builtin; go_must (refine wpList_app (lo:=lo') (base:=w.heap.size) (n:=(us).length) (xs:=(us).flatMap encV) _ _ rfl _ _ ty_votes rfl HO.out rfl HRW.out.2 rfl (encV_all _) (by first | omega | (simp; try omega)) (by first | omega | (simp; try omega)) (by have:=HB.out.size; omega) ?_))
     intro R5 r5 w5 ho5 hg5 _
     have HO5 : Hid (w5.ownsRow w.heap.size 37 4 (.slice R5 (us ++ vs).length r5) (us ++ vs).length ((us ++ vs).flatMap encV)):=Lib.hid (by simpa using ho5)
     have HB5 : Hid (Below w.heap.size w w5):=Lib.hid (below_app HO.out HB.out hg5 (Nat.le_refl _) (by have:=HB.out.size; omega))
     clear ho5 hg5 HO HB HRW y0 y1 yl
     go_wp2_with fail
     go_roundw
     case rel => exact ⟨us ++ vs,R5,r5,by simp,HO5,HB5,.inr (.inr ⟨by simp,Lib.hid rfl⟩)⟩
     case measure => simp [intOf]
    ·have hws:=HWS.out
     rw [hws] at HO ⊢
     clear hws HWS
     have HE : Hid (ConP w us vs (.returned (.slice R (us ++ vs).length rc)) wr):=Lib.hid ⟨R,rc,rfl,HO.out,HB.out⟩
     clear HO HB
     go_wp2_with fail
     go_ret
     exact HE.out
end Go.Proofs.YtgeaeockmadhcaaGreatDoor
/- The walks of slices.Compact and slices.Equal over votes. -/
namespace Go.Proofs.YtgeaeockmadhcaaGreatDoor
set_option linter.unusedVariables false
set_option linter.unusedSimpArgs false
open Go.RowKit Go.Sort

theorem compL_cc {α : Type} [DecidableEq α] (x y : α) (l : List α) : compL (x :: y :: l) = if x = y then compL (y :: l) else x :: compL (y :: l):=by rw [compL]
theorem compL_snoc2 {α : Type} [DecidableEq α] : ∀ (l : List α) (y z : α),compL (l ++ [y,z]) = if y = z then compL (l ++ [y]) else compL (l ++ [y]) ++ [z]
 | [],y,z => by
  by_cases h : y = z
  ·simp [compL,h]
  ·simp [compL,h]
 | [x],y,z => by
  have ih:=compL_snoc2 [] y z
  simp only [List.nil_append] at ih
  show compL (x :: y :: [z]) = if y = z then compL (x :: y :: []) else compL (x :: y :: []) ++ [z]
  rw [compL_cc x y [z],compL_cc x y [],ih]
  by_cases hx : x = y <;> by_cases h : y = z <;> simp only [if_pos,if_neg,hx,h,not_false_eq_true,if_true,if_false,List.cons_append]
 | x :: x2 :: l,y,z => by
  have ih:=compL_snoc2 (x2 :: l) y z
  simp only [List.cons_append] at ih ⊢
  rw [compL_cc,compL_cc,ih]
  by_cases hx : x = x2 <;> by_cases h : y = z <;> simp only [if_pos,if_neg,hx,h,not_false_eq_true,if_true,if_false,List.cons_append]
theorem compL_take {α : Type} [DecidableEq α] {vs : List α} {p : Nat} (h1 : 1 ≤ p) (h2 : p < vs.length) : compL (vs.take (p + 1)) = if vs[p - 1] = vs[p] then compL (vs.take p) else compL (vs.take p) ++ [vs[p]]:=by
 obtain ⟨q,rfl⟩ : ∃ q,p = q + 1:=⟨p - 1,by omega⟩
 have e1 : vs.take (q + 1) = vs.take q ++ [vs[q]]:=by rw [List.take_add_one,List.getElem?_eq_getElem (by omega)]; rfl
 have e2 : vs.take (q + 1 + 1) = vs.take q ++ [vs[q],vs[q + 1]]:=by rw [List.take_add_one,e1,List.getElem?_eq_getElem h2]; simp only [Option.toList_some,List.append_assoc,List.cons_append,List.nil_append]
 simp only [Nat.add_sub_cancel]
 rw [e2,compL_snoc2,e1]
theorem compL_none {α : Type} [DecidableEq α] {vs : List α} : ∀ k,k ≤ vs.length → (∀ j (h : j < vs.length),1 ≤ j → j < k → vs[j - 1] ≠ vs[j]) → compL (vs.take k) = vs.take k
 | 0,_,_ => rfl
 | 1,_,_ => by cases vs <;> rfl
 | k + 2,hk,h => by
  have ih:=compL_none (k + 1) (by omega) (fun j hj h1 h2 => h j hj h1 (by omega))
  rw [compL_take (by omega) (by omega),if_neg (h (k + 1) (by omega) (by omega) (by omega)),ih,List.take_add_one (i:=k + 1),List.getElem?_eq_getElem (by omega)]
  rfl
structure CpI (vs us : List VoteE) (k p : Nat) : Prop where
  lt : k < p
  le : p ≤ vs.length
  len : us.length = vs.length
  low : us.take k = compL (vs.take p)
  high : us.drop (p - 1) = vs.drop (p - 1)
theorem CpI.at {vs us : List VoteE} {k p j : Nat} (h : CpI vs us k p) (hj : p - 1 ≤ j) (hl : j < vs.length) : us[j]? = some vs[j]:=by
 have h1:=congrArg (·[j - (p - 1)]?) h.high
 simp only [List.getElem?_drop] at h1
 rw [show p - 1 + (j - (p - 1)) = j by omega,List.getElem?_eq_getElem hl] at h1
 exact h1
theorem CpI.same {vs us : List VoteE} {k p : Nat} (h : CpI vs us k p) (hp : p < vs.length) (he : vs[p - 1] = vs[p]) : CpI vs us k (p + 1):=by
 have hlt:=h.lt
 refine ⟨by omega,hp,h.len,by rw [compL_take (by omega) hp,if_pos he]; exact h.low,?_⟩
 have:=congrArg (List.drop 1) h.high
 rw [List.drop_drop,List.drop_drop,show p - 1 + 1 = p + 1 - 1 by omega] at this
 exact this
theorem CpI.new {vs us : List VoteE} {k p : Nat} (h : CpI vs us k p) (hp : p < vs.length) (he : vs[p - 1] ≠ vs[p]) : CpI vs (us.set k vs[p]) (k + 1) (p + 1):=by
 have hlt:=h.lt
 have hk : k < (us.set k vs[p]).length:=by rw [List.length_set,h.len]; omega
 refine ⟨by omega,hp,by rw [List.length_set,h.len],?_,?_⟩
 ·rw [compL_take (by omega) hp,if_neg he,List.take_add_one,List.getElem?_eq_getElem hk,List.getElem_set_self,List.take_set_of_le (Nat.le_refl _),h.low]; rfl
 ·rw [List.drop_set_of_lt (by omega)]
  have:=congrArg (List.drop 1) h.high
  rw [List.drop_drop,List.drop_drop,show p - 1 + 1 = p + 1 - 1 by omega] at this
  exact this
theorem differV {x y : VoteE} (h : x ≠ y) : ((x.run == y.run) = false) ∨ ((x.run == y.run) = true ∧ (x.who == y.who) = false) ∨ ((x.run == y.run) = true ∧ (x.who == y.who) = true ∧ (x.at_ == y.at_) = false) ∨ ((x.run == y.run) = true ∧ (x.who == y.who) = true ∧ (x.at_ == y.at_) = true ∧ (x.kind == y.kind) = false):=by
 by_cases h1 : x.run = y.run
 ·by_cases h2 : x.who = y.who
  ·by_cases h3 : x.at_ = y.at_
   ·have h4 : x.kind ≠ y.kind:=fun h4 => h (by cases x; cases y; simp_all)
    exact .inr (.inr (.inr ⟨by simpa using h1,by simpa using h2,by simpa using h3,by simpa using h4⟩))
   ·exact .inr (.inr (.inl ⟨by simpa using h1,by simpa using h2,by simpa using h3⟩))
  ·exact .inr (.inl ⟨by simpa using h1,by simpa using h2⟩)
 ·exact .inl (by simpa using h1)
def CmpP (w : World) (base : Nat) (A : Option Addr) (c : Nat) (vs : List VoteE) (e : Ending) (w' : World) : Prop:=e = .returned (.slice A (compL vs).length c) ∧ w'.ownsRow base 37 4 (.slice A (compL vs).length c) (compL vs).length ((compL vs).flatMap encV) ∧ w.grownBy w' (Value.slice A vs.length c).ownBlock
theorem compL_short {vs : List VoteE} (h : vs.length < 2) : compL vs = vs:=by
 match vs,h with
 | [],_ => rfl
 | [_],_ => rfl
set_option maxHeartbeats 4000000 in
theorem compactV_any (A : Option Addr) (c base : Nat) (vs : List VoteE) (w : World) (ho : w.ownsRow base 37 4 (.slice A vs.length c) vs.length (vs.flatMap encV)) (hl : vs.length ≤ 1000) :
  Calls Tryz.prog 55 #[.slice A vs.length c] w (CmpP w base A c vs):=by
 by_cases h2 : vs.length < 2
 ·have HE : Hid (CmpP w base A c vs (.returned (.slice A vs.length c)) w):=Lib.hid (by
   unfold CmpP
   rw [compL_short h2]
   exact ⟨rfl,ho,World.grownBy.refl _ _⟩)
  clear ho
  go_enter Tryz.func55,Tryz.ntmps55
  go_wp2_with fail
  go_ret
  exact HE.out
 ·obtain ⟨b,hA,hbb,hbz,-,-⟩:=ownBlk ho (by omega)
  subst hA
  have hcap:=own_capV ho
  obtain ⟨n,hn⟩ : ∃ n,vs.length = n:=⟨_,rfl⟩
  have HN:=Lib.hid hn
  have HC : Hid (SrtC w w base b c n vs):=Lib.hid ⟨by rw [← hn]; exact ho,World.grownBy.refl _ _,hn⟩
  rw [hn] at hcap h2 hl ⊢
  clear ho hn hbb hbz
  go_enter Tryz.func55,Tryz.ntmps55
  go_wp2_with fail
  go_loopw [3] (fun x wr => ∃ k : Nat,x = .int .i64 k ∧ 1 ≤ k ∧ k ≤ n ∧ Hid (∀ j (h : j < vs.length),1 ≤ j → j < k → vs[j - 1] ≠ vs[j]) ∧ Hid (SrtC w wr base b c n vs)) (fun x _ => n - (intOf x).toNat)
  case atStart => exact ⟨1,rfl,Nat.le_refl _,by omega,Lib.hid (fun j _ h1 h2 => by omega),HC⟩
  case round =>
   clear HC
   obtain ⟨k,rfl,hk1,hkn,HD,HC⟩:=hrel
   by_cases hlt : k < n
   ·obtain ⟨k0,hk0⟩ : ∃ k0,k = k0 + 1:=⟨k - 1,by omega⟩
    have wk : IntKind.i64.wrap ((k : Int) - 1) = (k0 : Int):=by rw [IntWalk.i64_in _ ⟨by omega,by omega⟩]; omega
    have hk0n : k0 < n:=by omega
    obtain ⟨x,hx⟩ : ∃ x,vs[k]? = some x:=⟨vs[k]'(by have:=HN.out; omega),List.getElem?_eq_getElem _⟩
    obtain ⟨y,hy⟩ : ∃ y,vs[k0]? = some y:=⟨vs[k0]'(by have:=HN.out; omega),List.getElem?_eq_getElem _⟩
    obtain ⟨hbz,⟨c0,c1,c2,c3⟩,-⟩:=HC.out.atS hx
    obtain ⟨-,⟨d0,d1,d2,d3⟩,-⟩:=HC.out.atS hy
    have HNX : Hid (x ≠ y → ∀ j (h : j < vs.length),1 ≤ j → j < k + 1 → vs[j - 1] ≠ vs[j]):=Lib.hid (fun hne j h h1 h2 => by
     rcases Nat.lt_or_ge j k with h3 | h3
     ·exact HD.out j h h1 h3
     ·have hjk : j = k:=by omega
      subst hjk
      have e1:=(List.getElem?_eq_some_iff.1 hx).2
      obtain ⟨hq,e2⟩:=List.getElem?_eq_some_iff.1 hy
      have e3 : vs[j - 1] = vs[k0]:=by simp only [hk0,Nat.add_sub_cancel]
      rw [e3,e2,e1]
      exact fun h => hne h.symm)
    have HFD : Hid (x = y → CpI vs vs k (k + 1)):=Lib.hid (fun he => by
     obtain ⟨hkl,e1⟩:=List.getElem?_eq_some_iff.1 hx
     obtain ⟨hq,e2⟩:=List.getElem?_eq_some_iff.1 hy
     refine ⟨by omega,by omega,rfl,?_,rfl⟩
     have e3 : vs[k - 1] = vs[k0]:=by simp only [hk0,Nat.add_sub_cancel]
     have h9 : vs[k - 1] = vs[k]:=by rw [e3,e2,e1,he]
     rw [compL_take hk1 hkl,if_pos h9,compL_none k (by omega) HD.out])
    clear hx hy HD hk0
    by_cases he : x = y
    ·have HF:=Lib.hid (HFD.out he)
     have HC1:=Lib.hid (fun q : Nat => HC.out.keep (below_drewN' (Below.refl _ _) q))
     subst he
     clear HNX HFD HC
     go_wp2_with fail
     go_quiet (fail)
     clear c0 c1 c2 c3 d0 d1 d2 d3 wk
     have hkz : 1 ≤ n - k:=by omega
     go_wp2_with fail
     go_loopw [3,5] (fun sk s2 wr => ∃ (m p2 : Nat) (us : List VoteE),sk = .int .i64 m ∧ s2 = .int .i64 p2 ∧ 1 ≤ p2 ∧ m < k + p2 ∧ k + p2 ≤ n ∧ Hid (CpI vs us m (k + p2)) ∧ Hid (SrtC w wr base b c n us)) (fun _ s2 _ => n - k - (intOf s2).toNat)
     case atStart => exact ⟨k,1,vs,rfl,rfl,Nat.le_refl _,by omega,by omega,HF,Lib.hid (HC1.out _)⟩
     case round =>
      clear HF HC1 hbz
      obtain ⟨m,p2,us,rfl,rfl,hp1,hmp,hpn,HI,HC⟩:=hrel
      by_cases hlt2 : k + p2 < n
      ·obtain ⟨q2,hq2⟩ : ∃ q2,p2 = q2 + 1:=⟨p2 - 1,by omega⟩
       have wk2 : IntKind.i64.wrap ((p2 : Int) - 1) = (q2 : Int):=by rw [IntWalk.i64_in _ ⟨by omega,by omega⟩]; omega
       have hl2 : (p2 : Int) < ((n - k : Nat) : Int):=by omega
       have hq2n : q2 < n - k:=by omega
       have hp2n : p2 < n - k:=by omega
       obtain ⟨x2,hx2v⟩ : ∃ x,vs[k + p2]? = some x:=⟨vs[k + p2]'(by have:=HN.out; omega),List.getElem?_eq_getElem _⟩
       obtain ⟨y2,hy2v⟩ : ∃ y,vs[k + q2]? = some y:=⟨vs[k + q2]'(by have:=HN.out; omega),List.getElem?_eq_getElem _⟩
       have hx2 : us[k + p2]? = some x2:=by
        obtain ⟨h,e⟩:=List.getElem?_eq_some_iff.1 hx2v
        rw [HI.out.at (by omega) h,e]
       have hy2 : us[k + q2]? = some y2:=by
        obtain ⟨h,e⟩:=List.getElem?_eq_some_iff.1 hy2v
        rw [HI.out.at (by omega) h,e]
       obtain ⟨hbz,⟨c0,c1,c2,c3⟩,-⟩:=HC.out.atS hx2
       obtain ⟨-,⟨d0,d1,d2,d3⟩,-⟩:=HC.out.atS hy2
       rw [Nat.add_mul] at c0 c1 c2 c3 d0 d1 d2 d3
       have HNW : Hid (x2 ≠ y2 → CpI vs (us.set m x2) (m + 1) (k + (p2 + 1))):=Lib.hid (fun hne => by
        obtain ⟨h,e⟩:=List.getElem?_eq_some_iff.1 hx2v
        obtain ⟨h',e'⟩:=List.getElem?_eq_some_iff.1 hy2v
        have e3 : vs[k + p2 - 1]'(by omega) = vs[k + q2]:=by simp only [show k + p2 - 1 = k + q2 by omega]
        have:=HI.out.new h (by rw [e3,e',e]; exact fun h => hne h.symm)
        rwa [e] at this)
       have HSM : Hid (x2 = y2 → CpI vs us m (k + (p2 + 1))):=Lib.hid (fun he => by
        obtain ⟨h,e⟩:=List.getElem?_eq_some_iff.1 hx2v
        obtain ⟨h',e'⟩:=List.getElem?_eq_some_iff.1 hy2v
        have e3 : vs[k + p2 - 1]'(by omega) = vs[k + q2]:=by simp only [show k + p2 - 1 = k + q2 by omega]
        exact HI.out.same h (by rw [e3,e',e,he]))
       clear hx2v hy2v hx2 hy2 HI hq2
       by_cases he : x2 = y2
       ·have HF:=Lib.hid (HSM.out he)
        have HC1:=Lib.hid (fun q : Nat => HC.out.keep (below_drewN' (Below.refl _ _) q))
        subst he
        clear HSM HNW HC
        go_wp2_with fail
        go_quiet (fail)
        clear c0 c1 c2 c3 d0 d1 d2 d3 wk2
        go_wp2_with fail
        go_roundw
        case rel => exact ⟨m,p2 + 1,us,rfl,by go_num,by omega,by omega,by omega,HF,Lib.hid (HC1.out _)⟩
        case measure => simp [intOf]; omega
       ·have HF:=Lib.hid (HNW.out he)
        have hmn : m < n:=by omega
        have HC1:=Lib.hid (fun q : Nat => (HC.out.keep (below_drewN' (Below.refl _ _) q)).put hmn x2)
        have hlu:=HC.out.len
        have hmu : us[m]? = some (us[m]'(by omega)):=List.getElem?_eq_getElem _
        obtain ⟨-,⟨b0,b1,b2,b3⟩,f0,f1,f2,f3⟩:=HC.out.atS hmu
        have hdf:=differV he
        clear HSM HNW he hmu HC
        rcases hdf with h1 | ⟨h1,h2⟩ | ⟨h1,h2,h3⟩ | ⟨h1,h2,h3,h4⟩ <;>
        ·go_wp2_with fail
         go_quiet (fail)
         go_wp2_with fail
         go_roundw
         case rel => exact ⟨m + 1,p2 + 1,us.set m x2,by go_num,by go_num,by omega,by omega,by omega,HF,Lib.hid (HC1.out _)⟩
         case measure => simp [intOf]; omega
      ·have hkk : k + p2 = n:=by omega
       have hmn : m < n:=by omega
       obtain ⟨L,hclr⟩:=run_clear4 wr 26 37 #[.string ⟨#[]⟩,.string ⟨#[]⟩,.int .i64 0,.int .i64 0] Tryz.underlying26 (fun w => Tryz.zeroValue37 w) rfl (fun i hi => by match i,hi with
        | 0,_ => rfl
        | 1,_ => rfl
        | 2,_ => rfl
        | 3,_ => rfl) b (m * 4) (n - m) (c - m) (by omega) (fun j hj => by
         obtain ⟨b',e,-,-,h3,-⟩:=ownBlk HC.out.own (by omega)
         injection e with e; injection e with e1 e2
         subst e1
         have hlen : (us.flatMap encV).length = us.length * 4:=flat_len4 encV 4 encV_len us
         have hlu:=HC.out.len
         have hjj : m * 4 + j < (us.flatMap encV).length:=by rw [hlen]; omega
         rw [h3 _ _ (List.getElem?_eq_getElem hjj)]; rfl) (fun j hj => by
         obtain ⟨b',e,-,-,-,h4⟩:=ownBlk HC.out.own (by omega)
         injection e with e; injection e with e1 e2
         subst e1
         exact h4 _)
       have hus : us.take m = compL vs:=by
        rw [HI.out.low,hkk,← HN.out,List.take_length]
       have hml : (compL vs).length = m:=by
        have hlu:=HC.out.len
        rw [← hus,List.length_take]; omega
       have HF : Hid ((wr.setCells b (m * 4) L).ownsRow base 37 4 (.slice (some ⟨b,0,none⟩) (compL vs).length c) (compL vs).length ((compL vs).flatMap encV)):=Lib.hid (by
        have h1:=own_take HC.out.own (show m ≤ n by omega)
        rw [flat_takeV,hus] at h1
        rw [hml]
        exact own_beyond L (m * 4) wr (by rw [flat_len4 encV 4 encV_len,hml]; exact Nat.le_refl _) h1)
       have HG:=Lib.hid (grown_sets L (m * 4) wr HC.out.gr)
       have HML:=Lib.hid hml
       clear hus hml HC HI hkk
       have hl2 : ¬ (p2 : Int) < ((n - k : Nat) : Int):=by omega
       go_wp2_with fail
       go_ret
       exact ⟨by rw [HML.out] <;> rfl,HF.out,HG.out⟩
    ·have HF:=Lib.hid (HNX.out he)
     have HC1:=Lib.hid (fun q : Nat => HC.out.keep (below_drewN' (Below.refl _ _) q))
     have hdf:=differV he
     clear HNX HFD he HC
     rcases hdf with h1 | ⟨h1,h2⟩ | ⟨h1,h2,h3⟩ | ⟨h1,h2,h3,h4⟩ <;>
     ·go_wp2_with fail
      go_quiet (fail)
      go_wp2_with fail
      go_roundw
      case rel => exact ⟨k + 1,by go_num,by omega,hlt,HF,Lib.hid (HC1.out _)⟩
      case measure => simp [intOf]; omega
   ·have hkk : k = n:=by omega
    have HE : Hid (CmpP w base (some ⟨b,0,none⟩) c vs (.returned (.slice (some ⟨b,0,none⟩) n c)) wr):=Lib.hid (by
     have h9:=compL_none vs.length (Nat.le_refl _) (fun j h h1 h2 => HD.out j h h1 (by have:=HN.out; omega))
     rw [List.take_length] at h9
     unfold CmpP
     rw [h9,HN.out]
     exact ⟨rfl,HC.out.own,HC.out.gr⟩)
    go_wp2_with fail
    go_ret
    exact HE.out
set_option maxHeartbeats 1000000 in
theorem equalVt_any (A B : Option Addr) (c d lo lo' : Nat) (ps qs : List VoteE) (w : World) (hr : Row w lo 4 A ps.length (ps.flatMap encV)) (hr' : Row w lo' 4 B qs.length (qs.flatMap encV)) (hl : ps.length ≤ 1000000) (hl' : qs.length ≤ 1000000) :
  Calls Tryz.prog 20 #[.slice A ps.length c,.slice B qs.length d] w fun e w' => e = .returned (.bool (decide (ps = qs))) ∧ ∃ q,w' = w.drewN q:=by
 by_cases hlen : ps.length = qs.length
 ·have h0 : ((ps.length : Int) != (qs.length : Int)) = false:=by simp [hlen]
  have HLEN:=Lib.hid hlen
  clear hlen
  go_enter Tryz.func20,Tryz.ntmps20
  go_wp2_with fail
  go_loopw [13] (fun i wr => ∃ (k : Nat) (q : Nat),k ≤ ps.length ∧ i = .int .i64 k ∧ Hid (ps.take k = qs.take k) ∧ wr = w.drewN q) (fun i _ => ps.length - (intOf i).toNat)
  case atStart => exact ⟨0,0,Nat.zero_le _,rfl,Lib.hid rfl,rfl⟩
  case round =>
   obtain ⟨k,q,hk,rfl,htk,rfl⟩:=hrel
   by_cases hlt : k < ps.length
   ·have hlt' : k < qs.length:=by have:=HLEN.out; omega
    obtain ⟨b,off,rfl,hbs,-,hcl⟩:=votes_at hr (by omega)
    obtain ⟨b',off',rfl,hbs',-,hcl'⟩:=votes_at hr' (by omega)
    obtain ⟨c0,c1,c2,c3⟩:=hcl k hlt
    obtain ⟨d0,d1,d2,d3⟩:=hcl' k hlt'
    clear hcl hcl'
    obtain ⟨x,hx⟩ : ∃ x,x = ps[k]:=⟨_,rfl⟩
    obtain ⟨y,hy⟩ : ∃ y,y = qs[k]:=⟨_,rfl⟩
    rw [← hx] at c0 c1 c2 c3
    rw [← hy] at d0 d1 d2 d3
    have HN : Hid ((x = y → ps.take (k + 1) = qs.take (k + 1)) ∧ (x ≠ y → ps ≠ qs)):=Lib.hid ⟨fun he => by rw [List.take_succ_eq_append_getElem hlt,List.take_succ_eq_append_getElem hlt',htk.out,← hx,← hy,he],fun hne h => hne (by subst h; rw [hx,hy])⟩
    clear hx hy hr hr'
    by_cases he : x = y
    ·have HN2:=Lib.hid (HN.out.1 he)
     subst he
     clear HN
     go_wp2_with fail
     go_quiet (fail)
     go_wp2_with fail
     go_roundw
     case rel => exact ⟨k + 1,_,by omega,by go_num,HN2,rfl⟩
     case measure => simp [intOf]; omega
    ·have HN2:=Lib.hid (HN.out.2 he)
     have hdf:=differV he
     clear HN he
     rcases hdf with h1 | ⟨h1,h2⟩ | ⟨h1,h2,h3⟩ | ⟨h1,h2,h3,h4⟩ <;>
     ·go_wp2_with fail
      go_quiet (fail)
      go_wp2_with fail
      go_ret
      exact ⟨ret_bool' (by simp [HN2.out]),_,World.drewN_drewN _ _ _⟩
   ·have HN : Hid (ps = qs):=Lib.hid (by
     have:=htk.out
     have hh:=HLEN.out
     rwa [List.take_of_length_le (by omega),List.take_of_length_le (by omega)] at this)
    go_wp2_with fail
    go_ret
    exact ⟨ret_bool' (by simp [HN.out]),_,rfl⟩
 ·have h0 : ((ps.length : Int) != (qs.length : Int)) = true:=by rw [bne_iff_ne]; omega
  have HN : Hid (¬ ps = qs):=Lib.hid (fun h => hlen (by rw [h]))
  clear hlen
  go_enter Tryz.func20,Tryz.ntmps20
  go_wp2_with fail
  go_ret
  exact ⟨ret_bool' (by simp [HN.out]),0,rfl⟩
end Go.Proofs.YtgeaeockmadhcaaGreatDoor
