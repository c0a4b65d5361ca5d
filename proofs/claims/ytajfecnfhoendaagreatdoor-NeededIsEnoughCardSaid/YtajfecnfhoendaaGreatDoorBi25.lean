/- Texts of this seat, laid together: VoL. -/
import Derived.Lib.SliceRun
import Derived.Test.YtajfecnfhoendaaGreatDoorBi21
import Derived.Test.YtajfecnfhoendaaGreatDoorBi24
/- The walks of slices.Clone over judges and votes, of slices.IndexFunc and slices.DeleteFunc over votes by NeededIsEnough's closure. -/
namespace Go.Proofs.YtajfecnfhoendaaGreatDoor
set_option linter.unusedVariables false
set_option linter.unusedSimpArgs false
open Go.RowKit

theorem all_flat {α : Type} (enc : α → List Value) (h : ∀ x,(enc x).all (·.oneCell') = true) (l : List α) : (l.flatMap enc).all (·.oneCell') = true:=by
 rw [List.all_flatMap]; simp only [h]; simp
theorem encJ_all (l : List JudgeE) : (l.flatMap encJ).all (·.oneCell') = true:=all_flat _ (fun _ => rfl) l
set_option maxHeartbeats 1000000 in
theorem cloneJ_any (A : Option Addr) (c lo : Nat) (ps : List JudgeE) (w : World) (hr : Row w lo 4 A ps.length (ps.flatMap encJ)) (hl : ps.length ≤ 1000000) :
  Calls Tryz.prog 13 #[.slice A ps.length c] w fun e w' => ∃ A' c',e = .returned (.slice A' ps.length c') ∧ w'.ownsRow w.heap.size 49 4 (.slice A' ps.length c') ps.length (ps.flatMap encJ) ∧ Below w.heap.size w w':=by
 have hnil:=fun (r : Option Addr) (n c : Nat) (w : World) => Lib.run_eql_slice_nil (P:=Tryz.prog) w 28 49 r n c 0 0 Tryz.underlying28
 cases A with
 | none =>
  have hz : ps.length = 0:=by
   rcases Nat.eq_zero_or_pos ps.length with h | h
   ·exact h
   ·obtain ⟨b,off,h1,_⟩:=hr.2 h
    cases h1
  have HZ:=Lib.hid hz
  clear hz
  go_enter Tryz.func13,Tryz.ntmps13
  go_wp2_with fail
  go_ret
  refine ⟨none,0,?_,?_,Below.refl _ _⟩
  ·rw [HZ.out]; rfl
  ·have : ps = []:=List.eq_nil_of_length_eq_zero HZ.out
   subst this
   exact World.ownsRow_nil _ _ _ _
 | some ad =>
  have hown0 : (w.alloc (.cells #[] 49)).ownsRow w.heap.size 49 4 (.slice (some ⟨w.heap.size,0,none⟩) 0 0) 0 []:=World.ownsRow_made w #[] 0 (Nat.le_refl _) (by simp [maxLen]) rfl
  go_enter Tryz.func13,Tryz.ntmps13
  go_wp2_with (at_builtin; go_must (refine wpList_app _ _ rfl _ _ ty_judges rfl hown0 rfl (hr.alloc _) rfl (encJ_all _) (by omega) (by omega) (by simp) ?_))
  intro A5 c5 w5 hown5 hg5 _
  go_wp2_with fail
  go_ret
  exact ⟨A5,c5,by first | rfl | simp,hown5,below_app hown0 ((Below.refl _ _).alloc (Nat.le_refl _) _) hg5 (Nat.le_refl _) (by simp)⟩
theorem encV_all (l : List VoteE) : (l.flatMap encV).all (·.oneCell') = true:=all_flat _ (fun _ => rfl) l
set_option maxHeartbeats 1000000 in
theorem cloneV_any (A : Option Addr) (c lo : Nat) (ps : List VoteE) (w : World) (hr : Row w lo 4 A ps.length (ps.flatMap encV)) (hl : ps.length ≤ 1000000) :
  Calls Tryz.prog 15 #[.slice A ps.length c] w fun e w' => ∃ A' c',e = .returned (.slice A' ps.length c') ∧ w'.ownsRow w.heap.size 52 4 (.slice A' ps.length c') ps.length (ps.flatMap encV) ∧ Below w.heap.size w w':=by
 have hnil:=fun (r : Option Addr) (n c : Nat) (w : World) => Lib.run_eql_slice_nil (P:=Tryz.prog) w 26 52 r n c 0 0 Tryz.underlying26
 cases A with
 | none =>
  have hz : ps.length = 0:=by
   rcases Nat.eq_zero_or_pos ps.length with h | h
   ·exact h
   ·obtain ⟨b,off,h1,_⟩:=hr.2 h
    cases h1
  have HZ:=Lib.hid hz
  clear hz
  go_enter Tryz.func15,Tryz.ntmps15
  go_wp2_with fail
  go_ret
  refine ⟨none,0,?_,?_,Below.refl _ _⟩
  ·rw [HZ.out]; rfl
  ·have : ps = []:=List.eq_nil_of_length_eq_zero HZ.out
   subst this
   exact World.ownsRow_nil _ _ _ _
 | some ad =>
  have hown0 : (w.alloc (.cells #[] 52)).ownsRow w.heap.size 52 4 (.slice (some ⟨w.heap.size,0,none⟩) 0 0) 0 []:=World.ownsRow_made w #[] 0 (Nat.le_refl _) (by simp [maxLen]) rfl
  go_enter Tryz.func15,Tryz.ntmps15
  go_wp2_with (at_builtin; go_must (refine wpList_app _ _ rfl _ _ ty_votes rfl hown0 rfl (hr.alloc _) rfl (encV_all _) (by omega) (by omega) (by simp) ?_))
  intro A5 c5 w5 hown5 hg5 _
  go_wp2_with fail
  go_ret
  exact ⟨A5,c5,by first | rfl | simp,hown5,below_app hown0 ((Below.refl _ _).alloc (Nat.le_refl _) _) hg5 (Nat.le_refl _) (by simp)⟩
theorem own_take {w : World} {base b c n m : Nat} {e : TypeId} {size : Nat} {xs : List Value} (h : w.ownsRow base e size (.slice (some ⟨b,0,none⟩) n c) n xs) (hm : m ≤ n) : w.ownsRow base e size (.slice (some ⟨b,0,none⟩) m c) m (xs.take (m * size)):=by
 have hmn : m * size ≤ n * size:=Nat.mul_le_mul_right _ hm
 obtain ⟨h1,h2⟩:=h
 refine ⟨by rw [List.length_take]; omega,?_⟩
 rcases h2 with ⟨hv,hn⟩ | ⟨g,cap,cur,hv,hb,hgg,hc1,hc2,hc3,hc4⟩
 ·cases hv
 ·refine .inr ⟨g,cap,cur,?_,hb,hgg,by omega,hc2,hc3,?_⟩
  ·injection hv with a1 a2 a3; rw [a1,a3]
  ·rw [← hc4,List.take_take,Nat.min_eq_left hmn]
theorem own_beyond {base b c m : Nat} {e : TypeId} {size : Nat} {xs : List Value} : ∀ (L : List Value) (o : Nat) (w : World),xs.length ≤ o → w.ownsRow base e size (.slice (some ⟨b,0,none⟩) m c) m xs → (w.setCells b o L).ownsRow base e size (.slice (some ⟨b,0,none⟩) m c) m xs
 | [],_,_,_,h => h
 | v :: r,o,w,hl,h => own_beyond r (o + 1) _ (by omega) (by
  have:=(h.stored o v).1
  rwa [List.set_eq_of_length_le hl] at this)
theorem grown_sets {a : World} {g : Nat} : ∀ (L : List Value) (o : Nat) (b : World),a.grownBy b (some g) → a.grownBy (b.setCells g o L) (some g)
 | [],_,_,h => h
 | v :: r,o,b,h => grown_sets r (o + 1) _ (grown_set h o v)
theorem flat_takeV (us : List VoteE) (m : Nat) : (us.flatMap encV).take (m * 4) = (us.take m).flatMap encV:=by
 induction us generalizing m with
 | nil => simp
 | cons x us ih =>
  cases m with
  | zero => simp
  | succ m =>
   rw [List.take_succ_cons,List.flatMap_cons,List.flatMap_cons,Nat.add_mul,Nat.one_mul,Nat.add_comm (m * 4) 4,← ih m]
   rw [show 4 + m * 4 = (encV x).length + m * 4 from rfl,List.take_length_add_append]
theorem run_clear4 (w : World) (t e : TypeId) (cs : Array Value) (ht : Tryz.prog.underlying t = some (.slice e)) (hv : ∀ w,(zeroValue e).run Tryz.prog w = .ok (.agg cs) w) (h4 : cs.size = 4) (hone : ∀ i,i < 4 → (cs[i]!).oneCell' = true) (b o n c : Nat) (hn : 0 < n)
  (hc : ∀ j,j < n * 4 → (w.cell? ⟨b,o + j,none⟩).isSome = true) (hf : ∀ j,j < n * 4 → w.frozen? ⟨b,o + j,none⟩ = false) :
  ∃ L : List Value,∀ ty,(Builtin.clear_ #[t] ty #[.slice (some ⟨b,o,none⟩) n c]).run Tryz.prog w = .ok (.tuple #[]) (w.setCells b o L):=by
 have hlen : (Builtin.zeroCells cs n).toList.length = n * 4:=by simp [Builtin.zeroCells,h4]
 refine ⟨(Builtin.zeroCells cs n).toList,fun ty => ?_⟩
 have hst:=run_storeCells_cells (P:=Tryz.prog) b o (Builtin.zeroCells cs n).toList 0 w (by intro j hj; rw [hlen] at hj; rw [Nat.add_zero]; exact hc j hj) (by intro j hj; rw [hlen] at hj; rw [Nat.add_zero]; exact hf j hj) (by
  intro v hv'
  unfold Builtin.zeroCells at hv'
  rw [Array.mem_toList_iff,Array.mem_map] at hv'
  obtain ⟨i,-,rfl⟩:=hv'
  rw [h4]
  exact hone _ (Nat.mod_lt _ (by decide)))
 simp only [Nat.add_zero] at hst
 obtain ⟨m,rfl⟩ : ∃ m,n = m + 1:=⟨n - 1,by omega⟩
 simp [Builtin.clear_,run_underlying ht,hv,Value.cells,hst]
theorem needC_any (v : VoteE) (g : Nat) (t : Int) (w : World) (hg : Blk w g 3 #[.int .i64 t]) :
  Calls Tryz.prog 16 #[.agg #[.string ⟨v.run.toArray⟩,.string ⟨v.who.toArray⟩,.int .i64 v.at_,.int .i64 v.kind],.pointer (some ⟨g,0,none⟩)] w fun e w' => e = .returned (.bool (!relB r1W t v)) ∧ Below w.heap.size w w':=by
 have c0 : w.cell? ⟨g,0,none⟩ = some (.int .i64 t):=by simpa using hg.cell 0
 have zg:=hg.lt
 have hR : Hid (relB r1W t v = ((v.run == [114,49]) && !decide (t < v.at_))):=Lib.hid (by
  unfold relB r1W
  have h1 : decide (v.run = [114,49]) = (v.run == [114,49]):=by rw [Bool.eq_iff_iff]; simp
  have h2 : decide (v.at_ ≤ t) = !decide (t < v.at_):=by rw [Bool.eq_iff_iff]; simp
  rw [h1,h2])
 clear hg
 generalize v.who = vw at *
 generalize v.kind = vk at *
 generalize v.run = vr at *
 generalize v.at_ = va at *
 obtain ⟨q1,h1⟩ : ∃ q1,(vr == [114,49]) = q1:=⟨_,rfl⟩
 rw [h1] at hR
 by_cases h2 : t < va
 ·have hR2:=hR.out
  rw [decide_eq_true h2] at hR2
  have HR:=Lib.hid hR2
  clear hR hR2
  cases q1 <;>
  ·go_enter Tryz.func16,Tryz.ntmps16
   go_wp2_with fail
   go_ret
   exact ⟨by rw [HR.out]; rfl,(Below.refl _ _).alloc (Nat.le_refl _) _⟩
 ·have hR2:=hR.out
  rw [decide_eq_false h2] at hR2
  have HR:=Lib.hid hR2
  clear hR hR2
  cases q1 <;>
  ·go_enter Tryz.func16,Tryz.ntmps16
   go_wp2_with fail
   go_ret
   exact ⟨by rw [HR.out]; rfl,(Below.refl _ _).alloc (Nat.le_refl _) _⟩
def IdxP (vs : List VoteE) (t : Int) (e : Ending) : Prop:=(∃ k : Nat,∃ h : k < vs.length,e = .returned (.int .i64 k) ∧ relB r1W t vs[k] = false ∧ ∀ j (hj : j < vs.length),j < k → relB r1W t vs[j] = true) ∨ (e = .returned (.int .i64 (-1)) ∧ ∀ v ∈ vs,relB r1W t v = true)
set_option maxHeartbeats 1000000 in
theorem idxV_any (A : Option Addr) (c g lo : Nat) (vs : List VoteE) (t : Int) (w : World) (hr : Row w lo 4 A vs.length (vs.flatMap encV)) (hg : Blk w g 3 #[.int .i64 t]) (hl : vs.length ≤ 1000000) :
  Calls Tryz.prog 46 #[.slice A vs.length c,.func (.func 16) #[] #[.pointer (some ⟨g,0,none⟩)]] w fun e w' => IdxP vs t e ∧ Below w.heap.size w w':=by
 go_enter Tryz.func46,Tryz.ntmps46
 go_wp2_with fail
 go_loopw [8] (fun i wr => ∃ k : Nat,k ≤ vs.length ∧ i = .int .i64 k ∧ Hid (∀ j (hj : j < vs.length),j < k → relB r1W t vs[j] = true) ∧ Below w.heap.size w wr) (fun i _ => vs.length - (intOf i).toNat)
 case atStart => exact ⟨0,Nat.zero_le _,rfl,Lib.hid (fun _ _ h => absurd h (Nat.not_lt_zero _)),Below.refl _ _⟩
 case round =>
  obtain ⟨k,hk,rfl,HA,hbw⟩:=hrel
  by_cases hlt : k < vs.length
  ·obtain ⟨b,off,rfl,hbs,-,hcl⟩:=votes_at (hr.below hbw) (by omega)
   obtain ⟨c0,c1,c2,c3⟩:=hcl k hlt
   have hgw:=hg.below hbw
   have HCL:=Lib.hid (fun (W : World) (h : Blk W g 3 #[.int .i64 t]) => needC_any vs[k] g t W h)
   clear hcl
   by_cases hrl : relB r1W t vs[k] = true
   ·have HB : Hid (∀ j (hj : j < vs.length),j < k + 1 → relB r1W t vs[j] = true):=Lib.hid (fun j hj hjk => by
     rcases Nat.lt_or_ge j k with h | h
     ·exact HA.out j hj h
     ·have : j = k:=by omega
      subst this; exact hrl)
    have HRL:=Lib.hid hrl
    clear hrl
    generalize vs[k] = v at *
    go_wp2_with fail
    refine (HCL.out _ hgw).mono ?_
    rintro e w2 ⟨rfl,hb2⟩
    rw [HRL.out]
    have hb9:=below_up hbw hb2
    clear hb2 hgw c0 c1 c2 c3
    go_wp2_with fail
    go_roundw
    case rel => exact ⟨k + 1,by omega,by go_num,HB,hb9⟩
    case measure => simp [intOf]; omega
   ·have hrf : relB r1W t vs[k] = false:=by simpa using hrl
    have HE : Hid (IdxP vs t (.returned (.int .i64 k))):=Lib.hid (.inl ⟨k,hlt,rfl,hrf,HA.out⟩)
    have HRL:=Lib.hid hrf
    clear hrl hrf
    generalize vs[k] = v at *
    go_wp2_with fail
    refine (HCL.out _ hgw).mono ?_
    rintro e w2 ⟨rfl,hb2⟩
    rw [HRL.out]
    have hb9:=below_up hbw hb2
    clear hb2 hgw c0 c1 c2 c3
    go_wp2_with fail
    go_ret
    exact ⟨HE.out,hb9⟩
  ·have HE : Hid (IdxP vs t (.returned (.int .i64 (-1)))):=Lib.hid (.inr ⟨rfl,fun v hv => by
    obtain ⟨j,hj,rfl⟩:=List.mem_iff_getElem.1 hv
    exact HA.out j hj (by omega)⟩)
   go_wp2_with fail
   go_ret
   exact ⟨HE.out,hbw⟩
theorem flat_put4 (us : List VoteE) (m : Nat) (hm : m < us.length) (v : VoteE) : ((((us.flatMap encV).set (m * 4) (.string ⟨v.run.toArray⟩)).set (m * 4 + 1) (.string ⟨v.who.toArray⟩)).set (m * 4 + 2) (.int .i64 v.at_)).set (m * 4 + 3) (.int .i64 v.kind) = (us.set m v).flatMap encV:=by
 have e0:=flat_setV encV 4 encV_len (.string ⟨v.run.toArray⟩) (⟨v.run,us[m].who,us[m].at_,us[m].kind⟩ : VoteE) us m hm 0 (by decide) rfl
 rw [Nat.add_zero] at e0
 have e1:=flat_setV encV 4 encV_len (.string ⟨v.who.toArray⟩) (⟨v.run,v.who,us[m].at_,us[m].kind⟩ : VoteE) (us.set m ⟨v.run,us[m].who,us[m].at_,us[m].kind⟩) m (by simpa using hm) 1 (by decide) (by rw [List.getElem_set_self]; rfl)
 have e2:=flat_setV encV 4 encV_len (.int .i64 v.at_) (⟨v.run,v.who,v.at_,us[m].kind⟩ : VoteE) (us.set m ⟨v.run,v.who,us[m].at_,us[m].kind⟩) m (by simpa using hm) 2 (by decide) (by rw [List.getElem_set_self]; rfl)
 have e3:=flat_setV encV 4 encV_len (.int .i64 v.kind) v (us.set m ⟨v.run,v.who,v.at_,us[m].kind⟩) m (by simpa using hm) 3 (by decide) (by rw [List.getElem_set_self]; rfl)
 rw [List.set_set] at e1 e2 e3
 rw [e0,e1,e2,e3]
structure DelC (w W : World) (base b c g n : Nat) (t : Int) (us : List VoteE) : Prop where
  own : W.ownsRow base 52 4 (.slice (some ⟨b, 0, none⟩) n c) n (us.flatMap encV)
  gr : w.grownBy W (some b)
  cl : Blk W g 3 #[.int .i64 t]
  ne : g ≠ b
  len : us.length = n
section
variable {w W W' : World} {base b c g n : Nat} {t : Int} {us : List VoteE}
theorem DelC.keep (h : DelC w W base b c g n t us) (hb : Below W.heap.size W W') : DelC w W' base b c g n t us:=⟨own_keep h.own hb,grown_trans' h.gr (grown_of_below hb _),h.cl.below hb,h.ne,h.len⟩
theorem DelC.put (h : DelC w W base b c g n t us) {m : Nat} (hm : m < n) (v : VoteE) : DelC w ((((W.setCell ⟨b,m * 4,none⟩ (.string ⟨v.run.toArray⟩)).setCell ⟨b,m * 4 + 1,none⟩ (.string ⟨v.who.toArray⟩)).setCell ⟨b,m * 4 + 2,none⟩ (.int .i64 v.at_)).setCell ⟨b,m * 4 + 3,none⟩ (.int .i64 v.kind)) base b c g n t (us.set m v):=by
 have h1:=(((((h.own.stored (m * 4) (.string ⟨v.run.toArray⟩)).1).stored (m * 4 + 1) (.string ⟨v.who.toArray⟩)).1.stored (m * 4 + 2) (.int .i64 v.at_)).1.stored (m * 4 + 3) (.int .i64 v.kind)).1
 rw [flat_put4 us m (by rw [h.len]; exact hm) v] at h1
 exact ⟨h1,grown_set (grown_set (grown_set (grown_set h.gr _ _) _ _) _ _) _ _,(((h.cl.past b _ _ h.ne).past b _ _ h.ne).past b _ _ h.ne).past b _ _ h.ne,h.ne,by rw [List.length_set]; exact h.len⟩
theorem DelC.at (h : DelC w W base b c g n t us) {k : Nat} (hk : k < us.length) : b < W.heap.size ∧ (W.cell? ⟨b,k * 4,none⟩ = some (.string ⟨us[k].run.toArray⟩) ∧ W.cell? ⟨b,k * 4 + 1,none⟩ = some (.string ⟨us[k].who.toArray⟩) ∧ W.cell? ⟨b,k * 4 + 2,none⟩ = some (.int .i64 us[k].at_) ∧ W.cell? ⟨b,k * 4 + 3,none⟩ = some (.int .i64 us[k].kind)) ∧ W.frozen? ⟨b,k * 4,none⟩ = false ∧ W.frozen? ⟨b,k * 4 + 1,none⟩ = false ∧ W.frozen? ⟨b,k * 4 + 2,none⟩ = false ∧ W.frozen? ⟨b,k * 4 + 3,none⟩ = false:=by
 have h2:=h.len
 subst h2
 obtain ⟨b',off,e,h1,-,h2⟩:=votes_at (Row.of_own h.own) (by omega)
 injection e with e; injection e with e1 e2
 subst e1 e2
 obtain ⟨b'',e,-,-,-,h4⟩:=ownBlk h.own (by omega)
 injection e with e; injection e with e1 e2
 subst e1
 have h3:=h2 k hk
 rw [Nat.zero_add] at h3
 exact ⟨h1,h3,h4 _,h4 _,h4 _,h4 _⟩
end
def DelP (w : World) (base : Nat) (A : Option Addr) (c : Nat) (vs : List VoteE) (t : Int) (e : Ending) (w' : World) : Prop:=e = .returned (.slice A (vs.filter (relB r1W t)).length c) ∧ w'.ownsRow base 52 4 (.slice A (vs.filter (relB r1W t)).length c) (vs.filter (relB r1W t)).length ((vs.filter (relB r1W t)).flatMap encV) ∧ w.grownBy w' (Value.slice A vs.length c).ownBlock
structure StrI (vs us : List VoteE) (t : Int) (m k : Nat) : Prop where
  lt : m < k
  le : k ≤ vs.length
  len : us.length = vs.length
  low : us.take m = (vs.take k).filter (relB r1W t)
  high : us.drop k = vs.drop k
theorem StrI.at {vs us : List VoteE} {t : Int} {m k : Nat} (h : StrI vs us t m k) (hk : k < vs.length) : us[k]'(by rw [h.len]; exact hk) = vs[k]:=by
 have h1:=congrArg (·[0]?) h.high
 simp only [List.getElem?_drop,Nat.add_zero] at h1
 rw [List.getElem?_eq_getElem (by rw [h.len]; exact hk),List.getElem?_eq_getElem hk] at h1
 injection h1
theorem StrI.skip {vs us : List VoteE} {t : Int} {m k : Nat} (h : StrI vs us t m k) (hk : k < vs.length) (hr : relB r1W t vs[k] = false) : StrI vs us t m (k + 1):=by
 refine ⟨by have:=h.lt; omega,hk,h.len,?_,?_⟩
 ·rw [h.low,List.take_add_one,List.getElem?_eq_getElem hk,List.filter_append]
  simp [hr]
 ·rw [← List.drop_drop,← List.drop_drop,h.high]
theorem StrI.keep {vs us : List VoteE} {t : Int} {m k : Nat} (h : StrI vs us t m k) (hk : k < vs.length) (hr : relB r1W t vs[k] = true) : StrI vs (us.set m vs[k]) t (m + 1) (k + 1):=by
 have hlt:=h.lt
 refine ⟨by omega,hk,by rw [List.length_set,h.len],?_,?_⟩
 ·have hm : m < (us.set m vs[k]).length:=by rw [List.length_set,h.len]; omega
  rw [List.take_add_one,List.getElem?_eq_getElem hm,List.getElem_set_self,List.take_set_of_le (Nat.le_refl _),h.low,List.take_add_one,List.getElem?_eq_getElem hk,List.filter_append]
  simp [hr]
 ·rw [List.drop_set_of_lt (by omega),← List.drop_drop,← List.drop_drop,h.high]
set_option maxHeartbeats 2000000 in
theorem deleteV_any (A : Option Addr) (c g base : Nat) (vs : List VoteE) (t : Int) (w : World) (ho : w.ownsRow base 52 4 (.slice A vs.length c) vs.length (vs.flatMap encV)) (hg : Blk w g 3 #[.int .i64 t]) (hgb : g < base) (hl : vs.length ≤ 1000000) :
  Calls Tryz.prog 14 #[.slice A vs.length c,.func (.func 16) #[] #[.pointer (some ⟨g,0,none⟩)]] w (DelP w base A c vs t):=by
 have hrow:=Row.of_own ho
 have HO:=Lib.hid ho
 clear ho
 go_enter Tryz.func14,Tryz.ntmps14
 go_wp2_with fail
 refine (idxV_any A c g _ vs t w hrow hg hl).mono ?_
 rintro e w1 ⟨hE,hb1⟩
 rcases hE with ⟨k0,hk0,rfl,hdel,hkeep⟩ | ⟨rfl,hall⟩
 ·obtain ⟨b,hA,hbb,hbz,-,-⟩:=ownBlk HO.out (by omega)
  subst hA
  have hcap:=own_capV HO.out
  obtain ⟨n,hn⟩ : ∃ n,vs.length = n:=⟨_,rfl⟩
  have HN:=Lib.hid hn
  have HC : Hid (DelC w w1 base b c g n t vs):=Lib.hid (by
   have ho:=HO.out
   rw [hn] at ho
   exact ⟨own_keep ho hb1,grown_of_below hb1 _,hg.below hb1,by omega,hn⟩)
  have HI : Hid (StrI vs vs t k0 (k0 + 1)):=Lib.hid ⟨by omega,by omega,rfl,by
   have hkk : ∀ v ∈ vs.take k0,relB r1W t v = true:=fun v hv => by
    obtain ⟨j,hj,rfl⟩:=List.mem_iff_getElem.1 hv
    rw [List.length_take] at hj
    rw [List.getElem_take]
    exact hkeep j (by omega) (by omega)
   rw [List.take_add_one,List.getElem?_eq_getElem hk0,List.filter_append,List.filter_eq_self.2 hkk]
   simp [hdel],rfl⟩
  have hl2 : n ≤ 1000000:=by omega
  have hk02 : k0 < n:=by omega
  rw [hn] at hcap
  have hne1 : ((k0 : Int) == -1) = false:=beq_eq_false_iff_ne.2 (by omega)
  have HGD:=Lib.hid hgb
  rw [hn]
  clear hdel hkeep hg hrow hb1 hn hl hgb hbb hbz hk0
  go_wp2_with fail
  go_loopw [5,6,7] (fun i j _ wr => ∃ (m k : Nat) (us : List VoteE),i = .int .i64 m ∧ j = .int .i64 k ∧ m < k ∧ k ≤ n ∧ Hid (StrI vs us t m k) ∧ Hid (DelC w wr base b c g n t us)) (fun _ j _ _ => n - (intOf j).toNat)
  case atStart => exact ⟨k0,k0 + 1,vs,rfl,by go_num,by omega,by omega,HI,HC⟩
  case round =>
   clear HC HI
   obtain ⟨m,k,us,rfl,rfl,hmk,hkn,HI,HC⟩:=hrel
   have hlu:=HC.out.len
   by_cases hkl : k < n
   ·have HIA : Hid (∃ v : VoteE,vs[k]? = some v ∧ us[k]? = some v):=Lib.hid (by
     have h1:=HI.out.at (by rw [HN.out]; exact hkl)
     refine ⟨vs[k]'(by rw [HN.out]; exact hkl),List.getElem?_eq_getElem _,?_⟩
     rw [List.getElem?_eq_getElem (by omega),h1])
    obtain ⟨v,hv1,hv2⟩:=HIA.out
    obtain ⟨hkv,hv3⟩:=List.getElem?_eq_some_iff.1 hv1
    obtain ⟨hku,hv4⟩:=List.getElem?_eq_some_iff.1 hv2
    obtain ⟨hbz,⟨c0,c1,c2,c3⟩,-⟩:=HC.out.at hku
    rw [hv4] at c0 c1 c2 c3
    have hcl:=(HC.out.cl).alloc (.cells #[.string ⟨v.run.toArray⟩,.string ⟨v.who.toArray⟩,.int .i64 v.at_,.int .i64 v.kind] 52)
    have HD:=Lib.hid (HC.out.keep ((Below.refl _ _).alloc (Nat.le_refl _) (.cells #[.string ⟨v.run.toArray⟩,.string ⟨v.who.toArray⟩,.int .i64 v.at_,.int .i64 v.kind] 52)))
    have HV:=Lib.hid hv3
    have HKV:=Lib.hid hkv
    clear HIA hv1 hv2 hv3 hv4 HC hku
    have hbx : Blk (wr.alloc (.cells #[.string ⟨v.run.toArray⟩,.string ⟨v.who.toArray⟩,.int .i64 v.at_,.int .i64 v.kind] 52)) wr.heap.size 52 #[.string ⟨v.run.toArray⟩,.string ⟨v.who.toArray⟩,.int .i64 v.at_,.int .i64 v.kind]:=Blk.new _ _ _
    go_wp2_with fail
    refine (needC_any v g t _ hcl).mono ?_
    rintro e w2 ⟨rfl,hb2⟩
    have hC2:=HD.out.keep hb2
    have hbx2:=hbx.below hb2
    clear HD hb2 hcl hbx
    cases hrl : relB r1W t v
    ·have HI2:=Lib.hid (HI.out.skip HKV.out (by rw [HV.out]; exact hrl))
     have HC2:=Lib.hid hC2
     clear hrl hC2 HI hbx2 c0 c1 c2 c3 hbz
     go_wp2_with fail
     go_roundw
     case rel => exact ⟨m,k + 1,us,rfl,by go_num,by omega,by omega,HI2,HC2⟩
     case measure => simp [intOf]; omega
    ·have HI2:=Lib.hid (HI.out.keep HKV.out (by rw [HV.out]; exact hrl))
     have hmu : m < us.length:=by omega
     obtain ⟨hbz2,⟨d0,d1,d2,d3⟩,f0,f1,f2,f3⟩:=hC2.at hmu
     obtain ⟨x0,x1,x2,x3⟩ : _ ∧ _ ∧ _ ∧ _:=⟨hbx2.cell 0,hbx2.cell 1,hbx2.cell 2,hbx2.cell 3⟩
     simp only [List.getElem?_toArray,List.getElem?_cons_zero,List.getElem?_cons_succ] at x0 x1 x2 x3
     have xl:=hbx2.lt
     have HC2:=Lib.hid (hC2.put (show m < n by omega) v)
     rw [HV.out] at HI2
     clear hrl hC2 HI hbx2 c0 c1 c2 c3 hbz
     generalize us[m] = um at *
     go_wp2_with fail
     go_roundw
     case rel => exact ⟨m + 1,k + 1,us.set m v,by go_num,by go_num,by omega,by omega,HI2,HC2⟩
     case measure => simp [intOf]; omega
   ·have hkk : k = n:=by omega
    subst hkk
    obtain ⟨L,hclr⟩:=run_clear4 wr 26 52 #[.string ⟨#[]⟩,.string ⟨#[]⟩,.int .i64 0,.int .i64 0] Tryz.underlying26 (fun w => Tryz.zeroValue52 w) rfl (fun i hi => by match i,hi with
     | 0,_ => rfl
     | 1,_ => rfl
     | 2,_ => rfl
     | 3,_ => rfl) b (m * 4) (k - m) (c - m) (by omega) (fun j hj => by
      obtain ⟨b',e,-,-,h3,-⟩:=ownBlk HC.out.own (by omega)
      injection e with e; injection e with e1 e2
      subst e1
      have hlen : (us.flatMap encV).length = us.length * 4:=flat_len4 encV 4 encV_len us
      have hjj : m * 4 + j < (us.flatMap encV).length:=by rw [hlen]; omega
      rw [h3 _ _ (List.getElem?_eq_getElem hjj)]; rfl) (fun j hj => by
      obtain ⟨b',e,-,-,-,h4⟩:=ownBlk HC.out.own (by omega)
      injection e with e; injection e with e1 e2
      subst e1
      exact h4 _)
    have hus : us.take m = vs.filter (relB r1W t):=by
     rw [HI.out.low,List.take_of_length_le (by rw [HN.out]; exact Nat.le_refl _)]
    have hml : (vs.filter (relB r1W t)).length = m:=by
     rw [← hus,List.length_take]; omega
    have HF : Hid ((wr.setCells b (m * 4) L).ownsRow base 52 4 (.slice (some ⟨b,0,none⟩) (vs.filter (relB r1W t)).length c) (vs.filter (relB r1W t)).length ((vs.filter (relB r1W t)).flatMap encV)):=Lib.hid (by
     have h1:=own_take HC.out.own (show m ≤ k by omega)
     rw [flat_takeV,hus] at h1
     rw [hml]
     exact own_beyond L (m * 4) wr (by rw [flat_len4 encV 4 encV_len,hml]; exact Nat.le_refl _) h1)
    have HG:=Lib.hid (grown_sets L (m * 4) wr HC.out.gr)
    have HML:=Lib.hid hml
    clear hus hml HC HI
    go_wp2_with fail
    go_ret
    exact ⟨by rw [HML.out] <;> rfl,HF.out,HG.out⟩
 ·have hfil : vs.filter (relB r1W t) = vs:=List.filter_eq_self.2 hall
  have HF : Hid (w1.ownsRow base 52 4 (.slice A (vs.filter (relB r1W t)).length c) (vs.filter (relB r1W t)).length ((vs.filter (relB r1W t)).flatMap encV)):=Lib.hid (by rw [hfil]; exact own_keep HO.out hb1)
  have HG:=Lib.hid (grown_of_below hb1 (Value.slice A vs.length c).ownBlock)
  have HL : Hid ((vs.filter (relB r1W t)).length = vs.length):=Lib.hid (by rw [hfil])
  clear hfil hb1 hg hrow
  go_wp2_with fail
  go_ret
  exact ⟨by rw [HL.out] <;> rfl,HF.out,HG.out⟩
end Go.Proofs.YtajfecnfhoendaaGreatDoor
