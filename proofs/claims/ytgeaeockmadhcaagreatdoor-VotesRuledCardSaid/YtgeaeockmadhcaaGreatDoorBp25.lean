/- Texts of this seat, laid together: VoL VoN. -/
import Derived.Lib.SliceRun
import Derived.Handy
import Derived.Test.YtgeaeockmadhcaaGreatDoorBp21
import Derived.Test.YtgeaeockmadhcaaGreatDoorBp24
/- The walks of slices.Clone over judges and votes, of slices.IndexFunc and slices.DeleteFunc over votes by NeededIsEnough's closure. -/
namespace Go.Proofs.YtgeaeockmadhcaaGreatDoor
set_option linter.unusedVariables false
set_option linter.unusedSimpArgs false
open Go.RowKit

theorem all_flat {α : Type} (enc : α → List Value) (h : ∀ x,(enc x).all (·.oneCell') = true) (l : List α) : (l.flatMap enc).all (·.oneCell') = true:=by
 rw [List.all_flatMap]; simp only [h]; simp
theorem encV_all (l : List VoteE) : (l.flatMap encV).all (·.oneCell') = true:=all_flat _ (fun _ => rfl) l
set_option maxHeartbeats 1000000 in
theorem cloneV_any (A : Option Addr) (c lo : Nat) (ps : List VoteE) (w : World) (hr : Row w lo 4 A ps.length (ps.flatMap encV)) (hl : ps.length ≤ 1000000) :
  Calls Tryz.prog 8 #[.slice A ps.length c] w fun e w' => ∃ A' c',e = .returned (.slice A' ps.length c') ∧ w'.ownsRow w.heap.size 37 4 (.slice A' ps.length c') ps.length (ps.flatMap encV) ∧ Below w.heap.size w w':=by
 have hnil:=fun (r : Option Addr) (n c : Nat) (w : World) => Lib.run_eql_slice_nil (P:=Tryz.prog) w 26 37 r n c 0 0 Tryz.underlying26
 cases A with
 | none =>
  have hz : ps.length = 0:=by
   rcases Nat.eq_zero_or_pos ps.length with h | h
   ·exact h
   ·obtain ⟨b,off,h1,_⟩:=hr.2 h
    cases h1
  have HZ:=Lib.hid hz
  clear hz
  go_enter Tryz.func8,Tryz.ntmps8
  go_wp2_with fail
  go_ret
  refine ⟨none,0,?_,?_,Below.refl _ _⟩
  ·rw [HZ.out]; rfl
  ·have : ps = []:=List.eq_nil_of_length_eq_zero HZ.out
   subst this
   exact World.ownsRow_nil _ _ _ _
 | some ad =>
  have hown0 : (w.alloc (.cells #[] 37)).ownsRow w.heap.size 37 4 (.slice (some ⟨w.heap.size,0,none⟩) 0 0) 0 []:=World.ownsRow_made w #[] 0 (Nat.le_refl _) (by simp [maxLen]) rfl
  go_enter Tryz.func8,Tryz.ntmps8
  go_wp2_with (at_builtin; go_must (refine wpList_app _ _ rfl _ _ ty_votes rfl hown0 rfl (hr.alloc _) rfl (encV_all _) (by omega) (by omega) (by simp) ?_))
  intro A5 c5 w5 hown5 hg5 _
  go_wp2_with fail
  go_ret
  exact ⟨A5,c5,by first | rfl | simp,hown5,below_app hown0 ((Below.refl _ _).alloc (Nat.le_refl _) _) hg5 (Nat.le_refl _) (by simp)⟩
theorem own_take {w : World} {base b c n m : Nat} {e : TypeId} {size : Nat} {xs : List Value} (h : w.ownsRow base e size (.slice (some ⟨b,0,none⟩) n c) n xs) (hm : m ≤ n) : w.ownsRow base e size (.slice (some ⟨b,0,none⟩) m c) m (xs.take (m * size)):=by
 have hmn : m * size ≤ n * size:=Nat.mul_le_mul_right _ hm
 obtain ⟨h1,h2⟩:=h
 refine ⟨by rw [List.length_take]; omega,?_⟩
 rcases h2 with ⟨hv,hn⟩ | ⟨g,cap,cur,hv,hb,hgg,hc1,hc2,hc3,hc4⟩
 ·cases hv
 ·refine .inr ⟨g,cap,cur,?_,hb,hgg,by omega,hc2,hc3,?_⟩
  ·injection hv with a1 a2 a3; rw [a1,a3]
  ·rw [← hc4,List.take_take,Nat.min_eq_left hmn]
theorem own_beyond {base b c m : Nat} {e : TypeId} {size : Nat} {xs : List Value} : ∀ (L : List Value) (o : Nat) (w : World),xs.length ≤ o → w.ownsRow base e size (.slice (some ⟨b,0,none⟩) m c) m xs → (w.setCells b o L).ownsRow base e size (.slice (some ⟨b,0,none⟩) m c) m xs
 | [],_,_,_,h => h
 | v :: r,o,w,hl,h => own_beyond r (o + 1) _ (by omega) (by
  have:=(h.stored o v).1
  rwa [List.set_eq_of_length_le hl] at this)
theorem grown_sets {a : World} {g : Nat} : ∀ (L : List Value) (o : Nat) (b : World),a.grownBy b (some g) → a.grownBy (b.setCells g o L) (some g)
 | [],_,_,h => h
 | v :: r,o,b,h => grown_sets r (o + 1) _ (grown_set h o v)
theorem flat_takeV (us : List VoteE) (m : Nat) : (us.flatMap encV).take (m * 4) = (us.take m).flatMap encV:=by
 induction us generalizing m with
 | nil => simp
 | cons x us ih =>
  cases m with
  | zero => simp
  | succ m =>
   rw [List.take_succ_cons,List.flatMap_cons,List.flatMap_cons,Nat.add_mul,Nat.one_mul,Nat.add_comm (m * 4) 4,← ih m]
   rw [show 4 + m * 4 = (encV x).length + m * 4 from rfl,List.take_length_add_append]
theorem run_clear4 (w : World) (t e : TypeId) (cs : Array Value) (ht : Tryz.prog.underlying t = some (.slice e)) (hv : ∀ w,(zeroValue e).run Tryz.prog w = .ok (.agg cs) w) (h4 : cs.size = 4) (hone : ∀ i,i < 4 → (cs[i]!).oneCell' = true) (b o n c : Nat) (hn : 0 < n)
  (hc : ∀ j,j < n * 4 → (w.cell? ⟨b,o + j,none⟩).isSome = true) (hf : ∀ j,j < n * 4 → w.frozen? ⟨b,o + j,none⟩ = false) :
  ∃ L : List Value,∀ ty,(Builtin.clear_ #[t] ty #[.slice (some ⟨b,o,none⟩) n c]).run Tryz.prog w = .ok (.tuple #[]) (w.setCells b o L):=by
 have hlen : (Builtin.zeroCells cs n).toList.length = n * 4:=by simp [Builtin.zeroCells,h4]
 refine ⟨(Builtin.zeroCells cs n).toList,fun ty => ?_⟩
 have hst:=run_storeCells_cells (P:=Tryz.prog) b o (Builtin.zeroCells cs n).toList 0 w (by intro j hj; rw [hlen] at hj; rw [Nat.add_zero]; exact hc j hj) (by intro j hj; rw [hlen] at hj; rw [Nat.add_zero]; exact hf j hj) (by
  intro v hv'
  unfold Builtin.zeroCells at hv'
  rw [Array.mem_toList_iff,Array.mem_map] at hv'
  obtain ⟨i,-,rfl⟩:=hv'
  rw [h4]
  exact hone _ (Nat.mod_lt _ (by decide)))
 simp only [Nat.add_zero] at hst
 obtain ⟨m,rfl⟩ : ∃ m,n = m + 1:=⟨n - 1,by omega⟩
 simp [Builtin.clear_,run_underlying ht,hv,Value.cells,hst]
theorem flat_put4 (us : List VoteE) (m : Nat) (hm : m < us.length) (v : VoteE) : ((((us.flatMap encV).set (m * 4) (.string ⟨v.run.toArray⟩)).set (m * 4 + 1) (.string ⟨v.who.toArray⟩)).set (m * 4 + 2) (.int .i64 v.at_)).set (m * 4 + 3) (.int .i64 v.kind) = (us.set m v).flatMap encV:=by
 have e0:=flat_setV encV 4 encV_len (.string ⟨v.run.toArray⟩) (⟨v.run,us[m].who,us[m].at_,us[m].kind⟩ : VoteE) us m hm 0 (by decide) rfl
 rw [Nat.add_zero] at e0
 have e1:=flat_setV encV 4 encV_len (.string ⟨v.who.toArray⟩) (⟨v.run,v.who,us[m].at_,us[m].kind⟩ : VoteE) (us.set m ⟨v.run,us[m].who,us[m].at_,us[m].kind⟩) m (by simpa using hm) 1 (by decide) (by rw [List.getElem_set_self]; rfl)
 have e2:=flat_setV encV 4 encV_len (.int .i64 v.at_) (⟨v.run,v.who,v.at_,us[m].kind⟩ : VoteE) (us.set m ⟨v.run,v.who,us[m].at_,us[m].kind⟩) m (by simpa using hm) 2 (by decide) (by rw [List.getElem_set_self]; rfl)
 have e3:=flat_setV encV 4 encV_len (.int .i64 v.kind) v (us.set m ⟨v.run,v.who,v.at_,us[m].kind⟩) m (by simpa using hm) 3 (by decide) (by rw [List.getElem_set_self]; rfl)
 rw [List.set_set] at e1 e2 e3
 rw [e0,e1,e2,e3]
structure DelC (w W : World) (base b c g n : Nat) (t : Int) (us : List VoteE) : Prop where
  own : W.ownsRow base 37 4 (.slice (some ⟨b, 0, none⟩) n c) n (us.flatMap encV)
  gr : w.grownBy W (some b)
  cl : Blk W g 3 #[.int .i64 t]
  ne : g ≠ b
  len : us.length = n
section
variable {w W W' : World} {base b c g n : Nat} {t : Int} {us : List VoteE}
theorem DelC.keep (h : DelC w W base b c g n t us) (hb : Below W.heap.size W W') : DelC w W' base b c g n t us:=⟨own_keep h.own hb,grown_trans' h.gr (grown_of_below hb _),h.cl.below hb,h.ne,h.len⟩
theorem DelC.put (h : DelC w W base b c g n t us) {m : Nat} (hm : m < n) (v : VoteE) : DelC w ((((W.setCell ⟨b,m * 4,none⟩ (.string ⟨v.run.toArray⟩)).setCell ⟨b,m * 4 + 1,none⟩ (.string ⟨v.who.toArray⟩)).setCell ⟨b,m * 4 + 2,none⟩ (.int .i64 v.at_)).setCell ⟨b,m * 4 + 3,none⟩ (.int .i64 v.kind)) base b c g n t (us.set m v):=by
 have h1:=(((((h.own.stored (m * 4) (.string ⟨v.run.toArray⟩)).1).stored (m * 4 + 1) (.string ⟨v.who.toArray⟩)).1.stored (m * 4 + 2) (.int .i64 v.at_)).1.stored (m * 4 + 3) (.int .i64 v.kind)).1
 rw [flat_put4 us m (by rw [h.len]; exact hm) v] at h1
 exact ⟨h1,grown_set (grown_set (grown_set (grown_set h.gr _ _) _ _) _ _) _ _,(((h.cl.past b _ _ h.ne).past b _ _ h.ne).past b _ _ h.ne).past b _ _ h.ne,h.ne,by rw [List.length_set]; exact h.len⟩
theorem DelC.at (h : DelC w W base b c g n t us) {k : Nat} (hk : k < us.length) : b < W.heap.size ∧ (W.cell? ⟨b,k * 4,none⟩ = some (.string ⟨us[k].run.toArray⟩) ∧ W.cell? ⟨b,k * 4 + 1,none⟩ = some (.string ⟨us[k].who.toArray⟩) ∧ W.cell? ⟨b,k * 4 + 2,none⟩ = some (.int .i64 us[k].at_) ∧ W.cell? ⟨b,k * 4 + 3,none⟩ = some (.int .i64 us[k].kind)) ∧ W.frozen? ⟨b,k * 4,none⟩ = false ∧ W.frozen? ⟨b,k * 4 + 1,none⟩ = false ∧ W.frozen? ⟨b,k * 4 + 2,none⟩ = false ∧ W.frozen? ⟨b,k * 4 + 3,none⟩ = false:=by
 have h2:=h.len
 subst h2
 obtain ⟨b',off,e,h1,-,h2⟩:=votes_at (Row.of_own h.own) (by omega)
 injection e with e; injection e with e1 e2
 subst e1 e2
 obtain ⟨b'',e,-,-,-,h4⟩:=ownBlk h.own (by omega)
 injection e with e; injection e with e1 e2
 subst e1
 have h3:=h2 k hk
 rw [Nat.zero_add] at h3
 exact ⟨h1,h3,h4 _,h4 _,h4 _,h4 _⟩
end
structure StrI (vs us : List VoteE) (t : Int) (m k : Nat) : Prop where
  lt : m < k
  le : k ≤ vs.length
  len : us.length = vs.length
  low : us.take m = (vs.take k).filter (relB r1W t)
  high : us.drop k = vs.drop k
theorem StrI.at {vs us : List VoteE} {t : Int} {m k : Nat} (h : StrI vs us t m k) (hk : k < vs.length) : us[k]'(by rw [h.len]; exact hk) = vs[k]:=by
 have h1:=congrArg (·[0]?) h.high
 simp only [List.getElem?_drop,Nat.add_zero] at h1
 rw [List.getElem?_eq_getElem (by rw [h.len]; exact hk),List.getElem?_eq_getElem hk] at h1
 injection h1
theorem StrI.skip {vs us : List VoteE} {t : Int} {m k : Nat} (h : StrI vs us t m k) (hk : k < vs.length) (hr : relB r1W t vs[k] = false) : StrI vs us t m (k + 1):=by
 refine ⟨by have:=h.lt; omega,hk,h.len,?_,?_⟩
 ·rw [h.low,List.take_add_one,List.getElem?_eq_getElem hk,List.filter_append]
  simp [hr]
 ·rw [← List.drop_drop,← List.drop_drop,h.high]
theorem StrI.keep {vs us : List VoteE} {t : Int} {m k : Nat} (h : StrI vs us t m k) (hk : k < vs.length) (hr : relB r1W t vs[k] = true) : StrI vs (us.set m vs[k]) t (m + 1) (k + 1):=by
 have hlt:=h.lt
 refine ⟨by omega,hk,by rw [List.length_set,h.len],?_,?_⟩
 ·have hm : m < (us.set m vs[k]).length:=by rw [List.length_set,h.len]; omega
  rw [List.take_add_one,List.getElem?_eq_getElem hm,List.getElem_set_self,List.take_set_of_le (Nat.le_refl _),h.low,List.take_add_one,List.getElem?_eq_getElem hk,List.filter_append]
  simp [hr]
 ·rw [List.drop_set_of_lt (by omega),← List.drop_drop,← List.drop_drop,h.high]
end Go.Proofs.YtgeaeockmadhcaaGreatDoor
/- Two lists with parts of votes: the walk of HalfVotes. -/
namespace Go.Proofs.YtgeaeockmadhcaaGreatDoor
set_option linter.unusedVariables false
set_option linter.unusedSimpArgs false
open Go.RowKit Go.Sort

theorem own_apartV {w w' : World} {base : Nat} {e : TypeId} {size : Nat} {v u : Value} {n : Nat} {xs : List Value} (h : w.ownsRow base e size v n xs) (hg : w.grownBy w' u.ownBlock) (hne : ∀ g,u.ownBlock = some g → v.ownBlock ≠ some g) : w'.ownsRow base e size v n xs :=
 h.kept hg (by
  cases hu : u.ownBlock with
  | none => cases hv : v.ownBlock with
   | none => exact .inl rfl
   | some k => right; intro h; cases h
  | some g => right; intro h; exact hne g hu h)
theorem Blk.grownV {w w' : World} {g k : Nat} {t : TypeId} {cs : Array Value} (h : Blk w k t cs) (hb : w.grownBy w' (some g)) (hg : k ≠ g) : Blk w' k t cs:=(hb.block k h.lt (fun e => hg (by injection e))).trans h
structure TwoV (w0 w : World) (gs N : Nat) (A B : Option Addr) (c d : Nat) (a b : List VoteE) : Prop where
  oa : w.ownsRow w0.heap.size 37 4 (.slice A a.length c) a.length (a.flatMap encV)
  ob : w.ownsRow w0.heap.size 37 4 (.slice B b.length d) b.length (b.flatMap encV)
  ne : ∀ g, (Value.slice A a.length c).ownBlock = some g → (Value.slice B b.length d).ownBlock ≠ some g
  str : Str w gs N
  gr : w0.grownBy w (some gs)
  lt : gs < w0.heap.size
section
variable {w0 w w' : World} {gs N N' : Nat} {A B : Option Addr} {c d : Nat} {a b : List VoteE}
theorem TwoV.drawn (h : TwoV w0 w gs N A B c d a b) (hg : w.grownBy w' (some gs)) (hs : Str w' gs N') : TwoV w0 w' gs N' A B c d a b :=
 ⟨own_grown h.oa hg h.lt,own_grown h.ob hg h.lt,h.ne,hs,grown_trans' h.gr hg,h.lt⟩
theorem TwoV.alloc (h : TwoV w0 w gs N A B c d a b) (o : Obj) : TwoV w0 (w.alloc o) gs N A B c d a b:=h.drawn (World.grownBy_alloc _ _ _) (h.str.alloc _)
theorem TwoV.pushA (h : TwoV w0 w gs N A B c d a b) {A5 : Option Addr} {c5 : Nat} {w5 : World} (s : VoteE) (ho : w5.ownsRow w0.heap.size 37 4 (.slice A5 (a.length + 1) c5) (a.length + 1) (a.flatMap encV ++ encV s)) (hg : w.grownBy w5 (Value.slice A a.length c).ownBlock)
  (hb : (Value.slice A5 (a.length + 1) c5).ownBlock = (Value.slice A a.length c).ownBlock ∨ (Value.slice A5 (a.length + 1) c5).ownBlock = some w.heap.size) : TwoV w0 w5 gs N A5 B c5 d (a ++ [s]) b:=by
 have e : (a ++ [s]).flatMap encV = a.flatMap encV ++ encV s:=by simp
 refine ⟨by rw [List.length_append,e]; exact ho,own_apartV (u:=.slice A a.length c) h.ob hg h.ne,fun g hg' => ?_,h.str.app h.oa hg h.lt,grown_app h.gr h.oa hg (Nat.le_refl _),h.lt⟩
 have hg2 : (Value.slice A5 (a.length + 1) c5).ownBlock = some g:=by simpa [Value.ownBlock] using hg'
 rcases hb with hb | hb
 ·exact h.ne g (hb ▸ hg2)
 ·intro hB
  have:=(h.ob.lt g hB).2
  rw [hb] at hg2
  injection hg2 with hg2
  omega
theorem TwoV.pushB (h : TwoV w0 w gs N A B c d a b) {B5 : Option Addr} {d5 : Nat} {w5 : World} (s : VoteE) (ho : w5.ownsRow w0.heap.size 37 4 (.slice B5 (b.length + 1) d5) (b.length + 1) (b.flatMap encV ++ encV s)) (hg : w.grownBy w5 (Value.slice B b.length d).ownBlock)
  (hb : (Value.slice B5 (b.length + 1) d5).ownBlock = (Value.slice B b.length d).ownBlock ∨ (Value.slice B5 (b.length + 1) d5).ownBlock = some w.heap.size) : TwoV w0 w5 gs N A B5 c d5 a (b ++ [s]):=by
 have e : (b ++ [s]).flatMap encV = b.flatMap encV ++ encV s:=by simp
 refine ⟨own_apartV (u:=.slice B b.length d) h.oa hg (fun g h1 h2 => h.ne g h2 h1),by rw [List.length_append,e]; exact ho,fun g hg' => ?_,h.str.app h.ob hg h.lt,grown_app h.gr h.ob hg (Nat.le_refl _),h.lt⟩
 intro hB
 have hB2 : (Value.slice B5 (b.length + 1) d5).ownBlock = some g:=by simpa [Value.ownBlock] using hB
 rcases hb with hb | hb
 ·exact h.ne g hg' (hb ▸ hB2)
 ·have:=(h.oa.lt g hg').2
  rw [hb] at hB2
  injection hB2 with hB2
  omega
end
structure Parts (vs a b : List VoteE) : Prop where
  sa : a.Sublist vs
  sb : b.Sublist vs
  all : ∀ v ∈ vs, v ∈ a ∨ v ∈ b
theorem Parts.nil : Parts [] [] []:=⟨List.Sublist.refl _,List.Sublist.refl _,fun v hv => by simp at hv⟩
theorem Parts.fst {vs a b : List VoteE} (h : Parts vs a b) (v : VoteE) : Parts (vs ++ [v]) (a ++ [v]) b:=⟨h.sa.append (List.Sublist.refl _),h.sb.trans (List.sublist_append_left _ _),fun x hx => by
 rcases List.mem_append.1 hx with hx | hx
 ·rcases h.all x hx with h | h
  ·exact .inl (List.mem_append_left _ h)
  ·exact .inr h
 ·exact .inl (List.mem_append_right _ hx)⟩
theorem Parts.snd {vs a b : List VoteE} (h : Parts vs a b) (v : VoteE) : Parts (vs ++ [v]) a (b ++ [v]):=⟨h.sa.trans (List.sublist_append_left _ _),h.sb.append (List.Sublist.refl _),fun x hx => by
 rcases List.mem_append.1 hx with hx | hx
 ·rcases h.all x hx with h | h
  ·exact .inl h
  ·exact .inr (List.mem_append_left _ h)
 ·exact .inr (List.mem_append_right _ hx)⟩
theorem Parts.both {vs a b : List VoteE} (h : Parts vs a b) (v : VoteE) : Parts (vs ++ [v]) (a ++ [v]) (b ++ [v]):=⟨h.sa.append (List.Sublist.refl _),h.sb.append (List.Sublist.refl _),fun x hx => by
 rcases List.mem_append.1 hx with hx | hx
 ·rcases h.all x hx with h | h
  ·exact .inl (List.mem_append_left _ h)
  ·exact .inr (List.mem_append_left _ h)
 ·exact .inl (List.mem_append_right _ hx)⟩
def HalfP (w : World) (g N : Nat) (vs : List VoteE) (e : Ending) (w' : World) : Prop :=
 ∃ (A B : Option Addr) (c d : Nat) (a b : List VoteE),e = .returned (.tuple #[.slice A a.length c,.slice B b.length d]) ∧ Parts vs a b ∧ TwoV w w' g (N + vs.length) A B c d a b
set_option maxHeartbeats 2000000 in
theorem halfVotes_any (g N lo c : Nat) (A : Option Addr) (vs : List VoteE) (w : World) (hs : Str w g N) (hN : N < 4611686018427387000) (hr : Row w lo 4 A vs.length (vs.flatMap encV)) (hgl : g < lo) (hl : vs.length ≤ 100) :
  Calls Tryz.prog 10 #[.pointer (some ⟨g,0,none⟩),.slice A vs.length c] w (HalfP w g N vs):=by
 have hgw : g < w.heap.size:=hs.lt
 go_enter Tryz.func10,Tryz.ntmps10
 go_wp2_with fail
 go_loopw [4,5,11] (fun sa sb i wr => ∃ (k : Nat) (A1 B1 : Option Addr) (c1 d1 : Nat) (a b : List VoteE),k ≤ vs.length ∧ i = .int .i64 k ∧ sa = .slice A1 a.length c1 ∧ sb = .slice B1 b.length d1 ∧ Hid (Parts (vs.take k) a b) ∧ Hid (TwoV w wr g (N + k) A1 B1 c1 d1 a b)) (fun _ _ i _ => vs.length - (intOf i).toNat)
 case atStart => exact ⟨0,none,none,0,0,[],[],Nat.zero_le _,rfl,rfl,rfl,Lib.hid Parts.nil,Lib.hid ⟨World.ownsRow_nil _ _ _ _,World.ownsRow_nil _ _ _ _,fun g h => by simp [Value.ownBlock] at h,hs,World.grownBy.refl _ _,hgw⟩⟩
 case round =>
  obtain ⟨k,A1,B1,c1,d1,a,b,hk,rfl,rfl,rfl,HP,HT⟩:=hrel
  have hla : a.length ≤ 100:=Nat.le_trans HP.out.sa.length_le (by rw [List.length_take]; omega)
  have hlb : b.length ≤ 100:=Nat.le_trans HP.out.sb.length_le (by rw [List.length_take]; omega)
  by_cases hlt : k < vs.length
  ·obtain ⟨b0,off,rfl,hbs,-,hcl⟩:=votes_at (hr.grown HT.out.gr hgl) (by omega)
   obtain ⟨c0,c1',c2,c3⟩:=hcl k hlt
   have HPA : Hid (∀ a b,Parts (vs.take k) a b → Parts (vs.take (k + 1)) (a ++ [vs[k]]) b):=Lib.hid (fun a b h => by rw [List.take_add_one,List.getElem?_eq_getElem hlt]; exact h.fst _)
   have HPB : Hid (∀ a b,Parts (vs.take k) a b → Parts (vs.take (k + 1)) a (b ++ [vs[k]])):=Lib.hid (fun a b h => by rw [List.take_add_one,List.getElem?_eq_getElem hlt]; exact h.snd _)
   have HPC : Hid (∀ a b,Parts (vs.take k) a b → Parts (vs.take (k + 1)) (a ++ [vs[k]]) (b ++ [vs[k]])):=Lib.hid (fun a b h => by rw [List.take_add_one,List.getElem?_eq_getElem hlt]; exact h.both _)
   clear hcl hr hs
   generalize vs[k] = v at *
   have hst:=(HT.out.alloc (.cells #[.string ⟨v.run.toArray⟩,.string ⟨v.who.toArray⟩,.int .i64 v.at_,.int .i64 v.kind] 37)).str
   have HT1:=Lib.hid (HT.out.alloc (.cells #[.string ⟨v.run.toArray⟩,.string ⟨v.who.toArray⟩,.int .i64 v.at_,.int .i64 v.kind] 37))
   have hvb : Blk (wr.alloc (.cells #[.string ⟨v.run.toArray⟩,.string ⟨v.who.toArray⟩,.int .i64 v.at_,.int .i64 v.kind] 37)) wr.heap.size 37 #[.string ⟨v.run.toArray⟩,.string ⟨v.who.toArray⟩,.int .i64 v.at_,.int .i64 v.kind]:=Blk.new _ _ _
   have HLO : Hid (∀ x,(Value.slice A1 a.length c1).ownBlock = some x → x < wr.heap.size):=Lib.hid (fun x hx => (HT.out.oa.lt x hx).2)
   have hgz : g < wr.heap.size:=by have:=HT.out.str.lt; omega
   go_wp2_with fail
   refine (next_any g (N + k) 3 _ hst (by omega) (by omega)).mono ?_
   rintro e w3 ⟨r,rfl,hr0,hr3,-,hs3,hg3⟩
   have hr3:=hr3 (by omega)
   have hT3:=HT1.out.drawn hg3 hs3
   replace hvb:=hvb.grownV hg3 (by omega)
   clear HT1 hst hs3 hg3 c0 c1' c2 c3 hbs HT
   have hrr : r = 0 ∨ r = 1 ∨ r = 2:=by omega
   clear hr0 hr3
   generalize wr.heap.size = bx at *
   rcases hrr with rfl | rfl | rfl
   ·obtain ⟨z0,z1,z2,z3⟩ : _ ∧ _ ∧ _ ∧ _:=⟨hvb.cell 0,hvb.cell 1,hvb.cell 2,hvb.cell 3⟩
    simp only [Q0,Q2,Q1] at z0 z1 z2 z3
    have zl:=hvb.lt
    have hz7:=(hT3).gr.size
    have HT7:=Lib.hid ((hT3).alloc (.cells #[.string ⟨v.run.toArray⟩,.string ⟨v.who.toArray⟩,.int .i64 v.at_,.int .i64 v.kind] 37))
    go_wp2_with (at_builtin; go_must (refine wpList_app (lo:=w.heap.size) (base:=w.heap.size) (n:=a.length) (xs:=a.flatMap encV) _ _ rfl _ _ ty_votes rfl (by repeat (first | exact HT7.out.oa | refine World.ownsRow.alloc ?_ _ | refine own_drewN ?_ _ | refine World.ownsRow.drew ?_)) rfl (by first | exact row_new' _ (by first | rfl | simp) (by first | omega | (simp; omega)) rfl | exact row_newN _ _ (by first | rfl | simp) (by first | omega | (simp; omega)) rfl | exact row_newD _ (by first | rfl | simp) (by first | omega | (simp; omega)) rfl) rfl rfl (by first | omega | decide) (by first | omega | decide) (by first | omega | (simp; omega)) ?_))
    intro A5 a5 w7 ho7 hg7 hb7
    have hT7:=HT7.out.pushA v ho7 hg7 (hb7.imp id (fun h => h.trans (by simp)))

    have HPN:=Lib.hid (HPA.out _ _ HP.out)
    have HTN:=Lib.hid hT7
    clear hT7 ho7 hg7 hb7 HT7 hT3 hvb z0 z1 z2 z3 zl HPA HPB HPC HP
    go_wp2_with fail
    go_roundw
    case rel => exact ⟨k + 1,A5,B1,a5,d1,a ++ [v],b,hlt,by go_num,by simp,rfl,HPN,HTN⟩
    case measure => simp [intOf]; omega
   ·obtain ⟨z0,z1,z2,z3⟩ : _ ∧ _ ∧ _ ∧ _:=⟨hvb.cell 0,hvb.cell 1,hvb.cell 2,hvb.cell 3⟩
    simp only [Q0,Q2,Q1] at z0 z1 z2 z3
    have zl:=hvb.lt
    have hz7:=(hT3).gr.size
    have HT7:=Lib.hid ((hT3).alloc (.cells #[.string ⟨v.run.toArray⟩,.string ⟨v.who.toArray⟩,.int .i64 v.at_,.int .i64 v.kind] 37))
    go_wp2_with (at_builtin; go_must (refine wpList_app (lo:=w.heap.size) (base:=w.heap.size) (n:=b.length) (xs:=b.flatMap encV) _ _ rfl _ _ ty_votes rfl (by repeat (first | exact HT7.out.ob | refine World.ownsRow.alloc ?_ _ | refine own_drewN ?_ _ | refine World.ownsRow.drew ?_)) rfl (by first | exact row_new' _ (by first | rfl | simp) (by first | omega | (simp; omega)) rfl | exact row_newN _ _ (by first | rfl | simp) (by first | omega | (simp; omega)) rfl | exact row_newD _ (by first | rfl | simp) (by first | omega | (simp; omega)) rfl) rfl rfl (by first | omega | decide) (by first | omega | decide) (by first | omega | (simp; omega)) ?_))
    intro B5 b5 w7 ho7 hg7 hb7
    have hT7:=HT7.out.pushB v ho7 hg7 (hb7.imp id (fun h => h.trans (by simp)))

    have HPN:=Lib.hid (HPB.out _ _ HP.out)
    have HTN:=Lib.hid hT7
    clear hT7 ho7 hg7 hb7 HT7 hT3 hvb z0 z1 z2 z3 zl HPA HPB HPC HP
    go_wp2_with fail
    go_roundw
    case rel => exact ⟨k + 1,A1,B5,c1,b5,a,b ++ [v],hlt,by go_num,rfl,by simp,HPN,HTN⟩
    case measure => simp [intOf]; omega
   ·obtain ⟨z0,z1,z2,z3⟩ : _ ∧ _ ∧ _ ∧ _:=⟨hvb.cell 0,hvb.cell 1,hvb.cell 2,hvb.cell 3⟩
    simp only [Q0,Q2,Q1] at z0 z1 z2 z3
    have zl:=hvb.lt
    have hz7:=(hT3).gr.size
    have HT7:=Lib.hid ((hT3).alloc (.cells #[.string ⟨v.run.toArray⟩,.string ⟨v.who.toArray⟩,.int .i64 v.at_,.int .i64 v.kind] 37))
    go_wp2_with (at_builtin; go_must (refine wpList_app (lo:=w.heap.size) (base:=w.heap.size) (n:=a.length) (xs:=a.flatMap encV) _ _ rfl _ _ ty_votes rfl (by repeat (first | exact HT7.out.oa | refine World.ownsRow.alloc ?_ _ | refine own_drewN ?_ _ | refine World.ownsRow.drew ?_)) rfl (by first | exact row_new' _ (by first | rfl | simp) (by first | omega | (simp; omega)) rfl | exact row_newN _ _ (by first | rfl | simp) (by first | omega | (simp; omega)) rfl | exact row_newD _ (by first | rfl | simp) (by first | omega | (simp; omega)) rfl) rfl rfl (by first | omega | decide) (by first | omega | decide) (by first | omega | (simp; omega)) ?_))
    intro A5 a5 w7 ho7 hg7 hb7
    have hT7:=HT7.out.pushA v ho7 hg7 (hb7.imp id (fun h => h.trans (by simp)))

    have hvb9 : Blk w7 bx 37 #[.string ⟨v.run.toArray⟩,.string ⟨v.who.toArray⟩,.int .i64 v.at_,.int .i64 v.kind]:=(hg7.block bx (hvb.alloc _).lt (fun e => by have:=HLO.out _ e.symm; omega)).trans (hvb.alloc _)
    clear hT3 ho7 hg7 hb7 HT7 z0 z1 z2 z3 zl hvb
    obtain ⟨z0,z1,z2,z3⟩ : _ ∧ _ ∧ _ ∧ _:=⟨hvb9.cell 0,hvb9.cell 1,hvb9.cell 2,hvb9.cell 3⟩
    simp only [Q0,Q2,Q1] at z0 z1 z2 z3
    have zl:=hvb9.lt
    have hz8:=(hT7).gr.size
    have HT8:=Lib.hid ((hT7).alloc (.cells #[.string ⟨v.run.toArray⟩,.string ⟨v.who.toArray⟩,.int .i64 v.at_,.int .i64 v.kind] 37))
    go_wp2_with (at_builtin; go_must (refine wpList_app (lo:=w.heap.size) (base:=w.heap.size) (n:=b.length) (xs:=b.flatMap encV) _ _ rfl _ _ ty_votes rfl (by repeat (first | exact HT8.out.ob | refine World.ownsRow.alloc ?_ _ | refine own_drewN ?_ _ | refine World.ownsRow.drew ?_)) rfl (by first | exact row_new' _ (by first | rfl | simp) (by first | omega | (simp; omega)) rfl | exact row_newN _ _ (by first | rfl | simp) (by first | omega | (simp; omega)) rfl | exact row_newD _ (by first | rfl | simp) (by first | omega | (simp; omega)) rfl) rfl rfl (by first | omega | decide) (by first | omega | decide) (by first | omega | (simp; omega)) ?_))
    intro B5 b5 w8 ho8 hg8 hb8
    have hT8:=HT8.out.pushB v ho8 hg8 (hb8.imp id (fun h => h.trans (by simp)))
    have HPN:=Lib.hid (HPC.out _ _ HP.out)
    have HTN:=Lib.hid hT8
    clear hT8 ho8 hg8 hb8 HT8 hT7 hvb9 z0 z1 z2 z3 zl HPA HPB HPC HP
    go_wp2_with fail
    go_roundw
    case rel => exact ⟨k + 1,A5,B5,a5,b5,a ++ [v],b ++ [v],hlt,by go_num,by simp,by simp,HPN,HTN⟩
    case measure => simp [intOf]; omega
  ·have hkk : k = vs.length:=by omega
   have HE : Hid (HalfP w g N vs (.returned (.tuple #[.slice A1 a.length c1,.slice B1 b.length d1])) wr):=Lib.hid (by
    refine ⟨A1,B1,c1,d1,a,b,rfl,?_,?_⟩
    ·have:=HP.out; rwa [hkk,List.take_length] at this
    ·have:=HT.out; rwa [hkk] at this)
   clear hs hr
   go_wp2_with fail
   go_returns
   exact HE.out
end Go.Proofs.YtgeaeockmadhcaaGreatDoor
