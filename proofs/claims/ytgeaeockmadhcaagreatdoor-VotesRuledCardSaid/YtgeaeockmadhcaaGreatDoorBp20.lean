/- Texts of this seat, laid together: VoH. -/
import Derived.Deep.DeepCutAuto
import Derived.Deep.CutRange
import Derived.BigQuiet
import Derived.Test.YtgeaeockmadhcaaGreatDoorBp19
import Derived.Test.YtgeaeockmadhcaaGreatDoorBp02
import Derived.Test.YtgeaeockmadhcaaGreatDoorBp16
import Derived.Test.YtgeaeockmadhcaaGreatDoorBp04
/- The walks of the stream's VoteList and RightVotes. -/
namespace Go.Proofs.YtgeaeockmadhcaaGreatDoor
set_option linter.unusedVariables false
set_option linter.unusedSimpArgs false
open Go.RowKit

def SomeN (w : World) (g N : Nat) (S : List (List UInt8)) (e : Ending) (w' : World) : Prop:=∃ r : List UInt8,e = .returned (.string ⟨r.toArray⟩) ∧ r ∈ S ∧ Str w' g N ∧ w.grownBy w' (some g)
theorem some_litN (g N b : Nat) (cs : Array Value) (ss : List (List UInt8)) (w : World) (hs : Str w g N) (hN : N < 4611686018427387904) (hb : Blk w b 9 cs) (hc : cs.toList = strs ss) (hg : g < b) (h0 : 0 < ss.length) (h5 : ss.length ≤ 1000000) :
  Calls Tryz.prog 11 #[.pointer (some ⟨g,0,none⟩),.slice (some ⟨b,0,none⟩) ss.length ss.length] w (SomeN w g (N + 1) ss):=by
 have hr : Row w b 1 (some ⟨b,0,none⟩) ss.length (strs ss):=by
  have : cs.size = ss.length * 1:=by rw [← Array.length_toList,hc]; simp [strs]
  rw [← hc]; exact Row.lit hb (Nat.le_refl _) this
 refine (some_any g N b (some ⟨b,0,none⟩) ss.length ss w hs hN hr hg h0 h5).mono ?_
 rintro e w' ⟨r,rfl,hm,h1,h2⟩
 exact ⟨r,rfl,hm,h1,h2⟩
theorem own_put {w : World} {base : Nat} {e : TypeId} {size : Nat} {v : Value} {n : Nat} {xs : List Value} (h : w.ownsRow base e size v n xs) {p : Addr} (hp : ∀ k,v.ownBlock = some k → k ≠ p.block) (u : Value) : (w.setCell p u).ownsRow base e size v n xs :=
 h.kept (row:=some p.block) ⟨rfl,rfl,rfl,by simp [World.setCell],fun k _ hk => Below.heap_setCell w p u k (fun e => hk (by rw [e]))⟩ (by
  cases hv : v.ownBlock with
  | none => exact .inl rfl
  | some k => right; intro he; exact hp k hv (by injection he))
structure OwC (T : TypeId) (nm : Array Value) (w W : World) (g N : Nat) (A : Option Addr) (c n : Nat) (xs : List Value) : Prop where
  own : W.ownsRow (w.heap.size + 1) T 4 (.slice A n c) n xs
  s : Str W g N
  gr : w.grownBy W (some g)
  nm : Blk W w.heap.size 9 nm
  lt : g < w.heap.size
section
variable {T : TypeId} {nm : Array Value} {w W W' : World} {g N N' : Nat} {A A' : Option Addr} {c n c' n' : Nat} {xs xs' : List Value}
theorem OwC.keep (h : OwC T nm w W g N A c n xs) (hb : Below W.heap.size W W') : OwC T nm w W' g N A c n xs:=⟨own_keep h.own hb,h.s.keep hb,grown_trans' h.gr (grown_of_below hb _),h.nm.below hb,h.lt⟩
theorem OwC.alloc (h : OwC T nm w W g N A c n xs) (o : Obj) : OwC T nm w (W.alloc o) g N A c n xs:=h.keep ((Below.refl _ _).alloc (Nat.le_refl _) o)
theorem OwC.drewN (h : OwC T nm w W g N A c n xs) (q : Nat) : OwC T nm w (W.drewN q) g N A c n xs:=h.keep (below_drewN' (Below.refl _ _) q)
theorem OwC.drew (h : OwC T nm w W g N A c n xs) : OwC T nm w W.drew g N A c n xs:=h.keep (below_drewN' (Below.refl _ _) 1)
theorem OwC.str (h : OwC T nm w W g N A c n xs) (hs : Str W' g N') (hg : W.grownBy W' (some g)) : OwC T nm w W' g N' A c n xs:=⟨own_grown h.own hg (by have:=h.lt; omega),hs,grown_trans' h.gr hg,(hg.block _ h.nm.lt (fun e => by injection e with e; have:=h.lt; omega)).trans h.nm,h.lt⟩
theorem OwC.more (h : OwC T nm w W g N A c n xs) (hN : N ≤ N') : OwC T nm w W g N' A c n xs:=⟨h.own,h.s.more hN,h.gr,h.nm,h.lt⟩
theorem OwC.app (h : OwC T nm w W g N A c n xs) (hg : W.grownBy W' (Value.slice A n c).ownBlock) (ho : W'.ownsRow (w.heap.size + 1) T 4 (.slice A' n' c') n' xs') : OwC T nm w W' g N A' c' n' xs' :=
 ⟨ho,h.s.app h.own hg (by have:=h.lt; omega),grown_app h.gr h.own hg (by omega),(hg.block _ h.nm.lt (fun e => by have:=(h.own.lt _ e.symm).1; omega)).trans h.nm,h.lt⟩
theorem OwC.box (h : OwC T nm w W g N A c n xs) {k : Nat} (hk : w.heap.size < k) (hd : ∀ b,(Value.slice A n c).ownBlock = some b → b ≠ k) (i : Nat) (u : Value) : OwC T nm w (W.setCell ⟨k,i,none⟩ u) g N A c n xs :=
 ⟨own_put h.own hd u,h.s.set (by have:=h.lt; show g < k; omega) u,grown_set_new h.gr (show w.heap.size ≤ k by omega) u,h.nm.past k i u (by omega),h.lt⟩
theorem OwC.set {b : Nat} (h : OwC T nm w W g N (some ⟨b,0,none⟩) c n xs) (hb : w.heap.size < b) (i : Nat) (u : Value) : OwC T nm w (W.setCell ⟨b,i,none⟩ u) g N (some ⟨b,0,none⟩) c n (xs.set i u) :=
 ⟨(h.own.stored i u).1,h.s.set (by have:=h.lt; show g < b; omega) u,grown_set_new h.gr (show w.heap.size ≤ b by omega) u,h.nm.past b i u (by omega),h.lt⟩
theorem OwC.free (h : OwC T nm w W g N A c n xs) (h0 : 0 < n) : ∃ b,A = some ⟨b,0,none⟩ ∧ w.heap.size < b ∧ b < W.heap.size ∧ (∀ j u,xs[j]? = some u → W.cell? ⟨b,j,none⟩ = some u) ∧ ∀ j,W.frozen? ⟨b,j,none⟩ = false:=by
 obtain ⟨b,e,h1,h2,h3,h4⟩:=ownBlk h.own h0
 exact ⟨b,e,by omega,h2,h3,h4⟩
theorem OwC.freeB {b : Nat} (h : OwC T nm w W g N (some ⟨b,0,none⟩) c n xs) (h0 : 0 < n) : (∀ j u,xs[j]? = some u → W.cell? ⟨b,j,none⟩ = some u) ∧ ∀ j,W.frozen? ⟨b,j,none⟩ = false:=by
 obtain ⟨b',eb,-,-,h3,h4⟩:=h.free h0
 injection eb with eb; injection eb with eb
 subst eb
 exact ⟨h3,h4⟩
theorem OwC.off (h : OwC T nm w W g N A c n xs) : ∀ b,(Value.slice A n c).ownBlock = some b → b ≠ W.heap.size:=fun b hb => by have:=(h.own.lt b hb).2; omega
end
theorem flat_setV {α : Type} (enc : α → List Value) (n : Nat) (hn : ∀ x,(enc x).length = n) (u : Value) (x' : α) : ∀ (l : List α) (k : Nat) (h : k < l.length) (i : Nat),i < n → enc x' = (enc l[k]).set i u → (l.flatMap enc).set (k * n + i) u = (l.set k x').flatMap enc
 | [],k,h,_,_,_ => absurd h (by simp)
 | x :: l,0,h,i,hi,e => by
  rw [Nat.zero_mul,Nat.zero_add,List.flatMap_cons,List.set_append_left _ _ (by rw [hn]; exact hi),List.set_cons_zero,List.flatMap_cons,e]
  rfl
 | x :: l,k + 1,h,i,hi,e => by
  have ih:=flat_setV enc n hn u x' l k (by simpa using h) i hi e
  rw [List.flatMap_cons,List.set_append_right _ _ (by rw [hn,Nat.add_mul]; omega),hn,show (k + 1) * n + i - n = k * n + i by rw [Nat.add_mul]; omega,ih,List.set_cons_succ,List.flatMap_cons]
def whoL : List (List UInt8):=[[106,97],[106,98],[106,99],[122,101,100],[65]]
structure VB (v : VoteE) : Prop where
  run : v.run.length ≤ 2
  who : v.who ∈ whoL
theorem Blk.gr9 {w w' : World} {g k : Nat} {t : TypeId} {cs : Array Value} (h : Blk w k t cs) (hg : w.grownBy w' (some g)) (hn : g < k) : Blk w' k t cs:=(hg.block _ h.lt (fun e => by injection e with e; omega)).trans h
theorem OwC.vc {nm : Array Value} {w W : World} {g N c b : Nat} {vs : List VoteE} (h : OwC 37 nm w W g N (some ⟨b,0,none⟩) c vs.length (vs.flatMap encV)) {k : Nat} (hk : k < vs.length) {x : VoteE} (hx : vs[k] = x) : W.cell? ⟨b,k * 4,none⟩ = some (.string ⟨x.run.toArray⟩) ∧ W.cell? ⟨b,k * 4 + 1,none⟩ = some (.string ⟨x.who.toArray⟩) ∧ W.cell? ⟨b,k * 4 + 2,none⟩ = some (.int .i64 x.at_):=by
 obtain ⟨b',off,e,h1,-,h2⟩:=votes_at (Row.of_own h.own) (by omega)
 injection e with e; injection e with e1 e2
 subst e1 e2
 obtain ⟨c0,c1,c2,-⟩:=h2 k hk
 rw [hx] at c0 c1 c2
 rw [Nat.zero_add] at c0 c1 c2
 exact ⟨c0,c1,c2⟩
theorem OwC.setV {nm : Array Value} {w W : World} {g N c b n : Nat} {us : List VoteE} (h : OwC 37 nm w W g N (some ⟨b,0,none⟩) c n (us.flatMap encV)) (hb : w.heap.size < b) {k : Nat} (hk : k < us.length) {i : Nat} (hi : i < 4) (u : Value) {x x' : VoteE} (hx : us[k] = x) (he : encV x' = (encV x).set i u) : OwC 37 nm w (W.setCell ⟨b,k * 4 + i,none⟩ u) g N (some ⟨b,0,none⟩) c n ((us.set k x').flatMap encV):=by
 have h1:=h.set hb (k * 4 + i) u
 rw [flat_setV encV 4 encV_len u x' us k hk i hi (by rw [hx]; exact he)] at h1
 exact h1
theorem OwC.vc2 {nm : Array Value} {w W : World} {g N c b n : Nat} {us : List VoteE} (h : OwC 37 nm w W g N (some ⟨b,0,none⟩) c n (us.flatMap encV)) (hn : us.length = n) {k : Nat} (hk : k < us.length) {x : VoteE} (hx : us[k] = x) : W.cell? ⟨b,k * 4,none⟩ = some (.string ⟨x.run.toArray⟩) ∧ W.cell? ⟨b,k * 4 + 1,none⟩ = some (.string ⟨x.who.toArray⟩) ∧ W.cell? ⟨b,k * 4 + 2,none⟩ = some (.int .i64 x.at_):=by
 subst hn; exact h.vc hk hx
theorem flat_getV {us : List VoteE} {k : Nat} (hk : k < us.length) {x : VoteE} (hx : us[k] = x) (i : Nat) (hi : i < 4) {u : Value} (hu : (encV x)[i]? = some u) : (us.flatMap encV)[k * 4 + i]? = some u:=by
 rw [flat_at encV 4 encV_len us k hk i hi,hx,hu]
theorem set_atV {us : List VoteE} {k : Nat} (hk : k < us.length) (x : VoteE) : (us.set k x)[k]'(by simpa using hk) = x:=by simp
theorem vb_set {us : List VoteE} {k : Nat} {x : VoteE} (h : ∀ v ∈ us,VB v) (hx : VB x) : ∀ v ∈ us.set k x,VB v:=fun v hv => by
 rcases List.mem_or_eq_of_mem_set hv with h1 | h1
 ·exact h v h1
 ·rw [h1]; exact hx
theorem own_capV {w : World} {base : Nat} {e : TypeId} {size n c : Nat} {A : Option Addr} {xs : List Value} (h : w.ownsRow base e size (.slice A n c) n xs) : n ≤ c:=by
 rcases h.2 with ⟨hv,hn⟩ | ⟨g,cap,cur,hv,_,_,hcap,_⟩
 ·omega
 ·injection hv with _ _ e2; omega
theorem ty_votes : SliceTy Tryz.prog 26 37 4 48:=.mk' Tryz.underlying26 (z:=.agg #[.string ⟨#[]⟩,.string ⟨#[]⟩,.int .i64 0,.int .i64 0]) (by kernel_rfl) rfl (by decide)
theorem who_len {s : List UInt8} (h : s ∈ whoL) : s.length ≤ 3:=by
 have h6 : ∀ s ∈ whoL,s.length ≤ 3:=by decide
 exact h6 s h
def VoteLPost (w : World) (g N many : Nat) (e : Ending) (w' : World) : Prop:=∃ (A : Option Addr) (c : Nat) (vs : List VoteE),e = .returned (.slice A vs.length c) ∧ w'.ownsRow w.heap.size 37 4 (.slice A vs.length c) vs.length (vs.flatMap encV) ∧ vs.length ≤ 3 * many ∧ (∀ v ∈ vs,VB v) ∧ Str w' g N ∧ w.grownBy w' (some g)
def runsL : List (List UInt8):=[[114,49],[114,50],[114,51]]
set_option maxHeartbeats 8000000 in
set_option maxRecDepth 100000 in
theorem voteList_any (g N many : Nat) (w : World) (hs : Str w g N) (hN : N < 4611686018427000000) (hm : many ≤ 50) :
  Calls Tryz.prog 5 #[.pointer (some ⟨g,0,none⟩),.int .i64 (many : Int)] w (VoteLPost w g (N + 10 + 30 * many) many):=by
 have hlt:=hs.lt
 have hC0 : OwC 37 #[.string ⟨#[114,49]⟩,.string ⟨#[114,50]⟩,.string ⟨#[114,51]⟩] w (w.alloc (.cells #[.string ⟨#[114,49]⟩,.string ⟨#[114,50]⟩,.string ⟨#[114,51]⟩] 9)) g N none 0 0 ([] : List Value):=⟨World.ownsRow_nil _ _ _ _,hs.alloc _,World.grownBy_alloc _ _ _,Blk.new _ _ _,hlt⟩
 clear hs
 go_enter Tryz.func5,Tryz.ntmps5
 go_wp2_with fail
 generalize w.alloc (.cells #[.string ⟨#[114,49]⟩,.string ⟨#[114,50]⟩,.string ⟨#[114,51]⟩] 9) = w0 at *
 go_loopw [5,14] (fun o i wr => ∃ (k : Nat) (A : Option Addr) (c : Nat) (vs : List VoteE),k ≤ 3 ∧ i = .int .i64 k ∧ o = .slice A vs.length c ∧ vs.length ≤ k * many ∧ Hid (∀ v ∈ vs,VB v) ∧ OwC 37 #[.string ⟨#[114,49]⟩,.string ⟨#[114,50]⟩,.string ⟨#[114,51]⟩] w wr g (N + k * (2 + 3 * many)) A c vs.length (vs.flatMap encV)) (fun _ i _ => 3 - (intOf i).toNat)
 case atStart => exact ⟨0,none,0,[],by omega,rfl,rfl,by simp,Lib.hid (by simp),by simpa using hC0⟩
 case round =>
  clear hC0
  obtain ⟨k,A,c,vs,hk,rfl,rfl,hvl,HVB,hC⟩:=hrel
  have hkm : k * (2 + 3 * many) ≤ 3 * (2 + 3 * many):=Nat.mul_le_mul_right _ hk
  by_cases hk3 : k < 3
  ·have hrow : Row wr w.heap.size 1 (some ⟨w.heap.size,0,none⟩) 3 (strs runsL):=Row.lit hC.nm (Nat.le_refl _) rfl
   obtain ⟨b,off,he,hbs,hcell⟩:=strs_at (l:=runsL) hrow (k:=k) hk3
   injection he with he
   injection he with e1 e2
   subst e1 e2
   have y0:=hcell k hk3
   have HRL : Hid (runsL[k].length ≤ 2):=Lib.hid (by
    have h6 : ∀ s ∈ runsL,s.length ≤ 2:=by decide
    exact h6 _ (List.getElem_mem _))
   rw [Nat.zero_add] at y0
   clear hcell hrow
   generalize runsL[k] = run at *
   simp only [encStr] at y0
   go_wp2_with fail
   refine (pick_any g _ _ _ _ [0,5,20] _ (hC.s.alloc _) (by omega) (row_new _ _ _ _ _ _ (Nat.le_refl _) rfl) hC.s.lt (by simp) (by simp)).mono ?_
   rintro e w2 ⟨at0,rfl,hat,hs2,hg2⟩
   have hab : 0 ≤ at0 ∧ at0 ≤ 20:=by
    have h6 : ∀ x ∈ ([0,5,20] : List Int),0 ≤ x ∧ x ≤ 20:=by decide
    exact h6 _ hat
   replace hC:=(hC.alloc (.cells #[.int .i64 0,.int .i64 5,.int .i64 20] 3)).str hs2 hg2
   clear hs2 hg2 hat y0
   go_wp2_with fail
   refine (range_any g _ 0 (many : Int) _ hC.s (by omega) (by omega) (by omega) (by omega)).mono ?_
   rintro e w3 ⟨mm,rfl,hm0,hm1,hs3,hg3⟩
   obtain ⟨m,rfl⟩:=Int.eq_ofNat_of_zero_le hm0
   have hmm : m ≤ many:=by omega
   replace hC:=hC.str hs3 hg3
   have hmi : (m : Int) ≤ 50:=by omega
   clear hs3 hg3 hm0 hm1
   have HVL:=Lib.hid hvl
   obtain ⟨n0,hn0⟩ : ∃ n0,n0 = vs.length:=⟨_,rfl⟩
   have hn0b : n0 ≤ 150:=by have:=Nat.mul_le_mul (show k ≤ 3 from hk) hm; omega
   have hvn : vs.length ≤ n0 + 0:=by omega
   have HN0:=Lib.hid hn0
   clear hn0 hvl
   go_wp2_with fail
   obtain ⟨NB,hNB⟩ : ∃ NB,NB = N + k * (2 + 3 * many) + 1 + 1:=⟨_,rfl⟩
   rw [← hNB] at hC
   have hNBb : NB ≤ N + 1000:=by omega
   go_loopw [5,8,24] (fun o a i wr => ∃ (j : Nat) (A : Option Addr) (c : Nat) (vs : List VoteE) (t : Int),j ≤ m ∧ i = .int .i64 j ∧ a = .int .i64 t ∧ 0 ≤ t ∧ t ≤ 20 + 31 * j ∧ o = .slice A vs.length c ∧ vs.length ≤ n0 + j ∧ Hid (∀ v ∈ vs,VB v) ∧ OwC 37 #[.string ⟨#[114,49]⟩,.string ⟨#[114,50]⟩,.string ⟨#[114,51]⟩] w wr g (NB + 3 * j) A c vs.length (vs.flatMap encV)) (fun _ _ i _ => m - (intOf i).toNat)
   case atStart => exact ⟨0,A,c,vs,at0,Nat.zero_le _,rfl,rfl,hab.1,by omega,rfl,by omega,HVB,hC⟩
   case round =>
    clear hC HVB hab hvn hk3
    obtain ⟨j,A,c,vs,t,hj,rfl,rfl,ht0,ht1,rfl,hvn,HVB,hC⟩:=hrel
    by_cases hjm : j < m
    ·go_wp2_with fail
     refine (some_litN g _ _ #[.string ⟨#[106,97]⟩,.string ⟨#[106,98]⟩,.string ⟨#[106,99]⟩,.string ⟨#[122,101,100]⟩] [[106,97],[106,98],[106,99],[122,101,100]] _ (hC.s.alloc _) (by omega) (Blk.new _ _ _) rfl hC.s.lt (by decide) (by decide)).mono ?_
     rintro e w5 ⟨who,rfl,hwho,hs5,hg5⟩
     have HWH : Hid (who ∈ whoL):=Lib.hid (by
      have h6 : ∀ s ∈ ([[106,97],[106,98],[106,99],[122,101,100]] : List (List UInt8)),s ∈ whoL:=by decide
      exact h6 _ hwho)
     replace hC:=(hC.alloc (.cells #[.string ⟨#[106,97]⟩,.string ⟨#[106,98]⟩,.string ⟨#[106,99]⟩,.string ⟨#[122,101,100]⟩] 9)).str hs5 hg5
     clear hs5 hg5 hwho
     go_wp2_with fail
     refine (pick_any g _ _ _ _ [1,1,1,2,2,3] _ (hC.s.alloc _) (by omega) (row_new _ _ _ _ _ _ (Nat.le_refl _) rfl) hC.s.lt (by simp) (by simp)).mono ?_
     rintro e w6 ⟨kd,rfl,-,hs6,hg6⟩
     replace hC:=(hC.alloc (.cells #[.int .i64 1,.int .i64 1,.int .i64 1,.int .i64 2,.int .i64 2,.int .i64 3] 3)).str hs6 hg6
     clear hs6 hg6
     go_upto_region 9 with (fail)
     have hvb : Blk (w6.alloc (.cells #[.string ⟨run.toArray⟩,.string ⟨who.toArray⟩,.int .i64 t,.int .i64 kd] 37)) w6.heap.size 37 #[.string ⟨run.toArray⟩,.string ⟨who.toArray⟩,.int .i64 t,.int .i64 kd]:=Blk.new _ _ _
     have hdo:=hC.off
     have hgt : w.heap.size < w6.heap.size:=hC.nm.lt
     replace hC:=hC.alloc (.cells #[.string ⟨run.toArray⟩,.string ⟨who.toArray⟩,.int .i64 t,.int .i64 kd] 37)
     generalize w6.alloc (.cells #[.string ⟨run.toArray⟩,.string ⟨who.toArray⟩,.int .i64 t,.int .i64 kd] 37) = w7 at *
     generalize w6.heap.size = vb at *
     have hvlen : vs.length ≤ 1000:=by omega
     go_upto_region 10 with (fail)
     go_cut [69] from 37 to 68 (fun u wx => ∃ x : Bool,u = .bool x ∧ ∃ n,wx = w7.drewN n)
     case first =>
      by_cases hn0 : vs.length = 0
      ·have d0 : ¬ 0 < vs.length:=by omega
       clear hn0
       go_quiet (fail)
       go_wp2_with fail
       go_meet
       exact ⟨_,rfl,_,rfl⟩
      ·have d0 : 0 < vs.length:=by omega
       obtain ⟨i,hi⟩ : ∃ i,i = vs.length - 1:=⟨_,rfl⟩
       have hil : i < vs.length:=by omega
       have wk : IntKind.i64.wrap ((vs.length : Int) - 1) = (i : Int):=by rw [IntWalk.i64_in _ ⟨by omega,by omega⟩]; omega
       obtain ⟨b2,off2,rfl,hb2,-,hcl⟩:=votes_at (Row.of_own hC.own) (by omega)
       obtain ⟨c0,c1,c2,-⟩:=hcl i hil
       obtain ⟨z0,z1,z2,z3⟩ : _ ∧ _ ∧ _ ∧ _:=⟨hvb.cell 0,hvb.cell 1,hvb.cell 2,hvb.cell 3⟩
       simp only [Q0,Q2,Q1] at z0 z1 z2 z3
       have zl:=hvb.lt
       clear hi hn0 hcl
       generalize vs[i] = p at *
       obtain ⟨q1,h1⟩ : ∃ q1,(p.run == run) = q1:=⟨_,rfl⟩
       obtain ⟨q2,h2⟩ : ∃ q2,(p.at_ == t) = q2:=⟨_,rfl⟩
       obtain ⟨q3,h3⟩ : ∃ q3,Op.bytesLess who p.who = q3:=⟨_,rfl⟩
       obtain ⟨q4,h4⟩ : ∃ q4,(who == p.who) = q4:=⟨_,rfl⟩
       obtain ⟨q5,h5⟩ : ∃ q5,(p.who == who) = q5:=⟨_,rfl⟩
       obtain ⟨q6,h6⟩ : ∃ q6,Op.bytesLess p.who who = q6:=⟨_,rfl⟩
       cases q1 with
       | false =>
        go_quiet (fail)
        go_wp2_with fail
        go_meet
        exact ⟨_,rfl,_,rfl⟩
       | true =>
        cases q2 with
        | false =>
         go_quiet (fail)
         go_wp2_with fail
         go_meet
         exact ⟨_,rfl,_,rfl⟩
        | true =>
         cases q3 <;> cases q4 <;> cases q5 <;> cases q6
         all_goals
          go_quiet (fail)
          go_wp2_with fail
          go_meet
          exact ⟨_,rfl,_,rfl⟩
     case rest =>
     obtain ⟨x,rfl,n8,rfl⟩:=hcut
     replace hvb : Blk (w7.drewN n8) vb 37 #[.string ⟨run.toArray⟩,.string ⟨who.toArray⟩,.int .i64 t,.int .i64 kd]:=hvb.below (below_drewN' (Below.refl _ _) n8)
     replace hC:=hC.drewN n8
     generalize w7.drewN n8 = w8 at *
     go_upto_if 69 with (fail)
     go_cut [8] from 70 to 75 (fun a wx => ∃ (t2 t3 : Int),a = .int .i64 t2 ∧ 0 ≤ t2 ∧ t2 ≤ 21 + 31 * j ∧ Blk wx vb 37 #[.string ⟨run.toArray⟩,.string ⟨who.toArray⟩,.int .i64 t3,.int .i64 kd] ∧ OwC 37 #[.string ⟨#[114,49]⟩,.string ⟨#[114,50]⟩,.string ⟨#[114,51]⟩] w wx g (NB + 3 * j + 1 + 1) A c vs.length (vs.flatMap encV))
     case first =>
      cases x with
      | false =>
       go_wp2_with fail
       go_meet
       exact ⟨t,t,rfl,ht0,by omega,hvb,hC⟩
      | true =>
       have z2:=hvb.cell 2
       simp only [Q0,Q2,Q1] at z2
       have zl:=hvb.lt
       have f2:=hvb.thaw 2
       have w1 : IntKind.i64.wrap (t + 1) = t + 1:=IntWalk.i64_in _ ⟨by omega,by omega⟩
       have HV9:=Lib.hid (hvb.poke 2 (.int .i64 (t + 1)))
       have HC9:=Lib.hid (hC.box hgt hdo 2 (.int .i64 (t + 1)))
       clear hvb hC
       go_wp2_with fail
       go_meet
       exact ⟨t + 1,t + 1,rfl,by omega,by omega,by simpa using HV9.out,HC9.out⟩
     case rest =>
     clear hC hvb
     obtain ⟨t2,t3,rfl,ht2,ht3,hvb,hC⟩:=hcut
     obtain ⟨z0,z1,z2,z3⟩ : _ ∧ _ ∧ _ ∧ _:=⟨hvb.cell 0,hvb.cell 1,hvb.cell 2,hvb.cell 3⟩
     simp only [Q0,Q2,Q1] at z0 z1 z2 z3
     have zl:=hvb.lt
     have HCA:=Lib.hid (hC.alloc (.cells #[.string ⟨run.toArray⟩,.string ⟨who.toArray⟩,.int .i64 t3,.int .i64 kd] 37))
     go_wp2_with (at_builtin; go_must (refine wpList_app (lo:=w.heap.size + 1) (base:=w.heap.size + 1) (n:=vs.length) (xs:=vs.flatMap encV) _ _ rfl _ _ ty_votes rfl (by repeat (first | exact HCA.out.own | refine World.ownsRow.alloc ?_ _ | refine own_drewN ?_ _ | refine World.ownsRow.drew ?_)) rfl (by first | exact row_new' _ (by first | rfl | simp) (by first | omega | (simp; omega)) rfl | exact row_newN _ _ (by first | rfl | simp) (by first | omega | (simp; omega)) rfl | exact row_newD _ (by first | rfl | simp) (by first | omega | (simp; omega)) rfl) rfl rfl (by first | omega | decide) (by first | omega | decide) (by first | omega | (simp; omega)) ?_))
     intro A5 c5 w8 hown5 hg5 _
     have HO5 : Hid (w8.ownsRow (w.heap.size + 1) 37 4 (.slice A5 (vs ++ [(⟨run,who,t3,kd⟩ : VoteE)]).length c5) (vs ++ [(⟨run,who,t3,kd⟩ : VoteE)]).length ((vs ++ [(⟨run,who,t3,kd⟩ : VoteE)]).flatMap encV)):=Lib.hid (by simpa [encV,encStr] using hown5)
     have hC8:=HCA.out.app hg5 HO5.out
     have HV5 : Hid (∀ v ∈ vs ++ [(⟨run,who,t3,kd⟩ : VoteE)],VB v):=Lib.hid (by
      intro v hv; rcases List.mem_append.1 hv with h | h
      ·exact HVB.out v h
      ·simp at h; subst h; exact ⟨HRL.out,HWH.out⟩)
     have HLN : Hid ((vs ++ [(⟨run,who,t3,kd⟩ : VoteE)]).length = vs.length + 1):=Lib.hid (by simp)
     clear hown5 hg5 hC HCA hvb z0 z1 z2 z3 zl HO5
     go_wp2_with fail
     refine (pick_any g _ _ _ _ [0,1,5,30] _ (hC8.s.alloc _) (by omega) (row_new _ _ _ _ _ _ (Nat.le_refl _) rfl) hC8.s.lt (by simp) (by simp)).mono ?_
     rintro e w9 ⟨dt,rfl,hdt,hs9,hg9⟩
     have hdb : 0 ≤ dt ∧ dt ≤ 30:=by
      have h6 : ∀ x ∈ ([0,1,5,30] : List Int),0 ≤ x ∧ x ≤ 30:=by decide
      exact h6 _ hdt
     have hC9:=(hC8.alloc (.cells #[.int .i64 0,.int .i64 1,.int .i64 5,.int .i64 30] 3)).str hs9 hg9
     have wt : IntKind.i64.wrap (t2 + dt) = t2 + dt:=IntWalk.i64_in _ ⟨by omega,by omega⟩
     clear hs9 hg9 hdt hC8
     go_wp2_with fail
     go_roundw
     case rel => exact ⟨j + 1,A5,c5,vs ++ [(⟨run,who,t3,kd⟩ : VoteE)],t2 + dt,by omega,by go_num,rfl,by omega,by push_cast; omega,by rw [HLN.out],by rw [HLN.out]; omega,HV5,by rw [show NB + 3 * (j + 1) = NB + 3 * j + 1 + 1 + 1 by omega]; exact hC9⟩
     case measure => simp [intOf]; omega
    ·have HKN : Hid (vs.length ≤ (k + 1) * many):=Lib.hid (by
      have h1:=HVL.out
      have h2:=HN0.out
      rw [Nat.add_mul]; omega)
     have hC2:=hC.more (show NB + 3 * j ≤ N + (k + 1) * (2 + 3 * many) by rw [Nat.add_mul]; omega)
     clear hC
     go_wp2_with fail
     go_roundw
     case rel => exact ⟨k + 1,A,c,vs,by omega,by go_num,rfl,HKN.out,HVB,hC2⟩
     case measure => simp [intOf]; omega
  ·have hkk : k = 3:=by omega
   subst hkk
   have hvl2 : vs.length ≤ 150:=by omega
   have hC:=hC.more (show N + 3 * (2 + 3 * many) ≤ N + 6 + 9 * many by omega)
   by_cases hn0 : vs.length = 0
   ·have d0 : ¬ 0 < vs.length:=by omega
    have HF:=Lib.hid (own_weak hC.own (show w.heap.size ≤ w.heap.size + 1 by omega))
    clear hn0
    go_wp2_with fail
    go_ret
    exact ⟨A,c,vs,rfl,HF.out,hvl,HVB.out,hC.s.more (by omega),hC.gr⟩
   ·have d0 : 0 < vs.length:=by omega
    clear hn0
    go_wp2_with fail
    refine (flip_any g _ 20 _ hC.s (by omega) (by omega)).mono ?_
    rintro e w20 ⟨r2,rfl,hs,hg⟩
    replace hC:=hC.str hs hg
    clear hs hg
    cases r2
    ·have HF:=Lib.hid (own_weak hC.own (show w.heap.size ≤ w.heap.size + 1 by omega))
     go_wp2_with fail
     go_ret
     exact ⟨A,c,vs,rfl,HF.out,hvl,HVB.out,hC.s.more (by omega),hC.gr⟩
    ·go_wp2_with fail
     refine (next_any g _ (vs.length : Int) _ hC.s (by omega) (by omega)).mono ?_
     rintro e w30 ⟨r,rfl,h40,h41,-,hs,hg⟩
     have h42:=h41 (by omega)
     obtain ⟨k,rfl⟩:=Int.eq_ofNat_of_zero_le h40
     have hk0 : k < vs.length:=by omega
     replace hC:=hC.str hs hg
     obtain ⟨b,rfl,hbb,hbz,-,-⟩:=hC.free d0
     clear h40 h41 h42 hs hg
     obtain ⟨us,hus⟩ : ∃ us,us = vs:=⟨_,rfl⟩
     have hul : us.length = vs.length:=by rw [hus]
     have HUL : Hid (us.length = vs.length):=Lib.hid hul
     rw [← hus] at hk0
     have hCu:=hC
     rw [show (vs.flatMap encV) = us.flatMap encV by rw [hus]] at hCu
     have HVU : Hid (∀ v ∈ us,VB v):=Lib.hid (by rw [hus]; exact HVB.out)
     clear hC
     have hC:=hCu
     clear hCu
     obtain ⟨x,hxk⟩ : ∃ x,us[k] = x:=⟨_,rfl⟩
     have hVx : Hid (VB x):=Lib.hid (by rw [← hxk]; exact HVU.out _ (List.getElem_mem _))
     have hpos : 0 < vs.length:=d0
     have hkv : k < vs.length:=by omega
     have hnle : vs.length ≤ 1000:=by omega
     clear hus hul
     go_upto_region 19 with (fail)
     replace hC:=hC.drew
     refine wp_region_heldK 29 (fun w' => w'.cell? ⟨b,k * 4,none⟩ = some (.string ⟨x.run.toArray⟩) ∧ w'.cell? ⟨b,k * 4 + 1,none⟩ = some (.string ⟨x.who.toArray⟩) ∧ w'.cell? ⟨b,k * 4 + 2,none⟩ = some (.int .i64 x.at_)) (fun _ => True) (by kernel_rfl) (trivial) (hC.vc2 HUL.out hk0 hxk) (fun hT hS => ?_)
     (refine wpAnyK_take2 (i:=0) (v:=?_) (by (simp only [Q0,Q2]; rfl)) (by kernel_rfl) (by kernel_rfl) (by kernel_rfl) (by decide) (by exact fun _ _ _ h => h) (Or.inl ⟨by rfl,?_⟩) (by assumption) (by assumption) ?_; (rotate_left 1; (intro w hSw; (try dsimp only at hSw); go_simp); (try with_reducible rfl)); (try simp only [Act.put,Q3,Q4,Q5]))
     (refine wpAnyK_take2 (i:=1) (v:=?_) (by (simp only [Q0,Q1,Q2]; rfl)) (by kernel_rfl) (by kernel_rfl) (by kernel_rfl) (by decide) (by exact fun _ _ _ h => h) (Or.inl ⟨by rfl,?_⟩) (by assumption) (by assumption) ?_; (rotate_left 1; (intro w hSw; (try dsimp only at hSw); go_simp); (try with_reducible rfl)); (try simp only [Act.put,Q3,Q4,Q5]))
     (refine wpAnyK_take2 (i:=2) (v:=?_) (by (simp only [Q0,Q1,Q2]; rfl)) (by kernel_rfl) (by kernel_rfl) (by kernel_rfl) (by decide) (by exact fun _ _ _ h => h) (Or.inl ⟨by rfl,?_⟩) (by assumption) (by assumption) ?_; (rotate_left 1; (intro w hSw; (try dsimp only at hSw); go_simp); (try with_reducible rfl)); (try simp only [Act.put,Q3,Q4,Q5]))
     (refine wpAnyK_take2 (i:=3) (v:=?_) (by (simp only [Q0,Q1,Q2]; rfl)) (by kernel_rfl) (by kernel_rfl) (by kernel_rfl) (by decide) (by exact fun _ _ _ h => h) (Or.inl ⟨by rfl,?_⟩) (by assumption) (by assumption) ?_; (rotate_left 1; (intro w hSw; (try dsimp only at hSw); go_simp); (try with_reducible rfl)); (try simp only [Act.put,Q3,Q4,Q5]))
     (refine wpAnyK_take2 (i:=4) (v:=?_) (by (simp only [Q0,Q1,Q2]; rfl)) (by kernel_rfl) (by kernel_rfl) (by kernel_rfl) (by decide) (by exact fun _ _ _ h => h) (Or.inl ⟨by rfl,?_⟩) (by assumption) (by assumption) ?_; (rotate_left 1; (intro w hSw; (try dsimp only at hSw); go_simp); (try with_reducible rfl)); (try simp only [Act.put,Q3,Q4,Q5]))
     (refine wpAnyK_take2 (i:=5) (v:=?_) (by (simp only [Q0,Q1,Q2]; rfl)) (by kernel_rfl) (by kernel_rfl) (by kernel_rfl) (by decide) (by exact fun _ _ _ h => h) (Or.inl ⟨by rfl,?_⟩) (by assumption) (by assumption) ?_; (rotate_left 1; (intro w hSw; (try dsimp only at hSw); go_simp); (try with_reducible rfl)); (try simp only [Act.put,Q3,Q4,Q5]))
     (refine wpAnyK_take2 (i:=6) (v:=?_) (by (simp only [Q0,Q1,Q2]; rfl)) (by kernel_rfl) (by kernel_rfl) (by kernel_rfl) (by decide) (by exact fun _ _ _ h => h) (Or.inl ⟨by rfl,?_⟩) (by assumption) (by assumption) ?_; (rotate_left 1; (intro w hSw; (try dsimp only at hSw); go_simp); (try with_reducible rfl)); (try simp only [Act.put,Q3,Q4,Q5]))
     (refine wpAnyK_take2 (i:=7) (v:=?_) (by (simp only [Q0,Q1,Q2]; rfl)) (by kernel_rfl) (by kernel_rfl) (by kernel_rfl) (by decide) (by exact fun _ _ _ h => h) (Or.inl ⟨by rfl,?_⟩) (by assumption) (by assumption) ?_; (rotate_left 1; (intro w hSw; (try dsimp only at hSw); go_simp); (try with_reducible rfl)); (try simp only [Act.put,Q3,Q4,Q5]))
     (refine wpAnyK_take1 (i:=8) (v:=?_) (by (simp only [Q0,Q1,Q2]; rfl)) (by kernel_rfl) (by kernel_rfl) (by kernel_rfl) (by decide) (by kernel_rfl) (by kernel_rfl) (by exact fun _ _ _ h => h) (Or.inl ⟨by rfl,?_⟩) (by assumption) (by assumption) ?_; (rotate_left 1; (intro w hSw; (try dsimp only at hSw); go_simp); (try with_reducible rfl)); (try simp only [Act.put,Q3,Q4,Q5]))
     (refine wpAnyK_take2 (i:=11) (v:=?_) (by (simp only [Q0,Q1,Q2]; rfl)) (by kernel_rfl) (by kernel_rfl) (by kernel_rfl) (by decide) (by exact fun _ _ _ h => h) (Or.inl ⟨by rfl,?_⟩) (by assumption) (by assumption) ?_; (rotate_left 1; (intro w hSw; (try dsimp only at hSw); go_simp); (try with_reducible rfl)); (try simp only [Act.put,Q3,Q4,Q5]))
     (refine wpAnyK_take2 (i:=12) (v:=?_) (by (simp only [Q0,Q1,Q2]; rfl)) (by kernel_rfl) (by kernel_rfl) (by kernel_rfl) (by decide) (by exact fun _ _ _ h => h) (Or.inl ⟨by rfl,?_⟩) (by assumption) (by assumption) ?_; (rotate_left 1; (intro w hSw; (try dsimp only at hSw); go_simp); (try with_reducible rfl)); (try simp only [Act.put,Q3,Q4,Q5]))
     (refine wpAnyK_take2 (i:=13) (v:=?_) (by (simp only [Q0,Q1,Q2]; rfl)) (by kernel_rfl) (by kernel_rfl) (by kernel_rfl) (by decide) (by exact fun _ _ _ h => h) (Or.inl ⟨by rfl,?_⟩) (by assumption) (by assumption) ?_; (rotate_left 1; (intro w hSw; (try dsimp only at hSw); go_simp); (try with_reducible rfl)); (try simp only [Act.put,Q3,Q4,Q5]))
     (refine wpAnyK_take2 (i:=14) (v:=?_) (by (simp only [Q0,Q1,Q2]; rfl)) (by kernel_rfl) (by kernel_rfl) (by kernel_rfl) (by decide) (by exact fun _ _ _ h => h) (Or.inl ⟨by rfl,?_⟩) (by assumption) (by assumption) ?_; (rotate_left 1; (intro w hSw; (try dsimp only at hSw); go_simp); (try with_reducible rfl)); (try simp only [Act.put,Q3,Q4,Q5]))
     (refine wpAnyK_take1 (i:=15) (v:=?_) (by (simp only [Q0,Q1,Q2]; rfl)) (by kernel_rfl) (by kernel_rfl) (by kernel_rfl) (by decide) (by kernel_rfl) (by kernel_rfl) (by exact fun _ _ _ h => h) (Or.inl ⟨by rfl,?_⟩) (by assumption) (by assumption) ?_; (rotate_left 1; (intro w hSw; (try dsimp only at hSw); go_simp); (try with_reducible rfl)); (try simp only [Act.put,Q3,Q4,Q5]))
     (refine wpAnyK_take2 (i:=18) (v:=?_) (by (simp only [Q0,Q1,Q2]; rfl)) (by kernel_rfl) (by kernel_rfl) (by kernel_rfl) (by decide) (by exact fun _ _ _ h => h) (Or.inl ⟨by rfl,?_⟩) (by assumption) (by assumption) ?_; (rotate_left 1; (intro w hSw; (try dsimp only at hSw); go_simp); (try with_reducible rfl)); (try simp only [Act.put,Q3,Q4,Q5]))
     (refine wpAnyK_take2 (i:=19) (v:=?_) (by (simp only [Q0,Q1,Q2]; rfl)) (by kernel_rfl) (by kernel_rfl) (by kernel_rfl) (by decide) (by exact fun _ _ _ h => h) (Or.inl ⟨by rfl,?_⟩) (by assumption) (by assumption) ?_; (rotate_left 1; (intro w hSw; (try dsimp only at hSw); go_simp); (try with_reducible rfl)); (try simp only [Act.put,Q3,Q4,Q5]))
     (refine wpAnyK_take2 (i:=20) (v:=?_) (by (simp only [Q0,Q1,Q2]; rfl)) (by kernel_rfl) (by kernel_rfl) (by kernel_rfl) (by decide) (by exact fun _ _ _ h => h) (Or.inl ⟨by rfl,?_⟩) (by assumption) (by assumption) ?_; (rotate_left 1; (intro w hSw; (try dsimp only at hSw); go_simp); (try with_reducible rfl)); (try simp only [Act.put,Q3,Q4,Q5]))
     (refine wpAnyK_take2 (i:=21) (v:=?_) (by (simp only [Q0,Q1,Q2]; rfl)) (by kernel_rfl) (by kernel_rfl) (by kernel_rfl) (by decide) (by exact fun _ _ _ h => h) (Or.inl ⟨by rfl,?_⟩) (by assumption) (by assumption) ?_; (rotate_left 1; (intro w hSw; (try dsimp only at hSw); go_simp); (try with_reducible rfl)); (try simp only [Act.put,Q3,Q4,Q5]))
     (refine wpAnyK_take1 (i:=22) (v:=?_) (by (simp only [Q0,Q1,Q2]; rfl)) (by kernel_rfl) (by kernel_rfl) (by kernel_rfl) (by decide) (by kernel_rfl) (by kernel_rfl) (by exact fun _ _ _ h => h) (Or.inl ⟨by rfl,?_⟩) (by assumption) (by assumption) ?_; (rotate_left 1; (intro w hSw; (try dsimp only at hSw); go_simp); (try with_reducible rfl)); (try simp only [Act.put,Q3,Q4,Q5]))
     (refine wpAnyK_take2 (i:=25) (v:=?_) (by (simp only [Q0,Q1,Q2]; rfl)) (by kernel_rfl) (by kernel_rfl) (by kernel_rfl) (by decide) (by exact fun _ _ _ h => h) (Or.inl ⟨by rfl,?_⟩) (by assumption) (by assumption) ?_; (rotate_left 1; (intro w hSw; (try dsimp only at hSw); go_simp); (try with_reducible rfl)); (try simp only [Act.put,Q3,Q4,Q5]))
     refine wpAnyK_ready (rs:=[9,16,23]) (by kernel_rfl) (by simp) ?_
     refine AllReadyK.cons rfl (fun K hK => ?_) (AllReadyK.cons rfl (fun K hK => ?_) (AllReadyK.cons rfl (fun K hK => ?_) AllReadyK.nil))
     case refine_1 =>
      as_aux_lemma =>
       go_simp
       have hL9 : Blk (w30.drew.alloc (.cells #[.string ⟨x.run.toArray⟩,.string ⟨#[]⟩] 9)) (w30.heap.size) 9 #[.string ⟨x.run.toArray⟩,.string ⟨#[]⟩]:=Blk.at1 _ (by simp)
       have gL9 : g < w30.heap.size:=by have:=hC.s.lt; simp at this ⊢; omega
       replace hC:=hC.alloc (.cells #[.string ⟨x.run.toArray⟩,.string ⟨#[]⟩] 9)
       refine hK.out _ _ (trivial) (hC.vc2 HUL.out hk0 hxk) (fun hT hS => ?_)
       clear hK K
       (try simp only [Act.put,Q3,Q4,Q5])
       refine wpAnyK_ready (rs:=[10,16,23]) (by kernel_rfl) (by simp) ?_
       refine AllReadyK.cons rfl (fun K hK => ?_) (AllReadyK.cons rfl (fun K hK => ?_) (AllReadyK.cons rfl (fun K hK => ?_) AllReadyK.nil))
       case refine_1 =>
        as_aux_lemma =>
         go_simp
         go_at_call 11
         refine (some_litN g _ _ #[.string ⟨x.run.toArray⟩,.string ⟨#[]⟩] [x.run,[]] _ hC.s (by omega) hL9 rfl gL9 (by simp) (by simp)).mono ?_
         rintro e w31 ⟨x10,rfl,hx10,hs,hg⟩
         replace hC:=hC.str hs hg
         clear hs hg hL9 gL9
         go_wp2_with fail
         refine hK.out _ _ (trivial) (hC.vc2 HUL.out hk0 hxk) (fun hT hS => ?_)
         clear hK K
         (try simp only [Act.put,Q3,Q4,Q5])
         refine wpAnyK_ready (rs:=[16,23]) (by kernel_rfl) (by simp) ?_
         refine AllReadyK.cons rfl (fun K hK => ?_) (AllReadyK.cons rfl (fun K hK => ?_) AllReadyK.nil)
         case refine_1 =>
          as_aux_lemma =>
           go_simp
           have hL16 : Blk (w31.alloc (.cells #[.string ⟨x.who.toArray⟩,.string ⟨#[65]⟩] 9)) (w31.heap.size) 9 #[.string ⟨x.who.toArray⟩,.string ⟨#[65]⟩]:=Blk.at1 _ (by simp)
           have gL16 : g < w31.heap.size:=by have:=hC.s.lt; simp at this ⊢; omega
           replace hC:=hC.alloc (.cells #[.string ⟨x.who.toArray⟩,.string ⟨#[65]⟩] 9)
           refine hK.out _ _ (trivial) (hC.vc2 HUL.out hk0 hxk) (fun hT hS => ?_)
           clear hK K
           (try simp only [Act.put,Q3,Q4,Q5])
           refine wpAnyK_ready (rs:=[17,23]) (by kernel_rfl) (by simp) ?_
           refine AllReadyK.cons rfl (fun K hK => ?_) (AllReadyK.cons rfl (fun K hK => ?_) AllReadyK.nil)
           case refine_1 =>
            as_aux_lemma =>
             go_simp
             go_at_call 11
             refine (some_litN g _ _ #[.string ⟨x.who.toArray⟩,.string ⟨#[65]⟩] [x.who,[65]] _ hC.s (by omega) hL16 rfl gL16 (by simp) (by simp)).mono ?_
             rintro e w32 ⟨x17,rfl,hx17,hs,hg⟩
             replace hC:=hC.str hs hg
             clear hs hg hL16 gL16
             go_wp2_with fail
             refine hK.out _ _ (trivial) (hC.vc2 HUL.out hk0 hxk) (fun hT hS => ?_)
             clear hK K
             (try simp only [Act.put,Q3,Q4,Q5])
             refine wpAnyK_ready (rs:=[23]) (by kernel_rfl) (by simp) ?_
             refine AllReadyK.cons rfl (fun K hK => ?_) AllReadyK.nil
             go_simp
             have hL23 : Blk (w32.alloc (.cells #[.int .i64 x.at_,.int .i64 (-1),.int .i64 0] 3)) (w32.heap.size) 3 #[.int .i64 x.at_,.int .i64 (-1),.int .i64 0]:=Blk.at1 _ (by simp)
             have gL23 : g < w32.heap.size:=by have:=hC.s.lt; simp at this ⊢; omega
             replace hC:=hC.alloc (.cells #[.int .i64 x.at_,.int .i64 (-1),.int .i64 0] 3)
             refine hK.out _ _ (trivial) (hC.vc2 HUL.out hk0 hxk) (fun hT hS => ?_)
             clear hK K
             (try simp only [Act.put,Q3,Q4,Q5])
             refine wpAnyK_ready (rs:=[24]) (by kernel_rfl) (by simp) ?_
             refine AllReadyK.cons rfl (fun K hK => ?_) AllReadyK.nil
             go_simp
             go_at_call 12
             refine (pick_any g _ _ _ _ [x.at_,-1,0] _ hC.s (by omega) (Row.lit hL23 (Nat.le_refl _) rfl) gL23 (by simp) (by simp)).mono ?_
             rintro e w33 ⟨x24,rfl,-,hs,hg⟩
             replace hC:=hC.str hs hg
             clear hs hg hL23 gL23
             go_wp2_with fail
             refine hK.out _ _ (trivial) (hC.vc2 HUL.out hk0 hxk) (fun hT hS => ?_)
             clear hK K
             (try simp only [Act.put,Q3,Q4,Q5])
             refine wpAnyK_ready (rs:=[26]) (by kernel_rfl) (by simp) ?_
             refine AllReadyK.cons rfl (fun K hK => ?_) AllReadyK.nil
             go_simp
             go_at_call 38
             refine (odd_any g _ 1 3 _ hC.s (by omega) (by omega) (by omega) (by omega)).mono ?_
             rintro e w34 ⟨x26,rfl,-,-,hs,hg⟩
             replace hC:=hC.str hs hg
             clear hs hg
             go_wp2_with fail
             refine hK.out _ _ (trivial) (hC.vc2 HUL.out hk0 hxk) (fun hT hS => ?_)
             clear hK K
             (try simp only [Act.put,Q3,Q4,Q5])
             (refine wpAnyK_take2 (i:=27) (v:=?_) (by (simp only [Q0,Q1,Q2]; rfl)) (by kernel_rfl) (by kernel_rfl) (by kernel_rfl) (by decide) (by exact fun _ _ _ h => h) (Or.inl ⟨by rfl,?_⟩) (by assumption) (by assumption) ?_; (rotate_left 1; (intro w hSw; (try dsimp only at hSw); go_simp); (try with_reducible rfl)); (try simp only [Act.put,Q3,Q4,Q5]))
             (refine wpAnyK_take2 (i:=28) (v:=?_) (by (simp only [Q0,Q1,Q2]; rfl)) (by kernel_rfl) (by kernel_rfl) (by kernel_rfl) (by decide) (by exact fun _ _ _ h => h) (Or.inl ⟨by rfl,?_⟩) (by assumption) (by assumption) ?_; (rotate_left 1; (intro w hSw; (try dsimp only at hSw); go_simp); (try with_reducible rfl)); (try simp only [Act.put,Q3,Q4,Q5]))
             refine wpAnyK_ready (rs:=[29]) (by kernel_rfl) (by simp) ?_
             refine AllReadyK.consT (by kernel_rfl) rfl (fun K hK => ?_) AllReadyK.nil
             obtain ⟨zb3,zb4⟩:=hC.freeB hpos
             have fz0:=zb4 (k * 4)
             have fz1:=zb4 (k * 4 + 1)
             have fz2:=zb4 (k * 4 + 2)
             have fz3:=zb4 (k * 4 + 3)
             have cz0:=zb3 (k * 4) _ (flat_getV hk0 hxk 0 (by decide) rfl)
             have cz1:=zb3 (k * 4 + 1) _ (flat_getV hk0 hxk 1 (by decide) rfl)
             have cz2:=zb3 (k * 4 + 2) _ (flat_getV hk0 hxk 2 (by decide) rfl)
             have cz3:=zb3 (k * 4 + 3) _ (flat_getV hk0 hxk 3 (by decide) rfl)
             clear zb3 zb4
             have hC0:=hC.setV hbb hk0 (i:=0) (by decide) (.string ⟨x10.toArray⟩) (x':={ x with run:=x10 }) hxk rfl
             have hk1 : k < ((us.set k { x with run:=x10 })).length:=by simpa using hk0
             have hx1:=set_atV hk0 { x with run:=x10 }
             replace hC:=hC0
             clear hC0
             go_simp
             refine hK.out _ _ (trivial) (fun hT => ?_)
             clear hK K
             (try simp only [Act.put,Q3,Q4,Q5])
             (refine wpAnyK_take3 (i:=30) (v:=?_) (by (simp only [Q0,Q1,Q2]; rfl)) (by kernel_rfl) (by kernel_rfl) (by kernel_rfl) (by decide) (by kernel_rfl) (by exact fun _ _ _ h => h) (Or.inl ⟨by rfl,?_⟩) (by assumption) ?_; (rotate_left 1; (intro w hSw; (try dsimp only at hSw); go_simp); (try with_reducible rfl)); (try simp only [Act.put,Q3,Q4,Q5]))
             (refine wpAnyK_take3 (i:=31) (v:=?_) (by (simp only [Q0,Q1,Q2]; rfl)) (by kernel_rfl) (by kernel_rfl) (by kernel_rfl) (by decide) (by kernel_rfl) (by exact fun _ _ _ h => h) (Or.inl ⟨by rfl,?_⟩) (by assumption) ?_; (rotate_left 1; (intro w hSw; (try dsimp only at hSw); go_simp); (try with_reducible rfl)); (try simp only [Act.put,Q3,Q4,Q5]))
             refine wpAnyK_ready (rs:=[32]) (by kernel_rfl) (by simp) ?_
             refine AllReadyK.consT (by kernel_rfl) rfl (fun K hK => ?_) AllReadyK.nil
             have hC1:=hC.setV hbb hk1 (i:=1) (by decide) (.string ⟨x17.toArray⟩) (x':={ x with run:=x10,who:=x17 }) hx1 rfl
             have hk2 : k < (((us.set k { x with run:=x10 }).set k { x with run:=x10,who:=x17 })).length:=by simpa using hk1
             have hx2:=set_atV hk1 { x with run:=x10,who:=x17 }
             replace hC:=hC1
             clear hC1
             go_simp
             refine hK.out _ _ (trivial) (fun hT => ?_)
             clear hK K
             (try simp only [Act.put,Q3,Q4,Q5])
             (refine wpAnyK_take3 (i:=33) (v:=?_) (by (simp only [Q0,Q1,Q2]; rfl)) (by kernel_rfl) (by kernel_rfl) (by kernel_rfl) (by decide) (by kernel_rfl) (by exact fun _ _ _ h => h) (Or.inl ⟨by rfl,?_⟩) (by assumption) ?_; (rotate_left 1; (intro w hSw; (try dsimp only at hSw); go_simp); (try with_reducible rfl)); (try simp only [Act.put,Q3,Q4,Q5]))
             (refine wpAnyK_take3 (i:=34) (v:=?_) (by (simp only [Q0,Q1,Q2]; rfl)) (by kernel_rfl) (by kernel_rfl) (by kernel_rfl) (by decide) (by kernel_rfl) (by exact fun _ _ _ h => h) (Or.inl ⟨by rfl,?_⟩) (by assumption) ?_; (rotate_left 1; (intro w hSw; (try dsimp only at hSw); go_simp); (try with_reducible rfl)); (try simp only [Act.put,Q3,Q4,Q5]))
             refine wpAnyK_ready (rs:=[35]) (by kernel_rfl) (by simp) ?_
             refine AllReadyK.consT (by kernel_rfl) rfl (fun K hK => ?_) AllReadyK.nil
             have hC2:=hC.setV hbb hk2 (i:=2) (by decide) (.int .i64 x24) (x':={ x with run:=x10,who:=x17,at_:=x24 }) hx2 rfl
             have hk3 : k < ((((us.set k { x with run:=x10 }).set k { x with run:=x10,who:=x17 }).set k { x with run:=x10,who:=x17,at_:=x24 })).length:=by simpa using hk2
             have hx3:=set_atV hk2 { x with run:=x10,who:=x17,at_:=x24 }
             replace hC:=hC2
             clear hC2
             go_simp
             refine hK.out _ _ (trivial) (fun hT => ?_)
             clear hK K
             (try simp only [Act.put,Q3,Q4,Q5])
             (refine wpAnyK_take3 (i:=36) (v:=?_) (by (simp only [Q0,Q1,Q2]; rfl)) (by kernel_rfl) (by kernel_rfl) (by kernel_rfl) (by decide) (by kernel_rfl) (by exact fun _ _ _ h => h) (Or.inl ⟨by rfl,?_⟩) (by assumption) ?_; (rotate_left 1; (intro w hSw; (try dsimp only at hSw); go_simp); (try with_reducible rfl)); (try simp only [Act.put,Q3,Q4,Q5]))
             (refine wpAnyK_take3 (i:=37) (v:=?_) (by (simp only [Q0,Q1,Q2]; rfl)) (by kernel_rfl) (by kernel_rfl) (by kernel_rfl) (by decide) (by kernel_rfl) (by exact fun _ _ _ h => h) (Or.inl ⟨by rfl,?_⟩) (by assumption) ?_; (rotate_left 1; (intro w hSw; (try dsimp only at hSw); go_simp); (try with_reducible rfl)); (try simp only [Act.put,Q3,Q4,Q5]))
             refine wpAnyK_ready (rs:=[38]) (by kernel_rfl) (by simp) ?_
             refine AllReadyK.consT (by kernel_rfl) rfl (fun K hK => ?_) AllReadyK.nil
             have hC3:=hC.setV hbb hk3 (i:=3) (by decide) (.int .i64 x26) (x':=(⟨x10,x17,x24,x26⟩ : VoteE)) hx3 rfl
             have hk4 : k < (((((us.set k { x with run:=x10 }).set k { x with run:=x10,who:=x17 }).set k { x with run:=x10,who:=x17,at_:=x24 }).set k (⟨x10,x17,x24,x26⟩ : VoteE))).length:=by simpa using hk3
             have hx4:=set_atV hk3 (⟨x10,x17,x24,x26⟩ : VoteE)
             replace hC:=hC3
             clear hC3
             go_simp
             refine hK.out _ _ (trivial) (fun hT => ?_)
             clear hK K
             (try simp only [Act.put,Q3,Q4,Q5])
             refine wpAnyK_done (by kernel_rfl) ?_ _
             have HF:=Lib.hid (own_weak hC.own (show w.heap.size ≤ w.heap.size + 1 by omega))
             have hul:=HUL.out
             have HVF : Hid (∀ v ∈ ((((us.set k { x with run:=x10 }).set k { x with run:=x10,who:=x17 }).set k { x with run:=x10,who:=x17,at_:=x24 }).set k (⟨x10,x17,x24,x26⟩ : VoteE)),VB v):=Lib.hid (vb_set (vb_set (vb_set (vb_set HVU.out ⟨(by show x10.length ≤ 2; simp only [List.mem_cons,List.not_mem_nil,or_false] at hx10; rcases hx10 with h | h <;> rw [h] <;> first | exact hVx.out.run | simp),hVx.out.who⟩) ⟨(by show x10.length ≤ 2; simp only [List.mem_cons,List.not_mem_nil,or_false] at hx10; rcases hx10 with h | h <;> rw [h] <;> first | exact hVx.out.run | simp),(by show x17 ∈ whoL; simp only [List.mem_cons,List.not_mem_nil,or_false] at hx17; rcases hx17 with h | h <;> rw [h] <;> first | exact hVx.out.who | decide)⟩) ⟨(by show x10.length ≤ 2; simp only [List.mem_cons,List.not_mem_nil,or_false] at hx10; rcases hx10 with h | h <;> rw [h] <;> first | exact hVx.out.run | simp),(by show x17 ∈ whoL; simp only [List.mem_cons,List.not_mem_nil,or_false] at hx17; rcases hx17 with h | h <;> rw [h] <;> first | exact hVx.out.who | decide)⟩) ⟨(by show x10.length ≤ 2; simp only [List.mem_cons,List.not_mem_nil,or_false] at hx10; rcases hx10 with h | h <;> rw [h] <;> first | exact hVx.out.run | simp),(by show x17 ∈ whoL; simp only [List.mem_cons,List.not_mem_nil,or_false] at hx17; rcases hx17 with h | h <;> rw [h] <;> first | exact hVx.out.who | decide)⟩)
             have HLL : Hid ((((((us.set k { x with run:=x10 }).set k { x with run:=x10,who:=x17 }).set k { x with run:=x10,who:=x17,at_:=x24 }).set k (⟨x10,x17,x24,x26⟩ : VoteE))).length = vs.length):=Lib.hid (by simpa using hul)
             clear hxk hx1 hx2 hx3 hx4 hk0 hk1 hk2 hk3 hk4
             go_wp2_with fail
             go_ret
             exact ⟨some ⟨b,0,none⟩,c,((((us.set k { x with run:=x10 }).set k { x with run:=x10,who:=x17 }).set k { x with run:=x10,who:=x17,at_:=x24 }).set k (⟨x10,x17,x24,x26⟩ : VoteE)),by rw [HLL.out] <;> rfl,by rw [HLL.out]; exact HF.out,by rw [HLL.out]; exact hvl,HVF.out,hC.s.more (by omega),hC.gr⟩
           case refine_2 =>
            as_aux_lemma =>
             go_simp
             have hL23 : Blk ((w31.alloc (.cells #[.string ⟨x.who.toArray⟩,.string ⟨#[65]⟩] 9)).alloc (.cells #[.int .i64 x.at_,.int .i64 (-1),.int .i64 0] 3)) (w31.heap.size + 1) 3 #[.int .i64 x.at_,.int .i64 (-1),.int .i64 0]:=Blk.at1 _ (by simp)
             have gL23 : g < w31.heap.size + 1:=by have:=hC.s.lt; simp at this ⊢; omega
             replace hC:=hC.alloc (.cells #[.int .i64 x.at_,.int .i64 (-1),.int .i64 0] 3)
             replace hL16:=hL16.alloc (.cells #[.int .i64 x.at_,.int .i64 (-1),.int .i64 0] 3)
             refine hK.out _ _ (trivial) (hC.vc2 HUL.out hk0 hxk) (fun hT hS => ?_)
             clear hK K
             (try simp only [Act.put,Q3,Q4,Q5])
             refine wpAnyK_ready (rs:=[17]) (by kernel_rfl) (by simp) ?_
             refine AllReadyK.cons rfl (fun K hK => ?_) AllReadyK.nil
             go_simp
             go_at_call 11
             refine (some_litN g _ _ #[.string ⟨x.who.toArray⟩,.string ⟨#[65]⟩] [x.who,[65]] _ hC.s (by omega) hL16 rfl gL16 (by simp) (by simp)).mono ?_
             rintro e w32 ⟨x17,rfl,hx17,hs,hg⟩
             replace hC:=hC.str hs hg
             replace hL23:=hL23.gr9 hg (by omega)
             clear hs hg hL16 gL16
             go_wp2_with fail
             refine hK.out _ _ (trivial) (hC.vc2 HUL.out hk0 hxk) (fun hT hS => ?_)
             clear hK K
             (try simp only [Act.put,Q3,Q4,Q5])
             refine wpAnyK_ready (rs:=[24]) (by kernel_rfl) (by simp) ?_
             refine AllReadyK.cons rfl (fun K hK => ?_) AllReadyK.nil
             go_simp
             go_at_call 12
             refine (pick_any g _ _ _ _ [x.at_,-1,0] _ hC.s (by omega) (Row.lit hL23 (Nat.le_refl _) rfl) gL23 (by simp) (by simp)).mono ?_
             rintro e w33 ⟨x24,rfl,-,hs,hg⟩
             replace hC:=hC.str hs hg
             clear hs hg hL23 gL23
             go_wp2_with fail
             refine hK.out _ _ (trivial) (hC.vc2 HUL.out hk0 hxk) (fun hT hS => ?_)
             clear hK K
             (try simp only [Act.put,Q3,Q4,Q5])
             refine wpAnyK_ready (rs:=[26]) (by kernel_rfl) (by simp) ?_
             refine AllReadyK.cons rfl (fun K hK => ?_) AllReadyK.nil
             go_simp
             go_at_call 38
             refine (odd_any g _ 1 3 _ hC.s (by omega) (by omega) (by omega) (by omega)).mono ?_
             rintro e w34 ⟨x26,rfl,-,-,hs,hg⟩
             replace hC:=hC.str hs hg
             clear hs hg
             go_wp2_with fail
             refine hK.out _ _ (trivial) (hC.vc2 HUL.out hk0 hxk) (fun hT hS => ?_)
             clear hK K
             (try simp only [Act.put,Q3,Q4,Q5])
             (refine wpAnyK_take2 (i:=27) (v:=?_) (by (simp only [Q0,Q1,Q2]; rfl)) (by kernel_rfl) (by kernel_rfl) (by kernel_rfl) (by decide) (by exact fun _ _ _ h => h) (Or.inl ⟨by rfl,?_⟩) (by assumption) (by assumption) ?_; (rotate_left 1; (intro w hSw; (try dsimp only at hSw); go_simp); (try with_reducible rfl)); (try simp only [Act.put,Q3,Q4,Q5]))
             (refine wpAnyK_take2 (i:=28) (v:=?_) (by (simp only [Q0,Q1,Q2]; rfl)) (by kernel_rfl) (by kernel_rfl) (by kernel_rfl) (by decide) (by exact fun _ _ _ h => h) (Or.inl ⟨by rfl,?_⟩) (by assumption) (by assumption) ?_; (rotate_left 1; (intro w hSw; (try dsimp only at hSw); go_simp); (try with_reducible rfl)); (try simp only [Act.put,Q3,Q4,Q5]))
             refine wpAnyK_ready (rs:=[29]) (by kernel_rfl) (by simp) ?_
             refine AllReadyK.consT (by kernel_rfl) rfl (fun K hK => ?_) AllReadyK.nil
             obtain ⟨zb3,zb4⟩:=hC.freeB hpos
             have fz0:=zb4 (k * 4)
             have fz1:=zb4 (k * 4 + 1)
             have fz2:=zb4 (k * 4 + 2)
             have fz3:=zb4 (k * 4 + 3)
             have cz0:=zb3 (k * 4) _ (flat_getV hk0 hxk 0 (by decide) rfl)
             have cz1:=zb3 (k * 4 + 1) _ (flat_getV hk0 hxk 1 (by decide) rfl)
             have cz2:=zb3 (k * 4 + 2) _ (flat_getV hk0 hxk 2 (by decide) rfl)
             have cz3:=zb3 (k * 4 + 3) _ (flat_getV hk0 hxk 3 (by decide) rfl)
             clear zb3 zb4
             have hC0:=hC.setV hbb hk0 (i:=0) (by decide) (.string ⟨x10.toArray⟩) (x':={ x with run:=x10 }) hxk rfl
             have hk1 : k < ((us.set k { x with run:=x10 })).length:=by simpa using hk0
             have hx1:=set_atV hk0 { x with run:=x10 }
             replace hC:=hC0
             clear hC0
             go_simp
             refine hK.out _ _ (trivial) (fun hT => ?_)
             clear hK K
             (try simp only [Act.put,Q3,Q4,Q5])
             (refine wpAnyK_take3 (i:=30) (v:=?_) (by (simp only [Q0,Q1,Q2]; rfl)) (by kernel_rfl) (by kernel_rfl) (by kernel_rfl) (by decide) (by kernel_rfl) (by exact fun _ _ _ h => h) (Or.inl ⟨by rfl,?_⟩) (by assumption) ?_; (rotate_left 1; (intro w hSw; (try dsimp only at hSw); go_simp); (try with_reducible rfl)); (try simp only [Act.put,Q3,Q4,Q5]))
             (refine wpAnyK_take3 (i:=31) (v:=?_) (by (simp only [Q0,Q1,Q2]; rfl)) (by kernel_rfl) (by kernel_rfl) (by kernel_rfl) (by decide) (by kernel_rfl) (by exact fun _ _ _ h => h) (Or.inl ⟨by rfl,?_⟩) (by assumption) ?_; (rotate_left 1; (intro w hSw; (try dsimp only at hSw); go_simp); (try with_reducible rfl)); (try simp only [Act.put,Q3,Q4,Q5]))
             refine wpAnyK_ready (rs:=[32]) (by kernel_rfl) (by simp) ?_
             refine AllReadyK.consT (by kernel_rfl) rfl (fun K hK => ?_) AllReadyK.nil
             have hC1:=hC.setV hbb hk1 (i:=1) (by decide) (.string ⟨x17.toArray⟩) (x':={ x with run:=x10,who:=x17 }) hx1 rfl
             have hk2 : k < (((us.set k { x with run:=x10 }).set k { x with run:=x10,who:=x17 })).length:=by simpa using hk1
             have hx2:=set_atV hk1 { x with run:=x10,who:=x17 }
             replace hC:=hC1
             clear hC1
             go_simp
             refine hK.out _ _ (trivial) (fun hT => ?_)
             clear hK K
             (try simp only [Act.put,Q3,Q4,Q5])
             (refine wpAnyK_take3 (i:=33) (v:=?_) (by (simp only [Q0,Q1,Q2]; rfl)) (by kernel_rfl) (by kernel_rfl) (by kernel_rfl) (by decide) (by kernel_rfl) (by exact fun _ _ _ h => h) (Or.inl ⟨by rfl,?_⟩) (by assumption) ?_; (rotate_left 1; (intro w hSw; (try dsimp only at hSw); go_simp); (try with_reducible rfl)); (try simp only [Act.put,Q3,Q4,Q5]))
             (refine wpAnyK_take3 (i:=34) (v:=?_) (by (simp only [Q0,Q1,Q2]; rfl)) (by kernel_rfl) (by kernel_rfl) (by kernel_rfl) (by decide) (by kernel_rfl) (by exact fun _ _ _ h => h) (Or.inl ⟨by rfl,?_⟩) (by assumption) ?_; (rotate_left 1; (intro w hSw; (try dsimp only at hSw); go_simp); (try with_reducible rfl)); (try simp only [Act.put,Q3,Q4,Q5]))
             refine wpAnyK_ready (rs:=[35]) (by kernel_rfl) (by simp) ?_
             refine AllReadyK.consT (by kernel_rfl) rfl (fun K hK => ?_) AllReadyK.nil
             have hC2:=hC.setV hbb hk2 (i:=2) (by decide) (.int .i64 x24) (x':={ x with run:=x10,who:=x17,at_:=x24 }) hx2 rfl
             have hk3 : k < ((((us.set k { x with run:=x10 }).set k { x with run:=x10,who:=x17 }).set k { x with run:=x10,who:=x17,at_:=x24 })).length:=by simpa using hk2
             have hx3:=set_atV hk2 { x with run:=x10,who:=x17,at_:=x24 }
             replace hC:=hC2
             clear hC2
             go_simp
             refine hK.out _ _ (trivial) (fun hT => ?_)
             clear hK K
             (try simp only [Act.put,Q3,Q4,Q5])
             (refine wpAnyK_take3 (i:=36) (v:=?_) (by (simp only [Q0,Q1,Q2]; rfl)) (by kernel_rfl) (by kernel_rfl) (by kernel_rfl) (by decide) (by kernel_rfl) (by exact fun _ _ _ h => h) (Or.inl ⟨by rfl,?_⟩) (by assumption) ?_; (rotate_left 1; (intro w hSw; (try dsimp only at hSw); go_simp); (try with_reducible rfl)); (try simp only [Act.put,Q3,Q4,Q5]))
             (refine wpAnyK_take3 (i:=37) (v:=?_) (by (simp only [Q0,Q1,Q2]; rfl)) (by kernel_rfl) (by kernel_rfl) (by kernel_rfl) (by decide) (by kernel_rfl) (by exact fun _ _ _ h => h) (Or.inl ⟨by rfl,?_⟩) (by assumption) ?_; (rotate_left 1; (intro w hSw; (try dsimp only at hSw); go_simp); (try with_reducible rfl)); (try simp only [Act.put,Q3,Q4,Q5]))
             refine wpAnyK_ready (rs:=[38]) (by kernel_rfl) (by simp) ?_
             refine AllReadyK.consT (by kernel_rfl) rfl (fun K hK => ?_) AllReadyK.nil
             have hC3:=hC.setV hbb hk3 (i:=3) (by decide) (.int .i64 x26) (x':=(⟨x10,x17,x24,x26⟩ : VoteE)) hx3 rfl
             have hk4 : k < (((((us.set k { x with run:=x10 }).set k { x with run:=x10,who:=x17 }).set k { x with run:=x10,who:=x17,at_:=x24 }).set k (⟨x10,x17,x24,x26⟩ : VoteE))).length:=by simpa using hk3
             have hx4:=set_atV hk3 (⟨x10,x17,x24,x26⟩ : VoteE)
             replace hC:=hC3
             clear hC3
             go_simp
             refine hK.out _ _ (trivial) (fun hT => ?_)
             clear hK K
             (try simp only [Act.put,Q3,Q4,Q5])
             refine wpAnyK_done (by kernel_rfl) ?_ _
             have HF:=Lib.hid (own_weak hC.own (show w.heap.size ≤ w.heap.size + 1 by omega))
             have hul:=HUL.out
             have HVF : Hid (∀ v ∈ ((((us.set k { x with run:=x10 }).set k { x with run:=x10,who:=x17 }).set k { x with run:=x10,who:=x17,at_:=x24 }).set k (⟨x10,x17,x24,x26⟩ : VoteE)),VB v):=Lib.hid (vb_set (vb_set (vb_set (vb_set HVU.out ⟨(by show x10.length ≤ 2; simp only [List.mem_cons,List.not_mem_nil,or_false] at hx10; rcases hx10 with h | h <;> rw [h] <;> first | exact hVx.out.run | simp),hVx.out.who⟩) ⟨(by show x10.length ≤ 2; simp only [List.mem_cons,List.not_mem_nil,or_false] at hx10; rcases hx10 with h | h <;> rw [h] <;> first | exact hVx.out.run | simp),(by show x17 ∈ whoL; simp only [List.mem_cons,List.not_mem_nil,or_false] at hx17; rcases hx17 with h | h <;> rw [h] <;> first | exact hVx.out.who | decide)⟩) ⟨(by show x10.length ≤ 2; simp only [List.mem_cons,List.not_mem_nil,or_false] at hx10; rcases hx10 with h | h <;> rw [h] <;> first | exact hVx.out.run | simp),(by show x17 ∈ whoL; simp only [List.mem_cons,List.not_mem_nil,or_false] at hx17; rcases hx17 with h | h <;> rw [h] <;> first | exact hVx.out.who | decide)⟩) ⟨(by show x10.length ≤ 2; simp only [List.mem_cons,List.not_mem_nil,or_false] at hx10; rcases hx10 with h | h <;> rw [h] <;> first | exact hVx.out.run | simp),(by show x17 ∈ whoL; simp only [List.mem_cons,List.not_mem_nil,or_false] at hx17; rcases hx17 with h | h <;> rw [h] <;> first | exact hVx.out.who | decide)⟩)
             have HLL : Hid ((((((us.set k { x with run:=x10 }).set k { x with run:=x10,who:=x17 }).set k { x with run:=x10,who:=x17,at_:=x24 }).set k (⟨x10,x17,x24,x26⟩ : VoteE))).length = vs.length):=Lib.hid (by simpa using hul)
             clear hxk hx1 hx2 hx3 hx4 hk0 hk1 hk2 hk3 hk4
             go_wp2_with fail
             go_ret
             exact ⟨some ⟨b,0,none⟩,c,((((us.set k { x with run:=x10 }).set k { x with run:=x10,who:=x17 }).set k { x with run:=x10,who:=x17,at_:=x24 }).set k (⟨x10,x17,x24,x26⟩ : VoteE)),by rw [HLL.out] <;> rfl,by rw [HLL.out]; exact HF.out,by rw [HLL.out]; exact hvl,HVF.out,hC.s.more (by omega),hC.gr⟩
         case refine_2 =>
          as_aux_lemma =>
           go_simp
           have hL23 : Blk (w31.alloc (.cells #[.int .i64 x.at_,.int .i64 (-1),.int .i64 0] 3)) (w31.heap.size) 3 #[.int .i64 x.at_,.int .i64 (-1),.int .i64 0]:=Blk.at1 _ (by simp)
           have gL23 : g < w31.heap.size:=by have:=hC.s.lt; simp at this ⊢; omega
           replace hC:=hC.alloc (.cells #[.int .i64 x.at_,.int .i64 (-1),.int .i64 0] 3)
           refine hK.out _ _ (trivial) (hC.vc2 HUL.out hk0 hxk) (fun hT hS => ?_)
           clear hK K
           (try simp only [Act.put,Q3,Q4,Q5])
           refine wpAnyK_ready (rs:=[16]) (by kernel_rfl) (by simp) ?_
           refine AllReadyK.cons rfl (fun K hK => ?_) AllReadyK.nil
           go_simp
           have hL16 : Blk ((w31.alloc (.cells #[.int .i64 x.at_,.int .i64 (-1),.int .i64 0] 3)).alloc (.cells #[.string ⟨x.who.toArray⟩,.string ⟨#[65]⟩] 9)) (w31.heap.size + 1) 9 #[.string ⟨x.who.toArray⟩,.string ⟨#[65]⟩]:=Blk.at1 _ (by simp)
           have gL16 : g < w31.heap.size + 1:=by have:=hC.s.lt; simp at this ⊢; omega
           replace hC:=hC.alloc (.cells #[.string ⟨x.who.toArray⟩,.string ⟨#[65]⟩] 9)
           replace hL23:=hL23.alloc (.cells #[.string ⟨x.who.toArray⟩,.string ⟨#[65]⟩] 9)
           refine hK.out _ _ (trivial) (hC.vc2 HUL.out hk0 hxk) (fun hT hS => ?_)
           clear hK K
           (try simp only [Act.put,Q3,Q4,Q5])
           refine wpAnyK_ready (rs:=[17]) (by kernel_rfl) (by simp) ?_
           refine AllReadyK.cons rfl (fun K hK => ?_) AllReadyK.nil
           go_simp
           go_at_call 11
           refine (some_litN g _ _ #[.string ⟨x.who.toArray⟩,.string ⟨#[65]⟩] [x.who,[65]] _ hC.s (by omega) hL16 rfl gL16 (by simp) (by simp)).mono ?_
           rintro e w32 ⟨x17,rfl,hx17,hs,hg⟩
           replace hC:=hC.str hs hg
           replace hL23:=hL23.gr9 hg (by omega)
           clear hs hg hL16 gL16
           go_wp2_with fail
           refine hK.out _ _ (trivial) (hC.vc2 HUL.out hk0 hxk) (fun hT hS => ?_)
           clear hK K
           (try simp only [Act.put,Q3,Q4,Q5])
           refine wpAnyK_ready (rs:=[24]) (by kernel_rfl) (by simp) ?_
           refine AllReadyK.cons rfl (fun K hK => ?_) AllReadyK.nil
           go_simp
           go_at_call 12
           refine (pick_any g _ _ _ _ [x.at_,-1,0] _ hC.s (by omega) (Row.lit hL23 (Nat.le_refl _) rfl) gL23 (by simp) (by simp)).mono ?_
           rintro e w33 ⟨x24,rfl,-,hs,hg⟩
           replace hC:=hC.str hs hg
           clear hs hg hL23 gL23
           go_wp2_with fail
           refine hK.out _ _ (trivial) (hC.vc2 HUL.out hk0 hxk) (fun hT hS => ?_)
           clear hK K
           (try simp only [Act.put,Q3,Q4,Q5])
           refine wpAnyK_ready (rs:=[26]) (by kernel_rfl) (by simp) ?_
           refine AllReadyK.cons rfl (fun K hK => ?_) AllReadyK.nil
           go_simp
           go_at_call 38
           refine (odd_any g _ 1 3 _ hC.s (by omega) (by omega) (by omega) (by omega)).mono ?_
           rintro e w34 ⟨x26,rfl,-,-,hs,hg⟩
           replace hC:=hC.str hs hg
           clear hs hg
           go_wp2_with fail
           refine hK.out _ _ (trivial) (hC.vc2 HUL.out hk0 hxk) (fun hT hS => ?_)
           clear hK K
           (try simp only [Act.put,Q3,Q4,Q5])
           (refine wpAnyK_take2 (i:=27) (v:=?_) (by (simp only [Q0,Q1,Q2]; rfl)) (by kernel_rfl) (by kernel_rfl) (by kernel_rfl) (by decide) (by exact fun _ _ _ h => h) (Or.inl ⟨by rfl,?_⟩) (by assumption) (by assumption) ?_; (rotate_left 1; (intro w hSw; (try dsimp only at hSw); go_simp); (try with_reducible rfl)); (try simp only [Act.put,Q3,Q4,Q5]))
           (refine wpAnyK_take2 (i:=28) (v:=?_) (by (simp only [Q0,Q1,Q2]; rfl)) (by kernel_rfl) (by kernel_rfl) (by kernel_rfl) (by decide) (by exact fun _ _ _ h => h) (Or.inl ⟨by rfl,?_⟩) (by assumption) (by assumption) ?_; (rotate_left 1; (intro w hSw; (try dsimp only at hSw); go_simp); (try with_reducible rfl)); (try simp only [Act.put,Q3,Q4,Q5]))
           refine wpAnyK_ready (rs:=[29]) (by kernel_rfl) (by simp) ?_
           refine AllReadyK.consT (by kernel_rfl) rfl (fun K hK => ?_) AllReadyK.nil
           obtain ⟨zb3,zb4⟩:=hC.freeB hpos
           have fz0:=zb4 (k * 4)
           have fz1:=zb4 (k * 4 + 1)
           have fz2:=zb4 (k * 4 + 2)
           have fz3:=zb4 (k * 4 + 3)
           have cz0:=zb3 (k * 4) _ (flat_getV hk0 hxk 0 (by decide) rfl)
           have cz1:=zb3 (k * 4 + 1) _ (flat_getV hk0 hxk 1 (by decide) rfl)
           have cz2:=zb3 (k * 4 + 2) _ (flat_getV hk0 hxk 2 (by decide) rfl)
           have cz3:=zb3 (k * 4 + 3) _ (flat_getV hk0 hxk 3 (by decide) rfl)
           clear zb3 zb4
           have hC0:=hC.setV hbb hk0 (i:=0) (by decide) (.string ⟨x10.toArray⟩) (x':={ x with run:=x10 }) hxk rfl
           have hk1 : k < ((us.set k { x with run:=x10 })).length:=by simpa using hk0
           have hx1:=set_atV hk0 { x with run:=x10 }
           replace hC:=hC0
           clear hC0
           go_simp
           refine hK.out _ _ (trivial) (fun hT => ?_)
           clear hK K
           (try simp only [Act.put,Q3,Q4,Q5])
           (refine wpAnyK_take3 (i:=30) (v:=?_) (by (simp only [Q0,Q1,Q2]; rfl)) (by kernel_rfl) (by kernel_rfl) (by kernel_rfl) (by decide) (by kernel_rfl) (by exact fun _ _ _ h => h) (Or.inl ⟨by rfl,?_⟩) (by assumption) ?_; (rotate_left 1; (intro w hSw; (try dsimp only at hSw); go_simp); (try with_reducible rfl)); (try simp only [Act.put,Q3,Q4,Q5]))
           (refine wpAnyK_take3 (i:=31) (v:=?_) (by (simp only [Q0,Q1,Q2]; rfl)) (by kernel_rfl) (by kernel_rfl) (by kernel_rfl) (by decide) (by kernel_rfl) (by exact fun _ _ _ h => h) (Or.inl ⟨by rfl,?_⟩) (by assumption) ?_; (rotate_left 1; (intro w hSw; (try dsimp only at hSw); go_simp); (try with_reducible rfl)); (try simp only [Act.put,Q3,Q4,Q5]))
           refine wpAnyK_ready (rs:=[32]) (by kernel_rfl) (by simp) ?_
           refine AllReadyK.consT (by kernel_rfl) rfl (fun K hK => ?_) AllReadyK.nil
           have hC1:=hC.setV hbb hk1 (i:=1) (by decide) (.string ⟨x17.toArray⟩) (x':={ x with run:=x10,who:=x17 }) hx1 rfl
           have hk2 : k < (((us.set k { x with run:=x10 }).set k { x with run:=x10,who:=x17 })).length:=by simpa using hk1
           have hx2:=set_atV hk1 { x with run:=x10,who:=x17 }
           replace hC:=hC1
           clear hC1
           go_simp
           refine hK.out _ _ (trivial) (fun hT => ?_)
           clear hK K
           (try simp only [Act.put,Q3,Q4,Q5])
           (refine wpAnyK_take3 (i:=33) (v:=?_) (by (simp only [Q0,Q1,Q2]; rfl)) (by kernel_rfl) (by kernel_rfl) (by kernel_rfl) (by decide) (by kernel_rfl) (by exact fun _ _ _ h => h) (Or.inl ⟨by rfl,?_⟩) (by assumption) ?_; (rotate_left 1; (intro w hSw; (try dsimp only at hSw); go_simp); (try with_reducible rfl)); (try simp only [Act.put,Q3,Q4,Q5]))
           (refine wpAnyK_take3 (i:=34) (v:=?_) (by (simp only [Q0,Q1,Q2]; rfl)) (by kernel_rfl) (by kernel_rfl) (by kernel_rfl) (by decide) (by kernel_rfl) (by exact fun _ _ _ h => h) (Or.inl ⟨by rfl,?_⟩) (by assumption) ?_; (rotate_left 1; (intro w hSw; (try dsimp only at hSw); go_simp); (try with_reducible rfl)); (try simp only [Act.put,Q3,Q4,Q5]))
           refine wpAnyK_ready (rs:=[35]) (by kernel_rfl) (by simp) ?_
           refine AllReadyK.consT (by kernel_rfl) rfl (fun K hK => ?_) AllReadyK.nil
           have hC2:=hC.setV hbb hk2 (i:=2) (by decide) (.int .i64 x24) (x':={ x with run:=x10,who:=x17,at_:=x24 }) hx2 rfl
           have hk3 : k < ((((us.set k { x with run:=x10 }).set k { x with run:=x10,who:=x17 }).set k { x with run:=x10,who:=x17,at_:=x24 })).length:=by simpa using hk2
           have hx3:=set_atV hk2 { x with run:=x10,who:=x17,at_:=x24 }
           replace hC:=hC2
           clear hC2
           go_simp
           refine hK.out _ _ (trivial) (fun hT => ?_)
           clear hK K
           (try simp only [Act.put,Q3,Q4,Q5])
           (refine wpAnyK_take3 (i:=36) (v:=?_) (by (simp only [Q0,Q1,Q2]; rfl)) (by kernel_rfl) (by kernel_rfl) (by kernel_rfl) (by decide) (by kernel_rfl) (by exact fun _ _ _ h => h) (Or.inl ⟨by rfl,?_⟩) (by assumption) ?_; (rotate_left 1; (intro w hSw; (try dsimp only at hSw); go_simp); (try with_reducible rfl)); (try simp only [Act.put,Q3,Q4,Q5]))
           (refine wpAnyK_take3 (i:=37) (v:=?_) (by (simp only [Q0,Q1,Q2]; rfl)) (by kernel_rfl) (by kernel_rfl) (by kernel_rfl) (by decide) (by kernel_rfl) (by exact fun _ _ _ h => h) (Or.inl ⟨by rfl,?_⟩) (by assumption) ?_; (rotate_left 1; (intro w hSw; (try dsimp only at hSw); go_simp); (try with_reducible rfl)); (try simp only [Act.put,Q3,Q4,Q5]))
           refine wpAnyK_ready (rs:=[38]) (by kernel_rfl) (by simp) ?_
           refine AllReadyK.consT (by kernel_rfl) rfl (fun K hK => ?_) AllReadyK.nil
           have hC3:=hC.setV hbb hk3 (i:=3) (by decide) (.int .i64 x26) (x':=(⟨x10,x17,x24,x26⟩ : VoteE)) hx3 rfl
           have hk4 : k < (((((us.set k { x with run:=x10 }).set k { x with run:=x10,who:=x17 }).set k { x with run:=x10,who:=x17,at_:=x24 }).set k (⟨x10,x17,x24,x26⟩ : VoteE))).length:=by simpa using hk3
           have hx4:=set_atV hk3 (⟨x10,x17,x24,x26⟩ : VoteE)
           replace hC:=hC3
           clear hC3
           go_simp
           refine hK.out _ _ (trivial) (fun hT => ?_)
           clear hK K
           (try simp only [Act.put,Q3,Q4,Q5])
           refine wpAnyK_done (by kernel_rfl) ?_ _
           have HF:=Lib.hid (own_weak hC.own (show w.heap.size ≤ w.heap.size + 1 by omega))
           have hul:=HUL.out
           have HVF : Hid (∀ v ∈ ((((us.set k { x with run:=x10 }).set k { x with run:=x10,who:=x17 }).set k { x with run:=x10,who:=x17,at_:=x24 }).set k (⟨x10,x17,x24,x26⟩ : VoteE)),VB v):=Lib.hid (vb_set (vb_set (vb_set (vb_set HVU.out ⟨(by show x10.length ≤ 2; simp only [List.mem_cons,List.not_mem_nil,or_false] at hx10; rcases hx10 with h | h <;> rw [h] <;> first | exact hVx.out.run | simp),hVx.out.who⟩) ⟨(by show x10.length ≤ 2; simp only [List.mem_cons,List.not_mem_nil,or_false] at hx10; rcases hx10 with h | h <;> rw [h] <;> first | exact hVx.out.run | simp),(by show x17 ∈ whoL; simp only [List.mem_cons,List.not_mem_nil,or_false] at hx17; rcases hx17 with h | h <;> rw [h] <;> first | exact hVx.out.who | decide)⟩) ⟨(by show x10.length ≤ 2; simp only [List.mem_cons,List.not_mem_nil,or_false] at hx10; rcases hx10 with h | h <;> rw [h] <;> first | exact hVx.out.run | simp),(by show x17 ∈ whoL; simp only [List.mem_cons,List.not_mem_nil,or_false] at hx17; rcases hx17 with h | h <;> rw [h] <;> first | exact hVx.out.who | decide)⟩) ⟨(by show x10.length ≤ 2; simp only [List.mem_cons,List.not_mem_nil,or_false] at hx10; rcases hx10 with h | h <;> rw [h] <;> first | exact hVx.out.run | simp),(by show x17 ∈ whoL; simp only [List.mem_cons,List.not_mem_nil,or_false] at hx17; rcases hx17 with h | h <;> rw [h] <;> first | exact hVx.out.who | decide)⟩)
           have HLL : Hid ((((((us.set k { x with run:=x10 }).set k { x with run:=x10,who:=x17 }).set k { x with run:=x10,who:=x17,at_:=x24 }).set k (⟨x10,x17,x24,x26⟩ : VoteE))).length = vs.length):=Lib.hid (by simpa using hul)
           clear hxk hx1 hx2 hx3 hx4 hk0 hk1 hk2 hk3 hk4
           go_wp2_with fail
           go_ret
           exact ⟨some ⟨b,0,none⟩,c,((((us.set k { x with run:=x10 }).set k { x with run:=x10,who:=x17 }).set k { x with run:=x10,who:=x17,at_:=x24 }).set k (⟨x10,x17,x24,x26⟩ : VoteE)),by rw [HLL.out] <;> rfl,by rw [HLL.out]; exact HF.out,by rw [HLL.out]; exact hvl,HVF.out,hC.s.more (by omega),hC.gr⟩
       case refine_2 =>
        as_aux_lemma =>
         go_simp
         have hL16 : Blk ((w30.drew.alloc (.cells #[.string ⟨x.run.toArray⟩,.string ⟨#[]⟩] 9)).alloc (.cells #[.string ⟨x.who.toArray⟩,.string ⟨#[65]⟩] 9)) (w30.heap.size + 1) 9 #[.string ⟨x.who.toArray⟩,.string ⟨#[65]⟩]:=Blk.at1 _ (by simp)
         have gL16 : g < w30.heap.size + 1:=by have:=hC.s.lt; simp at this ⊢; omega
         replace hC:=hC.alloc (.cells #[.string ⟨x.who.toArray⟩,.string ⟨#[65]⟩] 9)
         replace hL9:=hL9.alloc (.cells #[.string ⟨x.who.toArray⟩,.string ⟨#[65]⟩] 9)
         refine hK.out _ _ (trivial) (hC.vc2 HUL.out hk0 hxk) (fun hT hS => ?_)
         clear hK K
         (try simp only [Act.put,Q3,Q4,Q5])
         refine wpAnyK_ready (rs:=[10,23]) (by kernel_rfl) (by simp) ?_
         refine AllReadyK.cons rfl (fun K hK => ?_) (AllReadyK.cons rfl (fun K hK => ?_) AllReadyK.nil)
         case refine_1 =>
          as_aux_lemma =>
           go_simp
           go_at_call 11
           refine (some_litN g _ _ #[.string ⟨x.run.toArray⟩,.string ⟨#[]⟩] [x.run,[]] _ hC.s (by omega) hL9 rfl gL9 (by simp) (by simp)).mono ?_
           rintro e w31 ⟨x10,rfl,hx10,hs,hg⟩
           replace hC:=hC.str hs hg
           replace hL16:=hL16.gr9 hg (by omega)
           clear hs hg hL9 gL9
           go_wp2_with fail
           refine hK.out _ _ (trivial) (hC.vc2 HUL.out hk0 hxk) (fun hT hS => ?_)
           clear hK K
           (try simp only [Act.put,Q3,Q4,Q5])
           refine wpAnyK_ready (rs:=[17,23]) (by kernel_rfl) (by simp) ?_
           refine AllReadyK.cons rfl (fun K hK => ?_) (AllReadyK.cons rfl (fun K hK => ?_) AllReadyK.nil)
           case refine_1 =>
            as_aux_lemma =>
             go_simp
             go_at_call 11
             refine (some_litN g _ _ #[.string ⟨x.who.toArray⟩,.string ⟨#[65]⟩] [x.who,[65]] _ hC.s (by omega) hL16 rfl gL16 (by simp) (by simp)).mono ?_
             rintro e w32 ⟨x17,rfl,hx17,hs,hg⟩
             replace hC:=hC.str hs hg
             clear hs hg hL16 gL16
             go_wp2_with fail
             refine hK.out _ _ (trivial) (hC.vc2 HUL.out hk0 hxk) (fun hT hS => ?_)
             clear hK K
             (try simp only [Act.put,Q3,Q4,Q5])
             refine wpAnyK_ready (rs:=[23]) (by kernel_rfl) (by simp) ?_
             refine AllReadyK.cons rfl (fun K hK => ?_) AllReadyK.nil
             go_simp
             have hL23 : Blk (w32.alloc (.cells #[.int .i64 x.at_,.int .i64 (-1),.int .i64 0] 3)) (w32.heap.size) 3 #[.int .i64 x.at_,.int .i64 (-1),.int .i64 0]:=Blk.at1 _ (by simp)
             have gL23 : g < w32.heap.size:=by have:=hC.s.lt; simp at this ⊢; omega
             replace hC:=hC.alloc (.cells #[.int .i64 x.at_,.int .i64 (-1),.int .i64 0] 3)
             refine hK.out _ _ (trivial) (hC.vc2 HUL.out hk0 hxk) (fun hT hS => ?_)
             clear hK K
             (try simp only [Act.put,Q3,Q4,Q5])
             refine wpAnyK_ready (rs:=[24]) (by kernel_rfl) (by simp) ?_
             refine AllReadyK.cons rfl (fun K hK => ?_) AllReadyK.nil
             go_simp
             go_at_call 12
             refine (pick_any g _ _ _ _ [x.at_,-1,0] _ hC.s (by omega) (Row.lit hL23 (Nat.le_refl _) rfl) gL23 (by simp) (by simp)).mono ?_
             rintro e w33 ⟨x24,rfl,-,hs,hg⟩
             replace hC:=hC.str hs hg
             clear hs hg hL23 gL23
             go_wp2_with fail
             refine hK.out _ _ (trivial) (hC.vc2 HUL.out hk0 hxk) (fun hT hS => ?_)
             clear hK K
             (try simp only [Act.put,Q3,Q4,Q5])
             refine wpAnyK_ready (rs:=[26]) (by kernel_rfl) (by simp) ?_
             refine AllReadyK.cons rfl (fun K hK => ?_) AllReadyK.nil
             go_simp
             go_at_call 38
             refine (odd_any g _ 1 3 _ hC.s (by omega) (by omega) (by omega) (by omega)).mono ?_
             rintro e w34 ⟨x26,rfl,-,-,hs,hg⟩
             replace hC:=hC.str hs hg
             clear hs hg
             go_wp2_with fail
             refine hK.out _ _ (trivial) (hC.vc2 HUL.out hk0 hxk) (fun hT hS => ?_)
             clear hK K
             (try simp only [Act.put,Q3,Q4,Q5])
             (refine wpAnyK_take2 (i:=27) (v:=?_) (by (simp only [Q0,Q1,Q2]; rfl)) (by kernel_rfl) (by kernel_rfl) (by kernel_rfl) (by decide) (by exact fun _ _ _ h => h) (Or.inl ⟨by rfl,?_⟩) (by assumption) (by assumption) ?_; (rotate_left 1; (intro w hSw; (try dsimp only at hSw); go_simp); (try with_reducible rfl)); (try simp only [Act.put,Q3,Q4,Q5]))
             (refine wpAnyK_take2 (i:=28) (v:=?_) (by (simp only [Q0,Q1,Q2]; rfl)) (by kernel_rfl) (by kernel_rfl) (by kernel_rfl) (by decide) (by exact fun _ _ _ h => h) (Or.inl ⟨by rfl,?_⟩) (by assumption) (by assumption) ?_; (rotate_left 1; (intro w hSw; (try dsimp only at hSw); go_simp); (try with_reducible rfl)); (try simp only [Act.put,Q3,Q4,Q5]))
             refine wpAnyK_ready (rs:=[29]) (by kernel_rfl) (by simp) ?_
             refine AllReadyK.consT (by kernel_rfl) rfl (fun K hK => ?_) AllReadyK.nil
             obtain ⟨zb3,zb4⟩:=hC.freeB hpos
             have fz0:=zb4 (k * 4)
             have fz1:=zb4 (k * 4 + 1)
             have fz2:=zb4 (k * 4 + 2)
             have fz3:=zb4 (k * 4 + 3)
             have cz0:=zb3 (k * 4) _ (flat_getV hk0 hxk 0 (by decide) rfl)
             have cz1:=zb3 (k * 4 + 1) _ (flat_getV hk0 hxk 1 (by decide) rfl)
             have cz2:=zb3 (k * 4 + 2) _ (flat_getV hk0 hxk 2 (by decide) rfl)
             have cz3:=zb3 (k * 4 + 3) _ (flat_getV hk0 hxk 3 (by decide) rfl)
             clear zb3 zb4
             have hC0:=hC.setV hbb hk0 (i:=0) (by decide) (.string ⟨x10.toArray⟩) (x':={ x with run:=x10 }) hxk rfl
             have hk1 : k < ((us.set k { x with run:=x10 })).length:=by simpa using hk0
             have hx1:=set_atV hk0 { x with run:=x10 }
             replace hC:=hC0
             clear hC0
             go_simp
             refine hK.out _ _ (trivial) (fun hT => ?_)
             clear hK K
             (try simp only [Act.put,Q3,Q4,Q5])
             (refine wpAnyK_take3 (i:=30) (v:=?_) (by (simp only [Q0,Q1,Q2]; rfl)) (by kernel_rfl) (by kernel_rfl) (by kernel_rfl) (by decide) (by kernel_rfl) (by exact fun _ _ _ h => h) (Or.inl ⟨by rfl,?_⟩) (by assumption) ?_; (rotate_left 1; (intro w hSw; (try dsimp only at hSw); go_simp); (try with_reducible rfl)); (try simp only [Act.put,Q3,Q4,Q5]))
             (refine wpAnyK_take3 (i:=31) (v:=?_) (by (simp only [Q0,Q1,Q2]; rfl)) (by kernel_rfl) (by kernel_rfl) (by kernel_rfl) (by decide) (by kernel_rfl) (by exact fun _ _ _ h => h) (Or.inl ⟨by rfl,?_⟩) (by assumption) ?_; (rotate_left 1; (intro w hSw; (try dsimp only at hSw); go_simp); (try with_reducible rfl)); (try simp only [Act.put,Q3,Q4,Q5]))
             refine wpAnyK_ready (rs:=[32]) (by kernel_rfl) (by simp) ?_
             refine AllReadyK.consT (by kernel_rfl) rfl (fun K hK => ?_) AllReadyK.nil
             have hC1:=hC.setV hbb hk1 (i:=1) (by decide) (.string ⟨x17.toArray⟩) (x':={ x with run:=x10,who:=x17 }) hx1 rfl
             have hk2 : k < (((us.set k { x with run:=x10 }).set k { x with run:=x10,who:=x17 })).length:=by simpa using hk1
             have hx2:=set_atV hk1 { x with run:=x10,who:=x17 }
             replace hC:=hC1
             clear hC1
             go_simp
             refine hK.out _ _ (trivial) (fun hT => ?_)
             clear hK K
             (try simp only [Act.put,Q3,Q4,Q5])
             (refine wpAnyK_take3 (i:=33) (v:=?_) (by (simp only [Q0,Q1,Q2]; rfl)) (by kernel_rfl) (by kernel_rfl) (by kernel_rfl) (by decide) (by kernel_rfl) (by exact fun _ _ _ h => h) (Or.inl ⟨by rfl,?_⟩) (by assumption) ?_; (rotate_left 1; (intro w hSw; (try dsimp only at hSw); go_simp); (try with_reducible rfl)); (try simp only [Act.put,Q3,Q4,Q5]))
             (refine wpAnyK_take3 (i:=34) (v:=?_) (by (simp only [Q0,Q1,Q2]; rfl)) (by kernel_rfl) (by kernel_rfl) (by kernel_rfl) (by decide) (by kernel_rfl) (by exact fun _ _ _ h => h) (Or.inl ⟨by rfl,?_⟩) (by assumption) ?_; (rotate_left 1; (intro w hSw; (try dsimp only at hSw); go_simp); (try with_reducible rfl)); (try simp only [Act.put,Q3,Q4,Q5]))
             refine wpAnyK_ready (rs:=[35]) (by kernel_rfl) (by simp) ?_
             refine AllReadyK.consT (by kernel_rfl) rfl (fun K hK => ?_) AllReadyK.nil
             have hC2:=hC.setV hbb hk2 (i:=2) (by decide) (.int .i64 x24) (x':={ x with run:=x10,who:=x17,at_:=x24 }) hx2 rfl
             have hk3 : k < ((((us.set k { x with run:=x10 }).set k { x with run:=x10,who:=x17 }).set k { x with run:=x10,who:=x17,at_:=x24 })).length:=by simpa using hk2
             have hx3:=set_atV hk2 { x with run:=x10,who:=x17,at_:=x24 }
             replace hC:=hC2
             clear hC2
             go_simp
             refine hK.out _ _ (trivial) (fun hT => ?_)
             clear hK K
             (try simp only [Act.put,Q3,Q4,Q5])
             (refine wpAnyK_take3 (i:=36) (v:=?_) (by (simp only [Q0,Q1,Q2]; rfl)) (by kernel_rfl) (by kernel_rfl) (by kernel_rfl) (by decide) (by kernel_rfl) (by exact fun _ _ _ h => h) (Or.inl ⟨by rfl,?_⟩) (by assumption) ?_; (rotate_left 1; (intro w hSw; (try dsimp only at hSw); go_simp); (try with_reducible rfl)); (try simp only [Act.put,Q3,Q4,Q5]))
             (refine wpAnyK_take3 (i:=37) (v:=?_) (by (simp only [Q0,Q1,Q2]; rfl)) (by kernel_rfl) (by kernel_rfl) (by kernel_rfl) (by decide) (by kernel_rfl) (by exact fun _ _ _ h => h) (Or.inl ⟨by rfl,?_⟩) (by assumption) ?_; (rotate_left 1; (intro w hSw; (try dsimp only at hSw); go_simp); (try with_reducible rfl)); (try simp only [Act.put,Q3,Q4,Q5]))
             refine wpAnyK_ready (rs:=[38]) (by kernel_rfl) (by simp) ?_
             refine AllReadyK.consT (by kernel_rfl) rfl (fun K hK => ?_) AllReadyK.nil
             have hC3:=hC.setV hbb hk3 (i:=3) (by decide) (.int .i64 x26) (x':=(⟨x10,x17,x24,x26⟩ : VoteE)) hx3 rfl
             have hk4 : k < (((((us.set k { x with run:=x10 }).set k { x with run:=x10,who:=x17 }).set k { x with run:=x10,who:=x17,at_:=x24 }).set k (⟨x10,x17,x24,x26⟩ : VoteE))).length:=by simpa using hk3
             have hx4:=set_atV hk3 (⟨x10,x17,x24,x26⟩ : VoteE)
             replace hC:=hC3
             clear hC3
             go_simp
             refine hK.out _ _ (trivial) (fun hT => ?_)
             clear hK K
             (try simp only [Act.put,Q3,Q4,Q5])
             refine wpAnyK_done (by kernel_rfl) ?_ _
             have HF:=Lib.hid (own_weak hC.own (show w.heap.size ≤ w.heap.size + 1 by omega))
             have hul:=HUL.out
             have HVF : Hid (∀ v ∈ ((((us.set k { x with run:=x10 }).set k { x with run:=x10,who:=x17 }).set k { x with run:=x10,who:=x17,at_:=x24 }).set k (⟨x10,x17,x24,x26⟩ : VoteE)),VB v):=Lib.hid (vb_set (vb_set (vb_set (vb_set HVU.out ⟨(by show x10.length ≤ 2; simp only [List.mem_cons,List.not_mem_nil,or_false] at hx10; rcases hx10 with h | h <;> rw [h] <;> first | exact hVx.out.run | simp),hVx.out.who⟩) ⟨(by show x10.length ≤ 2; simp only [List.mem_cons,List.not_mem_nil,or_false] at hx10; rcases hx10 with h | h <;> rw [h] <;> first | exact hVx.out.run | simp),(by show x17 ∈ whoL; simp only [List.mem_cons,List.not_mem_nil,or_false] at hx17; rcases hx17 with h | h <;> rw [h] <;> first | exact hVx.out.who | decide)⟩) ⟨(by show x10.length ≤ 2; simp only [List.mem_cons,List.not_mem_nil,or_false] at hx10; rcases hx10 with h | h <;> rw [h] <;> first | exact hVx.out.run | simp),(by show x17 ∈ whoL; simp only [List.mem_cons,List.not_mem_nil,or_false] at hx17; rcases hx17 with h | h <;> rw [h] <;> first | exact hVx.out.who | decide)⟩) ⟨(by show x10.length ≤ 2; simp only [List.mem_cons,List.not_mem_nil,or_false] at hx10; rcases hx10 with h | h <;> rw [h] <;> first | exact hVx.out.run | simp),(by show x17 ∈ whoL; simp only [List.mem_cons,List.not_mem_nil,or_false] at hx17; rcases hx17 with h | h <;> rw [h] <;> first | exact hVx.out.who | decide)⟩)
             have HLL : Hid ((((((us.set k { x with run:=x10 }).set k { x with run:=x10,who:=x17 }).set k { x with run:=x10,who:=x17,at_:=x24 }).set k (⟨x10,x17,x24,x26⟩ : VoteE))).length = vs.length):=Lib.hid (by simpa using hul)
             clear hxk hx1 hx2 hx3 hx4 hk0 hk1 hk2 hk3 hk4
             go_wp2_with fail
             go_ret
             exact ⟨some ⟨b,0,none⟩,c,((((us.set k { x with run:=x10 }).set k { x with run:=x10,who:=x17 }).set k { x with run:=x10,who:=x17,at_:=x24 }).set k (⟨x10,x17,x24,x26⟩ : VoteE)),by rw [HLL.out] <;> rfl,by rw [HLL.out]; exact HF.out,by rw [HLL.out]; exact hvl,HVF.out,hC.s.more (by omega),hC.gr⟩
           case refine_2 =>
            as_aux_lemma =>
             go_simp
             have hL23 : Blk (w31.alloc (.cells #[.int .i64 x.at_,.int .i64 (-1),.int .i64 0] 3)) (w31.heap.size) 3 #[.int .i64 x.at_,.int .i64 (-1),.int .i64 0]:=Blk.at1 _ (by simp)
             have gL23 : g < w31.heap.size:=by have:=hC.s.lt; simp at this ⊢; omega
             replace hC:=hC.alloc (.cells #[.int .i64 x.at_,.int .i64 (-1),.int .i64 0] 3)
             replace hL16:=hL16.alloc (.cells #[.int .i64 x.at_,.int .i64 (-1),.int .i64 0] 3)
             refine hK.out _ _ (trivial) (hC.vc2 HUL.out hk0 hxk) (fun hT hS => ?_)
             clear hK K
             (try simp only [Act.put,Q3,Q4,Q5])
             refine wpAnyK_ready (rs:=[17]) (by kernel_rfl) (by simp) ?_
             refine AllReadyK.cons rfl (fun K hK => ?_) AllReadyK.nil
             go_simp
             go_at_call 11
             refine (some_litN g _ _ #[.string ⟨x.who.toArray⟩,.string ⟨#[65]⟩] [x.who,[65]] _ hC.s (by omega) hL16 rfl gL16 (by simp) (by simp)).mono ?_
             rintro e w32 ⟨x17,rfl,hx17,hs,hg⟩
             replace hC:=hC.str hs hg
             replace hL23:=hL23.gr9 hg (by omega)
             clear hs hg hL16 gL16
             go_wp2_with fail
             refine hK.out _ _ (trivial) (hC.vc2 HUL.out hk0 hxk) (fun hT hS => ?_)
             clear hK K
             (try simp only [Act.put,Q3,Q4,Q5])
             refine wpAnyK_ready (rs:=[24]) (by kernel_rfl) (by simp) ?_
             refine AllReadyK.cons rfl (fun K hK => ?_) AllReadyK.nil
             go_simp
             go_at_call 12
             refine (pick_any g _ _ _ _ [x.at_,-1,0] _ hC.s (by omega) (Row.lit hL23 (Nat.le_refl _) rfl) gL23 (by simp) (by simp)).mono ?_
             rintro e w33 ⟨x24,rfl,-,hs,hg⟩
             replace hC:=hC.str hs hg
             clear hs hg hL23 gL23
             go_wp2_with fail
             refine hK.out _ _ (trivial) (hC.vc2 HUL.out hk0 hxk) (fun hT hS => ?_)
             clear hK K
             (try simp only [Act.put,Q3,Q4,Q5])
             refine wpAnyK_ready (rs:=[26]) (by kernel_rfl) (by simp) ?_
             refine AllReadyK.cons rfl (fun K hK => ?_) AllReadyK.nil
             go_simp
             go_at_call 38
             refine (odd_any g _ 1 3 _ hC.s (by omega) (by omega) (by omega) (by omega)).mono ?_
             rintro e w34 ⟨x26,rfl,-,-,hs,hg⟩
             replace hC:=hC.str hs hg
             clear hs hg
             go_wp2_with fail
             refine hK.out _ _ (trivial) (hC.vc2 HUL.out hk0 hxk) (fun hT hS => ?_)
             clear hK K
             (try simp only [Act.put,Q3,Q4,Q5])
             (refine wpAnyK_take2 (i:=27) (v:=?_) (by (simp only [Q0,Q1,Q2]; rfl)) (by kernel_rfl) (by kernel_rfl) (by kernel_rfl) (by decide) (by exact fun _ _ _ h => h) (Or.inl ⟨by rfl,?_⟩) (by assumption) (by assumption) ?_; (rotate_left 1; (intro w hSw; (try dsimp only at hSw); go_simp); (try with_reducible rfl)); (try simp only [Act.put,Q3,Q4,Q5]))
             (refine wpAnyK_take2 (i:=28) (v:=?_) (by (simp only [Q0,Q1,Q2]; rfl)) (by kernel_rfl) (by kernel_rfl) (by kernel_rfl) (by decide) (by exact fun _ _ _ h => h) (Or.inl ⟨by rfl,?_⟩) (by assumption) (by assumption) ?_; (rotate_left 1; (intro w hSw; (try dsimp only at hSw); go_simp); (try with_reducible rfl)); (try simp only [Act.put,Q3,Q4,Q5]))
             refine wpAnyK_ready (rs:=[29]) (by kernel_rfl) (by simp) ?_
             refine AllReadyK.consT (by kernel_rfl) rfl (fun K hK => ?_) AllReadyK.nil
             obtain ⟨zb3,zb4⟩:=hC.freeB hpos
             have fz0:=zb4 (k * 4)
             have fz1:=zb4 (k * 4 + 1)
             have fz2:=zb4 (k * 4 + 2)
             have fz3:=zb4 (k * 4 + 3)
             have cz0:=zb3 (k * 4) _ (flat_getV hk0 hxk 0 (by decide) rfl)
             have cz1:=zb3 (k * 4 + 1) _ (flat_getV hk0 hxk 1 (by decide) rfl)
             have cz2:=zb3 (k * 4 + 2) _ (flat_getV hk0 hxk 2 (by decide) rfl)
             have cz3:=zb3 (k * 4 + 3) _ (flat_getV hk0 hxk 3 (by decide) rfl)
             clear zb3 zb4
             have hC0:=hC.setV hbb hk0 (i:=0) (by decide) (.string ⟨x10.toArray⟩) (x':={ x with run:=x10 }) hxk rfl
             have hk1 : k < ((us.set k { x with run:=x10 })).length:=by simpa using hk0
             have hx1:=set_atV hk0 { x with run:=x10 }
             replace hC:=hC0
             clear hC0
             go_simp
             refine hK.out _ _ (trivial) (fun hT => ?_)
             clear hK K
             (try simp only [Act.put,Q3,Q4,Q5])
             (refine wpAnyK_take3 (i:=30) (v:=?_) (by (simp only [Q0,Q1,Q2]; rfl)) (by kernel_rfl) (by kernel_rfl) (by kernel_rfl) (by decide) (by kernel_rfl) (by exact fun _ _ _ h => h) (Or.inl ⟨by rfl,?_⟩) (by assumption) ?_; (rotate_left 1; (intro w hSw; (try dsimp only at hSw); go_simp); (try with_reducible rfl)); (try simp only [Act.put,Q3,Q4,Q5]))
             (refine wpAnyK_take3 (i:=31) (v:=?_) (by (simp only [Q0,Q1,Q2]; rfl)) (by kernel_rfl) (by kernel_rfl) (by kernel_rfl) (by decide) (by kernel_rfl) (by exact fun _ _ _ h => h) (Or.inl ⟨by rfl,?_⟩) (by assumption) ?_; (rotate_left 1; (intro w hSw; (try dsimp only at hSw); go_simp); (try with_reducible rfl)); (try simp only [Act.put,Q3,Q4,Q5]))
             refine wpAnyK_ready (rs:=[32]) (by kernel_rfl) (by simp) ?_
             refine AllReadyK.consT (by kernel_rfl) rfl (fun K hK => ?_) AllReadyK.nil
             have hC1:=hC.setV hbb hk1 (i:=1) (by decide) (.string ⟨x17.toArray⟩) (x':={ x with run:=x10,who:=x17 }) hx1 rfl
             have hk2 : k < (((us.set k { x with run:=x10 }).set k { x with run:=x10,who:=x17 })).length:=by simpa using hk1
             have hx2:=set_atV hk1 { x with run:=x10,who:=x17 }
             replace hC:=hC1
             clear hC1
             go_simp
             refine hK.out _ _ (trivial) (fun hT => ?_)
             clear hK K
             (try simp only [Act.put,Q3,Q4,Q5])
             (refine wpAnyK_take3 (i:=33) (v:=?_) (by (simp only [Q0,Q1,Q2]; rfl)) (by kernel_rfl) (by kernel_rfl) (by kernel_rfl) (by decide) (by kernel_rfl) (by exact fun _ _ _ h => h) (Or.inl ⟨by rfl,?_⟩) (by assumption) ?_; (rotate_left 1; (intro w hSw; (try dsimp only at hSw); go_simp); (try with_reducible rfl)); (try simp only [Act.put,Q3,Q4,Q5]))
             (refine wpAnyK_take3 (i:=34) (v:=?_) (by (simp only [Q0,Q1,Q2]; rfl)) (by kernel_rfl) (by kernel_rfl) (by kernel_rfl) (by decide) (by kernel_rfl) (by exact fun _ _ _ h => h) (Or.inl ⟨by rfl,?_⟩) (by assumption) ?_; (rotate_left 1; (intro w hSw; (try dsimp only at hSw); go_simp); (try with_reducible rfl)); (try simp only [Act.put,Q3,Q4,Q5]))
             refine wpAnyK_ready (rs:=[35]) (by kernel_rfl) (by simp) ?_
             refine AllReadyK.consT (by kernel_rfl) rfl (fun K hK => ?_) AllReadyK.nil
             have hC2:=hC.setV hbb hk2 (i:=2) (by decide) (.int .i64 x24) (x':={ x with run:=x10,who:=x17,at_:=x24 }) hx2 rfl
             have hk3 : k < ((((us.set k { x with run:=x10 }).set k { x with run:=x10,who:=x17 }).set k { x with run:=x10,who:=x17,at_:=x24 })).length:=by simpa using hk2
             have hx3:=set_atV hk2 { x with run:=x10,who:=x17,at_:=x24 }
             replace hC:=hC2
             clear hC2
             go_simp
             refine hK.out _ _ (trivial) (fun hT => ?_)
             clear hK K
             (try simp only [Act.put,Q3,Q4,Q5])
             (refine wpAnyK_take3 (i:=36) (v:=?_) (by (simp only [Q0,Q1,Q2]; rfl)) (by kernel_rfl) (by kernel_rfl) (by kernel_rfl) (by decide) (by kernel_rfl) (by exact fun _ _ _ h => h) (Or.inl ⟨by rfl,?_⟩) (by assumption) ?_; (rotate_left 1; (intro w hSw; (try dsimp only at hSw); go_simp); (try with_reducible rfl)); (try simp only [Act.put,Q3,Q4,Q5]))
             (refine wpAnyK_take3 (i:=37) (v:=?_) (by (simp only [Q0,Q1,Q2]; rfl)) (by kernel_rfl) (by kernel_rfl) (by kernel_rfl) (by decide) (by kernel_rfl) (by exact fun _ _ _ h => h) (Or.inl ⟨by rfl,?_⟩) (by assumption) ?_; (rotate_left 1; (intro w hSw; (try dsimp only at hSw); go_simp); (try with_reducible rfl)); (try simp only [Act.put,Q3,Q4,Q5]))
             refine wpAnyK_ready (rs:=[38]) (by kernel_rfl) (by simp) ?_
             refine AllReadyK.consT (by kernel_rfl) rfl (fun K hK => ?_) AllReadyK.nil
             have hC3:=hC.setV hbb hk3 (i:=3) (by decide) (.int .i64 x26) (x':=(⟨x10,x17,x24,x26⟩ : VoteE)) hx3 rfl
             have hk4 : k < (((((us.set k { x with run:=x10 }).set k { x with run:=x10,who:=x17 }).set k { x with run:=x10,who:=x17,at_:=x24 }).set k (⟨x10,x17,x24,x26⟩ : VoteE))).length:=by simpa using hk3
             have hx4:=set_atV hk3 (⟨x10,x17,x24,x26⟩ : VoteE)
             replace hC:=hC3
             clear hC3
             go_simp
             refine hK.out _ _ (trivial) (fun hT => ?_)
             clear hK K
             (try simp only [Act.put,Q3,Q4,Q5])
             refine wpAnyK_done (by kernel_rfl) ?_ _
             have HF:=Lib.hid (own_weak hC.own (show w.heap.size ≤ w.heap.size + 1 by omega))
             have hul:=HUL.out
             have HVF : Hid (∀ v ∈ ((((us.set k { x with run:=x10 }).set k { x with run:=x10,who:=x17 }).set k { x with run:=x10,who:=x17,at_:=x24 }).set k (⟨x10,x17,x24,x26⟩ : VoteE)),VB v):=Lib.hid (vb_set (vb_set (vb_set (vb_set HVU.out ⟨(by show x10.length ≤ 2; simp only [List.mem_cons,List.not_mem_nil,or_false] at hx10; rcases hx10 with h | h <;> rw [h] <;> first | exact hVx.out.run | simp),hVx.out.who⟩) ⟨(by show x10.length ≤ 2; simp only [List.mem_cons,List.not_mem_nil,or_false] at hx10; rcases hx10 with h | h <;> rw [h] <;> first | exact hVx.out.run | simp),(by show x17 ∈ whoL; simp only [List.mem_cons,List.not_mem_nil,or_false] at hx17; rcases hx17 with h | h <;> rw [h] <;> first | exact hVx.out.who | decide)⟩) ⟨(by show x10.length ≤ 2; simp only [List.mem_cons,List.not_mem_nil,or_false] at hx10; rcases hx10 with h | h <;> rw [h] <;> first | exact hVx.out.run | simp),(by show x17 ∈ whoL; simp only [List.mem_cons,List.not_mem_nil,or_false] at hx17; rcases hx17 with h | h <;> rw [h] <;> first | exact hVx.out.who | decide)⟩) ⟨(by show x10.length ≤ 2; simp only [List.mem_cons,List.not_mem_nil,or_false] at hx10; rcases hx10 with h | h <;> rw [h] <;> first | exact hVx.out.run | simp),(by show x17 ∈ whoL; simp only [List.mem_cons,List.not_mem_nil,or_false] at hx17; rcases hx17 with h | h <;> rw [h] <;> first | exact hVx.out.who | decide)⟩)
             have HLL : Hid ((((((us.set k { x with run:=x10 }).set k { x with run:=x10,who:=x17 }).set k { x with run:=x10,who:=x17,at_:=x24 }).set k (⟨x10,x17,x24,x26⟩ : VoteE))).length = vs.length):=Lib.hid (by simpa using hul)
             clear hxk hx1 hx2 hx3 hx4 hk0 hk1 hk2 hk3 hk4
             go_wp2_with fail
             go_ret
             exact ⟨some ⟨b,0,none⟩,c,((((us.set k { x with run:=x10 }).set k { x with run:=x10,who:=x17 }).set k { x with run:=x10,who:=x17,at_:=x24 }).set k (⟨x10,x17,x24,x26⟩ : VoteE)),by rw [HLL.out] <;> rfl,by rw [HLL.out]; exact HF.out,by rw [HLL.out]; exact hvl,HVF.out,hC.s.more (by omega),hC.gr⟩
         case refine_2 =>
          as_aux_lemma =>
           go_simp
           have hL23 : Blk (((w30.drew.alloc (.cells #[.string ⟨x.run.toArray⟩,.string ⟨#[]⟩] 9)).alloc (.cells #[.string ⟨x.who.toArray⟩,.string ⟨#[65]⟩] 9)).alloc (.cells #[.int .i64 x.at_,.int .i64 (-1),.int .i64 0] 3)) (w30.heap.size + 1 + 1) 3 #[.int .i64 x.at_,.int .i64 (-1),.int .i64 0]:=Blk.at1 _ (by simp)
           have gL23 : g < w30.heap.size + 1 + 1:=by have:=hC.s.lt; simp at this ⊢; omega
           replace hC:=hC.alloc (.cells #[.int .i64 x.at_,.int .i64 (-1),.int .i64 0] 3)
           replace hL9:=hL9.alloc (.cells #[.int .i64 x.at_,.int .i64 (-1),.int .i64 0] 3)
           replace hL16:=hL16.alloc (.cells #[.int .i64 x.at_,.int .i64 (-1),.int .i64 0] 3)
           refine hK.out _ _ (trivial) (hC.vc2 HUL.out hk0 hxk) (fun hT hS => ?_)
           clear hK K
           (try simp only [Act.put,Q3,Q4,Q5])
           refine wpAnyK_ready (rs:=[10]) (by kernel_rfl) (by simp) ?_
           refine AllReadyK.cons rfl (fun K hK => ?_) AllReadyK.nil
           go_simp
           go_at_call 11
           refine (some_litN g _ _ #[.string ⟨x.run.toArray⟩,.string ⟨#[]⟩] [x.run,[]] _ hC.s (by omega) hL9 rfl gL9 (by simp) (by simp)).mono ?_
           rintro e w31 ⟨x10,rfl,hx10,hs,hg⟩
           replace hC:=hC.str hs hg
           replace hL16:=hL16.gr9 hg (by omega)
           replace hL23:=hL23.gr9 hg (by omega)
           clear hs hg hL9 gL9
           go_wp2_with fail
           refine hK.out _ _ (trivial) (hC.vc2 HUL.out hk0 hxk) (fun hT hS => ?_)
           clear hK K
           (try simp only [Act.put,Q3,Q4,Q5])
           refine wpAnyK_ready (rs:=[17]) (by kernel_rfl) (by simp) ?_
           refine AllReadyK.cons rfl (fun K hK => ?_) AllReadyK.nil
           go_simp
           go_at_call 11
           refine (some_litN g _ _ #[.string ⟨x.who.toArray⟩,.string ⟨#[65]⟩] [x.who,[65]] _ hC.s (by omega) hL16 rfl gL16 (by simp) (by simp)).mono ?_
           rintro e w32 ⟨x17,rfl,hx17,hs,hg⟩
           replace hC:=hC.str hs hg
           replace hL23:=hL23.gr9 hg (by omega)
           clear hs hg hL16 gL16
           go_wp2_with fail
           refine hK.out _ _ (trivial) (hC.vc2 HUL.out hk0 hxk) (fun hT hS => ?_)
           clear hK K
           (try simp only [Act.put,Q3,Q4,Q5])
           refine wpAnyK_ready (rs:=[24]) (by kernel_rfl) (by simp) ?_
           refine AllReadyK.cons rfl (fun K hK => ?_) AllReadyK.nil
           go_simp
           go_at_call 12
           refine (pick_any g _ _ _ _ [x.at_,-1,0] _ hC.s (by omega) (Row.lit hL23 (Nat.le_refl _) rfl) gL23 (by simp) (by simp)).mono ?_
           rintro e w33 ⟨x24,rfl,-,hs,hg⟩
           replace hC:=hC.str hs hg
           clear hs hg hL23 gL23
           go_wp2_with fail
           refine hK.out _ _ (trivial) (hC.vc2 HUL.out hk0 hxk) (fun hT hS => ?_)
           clear hK K
           (try simp only [Act.put,Q3,Q4,Q5])
           refine wpAnyK_ready (rs:=[26]) (by kernel_rfl) (by simp) ?_
           refine AllReadyK.cons rfl (fun K hK => ?_) AllReadyK.nil
           go_simp
           go_at_call 38
           refine (odd_any g _ 1 3 _ hC.s (by omega) (by omega) (by omega) (by omega)).mono ?_
           rintro e w34 ⟨x26,rfl,-,-,hs,hg⟩
           replace hC:=hC.str hs hg
           clear hs hg
           go_wp2_with fail
           refine hK.out _ _ (trivial) (hC.vc2 HUL.out hk0 hxk) (fun hT hS => ?_)
           clear hK K
           (try simp only [Act.put,Q3,Q4,Q5])
           (refine wpAnyK_take2 (i:=27) (v:=?_) (by (simp only [Q0,Q1,Q2]; rfl)) (by kernel_rfl) (by kernel_rfl) (by kernel_rfl) (by decide) (by exact fun _ _ _ h => h) (Or.inl ⟨by rfl,?_⟩) (by assumption) (by assumption) ?_; (rotate_left 1; (intro w hSw; (try dsimp only at hSw); go_simp); (try with_reducible rfl)); (try simp only [Act.put,Q3,Q4,Q5]))
           (refine wpAnyK_take2 (i:=28) (v:=?_) (by (simp only [Q0,Q1,Q2]; rfl)) (by kernel_rfl) (by kernel_rfl) (by kernel_rfl) (by decide) (by exact fun _ _ _ h => h) (Or.inl ⟨by rfl,?_⟩) (by assumption) (by assumption) ?_; (rotate_left 1; (intro w hSw; (try dsimp only at hSw); go_simp); (try with_reducible rfl)); (try simp only [Act.put,Q3,Q4,Q5]))
           refine wpAnyK_ready (rs:=[29]) (by kernel_rfl) (by simp) ?_
           refine AllReadyK.consT (by kernel_rfl) rfl (fun K hK => ?_) AllReadyK.nil
           obtain ⟨zb3,zb4⟩:=hC.freeB hpos
           have fz0:=zb4 (k * 4)
           have fz1:=zb4 (k * 4 + 1)
           have fz2:=zb4 (k * 4 + 2)
           have fz3:=zb4 (k * 4 + 3)
           have cz0:=zb3 (k * 4) _ (flat_getV hk0 hxk 0 (by decide) rfl)
           have cz1:=zb3 (k * 4 + 1) _ (flat_getV hk0 hxk 1 (by decide) rfl)
           have cz2:=zb3 (k * 4 + 2) _ (flat_getV hk0 hxk 2 (by decide) rfl)
           have cz3:=zb3 (k * 4 + 3) _ (flat_getV hk0 hxk 3 (by decide) rfl)
           clear zb3 zb4
           have hC0:=hC.setV hbb hk0 (i:=0) (by decide) (.string ⟨x10.toArray⟩) (x':={ x with run:=x10 }) hxk rfl
           have hk1 : k < ((us.set k { x with run:=x10 })).length:=by simpa using hk0
           have hx1:=set_atV hk0 { x with run:=x10 }
           replace hC:=hC0
           clear hC0
           go_simp
           refine hK.out _ _ (trivial) (fun hT => ?_)
           clear hK K
           (try simp only [Act.put,Q3,Q4,Q5])
           (refine wpAnyK_take3 (i:=30) (v:=?_) (by (simp only [Q0,Q1,Q2]; rfl)) (by kernel_rfl) (by kernel_rfl) (by kernel_rfl) (by decide) (by kernel_rfl) (by exact fun _ _ _ h => h) (Or.inl ⟨by rfl,?_⟩) (by assumption) ?_; (rotate_left 1; (intro w hSw; (try dsimp only at hSw); go_simp); (try with_reducible rfl)); (try simp only [Act.put,Q3,Q4,Q5]))
           (refine wpAnyK_take3 (i:=31) (v:=?_) (by (simp only [Q0,Q1,Q2]; rfl)) (by kernel_rfl) (by kernel_rfl) (by kernel_rfl) (by decide) (by kernel_rfl) (by exact fun _ _ _ h => h) (Or.inl ⟨by rfl,?_⟩) (by assumption) ?_; (rotate_left 1; (intro w hSw; (try dsimp only at hSw); go_simp); (try with_reducible rfl)); (try simp only [Act.put,Q3,Q4,Q5]))
           refine wpAnyK_ready (rs:=[32]) (by kernel_rfl) (by simp) ?_
           refine AllReadyK.consT (by kernel_rfl) rfl (fun K hK => ?_) AllReadyK.nil
           have hC1:=hC.setV hbb hk1 (i:=1) (by decide) (.string ⟨x17.toArray⟩) (x':={ x with run:=x10,who:=x17 }) hx1 rfl
           have hk2 : k < (((us.set k { x with run:=x10 }).set k { x with run:=x10,who:=x17 })).length:=by simpa using hk1
           have hx2:=set_atV hk1 { x with run:=x10,who:=x17 }
           replace hC:=hC1
           clear hC1
           go_simp
           refine hK.out _ _ (trivial) (fun hT => ?_)
           clear hK K
           (try simp only [Act.put,Q3,Q4,Q5])
           (refine wpAnyK_take3 (i:=33) (v:=?_) (by (simp only [Q0,Q1,Q2]; rfl)) (by kernel_rfl) (by kernel_rfl) (by kernel_rfl) (by decide) (by kernel_rfl) (by exact fun _ _ _ h => h) (Or.inl ⟨by rfl,?_⟩) (by assumption) ?_; (rotate_left 1; (intro w hSw; (try dsimp only at hSw); go_simp); (try with_reducible rfl)); (try simp only [Act.put,Q3,Q4,Q5]))
           (refine wpAnyK_take3 (i:=34) (v:=?_) (by (simp only [Q0,Q1,Q2]; rfl)) (by kernel_rfl) (by kernel_rfl) (by kernel_rfl) (by decide) (by kernel_rfl) (by exact fun _ _ _ h => h) (Or.inl ⟨by rfl,?_⟩) (by assumption) ?_; (rotate_left 1; (intro w hSw; (try dsimp only at hSw); go_simp); (try with_reducible rfl)); (try simp only [Act.put,Q3,Q4,Q5]))
           refine wpAnyK_ready (rs:=[35]) (by kernel_rfl) (by simp) ?_
           refine AllReadyK.consT (by kernel_rfl) rfl (fun K hK => ?_) AllReadyK.nil
           have hC2:=hC.setV hbb hk2 (i:=2) (by decide) (.int .i64 x24) (x':={ x with run:=x10,who:=x17,at_:=x24 }) hx2 rfl
           have hk3 : k < ((((us.set k { x with run:=x10 }).set k { x with run:=x10,who:=x17 }).set k { x with run:=x10,who:=x17,at_:=x24 })).length:=by simpa using hk2
           have hx3:=set_atV hk2 { x with run:=x10,who:=x17,at_:=x24 }
           replace hC:=hC2
           clear hC2
           go_simp
           refine hK.out _ _ (trivial) (fun hT => ?_)
           clear hK K
           (try simp only [Act.put,Q3,Q4,Q5])
           (refine wpAnyK_take3 (i:=36) (v:=?_) (by (simp only [Q0,Q1,Q2]; rfl)) (by kernel_rfl) (by kernel_rfl) (by kernel_rfl) (by decide) (by kernel_rfl) (by exact fun _ _ _ h => h) (Or.inl ⟨by rfl,?_⟩) (by assumption) ?_; (rotate_left 1; (intro w hSw; (try dsimp only at hSw); go_simp); (try with_reducible rfl)); (try simp only [Act.put,Q3,Q4,Q5]))
           (refine wpAnyK_take3 (i:=37) (v:=?_) (by (simp only [Q0,Q1,Q2]; rfl)) (by kernel_rfl) (by kernel_rfl) (by kernel_rfl) (by decide) (by kernel_rfl) (by exact fun _ _ _ h => h) (Or.inl ⟨by rfl,?_⟩) (by assumption) ?_; (rotate_left 1; (intro w hSw; (try dsimp only at hSw); go_simp); (try with_reducible rfl)); (try simp only [Act.put,Q3,Q4,Q5]))
           refine wpAnyK_ready (rs:=[38]) (by kernel_rfl) (by simp) ?_
           refine AllReadyK.consT (by kernel_rfl) rfl (fun K hK => ?_) AllReadyK.nil
           have hC3:=hC.setV hbb hk3 (i:=3) (by decide) (.int .i64 x26) (x':=(⟨x10,x17,x24,x26⟩ : VoteE)) hx3 rfl
           have hk4 : k < (((((us.set k { x with run:=x10 }).set k { x with run:=x10,who:=x17 }).set k { x with run:=x10,who:=x17,at_:=x24 }).set k (⟨x10,x17,x24,x26⟩ : VoteE))).length:=by simpa using hk3
           have hx4:=set_atV hk3 (⟨x10,x17,x24,x26⟩ : VoteE)
           replace hC:=hC3
           clear hC3
           go_simp
           refine hK.out _ _ (trivial) (fun hT => ?_)
           clear hK K
           (try simp only [Act.put,Q3,Q4,Q5])
           refine wpAnyK_done (by kernel_rfl) ?_ _
           have HF:=Lib.hid (own_weak hC.own (show w.heap.size ≤ w.heap.size + 1 by omega))
           have hul:=HUL.out
           have HVF : Hid (∀ v ∈ ((((us.set k { x with run:=x10 }).set k { x with run:=x10,who:=x17 }).set k { x with run:=x10,who:=x17,at_:=x24 }).set k (⟨x10,x17,x24,x26⟩ : VoteE)),VB v):=Lib.hid (vb_set (vb_set (vb_set (vb_set HVU.out ⟨(by show x10.length ≤ 2; simp only [List.mem_cons,List.not_mem_nil,or_false] at hx10; rcases hx10 with h | h <;> rw [h] <;> first | exact hVx.out.run | simp),hVx.out.who⟩) ⟨(by show x10.length ≤ 2; simp only [List.mem_cons,List.not_mem_nil,or_false] at hx10; rcases hx10 with h | h <;> rw [h] <;> first | exact hVx.out.run | simp),(by show x17 ∈ whoL; simp only [List.mem_cons,List.not_mem_nil,or_false] at hx17; rcases hx17 with h | h <;> rw [h] <;> first | exact hVx.out.who | decide)⟩) ⟨(by show x10.length ≤ 2; simp only [List.mem_cons,List.not_mem_nil,or_false] at hx10; rcases hx10 with h | h <;> rw [h] <;> first | exact hVx.out.run | simp),(by show x17 ∈ whoL; simp only [List.mem_cons,List.not_mem_nil,or_false] at hx17; rcases hx17 with h | h <;> rw [h] <;> first | exact hVx.out.who | decide)⟩) ⟨(by show x10.length ≤ 2; simp only [List.mem_cons,List.not_mem_nil,or_false] at hx10; rcases hx10 with h | h <;> rw [h] <;> first | exact hVx.out.run | simp),(by show x17 ∈ whoL; simp only [List.mem_cons,List.not_mem_nil,or_false] at hx17; rcases hx17 with h | h <;> rw [h] <;> first | exact hVx.out.who | decide)⟩)
           have HLL : Hid ((((((us.set k { x with run:=x10 }).set k { x with run:=x10,who:=x17 }).set k { x with run:=x10,who:=x17,at_:=x24 }).set k (⟨x10,x17,x24,x26⟩ : VoteE))).length = vs.length):=Lib.hid (by simpa using hul)
           clear hxk hx1 hx2 hx3 hx4 hk0 hk1 hk2 hk3 hk4
           go_wp2_with fail
           go_ret
           exact ⟨some ⟨b,0,none⟩,c,((((us.set k { x with run:=x10 }).set k { x with run:=x10,who:=x17 }).set k { x with run:=x10,who:=x17,at_:=x24 }).set k (⟨x10,x17,x24,x26⟩ : VoteE)),by rw [HLL.out] <;> rfl,by rw [HLL.out]; exact HF.out,by rw [HLL.out]; exact hvl,HVF.out,hC.s.more (by omega),hC.gr⟩
       case refine_3 =>
        as_aux_lemma =>
         go_simp
         have hL23 : Blk ((w30.drew.alloc (.cells #[.string ⟨x.run.toArray⟩,.string ⟨#[]⟩] 9)).alloc (.cells #[.int .i64 x.at_,.int .i64 (-1),.int .i64 0] 3)) (w30.heap.size + 1) 3 #[.int .i64 x.at_,.int .i64 (-1),.int .i64 0]:=Blk.at1 _ (by simp)
         have gL23 : g < w30.heap.size + 1:=by have:=hC.s.lt; simp at this ⊢; omega
         replace hC:=hC.alloc (.cells #[.int .i64 x.at_,.int .i64 (-1),.int .i64 0] 3)
         replace hL9:=hL9.alloc (.cells #[.int .i64 x.at_,.int .i64 (-1),.int .i64 0] 3)
         refine hK.out _ _ (trivial) (hC.vc2 HUL.out hk0 hxk) (fun hT hS => ?_)
         clear hK K
         (try simp only [Act.put,Q3,Q4,Q5])
         refine wpAnyK_ready (rs:=[10,16]) (by kernel_rfl) (by simp) ?_
         refine AllReadyK.cons rfl (fun K hK => ?_) (AllReadyK.cons rfl (fun K hK => ?_) AllReadyK.nil)
         case refine_1 =>
          as_aux_lemma =>
           go_simp
           go_at_call 11
           refine (some_litN g _ _ #[.string ⟨x.run.toArray⟩,.string ⟨#[]⟩] [x.run,[]] _ hC.s (by omega) hL9 rfl gL9 (by simp) (by simp)).mono ?_
           rintro e w31 ⟨x10,rfl,hx10,hs,hg⟩
           replace hC:=hC.str hs hg
           replace hL23:=hL23.gr9 hg (by omega)
           clear hs hg hL9 gL9
           go_wp2_with fail
           refine hK.out _ _ (trivial) (hC.vc2 HUL.out hk0 hxk) (fun hT hS => ?_)
           clear hK K
           (try simp only [Act.put,Q3,Q4,Q5])
           refine wpAnyK_ready (rs:=[16]) (by kernel_rfl) (by simp) ?_
           refine AllReadyK.cons rfl (fun K hK => ?_) AllReadyK.nil
           go_simp
           have hL16 : Blk (w31.alloc (.cells #[.string ⟨x.who.toArray⟩,.string ⟨#[65]⟩] 9)) (w31.heap.size) 9 #[.string ⟨x.who.toArray⟩,.string ⟨#[65]⟩]:=Blk.at1 _ (by simp)
           have gL16 : g < w31.heap.size:=by have:=hC.s.lt; simp at this ⊢; omega
           replace hC:=hC.alloc (.cells #[.string ⟨x.who.toArray⟩,.string ⟨#[65]⟩] 9)
           replace hL23:=hL23.alloc (.cells #[.string ⟨x.who.toArray⟩,.string ⟨#[65]⟩] 9)
           refine hK.out _ _ (trivial) (hC.vc2 HUL.out hk0 hxk) (fun hT hS => ?_)
           clear hK K
           (try simp only [Act.put,Q3,Q4,Q5])
           refine wpAnyK_ready (rs:=[17]) (by kernel_rfl) (by simp) ?_
           refine AllReadyK.cons rfl (fun K hK => ?_) AllReadyK.nil
           go_simp
           go_at_call 11
           refine (some_litN g _ _ #[.string ⟨x.who.toArray⟩,.string ⟨#[65]⟩] [x.who,[65]] _ hC.s (by omega) hL16 rfl gL16 (by simp) (by simp)).mono ?_
           rintro e w32 ⟨x17,rfl,hx17,hs,hg⟩
           replace hC:=hC.str hs hg
           replace hL23:=hL23.gr9 hg (by omega)
           clear hs hg hL16 gL16
           go_wp2_with fail
           refine hK.out _ _ (trivial) (hC.vc2 HUL.out hk0 hxk) (fun hT hS => ?_)
           clear hK K
           (try simp only [Act.put,Q3,Q4,Q5])
           refine wpAnyK_ready (rs:=[24]) (by kernel_rfl) (by simp) ?_
           refine AllReadyK.cons rfl (fun K hK => ?_) AllReadyK.nil
           go_simp
           go_at_call 12
           refine (pick_any g _ _ _ _ [x.at_,-1,0] _ hC.s (by omega) (Row.lit hL23 (Nat.le_refl _) rfl) gL23 (by simp) (by simp)).mono ?_
           rintro e w33 ⟨x24,rfl,-,hs,hg⟩
           replace hC:=hC.str hs hg
           clear hs hg hL23 gL23
           go_wp2_with fail
           refine hK.out _ _ (trivial) (hC.vc2 HUL.out hk0 hxk) (fun hT hS => ?_)
           clear hK K
           (try simp only [Act.put,Q3,Q4,Q5])
           refine wpAnyK_ready (rs:=[26]) (by kernel_rfl) (by simp) ?_
           refine AllReadyK.cons rfl (fun K hK => ?_) AllReadyK.nil
           go_simp
           go_at_call 38
           refine (odd_any g _ 1 3 _ hC.s (by omega) (by omega) (by omega) (by omega)).mono ?_
           rintro e w34 ⟨x26,rfl,-,-,hs,hg⟩
           replace hC:=hC.str hs hg
           clear hs hg
           go_wp2_with fail
           refine hK.out _ _ (trivial) (hC.vc2 HUL.out hk0 hxk) (fun hT hS => ?_)
           clear hK K
           (try simp only [Act.put,Q3,Q4,Q5])
           (refine wpAnyK_take2 (i:=27) (v:=?_) (by (simp only [Q0,Q1,Q2]; rfl)) (by kernel_rfl) (by kernel_rfl) (by kernel_rfl) (by decide) (by exact fun _ _ _ h => h) (Or.inl ⟨by rfl,?_⟩) (by assumption) (by assumption) ?_; (rotate_left 1; (intro w hSw; (try dsimp only at hSw); go_simp); (try with_reducible rfl)); (try simp only [Act.put,Q3,Q4,Q5]))
           (refine wpAnyK_take2 (i:=28) (v:=?_) (by (simp only [Q0,Q1,Q2]; rfl)) (by kernel_rfl) (by kernel_rfl) (by kernel_rfl) (by decide) (by exact fun _ _ _ h => h) (Or.inl ⟨by rfl,?_⟩) (by assumption) (by assumption) ?_; (rotate_left 1; (intro w hSw; (try dsimp only at hSw); go_simp); (try with_reducible rfl)); (try simp only [Act.put,Q3,Q4,Q5]))
           refine wpAnyK_ready (rs:=[29]) (by kernel_rfl) (by simp) ?_
           refine AllReadyK.consT (by kernel_rfl) rfl (fun K hK => ?_) AllReadyK.nil
           obtain ⟨zb3,zb4⟩:=hC.freeB hpos
           have fz0:=zb4 (k * 4)
           have fz1:=zb4 (k * 4 + 1)
           have fz2:=zb4 (k * 4 + 2)
           have fz3:=zb4 (k * 4 + 3)
           have cz0:=zb3 (k * 4) _ (flat_getV hk0 hxk 0 (by decide) rfl)
           have cz1:=zb3 (k * 4 + 1) _ (flat_getV hk0 hxk 1 (by decide) rfl)
           have cz2:=zb3 (k * 4 + 2) _ (flat_getV hk0 hxk 2 (by decide) rfl)
           have cz3:=zb3 (k * 4 + 3) _ (flat_getV hk0 hxk 3 (by decide) rfl)
           clear zb3 zb4
           have hC0:=hC.setV hbb hk0 (i:=0) (by decide) (.string ⟨x10.toArray⟩) (x':={ x with run:=x10 }) hxk rfl
           have hk1 : k < ((us.set k { x with run:=x10 })).length:=by simpa using hk0
           have hx1:=set_atV hk0 { x with run:=x10 }
           replace hC:=hC0
           clear hC0
           go_simp
           refine hK.out _ _ (trivial) (fun hT => ?_)
           clear hK K
           (try simp only [Act.put,Q3,Q4,Q5])
           (refine wpAnyK_take3 (i:=30) (v:=?_) (by (simp only [Q0,Q1,Q2]; rfl)) (by kernel_rfl) (by kernel_rfl) (by kernel_rfl) (by decide) (by kernel_rfl) (by exact fun _ _ _ h => h) (Or.inl ⟨by rfl,?_⟩) (by assumption) ?_; (rotate_left 1; (intro w hSw; (try dsimp only at hSw); go_simp); (try with_reducible rfl)); (try simp only [Act.put,Q3,Q4,Q5]))
           (refine wpAnyK_take3 (i:=31) (v:=?_) (by (simp only [Q0,Q1,Q2]; rfl)) (by kernel_rfl) (by kernel_rfl) (by kernel_rfl) (by decide) (by kernel_rfl) (by exact fun _ _ _ h => h) (Or.inl ⟨by rfl,?_⟩) (by assumption) ?_; (rotate_left 1; (intro w hSw; (try dsimp only at hSw); go_simp); (try with_reducible rfl)); (try simp only [Act.put,Q3,Q4,Q5]))
           refine wpAnyK_ready (rs:=[32]) (by kernel_rfl) (by simp) ?_
           refine AllReadyK.consT (by kernel_rfl) rfl (fun K hK => ?_) AllReadyK.nil
           have hC1:=hC.setV hbb hk1 (i:=1) (by decide) (.string ⟨x17.toArray⟩) (x':={ x with run:=x10,who:=x17 }) hx1 rfl
           have hk2 : k < (((us.set k { x with run:=x10 }).set k { x with run:=x10,who:=x17 })).length:=by simpa using hk1
           have hx2:=set_atV hk1 { x with run:=x10,who:=x17 }
           replace hC:=hC1
           clear hC1
           go_simp
           refine hK.out _ _ (trivial) (fun hT => ?_)
           clear hK K
           (try simp only [Act.put,Q3,Q4,Q5])
           (refine wpAnyK_take3 (i:=33) (v:=?_) (by (simp only [Q0,Q1,Q2]; rfl)) (by kernel_rfl) (by kernel_rfl) (by kernel_rfl) (by decide) (by kernel_rfl) (by exact fun _ _ _ h => h) (Or.inl ⟨by rfl,?_⟩) (by assumption) ?_; (rotate_left 1; (intro w hSw; (try dsimp only at hSw); go_simp); (try with_reducible rfl)); (try simp only [Act.put,Q3,Q4,Q5]))
           (refine wpAnyK_take3 (i:=34) (v:=?_) (by (simp only [Q0,Q1,Q2]; rfl)) (by kernel_rfl) (by kernel_rfl) (by kernel_rfl) (by decide) (by kernel_rfl) (by exact fun _ _ _ h => h) (Or.inl ⟨by rfl,?_⟩) (by assumption) ?_; (rotate_left 1; (intro w hSw; (try dsimp only at hSw); go_simp); (try with_reducible rfl)); (try simp only [Act.put,Q3,Q4,Q5]))
           refine wpAnyK_ready (rs:=[35]) (by kernel_rfl) (by simp) ?_
           refine AllReadyK.consT (by kernel_rfl) rfl (fun K hK => ?_) AllReadyK.nil
           have hC2:=hC.setV hbb hk2 (i:=2) (by decide) (.int .i64 x24) (x':={ x with run:=x10,who:=x17,at_:=x24 }) hx2 rfl
           have hk3 : k < ((((us.set k { x with run:=x10 }).set k { x with run:=x10,who:=x17 }).set k { x with run:=x10,who:=x17,at_:=x24 })).length:=by simpa using hk2
           have hx3:=set_atV hk2 { x with run:=x10,who:=x17,at_:=x24 }
           replace hC:=hC2
           clear hC2
           go_simp
           refine hK.out _ _ (trivial) (fun hT => ?_)
           clear hK K
           (try simp only [Act.put,Q3,Q4,Q5])
           (refine wpAnyK_take3 (i:=36) (v:=?_) (by (simp only [Q0,Q1,Q2]; rfl)) (by kernel_rfl) (by kernel_rfl) (by kernel_rfl) (by decide) (by kernel_rfl) (by exact fun _ _ _ h => h) (Or.inl ⟨by rfl,?_⟩) (by assumption) ?_; (rotate_left 1; (intro w hSw; (try dsimp only at hSw); go_simp); (try with_reducible rfl)); (try simp only [Act.put,Q3,Q4,Q5]))
           (refine wpAnyK_take3 (i:=37) (v:=?_) (by (simp only [Q0,Q1,Q2]; rfl)) (by kernel_rfl) (by kernel_rfl) (by kernel_rfl) (by decide) (by kernel_rfl) (by exact fun _ _ _ h => h) (Or.inl ⟨by rfl,?_⟩) (by assumption) ?_; (rotate_left 1; (intro w hSw; (try dsimp only at hSw); go_simp); (try with_reducible rfl)); (try simp only [Act.put,Q3,Q4,Q5]))
           refine wpAnyK_ready (rs:=[38]) (by kernel_rfl) (by simp) ?_
           refine AllReadyK.consT (by kernel_rfl) rfl (fun K hK => ?_) AllReadyK.nil
           have hC3:=hC.setV hbb hk3 (i:=3) (by decide) (.int .i64 x26) (x':=(⟨x10,x17,x24,x26⟩ : VoteE)) hx3 rfl
           have hk4 : k < (((((us.set k { x with run:=x10 }).set k { x with run:=x10,who:=x17 }).set k { x with run:=x10,who:=x17,at_:=x24 }).set k (⟨x10,x17,x24,x26⟩ : VoteE))).length:=by simpa using hk3
           have hx4:=set_atV hk3 (⟨x10,x17,x24,x26⟩ : VoteE)
           replace hC:=hC3
           clear hC3
           go_simp
           refine hK.out _ _ (trivial) (fun hT => ?_)
           clear hK K
           (try simp only [Act.put,Q3,Q4,Q5])
           refine wpAnyK_done (by kernel_rfl) ?_ _
           have HF:=Lib.hid (own_weak hC.own (show w.heap.size ≤ w.heap.size + 1 by omega))
           have hul:=HUL.out
           have HVF : Hid (∀ v ∈ ((((us.set k { x with run:=x10 }).set k { x with run:=x10,who:=x17 }).set k { x with run:=x10,who:=x17,at_:=x24 }).set k (⟨x10,x17,x24,x26⟩ : VoteE)),VB v):=Lib.hid (vb_set (vb_set (vb_set (vb_set HVU.out ⟨(by show x10.length ≤ 2; simp only [List.mem_cons,List.not_mem_nil,or_false] at hx10; rcases hx10 with h | h <;> rw [h] <;> first | exact hVx.out.run | simp),hVx.out.who⟩) ⟨(by show x10.length ≤ 2; simp only [List.mem_cons,List.not_mem_nil,or_false] at hx10; rcases hx10 with h | h <;> rw [h] <;> first | exact hVx.out.run | simp),(by show x17 ∈ whoL; simp only [List.mem_cons,List.not_mem_nil,or_false] at hx17; rcases hx17 with h | h <;> rw [h] <;> first | exact hVx.out.who | decide)⟩) ⟨(by show x10.length ≤ 2; simp only [List.mem_cons,List.not_mem_nil,or_false] at hx10; rcases hx10 with h | h <;> rw [h] <;> first | exact hVx.out.run | simp),(by show x17 ∈ whoL; simp only [List.mem_cons,List.not_mem_nil,or_false] at hx17; rcases hx17 with h | h <;> rw [h] <;> first | exact hVx.out.who | decide)⟩) ⟨(by show x10.length ≤ 2; simp only [List.mem_cons,List.not_mem_nil,or_false] at hx10; rcases hx10 with h | h <;> rw [h] <;> first | exact hVx.out.run | simp),(by show x17 ∈ whoL; simp only [List.mem_cons,List.not_mem_nil,or_false] at hx17; rcases hx17 with h | h <;> rw [h] <;> first | exact hVx.out.who | decide)⟩)
           have HLL : Hid ((((((us.set k { x with run:=x10 }).set k { x with run:=x10,who:=x17 }).set k { x with run:=x10,who:=x17,at_:=x24 }).set k (⟨x10,x17,x24,x26⟩ : VoteE))).length = vs.length):=Lib.hid (by simpa using hul)
           clear hxk hx1 hx2 hx3 hx4 hk0 hk1 hk2 hk3 hk4
           go_wp2_with fail
           go_ret
           exact ⟨some ⟨b,0,none⟩,c,((((us.set k { x with run:=x10 }).set k { x with run:=x10,who:=x17 }).set k { x with run:=x10,who:=x17,at_:=x24 }).set k (⟨x10,x17,x24,x26⟩ : VoteE)),by rw [HLL.out] <;> rfl,by rw [HLL.out]; exact HF.out,by rw [HLL.out]; exact hvl,HVF.out,hC.s.more (by omega),hC.gr⟩
         case refine_2 =>
          as_aux_lemma =>
           go_simp
           have hL16 : Blk (((w30.drew.alloc (.cells #[.string ⟨x.run.toArray⟩,.string ⟨#[]⟩] 9)).alloc (.cells #[.int .i64 x.at_,.int .i64 (-1),.int .i64 0] 3)).alloc (.cells #[.string ⟨x.who.toArray⟩,.string ⟨#[65]⟩] 9)) (w30.heap.size + 1 + 1) 9 #[.string ⟨x.who.toArray⟩,.string ⟨#[65]⟩]:=Blk.at1 _ (by simp)
           have gL16 : g < w30.heap.size + 1 + 1:=by have:=hC.s.lt; simp at this ⊢; omega
           replace hC:=hC.alloc (.cells #[.string ⟨x.who.toArray⟩,.string ⟨#[65]⟩] 9)
           replace hL9:=hL9.alloc (.cells #[.string ⟨x.who.toArray⟩,.string ⟨#[65]⟩] 9)
           replace hL23:=hL23.alloc (.cells #[.string ⟨x.who.toArray⟩,.string ⟨#[65]⟩] 9)
           refine hK.out _ _ (trivial) (hC.vc2 HUL.out hk0 hxk) (fun hT hS => ?_)
           clear hK K
           (try simp only [Act.put,Q3,Q4,Q5])
           refine wpAnyK_ready (rs:=[10]) (by kernel_rfl) (by simp) ?_
           refine AllReadyK.cons rfl (fun K hK => ?_) AllReadyK.nil
           go_simp
           go_at_call 11
           refine (some_litN g _ _ #[.string ⟨x.run.toArray⟩,.string ⟨#[]⟩] [x.run,[]] _ hC.s (by omega) hL9 rfl gL9 (by simp) (by simp)).mono ?_
           rintro e w31 ⟨x10,rfl,hx10,hs,hg⟩
           replace hC:=hC.str hs hg
           replace hL16:=hL16.gr9 hg (by omega)
           replace hL23:=hL23.gr9 hg (by omega)
           clear hs hg hL9 gL9
           go_wp2_with fail
           refine hK.out _ _ (trivial) (hC.vc2 HUL.out hk0 hxk) (fun hT hS => ?_)
           clear hK K
           (try simp only [Act.put,Q3,Q4,Q5])
           refine wpAnyK_ready (rs:=[17]) (by kernel_rfl) (by simp) ?_
           refine AllReadyK.cons rfl (fun K hK => ?_) AllReadyK.nil
           go_simp
           go_at_call 11
           refine (some_litN g _ _ #[.string ⟨x.who.toArray⟩,.string ⟨#[65]⟩] [x.who,[65]] _ hC.s (by omega) hL16 rfl gL16 (by simp) (by simp)).mono ?_
           rintro e w32 ⟨x17,rfl,hx17,hs,hg⟩
           replace hC:=hC.str hs hg
           replace hL23:=hL23.gr9 hg (by omega)
           clear hs hg hL16 gL16
           go_wp2_with fail
           refine hK.out _ _ (trivial) (hC.vc2 HUL.out hk0 hxk) (fun hT hS => ?_)
           clear hK K
           (try simp only [Act.put,Q3,Q4,Q5])
           refine wpAnyK_ready (rs:=[24]) (by kernel_rfl) (by simp) ?_
           refine AllReadyK.cons rfl (fun K hK => ?_) AllReadyK.nil
           go_simp
           go_at_call 12
           refine (pick_any g _ _ _ _ [x.at_,-1,0] _ hC.s (by omega) (Row.lit hL23 (Nat.le_refl _) rfl) gL23 (by simp) (by simp)).mono ?_
           rintro e w33 ⟨x24,rfl,-,hs,hg⟩
           replace hC:=hC.str hs hg
           clear hs hg hL23 gL23
           go_wp2_with fail
           refine hK.out _ _ (trivial) (hC.vc2 HUL.out hk0 hxk) (fun hT hS => ?_)
           clear hK K
           (try simp only [Act.put,Q3,Q4,Q5])
           refine wpAnyK_ready (rs:=[26]) (by kernel_rfl) (by simp) ?_
           refine AllReadyK.cons rfl (fun K hK => ?_) AllReadyK.nil
           go_simp
           go_at_call 38
           refine (odd_any g _ 1 3 _ hC.s (by omega) (by omega) (by omega) (by omega)).mono ?_
           rintro e w34 ⟨x26,rfl,-,-,hs,hg⟩
           replace hC:=hC.str hs hg
           clear hs hg
           go_wp2_with fail
           refine hK.out _ _ (trivial) (hC.vc2 HUL.out hk0 hxk) (fun hT hS => ?_)
           clear hK K
           (try simp only [Act.put,Q3,Q4,Q5])
           (refine wpAnyK_take2 (i:=27) (v:=?_) (by (simp only [Q0,Q1,Q2]; rfl)) (by kernel_rfl) (by kernel_rfl) (by kernel_rfl) (by decide) (by exact fun _ _ _ h => h) (Or.inl ⟨by rfl,?_⟩) (by assumption) (by assumption) ?_; (rotate_left 1; (intro w hSw; (try dsimp only at hSw); go_simp); (try with_reducible rfl)); (try simp only [Act.put,Q3,Q4,Q5]))
           (refine wpAnyK_take2 (i:=28) (v:=?_) (by (simp only [Q0,Q1,Q2]; rfl)) (by kernel_rfl) (by kernel_rfl) (by kernel_rfl) (by decide) (by exact fun _ _ _ h => h) (Or.inl ⟨by rfl,?_⟩) (by assumption) (by assumption) ?_; (rotate_left 1; (intro w hSw; (try dsimp only at hSw); go_simp); (try with_reducible rfl)); (try simp only [Act.put,Q3,Q4,Q5]))
           refine wpAnyK_ready (rs:=[29]) (by kernel_rfl) (by simp) ?_
           refine AllReadyK.consT (by kernel_rfl) rfl (fun K hK => ?_) AllReadyK.nil
           obtain ⟨zb3,zb4⟩:=hC.freeB hpos
           have fz0:=zb4 (k * 4)
           have fz1:=zb4 (k * 4 + 1)
           have fz2:=zb4 (k * 4 + 2)
           have fz3:=zb4 (k * 4 + 3)
           have cz0:=zb3 (k * 4) _ (flat_getV hk0 hxk 0 (by decide) rfl)
           have cz1:=zb3 (k * 4 + 1) _ (flat_getV hk0 hxk 1 (by decide) rfl)
           have cz2:=zb3 (k * 4 + 2) _ (flat_getV hk0 hxk 2 (by decide) rfl)
           have cz3:=zb3 (k * 4 + 3) _ (flat_getV hk0 hxk 3 (by decide) rfl)
           clear zb3 zb4
           have hC0:=hC.setV hbb hk0 (i:=0) (by decide) (.string ⟨x10.toArray⟩) (x':={ x with run:=x10 }) hxk rfl
           have hk1 : k < ((us.set k { x with run:=x10 })).length:=by simpa using hk0
           have hx1:=set_atV hk0 { x with run:=x10 }
           replace hC:=hC0
           clear hC0
           go_simp
           refine hK.out _ _ (trivial) (fun hT => ?_)
           clear hK K
           (try simp only [Act.put,Q3,Q4,Q5])
           (refine wpAnyK_take3 (i:=30) (v:=?_) (by (simp only [Q0,Q1,Q2]; rfl)) (by kernel_rfl) (by kernel_rfl) (by kernel_rfl) (by decide) (by kernel_rfl) (by exact fun _ _ _ h => h) (Or.inl ⟨by rfl,?_⟩) (by assumption) ?_; (rotate_left 1; (intro w hSw; (try dsimp only at hSw); go_simp); (try with_reducible rfl)); (try simp only [Act.put,Q3,Q4,Q5]))
           (refine wpAnyK_take3 (i:=31) (v:=?_) (by (simp only [Q0,Q1,Q2]; rfl)) (by kernel_rfl) (by kernel_rfl) (by kernel_rfl) (by decide) (by kernel_rfl) (by exact fun _ _ _ h => h) (Or.inl ⟨by rfl,?_⟩) (by assumption) ?_; (rotate_left 1; (intro w hSw; (try dsimp only at hSw); go_simp); (try with_reducible rfl)); (try simp only [Act.put,Q3,Q4,Q5]))
           refine wpAnyK_ready (rs:=[32]) (by kernel_rfl) (by simp) ?_
           refine AllReadyK.consT (by kernel_rfl) rfl (fun K hK => ?_) AllReadyK.nil
           have hC1:=hC.setV hbb hk1 (i:=1) (by decide) (.string ⟨x17.toArray⟩) (x':={ x with run:=x10,who:=x17 }) hx1 rfl
           have hk2 : k < (((us.set k { x with run:=x10 }).set k { x with run:=x10,who:=x17 })).length:=by simpa using hk1
           have hx2:=set_atV hk1 { x with run:=x10,who:=x17 }
           replace hC:=hC1
           clear hC1
           go_simp
           refine hK.out _ _ (trivial) (fun hT => ?_)
           clear hK K
           (try simp only [Act.put,Q3,Q4,Q5])
           (refine wpAnyK_take3 (i:=33) (v:=?_) (by (simp only [Q0,Q1,Q2]; rfl)) (by kernel_rfl) (by kernel_rfl) (by kernel_rfl) (by decide) (by kernel_rfl) (by exact fun _ _ _ h => h) (Or.inl ⟨by rfl,?_⟩) (by assumption) ?_; (rotate_left 1; (intro w hSw; (try dsimp only at hSw); go_simp); (try with_reducible rfl)); (try simp only [Act.put,Q3,Q4,Q5]))
           (refine wpAnyK_take3 (i:=34) (v:=?_) (by (simp only [Q0,Q1,Q2]; rfl)) (by kernel_rfl) (by kernel_rfl) (by kernel_rfl) (by decide) (by kernel_rfl) (by exact fun _ _ _ h => h) (Or.inl ⟨by rfl,?_⟩) (by assumption) ?_; (rotate_left 1; (intro w hSw; (try dsimp only at hSw); go_simp); (try with_reducible rfl)); (try simp only [Act.put,Q3,Q4,Q5]))
           refine wpAnyK_ready (rs:=[35]) (by kernel_rfl) (by simp) ?_
           refine AllReadyK.consT (by kernel_rfl) rfl (fun K hK => ?_) AllReadyK.nil
           have hC2:=hC.setV hbb hk2 (i:=2) (by decide) (.int .i64 x24) (x':={ x with run:=x10,who:=x17,at_:=x24 }) hx2 rfl
           have hk3 : k < ((((us.set k { x with run:=x10 }).set k { x with run:=x10,who:=x17 }).set k { x with run:=x10,who:=x17,at_:=x24 })).length:=by simpa using hk2
           have hx3:=set_atV hk2 { x with run:=x10,who:=x17,at_:=x24 }
           replace hC:=hC2
           clear hC2
           go_simp
           refine hK.out _ _ (trivial) (fun hT => ?_)
           clear hK K
           (try simp only [Act.put,Q3,Q4,Q5])
           (refine wpAnyK_take3 (i:=36) (v:=?_) (by (simp only [Q0,Q1,Q2]; rfl)) (by kernel_rfl) (by kernel_rfl) (by kernel_rfl) (by decide) (by kernel_rfl) (by exact fun _ _ _ h => h) (Or.inl ⟨by rfl,?_⟩) (by assumption) ?_; (rotate_left 1; (intro w hSw; (try dsimp only at hSw); go_simp); (try with_reducible rfl)); (try simp only [Act.put,Q3,Q4,Q5]))
           (refine wpAnyK_take3 (i:=37) (v:=?_) (by (simp only [Q0,Q1,Q2]; rfl)) (by kernel_rfl) (by kernel_rfl) (by kernel_rfl) (by decide) (by kernel_rfl) (by exact fun _ _ _ h => h) (Or.inl ⟨by rfl,?_⟩) (by assumption) ?_; (rotate_left 1; (intro w hSw; (try dsimp only at hSw); go_simp); (try with_reducible rfl)); (try simp only [Act.put,Q3,Q4,Q5]))
           refine wpAnyK_ready (rs:=[38]) (by kernel_rfl) (by simp) ?_
           refine AllReadyK.consT (by kernel_rfl) rfl (fun K hK => ?_) AllReadyK.nil
           have hC3:=hC.setV hbb hk3 (i:=3) (by decide) (.int .i64 x26) (x':=(⟨x10,x17,x24,x26⟩ : VoteE)) hx3 rfl
           have hk4 : k < (((((us.set k { x with run:=x10 }).set k { x with run:=x10,who:=x17 }).set k { x with run:=x10,who:=x17,at_:=x24 }).set k (⟨x10,x17,x24,x26⟩ : VoteE))).length:=by simpa using hk3
           have hx4:=set_atV hk3 (⟨x10,x17,x24,x26⟩ : VoteE)
           replace hC:=hC3
           clear hC3
           go_simp
           refine hK.out _ _ (trivial) (fun hT => ?_)
           clear hK K
           (try simp only [Act.put,Q3,Q4,Q5])
           refine wpAnyK_done (by kernel_rfl) ?_ _
           have HF:=Lib.hid (own_weak hC.own (show w.heap.size ≤ w.heap.size + 1 by omega))
           have hul:=HUL.out
           have HVF : Hid (∀ v ∈ ((((us.set k { x with run:=x10 }).set k { x with run:=x10,who:=x17 }).set k { x with run:=x10,who:=x17,at_:=x24 }).set k (⟨x10,x17,x24,x26⟩ : VoteE)),VB v):=Lib.hid (vb_set (vb_set (vb_set (vb_set HVU.out ⟨(by show x10.length ≤ 2; simp only [List.mem_cons,List.not_mem_nil,or_false] at hx10; rcases hx10 with h | h <;> rw [h] <;> first | exact hVx.out.run | simp),hVx.out.who⟩) ⟨(by show x10.length ≤ 2; simp only [List.mem_cons,List.not_mem_nil,or_false] at hx10; rcases hx10 with h | h <;> rw [h] <;> first | exact hVx.out.run | simp),(by show x17 ∈ whoL; simp only [List.mem_cons,List.not_mem_nil,or_false] at hx17; rcases hx17 with h | h <;> rw [h] <;> first | exact hVx.out.who | decide)⟩) ⟨(by show x10.length ≤ 2; simp only [List.mem_cons,List.not_mem_nil,or_false] at hx10; rcases hx10 with h | h <;> rw [h] <;> first | exact hVx.out.run | simp),(by show x17 ∈ whoL; simp only [List.mem_cons,List.not_mem_nil,or_false] at hx17; rcases hx17 with h | h <;> rw [h] <;> first | exact hVx.out.who | decide)⟩) ⟨(by show x10.length ≤ 2; simp only [List.mem_cons,List.not_mem_nil,or_false] at hx10; rcases hx10 with h | h <;> rw [h] <;> first | exact hVx.out.run | simp),(by show x17 ∈ whoL; simp only [List.mem_cons,List.not_mem_nil,or_false] at hx17; rcases hx17 with h | h <;> rw [h] <;> first | exact hVx.out.who | decide)⟩)
           have HLL : Hid ((((((us.set k { x with run:=x10 }).set k { x with run:=x10,who:=x17 }).set k { x with run:=x10,who:=x17,at_:=x24 }).set k (⟨x10,x17,x24,x26⟩ : VoteE))).length = vs.length):=Lib.hid (by simpa using hul)
           clear hxk hx1 hx2 hx3 hx4 hk0 hk1 hk2 hk3 hk4
           go_wp2_with fail
           go_ret
           exact ⟨some ⟨b,0,none⟩,c,((((us.set k { x with run:=x10 }).set k { x with run:=x10,who:=x17 }).set k { x with run:=x10,who:=x17,at_:=x24 }).set k (⟨x10,x17,x24,x26⟩ : VoteE)),by rw [HLL.out] <;> rfl,by rw [HLL.out]; exact HF.out,by rw [HLL.out]; exact hvl,HVF.out,hC.s.more (by omega),hC.gr⟩
     case refine_2 =>
      as_aux_lemma =>
       go_simp
       have hL16 : Blk (w30.drew.alloc (.cells #[.string ⟨x.who.toArray⟩,.string ⟨#[65]⟩] 9)) (w30.heap.size) 9 #[.string ⟨x.who.toArray⟩,.string ⟨#[65]⟩]:=Blk.at1 _ (by simp)
       have gL16 : g < w30.heap.size:=by have:=hC.s.lt; simp at this ⊢; omega
       replace hC:=hC.alloc (.cells #[.string ⟨x.who.toArray⟩,.string ⟨#[65]⟩] 9)
       refine hK.out _ _ (trivial) (hC.vc2 HUL.out hk0 hxk) (fun hT hS => ?_)
       clear hK K
       (try simp only [Act.put,Q3,Q4,Q5])
       refine wpAnyK_ready (rs:=[9,23]) (by kernel_rfl) (by simp) ?_
       refine AllReadyK.cons rfl (fun K hK => ?_) (AllReadyK.cons rfl (fun K hK => ?_) AllReadyK.nil)
       case refine_1 =>
        as_aux_lemma =>
         go_simp
         have hL9 : Blk ((w30.drew.alloc (.cells #[.string ⟨x.who.toArray⟩,.string ⟨#[65]⟩] 9)).alloc (.cells #[.string ⟨x.run.toArray⟩,.string ⟨#[]⟩] 9)) (w30.heap.size + 1) 9 #[.string ⟨x.run.toArray⟩,.string ⟨#[]⟩]:=Blk.at1 _ (by simp)
         have gL9 : g < w30.heap.size + 1:=by have:=hC.s.lt; simp at this ⊢; omega
         replace hC:=hC.alloc (.cells #[.string ⟨x.run.toArray⟩,.string ⟨#[]⟩] 9)
         replace hL16:=hL16.alloc (.cells #[.string ⟨x.run.toArray⟩,.string ⟨#[]⟩] 9)
         refine hK.out _ _ (trivial) (hC.vc2 HUL.out hk0 hxk) (fun hT hS => ?_)
         clear hK K
         (try simp only [Act.put,Q3,Q4,Q5])
         refine wpAnyK_ready (rs:=[10,23]) (by kernel_rfl) (by simp) ?_
         refine AllReadyK.cons rfl (fun K hK => ?_) (AllReadyK.cons rfl (fun K hK => ?_) AllReadyK.nil)
         case refine_1 =>
          as_aux_lemma =>
           go_simp
           go_at_call 11
           refine (some_litN g _ _ #[.string ⟨x.run.toArray⟩,.string ⟨#[]⟩] [x.run,[]] _ hC.s (by omega) hL9 rfl gL9 (by simp) (by simp)).mono ?_
           rintro e w31 ⟨x10,rfl,hx10,hs,hg⟩
           replace hC:=hC.str hs hg
           replace hL16:=hL16.gr9 hg (by omega)
           clear hs hg hL9 gL9
           go_wp2_with fail
           refine hK.out _ _ (trivial) (hC.vc2 HUL.out hk0 hxk) (fun hT hS => ?_)
           clear hK K
           (try simp only [Act.put,Q3,Q4,Q5])
           refine wpAnyK_ready (rs:=[17,23]) (by kernel_rfl) (by simp) ?_
           refine AllReadyK.cons rfl (fun K hK => ?_) (AllReadyK.cons rfl (fun K hK => ?_) AllReadyK.nil)
           case refine_1 =>
            as_aux_lemma =>
             go_simp
             go_at_call 11
             refine (some_litN g _ _ #[.string ⟨x.who.toArray⟩,.string ⟨#[65]⟩] [x.who,[65]] _ hC.s (by omega) hL16 rfl gL16 (by simp) (by simp)).mono ?_
             rintro e w32 ⟨x17,rfl,hx17,hs,hg⟩
             replace hC:=hC.str hs hg
             clear hs hg hL16 gL16
             go_wp2_with fail
             refine hK.out _ _ (trivial) (hC.vc2 HUL.out hk0 hxk) (fun hT hS => ?_)
             clear hK K
             (try simp only [Act.put,Q3,Q4,Q5])
             refine wpAnyK_ready (rs:=[23]) (by kernel_rfl) (by simp) ?_
             refine AllReadyK.cons rfl (fun K hK => ?_) AllReadyK.nil
             go_simp
             have hL23 : Blk (w32.alloc (.cells #[.int .i64 x.at_,.int .i64 (-1),.int .i64 0] 3)) (w32.heap.size) 3 #[.int .i64 x.at_,.int .i64 (-1),.int .i64 0]:=Blk.at1 _ (by simp)
             have gL23 : g < w32.heap.size:=by have:=hC.s.lt; simp at this ⊢; omega
             replace hC:=hC.alloc (.cells #[.int .i64 x.at_,.int .i64 (-1),.int .i64 0] 3)
             refine hK.out _ _ (trivial) (hC.vc2 HUL.out hk0 hxk) (fun hT hS => ?_)
             clear hK K
             (try simp only [Act.put,Q3,Q4,Q5])
             refine wpAnyK_ready (rs:=[24]) (by kernel_rfl) (by simp) ?_
             refine AllReadyK.cons rfl (fun K hK => ?_) AllReadyK.nil
             go_simp
             go_at_call 12
             refine (pick_any g _ _ _ _ [x.at_,-1,0] _ hC.s (by omega) (Row.lit hL23 (Nat.le_refl _) rfl) gL23 (by simp) (by simp)).mono ?_
             rintro e w33 ⟨x24,rfl,-,hs,hg⟩
             replace hC:=hC.str hs hg
             clear hs hg hL23 gL23
             go_wp2_with fail
             refine hK.out _ _ (trivial) (hC.vc2 HUL.out hk0 hxk) (fun hT hS => ?_)
             clear hK K
             (try simp only [Act.put,Q3,Q4,Q5])
             refine wpAnyK_ready (rs:=[26]) (by kernel_rfl) (by simp) ?_
             refine AllReadyK.cons rfl (fun K hK => ?_) AllReadyK.nil
             go_simp
             go_at_call 38
             refine (odd_any g _ 1 3 _ hC.s (by omega) (by omega) (by omega) (by omega)).mono ?_
             rintro e w34 ⟨x26,rfl,-,-,hs,hg⟩
             replace hC:=hC.str hs hg
             clear hs hg
             go_wp2_with fail
             refine hK.out _ _ (trivial) (hC.vc2 HUL.out hk0 hxk) (fun hT hS => ?_)
             clear hK K
             (try simp only [Act.put,Q3,Q4,Q5])
             (refine wpAnyK_take2 (i:=27) (v:=?_) (by (simp only [Q0,Q1,Q2]; rfl)) (by kernel_rfl) (by kernel_rfl) (by kernel_rfl) (by decide) (by exact fun _ _ _ h => h) (Or.inl ⟨by rfl,?_⟩) (by assumption) (by assumption) ?_; (rotate_left 1; (intro w hSw; (try dsimp only at hSw); go_simp); (try with_reducible rfl)); (try simp only [Act.put,Q3,Q4,Q5]))
             (refine wpAnyK_take2 (i:=28) (v:=?_) (by (simp only [Q0,Q1,Q2]; rfl)) (by kernel_rfl) (by kernel_rfl) (by kernel_rfl) (by decide) (by exact fun _ _ _ h => h) (Or.inl ⟨by rfl,?_⟩) (by assumption) (by assumption) ?_; (rotate_left 1; (intro w hSw; (try dsimp only at hSw); go_simp); (try with_reducible rfl)); (try simp only [Act.put,Q3,Q4,Q5]))
             refine wpAnyK_ready (rs:=[29]) (by kernel_rfl) (by simp) ?_
             refine AllReadyK.consT (by kernel_rfl) rfl (fun K hK => ?_) AllReadyK.nil
             obtain ⟨zb3,zb4⟩:=hC.freeB hpos
             have fz0:=zb4 (k * 4)
             have fz1:=zb4 (k * 4 + 1)
             have fz2:=zb4 (k * 4 + 2)
             have fz3:=zb4 (k * 4 + 3)
             have cz0:=zb3 (k * 4) _ (flat_getV hk0 hxk 0 (by decide) rfl)
             have cz1:=zb3 (k * 4 + 1) _ (flat_getV hk0 hxk 1 (by decide) rfl)
             have cz2:=zb3 (k * 4 + 2) _ (flat_getV hk0 hxk 2 (by decide) rfl)
             have cz3:=zb3 (k * 4 + 3) _ (flat_getV hk0 hxk 3 (by decide) rfl)
             clear zb3 zb4
             have hC0:=hC.setV hbb hk0 (i:=0) (by decide) (.string ⟨x10.toArray⟩) (x':={ x with run:=x10 }) hxk rfl
             have hk1 : k < ((us.set k { x with run:=x10 })).length:=by simpa using hk0
             have hx1:=set_atV hk0 { x with run:=x10 }
             replace hC:=hC0
             clear hC0
             go_simp
             refine hK.out _ _ (trivial) (fun hT => ?_)
             clear hK K
             (try simp only [Act.put,Q3,Q4,Q5])
             (refine wpAnyK_take3 (i:=30) (v:=?_) (by (simp only [Q0,Q1,Q2]; rfl)) (by kernel_rfl) (by kernel_rfl) (by kernel_rfl) (by decide) (by kernel_rfl) (by exact fun _ _ _ h => h) (Or.inl ⟨by rfl,?_⟩) (by assumption) ?_; (rotate_left 1; (intro w hSw; (try dsimp only at hSw); go_simp); (try with_reducible rfl)); (try simp only [Act.put,Q3,Q4,Q5]))
             (refine wpAnyK_take3 (i:=31) (v:=?_) (by (simp only [Q0,Q1,Q2]; rfl)) (by kernel_rfl) (by kernel_rfl) (by kernel_rfl) (by decide) (by kernel_rfl) (by exact fun _ _ _ h => h) (Or.inl ⟨by rfl,?_⟩) (by assumption) ?_; (rotate_left 1; (intro w hSw; (try dsimp only at hSw); go_simp); (try with_reducible rfl)); (try simp only [Act.put,Q3,Q4,Q5]))
             refine wpAnyK_ready (rs:=[32]) (by kernel_rfl) (by simp) ?_
             refine AllReadyK.consT (by kernel_rfl) rfl (fun K hK => ?_) AllReadyK.nil
             have hC1:=hC.setV hbb hk1 (i:=1) (by decide) (.string ⟨x17.toArray⟩) (x':={ x with run:=x10,who:=x17 }) hx1 rfl
             have hk2 : k < (((us.set k { x with run:=x10 }).set k { x with run:=x10,who:=x17 })).length:=by simpa using hk1
             have hx2:=set_atV hk1 { x with run:=x10,who:=x17 }
             replace hC:=hC1
             clear hC1
             go_simp
             refine hK.out _ _ (trivial) (fun hT => ?_)
             clear hK K
             (try simp only [Act.put,Q3,Q4,Q5])
             (refine wpAnyK_take3 (i:=33) (v:=?_) (by (simp only [Q0,Q1,Q2]; rfl)) (by kernel_rfl) (by kernel_rfl) (by kernel_rfl) (by decide) (by kernel_rfl) (by exact fun _ _ _ h => h) (Or.inl ⟨by rfl,?_⟩) (by assumption) ?_; (rotate_left 1; (intro w hSw; (try dsimp only at hSw); go_simp); (try with_reducible rfl)); (try simp only [Act.put,Q3,Q4,Q5]))
             (refine wpAnyK_take3 (i:=34) (v:=?_) (by (simp only [Q0,Q1,Q2]; rfl)) (by kernel_rfl) (by kernel_rfl) (by kernel_rfl) (by decide) (by kernel_rfl) (by exact fun _ _ _ h => h) (Or.inl ⟨by rfl,?_⟩) (by assumption) ?_; (rotate_left 1; (intro w hSw; (try dsimp only at hSw); go_simp); (try with_reducible rfl)); (try simp only [Act.put,Q3,Q4,Q5]))
             refine wpAnyK_ready (rs:=[35]) (by kernel_rfl) (by simp) ?_
             refine AllReadyK.consT (by kernel_rfl) rfl (fun K hK => ?_) AllReadyK.nil
             have hC2:=hC.setV hbb hk2 (i:=2) (by decide) (.int .i64 x24) (x':={ x with run:=x10,who:=x17,at_:=x24 }) hx2 rfl
             have hk3 : k < ((((us.set k { x with run:=x10 }).set k { x with run:=x10,who:=x17 }).set k { x with run:=x10,who:=x17,at_:=x24 })).length:=by simpa using hk2
             have hx3:=set_atV hk2 { x with run:=x10,who:=x17,at_:=x24 }
             replace hC:=hC2
             clear hC2
             go_simp
             refine hK.out _ _ (trivial) (fun hT => ?_)
             clear hK K
             (try simp only [Act.put,Q3,Q4,Q5])
             (refine wpAnyK_take3 (i:=36) (v:=?_) (by (simp only [Q0,Q1,Q2]; rfl)) (by kernel_rfl) (by kernel_rfl) (by kernel_rfl) (by decide) (by kernel_rfl) (by exact fun _ _ _ h => h) (Or.inl ⟨by rfl,?_⟩) (by assumption) ?_; (rotate_left 1; (intro w hSw; (try dsimp only at hSw); go_simp); (try with_reducible rfl)); (try simp only [Act.put,Q3,Q4,Q5]))
             (refine wpAnyK_take3 (i:=37) (v:=?_) (by (simp only [Q0,Q1,Q2]; rfl)) (by kernel_rfl) (by kernel_rfl) (by kernel_rfl) (by decide) (by kernel_rfl) (by exact fun _ _ _ h => h) (Or.inl ⟨by rfl,?_⟩) (by assumption) ?_; (rotate_left 1; (intro w hSw; (try dsimp only at hSw); go_simp); (try with_reducible rfl)); (try simp only [Act.put,Q3,Q4,Q5]))
             refine wpAnyK_ready (rs:=[38]) (by kernel_rfl) (by simp) ?_
             refine AllReadyK.consT (by kernel_rfl) rfl (fun K hK => ?_) AllReadyK.nil
             have hC3:=hC.setV hbb hk3 (i:=3) (by decide) (.int .i64 x26) (x':=(⟨x10,x17,x24,x26⟩ : VoteE)) hx3 rfl
             have hk4 : k < (((((us.set k { x with run:=x10 }).set k { x with run:=x10,who:=x17 }).set k { x with run:=x10,who:=x17,at_:=x24 }).set k (⟨x10,x17,x24,x26⟩ : VoteE))).length:=by simpa using hk3
             have hx4:=set_atV hk3 (⟨x10,x17,x24,x26⟩ : VoteE)
             replace hC:=hC3
             clear hC3
             go_simp
             refine hK.out _ _ (trivial) (fun hT => ?_)
             clear hK K
             (try simp only [Act.put,Q3,Q4,Q5])
             refine wpAnyK_done (by kernel_rfl) ?_ _
             have HF:=Lib.hid (own_weak hC.own (show w.heap.size ≤ w.heap.size + 1 by omega))
             have hul:=HUL.out
             have HVF : Hid (∀ v ∈ ((((us.set k { x with run:=x10 }).set k { x with run:=x10,who:=x17 }).set k { x with run:=x10,who:=x17,at_:=x24 }).set k (⟨x10,x17,x24,x26⟩ : VoteE)),VB v):=Lib.hid (vb_set (vb_set (vb_set (vb_set HVU.out ⟨(by show x10.length ≤ 2; simp only [List.mem_cons,List.not_mem_nil,or_false] at hx10; rcases hx10 with h | h <;> rw [h] <;> first | exact hVx.out.run | simp),hVx.out.who⟩) ⟨(by show x10.length ≤ 2; simp only [List.mem_cons,List.not_mem_nil,or_false] at hx10; rcases hx10 with h | h <;> rw [h] <;> first | exact hVx.out.run | simp),(by show x17 ∈ whoL; simp only [List.mem_cons,List.not_mem_nil,or_false] at hx17; rcases hx17 with h | h <;> rw [h] <;> first | exact hVx.out.who | decide)⟩) ⟨(by show x10.length ≤ 2; simp only [List.mem_cons,List.not_mem_nil,or_false] at hx10; rcases hx10 with h | h <;> rw [h] <;> first | exact hVx.out.run | simp),(by show x17 ∈ whoL; simp only [List.mem_cons,List.not_mem_nil,or_false] at hx17; rcases hx17 with h | h <;> rw [h] <;> first | exact hVx.out.who | decide)⟩) ⟨(by show x10.length ≤ 2; simp only [List.mem_cons,List.not_mem_nil,or_false] at hx10; rcases hx10 with h | h <;> rw [h] <;> first | exact hVx.out.run | simp),(by show x17 ∈ whoL; simp only [List.mem_cons,List.not_mem_nil,or_false] at hx17; rcases hx17 with h | h <;> rw [h] <;> first | exact hVx.out.who | decide)⟩)
             have HLL : Hid ((((((us.set k { x with run:=x10 }).set k { x with run:=x10,who:=x17 }).set k { x with run:=x10,who:=x17,at_:=x24 }).set k (⟨x10,x17,x24,x26⟩ : VoteE))).length = vs.length):=Lib.hid (by simpa using hul)
             clear hxk hx1 hx2 hx3 hx4 hk0 hk1 hk2 hk3 hk4
             go_wp2_with fail
             go_ret
             exact ⟨some ⟨b,0,none⟩,c,((((us.set k { x with run:=x10 }).set k { x with run:=x10,who:=x17 }).set k { x with run:=x10,who:=x17,at_:=x24 }).set k (⟨x10,x17,x24,x26⟩ : VoteE)),by rw [HLL.out] <;> rfl,by rw [HLL.out]; exact HF.out,by rw [HLL.out]; exact hvl,HVF.out,hC.s.more (by omega),hC.gr⟩
           case refine_2 =>
            as_aux_lemma =>
             go_simp
             have hL23 : Blk (w31.alloc (.cells #[.int .i64 x.at_,.int .i64 (-1),.int .i64 0] 3)) (w31.heap.size) 3 #[.int .i64 x.at_,.int .i64 (-1),.int .i64 0]:=Blk.at1 _ (by simp)
             have gL23 : g < w31.heap.size:=by have:=hC.s.lt; simp at this ⊢; omega
             replace hC:=hC.alloc (.cells #[.int .i64 x.at_,.int .i64 (-1),.int .i64 0] 3)
             replace hL16:=hL16.alloc (.cells #[.int .i64 x.at_,.int .i64 (-1),.int .i64 0] 3)
             refine hK.out _ _ (trivial) (hC.vc2 HUL.out hk0 hxk) (fun hT hS => ?_)
             clear hK K
             (try simp only [Act.put,Q3,Q4,Q5])
             refine wpAnyK_ready (rs:=[17]) (by kernel_rfl) (by simp) ?_
             refine AllReadyK.cons rfl (fun K hK => ?_) AllReadyK.nil
             go_simp
             go_at_call 11
             refine (some_litN g _ _ #[.string ⟨x.who.toArray⟩,.string ⟨#[65]⟩] [x.who,[65]] _ hC.s (by omega) hL16 rfl gL16 (by simp) (by simp)).mono ?_
             rintro e w32 ⟨x17,rfl,hx17,hs,hg⟩
             replace hC:=hC.str hs hg
             replace hL23:=hL23.gr9 hg (by omega)
             clear hs hg hL16 gL16
             go_wp2_with fail
             refine hK.out _ _ (trivial) (hC.vc2 HUL.out hk0 hxk) (fun hT hS => ?_)
             clear hK K
             (try simp only [Act.put,Q3,Q4,Q5])
             refine wpAnyK_ready (rs:=[24]) (by kernel_rfl) (by simp) ?_
             refine AllReadyK.cons rfl (fun K hK => ?_) AllReadyK.nil
             go_simp
             go_at_call 12
             refine (pick_any g _ _ _ _ [x.at_,-1,0] _ hC.s (by omega) (Row.lit hL23 (Nat.le_refl _) rfl) gL23 (by simp) (by simp)).mono ?_
             rintro e w33 ⟨x24,rfl,-,hs,hg⟩
             replace hC:=hC.str hs hg
             clear hs hg hL23 gL23
             go_wp2_with fail
             refine hK.out _ _ (trivial) (hC.vc2 HUL.out hk0 hxk) (fun hT hS => ?_)
             clear hK K
             (try simp only [Act.put,Q3,Q4,Q5])
             refine wpAnyK_ready (rs:=[26]) (by kernel_rfl) (by simp) ?_
             refine AllReadyK.cons rfl (fun K hK => ?_) AllReadyK.nil
             go_simp
             go_at_call 38
             refine (odd_any g _ 1 3 _ hC.s (by omega) (by omega) (by omega) (by omega)).mono ?_
             rintro e w34 ⟨x26,rfl,-,-,hs,hg⟩
             replace hC:=hC.str hs hg
             clear hs hg
             go_wp2_with fail
             refine hK.out _ _ (trivial) (hC.vc2 HUL.out hk0 hxk) (fun hT hS => ?_)
             clear hK K
             (try simp only [Act.put,Q3,Q4,Q5])
             (refine wpAnyK_take2 (i:=27) (v:=?_) (by (simp only [Q0,Q1,Q2]; rfl)) (by kernel_rfl) (by kernel_rfl) (by kernel_rfl) (by decide) (by exact fun _ _ _ h => h) (Or.inl ⟨by rfl,?_⟩) (by assumption) (by assumption) ?_; (rotate_left 1; (intro w hSw; (try dsimp only at hSw); go_simp); (try with_reducible rfl)); (try simp only [Act.put,Q3,Q4,Q5]))
             (refine wpAnyK_take2 (i:=28) (v:=?_) (by (simp only [Q0,Q1,Q2]; rfl)) (by kernel_rfl) (by kernel_rfl) (by kernel_rfl) (by decide) (by exact fun _ _ _ h => h) (Or.inl ⟨by rfl,?_⟩) (by assumption) (by assumption) ?_; (rotate_left 1; (intro w hSw; (try dsimp only at hSw); go_simp); (try with_reducible rfl)); (try simp only [Act.put,Q3,Q4,Q5]))
             refine wpAnyK_ready (rs:=[29]) (by kernel_rfl) (by simp) ?_
             refine AllReadyK.consT (by kernel_rfl) rfl (fun K hK => ?_) AllReadyK.nil
             obtain ⟨zb3,zb4⟩:=hC.freeB hpos
             have fz0:=zb4 (k * 4)
             have fz1:=zb4 (k * 4 + 1)
             have fz2:=zb4 (k * 4 + 2)
             have fz3:=zb4 (k * 4 + 3)
             have cz0:=zb3 (k * 4) _ (flat_getV hk0 hxk 0 (by decide) rfl)
             have cz1:=zb3 (k * 4 + 1) _ (flat_getV hk0 hxk 1 (by decide) rfl)
             have cz2:=zb3 (k * 4 + 2) _ (flat_getV hk0 hxk 2 (by decide) rfl)
             have cz3:=zb3 (k * 4 + 3) _ (flat_getV hk0 hxk 3 (by decide) rfl)
             clear zb3 zb4
             have hC0:=hC.setV hbb hk0 (i:=0) (by decide) (.string ⟨x10.toArray⟩) (x':={ x with run:=x10 }) hxk rfl
             have hk1 : k < ((us.set k { x with run:=x10 })).length:=by simpa using hk0
             have hx1:=set_atV hk0 { x with run:=x10 }
             replace hC:=hC0
             clear hC0
             go_simp
             refine hK.out _ _ (trivial) (fun hT => ?_)
             clear hK K
             (try simp only [Act.put,Q3,Q4,Q5])
             (refine wpAnyK_take3 (i:=30) (v:=?_) (by (simp only [Q0,Q1,Q2]; rfl)) (by kernel_rfl) (by kernel_rfl) (by kernel_rfl) (by decide) (by kernel_rfl) (by exact fun _ _ _ h => h) (Or.inl ⟨by rfl,?_⟩) (by assumption) ?_; (rotate_left 1; (intro w hSw; (try dsimp only at hSw); go_simp); (try with_reducible rfl)); (try simp only [Act.put,Q3,Q4,Q5]))
             (refine wpAnyK_take3 (i:=31) (v:=?_) (by (simp only [Q0,Q1,Q2]; rfl)) (by kernel_rfl) (by kernel_rfl) (by kernel_rfl) (by decide) (by kernel_rfl) (by exact fun _ _ _ h => h) (Or.inl ⟨by rfl,?_⟩) (by assumption) ?_; (rotate_left 1; (intro w hSw; (try dsimp only at hSw); go_simp); (try with_reducible rfl)); (try simp only [Act.put,Q3,Q4,Q5]))
             refine wpAnyK_ready (rs:=[32]) (by kernel_rfl) (by simp) ?_
             refine AllReadyK.consT (by kernel_rfl) rfl (fun K hK => ?_) AllReadyK.nil
             have hC1:=hC.setV hbb hk1 (i:=1) (by decide) (.string ⟨x17.toArray⟩) (x':={ x with run:=x10,who:=x17 }) hx1 rfl
             have hk2 : k < (((us.set k { x with run:=x10 }).set k { x with run:=x10,who:=x17 })).length:=by simpa using hk1
             have hx2:=set_atV hk1 { x with run:=x10,who:=x17 }
             replace hC:=hC1
             clear hC1
             go_simp
             refine hK.out _ _ (trivial) (fun hT => ?_)
             clear hK K
             (try simp only [Act.put,Q3,Q4,Q5])
             (refine wpAnyK_take3 (i:=33) (v:=?_) (by (simp only [Q0,Q1,Q2]; rfl)) (by kernel_rfl) (by kernel_rfl) (by kernel_rfl) (by decide) (by kernel_rfl) (by exact fun _ _ _ h => h) (Or.inl ⟨by rfl,?_⟩) (by assumption) ?_; (rotate_left 1; (intro w hSw; (try dsimp only at hSw); go_simp); (try with_reducible rfl)); (try simp only [Act.put,Q3,Q4,Q5]))
             (refine wpAnyK_take3 (i:=34) (v:=?_) (by (simp only [Q0,Q1,Q2]; rfl)) (by kernel_rfl) (by kernel_rfl) (by kernel_rfl) (by decide) (by kernel_rfl) (by exact fun _ _ _ h => h) (Or.inl ⟨by rfl,?_⟩) (by assumption) ?_; (rotate_left 1; (intro w hSw; (try dsimp only at hSw); go_simp); (try with_reducible rfl)); (try simp only [Act.put,Q3,Q4,Q5]))
             refine wpAnyK_ready (rs:=[35]) (by kernel_rfl) (by simp) ?_
             refine AllReadyK.consT (by kernel_rfl) rfl (fun K hK => ?_) AllReadyK.nil
             have hC2:=hC.setV hbb hk2 (i:=2) (by decide) (.int .i64 x24) (x':={ x with run:=x10,who:=x17,at_:=x24 }) hx2 rfl
             have hk3 : k < ((((us.set k { x with run:=x10 }).set k { x with run:=x10,who:=x17 }).set k { x with run:=x10,who:=x17,at_:=x24 })).length:=by simpa using hk2
             have hx3:=set_atV hk2 { x with run:=x10,who:=x17,at_:=x24 }
             replace hC:=hC2
             clear hC2
             go_simp
             refine hK.out _ _ (trivial) (fun hT => ?_)
             clear hK K
             (try simp only [Act.put,Q3,Q4,Q5])
             (refine wpAnyK_take3 (i:=36) (v:=?_) (by (simp only [Q0,Q1,Q2]; rfl)) (by kernel_rfl) (by kernel_rfl) (by kernel_rfl) (by decide) (by kernel_rfl) (by exact fun _ _ _ h => h) (Or.inl ⟨by rfl,?_⟩) (by assumption) ?_; (rotate_left 1; (intro w hSw; (try dsimp only at hSw); go_simp); (try with_reducible rfl)); (try simp only [Act.put,Q3,Q4,Q5]))
             (refine wpAnyK_take3 (i:=37) (v:=?_) (by (simp only [Q0,Q1,Q2]; rfl)) (by kernel_rfl) (by kernel_rfl) (by kernel_rfl) (by decide) (by kernel_rfl) (by exact fun _ _ _ h => h) (Or.inl ⟨by rfl,?_⟩) (by assumption) ?_; (rotate_left 1; (intro w hSw; (try dsimp only at hSw); go_simp); (try with_reducible rfl)); (try simp only [Act.put,Q3,Q4,Q5]))
             refine wpAnyK_ready (rs:=[38]) (by kernel_rfl) (by simp) ?_
             refine AllReadyK.consT (by kernel_rfl) rfl (fun K hK => ?_) AllReadyK.nil
             have hC3:=hC.setV hbb hk3 (i:=3) (by decide) (.int .i64 x26) (x':=(⟨x10,x17,x24,x26⟩ : VoteE)) hx3 rfl
             have hk4 : k < (((((us.set k { x with run:=x10 }).set k { x with run:=x10,who:=x17 }).set k { x with run:=x10,who:=x17,at_:=x24 }).set k (⟨x10,x17,x24,x26⟩ : VoteE))).length:=by simpa using hk3
             have hx4:=set_atV hk3 (⟨x10,x17,x24,x26⟩ : VoteE)
             replace hC:=hC3
             clear hC3
             go_simp
             refine hK.out _ _ (trivial) (fun hT => ?_)
             clear hK K
             (try simp only [Act.put,Q3,Q4,Q5])
             refine wpAnyK_done (by kernel_rfl) ?_ _
             have HF:=Lib.hid (own_weak hC.own (show w.heap.size ≤ w.heap.size + 1 by omega))
             have hul:=HUL.out
             have HVF : Hid (∀ v ∈ ((((us.set k { x with run:=x10 }).set k { x with run:=x10,who:=x17 }).set k { x with run:=x10,who:=x17,at_:=x24 }).set k (⟨x10,x17,x24,x26⟩ : VoteE)),VB v):=Lib.hid (vb_set (vb_set (vb_set (vb_set HVU.out ⟨(by show x10.length ≤ 2; simp only [List.mem_cons,List.not_mem_nil,or_false] at hx10; rcases hx10 with h | h <;> rw [h] <;> first | exact hVx.out.run | simp),hVx.out.who⟩) ⟨(by show x10.length ≤ 2; simp only [List.mem_cons,List.not_mem_nil,or_false] at hx10; rcases hx10 with h | h <;> rw [h] <;> first | exact hVx.out.run | simp),(by show x17 ∈ whoL; simp only [List.mem_cons,List.not_mem_nil,or_false] at hx17; rcases hx17 with h | h <;> rw [h] <;> first | exact hVx.out.who | decide)⟩) ⟨(by show x10.length ≤ 2; simp only [List.mem_cons,List.not_mem_nil,or_false] at hx10; rcases hx10 with h | h <;> rw [h] <;> first | exact hVx.out.run | simp),(by show x17 ∈ whoL; simp only [List.mem_cons,List.not_mem_nil,or_false] at hx17; rcases hx17 with h | h <;> rw [h] <;> first | exact hVx.out.who | decide)⟩) ⟨(by show x10.length ≤ 2; simp only [List.mem_cons,List.not_mem_nil,or_false] at hx10; rcases hx10 with h | h <;> rw [h] <;> first | exact hVx.out.run | simp),(by show x17 ∈ whoL; simp only [List.mem_cons,List.not_mem_nil,or_false] at hx17; rcases hx17 with h | h <;> rw [h] <;> first | exact hVx.out.who | decide)⟩)
             have HLL : Hid ((((((us.set k { x with run:=x10 }).set k { x with run:=x10,who:=x17 }).set k { x with run:=x10,who:=x17,at_:=x24 }).set k (⟨x10,x17,x24,x26⟩ : VoteE))).length = vs.length):=Lib.hid (by simpa using hul)
             clear hxk hx1 hx2 hx3 hx4 hk0 hk1 hk2 hk3 hk4
             go_wp2_with fail
             go_ret
             exact ⟨some ⟨b,0,none⟩,c,((((us.set k { x with run:=x10 }).set k { x with run:=x10,who:=x17 }).set k { x with run:=x10,who:=x17,at_:=x24 }).set k (⟨x10,x17,x24,x26⟩ : VoteE)),by rw [HLL.out] <;> rfl,by rw [HLL.out]; exact HF.out,by rw [HLL.out]; exact hvl,HVF.out,hC.s.more (by omega),hC.gr⟩
         case refine_2 =>
          as_aux_lemma =>
           go_simp
           have hL23 : Blk (((w30.drew.alloc (.cells #[.string ⟨x.who.toArray⟩,.string ⟨#[65]⟩] 9)).alloc (.cells #[.string ⟨x.run.toArray⟩,.string ⟨#[]⟩] 9)).alloc (.cells #[.int .i64 x.at_,.int .i64 (-1),.int .i64 0] 3)) (w30.heap.size + 1 + 1) 3 #[.int .i64 x.at_,.int .i64 (-1),.int .i64 0]:=Blk.at1 _ (by simp)
           have gL23 : g < w30.heap.size + 1 + 1:=by have:=hC.s.lt; simp at this ⊢; omega
           replace hC:=hC.alloc (.cells #[.int .i64 x.at_,.int .i64 (-1),.int .i64 0] 3)
           replace hL9:=hL9.alloc (.cells #[.int .i64 x.at_,.int .i64 (-1),.int .i64 0] 3)
           replace hL16:=hL16.alloc (.cells #[.int .i64 x.at_,.int .i64 (-1),.int .i64 0] 3)
           refine hK.out _ _ (trivial) (hC.vc2 HUL.out hk0 hxk) (fun hT hS => ?_)
           clear hK K
           (try simp only [Act.put,Q3,Q4,Q5])
           refine wpAnyK_ready (rs:=[10]) (by kernel_rfl) (by simp) ?_
           refine AllReadyK.cons rfl (fun K hK => ?_) AllReadyK.nil
           go_simp
           go_at_call 11
           refine (some_litN g _ _ #[.string ⟨x.run.toArray⟩,.string ⟨#[]⟩] [x.run,[]] _ hC.s (by omega) hL9 rfl gL9 (by simp) (by simp)).mono ?_
           rintro e w31 ⟨x10,rfl,hx10,hs,hg⟩
           replace hC:=hC.str hs hg
           replace hL16:=hL16.gr9 hg (by omega)
           replace hL23:=hL23.gr9 hg (by omega)
           clear hs hg hL9 gL9
           go_wp2_with fail
           refine hK.out _ _ (trivial) (hC.vc2 HUL.out hk0 hxk) (fun hT hS => ?_)
           clear hK K
           (try simp only [Act.put,Q3,Q4,Q5])
           refine wpAnyK_ready (rs:=[17]) (by kernel_rfl) (by simp) ?_
           refine AllReadyK.cons rfl (fun K hK => ?_) AllReadyK.nil
           go_simp
           go_at_call 11
           refine (some_litN g _ _ #[.string ⟨x.who.toArray⟩,.string ⟨#[65]⟩] [x.who,[65]] _ hC.s (by omega) hL16 rfl gL16 (by simp) (by simp)).mono ?_
           rintro e w32 ⟨x17,rfl,hx17,hs,hg⟩
           replace hC:=hC.str hs hg
           replace hL23:=hL23.gr9 hg (by omega)
           clear hs hg hL16 gL16
           go_wp2_with fail
           refine hK.out _ _ (trivial) (hC.vc2 HUL.out hk0 hxk) (fun hT hS => ?_)
           clear hK K
           (try simp only [Act.put,Q3,Q4,Q5])
           refine wpAnyK_ready (rs:=[24]) (by kernel_rfl) (by simp) ?_
           refine AllReadyK.cons rfl (fun K hK => ?_) AllReadyK.nil
           go_simp
           go_at_call 12
           refine (pick_any g _ _ _ _ [x.at_,-1,0] _ hC.s (by omega) (Row.lit hL23 (Nat.le_refl _) rfl) gL23 (by simp) (by simp)).mono ?_
           rintro e w33 ⟨x24,rfl,-,hs,hg⟩
           replace hC:=hC.str hs hg
           clear hs hg hL23 gL23
           go_wp2_with fail
           refine hK.out _ _ (trivial) (hC.vc2 HUL.out hk0 hxk) (fun hT hS => ?_)
           clear hK K
           (try simp only [Act.put,Q3,Q4,Q5])
           refine wpAnyK_ready (rs:=[26]) (by kernel_rfl) (by simp) ?_
           refine AllReadyK.cons rfl (fun K hK => ?_) AllReadyK.nil
           go_simp
           go_at_call 38
           refine (odd_any g _ 1 3 _ hC.s (by omega) (by omega) (by omega) (by omega)).mono ?_
           rintro e w34 ⟨x26,rfl,-,-,hs,hg⟩
           replace hC:=hC.str hs hg
           clear hs hg
           go_wp2_with fail
           refine hK.out _ _ (trivial) (hC.vc2 HUL.out hk0 hxk) (fun hT hS => ?_)
           clear hK K
           (try simp only [Act.put,Q3,Q4,Q5])
           (refine wpAnyK_take2 (i:=27) (v:=?_) (by (simp only [Q0,Q1,Q2]; rfl)) (by kernel_rfl) (by kernel_rfl) (by kernel_rfl) (by decide) (by exact fun _ _ _ h => h) (Or.inl ⟨by rfl,?_⟩) (by assumption) (by assumption) ?_; (rotate_left 1; (intro w hSw; (try dsimp only at hSw); go_simp); (try with_reducible rfl)); (try simp only [Act.put,Q3,Q4,Q5]))
           (refine wpAnyK_take2 (i:=28) (v:=?_) (by (simp only [Q0,Q1,Q2]; rfl)) (by kernel_rfl) (by kernel_rfl) (by kernel_rfl) (by decide) (by exact fun _ _ _ h => h) (Or.inl ⟨by rfl,?_⟩) (by assumption) (by assumption) ?_; (rotate_left 1; (intro w hSw; (try dsimp only at hSw); go_simp); (try with_reducible rfl)); (try simp only [Act.put,Q3,Q4,Q5]))
           refine wpAnyK_ready (rs:=[29]) (by kernel_rfl) (by simp) ?_
           refine AllReadyK.consT (by kernel_rfl) rfl (fun K hK => ?_) AllReadyK.nil
           obtain ⟨zb3,zb4⟩:=hC.freeB hpos
           have fz0:=zb4 (k * 4)
           have fz1:=zb4 (k * 4 + 1)
           have fz2:=zb4 (k * 4 + 2)
           have fz3:=zb4 (k * 4 + 3)
           have cz0:=zb3 (k * 4) _ (flat_getV hk0 hxk 0 (by decide) rfl)
           have cz1:=zb3 (k * 4 + 1) _ (flat_getV hk0 hxk 1 (by decide) rfl)
           have cz2:=zb3 (k * 4 + 2) _ (flat_getV hk0 hxk 2 (by decide) rfl)
           have cz3:=zb3 (k * 4 + 3) _ (flat_getV hk0 hxk 3 (by decide) rfl)
           clear zb3 zb4
           have hC0:=hC.setV hbb hk0 (i:=0) (by decide) (.string ⟨x10.toArray⟩) (x':={ x with run:=x10 }) hxk rfl
           have hk1 : k < ((us.set k { x with run:=x10 })).length:=by simpa using hk0
           have hx1:=set_atV hk0 { x with run:=x10 }
           replace hC:=hC0
           clear hC0
           go_simp
           refine hK.out _ _ (trivial) (fun hT => ?_)
           clear hK K
           (try simp only [Act.put,Q3,Q4,Q5])
           (refine wpAnyK_take3 (i:=30) (v:=?_) (by (simp only [Q0,Q1,Q2]; rfl)) (by kernel_rfl) (by kernel_rfl) (by kernel_rfl) (by decide) (by kernel_rfl) (by exact fun _ _ _ h => h) (Or.inl ⟨by rfl,?_⟩) (by assumption) ?_; (rotate_left 1; (intro w hSw; (try dsimp only at hSw); go_simp); (try with_reducible rfl)); (try simp only [Act.put,Q3,Q4,Q5]))
           (refine wpAnyK_take3 (i:=31) (v:=?_) (by (simp only [Q0,Q1,Q2]; rfl)) (by kernel_rfl) (by kernel_rfl) (by kernel_rfl) (by decide) (by kernel_rfl) (by exact fun _ _ _ h => h) (Or.inl ⟨by rfl,?_⟩) (by assumption) ?_; (rotate_left 1; (intro w hSw; (try dsimp only at hSw); go_simp); (try with_reducible rfl)); (try simp only [Act.put,Q3,Q4,Q5]))
           refine wpAnyK_ready (rs:=[32]) (by kernel_rfl) (by simp) ?_
           refine AllReadyK.consT (by kernel_rfl) rfl (fun K hK => ?_) AllReadyK.nil
           have hC1:=hC.setV hbb hk1 (i:=1) (by decide) (.string ⟨x17.toArray⟩) (x':={ x with run:=x10,who:=x17 }) hx1 rfl
           have hk2 : k < (((us.set k { x with run:=x10 }).set k { x with run:=x10,who:=x17 })).length:=by simpa using hk1
           have hx2:=set_atV hk1 { x with run:=x10,who:=x17 }
           replace hC:=hC1
           clear hC1
           go_simp
           refine hK.out _ _ (trivial) (fun hT => ?_)
           clear hK K
           (try simp only [Act.put,Q3,Q4,Q5])
           (refine wpAnyK_take3 (i:=33) (v:=?_) (by (simp only [Q0,Q1,Q2]; rfl)) (by kernel_rfl) (by kernel_rfl) (by kernel_rfl) (by decide) (by kernel_rfl) (by exact fun _ _ _ h => h) (Or.inl ⟨by rfl,?_⟩) (by assumption) ?_; (rotate_left 1; (intro w hSw; (try dsimp only at hSw); go_simp); (try with_reducible rfl)); (try simp only [Act.put,Q3,Q4,Q5]))
           (refine wpAnyK_take3 (i:=34) (v:=?_) (by (simp only [Q0,Q1,Q2]; rfl)) (by kernel_rfl) (by kernel_rfl) (by kernel_rfl) (by decide) (by kernel_rfl) (by exact fun _ _ _ h => h) (Or.inl ⟨by rfl,?_⟩) (by assumption) ?_; (rotate_left 1; (intro w hSw; (try dsimp only at hSw); go_simp); (try with_reducible rfl)); (try simp only [Act.put,Q3,Q4,Q5]))
           refine wpAnyK_ready (rs:=[35]) (by kernel_rfl) (by simp) ?_
           refine AllReadyK.consT (by kernel_rfl) rfl (fun K hK => ?_) AllReadyK.nil
           have hC2:=hC.setV hbb hk2 (i:=2) (by decide) (.int .i64 x24) (x':={ x with run:=x10,who:=x17,at_:=x24 }) hx2 rfl
           have hk3 : k < ((((us.set k { x with run:=x10 }).set k { x with run:=x10,who:=x17 }).set k { x with run:=x10,who:=x17,at_:=x24 })).length:=by simpa using hk2
           have hx3:=set_atV hk2 { x with run:=x10,who:=x17,at_:=x24 }
           replace hC:=hC2
           clear hC2
           go_simp
           refine hK.out _ _ (trivial) (fun hT => ?_)
           clear hK K
           (try simp only [Act.put,Q3,Q4,Q5])
           (refine wpAnyK_take3 (i:=36) (v:=?_) (by (simp only [Q0,Q1,Q2]; rfl)) (by kernel_rfl) (by kernel_rfl) (by kernel_rfl) (by decide) (by kernel_rfl) (by exact fun _ _ _ h => h) (Or.inl ⟨by rfl,?_⟩) (by assumption) ?_; (rotate_left 1; (intro w hSw; (try dsimp only at hSw); go_simp); (try with_reducible rfl)); (try simp only [Act.put,Q3,Q4,Q5]))
           (refine wpAnyK_take3 (i:=37) (v:=?_) (by (simp only [Q0,Q1,Q2]; rfl)) (by kernel_rfl) (by kernel_rfl) (by kernel_rfl) (by decide) (by kernel_rfl) (by exact fun _ _ _ h => h) (Or.inl ⟨by rfl,?_⟩) (by assumption) ?_; (rotate_left 1; (intro w hSw; (try dsimp only at hSw); go_simp); (try with_reducible rfl)); (try simp only [Act.put,Q3,Q4,Q5]))
           refine wpAnyK_ready (rs:=[38]) (by kernel_rfl) (by simp) ?_
           refine AllReadyK.consT (by kernel_rfl) rfl (fun K hK => ?_) AllReadyK.nil
           have hC3:=hC.setV hbb hk3 (i:=3) (by decide) (.int .i64 x26) (x':=(⟨x10,x17,x24,x26⟩ : VoteE)) hx3 rfl
           have hk4 : k < (((((us.set k { x with run:=x10 }).set k { x with run:=x10,who:=x17 }).set k { x with run:=x10,who:=x17,at_:=x24 }).set k (⟨x10,x17,x24,x26⟩ : VoteE))).length:=by simpa using hk3
           have hx4:=set_atV hk3 (⟨x10,x17,x24,x26⟩ : VoteE)
           replace hC:=hC3
           clear hC3
           go_simp
           refine hK.out _ _ (trivial) (fun hT => ?_)
           clear hK K
           (try simp only [Act.put,Q3,Q4,Q5])
           refine wpAnyK_done (by kernel_rfl) ?_ _
           have HF:=Lib.hid (own_weak hC.own (show w.heap.size ≤ w.heap.size + 1 by omega))
           have hul:=HUL.out
           have HVF : Hid (∀ v ∈ ((((us.set k { x with run:=x10 }).set k { x with run:=x10,who:=x17 }).set k { x with run:=x10,who:=x17,at_:=x24 }).set k (⟨x10,x17,x24,x26⟩ : VoteE)),VB v):=Lib.hid (vb_set (vb_set (vb_set (vb_set HVU.out ⟨(by show x10.length ≤ 2; simp only [List.mem_cons,List.not_mem_nil,or_false] at hx10; rcases hx10 with h | h <;> rw [h] <;> first | exact hVx.out.run | simp),hVx.out.who⟩) ⟨(by show x10.length ≤ 2; simp only [List.mem_cons,List.not_mem_nil,or_false] at hx10; rcases hx10 with h | h <;> rw [h] <;> first | exact hVx.out.run | simp),(by show x17 ∈ whoL; simp only [List.mem_cons,List.not_mem_nil,or_false] at hx17; rcases hx17 with h | h <;> rw [h] <;> first | exact hVx.out.who | decide)⟩) ⟨(by show x10.length ≤ 2; simp only [List.mem_cons,List.not_mem_nil,or_false] at hx10; rcases hx10 with h | h <;> rw [h] <;> first | exact hVx.out.run | simp),(by show x17 ∈ whoL; simp only [List.mem_cons,List.not_mem_nil,or_false] at hx17; rcases hx17 with h | h <;> rw [h] <;> first | exact hVx.out.who | decide)⟩) ⟨(by show x10.length ≤ 2; simp only [List.mem_cons,List.not_mem_nil,or_false] at hx10; rcases hx10 with h | h <;> rw [h] <;> first | exact hVx.out.run | simp),(by show x17 ∈ whoL; simp only [List.mem_cons,List.not_mem_nil,or_false] at hx17; rcases hx17 with h | h <;> rw [h] <;> first | exact hVx.out.who | decide)⟩)
           have HLL : Hid ((((((us.set k { x with run:=x10 }).set k { x with run:=x10,who:=x17 }).set k { x with run:=x10,who:=x17,at_:=x24 }).set k (⟨x10,x17,x24,x26⟩ : VoteE))).length = vs.length):=Lib.hid (by simpa using hul)
           clear hxk hx1 hx2 hx3 hx4 hk0 hk1 hk2 hk3 hk4
           go_wp2_with fail
           go_ret
           exact ⟨some ⟨b,0,none⟩,c,((((us.set k { x with run:=x10 }).set k { x with run:=x10,who:=x17 }).set k { x with run:=x10,who:=x17,at_:=x24 }).set k (⟨x10,x17,x24,x26⟩ : VoteE)),by rw [HLL.out] <;> rfl,by rw [HLL.out]; exact HF.out,by rw [HLL.out]; exact hvl,HVF.out,hC.s.more (by omega),hC.gr⟩
       case refine_2 =>
        as_aux_lemma =>
         go_simp
         have hL23 : Blk ((w30.drew.alloc (.cells #[.string ⟨x.who.toArray⟩,.string ⟨#[65]⟩] 9)).alloc (.cells #[.int .i64 x.at_,.int .i64 (-1),.int .i64 0] 3)) (w30.heap.size + 1) 3 #[.int .i64 x.at_,.int .i64 (-1),.int .i64 0]:=Blk.at1 _ (by simp)
         have gL23 : g < w30.heap.size + 1:=by have:=hC.s.lt; simp at this ⊢; omega
         replace hC:=hC.alloc (.cells #[.int .i64 x.at_,.int .i64 (-1),.int .i64 0] 3)
         replace hL16:=hL16.alloc (.cells #[.int .i64 x.at_,.int .i64 (-1),.int .i64 0] 3)
         refine hK.out _ _ (trivial) (hC.vc2 HUL.out hk0 hxk) (fun hT hS => ?_)
         clear hK K
         (try simp only [Act.put,Q3,Q4,Q5])
         refine wpAnyK_ready (rs:=[9]) (by kernel_rfl) (by simp) ?_
         refine AllReadyK.cons rfl (fun K hK => ?_) AllReadyK.nil
         go_simp
         have hL9 : Blk (((w30.drew.alloc (.cells #[.string ⟨x.who.toArray⟩,.string ⟨#[65]⟩] 9)).alloc (.cells #[.int .i64 x.at_,.int .i64 (-1),.int .i64 0] 3)).alloc (.cells #[.string ⟨x.run.toArray⟩,.string ⟨#[]⟩] 9)) (w30.heap.size + 1 + 1) 9 #[.string ⟨x.run.toArray⟩,.string ⟨#[]⟩]:=Blk.at1 _ (by simp)
         have gL9 : g < w30.heap.size + 1 + 1:=by have:=hC.s.lt; simp at this ⊢; omega
         replace hC:=hC.alloc (.cells #[.string ⟨x.run.toArray⟩,.string ⟨#[]⟩] 9)
         replace hL16:=hL16.alloc (.cells #[.string ⟨x.run.toArray⟩,.string ⟨#[]⟩] 9)
         replace hL23:=hL23.alloc (.cells #[.string ⟨x.run.toArray⟩,.string ⟨#[]⟩] 9)
         refine hK.out _ _ (trivial) (hC.vc2 HUL.out hk0 hxk) (fun hT hS => ?_)
         clear hK K
         (try simp only [Act.put,Q3,Q4,Q5])
         refine wpAnyK_ready (rs:=[10]) (by kernel_rfl) (by simp) ?_
         refine AllReadyK.cons rfl (fun K hK => ?_) AllReadyK.nil
         go_simp
         go_at_call 11
         refine (some_litN g _ _ #[.string ⟨x.run.toArray⟩,.string ⟨#[]⟩] [x.run,[]] _ hC.s (by omega) hL9 rfl gL9 (by simp) (by simp)).mono ?_
         rintro e w31 ⟨x10,rfl,hx10,hs,hg⟩
         replace hC:=hC.str hs hg
         replace hL16:=hL16.gr9 hg (by omega)
         replace hL23:=hL23.gr9 hg (by omega)
         clear hs hg hL9 gL9
         go_wp2_with fail
         refine hK.out _ _ (trivial) (hC.vc2 HUL.out hk0 hxk) (fun hT hS => ?_)
         clear hK K
         (try simp only [Act.put,Q3,Q4,Q5])
         refine wpAnyK_ready (rs:=[17]) (by kernel_rfl) (by simp) ?_
         refine AllReadyK.cons rfl (fun K hK => ?_) AllReadyK.nil
         go_simp
         go_at_call 11
         refine (some_litN g _ _ #[.string ⟨x.who.toArray⟩,.string ⟨#[65]⟩] [x.who,[65]] _ hC.s (by omega) hL16 rfl gL16 (by simp) (by simp)).mono ?_
         rintro e w32 ⟨x17,rfl,hx17,hs,hg⟩
         replace hC:=hC.str hs hg
         replace hL23:=hL23.gr9 hg (by omega)
         clear hs hg hL16 gL16
         go_wp2_with fail
         refine hK.out _ _ (trivial) (hC.vc2 HUL.out hk0 hxk) (fun hT hS => ?_)
         clear hK K
         (try simp only [Act.put,Q3,Q4,Q5])
         refine wpAnyK_ready (rs:=[24]) (by kernel_rfl) (by simp) ?_
         refine AllReadyK.cons rfl (fun K hK => ?_) AllReadyK.nil
         go_simp
         go_at_call 12
         refine (pick_any g _ _ _ _ [x.at_,-1,0] _ hC.s (by omega) (Row.lit hL23 (Nat.le_refl _) rfl) gL23 (by simp) (by simp)).mono ?_
         rintro e w33 ⟨x24,rfl,-,hs,hg⟩
         replace hC:=hC.str hs hg
         clear hs hg hL23 gL23
         go_wp2_with fail
         refine hK.out _ _ (trivial) (hC.vc2 HUL.out hk0 hxk) (fun hT hS => ?_)
         clear hK K
         (try simp only [Act.put,Q3,Q4,Q5])
         refine wpAnyK_ready (rs:=[26]) (by kernel_rfl) (by simp) ?_
         refine AllReadyK.cons rfl (fun K hK => ?_) AllReadyK.nil
         go_simp
         go_at_call 38
         refine (odd_any g _ 1 3 _ hC.s (by omega) (by omega) (by omega) (by omega)).mono ?_
         rintro e w34 ⟨x26,rfl,-,-,hs,hg⟩
         replace hC:=hC.str hs hg
         clear hs hg
         go_wp2_with fail
         refine hK.out _ _ (trivial) (hC.vc2 HUL.out hk0 hxk) (fun hT hS => ?_)
         clear hK K
         (try simp only [Act.put,Q3,Q4,Q5])
         (refine wpAnyK_take2 (i:=27) (v:=?_) (by (simp only [Q0,Q1,Q2]; rfl)) (by kernel_rfl) (by kernel_rfl) (by kernel_rfl) (by decide) (by exact fun _ _ _ h => h) (Or.inl ⟨by rfl,?_⟩) (by assumption) (by assumption) ?_; (rotate_left 1; (intro w hSw; (try dsimp only at hSw); go_simp); (try with_reducible rfl)); (try simp only [Act.put,Q3,Q4,Q5]))
         (refine wpAnyK_take2 (i:=28) (v:=?_) (by (simp only [Q0,Q1,Q2]; rfl)) (by kernel_rfl) (by kernel_rfl) (by kernel_rfl) (by decide) (by exact fun _ _ _ h => h) (Or.inl ⟨by rfl,?_⟩) (by assumption) (by assumption) ?_; (rotate_left 1; (intro w hSw; (try dsimp only at hSw); go_simp); (try with_reducible rfl)); (try simp only [Act.put,Q3,Q4,Q5]))
         refine wpAnyK_ready (rs:=[29]) (by kernel_rfl) (by simp) ?_
         refine AllReadyK.consT (by kernel_rfl) rfl (fun K hK => ?_) AllReadyK.nil
         obtain ⟨zb3,zb4⟩:=hC.freeB hpos
         have fz0:=zb4 (k * 4)
         have fz1:=zb4 (k * 4 + 1)
         have fz2:=zb4 (k * 4 + 2)
         have fz3:=zb4 (k * 4 + 3)
         have cz0:=zb3 (k * 4) _ (flat_getV hk0 hxk 0 (by decide) rfl)
         have cz1:=zb3 (k * 4 + 1) _ (flat_getV hk0 hxk 1 (by decide) rfl)
         have cz2:=zb3 (k * 4 + 2) _ (flat_getV hk0 hxk 2 (by decide) rfl)
         have cz3:=zb3 (k * 4 + 3) _ (flat_getV hk0 hxk 3 (by decide) rfl)
         clear zb3 zb4
         have hC0:=hC.setV hbb hk0 (i:=0) (by decide) (.string ⟨x10.toArray⟩) (x':={ x with run:=x10 }) hxk rfl
         have hk1 : k < ((us.set k { x with run:=x10 })).length:=by simpa using hk0
         have hx1:=set_atV hk0 { x with run:=x10 }
         replace hC:=hC0
         clear hC0
         go_simp
         refine hK.out _ _ (trivial) (fun hT => ?_)
         clear hK K
         (try simp only [Act.put,Q3,Q4,Q5])
         (refine wpAnyK_take3 (i:=30) (v:=?_) (by (simp only [Q0,Q1,Q2]; rfl)) (by kernel_rfl) (by kernel_rfl) (by kernel_rfl) (by decide) (by kernel_rfl) (by exact fun _ _ _ h => h) (Or.inl ⟨by rfl,?_⟩) (by assumption) ?_; (rotate_left 1; (intro w hSw; (try dsimp only at hSw); go_simp); (try with_reducible rfl)); (try simp only [Act.put,Q3,Q4,Q5]))
         (refine wpAnyK_take3 (i:=31) (v:=?_) (by (simp only [Q0,Q1,Q2]; rfl)) (by kernel_rfl) (by kernel_rfl) (by kernel_rfl) (by decide) (by kernel_rfl) (by exact fun _ _ _ h => h) (Or.inl ⟨by rfl,?_⟩) (by assumption) ?_; (rotate_left 1; (intro w hSw; (try dsimp only at hSw); go_simp); (try with_reducible rfl)); (try simp only [Act.put,Q3,Q4,Q5]))
         refine wpAnyK_ready (rs:=[32]) (by kernel_rfl) (by simp) ?_
         refine AllReadyK.consT (by kernel_rfl) rfl (fun K hK => ?_) AllReadyK.nil
         have hC1:=hC.setV hbb hk1 (i:=1) (by decide) (.string ⟨x17.toArray⟩) (x':={ x with run:=x10,who:=x17 }) hx1 rfl
         have hk2 : k < (((us.set k { x with run:=x10 }).set k { x with run:=x10,who:=x17 })).length:=by simpa using hk1
         have hx2:=set_atV hk1 { x with run:=x10,who:=x17 }
         replace hC:=hC1
         clear hC1
         go_simp
         refine hK.out _ _ (trivial) (fun hT => ?_)
         clear hK K
         (try simp only [Act.put,Q3,Q4,Q5])
         (refine wpAnyK_take3 (i:=33) (v:=?_) (by (simp only [Q0,Q1,Q2]; rfl)) (by kernel_rfl) (by kernel_rfl) (by kernel_rfl) (by decide) (by kernel_rfl) (by exact fun _ _ _ h => h) (Or.inl ⟨by rfl,?_⟩) (by assumption) ?_; (rotate_left 1; (intro w hSw; (try dsimp only at hSw); go_simp); (try with_reducible rfl)); (try simp only [Act.put,Q3,Q4,Q5]))
         (refine wpAnyK_take3 (i:=34) (v:=?_) (by (simp only [Q0,Q1,Q2]; rfl)) (by kernel_rfl) (by kernel_rfl) (by kernel_rfl) (by decide) (by kernel_rfl) (by exact fun _ _ _ h => h) (Or.inl ⟨by rfl,?_⟩) (by assumption) ?_; (rotate_left 1; (intro w hSw; (try dsimp only at hSw); go_simp); (try with_reducible rfl)); (try simp only [Act.put,Q3,Q4,Q5]))
         refine wpAnyK_ready (rs:=[35]) (by kernel_rfl) (by simp) ?_
         refine AllReadyK.consT (by kernel_rfl) rfl (fun K hK => ?_) AllReadyK.nil
         have hC2:=hC.setV hbb hk2 (i:=2) (by decide) (.int .i64 x24) (x':={ x with run:=x10,who:=x17,at_:=x24 }) hx2 rfl
         have hk3 : k < ((((us.set k { x with run:=x10 }).set k { x with run:=x10,who:=x17 }).set k { x with run:=x10,who:=x17,at_:=x24 })).length:=by simpa using hk2
         have hx3:=set_atV hk2 { x with run:=x10,who:=x17,at_:=x24 }
         replace hC:=hC2
         clear hC2
         go_simp
         refine hK.out _ _ (trivial) (fun hT => ?_)
         clear hK K
         (try simp only [Act.put,Q3,Q4,Q5])
         (refine wpAnyK_take3 (i:=36) (v:=?_) (by (simp only [Q0,Q1,Q2]; rfl)) (by kernel_rfl) (by kernel_rfl) (by kernel_rfl) (by decide) (by kernel_rfl) (by exact fun _ _ _ h => h) (Or.inl ⟨by rfl,?_⟩) (by assumption) ?_; (rotate_left 1; (intro w hSw; (try dsimp only at hSw); go_simp); (try with_reducible rfl)); (try simp only [Act.put,Q3,Q4,Q5]))
         (refine wpAnyK_take3 (i:=37) (v:=?_) (by (simp only [Q0,Q1,Q2]; rfl)) (by kernel_rfl) (by kernel_rfl) (by kernel_rfl) (by decide) (by kernel_rfl) (by exact fun _ _ _ h => h) (Or.inl ⟨by rfl,?_⟩) (by assumption) ?_; (rotate_left 1; (intro w hSw; (try dsimp only at hSw); go_simp); (try with_reducible rfl)); (try simp only [Act.put,Q3,Q4,Q5]))
         refine wpAnyK_ready (rs:=[38]) (by kernel_rfl) (by simp) ?_
         refine AllReadyK.consT (by kernel_rfl) rfl (fun K hK => ?_) AllReadyK.nil
         have hC3:=hC.setV hbb hk3 (i:=3) (by decide) (.int .i64 x26) (x':=(⟨x10,x17,x24,x26⟩ : VoteE)) hx3 rfl
         have hk4 : k < (((((us.set k { x with run:=x10 }).set k { x with run:=x10,who:=x17 }).set k { x with run:=x10,who:=x17,at_:=x24 }).set k (⟨x10,x17,x24,x26⟩ : VoteE))).length:=by simpa using hk3
         have hx4:=set_atV hk3 (⟨x10,x17,x24,x26⟩ : VoteE)
         replace hC:=hC3
         clear hC3
         go_simp
         refine hK.out _ _ (trivial) (fun hT => ?_)
         clear hK K
         (try simp only [Act.put,Q3,Q4,Q5])
         refine wpAnyK_done (by kernel_rfl) ?_ _
         have HF:=Lib.hid (own_weak hC.own (show w.heap.size ≤ w.heap.size + 1 by omega))
         have hul:=HUL.out
         have HVF : Hid (∀ v ∈ ((((us.set k { x with run:=x10 }).set k { x with run:=x10,who:=x17 }).set k { x with run:=x10,who:=x17,at_:=x24 }).set k (⟨x10,x17,x24,x26⟩ : VoteE)),VB v):=Lib.hid (vb_set (vb_set (vb_set (vb_set HVU.out ⟨(by show x10.length ≤ 2; simp only [List.mem_cons,List.not_mem_nil,or_false] at hx10; rcases hx10 with h | h <;> rw [h] <;> first | exact hVx.out.run | simp),hVx.out.who⟩) ⟨(by show x10.length ≤ 2; simp only [List.mem_cons,List.not_mem_nil,or_false] at hx10; rcases hx10 with h | h <;> rw [h] <;> first | exact hVx.out.run | simp),(by show x17 ∈ whoL; simp only [List.mem_cons,List.not_mem_nil,or_false] at hx17; rcases hx17 with h | h <;> rw [h] <;> first | exact hVx.out.who | decide)⟩) ⟨(by show x10.length ≤ 2; simp only [List.mem_cons,List.not_mem_nil,or_false] at hx10; rcases hx10 with h | h <;> rw [h] <;> first | exact hVx.out.run | simp),(by show x17 ∈ whoL; simp only [List.mem_cons,List.not_mem_nil,or_false] at hx17; rcases hx17 with h | h <;> rw [h] <;> first | exact hVx.out.who | decide)⟩) ⟨(by show x10.length ≤ 2; simp only [List.mem_cons,List.not_mem_nil,or_false] at hx10; rcases hx10 with h | h <;> rw [h] <;> first | exact hVx.out.run | simp),(by show x17 ∈ whoL; simp only [List.mem_cons,List.not_mem_nil,or_false] at hx17; rcases hx17 with h | h <;> rw [h] <;> first | exact hVx.out.who | decide)⟩)
         have HLL : Hid ((((((us.set k { x with run:=x10 }).set k { x with run:=x10,who:=x17 }).set k { x with run:=x10,who:=x17,at_:=x24 }).set k (⟨x10,x17,x24,x26⟩ : VoteE))).length = vs.length):=Lib.hid (by simpa using hul)
         clear hxk hx1 hx2 hx3 hx4 hk0 hk1 hk2 hk3 hk4
         go_wp2_with fail
         go_ret
         exact ⟨some ⟨b,0,none⟩,c,((((us.set k { x with run:=x10 }).set k { x with run:=x10,who:=x17 }).set k { x with run:=x10,who:=x17,at_:=x24 }).set k (⟨x10,x17,x24,x26⟩ : VoteE)),by rw [HLL.out] <;> rfl,by rw [HLL.out]; exact HF.out,by rw [HLL.out]; exact hvl,HVF.out,hC.s.more (by omega),hC.gr⟩
     case refine_3 =>
      as_aux_lemma =>
       go_simp
       have hL23 : Blk (w30.drew.alloc (.cells #[.int .i64 x.at_,.int .i64 (-1),.int .i64 0] 3)) (w30.heap.size) 3 #[.int .i64 x.at_,.int .i64 (-1),.int .i64 0]:=Blk.at1 _ (by simp)
       have gL23 : g < w30.heap.size:=by have:=hC.s.lt; simp at this ⊢; omega
       replace hC:=hC.alloc (.cells #[.int .i64 x.at_,.int .i64 (-1),.int .i64 0] 3)
       refine hK.out _ _ (trivial) (hC.vc2 HUL.out hk0 hxk) (fun hT hS => ?_)
       clear hK K
       (try simp only [Act.put,Q3,Q4,Q5])
       refine wpAnyK_ready (rs:=[9,16]) (by kernel_rfl) (by simp) ?_
       refine AllReadyK.cons rfl (fun K hK => ?_) (AllReadyK.cons rfl (fun K hK => ?_) AllReadyK.nil)
       case refine_1 =>
        as_aux_lemma =>
         go_simp
         have hL9 : Blk ((w30.drew.alloc (.cells #[.int .i64 x.at_,.int .i64 (-1),.int .i64 0] 3)).alloc (.cells #[.string ⟨x.run.toArray⟩,.string ⟨#[]⟩] 9)) (w30.heap.size + 1) 9 #[.string ⟨x.run.toArray⟩,.string ⟨#[]⟩]:=Blk.at1 _ (by simp)
         have gL9 : g < w30.heap.size + 1:=by have:=hC.s.lt; simp at this ⊢; omega
         replace hC:=hC.alloc (.cells #[.string ⟨x.run.toArray⟩,.string ⟨#[]⟩] 9)
         replace hL23:=hL23.alloc (.cells #[.string ⟨x.run.toArray⟩,.string ⟨#[]⟩] 9)
         refine hK.out _ _ (trivial) (hC.vc2 HUL.out hk0 hxk) (fun hT hS => ?_)
         clear hK K
         (try simp only [Act.put,Q3,Q4,Q5])
         refine wpAnyK_ready (rs:=[10,16]) (by kernel_rfl) (by simp) ?_
         refine AllReadyK.cons rfl (fun K hK => ?_) (AllReadyK.cons rfl (fun K hK => ?_) AllReadyK.nil)
         case refine_1 =>
          as_aux_lemma =>
           go_simp
           go_at_call 11
           refine (some_litN g _ _ #[.string ⟨x.run.toArray⟩,.string ⟨#[]⟩] [x.run,[]] _ hC.s (by omega) hL9 rfl gL9 (by simp) (by simp)).mono ?_
           rintro e w31 ⟨x10,rfl,hx10,hs,hg⟩
           replace hC:=hC.str hs hg
           replace hL23:=hL23.gr9 hg (by omega)
           clear hs hg hL9 gL9
           go_wp2_with fail
           refine hK.out _ _ (trivial) (hC.vc2 HUL.out hk0 hxk) (fun hT hS => ?_)
           clear hK K
           (try simp only [Act.put,Q3,Q4,Q5])
           refine wpAnyK_ready (rs:=[16]) (by kernel_rfl) (by simp) ?_
           refine AllReadyK.cons rfl (fun K hK => ?_) AllReadyK.nil
           go_simp
           have hL16 : Blk (w31.alloc (.cells #[.string ⟨x.who.toArray⟩,.string ⟨#[65]⟩] 9)) (w31.heap.size) 9 #[.string ⟨x.who.toArray⟩,.string ⟨#[65]⟩]:=Blk.at1 _ (by simp)
           have gL16 : g < w31.heap.size:=by have:=hC.s.lt; simp at this ⊢; omega
           replace hC:=hC.alloc (.cells #[.string ⟨x.who.toArray⟩,.string ⟨#[65]⟩] 9)
           replace hL23:=hL23.alloc (.cells #[.string ⟨x.who.toArray⟩,.string ⟨#[65]⟩] 9)
           refine hK.out _ _ (trivial) (hC.vc2 HUL.out hk0 hxk) (fun hT hS => ?_)
           clear hK K
           (try simp only [Act.put,Q3,Q4,Q5])
           refine wpAnyK_ready (rs:=[17]) (by kernel_rfl) (by simp) ?_
           refine AllReadyK.cons rfl (fun K hK => ?_) AllReadyK.nil
           go_simp
           go_at_call 11
           refine (some_litN g _ _ #[.string ⟨x.who.toArray⟩,.string ⟨#[65]⟩] [x.who,[65]] _ hC.s (by omega) hL16 rfl gL16 (by simp) (by simp)).mono ?_
           rintro e w32 ⟨x17,rfl,hx17,hs,hg⟩
           replace hC:=hC.str hs hg
           replace hL23:=hL23.gr9 hg (by omega)
           clear hs hg hL16 gL16
           go_wp2_with fail
           refine hK.out _ _ (trivial) (hC.vc2 HUL.out hk0 hxk) (fun hT hS => ?_)
           clear hK K
           (try simp only [Act.put,Q3,Q4,Q5])
           refine wpAnyK_ready (rs:=[24]) (by kernel_rfl) (by simp) ?_
           refine AllReadyK.cons rfl (fun K hK => ?_) AllReadyK.nil
           go_simp
           go_at_call 12
           refine (pick_any g _ _ _ _ [x.at_,-1,0] _ hC.s (by omega) (Row.lit hL23 (Nat.le_refl _) rfl) gL23 (by simp) (by simp)).mono ?_
           rintro e w33 ⟨x24,rfl,-,hs,hg⟩
           replace hC:=hC.str hs hg
           clear hs hg hL23 gL23
           go_wp2_with fail
           refine hK.out _ _ (trivial) (hC.vc2 HUL.out hk0 hxk) (fun hT hS => ?_)
           clear hK K
           (try simp only [Act.put,Q3,Q4,Q5])
           refine wpAnyK_ready (rs:=[26]) (by kernel_rfl) (by simp) ?_
           refine AllReadyK.cons rfl (fun K hK => ?_) AllReadyK.nil
           go_simp
           go_at_call 38
           refine (odd_any g _ 1 3 _ hC.s (by omega) (by omega) (by omega) (by omega)).mono ?_
           rintro e w34 ⟨x26,rfl,-,-,hs,hg⟩
           replace hC:=hC.str hs hg
           clear hs hg
           go_wp2_with fail
           refine hK.out _ _ (trivial) (hC.vc2 HUL.out hk0 hxk) (fun hT hS => ?_)
           clear hK K
           (try simp only [Act.put,Q3,Q4,Q5])
           (refine wpAnyK_take2 (i:=27) (v:=?_) (by (simp only [Q0,Q1,Q2]; rfl)) (by kernel_rfl) (by kernel_rfl) (by kernel_rfl) (by decide) (by exact fun _ _ _ h => h) (Or.inl ⟨by rfl,?_⟩) (by assumption) (by assumption) ?_; (rotate_left 1; (intro w hSw; (try dsimp only at hSw); go_simp); (try with_reducible rfl)); (try simp only [Act.put,Q3,Q4,Q5]))
           (refine wpAnyK_take2 (i:=28) (v:=?_) (by (simp only [Q0,Q1,Q2]; rfl)) (by kernel_rfl) (by kernel_rfl) (by kernel_rfl) (by decide) (by exact fun _ _ _ h => h) (Or.inl ⟨by rfl,?_⟩) (by assumption) (by assumption) ?_; (rotate_left 1; (intro w hSw; (try dsimp only at hSw); go_simp); (try with_reducible rfl)); (try simp only [Act.put,Q3,Q4,Q5]))
           refine wpAnyK_ready (rs:=[29]) (by kernel_rfl) (by simp) ?_
           refine AllReadyK.consT (by kernel_rfl) rfl (fun K hK => ?_) AllReadyK.nil
           obtain ⟨zb3,zb4⟩:=hC.freeB hpos
           have fz0:=zb4 (k * 4)
           have fz1:=zb4 (k * 4 + 1)
           have fz2:=zb4 (k * 4 + 2)
           have fz3:=zb4 (k * 4 + 3)
           have cz0:=zb3 (k * 4) _ (flat_getV hk0 hxk 0 (by decide) rfl)
           have cz1:=zb3 (k * 4 + 1) _ (flat_getV hk0 hxk 1 (by decide) rfl)
           have cz2:=zb3 (k * 4 + 2) _ (flat_getV hk0 hxk 2 (by decide) rfl)
           have cz3:=zb3 (k * 4 + 3) _ (flat_getV hk0 hxk 3 (by decide) rfl)
           clear zb3 zb4
           have hC0:=hC.setV hbb hk0 (i:=0) (by decide) (.string ⟨x10.toArray⟩) (x':={ x with run:=x10 }) hxk rfl
           have hk1 : k < ((us.set k { x with run:=x10 })).length:=by simpa using hk0
           have hx1:=set_atV hk0 { x with run:=x10 }
           replace hC:=hC0
           clear hC0
           go_simp
           refine hK.out _ _ (trivial) (fun hT => ?_)
           clear hK K
           (try simp only [Act.put,Q3,Q4,Q5])
           (refine wpAnyK_take3 (i:=30) (v:=?_) (by (simp only [Q0,Q1,Q2]; rfl)) (by kernel_rfl) (by kernel_rfl) (by kernel_rfl) (by decide) (by kernel_rfl) (by exact fun _ _ _ h => h) (Or.inl ⟨by rfl,?_⟩) (by assumption) ?_; (rotate_left 1; (intro w hSw; (try dsimp only at hSw); go_simp); (try with_reducible rfl)); (try simp only [Act.put,Q3,Q4,Q5]))
           (refine wpAnyK_take3 (i:=31) (v:=?_) (by (simp only [Q0,Q1,Q2]; rfl)) (by kernel_rfl) (by kernel_rfl) (by kernel_rfl) (by decide) (by kernel_rfl) (by exact fun _ _ _ h => h) (Or.inl ⟨by rfl,?_⟩) (by assumption) ?_; (rotate_left 1; (intro w hSw; (try dsimp only at hSw); go_simp); (try with_reducible rfl)); (try simp only [Act.put,Q3,Q4,Q5]))
           refine wpAnyK_ready (rs:=[32]) (by kernel_rfl) (by simp) ?_
           refine AllReadyK.consT (by kernel_rfl) rfl (fun K hK => ?_) AllReadyK.nil
           have hC1:=hC.setV hbb hk1 (i:=1) (by decide) (.string ⟨x17.toArray⟩) (x':={ x with run:=x10,who:=x17 }) hx1 rfl
           have hk2 : k < (((us.set k { x with run:=x10 }).set k { x with run:=x10,who:=x17 })).length:=by simpa using hk1
           have hx2:=set_atV hk1 { x with run:=x10,who:=x17 }
           replace hC:=hC1
           clear hC1
           go_simp
           refine hK.out _ _ (trivial) (fun hT => ?_)
           clear hK K
           (try simp only [Act.put,Q3,Q4,Q5])
           (refine wpAnyK_take3 (i:=33) (v:=?_) (by (simp only [Q0,Q1,Q2]; rfl)) (by kernel_rfl) (by kernel_rfl) (by kernel_rfl) (by decide) (by kernel_rfl) (by exact fun _ _ _ h => h) (Or.inl ⟨by rfl,?_⟩) (by assumption) ?_; (rotate_left 1; (intro w hSw; (try dsimp only at hSw); go_simp); (try with_reducible rfl)); (try simp only [Act.put,Q3,Q4,Q5]))
           (refine wpAnyK_take3 (i:=34) (v:=?_) (by (simp only [Q0,Q1,Q2]; rfl)) (by kernel_rfl) (by kernel_rfl) (by kernel_rfl) (by decide) (by kernel_rfl) (by exact fun _ _ _ h => h) (Or.inl ⟨by rfl,?_⟩) (by assumption) ?_; (rotate_left 1; (intro w hSw; (try dsimp only at hSw); go_simp); (try with_reducible rfl)); (try simp only [Act.put,Q3,Q4,Q5]))
           refine wpAnyK_ready (rs:=[35]) (by kernel_rfl) (by simp) ?_
           refine AllReadyK.consT (by kernel_rfl) rfl (fun K hK => ?_) AllReadyK.nil
           have hC2:=hC.setV hbb hk2 (i:=2) (by decide) (.int .i64 x24) (x':={ x with run:=x10,who:=x17,at_:=x24 }) hx2 rfl
           have hk3 : k < ((((us.set k { x with run:=x10 }).set k { x with run:=x10,who:=x17 }).set k { x with run:=x10,who:=x17,at_:=x24 })).length:=by simpa using hk2
           have hx3:=set_atV hk2 { x with run:=x10,who:=x17,at_:=x24 }
           replace hC:=hC2
           clear hC2
           go_simp
           refine hK.out _ _ (trivial) (fun hT => ?_)
           clear hK K
           (try simp only [Act.put,Q3,Q4,Q5])
           (refine wpAnyK_take3 (i:=36) (v:=?_) (by (simp only [Q0,Q1,Q2]; rfl)) (by kernel_rfl) (by kernel_rfl) (by kernel_rfl) (by decide) (by kernel_rfl) (by exact fun _ _ _ h => h) (Or.inl ⟨by rfl,?_⟩) (by assumption) ?_; (rotate_left 1; (intro w hSw; (try dsimp only at hSw); go_simp); (try with_reducible rfl)); (try simp only [Act.put,Q3,Q4,Q5]))
           (refine wpAnyK_take3 (i:=37) (v:=?_) (by (simp only [Q0,Q1,Q2]; rfl)) (by kernel_rfl) (by kernel_rfl) (by kernel_rfl) (by decide) (by kernel_rfl) (by exact fun _ _ _ h => h) (Or.inl ⟨by rfl,?_⟩) (by assumption) ?_; (rotate_left 1; (intro w hSw; (try dsimp only at hSw); go_simp); (try with_reducible rfl)); (try simp only [Act.put,Q3,Q4,Q5]))
           refine wpAnyK_ready (rs:=[38]) (by kernel_rfl) (by simp) ?_
           refine AllReadyK.consT (by kernel_rfl) rfl (fun K hK => ?_) AllReadyK.nil
           have hC3:=hC.setV hbb hk3 (i:=3) (by decide) (.int .i64 x26) (x':=(⟨x10,x17,x24,x26⟩ : VoteE)) hx3 rfl
           have hk4 : k < (((((us.set k { x with run:=x10 }).set k { x with run:=x10,who:=x17 }).set k { x with run:=x10,who:=x17,at_:=x24 }).set k (⟨x10,x17,x24,x26⟩ : VoteE))).length:=by simpa using hk3
           have hx4:=set_atV hk3 (⟨x10,x17,x24,x26⟩ : VoteE)
           replace hC:=hC3
           clear hC3
           go_simp
           refine hK.out _ _ (trivial) (fun hT => ?_)
           clear hK K
           (try simp only [Act.put,Q3,Q4,Q5])
           refine wpAnyK_done (by kernel_rfl) ?_ _
           have HF:=Lib.hid (own_weak hC.own (show w.heap.size ≤ w.heap.size + 1 by omega))
           have hul:=HUL.out
           have HVF : Hid (∀ v ∈ ((((us.set k { x with run:=x10 }).set k { x with run:=x10,who:=x17 }).set k { x with run:=x10,who:=x17,at_:=x24 }).set k (⟨x10,x17,x24,x26⟩ : VoteE)),VB v):=Lib.hid (vb_set (vb_set (vb_set (vb_set HVU.out ⟨(by show x10.length ≤ 2; simp only [List.mem_cons,List.not_mem_nil,or_false] at hx10; rcases hx10 with h | h <;> rw [h] <;> first | exact hVx.out.run | simp),hVx.out.who⟩) ⟨(by show x10.length ≤ 2; simp only [List.mem_cons,List.not_mem_nil,or_false] at hx10; rcases hx10 with h | h <;> rw [h] <;> first | exact hVx.out.run | simp),(by show x17 ∈ whoL; simp only [List.mem_cons,List.not_mem_nil,or_false] at hx17; rcases hx17 with h | h <;> rw [h] <;> first | exact hVx.out.who | decide)⟩) ⟨(by show x10.length ≤ 2; simp only [List.mem_cons,List.not_mem_nil,or_false] at hx10; rcases hx10 with h | h <;> rw [h] <;> first | exact hVx.out.run | simp),(by show x17 ∈ whoL; simp only [List.mem_cons,List.not_mem_nil,or_false] at hx17; rcases hx17 with h | h <;> rw [h] <;> first | exact hVx.out.who | decide)⟩) ⟨(by show x10.length ≤ 2; simp only [List.mem_cons,List.not_mem_nil,or_false] at hx10; rcases hx10 with h | h <;> rw [h] <;> first | exact hVx.out.run | simp),(by show x17 ∈ whoL; simp only [List.mem_cons,List.not_mem_nil,or_false] at hx17; rcases hx17 with h | h <;> rw [h] <;> first | exact hVx.out.who | decide)⟩)
           have HLL : Hid ((((((us.set k { x with run:=x10 }).set k { x with run:=x10,who:=x17 }).set k { x with run:=x10,who:=x17,at_:=x24 }).set k (⟨x10,x17,x24,x26⟩ : VoteE))).length = vs.length):=Lib.hid (by simpa using hul)
           clear hxk hx1 hx2 hx3 hx4 hk0 hk1 hk2 hk3 hk4
           go_wp2_with fail
           go_ret
           exact ⟨some ⟨b,0,none⟩,c,((((us.set k { x with run:=x10 }).set k { x with run:=x10,who:=x17 }).set k { x with run:=x10,who:=x17,at_:=x24 }).set k (⟨x10,x17,x24,x26⟩ : VoteE)),by rw [HLL.out] <;> rfl,by rw [HLL.out]; exact HF.out,by rw [HLL.out]; exact hvl,HVF.out,hC.s.more (by omega),hC.gr⟩
         case refine_2 =>
          as_aux_lemma =>
           go_simp
           have hL16 : Blk (((w30.drew.alloc (.cells #[.int .i64 x.at_,.int .i64 (-1),.int .i64 0] 3)).alloc (.cells #[.string ⟨x.run.toArray⟩,.string ⟨#[]⟩] 9)).alloc (.cells #[.string ⟨x.who.toArray⟩,.string ⟨#[65]⟩] 9)) (w30.heap.size + 1 + 1) 9 #[.string ⟨x.who.toArray⟩,.string ⟨#[65]⟩]:=Blk.at1 _ (by simp)
           have gL16 : g < w30.heap.size + 1 + 1:=by have:=hC.s.lt; simp at this ⊢; omega
           replace hC:=hC.alloc (.cells #[.string ⟨x.who.toArray⟩,.string ⟨#[65]⟩] 9)
           replace hL9:=hL9.alloc (.cells #[.string ⟨x.who.toArray⟩,.string ⟨#[65]⟩] 9)
           replace hL23:=hL23.alloc (.cells #[.string ⟨x.who.toArray⟩,.string ⟨#[65]⟩] 9)
           refine hK.out _ _ (trivial) (hC.vc2 HUL.out hk0 hxk) (fun hT hS => ?_)
           clear hK K
           (try simp only [Act.put,Q3,Q4,Q5])
           refine wpAnyK_ready (rs:=[10]) (by kernel_rfl) (by simp) ?_
           refine AllReadyK.cons rfl (fun K hK => ?_) AllReadyK.nil
           go_simp
           go_at_call 11
           refine (some_litN g _ _ #[.string ⟨x.run.toArray⟩,.string ⟨#[]⟩] [x.run,[]] _ hC.s (by omega) hL9 rfl gL9 (by simp) (by simp)).mono ?_
           rintro e w31 ⟨x10,rfl,hx10,hs,hg⟩
           replace hC:=hC.str hs hg
           replace hL16:=hL16.gr9 hg (by omega)
           replace hL23:=hL23.gr9 hg (by omega)
           clear hs hg hL9 gL9
           go_wp2_with fail
           refine hK.out _ _ (trivial) (hC.vc2 HUL.out hk0 hxk) (fun hT hS => ?_)
           clear hK K
           (try simp only [Act.put,Q3,Q4,Q5])
           refine wpAnyK_ready (rs:=[17]) (by kernel_rfl) (by simp) ?_
           refine AllReadyK.cons rfl (fun K hK => ?_) AllReadyK.nil
           go_simp
           go_at_call 11
           refine (some_litN g _ _ #[.string ⟨x.who.toArray⟩,.string ⟨#[65]⟩] [x.who,[65]] _ hC.s (by omega) hL16 rfl gL16 (by simp) (by simp)).mono ?_
           rintro e w32 ⟨x17,rfl,hx17,hs,hg⟩
           replace hC:=hC.str hs hg
           replace hL23:=hL23.gr9 hg (by omega)
           clear hs hg hL16 gL16
           go_wp2_with fail
           refine hK.out _ _ (trivial) (hC.vc2 HUL.out hk0 hxk) (fun hT hS => ?_)
           clear hK K
           (try simp only [Act.put,Q3,Q4,Q5])
           refine wpAnyK_ready (rs:=[24]) (by kernel_rfl) (by simp) ?_
           refine AllReadyK.cons rfl (fun K hK => ?_) AllReadyK.nil
           go_simp
           go_at_call 12
           refine (pick_any g _ _ _ _ [x.at_,-1,0] _ hC.s (by omega) (Row.lit hL23 (Nat.le_refl _) rfl) gL23 (by simp) (by simp)).mono ?_
           rintro e w33 ⟨x24,rfl,-,hs,hg⟩
           replace hC:=hC.str hs hg
           clear hs hg hL23 gL23
           go_wp2_with fail
           refine hK.out _ _ (trivial) (hC.vc2 HUL.out hk0 hxk) (fun hT hS => ?_)
           clear hK K
           (try simp only [Act.put,Q3,Q4,Q5])
           refine wpAnyK_ready (rs:=[26]) (by kernel_rfl) (by simp) ?_
           refine AllReadyK.cons rfl (fun K hK => ?_) AllReadyK.nil
           go_simp
           go_at_call 38
           refine (odd_any g _ 1 3 _ hC.s (by omega) (by omega) (by omega) (by omega)).mono ?_
           rintro e w34 ⟨x26,rfl,-,-,hs,hg⟩
           replace hC:=hC.str hs hg
           clear hs hg
           go_wp2_with fail
           refine hK.out _ _ (trivial) (hC.vc2 HUL.out hk0 hxk) (fun hT hS => ?_)
           clear hK K
           (try simp only [Act.put,Q3,Q4,Q5])
           (refine wpAnyK_take2 (i:=27) (v:=?_) (by (simp only [Q0,Q1,Q2]; rfl)) (by kernel_rfl) (by kernel_rfl) (by kernel_rfl) (by decide) (by exact fun _ _ _ h => h) (Or.inl ⟨by rfl,?_⟩) (by assumption) (by assumption) ?_; (rotate_left 1; (intro w hSw; (try dsimp only at hSw); go_simp); (try with_reducible rfl)); (try simp only [Act.put,Q3,Q4,Q5]))
           (refine wpAnyK_take2 (i:=28) (v:=?_) (by (simp only [Q0,Q1,Q2]; rfl)) (by kernel_rfl) (by kernel_rfl) (by kernel_rfl) (by decide) (by exact fun _ _ _ h => h) (Or.inl ⟨by rfl,?_⟩) (by assumption) (by assumption) ?_; (rotate_left 1; (intro w hSw; (try dsimp only at hSw); go_simp); (try with_reducible rfl)); (try simp only [Act.put,Q3,Q4,Q5]))
           refine wpAnyK_ready (rs:=[29]) (by kernel_rfl) (by simp) ?_
           refine AllReadyK.consT (by kernel_rfl) rfl (fun K hK => ?_) AllReadyK.nil
           obtain ⟨zb3,zb4⟩:=hC.freeB hpos
           have fz0:=zb4 (k * 4)
           have fz1:=zb4 (k * 4 + 1)
           have fz2:=zb4 (k * 4 + 2)
           have fz3:=zb4 (k * 4 + 3)
           have cz0:=zb3 (k * 4) _ (flat_getV hk0 hxk 0 (by decide) rfl)
           have cz1:=zb3 (k * 4 + 1) _ (flat_getV hk0 hxk 1 (by decide) rfl)
           have cz2:=zb3 (k * 4 + 2) _ (flat_getV hk0 hxk 2 (by decide) rfl)
           have cz3:=zb3 (k * 4 + 3) _ (flat_getV hk0 hxk 3 (by decide) rfl)
           clear zb3 zb4
           have hC0:=hC.setV hbb hk0 (i:=0) (by decide) (.string ⟨x10.toArray⟩) (x':={ x with run:=x10 }) hxk rfl
           have hk1 : k < ((us.set k { x with run:=x10 })).length:=by simpa using hk0
           have hx1:=set_atV hk0 { x with run:=x10 }
           replace hC:=hC0
           clear hC0
           go_simp
           refine hK.out _ _ (trivial) (fun hT => ?_)
           clear hK K
           (try simp only [Act.put,Q3,Q4,Q5])
           (refine wpAnyK_take3 (i:=30) (v:=?_) (by (simp only [Q0,Q1,Q2]; rfl)) (by kernel_rfl) (by kernel_rfl) (by kernel_rfl) (by decide) (by kernel_rfl) (by exact fun _ _ _ h => h) (Or.inl ⟨by rfl,?_⟩) (by assumption) ?_; (rotate_left 1; (intro w hSw; (try dsimp only at hSw); go_simp); (try with_reducible rfl)); (try simp only [Act.put,Q3,Q4,Q5]))
           (refine wpAnyK_take3 (i:=31) (v:=?_) (by (simp only [Q0,Q1,Q2]; rfl)) (by kernel_rfl) (by kernel_rfl) (by kernel_rfl) (by decide) (by kernel_rfl) (by exact fun _ _ _ h => h) (Or.inl ⟨by rfl,?_⟩) (by assumption) ?_; (rotate_left 1; (intro w hSw; (try dsimp only at hSw); go_simp); (try with_reducible rfl)); (try simp only [Act.put,Q3,Q4,Q5]))
           refine wpAnyK_ready (rs:=[32]) (by kernel_rfl) (by simp) ?_
           refine AllReadyK.consT (by kernel_rfl) rfl (fun K hK => ?_) AllReadyK.nil
           have hC1:=hC.setV hbb hk1 (i:=1) (by decide) (.string ⟨x17.toArray⟩) (x':={ x with run:=x10,who:=x17 }) hx1 rfl
           have hk2 : k < (((us.set k { x with run:=x10 }).set k { x with run:=x10,who:=x17 })).length:=by simpa using hk1
           have hx2:=set_atV hk1 { x with run:=x10,who:=x17 }
           replace hC:=hC1
           clear hC1
           go_simp
           refine hK.out _ _ (trivial) (fun hT => ?_)
           clear hK K
           (try simp only [Act.put,Q3,Q4,Q5])
           (refine wpAnyK_take3 (i:=33) (v:=?_) (by (simp only [Q0,Q1,Q2]; rfl)) (by kernel_rfl) (by kernel_rfl) (by kernel_rfl) (by decide) (by kernel_rfl) (by exact fun _ _ _ h => h) (Or.inl ⟨by rfl,?_⟩) (by assumption) ?_; (rotate_left 1; (intro w hSw; (try dsimp only at hSw); go_simp); (try with_reducible rfl)); (try simp only [Act.put,Q3,Q4,Q5]))
           (refine wpAnyK_take3 (i:=34) (v:=?_) (by (simp only [Q0,Q1,Q2]; rfl)) (by kernel_rfl) (by kernel_rfl) (by kernel_rfl) (by decide) (by kernel_rfl) (by exact fun _ _ _ h => h) (Or.inl ⟨by rfl,?_⟩) (by assumption) ?_; (rotate_left 1; (intro w hSw; (try dsimp only at hSw); go_simp); (try with_reducible rfl)); (try simp only [Act.put,Q3,Q4,Q5]))
           refine wpAnyK_ready (rs:=[35]) (by kernel_rfl) (by simp) ?_
           refine AllReadyK.consT (by kernel_rfl) rfl (fun K hK => ?_) AllReadyK.nil
           have hC2:=hC.setV hbb hk2 (i:=2) (by decide) (.int .i64 x24) (x':={ x with run:=x10,who:=x17,at_:=x24 }) hx2 rfl
           have hk3 : k < ((((us.set k { x with run:=x10 }).set k { x with run:=x10,who:=x17 }).set k { x with run:=x10,who:=x17,at_:=x24 })).length:=by simpa using hk2
           have hx3:=set_atV hk2 { x with run:=x10,who:=x17,at_:=x24 }
           replace hC:=hC2
           clear hC2
           go_simp
           refine hK.out _ _ (trivial) (fun hT => ?_)
           clear hK K
           (try simp only [Act.put,Q3,Q4,Q5])
           (refine wpAnyK_take3 (i:=36) (v:=?_) (by (simp only [Q0,Q1,Q2]; rfl)) (by kernel_rfl) (by kernel_rfl) (by kernel_rfl) (by decide) (by kernel_rfl) (by exact fun _ _ _ h => h) (Or.inl ⟨by rfl,?_⟩) (by assumption) ?_; (rotate_left 1; (intro w hSw; (try dsimp only at hSw); go_simp); (try with_reducible rfl)); (try simp only [Act.put,Q3,Q4,Q5]))
           (refine wpAnyK_take3 (i:=37) (v:=?_) (by (simp only [Q0,Q1,Q2]; rfl)) (by kernel_rfl) (by kernel_rfl) (by kernel_rfl) (by decide) (by kernel_rfl) (by exact fun _ _ _ h => h) (Or.inl ⟨by rfl,?_⟩) (by assumption) ?_; (rotate_left 1; (intro w hSw; (try dsimp only at hSw); go_simp); (try with_reducible rfl)); (try simp only [Act.put,Q3,Q4,Q5]))
           refine wpAnyK_ready (rs:=[38]) (by kernel_rfl) (by simp) ?_
           refine AllReadyK.consT (by kernel_rfl) rfl (fun K hK => ?_) AllReadyK.nil
           have hC3:=hC.setV hbb hk3 (i:=3) (by decide) (.int .i64 x26) (x':=(⟨x10,x17,x24,x26⟩ : VoteE)) hx3 rfl
           have hk4 : k < (((((us.set k { x with run:=x10 }).set k { x with run:=x10,who:=x17 }).set k { x with run:=x10,who:=x17,at_:=x24 }).set k (⟨x10,x17,x24,x26⟩ : VoteE))).length:=by simpa using hk3
           have hx4:=set_atV hk3 (⟨x10,x17,x24,x26⟩ : VoteE)
           replace hC:=hC3
           clear hC3
           go_simp
           refine hK.out _ _ (trivial) (fun hT => ?_)
           clear hK K
           (try simp only [Act.put,Q3,Q4,Q5])
           refine wpAnyK_done (by kernel_rfl) ?_ _
           have HF:=Lib.hid (own_weak hC.own (show w.heap.size ≤ w.heap.size + 1 by omega))
           have hul:=HUL.out
           have HVF : Hid (∀ v ∈ ((((us.set k { x with run:=x10 }).set k { x with run:=x10,who:=x17 }).set k { x with run:=x10,who:=x17,at_:=x24 }).set k (⟨x10,x17,x24,x26⟩ : VoteE)),VB v):=Lib.hid (vb_set (vb_set (vb_set (vb_set HVU.out ⟨(by show x10.length ≤ 2; simp only [List.mem_cons,List.not_mem_nil,or_false] at hx10; rcases hx10 with h | h <;> rw [h] <;> first | exact hVx.out.run | simp),hVx.out.who⟩) ⟨(by show x10.length ≤ 2; simp only [List.mem_cons,List.not_mem_nil,or_false] at hx10; rcases hx10 with h | h <;> rw [h] <;> first | exact hVx.out.run | simp),(by show x17 ∈ whoL; simp only [List.mem_cons,List.not_mem_nil,or_false] at hx17; rcases hx17 with h | h <;> rw [h] <;> first | exact hVx.out.who | decide)⟩) ⟨(by show x10.length ≤ 2; simp only [List.mem_cons,List.not_mem_nil,or_false] at hx10; rcases hx10 with h | h <;> rw [h] <;> first | exact hVx.out.run | simp),(by show x17 ∈ whoL; simp only [List.mem_cons,List.not_mem_nil,or_false] at hx17; rcases hx17 with h | h <;> rw [h] <;> first | exact hVx.out.who | decide)⟩) ⟨(by show x10.length ≤ 2; simp only [List.mem_cons,List.not_mem_nil,or_false] at hx10; rcases hx10 with h | h <;> rw [h] <;> first | exact hVx.out.run | simp),(by show x17 ∈ whoL; simp only [List.mem_cons,List.not_mem_nil,or_false] at hx17; rcases hx17 with h | h <;> rw [h] <;> first | exact hVx.out.who | decide)⟩)
           have HLL : Hid ((((((us.set k { x with run:=x10 }).set k { x with run:=x10,who:=x17 }).set k { x with run:=x10,who:=x17,at_:=x24 }).set k (⟨x10,x17,x24,x26⟩ : VoteE))).length = vs.length):=Lib.hid (by simpa using hul)
           clear hxk hx1 hx2 hx3 hx4 hk0 hk1 hk2 hk3 hk4
           go_wp2_with fail
           go_ret
           exact ⟨some ⟨b,0,none⟩,c,((((us.set k { x with run:=x10 }).set k { x with run:=x10,who:=x17 }).set k { x with run:=x10,who:=x17,at_:=x24 }).set k (⟨x10,x17,x24,x26⟩ : VoteE)),by rw [HLL.out] <;> rfl,by rw [HLL.out]; exact HF.out,by rw [HLL.out]; exact hvl,HVF.out,hC.s.more (by omega),hC.gr⟩
       case refine_2 =>
        as_aux_lemma =>
         go_simp
         have hL16 : Blk ((w30.drew.alloc (.cells #[.int .i64 x.at_,.int .i64 (-1),.int .i64 0] 3)).alloc (.cells #[.string ⟨x.who.toArray⟩,.string ⟨#[65]⟩] 9)) (w30.heap.size + 1) 9 #[.string ⟨x.who.toArray⟩,.string ⟨#[65]⟩]:=Blk.at1 _ (by simp)
         have gL16 : g < w30.heap.size + 1:=by have:=hC.s.lt; simp at this ⊢; omega
         replace hC:=hC.alloc (.cells #[.string ⟨x.who.toArray⟩,.string ⟨#[65]⟩] 9)
         replace hL23:=hL23.alloc (.cells #[.string ⟨x.who.toArray⟩,.string ⟨#[65]⟩] 9)
         refine hK.out _ _ (trivial) (hC.vc2 HUL.out hk0 hxk) (fun hT hS => ?_)
         clear hK K
         (try simp only [Act.put,Q3,Q4,Q5])
         refine wpAnyK_ready (rs:=[9]) (by kernel_rfl) (by simp) ?_
         refine AllReadyK.cons rfl (fun K hK => ?_) AllReadyK.nil
         go_simp
         have hL9 : Blk (((w30.drew.alloc (.cells #[.int .i64 x.at_,.int .i64 (-1),.int .i64 0] 3)).alloc (.cells #[.string ⟨x.who.toArray⟩,.string ⟨#[65]⟩] 9)).alloc (.cells #[.string ⟨x.run.toArray⟩,.string ⟨#[]⟩] 9)) (w30.heap.size + 1 + 1) 9 #[.string ⟨x.run.toArray⟩,.string ⟨#[]⟩]:=Blk.at1 _ (by simp)
         have gL9 : g < w30.heap.size + 1 + 1:=by have:=hC.s.lt; simp at this ⊢; omega
         replace hC:=hC.alloc (.cells #[.string ⟨x.run.toArray⟩,.string ⟨#[]⟩] 9)
         replace hL16:=hL16.alloc (.cells #[.string ⟨x.run.toArray⟩,.string ⟨#[]⟩] 9)
         replace hL23:=hL23.alloc (.cells #[.string ⟨x.run.toArray⟩,.string ⟨#[]⟩] 9)
         refine hK.out _ _ (trivial) (hC.vc2 HUL.out hk0 hxk) (fun hT hS => ?_)
         clear hK K
         (try simp only [Act.put,Q3,Q4,Q5])
         refine wpAnyK_ready (rs:=[10]) (by kernel_rfl) (by simp) ?_
         refine AllReadyK.cons rfl (fun K hK => ?_) AllReadyK.nil
         go_simp
         go_at_call 11
         refine (some_litN g _ _ #[.string ⟨x.run.toArray⟩,.string ⟨#[]⟩] [x.run,[]] _ hC.s (by omega) hL9 rfl gL9 (by simp) (by simp)).mono ?_
         rintro e w31 ⟨x10,rfl,hx10,hs,hg⟩
         replace hC:=hC.str hs hg
         replace hL16:=hL16.gr9 hg (by omega)
         replace hL23:=hL23.gr9 hg (by omega)
         clear hs hg hL9 gL9
         go_wp2_with fail
         refine hK.out _ _ (trivial) (hC.vc2 HUL.out hk0 hxk) (fun hT hS => ?_)
         clear hK K
         (try simp only [Act.put,Q3,Q4,Q5])
         refine wpAnyK_ready (rs:=[17]) (by kernel_rfl) (by simp) ?_
         refine AllReadyK.cons rfl (fun K hK => ?_) AllReadyK.nil
         go_simp
         go_at_call 11
         refine (some_litN g _ _ #[.string ⟨x.who.toArray⟩,.string ⟨#[65]⟩] [x.who,[65]] _ hC.s (by omega) hL16 rfl gL16 (by simp) (by simp)).mono ?_
         rintro e w32 ⟨x17,rfl,hx17,hs,hg⟩
         replace hC:=hC.str hs hg
         replace hL23:=hL23.gr9 hg (by omega)
         clear hs hg hL16 gL16
         go_wp2_with fail
         refine hK.out _ _ (trivial) (hC.vc2 HUL.out hk0 hxk) (fun hT hS => ?_)
         clear hK K
         (try simp only [Act.put,Q3,Q4,Q5])
         refine wpAnyK_ready (rs:=[24]) (by kernel_rfl) (by simp) ?_
         refine AllReadyK.cons rfl (fun K hK => ?_) AllReadyK.nil
         go_simp
         go_at_call 12
         refine (pick_any g _ _ _ _ [x.at_,-1,0] _ hC.s (by omega) (Row.lit hL23 (Nat.le_refl _) rfl) gL23 (by simp) (by simp)).mono ?_
         rintro e w33 ⟨x24,rfl,-,hs,hg⟩
         replace hC:=hC.str hs hg
         clear hs hg hL23 gL23
         go_wp2_with fail
         refine hK.out _ _ (trivial) (hC.vc2 HUL.out hk0 hxk) (fun hT hS => ?_)
         clear hK K
         (try simp only [Act.put,Q3,Q4,Q5])
         refine wpAnyK_ready (rs:=[26]) (by kernel_rfl) (by simp) ?_
         refine AllReadyK.cons rfl (fun K hK => ?_) AllReadyK.nil
         go_simp
         go_at_call 38
         refine (odd_any g _ 1 3 _ hC.s (by omega) (by omega) (by omega) (by omega)).mono ?_
         rintro e w34 ⟨x26,rfl,-,-,hs,hg⟩
         replace hC:=hC.str hs hg
         clear hs hg
         go_wp2_with fail
         refine hK.out _ _ (trivial) (hC.vc2 HUL.out hk0 hxk) (fun hT hS => ?_)
         clear hK K
         (try simp only [Act.put,Q3,Q4,Q5])
         (refine wpAnyK_take2 (i:=27) (v:=?_) (by (simp only [Q0,Q1,Q2]; rfl)) (by kernel_rfl) (by kernel_rfl) (by kernel_rfl) (by decide) (by exact fun _ _ _ h => h) (Or.inl ⟨by rfl,?_⟩) (by assumption) (by assumption) ?_; (rotate_left 1; (intro w hSw; (try dsimp only at hSw); go_simp); (try with_reducible rfl)); (try simp only [Act.put,Q3,Q4,Q5]))
         (refine wpAnyK_take2 (i:=28) (v:=?_) (by (simp only [Q0,Q1,Q2]; rfl)) (by kernel_rfl) (by kernel_rfl) (by kernel_rfl) (by decide) (by exact fun _ _ _ h => h) (Or.inl ⟨by rfl,?_⟩) (by assumption) (by assumption) ?_; (rotate_left 1; (intro w hSw; (try dsimp only at hSw); go_simp); (try with_reducible rfl)); (try simp only [Act.put,Q3,Q4,Q5]))
         refine wpAnyK_ready (rs:=[29]) (by kernel_rfl) (by simp) ?_
         refine AllReadyK.consT (by kernel_rfl) rfl (fun K hK => ?_) AllReadyK.nil
         obtain ⟨zb3,zb4⟩:=hC.freeB hpos
         have fz0:=zb4 (k * 4)
         have fz1:=zb4 (k * 4 + 1)
         have fz2:=zb4 (k * 4 + 2)
         have fz3:=zb4 (k * 4 + 3)
         have cz0:=zb3 (k * 4) _ (flat_getV hk0 hxk 0 (by decide) rfl)
         have cz1:=zb3 (k * 4 + 1) _ (flat_getV hk0 hxk 1 (by decide) rfl)
         have cz2:=zb3 (k * 4 + 2) _ (flat_getV hk0 hxk 2 (by decide) rfl)
         have cz3:=zb3 (k * 4 + 3) _ (flat_getV hk0 hxk 3 (by decide) rfl)
         clear zb3 zb4
         have hC0:=hC.setV hbb hk0 (i:=0) (by decide) (.string ⟨x10.toArray⟩) (x':={ x with run:=x10 }) hxk rfl
         have hk1 : k < ((us.set k { x with run:=x10 })).length:=by simpa using hk0
         have hx1:=set_atV hk0 { x with run:=x10 }
         replace hC:=hC0
         clear hC0
         go_simp
         refine hK.out _ _ (trivial) (fun hT => ?_)
         clear hK K
         (try simp only [Act.put,Q3,Q4,Q5])
         (refine wpAnyK_take3 (i:=30) (v:=?_) (by (simp only [Q0,Q1,Q2]; rfl)) (by kernel_rfl) (by kernel_rfl) (by kernel_rfl) (by decide) (by kernel_rfl) (by exact fun _ _ _ h => h) (Or.inl ⟨by rfl,?_⟩) (by assumption) ?_; (rotate_left 1; (intro w hSw; (try dsimp only at hSw); go_simp); (try with_reducible rfl)); (try simp only [Act.put,Q3,Q4,Q5]))
         (refine wpAnyK_take3 (i:=31) (v:=?_) (by (simp only [Q0,Q1,Q2]; rfl)) (by kernel_rfl) (by kernel_rfl) (by kernel_rfl) (by decide) (by kernel_rfl) (by exact fun _ _ _ h => h) (Or.inl ⟨by rfl,?_⟩) (by assumption) ?_; (rotate_left 1; (intro w hSw; (try dsimp only at hSw); go_simp); (try with_reducible rfl)); (try simp only [Act.put,Q3,Q4,Q5]))
         refine wpAnyK_ready (rs:=[32]) (by kernel_rfl) (by simp) ?_
         refine AllReadyK.consT (by kernel_rfl) rfl (fun K hK => ?_) AllReadyK.nil
         have hC1:=hC.setV hbb hk1 (i:=1) (by decide) (.string ⟨x17.toArray⟩) (x':={ x with run:=x10,who:=x17 }) hx1 rfl
         have hk2 : k < (((us.set k { x with run:=x10 }).set k { x with run:=x10,who:=x17 })).length:=by simpa using hk1
         have hx2:=set_atV hk1 { x with run:=x10,who:=x17 }
         replace hC:=hC1
         clear hC1
         go_simp
         refine hK.out _ _ (trivial) (fun hT => ?_)
         clear hK K
         (try simp only [Act.put,Q3,Q4,Q5])
         (refine wpAnyK_take3 (i:=33) (v:=?_) (by (simp only [Q0,Q1,Q2]; rfl)) (by kernel_rfl) (by kernel_rfl) (by kernel_rfl) (by decide) (by kernel_rfl) (by exact fun _ _ _ h => h) (Or.inl ⟨by rfl,?_⟩) (by assumption) ?_; (rotate_left 1; (intro w hSw; (try dsimp only at hSw); go_simp); (try with_reducible rfl)); (try simp only [Act.put,Q3,Q4,Q5]))
         (refine wpAnyK_take3 (i:=34) (v:=?_) (by (simp only [Q0,Q1,Q2]; rfl)) (by kernel_rfl) (by kernel_rfl) (by kernel_rfl) (by decide) (by kernel_rfl) (by exact fun _ _ _ h => h) (Or.inl ⟨by rfl,?_⟩) (by assumption) ?_; (rotate_left 1; (intro w hSw; (try dsimp only at hSw); go_simp); (try with_reducible rfl)); (try simp only [Act.put,Q3,Q4,Q5]))
         refine wpAnyK_ready (rs:=[35]) (by kernel_rfl) (by simp) ?_
         refine AllReadyK.consT (by kernel_rfl) rfl (fun K hK => ?_) AllReadyK.nil
         have hC2:=hC.setV hbb hk2 (i:=2) (by decide) (.int .i64 x24) (x':={ x with run:=x10,who:=x17,at_:=x24 }) hx2 rfl
         have hk3 : k < ((((us.set k { x with run:=x10 }).set k { x with run:=x10,who:=x17 }).set k { x with run:=x10,who:=x17,at_:=x24 })).length:=by simpa using hk2
         have hx3:=set_atV hk2 { x with run:=x10,who:=x17,at_:=x24 }
         replace hC:=hC2
         clear hC2
         go_simp
         refine hK.out _ _ (trivial) (fun hT => ?_)
         clear hK K
         (try simp only [Act.put,Q3,Q4,Q5])
         (refine wpAnyK_take3 (i:=36) (v:=?_) (by (simp only [Q0,Q1,Q2]; rfl)) (by kernel_rfl) (by kernel_rfl) (by kernel_rfl) (by decide) (by kernel_rfl) (by exact fun _ _ _ h => h) (Or.inl ⟨by rfl,?_⟩) (by assumption) ?_; (rotate_left 1; (intro w hSw; (try dsimp only at hSw); go_simp); (try with_reducible rfl)); (try simp only [Act.put,Q3,Q4,Q5]))
         (refine wpAnyK_take3 (i:=37) (v:=?_) (by (simp only [Q0,Q1,Q2]; rfl)) (by kernel_rfl) (by kernel_rfl) (by kernel_rfl) (by decide) (by kernel_rfl) (by exact fun _ _ _ h => h) (Or.inl ⟨by rfl,?_⟩) (by assumption) ?_; (rotate_left 1; (intro w hSw; (try dsimp only at hSw); go_simp); (try with_reducible rfl)); (try simp only [Act.put,Q3,Q4,Q5]))
         refine wpAnyK_ready (rs:=[38]) (by kernel_rfl) (by simp) ?_
         refine AllReadyK.consT (by kernel_rfl) rfl (fun K hK => ?_) AllReadyK.nil
         have hC3:=hC.setV hbb hk3 (i:=3) (by decide) (.int .i64 x26) (x':=(⟨x10,x17,x24,x26⟩ : VoteE)) hx3 rfl
         have hk4 : k < (((((us.set k { x with run:=x10 }).set k { x with run:=x10,who:=x17 }).set k { x with run:=x10,who:=x17,at_:=x24 }).set k (⟨x10,x17,x24,x26⟩ : VoteE))).length:=by simpa using hk3
         have hx4:=set_atV hk3 (⟨x10,x17,x24,x26⟩ : VoteE)
         replace hC:=hC3
         clear hC3
         go_simp
         refine hK.out _ _ (trivial) (fun hT => ?_)
         clear hK K
         (try simp only [Act.put,Q3,Q4,Q5])
         refine wpAnyK_done (by kernel_rfl) ?_ _
         have HF:=Lib.hid (own_weak hC.own (show w.heap.size ≤ w.heap.size + 1 by omega))
         have hul:=HUL.out
         have HVF : Hid (∀ v ∈ ((((us.set k { x with run:=x10 }).set k { x with run:=x10,who:=x17 }).set k { x with run:=x10,who:=x17,at_:=x24 }).set k (⟨x10,x17,x24,x26⟩ : VoteE)),VB v):=Lib.hid (vb_set (vb_set (vb_set (vb_set HVU.out ⟨(by show x10.length ≤ 2; simp only [List.mem_cons,List.not_mem_nil,or_false] at hx10; rcases hx10 with h | h <;> rw [h] <;> first | exact hVx.out.run | simp),hVx.out.who⟩) ⟨(by show x10.length ≤ 2; simp only [List.mem_cons,List.not_mem_nil,or_false] at hx10; rcases hx10 with h | h <;> rw [h] <;> first | exact hVx.out.run | simp),(by show x17 ∈ whoL; simp only [List.mem_cons,List.not_mem_nil,or_false] at hx17; rcases hx17 with h | h <;> rw [h] <;> first | exact hVx.out.who | decide)⟩) ⟨(by show x10.length ≤ 2; simp only [List.mem_cons,List.not_mem_nil,or_false] at hx10; rcases hx10 with h | h <;> rw [h] <;> first | exact hVx.out.run | simp),(by show x17 ∈ whoL; simp only [List.mem_cons,List.not_mem_nil,or_false] at hx17; rcases hx17 with h | h <;> rw [h] <;> first | exact hVx.out.who | decide)⟩) ⟨(by show x10.length ≤ 2; simp only [List.mem_cons,List.not_mem_nil,or_false] at hx10; rcases hx10 with h | h <;> rw [h] <;> first | exact hVx.out.run | simp),(by show x17 ∈ whoL; simp only [List.mem_cons,List.not_mem_nil,or_false] at hx17; rcases hx17 with h | h <;> rw [h] <;> first | exact hVx.out.who | decide)⟩)
         have HLL : Hid ((((((us.set k { x with run:=x10 }).set k { x with run:=x10,who:=x17 }).set k { x with run:=x10,who:=x17,at_:=x24 }).set k (⟨x10,x17,x24,x26⟩ : VoteE))).length = vs.length):=Lib.hid (by simpa using hul)
         clear hxk hx1 hx2 hx3 hx4 hk0 hk1 hk2 hk3 hk4
         go_wp2_with fail
         go_ret
         exact ⟨some ⟨b,0,none⟩,c,((((us.set k { x with run:=x10 }).set k { x with run:=x10,who:=x17 }).set k { x with run:=x10,who:=x17,at_:=x24 }).set k (⟨x10,x17,x24,x26⟩ : VoteE)),by rw [HLL.out] <;> rfl,by rw [HLL.out]; exact HF.out,by rw [HLL.out]; exact hvl,HVF.out,hC.s.more (by omega),hC.gr⟩
end Go.Proofs.YtgeaeockmadhcaaGreatDoor
