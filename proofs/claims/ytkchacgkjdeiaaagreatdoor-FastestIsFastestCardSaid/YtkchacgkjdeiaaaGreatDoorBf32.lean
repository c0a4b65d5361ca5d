/- Texts of this seat, laid together: RtB RtC RtD RtE Nst. -/
import Derived.Deep.DeepCutAuto
import Derived.Test.YtkchacgkjdeiaaaGreatDoorBf31
import Derived.Test.YtkchacgkjdeiaaaGreatDoorBf28
import Derived.Test.YtkchacgkjdeiaaaGreatDoorBf04
/- The walks of doorsFault, things, tricks, CheckMap and CheckTricks at the one map. -/
set_option linter.unusedVariables false
set_option linter.unusedSimpArgs false
namespace Go.Proofs.YtkchacgkjdeiaaaGreatDoor
open Go.RowKit

theorem MapB.drewN {w : World} {M R D : Nat} (h : MapB w M R D) (q : Nat) : MapB (w.drewN q) M R D:=h
theorem MapB.drew {w : World} {M R D : Nat} (h : MapB w M R D) : MapB w.drew M R D:=h
theorem Blk.door {w : World} {g : Nat} (h : Blk w g 137 #[.string ⟨#[100]⟩,.string ⟨#[97]⟩,.string ⟨#[98]⟩,.int .i64 7,.slice none 0 0,.slice none 0 0,.string ⟨#[]⟩]) : w.cell? ⟨g,0,none⟩ = some (.string ⟨#[100]⟩) ∧ w.cell? ⟨g,1,none⟩ = some (.string ⟨#[97]⟩) ∧ w.cell? ⟨g,2,none⟩ = some (.string ⟨#[98]⟩) ∧ w.cell? ⟨g,3,none⟩ = some (.int .i64 7) ∧ w.cell? ⟨g,4,none⟩ = some (.slice none 0 0) ∧ w.cell? ⟨g,5,none⟩ = some (.slice none 0 0) ∧ w.cell? ⟨g,6,none⟩ = some (.string ⟨#[]⟩) :=
 ⟨by simpa using h.cell 0,by simpa using h.cell 1,by simpa using h.cell 2,by simpa using h.cell 3,by simpa using h.cell 4,by simpa using h.cell 5,by simpa using h.cell 6⟩
end Go.Proofs.YtkchacgkjdeiaaaGreatDoor
/- The walks of things, CheckMap and CheckTricks at the one map. -/
namespace Go.Proofs.YtkchacgkjdeiaaaGreatDoor
open Go.RowKit

end Go.Proofs.YtkchacgkjdeiaaaGreatDoor
/- The walk of newWorld at the one map. -/
namespace Go.Proofs.YtkchacgkjdeiaaaGreatDoor
open Go.RowKit

structure NC (w W : World) (M R D : Nat) : Prop where
  map : MapB W M R D
  fm : FM W R D
  bel : Below w.heap.size w W
theorem NC.below {w W W' : World} {M R D : Nat} (h : NC w W M R D) (hb : Below W.heap.size W W') : NC w W' M R D:=⟨h.map.below hb,h.fm.below hb,below_up h.bel hb⟩
theorem NC.alloc {w W : World} {M R D : Nat} (h : NC w W M R D) (o : Obj) : NC w (W.alloc o) M R D:=h.below ((Below.refl _ _).alloc (Nat.le_refl _) o)
theorem NC.drew {w W : World} {M R D : Nat} (h : NC w W M R D) : NC w W.drew M R D:=⟨h.map,h.fm.drew,h.bel.drew⟩
theorem NC.drewN {w W : World} {M R D : Nat} (h : NC w W M R D) (q : Nat) : NC w (W.drewN q) M R D:=⟨h.map,h.fm.drewN q,below_drewN' h.bel q⟩

theorem Blk.at_ (w : World) {t : TypeId} {cs : Array Value} {b : Nat} (hb : w.heap.size = b) : Blk (w.alloc (.cells cs t)) b t cs:=by subst hb; exact Blk.new _ _ _
theorem Blk.ne {w : World} {g k : Nat} {t u : TypeId} {cs ds : Array Value} (h : Blk w g t cs) (h2 : Blk w k u ds) (hne : t ≠ u) : g ≠ k:=by
 intro e;subst e;have h' : w.heap[g]? = some (.cells cs t (0,0)):=h;have h2' : w.heap[g]? = some (.cells ds u (0,0)):=h2;rw [h'] at h2';injection h2' with h3;injection h3 with _ h4;exact hne h4
theorem Blk.w7 {w : World} {g : Nat} {t : TypeId} {a b c d e f h : Value} (hk : Blk w g t #[a,b,c,d,e,f,h]) : w.cell? ⟨g,0,none⟩ = some a ∧ w.cell? ⟨g,1,none⟩ = some b ∧ w.cell? ⟨g,2,none⟩ = some c ∧ w.cell? ⟨g,3,none⟩ = some d ∧ w.cell? ⟨g,4,none⟩ = some e ∧ w.cell? ⟨g,5,none⟩ = some f ∧ w.cell? ⟨g,6,none⟩ = some h :=
 ⟨by simpa using hk.cell 0,by simpa using hk.cell 1,by simpa using hk.cell 2,by simpa using hk.cell 3,by simpa using hk.cell 4,by simpa using hk.cell 5,by simpa using hk.cell 6⟩
theorem Blk.w5 {w : World} {g : Nat} {t : TypeId} {a b c d e : Value} (hk : Blk w g t #[a,b,c,d,e]) : w.cell? ⟨g,0,none⟩ = some a ∧ w.cell? ⟨g,1,none⟩ = some b ∧ w.cell? ⟨g,2,none⟩ = some c ∧ w.cell? ⟨g,3,none⟩ = some d ∧ w.cell? ⟨g,4,none⟩ = some e :=
 ⟨by simpa using hk.cell 0,by simpa using hk.cell 1,by simpa using hk.cell 2,by simpa using hk.cell 3,by simpa using hk.cell 4⟩
theorem Blk.w2 {w : World} {g : Nat} {t : TypeId} {a b : Value} (hk : Blk w g t #[a,b]) : w.cell? ⟨g,0,none⟩ = some a ∧ w.cell? ⟨g,1,none⟩ = some b:=⟨by simpa using hk.cell 0,by simpa using hk.cell 1⟩
theorem NC.app {w W W' : World} {M R D base n size : Nat} {e : TypeId} {v : Value} {xs : List Value} (hown : W.ownsRow base e size v n xs) (h : NC w W M R D) (hg : W.grownBy W' v.ownBlock) (hb : w.heap.size ≤ base) (hM : M < w.heap.size) (hR : R < w.heap.size) (hD : D < w.heap.size) : NC w W' M R D:=by
 have hb' : Below w.heap.size w W':=h.bel.grown hg h.bel.size (fun k hk => Nat.le_trans hb (hown.lt k hk).1)
 have hl : ∀ k,k < w.heap.size → W'.heap[k]? = W.heap[k]?:=fun k hk => (hb'.block k hk).trans (h.bel.block k hk).symm
 exact ⟨(hl M hM).trans h.map,⟨(hl R hR).trans h.fm.rooms,(hl D hD).trans h.fm.doors⟩,hb'⟩
theorem NC.poke {w W : World} {M R D : Nat} (h : NC w W M R D) (p i : Nat) (u : Value) (hp : w.heap.size ≤ p) (hM : M < w.heap.size) (hR : R < w.heap.size) (hD : D < w.heap.size) : NC w (W.setCell ⟨p,i,none⟩ u) M R D :=
 ⟨Blk.past h.map p i u (by omega),⟨h.fm.rooms.past p i u (by omega),h.fm.doors.past p i u (by omega)⟩,Below.setCell h.bel (by simpa using hp) _⟩
structure DB (w W : World) (M R D p go g c v : Nat) (cur : Array Value) (ds : Value) : Prop where
  p : Blk W p 251 #[.pointer (some ⟨M, 0, none⟩), .slice none 0 0, .slice (some ⟨g, 0, none⟩) 2 c, ds, .slice (some ⟨go, 0, none⟩) 2 2, .int .i64 0, .int .i64 1]
  o : Blk W go 22 #[.slice none 0 0, .slice none 0 0]
  g : Blk W g 3 cur
  v : Blk W v 137 #[.string ⟨#[100]⟩, .string ⟨#[97]⟩, .string ⟨#[98]⟩, .int .i64 7, .slice none 0 0, .slice none 0 0, .string ⟨#[]⟩]
  n : NC w W M R D
section
variable {w W W' : World} {M R D p go g c v q : Nat} {cur : Array Value} {ds : Value}
theorem DB.below (h : DB w W M R D p go g c v cur ds) (hb : Below W.heap.size W W') : DB w W' M R D p go g c v cur ds:=⟨h.p.below hb,h.o.below hb,h.g.below hb,h.v.below hb,h.n.below hb⟩
theorem DB.alloc (h : DB w W M R D p go g c v cur ds) (o : Obj) : DB w (W.alloc o) M R D p go g c v cur ds:=h.below ((Below.refl _ _).alloc (Nat.le_refl _) o)
theorem DB.drew (h : DB w W M R D p go g c v cur ds) : DB w W.drew M R D p go g c v cur ds:=⟨h.p,h.o,h.g,h.v,h.n.drew⟩
theorem DB.past (h : DB w W M R D p go g c v cur ds) {cs : Array Value} (hq : Blk W q 248 cs) (zq : w.heap.size ≤ q) (hM : M < w.heap.size) (hR : R < w.heap.size) (hD : D < w.heap.size) (i : Nat) (u : Value) : DB w (W.setCell ⟨q,i,none⟩ u) M R D p go g c v cur ds :=
 ⟨h.p.past q i u (h.p.ne hq (by decide)),h.o.past q i u (h.o.ne hq (by decide)),h.g.past q i u (h.g.ne hq (by decide)),h.v.past q i u (h.v.ne hq (by decide)),h.n.poke q i u zq hM hR hD⟩
theorem DB.put5 (h : DB w W M R D p go g c v cur ds) {y0 y1 y2 y3 y4 : Value} (hq : Blk W q 248 #[y0,y1,y2,y3,y4]) (zq : w.heap.size ≤ q) (hM : M < w.heap.size) (hR : R < w.heap.size) (hD : D < w.heap.size) (x0 x1 x2 x3 x4 : Value) : Blk (((((W.setCell ⟨q,0,none⟩ x0).setCell ⟨q,1,none⟩ x1).setCell ⟨q,2,none⟩ x2).setCell ⟨q,3,none⟩ x3).setCell ⟨q,4,none⟩ x4) q 248 #[x0,x1,x2,x3,x4] ∧ DB w (((((W.setCell ⟨q,0,none⟩ x0).setCell ⟨q,1,none⟩ x1).setCell ⟨q,2,none⟩ x2).setCell ⟨q,3,none⟩ x3).setCell ⟨q,4,none⟩ x4) M R D p go g c v cur ds:=by
 have q0:=hq.poke 0 x0;have q1:=q0.poke 1 x1;have q2:=q1.poke 2 x2;have q3:=q2.poke 3 x3;have q4:=q3.poke 4 x4;refine ⟨?_,((((h.past hq zq hM hR hD 0 x0).past q0 zq hM hR hD 1 x1).past q1 zq hM hR hD 2 x2).past q2 zq hM hR hD 3 x3).past q3 zq hM hR hD 4 x4⟩
 simpa using q4
end
structure WB (lo : Nat) (W : World) (M P O g1 c1 g2 c2 g3 c3 : Nat) (x1 x2 x3 : Array Value) : Prop where
  p : Blk W P 251 #[.pointer (some ⟨M, 0, none⟩), .slice none 0 0, .slice (some ⟨g1, 0, none⟩) 2 c1, .slice (some ⟨g2, 0, none⟩) 1 c2, .slice (some ⟨O, 0, none⟩) 2 2, .int .i64 0, .int .i64 1]
  g : Blk W g1 3 x1
  hx1 : ∀ i, i < 2 → x1[i]? = (ints [0, 0])[i]?
  d : Blk W g2 248 x2
  hx2 : ∀ i, i < 5 → x2[i]? = (ints [0, 1, 7, 0, 0])[i]?
  o : Blk W O 22 #[.slice (some ⟨g3, 0, none⟩) 1 c3, .slice none 0 0]
  h : Blk W g3 3 x3
  hx3 : ∀ i, i < 1 → x3[i]? = (ints [0])[i]?
  z : lo ≤ P ∧ lo ≤ O ∧ lo ≤ g1 ∧ lo ≤ g2 ∧ lo ≤ g3
theorem ty_doorz : SliceTy Tryz.prog 249 248 5 40:=.mk' Tryz.underlying249 (z:=.agg #[.int .i64 0,.int .i64 0,.int .i64 0,.int .i64 0,.int .i64 0]) (by kernel_rfl) rfl (by decide)
theorem ty_intz : SliceTy Tryz.prog 22 3 1 8:=.mk' Tryz.underlying22 (z:=.int .i64 0) (by kernel_rfl) rfl (by decide)
end Go.Proofs.YtkchacgkjdeiaaaGreatDoor
/- The walks of begin, atGoal, see and pass at the one map's world. -/
namespace Go.Proofs.YtkchacgkjdeiaaaGreatDoor
open Go.RowKit

section
variable {lo : Nat} {W W' : World} {M p go g1 c1 g2 c2 g3 c3 : Nat} {x1 x2 x3 : Array Value}
theorem WB.below (h : WB lo W M p go g1 c1 g2 c2 g3 c3 x1 x2 x3) (hb : Below W.heap.size W W') : WB lo W' M p go g1 c1 g2 c2 g3 c3 x1 x2 x3:=⟨h.p.below hb,h.g.below hb,h.hx1,h.d.below hb,h.hx2,h.o.below hb,h.h.below hb,h.hx3,h.z⟩
theorem WB.alloc (h : WB lo W M p go g1 c1 g2 c2 g3 c3 x1 x2 x3) (o : Obj) : WB lo (W.alloc o) M p go g1 c1 g2 c2 g3 c3 x1 x2 x3:=h.below ((Below.refl _ _).alloc (Nat.le_refl _) o)
theorem WB.drew (h : WB lo W M p go g1 c1 g2 c2 g3 c3 x1 x2 x3) : WB lo W.drew M p go g1 c1 g2 c2 g3 c3 x1 x2 x3:=⟨h.p,h.g,h.hx1,h.d,h.hx2,h.o,h.h,h.hx3,h.z⟩
theorem Blk.at {g i : Nat} {t : TypeId} {cs : Array Value} {u : Value} (h : Blk W g t cs) (hu : cs[i]? = some u) : W.cell? ⟨g,i,none⟩ = some u:=by
 have:=h.cell i;rw [hu] at this;exact this
theorem WB.gives (h : WB lo W M p go g1 c1 g2 c2 g3 c3 x1 x2 x3) : W.cell? ⟨g1,0,none⟩ = some (.int .i64 0) ∧ W.cell? ⟨g1,1,none⟩ = some (.int .i64 0):=⟨h.g.at (h.hx1 0 (by decide)),h.g.at (h.hx1 1 (by decide))⟩
theorem WB.door (h : WB lo W M p go g1 c1 g2 c2 g3 c3 x1 x2 x3) : W.cell? ⟨g2,0,none⟩ = some (.int .i64 0) ∧ W.cell? ⟨g2,1,none⟩ = some (.int .i64 1) ∧ W.cell? ⟨g2,2,none⟩ = some (.int .i64 7) ∧ W.cell? ⟨g2,3,none⟩ = some (.int .i64 0) ∧ W.cell? ⟨g2,4,none⟩ = some (.int .i64 0):=⟨h.d.at (h.hx2 0 (by decide)),h.d.at (h.hx2 1 (by decide)),h.d.at (h.hx2 2 (by decide)),h.d.at (h.hx2 3 (by decide)),h.d.at (h.hx2 4 (by decide))⟩
end
theorem Blk.w3 {w : World} {g : Nat} {t : TypeId} {a b c : Value} (hk : Blk w g t #[a,b,c]) : w.cell? ⟨g,0,none⟩ = some a ∧ w.cell? ⟨g,1,none⟩ = some b ∧ w.cell? ⟨g,2,none⟩ = some c:=⟨by simpa using hk.cell 0,by simpa using hk.cell 1,by simpa using hk.cell 2⟩

end Go.Proofs.YtkchacgkjdeiaaaGreatDoor
/- A row of rows, all of the call's own; and what 'make' of a variable size leaves. -/
namespace Go.Proofs.YtkchacgkjdeiaaaGreatDoor
open Go.RowKit

section
variable {w w' : World}
theorem own_typG {base base' size size' n n' k : Nat} {e e' : TypeId} {v v' : Value} {xs xs' : List Value} (h : w.ownsRow base e size v n xs) (h' : w.ownsRow base' e' size' v' n' xs') (hk : v.ownBlock = some k) (hk' : v'.ownBlock = some k) : e = e':=by
 rcases h.2 with ⟨rfl,_⟩ | ⟨g,cap,cur,rfl,_,hg,_⟩
 ·simp [Value.ownBlock] at hk
 rcases h'.2 with ⟨rfl,_⟩ | ⟨g',cap',cur',rfl,_,hg',_⟩
 ·simp [Value.ownBlock] at hk'
 simp [Value.ownBlock] at hk hk'
 subst hk hk';rw [hg] at hg';injection hg' with e1;injection e1
theorem own_app2G {base base' size size' n n' : Nat} {e e' : TypeId} {v v' : Value} {xs xs' : List Value} (h : w.ownsRow base e size v n xs) (h' : w.ownsRow base' e' size' v' n' xs') (hne : e ≠ e') (hg : w.grownBy w' v'.ownBlock) : w'.ownsRow base e size v n xs :=
 h.kept hg (by
  cases hv : v.ownBlock with
  | none => exact .inl rfl
  | some k => exact .inr fun e1 => hne (own_typG h h' hv e1.symm))
end
structure NestG {α : Type} (enc : α → List Value) (sz : Nat) (tI tS : TypeId) (w : World) (base g : Nat) (rows : List (List α)) : Prop where
  ne : tI ≠ tS
  has : ∃ cs : Array Value, Blk w g tS cs ∧ (∀ i (h : i < rows.length), ∃ A c, cs[i]? = some (.slice A rows[i].length c) ∧ w.ownsRow base tI sz (.slice A rows[i].length c) rows[i].length (rows[i].flatMap enc)) ∧
    (∀ (i j : Nat) (u v : Value) (b : Nat), i < rows.length → j < rows.length → i ≠ j → cs[i]? = some u → cs[j]? = some v → u.ownBlock = some b → v.ownBlock ≠ some b)
section
variable {α : Type} {enc : α → List Value} {sz : Nat} {tI tS : TypeId} {w w' : World} {base g : Nat} {rows : List (List α)}
theorem NestG.lt (h : NestG enc sz tI tS w base g rows) : g < w.heap.size:=by obtain ⟨cs,h1,_⟩:=h.has; exact h1.lt
theorem NestG.frz (h : NestG enc sz tI tS w base g rows) (i : Nat) : w.frozen? ⟨g,i,none⟩ = false:=by obtain ⟨cs,h1,_⟩:=h.has; exact h1.thaw i
theorem NestG.below (h : NestG enc sz tI tS w base g rows) (hb : Below w.heap.size w w') : NestG enc sz tI tS w' base g rows:=by
 obtain ⟨ne,cs,h1,h2,h3⟩:=h;exact ⟨ne,cs,h1.below hb,fun i hi => let ⟨A,c,a,b⟩:=h2 i hi; ⟨A,c,a,own_keep b hb⟩,h3⟩
theorem NestG.alloc (h : NestG enc sz tI tS w base g rows) (o : Obj) : NestG enc sz tI tS (w.alloc o) base g rows:=h.below ((Below.refl _ _).alloc (Nat.le_refl _) o)
theorem NestG.drewN (h : NestG enc sz tI tS w base g rows) (q : Nat) : NestG enc sz tI tS (w.drewN q) base g rows:=by
 obtain ⟨ne,cs,h1,h2,h3⟩:=h;exact ⟨ne,cs,h1,fun i hi => let ⟨A,c,a,b⟩:=h2 i hi; ⟨A,c,a,b⟩,h3⟩
theorem NestG.row (h : NestG enc sz tI tS w base g rows) {i : Nat} (hi : i < rows.length) : ∃ A c,w.cell? ⟨g,i,none⟩ = some (.slice A rows[i].length c) ∧ w.ownsRow base tI sz (.slice A rows[i].length c) rows[i].length (rows[i].flatMap enc):=by
 obtain ⟨ne,cs,h1,h2,h3⟩:=h;obtain ⟨A,c,a,b⟩:=h2 i hi;exact ⟨A,c,by rw [h1.cell]; exact a,b⟩
theorem NestG.push (h : NestG enc sz tI tS w base g rows) {i : Nat} (hi : i < rows.length) {A A' : Option Addr} {c c' : Nat} (hc : w.cell? ⟨g,i,none⟩ = some (.slice A rows[i].length c)) {xs : List α}
  (hg : w.grownBy w' (Value.slice A rows[i].length c).ownBlock) (ho : w'.ownsRow base tI sz (.slice A' xs.length c') xs.length (xs.flatMap enc))
  (hb : (Value.slice A' xs.length c').ownBlock = (Value.slice A rows[i].length c).ownBlock ∨ (Value.slice A' xs.length c').ownBlock = some w.heap.size) : NestG enc sz tI tS (w'.setCell ⟨g,i,none⟩ (.slice A' xs.length c')) base g (rows.set i xs):=by
 obtain ⟨ne,cs,h1,h2,h3⟩:=h;rw [h1.cell] at hc;obtain ⟨A1,c1,a1,b1⟩:=h2 i hi;rw [a1] at hc;injection hc with hc;injection hc with e1 _ e2;subst e1 e2;have k1:=Blk.app b1 h1 hg ne;have hs : i < cs.size:=(Array.getElem?_eq_some_iff.1 a1).1
 have hget : ∀ j,(cs.setIfInBounds i (.slice A' xs.length c'))[j]? = if i = j then some (.slice A' xs.length c') else cs[j]?:=by
  intro j;rw [Array.getElem?_setIfInBounds]
  by_cases e : i = j
  ·subst e; simp [hs]
  ·simp [e]
 -- the other rows stand behind other blocks
 have hfar : ∀ j (hj : j < rows.length),i ≠ j → ∀ v b,cs[j]? = some v → v.ownBlock = some b → (Value.slice A' xs.length c').ownBlock ≠ some b:=by
  intro j hj e v b hv hvb hx;rcases hb with hb | hb
  ·rw [hb] at hx
   exact h3 i j _ _ b hi hj e a1 hv hx hvb
  ·rw [hb] at hx
   injection hx with hx;obtain ⟨A2,c2,a2,b2⟩:=h2 j hj;rw [hv] at a2;injection a2 with a2;subst a2;have:=(b2.lt b hvb).2;omega
 refine ⟨ne,_,Blk.poke k1 i _,fun j hj => ?_,fun i' j' u v b hi' hj' hne hu hv hub => ?_⟩
 ·have hj' : j < rows.length:=by simpa using hj
  rw [hget]
  by_cases e : i = j
  ·subst e
   have : (rows.set i xs)[i] = xs:=by simp
   rw [this,if_pos rfl];exact ⟨A',c',rfl,own_past ho k1 ne i _⟩
  ·have : (rows.set i xs)[j] = rows[j]:=by simp [List.getElem_set,e]
   rw [this,if_neg e];obtain ⟨A2,c2,a2,b2⟩:=h2 j hj';refine ⟨A2,c2,a2,own_past (b2.kept hg ?_) k1 ne i _⟩
   cases hv : (Value.slice A2 rows[j].length c2).ownBlock with
   | none => exact .inl rfl
   | some b =>
    right
    intro he;exact h3 i j _ _ b hi hj' e a1 a2 he.symm hv
 ·have hi2 : i' < rows.length:=by simpa using hi'
  have hj2 : j' < rows.length:=by simpa using hj'
  rw [hget] at hu hv
  by_cases e1 : i = i'
  ·subst e1
   rw [if_pos rfl] at hu;injection hu with hu;subst hu;rw [if_neg hne] at hv;intro hvb;exact hfar j' hj2 hne v b hv hvb hub
  ·rw [if_neg e1] at hu
   by_cases e2 : i = j'
   ·subst e2
    rw [if_pos rfl] at hv;injection hv with hv;subst hv;exact hfar i' hi2 e1 u b hu hub
   ·rw [if_neg e2] at hv
    exact h3 i' j' u v b hi2 hj2 hne hu hv hub
theorem NestG.made {n : Nat} (hne : tI ≠ tS) {cs : Array Value} (h : Blk w g tS cs) (hc : ∀ i,i < n → cs[i]? = some (.slice none 0 0)) : NestG enc sz tI tS w base g (List.replicate n []):=by
 refine ⟨hne,cs,h,fun i hi => ?_,fun i j u v b hi hj _ hu hv hub => ?_⟩
 ·have hi' : i < n:=by simpa using hi
  have : (List.replicate n ([] : List α))[i] = []:=by simp
  rw [this];exact ⟨none,0,hc i hi',World.ownsRow_nil _ _ _ _⟩
 ·rw [hc i (by simpa using hi)] at hu
  injection hu with hu;subst hu
  cases hub
theorem NestG.grown_ (h : NestG enc sz tI tS w base g rows) {i : Nat} (hi : i < rows.length) {A : Option Addr} {c : Nat} (hc : w.cell? ⟨g,i,none⟩ = some (.slice A rows[i].length c)) (hg : w.grownBy w' (Value.slice A rows[i].length c).ownBlock) : (∃ cs,Blk w' g tS cs) ∧ ∀ j,w'.cell? ⟨g,j,none⟩ = w.cell? ⟨g,j,none⟩:=by
 obtain ⟨ne,cs,h1,h2,h3⟩:=h;rw [h1.cell] at hc;obtain ⟨A1,c1,a1,b1⟩:=h2 i hi;rw [a1] at hc;injection hc with hc;injection hc with e1 _ e2;subst e1 e2;have k1:=Blk.app b1 h1 hg ne;exact ⟨⟨cs,k1⟩,fun j => by rw [k1.cell,h1.cell]⟩
theorem NestG.app {e : TypeId} {size n : Nat} {v : Value} {xs : List Value} {b2 : Nat} (h : NestG enc sz tI tS w base g rows) (hown : w.ownsRow b2 e size v n xs) (hg : w.grownBy w' v.ownBlock) (he : e ≠ tS) (hlt : ∀ k,v.ownBlock = some k → k < base) : NestG enc sz tI tS w' base g rows:=by
 obtain ⟨ne,cs,h1,h2,h3⟩:=h;refine ⟨ne,cs,Blk.app hown h1 hg he,fun i hi => ?_,h3⟩;obtain ⟨A,c,a,b⟩:=h2 i hi;refine ⟨A,c,a,b.kept hg ?_⟩
 cases hv : (Value.slice A rows[i].length c).ownBlock with
 | none => exact .inl rfl
 | some k =>
  right
  intro he;have:=hlt k he.symm;have:=(b.lt k hv).1;omega
theorem NestG.appT {e : TypeId} {size n b2 : Nat} {v : Value} {xs : List Value} (h : NestG enc sz tI tS w base g rows) (hown : w.ownsRow b2 e size v n xs) (hg : w.grownBy w' v.ownBlock) (he : e ≠ tS) (he2 : tI ≠ e) : NestG enc sz tI tS w' base g rows:=by
 obtain ⟨ne,cs,h1,h2,h3⟩:=h;exact ⟨ne,cs,Blk.app hown h1 hg he,fun i hi => let ⟨A,c,a,b⟩:=h2 i hi; ⟨A,c,a,own_app2G b hown he2 hg⟩,h3⟩
theorem NestG.past {p : Nat} {t : TypeId} {ds : Array Value} (h : NestG enc sz tI tS w base g rows) (hb : Blk w p t ds) (h1 : tS ≠ t) (h2 : tI ≠ t) (i : Nat) (u : Value) : NestG enc sz tI tS (w.setCell ⟨p,i,none⟩ u) base g rows:=by
 obtain ⟨ne,cs,k1,k2,k3⟩:=h;exact ⟨ne,cs,k1.past p i u (k1.ne hb h1),fun j hj => let ⟨A,c,a,b⟩:=k2 j hj; ⟨A,c,a,own_past b hb h2 i u⟩,k3⟩
end
end Go.Proofs.YtkchacgkjdeiaaaGreatDoor
