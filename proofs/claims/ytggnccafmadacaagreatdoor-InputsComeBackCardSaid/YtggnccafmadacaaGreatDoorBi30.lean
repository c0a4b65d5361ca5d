/- Texts of this seat, laid together: Ho. -/
import Derived.Handy
import Derived.Deep.DeepCutAuto
import Derived.Deep.RegionHeld3
import Derived.Test.YtggnccafmadacaaGreatDoorBi01
import Derived.Test.YtggnccafmadacaaGreatDoorBi25
import Derived.Test.YtggnccafmadacaaGreatDoorBi29
/- The walk of the stream's function that draws a history. -/
namespace Go.Proofs.YtggnccafmadacaaGreatDoor
set_option linter.unusedVariables false
set_option linter.unusedSimpArgs false
open Go.RowKit Go.Sort

theorem ty_atts : SliceTy Tryz.prog 54 62 2 32:=.mk' Tryz.underlying54 (z:=.agg #[.int .i64 0,.slice none 0 0]) (by kernel_rfl) rfl (by decide)
structure HW (w wr : World) (g hb : Nat) (SA : Option Addr) (sc : Nat) (ss : List (List UInt8)) (n : Nat) (atts : List Att) (A : Option Addr) (m c : Nat) (cs : List Value) : Prop where
  box : Blk wr hb 56 #[.slice SA n sc, .slice A m c]
  res : Blk wr w.heap.size 56 #[.slice none 0 0, .slice none 0 0]
  seg : wr.ownsRow w.heap.size 9 1 (.slice SA n sc) n (strs ss)
  own : wr.ownsRow w.heap.size 62 2 (.slice A m c) m cs
  att : AttsC wr w.heap.size atts cs
  len : n = ss.length
  men : m = atts.length
  lens : ∀ i (h : i < atts.length), atts[i].2.length ≤ 4
  gr : w.grownBy wr (some g)
  gl : g < w.heap.size
  hbl : w.heap.size < hb
section
variable {w wr w' : World} {g hb : Nat} {SA : Option Addr} {sc : Nat} {ss : List (List UInt8)} {n : Nat} {atts : List Att} {A : Option Addr} {m c : Nat} {cs : List Value}
theorem HW.stream (h : HW w wr g hb SA sc ss n atts A m c cs) (hg : wr.grownBy w' (some g)) : HW w w' g hb SA sc ss n atts A m c cs :=
 ⟨h.box.stream hg (by have:=h.hbl; have:=h.gl; omega),h.res.stream hg h.gl,own_grown h.seg hg h.gl,own_grown h.own hg h.gl,h.att.stream hg h.gl,h.len,h.men,h.lens,grown_trans' h.gr hg,h.gl,h.hbl⟩
theorem HW.below (h : HW w wr g hb SA sc ss n atts A m c cs) (hb' : Below wr.heap.size wr w') : HW w w' g hb SA sc ss n atts A m c cs :=
 ⟨h.box.below hb',h.res.below hb',own_keep h.seg hb',own_keep h.own hb',h.att.below hb',h.len,h.men,h.lens,grown_trans' h.gr (grown_of_below hb' _),h.gl,h.hbl⟩
theorem HW.alloc (h : HW w wr g hb SA sc ss n atts A m c cs) (o : Obj) : HW w (wr.alloc o) g hb SA sc ss n atts A m c cs:=h.below ((Below.refl _ _).alloc (Nat.le_refl _) o)
theorem HW.drew (h : HW w wr g hb SA sc ss n atts A m c cs) : HW w wr.drew g hb SA sc ss n atts A m c cs:=h.below (Below.refl _ _).drew
theorem HW.size (h : HW w wr g hb SA sc ss n atts A m c cs) : w.heap.size ≤ wr.heap.size:=h.gr.size
theorem HW.box_app (h : HW w wr g hb SA sc ss n atts A m c cs) (hg : wr.grownBy w' (Value.slice A m c).ownBlock) : Blk w' hb 56 #[.slice SA n sc,.slice A m c]:=h.box.otherOf hg (own_kindOf h.own) (by decide)
theorem HW.push (h : HW w wr g hb SA sc ss n atts A m c cs) (hg : wr.grownBy w' (Value.slice A m c).ownBlock) {no : Int} {l : List Int} {B : Option Addr} {cB : Nat} (ho : wr.ownsRow w.heap.size 3 1 (.slice B l.length cB) l.length (ints l)) (hl : l.length ≤ 4)
  {A5 : Option Addr} {c5 : Nat} (h5 : w'.ownsRow w.heap.size 62 2 (.slice A5 (m + 1) c5) (m + 1) (cs ++ [.int .i64 no,.slice B l.length cB])) :
  HW w (w'.setCell ⟨hb,1,none⟩ (.slice A5 (m + 1) c5)) g hb SA sc ss n (atts ++ [(no,l)]) A5 (m + 1) c5 (cs ++ [.int .i64 no,.slice B l.length cB]):=by
 have hk:=own_kindOf h.own
 have b5:=h.box_app hg
 have p:=grown_pokeOf w' hb 1 (.slice A5 (m + 1) c5)
 have pk:=b5.kindOf
 have r5:=h.res.otherOf hg hk (by decide)
 refine ⟨by simpa using b5.poke 1 (.slice A5 (m + 1) c5),r5.past _ _ _ (by have:=h.hbl; omega),own_otherOf (own_otherOf h.seg hg hk (by decide)) p pk (by decide),own_otherOf h5 p pk (by decide),((h.att.other hg hk (by decide)).push no (own_otherOf ho hg hk (by decide))).other p pk (by decide),h.len,by simp [h.men],fun i hi => ?_,?_,h.gl,h.hbl⟩
 ·by_cases hlt : i < atts.length
  ·rw [List.getElem_append_left hlt]; exact h.lens i hlt
  ·rw [List.getElem_append_right (by omega)]; simpa using hl
 ·exact grown_set_new (grown_app h.gr h.own hg (Nat.le_refl _)) (by have:=h.hbl; simp; omega) _
theorem HW.segs (h : HW w wr g hb SA sc ss n atts A m c cs) {S2 : Option Addr} {sc2 : Nat} (ho : wr.ownsRow w.heap.size 9 1 (.slice S2 n sc2) n (strs ss)) : HW w (wr.setCell ⟨hb,0,none⟩ (.slice S2 n sc2)) g hb S2 sc2 ss n atts A m c cs:=by
 have p:=grown_pokeOf wr hb 0 (.slice S2 n sc2)
 have pk:=h.box.kindOf
 exact ⟨by simpa using h.box.poke 0 (.slice S2 n sc2),h.res.past _ _ _ (by have:=h.hbl; omega),own_otherOf ho p pk (by decide),own_otherOf h.own p pk (by decide),h.att.other p pk (by decide),h.len,h.men,h.lens,grown_set_new h.gr (by have:=h.hbl; simp; omega) _,h.gl,h.hbl⟩
theorem HW.seg1 {sb : Nat} (h : HW w wr g hb (some ⟨sb,0,none⟩) sc ss n atts A m c cs) (j : Nat) (z : List UInt8) : HW w (wr.setCell ⟨sb,j,none⟩ (encStr z)) g hb (some ⟨sb,0,none⟩) sc (ss.set j z) n atts A m c cs:=by
 have p:=grown_pokeOf wr sb j (encStr z)
 have pk:=own_kindOf h.seg
 have hs:=(h.seg.stored j (encStr z)).1
 have e : (strs ss).set j (encStr z) = strs (ss.set j z):=by simp [strs,List.map_set]
 rw [e] at hs
 have hk : KindOf wr (some sb) 9:=pk
 have hlt:=(h.seg.lt sb rfl).1
 exact ⟨h.box.otherOf p hk (by decide),h.res.otherOf p hk (by decide),hs,own_otherOf h.own p hk (by decide),h.att.other p hk (by decide),by simpa using h.len,h.men,h.lens,grown_set_new h.gr (by simpa using hlt) _,h.gl,h.hbl⟩
theorem HW.no1 {ab : Nat} (h : HW w wr g hb SA sc ss n atts (some ⟨ab,0,none⟩) m c cs) {j : Nat} (hj : j < atts.length) (x : Int) : HW w (wr.setCell ⟨ab,j * 2,none⟩ (.int .i64 x)) g hb SA sc ss n (atts.set j (x,atts[j].2)) (some ⟨ab,0,none⟩) m c (cs.set (j * 2) (.int .i64 x)):=by
 have p:=grown_pokeOf wr ab (j * 2) (.int .i64 x)
 have pk : KindOf wr (some ab) 62:=own_kindOf h.own
 have hlt:=(h.own.lt ab rfl).1
 refine ⟨h.box.otherOf p pk (by decide),h.res.otherOf p pk (by decide),own_otherOf h.seg p pk (by decide),(h.own.stored (j * 2) _).1,(h.att.setNo hj x).other p pk (by decide),h.len,by simpa using h.men,fun i hi => ?_,grown_set_new h.gr (by simpa using hlt) _,h.gl,h.hbl⟩
 have hi' : i < atts.length:=by simpa using hi
 rw [List.getElem_set]
 split
 ·exact h.lens j hj
 ·exact h.lens i hi'
theorem HW.told (h : HW w wr g hb SA sc ss n atts A m c cs) (u v : Value) : Hist ((wr.setCell ⟨w.heap.size,0,none⟩ u).setCell ⟨w.heap.size,1,none⟩ v) w.heap.size SA A ss atts ∧ w.grownBy ((wr.setCell ⟨w.heap.size,0,none⟩ u).setCell ⟨w.heap.size,1,none⟩ v) (some g):=by
 have p:=grown_pokeOf wr w.heap.size 0 u
 have pk:=h.res.kindOf
 have q:=grown_pokeOf (wr.setCell ⟨w.heap.size,0,none⟩ u) w.heap.size 1 v
 have qk:=(h.res.poke 0 u).kindOf
 have s2:=own_otherOf (own_otherOf h.seg p pk (by decide)) q qk (by decide)
 have o2:=own_otherOf (own_otherOf h.own p pk (by decide)) q qk (by decide)
 have a2:=(h.att.other p pk (by decide)).other q qk (by decide)
 have e1:=h.len
 have e2:=h.men
 subst e1 e2
 exact ⟨a2.hist o2 s2,grown_set_new (grown_set_new h.gr (by simp) _) (by simp) _⟩
theorem HW.cellA (h : HW w wr g hb SA sc ss n atts A m c cs) {j : Nat} (hj : j < m) : ∃ ab,A = some ⟨ab,0,none⟩ ∧ ab < wr.heap.size ∧ w.heap.size ≤ ab ∧ (∃ no,wr.cell? ⟨ab,j * 2,none⟩ = some (.int .i64 no)) ∧ wr.frozen? ⟨ab,j * 2,none⟩ = false:=by
 obtain ⟨ab,e,h1,h2,hcb,hfb⟩:=ownBlk h.own (by omega)
 have e2:=h.men
 subst e2
 obtain ⟨B,cB,a,_,_⟩:=h.att.2 j hj
 exact ⟨ab,e,h2,h1,⟨_,hcb _ _ a⟩,hfb _⟩
theorem HW.cellS (h : HW w wr g hb SA sc ss n atts A m c cs) {j : Nat} (hj : j < n) : ∃ sb,SA = some ⟨sb,0,none⟩ ∧ sb < wr.heap.size ∧ w.heap.size ≤ sb ∧ (∃ u,wr.cell? ⟨sb,j,none⟩ = some u) ∧ wr.frozen? ⟨sb,j,none⟩ = false:=by
 obtain ⟨ab,e,h1,h2,hcb,hfb⟩:=ownBlk h.seg (by omega)
 have e2:=h.len
 exact ⟨ab,e,h2,h1,⟨_,hcb j _ (List.getElem?_eq_getElem (by rw [strs_len]; omega))⟩,hfb _⟩
end
theorem Blk.two2 {w : World} {g : Nat} {t : TypeId} {a b : Value} (h : Blk w g t #[a,b]) (x y : Value) : ((w.setCell ⟨g,0,none⟩ x).setCell ⟨g,1,none⟩ y).cell? ⟨g,0,none⟩ = some x ∧ ((w.setCell ⟨g,0,none⟩ x).setCell ⟨g,1,none⟩ y).cell? ⟨g,1,none⟩ = some y ∧ (w.setCell ⟨g,0,none⟩ x).cell? ⟨g,0,none⟩ = some x:=by
 have:=(h.poke 0 x).poke 1 y
 refine ⟨?_,?_,?_⟩
 ·rw [this.cell]; rfl
 ·rw [this.cell]; rfl
 ·rw [(h.poke 0 x).cell]; rfl
def odd4 : List (List UInt8):=[[97,97],[],[122,122],[65]]
def OwnH (w : World) (base : Nat) (SA : Option Addr) (c : Nat) (TA : Option Addr) (d : Nat) (segs : List (List UInt8)) (atts : List Att) : Prop :=
 w.ownsRow base 9 1 (.slice SA segs.length c) segs.length (strs segs) ∧ ∃ cs,w.ownsRow base 62 2 (.slice TA atts.length d) atts.length cs ∧ AttsC w base atts cs
theorem OwnH.hist {w : World} {base : Nat} {SA TA : Option Addr} {c d : Nat} {segs : List (List UInt8)} {atts : List Att} (h : OwnH w base SA c TA d segs atts) : Hist w base SA TA segs atts:=by
 obtain ⟨h1,cs,h2,h3⟩:=h
 exact h3.hist h2 h1
theorem HW.toldO {w wr : World} {g hb : Nat} {SA : Option Addr} {sc : Nat} {ss : List (List UInt8)} {n : Nat} {atts : List Att} {A : Option Addr} {m c : Nat} {cs : List Value} (h : HW w wr g hb SA sc ss n atts A m c cs) (hn : n = ss.length) (hm : m = atts.length) (u v : Value) : OwnH ((wr.setCell ⟨w.heap.size,0,none⟩ u).setCell ⟨w.heap.size,1,none⟩ v) w.heap.size SA sc A c ss atts ∧ w.grownBy ((wr.setCell ⟨w.heap.size,0,none⟩ u).setCell ⟨w.heap.size,1,none⟩ v) (some g):=by
 subst hn hm
 have p:=grown_pokeOf wr w.heap.size 0 u
 have pk:=h.res.kindOf
 have q:=grown_pokeOf (wr.setCell ⟨w.heap.size,0,none⟩ u) w.heap.size 1 v
 have qk:=(h.res.poke 0 u).kindOf
 exact ⟨⟨own_otherOf (own_otherOf h.seg p pk (by decide)) q qk (by decide),cs,own_otherOf (own_otherOf h.own p pk (by decide)) q qk (by decide),(h.att.other p pk (by decide)).other q qk (by decide)⟩,grown_set_new (grown_set_new h.gr (by simp) _) (by simp) _⟩
def HistoryPost (w : World) (g N : Nat) (e : Ending) (w' : World) : Prop :=
 ∃ (SA TA : Option Addr) (c d : Nat) (segs : List (List UInt8)) (atts : List Att),e = .returned (.agg #[.slice SA segs.length c,.slice TA atts.length d]) ∧ Hist w' w.heap.size SA TA segs atts ∧ segs.length ≤ c ∧ 1 ≤ segs.length ∧ segs.length ≤ 4 ∧ atts.length ≤ 7 ∧ (∀ i (h : i < atts.length),atts[i].2.length ≤ 4) ∧ (∀ s ∈ segs,s.length ≤ 2) ∧ Str w' g N ∧ w.grownBy w' (some g)
def HistoryPostO (w : World) (g N : Nat) (e : Ending) (w' : World) : Prop :=
 ∃ (SA TA : Option Addr) (c d : Nat) (segs : List (List UInt8)) (atts : List Att),e = .returned (.agg #[.slice SA segs.length c,.slice TA atts.length d]) ∧ OwnH w' w.heap.size SA c TA d segs atts ∧ segs.length ≤ c ∧ 1 ≤ segs.length ∧ segs.length ≤ 4 ∧ atts.length ≤ 7 ∧ (∀ i (h : i < atts.length),atts[i].2.length ≤ 4) ∧ (∀ s ∈ segs,s.length ≤ 2) ∧ Str w' g N ∧ w.grownBy w' (some g)
def lits : List (List UInt8):=[[97,97],[98,98],[99,99],[100,100]]
theorem HW.start {w wr : World} {g hb : Nat} {n : Nat} (hbox : Blk wr hb 56 #[.slice (some ⟨w.heap.size + 1,0,none⟩) n 4,.slice none 0 0]) (hres : Blk wr w.heap.size 56 #[.slice none 0 0,.slice none 0 0])
  (hlit : Blk wr (w.heap.size + 1) 9 #[.string ⟨#[97,97]⟩,.string ⟨#[98,98]⟩,.string ⟨#[99,99]⟩,.string ⟨#[100,100]⟩]) (hn : n ≤ 4) (hg : w.grownBy wr (some g)) (hl : g < w.heap.size) (hb' : w.heap.size < hb) :
  HW w wr g hb (some ⟨w.heap.size + 1,0,none⟩) 4 (lits.take n) n [] none 0 0 []:=by
 refine ⟨hbox,hres,?_,World.ownsRow_nil _ _ _ _,AttsC.nil _ _,by simp [lits]; omega,rfl,fun i h => by simp at h,hg,hl,hb'⟩
 refine ⟨by rw [strs_len]; simp [lits]; omega,.inr ⟨w.heap.size + 1,4,_,rfl,by omega,hlit,hn,by simp [maxLen],rfl,?_⟩⟩
 rcases (show n = 0 ∨ n = 1 ∨ n = 2 ∨ n = 3 ∨ n = 4 by omega) with rfl | rfl | rfl | rfl | rfl <;> rfl
set_option maxHeartbeats 8000000 in
set_option maxRecDepth 100000 in
theorem historyO_any (g N : Nat) (w : World) (hs : Str w g N) (hN : N < 4611686018426000000) :
  Calls Tryz.prog 26 #[.pointer (some ⟨g,0,none⟩)] w (HistoryPostO w g (N + 300)):=by
 have hlt:=hs.lt
 go_enter Tryz.func26,Tryz.ntmps26
 go_wp2_with fail
 have hs0:=(hs.alloc (.cells #[.slice none 0 0,.slice none 0 0] 56)).alloc (.cells #[.string ⟨#[97,97]⟩,.string ⟨#[98,98]⟩,.string ⟨#[99,99]⟩,.string ⟨#[100,100]⟩] 9)
 have hb1 : Below w.heap.size w ((w.alloc (.cells #[.slice none 0 0,.slice none 0 0] 56)).alloc (.cells #[.string ⟨#[97,97]⟩,.string ⟨#[98,98]⟩,.string ⟨#[99,99]⟩,.string ⟨#[100,100]⟩] 9)):=((Below.refl _ _).alloc (Nat.le_refl _) _).alloc (by simp) _
 have hres : Blk ((w.alloc (.cells #[.slice none 0 0,.slice none 0 0] 56)).alloc (.cells #[.string ⟨#[97,97]⟩,.string ⟨#[98,98]⟩,.string ⟨#[99,99]⟩,.string ⟨#[100,100]⟩] 9)) w.heap.size 56 #[.slice none 0 0,.slice none 0 0]:=(Blk.new _ _ _).alloc _
 have hlit : Blk ((w.alloc (.cells #[.slice none 0 0,.slice none 0 0] 56)).alloc (.cells #[.string ⟨#[97,97]⟩,.string ⟨#[98,98]⟩,.string ⟨#[99,99]⟩,.string ⟨#[100,100]⟩] 9)) (w.heap.size + 1) 9 #[.string ⟨#[97,97]⟩,.string ⟨#[98,98]⟩,.string ⟨#[99,99]⟩,.string ⟨#[100,100]⟩]:=by
  have:=Blk.new (w.alloc (.cells #[.slice none 0 0,.slice none 0 0] 56)) 9 #[.string ⟨#[97,97]⟩,.string ⟨#[98,98]⟩,.string ⟨#[99,99]⟩,.string ⟨#[100,100]⟩]
  simpa using this
 generalize (w.alloc (.cells #[.slice none 0 0,.slice none 0 0] 56)).alloc (.cells #[.string ⟨#[97,97]⟩,.string ⟨#[98,98]⟩,.string ⟨#[99,99]⟩,.string ⟨#[100,100]⟩] 9) = w0 at *
 refine (range_any g N _ _ _ hs0 (by omega) (by omega) (by omega) (by omega)).mono ?_
 rintro e w1 ⟨r,rfl,h0,h6,hs1,hg1⟩
 obtain ⟨n,rfl⟩:=Int.eq_ofNat_of_zero_le (show 0 ≤ r by omega)
 have hn1 : 1 ≤ n:=by omega
 have hn4 : n ≤ 4:=by omega
 have hres1:=hres.stream hg1 hlt
 have hlit1:=hlit.stream hg1 (by omega)
 have hgr1:=grown_trans' (grown_of_below hb1 (some g)) hg1
 have hz1:=hlit1.lt
 clear hs hs0 hres hlit hb1 hg1 h0 h6
 have d4 : (n : Int) ≤ 4:=by omega
 go_wp2_with fail
 have hs2:=hs1.alloc (.cells #[.slice (some ⟨w.heap.size + 1,0,none⟩) n 4,.slice none 0 0] 56)
 have hbox : Blk (w1.alloc (.cells #[.slice (some ⟨w.heap.size + 1,0,none⟩) n 4,.slice none 0 0] 56)) w1.heap.size 56 #[.slice (some ⟨w.heap.size + 1,0,none⟩) n 4,.slice none 0 0]:=Blk.new _ _ _
 have hwS:=HW.start hbox (hres1.alloc _) (hlit1.alloc _) hn4 (grown_alloc hgr1 _) hlt (by omega)
 generalize w1.alloc (.cells #[.slice (some ⟨w.heap.size + 1,0,none⟩) n 4,.slice none 0 0] 56) = w2 at *
 generalize w1.heap.size = hb at *
 clear hbox hres1 hlit1 hgr1 hs1
 have hssl : ∀ s ∈ lits.take n,s.length ≤ 2:=fun s hs => by
  have : ∀ s ∈ lits,s.length ≤ 2:=by decide
  exact this s (List.mem_of_mem_take hs)
 generalize lits.take n = ss at *
 generalize (some ⟨w.heap.size + 1,0,none⟩ : Option Addr) = SA at *
 have hnsc : n ≤ 4:=hn4
 go_wp2_with fail
 refine (range_any g _ _ _ _ hs2 (by omega) (by omega) (by omega) (by omega)).mono ?_
 rintro e w3 ⟨r,rfl,h0,h7,hsq,hg3⟩
 obtain ⟨M,rfl⟩:=Int.eq_ofNat_of_zero_le h0
 have hw:=hwS.stream hg3
 clear hwS hs2 hg3
 go_wp2_with fail
 go_loopw [4,13] (fun nv i wr => ∃ (k : Nat) (no : Int) (atts : List Att) (A : Option Addr) (c m : Nat) (cs : List Value),k ≤ M ∧ i = .int .i64 k ∧ nv = .int .i64 no ∧ 0 ≤ no ∧ no ≤ 3 * k ∧ m ≤ k ∧ HW w wr g hb SA 4 ss n atts A m c cs ∧ Str wr g (N + 2 + 20 * k)) (fun _ i _ => M - (intOf i).toNat)
 case atStart => exact ⟨0,0,[],none,0,0,[],by omega,rfl,rfl,by omega,by omega,by omega,hw,hsq⟩
 case round =>
  clear hw hsq
  obtain ⟨k,no0,atts,A,c,m,cs,hk,rfl,rfl,t0,t1,hmk,hw,hsq⟩:=hrel
  by_cases hkm : k < M
  ·go_wp2_with fail
   refine (pick_any g _ _ _ _ [1,1,1,3] _ (hsq.alloc _) (by omega) (row_new _ _ _ _ _ _ (Nat.le_refl _) rfl) hsq.lt (by simp) (by simp)).mono ?_
   rintro e w4 ⟨r4,rfl,hr4,hs4,hg4⟩
   have hr5 : 0 ≤ r4 ∧ r4 ≤ 3:=by
    have : ∀ x ∈ ([1,1,1,3] : List Int),0 ≤ x ∧ x ≤ 3:=by decide
    exact this r4 hr4
   have wt : IntKind.i64.wrap (no0 + r4) = no0 + r4:=IntWalk.i64_in _ (by omega)
   have ht0 : 0 ≤ no0 + r4:=by omega
   have ht1 : no0 + r4 ≤ 3 * (k : Int) + 3:=by omega
   have hw:=(hw.alloc _).stream hg4
   have hsq:=hs4
   clear hs4 hg4 hr4 hr5 t0 t1
   go_upto_region 6 with (fail)
   clear wt
   generalize no0 + r4 = no at *
   have hw:=hw.drew
   have hsq:=hsq.drew
   refine wp_region_heldK 12 (fun w' => w'.cell? ⟨hb,1,none⟩ = some (.slice A m c)) (fun w' => w'.cell? ⟨hb,0,none⟩ = some (.slice SA n 4)) (by kernel_rfl) (hw.box.two_.1) (hw.box.two_.2) (fun hT hS => ?_)
   (refine wpAnyK_take2 (i:=0) (v:=?_) (by (simp only [List.getElem?_toArray,List.getElem?_cons_zero]; rfl)) (by kernel_rfl) (by kernel_rfl) (by kernel_rfl) (by decide) (by exact fun _ _ _ h => h) (Or.inl ⟨by rfl,?_⟩) (by assumption) (by assumption) ?_; (rotate_left 1; (intro w hSw; (try dsimp only at hSw); go_simp); (try with_reducible rfl)); (try simp only [Act.put,List.setIfInBounds_toArray,List.set_cons_zero,List.set_cons_succ]))
   (refine wpAnyK_take1 (i:=1) (v:=?_) (by (simp only [List.getElem?_toArray,List.getElem?_cons_succ,List.getElem?_cons_zero]; rfl)) (by kernel_rfl) (by kernel_rfl) (by kernel_rfl) (by decide) (by kernel_rfl) (by kernel_rfl) (by exact fun _ _ _ h => h) (Or.inl ⟨by rfl,?_⟩) (by assumption) (by assumption) ?_; (rotate_left 1; (intro w hSw; (try dsimp only at hSw); go_simp); (try with_reducible rfl)); (try simp only [Act.put,List.setIfInBounds_toArray,List.set_cons_zero,List.set_cons_succ]))
   (refine wpAnyK_take2 (i:=2) (v:=?_) (by (simp only [List.getElem?_toArray,List.getElem?_cons_succ,List.getElem?_cons_zero]; rfl)) (by kernel_rfl) (by kernel_rfl) (by kernel_rfl) (by decide) (by exact fun _ _ _ h => h) (Or.inl ⟨by rfl,?_⟩) (by assumption) (by assumption) ?_; (rotate_left 1; (intro w hSw; (try dsimp only at hSw); go_simp); (try with_reducible rfl)); (try simp only [Act.put,List.setIfInBounds_toArray,List.set_cons_zero,List.set_cons_succ]))
   (refine wpAnyK_take2 (i:=3) (v:=?_) (by (simp only [List.getElem?_toArray,List.getElem?_cons_succ,List.getElem?_cons_zero]; rfl)) (by kernel_rfl) (by kernel_rfl) (by kernel_rfl) (by decide) (by exact fun _ _ _ h => h) (Or.inl ⟨by rfl,?_⟩) (by assumption) (by assumption) ?_; (rotate_left 1; (intro w hSw; (try dsimp only at hSw); go_simp); (try with_reducible rfl)); (try simp only [Act.put,List.setIfInBounds_toArray,List.set_cons_zero,List.set_cons_succ]))
   (refine wpAnyK_take2 (i:=4) (v:=?_) (by (simp only [List.getElem?_toArray,List.getElem?_cons_succ,List.getElem?_cons_zero]; rfl)) (by kernel_rfl) (by kernel_rfl) (by kernel_rfl) (by decide) (by exact fun _ _ _ h => h) (Or.inl ⟨by rfl,?_⟩) (by assumption) (by assumption) ?_; (rotate_left 1; (intro w hSw; (try dsimp only at hSw); go_simp); (try with_reducible rfl)); (try simp only [Act.put,List.setIfInBounds_toArray,List.set_cons_zero,List.set_cons_succ]))
   (refine wpAnyK_take2 (i:=5) (v:=?_) (by (simp only [List.getElem?_toArray,List.getElem?_cons_succ,List.getElem?_cons_zero]; rfl)) (by kernel_rfl) (by kernel_rfl) (by kernel_rfl) (by decide) (by exact fun _ _ _ h => h) (Or.inl ⟨by rfl,?_⟩) (by assumption) (by assumption) ?_; (rotate_left 1; (intro w hSw; (try dsimp only at hSw); go_simp); (try with_reducible rfl)); (try simp only [Act.put,List.setIfInBounds_toArray,List.set_cons_zero,List.set_cons_succ]))
   refine wpAnyK_ready (rs:=[6]) (by kernel_rfl) (by simp) ?_
   refine AllReadyK.cons rfl (fun K hK => ?_) AllReadyK.nil
   go_simp
   refine hK.out _ _ (hw.box.two_.1) (hw.box.two_.2) (fun hT hS => ?_)
   clear hK K
   (try simp only [Act.put,List.setIfInBounds_toArray,List.set_cons_zero,List.set_cons_succ])
   refine wpAnyK_ready (rs:=[7]) (by kernel_rfl) (by simp) ?_
   refine AllReadyK.cons rfl (fun K hK => ?_) AllReadyK.nil
   go_simp
   go_at_call 76
   refine (tried_any g _ n _ hsq (by omega) (by omega)).mono ?_
   rintro e wt ⟨B,cB,l,rfl,hownB,hlB,hsq,hgt⟩
   have hownB:=own_weak hownB hw.size
   have hw:=hw.stream hgt
   go_wp2_with fail
   refine hK.out _ _ (hw.box.two_.1) (hw.box.two_.2) (fun hT hS => ?_)
   clear hK K
   (try simp only [Act.put,List.setIfInBounds_toArray,List.set_cons_zero,List.set_cons_succ])
   (refine wpAnyK_take2 (i:=8) (v:=?_) (by (simp only [List.getElem?_toArray,List.getElem?_cons_succ,List.getElem?_cons_zero]; rfl)) (by kernel_rfl) (by kernel_rfl) (by kernel_rfl) (by decide) (by exact fun _ _ _ h => h) (Or.inl ⟨by rfl,?_⟩) (by assumption) (by assumption) ?_; (rotate_left 1; (intro w hSw; (try dsimp only at hSw); go_simp); (try with_reducible rfl)); (try simp only [Act.put,List.setIfInBounds_toArray,List.set_cons_zero,List.set_cons_succ]))
   refine wpAnyK_ready (rs:=[9]) (by kernel_rfl) (by simp) ?_
   refine AllReadyK.cons rfl (fun K hK => ?_) AllReadyK.nil
   go_simp
   have hby : Blk (wt.alloc (.cells #[.int .i64 no,.slice B l.length cB] 62)) wt.heap.size 62 #[.int .i64 no,.slice B l.length cB]:=Blk.new _ _ _
   have hw:=hw.alloc (.cells #[.int .i64 no,.slice B l.length cB] 62)
   have hownB:=hownB.alloc (.cells #[.int .i64 no,.slice B l.length cB] 62)
   have hsq:=hsq.alloc (.cells #[.int .i64 no,.slice B l.length cB] 62)
   refine hK.out _ _ (hw.box.two_.1) (hw.box.two_.2) (fun hT hS => ?_)
   clear hK K
   (try simp only [Act.put,List.setIfInBounds_toArray,List.set_cons_zero,List.set_cons_succ])
   refine wpAnyK_ready (rs:=[10]) (by kernel_rfl) (by simp) ?_
   refine AllReadyK.cons rfl (fun K hK => ?_) AllReadyK.nil
   refine step_app (lo:=0) (base:=w.heap.size) (n:=m) (xs:=cs) _ rfl _ _ ty_atts rfl hw.own rfl (Row.lit (n:=1) (size:=2) hby (Nat.zero_le _) rfl) rfl rfl (by omega) (by omega) hw.size ?_
   intro A5 c5 w5 hown5 hg5 _
   have hsq:=hsq.app hw.own hg5 hw.gl
   have hbx:=hw.box_app hg5
   refine hK.out _ _ (hbx.two_.1) (hbx.two_.2) (fun hT hS => ?_)
   clear hK K
   (try simp only [Act.put,List.setIfInBounds_toArray,List.set_cons_zero,List.set_cons_succ])
   (refine wpAnyK_take2 (i:=11) (v:=?_) (by (simp only [List.getElem?_toArray,List.getElem?_cons_succ,List.getElem?_cons_zero]; rfl)) (by kernel_rfl) (by kernel_rfl) (by kernel_rfl) (by decide) (by exact fun _ _ _ h => h) (Or.inl ⟨by rfl,?_⟩) (by assumption) (by assumption) ?_; (rotate_left 1; (intro w hSw; (try dsimp only at hSw); go_simp); (try with_reducible rfl)); (try simp only [Act.put,List.setIfInBounds_toArray,List.set_cons_zero,List.set_cons_succ]))
   refine wpAnyK_ready (rs:=[12]) (by kernel_rfl) (by simp) ?_
   refine AllReadyK.consT (by kernel_rfl) rfl (fun K hK => ?_) AllReadyK.nil
   have q0:=hbx.two_.1
   have q1:=hbx.two_.2
   have qf:=hbx.thaw 1
   have qz:=hbx.lt
   go_simp
   clear q0 q1 qf qz
   have hw:=hw.push hg5 hownB (Nat.le_trans hlB hn4) hown5
   have hsq:=hsq.set (p:=⟨hb,1,none⟩) (by have:=hw.hbl; have:=hw.gl; simp; omega) (.slice A5 (m + 1) c5)
   refine hK.out _ _ (hw.box.two_.1) (fun hT => ?_)
   clear hK K
   (try simp only [Act.put,List.setIfInBounds_toArray,List.set_cons_zero,List.set_cons_succ])
   refine wpAnyK_done (by kernel_rfl) ?_ _
   go_wp2_with fail
   go_roundw
   case rel => exact ⟨k + 1,no,atts ++ [(no,l)],A5,c5,m + 1,cs ++ [.int .i64 no,.slice B l.length cB],by omega,by go_num,rfl,ht0,by omega,by omega,hw,hsq.more (by omega)⟩
   case measure => simp [intOf]; omega
  ·go_wp2_with fail
   refine (flip_any g _ _ _ hsq (by omega) (by omega)).mono ?_
   rintro e w5 ⟨b5,rfl,hs5,hg5⟩
   have hw:=hw.stream hg5
   have hsq:=hs5
   clear hs5 hg5
   have HSL:=Lib.hid hssl
   clear hssl
   go_upto_if 34 with (fail)
   go_cut [4] (fun nv wx => ∃ (S3 : Option Addr) (sc3 : Nat) (ss3 : List (List UInt8)),nv = .int .i64 no0 ∧ HW w wx g hb S3 sc3 ss3 n atts A m c cs ∧ Str wx g (N + 2 + 20 * k + 5) ∧ n ≤ sc3 ∧ Hid (∀ s ∈ ss3,s.length ≤ 2))
   case first =>
    cases b5
    ·go_wp2_with fail
     go_meet
     exact ⟨SA,4,ss,rfl,hw,hsq.more (by omega),hnsc,HSL⟩
    ·obtain ⟨q0,q1⟩:=hw.box.two_
     have qz:=hw.box.lt
     have hcl:=cloneS_any SA 4 _ ss w5 (by have:=Row.of_own hw.seg; rw [hw.len] at this; exact this) (by have:=hw.len; omega)
     rw [← hw.len] at hcl
     go_wp2_with fail
     refine hcl.mono ?_
     clear hcl q0 q1 qz
     rintro e w6 ⟨S2,c7,rfl,hown6,hb6⟩
     have hown6:=own_weak hown6 hw.size
     have hw:=hw.below hb6
     have hsq:=hsq.keep hb6
     obtain ⟨q0,q1⟩:=hw.box.two_
     have qf:=hw.box.thaw 0
     have qz:=hw.box.lt
     go_upto_region 10 with (fail)
     have hw:=hw.segs hown6
     have hsq:=hsq.set (p:=⟨hb,0,none⟩) (by have:=hw.hbl; simp; omega) (.slice S2 n c7)
     have hnsc : n ≤ c7:=by
      rcases hown6.2 with ⟨h1,h2⟩ | ⟨_,_,_,h1,_,_,h2,_⟩
      ·omega
      ·injection h1 with _ _ h1; omega
     obtain ⟨sb,rfl,_,_,_,_⟩:=ownBlk hown6 (by omega)
     clear hown6 q0 q1 qf qz hb6
     generalize w6.setCell ⟨hb,0,none⟩ (.slice (some ⟨sb,0,none⟩) n c7) = w8 at *
     have hw:=hw.drew
     have hsq:=hsq.drew
     refine wp_region_held_drew (S:=(fun w' => w'.cell? ⟨hb,0,none⟩ = some (.slice (some ⟨sb,0,none⟩) n c7))) (by kernel_rfl) (hw.box.two_.1) (fun hHeld => ?_)
     (refine wpAnyH_take (i:=0) (v:=?_) (by (simp only [List.getElem?_toArray,List.getElem?_cons_zero]; rfl)) (by kernel_rfl) (by kernel_rfl) (by kernel_rfl) (by exact fun _ _ _ h => h) (Or.inl ⟨by rfl,?_⟩) (by assumption) ?_; (rotate_left 1; (intro w hSw; (try dsimp only at hSw); go_simp); (try with_reducible rfl)); (try simp only [Act.put,List.setIfInBounds_toArray,List.set_cons_zero,List.set_cons_succ]))
     (refine wpAnyH_take (i:=1) (v:=?_) (by (simp only [List.getElem?_toArray,List.getElem?_cons_succ,List.getElem?_cons_zero]; rfl)) (by kernel_rfl) (by kernel_rfl) (by kernel_rfl) (by exact fun _ _ _ h => h) (Or.inl ⟨by rfl,?_⟩) (by assumption) ?_; (rotate_left 1; (intro w hSw; (try dsimp only at hSw); go_simp); (try with_reducible rfl)); (try simp only [Act.put,List.setIfInBounds_toArray,List.set_cons_zero,List.set_cons_succ]))
     (refine wpAnyH_take (i:=2) (v:=?_) (by (simp only [List.getElem?_toArray,List.getElem?_cons_succ,List.getElem?_cons_zero]; rfl)) (by kernel_rfl) (by kernel_rfl) (by kernel_rfl) (by exact fun _ _ _ h => h) (Or.inl ⟨by rfl,?_⟩) (by assumption) ?_; (rotate_left 1; (intro w hSw; (try dsimp only at hSw); go_simp); (try with_reducible rfl)); (try simp only [Act.put,List.setIfInBounds_toArray,List.set_cons_zero,List.set_cons_succ]))
     (refine wpAnyH_take (i:=3) (v:=?_) (by (simp only [List.getElem?_toArray,List.getElem?_cons_succ,List.getElem?_cons_zero]; rfl)) (by kernel_rfl) (by kernel_rfl) (by kernel_rfl) (by exact fun _ _ _ h => h) (Or.inl ⟨by rfl,?_⟩) (by assumption) ?_; (rotate_left 1; (intro w hSw; (try dsimp only at hSw); go_simp); (try with_reducible rfl)); (try simp only [Act.put,List.setIfInBounds_toArray,List.set_cons_zero,List.set_cons_succ]))
     (refine wpAnyH_take (i:=4) (v:=?_) (by (simp only [List.getElem?_toArray,List.getElem?_cons_succ,List.getElem?_cons_zero]; rfl)) (by kernel_rfl) (by kernel_rfl) (by kernel_rfl) (by exact fun _ _ _ h => h) (Or.inl ⟨by rfl,?_⟩) (by assumption) ?_; (rotate_left 1; (intro w hSw; (try dsimp only at hSw); go_simp); (try with_reducible rfl)); (try simp only [Act.put,List.setIfInBounds_toArray,List.set_cons_zero,List.set_cons_succ]))
     (refine wpAnyH_take (i:=7) (v:=?_) (by (simp only [List.getElem?_toArray,List.getElem?_cons_succ,List.getElem?_cons_zero]; rfl)) (by kernel_rfl) (by kernel_rfl) (by kernel_rfl) (by exact fun _ _ _ h => h) (Or.inl ⟨by rfl,?_⟩) (by assumption) ?_; (rotate_left 1; (intro w hSw; (try dsimp only at hSw); go_simp); (try with_reducible rfl)); (try simp only [Act.put,List.setIfInBounds_toArray,List.set_cons_zero,List.set_cons_succ]))
     refine wpAnyH_ready (rs:=[5,8]) (by kernel_rfl) (by simp) ?_
     refine AllReadyH.cons rfl (fun K hK => ?_) (AllReadyH.cons rfl (fun K hK => ?_) AllReadyH.nil)
     case refine_1 =>
      go_simp
      refine hK.out _ _ (hw.box.two_.1) (fun hHeld => ?_)
      clear hK K
      (try simp only [Act.put,List.setIfInBounds_toArray,List.set_cons_zero,List.set_cons_succ])
      refine wpAnyH_ready (rs:=[6,8]) (by kernel_rfl) (by simp) ?_
      refine AllReadyH.cons rfl (fun K hK => ?_) (AllReadyH.cons rfl (fun K hK => ?_) AllReadyH.nil)
      case refine_1 =>
       go_simp
       go_at_call 16
       refine (next_any g _ _ _ hsq (by omega) (by omega)).mono ?_
       rintro e wn ⟨r9,rfl,h90,h91,h92,hsq,hgn⟩
       have h93:=h91 (by omega)
       obtain ⟨j,rfl⟩:=Int.eq_ofNat_of_zero_le h90
       have hj : j < n:=by omega
       clear h91 h92 h93 h90
       have hw:=hw.stream hgn
       go_wp2_with fail
       refine hK.out _ _ (hw.box.two_.1) (fun hHeld => ?_)
       clear hK K
       (try simp only [Act.put,List.setIfInBounds_toArray,List.set_cons_zero,List.set_cons_succ])
       refine wpAnyH_ready (rs:=[8]) (by kernel_rfl) (by simp) ?_
       refine AllReadyH.cons rfl (fun K hK => ?_) AllReadyH.nil
       go_simp
       have hg8 : g < wn.heap.size:=hsq.lt
       have hl8 : Row (wn.alloc (.cells #[.string ⟨#[97,97]⟩,.string ⟨#[]⟩,.string ⟨#[122,122]⟩,.string ⟨#[65]⟩] 9)) wn.heap.size 1 (some ⟨wn.heap.size,0,none⟩) 4 (strs odd4):=row_new _ #[.string ⟨#[97,97]⟩,.string ⟨#[]⟩,.string ⟨#[122,122]⟩,.string ⟨#[65]⟩] _ _ 1 4 (Nat.le_refl _) rfl
       have hw:=hw.alloc (.cells #[.string ⟨#[97,97]⟩,.string ⟨#[]⟩,.string ⟨#[122,122]⟩,.string ⟨#[65]⟩] 9)
       have hsq:=hsq.alloc (.cells #[.string ⟨#[97,97]⟩,.string ⟨#[]⟩,.string ⟨#[122,122]⟩,.string ⟨#[65]⟩] 9)
       refine hK.out _ _ (hw.box.two_.1) (fun hHeld => ?_)
       clear hK K
       (try simp only [Act.put,List.setIfInBounds_toArray,List.set_cons_zero,List.set_cons_succ])
       refine wpAnyH_ready (rs:=[9]) (by kernel_rfl) (by simp) ?_
       refine AllReadyH.cons rfl (fun K hK => ?_) AllReadyH.nil
       go_simp
       go_at_call 8
       refine (some_any g _ _ _ _ odd4 _ hsq (by omega) hl8 hg8 (by decide) (by decide)).mono ?_
       rintro e ws ⟨z,rfl,hz,hsq,hgs⟩
       have hw:=hw.stream hgs
       go_wp2_with fail
       refine hK.out _ _ (hw.box.two_.1) (fun hHeld => ?_)
       clear hK K
       (try simp only [Act.put,List.setIfInBounds_toArray,List.set_cons_zero,List.set_cons_succ])
       (refine wpAnyH_take (i:=10) (v:=?_) (by (simp only [List.getElem?_toArray,List.getElem?_cons_succ,List.getElem?_cons_zero]; rfl)) (by kernel_rfl) (by kernel_rfl) (by kernel_rfl) (by exact fun _ _ _ h => h) (Or.inl ⟨by rfl,?_⟩) (by assumption) ?_; (rotate_left 1; (intro w hSw; (try dsimp only at hSw); go_simp); (try with_reducible rfl)); (try simp only [Act.put,List.setIfInBounds_toArray,List.set_cons_zero,List.set_cons_succ]))
       refine wpAnyH_ready (rs:=[11]) (by kernel_rfl) (by simp) ?_
       refine AllReadyH.cons rfl (fun K hK => ?_) AllReadyH.nil
       obtain ⟨sb',esb,hsbl,hsb2,⟨u9,cu⟩,fu⟩:=hw.cellS hj
       have esb2 : sb = sb':=congrArg Addr.block (Option.some.inj esb)
       subst esb2
       go_simp
       clear cu fu
       have hw:=hw.seg1 j z
       have hsq:=hsq.set (p:=⟨sb,j,none⟩) (by simp; omega) (encStr z)
       refine hK.out _ _ (hw.box.two_.1) (fun hHeld => ?_)
       clear hK K
       (try simp only [Act.put,List.setIfInBounds_toArray,List.set_cons_zero,List.set_cons_succ])
       refine wpAnyH_done (by kernel_rfl) ?_ _
       have HSL : Hid (∀ s ∈ ss.set j z,s.length ≤ 2):=Lib.hid (fun s hs => by
        rcases List.mem_or_eq_of_mem_set hs with h | h
        ·exact HSL.out s h
        ·have : ∀ s ∈ odd4,s.length ≤ 2:=by decide
         rw [h]; exact this z hz)
       generalize ws.setCell ⟨sb,j,none⟩ (encStr z) = wz at *
       generalize ss.set j z = ss at *
       go_wp2_with fail
       go_meet
       exact ⟨_,c7,ss,rfl,hw,hsq.more (by omega),hnsc,HSL⟩
      case refine_2 =>
       go_simp
       have hg8 : g < w8.drew.heap.size:=hsq.lt
       have hl8 : Row (w8.drew.alloc (.cells #[.string ⟨#[97,97]⟩,.string ⟨#[]⟩,.string ⟨#[122,122]⟩,.string ⟨#[65]⟩] 9)) w8.drew.heap.size 1 (some ⟨w8.drew.heap.size,0,none⟩) 4 (strs odd4):=row_new _ #[.string ⟨#[97,97]⟩,.string ⟨#[]⟩,.string ⟨#[122,122]⟩,.string ⟨#[65]⟩] _ _ 1 4 (Nat.le_refl _) rfl
       have hw:=hw.alloc (.cells #[.string ⟨#[97,97]⟩,.string ⟨#[]⟩,.string ⟨#[122,122]⟩,.string ⟨#[65]⟩] 9)
       have hsq:=hsq.alloc (.cells #[.string ⟨#[97,97]⟩,.string ⟨#[]⟩,.string ⟨#[122,122]⟩,.string ⟨#[65]⟩] 9)
       refine hK.out _ _ (hw.box.two_.1) (fun hHeld => ?_)
       clear hK K
       (try simp only [Act.put,List.setIfInBounds_toArray,List.set_cons_zero,List.set_cons_succ])
       refine wpAnyH_ready (rs:=[6]) (by kernel_rfl) (by simp) ?_
       refine AllReadyH.cons rfl (fun K hK => ?_) AllReadyH.nil
       go_simp
       go_at_call 16
       refine (next_any g _ _ _ hsq (by omega) (by omega)).mono ?_
       rintro e wn ⟨r9,rfl,h90,h91,h92,hsq,hgn⟩
       have h93:=h91 (by omega)
       obtain ⟨j,rfl⟩:=Int.eq_ofNat_of_zero_le h90
       have hj : j < n:=by omega
       clear h91 h92 h93 h90
       have hw:=hw.stream hgn
       have hl8:=hl8.grown hgn hg8
       go_wp2_with fail
       refine hK.out _ _ (hw.box.two_.1) (fun hHeld => ?_)
       clear hK K
       (try simp only [Act.put,List.setIfInBounds_toArray,List.set_cons_zero,List.set_cons_succ])
       refine wpAnyH_ready (rs:=[9]) (by kernel_rfl) (by simp) ?_
       refine AllReadyH.cons rfl (fun K hK => ?_) AllReadyH.nil
       go_simp
       go_at_call 8
       refine (some_any g _ _ _ _ odd4 _ hsq (by omega) hl8 hg8 (by decide) (by decide)).mono ?_
       rintro e ws ⟨z,rfl,hz,hsq,hgs⟩
       have hw:=hw.stream hgs
       go_wp2_with fail
       refine hK.out _ _ (hw.box.two_.1) (fun hHeld => ?_)
       clear hK K
       (try simp only [Act.put,List.setIfInBounds_toArray,List.set_cons_zero,List.set_cons_succ])
       (refine wpAnyH_take (i:=10) (v:=?_) (by (simp only [List.getElem?_toArray,List.getElem?_cons_succ,List.getElem?_cons_zero]; rfl)) (by kernel_rfl) (by kernel_rfl) (by kernel_rfl) (by exact fun _ _ _ h => h) (Or.inl ⟨by rfl,?_⟩) (by assumption) ?_; (rotate_left 1; (intro w hSw; (try dsimp only at hSw); go_simp); (try with_reducible rfl)); (try simp only [Act.put,List.setIfInBounds_toArray,List.set_cons_zero,List.set_cons_succ]))
       refine wpAnyH_ready (rs:=[11]) (by kernel_rfl) (by simp) ?_
       refine AllReadyH.cons rfl (fun K hK => ?_) AllReadyH.nil
       obtain ⟨sb',esb,hsbl,hsb2,⟨u9,cu⟩,fu⟩:=hw.cellS hj
       have esb2 : sb = sb':=congrArg Addr.block (Option.some.inj esb)
       subst esb2
       go_simp
       clear cu fu
       have hw:=hw.seg1 j z
       have hsq:=hsq.set (p:=⟨sb,j,none⟩) (by simp; omega) (encStr z)
       refine hK.out _ _ (hw.box.two_.1) (fun hHeld => ?_)
       clear hK K
       (try simp only [Act.put,List.setIfInBounds_toArray,List.set_cons_zero,List.set_cons_succ])
       refine wpAnyH_done (by kernel_rfl) ?_ _
       have HSL : Hid (∀ s ∈ ss.set j z,s.length ≤ 2):=Lib.hid (fun s hs => by
        rcases List.mem_or_eq_of_mem_set hs with h | h
        ·exact HSL.out s h
        ·have : ∀ s ∈ odd4,s.length ≤ 2:=by decide
         rw [h]; exact this z hz)
       generalize ws.setCell ⟨sb,j,none⟩ (encStr z) = wz at *
       generalize ss.set j z = ss at *
       go_wp2_with fail
       go_meet
       exact ⟨_,c7,ss,rfl,hw,hsq.more (by omega),hnsc,HSL⟩
     case refine_2 =>
      go_simp
      have hg8 : g < w8.drew.heap.size:=hsq.lt
      have hl8 : Row (w8.drew.alloc (.cells #[.string ⟨#[97,97]⟩,.string ⟨#[]⟩,.string ⟨#[122,122]⟩,.string ⟨#[65]⟩] 9)) w8.drew.heap.size 1 (some ⟨w8.drew.heap.size,0,none⟩) 4 (strs odd4):=row_new _ #[.string ⟨#[97,97]⟩,.string ⟨#[]⟩,.string ⟨#[122,122]⟩,.string ⟨#[65]⟩] _ _ 1 4 (Nat.le_refl _) rfl
      have hw:=hw.alloc (.cells #[.string ⟨#[97,97]⟩,.string ⟨#[]⟩,.string ⟨#[122,122]⟩,.string ⟨#[65]⟩] 9)
      have hsq:=hsq.alloc (.cells #[.string ⟨#[97,97]⟩,.string ⟨#[]⟩,.string ⟨#[122,122]⟩,.string ⟨#[65]⟩] 9)
      refine hK.out _ _ (hw.box.two_.1) (fun hHeld => ?_)
      clear hK K
      (try simp only [Act.put,List.setIfInBounds_toArray,List.set_cons_zero,List.set_cons_succ])
      refine wpAnyH_ready (rs:=[5]) (by kernel_rfl) (by simp) ?_
      refine AllReadyH.cons rfl (fun K hK => ?_) AllReadyH.nil
      go_simp
      refine hK.out _ _ (hw.box.two_.1) (fun hHeld => ?_)
      clear hK K
      (try simp only [Act.put,List.setIfInBounds_toArray,List.set_cons_zero,List.set_cons_succ])
      refine wpAnyH_ready (rs:=[6]) (by kernel_rfl) (by simp) ?_
      refine AllReadyH.cons rfl (fun K hK => ?_) AllReadyH.nil
      go_simp
      go_at_call 16
      refine (next_any g _ _ _ hsq (by omega) (by omega)).mono ?_
      rintro e wn ⟨r9,rfl,h90,h91,h92,hsq,hgn⟩
      have h93:=h91 (by omega)
      obtain ⟨j,rfl⟩:=Int.eq_ofNat_of_zero_le h90
      have hj : j < n:=by omega
      clear h91 h92 h93 h90
      have hw:=hw.stream hgn
      have hl8:=hl8.grown hgn hg8
      go_wp2_with fail
      refine hK.out _ _ (hw.box.two_.1) (fun hHeld => ?_)
      clear hK K
      (try simp only [Act.put,List.setIfInBounds_toArray,List.set_cons_zero,List.set_cons_succ])
      refine wpAnyH_ready (rs:=[9]) (by kernel_rfl) (by simp) ?_
      refine AllReadyH.cons rfl (fun K hK => ?_) AllReadyH.nil
      go_simp
      go_at_call 8
      refine (some_any g _ _ _ _ odd4 _ hsq (by omega) hl8 hg8 (by decide) (by decide)).mono ?_
      rintro e ws ⟨z,rfl,hz,hsq,hgs⟩
      have hw:=hw.stream hgs
      go_wp2_with fail
      refine hK.out _ _ (hw.box.two_.1) (fun hHeld => ?_)
      clear hK K
      (try simp only [Act.put,List.setIfInBounds_toArray,List.set_cons_zero,List.set_cons_succ])
      (refine wpAnyH_take (i:=10) (v:=?_) (by (simp only [List.getElem?_toArray,List.getElem?_cons_succ,List.getElem?_cons_zero]; rfl)) (by kernel_rfl) (by kernel_rfl) (by kernel_rfl) (by exact fun _ _ _ h => h) (Or.inl ⟨by rfl,?_⟩) (by assumption) ?_; (rotate_left 1; (intro w hSw; (try dsimp only at hSw); go_simp); (try with_reducible rfl)); (try simp only [Act.put,List.setIfInBounds_toArray,List.set_cons_zero,List.set_cons_succ]))
      refine wpAnyH_ready (rs:=[11]) (by kernel_rfl) (by simp) ?_
      refine AllReadyH.cons rfl (fun K hK => ?_) AllReadyH.nil
      obtain ⟨sb',esb,hsbl,hsb2,⟨u9,cu⟩,fu⟩:=hw.cellS hj
      have esb2 : sb = sb':=congrArg Addr.block (Option.some.inj esb)
      subst esb2
      go_simp
      clear cu fu
      have hw:=hw.seg1 j z
      have hsq:=hsq.set (p:=⟨sb,j,none⟩) (by simp; omega) (encStr z)
      refine hK.out _ _ (hw.box.two_.1) (fun hHeld => ?_)
      clear hK K
      (try simp only [Act.put,List.setIfInBounds_toArray,List.set_cons_zero,List.set_cons_succ])
      refine wpAnyH_done (by kernel_rfl) ?_ _
      have HSL : Hid (∀ s ∈ ss.set j z,s.length ≤ 2):=Lib.hid (fun s hs => by
       rcases List.mem_or_eq_of_mem_set hs with h | h
       ·exact HSL.out s h
       ·have : ∀ s ∈ odd4,s.length ≤ 2:=by decide
        rw [h]; exact this z hz)
      generalize ws.setCell ⟨sb,j,none⟩ (encStr z) = wz at *
      generalize ss.set j z = ss at *
      go_wp2_with fail
      go_meet
      exact ⟨_,c7,ss,rfl,hw,hsq.more (by omega),hnsc,HSL⟩
   case rest =>
    obtain ⟨S3,sc3,ss3,rfl,hw,hsq,hnsc,HSL⟩:=hcut
    have hssl:=HSL.out
    obtain ⟨wf0,hwf0⟩ : ∃ W,W = wc:=⟨_,rfl⟩
    subst hwf0
    obtain ⟨q0,q1⟩:=hw.box.two_
    have qz:=hw.box.lt
    by_cases hm0 : 0 < m
    ·have dm : decide (0 < m) = true:=by simpa using hm0
     go_wp2_with fail
     refine (flip_any g _ _ _ hsq (by omega) (by omega)).mono ?_
     rintro e wf ⟨bf,rfl,hsf,hgf⟩
     have hw:=hw.stream hgf
     have hsq:=hsf
     clear q0 q1 qz hsf hgf
     cases bf
     ·skip
      obtain ⟨q0,q1⟩:=hw.box.two_
      have qz:=hw.box.lt
      obtain ⟨r0,r1⟩:=hw.res.two_
      have rz:=hw.res.lt
      have rf0:=hw.res.thaw 0
      have rf1:=hw.res.thaw 1
      have hle:=hw.len
      have hme:=hw.men
      subst hle
      subst hme
      have HW9:=Lib.hid hw
      have HS9:=Lib.hid hsq
      have hm9 : atts.length ≤ 7:=by omega
      clear hw hsq
      go_wp2_with fail
      have ht:=HW9.out.toldO rfl rfl (.slice S3 ss3.length sc3) (.slice A atts.length c)
      obtain ⟨z0,z1,z2⟩:=HW9.out.res.two2 (.slice S3 ss3.length sc3) (.slice A atts.length c)
      refine bodyPost_ret (v:=.agg #[.slice S3 ss3.length sc3,.slice A atts.length c]) (by simp [results,Tryz.results26,go_sem,z0,z1,z2]) rfl ?_
      exact ⟨S3,A,sc3,c,ss3,atts,rfl,ht.1,hnsc,by omega,by omega,by omega,HW9.out.lens,hssl,((HS9.out.set (p:=⟨w.heap.size,0,none⟩) hlt _).set (p:=⟨w.heap.size,1,none⟩) hlt _).more (by omega),ht.2⟩
     ·obtain ⟨ab,rfl,_,hab2,_,_⟩:=hw.cellA hm0
      go_upto_region 12 with (fail)
      have hw:=hw.drew
      have hsq:=hsq.drew
      refine wp_region_held_drew (S:=(fun w' => w'.cell? ⟨hb,1,none⟩ = some (.slice (some ⟨ab,0,none⟩) m c))) (by kernel_rfl) (hw.box.two_.2) (fun hHeld => ?_)
      (refine wpAnyH_take (i:=0) (v:=?_) (by (simp only [List.getElem?_toArray,List.getElem?_cons_zero]; rfl)) (by kernel_rfl) (by kernel_rfl) (by kernel_rfl) (by exact fun _ _ _ h => h) (Or.inl ⟨by rfl,?_⟩) (by assumption) ?_; (rotate_left 1; (intro w hSw; (try dsimp only at hSw); go_simp); (try with_reducible rfl)); (try simp only [Act.put,List.setIfInBounds_toArray,List.set_cons_zero,List.set_cons_succ]))
      (refine wpAnyH_take (i:=1) (v:=?_) (by (simp only [List.getElem?_toArray,List.getElem?_cons_succ,List.getElem?_cons_zero]; rfl)) (by kernel_rfl) (by kernel_rfl) (by kernel_rfl) (by exact fun _ _ _ h => h) (Or.inl ⟨by rfl,?_⟩) (by assumption) ?_; (rotate_left 1; (intro w hSw; (try dsimp only at hSw); go_simp); (try with_reducible rfl)); (try simp only [Act.put,List.setIfInBounds_toArray,List.set_cons_zero,List.set_cons_succ]))
      (refine wpAnyH_take (i:=2) (v:=?_) (by (simp only [List.getElem?_toArray,List.getElem?_cons_succ,List.getElem?_cons_zero]; rfl)) (by kernel_rfl) (by kernel_rfl) (by kernel_rfl) (by exact fun _ _ _ h => h) (Or.inl ⟨by rfl,?_⟩) (by assumption) ?_; (rotate_left 1; (intro w hSw; (try dsimp only at hSw); go_simp); (try with_reducible rfl)); (try simp only [Act.put,List.setIfInBounds_toArray,List.set_cons_zero,List.set_cons_succ]))
      (refine wpAnyH_take (i:=3) (v:=?_) (by (simp only [List.getElem?_toArray,List.getElem?_cons_succ,List.getElem?_cons_zero]; rfl)) (by kernel_rfl) (by kernel_rfl) (by kernel_rfl) (by exact fun _ _ _ h => h) (Or.inl ⟨by rfl,?_⟩) (by assumption) ?_; (rotate_left 1; (intro w hSw; (try dsimp only at hSw); go_simp); (try with_reducible rfl)); (try simp only [Act.put,List.setIfInBounds_toArray,List.set_cons_zero,List.set_cons_succ]))
      (refine wpAnyH_take (i:=4) (v:=?_) (by (simp only [List.getElem?_toArray,List.getElem?_cons_succ,List.getElem?_cons_zero]; rfl)) (by kernel_rfl) (by kernel_rfl) (by kernel_rfl) (by exact fun _ _ _ h => h) (Or.inl ⟨by rfl,?_⟩) (by assumption) ?_; (rotate_left 1; (intro w hSw; (try dsimp only at hSw); go_simp); (try with_reducible rfl)); (try simp only [Act.put,List.setIfInBounds_toArray,List.set_cons_zero,List.set_cons_succ]))
      refine wpAnyH_ready (rs:=[5]) (by kernel_rfl) (by simp) ?_
      refine AllReadyH.cons rfl (fun K hK => ?_) AllReadyH.nil
      go_simp
      refine hK.out _ _ (hw.box.two_.2) (fun hHeld => ?_)
      clear hK K
      (try simp only [Act.put,List.setIfInBounds_toArray,List.set_cons_zero,List.set_cons_succ])
      refine wpAnyH_ready (rs:=[6]) (by kernel_rfl) (by simp) ?_
      refine AllReadyH.cons rfl (fun K hK => ?_) AllReadyH.nil
      go_simp
      go_at_call 16
      refine (next_any g _ _ _ hsq (by omega) (by omega)).mono ?_
      rintro e wn ⟨r9,rfl,h90,h91,h92,hsq,hgn⟩
      have h93:=h91 (by omega)
      obtain ⟨j,rfl⟩:=Int.eq_ofNat_of_zero_le h90
      have hj : j < m:=by omega
      clear h91 h92 h93 h90
      have hw:=hw.stream hgn
      go_wp2_with fail
      refine hK.out _ _ (hw.box.two_.2) (fun hHeld => ?_)
      clear hK K
      (try simp only [Act.put,List.setIfInBounds_toArray,List.set_cons_zero,List.set_cons_succ])
      (refine wpAnyH_take (i:=7) (v:=?_) (by (simp only [List.getElem?_toArray,List.getElem?_cons_succ,List.getElem?_cons_zero]; rfl)) (by kernel_rfl) (by kernel_rfl) (by kernel_rfl) (by exact fun _ _ _ h => h) (Or.inl ⟨by rfl,?_⟩) (by assumption) ?_; (rotate_left 1; (intro w hSw; (try dsimp only at hSw); go_simp); (try with_reducible rfl)); (try simp only [Act.put,List.setIfInBounds_toArray,List.set_cons_zero,List.set_cons_succ]))
      (refine wpAnyH_take (i:=8) (v:=?_) (by (simp only [List.getElem?_toArray,List.getElem?_cons_succ,List.getElem?_cons_zero]; rfl)) (by kernel_rfl) (by kernel_rfl) (by kernel_rfl) (by exact fun _ _ _ h => h) (Or.inl ⟨by rfl,?_⟩) (by assumption) ?_; (rotate_left 1; (intro w hSw; (try dsimp only at hSw); go_simp); (try with_reducible rfl)); (try simp only [Act.put,List.setIfInBounds_toArray,List.set_cons_zero,List.set_cons_succ]))
      refine wpAnyH_done (by kernel_rfl) ?_ _
      obtain ⟨ab',eab,hab,_,⟨x,cx⟩,fx⟩:=hw.cellA hj
      have eab2 : ab = ab':=congrArg Addr.block (Option.some.inj eab)
      subst eab2
      clear eab
      go_wp2_with fail
      refine (pick_any g _ _ _ _ [x,0,1,1000001] _ (hsq.alloc _) (by omega) (row_new _ _ _ _ _ _ (Nat.le_refl _) rfl) hsq.lt (by simp) (by simp)).mono ?_
      rintro e wp ⟨rp,rfl,-,hsp,hgp⟩
      have hw:=(hw.alloc _).stream hgp
      have hsq:=hsp
      clear cx fx hab hsp hgp
      obtain ⟨ab',eab,hab,_,⟨x2,cx⟩,fx⟩:=hw.cellA hj
      have eab2 : ab = ab':=congrArg Addr.block (Option.some.inj eab)
      subst eab2
      clear eab
      go_upto_region 14 with (fail)
      have hja : j < atts.length:=by have:=hw.men; omega
      have hw:=hw.no1 hja rp
      have hsq:=hsq.set (p:=⟨ab,j * 2,none⟩) (by simp; omega) (.int .i64 rp)
      generalize wp.setCell ⟨ab,j * 2,none⟩ (.int .i64 rp) = wq at *
      generalize atts.set j (rp,atts[j].2) = atts at *
      generalize cs.set (j * 2) (.int .i64 rp) = cs at *
      clear cx fx hab
      obtain ⟨q0,q1⟩:=hw.box.two_
      have qz:=hw.box.lt
      obtain ⟨r0,r1⟩:=hw.res.two_
      have rz:=hw.res.lt
      have rf0:=hw.res.thaw 0
      have rf1:=hw.res.thaw 1
      have hle:=hw.len
      have hme:=hw.men
      subst hle
      subst hme
      have HW9:=Lib.hid hw
      have HS9:=Lib.hid hsq
      have hm9 : atts.length ≤ 7:=by omega
      clear hw hsq
      go_wp2_with fail
      have ht:=HW9.out.toldO rfl rfl (.slice S3 ss3.length sc3) (.slice (some ⟨ab,0,none⟩) atts.length c)
      obtain ⟨z0,z1,z2⟩:=HW9.out.res.two2 (.slice S3 ss3.length sc3) (.slice (some ⟨ab,0,none⟩) atts.length c)
      refine bodyPost_ret (v:=.agg #[.slice S3 ss3.length sc3,.slice (some ⟨ab,0,none⟩) atts.length c]) (by simp [results,Tryz.results26,go_sem,z0,z1,z2]) rfl ?_
      exact ⟨S3,(some ⟨ab,0,none⟩),sc3,c,ss3,atts,rfl,ht.1,hnsc,by omega,by omega,by omega,HW9.out.lens,hssl,((HS9.out.set (p:=⟨w.heap.size,0,none⟩) hlt _).set (p:=⟨w.heap.size,1,none⟩) hlt _).more (by omega),ht.2⟩
    ·have dm : decide (0 < m) = false:=by simpa using hm0
     obtain ⟨q0,q1⟩:=hw.box.two_
     have qz:=hw.box.lt
     obtain ⟨r0,r1⟩:=hw.res.two_
     have rz:=hw.res.lt
     have rf0:=hw.res.thaw 0
     have rf1:=hw.res.thaw 1
     have hle:=hw.len
     have hme:=hw.men
     subst hle
     subst hme
     have HW9:=Lib.hid hw
     have HS9:=Lib.hid hsq
     have hm9 : atts.length ≤ 7:=by omega
     clear hw hsq
     go_wp2_with fail
     have ht:=HW9.out.toldO rfl rfl (.slice S3 ss3.length sc3) (.slice A atts.length c)
     obtain ⟨z0,z1,z2⟩:=HW9.out.res.two2 (.slice S3 ss3.length sc3) (.slice A atts.length c)
     refine bodyPost_ret (v:=.agg #[.slice S3 ss3.length sc3,.slice A atts.length c]) (by simp [results,Tryz.results26,go_sem,z0,z1,z2]) rfl ?_
     exact ⟨S3,A,sc3,c,ss3,atts,rfl,ht.1,hnsc,by omega,by omega,by omega,HW9.out.lens,hssl,((HS9.out.set (p:=⟨w.heap.size,0,none⟩) hlt _).set (p:=⟨w.heap.size,1,none⟩) hlt _).more (by omega),ht.2⟩
theorem history_any (g N : Nat) (w : World) (hs : Str w g N) (hN : N < 4611686018426000000) :
  Calls Tryz.prog 26 #[.pointer (some ⟨g,0,none⟩)] w (HistoryPost w g (N + 300)):=by
 refine (historyO_any g N w hs hN).mono ?_
 rintro e w' ⟨SA,TA,c,d,segs,atts,he,ho,h⟩
 exact ⟨SA,TA,c,d,segs,atts,he,ho.hist,h⟩
end Go.Proofs.YtggnccafmadacaaGreatDoor
