/- Texts of this seat, laid together: MgH. -/
import Derived.Test.YtapjahbflhingaaGreatDoorBu28
/- The walk of the stream's function that parts a history into two. -/
namespace Go.Proofs.YtapjahbflhingaaGreatDoor
set_option linter.unusedVariables false
set_option linter.unusedSimpArgs false
open Go.RowKit Go.Sort

/-- Two histories that are built side by side; their splits are another's. -/
structure HH2 (wr : World) (base ra rb : Nat) (uA uB : Value) (A : Option Addr) (d : Nat) (zs : List AttE) (B : Option Addr) (d' : Nat) (ys : List AttE) : Prop where
  ba : Blk wr ra 29 #[uA, .slice A zs.length d]
  bb : Blk wr rb 29 #[uB, .slice B ys.length d']
  oa : wr.ownsRow base 81 2 (.slice A zs.length d) zs.length (zs.flatMap encE)
  ob : wr.ownsRow base 81 2 (.slice B ys.length d') ys.length (ys.flatMap encE)
  dj : ∀ k, (Value.slice A zs.length d).ownBlock = some k → (Value.slice B ys.length d').ownBlock = some k → False
  ne : ra ≠ rb
section
variable {wr w' : World} {base ra rb g : Nat} {uA uB : Value} {A B : Option Addr} {d d' : Nat} {zs ys : List AttE}
theorem HH2.swap (h : HH2 wr base ra rb uA uB A d zs B d' ys) : HH2 wr base rb ra uB uA B d' ys A d zs := ⟨h.bb, h.ba, h.ob, h.oa, fun k a b => h.dj k b a, fun e => h.ne e.symm⟩
theorem HH2.below (h : HH2 wr base ra rb uA uB A d zs B d' ys) (hb : Below wr.heap.size wr w') : HH2 w' base ra rb uA uB A d zs B d' ys := ⟨h.ba.below hb, h.bb.below hb, own_keep h.oa hb, own_keep h.ob hb, h.dj, h.ne⟩
theorem HH2.alloc (h : HH2 wr base ra rb uA uB A d zs B d' ys) (o : Obj) : HH2 (wr.alloc o) base ra rb uA uB A d zs B d' ys := h.below ((Below.refl _ _).alloc (Nat.le_refl _) o)
theorem HH2.stream (h : HH2 wr base ra rb uA uB A d zs B d' ys) (hg : wr.grownBy w' (some g)) (h1 : g < base) (h2 : base ≤ ra) (h3 : base ≤ rb) : HH2 w' base ra rb uA uB A d zs B d' ys :=
  ⟨h.ba.stream hg (by omega), h.bb.stream hg (by omega), own_grown h.oa hg h1, own_grown h.ob hg h1, h.dj, h.ne⟩
theorem HH2.blk_app (h : HH2 wr base ra rb uA uB A d zs B d' ys) (hg : wr.grownBy w' (Value.slice A zs.length d).ownBlock) : Blk w' ra 29 #[uA, .slice A zs.length d] := h.ba.otherOf hg (own_kindOf h.oa) (by decide)
theorem HH2.push (h : HH2 wr base ra rb uA uB A d zs B d' ys) (hg : wr.grownBy w' (Value.slice A zs.length d).ownBlock) {x : AttE} {A5 : Option Addr} {d5 : Nat}
    (h5 : w'.ownsRow base 81 2 (.slice A5 (zs.length + 1) d5) (zs.length + 1) (zs.flatMap encE ++ encE x)) (hl : (Value.slice A5 (zs.length + 1) d5).ownBlock = (Value.slice A zs.length d).ownBlock ∨ (Value.slice A5 (zs.length + 1) d5).ownBlock = some wr.heap.size) :
    HH2 (w'.setCell ⟨ra, 1, none⟩ (.slice A5 (zs.length + 1) d5)) base ra rb uA uB A5 d5 (zs ++ [x]) B d' ys := by
  have hk := own_kindOf h.oa
  have ba5 := h.blk_app hg
  have bb5 := h.bb.otherOf hg hk (by decide)
  have ob5 : w'.ownsRow base 81 2 (.slice B ys.length d') ys.length (ys.flatMap encE) := h.ob.kept hg (by
    cases hv : (Value.slice B ys.length d').ownBlock with
    | none => exact .inl rfl
    | some k => right; intro he; exact h.dj k he.symm hv)
  have p := grown_pokeOf w' ra 1 (.slice A5 (zs.length + 1) d5)
  have e : (zs ++ [x]).flatMap encE = zs.flatMap encE ++ encE x := by simp
  refine ⟨by rw [List.length_append]; simpa using ba5.poke 1 (.slice A5 (zs.length + 1) d5), bb5.past _ _ _ (fun e => h.ne e.symm), ?_, own_otherOf ob5 p ba5.kindOf (by decide), ?_, h.ne⟩
  · rw [e, List.length_append]; exact own_otherOf h5 p ba5.kindOf (by decide)
  · intro k hk1 hk2
    rw [List.length_append] at hk1
    have hk1' : (Value.slice A5 (zs.length + 1) d5).ownBlock = some k := hk1
    rcases hl with hl | hl
    · rw [hl] at hk1'; exact h.dj k hk1' hk2
    · rw [hl] at hk1'
      injection hk1' with hk1'
      have := (h.ob.lt k hk2).2
      omega
/-- A box is written anew as it is. -/
theorem HH2.same (h : HH2 wr base ra rb uA uB A d zs B d' ys) : HH2 ((wr.setCell ⟨ra, 0, none⟩ uA).setCell ⟨ra, 1, none⟩ (.slice A zs.length d)) base ra rb uA uB A d zs B d' ys := by
  have p := grown_pokeOf wr ra 0 uA
  have k1 := h.ba.poke 0 uA
  have q := grown_pokeOf (wr.setCell ⟨ra, 0, none⟩ uA) ra 1 (.slice A zs.length d)
  exact ⟨by simpa using k1.poke 1 (.slice A zs.length d), (h.bb.past _ _ _ (fun e => h.ne e.symm)).past _ _ _ (fun e => h.ne e.symm), own_otherOf (own_otherOf h.oa p h.ba.kindOf (by decide)) q k1.kindOf (by decide), own_otherOf (own_otherOf h.ob p h.ba.kindOf (by decide)) q k1.kindOf (by decide), h.dj, h.ne⟩
theorem HH2.same_str (h : HH2 wr base ra rb uA uB A d zs B d' ys) {v : Value} {n : Nat} {xs : List Value} (ho : wr.ownsRow base 9 1 v n xs) : ((wr.setCell ⟨ra, 0, none⟩ uA).setCell ⟨ra, 1, none⟩ (.slice A zs.length d)).ownsRow base 9 1 v n xs :=
  own_past (own_past ho h.ba (by decide) 0 uA) (h.ba.poke 0 uA) (by decide) 1 (.slice A zs.length d)
end
/-- A row of attempts and their splits, as a history. -/
theorem hist_of {w0 w : World} {base lo g : Nat} {A SA : Option Addr} {d sc : Nat} {zs : List AttE} {ss : List (List UInt8)} (hr : w.ownsRow base 81 2 (.slice A zs.length d) zs.length (zs.flatMap encE)) (hs : w.ownsRow base 9 1 (.slice SA ss.length sc) ss.length (strs ss)) (hb : lo ≤ base)
    (hx : ∀ x ∈ zs, Row w0 lo 1 x.2.1 x.1.2.length (ints x.1.2)) (hg : w0.grownBy w (some g)) (hl : g < lo) : Hist w lo SA A ss (attE zs) := by
  refine ⟨(Row.of_own hs).weak hb, zs.flatMap encE, by rw [attE_len]; exact (Row.of_own hr).weak hb, fun i hi => ?_⟩
  have hi' : i < zs.length := by rw [attE_len] at hi; exact hi
  have e : (attE zs)[i] = zs[i].1 := by simp [attE]
  rw [e]
  exact ⟨zs[i].2.1, zs[i].2.2, (encE_at zs i hi').1, (encE_at zs i hi').2, (hx _ (List.getElem_mem _)).grown hg hl⟩
theorem Hist.att2 {w w' : World} {lo g : Nat} {SA TA : Option Addr} {segs : List (List UInt8)} {atts : List Att} (h : Hist w lo SA TA segs atts) {i : Nat} (hi : i < atts.length) (hg : w.grownBy w' (some g)) (hl : g < lo) :
    ∃ b off B c, TA = some ⟨b, off, none⟩ ∧ b < w'.heap.size ∧ w'.cell? ⟨b, off + i * 2, none⟩ = some (.int .i64 atts[i].1) ∧ w'.cell? ⟨b, off + i * 2 + 1, none⟩ = some (.slice B atts[i].2.length c) ∧ Row w lo 1 B atts[i].2.length (ints atts[i].2) := by
  obtain ⟨_, cs, h2, h3⟩ := h
  obtain ⟨B, c, a, b', d⟩ := h3 i hi
  obtain ⟨b, off, e, hlb, hb, hc⟩ := h2.2 (by omega)
  have hk : ∀ j u, cs[j]? = some u → w'.cell? ⟨b, off + j, none⟩ = some u := fun j u hu => (World.cell?_of_block (w := w) (hg.block b hb (fun e => by injection e with e; omega))).trans (hc j u hu)
  exact ⟨b, off, B, c, e, Nat.lt_of_lt_of_le hb hg.size, hk _ _ a, by rw [Nat.add_assoc]; exact hk _ _ b', d⟩
def Parts (atts us vs : List Att) : Prop := us.Sublist atts ∧ vs.Sublist atts ∧ ∀ x ∈ atts, x ∈ us ∨ x ∈ vs
theorem Parts.step {atts us vs : List Att} {k : Nat} (h : Parts (atts.take k) us vs) (hk : k < atts.length) : Parts (atts.take (k + 1)) (us ++ [atts[k]]) vs ∧ Parts (atts.take (k + 1)) us (vs ++ [atts[k]]) ∧ Parts (atts.take (k + 1)) (us ++ [atts[k]]) (vs ++ [atts[k]]) := by
  obtain ⟨h1, h2, h3⟩ := h
  rw [List.take_succ_eq_append_getElem hk]
  have s1 := h1.append_right [atts[k]]
  have s2 := h2.append_right [atts[k]]
  have t1 := h1.trans (List.sublist_append_left (atts.take k) [atts[k]])
  have t2 := h2.trans (List.sublist_append_left (atts.take k) [atts[k]])
  refine ⟨⟨s1, t2, fun x hx => ?_⟩, ⟨t1, s2, fun x hx => ?_⟩, ⟨s1, s2, fun x hx => ?_⟩⟩ <;>
  · rcases List.mem_append.1 hx with hx | hx
    · rcases h3 x hx with h | h <;> simp [h]
    · simp at hx; simp [hx]
def HalfPost (w : World) (g N lo : Nat) (segs : List (List UInt8)) (atts : List Att) (e : Ending) (w' : World) : Prop :=
  ∃ (SA TA SB TB : Option Addr) (c1 d1 c2 d2 : Nat) (us vs : List Att), e = .returned (.tuple #[.agg #[.slice SA segs.length c1, .slice TA us.length d1], .agg #[.slice SB segs.length c2, .slice TB vs.length d2]]) ∧ Hist w' lo SA TA segs us ∧ Hist w' lo SB TB segs vs ∧ Parts atts us vs ∧ segs.length ≤ c1 ∧ segs.length ≤ c2 ∧ Str w' g N ∧ w.grownBy w' (some g)
set_option maxHeartbeats 8000000 in
set_option maxRecDepth 100000 in
theorem half_any (g N lo : Nat) (SA TA : Option Addr) (c d : Nat) (segs : List (List UInt8)) (atts : List Att) (w : World) (hs : Str w g N) (hN : N < 4611686018425000000) (hh : Hist w lo SA TA segs atts) (hg : g < lo) (hlo : lo ≤ w.heap.size) (n2 : segs.length ≤ 60) (m : atts.length ≤ 500) :
    Calls Tryz.prog 25 #[.pointer (some ⟨g, 0, none⟩), .agg #[.slice SA segs.length c, .slice TA atts.length d]] w (HalfPost w g (N + atts.length) lo segs atts) := by
  have hlt0 := hs.lt
  have HHW := Lib.hid hh
  go_enter Tryz.func25, Tryz.ntmps25
  go_upto_region 1 with (fail)
  have kH : Blk (((w.alloc (.cells #[.slice SA segs.length c, .slice TA atts.length d] 29)).alloc (.cells #[.slice none 0 0, .slice none 0 0] 29)).alloc (.cells #[.slice none 0 0, .slice none 0 0] 29)) w.heap.size 29 #[.slice SA segs.length c, .slice TA atts.length d] := ((Blk.new _ _ _).alloc _).alloc _
  have kA : Blk (((w.alloc (.cells #[.slice SA segs.length c, .slice TA atts.length d] 29)).alloc (.cells #[.slice none 0 0, .slice none 0 0] 29)).alloc (.cells #[.slice none 0 0, .slice none 0 0] 29)) (w.heap.size + 1) 29 #[.slice none 0 0, .slice none 0 0] := by
    have := (Blk.new (w.alloc (.cells #[.slice SA segs.length c, .slice TA atts.length d] 29)) 29 #[.slice none 0 0, .slice none 0 0]).alloc (.cells #[.slice none 0 0, .slice none 0 0] 29)
    simpa using this
  have kB : Blk (((w.alloc (.cells #[.slice SA segs.length c, .slice TA atts.length d] 29)).alloc (.cells #[.slice none 0 0, .slice none 0 0] 29)).alloc (.cells #[.slice none 0 0, .slice none 0 0] 29)) (w.heap.size + 1 + 1) 29 #[.slice none 0 0, .slice none 0 0] := by
    have := Blk.new ((w.alloc (.cells #[.slice SA segs.length c, .slice TA atts.length d] 29)).alloc (.cells #[.slice none 0 0, .slice none 0 0] 29)) 29 #[.slice none 0 0, .slice none 0 0]
    simpa using this
  have hx : Below w.heap.size w (((w.alloc (.cells #[.slice SA segs.length c, .slice TA atts.length d] 29)).alloc (.cells #[.slice none 0 0, .slice none 0 0] 29)).alloc (.cells #[.slice none 0 0, .slice none 0 0] 29)) := (((Below.refl _ _).alloc (Nat.le_refl _) _).alloc (by simp) _).alloc (by simp; omega) _
  generalize ((w.alloc (.cells #[.slice SA segs.length c, .slice TA atts.length d] 29)).alloc (.cells #[.slice none 0 0, .slice none 0 0] 29)).alloc (.cells #[.slice none 0 0, .slice none 0 0] 29) = w0 at *
  have kH := kH.drew
  have kA := kA.drew
  have kB := kB.drew
  have hx := hx.drew
  have hS : Row w0.drew lo 1 SA segs.length (strs segs) := hh.1.below hx
  refine wp_region_held_drew (S := (fun w' => w'.cell? ⟨w.heap.size, 0, none⟩ = some (.slice SA segs.length c))) (by kernel_rfl) (kH.two_.1) (fun hHeld => ?_)
  (refine wpAnyH_take (i := 0) (v := ?_) (by (simp only [List.getElem?_toArray, List.getElem?_cons_zero]; rfl)) (by kernel_rfl) (by kernel_rfl) (by kernel_rfl) (by exact fun _ _ _ h => h) (Or.inl ⟨by rfl, ?_⟩) (by assumption) ?_; (rotate_left 1; (intro w hSw; (try dsimp only at hSw); go_simp); (try with_reducible rfl)); (try simp only [Act.put, List.setIfInBounds_toArray, List.set_cons_zero, List.set_cons_succ]))
  (refine wpAnyH_take (i := 1) (v := ?_) (by (simp only [List.getElem?_toArray, List.getElem?_cons_succ, List.getElem?_cons_zero]; rfl)) (by kernel_rfl) (by kernel_rfl) (by kernel_rfl) (by exact fun _ _ _ h => h) (Or.inl ⟨by rfl, ?_⟩) (by assumption) ?_; (rotate_left 1; (intro w hSw; (try dsimp only at hSw); go_simp); (try with_reducible rfl)); (try simp only [Act.put, List.setIfInBounds_toArray, List.set_cons_zero, List.set_cons_succ]))
  (refine wpAnyH_take (i := 3) (v := ?_) (by (simp only [List.getElem?_toArray, List.getElem?_cons_succ, List.getElem?_cons_zero]; rfl)) (by kernel_rfl) (by kernel_rfl) (by kernel_rfl) (by exact fun _ _ _ h => h) (Or.inl ⟨by rfl, ?_⟩) (by assumption) ?_; (rotate_left 1; (intro w hSw; (try dsimp only at hSw); go_simp); (try with_reducible rfl)); (try simp only [Act.put, List.setIfInBounds_toArray, List.set_cons_zero, List.set_cons_succ]))
  (refine wpAnyH_take (i := 4) (v := ?_) (by (simp only [List.getElem?_toArray, List.getElem?_cons_succ, List.getElem?_cons_zero]; rfl)) (by kernel_rfl) (by kernel_rfl) (by kernel_rfl) (by exact fun _ _ _ h => h) (Or.inl ⟨by rfl, ?_⟩) (by assumption) ?_; (rotate_left 1; (intro w hSw; (try dsimp only at hSw); go_simp); (try with_reducible rfl)); (try simp only [Act.put, List.setIfInBounds_toArray, List.set_cons_zero, List.set_cons_succ]))
  refine wpAnyH_ready (rs := [2]) (by kernel_rfl) (by simp) ?_
  refine AllReadyH.cons rfl (fun K hK => ?_) AllReadyH.nil
  go_simp
  go_at_call 38
  refine (cloneS_any SA c _ segs _ hS (by omega)).mono ?_
  rintro e wc2 ⟨S2, c2, rfl, hoC2, hbc⟩
  have hoC2 := own_weak hoC2 hx.size
  have hS := hS.below hbc
  have kH := kH.below hbc
  have kA := kA.below hbc
  have kB := kB.below hbc
  have hx := below_up hx hbc
  clear hbc
  go_wp2_with fail
  refine hK.out _ _ (kH.two_.1) (fun hHeld => ?_)
  clear hK K
  (try simp only [Act.put, List.setIfInBounds_toArray, List.set_cons_zero, List.set_cons_succ])
  (refine wpAnyH_take (i := 6) (v := ?_) (by (simp only [List.getElem?_toArray, List.getElem?_cons_succ, List.getElem?_cons_zero]; rfl)) (by kernel_rfl) (by kernel_rfl) (by kernel_rfl) (by exact fun _ _ _ h => h) (Or.inl ⟨by rfl, ?_⟩) (by assumption) ?_; (rotate_left 1; (intro w hSw; (try dsimp only at hSw); go_simp); (try with_reducible rfl)); (try simp only [Act.put, List.setIfInBounds_toArray, List.set_cons_zero, List.set_cons_succ]))
  refine wpAnyH_ready (rs := [5]) (by kernel_rfl) (by simp) ?_
  refine AllReadyH.cons rfl (fun K hK => ?_) AllReadyH.nil
  go_simp
  go_at_call 38
  refine (cloneS_any SA c _ segs _ hS (by omega)).mono ?_
  rintro e wc5 ⟨S5, c5, rfl, hoC5, hbc⟩
  have hoC5 := own_weak hoC5 hx.size
  have hoC2 := own_keep hoC2 hbc
  have hS := hS.below hbc
  have kH := kH.below hbc
  have kA := kA.below hbc
  have kB := kB.below hbc
  have hx := below_up hx hbc
  clear hbc
  go_wp2_with fail
  refine hK.out _ _ (kH.two_.1) (fun hHeld => ?_)
  clear hK K
  (try simp only [Act.put, List.setIfInBounds_toArray, List.set_cons_zero, List.set_cons_succ])
  refine wpAnyH_ready (rs := [7]) (by kernel_rfl) (by simp) ?_
  refine AllReadyH.cons rfl (fun K hK => ?_) AllReadyH.nil
  obtain ⟨r0, r1⟩ := kA.two_
  have rz := kA.lt
  have rf := kA.thaw 0
  go_simp
  clear r0 r1 rz rf
  have hoC2 := own_past hoC2 kA (by decide) 0 (.slice S2 segs.length c2)
  have hoC5 := own_past hoC5 kA (by decide) 0 (.slice S2 segs.length c2)
  have kB := kB.past (w.heap.size + 1) 0 (.slice S2 segs.length c2) (by omega)
  have kH := kH.past (w.heap.size + 1) 0 (.slice S2 segs.length c2) (by omega)
  have hx := Below.setCell hx (p := ⟨w.heap.size + 1, 0, none⟩) (by simp) (.slice S2 segs.length c2)
  have kA : Blk _ (w.heap.size + 1) 29 #[.slice S2 segs.length c2, .slice none 0 0] := kA.poke 0 (.slice S2 segs.length c2)
  refine hK.out _ _ (kH.two_.1) (fun hHeld => ?_)
  clear hK K
  (try simp only [Act.put, List.setIfInBounds_toArray, List.set_cons_zero, List.set_cons_succ])
  (refine wpAnyH_take (i := 8) (v := ?_) (by (simp only [List.getElem?_toArray, List.getElem?_cons_succ, List.getElem?_cons_zero]; rfl)) (by kernel_rfl) (by kernel_rfl) (by kernel_rfl) (by exact fun _ _ _ h => h) (Or.inl ⟨by rfl, ?_⟩) (by assumption) ?_; (rotate_left 1; (intro w hSw; (try dsimp only at hSw); go_simp); (try with_reducible rfl)); (try simp only [Act.put, List.setIfInBounds_toArray, List.set_cons_zero, List.set_cons_succ]))
  refine wpAnyH_ready (rs := [9]) (by kernel_rfl) (by simp) ?_
  refine AllReadyH.cons rfl (fun K hK => ?_) AllReadyH.nil
  obtain ⟨r0, r1⟩ := kB.two_
  have rz := kB.lt
  have rf := kB.thaw 0
  go_simp
  clear r0 r1 rz rf
  have hoC2 := own_past hoC2 kB (by decide) 0 (.slice S5 segs.length c5)
  have hoC5 := own_past hoC5 kB (by decide) 0 (.slice S5 segs.length c5)
  have kA := kA.past (w.heap.size + 1 + 1) 0 (.slice S5 segs.length c5) (by omega)
  have kH := kH.past (w.heap.size + 1 + 1) 0 (.slice S5 segs.length c5) (by omega)
  have hx := Below.setCell hx (p := ⟨w.heap.size + 1 + 1, 0, none⟩) (by simp; omega) (.slice S5 segs.length c5)
  have kB : Blk _ (w.heap.size + 1 + 1) 29 #[.slice S5 segs.length c5, .slice none 0 0] := kB.poke 0 (.slice S5 segs.length c5)
  refine hK.out _ _ (kH.two_.1) (fun hHeld => ?_)
  clear hK K
  (try simp only [Act.put, List.setIfInBounds_toArray, List.set_cons_zero, List.set_cons_succ])
  refine wpAnyH_done (by kernel_rfl) ?_ _
  generalize (wc5.setCell ⟨w.heap.size + 1, 0, none⟩ (.slice S2 segs.length c2)).setCell ⟨w.heap.size + 1 + 1, 0, none⟩ (.slice S5 segs.length c5) = w1 at *
  have hcA := own_cap hoC2
  have hcB := own_cap hoC5
  have hgr := grown_of_below hx (some g)
  have hsq := hs.grown (grown_of_below hx none) (fun k hk => by cases hk)
  have hh2 : HH2 w1 w.heap.size (w.heap.size + 1) (w.heap.size + 1 + 1) (.slice S2 segs.length c2) (.slice S5 segs.length c5) none 0 [] none 0 [] := ⟨kA, kB, World.ownsRow_nil _ _ _ _, World.ownsRow_nil _ _ _ _, fun k h => (by cases h), by omega⟩
  clear kA kB hS hx hs
  obtain ⟨a0, a1⟩ := kH.two_
  have za := kH.lt
  go_wp2_with fail
  go_loopw [20] (fun i wr => ∃ (k : Nat) (A : Option Addr) (dz : Nat) (zs : List AttE) (B : Option Addr) (dy : Nat) (ys : List AttE), k ≤ atts.length ∧ i = .int .i64 k ∧ Hid (Parts (atts.take k) (attE zs) (attE ys)) ∧ Hid (∀ x ∈ zs ++ ys, Row w lo 1 x.2.1 x.1.2.length (ints x.1.2)) ∧ HH2 wr w.heap.size (w.heap.size + 1) (w.heap.size + 1 + 1) (.slice S2 segs.length c2) (.slice S5 segs.length c5) A dz zs B dy ys ∧ wr.ownsRow w.heap.size 9 1 (.slice S2 segs.length c2) segs.length (strs segs) ∧ wr.ownsRow w.heap.size 9 1 (.slice S5 segs.length c5) segs.length (strs segs) ∧ w.grownBy wr (some g) ∧ Str wr g (N + k)) (fun i _ => atts.length - (intOf i).toNat)
  case atStart => exact ⟨0, none, 0, [], none, 0, [], Nat.zero_le _, rfl, Lib.hid ⟨List.Sublist.refl _, List.Sublist.refl _, fun x h => by cases h⟩, Lib.hid (fun x h => by cases h), hh2, hoC2, hoC5, hgr, hsq⟩
  case round =>
    clear hh2 hoC2 hoC5 hgr hsq
    obtain ⟨k, A, dz, zs, B, dy, ys, hk, rfl, HP, HX, hh2, hoC2, hoC5, hgr, hsq⟩ := hrel
    by_cases hlt : k < atts.length
    · obtain ⟨b, off, Bx, cB, rfl, hbs, c0, c1, hrB⟩ := HHW.out.att2 hlt hgr hg
      have HPS := Lib.hid (HP.out.step hlt)
      have hzl : zs.length ≤ 500 ∧ ys.length ≤ 500 := by
        have h1 := HP.out.1.length_le
        have h2 := HP.out.2.1.length_le
        rw [attE_len, List.length_take] at h1 h2
        omega
      obtain ⟨hzl, hyl⟩ := hzl
      have HKA : ∀ j, (Value.slice A zs.length dz).ownBlock = some j → j < wr.heap.size := fun j h => (hh2.oa.lt j h).2
      have HKB : ∀ j, (Value.slice B ys.length dy).ownBlock = some j → j < wr.heap.size := fun j h => (hh2.ob.lt j h).2
      have hrbz := hh2.bb.lt
      have HXX : Hid (∀ (B : Option Addr) (c : Nat), Row w lo 1 B atts[k].2.length (ints atts[k].2) → Row w lo 1 (((atts[k].1, atts[k].2), (B, c)) : AttE).2.1 atts[k].2.length (ints atts[k].2)) := Lib.hid (fun B c h => h)
      generalize atts[k] = x at *
      obtain ⟨no, l⟩ := x
      dsimp only at *
      have HRB := Lib.hid hrB
      have kX : Blk (wr.alloc (.cells #[.int .i64 no, .slice Bx l.length cB] 81)) wr.heap.size 81 #[.int .i64 no, .slice Bx l.length cB] := Blk.new _ _ _
      have hh2 := hh2.alloc (.cells #[.int .i64 no, .slice Bx l.length cB] 81)
      have hoC2 := own_keep hoC2 ((Below.refl wr.heap.size wr).alloc (Nat.le_refl _) (.cells #[.int .i64 no, .slice Bx l.length cB] 81))
      have hoC5 := own_keep hoC5 ((Below.refl wr.heap.size wr).alloc (Nat.le_refl _) (.cells #[.int .i64 no, .slice Bx l.length cB] 81))
      have hzw := hgr.size
      have hgr := grown_alloc hgr (.cells #[.int .i64 no, .slice Bx l.length cB] 81)
      have hsq := hsq.alloc (.cells #[.int .i64 no, .slice Bx l.length cB] 81)
      go_upto_region 5 with (fail)
      clear c0 c1 hbs HXX hrB
      generalize wr.alloc (.cells #[.int .i64 no, .slice Bx l.length cB] 81) = wx at *
      generalize wr.heap.size = xb at *
      go_wp2_with fail
      refine (next_any g _ _ _ hsq (by omega) (by omega)).mono ?_
      rintro e wn ⟨r, rfl, r0, r1, r2, hsq, hgn⟩
      have r3 := r1 (by omega)
      have kX := kX.stream hgn (by omega)
      have hh2 := hh2.stream hgn hlt0 (by omega) (by omega)
      have hoC2 := own_grown hoC2 hgn hlt0
      have hoC5 := own_grown hoC5 hgn hlt0
      have hgr := grown_trans' hgr hgn
      clear r1 r2 hgn
      rcases (show r = 0 ∨ r = 1 ∨ r = 2 by omega) with rfl | rfl | rfl
      · have hby : Blk (wn.alloc (.cells #[.int .i64 no, .slice Bx l.length cB] 81)) wn.heap.size 81 #[.int .i64 no, .slice Bx l.length cB] := Blk.new _ _ _
        have hh3 := hh2.alloc (.cells #[.int .i64 no, .slice Bx l.length cB] 81)
        have kX3 := kX.alloc (.cells #[.int .i64 no, .slice Bx l.length cB] 81)
        have hgr3 := grown_alloc hgr (.cells #[.int .i64 no, .slice Bx l.length cB] 81)
        have hsq3 := hsq.alloc (.cells #[.int .i64 no, .slice Bx l.length cB] 81)
        obtain ⟨q0, q1⟩ := hh2.ba.two_
        have qz := hh2.ba.lt
        obtain ⟨x0, x1⟩ := kX.two_
        have xz := kX.lt
        go_wp2_with (at_builtin; go_must (refine wpList_app (lo := 0) (base := w.heap.size) (n := zs.length) (xs := zs.flatMap encE) _ _ rfl _ _ ty_atts rfl hh3.oa rfl (Row.lit (n := 1) (size := 2) hby (Nat.zero_le _) rfl) rfl rfl (by omega) (by omega) hgr3.size ?_))
        intro A5 d5 w5 hown5 hg5 hl5
        have hba5 := hh3.blk_app hg5
        have kX5 : Blk w5 xb 81 #[.int .i64 no, .slice Bx l.length cB] := (hg5.block xb kX3.lt (fun e => by have := HKA _ e.symm; omega)).trans kX3
        have hgr5 := grown_set_new (grown_app hgr3 hh3.oa hg5 (Nat.le_refl _)) (p := ⟨w.heap.size + 1, 1, none⟩) (by first | (simp; omega) | simp) (.slice A5 (zs.length + 1) d5)
        have hsq5 := (hsq3.app hh3.oa hg5 hlt0).set (p := ⟨w.heap.size + 1, 1, none⟩) (by first | (simp; omega) | simp) (.slice A5 (zs.length + 1) d5)
        have kX6 := kX5.past (w.heap.size + 1) 1 (.slice A5 (zs.length + 1) d5) (by omega)
        have hp5 := grown_pokeOf w5 (w.heap.size + 1) 1 (.slice A5 (zs.length + 1) d5)
        have hal := (Below.refl wn.heap.size wn).alloc (Nat.le_refl _) (.cells #[.int .i64 no, .slice Bx l.length cB] 81)
        have hoC2 := own_otherOf (own_otherOf (own_keep hoC2 hal) hg5 (own_kindOf hh3.oa) (by decide)) hp5 hba5.kindOf (by decide)
        have hoC5 := own_otherOf (own_otherOf (own_keep hoC5 hal) hg5 (own_kindOf hh3.oa) (by decide)) hp5 hba5.kindOf (by decide)
        have hh2 := hh3.push (x := ((no, l), (Bx, cB))) hg5 hown5 (by rw [World.size_alloc]; exact hl5)
        clear hp5 hal
        clear q0 q1 qz x0 x1 xz hh3 hgr hsq hg5 hown5 hl5 kX kX3 kX5 hgr3 hsq3 hby
        obtain ⟨q0, q1⟩ := hba5.two_
        have qz := hba5.lt
        have qf := hba5.thaw 1
        go_wp2_with fail
        go_roundw
        case rel => exact ⟨k + 1, A5, d5, zs ++ [((no, l), (Bx, cB))], B, dy, ys, by omega, by go_num, Lib.hid (by have := HPS.out.1; simpa [attE_app, attE] using this), Lib.hid (fun x hx => by
          have h1 := HX.out x
          have h2 : x ∈ zs ++ ys ∨ x = ((no, l), (Bx, cB)) := by simp at hx ⊢; grind
          rcases h2 with h2 | h2
          · exact h1 h2
          · subst h2; exact HRB.out), hh2, hoC2, hoC5, hgr5, hsq5⟩
        case measure => simp [intOf]; omega
      · have hh2 := hh2.swap
        have hby : Blk (wn.alloc (.cells #[.int .i64 no, .slice Bx l.length cB] 81)) wn.heap.size 81 #[.int .i64 no, .slice Bx l.length cB] := Blk.new _ _ _
        have hh3 := hh2.alloc (.cells #[.int .i64 no, .slice Bx l.length cB] 81)
        have kX3 := kX.alloc (.cells #[.int .i64 no, .slice Bx l.length cB] 81)
        have hgr3 := grown_alloc hgr (.cells #[.int .i64 no, .slice Bx l.length cB] 81)
        have hsq3 := hsq.alloc (.cells #[.int .i64 no, .slice Bx l.length cB] 81)
        obtain ⟨q0, q1⟩ := hh2.ba.two_
        have qz := hh2.ba.lt
        obtain ⟨x0, x1⟩ := kX.two_
        have xz := kX.lt
        go_wp2_with (at_builtin; go_must (refine wpList_app (lo := 0) (base := w.heap.size) (n := ys.length) (xs := ys.flatMap encE) _ _ rfl _ _ ty_atts rfl hh3.oa rfl (Row.lit (n := 1) (size := 2) hby (Nat.zero_le _) rfl) rfl rfl (by omega) (by omega) hgr3.size ?_))
        intro A5 d5 w5 hown5 hg5 hl5
        have hba5 := hh3.blk_app hg5
        have kX5 : Blk w5 xb 81 #[.int .i64 no, .slice Bx l.length cB] := (hg5.block xb kX3.lt (fun e => by have := HKB _ e.symm; omega)).trans kX3
        have hgr5 := grown_set_new (grown_app hgr3 hh3.oa hg5 (Nat.le_refl _)) (p := ⟨w.heap.size + 1 + 1, 1, none⟩) (by first | (simp; omega) | simp) (.slice A5 (ys.length + 1) d5)
        have hsq5 := (hsq3.app hh3.oa hg5 hlt0).set (p := ⟨w.heap.size + 1 + 1, 1, none⟩) (by first | (simp; omega) | simp) (.slice A5 (ys.length + 1) d5)
        have kX6 := kX5.past (w.heap.size + 1 + 1) 1 (.slice A5 (ys.length + 1) d5) (by omega)
        have hp5 := grown_pokeOf w5 (w.heap.size + 1 + 1) 1 (.slice A5 (ys.length + 1) d5)
        have hal := (Below.refl wn.heap.size wn).alloc (Nat.le_refl _) (.cells #[.int .i64 no, .slice Bx l.length cB] 81)
        have hoC2 := own_otherOf (own_otherOf (own_keep hoC2 hal) hg5 (own_kindOf hh3.oa) (by decide)) hp5 hba5.kindOf (by decide)
        have hoC5 := own_otherOf (own_otherOf (own_keep hoC5 hal) hg5 (own_kindOf hh3.oa) (by decide)) hp5 hba5.kindOf (by decide)
        have hh2 := hh3.push (x := ((no, l), (Bx, cB))) hg5 hown5 (by rw [World.size_alloc]; exact hl5)
        clear hp5 hal
        clear q0 q1 qz x0 x1 xz hh3 hgr hsq hg5 hown5 hl5 kX kX3 kX5 hgr3 hsq3 hby
        obtain ⟨q0, q1⟩ := hba5.two_
        have qz := hba5.lt
        have qf := hba5.thaw 1
        go_wp2_with fail
        go_roundw
        case rel => exact ⟨k + 1, A, dz, zs, A5, d5, ys ++ [((no, l), (Bx, cB))], by omega, by go_num, Lib.hid (by have := HPS.out.2.1; simpa [attE_app, attE] using this), Lib.hid (fun x hx => by
          have h1 := HX.out x
          have h2 : x ∈ zs ++ ys ∨ x = ((no, l), (Bx, cB)) := by simp at hx ⊢; grind
          rcases h2 with h2 | h2
          · exact h1 h2
          · subst h2; exact HRB.out), hh2.swap, hoC2, hoC5, hgr5, hsq5⟩
        case measure => simp [intOf]; omega
      · have hby : Blk (wn.alloc (.cells #[.int .i64 no, .slice Bx l.length cB] 81)) wn.heap.size 81 #[.int .i64 no, .slice Bx l.length cB] := Blk.new _ _ _
        have hh3 := hh2.alloc (.cells #[.int .i64 no, .slice Bx l.length cB] 81)
        have kX3 := kX.alloc (.cells #[.int .i64 no, .slice Bx l.length cB] 81)
        have hgr3 := grown_alloc hgr (.cells #[.int .i64 no, .slice Bx l.length cB] 81)
        have hsq3 := hsq.alloc (.cells #[.int .i64 no, .slice Bx l.length cB] 81)
        obtain ⟨q0, q1⟩ := hh2.ba.two_
        have qz := hh2.ba.lt
        obtain ⟨x0, x1⟩ := kX.two_
        have xz := kX.lt
        go_wp2_with (at_builtin; go_must (refine wpList_app (lo := 0) (base := w.heap.size) (n := zs.length) (xs := zs.flatMap encE) _ _ rfl _ _ ty_atts rfl hh3.oa rfl (Row.lit (n := 1) (size := 2) hby (Nat.zero_le _) rfl) rfl rfl (by omega) (by omega) hgr3.size ?_))
        intro A5 d5 w5 hown5 hg5 hl5
        have hba5 := hh3.blk_app hg5
        have kX5 : Blk w5 xb 81 #[.int .i64 no, .slice Bx l.length cB] := (hg5.block xb kX3.lt (fun e => by have := HKA _ e.symm; omega)).trans kX3
        have hgr5 := grown_set_new (grown_app hgr3 hh3.oa hg5 (Nat.le_refl _)) (p := ⟨w.heap.size + 1, 1, none⟩) (by first | (simp; omega) | simp) (.slice A5 (zs.length + 1) d5)
        have hsq5 := (hsq3.app hh3.oa hg5 hlt0).set (p := ⟨w.heap.size + 1, 1, none⟩) (by first | (simp; omega) | simp) (.slice A5 (zs.length + 1) d5)
        have kX6 := kX5.past (w.heap.size + 1) 1 (.slice A5 (zs.length + 1) d5) (by omega)
        have hp5 := grown_pokeOf w5 (w.heap.size + 1) 1 (.slice A5 (zs.length + 1) d5)
        have hal := (Below.refl wn.heap.size wn).alloc (Nat.le_refl _) (.cells #[.int .i64 no, .slice Bx l.length cB] 81)
        have hoC2 := own_otherOf (own_otherOf (own_keep hoC2 hal) hg5 (own_kindOf hh3.oa) (by decide)) hp5 hba5.kindOf (by decide)
        have hoC5 := own_otherOf (own_otherOf (own_keep hoC5 hal) hg5 (own_kindOf hh3.oa) (by decide)) hp5 hba5.kindOf (by decide)
        have hh2 := hh3.push (x := ((no, l), (Bx, cB))) hg5 hown5 (by rw [World.size_alloc]; exact hl5)
        clear hp5 hal
        clear q0 q1 qz x0 x1 xz hh3 hgr hsq hg5 hown5 hl5 kX kX3 kX5 hgr3 hsq3 hby
        obtain ⟨q0, q1⟩ := hba5.two_
        have qz := hba5.lt
        have qf := hba5.thaw 1
        have HKB2 : ∀ j, (Value.slice B ys.length dy).ownBlock = some j → j < xb := HKB
        obtain ⟨wz, hwz⟩ : ∃ W, W = w5.setCell ⟨w.heap.size + 1, 1, none⟩ (.slice A5 (zs.length + 1) d5) := ⟨_, rfl⟩
        go_upto_region 9 with (fail)
        rw [← hwz] at hh2 hoC2 hoC5 hgr5 hsq5 kX6 ⊢
        clear hwz q0 q1 qz qf hba5
        have kX := kX6
        have hgr := hgr5
        have hsq := hsq5
        clear kX6 hgr5 hsq5
        obtain ⟨A7, hA7⟩ : ∃ A7, A7 = A5 := ⟨_, rfl⟩
        obtain ⟨d7, hd7⟩ : ∃ d7, d7 = d5 := ⟨_, rfl⟩
        subst hA7 hd7
        have hh2 := hh2.swap
        have hby : Blk (wz.alloc (.cells #[.int .i64 no, .slice Bx l.length cB] 81)) wz.heap.size 81 #[.int .i64 no, .slice Bx l.length cB] := Blk.new _ _ _
        have hh3 := hh2.alloc (.cells #[.int .i64 no, .slice Bx l.length cB] 81)
        have kX3 := kX.alloc (.cells #[.int .i64 no, .slice Bx l.length cB] 81)
        have hgr3 := grown_alloc hgr (.cells #[.int .i64 no, .slice Bx l.length cB] 81)
        have hsq3 := hsq.alloc (.cells #[.int .i64 no, .slice Bx l.length cB] 81)
        obtain ⟨q0, q1⟩ := hh2.ba.two_
        have qz := hh2.ba.lt
        obtain ⟨x0, x1⟩ := kX.two_
        have xz := kX.lt
        go_wp2_with (at_builtin; go_must (refine wpList_app (lo := 0) (base := w.heap.size) (n := ys.length) (xs := ys.flatMap encE) _ _ rfl _ _ ty_atts rfl hh3.oa rfl (Row.lit (n := 1) (size := 2) hby (Nat.zero_le _) rfl) rfl rfl (by omega) (by omega) hgr3.size ?_))
        intro A5 d5 w5 hown5 hg5 hl5
        have hba5 := hh3.blk_app hg5
        have kX5 : Blk w5 xb 81 #[.int .i64 no, .slice Bx l.length cB] := (hg5.block xb kX3.lt (fun e => by have := HKB _ e.symm; omega)).trans kX3
        have hgr5 := grown_set_new (grown_app hgr3 hh3.oa hg5 (Nat.le_refl _)) (p := ⟨w.heap.size + 1 + 1, 1, none⟩) (by first | (simp; omega) | simp) (.slice A5 (ys.length + 1) d5)
        have hsq5 := (hsq3.app hh3.oa hg5 hlt0).set (p := ⟨w.heap.size + 1 + 1, 1, none⟩) (by first | (simp; omega) | simp) (.slice A5 (ys.length + 1) d5)
        have kX6 := kX5.past (w.heap.size + 1 + 1) 1 (.slice A5 (ys.length + 1) d5) (by omega)
        have hp5 := grown_pokeOf w5 (w.heap.size + 1 + 1) 1 (.slice A5 (ys.length + 1) d5)
        have hal := (Below.refl wz.heap.size wz).alloc (Nat.le_refl _) (.cells #[.int .i64 no, .slice Bx l.length cB] 81)
        have hoC2 := own_otherOf (own_otherOf (own_keep hoC2 hal) hg5 (own_kindOf hh3.oa) (by decide)) hp5 hba5.kindOf (by decide)
        have hoC5 := own_otherOf (own_otherOf (own_keep hoC5 hal) hg5 (own_kindOf hh3.oa) (by decide)) hp5 hba5.kindOf (by decide)
        have hh2 := hh3.push (x := ((no, l), (Bx, cB))) hg5 hown5 (by rw [World.size_alloc]; exact hl5)
        clear hp5 hal
        clear q0 q1 qz x0 x1 xz hh3 hgr hsq hg5 hown5 hl5 kX kX3 kX5 hgr3 hsq3 hby
        obtain ⟨q0, q1⟩ := hba5.two_
        have qz := hba5.lt
        have qf := hba5.thaw 1
        go_wp2_with fail
        go_roundw
        case rel => exact ⟨k + 1, A7, d7, zs ++ [((no, l), (Bx, cB))], A5, d5, ys ++ [((no, l), (Bx, cB))], by omega, by go_num, Lib.hid (by have := HPS.out.2.2; simpa [attE_app, attE] using this), Lib.hid (fun x hx => by
          have h1 := HX.out x
          have h2 : x ∈ zs ++ ys ∨ x = ((no, l), (Bx, cB)) := by simp at hx ⊢; grind
          rcases h2 with h2 | h2
          · exact h1 h2
          · subst h2; exact HRB.out), hh2.swap, hoC2, hoC5, hgr5, hsq5⟩
        case measure => simp [intOf]; omega
    · have hke : k = atts.length := by omega
      subst hke
      rw [List.take_length] at HP
      have hrbz := hh2.bb.lt
      go_upto_region 11 with (fail)
      have hh2 := hh2.below (Below.refl wr.heap.size wr).drew
      have hoC2 := own_keep hoC2 (Below.refl wr.heap.size wr).drew
      have hoC5 := own_keep hoC5 (Below.refl wr.heap.size wr).drew
      have hgr := grown_trans' hgr (grown_of_below (Below.refl wr.heap.size wr).drew _)
      have hsq := hsq.drew
      refine wp_region_held_drew (S := (fun w' => (w'.cell? ⟨w.heap.size + 1, 0, none⟩ = some (.slice S2 segs.length c2) ∧ w'.cell? ⟨w.heap.size + 1, 1, none⟩ = some (.slice A zs.length dz)) ∧ w'.cell? ⟨w.heap.size + 1 + 1, 0, none⟩ = some (.slice S5 segs.length c5) ∧ w'.cell? ⟨w.heap.size + 1 + 1, 1, none⟩ = some (.slice B ys.length dy))) (by kernel_rfl) (⟨hh2.ba.two_, hh2.bb.two_⟩) (fun hHeld => ?_)
      generalize wr.drew = wd at *
      (refine wpAnyH_take (i := 0) (v := ?_) (by (simp only [List.getElem?_toArray, List.getElem?_cons_zero]; rfl)) (by kernel_rfl) (by kernel_rfl) (by kernel_rfl) (by exact fun _ _ _ h => h) (Or.inl ⟨by rfl, ?_⟩) (by assumption) ?_; (rotate_left 1; (intro w hSw; (try dsimp only at hSw); go_simp); (try with_reducible rfl)); (try simp only [Act.put, List.setIfInBounds_toArray, List.set_cons_zero, List.set_cons_succ]))
      (refine wpAnyH_take (i := 1) (v := ?_) (by (simp only [List.getElem?_toArray, List.getElem?_cons_succ, List.getElem?_cons_zero]; rfl)) (by kernel_rfl) (by kernel_rfl) (by kernel_rfl) (by exact fun _ _ _ h => h) (Or.inl ⟨by rfl, ?_⟩) (by assumption) ?_; (rotate_left 1; (intro w hSw; (try dsimp only at hSw); go_simp); (try with_reducible rfl)); (try simp only [Act.put, List.setIfInBounds_toArray, List.set_cons_zero, List.set_cons_succ]))
      refine wpAnyH_ready (rs := [2]) (by kernel_rfl) (by simp) ?_
      refine AllReadyH.cons rfl (fun K hK => ?_) AllReadyH.nil
      obtain ⟨r0, r1⟩ := hh2.ba.two_
      have rz := hh2.ba.lt
      have rf0 := hh2.ba.thaw 0
      have rf1 := hh2.ba.thaw 1
      go_simp
      clear r0 r1 rz rf0 rf1
      have hoC2 := hh2.same_str hoC2
      have hoC5 := hh2.same_str hoC5
      have hh2 := hh2.same
      have hgr := grown_set_new (grown_set_new hgr (p := ⟨w.heap.size + 1, 0, none⟩) (by simp) (.slice S2 segs.length c2)) (p := ⟨w.heap.size + 1, 1, none⟩) (by simp) (.slice A zs.length dz)
      have hsq := (hsq.set (p := ⟨w.heap.size + 1, 0, none⟩) (by simp; omega) (.slice S2 segs.length c2)).set (p := ⟨w.heap.size + 1, 1, none⟩) (by simp; omega) (.slice A zs.length dz)
      refine hK.out _ _ (⟨hh2.ba.two_, hh2.bb.two_⟩) (fun hHeld => ?_)
      clear hK K
      (try simp only [Act.put, List.setIfInBounds_toArray, List.set_cons_zero, List.set_cons_succ])
      refine wpAnyH_ready (rs := [3]) (by kernel_rfl) (by simp) ?_
      refine AllReadyH.cons rfl (fun K hK => ?_) AllReadyH.nil
      obtain ⟨r0, r1⟩ := hh2.bb.two_
      have rz := hh2.bb.lt
      have rf0 := hh2.bb.thaw 0
      have rf1 := hh2.bb.thaw 1
      go_simp
      clear r0 r1 rz rf0 rf1
      have hoC2 := hh2.swap.same_str hoC2
      have hoC5 := hh2.swap.same_str hoC5
      have hh2 := hh2.swap.same.swap
      have hgr := grown_set_new (grown_set_new hgr (p := ⟨w.heap.size + 1 + 1, 0, none⟩) (by simp; omega) (.slice S5 segs.length c5)) (p := ⟨w.heap.size + 1 + 1, 1, none⟩) (by simp; omega) (.slice B ys.length dy)
      have hsq := (hsq.set (p := ⟨w.heap.size + 1 + 1, 0, none⟩) (by simp; omega) (.slice S5 segs.length c5)).set (p := ⟨w.heap.size + 1 + 1, 1, none⟩) (by simp; omega) (.slice B ys.length dy)
      refine hK.out _ _ (⟨hh2.ba.two_, hh2.bb.two_⟩) (fun hHeld => ?_)
      clear hK K
      (try simp only [Act.put, List.setIfInBounds_toArray, List.set_cons_zero, List.set_cons_succ])
      refine wpAnyH_done (by kernel_rfl) ?_ _
      go_wp2_with fail
      obtain ⟨z0, z1⟩ := hh2.ba.two_
      obtain ⟨z2, z3⟩ := hh2.bb.two_
      refine bodyPost_ret (v := .tuple #[.agg #[.slice S2 segs.length c2, .slice A zs.length dz], .agg #[.slice S5 segs.length c5, .slice B ys.length dy]]) (by simp [results, Tryz.results25, go_sem, z0, z1, z2, z3]) rfl ?_
      exact ⟨S2, A, S5, B, c2, dz, c5, dy, attE zs, attE ys, by rw [attE_len, attE_len], hist_of hh2.oa hoC2 hlo (fun x hx => HX.out x (by simp [hx])) hgr hg, hist_of hh2.ob hoC5 hlo (fun x hx => HX.out x (by simp [hx])) hgr hg, HP.out, hcA, hcB, hsq, hgr⟩
end Go.Proofs.YtapjahbflhingaaGreatDoor
