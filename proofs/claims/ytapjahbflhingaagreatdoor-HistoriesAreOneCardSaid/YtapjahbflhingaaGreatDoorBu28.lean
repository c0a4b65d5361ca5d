/- Texts of this seat, laid together: MgC. -/
import Derived.Deep.DeepCutAuto
import Derived.Test.YtapjahbflhingaaGreatDoorBu20
import Derived.Test.YtapjahbflhingaaGreatDoorBu25
import Derived.Test.YtapjahbflhingaaGreatDoorBu27
import Derived.Test.YtapjahbflhingaaGreatDoorBu17
import Derived.Test.YtapjahbflhingaaGreatDoorBu18
/- The walk of segment.Merge at right histories that do not contradict each other. -/
namespace Go.Proofs.YtapjahbflhingaaGreatDoor
set_option linter.unusedVariables false
set_option linter.unusedSimpArgs false
open Go.RowKit Go.Sort

/-- The world while a history is built in the box that was made last. -/
structure MW (W0 wr : World) (u : Value) (A : Option Addr) (d : Nat) (zs : List AttE) : Prop where
  box : Blk wr W0.heap.size 29 #[u, .slice A zs.length d]
  att : OAtts wr W0.heap.size A d zs
  bel : Below W0.heap.size W0 wr
section
variable {W0 wr w' : World} {u : Value} {A : Option Addr} {d : Nat} {zs : List AttE}
theorem MW.below (h : MW W0 wr u A d zs) (hb : Below wr.heap.size wr w') : MW W0 w' u A d zs := ⟨h.box.below hb, h.att.below hb, below_up h.bel hb⟩
theorem MW.alloc (h : MW W0 wr u A d zs) (o : Obj) : MW W0 (wr.alloc o) u A d zs := h.below ((Below.refl _ _).alloc (Nat.le_refl _) o)
theorem MW.drew (h : MW W0 wr u A d zs) : MW W0 wr.drew u A d zs := h.below (Below.refl _ _).drew
theorem MW.size (h : MW W0 wr u A d zs) : W0.heap.size ≤ wr.heap.size := h.bel.size
theorem MW.start (W0 : World) (u : Value) : MW W0 (W0.alloc (.cells #[u, .slice none 0 0] 29)) u none 0 [] := ⟨Blk.new _ _ _, OAtts.nil _ _, (Below.refl _ _).alloc (Nat.le_refl _) _⟩
theorem MW.box_app (h : MW W0 wr u A d zs) (hg : wr.grownBy w' (Value.slice A zs.length d).ownBlock) : Blk w' W0.heap.size 29 #[u, .slice A zs.length d] := h.box.otherOf hg (own_kindOf h.att.row) (by decide)
theorem MW.push (h : MW W0 wr u A d zs) (hg : wr.grownBy w' (Value.slice A zs.length d).ownBlock) {x : AttE} (ho : wr.ownsRow W0.heap.size 3 1 (.slice x.2.1 x.1.2.length x.2.2) x.1.2.length (ints x.1.2))
    {A5 : Option Addr} {d5 : Nat} (h5 : w'.ownsRow W0.heap.size 81 2 (.slice A5 (zs.length + 1) d5) (zs.length + 1) (zs.flatMap encE ++ encE x)) :
    MW W0 (w'.setCell ⟨W0.heap.size, 1, none⟩ (.slice A5 (zs.length + 1) d5)) u A5 d5 (zs ++ [x]) := by
  have b5 := h.box_app hg
  have p := grown_pokeOf w' W0.heap.size 1 (.slice A5 (zs.length + 1) d5)
  have hb5 := b5.poke 1 (.slice A5 (zs.length + 1) d5)
  refine ⟨by rw [List.length_append]; simpa using hb5, (h.att.push hg ho h5).other p b5.kindOf (by decide) (by decide), ?_⟩
  have hbw : Below W0.heap.size W0 w' := h.bel.grown hg h.size (fun k hk => (h.att.row.lt k hk).1)
  exact Below.setCell hbw (by simp) _
/-- The attempts are in order. -/
theorem MW.turned (h : MW W0 wr u A d zs) (hg : wr.grownBy w' (Value.slice A zs.length d).ownBlock) {ys : List AttE} (hl : ys.length = zs.length) (h5 : OAtts w' W0.heap.size A d ys) : MW W0 w' u A d ys :=
  ⟨by rw [hl]; exact h.box_app hg, h5, h.bel.grown hg h.size (fun k hk => (h.att.row.lt k hk).1)⟩
end
/-- A history of the call's own. -/
def OHist (w : World) (base : Nat) (SA : Option Addr) (c : Nat) (TA : Option Addr) (d : Nat) (segs : List (List UInt8)) (zs : List AttE) : Prop :=
  w.ownsRow base 9 1 (.slice SA segs.length c) segs.length (strs segs) ∧ OAtts w base TA d zs
theorem OHist.hist {w : World} {base : Nat} {SA TA : Option Addr} {c d : Nat} {segs : List (List UInt8)} {zs : List AttE} (h : OHist w base SA c TA d segs zs) : Hist w base SA TA segs (attE zs) := h.2.hist h.1
theorem OAtts.weak {w : World} {base base' : Nat} {A : Option Addr} {d : Nat} {zs : List AttE} (h : OAtts w base A d zs) (hb : base' ≤ base) : OAtts w base' A d zs := ⟨own_weak h.row hb, fun x hx => own_weak (h.spl x hx) hb⟩
theorem quietD {P : Program} {f : FuncId} {args : Array Value} {w : World} {n : Nat} {v : Value} (h : Calls P f args (w.drewN n) fun e w' => e = .returned v ∧ ∃ q, w' = (w.drewN n).drewN q) : Calls P f args (w.drewN n) fun e w'' => e = .returned v ∧ ∃ m, w'' = w.drewN m :=
  h.mono fun _ _ ⟨he, q, hm⟩ => ⟨he, _, hm.trans (World.drewN_drewN _ _ _)⟩
def MergePost (w : World) (segs : List (List UInt8)) (us bs : List Att) (e : Ending) (w' : World) : Prop :=
  ∃ (SA TA : Option Addr) (c d : Nat) (zs : List AttE), e = .returned (.tuple #[.agg #[.slice SA segs.length c, .slice TA zs.length d], .int .i64 0]) ∧ OHist w' w.heap.size SA c TA d segs zs ∧ (attE zs).Perm (us ++ mgN us bs) ∧ (attE zs).Pairwise (fun x y => x.1 ≤ y.1) ∧ Below w.heap.size w w'
set_option maxHeartbeats 8000000 in
set_option maxRecDepth 100000 in
theorem Merge_ok (SA TA SB TB : Option Addr) (c d c' d' lo lo' : Nat) (segs : List (List UInt8)) (us bs : List Att) (w : World) (hA : Hist w lo SA TA segs us) (hB : Hist w lo' SB TB segs bs) (hc : segs.length ≤ c) (hc' : segs.length ≤ c') (okA : HistOk segs us) (okB : HistOk segs bs)
    (hno : ∀ x ∈ bs, ∀ y ∈ us, y.1 = x.1 → y.2 = x.2) (hlen : (us ++ mgN us bs).length ≤ 500) :
    Calls Tryz.prog 26 #[.agg #[.slice SA segs.length c, .slice TA us.length d], .agg #[.slice SB segs.length c', .slice TB bs.length d']] w (MergePost w segs us bs) := by
  have n2 := okA.n2
  have n1 := okA.n1
  have ma := okA.m
  have mb := okB.m
  have HA := Lib.hid okA
  have HB := Lib.hid okB
  have HNO := Lib.hid hno
  have HLEN := Lib.hid hlen
  have KEY : Hid (∀ s ∈ segs, s.length ≤ 40) := Lib.hid (fun s hs => by
    obtain ⟨i, hi, rfl⟩ := List.mem_iff_getElem.1 hs
    have := okA.key i hi
    unfold keyB at this
    simp only [Bool.and_eq_true, decide_eq_true_eq] at this
    omega)
  clear okA okB hno hlen
  go_enter Tryz.func26, Tryz.ntmps26
  go_upto_region 1 with (fail)
  have kA : Blk (((w.alloc (.cells #[.slice SA segs.length c, .slice TA us.length d] 29)).alloc (.cells #[.slice SB segs.length c', .slice TB bs.length d'] 29)).alloc (.cells #[.slice none 0 0, .slice none 0 0] 29)) w.heap.size 29 #[.slice SA segs.length c, .slice TA us.length d] := ((Blk.new _ _ _).alloc _).alloc _
  have kB : Blk (((w.alloc (.cells #[.slice SA segs.length c, .slice TA us.length d] 29)).alloc (.cells #[.slice SB segs.length c', .slice TB bs.length d'] 29)).alloc (.cells #[.slice none 0 0, .slice none 0 0] 29)) (w.heap.size + 1) 29 #[.slice SB segs.length c', .slice TB bs.length d'] := by
    have := (Blk.new (w.alloc (.cells #[.slice SA segs.length c, .slice TA us.length d] 29)) 29 #[.slice SB segs.length c', .slice TB bs.length d']).alloc (.cells #[.slice none 0 0, .slice none 0 0] 29)
    simpa using this
  have kR : Blk (((w.alloc (.cells #[.slice SA segs.length c, .slice TA us.length d] 29)).alloc (.cells #[.slice SB segs.length c', .slice TB bs.length d'] 29)).alloc (.cells #[.slice none 0 0, .slice none 0 0] 29)) (w.heap.size + 2) 29 #[.slice none 0 0, .slice none 0 0] := by
    have := Blk.new ((w.alloc (.cells #[.slice SA segs.length c, .slice TA us.length d] 29)).alloc (.cells #[.slice SB segs.length c', .slice TB bs.length d'] 29)) 29 #[.slice none 0 0, .slice none 0 0]
    simpa using this
  have hA := ((hA.alloc (.cells #[.slice SA segs.length c, .slice TA us.length d] 29)).alloc (.cells #[.slice SB segs.length c', .slice TB bs.length d'] 29)).alloc (.cells #[.slice none 0 0, .slice none 0 0] 29)
  have hB := ((hB.alloc (.cells #[.slice SA segs.length c, .slice TA us.length d] 29)).alloc (.cells #[.slice SB segs.length c', .slice TB bs.length d'] 29)).alloc (.cells #[.slice none 0 0, .slice none 0 0] 29)
  have hx : Below w.heap.size w (((w.alloc (.cells #[.slice SA segs.length c, .slice TA us.length d] 29)).alloc (.cells #[.slice SB segs.length c', .slice TB bs.length d'] 29)).alloc (.cells #[.slice none 0 0, .slice none 0 0] 29)) := (((Below.refl _ _).alloc (Nat.le_refl _) _).alloc (by simp) _).alloc (by simp; omega) _
  generalize ((w.alloc (.cells #[.slice SA segs.length c, .slice TA us.length d] 29)).alloc (.cells #[.slice SB segs.length c', .slice TB bs.length d'] 29)).alloc (.cells #[.slice none 0 0, .slice none 0 0] 29) = w0 at *
  have hA := hA.below (Below.refl _ _).drew
  have hB := hB.below (Below.refl _ _).drew
  have kA := kA.drew
  have kB := kB.drew
  have kR := kR.drew
  have hx := hx.drew
  refine wp_region_held_drew (S := (fun w' => (w'.cell? ⟨w.heap.size, 0, none⟩ = some (.slice SA segs.length c) ∧ w'.cell? ⟨w.heap.size, 1, none⟩ = some (.slice TA us.length d)) ∧ w'.cell? ⟨w.heap.size + 1, 0, none⟩ = some (.slice SB segs.length c') ∧ w'.cell? ⟨w.heap.size + 1, 1, none⟩ = some (.slice TB bs.length d'))) (by kernel_rfl) (⟨kA.two_, kB.two_⟩) (fun hHeld => ?_)
  (refine wpAnyH_take (i := 0) (v := ?_) (by (simp only [List.getElem?_toArray, List.getElem?_cons_zero]; rfl)) (by kernel_rfl) (by kernel_rfl) (by kernel_rfl) (by exact fun _ _ _ h => h) (Or.inl ⟨by rfl, ?_⟩) (by assumption) ?_; (rotate_left 1; (intro w hSw; (try dsimp only at hSw); go_simp); (try with_reducible rfl)); (try simp only [Act.put, List.setIfInBounds_toArray, List.set_cons_zero, List.set_cons_succ]))
  (refine wpAnyH_take (i := 2) (v := ?_) (by (simp only [List.getElem?_toArray, List.getElem?_cons_succ, List.getElem?_cons_zero]; rfl)) (by kernel_rfl) (by kernel_rfl) (by kernel_rfl) (by exact fun _ _ _ h => h) (Or.inl ⟨by rfl, ?_⟩) (by assumption) ?_; (rotate_left 1; (intro w hSw; (try dsimp only at hSw); go_simp); (try with_reducible rfl)); (try simp only [Act.put, List.setIfInBounds_toArray, List.set_cons_zero, List.set_cons_succ]))
  refine wpAnyH_ready (rs := [1]) (by kernel_rfl) (by simp) ?_
  refine AllReadyH.cons rfl (fun K hK => ?_) AllReadyH.nil
  go_simp
  go_at_call 29
  refine (checkHistory_any SA TA c d _ segs us _ hA hc (by omega) (by omega) (fun i h => by have := (HA.out.spl i h).len; omega) (fun s hs => by have := KEY.out s hs; omega)).mono ?_
  rintro e wa ⟨rfl, hba⟩
  have hA := hA.below hba
  have hB := hB.below hba
  have kA := kA.below hba
  have kB := kB.below hba
  have kR := kR.below hba
  have hx := below_up hx hba
  rw [histF_zero HA.out]
  go_wp2_with fail
  refine hK.out _ _ (⟨kA.two_, kB.two_⟩) (fun hHeld => ?_)
  clear hK K
  (try simp only [Act.put, List.setIfInBounds_toArray, List.set_cons_zero, List.set_cons_succ])
  refine wpAnyH_ready (rs := [3]) (by kernel_rfl) (by simp) ?_
  refine AllReadyH.cons rfl (fun K hK => ?_) AllReadyH.nil
  go_simp
  go_at_call 29
  refine (checkHistory_any SB TB c' d' _ segs bs _ hB hc' (by omega) (by omega) (fun i h => by have := (HB.out.spl i h).len; omega) (fun s hs => by have := KEY.out s hs; omega)).mono ?_
  rintro e wb ⟨rfl, hbb⟩
  have hA := hA.below hbb
  have hB := hB.below hbb
  have kA := kA.below hbb
  have kB := kB.below hbb
  have kR := kR.below hbb
  have hx := below_up hx hbb
  rw [histF_zero HB.out]
  go_wp2_with fail
  refine hK.out _ _ (⟨kA.two_, kB.two_⟩) (fun hHeld => ?_)
  clear hK K
  (try simp only [Act.put, List.setIfInBounds_toArray, List.set_cons_zero, List.set_cons_succ])
  refine wpAnyH_ready (rs := [4]) (by kernel_rfl) (by simp) ?_
  refine AllReadyH.cons rfl (fun K hK => ?_) AllReadyH.nil
  go_simp
  have hF := row_new wb #[.int .i64 0, .int .i64 0] 32 0 1 2 (Nat.zero_le _) rfl
  have hA := hA.alloc (.cells #[.int .i64 0, .int .i64 0] 32)
  have hB := hB.alloc (.cells #[.int .i64 0, .int .i64 0] 32)
  have kA := kA.alloc (.cells #[.int .i64 0, .int .i64 0] 32)
  have kB := kB.alloc (.cells #[.int .i64 0, .int .i64 0] 32)
  have kR := kR.alloc (.cells #[.int .i64 0, .int .i64 0] 32)
  have hx : Below w.heap.size w (wb.alloc (.cells #[.int .i64 0, .int .i64 0] 32)) := Below.alloc hx hx.size _
  refine hK.out _ _ (⟨kA.two_, kB.two_⟩) (fun hHeld => ?_)
  clear hK K
  (try simp only [Act.put, List.setIfInBounds_toArray, List.set_cons_zero, List.set_cons_succ])
  refine wpAnyH_ready (rs := [5]) (by kernel_rfl) (by simp) ?_
  refine AllReadyH.cons rfl (fun K hK => ?_) AllReadyH.nil
  go_simp
  go_at_call 67
  refine (first_any _ _ 0 [0, 0] _ hF (by simp)).mono ?_
  rintro e wf ⟨rfl, rfl⟩
  rw [show firstE [0, 0] = 0 from rfl]
  go_wp2_with fail
  refine hK.out _ _ (⟨kA.two_, kB.two_⟩) (fun hHeld => ?_)
  clear hK K
  (try simp only [Act.put, List.setIfInBounds_toArray, List.set_cons_zero, List.set_cons_succ])
  (refine wpAnyH_take (i := 6) (v := ?_) (by (simp only [List.getElem?_toArray, List.getElem?_cons_succ, List.getElem?_cons_zero]; rfl)) (by kernel_rfl) (by kernel_rfl) (by kernel_rfl) (by exact fun _ _ _ h => h) (Or.inl ⟨by rfl, ?_⟩) (by assumption) ?_; (rotate_left 1; (intro w hSw; (try dsimp only at hSw); go_simp); (try with_reducible rfl)); (try simp only [Act.put, List.setIfInBounds_toArray, List.set_cons_zero, List.set_cons_succ]))
  refine wpAnyH_done (by kernel_rfl) ?_ _
  generalize wb.alloc (.cells #[.int .i64 0, .int .i64 0] 32) = w1 at *
  clear hF hba hbb
  have HZ1 := Lib.hid hx.size
  obtain ⟨a0, a1⟩ := kA.two_
  obtain ⟨b0, b1⟩ := kB.two_
  have za := kA.lt
  have zb := kB.lt
  have zr := kR.lt
  go_wp2_with fail
  refine (equalS_any SA SB c c' _ _ segs segs _ hA.1 hB.1 (by omega) (by omega)).mono ?_
  rintro e w2 ⟨rfl, q, rfl⟩
  rw [decide_eq_true rfl]
  have bq : Below w1.heap.size w1 (w1.drewN q) := below_drewN' (Below.refl _ _) q
  have hA := hA.below bq
  have hB := hB.below bq
  have kA := kA.below bq
  have kB := kB.below bq
  have kR := kR.below bq
  have hx := below_up hx bq
  generalize w1.drewN q = w2 at *
  clear bq a0 a1 b0 b1 za zb zr HZ1
  obtain ⟨a0, a1⟩ := kA.two_
  have za := kA.lt
  go_wp2_with fail
  refine (cloneS_any SA c _ segs _ hA.1 (by omega)).mono ?_
  rintro e w3 ⟨S2, c2, rfl, hoS, hbs⟩
  have hoS := own_weak hoS hx.size
  have hA := hA.below hbs
  have hB := hB.below hbs
  have kA := kA.below hbs
  have kB := kB.below hbs
  have kR := kR.below hbs
  have hx := below_up hx hbs
  clear hbs a0 a1 za
  have HX := Lib.hid hx
  have hxs := hx.size
  obtain ⟨a0, a1⟩ := kA.two_
  have za := kA.lt
  have zr3 := kR.lt
  clear hx
  go_wp2_with fail
  have hw := MW.start w3 (.slice S2 segs.length c2)
  generalize w3.alloc (.cells #[.slice S2 segs.length c2, .slice none 0 0] 29) = w4 at *
  have hA4 := hA.below hw.bel
  have kA4 := kA.below hw.bel
  obtain ⟨a0, a1⟩ := kA4.two_
  have za := kA4.lt
  obtain ⟨W0, hW0⟩ : ∃ W, W = w3 := ⟨_, rfl⟩
  subst hW0
  clear hA4 kA4
  go_wp2_with fail
  go_loopw [38] (fun i wr => ∃ (k : Nat) (A : Option Addr) (dz : Nat) (zs : List AttE), k ≤ us.length ∧ i = .int .i64 k ∧ Hid (attE zs = us.take k) ∧ MW W0 wr (.slice S2 segs.length c2) A dz zs) (fun i _ => us.length - (intOf i).toNat)
  case atStart => exact ⟨0, none, 0, [], Nat.zero_le _, rfl, Lib.hid rfl, hw⟩
  case round =>
    clear hw a0 a1 za
    obtain ⟨k, A, dz, zs, hk, rfl, HZ, hw⟩ := hrel
    by_cases hlt : k < us.length
    · obtain ⟨b, off, B, cB, rfl, hbs, c0, c1, hrB⟩ := (hA.below hw.bel).att hlt
      have hsl := (HA.out.spl k hlt).len
      have hzl : zs.length ≤ 500 := by
        have := congrArg List.length HZ.out
        rw [attE_len, List.length_take] at this
        omega
      have HT : Hid (us.take k ++ [us[k]] = us.take (k + 1)) := Lib.hid (List.take_succ_eq_append_getElem hlt).symm
      generalize us[k] = x at *
      obtain ⟨no, l⟩ := x
      dsimp only at *
      have kX : Blk (wr.alloc (.cells #[.int .i64 no, .slice B l.length cB] 81)) wr.heap.size 81 #[.int .i64 no, .slice B l.length cB] := Blk.new _ _ _
      have hrB := hrB.alloc (.cells #[.int .i64 no, .slice B l.length cB] 81)
      have hw := hw.alloc (.cells #[.int .i64 no, .slice B l.length cB] 81)
      go_upto_region 10 with (fail)
      clear c0 c1 hbs
      generalize wr.alloc (.cells #[.int .i64 no, .slice B l.length cB] 81) = wx at *
      generalize wr.heap.size = xb at *
      have kX := kX.drew
      have hrB := hrB.drew
      have hw := hw.drew
      refine wp_region_heldK 7 (fun w' => w'.cell? ⟨W0.heap.size, 1, none⟩ = some (.slice A zs.length dz)) (fun _ => True) (by kernel_rfl) (trivial) (hw.box.two_.2) (fun hT hS => ?_)
      (refine wpAnyK_take2 (i := 0) (v := ?_) (by (simp only [List.getElem?_toArray, List.getElem?_cons_zero]; rfl)) (by kernel_rfl) (by kernel_rfl) (by kernel_rfl) (by decide) (by exact fun _ _ _ h => h) (Or.inl ⟨by rfl, ?_⟩) (by assumption) (by assumption) ?_; (rotate_left 1; (intro w hSw; (try dsimp only at hSw); go_simp); (try with_reducible rfl)); (try simp only [Act.put, List.setIfInBounds_toArray, List.set_cons_zero, List.set_cons_succ]))
      (refine wpAnyK_take1 (i := 1) (v := ?_) (by (simp only [List.getElem?_toArray, List.getElem?_cons_succ, List.getElem?_cons_zero]; rfl)) (by kernel_rfl) (by kernel_rfl) (by kernel_rfl) (by decide) (by kernel_rfl) (by kernel_rfl) (by exact fun _ _ _ h => h) (Or.inl ⟨by rfl, ?_⟩) (by assumption) (by assumption) ?_; (rotate_left 1; (intro w hSw; (try dsimp only at hSw); go_simp); (try with_reducible rfl)); (try simp only [Act.put, List.setIfInBounds_toArray, List.set_cons_zero, List.set_cons_succ]))
      refine wpAnyK_ready (rs := [2]) (by kernel_rfl) (by simp) ?_
      refine AllReadyK.cons rfl (fun K hK => ?_) AllReadyK.nil
      have x0 := kX.two_.1
      have x1 := kX.two_.2
      have xz := kX.lt
      go_simp
      clear x0 x1 xz
      refine hK.out _ _ (trivial) (hw.box.two_.2) (fun hT hS => ?_)
      clear hK K
      (try simp only [Act.put, List.setIfInBounds_toArray, List.set_cons_zero, List.set_cons_succ])
      refine wpAnyK_ready (rs := [3]) (by kernel_rfl) (by simp) ?_
      refine AllReadyK.cons rfl (fun K hK => ?_) AllReadyK.nil
      go_simp
      go_at_call 69
      refine (copyAttempt_any no B cB _ l _ hrB (by omega)).mono ?_
      rintro e wt ⟨B', c5, rfl, hoB, hbt⟩
      have hoB := own_weak hoB hw.size
      have hw := hw.below hbt
      have kX := kX.below hbt
      go_wp2_with fail
      refine hK.out _ _ (trivial) (hw.box.two_.2) (fun hT hS => ?_)
      clear hK K
      (try simp only [Act.put, List.setIfInBounds_toArray, List.set_cons_zero, List.set_cons_succ])
      refine wpAnyK_ready (rs := [4]) (by kernel_rfl) (by simp) ?_
      refine AllReadyK.cons rfl (fun K hK => ?_) AllReadyK.nil
      go_simp
      have hby : Blk (wt.alloc (.cells #[.int .i64 no, .slice B' l.length c5] 81)) wt.heap.size 81 #[.int .i64 no, .slice B' l.length c5] := Blk.new _ _ _
      have hw := hw.alloc (.cells #[.int .i64 no, .slice B' l.length c5] 81)
      have kX := kX.alloc (.cells #[.int .i64 no, .slice B' l.length c5] 81)
      have hoB := hoB.alloc (.cells #[.int .i64 no, .slice B' l.length c5] 81)
      refine hK.out _ _ (trivial) (hw.box.two_.2) (fun hT hS => ?_)
      clear hK K
      (try simp only [Act.put, List.setIfInBounds_toArray, List.set_cons_zero, List.set_cons_succ])
      refine wpAnyK_ready (rs := [5]) (by kernel_rfl) (by simp) ?_
      refine AllReadyK.cons rfl (fun K hK => ?_) AllReadyK.nil
      refine step_app (lo := 0) (base := W0.heap.size) (n := zs.length) (xs := zs.flatMap encE) _ rfl _ _ ty_atts rfl hw.att.row rfl (Row.lit (n := 1) (size := 2) hby (Nat.zero_le _) rfl) rfl rfl (by omega) (by omega) hw.size ?_
      intro A5 d5 w5 hown5 hg5 _
      have hbx := hw.box_app hg5
      refine hK.out _ _ (trivial) (hbx.two_.2) (fun hT hS => ?_)
      clear hK K
      (try simp only [Act.put, List.setIfInBounds_toArray, List.set_cons_zero, List.set_cons_succ])
      (refine wpAnyK_take2 (i := 6) (v := ?_) (by (simp only [List.getElem?_toArray, List.getElem?_cons_succ, List.getElem?_cons_zero]; rfl)) (by kernel_rfl) (by kernel_rfl) (by kernel_rfl) (by decide) (by exact fun _ _ _ h => h) (Or.inl ⟨by rfl, ?_⟩) (by assumption) (by assumption) ?_; (rotate_left 1; (intro w hSw; (try dsimp only at hSw); go_simp); (try with_reducible rfl)); (try simp only [Act.put, List.setIfInBounds_toArray, List.set_cons_zero, List.set_cons_succ]))
      refine wpAnyK_ready (rs := [7]) (by kernel_rfl) (by simp) ?_
      refine AllReadyK.consT (by kernel_rfl) rfl (fun K hK => ?_) AllReadyK.nil
      have q0 := hbx.two_.1
      have q1 := hbx.two_.2
      have qf := hbx.thaw 1
      have qz := hbx.lt
      go_simp
      clear q0 q1 qf qz
      have hw := hw.push (x := ((no, l), (B', c5))) hg5 hoB hown5
      refine hK.out _ _ (trivial) (fun hT => ?_)
      clear hK K
      (try simp only [Act.put, List.setIfInBounds_toArray, List.set_cons_zero, List.set_cons_succ])
      refine wpAnyK_done (by kernel_rfl) ?_ _
      go_wp2_with fail
      go_roundw
      case rel => exact ⟨k + 1, _, d5, zs ++ [((no, l), (B', c5))], by omega, by go_num, by rw [attE_app, HZ.out]; exact HT.out, hw⟩
      case measure => simp [intOf]; omega
    · have hkn : us.take k = us := List.take_of_length_le (by omega)
      rw [hkn] at HZ
      obtain ⟨W1, hW1⟩ : ∃ W, W = wr := ⟨_, rfl⟩
      subst hW1
      clear hkn
      have hke : k = us.length := by omega
      subst hke
      clear hk hlt
      have hB4 := hB.below hw.bel
      have kB4 := kB.below hw.bel
      obtain ⟨b0, b1⟩ := kB4.two_
      have zb := kB4.lt
      clear hB4 kB4
      go_wp2_with fail
      go_loopw [53] (fun i wr => ∃ (k : Nat) (A : Option Addr) (dz : Nat) (zs : List AttE), k ≤ bs.length ∧ i = .int .i64 k ∧ Hid (attE zs = us ++ mgN us (bs.take k)) ∧ MW W0 wr (.slice S2 segs.length c2) A dz zs) (fun i _ => bs.length - (intOf i).toNat)
      case atStart => exact ⟨0, A, dz, zs, Nat.zero_le _, rfl, Lib.hid (by rw [HZ.out]; simp [mgN]), hw⟩
      case round =>
        clear hw HZ b0 b1 zb
        obtain ⟨k, A, dz, zs, hk, rfl, HZ, hw⟩ := hrel
        have hzl : zs.length ≤ 500 := by
          have h1 := congrArg List.length HZ.out
          have h2 := mgN_take_len us bs k
          have h3 := HLEN.out
          rw [attE_len] at h1
          omega
        by_cases hlt : k < bs.length
        · obtain ⟨b, off, B, cB, rfl, hbs, c0, c1, hrB⟩ := (hB.below hw.bel).att hlt
          have hsl := (HB.out.spl k hlt).len
          have HN1 := Lib.hid (fun h => mgN_new (a := us) hlt h)
          have HN2 := Lib.hid (fun h => mgN_old (a := us) hlt h)
          have HNK := Lib.hid (fun (j : Nat) (hj : j < us.length) (e : us[j].1 = bs[k].1) => HNO.out bs[k] (List.getElem_mem hlt) us[j] (List.getElem_mem hj) e)
          generalize bs[k] = x at *
          obtain ⟨no, l⟩ := x
          dsimp only at *
          have kX : Blk (wr.alloc (.cells #[.int .i64 no, .slice B l.length cB] 81)) wr.heap.size 81 #[.int .i64 no, .slice B l.length cB] := Blk.new _ _ _
          have hrB := hrB.alloc (.cells #[.int .i64 no, .slice B l.length cB] 81)
          have hw := hw.alloc (.cells #[.int .i64 no, .slice B l.length cB] 81)
          have kAx := kA.below hw.bel
          have hAx := hA.below hw.bel
          have hxz : (wr.alloc (.cells #[.int .i64 no, .slice B l.length cB] 81)).heap.size = wr.heap.size + 1 := by simp
          obtain ⟨a0, a1⟩ := kAx.two_
          have za := kAx.lt
          go_upto_region 15 with (fail)
          clear c0 c1 hbs
          generalize wr.alloc (.cells #[.int .i64 no, .slice B l.length cB] 81) = wx at *
          generalize wr.heap.size = xb at *
          obtain ⟨x0, x1⟩ := kX.two_
          have xz := kX.lt
          go_wp2_with fail
          refine (searchA_any SA TA d lo segs us no _ hAx (by omega) HA.out.up).mono ?_
          rintro e ws ⟨r, q, rfl, hF, hbs⟩
          have hw := hw.below hbs
          have kX := kX.below hbs
          have hrB := hrB.below hbs
          have kAx := kAx.below hbs
          have hAx := hAx.below hbs
          have HF := Lib.hid hF
          clear hF hbs a0 a1 za x0 x1 xz hxz
          cases q
          · have HT : Hid (us ++ mgN us (bs.take (k + 1)) = us ++ mgN us (bs.take k) ++ [(no, l)]) := Lib.hid (by rw [HN1.out (HF.out.2.2 rfl), List.append_assoc])
            clear HN1 HN2 HNK
            go_upto_region 17 with (fail)
            have kX := kX.drew
            have hrB := hrB.drew
            have hw := hw.drew
            clear kAx hAx
            refine wp_region_heldK 7 (fun w' => w'.cell? ⟨W0.heap.size, 1, none⟩ = some (.slice A zs.length dz)) (fun _ => True) (by kernel_rfl) (trivial) (hw.box.two_.2) (fun hT hS => ?_)
            (refine wpAnyK_take2 (i := 0) (v := ?_) (by (simp only [List.getElem?_toArray, List.getElem?_cons_zero]; rfl)) (by kernel_rfl) (by kernel_rfl) (by kernel_rfl) (by decide) (by exact fun _ _ _ h => h) (Or.inl ⟨by rfl, ?_⟩) (by assumption) (by assumption) ?_; (rotate_left 1; (intro w hSw; (try dsimp only at hSw); go_simp); (try with_reducible rfl)); (try simp only [Act.put, List.setIfInBounds_toArray, List.set_cons_zero, List.set_cons_succ]))
            (refine wpAnyK_take1 (i := 1) (v := ?_) (by (simp only [List.getElem?_toArray, List.getElem?_cons_succ, List.getElem?_cons_zero]; rfl)) (by kernel_rfl) (by kernel_rfl) (by kernel_rfl) (by decide) (by kernel_rfl) (by kernel_rfl) (by exact fun _ _ _ h => h) (Or.inl ⟨by rfl, ?_⟩) (by assumption) (by assumption) ?_; (rotate_left 1; (intro w hSw; (try dsimp only at hSw); go_simp); (try with_reducible rfl)); (try simp only [Act.put, List.setIfInBounds_toArray, List.set_cons_zero, List.set_cons_succ]))
            refine wpAnyK_ready (rs := [2]) (by kernel_rfl) (by simp) ?_
            refine AllReadyK.cons rfl (fun K hK => ?_) AllReadyK.nil
            have x0 := kX.two_.1
            have x1 := kX.two_.2
            have xz := kX.lt
            go_simp
            clear x0 x1 xz
            refine hK.out _ _ (trivial) (hw.box.two_.2) (fun hT hS => ?_)
            clear hK K
            (try simp only [Act.put, List.setIfInBounds_toArray, List.set_cons_zero, List.set_cons_succ])
            refine wpAnyK_ready (rs := [3]) (by kernel_rfl) (by simp) ?_
            refine AllReadyK.cons rfl (fun K hK => ?_) AllReadyK.nil
            go_simp
            go_at_call 69
            refine (copyAttempt_any no B cB _ l _ hrB (by omega)).mono ?_
            rintro e wt ⟨B', c5, rfl, hoB, hbt⟩
            have hoB := own_weak hoB hw.size
            have hw := hw.below hbt
            have kX := kX.below hbt
            go_wp2_with fail
            refine hK.out _ _ (trivial) (hw.box.two_.2) (fun hT hS => ?_)
            clear hK K
            (try simp only [Act.put, List.setIfInBounds_toArray, List.set_cons_zero, List.set_cons_succ])
            refine wpAnyK_ready (rs := [4]) (by kernel_rfl) (by simp) ?_
            refine AllReadyK.cons rfl (fun K hK => ?_) AllReadyK.nil
            go_simp
            have hby : Blk (wt.alloc (.cells #[.int .i64 no, .slice B' l.length c5] 81)) wt.heap.size 81 #[.int .i64 no, .slice B' l.length c5] := Blk.new _ _ _
            have hw := hw.alloc (.cells #[.int .i64 no, .slice B' l.length c5] 81)
            have kX := kX.alloc (.cells #[.int .i64 no, .slice B' l.length c5] 81)
            have hoB := hoB.alloc (.cells #[.int .i64 no, .slice B' l.length c5] 81)
            refine hK.out _ _ (trivial) (hw.box.two_.2) (fun hT hS => ?_)
            clear hK K
            (try simp only [Act.put, List.setIfInBounds_toArray, List.set_cons_zero, List.set_cons_succ])
            refine wpAnyK_ready (rs := [5]) (by kernel_rfl) (by simp) ?_
            refine AllReadyK.cons rfl (fun K hK => ?_) AllReadyK.nil
            refine step_app (lo := 0) (base := W0.heap.size) (n := zs.length) (xs := zs.flatMap encE) _ rfl _ _ ty_atts rfl hw.att.row rfl (Row.lit (n := 1) (size := 2) hby (Nat.zero_le _) rfl) rfl rfl (by omega) (by omega) hw.size ?_
            intro A5 d5 w5 hown5 hg5 _
            have hbx := hw.box_app hg5
            refine hK.out _ _ (trivial) (hbx.two_.2) (fun hT hS => ?_)
            clear hK K
            (try simp only [Act.put, List.setIfInBounds_toArray, List.set_cons_zero, List.set_cons_succ])
            (refine wpAnyK_take2 (i := 6) (v := ?_) (by (simp only [List.getElem?_toArray, List.getElem?_cons_succ, List.getElem?_cons_zero]; rfl)) (by kernel_rfl) (by kernel_rfl) (by kernel_rfl) (by decide) (by exact fun _ _ _ h => h) (Or.inl ⟨by rfl, ?_⟩) (by assumption) (by assumption) ?_; (rotate_left 1; (intro w hSw; (try dsimp only at hSw); go_simp); (try with_reducible rfl)); (try simp only [Act.put, List.setIfInBounds_toArray, List.set_cons_zero, List.set_cons_succ]))
            refine wpAnyK_ready (rs := [7]) (by kernel_rfl) (by simp) ?_
            refine AllReadyK.consT (by kernel_rfl) rfl (fun K hK => ?_) AllReadyK.nil
            have q0 := hbx.two_.1
            have q1 := hbx.two_.2
            have qf := hbx.thaw 1
            have qz := hbx.lt
            go_simp
            clear q0 q1 qf qz
            have hw := hw.push (x := ((no, l), (B', c5))) hg5 hoB hown5
            refine hK.out _ _ (trivial) (fun hT => ?_)
            clear hK K
            (try simp only [Act.put, List.setIfInBounds_toArray, List.set_cons_zero, List.set_cons_succ])
            refine wpAnyK_done (by kernel_rfl) ?_ _
            go_wp2_with fail
            go_roundw
            case rel => exact ⟨k + 1, _, d5, zs ++ [((no, l), (B', c5))], by omega, by go_num, by rw [attE_app, HZ.out]; exact HT.out.symm, hw⟩
            case measure => simp [intOf]; omega
          · obtain ⟨hr, her⟩ := HF.out.2.1 rfl
            have HT : Hid (mgN us (bs.take (k + 1)) = mgN us (bs.take k)) := Lib.hid (HN2.out ⟨r, hr, her⟩)
            have hsp := HNK.out r hr her
            have hul := (HA.out.spl r hr).len
            clear HN1 HN2 HNK HF
            obtain ⟨b, off, B2, cB2, rfl, hbs, c0, c1, hrB2⟩ := hAx.att hr
            rw [hsp] at c1 hrB2
            clear hsp her
            generalize us[r].1 = no2 at *
            obtain ⟨a0, a1⟩ := kAx.two_
            have za := kAx.lt
            obtain ⟨x0, x1⟩ := kX.two_
            have xz := kX.lt
            have hEq := Lib.hid (fun (n : Nat) => equalI_any B2 B cB2 cB lo lo' l l (ws.drewN n) (hrB2.drewN n) (hrB.drewN n) (by omega) (by omega))
            go_wp2_with fail
            go_quiet ((go_at_call 35; exact quietD (hEq.out _)))
            go_wp2_with fail
            go_roundw
            case rel => exact ⟨k + 1, A, dz, zs, by omega, by go_num, by rw [HT.out]; exact HZ, hw.below (below_drewN' (Below.refl _ _) _)⟩
            case measure => simp [intOf]; omega
        · have hkn : bs.take k = bs := List.take_of_length_le (by omega)
          rw [hkn] at HZ
          have hke : k = bs.length := by omega
          subst hke
          clear hkn hk hlt
          obtain ⟨q0, q1⟩ := hw.box.two_
          have qz := hw.box.lt
          have d5 : decide (500 < zs.length) = false := by simp; omega
          go_wp2_with fail
          refine (sortA_any A dz W0.heap.size zs _ hw.att (by omega)).mono ?_
          rintro e ws ⟨rfl, ys, hp, hsd, hoA, hgA⟩
          have hw := hw.turned hgA hp.length_eq hoA
          rw [← hp.length_eq] at hzl
          clear q0 q1 qz d5 hgA hoA
          have kR9 := kR.below hw.bel
          have hoS9 := own_keep hoS hw.bel
          have hx9 := below_up HX.out hw.bel
          obtain ⟨q0, q1⟩ := hw.box.two_
          have qz := hw.box.lt
          obtain ⟨r0, r1⟩ := kR9.two_
          have rz := kR9.lt
          have rf0 := kR9.thaw 0
          have rf1 := kR9.thaw 1
          obtain ⟨z0, z1, z2⟩ := kR9.two2 (.slice S2 segs.length c2) (.slice A ys.length dz)
          have p := grown_pokeOf ws (w.heap.size + 2) 0 (.slice S2 segs.length c2)
          have qq := grown_pokeOf (ws.setCell ⟨w.heap.size + 2, 0, none⟩ (.slice S2 segs.length c2)) (w.heap.size + 2) 1 (.slice A ys.length dz)
          have k1 := (kR9.poke 0 (.slice S2 segs.length c2)).kindOf
          have HO := Lib.hid (show OHist _ w.heap.size S2 c2 A dz segs ys from ⟨own_otherOf (own_otherOf hoS9 p kR9.kindOf (by decide)) qq k1 (by decide), ((hw.att.other p kR9.kindOf (by decide) (by decide)).other qq k1 (by decide) (by decide)).weak hxs⟩)
          have HBW := Lib.hid (Below.setCell (Below.setCell hx9 (p := ⟨w.heap.size + 2, 0, none⟩) (by simp) (.slice S2 segs.length c2)) (p := ⟨w.heap.size + 2, 1, none⟩) (by simp) (.slice A ys.length dz))
          have HPM : Hid ((attE ys).Perm (us ++ mgN us bs)) := Lib.hid (by rw [← HZ.out]; exact hp.map _)
          have HSD : Hid ((attE ys).Pairwise (fun x y => x.1 ≤ y.1)) := Lib.hid (by unfold attE; rw [List.pairwise_map]; exact hsd)
          clear hw kR9 hoS9 hx9 p qq k1 hp hsd
          go_wp2_with fail
          refine bodyPost_ret (v := .tuple #[.agg #[.slice S2 segs.length c2, .slice A ys.length dz], .int .i64 0]) (by simp [results, Tryz.results26, go_sem, z0, z1, z2]) rfl ?_
          exact ⟨S2, A, c2, dz, ys, rfl, HO.out, HPM.out, HSD.out, HBW.out⟩
end Go.Proofs.YtapjahbflhingaaGreatDoor
