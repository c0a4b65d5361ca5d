/- Texts of this seat, laid together: MgC Mga MgH. -/
import Derived.Deep.DeepCutAuto
import Derived.Test.YtggnccafmadacaaGreatDoorBu18
import Derived.Test.YtggnccafmadacaaGreatDoorBu23
import Derived.Test.YtggnccafmadacaaGreatDoorBu25
import Derived.Test.YtggnccafmadacaaGreatDoorBu15
import Derived.Test.YtggnccafmadacaaGreatDoorBu16
/- The walk of segment.Merge at right histories that do not contradict each other. -/
namespace Go.Proofs.YtggnccafmadacaaGreatDoor
set_option linter.unusedVariables false
set_option linter.unusedSimpArgs false
open Go.RowKit Go.Sort

/-- The world while a history is built in the box that was made last. -/
structure MW (W0 wr : World) (u : Value) (A : Option Addr) (d : Nat) (zs : List AttE) : Prop where
  box : Blk wr W0.heap.size 56 #[u, .slice A zs.length d]
  att : OAtts wr W0.heap.size A d zs
  bel : Below W0.heap.size W0 wr
section
variable {W0 wr w' : World} {u : Value} {A : Option Addr} {d : Nat} {zs : List AttE}
theorem MW.below (h : MW W0 wr u A d zs) (hb : Below wr.heap.size wr w') : MW W0 w' u A d zs := ⟨h.box.below hb, h.att.below hb, below_up h.bel hb⟩
theorem MW.alloc (h : MW W0 wr u A d zs) (o : Obj) : MW W0 (wr.alloc o) u A d zs := h.below ((Below.refl _ _).alloc (Nat.le_refl _) o)
theorem MW.drew (h : MW W0 wr u A d zs) : MW W0 wr.drew u A d zs := h.below (Below.refl _ _).drew
theorem MW.size (h : MW W0 wr u A d zs) : W0.heap.size ≤ wr.heap.size := h.bel.size
theorem MW.start (W0 : World) (u : Value) : MW W0 (W0.alloc (.cells #[u, .slice none 0 0] 56)) u none 0 [] := ⟨Blk.new _ _ _, OAtts.nil _ _, (Below.refl _ _).alloc (Nat.le_refl _) _⟩
theorem MW.box_app (h : MW W0 wr u A d zs) (hg : wr.grownBy w' (Value.slice A zs.length d).ownBlock) : Blk w' W0.heap.size 56 #[u, .slice A zs.length d] := h.box.otherOf hg (own_kindOf h.att.row) (by decide)
theorem MW.push (h : MW W0 wr u A d zs) (hg : wr.grownBy w' (Value.slice A zs.length d).ownBlock) {x : AttE} (ho : wr.ownsRow W0.heap.size 3 1 (.slice x.2.1 x.1.2.length x.2.2) x.1.2.length (ints x.1.2))
    {A5 : Option Addr} {d5 : Nat} (h5 : w'.ownsRow W0.heap.size 62 2 (.slice A5 (zs.length + 1) d5) (zs.length + 1) (zs.flatMap encE ++ encE x)) :
    MW W0 (w'.setCell ⟨W0.heap.size, 1, none⟩ (.slice A5 (zs.length + 1) d5)) u A5 d5 (zs ++ [x]) := by
  have b5 := h.box_app hg
  have p := grown_pokeOf w' W0.heap.size 1 (.slice A5 (zs.length + 1) d5)
  have hb5 := b5.poke 1 (.slice A5 (zs.length + 1) d5)
  refine ⟨by rw [List.length_append]; simpa using hb5, (h.att.push hg ho h5).other p b5.kindOf (by decide) (by decide), ?_⟩
  have hbw : Below W0.heap.size W0 w' := h.bel.grown hg h.size (fun k hk => (h.att.row.lt k hk).1)
  exact Below.setCell hbw (by simp) _
/-- The attempts are in order. -/
theorem MW.turned (h : MW W0 wr u A d zs) (hg : wr.grownBy w' (Value.slice A zs.length d).ownBlock) {ys : List AttE} (hl : ys.length = zs.length) (h5 : OAtts w' W0.heap.size A d ys) : MW W0 w' u A d ys :=
  ⟨by rw [hl]; exact h.box_app hg, h5, h.bel.grown hg h.size (fun k hk => (h.att.row.lt k hk).1)⟩
end
/-- A history of the call's own. -/
def OHist (w : World) (base : Nat) (SA : Option Addr) (c : Nat) (TA : Option Addr) (d : Nat) (segs : List (List UInt8)) (zs : List AttE) : Prop :=
  w.ownsRow base 9 1 (.slice SA segs.length c) segs.length (strs segs) ∧ OAtts w base TA d zs
theorem OHist.hist {w : World} {base : Nat} {SA TA : Option Addr} {c d : Nat} {segs : List (List UInt8)} {zs : List AttE} (h : OHist w base SA c TA d segs zs) : Hist w base SA TA segs (attE zs) := h.2.hist h.1
theorem OAtts.weak {w : World} {base base' : Nat} {A : Option Addr} {d : Nat} {zs : List AttE} (h : OAtts w base A d zs) (hb : base' ≤ base) : OAtts w base' A d zs := ⟨own_weak h.row hb, fun x hx => own_weak (h.spl x hx) hb⟩
theorem quietD {P : Program} {f : FuncId} {args : Array Value} {w : World} {n : Nat} {v : Value} (h : Calls P f args (w.drewN n) fun e w' => e = .returned v ∧ ∃ q, w' = (w.drewN n).drewN q) : Calls P f args (w.drewN n) fun e w'' => e = .returned v ∧ ∃ m, w'' = w.drewN m :=
  h.mono fun _ _ ⟨he, q, hm⟩ => ⟨he, _, hm.trans (World.drewN_drewN _ _ _)⟩
def MergePost (w : World) (segs : List (List UInt8)) (us bs : List Att) (e : Ending) (w' : World) : Prop :=
  ∃ (SA TA : Option Addr) (c d : Nat) (zs : List AttE), e = .returned (.tuple #[.agg #[.slice SA segs.length c, .slice TA zs.length d], .int .i64 0]) ∧ OHist w' w.heap.size SA c TA d segs zs ∧ (attE zs).Perm (us ++ mgN us bs) ∧ (attE zs).Pairwise (fun x y => x.1 ≤ y.1) ∧ Below w.heap.size w w'
set_option maxHeartbeats 8000000 in
set_option maxRecDepth 100000 in
theorem Merge_ok (SA TA SB TB : Option Addr) (c d c' d' lo lo' : Nat) (segs : List (List UInt8)) (us bs : List Att) (w : World) (hA : Hist w lo SA TA segs us) (hB : Hist w lo' SB TB segs bs) (hc : segs.length ≤ c) (hc' : segs.length ≤ c') (okA : HistOk segs us) (okB : HistOk segs bs)
    (hno : ∀ x ∈ bs, ∀ y ∈ us, y.1 = x.1 → y.2 = x.2) (hlen : (us ++ mgN us bs).length ≤ 500) :
    Calls Tryz.prog 30 #[.agg #[.slice SA segs.length c, .slice TA us.length d], .agg #[.slice SB segs.length c', .slice TB bs.length d']] w (MergePost w segs us bs) := by
  have n2 := okA.n2
  have n1 := okA.n1
  have ma := okA.m
  have mb := okB.m
  have HA := Lib.hid okA
  have HB := Lib.hid okB
  have HNO := Lib.hid hno
  have HLEN := Lib.hid hlen
  have KEY : Hid (∀ s ∈ segs, s.length ≤ 40) := Lib.hid (fun s hs => by
    obtain ⟨i, hi, rfl⟩ := List.mem_iff_getElem.1 hs
    have := okA.key i hi
    unfold keyB at this
    simp only [Bool.and_eq_true, decide_eq_true_eq] at this
    omega)
  clear okA okB hno hlen
  go_enter Tryz.func30, Tryz.ntmps30
  go_upto_region 1 with (fail)
  have kA : Blk (((w.alloc (.cells #[.slice SA segs.length c, .slice TA us.length d] 56)).alloc (.cells #[.slice SB segs.length c', .slice TB bs.length d'] 56)).alloc (.cells #[.slice none 0 0, .slice none 0 0] 56)) w.heap.size 56 #[.slice SA segs.length c, .slice TA us.length d] := ((Blk.new _ _ _).alloc _).alloc _
  have kB : Blk (((w.alloc (.cells #[.slice SA segs.length c, .slice TA us.length d] 56)).alloc (.cells #[.slice SB segs.length c', .slice TB bs.length d'] 56)).alloc (.cells #[.slice none 0 0, .slice none 0 0] 56)) (w.heap.size + 1) 56 #[.slice SB segs.length c', .slice TB bs.length d'] := by
    have := (Blk.new (w.alloc (.cells #[.slice SA segs.length c, .slice TA us.length d] 56)) 56 #[.slice SB segs.length c', .slice TB bs.length d']).alloc (.cells #[.slice none 0 0, .slice none 0 0] 56)
    simpa using this
  have kR : Blk (((w.alloc (.cells #[.slice SA segs.length c, .slice TA us.length d] 56)).alloc (.cells #[.slice SB segs.length c', .slice TB bs.length d'] 56)).alloc (.cells #[.slice none 0 0, .slice none 0 0] 56)) (w.heap.size + 2) 56 #[.slice none 0 0, .slice none 0 0] := by
    have := Blk.new ((w.alloc (.cells #[.slice SA segs.length c, .slice TA us.length d] 56)).alloc (.cells #[.slice SB segs.length c', .slice TB bs.length d'] 56)) 56 #[.slice none 0 0, .slice none 0 0]
    simpa using this
  have hA := ((hA.alloc (.cells #[.slice SA segs.length c, .slice TA us.length d] 56)).alloc (.cells #[.slice SB segs.length c', .slice TB bs.length d'] 56)).alloc (.cells #[.slice none 0 0, .slice none 0 0] 56)
  have hB := ((hB.alloc (.cells #[.slice SA segs.length c, .slice TA us.length d] 56)).alloc (.cells #[.slice SB segs.length c', .slice TB bs.length d'] 56)).alloc (.cells #[.slice none 0 0, .slice none 0 0] 56)
  have hx : Below w.heap.size w (((w.alloc (.cells #[.slice SA segs.length c, .slice TA us.length d] 56)).alloc (.cells #[.slice SB segs.length c', .slice TB bs.length d'] 56)).alloc (.cells #[.slice none 0 0, .slice none 0 0] 56)) := (((Below.refl _ _).alloc (Nat.le_refl _) _).alloc (by simp) _).alloc (by simp; omega) _
  generalize ((w.alloc (.cells #[.slice SA segs.length c, .slice TA us.length d] 56)).alloc (.cells #[.slice SB segs.length c', .slice TB bs.length d'] 56)).alloc (.cells #[.slice none 0 0, .slice none 0 0] 56) = w0 at *
  have hA := hA.below (Below.refl _ _).drew
  have hB := hB.below (Below.refl _ _).drew
  have kA := kA.drew
  have kB := kB.drew
  have kR := kR.drew
  have hx := hx.drew
  refine wp_region_held_drew (S := (fun w' => (w'.cell? ⟨w.heap.size, 0, none⟩ = some (.slice SA segs.length c) ∧ w'.cell? ⟨w.heap.size, 1, none⟩ = some (.slice TA us.length d)) ∧ w'.cell? ⟨w.heap.size + 1, 0, none⟩ = some (.slice SB segs.length c') ∧ w'.cell? ⟨w.heap.size + 1, 1, none⟩ = some (.slice TB bs.length d'))) (by kernel_rfl) (⟨kA.two_, kB.two_⟩) (fun hHeld => ?_)
  (refine wpAnyH_take (i := 0) (v := ?_) (by (simp only [List.getElem?_toArray, List.getElem?_cons_zero]; rfl)) (by kernel_rfl) (by kernel_rfl) (by kernel_rfl) (by exact fun _ _ _ h => h) (Or.inl ⟨by rfl, ?_⟩) (by assumption) ?_; (rotate_left 1; (intro w hSw; (try dsimp only at hSw); go_simp); (try with_reducible rfl)); (try simp only [Act.put, List.setIfInBounds_toArray, List.set_cons_zero, List.set_cons_succ]))
  (refine wpAnyH_take (i := 2) (v := ?_) (by (simp only [List.getElem?_toArray, List.getElem?_cons_succ, List.getElem?_cons_zero]; rfl)) (by kernel_rfl) (by kernel_rfl) (by kernel_rfl) (by exact fun _ _ _ h => h) (Or.inl ⟨by rfl, ?_⟩) (by assumption) ?_; (rotate_left 1; (intro w hSw; (try dsimp only at hSw); go_simp); (try with_reducible rfl)); (try simp only [Act.put, List.setIfInBounds_toArray, List.set_cons_zero, List.set_cons_succ]))
  refine wpAnyH_ready (rs := [1]) (by kernel_rfl) (by simp) ?_
  refine AllReadyH.cons rfl (fun K hK => ?_) AllReadyH.nil
  go_simp
  go_at_call 81
  refine (checkHistory_any SA TA c d _ segs us _ hA hc (by omega) (by omega) (fun i h => by have := (HA.out.spl i h).len; omega) (fun s hs => by have := KEY.out s hs; omega)).mono ?_
  rintro e wa ⟨rfl, hba⟩
  have hA := hA.below hba
  have hB := hB.below hba
  have kA := kA.below hba
  have kB := kB.below hba
  have kR := kR.below hba
  have hx := below_up hx hba
  rw [histF_zero HA.out]
  go_wp2_with fail
  refine hK.out _ _ (⟨kA.two_, kB.two_⟩) (fun hHeld => ?_)
  clear hK K
  (try simp only [Act.put, List.setIfInBounds_toArray, List.set_cons_zero, List.set_cons_succ])
  refine wpAnyH_ready (rs := [3]) (by kernel_rfl) (by simp) ?_
  refine AllReadyH.cons rfl (fun K hK => ?_) AllReadyH.nil
  go_simp
  go_at_call 81
  refine (checkHistory_any SB TB c' d' _ segs bs _ hB hc' (by omega) (by omega) (fun i h => by have := (HB.out.spl i h).len; omega) (fun s hs => by have := KEY.out s hs; omega)).mono ?_
  rintro e wb ⟨rfl, hbb⟩
  have hA := hA.below hbb
  have hB := hB.below hbb
  have kA := kA.below hbb
  have kB := kB.below hbb
  have kR := kR.below hbb
  have hx := below_up hx hbb
  rw [histF_zero HB.out]
  go_wp2_with fail
  refine hK.out _ _ (⟨kA.two_, kB.two_⟩) (fun hHeld => ?_)
  clear hK K
  (try simp only [Act.put, List.setIfInBounds_toArray, List.set_cons_zero, List.set_cons_succ])
  refine wpAnyH_ready (rs := [4]) (by kernel_rfl) (by simp) ?_
  refine AllReadyH.cons rfl (fun K hK => ?_) AllReadyH.nil
  go_simp
  have hF := row_new wb #[.int .i64 0, .int .i64 0] 29 0 1 2 (Nat.zero_le _) rfl
  have hA := hA.alloc (.cells #[.int .i64 0, .int .i64 0] 29)
  have hB := hB.alloc (.cells #[.int .i64 0, .int .i64 0] 29)
  have kA := kA.alloc (.cells #[.int .i64 0, .int .i64 0] 29)
  have kB := kB.alloc (.cells #[.int .i64 0, .int .i64 0] 29)
  have kR := kR.alloc (.cells #[.int .i64 0, .int .i64 0] 29)
  have hx : Below w.heap.size w (wb.alloc (.cells #[.int .i64 0, .int .i64 0] 29)) := Below.alloc hx hx.size _
  refine hK.out _ _ (⟨kA.two_, kB.two_⟩) (fun hHeld => ?_)
  clear hK K
  (try simp only [Act.put, List.setIfInBounds_toArray, List.set_cons_zero, List.set_cons_succ])
  refine wpAnyH_ready (rs := [5]) (by kernel_rfl) (by simp) ?_
  refine AllReadyH.cons rfl (fun K hK => ?_) AllReadyH.nil
  go_simp
  go_at_call 80
  refine (first_any _ _ 0 [0, 0] _ hF (by simp)).mono ?_
  rintro e wf ⟨rfl, rfl⟩
  rw [show firstE [0, 0] = 0 from rfl]
  go_wp2_with fail
  refine hK.out _ _ (⟨kA.two_, kB.two_⟩) (fun hHeld => ?_)
  clear hK K
  (try simp only [Act.put, List.setIfInBounds_toArray, List.set_cons_zero, List.set_cons_succ])
  (refine wpAnyH_take (i := 6) (v := ?_) (by (simp only [List.getElem?_toArray, List.getElem?_cons_succ, List.getElem?_cons_zero]; rfl)) (by kernel_rfl) (by kernel_rfl) (by kernel_rfl) (by exact fun _ _ _ h => h) (Or.inl ⟨by rfl, ?_⟩) (by assumption) ?_; (rotate_left 1; (intro w hSw; (try dsimp only at hSw); go_simp); (try with_reducible rfl)); (try simp only [Act.put, List.setIfInBounds_toArray, List.set_cons_zero, List.set_cons_succ]))
  refine wpAnyH_done (by kernel_rfl) ?_ _
  generalize wb.alloc (.cells #[.int .i64 0, .int .i64 0] 29) = w1 at *
  clear hF hba hbb
  have HZ1 := Lib.hid hx.size
  obtain ⟨a0, a1⟩ := kA.two_
  obtain ⟨b0, b1⟩ := kB.two_
  have za := kA.lt
  have zb := kB.lt
  have zr := kR.lt
  go_wp2_with fail
  refine (equalS_any SA SB c c' _ _ segs segs _ hA.1 hB.1 (by omega) (by omega)).mono ?_
  rintro e w2 ⟨rfl, q, rfl⟩
  rw [decide_eq_true rfl]
  have bq : Below w1.heap.size w1 (w1.drewN q) := below_drewN' (Below.refl _ _) q
  have hA := hA.below bq
  have hB := hB.below bq
  have kA := kA.below bq
  have kB := kB.below bq
  have kR := kR.below bq
  have hx := below_up hx bq
  generalize w1.drewN q = w2 at *
  clear bq a0 a1 b0 b1 za zb zr HZ1
  obtain ⟨a0, a1⟩ := kA.two_
  have za := kA.lt
  go_wp2_with fail
  refine (cloneS_any SA c _ segs _ hA.1 (by omega)).mono ?_
  rintro e w3 ⟨S2, c2, rfl, hoS, hbs⟩
  have hoS := own_weak hoS hx.size
  have hA := hA.below hbs
  have hB := hB.below hbs
  have kA := kA.below hbs
  have kB := kB.below hbs
  have kR := kR.below hbs
  have hx := below_up hx hbs
  clear hbs a0 a1 za
  have HX := Lib.hid hx
  have hxs := hx.size
  obtain ⟨a0, a1⟩ := kA.two_
  have za := kA.lt
  have zr3 := kR.lt
  clear hx
  go_wp2_with fail
  have hw := MW.start w3 (.slice S2 segs.length c2)
  generalize w3.alloc (.cells #[.slice S2 segs.length c2, .slice none 0 0] 56) = w4 at *
  have hA4 := hA.below hw.bel
  have kA4 := kA.below hw.bel
  obtain ⟨a0, a1⟩ := kA4.two_
  have za := kA4.lt
  obtain ⟨W0, hW0⟩ : ∃ W, W = w3 := ⟨_, rfl⟩
  subst hW0
  clear hA4 kA4
  go_wp2_with fail
  go_loopw [38] (fun i wr => ∃ (k : Nat) (A : Option Addr) (dz : Nat) (zs : List AttE), k ≤ us.length ∧ i = .int .i64 k ∧ Hid (attE zs = us.take k) ∧ MW W0 wr (.slice S2 segs.length c2) A dz zs) (fun i _ => us.length - (intOf i).toNat)
  case atStart => exact ⟨0, none, 0, [], Nat.zero_le _, rfl, Lib.hid rfl, hw⟩
  case round =>
    clear hw a0 a1 za
    obtain ⟨k, A, dz, zs, hk, rfl, HZ, hw⟩ := hrel
    by_cases hlt : k < us.length
    · obtain ⟨b, off, B, cB, rfl, hbs, c0, c1, hrB⟩ := (hA.below hw.bel).att hlt
      have hsl := (HA.out.spl k hlt).len
      have hzl : zs.length ≤ 500 := by
        have := congrArg List.length HZ.out
        rw [attE_len, List.length_take] at this
        omega
      have HT : Hid (us.take k ++ [us[k]] = us.take (k + 1)) := Lib.hid (List.take_succ_eq_append_getElem hlt).symm
      generalize us[k] = x at *
      obtain ⟨no, l⟩ := x
      dsimp only at *
      have kX : Blk (wr.alloc (.cells #[.int .i64 no, .slice B l.length cB] 62)) wr.heap.size 62 #[.int .i64 no, .slice B l.length cB] := Blk.new _ _ _
      have hrB := hrB.alloc (.cells #[.int .i64 no, .slice B l.length cB] 62)
      have hw := hw.alloc (.cells #[.int .i64 no, .slice B l.length cB] 62)
      go_upto_region 10 with (fail)
      clear c0 c1 hbs
      generalize wr.alloc (.cells #[.int .i64 no, .slice B l.length cB] 62) = wx at *
      generalize wr.heap.size = xb at *
      have kX := kX.drew
      have hrB := hrB.drew
      have hw := hw.drew
      refine wp_region_heldK 7 (fun w' => w'.cell? ⟨W0.heap.size, 1, none⟩ = some (.slice A zs.length dz)) (fun _ => True) (by kernel_rfl) (trivial) (hw.box.two_.2) (fun hT hS => ?_)
      (refine wpAnyK_take2 (i := 0) (v := ?_) (by (simp only [List.getElem?_toArray, List.getElem?_cons_zero]; rfl)) (by kernel_rfl) (by kernel_rfl) (by kernel_rfl) (by decide) (by exact fun _ _ _ h => h) (Or.inl ⟨by rfl, ?_⟩) (by assumption) (by assumption) ?_; (rotate_left 1; (intro w hSw; (try dsimp only at hSw); go_simp); (try with_reducible rfl)); (try simp only [Act.put, List.setIfInBounds_toArray, List.set_cons_zero, List.set_cons_succ]))
      (refine wpAnyK_take1 (i := 1) (v := ?_) (by (simp only [List.getElem?_toArray, List.getElem?_cons_succ, List.getElem?_cons_zero]; rfl)) (by kernel_rfl) (by kernel_rfl) (by kernel_rfl) (by decide) (by kernel_rfl) (by kernel_rfl) (by exact fun _ _ _ h => h) (Or.inl ⟨by rfl, ?_⟩) (by assumption) (by assumption) ?_; (rotate_left 1; (intro w hSw; (try dsimp only at hSw); go_simp); (try with_reducible rfl)); (try simp only [Act.put, List.setIfInBounds_toArray, List.set_cons_zero, List.set_cons_succ]))
      refine wpAnyK_ready (rs := [2]) (by kernel_rfl) (by simp) ?_
      refine AllReadyK.cons rfl (fun K hK => ?_) AllReadyK.nil
      have x0 := kX.two_.1
      have x1 := kX.two_.2
      have xz := kX.lt
      go_simp
      clear x0 x1 xz
      refine hK.out _ _ (trivial) (hw.box.two_.2) (fun hT hS => ?_)
      clear hK K
      (try simp only [Act.put, List.setIfInBounds_toArray, List.set_cons_zero, List.set_cons_succ])
      refine wpAnyK_ready (rs := [3]) (by kernel_rfl) (by simp) ?_
      refine AllReadyK.cons rfl (fun K hK => ?_) AllReadyK.nil
      go_simp
      go_at_call 82
      refine (copyAttempt_any no B cB _ l _ hrB (by omega)).mono ?_
      rintro e wt ⟨B', c5, rfl, hoB, hbt⟩
      have hoB := own_weak hoB hw.size
      have hw := hw.below hbt
      have kX := kX.below hbt
      go_wp2_with fail
      refine hK.out _ _ (trivial) (hw.box.two_.2) (fun hT hS => ?_)
      clear hK K
      (try simp only [Act.put, List.setIfInBounds_toArray, List.set_cons_zero, List.set_cons_succ])
      refine wpAnyK_ready (rs := [4]) (by kernel_rfl) (by simp) ?_
      refine AllReadyK.cons rfl (fun K hK => ?_) AllReadyK.nil
      go_simp
      have hby : Blk (wt.alloc (.cells #[.int .i64 no, .slice B' l.length c5] 62)) wt.heap.size 62 #[.int .i64 no, .slice B' l.length c5] := Blk.new _ _ _
      have hw := hw.alloc (.cells #[.int .i64 no, .slice B' l.length c5] 62)
      have kX := kX.alloc (.cells #[.int .i64 no, .slice B' l.length c5] 62)
      have hoB := hoB.alloc (.cells #[.int .i64 no, .slice B' l.length c5] 62)
      refine hK.out _ _ (trivial) (hw.box.two_.2) (fun hT hS => ?_)
      clear hK K
      (try simp only [Act.put, List.setIfInBounds_toArray, List.set_cons_zero, List.set_cons_succ])
      refine wpAnyK_ready (rs := [5]) (by kernel_rfl) (by simp) ?_
      refine AllReadyK.cons rfl (fun K hK => ?_) AllReadyK.nil
      refine step_app (lo := 0) (base := W0.heap.size) (n := zs.length) (xs := zs.flatMap encE) _ rfl _ _ ty_atts rfl hw.att.row rfl (Row.lit (n := 1) (size := 2) hby (Nat.zero_le _) rfl) rfl rfl (by omega) (by omega) hw.size ?_
      intro A5 d5 w5 hown5 hg5 _
      have hbx := hw.box_app hg5
      refine hK.out _ _ (trivial) (hbx.two_.2) (fun hT hS => ?_)
      clear hK K
      (try simp only [Act.put, List.setIfInBounds_toArray, List.set_cons_zero, List.set_cons_succ])
      (refine wpAnyK_take2 (i := 6) (v := ?_) (by (simp only [List.getElem?_toArray, List.getElem?_cons_succ, List.getElem?_cons_zero]; rfl)) (by kernel_rfl) (by kernel_rfl) (by kernel_rfl) (by decide) (by exact fun _ _ _ h => h) (Or.inl ⟨by rfl, ?_⟩) (by assumption) (by assumption) ?_; (rotate_left 1; (intro w hSw; (try dsimp only at hSw); go_simp); (try with_reducible rfl)); (try simp only [Act.put, List.setIfInBounds_toArray, List.set_cons_zero, List.set_cons_succ]))
      refine wpAnyK_ready (rs := [7]) (by kernel_rfl) (by simp) ?_
      refine AllReadyK.consT (by kernel_rfl) rfl (fun K hK => ?_) AllReadyK.nil
      have q0 := hbx.two_.1
      have q1 := hbx.two_.2
      have qf := hbx.thaw 1
      have qz := hbx.lt
      go_simp
      clear q0 q1 qf qz
      have hw := hw.push (x := ((no, l), (B', c5))) hg5 hoB hown5
      refine hK.out _ _ (trivial) (fun hT => ?_)
      clear hK K
      (try simp only [Act.put, List.setIfInBounds_toArray, List.set_cons_zero, List.set_cons_succ])
      refine wpAnyK_done (by kernel_rfl) ?_ _
      go_wp2_with fail
      go_roundw
      case rel => exact ⟨k + 1, _, d5, zs ++ [((no, l), (B', c5))], by omega, by go_num, by rw [attE_app, HZ.out]; exact HT.out, hw⟩
      case measure => simp [intOf]; omega
    · have hkn : us.take k = us := List.take_of_length_le (by omega)
      rw [hkn] at HZ
      obtain ⟨W1, hW1⟩ : ∃ W, W = wr := ⟨_, rfl⟩
      subst hW1
      clear hkn
      have hke : k = us.length := by omega
      subst hke
      clear hk hlt
      have hB4 := hB.below hw.bel
      have kB4 := kB.below hw.bel
      obtain ⟨b0, b1⟩ := kB4.two_
      have zb := kB4.lt
      clear hB4 kB4
      go_wp2_with fail
      go_loopw [53] (fun i wr => ∃ (k : Nat) (A : Option Addr) (dz : Nat) (zs : List AttE), k ≤ bs.length ∧ i = .int .i64 k ∧ Hid (attE zs = us ++ mgN us (bs.take k)) ∧ MW W0 wr (.slice S2 segs.length c2) A dz zs) (fun i _ => bs.length - (intOf i).toNat)
      case atStart => exact ⟨0, A, dz, zs, Nat.zero_le _, rfl, Lib.hid (by rw [HZ.out]; simp [mgN]), hw⟩
      case round =>
        clear hw HZ b0 b1 zb
        obtain ⟨k, A, dz, zs, hk, rfl, HZ, hw⟩ := hrel
        have hzl : zs.length ≤ 500 := by
          have h1 := congrArg List.length HZ.out
          have h2 := mgN_take_len us bs k
          have h3 := HLEN.out
          rw [attE_len] at h1
          omega
        by_cases hlt : k < bs.length
        · obtain ⟨b, off, B, cB, rfl, hbs, c0, c1, hrB⟩ := (hB.below hw.bel).att hlt
          have hsl := (HB.out.spl k hlt).len
          have HN1 := Lib.hid (fun h => mgN_new (a := us) hlt h)
          have HN2 := Lib.hid (fun h => mgN_old (a := us) hlt h)
          have HNK := Lib.hid (fun (j : Nat) (hj : j < us.length) (e : us[j].1 = bs[k].1) => HNO.out bs[k] (List.getElem_mem hlt) us[j] (List.getElem_mem hj) e)
          generalize bs[k] = x at *
          obtain ⟨no, l⟩ := x
          dsimp only at *
          have kX : Blk (wr.alloc (.cells #[.int .i64 no, .slice B l.length cB] 62)) wr.heap.size 62 #[.int .i64 no, .slice B l.length cB] := Blk.new _ _ _
          have hrB := hrB.alloc (.cells #[.int .i64 no, .slice B l.length cB] 62)
          have hw := hw.alloc (.cells #[.int .i64 no, .slice B l.length cB] 62)
          have kAx := kA.below hw.bel
          have hAx := hA.below hw.bel
          have hxz : (wr.alloc (.cells #[.int .i64 no, .slice B l.length cB] 62)).heap.size = wr.heap.size + 1 := by simp
          obtain ⟨a0, a1⟩ := kAx.two_
          have za := kAx.lt
          go_upto_region 15 with (fail)
          clear c0 c1 hbs
          generalize wr.alloc (.cells #[.int .i64 no, .slice B l.length cB] 62) = wx at *
          generalize wr.heap.size = xb at *
          obtain ⟨x0, x1⟩ := kX.two_
          have xz := kX.lt
          go_wp2_with fail
          refine (searchA_any SA TA d lo segs us no _ hAx (by omega) HA.out.up).mono ?_
          rintro e ws ⟨r, q, rfl, hF, hbs⟩
          have hw := hw.below hbs
          have kX := kX.below hbs
          have hrB := hrB.below hbs
          have kAx := kAx.below hbs
          have hAx := hAx.below hbs
          have HF := Lib.hid hF
          clear hF hbs a0 a1 za x0 x1 xz hxz
          cases q
          · have HT : Hid (us ++ mgN us (bs.take (k + 1)) = us ++ mgN us (bs.take k) ++ [(no, l)]) := Lib.hid (by rw [HN1.out (HF.out.2.2 rfl), List.append_assoc])
            clear HN1 HN2 HNK
            go_upto_region 17 with (fail)
            have kX := kX.drew
            have hrB := hrB.drew
            have hw := hw.drew
            clear kAx hAx
            refine wp_region_heldK 7 (fun w' => w'.cell? ⟨W0.heap.size, 1, none⟩ = some (.slice A zs.length dz)) (fun _ => True) (by kernel_rfl) (trivial) (hw.box.two_.2) (fun hT hS => ?_)
            (refine wpAnyK_take2 (i := 0) (v := ?_) (by (simp only [List.getElem?_toArray, List.getElem?_cons_zero]; rfl)) (by kernel_rfl) (by kernel_rfl) (by kernel_rfl) (by decide) (by exact fun _ _ _ h => h) (Or.inl ⟨by rfl, ?_⟩) (by assumption) (by assumption) ?_; (rotate_left 1; (intro w hSw; (try dsimp only at hSw); go_simp); (try with_reducible rfl)); (try simp only [Act.put, List.setIfInBounds_toArray, List.set_cons_zero, List.set_cons_succ]))
            (refine wpAnyK_take1 (i := 1) (v := ?_) (by (simp only [List.getElem?_toArray, List.getElem?_cons_succ, List.getElem?_cons_zero]; rfl)) (by kernel_rfl) (by kernel_rfl) (by kernel_rfl) (by decide) (by kernel_rfl) (by kernel_rfl) (by exact fun _ _ _ h => h) (Or.inl ⟨by rfl, ?_⟩) (by assumption) (by assumption) ?_; (rotate_left 1; (intro w hSw; (try dsimp only at hSw); go_simp); (try with_reducible rfl)); (try simp only [Act.put, List.setIfInBounds_toArray, List.set_cons_zero, List.set_cons_succ]))
            refine wpAnyK_ready (rs := [2]) (by kernel_rfl) (by simp) ?_
            refine AllReadyK.cons rfl (fun K hK => ?_) AllReadyK.nil
            have x0 := kX.two_.1
            have x1 := kX.two_.2
            have xz := kX.lt
            go_simp
            clear x0 x1 xz
            refine hK.out _ _ (trivial) (hw.box.two_.2) (fun hT hS => ?_)
            clear hK K
            (try simp only [Act.put, List.setIfInBounds_toArray, List.set_cons_zero, List.set_cons_succ])
            refine wpAnyK_ready (rs := [3]) (by kernel_rfl) (by simp) ?_
            refine AllReadyK.cons rfl (fun K hK => ?_) AllReadyK.nil
            go_simp
            go_at_call 82
            refine (copyAttempt_any no B cB _ l _ hrB (by omega)).mono ?_
            rintro e wt ⟨B', c5, rfl, hoB, hbt⟩
            have hoB := own_weak hoB hw.size
            have hw := hw.below hbt
            have kX := kX.below hbt
            go_wp2_with fail
            refine hK.out _ _ (trivial) (hw.box.two_.2) (fun hT hS => ?_)
            clear hK K
            (try simp only [Act.put, List.setIfInBounds_toArray, List.set_cons_zero, List.set_cons_succ])
            refine wpAnyK_ready (rs := [4]) (by kernel_rfl) (by simp) ?_
            refine AllReadyK.cons rfl (fun K hK => ?_) AllReadyK.nil
            go_simp
            have hby : Blk (wt.alloc (.cells #[.int .i64 no, .slice B' l.length c5] 62)) wt.heap.size 62 #[.int .i64 no, .slice B' l.length c5] := Blk.new _ _ _
            have hw := hw.alloc (.cells #[.int .i64 no, .slice B' l.length c5] 62)
            have kX := kX.alloc (.cells #[.int .i64 no, .slice B' l.length c5] 62)
            have hoB := hoB.alloc (.cells #[.int .i64 no, .slice B' l.length c5] 62)
            refine hK.out _ _ (trivial) (hw.box.two_.2) (fun hT hS => ?_)
            clear hK K
            (try simp only [Act.put, List.setIfInBounds_toArray, List.set_cons_zero, List.set_cons_succ])
            refine wpAnyK_ready (rs := [5]) (by kernel_rfl) (by simp) ?_
            refine AllReadyK.cons rfl (fun K hK => ?_) AllReadyK.nil
            refine step_app (lo := 0) (base := W0.heap.size) (n := zs.length) (xs := zs.flatMap encE) _ rfl _ _ ty_atts rfl hw.att.row rfl (Row.lit (n := 1) (size := 2) hby (Nat.zero_le _) rfl) rfl rfl (by omega) (by omega) hw.size ?_
            intro A5 d5 w5 hown5 hg5 _
            have hbx := hw.box_app hg5
            refine hK.out _ _ (trivial) (hbx.two_.2) (fun hT hS => ?_)
            clear hK K
            (try simp only [Act.put, List.setIfInBounds_toArray, List.set_cons_zero, List.set_cons_succ])
            (refine wpAnyK_take2 (i := 6) (v := ?_) (by (simp only [List.getElem?_toArray, List.getElem?_cons_succ, List.getElem?_cons_zero]; rfl)) (by kernel_rfl) (by kernel_rfl) (by kernel_rfl) (by decide) (by exact fun _ _ _ h => h) (Or.inl ⟨by rfl, ?_⟩) (by assumption) (by assumption) ?_; (rotate_left 1; (intro w hSw; (try dsimp only at hSw); go_simp); (try with_reducible rfl)); (try simp only [Act.put, List.setIfInBounds_toArray, List.set_cons_zero, List.set_cons_succ]))
            refine wpAnyK_ready (rs := [7]) (by kernel_rfl) (by simp) ?_
            refine AllReadyK.consT (by kernel_rfl) rfl (fun K hK => ?_) AllReadyK.nil
            have q0 := hbx.two_.1
            have q1 := hbx.two_.2
            have qf := hbx.thaw 1
            have qz := hbx.lt
            go_simp
            clear q0 q1 qf qz
            have hw := hw.push (x := ((no, l), (B', c5))) hg5 hoB hown5
            refine hK.out _ _ (trivial) (fun hT => ?_)
            clear hK K
            (try simp only [Act.put, List.setIfInBounds_toArray, List.set_cons_zero, List.set_cons_succ])
            refine wpAnyK_done (by kernel_rfl) ?_ _
            go_wp2_with fail
            go_roundw
            case rel => exact ⟨k + 1, _, d5, zs ++ [((no, l), (B', c5))], by omega, by go_num, by rw [attE_app, HZ.out]; exact HT.out.symm, hw⟩
            case measure => simp [intOf]; omega
          · obtain ⟨hr, her⟩ := HF.out.2.1 rfl
            have HT : Hid (mgN us (bs.take (k + 1)) = mgN us (bs.take k)) := Lib.hid (HN2.out ⟨r, hr, her⟩)
            have hsp := HNK.out r hr her
            have hul := (HA.out.spl r hr).len
            clear HN1 HN2 HNK HF
            obtain ⟨b, off, B2, cB2, rfl, hbs, c0, c1, hrB2⟩ := hAx.att hr
            rw [hsp] at c1 hrB2
            clear hsp her
            generalize us[r].1 = no2 at *
            obtain ⟨a0, a1⟩ := kAx.two_
            have za := kAx.lt
            obtain ⟨x0, x1⟩ := kX.two_
            have xz := kX.lt
            have hEq := Lib.hid (fun (n : Nat) => equalI_any B2 B cB2 cB lo lo' l l (ws.drewN n) (hrB2.drewN n) (hrB.drewN n) (by omega) (by omega))
            go_wp2_with fail
            go_quiet ((go_at_call 86; exact quietD (hEq.out _)))
            go_wp2_with fail
            go_roundw
            case rel => exact ⟨k + 1, A, dz, zs, by omega, by go_num, by rw [HT.out]; exact HZ, hw.below (below_drewN' (Below.refl _ _) _)⟩
            case measure => simp [intOf]; omega
        · have hkn : bs.take k = bs := List.take_of_length_le (by omega)
          rw [hkn] at HZ
          have hke : k = bs.length := by omega
          subst hke
          clear hkn hk hlt
          obtain ⟨q0, q1⟩ := hw.box.two_
          have qz := hw.box.lt
          have d5 : decide (500 < zs.length) = false := by simp; omega
          go_wp2_with fail
          refine (sortA_any A dz W0.heap.size zs _ hw.att (by omega)).mono ?_
          rintro e ws ⟨rfl, ys, hp, hsd, hoA, hgA⟩
          have hw := hw.turned hgA hp.length_eq hoA
          rw [← hp.length_eq] at hzl
          clear q0 q1 qz d5 hgA hoA
          have kR9 := kR.below hw.bel
          have hoS9 := own_keep hoS hw.bel
          have hx9 := below_up HX.out hw.bel
          obtain ⟨q0, q1⟩ := hw.box.two_
          have qz := hw.box.lt
          obtain ⟨r0, r1⟩ := kR9.two_
          have rz := kR9.lt
          have rf0 := kR9.thaw 0
          have rf1 := kR9.thaw 1
          obtain ⟨z0, z1, z2⟩ := kR9.two2 (.slice S2 segs.length c2) (.slice A ys.length dz)
          have p := grown_pokeOf ws (w.heap.size + 2) 0 (.slice S2 segs.length c2)
          have qq := grown_pokeOf (ws.setCell ⟨w.heap.size + 2, 0, none⟩ (.slice S2 segs.length c2)) (w.heap.size + 2) 1 (.slice A ys.length dz)
          have k1 := (kR9.poke 0 (.slice S2 segs.length c2)).kindOf
          have HO := Lib.hid (show OHist _ w.heap.size S2 c2 A dz segs ys from ⟨own_otherOf (own_otherOf hoS9 p kR9.kindOf (by decide)) qq k1 (by decide), ((hw.att.other p kR9.kindOf (by decide) (by decide)).other qq k1 (by decide) (by decide)).weak hxs⟩)
          have HBW := Lib.hid (Below.setCell (Below.setCell hx9 (p := ⟨w.heap.size + 2, 0, none⟩) (by simp) (.slice S2 segs.length c2)) (p := ⟨w.heap.size + 2, 1, none⟩) (by simp) (.slice A ys.length dz))
          have HPM : Hid ((attE ys).Perm (us ++ mgN us bs)) := Lib.hid (by rw [← HZ.out]; exact hp.map _)
          have HSD : Hid ((attE ys).Pairwise (fun x y => x.1 ≤ y.1)) := Lib.hid (by unfold attE; rw [List.pairwise_map]; exact hsd)
          clear hw kR9 hoS9 hx9 p qq k1 hp hsd
          go_wp2_with fail
          refine bodyPost_ret (v := .tuple #[.agg #[.slice S2 segs.length c2, .slice A ys.length dz], .int .i64 0]) (by simp [results, Tryz.results30, go_sem, z0, z1, z2]) rfl ?_
          exact ⟨S2, A, c2, dz, ys, rfl, HO.out, HPM.out, HSD.out, HBW.out⟩
end Go.Proofs.YtggnccafmadacaaGreatDoor
/- The walk of segment.Merge at any two right histories of the same segments. -/
namespace Go.Proofs.YtggnccafmadacaaGreatDoor
set_option linter.unusedVariables false
set_option linter.unusedSimpArgs false
open Go.RowKit Go.Sort

/-- Two attempts of one number are not the same. -/
def confl (us bs : List Att) : Bool := bs.any fun x => us.any fun y => decide (y.1 = x.1) && !decide (y.2 = x.2)
theorem confl_yes {us bs : List Att} {x y : Att} (hx : x ∈ bs) (hy : y ∈ us) (h1 : y.1 = x.1) (h2 : ¬ y.2 = x.2) : confl us bs = true := by
  unfold confl
  rw [List.any_eq_true]
  refine ⟨x, hx, ?_⟩
  rw [List.any_eq_true]
  exact ⟨y, hy, by simp [h1, h2]⟩
theorem confl_no {us bs : List Att} (h : ∀ x ∈ bs, ∀ y ∈ us, y.1 = x.1 → y.2 = x.2) : confl us bs = false := by
  cases hc : confl us bs
  · rfl
  · unfold confl at hc
    rw [List.any_eq_true] at hc
    obtain ⟨x, hx, hc⟩ := hc
    rw [List.any_eq_true] at hc
    obtain ⟨y, hy, hc⟩ := hc
    rw [Bool.and_eq_true] at hc
    have := h x hx y hy (of_decide_eq_true hc.1)
    simp [this] at hc
def MergeTwo (w : World) (segs : List (List UInt8)) (us bs : List Att) (e : Ending) (w' : World) : Prop :=
  (confl us bs = false ∧ MergePost w segs us bs e w') ∨ (confl us bs = true ∧ e = .returned (.tuple #[.agg #[.slice none 0 0, .slice none 0 0], .int .i64 13]) ∧ Below w.heap.size w w')
set_option maxHeartbeats 8000000 in
set_option maxRecDepth 100000 in
theorem Merge_two (SA TA SB TB : Option Addr) (c d c' d' lo lo' : Nat) (segs : List (List UInt8)) (us bs : List Att) (w : World) (hA : Hist w lo SA TA segs us) (hB : Hist w lo' SB TB segs bs) (hc : segs.length ≤ c) (hc' : segs.length ≤ c') (okA : HistOk segs us) (okB : HistOk segs bs)
    (hlen : us.length + bs.length ≤ 500) :
    Calls Tryz.prog 30 #[.agg #[.slice SA segs.length c, .slice TA us.length d], .agg #[.slice SB segs.length c', .slice TB bs.length d']] w (MergeTwo w segs us bs) := by
  have n2 := okA.n2
  have n1 := okA.n1
  have ma := okA.m
  have mb := okB.m
  have HA := Lib.hid okA
  have HB := Lib.hid okB
  have HUP := Lib.hid (up_lt okA.up)
  have HLEN : Hid ((us ++ mgN us bs).length ≤ 500) := Lib.hid (by have := mgN_len us bs bs.length; rw [List.take_length] at this; rw [List.length_append]; omega)
  have BADP : Hid (∀ W', confl us bs = true → Below w.heap.size w W' → MergeTwo w segs us bs (.returned (.tuple #[.agg #[.slice none 0 0, .slice none 0 0], .int .i64 13])) W') := Lib.hid (fun W' h1 h2 => .inr ⟨h1, rfl, h2⟩)
  have KEY : Hid (∀ s ∈ segs, s.length ≤ 40) := Lib.hid (fun s hs => by
    obtain ⟨i, hi, rfl⟩ := List.mem_iff_getElem.1 hs
    have := okA.key i hi
    unfold keyB at this
    simp only [Bool.and_eq_true, decide_eq_true_eq] at this
    omega)
  clear okA okB hlen
  go_enter Tryz.func30, Tryz.ntmps30
  go_upto_region 1 with (fail)
  have kA : Blk (((w.alloc (.cells #[.slice SA segs.length c, .slice TA us.length d] 56)).alloc (.cells #[.slice SB segs.length c', .slice TB bs.length d'] 56)).alloc (.cells #[.slice none 0 0, .slice none 0 0] 56)) w.heap.size 56 #[.slice SA segs.length c, .slice TA us.length d] := ((Blk.new _ _ _).alloc _).alloc _
  have kB : Blk (((w.alloc (.cells #[.slice SA segs.length c, .slice TA us.length d] 56)).alloc (.cells #[.slice SB segs.length c', .slice TB bs.length d'] 56)).alloc (.cells #[.slice none 0 0, .slice none 0 0] 56)) (w.heap.size + 1) 56 #[.slice SB segs.length c', .slice TB bs.length d'] := by
    have := (Blk.new (w.alloc (.cells #[.slice SA segs.length c, .slice TA us.length d] 56)) 56 #[.slice SB segs.length c', .slice TB bs.length d']).alloc (.cells #[.slice none 0 0, .slice none 0 0] 56)
    simpa using this
  have kR : Blk (((w.alloc (.cells #[.slice SA segs.length c, .slice TA us.length d] 56)).alloc (.cells #[.slice SB segs.length c', .slice TB bs.length d'] 56)).alloc (.cells #[.slice none 0 0, .slice none 0 0] 56)) (w.heap.size + 2) 56 #[.slice none 0 0, .slice none 0 0] := by
    have := Blk.new ((w.alloc (.cells #[.slice SA segs.length c, .slice TA us.length d] 56)).alloc (.cells #[.slice SB segs.length c', .slice TB bs.length d'] 56)) 56 #[.slice none 0 0, .slice none 0 0]
    simpa using this
  have hA := ((hA.alloc (.cells #[.slice SA segs.length c, .slice TA us.length d] 56)).alloc (.cells #[.slice SB segs.length c', .slice TB bs.length d'] 56)).alloc (.cells #[.slice none 0 0, .slice none 0 0] 56)
  have hB := ((hB.alloc (.cells #[.slice SA segs.length c, .slice TA us.length d] 56)).alloc (.cells #[.slice SB segs.length c', .slice TB bs.length d'] 56)).alloc (.cells #[.slice none 0 0, .slice none 0 0] 56)
  have hx : Below w.heap.size w (((w.alloc (.cells #[.slice SA segs.length c, .slice TA us.length d] 56)).alloc (.cells #[.slice SB segs.length c', .slice TB bs.length d'] 56)).alloc (.cells #[.slice none 0 0, .slice none 0 0] 56)) := (((Below.refl _ _).alloc (Nat.le_refl _) _).alloc (by simp) _).alloc (by simp; omega) _
  generalize ((w.alloc (.cells #[.slice SA segs.length c, .slice TA us.length d] 56)).alloc (.cells #[.slice SB segs.length c', .slice TB bs.length d'] 56)).alloc (.cells #[.slice none 0 0, .slice none 0 0] 56) = w0 at *
  have hA := hA.below (Below.refl _ _).drew
  have hB := hB.below (Below.refl _ _).drew
  have kA := kA.drew
  have kB := kB.drew
  have kR := kR.drew
  have hx := hx.drew
  refine wp_region_held_drew (S := (fun w' => (w'.cell? ⟨w.heap.size, 0, none⟩ = some (.slice SA segs.length c) ∧ w'.cell? ⟨w.heap.size, 1, none⟩ = some (.slice TA us.length d)) ∧ w'.cell? ⟨w.heap.size + 1, 0, none⟩ = some (.slice SB segs.length c') ∧ w'.cell? ⟨w.heap.size + 1, 1, none⟩ = some (.slice TB bs.length d'))) (by kernel_rfl) (⟨kA.two_, kB.two_⟩) (fun hHeld => ?_)
  (refine wpAnyH_take (i := 0) (v := ?_) (by (simp only [List.getElem?_toArray, List.getElem?_cons_zero]; rfl)) (by kernel_rfl) (by kernel_rfl) (by kernel_rfl) (by exact fun _ _ _ h => h) (Or.inl ⟨by rfl, ?_⟩) (by assumption) ?_; (rotate_left 1; (intro w hSw; (try dsimp only at hSw); go_simp); (try with_reducible rfl)); (try simp only [Act.put, List.setIfInBounds_toArray, List.set_cons_zero, List.set_cons_succ]))
  (refine wpAnyH_take (i := 2) (v := ?_) (by (simp only [List.getElem?_toArray, List.getElem?_cons_succ, List.getElem?_cons_zero]; rfl)) (by kernel_rfl) (by kernel_rfl) (by kernel_rfl) (by exact fun _ _ _ h => h) (Or.inl ⟨by rfl, ?_⟩) (by assumption) ?_; (rotate_left 1; (intro w hSw; (try dsimp only at hSw); go_simp); (try with_reducible rfl)); (try simp only [Act.put, List.setIfInBounds_toArray, List.set_cons_zero, List.set_cons_succ]))
  refine wpAnyH_ready (rs := [1]) (by kernel_rfl) (by simp) ?_
  refine AllReadyH.cons rfl (fun K hK => ?_) AllReadyH.nil
  go_simp
  go_at_call 81
  refine (checkHistory_any SA TA c d _ segs us _ hA hc (by omega) (by omega) (fun i h => by have := (HA.out.spl i h).len; omega) (fun s hs => by have := KEY.out s hs; omega)).mono ?_
  rintro e wa ⟨rfl, hba⟩
  have hA := hA.below hba
  have hB := hB.below hba
  have kA := kA.below hba
  have kB := kB.below hba
  have kR := kR.below hba
  have hx := below_up hx hba
  rw [histF_zero HA.out]
  go_wp2_with fail
  refine hK.out _ _ (⟨kA.two_, kB.two_⟩) (fun hHeld => ?_)
  clear hK K
  (try simp only [Act.put, List.setIfInBounds_toArray, List.set_cons_zero, List.set_cons_succ])
  refine wpAnyH_ready (rs := [3]) (by kernel_rfl) (by simp) ?_
  refine AllReadyH.cons rfl (fun K hK => ?_) AllReadyH.nil
  go_simp
  go_at_call 81
  refine (checkHistory_any SB TB c' d' _ segs bs _ hB hc' (by omega) (by omega) (fun i h => by have := (HB.out.spl i h).len; omega) (fun s hs => by have := KEY.out s hs; omega)).mono ?_
  rintro e wb ⟨rfl, hbb⟩
  have hA := hA.below hbb
  have hB := hB.below hbb
  have kA := kA.below hbb
  have kB := kB.below hbb
  have kR := kR.below hbb
  have hx := below_up hx hbb
  rw [histF_zero HB.out]
  go_wp2_with fail
  refine hK.out _ _ (⟨kA.two_, kB.two_⟩) (fun hHeld => ?_)
  clear hK K
  (try simp only [Act.put, List.setIfInBounds_toArray, List.set_cons_zero, List.set_cons_succ])
  refine wpAnyH_ready (rs := [4]) (by kernel_rfl) (by simp) ?_
  refine AllReadyH.cons rfl (fun K hK => ?_) AllReadyH.nil
  go_simp
  have hF := row_new wb #[.int .i64 0, .int .i64 0] 29 0 1 2 (Nat.zero_le _) rfl
  have hA := hA.alloc (.cells #[.int .i64 0, .int .i64 0] 29)
  have hB := hB.alloc (.cells #[.int .i64 0, .int .i64 0] 29)
  have kA := kA.alloc (.cells #[.int .i64 0, .int .i64 0] 29)
  have kB := kB.alloc (.cells #[.int .i64 0, .int .i64 0] 29)
  have kR := kR.alloc (.cells #[.int .i64 0, .int .i64 0] 29)
  have hx : Below w.heap.size w (wb.alloc (.cells #[.int .i64 0, .int .i64 0] 29)) := Below.alloc hx hx.size _
  refine hK.out _ _ (⟨kA.two_, kB.two_⟩) (fun hHeld => ?_)
  clear hK K
  (try simp only [Act.put, List.setIfInBounds_toArray, List.set_cons_zero, List.set_cons_succ])
  refine wpAnyH_ready (rs := [5]) (by kernel_rfl) (by simp) ?_
  refine AllReadyH.cons rfl (fun K hK => ?_) AllReadyH.nil
  go_simp
  go_at_call 80
  refine (first_any _ _ 0 [0, 0] _ hF (by simp)).mono ?_
  rintro e wf ⟨rfl, rfl⟩
  rw [show firstE [0, 0] = 0 from rfl]
  go_wp2_with fail
  refine hK.out _ _ (⟨kA.two_, kB.two_⟩) (fun hHeld => ?_)
  clear hK K
  (try simp only [Act.put, List.setIfInBounds_toArray, List.set_cons_zero, List.set_cons_succ])
  (refine wpAnyH_take (i := 6) (v := ?_) (by (simp only [List.getElem?_toArray, List.getElem?_cons_succ, List.getElem?_cons_zero]; rfl)) (by kernel_rfl) (by kernel_rfl) (by kernel_rfl) (by exact fun _ _ _ h => h) (Or.inl ⟨by rfl, ?_⟩) (by assumption) ?_; (rotate_left 1; (intro w hSw; (try dsimp only at hSw); go_simp); (try with_reducible rfl)); (try simp only [Act.put, List.setIfInBounds_toArray, List.set_cons_zero, List.set_cons_succ]))
  refine wpAnyH_done (by kernel_rfl) ?_ _
  generalize wb.alloc (.cells #[.int .i64 0, .int .i64 0] 29) = w1 at *
  clear hF hba hbb
  have HZ1 := Lib.hid hx.size
  obtain ⟨a0, a1⟩ := kA.two_
  obtain ⟨b0, b1⟩ := kB.two_
  have za := kA.lt
  have zb := kB.lt
  have zr := kR.lt
  go_wp2_with fail
  refine (equalS_any SA SB c c' _ _ segs segs _ hA.1 hB.1 (by omega) (by omega)).mono ?_
  rintro e w2 ⟨rfl, q, rfl⟩
  rw [decide_eq_true rfl]
  have bq : Below w1.heap.size w1 (w1.drewN q) := below_drewN' (Below.refl _ _) q
  have hA := hA.below bq
  have hB := hB.below bq
  have kA := kA.below bq
  have kB := kB.below bq
  have kR := kR.below bq
  have hx := below_up hx bq
  generalize w1.drewN q = w2 at *
  clear bq a0 a1 b0 b1 za zb zr HZ1
  obtain ⟨a0, a1⟩ := kA.two_
  have za := kA.lt
  go_wp2_with fail
  refine (cloneS_any SA c _ segs _ hA.1 (by omega)).mono ?_
  rintro e w3 ⟨S2, c2, rfl, hoS, hbs⟩
  have hoS := own_weak hoS hx.size
  have hA := hA.below hbs
  have hB := hB.below hbs
  have kA := kA.below hbs
  have kB := kB.below hbs
  have kR := kR.below hbs
  have hx := below_up hx hbs
  clear hbs a0 a1 za
  have HX := Lib.hid hx
  have hxs := hx.size
  obtain ⟨a0, a1⟩ := kA.two_
  have za := kA.lt
  have zr3 := kR.lt
  clear hx
  go_wp2_with fail
  have hw := MW.start w3 (.slice S2 segs.length c2)
  generalize w3.alloc (.cells #[.slice S2 segs.length c2, .slice none 0 0] 56) = w4 at *
  have hA4 := hA.below hw.bel
  have kA4 := kA.below hw.bel
  obtain ⟨a0, a1⟩ := kA4.two_
  have za := kA4.lt
  obtain ⟨W0, hW0⟩ : ∃ W, W = w3 := ⟨_, rfl⟩
  subst hW0
  clear hA4 kA4
  go_wp2_with fail
  go_loopw [38] (fun i wr => ∃ (k : Nat) (A : Option Addr) (dz : Nat) (zs : List AttE), k ≤ us.length ∧ i = .int .i64 k ∧ Hid (attE zs = us.take k) ∧ MW W0 wr (.slice S2 segs.length c2) A dz zs) (fun i _ => us.length - (intOf i).toNat)
  case atStart => exact ⟨0, none, 0, [], Nat.zero_le _, rfl, Lib.hid rfl, hw⟩
  case round =>
    clear hw a0 a1 za
    obtain ⟨k, A, dz, zs, hk, rfl, HZ, hw⟩ := hrel
    by_cases hlt : k < us.length
    · obtain ⟨b, off, B, cB, rfl, hbs, c0, c1, hrB⟩ := (hA.below hw.bel).att hlt
      have hsl := (HA.out.spl k hlt).len
      have hzl : zs.length ≤ 500 := by
        have := congrArg List.length HZ.out
        rw [attE_len, List.length_take] at this
        omega
      have HT : Hid (us.take k ++ [us[k]] = us.take (k + 1)) := Lib.hid (List.take_succ_eq_append_getElem hlt).symm
      generalize us[k] = x at *
      obtain ⟨no, l⟩ := x
      dsimp only at *
      have kX : Blk (wr.alloc (.cells #[.int .i64 no, .slice B l.length cB] 62)) wr.heap.size 62 #[.int .i64 no, .slice B l.length cB] := Blk.new _ _ _
      have hrB := hrB.alloc (.cells #[.int .i64 no, .slice B l.length cB] 62)
      have hw := hw.alloc (.cells #[.int .i64 no, .slice B l.length cB] 62)
      go_upto_region 10 with (fail)
      clear c0 c1 hbs
      generalize wr.alloc (.cells #[.int .i64 no, .slice B l.length cB] 62) = wx at *
      generalize wr.heap.size = xb at *
      have kX := kX.drew
      have hrB := hrB.drew
      have hw := hw.drew
      refine wp_region_heldK 7 (fun w' => w'.cell? ⟨W0.heap.size, 1, none⟩ = some (.slice A zs.length dz)) (fun _ => True) (by kernel_rfl) (trivial) (hw.box.two_.2) (fun hT hS => ?_)
      (refine wpAnyK_take2 (i := 0) (v := ?_) (by (simp only [List.getElem?_toArray, List.getElem?_cons_zero]; rfl)) (by kernel_rfl) (by kernel_rfl) (by kernel_rfl) (by decide) (by exact fun _ _ _ h => h) (Or.inl ⟨by rfl, ?_⟩) (by assumption) (by assumption) ?_; (rotate_left 1; (intro w hSw; (try dsimp only at hSw); go_simp); (try with_reducible rfl)); (try simp only [Act.put, List.setIfInBounds_toArray, List.set_cons_zero, List.set_cons_succ]))
      (refine wpAnyK_take1 (i := 1) (v := ?_) (by (simp only [List.getElem?_toArray, List.getElem?_cons_succ, List.getElem?_cons_zero]; rfl)) (by kernel_rfl) (by kernel_rfl) (by kernel_rfl) (by decide) (by kernel_rfl) (by kernel_rfl) (by exact fun _ _ _ h => h) (Or.inl ⟨by rfl, ?_⟩) (by assumption) (by assumption) ?_; (rotate_left 1; (intro w hSw; (try dsimp only at hSw); go_simp); (try with_reducible rfl)); (try simp only [Act.put, List.setIfInBounds_toArray, List.set_cons_zero, List.set_cons_succ]))
      refine wpAnyK_ready (rs := [2]) (by kernel_rfl) (by simp) ?_
      refine AllReadyK.cons rfl (fun K hK => ?_) AllReadyK.nil
      have x0 := kX.two_.1
      have x1 := kX.two_.2
      have xz := kX.lt
      go_simp
      clear x0 x1 xz
      refine hK.out _ _ (trivial) (hw.box.two_.2) (fun hT hS => ?_)
      clear hK K
      (try simp only [Act.put, List.setIfInBounds_toArray, List.set_cons_zero, List.set_cons_succ])
      refine wpAnyK_ready (rs := [3]) (by kernel_rfl) (by simp) ?_
      refine AllReadyK.cons rfl (fun K hK => ?_) AllReadyK.nil
      go_simp
      go_at_call 82
      refine (copyAttempt_any no B cB _ l _ hrB (by omega)).mono ?_
      rintro e wt ⟨B', c5, rfl, hoB, hbt⟩
      have hoB := own_weak hoB hw.size
      have hw := hw.below hbt
      have kX := kX.below hbt
      go_wp2_with fail
      refine hK.out _ _ (trivial) (hw.box.two_.2) (fun hT hS => ?_)
      clear hK K
      (try simp only [Act.put, List.setIfInBounds_toArray, List.set_cons_zero, List.set_cons_succ])
      refine wpAnyK_ready (rs := [4]) (by kernel_rfl) (by simp) ?_
      refine AllReadyK.cons rfl (fun K hK => ?_) AllReadyK.nil
      go_simp
      have hby : Blk (wt.alloc (.cells #[.int .i64 no, .slice B' l.length c5] 62)) wt.heap.size 62 #[.int .i64 no, .slice B' l.length c5] := Blk.new _ _ _
      have hw := hw.alloc (.cells #[.int .i64 no, .slice B' l.length c5] 62)
      have kX := kX.alloc (.cells #[.int .i64 no, .slice B' l.length c5] 62)
      have hoB := hoB.alloc (.cells #[.int .i64 no, .slice B' l.length c5] 62)
      refine hK.out _ _ (trivial) (hw.box.two_.2) (fun hT hS => ?_)
      clear hK K
      (try simp only [Act.put, List.setIfInBounds_toArray, List.set_cons_zero, List.set_cons_succ])
      refine wpAnyK_ready (rs := [5]) (by kernel_rfl) (by simp) ?_
      refine AllReadyK.cons rfl (fun K hK => ?_) AllReadyK.nil
      refine step_app (lo := 0) (base := W0.heap.size) (n := zs.length) (xs := zs.flatMap encE) _ rfl _ _ ty_atts rfl hw.att.row rfl (Row.lit (n := 1) (size := 2) hby (Nat.zero_le _) rfl) rfl rfl (by omega) (by omega) hw.size ?_
      intro A5 d5 w5 hown5 hg5 _
      have hbx := hw.box_app hg5
      refine hK.out _ _ (trivial) (hbx.two_.2) (fun hT hS => ?_)
      clear hK K
      (try simp only [Act.put, List.setIfInBounds_toArray, List.set_cons_zero, List.set_cons_succ])
      (refine wpAnyK_take2 (i := 6) (v := ?_) (by (simp only [List.getElem?_toArray, List.getElem?_cons_succ, List.getElem?_cons_zero]; rfl)) (by kernel_rfl) (by kernel_rfl) (by kernel_rfl) (by decide) (by exact fun _ _ _ h => h) (Or.inl ⟨by rfl, ?_⟩) (by assumption) (by assumption) ?_; (rotate_left 1; (intro w hSw; (try dsimp only at hSw); go_simp); (try with_reducible rfl)); (try simp only [Act.put, List.setIfInBounds_toArray, List.set_cons_zero, List.set_cons_succ]))
      refine wpAnyK_ready (rs := [7]) (by kernel_rfl) (by simp) ?_
      refine AllReadyK.consT (by kernel_rfl) rfl (fun K hK => ?_) AllReadyK.nil
      have q0 := hbx.two_.1
      have q1 := hbx.two_.2
      have qf := hbx.thaw 1
      have qz := hbx.lt
      go_simp
      clear q0 q1 qf qz
      have hw := hw.push (x := ((no, l), (B', c5))) hg5 hoB hown5
      refine hK.out _ _ (trivial) (fun hT => ?_)
      clear hK K
      (try simp only [Act.put, List.setIfInBounds_toArray, List.set_cons_zero, List.set_cons_succ])
      refine wpAnyK_done (by kernel_rfl) ?_ _
      go_wp2_with fail
      go_roundw
      case rel => exact ⟨k + 1, _, d5, zs ++ [((no, l), (B', c5))], by omega, by go_num, by rw [attE_app, HZ.out]; exact HT.out, hw⟩
      case measure => simp [intOf]; omega
    · have hkn : us.take k = us := List.take_of_length_le (by omega)
      rw [hkn] at HZ
      obtain ⟨W1, hW1⟩ : ∃ W, W = wr := ⟨_, rfl⟩
      subst hW1
      clear hkn
      have hke : k = us.length := by omega
      subst hke
      clear hk hlt
      have hB4 := hB.below hw.bel
      have kB4 := kB.below hw.bel
      obtain ⟨b0, b1⟩ := kB4.two_
      have zb := kB4.lt
      clear hB4 kB4
      go_wp2_with fail
      go_loopw [53] (fun i wr => ∃ (k : Nat) (A : Option Addr) (dz : Nat) (zs : List AttE), k ≤ bs.length ∧ i = .int .i64 k ∧ Hid (attE zs = us ++ mgN us (bs.take k)) ∧ Hid (∀ x ∈ bs.take k, ∀ y ∈ us, y.1 = x.1 → y.2 = x.2) ∧ MW W0 wr (.slice S2 segs.length c2) A dz zs) (fun i _ => bs.length - (intOf i).toNat)
      case atStart => exact ⟨0, A, dz, zs, Nat.zero_le _, rfl, Lib.hid (by rw [HZ.out]; simp [mgN]), Lib.hid (fun x hx => by simp at hx), hw⟩
      case round =>
        clear hw HZ b0 b1 zb
        obtain ⟨k, A, dz, zs, hk, rfl, HZ, HNC, hw⟩ := hrel
        have hzl : zs.length ≤ 500 := by
          have h1 := congrArg List.length HZ.out
          have h2 := mgN_take_len us bs k
          have h3 := HLEN.out
          rw [attE_len] at h1
          omega
        by_cases hlt : k < bs.length
        · obtain ⟨b, off, B, cB, rfl, hbs, c0, c1, hrB⟩ := (hB.below hw.bel).att hlt
          have hsl := (HB.out.spl k hlt).len
          have HN1 := Lib.hid (fun h => mgN_new (a := us) hlt h)
          have HN2 := Lib.hid (fun h => mgN_old (a := us) hlt h)
          have HTB : Hid (bs.take (k + 1) = bs.take k ++ [bs[k]]) := Lib.hid (List.take_succ_eq_append_getElem hlt)
          have HMB := Lib.hid (List.getElem_mem hlt)
          generalize bs[k] = x at *
          obtain ⟨no, l⟩ := x
          dsimp only at *
          have kX : Blk (wr.alloc (.cells #[.int .i64 no, .slice B l.length cB] 62)) wr.heap.size 62 #[.int .i64 no, .slice B l.length cB] := Blk.new _ _ _
          have hrB := hrB.alloc (.cells #[.int .i64 no, .slice B l.length cB] 62)
          have hw := hw.alloc (.cells #[.int .i64 no, .slice B l.length cB] 62)
          have kAx := kA.below hw.bel
          have hAx := hA.below hw.bel
          have hxz : (wr.alloc (.cells #[.int .i64 no, .slice B l.length cB] 62)).heap.size = wr.heap.size + 1 := by simp
          obtain ⟨a0, a1⟩ := kAx.two_
          have za := kAx.lt
          go_upto_region 15 with (fail)
          clear c0 c1 hbs
          generalize wr.alloc (.cells #[.int .i64 no, .slice B l.length cB] 62) = wx at *
          generalize wr.heap.size = xb at *
          obtain ⟨x0, x1⟩ := kX.two_
          have xz := kX.lt
          go_wp2_with fail
          refine (searchA_any SA TA d lo segs us no _ hAx (by omega) HA.out.up).mono ?_
          rintro e ws ⟨r, q, rfl, hF, hbs⟩
          have hw := hw.below hbs
          have kX := kX.below hbs
          have hrB := hrB.below hbs
          have kAx := kAx.below hbs
          have hAx := hAx.below hbs
          have HF := Lib.hid hF
          clear hF hbs a0 a1 za x0 x1 xz hxz
          cases q
          · have HT : Hid (us ++ mgN us (bs.take (k + 1)) = us ++ mgN us (bs.take k) ++ [(no, l)]) := Lib.hid (by rw [HN1.out (HF.out.2.2 rfl), List.append_assoc])
            have HNC2 : Hid (∀ x ∈ bs.take (k + 1), ∀ y ∈ us, y.1 = x.1 → y.2 = x.2) := Lib.hid (fun x hx y hy e => by
              rw [HTB.out] at hx
              rcases List.mem_append.1 hx with hx | hx
              · exact HNC.out x hx y hy e
              · have hx := List.mem_singleton.1 hx
                subst hx
                obtain ⟨j, hj, rfl⟩ := List.mem_iff_getElem.1 hy
                exact absurd e (HF.out.2.2 rfl j hj))
            clear HN1 HN2
            go_upto_region 17 with (fail)
            have kX := kX.drew
            have hrB := hrB.drew
            have hw := hw.drew
            clear kAx hAx
            refine wp_region_heldK 7 (fun w' => w'.cell? ⟨W0.heap.size, 1, none⟩ = some (.slice A zs.length dz)) (fun _ => True) (by kernel_rfl) (trivial) (hw.box.two_.2) (fun hT hS => ?_)
            (refine wpAnyK_take2 (i := 0) (v := ?_) (by (simp only [List.getElem?_toArray, List.getElem?_cons_zero]; rfl)) (by kernel_rfl) (by kernel_rfl) (by kernel_rfl) (by decide) (by exact fun _ _ _ h => h) (Or.inl ⟨by rfl, ?_⟩) (by assumption) (by assumption) ?_; (rotate_left 1; (intro w hSw; (try dsimp only at hSw); go_simp); (try with_reducible rfl)); (try simp only [Act.put, List.setIfInBounds_toArray, List.set_cons_zero, List.set_cons_succ]))
            (refine wpAnyK_take1 (i := 1) (v := ?_) (by (simp only [List.getElem?_toArray, List.getElem?_cons_succ, List.getElem?_cons_zero]; rfl)) (by kernel_rfl) (by kernel_rfl) (by kernel_rfl) (by decide) (by kernel_rfl) (by kernel_rfl) (by exact fun _ _ _ h => h) (Or.inl ⟨by rfl, ?_⟩) (by assumption) (by assumption) ?_; (rotate_left 1; (intro w hSw; (try dsimp only at hSw); go_simp); (try with_reducible rfl)); (try simp only [Act.put, List.setIfInBounds_toArray, List.set_cons_zero, List.set_cons_succ]))
            refine wpAnyK_ready (rs := [2]) (by kernel_rfl) (by simp) ?_
            refine AllReadyK.cons rfl (fun K hK => ?_) AllReadyK.nil
            have x0 := kX.two_.1
            have x1 := kX.two_.2
            have xz := kX.lt
            go_simp
            clear x0 x1 xz
            refine hK.out _ _ (trivial) (hw.box.two_.2) (fun hT hS => ?_)
            clear hK K
            (try simp only [Act.put, List.setIfInBounds_toArray, List.set_cons_zero, List.set_cons_succ])
            refine wpAnyK_ready (rs := [3]) (by kernel_rfl) (by simp) ?_
            refine AllReadyK.cons rfl (fun K hK => ?_) AllReadyK.nil
            go_simp
            go_at_call 82
            refine (copyAttempt_any no B cB _ l _ hrB (by omega)).mono ?_
            rintro e wt ⟨B', c5, rfl, hoB, hbt⟩
            have hoB := own_weak hoB hw.size
            have hw := hw.below hbt
            have kX := kX.below hbt
            go_wp2_with fail
            refine hK.out _ _ (trivial) (hw.box.two_.2) (fun hT hS => ?_)
            clear hK K
            (try simp only [Act.put, List.setIfInBounds_toArray, List.set_cons_zero, List.set_cons_succ])
            refine wpAnyK_ready (rs := [4]) (by kernel_rfl) (by simp) ?_
            refine AllReadyK.cons rfl (fun K hK => ?_) AllReadyK.nil
            go_simp
            have hby : Blk (wt.alloc (.cells #[.int .i64 no, .slice B' l.length c5] 62)) wt.heap.size 62 #[.int .i64 no, .slice B' l.length c5] := Blk.new _ _ _
            have hw := hw.alloc (.cells #[.int .i64 no, .slice B' l.length c5] 62)
            have kX := kX.alloc (.cells #[.int .i64 no, .slice B' l.length c5] 62)
            have hoB := hoB.alloc (.cells #[.int .i64 no, .slice B' l.length c5] 62)
            refine hK.out _ _ (trivial) (hw.box.two_.2) (fun hT hS => ?_)
            clear hK K
            (try simp only [Act.put, List.setIfInBounds_toArray, List.set_cons_zero, List.set_cons_succ])
            refine wpAnyK_ready (rs := [5]) (by kernel_rfl) (by simp) ?_
            refine AllReadyK.cons rfl (fun K hK => ?_) AllReadyK.nil
            refine step_app (lo := 0) (base := W0.heap.size) (n := zs.length) (xs := zs.flatMap encE) _ rfl _ _ ty_atts rfl hw.att.row rfl (Row.lit (n := 1) (size := 2) hby (Nat.zero_le _) rfl) rfl rfl (by omega) (by omega) hw.size ?_
            intro A5 d5 w5 hown5 hg5 _
            have hbx := hw.box_app hg5
            refine hK.out _ _ (trivial) (hbx.two_.2) (fun hT hS => ?_)
            clear hK K
            (try simp only [Act.put, List.setIfInBounds_toArray, List.set_cons_zero, List.set_cons_succ])
            (refine wpAnyK_take2 (i := 6) (v := ?_) (by (simp only [List.getElem?_toArray, List.getElem?_cons_succ, List.getElem?_cons_zero]; rfl)) (by kernel_rfl) (by kernel_rfl) (by kernel_rfl) (by decide) (by exact fun _ _ _ h => h) (Or.inl ⟨by rfl, ?_⟩) (by assumption) (by assumption) ?_; (rotate_left 1; (intro w hSw; (try dsimp only at hSw); go_simp); (try with_reducible rfl)); (try simp only [Act.put, List.setIfInBounds_toArray, List.set_cons_zero, List.set_cons_succ]))
            refine wpAnyK_ready (rs := [7]) (by kernel_rfl) (by simp) ?_
            refine AllReadyK.consT (by kernel_rfl) rfl (fun K hK => ?_) AllReadyK.nil
            have q0 := hbx.two_.1
            have q1 := hbx.two_.2
            have qf := hbx.thaw 1
            have qz := hbx.lt
            go_simp
            clear q0 q1 qf qz
            have hw := hw.push (x := ((no, l), (B', c5))) hg5 hoB hown5
            refine hK.out _ _ (trivial) (fun hT => ?_)
            clear hK K
            (try simp only [Act.put, List.setIfInBounds_toArray, List.set_cons_zero, List.set_cons_succ])
            refine wpAnyK_done (by kernel_rfl) ?_ _
            go_wp2_with fail
            go_roundw
            case rel => exact ⟨k + 1, _, d5, zs ++ [((no, l), (B', c5))], by omega, by go_num, by rw [attE_app, HZ.out]; exact HT.out.symm, HNC2, hw⟩
            case measure => simp [intOf]; omega
          · obtain ⟨hr, her⟩ := HF.out.2.1 rfl
            have HT : Hid (mgN us (bs.take (k + 1)) = mgN us (bs.take k)) := Lib.hid (HN2.out ⟨r, hr, her⟩)
            have hul := (HA.out.spl r hr).len
            have HER := Lib.hid her
            have HYS := Lib.hid (fun (y : Att) (hy : y ∈ us) (e : y.1 = no) => lt_inj HUP.out hy (List.getElem_mem hr) (e.trans her.symm))
            clear HN1 HN2 HF
            have HMU := Lib.hid (List.getElem_mem hr)
            obtain ⟨b, off, B2, cB2, rfl, hbs, c0, c1, hrB2⟩ := hAx.att hr
            generalize us[r] = xr at *
            obtain ⟨no2, l2⟩ := xr
            dsimp only at *
            by_cases hsp : l2 = l
            · have HNC2 : Hid (∀ x ∈ bs.take (k + 1), ∀ y ∈ us, y.1 = x.1 → y.2 = x.2) := Lib.hid (fun x hx y hy e => by
                rw [HTB.out] at hx
                rcases List.mem_append.1 hx with hx | hx
                · exact HNC.out x hx y hy e
                · have hx := List.mem_singleton.1 hx
                  subst hx
                  rw [HYS.out y hy e]; exact hsp)
              rw [hsp] at c1 hrB2
              clear hsp her HYS HER
              obtain ⟨a0, a1⟩ := kAx.two_
              have za := kAx.lt
              obtain ⟨x0, x1⟩ := kX.two_
              have xz := kX.lt
              have hEq := Lib.hid (fun (n : Nat) => equalI_any B2 B cB2 cB lo lo' l l (ws.drewN n) (hrB2.drewN n) (hrB.drewN n) (by omega) (by omega))
              go_wp2_with fail
              go_quiet ((go_at_call 86; exact quietD (hEq.out _)))
              go_wp2_with fail
              go_roundw
              case rel => exact ⟨k + 1, A, dz, zs, by omega, by go_num, by rw [HT.out]; exact HZ, HNC2, hw.below (below_drewN' (Below.refl _ _) _)⟩
              case measure => simp [intOf]; omega
            · have HCF : Hid (confl us bs = true) := Lib.hid (confl_yes HMB.out HMU.out HER.out hsp)
              have hde : decide (l2 = l) = false := decide_eq_false hsp
              have kR9 := kR.below hw.bel
              have hx9 := below_up HX.out hw.bel
              clear hsp her HYS HER HT HTB HMB
              obtain ⟨a0, a1⟩ := kAx.two_
              have za := kAx.lt
              obtain ⟨x0, x1⟩ := kX.two_
              have xz := kX.lt
              have hEq := Lib.hid (fun (n : Nat) => equalI_any B2 B cB2 cB lo lo' l2 l (ws.drewN n) (hrB2.drewN n) (hrB.drewN n) (by omega) (by omega))
              rw [hde] at hEq
              go_wp2_with fail
              go_quiet ((go_at_call 86; exact quietD (hEq.out _)))
              have kR8 := kR9.drewN nq
              have hx8 := below_drewN' hx9 nq
              generalize ws.drewN nq = wq at *
              obtain ⟨r0, r1⟩ := kR8.two_
              have rz := kR8.lt
              have rf0 := kR8.thaw 0
              have rf1 := kR8.thaw 1
              obtain ⟨z0, z1, z2⟩ := kR8.two2 (.slice none 0 0) (.slice none 0 0)
              clear a0 a1 za x0 x1 xz
              go_wp2_with fail
              refine bodyPost_ret (v := .tuple #[.agg #[.slice none 0 0, .slice none 0 0], .int .i64 13]) (by simp [results, Tryz.results30, go_sem, z0, z1, z2]) rfl ?_
              exact BADP.out _ HCF.out (Below.setCell (Below.setCell hx8 (p := ⟨w.heap.size + 2, 0, none⟩) (by simp) _) (p := ⟨w.heap.size + 2, 1, none⟩) (by simp) _)
        · have hkn : bs.take k = bs := List.take_of_length_le (by omega)
          rw [hkn] at HZ HNC
          have hke : k = bs.length := by omega
          subst hke
          clear hkn hk hlt
          obtain ⟨q0, q1⟩ := hw.box.two_
          have qz := hw.box.lt
          have d5 : decide (500 < zs.length) = false := by simp; omega
          go_wp2_with fail
          refine (sortA_any A dz W0.heap.size zs _ hw.att (by omega)).mono ?_
          rintro e ws ⟨rfl, ys, hp, hsd, hoA, hgA⟩
          have hw := hw.turned hgA hp.length_eq hoA
          rw [← hp.length_eq] at hzl
          clear q0 q1 qz d5 hgA hoA
          have kR9 := kR.below hw.bel
          have hoS9 := own_keep hoS hw.bel
          have hx9 := below_up HX.out hw.bel
          obtain ⟨q0, q1⟩ := hw.box.two_
          have qz := hw.box.lt
          obtain ⟨r0, r1⟩ := kR9.two_
          have rz := kR9.lt
          have rf0 := kR9.thaw 0
          have rf1 := kR9.thaw 1
          obtain ⟨z0, z1, z2⟩ := kR9.two2 (.slice S2 segs.length c2) (.slice A ys.length dz)
          have p := grown_pokeOf ws (w.heap.size + 2) 0 (.slice S2 segs.length c2)
          have qq := grown_pokeOf (ws.setCell ⟨w.heap.size + 2, 0, none⟩ (.slice S2 segs.length c2)) (w.heap.size + 2) 1 (.slice A ys.length dz)
          have k1 := (kR9.poke 0 (.slice S2 segs.length c2)).kindOf
          have HO := Lib.hid (show OHist _ w.heap.size S2 c2 A dz segs ys from ⟨own_otherOf (own_otherOf hoS9 p kR9.kindOf (by decide)) qq k1 (by decide), ((hw.att.other p kR9.kindOf (by decide) (by decide)).other qq k1 (by decide) (by decide)).weak hxs⟩)
          have HBW := Lib.hid (Below.setCell (Below.setCell hx9 (p := ⟨w.heap.size + 2, 0, none⟩) (by simp) (.slice S2 segs.length c2)) (p := ⟨w.heap.size + 2, 1, none⟩) (by simp) (.slice A ys.length dz))
          have HPM : Hid ((attE ys).Perm (us ++ mgN us bs)) := Lib.hid (by rw [← HZ.out]; exact hp.map _)
          have HSD : Hid ((attE ys).Pairwise (fun x y => x.1 ≤ y.1)) := Lib.hid (by unfold attE; rw [List.pairwise_map]; exact hsd)
          clear hw kR9 hoS9 hx9 p qq k1 hp hsd
          go_wp2_with fail
          refine bodyPost_ret (v := .tuple #[.agg #[.slice S2 segs.length c2, .slice A ys.length dz], .int .i64 0]) (by simp [results, Tryz.results30, go_sem, z0, z1, z2]) rfl ?_
          exact .inl ⟨confl_no HNC.out, S2, A, c2, dz, ys, rfl, HO.out, HPM.out, HSD.out, HBW.out⟩
end Go.Proofs.YtggnccafmadacaaGreatDoor
/- The walk of the stream's function that parts a history into two. -/
namespace Go.Proofs.YtggnccafmadacaaGreatDoor
set_option linter.unusedVariables false
set_option linter.unusedSimpArgs false
open Go.RowKit Go.Sort

/-- Two histories that are built side by side; their splits are another's. -/
structure HH2 (wr : World) (base ra rb : Nat) (uA uB : Value) (A : Option Addr) (d : Nat) (zs : List AttE) (B : Option Addr) (d' : Nat) (ys : List AttE) : Prop where
  ba : Blk wr ra 56 #[uA, .slice A zs.length d]
  bb : Blk wr rb 56 #[uB, .slice B ys.length d']
  oa : wr.ownsRow base 62 2 (.slice A zs.length d) zs.length (zs.flatMap encE)
  ob : wr.ownsRow base 62 2 (.slice B ys.length d') ys.length (ys.flatMap encE)
  dj : ∀ k, (Value.slice A zs.length d).ownBlock = some k → (Value.slice B ys.length d').ownBlock = some k → False
  ne : ra ≠ rb
section
variable {wr w' : World} {base ra rb g : Nat} {uA uB : Value} {A B : Option Addr} {d d' : Nat} {zs ys : List AttE}
theorem HH2.swap (h : HH2 wr base ra rb uA uB A d zs B d' ys) : HH2 wr base rb ra uB uA B d' ys A d zs := ⟨h.bb, h.ba, h.ob, h.oa, fun k a b => h.dj k b a, fun e => h.ne e.symm⟩
theorem HH2.below (h : HH2 wr base ra rb uA uB A d zs B d' ys) (hb : Below wr.heap.size wr w') : HH2 w' base ra rb uA uB A d zs B d' ys := ⟨h.ba.below hb, h.bb.below hb, own_keep h.oa hb, own_keep h.ob hb, h.dj, h.ne⟩
theorem HH2.alloc (h : HH2 wr base ra rb uA uB A d zs B d' ys) (o : Obj) : HH2 (wr.alloc o) base ra rb uA uB A d zs B d' ys := h.below ((Below.refl _ _).alloc (Nat.le_refl _) o)
theorem HH2.stream (h : HH2 wr base ra rb uA uB A d zs B d' ys) (hg : wr.grownBy w' (some g)) (h1 : g < base) (h2 : base ≤ ra) (h3 : base ≤ rb) : HH2 w' base ra rb uA uB A d zs B d' ys :=
  ⟨h.ba.stream hg (by omega), h.bb.stream hg (by omega), own_grown h.oa hg h1, own_grown h.ob hg h1, h.dj, h.ne⟩
theorem HH2.blk_app (h : HH2 wr base ra rb uA uB A d zs B d' ys) (hg : wr.grownBy w' (Value.slice A zs.length d).ownBlock) : Blk w' ra 56 #[uA, .slice A zs.length d] := h.ba.otherOf hg (own_kindOf h.oa) (by decide)
theorem HH2.push (h : HH2 wr base ra rb uA uB A d zs B d' ys) (hg : wr.grownBy w' (Value.slice A zs.length d).ownBlock) {x : AttE} {A5 : Option Addr} {d5 : Nat}
    (h5 : w'.ownsRow base 62 2 (.slice A5 (zs.length + 1) d5) (zs.length + 1) (zs.flatMap encE ++ encE x)) (hl : (Value.slice A5 (zs.length + 1) d5).ownBlock = (Value.slice A zs.length d).ownBlock ∨ (Value.slice A5 (zs.length + 1) d5).ownBlock = some wr.heap.size) :
    HH2 (w'.setCell ⟨ra, 1, none⟩ (.slice A5 (zs.length + 1) d5)) base ra rb uA uB A5 d5 (zs ++ [x]) B d' ys := by
  have hk := own_kindOf h.oa
  have ba5 := h.blk_app hg
  have bb5 := h.bb.otherOf hg hk (by decide)
  have ob5 : w'.ownsRow base 62 2 (.slice B ys.length d') ys.length (ys.flatMap encE) := h.ob.kept hg (by
    cases hv : (Value.slice B ys.length d').ownBlock with
    | none => exact .inl rfl
    | some k => right; intro he; exact h.dj k he.symm hv)
  have p := grown_pokeOf w' ra 1 (.slice A5 (zs.length + 1) d5)
  have e : (zs ++ [x]).flatMap encE = zs.flatMap encE ++ encE x := by simp
  refine ⟨by rw [List.length_append]; simpa using ba5.poke 1 (.slice A5 (zs.length + 1) d5), bb5.past _ _ _ (fun e => h.ne e.symm), ?_, own_otherOf ob5 p ba5.kindOf (by decide), ?_, h.ne⟩
  · rw [e, List.length_append]; exact own_otherOf h5 p ba5.kindOf (by decide)
  · intro k hk1 hk2
    rw [List.length_append] at hk1
    have hk1' : (Value.slice A5 (zs.length + 1) d5).ownBlock = some k := hk1
    rcases hl with hl | hl
    · rw [hl] at hk1'; exact h.dj k hk1' hk2
    · rw [hl] at hk1'
      injection hk1' with hk1'
      have := (h.ob.lt k hk2).2
      omega
/-- A box is written anew as it is. -/
theorem HH2.same (h : HH2 wr base ra rb uA uB A d zs B d' ys) : HH2 ((wr.setCell ⟨ra, 0, none⟩ uA).setCell ⟨ra, 1, none⟩ (.slice A zs.length d)) base ra rb uA uB A d zs B d' ys := by
  have p := grown_pokeOf wr ra 0 uA
  have k1 := h.ba.poke 0 uA
  have q := grown_pokeOf (wr.setCell ⟨ra, 0, none⟩ uA) ra 1 (.slice A zs.length d)
  exact ⟨by simpa using k1.poke 1 (.slice A zs.length d), (h.bb.past _ _ _ (fun e => h.ne e.symm)).past _ _ _ (fun e => h.ne e.symm), own_otherOf (own_otherOf h.oa p h.ba.kindOf (by decide)) q k1.kindOf (by decide), own_otherOf (own_otherOf h.ob p h.ba.kindOf (by decide)) q k1.kindOf (by decide), h.dj, h.ne⟩
theorem HH2.same_str (h : HH2 wr base ra rb uA uB A d zs B d' ys) {v : Value} {n : Nat} {xs : List Value} (ho : wr.ownsRow base 9 1 v n xs) : ((wr.setCell ⟨ra, 0, none⟩ uA).setCell ⟨ra, 1, none⟩ (.slice A zs.length d)).ownsRow base 9 1 v n xs :=
  own_past (own_past ho h.ba (by decide) 0 uA) (h.ba.poke 0 uA) (by decide) 1 (.slice A zs.length d)
end
/-- A row of attempts and their splits, as a history. -/
theorem hist_of {w0 w : World} {base lo g : Nat} {A SA : Option Addr} {d sc : Nat} {zs : List AttE} {ss : List (List UInt8)} (hr : w.ownsRow base 62 2 (.slice A zs.length d) zs.length (zs.flatMap encE)) (hs : w.ownsRow base 9 1 (.slice SA ss.length sc) ss.length (strs ss)) (hb : lo ≤ base)
    (hx : ∀ x ∈ zs, Row w0 lo 1 x.2.1 x.1.2.length (ints x.1.2)) (hg : w0.grownBy w (some g)) (hl : g < lo) : Hist w lo SA A ss (attE zs) := by
  refine ⟨(Row.of_own hs).weak hb, zs.flatMap encE, by rw [attE_len]; exact (Row.of_own hr).weak hb, fun i hi => ?_⟩
  have hi' : i < zs.length := by rw [attE_len] at hi; exact hi
  have e : (attE zs)[i] = zs[i].1 := by simp [attE]
  rw [e]
  exact ⟨zs[i].2.1, zs[i].2.2, (encE_at zs i hi').1, (encE_at zs i hi').2, (hx _ (List.getElem_mem _)).grown hg hl⟩
theorem Hist.att2 {w w' : World} {lo g : Nat} {SA TA : Option Addr} {segs : List (List UInt8)} {atts : List Att} (h : Hist w lo SA TA segs atts) {i : Nat} (hi : i < atts.length) (hg : w.grownBy w' (some g)) (hl : g < lo) :
    ∃ b off B c, TA = some ⟨b, off, none⟩ ∧ b < w'.heap.size ∧ w'.cell? ⟨b, off + i * 2, none⟩ = some (.int .i64 atts[i].1) ∧ w'.cell? ⟨b, off + i * 2 + 1, none⟩ = some (.slice B atts[i].2.length c) ∧ Row w lo 1 B atts[i].2.length (ints atts[i].2) := by
  obtain ⟨_, cs, h2, h3⟩ := h
  obtain ⟨B, c, a, b', d⟩ := h3 i hi
  obtain ⟨b, off, e, hlb, hb, hc⟩ := h2.2 (by omega)
  have hk : ∀ j u, cs[j]? = some u → w'.cell? ⟨b, off + j, none⟩ = some u := fun j u hu => (World.cell?_of_block (w := w) (hg.block b hb (fun e => by injection e with e; omega))).trans (hc j u hu)
  exact ⟨b, off, B, c, e, Nat.lt_of_lt_of_le hb hg.size, hk _ _ a, by rw [Nat.add_assoc]; exact hk _ _ b', d⟩
def Parts (atts us vs : List Att) : Prop := us.Sublist atts ∧ vs.Sublist atts ∧ ∀ x ∈ atts, x ∈ us ∨ x ∈ vs
theorem Parts.step {atts us vs : List Att} {k : Nat} (h : Parts (atts.take k) us vs) (hk : k < atts.length) : Parts (atts.take (k + 1)) (us ++ [atts[k]]) vs ∧ Parts (atts.take (k + 1)) us (vs ++ [atts[k]]) ∧ Parts (atts.take (k + 1)) (us ++ [atts[k]]) (vs ++ [atts[k]]) := by
  obtain ⟨h1, h2, h3⟩ := h
  rw [List.take_succ_eq_append_getElem hk]
  have s1 := h1.append_right [atts[k]]
  have s2 := h2.append_right [atts[k]]
  have t1 := h1.trans (List.sublist_append_left (atts.take k) [atts[k]])
  have t2 := h2.trans (List.sublist_append_left (atts.take k) [atts[k]])
  refine ⟨⟨s1, t2, fun x hx => ?_⟩, ⟨t1, s2, fun x hx => ?_⟩, ⟨s1, s2, fun x hx => ?_⟩⟩ <;>
  · rcases List.mem_append.1 hx with hx | hx
    · rcases h3 x hx with h | h <;> simp [h]
    · simp at hx; simp [hx]
def HalfPost (w : World) (g N lo : Nat) (segs : List (List UInt8)) (atts : List Att) (e : Ending) (w' : World) : Prop :=
  ∃ (SA TA SB TB : Option Addr) (c1 d1 c2 d2 : Nat) (us vs : List Att), e = .returned (.tuple #[.agg #[.slice SA segs.length c1, .slice TA us.length d1], .agg #[.slice SB segs.length c2, .slice TB vs.length d2]]) ∧ Hist w' lo SA TA segs us ∧ Hist w' lo SB TB segs vs ∧ Parts atts us vs ∧ segs.length ≤ c1 ∧ segs.length ≤ c2 ∧ Str w' g N ∧ w.grownBy w' (some g)
/-- Two halves: rows of the call's own, the splits another's. -/
def HalfPost2 (w : World) (g N lo : Nat) (segs : List (List UInt8)) (atts : List Att) (e : Ending) (w' : World) : Prop :=
  ∃ (SA TA SB TB : Option Addr) (c1 d1 c2 d2 : Nat) (zs ys : List AttE), e = .returned (.tuple #[.agg #[.slice SA segs.length c1, .slice TA zs.length d1], .agg #[.slice SB segs.length c2, .slice TB ys.length d2]]) ∧
    w'.ownsRow w.heap.size 9 1 (.slice SA segs.length c1) segs.length (strs segs) ∧ w'.ownsRow w.heap.size 9 1 (.slice SB segs.length c2) segs.length (strs segs) ∧
    w'.ownsRow w.heap.size 62 2 (.slice TA zs.length d1) zs.length (zs.flatMap encE) ∧ w'.ownsRow w.heap.size 62 2 (.slice TB ys.length d2) ys.length (ys.flatMap encE) ∧
    (∀ k, (Value.slice TA zs.length d1).ownBlock = some k → (Value.slice TB ys.length d2).ownBlock = some k → False) ∧ (∀ x ∈ zs ++ ys, Row w lo 1 x.2.1 x.1.2.length (ints x.1.2)) ∧ Parts atts (attE zs) (attE ys) ∧ Str w' g N ∧ w.grownBy w' (some g)
set_option maxHeartbeats 8000000 in
set_option maxRecDepth 100000 in
theorem half2_any (g N lo : Nat) (SA TA : Option Addr) (c d : Nat) (segs : List (List UInt8)) (atts : List Att) (w : World) (hs : Str w g N) (hN : N < 4611686018425000000) (hh : Hist w lo SA TA segs atts) (hg : g < lo) (hlo : lo ≤ w.heap.size) (n2 : segs.length ≤ 60) (m : atts.length ≤ 500) :
    Calls Tryz.prog 28 #[.pointer (some ⟨g, 0, none⟩), .agg #[.slice SA segs.length c, .slice TA atts.length d]] w (HalfPost2 w g (N + atts.length) lo segs atts) := by
  have hlt0 := hs.lt
  have HHW := Lib.hid hh
  go_enter Tryz.func28, Tryz.ntmps28
  go_upto_region 1 with (fail)
  have kH : Blk (((w.alloc (.cells #[.slice SA segs.length c, .slice TA atts.length d] 56)).alloc (.cells #[.slice none 0 0, .slice none 0 0] 56)).alloc (.cells #[.slice none 0 0, .slice none 0 0] 56)) w.heap.size 56 #[.slice SA segs.length c, .slice TA atts.length d] := ((Blk.new _ _ _).alloc _).alloc _
  have kA : Blk (((w.alloc (.cells #[.slice SA segs.length c, .slice TA atts.length d] 56)).alloc (.cells #[.slice none 0 0, .slice none 0 0] 56)).alloc (.cells #[.slice none 0 0, .slice none 0 0] 56)) (w.heap.size + 1) 56 #[.slice none 0 0, .slice none 0 0] := by
    have := (Blk.new (w.alloc (.cells #[.slice SA segs.length c, .slice TA atts.length d] 56)) 56 #[.slice none 0 0, .slice none 0 0]).alloc (.cells #[.slice none 0 0, .slice none 0 0] 56)
    simpa using this
  have kB : Blk (((w.alloc (.cells #[.slice SA segs.length c, .slice TA atts.length d] 56)).alloc (.cells #[.slice none 0 0, .slice none 0 0] 56)).alloc (.cells #[.slice none 0 0, .slice none 0 0] 56)) (w.heap.size + 1 + 1) 56 #[.slice none 0 0, .slice none 0 0] := by
    have := Blk.new ((w.alloc (.cells #[.slice SA segs.length c, .slice TA atts.length d] 56)).alloc (.cells #[.slice none 0 0, .slice none 0 0] 56)) 56 #[.slice none 0 0, .slice none 0 0]
    simpa using this
  have hx : Below w.heap.size w (((w.alloc (.cells #[.slice SA segs.length c, .slice TA atts.length d] 56)).alloc (.cells #[.slice none 0 0, .slice none 0 0] 56)).alloc (.cells #[.slice none 0 0, .slice none 0 0] 56)) := (((Below.refl _ _).alloc (Nat.le_refl _) _).alloc (by simp) _).alloc (by simp; omega) _
  generalize ((w.alloc (.cells #[.slice SA segs.length c, .slice TA atts.length d] 56)).alloc (.cells #[.slice none 0 0, .slice none 0 0] 56)).alloc (.cells #[.slice none 0 0, .slice none 0 0] 56) = w0 at *
  have kH := kH.drew
  have kA := kA.drew
  have kB := kB.drew
  have hx := hx.drew
  have hS : Row w0.drew lo 1 SA segs.length (strs segs) := hh.1.below hx
  refine wp_region_held_drew (S := (fun w' => w'.cell? ⟨w.heap.size, 0, none⟩ = some (.slice SA segs.length c))) (by kernel_rfl) (kH.two_.1) (fun hHeld => ?_)
  (refine wpAnyH_take (i := 0) (v := ?_) (by (simp only [List.getElem?_toArray, List.getElem?_cons_zero]; rfl)) (by kernel_rfl) (by kernel_rfl) (by kernel_rfl) (by exact fun _ _ _ h => h) (Or.inl ⟨by rfl, ?_⟩) (by assumption) ?_; (rotate_left 1; (intro w hSw; (try dsimp only at hSw); go_simp); (try with_reducible rfl)); (try simp only [Act.put, List.setIfInBounds_toArray, List.set_cons_zero, List.set_cons_succ]))
  (refine wpAnyH_take (i := 1) (v := ?_) (by (simp only [List.getElem?_toArray, List.getElem?_cons_succ, List.getElem?_cons_zero]; rfl)) (by kernel_rfl) (by kernel_rfl) (by kernel_rfl) (by exact fun _ _ _ h => h) (Or.inl ⟨by rfl, ?_⟩) (by assumption) ?_; (rotate_left 1; (intro w hSw; (try dsimp only at hSw); go_simp); (try with_reducible rfl)); (try simp only [Act.put, List.setIfInBounds_toArray, List.set_cons_zero, List.set_cons_succ]))
  (refine wpAnyH_take (i := 3) (v := ?_) (by (simp only [List.getElem?_toArray, List.getElem?_cons_succ, List.getElem?_cons_zero]; rfl)) (by kernel_rfl) (by kernel_rfl) (by kernel_rfl) (by exact fun _ _ _ h => h) (Or.inl ⟨by rfl, ?_⟩) (by assumption) ?_; (rotate_left 1; (intro w hSw; (try dsimp only at hSw); go_simp); (try with_reducible rfl)); (try simp only [Act.put, List.setIfInBounds_toArray, List.set_cons_zero, List.set_cons_succ]))
  (refine wpAnyH_take (i := 4) (v := ?_) (by (simp only [List.getElem?_toArray, List.getElem?_cons_succ, List.getElem?_cons_zero]; rfl)) (by kernel_rfl) (by kernel_rfl) (by kernel_rfl) (by exact fun _ _ _ h => h) (Or.inl ⟨by rfl, ?_⟩) (by assumption) ?_; (rotate_left 1; (intro w hSw; (try dsimp only at hSw); go_simp); (try with_reducible rfl)); (try simp only [Act.put, List.setIfInBounds_toArray, List.set_cons_zero, List.set_cons_succ]))
  refine wpAnyH_ready (rs := [2]) (by kernel_rfl) (by simp) ?_
  refine AllReadyH.cons rfl (fun K hK => ?_) AllReadyH.nil
  go_simp
  go_at_call 15
  refine (cloneS_any SA c _ segs _ hS (by omega)).mono ?_
  rintro e wc2 ⟨S2, c2, rfl, hoC2, hbc⟩
  have hoC2 := own_weak hoC2 hx.size
  have hS := hS.below hbc
  have kH := kH.below hbc
  have kA := kA.below hbc
  have kB := kB.below hbc
  have hx := below_up hx hbc
  clear hbc
  go_wp2_with fail
  refine hK.out _ _ (kH.two_.1) (fun hHeld => ?_)
  clear hK K
  (try simp only [Act.put, List.setIfInBounds_toArray, List.set_cons_zero, List.set_cons_succ])
  (refine wpAnyH_take (i := 6) (v := ?_) (by (simp only [List.getElem?_toArray, List.getElem?_cons_succ, List.getElem?_cons_zero]; rfl)) (by kernel_rfl) (by kernel_rfl) (by kernel_rfl) (by exact fun _ _ _ h => h) (Or.inl ⟨by rfl, ?_⟩) (by assumption) ?_; (rotate_left 1; (intro w hSw; (try dsimp only at hSw); go_simp); (try with_reducible rfl)); (try simp only [Act.put, List.setIfInBounds_toArray, List.set_cons_zero, List.set_cons_succ]))
  refine wpAnyH_ready (rs := [5]) (by kernel_rfl) (by simp) ?_
  refine AllReadyH.cons rfl (fun K hK => ?_) AllReadyH.nil
  go_simp
  go_at_call 15
  refine (cloneS_any SA c _ segs _ hS (by omega)).mono ?_
  rintro e wc5 ⟨S5, c5, rfl, hoC5, hbc⟩
  have hoC5 := own_weak hoC5 hx.size
  have hoC2 := own_keep hoC2 hbc
  have hS := hS.below hbc
  have kH := kH.below hbc
  have kA := kA.below hbc
  have kB := kB.below hbc
  have hx := below_up hx hbc
  clear hbc
  go_wp2_with fail
  refine hK.out _ _ (kH.two_.1) (fun hHeld => ?_)
  clear hK K
  (try simp only [Act.put, List.setIfInBounds_toArray, List.set_cons_zero, List.set_cons_succ])
  refine wpAnyH_ready (rs := [7]) (by kernel_rfl) (by simp) ?_
  refine AllReadyH.cons rfl (fun K hK => ?_) AllReadyH.nil
  obtain ⟨r0, r1⟩ := kA.two_
  have rz := kA.lt
  have rf := kA.thaw 0
  go_simp
  clear r0 r1 rz rf
  have hoC2 := own_past hoC2 kA (by decide) 0 (.slice S2 segs.length c2)
  have hoC5 := own_past hoC5 kA (by decide) 0 (.slice S2 segs.length c2)
  have kB := kB.past (w.heap.size + 1) 0 (.slice S2 segs.length c2) (by omega)
  have kH := kH.past (w.heap.size + 1) 0 (.slice S2 segs.length c2) (by omega)
  have hx := Below.setCell hx (p := ⟨w.heap.size + 1, 0, none⟩) (by simp) (.slice S2 segs.length c2)
  have kA : Blk _ (w.heap.size + 1) 56 #[.slice S2 segs.length c2, .slice none 0 0] := kA.poke 0 (.slice S2 segs.length c2)
  refine hK.out _ _ (kH.two_.1) (fun hHeld => ?_)
  clear hK K
  (try simp only [Act.put, List.setIfInBounds_toArray, List.set_cons_zero, List.set_cons_succ])
  (refine wpAnyH_take (i := 8) (v := ?_) (by (simp only [List.getElem?_toArray, List.getElem?_cons_succ, List.getElem?_cons_zero]; rfl)) (by kernel_rfl) (by kernel_rfl) (by kernel_rfl) (by exact fun _ _ _ h => h) (Or.inl ⟨by rfl, ?_⟩) (by assumption) ?_; (rotate_left 1; (intro w hSw; (try dsimp only at hSw); go_simp); (try with_reducible rfl)); (try simp only [Act.put, List.setIfInBounds_toArray, List.set_cons_zero, List.set_cons_succ]))
  refine wpAnyH_ready (rs := [9]) (by kernel_rfl) (by simp) ?_
  refine AllReadyH.cons rfl (fun K hK => ?_) AllReadyH.nil
  obtain ⟨r0, r1⟩ := kB.two_
  have rz := kB.lt
  have rf := kB.thaw 0
  go_simp
  clear r0 r1 rz rf
  have hoC2 := own_past hoC2 kB (by decide) 0 (.slice S5 segs.length c5)
  have hoC5 := own_past hoC5 kB (by decide) 0 (.slice S5 segs.length c5)
  have kA := kA.past (w.heap.size + 1 + 1) 0 (.slice S5 segs.length c5) (by omega)
  have kH := kH.past (w.heap.size + 1 + 1) 0 (.slice S5 segs.length c5) (by omega)
  have hx := Below.setCell hx (p := ⟨w.heap.size + 1 + 1, 0, none⟩) (by simp; omega) (.slice S5 segs.length c5)
  have kB : Blk _ (w.heap.size + 1 + 1) 56 #[.slice S5 segs.length c5, .slice none 0 0] := kB.poke 0 (.slice S5 segs.length c5)
  refine hK.out _ _ (kH.two_.1) (fun hHeld => ?_)
  clear hK K
  (try simp only [Act.put, List.setIfInBounds_toArray, List.set_cons_zero, List.set_cons_succ])
  refine wpAnyH_done (by kernel_rfl) ?_ _
  generalize (wc5.setCell ⟨w.heap.size + 1, 0, none⟩ (.slice S2 segs.length c2)).setCell ⟨w.heap.size + 1 + 1, 0, none⟩ (.slice S5 segs.length c5) = w1 at *
  have hcA := own_cap hoC2
  have hcB := own_cap hoC5
  have hgr := grown_of_below hx (some g)
  have hsq := hs.grown (grown_of_below hx none) (fun k hk => by cases hk)
  have hh2 : HH2 w1 w.heap.size (w.heap.size + 1) (w.heap.size + 1 + 1) (.slice S2 segs.length c2) (.slice S5 segs.length c5) none 0 [] none 0 [] := ⟨kA, kB, World.ownsRow_nil _ _ _ _, World.ownsRow_nil _ _ _ _, fun k h => (by cases h), by omega⟩
  clear kA kB hS hx hs
  obtain ⟨a0, a1⟩ := kH.two_
  have za := kH.lt
  go_wp2_with fail
  go_loopw [20] (fun i wr => ∃ (k : Nat) (A : Option Addr) (dz : Nat) (zs : List AttE) (B : Option Addr) (dy : Nat) (ys : List AttE), k ≤ atts.length ∧ i = .int .i64 k ∧ Hid (Parts (atts.take k) (attE zs) (attE ys)) ∧ Hid (∀ x ∈ zs ++ ys, Row w lo 1 x.2.1 x.1.2.length (ints x.1.2)) ∧ HH2 wr w.heap.size (w.heap.size + 1) (w.heap.size + 1 + 1) (.slice S2 segs.length c2) (.slice S5 segs.length c5) A dz zs B dy ys ∧ wr.ownsRow w.heap.size 9 1 (.slice S2 segs.length c2) segs.length (strs segs) ∧ wr.ownsRow w.heap.size 9 1 (.slice S5 segs.length c5) segs.length (strs segs) ∧ w.grownBy wr (some g) ∧ Str wr g (N + k)) (fun i _ => atts.length - (intOf i).toNat)
  case atStart => exact ⟨0, none, 0, [], none, 0, [], Nat.zero_le _, rfl, Lib.hid ⟨List.Sublist.refl _, List.Sublist.refl _, fun x h => by cases h⟩, Lib.hid (fun x h => by cases h), hh2, hoC2, hoC5, hgr, hsq⟩
  case round =>
    clear hh2 hoC2 hoC5 hgr hsq
    obtain ⟨k, A, dz, zs, B, dy, ys, hk, rfl, HP, HX, hh2, hoC2, hoC5, hgr, hsq⟩ := hrel
    by_cases hlt : k < atts.length
    · obtain ⟨b, off, Bx, cB, rfl, hbs, c0, c1, hrB⟩ := HHW.out.att2 hlt hgr hg
      have HPS := Lib.hid (HP.out.step hlt)
      have hzl : zs.length ≤ 500 ∧ ys.length ≤ 500 := by
        have h1 := HP.out.1.length_le
        have h2 := HP.out.2.1.length_le
        rw [attE_len, List.length_take] at h1 h2
        omega
      obtain ⟨hzl, hyl⟩ := hzl
      have HKA : ∀ j, (Value.slice A zs.length dz).ownBlock = some j → j < wr.heap.size := fun j h => (hh2.oa.lt j h).2
      have HKB : ∀ j, (Value.slice B ys.length dy).ownBlock = some j → j < wr.heap.size := fun j h => (hh2.ob.lt j h).2
      have hrbz := hh2.bb.lt
      have HXX : Hid (∀ (B : Option Addr) (c : Nat), Row w lo 1 B atts[k].2.length (ints atts[k].2) → Row w lo 1 (((atts[k].1, atts[k].2), (B, c)) : AttE).2.1 atts[k].2.length (ints atts[k].2)) := Lib.hid (fun B c h => h)
      generalize atts[k] = x at *
      obtain ⟨no, l⟩ := x
      dsimp only at *
      have HRB := Lib.hid hrB
      have kX : Blk (wr.alloc (.cells #[.int .i64 no, .slice Bx l.length cB] 62)) wr.heap.size 62 #[.int .i64 no, .slice Bx l.length cB] := Blk.new _ _ _
      have hh2 := hh2.alloc (.cells #[.int .i64 no, .slice Bx l.length cB] 62)
      have hoC2 := own_keep hoC2 ((Below.refl wr.heap.size wr).alloc (Nat.le_refl _) (.cells #[.int .i64 no, .slice Bx l.length cB] 62))
      have hoC5 := own_keep hoC5 ((Below.refl wr.heap.size wr).alloc (Nat.le_refl _) (.cells #[.int .i64 no, .slice Bx l.length cB] 62))
      have hzw := hgr.size
      have hgr := grown_alloc hgr (.cells #[.int .i64 no, .slice Bx l.length cB] 62)
      have hsq := hsq.alloc (.cells #[.int .i64 no, .slice Bx l.length cB] 62)
      go_upto_region 5 with (fail)
      clear c0 c1 hbs HXX hrB
      generalize wr.alloc (.cells #[.int .i64 no, .slice Bx l.length cB] 62) = wx at *
      generalize wr.heap.size = xb at *
      go_wp2_with fail
      refine (next_any g _ _ _ hsq (by omega) (by omega)).mono ?_
      rintro e wn ⟨r, rfl, r0, r1, r2, hsq, hgn⟩
      have r3 := r1 (by omega)
      have kX := kX.stream hgn (by omega)
      have hh2 := hh2.stream hgn hlt0 (by omega) (by omega)
      have hoC2 := own_grown hoC2 hgn hlt0
      have hoC5 := own_grown hoC5 hgn hlt0
      have hgr := grown_trans' hgr hgn
      clear r1 r2 hgn
      rcases (show r = 0 ∨ r = 1 ∨ r = 2 by omega) with rfl | rfl | rfl
      · have hby : Blk (wn.alloc (.cells #[.int .i64 no, .slice Bx l.length cB] 62)) wn.heap.size 62 #[.int .i64 no, .slice Bx l.length cB] := Blk.new _ _ _
        have hh3 := hh2.alloc (.cells #[.int .i64 no, .slice Bx l.length cB] 62)
        have kX3 := kX.alloc (.cells #[.int .i64 no, .slice Bx l.length cB] 62)
        have hgr3 := grown_alloc hgr (.cells #[.int .i64 no, .slice Bx l.length cB] 62)
        have hsq3 := hsq.alloc (.cells #[.int .i64 no, .slice Bx l.length cB] 62)
        obtain ⟨q0, q1⟩ := hh2.ba.two_
        have qz := hh2.ba.lt
        obtain ⟨x0, x1⟩ := kX.two_
        have xz := kX.lt
        go_wp2_with (at_builtin; go_must (refine wpList_app (lo := 0) (base := w.heap.size) (n := zs.length) (xs := zs.flatMap encE) _ _ rfl _ _ ty_atts rfl hh3.oa rfl (Row.lit (n := 1) (size := 2) hby (Nat.zero_le _) rfl) rfl rfl (by omega) (by omega) hgr3.size ?_))
        intro A5 d5 w5 hown5 hg5 hl5
        have hba5 := hh3.blk_app hg5
        have kX5 : Blk w5 xb 62 #[.int .i64 no, .slice Bx l.length cB] := (hg5.block xb kX3.lt (fun e => by have := HKA _ e.symm; omega)).trans kX3
        have hgr5 := grown_set_new (grown_app hgr3 hh3.oa hg5 (Nat.le_refl _)) (p := ⟨w.heap.size + 1, 1, none⟩) (by first | (simp; omega) | simp) (.slice A5 (zs.length + 1) d5)
        have hsq5 := (hsq3.app hh3.oa hg5 hlt0).set (p := ⟨w.heap.size + 1, 1, none⟩) (by first | (simp; omega) | simp) (.slice A5 (zs.length + 1) d5)
        have kX6 := kX5.past (w.heap.size + 1) 1 (.slice A5 (zs.length + 1) d5) (by omega)
        have hp5 := grown_pokeOf w5 (w.heap.size + 1) 1 (.slice A5 (zs.length + 1) d5)
        have hal := (Below.refl wn.heap.size wn).alloc (Nat.le_refl _) (.cells #[.int .i64 no, .slice Bx l.length cB] 62)
        have hoC2 := own_otherOf (own_otherOf (own_keep hoC2 hal) hg5 (own_kindOf hh3.oa) (by decide)) hp5 hba5.kindOf (by decide)
        have hoC5 := own_otherOf (own_otherOf (own_keep hoC5 hal) hg5 (own_kindOf hh3.oa) (by decide)) hp5 hba5.kindOf (by decide)
        have hh2 := hh3.push (x := ((no, l), (Bx, cB))) hg5 hown5 (by rw [World.size_alloc]; exact hl5)
        clear hp5 hal
        clear q0 q1 qz x0 x1 xz hh3 hgr hsq hg5 hown5 hl5 kX kX3 kX5 hgr3 hsq3 hby
        obtain ⟨q0, q1⟩ := hba5.two_
        have qz := hba5.lt
        have qf := hba5.thaw 1
        go_wp2_with fail
        go_roundw
        case rel => exact ⟨k + 1, A5, d5, zs ++ [((no, l), (Bx, cB))], B, dy, ys, by omega, by go_num, Lib.hid (by have := HPS.out.1; simpa [attE_app, attE] using this), Lib.hid (fun x hx => by
          have h1 := HX.out x
          have h2 : x ∈ zs ++ ys ∨ x = ((no, l), (Bx, cB)) := by simp at hx ⊢; grind
          rcases h2 with h2 | h2
          · exact h1 h2
          · subst h2; exact HRB.out), hh2, hoC2, hoC5, hgr5, hsq5⟩
        case measure => simp [intOf]; omega
      · have hh2 := hh2.swap
        have hby : Blk (wn.alloc (.cells #[.int .i64 no, .slice Bx l.length cB] 62)) wn.heap.size 62 #[.int .i64 no, .slice Bx l.length cB] := Blk.new _ _ _
        have hh3 := hh2.alloc (.cells #[.int .i64 no, .slice Bx l.length cB] 62)
        have kX3 := kX.alloc (.cells #[.int .i64 no, .slice Bx l.length cB] 62)
        have hgr3 := grown_alloc hgr (.cells #[.int .i64 no, .slice Bx l.length cB] 62)
        have hsq3 := hsq.alloc (.cells #[.int .i64 no, .slice Bx l.length cB] 62)
        obtain ⟨q0, q1⟩ := hh2.ba.two_
        have qz := hh2.ba.lt
        obtain ⟨x0, x1⟩ := kX.two_
        have xz := kX.lt
        go_wp2_with (at_builtin; go_must (refine wpList_app (lo := 0) (base := w.heap.size) (n := ys.length) (xs := ys.flatMap encE) _ _ rfl _ _ ty_atts rfl hh3.oa rfl (Row.lit (n := 1) (size := 2) hby (Nat.zero_le _) rfl) rfl rfl (by omega) (by omega) hgr3.size ?_))
        intro A5 d5 w5 hown5 hg5 hl5
        have hba5 := hh3.blk_app hg5
        have kX5 : Blk w5 xb 62 #[.int .i64 no, .slice Bx l.length cB] := (hg5.block xb kX3.lt (fun e => by have := HKB _ e.symm; omega)).trans kX3
        have hgr5 := grown_set_new (grown_app hgr3 hh3.oa hg5 (Nat.le_refl _)) (p := ⟨w.heap.size + 1 + 1, 1, none⟩) (by first | (simp; omega) | simp) (.slice A5 (ys.length + 1) d5)
        have hsq5 := (hsq3.app hh3.oa hg5 hlt0).set (p := ⟨w.heap.size + 1 + 1, 1, none⟩) (by first | (simp; omega) | simp) (.slice A5 (ys.length + 1) d5)
        have kX6 := kX5.past (w.heap.size + 1 + 1) 1 (.slice A5 (ys.length + 1) d5) (by omega)
        have hp5 := grown_pokeOf w5 (w.heap.size + 1 + 1) 1 (.slice A5 (ys.length + 1) d5)
        have hal := (Below.refl wn.heap.size wn).alloc (Nat.le_refl _) (.cells #[.int .i64 no, .slice Bx l.length cB] 62)
        have hoC2 := own_otherOf (own_otherOf (own_keep hoC2 hal) hg5 (own_kindOf hh3.oa) (by decide)) hp5 hba5.kindOf (by decide)
        have hoC5 := own_otherOf (own_otherOf (own_keep hoC5 hal) hg5 (own_kindOf hh3.oa) (by decide)) hp5 hba5.kindOf (by decide)
        have hh2 := hh3.push (x := ((no, l), (Bx, cB))) hg5 hown5 (by rw [World.size_alloc]; exact hl5)
        clear hp5 hal
        clear q0 q1 qz x0 x1 xz hh3 hgr hsq hg5 hown5 hl5 kX kX3 kX5 hgr3 hsq3 hby
        obtain ⟨q0, q1⟩ := hba5.two_
        have qz := hba5.lt
        have qf := hba5.thaw 1
        go_wp2_with fail
        go_roundw
        case rel => exact ⟨k + 1, A, dz, zs, A5, d5, ys ++ [((no, l), (Bx, cB))], by omega, by go_num, Lib.hid (by have := HPS.out.2.1; simpa [attE_app, attE] using this), Lib.hid (fun x hx => by
          have h1 := HX.out x
          have h2 : x ∈ zs ++ ys ∨ x = ((no, l), (Bx, cB)) := by simp at hx ⊢; grind
          rcases h2 with h2 | h2
          · exact h1 h2
          · subst h2; exact HRB.out), hh2.swap, hoC2, hoC5, hgr5, hsq5⟩
        case measure => simp [intOf]; omega
      · have hby : Blk (wn.alloc (.cells #[.int .i64 no, .slice Bx l.length cB] 62)) wn.heap.size 62 #[.int .i64 no, .slice Bx l.length cB] := Blk.new _ _ _
        have hh3 := hh2.alloc (.cells #[.int .i64 no, .slice Bx l.length cB] 62)
        have kX3 := kX.alloc (.cells #[.int .i64 no, .slice Bx l.length cB] 62)
        have hgr3 := grown_alloc hgr (.cells #[.int .i64 no, .slice Bx l.length cB] 62)
        have hsq3 := hsq.alloc (.cells #[.int .i64 no, .slice Bx l.length cB] 62)
        obtain ⟨q0, q1⟩ := hh2.ba.two_
        have qz := hh2.ba.lt
        obtain ⟨x0, x1⟩ := kX.two_
        have xz := kX.lt
        go_wp2_with (at_builtin; go_must (refine wpList_app (lo := 0) (base := w.heap.size) (n := zs.length) (xs := zs.flatMap encE) _ _ rfl _ _ ty_atts rfl hh3.oa rfl (Row.lit (n := 1) (size := 2) hby (Nat.zero_le _) rfl) rfl rfl (by omega) (by omega) hgr3.size ?_))
        intro A5 d5 w5 hown5 hg5 hl5
        have hba5 := hh3.blk_app hg5
        have kX5 : Blk w5 xb 62 #[.int .i64 no, .slice Bx l.length cB] := (hg5.block xb kX3.lt (fun e => by have := HKA _ e.symm; omega)).trans kX3
        have hgr5 := grown_set_new (grown_app hgr3 hh3.oa hg5 (Nat.le_refl _)) (p := ⟨w.heap.size + 1, 1, none⟩) (by first | (simp; omega) | simp) (.slice A5 (zs.length + 1) d5)
        have hsq5 := (hsq3.app hh3.oa hg5 hlt0).set (p := ⟨w.heap.size + 1, 1, none⟩) (by first | (simp; omega) | simp) (.slice A5 (zs.length + 1) d5)
        have kX6 := kX5.past (w.heap.size + 1) 1 (.slice A5 (zs.length + 1) d5) (by omega)
        have hp5 := grown_pokeOf w5 (w.heap.size + 1) 1 (.slice A5 (zs.length + 1) d5)
        have hal := (Below.refl wn.heap.size wn).alloc (Nat.le_refl _) (.cells #[.int .i64 no, .slice Bx l.length cB] 62)
        have hoC2 := own_otherOf (own_otherOf (own_keep hoC2 hal) hg5 (own_kindOf hh3.oa) (by decide)) hp5 hba5.kindOf (by decide)
        have hoC5 := own_otherOf (own_otherOf (own_keep hoC5 hal) hg5 (own_kindOf hh3.oa) (by decide)) hp5 hba5.kindOf (by decide)
        have hh2 := hh3.push (x := ((no, l), (Bx, cB))) hg5 hown5 (by rw [World.size_alloc]; exact hl5)
        clear hp5 hal
        clear q0 q1 qz x0 x1 xz hh3 hgr hsq hg5 hown5 hl5 kX kX3 kX5 hgr3 hsq3 hby
        obtain ⟨q0, q1⟩ := hba5.two_
        have qz := hba5.lt
        have qf := hba5.thaw 1
        have HKB2 : ∀ j, (Value.slice B ys.length dy).ownBlock = some j → j < xb := HKB
        obtain ⟨wz, hwz⟩ : ∃ W, W = w5.setCell ⟨w.heap.size + 1, 1, none⟩ (.slice A5 (zs.length + 1) d5) := ⟨_, rfl⟩
        go_upto_region 9 with (fail)
        rw [← hwz] at hh2 hoC2 hoC5 hgr5 hsq5 kX6 ⊢
        clear hwz q0 q1 qz qf hba5
        have kX := kX6
        have hgr := hgr5
        have hsq := hsq5
        clear kX6 hgr5 hsq5
        obtain ⟨A7, hA7⟩ : ∃ A7, A7 = A5 := ⟨_, rfl⟩
        obtain ⟨d7, hd7⟩ : ∃ d7, d7 = d5 := ⟨_, rfl⟩
        subst hA7 hd7
        have hh2 := hh2.swap
        have hby : Blk (wz.alloc (.cells #[.int .i64 no, .slice Bx l.length cB] 62)) wz.heap.size 62 #[.int .i64 no, .slice Bx l.length cB] := Blk.new _ _ _
        have hh3 := hh2.alloc (.cells #[.int .i64 no, .slice Bx l.length cB] 62)
        have kX3 := kX.alloc (.cells #[.int .i64 no, .slice Bx l.length cB] 62)
        have hgr3 := grown_alloc hgr (.cells #[.int .i64 no, .slice Bx l.length cB] 62)
        have hsq3 := hsq.alloc (.cells #[.int .i64 no, .slice Bx l.length cB] 62)
        obtain ⟨q0, q1⟩ := hh2.ba.two_
        have qz := hh2.ba.lt
        obtain ⟨x0, x1⟩ := kX.two_
        have xz := kX.lt
        go_wp2_with (at_builtin; go_must (refine wpList_app (lo := 0) (base := w.heap.size) (n := ys.length) (xs := ys.flatMap encE) _ _ rfl _ _ ty_atts rfl hh3.oa rfl (Row.lit (n := 1) (size := 2) hby (Nat.zero_le _) rfl) rfl rfl (by omega) (by omega) hgr3.size ?_))
        intro A5 d5 w5 hown5 hg5 hl5
        have hba5 := hh3.blk_app hg5
        have kX5 : Blk w5 xb 62 #[.int .i64 no, .slice Bx l.length cB] := (hg5.block xb kX3.lt (fun e => by have := HKB _ e.symm; omega)).trans kX3
        have hgr5 := grown_set_new (grown_app hgr3 hh3.oa hg5 (Nat.le_refl _)) (p := ⟨w.heap.size + 1 + 1, 1, none⟩) (by first | (simp; omega) | simp) (.slice A5 (ys.length + 1) d5)
        have hsq5 := (hsq3.app hh3.oa hg5 hlt0).set (p := ⟨w.heap.size + 1 + 1, 1, none⟩) (by first | (simp; omega) | simp) (.slice A5 (ys.length + 1) d5)
        have kX6 := kX5.past (w.heap.size + 1 + 1) 1 (.slice A5 (ys.length + 1) d5) (by omega)
        have hp5 := grown_pokeOf w5 (w.heap.size + 1 + 1) 1 (.slice A5 (ys.length + 1) d5)
        have hal := (Below.refl wz.heap.size wz).alloc (Nat.le_refl _) (.cells #[.int .i64 no, .slice Bx l.length cB] 62)
        have hoC2 := own_otherOf (own_otherOf (own_keep hoC2 hal) hg5 (own_kindOf hh3.oa) (by decide)) hp5 hba5.kindOf (by decide)
        have hoC5 := own_otherOf (own_otherOf (own_keep hoC5 hal) hg5 (own_kindOf hh3.oa) (by decide)) hp5 hba5.kindOf (by decide)
        have hh2 := hh3.push (x := ((no, l), (Bx, cB))) hg5 hown5 (by rw [World.size_alloc]; exact hl5)
        clear hp5 hal
        clear q0 q1 qz x0 x1 xz hh3 hgr hsq hg5 hown5 hl5 kX kX3 kX5 hgr3 hsq3 hby
        obtain ⟨q0, q1⟩ := hba5.two_
        have qz := hba5.lt
        have qf := hba5.thaw 1
        go_wp2_with fail
        go_roundw
        case rel => exact ⟨k + 1, A7, d7, zs ++ [((no, l), (Bx, cB))], A5, d5, ys ++ [((no, l), (Bx, cB))], by omega, by go_num, Lib.hid (by have := HPS.out.2.2; simpa [attE_app, attE] using this), Lib.hid (fun x hx => by
          have h1 := HX.out x
          have h2 : x ∈ zs ++ ys ∨ x = ((no, l), (Bx, cB)) := by simp at hx ⊢; grind
          rcases h2 with h2 | h2
          · exact h1 h2
          · subst h2; exact HRB.out), hh2.swap, hoC2, hoC5, hgr5, hsq5⟩
        case measure => simp [intOf]; omega
    · have hke : k = atts.length := by omega
      subst hke
      rw [List.take_length] at HP
      have hrbz := hh2.bb.lt
      go_upto_region 11 with (fail)
      have hh2 := hh2.below (Below.refl wr.heap.size wr).drew
      have hoC2 := own_keep hoC2 (Below.refl wr.heap.size wr).drew
      have hoC5 := own_keep hoC5 (Below.refl wr.heap.size wr).drew
      have hgr := grown_trans' hgr (grown_of_below (Below.refl wr.heap.size wr).drew _)
      have hsq := hsq.drew
      refine wp_region_held_drew (S := (fun w' => (w'.cell? ⟨w.heap.size + 1, 0, none⟩ = some (.slice S2 segs.length c2) ∧ w'.cell? ⟨w.heap.size + 1, 1, none⟩ = some (.slice A zs.length dz)) ∧ w'.cell? ⟨w.heap.size + 1 + 1, 0, none⟩ = some (.slice S5 segs.length c5) ∧ w'.cell? ⟨w.heap.size + 1 + 1, 1, none⟩ = some (.slice B ys.length dy))) (by kernel_rfl) (⟨hh2.ba.two_, hh2.bb.two_⟩) (fun hHeld => ?_)
      generalize wr.drew = wd at *
      (refine wpAnyH_take (i := 0) (v := ?_) (by (simp only [List.getElem?_toArray, List.getElem?_cons_zero]; rfl)) (by kernel_rfl) (by kernel_rfl) (by kernel_rfl) (by exact fun _ _ _ h => h) (Or.inl ⟨by rfl, ?_⟩) (by assumption) ?_; (rotate_left 1; (intro w hSw; (try dsimp only at hSw); go_simp); (try with_reducible rfl)); (try simp only [Act.put, List.setIfInBounds_toArray, List.set_cons_zero, List.set_cons_succ]))
      (refine wpAnyH_take (i := 1) (v := ?_) (by (simp only [List.getElem?_toArray, List.getElem?_cons_succ, List.getElem?_cons_zero]; rfl)) (by kernel_rfl) (by kernel_rfl) (by kernel_rfl) (by exact fun _ _ _ h => h) (Or.inl ⟨by rfl, ?_⟩) (by assumption) ?_; (rotate_left 1; (intro w hSw; (try dsimp only at hSw); go_simp); (try with_reducible rfl)); (try simp only [Act.put, List.setIfInBounds_toArray, List.set_cons_zero, List.set_cons_succ]))
      refine wpAnyH_ready (rs := [2]) (by kernel_rfl) (by simp) ?_
      refine AllReadyH.cons rfl (fun K hK => ?_) AllReadyH.nil
      obtain ⟨r0, r1⟩ := hh2.ba.two_
      have rz := hh2.ba.lt
      have rf0 := hh2.ba.thaw 0
      have rf1 := hh2.ba.thaw 1
      go_simp
      clear r0 r1 rz rf0 rf1
      have hoC2 := hh2.same_str hoC2
      have hoC5 := hh2.same_str hoC5
      have hh2 := hh2.same
      have hgr := grown_set_new (grown_set_new hgr (p := ⟨w.heap.size + 1, 0, none⟩) (by simp) (.slice S2 segs.length c2)) (p := ⟨w.heap.size + 1, 1, none⟩) (by simp) (.slice A zs.length dz)
      have hsq := (hsq.set (p := ⟨w.heap.size + 1, 0, none⟩) (by simp; omega) (.slice S2 segs.length c2)).set (p := ⟨w.heap.size + 1, 1, none⟩) (by simp; omega) (.slice A zs.length dz)
      refine hK.out _ _ (⟨hh2.ba.two_, hh2.bb.two_⟩) (fun hHeld => ?_)
      clear hK K
      (try simp only [Act.put, List.setIfInBounds_toArray, List.set_cons_zero, List.set_cons_succ])
      refine wpAnyH_ready (rs := [3]) (by kernel_rfl) (by simp) ?_
      refine AllReadyH.cons rfl (fun K hK => ?_) AllReadyH.nil
      obtain ⟨r0, r1⟩ := hh2.bb.two_
      have rz := hh2.bb.lt
      have rf0 := hh2.bb.thaw 0
      have rf1 := hh2.bb.thaw 1
      go_simp
      clear r0 r1 rz rf0 rf1
      have hoC2 := hh2.swap.same_str hoC2
      have hoC5 := hh2.swap.same_str hoC5
      have hh2 := hh2.swap.same.swap
      have hgr := grown_set_new (grown_set_new hgr (p := ⟨w.heap.size + 1 + 1, 0, none⟩) (by simp; omega) (.slice S5 segs.length c5)) (p := ⟨w.heap.size + 1 + 1, 1, none⟩) (by simp; omega) (.slice B ys.length dy)
      have hsq := (hsq.set (p := ⟨w.heap.size + 1 + 1, 0, none⟩) (by simp; omega) (.slice S5 segs.length c5)).set (p := ⟨w.heap.size + 1 + 1, 1, none⟩) (by simp; omega) (.slice B ys.length dy)
      refine hK.out _ _ (⟨hh2.ba.two_, hh2.bb.two_⟩) (fun hHeld => ?_)
      clear hK K
      (try simp only [Act.put, List.setIfInBounds_toArray, List.set_cons_zero, List.set_cons_succ])
      refine wpAnyH_done (by kernel_rfl) ?_ _
      go_wp2_with fail
      obtain ⟨z0, z1⟩ := hh2.ba.two_
      obtain ⟨z2, z3⟩ := hh2.bb.two_
      refine bodyPost_ret (v := .tuple #[.agg #[.slice S2 segs.length c2, .slice A zs.length dz], .agg #[.slice S5 segs.length c5, .slice B ys.length dy]]) (by simp [results, Tryz.results28, go_sem, z0, z1, z2, z3]) rfl ?_
      exact ⟨S2, A, S5, B, c2, dz, c5, dy, zs, ys, rfl, hoC2, hoC5, hh2.oa, hh2.ob, hh2.dj, HX.out, HP.out, hsq, hgr⟩
theorem half_any (g N lo : Nat) (SA TA : Option Addr) (c d : Nat) (segs : List (List UInt8)) (atts : List Att) (w : World) (hs : Str w g N) (hN : N < 4611686018425000000) (hh : Hist w lo SA TA segs atts) (hg : g < lo) (hlo : lo ≤ w.heap.size) (n2 : segs.length ≤ 60) (m : atts.length ≤ 500) :
    Calls Tryz.prog 28 #[.pointer (some ⟨g, 0, none⟩), .agg #[.slice SA segs.length c, .slice TA atts.length d]] w (HalfPost w g (N + atts.length) lo segs atts) := by
  refine (half2_any g N lo SA TA c d segs atts w hs hN hh hg hlo n2 m).mono ?_
  rintro e w' ⟨SA, TA, SB, TB, c1, d1, c2, d2, zs, ys, rfl, h1, h2, h3, h4, _, hx, hp, hst, hgr⟩
  exact ⟨SA, TA, SB, TB, c1, d1, c2, d2, attE zs, attE ys, by rw [attE_len, attE_len], hist_of h3 h1 hlo (fun x h => hx x (by simp [h])) hgr hg, hist_of h4 h2 hlo (fun x h => hx x (by simp [h])) hgr hg, hp, own_cap h1, own_cap h2, hst, hgr⟩
end Go.Proofs.YtggnccafmadacaaGreatDoor
