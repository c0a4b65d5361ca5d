/- Texts of this seat, laid together: LawChancesGrow. -/
import Derived.Test.YtapjahbflhingaaGreatDoorBu58
import Derived.Test.YtapjahbflhingaaGreatDoorBu44
/- For every list of numbers the law ChancesGrow returns true and leaves the list as it was: its walk. -/
namespace Go.Proofs.YtapjahbflhingaaGreatDoor
set_option linter.unusedVariables false
set_option linter.unusedSimpArgs false
open Go.RowKit Go.Sort

theorem Blk.as {w : World} {g : Nat} {t : TypeId} {cs cs' : Array Value} (h : Blk w g t cs) (e : cs = cs') : Blk w g t cs' := e ▸ h
set_option maxHeartbeats 8000000 in
set_option maxRecDepth 100000 in
theorem grow_walk (A : Option Addr) (n c : Nat) (w : World) (hn : n ≤ 9223372036854775807)
    (hz : ∀ k, k < n → ∃ b off z, A = some ⟨b, off, none⟩ ∧ b < w.heap.size ∧ w.cell? ⟨b, off + k, none⟩ = some (.int .i64 z) ∧ I64 z) :
    LawCall 4 A n c w := by
  obtain ⟨L, hL, hstr, _⟩ := strE_make (c := c) hn hz
  clear hz hL
  have hb0 : Below w.heap.size w (w.alloc (.cells #[.slice A n c, .int .i64 0] 25)) := (Below.refl _ _).alloc (Nat.le_refl _) _
  have hz0 : (w.alloc (.cells #[.slice A n c, .int .i64 0] 25)).heap.size = w.heap.size + 1 := by simp
  go_enter Tryz.func4, Tryz.ntmps4
  go_wp2_with fail
  generalize w.alloc (.cells #[.slice A n c, .int .i64 0] 25) = w0 at *
  have HZ0 := Lib.hid hz0
  clear hz0
  have hgw : w.heap.size < w0.heap.size := by have := HZ0.out; omega
  refine (rightHistory_ex w.heap.size 0 L _ hstr (by omega)).mono ?_
  rintro e w2 ⟨SA, TA, c', d', segs, atts, rfl, hh, hc, n4, hm, hl, hok, ⟨k1, hs1, hk1, HRH⟩, hg1⟩
  have HO := Lib.hid hok
  have HSH : Hid (Short atts) := Lib.hid (by have := rhF_short L 8 0; rw [HRH.out] at this; exact this)
  clear hok hl HRH
  have hzz := hg1.size
  go_wp2_with fail
  refine (range_any w.heap.size _ 0 100 _ hs1.str (by omega) (by omega) (by omega) (by omega)).mono ?_
  rintro e w3' ⟨t, rfl, ht0, ht1, hs2, hg2⟩
  have hh := hh.stream hg2 hgw
  have hgr := grown_trans' hg1 hg2
  have hx : Below w.heap.size w w3' := hb0.grown hgr (by omega) (fun k hk => by injection hk with hk; omega)
  clear hs1 hg1 hg2 hgr hb0 hstr
  go_wp2_with fail
  have kh : Blk (w3'.alloc (.cells #[.slice SA segs.length c', .slice TA atts.length d'] 29)) w3'.heap.size 29 #[.slice SA segs.length c', .slice TA atts.length d'] := Blk.new _ _ _
  have hh := hh.alloc (.cells #[.slice SA segs.length c', .slice TA atts.length d'] 29)
  have hs3 := hs2.alloc (.cells #[.slice SA segs.length c', .slice TA atts.length d'] 29)
  have hx : Below w.heap.size w (w3'.alloc (.cells #[.slice SA segs.length c', .slice TA atts.length d'] 29)) := Below.alloc hx hx.size _
  have hgh : w.heap.size < w3'.heap.size := hs2.lt
  clear hs2
  generalize w3'.alloc (.cells #[.slice SA segs.length c', .slice TA atts.length d'] 29) = w33 at *
  generalize w3'.heap.size = bh at *
  cases hfb : fullB (rowsQ atts segs.length)
  · have HF := Lib.hid hfb
    clear hfb
    obtain ⟨q0, q1⟩ := kh.two_
    have qz := kh.lt
    refine (Chance_none SA TA c' d' w0.heap.size t segs atts _ hh hc HO.out (by omega) n4 hm HF.out).mono ?_
    rintro e w4 ⟨rfl, hb⟩
    have hh := hh.below hb
    have kh := kh.below hb
    have hs3 := hs3.keep hb
    have hx := below_up hx hb
    clear hb q0 q1 qz
    obtain ⟨q0, q1⟩ := kh.two_
    have qz := kh.lt
    go_upto_region 4 with (fail)
    have ka : Blk (w4.alloc (.cells #[.int .i64 0, .int .i64 0] 41)) w4.heap.size 41 #[(.int .i64 0), (.int .i64 0)] := Blk.new _ _ _
    have hh := hh.alloc (.cells #[.int .i64 0, .int .i64 0] 41)
    have kh := kh.alloc (.cells #[.int .i64 0, .int .i64 0] 41)
    have hs3 := hs3.alloc (.cells #[.int .i64 0, .int .i64 0] 41)
    have hx : Below w.heap.size w (w4.alloc (.cells #[.int .i64 0, .int .i64 0] 41)) := Below.alloc hx hx.size _
    have hga : w.heap.size < w4.heap.size := by have := hs3.lt; have := kh.lt; omega
    generalize w4.alloc (.cells #[.int .i64 0, .int .i64 0] 41) = W5 at *
    generalize w4.heap.size = ba at *
    clear q0 q1 qz
    have hhD := hh.below (Below.refl W5.heap.size W5).drew
    have khD := kh.drew
    have kaD := ka.drew
    have hsD := hs3.drew
    have hxD := hx.drew
    have hxz : w.heap.size ≤ W5.drew.heap.size := hx.size
    clear hh kh ka hs3 hx
    refine wp_region_held_drew (S := (fun w' => w'.cell? ⟨bh, 0, none⟩ = some (.slice SA segs.length c') ∧ w'.cell? ⟨bh, 1, none⟩ = some (.slice TA atts.length d'))) (by kernel_rfl) (khD.two_) (fun hHeld => ?_)
    generalize W5.drew = wd at *
    have hgd : wd.grownBy wd (some w.heap.size) := World.grownBy.refl wd _
    have hgsz := Nat.le_refl wd.heap.size
    have hsq := hsD
    (refine wpAnyH_take (i := 0) (v := ?_) (by (simp only [List.getElem?_toArray, List.getElem?_cons_zero]; rfl)) (by kernel_rfl) (by kernel_rfl) (by kernel_rfl) (by exact fun _ _ _ h => h) (Or.inl ⟨by rfl, ?_⟩) (by assumption) ?_; (rotate_left 1; (intro w hSw; (try dsimp only at hSw); go_simp); (try with_reducible rfl)); (try simp only [Act.put, List.setIfInBounds_toArray, List.set_cons_zero, List.set_cons_succ]))
    (refine wpAnyH_take (i := 1) (v := ?_) (by (simp only [List.getElem?_toArray, List.getElem?_cons_succ, List.getElem?_cons_zero]; rfl)) (by kernel_rfl) (by kernel_rfl) (by kernel_rfl) (by exact fun _ _ _ h => h) (Or.inl ⟨by rfl, ?_⟩) (by assumption) ?_; (rotate_left 1; (intro w hSw; (try dsimp only at hSw); go_simp); (try with_reducible rfl)); (try simp only [Act.put, List.setIfInBounds_toArray, List.set_cons_zero, List.set_cons_succ]))
    (refine wpAnyH_take (i := 2) (v := ?_) (by (simp only [List.getElem?_toArray, List.getElem?_cons_succ, List.getElem?_cons_zero]; rfl)) (by kernel_rfl) (by kernel_rfl) (by kernel_rfl) (by exact fun _ _ _ h => h) (Or.inl ⟨by rfl, ?_⟩) (by assumption) ?_; (rotate_left 1; (intro w hSw; (try dsimp only at hSw); go_simp); (try with_reducible rfl)); (try simp only [Act.put, List.setIfInBounds_toArray, List.set_cons_zero, List.set_cons_succ]))
    refine wpAnyH_ready (rs := [3, 11]) (by kernel_rfl) (by simp) ?_
    refine AllReadyH.cons rfl (fun K hK => ?_) (AllReadyH.cons rfl (fun K hK => ?_) AllReadyH.nil)
    case refine_1 =>
      go_simp
      have hrw : Row (wd.alloc (.cells #[.int .i64 0, .int .i64 1, .int .i64 20] 3)) wd.heap.size 1 (some ⟨wd.heap.size, 0, none⟩) 3 (ints [0, 1, 20]) := row_new _ _ _ _ _ _ (Nat.le_refl _) rfl
      have hgd := grown_alloc hgd (.cells #[.int .i64 0, .int .i64 1, .int .i64 20] 3)
      have hsq := hsq.alloc (.cells #[.int .i64 0, .int .i64 1, .int .i64 20] 3)
      have hrl : w.heap.size < wd.heap.size := (by have h1 := hsD.lt; have h2 := hgsz; omega)
      have hgsz : wd.heap.size ≤ (wd.alloc (.cells #[.int .i64 0, .int .i64 1, .int .i64 20] 3)).heap.size := hgd.size
      generalize wd.alloc (.cells #[.int .i64 0, .int .i64 1, .int .i64 20] 3) = w3 at *
      refine hK.out _ _ ((khD.stream hgd hgh).two_) (fun hHeld => ?_)
      clear hK K
      (try simp only [Act.put, List.setIfInBounds_toArray, List.set_cons_zero, List.set_cons_succ])
      refine wpAnyH_ready (rs := [4, 11]) (by kernel_rfl) (by simp) ?_
      refine AllReadyH.cons rfl (fun K hK => ?_) (AllReadyH.cons rfl (fun K hK => ?_) AllReadyH.nil)
      case refine_1 =>
        go_simp
        go_at_call 8
        refine (pick_any w.heap.size _ _ _ _ [0, 1, 20] _ hsq (by omega) hrw hrl (by simp) (by simp)).mono ?_
        rintro e wp ⟨r, rfl, hr, hsq, hgp⟩
        have hr2 : 0 ≤ r ∧ r ≤ 20 := by
          have : ∀ x ∈ ([0, 1, 20] : List Int), 0 ≤ x ∧ x ≤ 20 := by decide
          exact this r hr
        have wadd : IntKind.i64.wrap (t + r) = t + r := IntWalk.i64_in _ (by omega)
        have hgd := grown_trans' hgd hgp
        have hgsz := Nat.le_trans hgsz hgp.size
        clear hr hgp
        go_wp2_with fail
        refine hK.out _ _ ((khD.stream hgd hgh).two_) (fun hHeld => ?_)
        clear hK K
        (try simp only [Act.put, List.setIfInBounds_toArray, List.set_cons_zero, List.set_cons_succ])
        (refine wpAnyH_take (i := 5) (v := ?_) (by (simp only [List.getElem?_toArray, List.getElem?_cons_succ, List.getElem?_cons_zero]; rfl)) (by kernel_rfl) (by kernel_rfl) (by kernel_rfl) (by exact fun _ _ _ h => h) (Or.inl ⟨by rfl, ?_⟩) (by assumption) ?_; (rotate_left 1; (intro w hSw; (try dsimp only at hSw); go_simp); (try with_reducible rfl)); (try simp only [Act.put, List.setIfInBounds_toArray, List.set_cons_zero, List.set_cons_succ]))
        refine wpAnyH_ready (rs := [6, 11]) (by kernel_rfl) (by simp) ?_
        refine AllReadyH.cons rfl (fun K hK => ?_) (AllReadyH.cons rfl (fun K hK => ?_) AllReadyH.nil)
        case refine_1 =>
          go_simp
          go_at_call 13
          refine (Chance_none SA TA c' d' w0.heap.size (t + r) segs atts _ (hhD.stream hgd hgw) hc HO.out (by omega) n4 hm HF.out).mono ?_
          rintro e wc ⟨rfl, hb⟩
          have hgd := grown_trans' hgd (grown_of_below hb _)
          have hgsz := Nat.le_trans hgsz hb.size
          clear hb
          go_wp2_with fail
          refine hK.out _ _ ((khD.stream hgd hgh).two_) (fun hHeld => ?_)
          clear hK K
          (try simp only [Act.put, List.setIfInBounds_toArray, List.set_cons_zero, List.set_cons_succ])
          (refine wpAnyH_take (i := 7) (v := ?_) (by (simp only [List.getElem?_toArray, List.getElem?_cons_succ, List.getElem?_cons_zero]; rfl)) (by kernel_rfl) (by kernel_rfl) (by kernel_rfl) (by exact fun _ _ _ h => h) (Or.inl ⟨by rfl, ?_⟩) (by assumption) ?_; (rotate_left 1; (intro w hSw; (try dsimp only at hSw); go_simp); (try with_reducible rfl)); (try simp only [Act.put, List.setIfInBounds_toArray, List.set_cons_zero, List.set_cons_succ]))
          (refine wpAnyH_take (i := 8) (v := ?_) (by (simp only [List.getElem?_toArray, List.getElem?_cons_succ, List.getElem?_cons_zero]; rfl)) (by kernel_rfl) (by kernel_rfl) (by kernel_rfl) (by exact fun _ _ _ h => h) (Or.inl ⟨by rfl, ?_⟩) (by assumption) ?_; (rotate_left 1; (intro w hSw; (try dsimp only at hSw); go_simp); (try with_reducible rfl)); (try simp only [Act.put, List.setIfInBounds_toArray, List.set_cons_zero, List.set_cons_succ]))
          (refine wpAnyH_take (i := 9) (v := ?_) (by (simp only [List.getElem?_toArray, List.getElem?_cons_succ, List.getElem?_cons_zero]; rfl)) (by kernel_rfl) (by kernel_rfl) (by kernel_rfl) (by exact fun _ _ _ h => h) (Or.inl ⟨by rfl, ?_⟩) (by assumption) ?_; (rotate_left 1; (intro w hSw; (try dsimp only at hSw); go_simp); (try with_reducible rfl)); (try simp only [Act.put, List.setIfInBounds_toArray, List.set_cons_zero, List.set_cons_succ]))
          (refine wpAnyH_take (i := 10) (v := ?_) (by (simp only [List.getElem?_toArray, List.getElem?_cons_succ, List.getElem?_cons_zero]; rfl)) (by kernel_rfl) (by kernel_rfl) (by kernel_rfl) (by exact fun _ _ _ h => h) (Or.inl ⟨by rfl, ?_⟩) (by assumption) ?_; (rotate_left 1; (intro w hSw; (try dsimp only at hSw); go_simp); (try with_reducible rfl)); (try simp only [Act.put, List.setIfInBounds_toArray, List.set_cons_zero, List.set_cons_succ]))
          refine wpAnyH_ready (rs := [11]) (by kernel_rfl) (by simp) ?_
          refine AllReadyH.cons rfl (fun K hK => ?_) AllReadyH.nil
          go_simp
          obtain ⟨bj, hbj⟩ : ∃ b, b = wc.heap.size := ⟨_, rfl⟩
          have kb : Blk (wc.alloc (.cells #[.int .i64 0, .int .i64 0] 41)) bj 41 #[.int .i64 0, .int .i64 0] := by rw [hbj]; exact Blk.new _ _ _
          have hbd : wd.heap.size ≤ bj := by rw [hbj]; exact hgsz
          have hbg : w.heap.size < bj := by have h1 := hsD.lt; omega
          have hgd := grown_alloc hgd (.cells #[.int .i64 0, .int .i64 0] 41)
          have hgsz : wd.heap.size ≤ (wc.alloc (.cells #[.int .i64 0, .int .i64 0] 41)).heap.size := hgd.size
          rw [← hbj]
          clear hbj
          generalize wc.alloc (.cells #[.int .i64 0, .int .i64 0] 41) = w11 at *
          refine hK.out _ _ ((khD.stream hgd hgh).two_) (fun hHeld => ?_)
          clear hK K
          (try simp only [Act.put, List.setIfInBounds_toArray, List.set_cons_zero, List.set_cons_succ])
          refine wpAnyH_ready (rs := [12]) (by kernel_rfl) (by simp) ?_
          refine AllReadyH.cons rfl (fun K hK => ?_) AllReadyH.nil
          obtain ⟨r0, r1⟩ := kb.two_
          have rz := kb.lt
          have rf0 := kb.thaw 0
          have rf1 := kb.thaw 1
          go_simp
          clear r0 r1 rz rf0 rf1
          have hgd := grown_set_new (grown_set_new hgd (p := ⟨bj, 0, none⟩) hbd (.int .i64 0)) (p := ⟨bj, 1, none⟩) hbd (.int .i64 0)
          have kb := ((kb.poke 0 (.int .i64 0)).poke 1 (.int .i64 0)).as (cs' := #[(.int .i64 0), (.int .i64 0)]) (by simp)
          refine hK.out _ _ ((khD.stream hgd hgh).two_) (fun hHeld => ?_)
          clear hK K
          (try simp only [Act.put, List.setIfInBounds_toArray, List.set_cons_zero, List.set_cons_succ])
          (refine wpAnyH_take (i := 13) (v := ?_) (by (simp only [List.getElem?_toArray, List.getElem?_cons_succ, List.getElem?_cons_zero]; rfl)) (by kernel_rfl) (by kernel_rfl) (by kernel_rfl) (by exact fun _ _ _ h => h) (Or.inl ⟨by rfl, ?_⟩) (by assumption) ?_; (rotate_left 1; (intro w hSw; (try dsimp only at hSw); go_simp); (try with_reducible rfl)); (try simp only [Act.put, List.setIfInBounds_toArray, List.set_cons_zero, List.set_cons_succ]))
          (refine wpAnyH_take (i := 14) (v := ?_) (by (simp only [List.getElem?_toArray, List.getElem?_cons_succ, List.getElem?_cons_zero]; rfl)) (by kernel_rfl) (by kernel_rfl) (by kernel_rfl) (by exact fun _ _ _ h => h) (Or.inl ⟨by rfl, ?_⟩) (by assumption) ?_; (rotate_left 1; (intro w hSw; (try dsimp only at hSw); go_simp); (try with_reducible rfl)); (try simp only [Act.put, List.setIfInBounds_toArray, List.set_cons_zero, List.set_cons_succ]))
          refine wpAnyH_done (by kernel_rfl) ?_ _
          obtain ⟨wz, hwz⟩ : ∃ W, W = (w11.setCell ⟨bj, 0, none⟩ (.int .i64 0)).setCell ⟨bj, 1, none⟩ (.int .i64 0) := ⟨_, rfl⟩
          rw [← hwz] at hgd kb ⊢
          clear hwz hHeld
          have hh := hhD.stream hgd hgw
          have kh := khD.stream hgd hgh
          have ka := kaD.stream hgd hga
          have hx := hxD.grown hgd hxz (fun k hk => by injection hk with hk; omega)
          clear hgd hgsz hbd hbg
          obtain ⟨q0, q1⟩ := kh.two_
          have qz := kh.lt
          go_wp2_with fail
          refine (Chance_none SA TA c' d' w0.heap.size 864000000 segs atts _ hh hc HO.out (by omega) n4 hm HF.out).mono ?_
          rintro e wy ⟨rfl, hb⟩
          have ka := ka.below hb
          have kb := kb.below hb
          have hx := below_up hx hb
          clear hb q0 q1 qz hh kh
          obtain ⟨a0, a0'⟩ := ka.two_
          have az := ka.lt
          obtain ⟨b0, b0'⟩ := kb.two_
          have bz := kb.lt
          go_wp2_with fail
          refine (ready_any _).mono ?_
          rintro e w9 ⟨rfl, hb⟩
          go_wp2_with fail
          go_ret
          exact ⟨rfl, below_up (by repeat (first | exact hx | refine Below.alloc ?_ (by first | omega | (simp; omega) | simp) _ | refine below_drewN' ?_ _ | refine Below.drew ?_)) hb⟩
        case refine_2 =>
          go_simp
          obtain ⟨bj, hbj⟩ : ∃ b, b = wp.heap.size := ⟨_, rfl⟩
          have kb : Blk (wp.alloc (.cells #[.int .i64 0, .int .i64 0] 41)) bj 41 #[.int .i64 0, .int .i64 0] := by rw [hbj]; exact Blk.new _ _ _
          have hbd : wd.heap.size ≤ bj := by rw [hbj]; exact hgsz
          have hbg : w.heap.size < bj := by have h1 := hsD.lt; omega
          have hgd := grown_alloc hgd (.cells #[.int .i64 0, .int .i64 0] 41)
          have hgsz : wd.heap.size ≤ (wp.alloc (.cells #[.int .i64 0, .int .i64 0] 41)).heap.size := hgd.size
          rw [← hbj]
          clear hbj
          generalize wp.alloc (.cells #[.int .i64 0, .int .i64 0] 41) = w11 at *
          refine hK.out _ _ ((khD.stream hgd hgh).two_) (fun hHeld => ?_)
          clear hK K
          (try simp only [Act.put, List.setIfInBounds_toArray, List.set_cons_zero, List.set_cons_succ])
          refine wpAnyH_ready (rs := [6]) (by kernel_rfl) (by simp) ?_
          refine AllReadyH.cons rfl (fun K hK => ?_) AllReadyH.nil
          go_simp
          go_at_call 13
          refine (Chance_none SA TA c' d' w0.heap.size (t + r) segs atts _ (hhD.stream hgd hgw) hc HO.out (by omega) n4 hm HF.out).mono ?_
          rintro e wc ⟨rfl, hb⟩
          have hgd := grown_trans' hgd (grown_of_below hb _)
          have hgsz := Nat.le_trans hgsz hb.size
          have kb := kb.below hb
          clear hb
          go_wp2_with fail
          refine hK.out _ _ ((khD.stream hgd hgh).two_) (fun hHeld => ?_)
          clear hK K
          (try simp only [Act.put, List.setIfInBounds_toArray, List.set_cons_zero, List.set_cons_succ])
          (refine wpAnyH_take (i := 7) (v := ?_) (by (simp only [List.getElem?_toArray, List.getElem?_cons_succ, List.getElem?_cons_zero]; rfl)) (by kernel_rfl) (by kernel_rfl) (by kernel_rfl) (by exact fun _ _ _ h => h) (Or.inl ⟨by rfl, ?_⟩) (by assumption) ?_; (rotate_left 1; (intro w hSw; (try dsimp only at hSw); go_simp); (try with_reducible rfl)); (try simp only [Act.put, List.setIfInBounds_toArray, List.set_cons_zero, List.set_cons_succ]))
          (refine wpAnyH_take (i := 8) (v := ?_) (by (simp only [List.getElem?_toArray, List.getElem?_cons_succ, List.getElem?_cons_zero]; rfl)) (by kernel_rfl) (by kernel_rfl) (by kernel_rfl) (by exact fun _ _ _ h => h) (Or.inl ⟨by rfl, ?_⟩) (by assumption) ?_; (rotate_left 1; (intro w hSw; (try dsimp only at hSw); go_simp); (try with_reducible rfl)); (try simp only [Act.put, List.setIfInBounds_toArray, List.set_cons_zero, List.set_cons_succ]))
          (refine wpAnyH_take (i := 9) (v := ?_) (by (simp only [List.getElem?_toArray, List.getElem?_cons_succ, List.getElem?_cons_zero]; rfl)) (by kernel_rfl) (by kernel_rfl) (by kernel_rfl) (by exact fun _ _ _ h => h) (Or.inl ⟨by rfl, ?_⟩) (by assumption) ?_; (rotate_left 1; (intro w hSw; (try dsimp only at hSw); go_simp); (try with_reducible rfl)); (try simp only [Act.put, List.setIfInBounds_toArray, List.set_cons_zero, List.set_cons_succ]))
          (refine wpAnyH_take (i := 10) (v := ?_) (by (simp only [List.getElem?_toArray, List.getElem?_cons_succ, List.getElem?_cons_zero]; rfl)) (by kernel_rfl) (by kernel_rfl) (by kernel_rfl) (by exact fun _ _ _ h => h) (Or.inl ⟨by rfl, ?_⟩) (by assumption) ?_; (rotate_left 1; (intro w hSw; (try dsimp only at hSw); go_simp); (try with_reducible rfl)); (try simp only [Act.put, List.setIfInBounds_toArray, List.set_cons_zero, List.set_cons_succ]))
          refine wpAnyH_ready (rs := [12]) (by kernel_rfl) (by simp) ?_
          refine AllReadyH.cons rfl (fun K hK => ?_) AllReadyH.nil
          obtain ⟨r0, r1⟩ := kb.two_
          have rz := kb.lt
          have rf0 := kb.thaw 0
          have rf1 := kb.thaw 1
          go_simp
          clear r0 r1 rz rf0 rf1
          have hgd := grown_set_new (grown_set_new hgd (p := ⟨bj, 0, none⟩) hbd (.int .i64 0)) (p := ⟨bj, 1, none⟩) hbd (.int .i64 0)
          have kb := ((kb.poke 0 (.int .i64 0)).poke 1 (.int .i64 0)).as (cs' := #[(.int .i64 0), (.int .i64 0)]) (by simp)
          refine hK.out _ _ ((khD.stream hgd hgh).two_) (fun hHeld => ?_)
          clear hK K
          (try simp only [Act.put, List.setIfInBounds_toArray, List.set_cons_zero, List.set_cons_succ])
          (refine wpAnyH_take (i := 13) (v := ?_) (by (simp only [List.getElem?_toArray, List.getElem?_cons_succ, List.getElem?_cons_zero]; rfl)) (by kernel_rfl) (by kernel_rfl) (by kernel_rfl) (by exact fun _ _ _ h => h) (Or.inl ⟨by rfl, ?_⟩) (by assumption) ?_; (rotate_left 1; (intro w hSw; (try dsimp only at hSw); go_simp); (try with_reducible rfl)); (try simp only [Act.put, List.setIfInBounds_toArray, List.set_cons_zero, List.set_cons_succ]))
          (refine wpAnyH_take (i := 14) (v := ?_) (by (simp only [List.getElem?_toArray, List.getElem?_cons_succ, List.getElem?_cons_zero]; rfl)) (by kernel_rfl) (by kernel_rfl) (by kernel_rfl) (by exact fun _ _ _ h => h) (Or.inl ⟨by rfl, ?_⟩) (by assumption) ?_; (rotate_left 1; (intro w hSw; (try dsimp only at hSw); go_simp); (try with_reducible rfl)); (try simp only [Act.put, List.setIfInBounds_toArray, List.set_cons_zero, List.set_cons_succ]))
          refine wpAnyH_done (by kernel_rfl) ?_ _
          obtain ⟨wz, hwz⟩ : ∃ W, W = (wc.setCell ⟨bj, 0, none⟩ (.int .i64 0)).setCell ⟨bj, 1, none⟩ (.int .i64 0) := ⟨_, rfl⟩
          rw [← hwz] at hgd kb ⊢
          clear hwz hHeld
          have hh := hhD.stream hgd hgw
          have kh := khD.stream hgd hgh
          have ka := kaD.stream hgd hga
          have hx := hxD.grown hgd hxz (fun k hk => by injection hk with hk; omega)
          clear hgd hgsz hbd hbg
          obtain ⟨q0, q1⟩ := kh.two_
          have qz := kh.lt
          go_wp2_with fail
          refine (Chance_none SA TA c' d' w0.heap.size 864000000 segs atts _ hh hc HO.out (by omega) n4 hm HF.out).mono ?_
          rintro e wy ⟨rfl, hb⟩
          have ka := ka.below hb
          have kb := kb.below hb
          have hx := below_up hx hb
          clear hb q0 q1 qz hh kh
          obtain ⟨a0, a0'⟩ := ka.two_
          have az := ka.lt
          obtain ⟨b0, b0'⟩ := kb.two_
          have bz := kb.lt
          go_wp2_with fail
          refine (ready_any _).mono ?_
          rintro e w9 ⟨rfl, hb⟩
          go_wp2_with fail
          go_ret
          exact ⟨rfl, below_up (by repeat (first | exact hx | refine Below.alloc ?_ (by first | omega | (simp; omega) | simp) _ | refine below_drewN' ?_ _ | refine Below.drew ?_)) hb⟩
      case refine_2 =>
        go_simp
        obtain ⟨bj, hbj⟩ : ∃ b, b = w3.heap.size := ⟨_, rfl⟩
        have kb : Blk (w3.alloc (.cells #[.int .i64 0, .int .i64 0] 41)) bj 41 #[.int .i64 0, .int .i64 0] := by rw [hbj]; exact Blk.new _ _ _
        have hbd : wd.heap.size ≤ bj := by rw [hbj]; exact hgsz
        have hbg : w.heap.size < bj := by have h1 := hsD.lt; omega
        have hgd := grown_alloc hgd (.cells #[.int .i64 0, .int .i64 0] 41)
        have hsq := hsq.alloc (.cells #[.int .i64 0, .int .i64 0] 41)
        have hrw := hrw.alloc (.cells #[.int .i64 0, .int .i64 0] 41)
        have hgsz : wd.heap.size ≤ (w3.alloc (.cells #[.int .i64 0, .int .i64 0] 41)).heap.size := hgd.size
        rw [← hbj]
        clear hbj
        generalize w3.alloc (.cells #[.int .i64 0, .int .i64 0] 41) = w11 at *
        refine hK.out _ _ ((khD.stream hgd hgh).two_) (fun hHeld => ?_)
        clear hK K
        (try simp only [Act.put, List.setIfInBounds_toArray, List.set_cons_zero, List.set_cons_succ])
        refine wpAnyH_ready (rs := [4]) (by kernel_rfl) (by simp) ?_
        refine AllReadyH.cons rfl (fun K hK => ?_) AllReadyH.nil
        go_simp
        go_at_call 8
        refine (pick_any w.heap.size _ _ _ _ [0, 1, 20] _ hsq (by omega) hrw hrl (by simp) (by simp)).mono ?_
        rintro e wp ⟨r, rfl, hr, hsq, hgp⟩
        have hr2 : 0 ≤ r ∧ r ≤ 20 := by
          have : ∀ x ∈ ([0, 1, 20] : List Int), 0 ≤ x ∧ x ≤ 20 := by decide
          exact this r hr
        have wadd : IntKind.i64.wrap (t + r) = t + r := IntWalk.i64_in _ (by omega)
        have hgd := grown_trans' hgd hgp
        have hgsz := Nat.le_trans hgsz hgp.size
        have kb := kb.stream hgp hbg
        clear hr hgp
        go_wp2_with fail
        refine hK.out _ _ ((khD.stream hgd hgh).two_) (fun hHeld => ?_)
        clear hK K
        (try simp only [Act.put, List.setIfInBounds_toArray, List.set_cons_zero, List.set_cons_succ])
        (refine wpAnyH_take (i := 5) (v := ?_) (by (simp only [List.getElem?_toArray, List.getElem?_cons_succ, List.getElem?_cons_zero]; rfl)) (by kernel_rfl) (by kernel_rfl) (by kernel_rfl) (by exact fun _ _ _ h => h) (Or.inl ⟨by rfl, ?_⟩) (by assumption) ?_; (rotate_left 1; (intro w hSw; (try dsimp only at hSw); go_simp); (try with_reducible rfl)); (try simp only [Act.put, List.setIfInBounds_toArray, List.set_cons_zero, List.set_cons_succ]))
        refine wpAnyH_ready (rs := [6]) (by kernel_rfl) (by simp) ?_
        refine AllReadyH.cons rfl (fun K hK => ?_) AllReadyH.nil
        go_simp
        go_at_call 13
        refine (Chance_none SA TA c' d' w0.heap.size (t + r) segs atts _ (hhD.stream hgd hgw) hc HO.out (by omega) n4 hm HF.out).mono ?_
        rintro e wc ⟨rfl, hb⟩
        have hgd := grown_trans' hgd (grown_of_below hb _)
        have hgsz := Nat.le_trans hgsz hb.size
        have kb := kb.below hb
        clear hb
        go_wp2_with fail
        refine hK.out _ _ ((khD.stream hgd hgh).two_) (fun hHeld => ?_)
        clear hK K
        (try simp only [Act.put, List.setIfInBounds_toArray, List.set_cons_zero, List.set_cons_succ])
        (refine wpAnyH_take (i := 7) (v := ?_) (by (simp only [List.getElem?_toArray, List.getElem?_cons_succ, List.getElem?_cons_zero]; rfl)) (by kernel_rfl) (by kernel_rfl) (by kernel_rfl) (by exact fun _ _ _ h => h) (Or.inl ⟨by rfl, ?_⟩) (by assumption) ?_; (rotate_left 1; (intro w hSw; (try dsimp only at hSw); go_simp); (try with_reducible rfl)); (try simp only [Act.put, List.setIfInBounds_toArray, List.set_cons_zero, List.set_cons_succ]))
        (refine wpAnyH_take (i := 8) (v := ?_) (by (simp only [List.getElem?_toArray, List.getElem?_cons_succ, List.getElem?_cons_zero]; rfl)) (by kernel_rfl) (by kernel_rfl) (by kernel_rfl) (by exact fun _ _ _ h => h) (Or.inl ⟨by rfl, ?_⟩) (by assumption) ?_; (rotate_left 1; (intro w hSw; (try dsimp only at hSw); go_simp); (try with_reducible rfl)); (try simp only [Act.put, List.setIfInBounds_toArray, List.set_cons_zero, List.set_cons_succ]))
        (refine wpAnyH_take (i := 9) (v := ?_) (by (simp only [List.getElem?_toArray, List.getElem?_cons_succ, List.getElem?_cons_zero]; rfl)) (by kernel_rfl) (by kernel_rfl) (by kernel_rfl) (by exact fun _ _ _ h => h) (Or.inl ⟨by rfl, ?_⟩) (by assumption) ?_; (rotate_left 1; (intro w hSw; (try dsimp only at hSw); go_simp); (try with_reducible rfl)); (try simp only [Act.put, List.setIfInBounds_toArray, List.set_cons_zero, List.set_cons_succ]))
        (refine wpAnyH_take (i := 10) (v := ?_) (by (simp only [List.getElem?_toArray, List.getElem?_cons_succ, List.getElem?_cons_zero]; rfl)) (by kernel_rfl) (by kernel_rfl) (by kernel_rfl) (by exact fun _ _ _ h => h) (Or.inl ⟨by rfl, ?_⟩) (by assumption) ?_; (rotate_left 1; (intro w hSw; (try dsimp only at hSw); go_simp); (try with_reducible rfl)); (try simp only [Act.put, List.setIfInBounds_toArray, List.set_cons_zero, List.set_cons_succ]))
        refine wpAnyH_ready (rs := [12]) (by kernel_rfl) (by simp) ?_
        refine AllReadyH.cons rfl (fun K hK => ?_) AllReadyH.nil
        obtain ⟨r0, r1⟩ := kb.two_
        have rz := kb.lt
        have rf0 := kb.thaw 0
        have rf1 := kb.thaw 1
        go_simp
        clear r0 r1 rz rf0 rf1
        have hgd := grown_set_new (grown_set_new hgd (p := ⟨bj, 0, none⟩) hbd (.int .i64 0)) (p := ⟨bj, 1, none⟩) hbd (.int .i64 0)
        have kb := ((kb.poke 0 (.int .i64 0)).poke 1 (.int .i64 0)).as (cs' := #[(.int .i64 0), (.int .i64 0)]) (by simp)
        refine hK.out _ _ ((khD.stream hgd hgh).two_) (fun hHeld => ?_)
        clear hK K
        (try simp only [Act.put, List.setIfInBounds_toArray, List.set_cons_zero, List.set_cons_succ])
        (refine wpAnyH_take (i := 13) (v := ?_) (by (simp only [List.getElem?_toArray, List.getElem?_cons_succ, List.getElem?_cons_zero]; rfl)) (by kernel_rfl) (by kernel_rfl) (by kernel_rfl) (by exact fun _ _ _ h => h) (Or.inl ⟨by rfl, ?_⟩) (by assumption) ?_; (rotate_left 1; (intro w hSw; (try dsimp only at hSw); go_simp); (try with_reducible rfl)); (try simp only [Act.put, List.setIfInBounds_toArray, List.set_cons_zero, List.set_cons_succ]))
        (refine wpAnyH_take (i := 14) (v := ?_) (by (simp only [List.getElem?_toArray, List.getElem?_cons_succ, List.getElem?_cons_zero]; rfl)) (by kernel_rfl) (by kernel_rfl) (by kernel_rfl) (by exact fun _ _ _ h => h) (Or.inl ⟨by rfl, ?_⟩) (by assumption) ?_; (rotate_left 1; (intro w hSw; (try dsimp only at hSw); go_simp); (try with_reducible rfl)); (try simp only [Act.put, List.setIfInBounds_toArray, List.set_cons_zero, List.set_cons_succ]))
        refine wpAnyH_done (by kernel_rfl) ?_ _
        obtain ⟨wz, hwz⟩ : ∃ W, W = (wc.setCell ⟨bj, 0, none⟩ (.int .i64 0)).setCell ⟨bj, 1, none⟩ (.int .i64 0) := ⟨_, rfl⟩
        rw [← hwz] at hgd kb ⊢
        clear hwz hHeld
        have hh := hhD.stream hgd hgw
        have kh := khD.stream hgd hgh
        have ka := kaD.stream hgd hga
        have hx := hxD.grown hgd hxz (fun k hk => by injection hk with hk; omega)
        clear hgd hgsz hbd hbg
        obtain ⟨q0, q1⟩ := kh.two_
        have qz := kh.lt
        go_wp2_with fail
        refine (Chance_none SA TA c' d' w0.heap.size 864000000 segs atts _ hh hc HO.out (by omega) n4 hm HF.out).mono ?_
        rintro e wy ⟨rfl, hb⟩
        have ka := ka.below hb
        have kb := kb.below hb
        have hx := below_up hx hb
        clear hb q0 q1 qz hh kh
        obtain ⟨a0, a0'⟩ := ka.two_
        have az := ka.lt
        obtain ⟨b0, b0'⟩ := kb.two_
        have bz := kb.lt
        go_wp2_with fail
        refine (ready_any _).mono ?_
        rintro e w9 ⟨rfl, hb⟩
        go_wp2_with fail
        go_ret
        exact ⟨rfl, below_up (by repeat (first | exact hx | refine Below.alloc ?_ (by first | omega | (simp; omega) | simp) _ | refine below_drewN' ?_ _ | refine Below.drew ?_)) hb⟩
    case refine_2 =>
      go_simp
      obtain ⟨bj, hbj⟩ : ∃ b, b = wd.heap.size := ⟨_, rfl⟩
      have kb : Blk (wd.alloc (.cells #[.int .i64 0, .int .i64 0] 41)) bj 41 #[.int .i64 0, .int .i64 0] := by rw [hbj]; exact Blk.new _ _ _
      have hbd : wd.heap.size ≤ bj := by rw [hbj]; exact hgsz
      have hbg : w.heap.size < bj := by have h1 := hsD.lt; omega
      have hgd := grown_alloc hgd (.cells #[.int .i64 0, .int .i64 0] 41)
      have hsq := hsq.alloc (.cells #[.int .i64 0, .int .i64 0] 41)
      have hgsz : wd.heap.size ≤ (wd.alloc (.cells #[.int .i64 0, .int .i64 0] 41)).heap.size := hgd.size
      rw [← hbj]
      clear hbj
      generalize wd.alloc (.cells #[.int .i64 0, .int .i64 0] 41) = w11 at *
      refine hK.out _ _ ((khD.stream hgd hgh).two_) (fun hHeld => ?_)
      clear hK K
      (try simp only [Act.put, List.setIfInBounds_toArray, List.set_cons_zero, List.set_cons_succ])
      refine wpAnyH_ready (rs := [3]) (by kernel_rfl) (by simp) ?_
      refine AllReadyH.cons rfl (fun K hK => ?_) AllReadyH.nil
      go_simp
      have hrw : Row (w11.alloc (.cells #[.int .i64 0, .int .i64 1, .int .i64 20] 3)) w11.heap.size 1 (some ⟨w11.heap.size, 0, none⟩) 3 (ints [0, 1, 20]) := row_new _ _ _ _ _ _ (Nat.le_refl _) rfl
      have hgd := grown_alloc hgd (.cells #[.int .i64 0, .int .i64 1, .int .i64 20] 3)
      have hsq := hsq.alloc (.cells #[.int .i64 0, .int .i64 1, .int .i64 20] 3)
      have hrl : w.heap.size < w11.heap.size := (by have h1 := hsD.lt; have h2 := hgsz; omega)
      have kb := kb.alloc (.cells #[.int .i64 0, .int .i64 1, .int .i64 20] 3)
      have hgsz : wd.heap.size ≤ (w11.alloc (.cells #[.int .i64 0, .int .i64 1, .int .i64 20] 3)).heap.size := hgd.size
      generalize w11.alloc (.cells #[.int .i64 0, .int .i64 1, .int .i64 20] 3) = w3 at *
      refine hK.out _ _ ((khD.stream hgd hgh).two_) (fun hHeld => ?_)
      clear hK K
      (try simp only [Act.put, List.setIfInBounds_toArray, List.set_cons_zero, List.set_cons_succ])
      refine wpAnyH_ready (rs := [4]) (by kernel_rfl) (by simp) ?_
      refine AllReadyH.cons rfl (fun K hK => ?_) AllReadyH.nil
      go_simp
      go_at_call 8
      refine (pick_any w.heap.size _ _ _ _ [0, 1, 20] _ hsq (by omega) hrw hrl (by simp) (by simp)).mono ?_
      rintro e wp ⟨r, rfl, hr, hsq, hgp⟩
      have hr2 : 0 ≤ r ∧ r ≤ 20 := by
        have : ∀ x ∈ ([0, 1, 20] : List Int), 0 ≤ x ∧ x ≤ 20 := by decide
        exact this r hr
      have wadd : IntKind.i64.wrap (t + r) = t + r := IntWalk.i64_in _ (by omega)
      have hgd := grown_trans' hgd hgp
      have hgsz := Nat.le_trans hgsz hgp.size
      have kb := kb.stream hgp hbg
      clear hr hgp
      go_wp2_with fail
      refine hK.out _ _ ((khD.stream hgd hgh).two_) (fun hHeld => ?_)
      clear hK K
      (try simp only [Act.put, List.setIfInBounds_toArray, List.set_cons_zero, List.set_cons_succ])
      (refine wpAnyH_take (i := 5) (v := ?_) (by (simp only [List.getElem?_toArray, List.getElem?_cons_succ, List.getElem?_cons_zero]; rfl)) (by kernel_rfl) (by kernel_rfl) (by kernel_rfl) (by exact fun _ _ _ h => h) (Or.inl ⟨by rfl, ?_⟩) (by assumption) ?_; (rotate_left 1; (intro w hSw; (try dsimp only at hSw); go_simp); (try with_reducible rfl)); (try simp only [Act.put, List.setIfInBounds_toArray, List.set_cons_zero, List.set_cons_succ]))
      refine wpAnyH_ready (rs := [6]) (by kernel_rfl) (by simp) ?_
      refine AllReadyH.cons rfl (fun K hK => ?_) AllReadyH.nil
      go_simp
      go_at_call 13
      refine (Chance_none SA TA c' d' w0.heap.size (t + r) segs atts _ (hhD.stream hgd hgw) hc HO.out (by omega) n4 hm HF.out).mono ?_
      rintro e wc ⟨rfl, hb⟩
      have hgd := grown_trans' hgd (grown_of_below hb _)
      have hgsz := Nat.le_trans hgsz hb.size
      have kb := kb.below hb
      clear hb
      go_wp2_with fail
      refine hK.out _ _ ((khD.stream hgd hgh).two_) (fun hHeld => ?_)
      clear hK K
      (try simp only [Act.put, List.setIfInBounds_toArray, List.set_cons_zero, List.set_cons_succ])
      (refine wpAnyH_take (i := 7) (v := ?_) (by (simp only [List.getElem?_toArray, List.getElem?_cons_succ, List.getElem?_cons_zero]; rfl)) (by kernel_rfl) (by kernel_rfl) (by kernel_rfl) (by exact fun _ _ _ h => h) (Or.inl ⟨by rfl, ?_⟩) (by assumption) ?_; (rotate_left 1; (intro w hSw; (try dsimp only at hSw); go_simp); (try with_reducible rfl)); (try simp only [Act.put, List.setIfInBounds_toArray, List.set_cons_zero, List.set_cons_succ]))
      (refine wpAnyH_take (i := 8) (v := ?_) (by (simp only [List.getElem?_toArray, List.getElem?_cons_succ, List.getElem?_cons_zero]; rfl)) (by kernel_rfl) (by kernel_rfl) (by kernel_rfl) (by exact fun _ _ _ h => h) (Or.inl ⟨by rfl, ?_⟩) (by assumption) ?_; (rotate_left 1; (intro w hSw; (try dsimp only at hSw); go_simp); (try with_reducible rfl)); (try simp only [Act.put, List.setIfInBounds_toArray, List.set_cons_zero, List.set_cons_succ]))
      (refine wpAnyH_take (i := 9) (v := ?_) (by (simp only [List.getElem?_toArray, List.getElem?_cons_succ, List.getElem?_cons_zero]; rfl)) (by kernel_rfl) (by kernel_rfl) (by kernel_rfl) (by exact fun _ _ _ h => h) (Or.inl ⟨by rfl, ?_⟩) (by assumption) ?_; (rotate_left 1; (intro w hSw; (try dsimp only at hSw); go_simp); (try with_reducible rfl)); (try simp only [Act.put, List.setIfInBounds_toArray, List.set_cons_zero, List.set_cons_succ]))
      (refine wpAnyH_take (i := 10) (v := ?_) (by (simp only [List.getElem?_toArray, List.getElem?_cons_succ, List.getElem?_cons_zero]; rfl)) (by kernel_rfl) (by kernel_rfl) (by kernel_rfl) (by exact fun _ _ _ h => h) (Or.inl ⟨by rfl, ?_⟩) (by assumption) ?_; (rotate_left 1; (intro w hSw; (try dsimp only at hSw); go_simp); (try with_reducible rfl)); (try simp only [Act.put, List.setIfInBounds_toArray, List.set_cons_zero, List.set_cons_succ]))
      refine wpAnyH_ready (rs := [12]) (by kernel_rfl) (by simp) ?_
      refine AllReadyH.cons rfl (fun K hK => ?_) AllReadyH.nil
      obtain ⟨r0, r1⟩ := kb.two_
      have rz := kb.lt
      have rf0 := kb.thaw 0
      have rf1 := kb.thaw 1
      go_simp
      clear r0 r1 rz rf0 rf1
      have hgd := grown_set_new (grown_set_new hgd (p := ⟨bj, 0, none⟩) hbd (.int .i64 0)) (p := ⟨bj, 1, none⟩) hbd (.int .i64 0)
      have kb := ((kb.poke 0 (.int .i64 0)).poke 1 (.int .i64 0)).as (cs' := #[(.int .i64 0), (.int .i64 0)]) (by simp)
      refine hK.out _ _ ((khD.stream hgd hgh).two_) (fun hHeld => ?_)
      clear hK K
      (try simp only [Act.put, List.setIfInBounds_toArray, List.set_cons_zero, List.set_cons_succ])
      (refine wpAnyH_take (i := 13) (v := ?_) (by (simp only [List.getElem?_toArray, List.getElem?_cons_succ, List.getElem?_cons_zero]; rfl)) (by kernel_rfl) (by kernel_rfl) (by kernel_rfl) (by exact fun _ _ _ h => h) (Or.inl ⟨by rfl, ?_⟩) (by assumption) ?_; (rotate_left 1; (intro w hSw; (try dsimp only at hSw); go_simp); (try with_reducible rfl)); (try simp only [Act.put, List.setIfInBounds_toArray, List.set_cons_zero, List.set_cons_succ]))
      (refine wpAnyH_take (i := 14) (v := ?_) (by (simp only [List.getElem?_toArray, List.getElem?_cons_succ, List.getElem?_cons_zero]; rfl)) (by kernel_rfl) (by kernel_rfl) (by kernel_rfl) (by exact fun _ _ _ h => h) (Or.inl ⟨by rfl, ?_⟩) (by assumption) ?_; (rotate_left 1; (intro w hSw; (try dsimp only at hSw); go_simp); (try with_reducible rfl)); (try simp only [Act.put, List.setIfInBounds_toArray, List.set_cons_zero, List.set_cons_succ]))
      refine wpAnyH_done (by kernel_rfl) ?_ _
      obtain ⟨wz, hwz⟩ : ∃ W, W = (wc.setCell ⟨bj, 0, none⟩ (.int .i64 0)).setCell ⟨bj, 1, none⟩ (.int .i64 0) := ⟨_, rfl⟩
      rw [← hwz] at hgd kb ⊢
      clear hwz hHeld
      have hh := hhD.stream hgd hgw
      have kh := khD.stream hgd hgh
      have ka := kaD.stream hgd hga
      have hx := hxD.grown hgd hxz (fun k hk => by injection hk with hk; omega)
      clear hgd hgsz hbd hbg
      obtain ⟨q0, q1⟩ := kh.two_
      have qz := kh.lt
      go_wp2_with fail
      refine (Chance_none SA TA c' d' w0.heap.size 864000000 segs atts _ hh hc HO.out (by omega) n4 hm HF.out).mono ?_
      rintro e wy ⟨rfl, hb⟩
      have ka := ka.below hb
      have kb := kb.below hb
      have hx := below_up hx hb
      clear hb q0 q1 qz hh kh
      obtain ⟨a0, a0'⟩ := ka.two_
      have az := ka.lt
      obtain ⟨b0, b0'⟩ := kb.two_
      have bz := kb.lt
      go_wp2_with fail
      refine (ready_any _).mono ?_
      rintro e w9 ⟨rfl, hb⟩
      go_wp2_with fail
      go_ret
      exact ⟨rfl, below_up (by repeat (first | exact hx | refine Below.alloc ?_ (by first | omega | (simp; omega) | simp) _ | refine below_drewN' ?_ _ | refine Below.drew ?_)) hb⟩
  · have HF := Lib.hid hfb
    clear hfb
    obtain ⟨q0, q1⟩ := kh.two_
    have qz := kh.lt
    refine (Chance_full SA TA c' d' w0.heap.size t segs atts _ hh hc HO.out (by omega) n4 hm HF.out).mono ?_
    rintro e w4 ⟨rfl, hb⟩
    have hh := hh.below hb
    have kh := kh.below hb
    have hs3 := hs3.keep hb
    have hx := below_up hx hb
    have HAN := Lib.hid (allN_bd HO.out n4 hm HF.out)
    have haa := fr_2401 (goodN_bd HO.out segs.length t).1 (goodN_bd HO.out segs.length t).2 HAN.out.1 HAN.out.2
    generalize hA1 : frN (goodN atts segs.length t) (allN atts segs.length) = a1 at *
    generalize hA2 : frD (goodN atts segs.length t) (allN atts segs.length) = a2 at *
    have HA1 := Lib.hid hA1
    have HA2 := Lib.hid hA2
    obtain ⟨ha0, ha1, ha2, ha3⟩ := haa
    clear hA1 hA2
    clear hb q0 q1 qz
    obtain ⟨q0, q1⟩ := kh.two_
    have qz := kh.lt
    go_upto_region 4 with (fail)
    have ka : Blk (w4.alloc (.cells #[.int .i64 a1, .int .i64 a2] 41)) w4.heap.size 41 #[(.int .i64 a1), (.int .i64 a2)] := Blk.new _ _ _
    have hh := hh.alloc (.cells #[.int .i64 a1, .int .i64 a2] 41)
    have kh := kh.alloc (.cells #[.int .i64 a1, .int .i64 a2] 41)
    have hs3 := hs3.alloc (.cells #[.int .i64 a1, .int .i64 a2] 41)
    have hx : Below w.heap.size w (w4.alloc (.cells #[.int .i64 a1, .int .i64 a2] 41)) := Below.alloc hx hx.size _
    have hga : w.heap.size < w4.heap.size := by have := hs3.lt; have := kh.lt; omega
    generalize w4.alloc (.cells #[.int .i64 a1, .int .i64 a2] 41) = W5 at *
    generalize w4.heap.size = ba at *
    clear q0 q1 qz
    have hhD := hh.below (Below.refl W5.heap.size W5).drew
    have khD := kh.drew
    have kaD := ka.drew
    have hsD := hs3.drew
    have hxD := hx.drew
    have hxz : w.heap.size ≤ W5.drew.heap.size := hx.size
    clear hh kh ka hs3 hx
    refine wp_region_held_drew (S := (fun w' => w'.cell? ⟨bh, 0, none⟩ = some (.slice SA segs.length c') ∧ w'.cell? ⟨bh, 1, none⟩ = some (.slice TA atts.length d'))) (by kernel_rfl) (khD.two_) (fun hHeld => ?_)
    generalize W5.drew = wd at *
    have hgd : wd.grownBy wd (some w.heap.size) := World.grownBy.refl wd _
    have hgsz := Nat.le_refl wd.heap.size
    have hsq := hsD
    (refine wpAnyH_take (i := 0) (v := ?_) (by (simp only [List.getElem?_toArray, List.getElem?_cons_zero]; rfl)) (by kernel_rfl) (by kernel_rfl) (by kernel_rfl) (by exact fun _ _ _ h => h) (Or.inl ⟨by rfl, ?_⟩) (by assumption) ?_; (rotate_left 1; (intro w hSw; (try dsimp only at hSw); go_simp); (try with_reducible rfl)); (try simp only [Act.put, List.setIfInBounds_toArray, List.set_cons_zero, List.set_cons_succ]))
    (refine wpAnyH_take (i := 1) (v := ?_) (by (simp only [List.getElem?_toArray, List.getElem?_cons_succ, List.getElem?_cons_zero]; rfl)) (by kernel_rfl) (by kernel_rfl) (by kernel_rfl) (by exact fun _ _ _ h => h) (Or.inl ⟨by rfl, ?_⟩) (by assumption) ?_; (rotate_left 1; (intro w hSw; (try dsimp only at hSw); go_simp); (try with_reducible rfl)); (try simp only [Act.put, List.setIfInBounds_toArray, List.set_cons_zero, List.set_cons_succ]))
    (refine wpAnyH_take (i := 2) (v := ?_) (by (simp only [List.getElem?_toArray, List.getElem?_cons_succ, List.getElem?_cons_zero]; rfl)) (by kernel_rfl) (by kernel_rfl) (by kernel_rfl) (by exact fun _ _ _ h => h) (Or.inl ⟨by rfl, ?_⟩) (by assumption) ?_; (rotate_left 1; (intro w hSw; (try dsimp only at hSw); go_simp); (try with_reducible rfl)); (try simp only [Act.put, List.setIfInBounds_toArray, List.set_cons_zero, List.set_cons_succ]))
    refine wpAnyH_ready (rs := [3, 11]) (by kernel_rfl) (by simp) ?_
    refine AllReadyH.cons rfl (fun K hK => ?_) (AllReadyH.cons rfl (fun K hK => ?_) AllReadyH.nil)
    case refine_1 =>
      go_simp
      have hrw : Row (wd.alloc (.cells #[.int .i64 0, .int .i64 1, .int .i64 20] 3)) wd.heap.size 1 (some ⟨wd.heap.size, 0, none⟩) 3 (ints [0, 1, 20]) := row_new _ _ _ _ _ _ (Nat.le_refl _) rfl
      have hgd := grown_alloc hgd (.cells #[.int .i64 0, .int .i64 1, .int .i64 20] 3)
      have hsq := hsq.alloc (.cells #[.int .i64 0, .int .i64 1, .int .i64 20] 3)
      have hrl : w.heap.size < wd.heap.size := (by have h1 := hsD.lt; have h2 := hgsz; omega)
      have hgsz : wd.heap.size ≤ (wd.alloc (.cells #[.int .i64 0, .int .i64 1, .int .i64 20] 3)).heap.size := hgd.size
      generalize wd.alloc (.cells #[.int .i64 0, .int .i64 1, .int .i64 20] 3) = w3 at *
      refine hK.out _ _ ((khD.stream hgd hgh).two_) (fun hHeld => ?_)
      clear hK K
      (try simp only [Act.put, List.setIfInBounds_toArray, List.set_cons_zero, List.set_cons_succ])
      refine wpAnyH_ready (rs := [4, 11]) (by kernel_rfl) (by simp) ?_
      refine AllReadyH.cons rfl (fun K hK => ?_) (AllReadyH.cons rfl (fun K hK => ?_) AllReadyH.nil)
      case refine_1 =>
        go_simp
        go_at_call 8
        refine (pick_any w.heap.size _ _ _ _ [0, 1, 20] _ hsq (by omega) hrw hrl (by simp) (by simp)).mono ?_
        rintro e wp ⟨r, rfl, hr, hsq, hgp⟩
        have hr2 : 0 ≤ r ∧ r ≤ 20 := by
          have : ∀ x ∈ ([0, 1, 20] : List Int), 0 ≤ x ∧ x ≤ 20 := by decide
          exact this r hr
        have wadd : IntKind.i64.wrap (t + r) = t + r := IntWalk.i64_in _ (by omega)
        have hgd := grown_trans' hgd hgp
        have hgsz := Nat.le_trans hgsz hgp.size
        clear hr hgp
        go_wp2_with fail
        refine hK.out _ _ ((khD.stream hgd hgh).two_) (fun hHeld => ?_)
        clear hK K
        (try simp only [Act.put, List.setIfInBounds_toArray, List.set_cons_zero, List.set_cons_succ])
        (refine wpAnyH_take (i := 5) (v := ?_) (by (simp only [List.getElem?_toArray, List.getElem?_cons_succ, List.getElem?_cons_zero]; rfl)) (by kernel_rfl) (by kernel_rfl) (by kernel_rfl) (by exact fun _ _ _ h => h) (Or.inl ⟨by rfl, ?_⟩) (by assumption) ?_; (rotate_left 1; (intro w hSw; (try dsimp only at hSw); go_simp); (try with_reducible rfl)); (try simp only [Act.put, List.setIfInBounds_toArray, List.set_cons_zero, List.set_cons_succ]))
        refine wpAnyH_ready (rs := [6, 11]) (by kernel_rfl) (by simp) ?_
        refine AllReadyH.cons rfl (fun K hK => ?_) (AllReadyH.cons rfl (fun K hK => ?_) AllReadyH.nil)
        case refine_1 =>
          go_simp
          go_at_call 13
          refine (Chance_full SA TA c' d' w0.heap.size (t + r) segs atts _ (hhD.stream hgd hgw) hc HO.out (by omega) n4 hm HF.out).mono ?_
          rintro e wc ⟨rfl, hb⟩
          have hgd := grown_trans' hgd (grown_of_below hb _)
          have hgsz := Nat.le_trans hgsz hb.size
          have hle : a1 * frD (goodN atts segs.length (t + r)) (allN atts segs.length) ≤ frN (goodN atts segs.length (t + r)) (allN atts segs.length) * a2 := by
            rw [← HA1.out, ← HA2.out]
            exact fr_le (goodN_bd HO.out _ _).1 (good_mono _ (by omega)) (HAN.out).1
          have hbb := fr_2401 (goodN_bd HO.out segs.length (t + r)).1 (goodN_bd HO.out segs.length (t + r)).2 HAN.out.1 HAN.out.2
          generalize frN (goodN atts segs.length (t + r)) (allN atts segs.length) = b1 at *
          generalize frD (goodN atts segs.length (t + r)) (allN atts segs.length) = b2 at *
          obtain ⟨hbb3, hbb1, hbb4, hbb2⟩ := hbb
          clear hb
          go_wp2_with fail
          refine hK.out _ _ ((khD.stream hgd hgh).two_) (fun hHeld => ?_)
          clear hK K
          (try simp only [Act.put, List.setIfInBounds_toArray, List.set_cons_zero, List.set_cons_succ])
          (refine wpAnyH_take (i := 7) (v := ?_) (by (simp only [List.getElem?_toArray, List.getElem?_cons_succ, List.getElem?_cons_zero]; rfl)) (by kernel_rfl) (by kernel_rfl) (by kernel_rfl) (by exact fun _ _ _ h => h) (Or.inl ⟨by rfl, ?_⟩) (by assumption) ?_; (rotate_left 1; (intro w hSw; (try dsimp only at hSw); go_simp); (try with_reducible rfl)); (try simp only [Act.put, List.setIfInBounds_toArray, List.set_cons_zero, List.set_cons_succ]))
          (refine wpAnyH_take (i := 8) (v := ?_) (by (simp only [List.getElem?_toArray, List.getElem?_cons_succ, List.getElem?_cons_zero]; rfl)) (by kernel_rfl) (by kernel_rfl) (by kernel_rfl) (by exact fun _ _ _ h => h) (Or.inl ⟨by rfl, ?_⟩) (by assumption) ?_; (rotate_left 1; (intro w hSw; (try dsimp only at hSw); go_simp); (try with_reducible rfl)); (try simp only [Act.put, List.setIfInBounds_toArray, List.set_cons_zero, List.set_cons_succ]))
          (refine wpAnyH_take (i := 9) (v := ?_) (by (simp only [List.getElem?_toArray, List.getElem?_cons_succ, List.getElem?_cons_zero]; rfl)) (by kernel_rfl) (by kernel_rfl) (by kernel_rfl) (by exact fun _ _ _ h => h) (Or.inl ⟨by rfl, ?_⟩) (by assumption) ?_; (rotate_left 1; (intro w hSw; (try dsimp only at hSw); go_simp); (try with_reducible rfl)); (try simp only [Act.put, List.setIfInBounds_toArray, List.set_cons_zero, List.set_cons_succ]))
          (refine wpAnyH_take (i := 10) (v := ?_) (by (simp only [List.getElem?_toArray, List.getElem?_cons_succ, List.getElem?_cons_zero]; rfl)) (by kernel_rfl) (by kernel_rfl) (by kernel_rfl) (by exact fun _ _ _ h => h) (Or.inl ⟨by rfl, ?_⟩) (by assumption) ?_; (rotate_left 1; (intro w hSw; (try dsimp only at hSw); go_simp); (try with_reducible rfl)); (try simp only [Act.put, List.setIfInBounds_toArray, List.set_cons_zero, List.set_cons_succ]))
          refine wpAnyH_ready (rs := [11]) (by kernel_rfl) (by simp) ?_
          refine AllReadyH.cons rfl (fun K hK => ?_) AllReadyH.nil
          go_simp
          obtain ⟨bj, hbj⟩ : ∃ b, b = wc.heap.size := ⟨_, rfl⟩
          have kb : Blk (wc.alloc (.cells #[.int .i64 0, .int .i64 0] 41)) bj 41 #[.int .i64 0, .int .i64 0] := by rw [hbj]; exact Blk.new _ _ _
          have hbd : wd.heap.size ≤ bj := by rw [hbj]; exact hgsz
          have hbg : w.heap.size < bj := by have h1 := hsD.lt; omega
          have hgd := grown_alloc hgd (.cells #[.int .i64 0, .int .i64 0] 41)
          have hgsz : wd.heap.size ≤ (wc.alloc (.cells #[.int .i64 0, .int .i64 0] 41)).heap.size := hgd.size
          rw [← hbj]
          clear hbj
          generalize wc.alloc (.cells #[.int .i64 0, .int .i64 0] 41) = w11 at *
          refine hK.out _ _ ((khD.stream hgd hgh).two_) (fun hHeld => ?_)
          clear hK K
          (try simp only [Act.put, List.setIfInBounds_toArray, List.set_cons_zero, List.set_cons_succ])
          refine wpAnyH_ready (rs := [12]) (by kernel_rfl) (by simp) ?_
          refine AllReadyH.cons rfl (fun K hK => ?_) AllReadyH.nil
          obtain ⟨r0, r1⟩ := kb.two_
          have rz := kb.lt
          have rf0 := kb.thaw 0
          have rf1 := kb.thaw 1
          go_simp
          clear r0 r1 rz rf0 rf1
          have hgd := grown_set_new (grown_set_new hgd (p := ⟨bj, 0, none⟩) hbd (.int .i64 b1)) (p := ⟨bj, 1, none⟩) hbd (.int .i64 b2)
          have kb := ((kb.poke 0 (.int .i64 b1)).poke 1 (.int .i64 b2)).as (cs' := #[(.int .i64 b1), (.int .i64 b2)]) (by simp)
          refine hK.out _ _ ((khD.stream hgd hgh).two_) (fun hHeld => ?_)
          clear hK K
          (try simp only [Act.put, List.setIfInBounds_toArray, List.set_cons_zero, List.set_cons_succ])
          (refine wpAnyH_take (i := 13) (v := ?_) (by (simp only [List.getElem?_toArray, List.getElem?_cons_succ, List.getElem?_cons_zero]; rfl)) (by kernel_rfl) (by kernel_rfl) (by kernel_rfl) (by exact fun _ _ _ h => h) (Or.inl ⟨by rfl, ?_⟩) (by assumption) ?_; (rotate_left 1; (intro w hSw; (try dsimp only at hSw); go_simp); (try with_reducible rfl)); (try simp only [Act.put, List.setIfInBounds_toArray, List.set_cons_zero, List.set_cons_succ]))
          (refine wpAnyH_take (i := 14) (v := ?_) (by (simp only [List.getElem?_toArray, List.getElem?_cons_succ, List.getElem?_cons_zero]; rfl)) (by kernel_rfl) (by kernel_rfl) (by kernel_rfl) (by exact fun _ _ _ h => h) (Or.inl ⟨by rfl, ?_⟩) (by assumption) ?_; (rotate_left 1; (intro w hSw; (try dsimp only at hSw); go_simp); (try with_reducible rfl)); (try simp only [Act.put, List.setIfInBounds_toArray, List.set_cons_zero, List.set_cons_succ]))
          refine wpAnyH_done (by kernel_rfl) ?_ _
          obtain ⟨wz, hwz⟩ : ∃ W, W = (w11.setCell ⟨bj, 0, none⟩ (.int .i64 b1)).setCell ⟨bj, 1, none⟩ (.int .i64 b2) := ⟨_, rfl⟩
          rw [← hwz] at hgd kb ⊢
          clear hwz hHeld
          have hh := hhD.stream hgd hgw
          have kh := khD.stream hgd hgh
          have ka := kaD.stream hgd hga
          have hx := hxD.grown hgd hxz (fun k hk => by injection hk with hk; omega)
          clear hgd hgsz hbd hbg
          obtain ⟨q0, q1⟩ := kh.two_
          have qz := kh.lt
          go_wp2_with fail
          refine (Chance_full SA TA c' d' w0.heap.size 864000000 segs atts _ hh hc HO.out (by omega) n4 hm HF.out).mono ?_
          rintro e wy ⟨rfl, hb⟩
          rw [good_sure HO.out n4 HSH.out, (fr_one HAN.out.1).1, (fr_one HAN.out.1).2]
          have ka := ka.below hb
          have kb := kb.below hb
          have hx := below_up hx hb
          clear hb q0 q1 qz hh kh
          obtain ⟨a0, a0'⟩ := ka.two_
          have az := ka.lt
          obtain ⟨b0, b0'⟩ := kb.two_
          have bz := kb.lt
          have hp1 : 0 ≤ a1 * b2 ∧ a1 * b2 ≤ 2401 * 2401 := ⟨Int.mul_nonneg ha0 hbb4, Int.mul_le_mul ha1 hbb2 hbb4 (by omega)⟩
          have hp2 : 0 ≤ b1 * a2 ∧ b1 * a2 ≤ 2401 * 2401 := ⟨Int.mul_nonneg hbb3 ha2, Int.mul_le_mul hbb1 ha3 ha2 (by omega)⟩
          have w1 : IntKind.i64.wrap (a1 * b2) = a1 * b2 := IntWalk.i64_in _ (by omega)
          have w2 : IntKind.i64.wrap (b1 * a2) = b1 * a2 := IntWalk.i64_in _ (by omega)
          have dle : decide (a1 * b2 ≤ b1 * a2) = true := by simpa using hle
          clear hp1 hp2 hle
          go_wp2_with fail
          refine (ready_any _).mono ?_
          rintro e w9 ⟨rfl, hb⟩
          go_wp2_with fail
          go_ret
          exact ⟨rfl, below_up (by repeat (first | exact hx | refine Below.alloc ?_ (by first | omega | (simp; omega) | simp) _ | refine below_drewN' ?_ _ | refine Below.drew ?_)) hb⟩
        case refine_2 =>
          go_simp
          obtain ⟨bj, hbj⟩ : ∃ b, b = wp.heap.size := ⟨_, rfl⟩
          have kb : Blk (wp.alloc (.cells #[.int .i64 0, .int .i64 0] 41)) bj 41 #[.int .i64 0, .int .i64 0] := by rw [hbj]; exact Blk.new _ _ _
          have hbd : wd.heap.size ≤ bj := by rw [hbj]; exact hgsz
          have hbg : w.heap.size < bj := by have h1 := hsD.lt; omega
          have hgd := grown_alloc hgd (.cells #[.int .i64 0, .int .i64 0] 41)
          have hgsz : wd.heap.size ≤ (wp.alloc (.cells #[.int .i64 0, .int .i64 0] 41)).heap.size := hgd.size
          rw [← hbj]
          clear hbj
          generalize wp.alloc (.cells #[.int .i64 0, .int .i64 0] 41) = w11 at *
          refine hK.out _ _ ((khD.stream hgd hgh).two_) (fun hHeld => ?_)
          clear hK K
          (try simp only [Act.put, List.setIfInBounds_toArray, List.set_cons_zero, List.set_cons_succ])
          refine wpAnyH_ready (rs := [6]) (by kernel_rfl) (by simp) ?_
          refine AllReadyH.cons rfl (fun K hK => ?_) AllReadyH.nil
          go_simp
          go_at_call 13
          refine (Chance_full SA TA c' d' w0.heap.size (t + r) segs atts _ (hhD.stream hgd hgw) hc HO.out (by omega) n4 hm HF.out).mono ?_
          rintro e wc ⟨rfl, hb⟩
          have hgd := grown_trans' hgd (grown_of_below hb _)
          have hgsz := Nat.le_trans hgsz hb.size
          have kb := kb.below hb
          have hle : a1 * frD (goodN atts segs.length (t + r)) (allN atts segs.length) ≤ frN (goodN atts segs.length (t + r)) (allN atts segs.length) * a2 := by
            rw [← HA1.out, ← HA2.out]
            exact fr_le (goodN_bd HO.out _ _).1 (good_mono _ (by omega)) (HAN.out).1
          have hbb := fr_2401 (goodN_bd HO.out segs.length (t + r)).1 (goodN_bd HO.out segs.length (t + r)).2 HAN.out.1 HAN.out.2
          generalize frN (goodN atts segs.length (t + r)) (allN atts segs.length) = b1 at *
          generalize frD (goodN atts segs.length (t + r)) (allN atts segs.length) = b2 at *
          obtain ⟨hbb3, hbb1, hbb4, hbb2⟩ := hbb
          clear hb
          go_wp2_with fail
          refine hK.out _ _ ((khD.stream hgd hgh).two_) (fun hHeld => ?_)
          clear hK K
          (try simp only [Act.put, List.setIfInBounds_toArray, List.set_cons_zero, List.set_cons_succ])
          (refine wpAnyH_take (i := 7) (v := ?_) (by (simp only [List.getElem?_toArray, List.getElem?_cons_succ, List.getElem?_cons_zero]; rfl)) (by kernel_rfl) (by kernel_rfl) (by kernel_rfl) (by exact fun _ _ _ h => h) (Or.inl ⟨by rfl, ?_⟩) (by assumption) ?_; (rotate_left 1; (intro w hSw; (try dsimp only at hSw); go_simp); (try with_reducible rfl)); (try simp only [Act.put, List.setIfInBounds_toArray, List.set_cons_zero, List.set_cons_succ]))
          (refine wpAnyH_take (i := 8) (v := ?_) (by (simp only [List.getElem?_toArray, List.getElem?_cons_succ, List.getElem?_cons_zero]; rfl)) (by kernel_rfl) (by kernel_rfl) (by kernel_rfl) (by exact fun _ _ _ h => h) (Or.inl ⟨by rfl, ?_⟩) (by assumption) ?_; (rotate_left 1; (intro w hSw; (try dsimp only at hSw); go_simp); (try with_reducible rfl)); (try simp only [Act.put, List.setIfInBounds_toArray, List.set_cons_zero, List.set_cons_succ]))
          (refine wpAnyH_take (i := 9) (v := ?_) (by (simp only [List.getElem?_toArray, List.getElem?_cons_succ, List.getElem?_cons_zero]; rfl)) (by kernel_rfl) (by kernel_rfl) (by kernel_rfl) (by exact fun _ _ _ h => h) (Or.inl ⟨by rfl, ?_⟩) (by assumption) ?_; (rotate_left 1; (intro w hSw; (try dsimp only at hSw); go_simp); (try with_reducible rfl)); (try simp only [Act.put, List.setIfInBounds_toArray, List.set_cons_zero, List.set_cons_succ]))
          (refine wpAnyH_take (i := 10) (v := ?_) (by (simp only [List.getElem?_toArray, List.getElem?_cons_succ, List.getElem?_cons_zero]; rfl)) (by kernel_rfl) (by kernel_rfl) (by kernel_rfl) (by exact fun _ _ _ h => h) (Or.inl ⟨by rfl, ?_⟩) (by assumption) ?_; (rotate_left 1; (intro w hSw; (try dsimp only at hSw); go_simp); (try with_reducible rfl)); (try simp only [Act.put, List.setIfInBounds_toArray, List.set_cons_zero, List.set_cons_succ]))
          refine wpAnyH_ready (rs := [12]) (by kernel_rfl) (by simp) ?_
          refine AllReadyH.cons rfl (fun K hK => ?_) AllReadyH.nil
          obtain ⟨r0, r1⟩ := kb.two_
          have rz := kb.lt
          have rf0 := kb.thaw 0
          have rf1 := kb.thaw 1
          go_simp
          clear r0 r1 rz rf0 rf1
          have hgd := grown_set_new (grown_set_new hgd (p := ⟨bj, 0, none⟩) hbd (.int .i64 b1)) (p := ⟨bj, 1, none⟩) hbd (.int .i64 b2)
          have kb := ((kb.poke 0 (.int .i64 b1)).poke 1 (.int .i64 b2)).as (cs' := #[(.int .i64 b1), (.int .i64 b2)]) (by simp)
          refine hK.out _ _ ((khD.stream hgd hgh).two_) (fun hHeld => ?_)
          clear hK K
          (try simp only [Act.put, List.setIfInBounds_toArray, List.set_cons_zero, List.set_cons_succ])
          (refine wpAnyH_take (i := 13) (v := ?_) (by (simp only [List.getElem?_toArray, List.getElem?_cons_succ, List.getElem?_cons_zero]; rfl)) (by kernel_rfl) (by kernel_rfl) (by kernel_rfl) (by exact fun _ _ _ h => h) (Or.inl ⟨by rfl, ?_⟩) (by assumption) ?_; (rotate_left 1; (intro w hSw; (try dsimp only at hSw); go_simp); (try with_reducible rfl)); (try simp only [Act.put, List.setIfInBounds_toArray, List.set_cons_zero, List.set_cons_succ]))
          (refine wpAnyH_take (i := 14) (v := ?_) (by (simp only [List.getElem?_toArray, List.getElem?_cons_succ, List.getElem?_cons_zero]; rfl)) (by kernel_rfl) (by kernel_rfl) (by kernel_rfl) (by exact fun _ _ _ h => h) (Or.inl ⟨by rfl, ?_⟩) (by assumption) ?_; (rotate_left 1; (intro w hSw; (try dsimp only at hSw); go_simp); (try with_reducible rfl)); (try simp only [Act.put, List.setIfInBounds_toArray, List.set_cons_zero, List.set_cons_succ]))
          refine wpAnyH_done (by kernel_rfl) ?_ _
          obtain ⟨wz, hwz⟩ : ∃ W, W = (wc.setCell ⟨bj, 0, none⟩ (.int .i64 b1)).setCell ⟨bj, 1, none⟩ (.int .i64 b2) := ⟨_, rfl⟩
          rw [← hwz] at hgd kb ⊢
          clear hwz hHeld
          have hh := hhD.stream hgd hgw
          have kh := khD.stream hgd hgh
          have ka := kaD.stream hgd hga
          have hx := hxD.grown hgd hxz (fun k hk => by injection hk with hk; omega)
          clear hgd hgsz hbd hbg
          obtain ⟨q0, q1⟩ := kh.two_
          have qz := kh.lt
          go_wp2_with fail
          refine (Chance_full SA TA c' d' w0.heap.size 864000000 segs atts _ hh hc HO.out (by omega) n4 hm HF.out).mono ?_
          rintro e wy ⟨rfl, hb⟩
          rw [good_sure HO.out n4 HSH.out, (fr_one HAN.out.1).1, (fr_one HAN.out.1).2]
          have ka := ka.below hb
          have kb := kb.below hb
          have hx := below_up hx hb
          clear hb q0 q1 qz hh kh
          obtain ⟨a0, a0'⟩ := ka.two_
          have az := ka.lt
          obtain ⟨b0, b0'⟩ := kb.two_
          have bz := kb.lt
          have hp1 : 0 ≤ a1 * b2 ∧ a1 * b2 ≤ 2401 * 2401 := ⟨Int.mul_nonneg ha0 hbb4, Int.mul_le_mul ha1 hbb2 hbb4 (by omega)⟩
          have hp2 : 0 ≤ b1 * a2 ∧ b1 * a2 ≤ 2401 * 2401 := ⟨Int.mul_nonneg hbb3 ha2, Int.mul_le_mul hbb1 ha3 ha2 (by omega)⟩
          have w1 : IntKind.i64.wrap (a1 * b2) = a1 * b2 := IntWalk.i64_in _ (by omega)
          have w2 : IntKind.i64.wrap (b1 * a2) = b1 * a2 := IntWalk.i64_in _ (by omega)
          have dle : decide (a1 * b2 ≤ b1 * a2) = true := by simpa using hle
          clear hp1 hp2 hle
          go_wp2_with fail
          refine (ready_any _).mono ?_
          rintro e w9 ⟨rfl, hb⟩
          go_wp2_with fail
          go_ret
          exact ⟨rfl, below_up (by repeat (first | exact hx | refine Below.alloc ?_ (by first | omega | (simp; omega) | simp) _ | refine below_drewN' ?_ _ | refine Below.drew ?_)) hb⟩
      case refine_2 =>
        go_simp
        obtain ⟨bj, hbj⟩ : ∃ b, b = w3.heap.size := ⟨_, rfl⟩
        have kb : Blk (w3.alloc (.cells #[.int .i64 0, .int .i64 0] 41)) bj 41 #[.int .i64 0, .int .i64 0] := by rw [hbj]; exact Blk.new _ _ _
        have hbd : wd.heap.size ≤ bj := by rw [hbj]; exact hgsz
        have hbg : w.heap.size < bj := by have h1 := hsD.lt; omega
        have hgd := grown_alloc hgd (.cells #[.int .i64 0, .int .i64 0] 41)
        have hsq := hsq.alloc (.cells #[.int .i64 0, .int .i64 0] 41)
        have hrw := hrw.alloc (.cells #[.int .i64 0, .int .i64 0] 41)
        have hgsz : wd.heap.size ≤ (w3.alloc (.cells #[.int .i64 0, .int .i64 0] 41)).heap.size := hgd.size
        rw [← hbj]
        clear hbj
        generalize w3.alloc (.cells #[.int .i64 0, .int .i64 0] 41) = w11 at *
        refine hK.out _ _ ((khD.stream hgd hgh).two_) (fun hHeld => ?_)
        clear hK K
        (try simp only [Act.put, List.setIfInBounds_toArray, List.set_cons_zero, List.set_cons_succ])
        refine wpAnyH_ready (rs := [4]) (by kernel_rfl) (by simp) ?_
        refine AllReadyH.cons rfl (fun K hK => ?_) AllReadyH.nil
        go_simp
        go_at_call 8
        refine (pick_any w.heap.size _ _ _ _ [0, 1, 20] _ hsq (by omega) hrw hrl (by simp) (by simp)).mono ?_
        rintro e wp ⟨r, rfl, hr, hsq, hgp⟩
        have hr2 : 0 ≤ r ∧ r ≤ 20 := by
          have : ∀ x ∈ ([0, 1, 20] : List Int), 0 ≤ x ∧ x ≤ 20 := by decide
          exact this r hr
        have wadd : IntKind.i64.wrap (t + r) = t + r := IntWalk.i64_in _ (by omega)
        have hgd := grown_trans' hgd hgp
        have hgsz := Nat.le_trans hgsz hgp.size
        have kb := kb.stream hgp hbg
        clear hr hgp
        go_wp2_with fail
        refine hK.out _ _ ((khD.stream hgd hgh).two_) (fun hHeld => ?_)
        clear hK K
        (try simp only [Act.put, List.setIfInBounds_toArray, List.set_cons_zero, List.set_cons_succ])
        (refine wpAnyH_take (i := 5) (v := ?_) (by (simp only [List.getElem?_toArray, List.getElem?_cons_succ, List.getElem?_cons_zero]; rfl)) (by kernel_rfl) (by kernel_rfl) (by kernel_rfl) (by exact fun _ _ _ h => h) (Or.inl ⟨by rfl, ?_⟩) (by assumption) ?_; (rotate_left 1; (intro w hSw; (try dsimp only at hSw); go_simp); (try with_reducible rfl)); (try simp only [Act.put, List.setIfInBounds_toArray, List.set_cons_zero, List.set_cons_succ]))
        refine wpAnyH_ready (rs := [6]) (by kernel_rfl) (by simp) ?_
        refine AllReadyH.cons rfl (fun K hK => ?_) AllReadyH.nil
        go_simp
        go_at_call 13
        refine (Chance_full SA TA c' d' w0.heap.size (t + r) segs atts _ (hhD.stream hgd hgw) hc HO.out (by omega) n4 hm HF.out).mono ?_
        rintro e wc ⟨rfl, hb⟩
        have hgd := grown_trans' hgd (grown_of_below hb _)
        have hgsz := Nat.le_trans hgsz hb.size
        have kb := kb.below hb
        have hle : a1 * frD (goodN atts segs.length (t + r)) (allN atts segs.length) ≤ frN (goodN atts segs.length (t + r)) (allN atts segs.length) * a2 := by
          rw [← HA1.out, ← HA2.out]
          exact fr_le (goodN_bd HO.out _ _).1 (good_mono _ (by omega)) (HAN.out).1
        have hbb := fr_2401 (goodN_bd HO.out segs.length (t + r)).1 (goodN_bd HO.out segs.length (t + r)).2 HAN.out.1 HAN.out.2
        generalize frN (goodN atts segs.length (t + r)) (allN atts segs.length) = b1 at *
        generalize frD (goodN atts segs.length (t + r)) (allN atts segs.length) = b2 at *
        obtain ⟨hbb3, hbb1, hbb4, hbb2⟩ := hbb
        clear hb
        go_wp2_with fail
        refine hK.out _ _ ((khD.stream hgd hgh).two_) (fun hHeld => ?_)
        clear hK K
        (try simp only [Act.put, List.setIfInBounds_toArray, List.set_cons_zero, List.set_cons_succ])
        (refine wpAnyH_take (i := 7) (v := ?_) (by (simp only [List.getElem?_toArray, List.getElem?_cons_succ, List.getElem?_cons_zero]; rfl)) (by kernel_rfl) (by kernel_rfl) (by kernel_rfl) (by exact fun _ _ _ h => h) (Or.inl ⟨by rfl, ?_⟩) (by assumption) ?_; (rotate_left 1; (intro w hSw; (try dsimp only at hSw); go_simp); (try with_reducible rfl)); (try simp only [Act.put, List.setIfInBounds_toArray, List.set_cons_zero, List.set_cons_succ]))
        (refine wpAnyH_take (i := 8) (v := ?_) (by (simp only [List.getElem?_toArray, List.getElem?_cons_succ, List.getElem?_cons_zero]; rfl)) (by kernel_rfl) (by kernel_rfl) (by kernel_rfl) (by exact fun _ _ _ h => h) (Or.inl ⟨by rfl, ?_⟩) (by assumption) ?_; (rotate_left 1; (intro w hSw; (try dsimp only at hSw); go_simp); (try with_reducible rfl)); (try simp only [Act.put, List.setIfInBounds_toArray, List.set_cons_zero, List.set_cons_succ]))
        (refine wpAnyH_take (i := 9) (v := ?_) (by (simp only [List.getElem?_toArray, List.getElem?_cons_succ, List.getElem?_cons_zero]; rfl)) (by kernel_rfl) (by kernel_rfl) (by kernel_rfl) (by exact fun _ _ _ h => h) (Or.inl ⟨by rfl, ?_⟩) (by assumption) ?_; (rotate_left 1; (intro w hSw; (try dsimp only at hSw); go_simp); (try with_reducible rfl)); (try simp only [Act.put, List.setIfInBounds_toArray, List.set_cons_zero, List.set_cons_succ]))
        (refine wpAnyH_take (i := 10) (v := ?_) (by (simp only [List.getElem?_toArray, List.getElem?_cons_succ, List.getElem?_cons_zero]; rfl)) (by kernel_rfl) (by kernel_rfl) (by kernel_rfl) (by exact fun _ _ _ h => h) (Or.inl ⟨by rfl, ?_⟩) (by assumption) ?_; (rotate_left 1; (intro w hSw; (try dsimp only at hSw); go_simp); (try with_reducible rfl)); (try simp only [Act.put, List.setIfInBounds_toArray, List.set_cons_zero, List.set_cons_succ]))
        refine wpAnyH_ready (rs := [12]) (by kernel_rfl) (by simp) ?_
        refine AllReadyH.cons rfl (fun K hK => ?_) AllReadyH.nil
        obtain ⟨r0, r1⟩ := kb.two_
        have rz := kb.lt
        have rf0 := kb.thaw 0
        have rf1 := kb.thaw 1
        go_simp
        clear r0 r1 rz rf0 rf1
        have hgd := grown_set_new (grown_set_new hgd (p := ⟨bj, 0, none⟩) hbd (.int .i64 b1)) (p := ⟨bj, 1, none⟩) hbd (.int .i64 b2)
        have kb := ((kb.poke 0 (.int .i64 b1)).poke 1 (.int .i64 b2)).as (cs' := #[(.int .i64 b1), (.int .i64 b2)]) (by simp)
        refine hK.out _ _ ((khD.stream hgd hgh).two_) (fun hHeld => ?_)
        clear hK K
        (try simp only [Act.put, List.setIfInBounds_toArray, List.set_cons_zero, List.set_cons_succ])
        (refine wpAnyH_take (i := 13) (v := ?_) (by (simp only [List.getElem?_toArray, List.getElem?_cons_succ, List.getElem?_cons_zero]; rfl)) (by kernel_rfl) (by kernel_rfl) (by kernel_rfl) (by exact fun _ _ _ h => h) (Or.inl ⟨by rfl, ?_⟩) (by assumption) ?_; (rotate_left 1; (intro w hSw; (try dsimp only at hSw); go_simp); (try with_reducible rfl)); (try simp only [Act.put, List.setIfInBounds_toArray, List.set_cons_zero, List.set_cons_succ]))
        (refine wpAnyH_take (i := 14) (v := ?_) (by (simp only [List.getElem?_toArray, List.getElem?_cons_succ, List.getElem?_cons_zero]; rfl)) (by kernel_rfl) (by kernel_rfl) (by kernel_rfl) (by exact fun _ _ _ h => h) (Or.inl ⟨by rfl, ?_⟩) (by assumption) ?_; (rotate_left 1; (intro w hSw; (try dsimp only at hSw); go_simp); (try with_reducible rfl)); (try simp only [Act.put, List.setIfInBounds_toArray, List.set_cons_zero, List.set_cons_succ]))
        refine wpAnyH_done (by kernel_rfl) ?_ _
        obtain ⟨wz, hwz⟩ : ∃ W, W = (wc.setCell ⟨bj, 0, none⟩ (.int .i64 b1)).setCell ⟨bj, 1, none⟩ (.int .i64 b2) := ⟨_, rfl⟩
        rw [← hwz] at hgd kb ⊢
        clear hwz hHeld
        have hh := hhD.stream hgd hgw
        have kh := khD.stream hgd hgh
        have ka := kaD.stream hgd hga
        have hx := hxD.grown hgd hxz (fun k hk => by injection hk with hk; omega)
        clear hgd hgsz hbd hbg
        obtain ⟨q0, q1⟩ := kh.two_
        have qz := kh.lt
        go_wp2_with fail
        refine (Chance_full SA TA c' d' w0.heap.size 864000000 segs atts _ hh hc HO.out (by omega) n4 hm HF.out).mono ?_
        rintro e wy ⟨rfl, hb⟩
        rw [good_sure HO.out n4 HSH.out, (fr_one HAN.out.1).1, (fr_one HAN.out.1).2]
        have ka := ka.below hb
        have kb := kb.below hb
        have hx := below_up hx hb
        clear hb q0 q1 qz hh kh
        obtain ⟨a0, a0'⟩ := ka.two_
        have az := ka.lt
        obtain ⟨b0, b0'⟩ := kb.two_
        have bz := kb.lt
        have hp1 : 0 ≤ a1 * b2 ∧ a1 * b2 ≤ 2401 * 2401 := ⟨Int.mul_nonneg ha0 hbb4, Int.mul_le_mul ha1 hbb2 hbb4 (by omega)⟩
        have hp2 : 0 ≤ b1 * a2 ∧ b1 * a2 ≤ 2401 * 2401 := ⟨Int.mul_nonneg hbb3 ha2, Int.mul_le_mul hbb1 ha3 ha2 (by omega)⟩
        have w1 : IntKind.i64.wrap (a1 * b2) = a1 * b2 := IntWalk.i64_in _ (by omega)
        have w2 : IntKind.i64.wrap (b1 * a2) = b1 * a2 := IntWalk.i64_in _ (by omega)
        have dle : decide (a1 * b2 ≤ b1 * a2) = true := by simpa using hle
        clear hp1 hp2 hle
        go_wp2_with fail
        refine (ready_any _).mono ?_
        rintro e w9 ⟨rfl, hb⟩
        go_wp2_with fail
        go_ret
        exact ⟨rfl, below_up (by repeat (first | exact hx | refine Below.alloc ?_ (by first | omega | (simp; omega) | simp) _ | refine below_drewN' ?_ _ | refine Below.drew ?_)) hb⟩
    case refine_2 =>
      go_simp
      obtain ⟨bj, hbj⟩ : ∃ b, b = wd.heap.size := ⟨_, rfl⟩
      have kb : Blk (wd.alloc (.cells #[.int .i64 0, .int .i64 0] 41)) bj 41 #[.int .i64 0, .int .i64 0] := by rw [hbj]; exact Blk.new _ _ _
      have hbd : wd.heap.size ≤ bj := by rw [hbj]; exact hgsz
      have hbg : w.heap.size < bj := by have h1 := hsD.lt; omega
      have hgd := grown_alloc hgd (.cells #[.int .i64 0, .int .i64 0] 41)
      have hsq := hsq.alloc (.cells #[.int .i64 0, .int .i64 0] 41)
      have hgsz : wd.heap.size ≤ (wd.alloc (.cells #[.int .i64 0, .int .i64 0] 41)).heap.size := hgd.size
      rw [← hbj]
      clear hbj
      generalize wd.alloc (.cells #[.int .i64 0, .int .i64 0] 41) = w11 at *
      refine hK.out _ _ ((khD.stream hgd hgh).two_) (fun hHeld => ?_)
      clear hK K
      (try simp only [Act.put, List.setIfInBounds_toArray, List.set_cons_zero, List.set_cons_succ])
      refine wpAnyH_ready (rs := [3]) (by kernel_rfl) (by simp) ?_
      refine AllReadyH.cons rfl (fun K hK => ?_) AllReadyH.nil
      go_simp
      have hrw : Row (w11.alloc (.cells #[.int .i64 0, .int .i64 1, .int .i64 20] 3)) w11.heap.size 1 (some ⟨w11.heap.size, 0, none⟩) 3 (ints [0, 1, 20]) := row_new _ _ _ _ _ _ (Nat.le_refl _) rfl
      have hgd := grown_alloc hgd (.cells #[.int .i64 0, .int .i64 1, .int .i64 20] 3)
      have hsq := hsq.alloc (.cells #[.int .i64 0, .int .i64 1, .int .i64 20] 3)
      have hrl : w.heap.size < w11.heap.size := (by have h1 := hsD.lt; have h2 := hgsz; omega)
      have kb := kb.alloc (.cells #[.int .i64 0, .int .i64 1, .int .i64 20] 3)
      have hgsz : wd.heap.size ≤ (w11.alloc (.cells #[.int .i64 0, .int .i64 1, .int .i64 20] 3)).heap.size := hgd.size
      generalize w11.alloc (.cells #[.int .i64 0, .int .i64 1, .int .i64 20] 3) = w3 at *
      refine hK.out _ _ ((khD.stream hgd hgh).two_) (fun hHeld => ?_)
      clear hK K
      (try simp only [Act.put, List.setIfInBounds_toArray, List.set_cons_zero, List.set_cons_succ])
      refine wpAnyH_ready (rs := [4]) (by kernel_rfl) (by simp) ?_
      refine AllReadyH.cons rfl (fun K hK => ?_) AllReadyH.nil
      go_simp
      go_at_call 8
      refine (pick_any w.heap.size _ _ _ _ [0, 1, 20] _ hsq (by omega) hrw hrl (by simp) (by simp)).mono ?_
      rintro e wp ⟨r, rfl, hr, hsq, hgp⟩
      have hr2 : 0 ≤ r ∧ r ≤ 20 := by
        have : ∀ x ∈ ([0, 1, 20] : List Int), 0 ≤ x ∧ x ≤ 20 := by decide
        exact this r hr
      have wadd : IntKind.i64.wrap (t + r) = t + r := IntWalk.i64_in _ (by omega)
      have hgd := grown_trans' hgd hgp
      have hgsz := Nat.le_trans hgsz hgp.size
      have kb := kb.stream hgp hbg
      clear hr hgp
      go_wp2_with fail
      refine hK.out _ _ ((khD.stream hgd hgh).two_) (fun hHeld => ?_)
      clear hK K
      (try simp only [Act.put, List.setIfInBounds_toArray, List.set_cons_zero, List.set_cons_succ])
      (refine wpAnyH_take (i := 5) (v := ?_) (by (simp only [List.getElem?_toArray, List.getElem?_cons_succ, List.getElem?_cons_zero]; rfl)) (by kernel_rfl) (by kernel_rfl) (by kernel_rfl) (by exact fun _ _ _ h => h) (Or.inl ⟨by rfl, ?_⟩) (by assumption) ?_; (rotate_left 1; (intro w hSw; (try dsimp only at hSw); go_simp); (try with_reducible rfl)); (try simp only [Act.put, List.setIfInBounds_toArray, List.set_cons_zero, List.set_cons_succ]))
      refine wpAnyH_ready (rs := [6]) (by kernel_rfl) (by simp) ?_
      refine AllReadyH.cons rfl (fun K hK => ?_) AllReadyH.nil
      go_simp
      go_at_call 13
      refine (Chance_full SA TA c' d' w0.heap.size (t + r) segs atts _ (hhD.stream hgd hgw) hc HO.out (by omega) n4 hm HF.out).mono ?_
      rintro e wc ⟨rfl, hb⟩
      have hgd := grown_trans' hgd (grown_of_below hb _)
      have hgsz := Nat.le_trans hgsz hb.size
      have kb := kb.below hb
      have hle : a1 * frD (goodN atts segs.length (t + r)) (allN atts segs.length) ≤ frN (goodN atts segs.length (t + r)) (allN atts segs.length) * a2 := by
        rw [← HA1.out, ← HA2.out]
        exact fr_le (goodN_bd HO.out _ _).1 (good_mono _ (by omega)) (HAN.out).1
      have hbb := fr_2401 (goodN_bd HO.out segs.length (t + r)).1 (goodN_bd HO.out segs.length (t + r)).2 HAN.out.1 HAN.out.2
      generalize frN (goodN atts segs.length (t + r)) (allN atts segs.length) = b1 at *
      generalize frD (goodN atts segs.length (t + r)) (allN atts segs.length) = b2 at *
      obtain ⟨hbb3, hbb1, hbb4, hbb2⟩ := hbb
      clear hb
      go_wp2_with fail
      refine hK.out _ _ ((khD.stream hgd hgh).two_) (fun hHeld => ?_)
      clear hK K
      (try simp only [Act.put, List.setIfInBounds_toArray, List.set_cons_zero, List.set_cons_succ])
      (refine wpAnyH_take (i := 7) (v := ?_) (by (simp only [List.getElem?_toArray, List.getElem?_cons_succ, List.getElem?_cons_zero]; rfl)) (by kernel_rfl) (by kernel_rfl) (by kernel_rfl) (by exact fun _ _ _ h => h) (Or.inl ⟨by rfl, ?_⟩) (by assumption) ?_; (rotate_left 1; (intro w hSw; (try dsimp only at hSw); go_simp); (try with_reducible rfl)); (try simp only [Act.put, List.setIfInBounds_toArray, List.set_cons_zero, List.set_cons_succ]))
      (refine wpAnyH_take (i := 8) (v := ?_) (by (simp only [List.getElem?_toArray, List.getElem?_cons_succ, List.getElem?_cons_zero]; rfl)) (by kernel_rfl) (by kernel_rfl) (by kernel_rfl) (by exact fun _ _ _ h => h) (Or.inl ⟨by rfl, ?_⟩) (by assumption) ?_; (rotate_left 1; (intro w hSw; (try dsimp only at hSw); go_simp); (try with_reducible rfl)); (try simp only [Act.put, List.setIfInBounds_toArray, List.set_cons_zero, List.set_cons_succ]))
      (refine wpAnyH_take (i := 9) (v := ?_) (by (simp only [List.getElem?_toArray, List.getElem?_cons_succ, List.getElem?_cons_zero]; rfl)) (by kernel_rfl) (by kernel_rfl) (by kernel_rfl) (by exact fun _ _ _ h => h) (Or.inl ⟨by rfl, ?_⟩) (by assumption) ?_; (rotate_left 1; (intro w hSw; (try dsimp only at hSw); go_simp); (try with_reducible rfl)); (try simp only [Act.put, List.setIfInBounds_toArray, List.set_cons_zero, List.set_cons_succ]))
      (refine wpAnyH_take (i := 10) (v := ?_) (by (simp only [List.getElem?_toArray, List.getElem?_cons_succ, List.getElem?_cons_zero]; rfl)) (by kernel_rfl) (by kernel_rfl) (by kernel_rfl) (by exact fun _ _ _ h => h) (Or.inl ⟨by rfl, ?_⟩) (by assumption) ?_; (rotate_left 1; (intro w hSw; (try dsimp only at hSw); go_simp); (try with_reducible rfl)); (try simp only [Act.put, List.setIfInBounds_toArray, List.set_cons_zero, List.set_cons_succ]))
      refine wpAnyH_ready (rs := [12]) (by kernel_rfl) (by simp) ?_
      refine AllReadyH.cons rfl (fun K hK => ?_) AllReadyH.nil
      obtain ⟨r0, r1⟩ := kb.two_
      have rz := kb.lt
      have rf0 := kb.thaw 0
      have rf1 := kb.thaw 1
      go_simp
      clear r0 r1 rz rf0 rf1
      have hgd := grown_set_new (grown_set_new hgd (p := ⟨bj, 0, none⟩) hbd (.int .i64 b1)) (p := ⟨bj, 1, none⟩) hbd (.int .i64 b2)
      have kb := ((kb.poke 0 (.int .i64 b1)).poke 1 (.int .i64 b2)).as (cs' := #[(.int .i64 b1), (.int .i64 b2)]) (by simp)
      refine hK.out _ _ ((khD.stream hgd hgh).two_) (fun hHeld => ?_)
      clear hK K
      (try simp only [Act.put, List.setIfInBounds_toArray, List.set_cons_zero, List.set_cons_succ])
      (refine wpAnyH_take (i := 13) (v := ?_) (by (simp only [List.getElem?_toArray, List.getElem?_cons_succ, List.getElem?_cons_zero]; rfl)) (by kernel_rfl) (by kernel_rfl) (by kernel_rfl) (by exact fun _ _ _ h => h) (Or.inl ⟨by rfl, ?_⟩) (by assumption) ?_; (rotate_left 1; (intro w hSw; (try dsimp only at hSw); go_simp); (try with_reducible rfl)); (try simp only [Act.put, List.setIfInBounds_toArray, List.set_cons_zero, List.set_cons_succ]))
      (refine wpAnyH_take (i := 14) (v := ?_) (by (simp only [List.getElem?_toArray, List.getElem?_cons_succ, List.getElem?_cons_zero]; rfl)) (by kernel_rfl) (by kernel_rfl) (by kernel_rfl) (by exact fun _ _ _ h => h) (Or.inl ⟨by rfl, ?_⟩) (by assumption) ?_; (rotate_left 1; (intro w hSw; (try dsimp only at hSw); go_simp); (try with_reducible rfl)); (try simp only [Act.put, List.setIfInBounds_toArray, List.set_cons_zero, List.set_cons_succ]))
      refine wpAnyH_done (by kernel_rfl) ?_ _
      obtain ⟨wz, hwz⟩ : ∃ W, W = (wc.setCell ⟨bj, 0, none⟩ (.int .i64 b1)).setCell ⟨bj, 1, none⟩ (.int .i64 b2) := ⟨_, rfl⟩
      rw [← hwz] at hgd kb ⊢
      clear hwz hHeld
      have hh := hhD.stream hgd hgw
      have kh := khD.stream hgd hgh
      have ka := kaD.stream hgd hga
      have hx := hxD.grown hgd hxz (fun k hk => by injection hk with hk; omega)
      clear hgd hgsz hbd hbg
      obtain ⟨q0, q1⟩ := kh.two_
      have qz := kh.lt
      go_wp2_with fail
      refine (Chance_full SA TA c' d' w0.heap.size 864000000 segs atts _ hh hc HO.out (by omega) n4 hm HF.out).mono ?_
      rintro e wy ⟨rfl, hb⟩
      rw [good_sure HO.out n4 HSH.out, (fr_one HAN.out.1).1, (fr_one HAN.out.1).2]
      have ka := ka.below hb
      have kb := kb.below hb
      have hx := below_up hx hb
      clear hb q0 q1 qz hh kh
      obtain ⟨a0, a0'⟩ := ka.two_
      have az := ka.lt
      obtain ⟨b0, b0'⟩ := kb.two_
      have bz := kb.lt
      have hp1 : 0 ≤ a1 * b2 ∧ a1 * b2 ≤ 2401 * 2401 := ⟨Int.mul_nonneg ha0 hbb4, Int.mul_le_mul ha1 hbb2 hbb4 (by omega)⟩
      have hp2 : 0 ≤ b1 * a2 ∧ b1 * a2 ≤ 2401 * 2401 := ⟨Int.mul_nonneg hbb3 ha2, Int.mul_le_mul hbb1 ha3 ha2 (by omega)⟩
      have w1 : IntKind.i64.wrap (a1 * b2) = a1 * b2 := IntWalk.i64_in _ (by omega)
      have w2 : IntKind.i64.wrap (b1 * a2) = b1 * a2 := IntWalk.i64_in _ (by omega)
      have dle : decide (a1 * b2 ≤ b1 * a2) = true := by simpa using hle
      clear hp1 hp2 hle
      go_wp2_with fail
      refine (ready_any _).mono ?_
      rintro e w9 ⟨rfl, hb⟩
      go_wp2_with fail
      go_ret
      exact ⟨rfl, below_up (by repeat (first | exact hx | refine Below.alloc ?_ (by first | omega | (simp; omega) | simp) _ | refine below_drewN' ?_ _ | refine Below.drew ?_)) hb⟩
end Go.Proofs.YtapjahbflhingaaGreatDoor
