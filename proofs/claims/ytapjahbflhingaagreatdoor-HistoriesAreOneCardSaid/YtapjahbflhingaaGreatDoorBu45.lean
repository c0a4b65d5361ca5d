/- Texts of this seat, laid together: LawHistoriesAreOne. -/
import Derived.Test.YtapjahbflhingaaGreatDoorBu29
import Derived.Test.YtapjahbflhingaaGreatDoorBu31
import Derived.Test.YtapjahbflhingaaGreatDoorBu33
import Derived.Test.YtapjahbflhingaaGreatDoorBu25
import Derived.Test.YtapjahbflhingaaGreatDoorBu44
/- For every list of numbers the law HistoriesAreOne returns true and leaves the list as it was: its walk. -/
namespace Go.Proofs.YtapjahbflhingaaGreatDoor
set_option linter.unusedVariables false
set_option linter.unusedSimpArgs false
open Go.RowKit Go.Sort

def MergeOne (w : World) (segs : List (List UInt8)) (atts : List Att) (e : Ending) (w' : World) : Prop :=
  ∃ (SA TA : Option Addr) (c d : Nat), e = .returned (.tuple #[.agg #[.slice SA segs.length c, .slice TA atts.length d], .int .i64 0]) ∧ Hist w' w.heap.size SA TA segs atts ∧ segs.length ≤ c ∧ Below w.heap.size w w'
theorem Merge_one (SA TA SB TB : Option Addr) (c d c' d' lo lo' : Nat) (segs : List (List UInt8)) (atts us bs : List Att) (w : World) (hA : Hist w lo SA TA segs us) (hB : Hist w lo' SB TB segs bs) (hc : segs.length ≤ c) (hc' : segs.length ≤ c') (ok : HistOk segs atts) (hp : Parts atts us bs) :
    Calls Tryz.prog 26 #[.agg #[.slice SA segs.length c, .slice TA us.length d], .agg #[.slice SB segs.length c', .slice TB bs.length d']] w (MergeOne w segs atts) := by
  have hup := up_lt ok.up
  refine (Merge_ok SA TA SB TB c d c' d' lo lo' segs us bs w hA hB hc hc' (ok_part ok hp.1) (ok_part ok hp.2.1) (parts_no hup hp.1 hp.2.1) (by rw [(parts_perm hup hp.1 hp.2.1 hp.2.2).length_eq]; exact ok.m)).mono ?_
  rintro e w' ⟨S2, T2, c2, d2, zs, rfl, ho, hpm, hs, hb⟩
  have e1 := merge_parts hup hp.1 hp.2.1 hp.2.2 hpm hs
  have hh := ho.hist
  rw [e1] at hh
  have e2 : zs.length = atts.length := by rw [← attE_len, e1]
  rw [e2]
  exact ⟨S2, T2, c2, d2, rfl, hh, own_cap ho.1, hb⟩
theorem Blk.as {w : World} {g : Nat} {t : TypeId} {cs cs' : Array Value} (h : Blk w g t cs) (e : cs = cs') : Blk w g t cs' := e ▸ h
theorem Parts.swap {atts us vs : List Att} (h : Parts atts us vs) : Parts atts vs us := ⟨h.2.1, h.1, fun x hx => (h.2.2 x hx).symm⟩
set_option maxHeartbeats 8000000 in
set_option maxRecDepth 100000 in
theorem areone_walk (A : Option Addr) (n c : Nat) (w : World) (hn : n ≤ 9223372036854775807)
    (hz : ∀ k, k < n → ∃ b off z, A = some ⟨b, off, none⟩ ∧ b < w.heap.size ∧ w.cell? ⟨b, off + k, none⟩ = some (.int .i64 z) ∧ I64 z) :
    LawCall 5 A n c w := by
  have hstr := str_make (c := c) hn hz
  clear hz
  have hb0 : Below w.heap.size w (w.alloc (.cells #[.slice A n c, .int .i64 0] 25)) := (Below.refl _ _).alloc (Nat.le_refl _) _
  have hz0 : (w.alloc (.cells #[.slice A n c, .int .i64 0] 25)).heap.size = w.heap.size + 1 := by simp
  go_enter Tryz.func5, Tryz.ntmps5
  go_wp2_with fail
  generalize w.alloc (.cells #[.slice A n c, .int .i64 0] 25) = w0 at *
  have HZ0 := Lib.hid hz0
  clear hz0
  have hgw : w.heap.size < w0.heap.size := by have := HZ0.out; omega
  refine (rightHistory_any w.heap.size 0 _ hstr (by omega)).mono ?_
  rintro e w2 ⟨SA, TA, c', d', segs, atts, rfl, hh, hc, n4, hm, hl, hok, hs1, hg1⟩
  have HO := Lib.hid hok
  have n1 := hok.n1
  clear hok hl
  have hzz := hg1.size
  have hgr := hg1
  have HS : Hid (∀ s ∈ segs, s.length ≤ 40) := Lib.hid (fun s hs => by
    obtain ⟨i, hi, rfl⟩ := List.mem_iff_getElem.1 hs
    have := HO.out.key i hi
    unfold keyB at this
    simp only [Bool.and_eq_true, decide_eq_true_eq] at this
    omega)
  go_wp2_with fail
  have kh : Blk (w2.alloc (.cells #[.slice SA segs.length c', .slice TA atts.length d'] 29)) w2.heap.size 29 #[.slice SA segs.length c', .slice TA atts.length d'] := Blk.new _ _ _
  have hh := hh.alloc (.cells #[.slice SA segs.length c', .slice TA atts.length d'] 29)
  have hs1 := hs1.alloc (.cells #[.slice SA segs.length c', .slice TA atts.length d'] 29)
  have hgr := grown_alloc hgr (.cells #[.slice SA segs.length c', .slice TA atts.length d'] 29)
  have hzh : w2.heap.size + 1 = (w2.alloc (.cells #[.slice SA segs.length c', .slice TA atts.length d'] 29)).heap.size := by simp
  generalize w2.alloc (.cells #[.slice SA segs.length c', .slice TA atts.length d'] 29) = w3 at *
  generalize w2.heap.size = bh at *
  obtain ⟨q0, q1⟩ := kh.two_
  have qz := kh.lt
  clear hg1
  refine (half_any w.heap.size _ w0.heap.size SA TA c' d' segs atts _ hs1 (by omega) hh hgw (by omega) (by omega) (by omega)).mono ?_
  rintro e w4 ⟨S1, T1, S2, T2, c1, d1, c2, d2, us, vs, rfl, h1, h2, hP, hc1, hc2, hs4, hg4⟩
  have hh := hh.stream hg4 hgw
  have kh := kh.stream hg4 (by omega)
  have hgr := grown_trans' hgr hg4
  have HP := Lib.hid hP
  have hx : Below w.heap.size w w4 := hb0.grown hgr (by omega) (fun k hk => by injection hk with hk; omega)
  clear hP hs1 hs4 hg4 hgr hb0 hstr q0 q1 qz hzh HZ0
  obtain ⟨q0, q1⟩ := kh.two_
  have qz := kh.lt
  go_wp2_with fail
  have ka : Blk ((w4.alloc (.cells #[.slice S1 segs.length c1, .slice T1 us.length d1] 29)).alloc (.cells #[.slice S2 segs.length c2, .slice T2 vs.length d2] 29)) w4.heap.size 29 #[.slice S1 segs.length c1, .slice T1 us.length d1] := (Blk.new _ _ _).alloc _
  have kb : Blk ((w4.alloc (.cells #[.slice S1 segs.length c1, .slice T1 us.length d1] 29)).alloc (.cells #[.slice S2 segs.length c2, .slice T2 vs.length d2] 29)) (w4.heap.size + 1) 29 #[.slice S2 segs.length c2, .slice T2 vs.length d2] := by
    have := Blk.new (w4.alloc (.cells #[.slice S1 segs.length c1, .slice T1 us.length d1] 29)) 29 #[.slice S2 segs.length c2, .slice T2 vs.length d2]
    simpa using this
  have hh := (hh.alloc (.cells #[.slice S1 segs.length c1, .slice T1 us.length d1] 29)).alloc (.cells #[.slice S2 segs.length c2, .slice T2 vs.length d2] 29)
  have h1 := (h1.alloc (.cells #[.slice S1 segs.length c1, .slice T1 us.length d1] 29)).alloc (.cells #[.slice S2 segs.length c2, .slice T2 vs.length d2] 29)
  have h2 := (h2.alloc (.cells #[.slice S1 segs.length c1, .slice T1 us.length d1] 29)).alloc (.cells #[.slice S2 segs.length c2, .slice T2 vs.length d2] 29)
  have kh := (kh.alloc (.cells #[.slice S1 segs.length c1, .slice T1 us.length d1] 29)).alloc (.cells #[.slice S2 segs.length c2, .slice T2 vs.length d2] 29)
  have hx : Below w.heap.size w ((w4.alloc (.cells #[.slice S1 segs.length c1, .slice T1 us.length d1] 29)).alloc (.cells #[.slice S2 segs.length c2, .slice T2 vs.length d2] 29)) := Below.alloc (Below.alloc hx hx.size _) (by have := hx.size; simp; omega) _
  generalize (w4.alloc (.cells #[.slice S1 segs.length c1, .slice T1 us.length d1] 29)).alloc (.cells #[.slice S2 segs.length c2, .slice T2 vs.length d2] 29) = w5 at *
  generalize w4.heap.size = ba at *
  clear q0 q1 qz
  refine (Merge_one S1 T1 S2 T2 c1 d1 c2 d2 _ _ segs atts us vs _ h1 h2 hc1 hc2 HO.out HP.out).mono ?_
  rintro e w6 ⟨S3, T3, c3, d3, rfl, h3, hc3, hb⟩
  have hh := hh.below hb
  have h1 := h1.below hb
  have h2 := h2.below hb
  have kh := kh.below hb
  have ka := ka.below hb
  have kb := kb.below hb
  have hx := below_up hx hb
  clear hb
  obtain ⟨p00, p01⟩ := ka.two_
  have pz0 := ka.lt
  obtain ⟨p10, p11⟩ := kb.two_
  have pz1 := kb.lt
  obtain ⟨p20, p21⟩ := kh.two_
  have pz2 := kh.lt
  go_wp2_with fail
  clear p00 p01 pz0 p10 p11 pz1 p20 p21 pz2
  have kx : Blk (w6.alloc (.cells #[.slice S3 segs.length c3, .slice T3 atts.length d3] 29)) w6.heap.size 29 #[.slice S3 segs.length c3, .slice T3 atts.length d3] := Blk.new _ _ _
  have hh := hh.alloc (.cells #[.slice S3 segs.length c3, .slice T3 atts.length d3] 29)
  have h1 := h1.alloc (.cells #[.slice S3 segs.length c3, .slice T3 atts.length d3] 29)
  have h2 := h2.alloc (.cells #[.slice S3 segs.length c3, .slice T3 atts.length d3] 29)
  have h3 := h3.alloc (.cells #[.slice S3 segs.length c3, .slice T3 atts.length d3] 29)
  have kh := kh.alloc (.cells #[.slice S3 segs.length c3, .slice T3 atts.length d3] 29)
  have ka := ka.alloc (.cells #[.slice S3 segs.length c3, .slice T3 atts.length d3] 29)
  have kb := kb.alloc (.cells #[.slice S3 segs.length c3, .slice T3 atts.length d3] 29)
  have hx : Below w.heap.size w (w6.alloc (.cells #[.slice S3 segs.length c3, .slice T3 atts.length d3] 29)) := Below.alloc hx hx.size _
  generalize w6.alloc (.cells #[.slice S3 segs.length c3, .slice T3 atts.length d3] 29) = w7 at *
  generalize hbx9 : w6.heap.size = bx at *
  refine (Merge_one S2 T2 S1 T1 c2 d2 c1 d1 _ _ segs atts vs us _ h2 h1 hc2 hc1 HO.out HP.out.swap).mono ?_
  rintro e w8 ⟨S4, T4, c4, d4, rfl, h4, hc4, hb⟩
  have hh := hh.below hb
  have h3 := h3.below hb
  have kh := kh.below hb
  have kx := kx.below hb
  have hx := below_up hx hb
  clear hb
  obtain ⟨p00, p01⟩ := kx.two_
  have pz0 := kx.lt
  obtain ⟨p10, p11⟩ := kh.two_
  have pz1 := kh.lt
  clear h1 h2 ka kb
  go_wp2_with fail
  clear p00 p01 pz0 p10 p11 pz1
  have ky : Blk (w8.alloc (.cells #[.slice S4 segs.length c4, .slice T4 atts.length d4] 29)) w8.heap.size 29 #[.slice S4 segs.length c4, .slice T4 atts.length d4] := Blk.new _ _ _
  have hh := hh.alloc (.cells #[.slice S4 segs.length c4, .slice T4 atts.length d4] 29)
  have h3 := h3.alloc (.cells #[.slice S4 segs.length c4, .slice T4 atts.length d4] 29)
  have h4 := h4.alloc (.cells #[.slice S4 segs.length c4, .slice T4 atts.length d4] 29)
  have kh := kh.alloc (.cells #[.slice S4 segs.length c4, .slice T4 atts.length d4] 29)
  have kx := kx.alloc (.cells #[.slice S4 segs.length c4, .slice T4 atts.length d4] 29)
  have hx : Below w.heap.size w (w8.alloc (.cells #[.slice S4 segs.length c4, .slice T4 atts.length d4] 29)) := Below.alloc hx hx.size _
  generalize w8.alloc (.cells #[.slice S4 segs.length c4, .slice T4 atts.length d4] 29) = w9 at *
  generalize w8.heap.size = by9 at *
  have HL := Lib.hid (fun i (h : i < atts.length) => Nat.le_trans (HO.out.spl i h).len (show segs.length ≤ 1000000000 by omega))
  refine (sameHistory_any S3 T3 S4 T4 c3 d3 c4 d4 _ _ segs segs atts atts _ h3 h4 (by omega) (by omega) (by omega) (by omega) HL.out HL.out).mono ?_
  rintro e w10 ⟨rfl, hb⟩
  rw [decide_eq_true (⟨rfl, rfl⟩ : segs = segs ∧ atts = atts)]
  have hh := hh.below hb
  have h3 := h3.below hb
  have kh := kh.below hb
  have kx := kx.below hb
  have hx := below_up hx hb
  clear hb
  obtain ⟨p00, p01⟩ := kx.two_
  have pz0 := kx.lt
  obtain ⟨p10, p11⟩ := kh.two_
  have pz1 := kh.lt
  clear h4 ky
  go_wp2_with fail
  refine (sameHistory_any S3 T3 SA TA c3 d3 c' d' _ _ segs segs atts atts _ h3 hh (by omega) (by omega) (by omega) (by omega) HL.out HL.out).mono ?_
  rintro e w11 ⟨rfl, hb⟩
  rw [decide_eq_true (⟨rfl, rfl⟩ : segs = segs ∧ atts = atts)]
  clear p00 p01 pz0 p10 p11 pz1
  have hh := hh.below hb
  have kh := kh.below hb
  have hx := below_up hx hb
  clear hb
  obtain ⟨p00, p01⟩ := kh.two_
  have pz0 := kh.lt
  clear h3 kx
  by_cases h2s : segs.length < 2
  · have d9 : decide ((segs.length : Int) < 2) = true := by simp; omega
    go_wp2_with fail
    refine (ready_any _).mono ?_
    rintro e w12 ⟨rfl, hb⟩
    go_wp2_with fail
    go_ret
    exact ⟨rfl, below_up hx hb⟩
  · have d9 : decide ((segs.length : Int) < 2) = false := by simp; omega
    obtain ⟨sb, so, rfl, _, sz, s0⟩ := hh.1.str_at (k := 0) (by omega)
    have HJ := Lib.hid (fun (W : World) (hW : Hist W w0.heap.size (some ⟨sb, so, none⟩) TA segs atts) => Join_ok (some ⟨sb, so, none⟩) TA c' d' w0.heap.size 0 segs atts W hW hc HO.out (by omega))
    have HJO := Lib.hid (ok_join HO.out (k := 0) (by omega))
    have HJB := Lib.hid (best_join HO.out (by omega))
    have HE : Hid ((segs.eraseIdx 0).length = segs.length - 1) := Lib.hid (by rw [List.length_eraseIdx, if_pos (by omega)])
    have HKJ : Hid (∀ s ∈ segs.eraseIdx 0, s.length ≤ 40) := Lib.hid (fun s hs => HS.out s ((List.eraseIdx_sublist segs 0).subset hs))
    unfold encStr at s0 HJ
    generalize segs.eraseIdx 0 = sj at *
    generalize joinL 0 atts = aj at *
    generalize (segs[0]'(by omega)) = z at *
    rw [Nat.add_zero] at s0
    have h0s : 0 < segs.length := by omega
    go_upto_region 10 with (fail)
    have khD := kh.drew
    have hhD := hh.below (Below.refl w11.heap.size w11).drew
    have hxD := hx.drew
    have s0D : w11.drew.cell? ⟨sb, so, none⟩ = some (.string ⟨z.toArray⟩) := s0
    have szD : sb < w11.drew.heap.size := sz
    have zhD := khD.lt
    clear kh hh hx s0 sz p00 p01 pz0
    refine wp_region_held_drew (S := (fun w' => (w'.cell? ⟨bh, 0, none⟩ = some (.slice (some ⟨sb, so, none⟩) segs.length c') ∧ w'.cell? ⟨bh, 1, none⟩ = some (.slice TA atts.length d')) ∧ w'.cell? ⟨sb, so, none⟩ = some (.string ⟨z.toArray⟩))) (by kernel_rfl) (⟨khD.two_, s0D⟩) (fun hHeld => ?_)
    generalize w11.drew = wd at *
    have hxd := Below.refl wd.heap.size wd
    (refine wpAnyH_take (i := 0) (v := ?_) (by (simp only [List.getElem?_toArray, List.getElem?_cons_zero]; rfl)) (by kernel_rfl) (by kernel_rfl) (by kernel_rfl) (by exact fun _ _ _ h => h) (Or.inl ⟨by rfl, ?_⟩) (by assumption) ?_; (rotate_left 1; (intro w hSw; (try dsimp only at hSw); go_simp); (try with_reducible rfl)); (try simp only [Act.put, List.setIfInBounds_toArray, List.set_cons_zero, List.set_cons_succ]))
    (refine wpAnyH_take (i := 1) (v := ?_) (by (simp only [List.getElem?_toArray, List.getElem?_cons_succ, List.getElem?_cons_zero]; rfl)) (by kernel_rfl) (by kernel_rfl) (by kernel_rfl) (by exact fun _ _ _ h => h) (Or.inl ⟨by rfl, ?_⟩) (by assumption) ?_; (rotate_left 1; (intro w hSw; (try dsimp only at hSw); go_simp); (try with_reducible rfl)); (try simp only [Act.put, List.setIfInBounds_toArray, List.set_cons_zero, List.set_cons_succ]))
    (refine wpAnyH_take (i := 2) (v := ?_) (by (simp only [List.getElem?_toArray, List.getElem?_cons_succ, List.getElem?_cons_zero]; rfl)) (by kernel_rfl) (by kernel_rfl) (by kernel_rfl) (by exact fun _ _ _ h => h) (Or.inl ⟨by rfl, ?_⟩) (by assumption) ?_; (rotate_left 1; (intro w hSw; (try dsimp only at hSw); go_simp); (try with_reducible rfl)); (try simp only [Act.put, List.setIfInBounds_toArray, List.set_cons_zero, List.set_cons_succ]))
    (refine wpAnyH_take (i := 3) (v := ?_) (by (simp only [List.getElem?_toArray, List.getElem?_cons_succ, List.getElem?_cons_zero]; rfl)) (by kernel_rfl) (by kernel_rfl) (by kernel_rfl) (by exact fun _ _ _ h => h) (Or.inl ⟨by rfl, ?_⟩) (by assumption) ?_; (rotate_left 1; (intro w hSw; (try dsimp only at hSw); go_simp); (try with_reducible rfl)); (try simp only [Act.put, List.setIfInBounds_toArray, List.set_cons_zero, List.set_cons_succ]))
    (refine wpAnyH_take (i := 4) (v := ?_) (by (simp only [List.getElem?_toArray, List.getElem?_cons_succ, List.getElem?_cons_zero]; rfl)) (by kernel_rfl) (by kernel_rfl) (by kernel_rfl) (by exact fun _ _ _ h => h) (Or.inl ⟨by rfl, ?_⟩) (by assumption) ?_; (rotate_left 1; (intro w hSw; (try dsimp only at hSw); go_simp); (try with_reducible rfl)); (try simp only [Act.put, List.setIfInBounds_toArray, List.set_cons_zero, List.set_cons_succ]))
    refine wpAnyH_ready (rs := [5, 9]) (by kernel_rfl) (by simp) ?_
    refine AllReadyH.cons rfl (fun K hK => ?_) (AllReadyH.cons rfl (fun K hK => ?_) AllReadyH.nil)
    case refine_1 =>
      go_simp
      go_at_call 28
      refine (HJ.out _ (hhD.below hxd)).mono ?_
      rintro e w12 ⟨S5, T5, c5, d5, zj, rfl, hoj, ej, hb, hcj⟩
      have hj := hoj.hist
      rw [ej] at hj
      rw [show zj.length = aj.length by rw [← attE_len, ej]]
      have hy := Below.refl w12.heap.size w12
      have hxd := below_up hxd hb
      clear hb
      go_wp2_with fail
      refine hK.out _ _ (⟨(khD.below hxd).two_, (hxd.cell szD).trans s0D⟩) (fun hHeld => ?_)
      clear hK K
      (try simp only [Act.put, List.setIfInBounds_toArray, List.set_cons_zero, List.set_cons_succ])
      (refine wpAnyH_take (i := 6) (v := ?_) (by (simp only [List.getElem?_toArray, List.getElem?_cons_succ, List.getElem?_cons_zero]; rfl)) (by kernel_rfl) (by kernel_rfl) (by kernel_rfl) (by exact fun _ _ _ h => h) (Or.inl ⟨by rfl, ?_⟩) (by assumption) ?_; (rotate_left 1; (intro w hSw; (try dsimp only at hSw); go_simp); (try with_reducible rfl)); (try simp only [Act.put, List.setIfInBounds_toArray, List.set_cons_zero, List.set_cons_succ]))
      (refine wpAnyH_take (i := 7) (v := ?_) (by (simp only [List.getElem?_toArray, List.getElem?_cons_succ, List.getElem?_cons_zero]; rfl)) (by kernel_rfl) (by kernel_rfl) (by kernel_rfl) (by exact fun _ _ _ h => h) (Or.inl ⟨by rfl, ?_⟩) (by assumption) ?_; (rotate_left 1; (intro w hSw; (try dsimp only at hSw); go_simp); (try with_reducible rfl)); (try simp only [Act.put, List.setIfInBounds_toArray, List.set_cons_zero, List.set_cons_succ]))
      (refine wpAnyH_take (i := 8) (v := ?_) (by (simp only [List.getElem?_toArray, List.getElem?_cons_succ, List.getElem?_cons_zero]; rfl)) (by kernel_rfl) (by kernel_rfl) (by kernel_rfl) (by exact fun _ _ _ h => h) (Or.inl ⟨by rfl, ?_⟩) (by assumption) ?_; (rotate_left 1; (intro w hSw; (try dsimp only at hSw); go_simp); (try with_reducible rfl)); (try simp only [Act.put, List.setIfInBounds_toArray, List.set_cons_zero, List.set_cons_succ]))
      refine wpAnyH_ready (rs := [9]) (by kernel_rfl) (by simp) ?_
      refine AllReadyH.cons rfl (fun K hK => ?_) AllReadyH.nil
      go_simp
      obtain ⟨bj, hbj⟩ : ∃ b, b = w12.heap.size := ⟨_, rfl⟩
      have kj : Blk (w12.alloc (.cells #[.slice none 0 0, .slice none 0 0] 29)) bj 29 #[.slice none 0 0, .slice none 0 0] := by rw [hbj]; exact Blk.new _ _ _
      have hbd : wd.heap.size ≤ bj := by rw [hbj]; exact hxd.size
      have hy := Below.alloc hy hy.size (.cells #[.slice none 0 0, .slice none 0 0] 29)
      have hxd := Below.alloc hxd hxd.size (.cells #[.slice none 0 0, .slice none 0 0] 29)
      refine hK.out _ _ (⟨(khD.below hxd).two_, (hxd.cell szD).trans s0D⟩) (fun hHeld => ?_)
      clear hK K
      (try simp only [Act.put, List.setIfInBounds_toArray, List.set_cons_zero, List.set_cons_succ])
      refine wpAnyH_ready (rs := [10]) (by kernel_rfl) (by simp) ?_
      refine AllReadyH.cons rfl (fun K hK => ?_) AllReadyH.nil
      subst hbj
      generalize w12.alloc (.cells #[.slice none 0 0, .slice none 0 0] 29) = wk at *
      obtain ⟨r0, r1⟩ := kj.two_
      have rz := kj.lt
      have rf0 := kj.thaw 0
      have rf1 := kj.thaw 1
      go_simp
      clear r0 r1 rz rf0 rf1
      have hxd := Below.setCell (Below.setCell hxd (p := ⟨w12.heap.size, 0, none⟩) hbd (.slice S5 sj.length c5)) (p := ⟨w12.heap.size, 1, none⟩) hbd (.slice T5 aj.length d5)
      have hy := Below.setCell (Below.setCell hy (p := ⟨w12.heap.size, 0, none⟩) (Nat.le_refl _) (.slice S5 sj.length c5)) (p := ⟨w12.heap.size, 1, none⟩) (Nat.le_refl _) (.slice T5 aj.length d5)
      have hj := (hj.below hy).weak (Nat.zero_le _)
      have kj := ((kj.poke 0 (.slice S5 sj.length c5)).poke 1 (.slice T5 aj.length d5)).as (cs' := #[.slice S5 sj.length c5, .slice T5 aj.length d5]) (by simp)
      refine hK.out _ _ (⟨(khD.below hxd).two_, (hxd.cell szD).trans s0D⟩) (fun hHeld => ?_)
      clear hK K
      (try simp only [Act.put, List.setIfInBounds_toArray, List.set_cons_zero, List.set_cons_succ])
      (refine wpAnyH_take (i := 11) (v := ?_) (by (simp only [List.getElem?_toArray, List.getElem?_cons_succ, List.getElem?_cons_zero]; rfl)) (by kernel_rfl) (by kernel_rfl) (by kernel_rfl) (by exact fun _ _ _ h => h) (Or.inl ⟨by rfl, ?_⟩) (by assumption) ?_; (rotate_left 1; (intro w hSw; (try dsimp only at hSw); go_simp); (try with_reducible rfl)); (try simp only [Act.put, List.setIfInBounds_toArray, List.set_cons_zero, List.set_cons_succ]))
      refine wpAnyH_done (by kernel_rfl) ?_ _
      have hh := hhD.below hxd
      have kh := khD.below hxd
      have hx := below_up hxD hxd
      have hjl := HJO.out.m
      have hjn := HJO.out.n2
      have HJL := Lib.hid (fun i (h : i < aj.length) => Nat.le_trans (HJO.out.spl i h).len (show sj.length ≤ 1000000000 by omega))
      obtain ⟨hJ1, hJ2⟩ := HJB.out
      rw [← HE.out] at hJ1 hJ2
      have HJ1 := Lib.hid hJ1
      have HJ2 := Lib.hid hJ2
      clear hxD hxd hhD khD ej hoj hJ1 hJ2 hHeld
      obtain ⟨p00, p01⟩ := kj.two_
      have pz0 := kj.lt
      go_wp2_with fail
      refine (checkHistory_any S5 T5 c5 d5 _ sj aj _ hj hcj (by omega) (by omega) HJL.out (fun s hs => by have := HKJ.out s hs; omega)).mono ?_
      rintro e w13 ⟨rfl, hb⟩
      rw [histF_zero HJO.out]
      have hj := hj.below hb
      have hh := hh.below hb
      have kh := kh.below hb
      have kj := kj.below hb
      have hx := below_up hx hb
      clear hb p00 p01 pz0
      obtain ⟨p00, p01⟩ := kh.two_
      have pz0 := kh.lt
      go_wp2_with fail
      refine (Best_ok (some ⟨sb, so, none⟩) TA c' d' _ segs atts _ hh hc HO.out).mono ?_
      rintro e w14 ⟨rfl, hb⟩
      rw [HJ1.out, HJ2.out]
      have hj := hj.below hb
      have kj := kj.below hb
      have hx := below_up hx hb
      clear hb p00 p01 pz0
      obtain ⟨p00, p01⟩ := kj.two_
      have pz0 := kj.lt
      go_wp2_with fail
      refine (Best_ok S5 T5 c5 d5 _ sj aj _ hj hcj HJO.out).mono ?_
      rintro e w15 ⟨rfl, hb⟩
      have hx := below_up hx hb
      clear hb p00 p01 pz0
      generalize bT sj.length aj = bt at *
      generalize decide (0 ≤ bI sj.length aj aj.length) = bd at *
      generalize bN sj.length aj = bn at *
      generalize bN segs.length atts = bm at *
      have eb : (bd == bd) = true := by simp
      have et : (bt == bt) = true := by simp
      go_wp2_with fail
      refine (ready_any _).mono ?_
      rintro e w16 ⟨rfl, hb⟩
      go_wp2_with fail
      go_ret
      exact ⟨rfl, below_up hx hb⟩
    case refine_2 =>
      go_simp
      obtain ⟨bj, hbj⟩ : ∃ b, b = wd.heap.size := ⟨_, rfl⟩
      have kj : Blk (wd.alloc (.cells #[.slice none 0 0, .slice none 0 0] 29)) bj 29 #[.slice none 0 0, .slice none 0 0] := by rw [hbj]; exact Blk.new _ _ _
      have hbd : wd.heap.size ≤ bj := by rw [hbj]; exact hxd.size
      have hxd := Below.alloc hxd hxd.size (.cells #[.slice none 0 0, .slice none 0 0] 29)
      refine hK.out _ _ (⟨(khD.below hxd).two_, (hxd.cell szD).trans s0D⟩) (fun hHeld => ?_)
      clear hK K
      (try simp only [Act.put, List.setIfInBounds_toArray, List.set_cons_zero, List.set_cons_succ])
      refine wpAnyH_ready (rs := [5]) (by kernel_rfl) (by simp) ?_
      refine AllReadyH.cons rfl (fun K hK => ?_) AllReadyH.nil
      go_simp
      go_at_call 28
      refine (HJ.out _ (hhD.below hxd)).mono ?_
      rintro e w12 ⟨S5, T5, c5, d5, zj, rfl, hoj, ej, hb, hcj⟩
      have hj := hoj.hist
      rw [ej] at hj
      rw [show zj.length = aj.length by rw [← attE_len, ej]]
      have hy := Below.refl w12.heap.size w12
      have kj := kj.below hb
      have hbl : bj < (wd.alloc (.cells #[.slice none 0 0, .slice none 0 0] 29)).heap.size := by rw [hbj]; simp
      have hxd := below_up hxd hb
      clear hb
      go_wp2_with fail
      refine hK.out _ _ (⟨(khD.below hxd).two_, (hxd.cell szD).trans s0D⟩) (fun hHeld => ?_)
      clear hK K
      (try simp only [Act.put, List.setIfInBounds_toArray, List.set_cons_zero, List.set_cons_succ])
      (refine wpAnyH_take (i := 6) (v := ?_) (by (simp only [List.getElem?_toArray, List.getElem?_cons_succ, List.getElem?_cons_zero]; rfl)) (by kernel_rfl) (by kernel_rfl) (by kernel_rfl) (by exact fun _ _ _ h => h) (Or.inl ⟨by rfl, ?_⟩) (by assumption) ?_; (rotate_left 1; (intro w hSw; (try dsimp only at hSw); go_simp); (try with_reducible rfl)); (try simp only [Act.put, List.setIfInBounds_toArray, List.set_cons_zero, List.set_cons_succ]))
      (refine wpAnyH_take (i := 7) (v := ?_) (by (simp only [List.getElem?_toArray, List.getElem?_cons_succ, List.getElem?_cons_zero]; rfl)) (by kernel_rfl) (by kernel_rfl) (by kernel_rfl) (by exact fun _ _ _ h => h) (Or.inl ⟨by rfl, ?_⟩) (by assumption) ?_; (rotate_left 1; (intro w hSw; (try dsimp only at hSw); go_simp); (try with_reducible rfl)); (try simp only [Act.put, List.setIfInBounds_toArray, List.set_cons_zero, List.set_cons_succ]))
      (refine wpAnyH_take (i := 8) (v := ?_) (by (simp only [List.getElem?_toArray, List.getElem?_cons_succ, List.getElem?_cons_zero]; rfl)) (by kernel_rfl) (by kernel_rfl) (by kernel_rfl) (by exact fun _ _ _ h => h) (Or.inl ⟨by rfl, ?_⟩) (by assumption) ?_; (rotate_left 1; (intro w hSw; (try dsimp only at hSw); go_simp); (try with_reducible rfl)); (try simp only [Act.put, List.setIfInBounds_toArray, List.set_cons_zero, List.set_cons_succ]))
      refine wpAnyH_ready (rs := [10]) (by kernel_rfl) (by simp) ?_
      refine AllReadyH.cons rfl (fun K hK => ?_) AllReadyH.nil
      subst hbj
      obtain ⟨r0, r1⟩ := kj.two_
      have rz := kj.lt
      have rf0 := kj.thaw 0
      have rf1 := kj.thaw 1
      go_simp
      clear r0 r1 rz rf0 rf1
      have hxd := Below.setCell (Below.setCell hxd (p := ⟨wd.heap.size, 0, none⟩) hbd (.slice S5 sj.length c5)) (p := ⟨wd.heap.size, 1, none⟩) hbd (.slice T5 aj.length d5)
      have hj := (hj.stream (grown_set (grown_set (World.grownBy.refl w12 (some wd.heap.size)) 0 (.slice S5 sj.length c5)) 1 (.slice T5 aj.length d5)) hbl).weak (Nat.zero_le _)
      have kj := ((kj.poke 0 (.slice S5 sj.length c5)).poke 1 (.slice T5 aj.length d5)).as (cs' := #[.slice S5 sj.length c5, .slice T5 aj.length d5]) (by simp)
      refine hK.out _ _ (⟨(khD.below hxd).two_, (hxd.cell szD).trans s0D⟩) (fun hHeld => ?_)
      clear hK K
      (try simp only [Act.put, List.setIfInBounds_toArray, List.set_cons_zero, List.set_cons_succ])
      (refine wpAnyH_take (i := 11) (v := ?_) (by (simp only [List.getElem?_toArray, List.getElem?_cons_succ, List.getElem?_cons_zero]; rfl)) (by kernel_rfl) (by kernel_rfl) (by kernel_rfl) (by exact fun _ _ _ h => h) (Or.inl ⟨by rfl, ?_⟩) (by assumption) ?_; (rotate_left 1; (intro w hSw; (try dsimp only at hSw); go_simp); (try with_reducible rfl)); (try simp only [Act.put, List.setIfInBounds_toArray, List.set_cons_zero, List.set_cons_succ]))
      refine wpAnyH_done (by kernel_rfl) ?_ _
      have hh := hhD.below hxd
      have kh := khD.below hxd
      have hx := below_up hxD hxd
      have hjl := HJO.out.m
      have hjn := HJO.out.n2
      have HJL := Lib.hid (fun i (h : i < aj.length) => Nat.le_trans (HJO.out.spl i h).len (show sj.length ≤ 1000000000 by omega))
      obtain ⟨hJ1, hJ2⟩ := HJB.out
      rw [← HE.out] at hJ1 hJ2
      have HJ1 := Lib.hid hJ1
      have HJ2 := Lib.hid hJ2
      clear hxD hxd hhD khD ej hoj hJ1 hJ2 hHeld
      obtain ⟨p00, p01⟩ := kj.two_
      have pz0 := kj.lt
      go_wp2_with fail
      refine (checkHistory_any S5 T5 c5 d5 _ sj aj _ hj hcj (by omega) (by omega) HJL.out (fun s hs => by have := HKJ.out s hs; omega)).mono ?_
      rintro e w13 ⟨rfl, hb⟩
      rw [histF_zero HJO.out]
      have hj := hj.below hb
      have hh := hh.below hb
      have kh := kh.below hb
      have kj := kj.below hb
      have hx := below_up hx hb
      clear hb p00 p01 pz0
      obtain ⟨p00, p01⟩ := kh.two_
      have pz0 := kh.lt
      go_wp2_with fail
      refine (Best_ok (some ⟨sb, so, none⟩) TA c' d' _ segs atts _ hh hc HO.out).mono ?_
      rintro e w14 ⟨rfl, hb⟩
      rw [HJ1.out, HJ2.out]
      have hj := hj.below hb
      have kj := kj.below hb
      have hx := below_up hx hb
      clear hb p00 p01 pz0
      obtain ⟨p00, p01⟩ := kj.two_
      have pz0 := kj.lt
      go_wp2_with fail
      refine (Best_ok S5 T5 c5 d5 _ sj aj _ hj hcj HJO.out).mono ?_
      rintro e w15 ⟨rfl, hb⟩
      have hx := below_up hx hb
      clear hb p00 p01 pz0
      generalize bT sj.length aj = bt at *
      generalize decide (0 ≤ bI sj.length aj aj.length) = bd at *
      generalize bN sj.length aj = bn at *
      generalize bN segs.length atts = bm at *
      have eb : (bd == bd) = true := by simp
      have et : (bt == bt) = true := by simp
      go_wp2_with fail
      refine (ready_any _).mono ?_
      rintro e w16 ⟨rfl, hb⟩
      go_wp2_with fail
      go_ret
      exact ⟨rfl, below_up hx hb⟩
end Go.Proofs.YtapjahbflhingaaGreatDoor
