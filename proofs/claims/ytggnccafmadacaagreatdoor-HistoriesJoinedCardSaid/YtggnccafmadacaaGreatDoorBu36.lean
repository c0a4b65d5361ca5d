/- Texts of this seat, laid together: MgD Jo Jb. -/
import Derived.Test.YtggnccafmadacaaGreatDoorBu26
import Derived.Test.YtggnccafmadacaaGreatDoorBu35
import Derived.Test.YtggnccafmadacaaGreatDoorBu12
import Derived.Test.YtggnccafmadacaaGreatDoorBu27
/- The walk of segment.Join at a right history and one of its segments, not the last. -/
namespace Go.Proofs.YtggnccafmadacaaGreatDoor
set_option linter.unusedVariables false
set_option linter.unusedSimpArgs false
open Go.RowKit Go.Sort

theorem own_take {w : World} {base : Nat} {e : TypeId} {A : Option Addr} {c n m : Nat} {xs : List Value} (h : w.ownsRow base e 1 (.slice A n c) n xs) (hm : m ≤ n) : w.ownsRow base e 1 (.slice A m c) m (xs.take m) := by
  have hl := h.1
  refine ⟨by simp; omega, ?_⟩
  rcases h.2 with ⟨h0, hn⟩ | ⟨g, cap, cur, hv, hg, hh, hcap, hmx, hcs, ht⟩
  · injection h0 with h1 h2 h3
    subst h1 h3
    have : m = 0 := by omega
    subst this
    exact .inl ⟨rfl, rfl⟩
  · injection hv with h1 h2 h3
    subst h1 h3
    refine .inr ⟨g, c, cur, rfl, hg, hh, by omega, hmx, hcs, ?_⟩
    rw [← ht, List.take_take, Nat.mul_one, Nat.mul_one, Nat.min_eq_left hm]
theorem ints_take (l : List Int) (m : Nat) : (ints l).take m = ints (l.take m) := by simp [ints, List.map_take]
def JoinPost (w : World) (segs : List (List UInt8)) (ys : List Att) (e : Ending) (w' : World) : Prop :=
  ∃ (SA TA : Option Addr) (c d : Nat) (zs : List AttE), e = .returned (.tuple #[.agg #[.slice SA segs.length c, .slice TA zs.length d], .int .i64 0]) ∧ OHist w' w.heap.size SA c TA d segs zs ∧ attE zs = ys ∧ Below w.heap.size w w' ∧ segs.length ≤ c
theorem idx_nodup {ss : List (List UInt8)} (hn : ss.Nodup) {k : Nat} (hk : k < ss.length) {r : Int} (h : IdxS ss ss[k] r) : r = k := by
  rcases h with ⟨_, h⟩ | ⟨j, hj, rfl, e, _⟩
  · exact absurd (List.getElem_mem hk) h
  · rcases Nat.lt_trichotomy j k with h1 | h1 | h1
    · exact absurd e ((List.pairwise_iff_getElem.1 hn) j k hj hk h1)
    · rw [h1]
    · exact absurd e.symm ((List.pairwise_iff_getElem.1 hn) k j hk hj h1)
set_option maxHeartbeats 8000000 in
set_option maxRecDepth 100000 in
theorem Join_ok (SA TA : Option Addr) (c d lo k : Nat) (segs : List (List UInt8)) (atts : List Att) (w : World) (hh : Hist w lo SA TA segs atts) (hc : segs.length ≤ c) (hok : HistOk segs atts) (hk : k + 1 < segs.length) :
    Calls Tryz.prog 33 #[.agg #[.slice SA segs.length c, .slice TA atts.length d], encStr (segs[k]'(by omega))] w (JoinPost w (segs.eraseIdx k) (joinL k atts)) := by
  have n2 := hok.n2
  have n1 := hok.n1
  have m := hok.m
  have HO := Lib.hid hok
  have KEY : Hid (∀ s ∈ segs, s.length ≤ 40) := Lib.hid (fun s hs => by
    obtain ⟨i, hi, rfl⟩ := List.mem_iff_getElem.1 hs
    have := hok.key i hi
    unfold keyB at this
    simp only [Bool.and_eq_true, decide_eq_true_eq] at this
    omega)
  have HX := Lib.hid (fun (r : Int) (h : IdxS segs (segs[k]'(by omega)) r) => idx_nodup (new_nodup hok.new) (show k < segs.length by omega) h)
  clear hok
  obtain ⟨z, hz⟩ : ∃ z, z = segs[k]'(by omega) := ⟨_, rfl⟩
  rw [← hz] at HX ⊢
  clear hz
  have hI := Lib.hid (fun (W : World) (hr : Row W lo 1 SA segs.length (strs segs)) => (indexS_any SA c lo segs z W hr (by omega)))
  unfold encStr at hI ⊢
  have HHW := Lib.hid hh
  go_enter Tryz.func33, Tryz.ntmps33
  go_wp2_with fail
  have kA : Blk ((w.alloc (.cells #[.slice SA segs.length c, .slice TA atts.length d] 56)).alloc (.cells #[.slice none 0 0, .slice none 0 0] 56)) w.heap.size 56 #[.slice SA segs.length c, .slice TA atts.length d] := (Blk.new _ _ _).alloc _
  have kR : Blk ((w.alloc (.cells #[.slice SA segs.length c, .slice TA atts.length d] 56)).alloc (.cells #[.slice none 0 0, .slice none 0 0] 56)) (w.heap.size + 1) 56 #[.slice none 0 0, .slice none 0 0] := by
    have := Blk.new (w.alloc (.cells #[.slice SA segs.length c, .slice TA atts.length d] 56)) 56 #[.slice none 0 0, .slice none 0 0]
    simpa using this
  have hx : Below w.heap.size w ((w.alloc (.cells #[.slice SA segs.length c, .slice TA atts.length d] 56)).alloc (.cells #[.slice none 0 0, .slice none 0 0] 56)) := ((Below.refl _ _).alloc (Nat.le_refl _) _).alloc (by simp) _
  have hh := (hh.alloc (.cells #[.slice SA segs.length c, .slice TA atts.length d] 56)).alloc (.cells #[.slice none 0 0, .slice none 0 0] 56)
  generalize (w.alloc (.cells #[.slice SA segs.length c, .slice TA atts.length d] 56)).alloc (.cells #[.slice none 0 0, .slice none 0 0] 56) = w0 at *
  refine (checkHistory_any SA TA c d _ segs atts _ hh hc (by omega) (by omega) (fun i h => by have := (HO.out.spl i h).len; omega) (fun s hs => by have := KEY.out s hs; omega)).mono ?_
  rintro e w1 ⟨rfl, hb1⟩
  have hh := hh.below hb1
  have kA := kA.below hb1
  have kR := kR.below hb1
  have hx := below_up hx hb1
  rw [histF_zero HO.out]
  clear hb1
  obtain ⟨a0, a1⟩ := kA.two_
  have za := kA.lt
  go_wp2_with fail
  refine (hI.out _ hh.1).mono ?_
  rintro e w2 ⟨r, rfl, rfl, hr⟩
  have hr' := HX.out r hr
  subst hr'
  clear hr hI HX
  have e1 : decide ((k : Int) < 0) = false := by simp
  have wl : IntKind.i64.wrap ((segs.length : Int) - 1) = (segs.length : Int) - 1 := IntWalk.i64_in _ (by omega)
  have e2 : ((k : Int) == (segs.length : Int) - 1) = false := by simp; omega
  have wk : IntKind.i64.wrap ((k : Int) + 1) = (k : Int) + 1 := IntWalk.i64_in _ (by omega)
  go_wp2_with fail
  refine (cloneS_any SA c _ segs _ hh.1 (by omega)).mono ?_
  rintro e w3 ⟨S2, c2, rfl, hoS, hbs⟩
  have hh := hh.below hbs
  have kA := kA.below hbs
  have kR := kR.below hbs
  have hoS := own_weak hoS hx.size
  have hx := below_up hx hbs
  clear hbs a0 a1 za e1 e2 wl
  go_wp2_with fail
  refine (deleteS_any S2 c2 _ k segs _ hoS (by omega)).mono ?_
  rintro e w4 ⟨rfl, hoD, hgD⟩
  have hbw4 : Below w.heap.size w w4 := hx.grown hgD hx.size (fun j hj => (hoS.lt j hj).1)
  have hh4 := HHW.out.below hbw4
  have kA4 := kA.otherOf hgD (own_kindOf hoS) (by decide)
  have kR4 := kR.otherOf hgD (own_kindOf hoS) (by decide)
  have hcD := own_cap hoD
  have HEL : Hid ((segs.eraseIdx k).length = segs.length - 1) := Lib.hid (by rw [List.length_eraseIdx, if_pos (by omega)])
  have HOD := Lib.hid hoD
  have hxs := hbw4.size
  have HBW4 := Lib.hid hbw4
  clear hoS hgD hx kA kR hh hoD hbw4
  obtain ⟨a0, a1⟩ := kA4.two_
  have za := kA4.lt
  have zr4 := kR4.lt
  have hw := MW.start w4 (.slice S2 (segs.length - 1) c2)
  go_wp2_with fail
  generalize w4.alloc (.cells #[.slice S2 (segs.length - 1) c2, .slice none 0 0] 56) = w5 at *
  clear a0 a1 za
  have kA5 := kA4.below hw.bel
  obtain ⟨a0, a1⟩ := kA5.two_
  have za := kA5.lt
  clear kA5
  go_wp2_with fail
  go_loopw [46] (fun i wr => ∃ (q : Nat) (A : Option Addr) (dz : Nat) (zs : List AttE), q ≤ atts.length ∧ i = .int .i64 q ∧ Hid (attE zs = joinL k (atts.take q)) ∧ MW w4 wr (.slice S2 (segs.length - 1) c2) A dz zs) (fun i _ => atts.length - (intOf i).toNat)
  case atStart => exact ⟨0, none, 0, [], Nat.zero_le _, rfl, Lib.hid (by simp [attE, joinL]), hw⟩
  case round =>
    clear hw a0 a1 za
    obtain ⟨q, A, dz, zs, hq, rfl, HZ, hw⟩ := hrel
    obtain ⟨W, hW⟩ : ∃ W, W = wr := ⟨_, rfl⟩
    subst hW
    by_cases hlt : q < atts.length
    · obtain ⟨b, off, B, cB, rfl, hbs, c0, c1, hrB⟩ := (hh4.below hw.bel).att hlt
      have hsl := (HO.out.spl q hlt).len
      have hzl : zs.length ≤ 500 := by
        have h1 := congrArg List.length HZ.out
        have h2 := joinL_len k atts q
        rw [attE_len] at h1
        omega
      have HSO := Lib.hid (HO.out.spl q hlt)
      have HTN := Lib.hid (fun h => joinL_none (k := k) hlt h)
      have HTS := Lib.hid (fun (y : Att) h => joinL_some (k := k) hlt (y := y) h)
      generalize atts[q] = x at *
      obtain ⟨no, l⟩ := x
      dsimp only at *
      have kX : Blk (W.alloc (.cells #[.int .i64 no, .slice B l.length cB] 62)) W.heap.size 62 #[.int .i64 no, .slice B l.length cB] := Blk.new _ _ _
      have hrB := hrB.alloc (.cells #[.int .i64 no, .slice B l.length cB] 62)
      have hbx : Below W.heap.size W (W.alloc (.cells #[.int .i64 no, .slice B l.length cB] 62)) := (Below.refl _ _).alloc (Nat.le_refl _) _
      have hxz : (W.alloc (.cells #[.int .i64 no, .slice B l.length cB] 62)).heap.size = W.heap.size + 1 := by simp
      go_wp2_with fail
      refine (copyAttempt_any no B cB _ l _ hrB (by omega)).mono ?_
      rintro e w6 ⟨B', c5, rfl, hoB, hb6⟩
      have kX := kX.below hb6
      have hoB := own_weak hoB hbx.size
      have hbx := below_up hbx hb6
      clear c0 c1 hbs hrB hb6 hxz
      obtain ⟨x0, x1⟩ := kX.two_
      have xz := kX.lt
      have xf0 := kX.thaw 0
      have xf1 := kX.thaw 1
      have kX2 := (kX.poke 0 (.int .i64 no)).poke 1 (.slice B' l.length c5)
      have hoB2 := own_past (own_past hoB kX (by decide) 0 (.int .i64 no)) (kX.poke 0 (.int .i64 no)) (by decide) 1 (.slice B' l.length c5)
      have hbx2 := Below.setCell (Below.setCell hbx (p := ⟨W.heap.size, 0, none⟩) (by simp) (.int .i64 no)) (p := ⟨W.heap.size, 1, none⟩) (by simp) (.slice B' l.length c5)
      have kX2 : Blk ((w6.setCell ⟨W.heap.size, 0, none⟩ (.int .i64 no)).setCell ⟨W.heap.size, 1, none⟩ (.slice B' l.length c5)) W.heap.size 62 #[.int .i64 no, .slice B' l.length c5] := by simpa using kX2
      go_upto_region 14 with (fail)
      generalize (w6.setCell ⟨W.heap.size, 0, none⟩ (.int .i64 no)).setCell ⟨W.heap.size, 1, none⟩ (.slice B' l.length c5) = w7 at *
      clear x0 x1 xz xf0 xf1 kX hoB hbx
      obtain ⟨x0, x1⟩ := kX2.two_
      have xz := kX2.lt
      have xf1 := kX2.thaw 1
      by_cases hkl : k < l.length
      · have d5 : decide ((k : Int) < (l.length : Int)) = true := by simp; omega
        go_wp2_with fail
        refine (deleteI_any B' c5 _ k l _ hoB2 hkl).mono ?_
        rintro e w8 ⟨rfl, hoD, hgD⟩
        have kX3 := kX2.otherOf hgD (own_kindOf hoB2) (by decide)
        have hbx3 := hbx2.grown hgD hbx2.size (fun j hj => (hoB2.lt j hj).1)
        clear x0 x1 xz xf1 d5 hgD hoB2 hbx2 kX2
        obtain ⟨l', hl'⟩ : ∃ l', l' = l.eraseIdx k := ⟨_, rfl⟩
        have hle : l.length - 1 = l'.length := by rw [hl', List.length_eraseIdx, if_pos hkl]
        have HJ : Hid (joinA k (no, l) = if stripN l' l'.length = 0 then none else some (no, strip l')) := Lib.hid (by subst hl'; unfold joinA; rw [if_pos hkl])
        rw [← hl', hle] at hoD
        rw [hle]
        have hl9 : l'.length ≤ 60 := by omega
        have hcap := own_cap hoD
        clear hl' hle
        obtain ⟨x0, x1⟩ := kX3.two_
        have xz := kX3.lt
        have xf1 := kX3.thaw 1
        have kX4 := kX3.poke 1 (.slice B' l'.length c5)
        have kX4 : Blk (w8.setCell ⟨W.heap.size, 1, none⟩ (.slice B' l'.length c5)) W.heap.size 62 #[.int .i64 no, .slice B' l'.length c5] := by simpa using kX4
        have hoD4 := own_past hoD kX3 (by decide) 1 (.slice B' l'.length c5)
        have hbx4 := Below.setCell hbx3 (p := ⟨W.heap.size, 1, none⟩) (by simp) (.slice B' l'.length c5)
        go_upto_region 17 with (fail)
        generalize w8.setCell ⟨W.heap.size, 1, none⟩ (.slice B' l'.length c5) = w9 at *
        clear x0 x1 xz xf1 kX3 hoD hbx3
        obtain ⟨x0, x1⟩ := kX4.two_
        have xz := kX4.lt
        go_wp2_with fail
        clear x0 x1 xz
        go_loopw [12] (fun m wv => ∃ mm : Nat, m = .int .i64 mm ∧ mm ≤ l'.length ∧ Hid (stripN l' l'.length = stripN l' mm) ∧ Blk wv W.heap.size 62 #[.int .i64 no, .slice B' mm c5] ∧ wv.ownsRow W.heap.size 3 1 (.slice B' l'.length c5) l'.length (ints l') ∧ Below W.heap.size W wv) (fun m _ => (intOf m).toNat)
        case atStart => exact ⟨l'.length, rfl, Nat.le_refl _, Lib.hid rfl, kX4, hoD4, hbx4⟩
        case round =>
          clear kX4 hoD4 hbx4
          obtain ⟨mm, rfl, hmm, HS, kX4, hoD4, hbx4⟩ := hrel
          obtain ⟨x0, x1⟩ := kX4.two_
          have xz := kX4.lt
          have xf1 := kX4.thaw 1
          by_cases hm0 : 0 < mm
          · obtain ⟨m1, rfl⟩ : ∃ m1, mm = m1 + 1 := ⟨mm - 1, by omega⟩
            have hd0 : decide ((0 : Int) < ((m1 + 1 : Nat) : Int)) = true := by simp
            have wl : IntKind.i64.wrap (((m1 + 1 : Nat) : Int) - 1) = (m1 : Int) := by rw [IntWalk.i64_in _ (by omega)]; omega
            have hml : m1 < l'.length := by omega
            obtain ⟨gb, eB', hgb, hgb', hcb, _⟩ := ownBlk hoD4 (by omega)
            have cl := hcb m1 (.int .i64 l'[m1]) (by simp [ints, List.getElem?_eq_getElem hml])
            have HG : Hid (l'.getD m1 0 = l'[m1]) := Lib.hid (by rw [List.getD_eq_getElem?_getD, List.getElem?_eq_getElem hml]; rfl)
            have HZR := Lib.hid (fun h => stripN_zero (l := l') (m := m1 + 1) (by omega) h)
            have HST := Lib.hid (fun h => stripN_stop (l := l') (m := m1 + 1) (by omega) h)
            generalize l'[m1] = y at *
            clear hcb
            by_cases hy : y = 0
            · subst hy eB'
              have HS2 : Hid (stripN l' l'.length = stripN l' m1) := Lib.hid (by rw [HS.out]; exact HZR.out HG.out)
              have kX5 : Blk (wr.setCell ⟨W.heap.size, 1, none⟩ (.slice (some ⟨gb, 0, none⟩) m1 c5)) W.heap.size 62 #[.int .i64 no, .slice (some ⟨gb, 0, none⟩) m1 c5] := by simpa using kX4.poke 1 (.slice (some ⟨gb, 0, none⟩) m1 c5)
              have hoD5 := own_past hoD4 kX4 (by decide) 1 (.slice (some ⟨gb, 0, none⟩) m1 c5)
              have hbx5 := Below.setCell hbx4 (p := ⟨W.heap.size, 1, none⟩) (by simp) (.slice (some ⟨gb, 0, none⟩) m1 c5)
              clear HZR HST HG
              go_wp2_with fail
              go_roundw
              case rel => exact ⟨m1, rfl, by omega, HS2, kX5, hoD5, hbx5⟩
              case measure => simp [intOf]
            · have dy : (y == 0) = false := by simpa using hy
              have HSM : Hid (stripN l' l'.length = m1 + 1) := Lib.hid (by rw [HS.out]; exact HST.out (by rw [Nat.add_sub_cancel, HG.out]; exact hy))
              obtain ⟨ll, hll⟩ : ∃ ll, ll = l'.take (m1 + 1) := ⟨_, rfl⟩
              have hl2 : m1 + 1 = ll.length := by rw [hll, List.length_take]; omega
              have HJS : Hid (joinL k (atts.take (q + 1)) = joinL k (atts.take q) ++ [(no, ll)]) := Lib.hid (HTS.out _ (by rw [HJ.out, HSM.out, if_neg (by omega), hll]; unfold strip; rw [HSM.out]))
              have hoE := own_take hoD4 hmm
              rw [ints_take, ← hll] at hoE
              clear hll HSM HST HZR HG HS hy HTN HTS HJ hoD4
              have de : (((m1 + 1 : Nat) : Int) == 0) = false := by simp; omega
              have hl60 : m1 + 1 ≤ 60 := by omega
              have HL2 := Lib.hid hl2
              rw [hl2] at hoE
              clear hl2
              obtain rfl := eB'
              have hw8 := hw.below hbx4
              have hoF := own_weak hoE hw.size
              have hby : Blk (wr.alloc (.cells #[.int .i64 no, .slice (some ⟨gb, 0, none⟩) (m1 + 1) c5] 62)) wr.heap.size 62 #[.int .i64 no, .slice (some ⟨gb, 0, none⟩) (m1 + 1) c5] := Blk.new _ _ _
              have hw9 := hw8.alloc (.cells #[.int .i64 no, .slice (some ⟨gb, 0, none⟩) (m1 + 1) c5] 62)
              have hoF9 := own_keep hoF ((Below.refl wr.heap.size wr).alloc (Nat.le_refl _) (.cells #[.int .i64 no, .slice (some ⟨gb, 0, none⟩) (m1 + 1) c5] 62))
              obtain ⟨q0, q1⟩ := hw8.box.two_
              have qz := hw8.box.lt
              go_wp2_with (at_builtin; go_must (refine wpList_app (lo := 0) (base := w4.heap.size) (n := zs.length) (xs := zs.flatMap encE) _ _ rfl _ _ ty_atts rfl hw9.att.row rfl (Row.lit (n := 1) (size := 2) hby (Nat.zero_le _) rfl) rfl rfl (by omega) (by omega) hw9.size ?_))
              intro A5 d5' w5' hown5 hg5 _
              have hbx5 := hw9.box_app hg5
              have hw10 := hw9.push (x := ((no, ll), ((some ⟨gb, 0, none⟩), c5))) hg5 hoF9 (by have := hown5; rw [HL2.out] at this; exact this)
              clear q0 q1 qz hw8
              obtain ⟨q0, q1⟩ := hbx5.two_
              have qz := hbx5.lt
              have qf := hbx5.thaw 1
              go_wp2_with fail
              go_roundw
              case rel => exact ⟨q + 1, A5, d5', zs ++ [((no, ll), ((some ⟨gb, 0, none⟩), c5))], by omega, by go_num, Lib.hid (by rw [attE_app, HZ.out]; exact HJS.out.symm), hw10⟩
              case measure => simp [intOf]; omega
          · have hm00 : mm = 0 := by omega
            subst hm00
            have HJS : Hid (joinL k (atts.take (q + 1)) = joinL k (atts.take q)) := Lib.hid (HTN.out (by rw [HJ.out, HS.out]; rfl))
            clear HTN HTS HJ HS
            go_wp2_with fail
            go_roundw
            case rel => exact ⟨q + 1, A, dz, zs, by omega, by go_num, Lib.hid (by rw [HJS.out]; exact HZ.out), hw.below hbx4⟩
            case measure => simp [intOf]; omega
      · have d5 : decide ((k : Int) < (l.length : Int)) = false := by simp; omega
        have hlk : ¬ k < l.length := hkl
        have hj : joinA k (no, l) = some (no, l) := by unfold joinA; rw [if_neg hkl]
        have HJS := Lib.hid (HTS.out _ hj)
        clear hj HTN HTS hkl
        have hw8 := hw.below hbx2
        have hoF := own_weak hoB2 hw.size
        have hby : Blk (w7.alloc (.cells #[.int .i64 no, .slice B' l.length c5] 62)) w7.heap.size 62 #[.int .i64 no, .slice B' l.length c5] := Blk.new _ _ _
        have hw9 := hw8.alloc (.cells #[.int .i64 no, .slice B' l.length c5] 62)
        have hoF9 := own_keep hoF ((Below.refl w7.heap.size w7).alloc (Nat.le_refl _) (.cells #[.int .i64 no, .slice B' l.length c5] 62))
        obtain ⟨q0, q1⟩ := hw8.box.two_
        have qz := hw8.box.lt
        go_wp2_with (at_builtin; go_must (refine wpList_app (lo := 0) (base := w4.heap.size) (n := zs.length) (xs := zs.flatMap encE) _ _ rfl _ _ ty_atts rfl hw9.att.row rfl (Row.lit (n := 1) (size := 2) hby (Nat.zero_le _) rfl) rfl rfl (by omega) (by omega) hw9.size ?_))
        intro A5 d5' w5' hown5 hg5 _
        have hbx5 := hw9.box_app hg5
        have hw10 := hw9.push (x := ((no, l), (B', c5))) hg5 hoF9 hown5
        clear q0 q1 qz hw8
        obtain ⟨q0, q1⟩ := hbx5.two_
        have qz := hbx5.lt
        have qf := hbx5.thaw 1
        go_wp2_with fail
        go_roundw
        case rel => exact ⟨q + 1, A5, d5', zs ++ [((no, l), (B', c5))], by omega, by go_num, Lib.hid (by rw [attE_app, HZ.out]; exact HJS.out.symm), hw10⟩
        case measure => simp [intOf]; omega
    · have hkn : atts.take q = atts := List.take_of_length_le (by omega)
      rw [hkn] at HZ
      clear hkn
      have hke : q = atts.length := by omega
      subst hke
      obtain ⟨q0, q1⟩ := hw.box.two_
      have qz := hw.box.lt
      have kR9 := kR4.below hw.bel
      have hoS9 := own_keep HOD.out hw.bel
      have hx9 := below_up HBW4.out hw.bel
      obtain ⟨r0, r1⟩ := kR9.two_
      have rz := kR9.lt
      have rf0 := kR9.thaw 0
      have rf1 := kR9.thaw 1
      obtain ⟨z0, z1, z2⟩ := kR9.two2 (.slice S2 (segs.length - 1) c2) (.slice A zs.length dz)
      have p := grown_pokeOf W (w.heap.size + 1) 0 (.slice S2 (segs.length - 1) c2)
      have qq := grown_pokeOf (W.setCell ⟨w.heap.size + 1, 0, none⟩ (.slice S2 (segs.length - 1) c2)) (w.heap.size + 1) 1 (.slice A zs.length dz)
      have k1 := (kR9.poke 0 (.slice S2 (segs.length - 1) c2)).kindOf
      rw [← HEL.out] at hoS9 p qq k1 z0 z1 z2 hcD q0 ⊢
      have HO2 := Lib.hid (show OHist _ w.heap.size S2 c2 A dz (segs.eraseIdx k) zs from ⟨own_otherOf (own_otherOf hoS9 p kR9.kindOf (by decide)) qq k1 (by decide), ((hw.att.other p kR9.kindOf (by decide) (by decide)).other qq k1 (by decide) (by decide)).weak hxs⟩)
      have HBW := Lib.hid (Below.setCell (Below.setCell hx9 (p := ⟨w.heap.size + 1, 0, none⟩) (by simp) (.slice S2 (segs.eraseIdx k).length c2)) (p := ⟨w.heap.size + 1, 1, none⟩) (by simp) (.slice A zs.length dz))
      have HCD := Lib.hid hcD
      clear hw kR9 hoS9 hx9 p qq k1 hcD
      go_wp2_with fail
      refine bodyPost_ret (v := .tuple #[.agg #[.slice S2 (segs.eraseIdx k).length c2, .slice A zs.length dz], .int .i64 0]) (by simp [results, Tryz.results33, go_sem, z0, z1, z2]) rfl ?_
      exact ⟨S2, A, c2, dz, zs, rfl, HO2.out, HZ.out, HBW.out, HCD.out⟩
end Go.Proofs.YtggnccafmadacaaGreatDoor
/- The walk of R.JoinedOf at a right history and one of its segments, not the last. -/
namespace Go.Proofs.YtggnccafmadacaaGreatDoor
set_option linter.unusedVariables false
set_option linter.unusedSimpArgs false
open Go.RowKit Go.Sort

set_option maxHeartbeats 8000000 in
set_option maxRecDepth 100000 in
theorem JoinedOf_ok (SA TA : Option Addr) (c d lo k : Nat) (segs : List (List UInt8)) (atts : List Att) (w : World) (hh : Hist w lo SA TA segs atts) (hc : segs.length ≤ c) (hok : HistOk segs atts) (hk : k + 1 < segs.length) :
    Calls Tryz.prog 34 #[.agg #[.slice SA segs.length c, .slice TA atts.length d], encStr (segs[k]'(by omega))] w (JoinPost w (segs.eraseIdx k) (joinL k atts)) := by
  have n2 := hok.n2
  have n1 := hok.n1
  have m := hok.m
  have HO := Lib.hid hok
  have KEY : Hid (∀ s ∈ segs, s.length ≤ 40) := Lib.hid (fun s hs => by
    obtain ⟨i, hi, rfl⟩ := List.mem_iff_getElem.1 hs
    have := hok.key i hi
    unfold keyB at this
    simp only [Bool.and_eq_true, decide_eq_true_eq] at this
    omega)
  have HX := Lib.hid (fun (r : Int) (h : IdxS segs (segs[k]'(by omega)) r) => idx_nodup (new_nodup hok.new) (show k < segs.length by omega) h)
  clear hok
  obtain ⟨z, hz⟩ : ∃ z, z = segs[k]'(by omega) := ⟨_, rfl⟩
  rw [← hz] at HX ⊢
  clear hz
  have hI := Lib.hid (fun (W : World) (hr : Row W lo 1 SA segs.length (strs segs)) => (indexS_any SA c lo segs z W hr (by omega)))
  unfold encStr at hI ⊢
  have HHW := Lib.hid hh
  go_enter Tryz.func34, Tryz.ntmps34
  go_wp2_with fail
  have kA : Blk ((w.alloc (.cells #[.slice SA segs.length c, .slice TA atts.length d] 56)).alloc (.cells #[.slice none 0 0, .slice none 0 0] 56)) w.heap.size 56 #[.slice SA segs.length c, .slice TA atts.length d] := (Blk.new _ _ _).alloc _
  have kR : Blk ((w.alloc (.cells #[.slice SA segs.length c, .slice TA atts.length d] 56)).alloc (.cells #[.slice none 0 0, .slice none 0 0] 56)) (w.heap.size + 1) 56 #[.slice none 0 0, .slice none 0 0] := by
    have := Blk.new (w.alloc (.cells #[.slice SA segs.length c, .slice TA atts.length d] 56)) 56 #[.slice none 0 0, .slice none 0 0]
    simpa using this
  have hx : Below w.heap.size w ((w.alloc (.cells #[.slice SA segs.length c, .slice TA atts.length d] 56)).alloc (.cells #[.slice none 0 0, .slice none 0 0] 56)) := ((Below.refl _ _).alloc (Nat.le_refl _) _).alloc (by simp) _
  have hh := (hh.alloc (.cells #[.slice SA segs.length c, .slice TA atts.length d] 56)).alloc (.cells #[.slice none 0 0, .slice none 0 0] 56)
  generalize (w.alloc (.cells #[.slice SA segs.length c, .slice TA atts.length d] 56)).alloc (.cells #[.slice none 0 0, .slice none 0 0] 56) = w0 at *
  obtain ⟨a0, a1⟩ := kA.two_
  have za := kA.lt
  refine (hI.out _ hh.1).mono ?_
  rintro e w2 ⟨r, rfl, rfl, hr⟩
  have hr' := HX.out r hr
  subst hr'
  clear hr hI HX
  have e1 : decide ((k : Int) < 0) = false := by simp
  have wl : IntKind.i64.wrap ((segs.length : Int) - 1) = (segs.length : Int) - 1 := IntWalk.i64_in _ (by omega)
  have e2 : ((k : Int) == (segs.length : Int) - 1) = false := by simp; omega
  have wk : IntKind.i64.wrap ((k : Int) + 1) = (k : Int) + 1 := IntWalk.i64_in _ (by omega)
  go_wp2_with fail
  refine (cloneS_any SA c _ segs _ hh.1 (by omega)).mono ?_
  rintro e w3 ⟨S2, c2, rfl, hoS, hbs⟩
  have hh := hh.below hbs
  have kA := kA.below hbs
  have kR := kR.below hbs
  have hoS := own_weak hoS hx.size
  have hx := below_up hx hbs
  clear hbs a0 a1 za e1 e2 wl
  go_wp2_with fail
  refine (deleteS_any S2 c2 _ k segs _ hoS (by omega)).mono ?_
  rintro e w4 ⟨rfl, hoD, hgD⟩
  have hbw4 : Below w.heap.size w w4 := hx.grown hgD hx.size (fun j hj => (hoS.lt j hj).1)
  have hh4 := HHW.out.below hbw4
  have kA4 := kA.otherOf hgD (own_kindOf hoS) (by decide)
  have kR4 := kR.otherOf hgD (own_kindOf hoS) (by decide)
  have hcD := own_cap hoD
  have HEL : Hid ((segs.eraseIdx k).length = segs.length - 1) := Lib.hid (by rw [List.length_eraseIdx, if_pos (by omega)])
  have HOD := Lib.hid hoD
  have hxs := hbw4.size
  have HBW4 := Lib.hid hbw4
  clear hoS hgD hx kA kR hh hoD hbw4
  obtain ⟨a0, a1⟩ := kA4.two_
  have za := kA4.lt
  have zr4 := kR4.lt
  have hw := MW.start w4 (.slice S2 (segs.length - 1) c2)
  go_wp2_with fail
  generalize w4.alloc (.cells #[.slice S2 (segs.length - 1) c2, .slice none 0 0] 56) = w5 at *
  clear a0 a1 za
  have kA5 := kA4.below hw.bel
  obtain ⟨a0, a1⟩ := kA5.two_
  have za := kA5.lt
  clear kA5
  go_wp2_with fail
  go_loopw [38] (fun i wr => ∃ (q : Nat) (A : Option Addr) (dz : Nat) (zs : List AttE), q ≤ atts.length ∧ i = .int .i64 q ∧ Hid (attE zs = joinL k (atts.take q)) ∧ MW w4 wr (.slice S2 (segs.length - 1) c2) A dz zs) (fun i _ => atts.length - (intOf i).toNat)
  case atStart => exact ⟨0, none, 0, [], Nat.zero_le _, rfl, Lib.hid (by simp [attE, joinL]), hw⟩
  case round =>
    clear hw a0 a1 za
    obtain ⟨q, A, dz, zs, hq, rfl, HZ, hw⟩ := hrel
    obtain ⟨W, hW⟩ : ∃ W, W = wr := ⟨_, rfl⟩
    subst hW
    by_cases hlt : q < atts.length
    · obtain ⟨b, off, B, cB, rfl, hbs, c0, c1, hrB⟩ := (hh4.below hw.bel).att hlt
      have hsl := (HO.out.spl q hlt).len
      have hzl : zs.length ≤ 500 := by
        have h1 := congrArg List.length HZ.out
        have h2 := joinL_len k atts q
        rw [attE_len] at h1
        omega
      have HSO := Lib.hid (HO.out.spl q hlt)
      have HTN := Lib.hid (fun h => joinL_none (k := k) hlt h)
      have HTS := Lib.hid (fun (y : Att) h => joinL_some (k := k) hlt (y := y) h)
      generalize atts[q] = x at *
      obtain ⟨no, l⟩ := x
      dsimp only at *
      have kX : Blk (W.alloc (.cells #[.int .i64 no, .slice B l.length cB] 62)) W.heap.size 62 #[.int .i64 no, .slice B l.length cB] := Blk.new _ _ _
      have hrB := hrB.alloc (.cells #[.int .i64 no, .slice B l.length cB] 62)
      have hbx : Below W.heap.size W (W.alloc (.cells #[.int .i64 no, .slice B l.length cB] 62)) := (Below.refl _ _).alloc (Nat.le_refl _) _
      have hxz : (W.alloc (.cells #[.int .i64 no, .slice B l.length cB] 62)).heap.size = W.heap.size + 1 := by simp
      go_wp2_with fail
      refine (cloneI_any B cB _ l _ hrB (by omega)).mono ?_
      rintro e w6 ⟨B', c5, rfl, hoB, hb6⟩
      have kX2 := kX.below hb6
      have hoB2 := own_weak hoB hbx.size
      have hbx2 := below_up hbx hb6
      clear c0 c1 hbs hrB hb6 hxz kX hoB hbx
      obtain ⟨x0, x1⟩ := kX2.two_
      have xz := kX2.lt
      by_cases hkl : k < l.length
      · have d5 : decide ((k : Int) < (l.length : Int)) = true := by simp; omega
        go_wp2_with fail
        refine (deleteI_any B' c5 _ k l _ hoB2 hkl).mono ?_
        rintro e w8 ⟨rfl, hoD, hgD⟩
        have kX3 := kX2.otherOf hgD (own_kindOf hoB2) (by decide)
        have hbx3 := hbx2.grown hgD hbx2.size (fun j hj => (hoB2.lt j hj).1)
        clear x0 x1 xz d5 hgD hoB2 hbx2 kX2
        obtain ⟨l', hl'⟩ : ∃ l', l' = l.eraseIdx k := ⟨_, rfl⟩
        have hle : l.length - 1 = l'.length := by rw [hl', List.length_eraseIdx, if_pos hkl]
        have HJ : Hid (joinA k (no, l) = if stripN l' l'.length = 0 then none else some (no, strip l')) := Lib.hid (by subst hl'; unfold joinA; rw [if_pos hkl])
        rw [← hl', hle] at hoD
        rw [hle]
        have hl9 : l'.length ≤ 60 := by omega
        have hcap := own_cap hoD
        clear hl' hle
        go_wp2_with fail
        go_loopw [10] (fun m wv => ∃ mm : Nat, m = .slice B' mm c5 ∧ mm ≤ l'.length ∧ Hid (stripN l' l'.length = stripN l' mm) ∧ Blk wv W.heap.size 62 #[.int .i64 no, .slice B l.length cB] ∧ wv.ownsRow W.heap.size 3 1 (.slice B' l'.length c5) l'.length (ints l') ∧ Below W.heap.size W wv) (fun m _ => match m with | .slice _ n _ => n | _ => 0)
        case atStart => exact ⟨l'.length, rfl, Nat.le_refl _, Lib.hid rfl, kX3, hoD, hbx3⟩
        case round =>
          clear kX3 hoD hbx3
          obtain ⟨mm, rfl, hmm, HS, kX4, hoD4, hbx4⟩ := hrel
          obtain ⟨x0, x1⟩ := kX4.two_
          have xz := kX4.lt
          by_cases hm0 : 0 < mm
          · obtain ⟨m1, rfl⟩ : ∃ m1, mm = m1 + 1 := ⟨mm - 1, by omega⟩
            have hd0 : decide ((0 : Int) < ((m1 + 1 : Nat) : Int)) = true := by simp
            have wl : IntKind.i64.wrap (((m1 + 1 : Nat) : Int) - 1) = (m1 : Int) := by rw [IntWalk.i64_in _ (by omega)]; omega
            have hml : m1 < l'.length := by omega
            obtain ⟨gb, eB', hgb, hgb', hcb, _⟩ := ownBlk hoD4 (by omega)
            have cl := hcb m1 (.int .i64 l'[m1]) (by simp [ints, List.getElem?_eq_getElem hml])
            have HG : Hid (l'.getD m1 0 = l'[m1]) := Lib.hid (by rw [List.getD_eq_getElem?_getD, List.getElem?_eq_getElem hml]; rfl)
            have HZR := Lib.hid (fun h => stripN_zero (l := l') (m := m1 + 1) (by omega) h)
            have HST := Lib.hid (fun h => stripN_stop (l := l') (m := m1 + 1) (by omega) h)
            generalize l'[m1] = y at *
            clear hcb
            by_cases hy : y = 0
            · subst hy eB'
              have HS2 : Hid (stripN l' l'.length = stripN l' m1) := Lib.hid (by rw [HS.out]; exact HZR.out HG.out)
              clear HZR HST HG
              go_wp2_with fail
              go_roundw
              case rel => exact ⟨m1, rfl, by omega, HS2, kX4, hoD4, hbx4⟩
              case measure => simp
            · have dy : (y == 0) = false := by simpa using hy
              have HSM : Hid (stripN l' l'.length = m1 + 1) := Lib.hid (by rw [HS.out]; exact HST.out (by rw [Nat.add_sub_cancel, HG.out]; exact hy))
              obtain ⟨ll, hll⟩ : ∃ ll, ll = l'.take (m1 + 1) := ⟨_, rfl⟩
              have hl2 : m1 + 1 = ll.length := by rw [hll, List.length_take]; omega
              have HJS : Hid (joinL k (atts.take (q + 1)) = joinL k (atts.take q) ++ [(no, ll)]) := Lib.hid (HTS.out _ (by rw [HJ.out, HSM.out, if_neg (by omega), hll]; unfold strip; rw [HSM.out]))
              have hoE := own_take hoD4 hmm
              rw [ints_take, ← hll] at hoE
              clear hll HSM HST HZR HG HS hy HTN HTS HJ hoD4
              have de : (((m1 + 1 : Nat) : Int) == 0) = false := by simp; omega
              have hl60 : m1 + 1 ≤ 60 := by omega
              have HL2 := Lib.hid hl2
              rw [hl2] at hoE
              clear hl2
              obtain rfl := eB'
              have hw8 := hw.below hbx4
              have hoF := own_weak hoE hw.size
              have hby : Blk (wr.alloc (.cells #[.int .i64 no, .slice (some ⟨gb, 0, none⟩) (m1 + 1) c5] 62)) wr.heap.size 62 #[.int .i64 no, .slice (some ⟨gb, 0, none⟩) (m1 + 1) c5] := Blk.new _ _ _
              have hw9 := hw8.alloc (.cells #[.int .i64 no, .slice (some ⟨gb, 0, none⟩) (m1 + 1) c5] 62)
              have hoF9 := own_keep hoF ((Below.refl wr.heap.size wr).alloc (Nat.le_refl _) (.cells #[.int .i64 no, .slice (some ⟨gb, 0, none⟩) (m1 + 1) c5] 62))
              obtain ⟨q0, q1⟩ := hw8.box.two_
              have qz := hw8.box.lt
              go_wp2_with (at_builtin; go_must (refine wpList_app (lo := 0) (base := w4.heap.size) (n := zs.length) (xs := zs.flatMap encE) _ _ rfl _ _ ty_atts rfl hw9.att.row rfl (Row.lit (n := 1) (size := 2) hby (Nat.zero_le _) rfl) rfl rfl (by omega) (by omega) hw9.size ?_))
              intro A5 d5' w5' hown5 hg5 _
              have hbx5 := hw9.box_app hg5
              have hw10 := hw9.push (x := ((no, ll), ((some ⟨gb, 0, none⟩), c5))) hg5 hoF9 (by have := hown5; rw [HL2.out] at this; exact this)
              clear q0 q1 qz hw8
              obtain ⟨q0, q1⟩ := hbx5.two_
              have qz := hbx5.lt
              have qf := hbx5.thaw 1
              go_wp2_with fail
              go_roundw
              case rel => exact ⟨q + 1, A5, d5', zs ++ [((no, ll), ((some ⟨gb, 0, none⟩), c5))], by omega, by go_num, Lib.hid (by rw [attE_app, HZ.out]; exact HJS.out.symm), hw10⟩
              case measure => simp [intOf]; omega
          · have hm00 : mm = 0 := by omega
            subst hm00
            have HJS : Hid (joinL k (atts.take (q + 1)) = joinL k (atts.take q)) := Lib.hid (HTN.out (by rw [HJ.out, HS.out]; rfl))
            clear HTN HTS HJ HS
            go_wp2_with fail
            go_roundw
            case rel => exact ⟨q + 1, A, dz, zs, by omega, by go_num, Lib.hid (by rw [HJS.out]; exact HZ.out), hw.below hbx4⟩
            case measure => simp [intOf]; omega
      · have d5 : decide ((k : Int) < (l.length : Int)) = false := by simp; omega
        have hlk : ¬ k < l.length := hkl
        have hj : joinA k (no, l) = some (no, l) := by unfold joinA; rw [if_neg hkl]
        have HJS := Lib.hid (HTS.out _ hj)
        clear hj HTN HTS hkl
        have hw8 := hw.below hbx2
        have hoF := own_weak hoB2 hw.size
        have hby : Blk (w6.alloc (.cells #[.int .i64 no, .slice B' l.length c5] 62)) w6.heap.size 62 #[.int .i64 no, .slice B' l.length c5] := Blk.new _ _ _
        have hw9 := hw8.alloc (.cells #[.int .i64 no, .slice B' l.length c5] 62)
        have hoF9 := own_keep hoF ((Below.refl w6.heap.size w6).alloc (Nat.le_refl _) (.cells #[.int .i64 no, .slice B' l.length c5] 62))
        obtain ⟨q0, q1⟩ := hw8.box.two_
        have qz := hw8.box.lt
        go_wp2_with (at_builtin; go_must (refine wpList_app (lo := 0) (base := w4.heap.size) (n := zs.length) (xs := zs.flatMap encE) _ _ rfl _ _ ty_atts rfl hw9.att.row rfl (Row.lit (n := 1) (size := 2) hby (Nat.zero_le _) rfl) rfl rfl (by omega) (by omega) hw9.size ?_))
        intro A5 d5' w5' hown5 hg5 _
        have hbx5 := hw9.box_app hg5
        have hw10 := hw9.push (x := ((no, l), (B', c5))) hg5 hoF9 hown5
        clear q0 q1 qz hw8
        obtain ⟨q0, q1⟩ := hbx5.two_
        have qz := hbx5.lt
        have qf := hbx5.thaw 1
        go_wp2_with fail
        go_roundw
        case rel => exact ⟨q + 1, A5, d5', zs ++ [((no, l), (B', c5))], by omega, by go_num, Lib.hid (by rw [attE_app, HZ.out]; exact HJS.out.symm), hw10⟩
        case measure => simp [intOf]; omega
    · have hkn : atts.take q = atts := List.take_of_length_le (by omega)
      rw [hkn] at HZ
      clear hkn
      have hke : q = atts.length := by omega
      subst hke
      obtain ⟨q0, q1⟩ := hw.box.two_
      have qz := hw.box.lt
      have kR9 := kR4.below hw.bel
      have hoS9 := own_keep HOD.out hw.bel
      have hx9 := below_up HBW4.out hw.bel
      obtain ⟨r0, r1⟩ := kR9.two_
      have rz := kR9.lt
      have rf0 := kR9.thaw 0
      have rf1 := kR9.thaw 1
      obtain ⟨z0, z1, z2⟩ := kR9.two2 (.slice S2 (segs.length - 1) c2) (.slice A zs.length dz)
      have p := grown_pokeOf W (w.heap.size + 1) 0 (.slice S2 (segs.length - 1) c2)
      have qq := grown_pokeOf (W.setCell ⟨w.heap.size + 1, 0, none⟩ (.slice S2 (segs.length - 1) c2)) (w.heap.size + 1) 1 (.slice A zs.length dz)
      have k1 := (kR9.poke 0 (.slice S2 (segs.length - 1) c2)).kindOf
      rw [← HEL.out] at hoS9 p qq k1 z0 z1 z2 hcD q0 ⊢
      have HO2 := Lib.hid (show OHist _ w.heap.size S2 c2 A dz (segs.eraseIdx k) zs from ⟨own_otherOf (own_otherOf hoS9 p kR9.kindOf (by decide)) qq k1 (by decide), ((hw.att.other p kR9.kindOf (by decide) (by decide)).other qq k1 (by decide) (by decide)).weak hxs⟩)
      have HBW := Lib.hid (Below.setCell (Below.setCell hx9 (p := ⟨w.heap.size + 1, 0, none⟩) (by simp) (.slice S2 (segs.eraseIdx k).length c2)) (p := ⟨w.heap.size + 1, 1, none⟩) (by simp) (.slice A zs.length dz))
      have HCD := Lib.hid hcD
      clear hw kR9 hoS9 hx9 p qq k1 hcD
      go_wp2_with fail
      refine bodyPost_ret (v := .tuple #[.agg #[.slice S2 (segs.eraseIdx k).length c2, .slice A zs.length dz], .int .i64 0]) (by simp [results, Tryz.results34, go_sem, z0, z1, z2]) rfl ?_
      exact ⟨S2, A, c2, dz, zs, rfl, HO2.out, HZ.out, HBW.out, HCD.out⟩
end Go.Proofs.YtggnccafmadacaaGreatDoor
/- The walks of segment.Join and R.JoinedOf where there is nothing to join. -/
namespace Go.Proofs.YtggnccafmadacaaGreatDoor
set_option linter.unusedVariables false
set_option linter.unusedSimpArgs false
open Go.RowKit Go.Sort

set_option maxHeartbeats 8000000 in
set_option maxRecDepth 100000 in
theorem Join_bad (SA TA : Option Addr) (c d lo : Nat) (segs : List (List UInt8)) (atts : List Att) (z : List UInt8) (er : Int) (w : World) (hh : Hist w lo SA TA segs atts) (zA : HistSz segs atts c)
    (hbad : (histF segs atts ≠ 0 ∧ er = histF segs atts) ∨ (histF segs atts = 0 ∧ ∀ r, IdxS segs z r → (r = -1 ∧ er = 5) ∨ (0 ≤ (segs.length : Int) - 1 ∧ r = (segs.length : Int) - 1 ∧ er = 16))) :
    Calls Tryz.prog 33 #[.agg #[.slice SA segs.length c, .slice TA atts.length d], encStr z] w fun e w' => e = .returned (.tuple #[.agg #[.slice none 0 0, .slice none 0 0], .int .i64 er]) ∧ Below w.heap.size w w' := by
  have h9 := zA.h9
  have HX := Lib.hid hbad
  clear hbad
  obtain ⟨f, hf⟩ : ∃ x, histF segs atts = x := ⟨_, rfl⟩
  rw [hf] at HX
  have HF := Lib.hid hf
  clear hf
  have hI := Lib.hid (fun (W : World) (hr : Row W lo 1 SA segs.length (strs segs)) => (indexS_any SA c lo segs z W hr (by omega)))
  unfold encStr at hI ⊢
  go_enter Tryz.func33, Tryz.ntmps33
  go_wp2_with fail
  have kA : Blk ((w.alloc (.cells #[.slice SA segs.length c, .slice TA atts.length d] 56)).alloc (.cells #[.slice none 0 0, .slice none 0 0] 56)) w.heap.size 56 #[.slice SA segs.length c, .slice TA atts.length d] := (Blk.new _ _ _).alloc _
  have kR : Blk ((w.alloc (.cells #[.slice SA segs.length c, .slice TA atts.length d] 56)).alloc (.cells #[.slice none 0 0, .slice none 0 0] 56)) (w.heap.size + 1) 56 #[.slice none 0 0, .slice none 0 0] := by
    have := Blk.new (w.alloc (.cells #[.slice SA segs.length c, .slice TA atts.length d] 56)) 56 #[.slice none 0 0, .slice none 0 0]
    simpa using this
  have hx : Below w.heap.size w ((w.alloc (.cells #[.slice SA segs.length c, .slice TA atts.length d] 56)).alloc (.cells #[.slice none 0 0, .slice none 0 0] 56)) := ((Below.refl _ _).alloc (Nat.le_refl _) _).alloc (by simp) _
  have hh := (hh.alloc (.cells #[.slice SA segs.length c, .slice TA atts.length d] 56)).alloc (.cells #[.slice none 0 0, .slice none 0 0] 56)
  generalize (w.alloc (.cells #[.slice SA segs.length c, .slice TA atts.length d] 56)).alloc (.cells #[.slice none 0 0, .slice none 0 0] 56) = w0 at *
  have HFIN := Lib.hid (show ∀ (W : World), Below w.heap.size w W → Below w.heap.size w ((W.setCell ⟨w.heap.size + 1, 0, none⟩ (.slice none 0 0)).setCell ⟨w.heap.size + 1, 1, none⟩ (.slice none 0 0)) from fun W h => Below.setCell (Below.setCell h (p := ⟨w.heap.size + 1, 0, none⟩) (by simp) _) (p := ⟨w.heap.size + 1, 1, none⟩) (by simp) _)
  refine (checkHistory_any SA TA c d _ segs atts _ hh zA.hc zA.h9 zA.h8 zA.h7 zA.h6).mono ?_
  rintro e w1 ⟨rfl, hb1⟩
  have hh := hh.below hb1
  have kA := kA.below hb1
  have kR := kR.below hb1
  have hx := below_up hx hb1
  rw [HF.out]
  clear hb1
  by_cases he : f = 0
  · subst he
    replace HX := Lib.hid (show ∀ r, IdxS segs z r → (r = -1 ∧ er = 5) ∨ (0 ≤ (segs.length : Int) - 1 ∧ r = (segs.length : Int) - 1 ∧ er = 16) from (HX.out.resolve_left (fun h => h.1 rfl)).2)
    obtain ⟨a0, a1⟩ := kA.two_
    have za := kA.lt
    go_wp2_with fail
    refine (hI.out _ hh.1).mono ?_
    rintro e w2 ⟨r, rfl, rfl, hr⟩
    rcases HX.out r hr with ⟨rfl, rfl⟩ | ⟨h0, rfl, rfl⟩
    · clear hr hI HX a0 a1 za
      obtain ⟨r0, r1⟩ := kR.two_
      have rz := kR.lt
      have rf0 := kR.thaw 0
      have rf1 := kR.thaw 1
      obtain ⟨z0, z1, z2⟩ := kR.two2 (.slice none 0 0) (.slice none 0 0)
      go_wp2_with fail
      refine bodyPost_ret (v := .tuple #[.agg #[.slice none 0 0, .slice none 0 0], .int .i64 5]) (by simp [results, Tryz.results33, go_sem, z0, z1, z2]) rfl ?_
      exact ⟨rfl, HFIN.out _ hx⟩
    · have e1 : decide (((segs.length : Int) - 1) < 0) = false := by simp; omega
      have wl : IntKind.i64.wrap ((segs.length : Int) - 1) = (segs.length : Int) - 1 := IntWalk.i64_in _ (by omega)
      have e2 : ((segs.length : Int) - 1 == (segs.length : Int) - 1) = true := by simp
      clear hr hI HX
      obtain ⟨r0, r1⟩ := kR.two_
      have rz := kR.lt
      have rf0 := kR.thaw 0
      have rf1 := kR.thaw 1
      obtain ⟨z0, z1, z2⟩ := kR.two2 (.slice none 0 0) (.slice none 0 0)
      go_wp2_with fail
      refine bodyPost_ret (v := .tuple #[.agg #[.slice none 0 0, .slice none 0 0], .int .i64 16]) (by simp [results, Tryz.results33, go_sem, z0, z1, z2]) rfl ?_
      exact ⟨rfl, HFIN.out _ hx⟩
  · have dn : (f != 0) = true := by simpa using he
    obtain rfl : er = f := by rcases HX.out with h | h; exact h.2; exact absurd h.1 he
    clear he
    obtain ⟨r0, r1⟩ := kR.two_
    have rz := kR.lt
    have rf0 := kR.thaw 0
    have rf1 := kR.thaw 1
    obtain ⟨z0, z1, z2⟩ := kR.two2 (.slice none 0 0) (.slice none 0 0)
    go_wp2_with fail
    refine bodyPost_ret (v := .tuple #[.agg #[.slice none 0 0, .slice none 0 0], .int .i64 er]) (by simp [results, Tryz.results33, go_sem, z0, z1, z2]) rfl ?_
    exact ⟨rfl, HFIN.out _ hx⟩
set_option maxHeartbeats 8000000 in
set_option maxRecDepth 100000 in
theorem JoinedOf_bad (SA TA : Option Addr) (c d lo : Nat) (segs : List (List UInt8)) (atts : List Att) (z : List UInt8) (er : Int) (w : World) (hh : Hist w lo SA TA segs atts) (zA : HistSz segs atts c)
    (hbad : ∀ r, IdxS segs z r → (r = -1 ∧ er = 5) ∨ (0 ≤ (segs.length : Int) - 1 ∧ r = (segs.length : Int) - 1 ∧ er = 16)) :
    Calls Tryz.prog 34 #[.agg #[.slice SA segs.length c, .slice TA atts.length d], encStr z] w fun e w' => e = .returned (.tuple #[.agg #[.slice none 0 0, .slice none 0 0], .int .i64 er]) ∧ Below w.heap.size w w' := by
  have h9 := zA.h9
  have HX := Lib.hid hbad
  clear hbad
  have hI := Lib.hid (fun (W : World) (hr : Row W lo 1 SA segs.length (strs segs)) => (indexS_any SA c lo segs z W hr (by omega)))
  unfold encStr at hI ⊢
  go_enter Tryz.func34, Tryz.ntmps34
  go_wp2_with fail
  have kA : Blk ((w.alloc (.cells #[.slice SA segs.length c, .slice TA atts.length d] 56)).alloc (.cells #[.slice none 0 0, .slice none 0 0] 56)) w.heap.size 56 #[.slice SA segs.length c, .slice TA atts.length d] := (Blk.new _ _ _).alloc _
  have kR : Blk ((w.alloc (.cells #[.slice SA segs.length c, .slice TA atts.length d] 56)).alloc (.cells #[.slice none 0 0, .slice none 0 0] 56)) (w.heap.size + 1) 56 #[.slice none 0 0, .slice none 0 0] := by
    have := Blk.new (w.alloc (.cells #[.slice SA segs.length c, .slice TA atts.length d] 56)) 56 #[.slice none 0 0, .slice none 0 0]
    simpa using this
  have hx : Below w.heap.size w ((w.alloc (.cells #[.slice SA segs.length c, .slice TA atts.length d] 56)).alloc (.cells #[.slice none 0 0, .slice none 0 0] 56)) := ((Below.refl _ _).alloc (Nat.le_refl _) _).alloc (by simp) _
  have hh := (hh.alloc (.cells #[.slice SA segs.length c, .slice TA atts.length d] 56)).alloc (.cells #[.slice none 0 0, .slice none 0 0] 56)
  generalize (w.alloc (.cells #[.slice SA segs.length c, .slice TA atts.length d] 56)).alloc (.cells #[.slice none 0 0, .slice none 0 0] 56) = w0 at *
  have HFIN := Lib.hid (show ∀ (W : World), Below w.heap.size w W → Below w.heap.size w ((W.setCell ⟨w.heap.size + 1, 0, none⟩ (.slice none 0 0)).setCell ⟨w.heap.size + 1, 1, none⟩ (.slice none 0 0)) from fun W h => Below.setCell (Below.setCell h (p := ⟨w.heap.size + 1, 0, none⟩) (by simp) _) (p := ⟨w.heap.size + 1, 1, none⟩) (by simp) _)
  obtain ⟨a0, a1⟩ := kA.two_
  have za := kA.lt
  refine (hI.out _ hh.1).mono ?_
  rintro e w2 ⟨r, rfl, rfl, hr⟩
  rcases HX.out r hr with ⟨rfl, rfl⟩ | ⟨h0, rfl, rfl⟩
  · clear hr hI HX a0 a1 za
    obtain ⟨r0, r1⟩ := kR.two_
    have rz := kR.lt
    have rf0 := kR.thaw 0
    have rf1 := kR.thaw 1
    obtain ⟨z0, z1, z2⟩ := kR.two2 (.slice none 0 0) (.slice none 0 0)
    go_wp2_with fail
    refine bodyPost_ret (v := .tuple #[.agg #[.slice none 0 0, .slice none 0 0], .int .i64 5]) (by simp [results, Tryz.results34, go_sem, z0, z1, z2]) rfl ?_
    exact ⟨rfl, HFIN.out _ hx⟩
  · have e1 : decide (((segs.length : Int) - 1) < 0) = false := by simp; omega
    have wl : IntKind.i64.wrap ((segs.length : Int) - 1) = (segs.length : Int) - 1 := IntWalk.i64_in _ (by omega)
    have e2 : ((segs.length : Int) - 1 == (segs.length : Int) - 1) = true := by simp
    clear hr hI HX
    obtain ⟨r0, r1⟩ := kR.two_
    have rz := kR.lt
    have rf0 := kR.thaw 0
    have rf1 := kR.thaw 1
    obtain ⟨z0, z1, z2⟩ := kR.two2 (.slice none 0 0) (.slice none 0 0)
    go_wp2_with fail
    refine bodyPost_ret (v := .tuple #[.agg #[.slice none 0 0, .slice none 0 0], .int .i64 16]) (by simp [results, Tryz.results34, go_sem, z0, z1, z2]) rfl ?_
    exact ⟨rfl, HFIN.out _ hx⟩
end Go.Proofs.YtggnccafmadacaaGreatDoor
